import Derived.Laws.Cells
import Derived.Laws.Entries
import Derived.ChangeKeysEq
import Derived.Laws.BytesString
import Derived.Laws.MakeOwn
import Derived.WideLaws
import Derived.MapKept
import Derived.Laws.AppendOwn
import Derived.RangeFuncRecord
import Derived.Test.YtkpneibifdoecaaGreatU01
open List renaming replicate→Vc,length_append→Vd,length_cons→Vf,length_nil→Vg,length_set→Vj,getD_eq_getElem?_getD→Vr,getElem?_eq_none→Vw,getElem?_map→VC,all_eq_true→VP,mem_of_getElem? →VQ,getElem?_cons_succ→V8,append_nil→Wb,getElem?_cons_zero→Wd,getElem?_append→Wh,getElem?_set_ne→Wi,drop_zero→Wu,getElem?_set_self→Wx,getElem?_take→WJ
open Bool renaming and_eq_true→Vi,false_eq_true→V5
open Option.some renaming inj→Vk,injEq→Vs
open Nat renaming le_refl→Vq,lt_or_ge→VA,beq_eq→VJ,zero_add→VT,mul_le_mul_right→V7,ble_eq→Wg,add_mul→Wm,le_trans→Wo,blt_eq→Wp,blt→Wq,add_zero→WI,mul_one→WK
open Go.Result renaming andThen_ok→Vv
open Go.Op renaming operands→Vx
open Option renaming map_eq_some_iff→Vz,getD_some→V9,map_some→Wv
open Go.Sem renaming run_bind→VD,run_pure→VK
open Array renaming getElem?_toList→VE,getD_eq_getD_getElem? →VR,getElem?_eq_none→VV,getElem?_append_left→V0,length_toList→V2,getElem?_setIfInBounds_ne→V4,size_append→Wj,eq_empty_of_size_eq_zero→Wy,toList_modify→WA
open Go.Instr renaming sliceBounds→VU,findKey→We,sameBits→WH
open Go.Builtin renaming firstCells→VW,append_→V1,zeroCells→WB
open Go.World renaming cell? →Wl
open Go.MapKept renaming run_setObj_map→Ww
open Go.Call renaming operands→WM
open Go renaming IntKind→WO
/- Contracts and plain laws that a statement's proof leans on (texts merged:EvK). -/
set_option linter.unusedVariables false
set_option linter.unusedSimpArgs false
namespace Go.Ev
open Go Go.RowKit
section
variable {P:Program} {w:World}
theorem Bc {t:TypeId} (h:known P t=true):∃i,P.info? t=some i:=by
 unfold known at h;exact Option.isSome_iff_exists.1 h
theorem ck {t:TypeId} (h:known P t=true) (w:World):(sizeOf t).run P w= .ok (P.cellsOf t) w:=by
 obtain ⟨i,hi⟩:=Bc h
 simp [sizeOf,typeInfo,hi,Program.cellsOf]
theorem jg {t:TypeId} {d:TypeDesc} (h:P.underlying t=some d):known P t=true:=by
 unfold known
 unfold Program.underlying at h
 cases e:P.info? t with
 |none=>simp [e] at h
 |some i=>rfl
theorem kJ {t:TypeId} {d:TypeDesc} (h:P.underlying t=some d) (w:World):(isAgg t).run P w= .ok (cF d) w:=by
 cases d<;>simp [isAgg,run_underlying h,cF]
theorem dp {t:TypeId} {i:TypeInfo} {v:Value} (hi:P.info? t=some i) (hz:i.zero=some v) (w:World):(zeroValue t).run P w= .ok v w:=by
 simp [zeroValue,typeInfo,hi,hz]
theorem ek (b off n:Nat):(Addr.mk b off none).add n=⟨b,off+n,none⟩:=by
 unfold Addr.add
 split
 ·rename_i h;subst h;simp
 ·rfl
theorem gk (b off:Nat) (vs:Array Value) (h:∀j v,vs[j]? =some v→w.cell? ⟨b,off+j,none⟩=some v):
  (loadCells ⟨b,off,none⟩ vs.size).run P w= .ok vs w:=by
 have:=run_loadCells_list (P:=P) (w:=w) ⟨b,off,none⟩ vs.toList (fun j v hj=>by rw [ek];exact h j v (by simpa using hj))
 simpa using this
def cQ (vs:Array Value) (off:Nat):List Value→Array Value
  | []=>vs
  |x::r=>cQ (vs.setIfInBounds off x) (off+1) r
theorem cX (l:List Value):∀(vs:Array Value) (off:Nat),(cQ vs off l).size=vs.size:=by
 induction l with
 |nil=>intro vs off;rfl
 |cons x r ih=>intro vs off;simp [cQ,ih]
theorem eK (l:List Value):∀(vs:Array Value) (off k:Nat),off+l.length≤vs.size→
  (cQ vs off l)[k]? =if off≤k∧k<off+l.length then l[k - off]? else vs[k]? :=by
 induction l with
 |nil=>intro vs off k _;rw [cQ,if_neg (by intro h;have h1:=h.1;have h2:k<off+0:=h.2;omega)]
 |cons x r ih=>
  intro vs off k h
  simp only [Vf] at h
  rw [cQ,ih _ _ _ (by simp;omega)]
  by_cases h1:off+1≤k∧k<off+1+r.length
  ·rw [if_pos h1,if_pos ⟨by omega,by simp;omega⟩]
   rw [show k - off=(k - (off+1))+1 by omega,V8]
  ·rw [if_neg h1]
   by_cases h2:k=off
   ·subst h2
    rw [if_pos ⟨by omega,by simp⟩]
    simp [show k<vs.size by omega]
   ·rw [if_neg (by simp;omega),V4 (Ne.symm h2)]
theorem pl {w:World} {b:Nat} {o p:Obj} :bh (bh w b o) b p=bh w b p:=by
 unfold bh
 simp
theorem qv {w:World} {b o:Nat} {v:Value} {vs:Array Value} {ty:TypeId} {fz:Nat×Nat} (h:w.heap[b]? =some (.cells vs ty fz)):
  w.setCell ⟨b,o,none⟩ v=bh w b (.cells (vs.setIfInBounds o v) ty fz):=by
 have hb:=dI h
 have he:w.heap[b]= .cells vs ty fz:=by simpa [Array.getElem?_eq_getElem hb] using h
 unfold World.setCell bh
 congr 1
 apply Array.ext_getElem?
 intro k
 rw [Array.getElem?_modify]
 by_cases e:b=k
 ·subst e
  rw [if_pos rfl,h]
  simp [hb]
 ·rw [if_neg e,V4 e]
theorem dZ {b off:Nat} {ty:TypeId} {fz:Nat×Nat} (l:List Value):∀(i:Nat) (w:World) (vs:Array Value),w.heap[b]? =some (.cells vs ty fz)→(∀v∈l,v.oneCell'=true)→
  off+i+l.length≤vs.size→ka fz vs.size→(storeCells ⟨b,off,none⟩ l i).run P w= .ok () (bh w b (.cells (cQ vs (off+i) l) ty fz)):=by
 induction l with
 |nil=>
  intro i w vs h _ _ _
  simp only [storeCells,VK,cQ]
  have hb:=dI h
  have he:w.heap.setIfInBounds b (.cells vs ty fz)=w.heap:=by
   apply Array.ext_getElem?
   intro k
   by_cases e:b=k
   ·subst e;rw [h];simp [hb]
   ·rw [V4 e]
  unfold bh
  rw [he]
 |cons x r ih=>
  intro i w vs h PL hlen Sr
  simp only [Vf] at hlen
  have OK:off+i<vs.size:=by omega
  have Pu:w.cell? ⟨b,off+i,none⟩=some vs[off+i]:=by simp [Wl,h,OK]
  have QK:w.frozen? ⟨b,off+i,none⟩=false:=by
   have:=Sr _ OK
   simp only [World.frozen?,h]
   simpa using this
  simp only [storeCells,VD,ek]
  rw [run_store _ _ _ _ _ (PL x (by simp)),Pu]
  simp only [QK,V5,if_false,Vv]
  rw [qv h]
  rw [ih (i+1) _ (vs.setIfInBounds (off+i) x) (dy h) (fun v hv=>PL v (by simp [hv])) (by simp;omega) (by simpa using Sr)]
  rw [pl]
  simp [cQ,Nat.add_assoc]
theorem mh {t:TypeId} {d:TypeDesc} (h:P.underlying t=some d) (ha:cF d=false) {cs:Array Value} {off:Nat} {v:Value} (hv:cs[off]? =some v) (w:World):(part t cs off).run P w= .ok v w:=by
 simp [part,kJ h,ha,hv]
theorem mi {t:TypeId} {d:TypeDesc} (h:P.underlying t=some d) (ha:cF d=true) (cs:Array Value) (off:Nat) (w:World):(part t cs off).run P w= .ok (.agg (cs.extract off (off+P.cellsOf t))) w:=by
 simp [part,kJ h,ha,ck (jg h)]
theorem oj {t:TypeId} {d:TypeDesc} (h:P.underlying t=some d) (ha:cF d=false) {a:Addr} {v:Value} (hv:w.cell? a=some v):(loadVar t a).run P w= .ok v w:=by
 simp [loadVar,kJ h,ha,hv]
theorem om {t:TypeId} {d:TypeDesc} (h:P.underlying t=some d) (ha:cF d=true) {b off:Nat} (vs:Array Value) (hs:vs.size=P.cellsOf t)
  (hv:∀j v,vs[j]? =some v→w.cell? ⟨b,off+j,none⟩=some v):(loadVar t ⟨b,off,none⟩).run P w= .ok (.agg vs) w:=by
 simp [loadVar,kJ h,ha,ck (jg h),← hs,gk b off vs hv]
end
theorem bT.get {M:MM} {cs:List D} {vs:Array Value} (h:bT M cs vs) {i:Nat} {d:D} (hd:cs[i]? =some d):∃v,vs[i]? =some v∧bo M d v:=by
 have hi:i<vs.size:=by
  rw [← h.1]
  rcases VA i cs.length with x|x
  ·exact x
  ·simp [Vw x] at hd
 exact ⟨vs[i],by simp [hi],h.2 i d vs[i] hd (by simp [hi])⟩
theorem bT.sub {M:MM} {cs:List D} {vs:Array Value} (h:bT M cs vs) (off n:Nat) (hn:off+n≤cs.length):bT M ((cs.drop off).take n) (vs.extract off (off+n)):=by
 have hs:=h.1
 refine ⟨by simp;omega,fun i d v a b=> ?_⟩
 rw [WJ] at a
 split at a
 ·rename_i hi
  rw [List.getElem?_drop] at a
  rw [Array.getElem?_extract] at b
  split at b
  ·exact h.2 _ d v a b
  ·cases b
 ·cases a
theorem sH {M:MM} {v:Value} {d:D} (h:qQ v=some d):bo M d v:=by
 unfold qQ at h
 split at h<;>simp only [Vs,reduceCtorEq] at h<;>subst h
 ·exact .bool _
 ·exact .int _ _
 ·exact .str _
 ·exact .fL
 ·exact .aj 0 0 (fun _ _=> .nilFunc) rfl (Vq _) (fun h=>absurd rfl h) (fun i x h=>by simp at h) (fun i x cs j c h=>by simp at h) (fun i x cs j c h=>by simp at h) (fun i x cs c h=>by simp at h) rfl
 ·exact .av
theorem mm {M:MM} :∀ {vs:List Value} {l:List D},gz vs=some l→l.length=vs.length∧∀(i:Nat) (d:D) (v:Value),l[i]? =some d→vs[i]? =some v→bo M d v
 | [],l,h=>by
  simp only [gz,Vs] at h;subst h;exact ⟨rfl,fun i d v a=>by simp at a⟩
 |v::r,l,h=>by
  unfold gz at h
  split at h
  ·rename_i d l' hd hl
   simp only [Vs] at h
   subst h
   obtain ⟨h1,h2⟩:=mm (M:=M) hl
   refine ⟨by simp [h1],fun i d' v' a b=> ?_⟩
   cases i with
   |zero=>simp at a b;subst a b;exact sH hd
   |succ i=>exact h2 i d' v' (by simpa using a) (by simpa using b)
  ·cases h
theorem zu {M:MM} :∀(vs:List Value),(ua vs).length=vs.length∧∀(i:Nat) (d:D) (v:Value),(ua vs)[i]? =some d→vs[i]? =some v→bo M d v
 | []=>⟨rfl,fun i d v a=>by simp [ua] at a⟩
 |v::r=>by
  obtain ⟨h1,h2⟩:=zu (M:=M) r
  refine ⟨by simp [ua,h1],fun i d' v' a b=> ?_⟩
  cases i with
  |zero=>
   simp only [ua,Wd,Vs] at a b
   subst a b
   split
   ·rename_i d hd;exact sH hd
   ·exact .undef _
  |succ i=>exact h2 i d' v' (by simpa [ua] using a) (by simpa using b)
theorem eR {M:MM} (v:Value):bo M (mb v) v:=by
 unfold mb
 split
 ·rename_i cs
  obtain ⟨h1,h2⟩:=zu (M:=M) cs.toList
  exact .agg (by simpa using h1) (fun i d v a b=>h2 i d v a (by simpa using b))
 ·split
  ·rename_i d hd;exact sH hd
  ·exact .undef _
theorem mj {M:MM} {t:List D} {a:Act} (h:bT M t a.tmps) (x:Operand):bo M (bB t x) (a.eval x):=by
 cases x with
 |tmp i=>
  show bo M (t.getD i .undef) (a.tmps.getD i undef)
  cases e:t[i]? with
  |none=>rw [Vr,e];exact .undef _
  |some d=>
   obtain ⟨v,hv,hr⟩:=h.get e
   rw [Vr,e,VR,hv]
   exact hr
 |const v=>exact eR v
 |global g=>exact .undef _
 |func f=>exact .fn (M:=M) (first:= []) (cap:= []) rfl rfl (fun i d v a=>by simp at a) (fun i d v a=>by simp at a)
theorem jz {M:MM} {d:D} {v:Value} (h:bo M d v) (hs:storable d=true):v.oneCell'=true:=by
 cases h<;>first|rfl|(simp [storable] at hs)
theorem o6 {cs xs:List D} {off k:Nat} (h:off+xs.length≤cs.length):(gC cs off xs)[k]? =if off≤k∧k<off+xs.length then xs[k - off]? else cs[k]? :=by
 unfold gC
 rw [Wh]
 simp only [List.length_take,show min off cs.length=off by omega]
 by_cases h1:k<off
 ·rw [if_pos h1,if_neg (by omega),WJ,if_pos h1]
 ·rw [if_neg h1,Wh]
  by_cases h2:k - off<xs.length
  ·rw [if_pos h2,if_pos ⟨by omega,by omega⟩]
  ·rw [if_neg h2,if_neg (by omega),List.getElem?_drop]
   congr 1
   omega
theorem oZ {cs xs:List D} {off:Nat} (h:off+xs.length≤cs.length):(gC cs off xs).length=cs.length:=by
 unfold gC
 simp
 omega
theorem uI {M:MM} {cs xs:List D} {vs ws:Array Value} {off:Nat} (h:bT M cs vs) (k:bT M xs ws) (hl:off+xs.length≤cs.length):bT M (gC cs off xs) (cQ vs off ws.toList):=by
 refine ⟨by rw [oZ hl,cX,h.1],fun i d v a b=> ?_⟩
 have hs:off+ws.toList.length≤vs.size:=by rw [← h.1,V2,← k.1];exact hl
 rw [o6 hl] at a
 rw [eK _ _ _ _ hs] at b
 have:ws.toList.length=xs.length:=by rw [V2,← k.1]
 rw [this] at b
 split at a
 ·rename_i hc
  rw [if_pos hc] at b
  exact k.2 _ d v a (by simpa using b)
 ·rename_i hc
  rw [if_neg hc] at b
  exact h.2 _ d v a b
theorem kM {M:MM} {cs:List D} {vs:Array Value} (hl:cs.length≤vs.size) (h:∀(i:Nat) (d:D) (v:Value),cs[i]? =some d→vs[i]? =some v→bo M d v) {i:Nat} {d:D} (hd:cs[i]? =some d):∃v,vs[i]? =some v∧bo M d v:=by
 have hi:i<vs.size:=by
  rcases VA i cs.length with x|x
  ·omega
  ·simp [Vw x] at hd
 exact ⟨vs[i],by simp [hi],h i d vs[i] hd (by simp [hi])⟩
theorem mn {M:MM} {cs xs:List D} {vs ws:Array Value} {off:Nat} (h0:cs.length≤vs.size) (h:∀(i:Nat) (d:D) (v:Value),cs[i]? =some d→vs[i]? =some v→bo M d v) (k:bT M xs ws) (hl:off+xs.length≤cs.length):
  (gC cs off xs).length≤(cQ vs off ws.toList).size∧∀(i:Nat) (d:D) (v:Value),(gC cs off xs)[i]? =some d→(cQ vs off ws.toList)[i]? =some v→bo M d v:=by
 refine ⟨by rw [oZ hl,cX];exact h0,fun i d v a b=> ?_⟩
 have hs:off+ws.toList.length≤vs.size:=by rw [V2,← k.1];omega
 rw [o6 hl] at a
 rw [eK _ _ _ _ hs] at b
 have:ws.toList.length=xs.length:=by rw [V2,← k.1]
 rw [this] at b
 split at a
 ·rename_i hc
  rw [if_pos hc] at b
  exact k.2 _ d v a (by simpa using b)
 ·rename_i hc
  rw [if_neg hc] at b
  exact h _ d v a b
section
variable {ρ:Type} {P:Program} {r:ρ}
theorem bg {b:Bool} {k:Option ρ} (h:fU b k=some r):b=true∧k=some r:=by
 cases b
 ·cases h
 ·exact ⟨rfl,h⟩
theorem cN {z:Z P} {b:Bool} {k:Z P→Option ρ} (h:ask z b k=some r):∃z',k z'=some r∧(z'.c→z.c∧b=true):=by
 unfold ask at h
 split at h
 ·rename_i q hq rest _
  exact ⟨_,h,fun c=>⟨c.2,c.1▸hq⟩⟩
 ·cases h
theorem rA {z:Z P} {ys:List D} {k:Z P→List D→Option ρ} (h:z8 z ys k=some r):∃z' nc,k z' nc=some r∧(z'.c→z.c∧eU ys=some nc):=by
 unfold z8 at h
 split at h
 ·rename_i S7 nc hq rest _
  exact ⟨_,nc,h,fun c=>⟨c.2,c.1▸hq⟩⟩
 ·split at h
  ·rename_i nc hq
   exact ⟨_,nc,h,fun c=>⟨c,hq⟩⟩
  ·cases h
theorem BP {z:Z P} {ys:List D} {k:Z P→List D→Option ρ} (h:D7 z ys k=some r):∃z' nc,k z' nc=some r∧(z'.c→z.c∧eU ys=some nc∧ys≠ []):=by
 unfold D7 at h
 split at h
 ·rename_i S7 nc hq rest _
  obtain ⟨z',h,hz⟩:=cN h
  refine ⟨z',nc,h,fun c=> ?_⟩
  obtain ⟨⟨e,c0⟩,hb⟩:=hz c
  refine ⟨c0,e▸hq,fun e0=> ?_⟩
  rw [e0] at hb
  cases hb
 ·split at h
  ·rename_i nc hq
   obtain ⟨hb,h⟩:=bg h
   refine ⟨_,nc,h,fun c=>⟨c,hq,fun e0=> ?_⟩⟩
   rw [e0] at hb
   cases hb
  ·cases h
theorem fu {z:Z P} {st b:Bool} {k:Z P→Option ρ} (h:kC z st b k=some r):∃z',k z'=some r∧(z'.c→z.c∧b=true):=by
 unfold kC at h
 split at h
 ·obtain ⟨h1,h2⟩:=bg h
  exact ⟨z,h2,fun c=>⟨c,h1⟩⟩
 ·exact cN h
theorem fV {z:Z P} {n m:Nat} {k:Z P→Option ρ} (h:jS z n m k=some r):∃z',k z'=some r∧(z'.c→z.c∧n≤m):=by
 unfold jS at h
 split at h
 ·rename_i n' m' hn rest _
  exact ⟨_,h,fun c=>⟨c.2,c.1.1▸c.1.2▸hn⟩⟩
 ·cases h
theorem iD {z:Z P} {b:Bool} {k1 k2:Z P→Option ρ} (h:branch z b k1 k2=some r):
  ∃z',(k1 z'=some r∧(z'.c→z.c∧b=true))∨(k2 z'=some r∧(z'.c→z.c∧b=false)):=by
 unfold branch at h
 split at h
 ·rename_i q v hq rest _
  cases v
  ·exact ⟨_,.inr ⟨h,fun c=>⟨c.2,c.1▸hq⟩⟩⟩
  ·exact ⟨_,.inl ⟨h,fun c=>⟨c.2,c.1▸hq⟩⟩⟩
 ·cases h
theorem po {z:Z P} {l:List D} {i:Nat} {k:Z P→D→Option ρ} (h:pick z l i k=some r):∃z' d,k z' d=some r∧(z'.c→z.c∧l[i]? =some d):=by
 unfold pick at h
 split at h
 ·rename_i l' i' d hg rest _
  exact ⟨_,d,h,fun c=>⟨c.2,c.1.1▸c.1.2▸hg⟩⟩
 ·split at h
  ·rename_i d hg
   exact ⟨_,d,h,fun c=>⟨c,hg⟩⟩
  ·cases h
theorem re {z:Z P} {es:List (Int×D)} {n:Int} {k:Z P→Option D→Option ρ} (h:zS z es n k=some r):∃z' d,k z' d=some r∧(z'.c→z.c∧dR es n=d):=by
 unfold zS at h
 split at h
 ·rename_i QL n' d hg rest _
  exact ⟨_,d,h,fun c=>⟨c.2,c.1.1▸c.1.2▸hg⟩⟩
 ·cases h
theorem pA {z:Z P} {es:List (List D×D)} {n:List D} {k:Z P→Option D→Option ρ} (h:sV z es n k=some r):∃z' d,k z' d=some r∧(z'.c→z.c∧hB es n=d):=by
 unfold sV at h
 split at h
 ·rename_i QL n' d hg rest _
  exact ⟨_,d,h,fun c=>⟨c.2,c.1.1▸c.1.2▸hg⟩⟩
 ·cases h
theorem kT {z:Z P} {t:TypeId} {k:Z P→List LK→Option ρ} (h:qX z t k=some r):∃z' ks,k z' ks=some r∧(z'.c→z.c)∧ia P t ks:=by
 unfold qX at h
 split at h
 ·rename_i t' ks hk rest _
  obtain ⟨h1,h2⟩:=bg h
  rw [VJ] at h1
  subst h1
  exact ⟨_,ks,h2,id,hk⟩
 ·cases h
def kE (P:Program) (t:TypeId) (cs:List D) (off:Nat) (d:D):Prop:=
  ∃e,P.underlying t=some e∧((cF e=true∧off+P.cellsOf t≤cs.length∧d= .agg ((cs.drop off).take (P.cellsOf t)))∨(cF e=false∧cs[off]? =some d))
theorem kR {z:Z P} {dyn:Bool} {t:TypeId} {cs:List D} {off:Nat} {k:Z P→D→Option ρ} (h:qU P z dyn t cs off k=some r):
  ∃z' d,k z' d=some r∧(z'.c→z.c∧kE P t cs off d):=by
 unfold qU at h
 split at h
 ·cases h
 ·rename_i e he
  split at h
  ·rename_i ha
   obtain ⟨hk,h⟩:=bg h
   split at h
   ·obtain ⟨h1,h2⟩:=bg h
    exact ⟨z,_,h2,fun c=>⟨c,e,he,.inl ⟨ha,by simpa using h1,rfl⟩⟩⟩
   ·split at h
    ·rename_i l i n l' hg rest _
     refine ⟨_,_,h,fun c=>⟨c.2,e,he,.inl ⟨ha,?_,?_⟩⟩⟩
     ·rw [← c.1.1,← c.1.2.1,← c.1.2.2];exact hg.2
     ·rw [← c.1.1,← c.1.2.1,← c.1.2.2,hg.1]
    ·cases h
  ·rename_i ha
   split at h
   ·split at h
    ·rename_i d hd
     exact ⟨z,d,h,fun c=>⟨c,e,he,.inr ⟨ha,hd⟩⟩⟩
    ·cases h
   ·obtain ⟨z',d,h1,h2⟩:=po h
    exact ⟨z',d,h1,fun c=>⟨(h2 c).1,e,he,.inr ⟨ha,(h2 c).2⟩⟩⟩
theorem nL {M:MM} {t:TypeId} {cs:List D} {off:Nat} {d:D} (hp:kE P t cs off d) {vs:Array Value} (h:bT M cs vs):∃v,bo M d v∧∀w:World,(part t vs off).run P w= .ok v w:=by
 obtain ⟨e,he,⟨ha,hl,rfl⟩|⟨ha,hd⟩⟩:=hp
 ·have Tf:=h.sub off (P.cellsOf t) hl
  exact ⟨_,.agg Tf.1 Tf.2,fun w=>mi he ha vs off w⟩
 ·obtain ⟨v,hv,hr⟩:=h.get hd
  exact ⟨v,hr,fun w=>mh he ha hv w⟩
theorem iu {M:MM} {t:TypeId} {cs:List D} {off b base:Nat} {d:D} (hp:kE P t cs off d) {w:World} (vs:Nat→Value)
  (hc:∀j c,cs[j]? =some c→w.cell? ⟨b,base+j,none⟩=some (vs j)∧bo M c (vs j)):∃v,(loadVar t ⟨b,base+off,none⟩).run P w= .ok v w∧bo M d v:=by
 obtain ⟨e,he,⟨ha,hl,rfl⟩|⟨ha,hd⟩⟩:=hp
 ·let ws:Array Value:=((List.range (P.cellsOf t)).map fun j=>vs (off+j)).toArray
  have U8:∀j v,ws[j]? =some v→j<P.cellsOf t∧v=vs (off+j):=by
   intro j v hj
   simp only [ws,List.getElem?_toArray,VC,Vz] at hj
   obtain ⟨x,hx,rfl⟩:=hj
   have OK:j<P.cellsOf t:=by
    rcases VA j (P.cellsOf t) with h|h
    ·exact h
    ·rw [Vw (by simpa using h)] at hx;cases hx
   rw [List.getElem?_range OK] at hx
   cases hx
   exact ⟨OK,rfl⟩
  have OJ:∀j,j<P.cellsOf t→∃c,cs[off+j]? =some c:=fun j hj=>⟨cs[off+j]'(by omega),by simp [show off+j<cs.length by omega]⟩
  refine ⟨.agg ws,om he ha ws (by simp [ws]) ?_,.agg ?_ ?_⟩
  ·intro j v hj
   obtain ⟨h1,rfl⟩:=U8 j v hj
   obtain ⟨c,Qg⟩:=OJ j h1
   rw [Nat.add_assoc]
   exact (hc _ c Qg).1
  ·simp [ws];omega
  ·intro i c v a b
   obtain ⟨h1,rfl⟩:=U8 i v b
   rw [WJ,if_pos h1,List.getElem?_drop] at a
   exact (hc _ c a).2
 ·obtain ⟨h1,h2⟩:=hc off d hd
  exact ⟨vs off,oj he ha h1,h2⟩
end
def EJ (P:Program) (o:Oper) (a:Act) (w:World) (next:Act→World→Prop) (Q:Exit→Act→World→Prop):Prop:= ∀r:Option Nat,o.wpIn (FW r) 0 P a w next Q
theorem AF {P:Program} {o:Oper} {ρ:Operand→Value} {c:Call} (ho:o.op= .defer c) {w w':World} {x:Next} (h:(execOp ρ o).run P w= .ok x w'):∃d,x= .defer d:=by
 unfold execOp at h
 rw [ho] at h
 simp only [VD] at h
 cases hr:(resolve ρ c o.type).run P w with
 |ok d w1=>rw [hr] at h;simp only [Vv,VK,Result.ok.injEq] at h;exact ⟨d,h.1.symm⟩
 |halt a b=>rw [hr] at h;cases h
theorem kG {P:Program} {o:Oper} {ρ:Operand→Value} {w w':World} {x:Next} (h:(execOp ρ o).run P w= .ok x w') (hx:∀d,x≠ .defer d) (r:Option Nat):(o.semAt r ρ).run P w= .ok x w':=by
 by_cases hd:∃c,o.op= .defer c
 ·obtain ⟨c,hc⟩:=hd
  obtain ⟨d,hd⟩:=AF hc h
  exact absurd hd (hx d)
 ·rw [Oper.semAt_eq r ρ o (fun c hc=>hd ⟨c,hc⟩)]
  exact h
def gZ.pre (e:gZ) (M:MM) (σ:Nat→Ob) (id:Nat):Prop:=match e with
  | .pure _=>True
  | .read i o _=>σ i=o
  | .gm i j d=>eZ (σ i) j=some d
  | .dE i o _ _=>σ i=o
  | .new _ _=>M.box id=none∧∀v,M.bl id v=none
  | .all _ _=>False
def gZ.post (e:gZ) (σ:Nat→Ob) (id:Nat):Nat→Ob:=match e with
  | .dE i _ o' _=>Ev.dE σ i o'
  | .new o _=>Ev.dE σ id o
  |_=>σ
def gZ.val (e:gZ) (id:Nat):D:=match e with
  | .pure d=>d
  | .read _ _ d=>d
  | .gm _ _ d=>d
  | .dE _ _ _ d=>d
  | .new _ mk=>mk id
  | .all _ d=>d
def gZ.LB (e:gZ) (M M':MM) (id:Nat):Prop:=match e with
  | .dE i _ _ _=>M'.box=M.box∧∀j,j≠i→M'.bl j=M.bl j
  | .new _ _=>(∀j,j≠id→M'.box j=M.box j)∧∀j,j≠id→M'.bl j=M.bl j
  |_=>M'.box=M.box∧M'.bl=M.bl
def dY (P:Program) (o:Oper) (ρ:Operand→D) (e:gZ):Prop:=
  ∀(w0:dm) (M:MM) (own:Nat→Option Nat) (σ:Nat→Ob) (w:World) (a:Act) (id:Nat),bu w0 M own σ w→(∀x∈o.op.operands,bo M (ρ x) (a.eval x))→e.pre M σ id→
    ∀(next:Act→World→Prop) (Q:Exit→Act→World→Prop),
      (∀v M' OH w',M.Le M'→e.LB M M' id→bu w0 M' OH (e.post σ id) w'→bo M' (e.val id) v→next (a.put o.dst v) w')→EJ P o a w next Q
section
variable {P:Program} {o:Oper} {ρ:Operand→D}
theorem cI {a:Act} {w w':World} {v:Value} {next:Act→World→Prop} {Q:Exit→Act→World→Prop} (h:(execOp a.eval o).run P w= .ok (.value v) w') (k:next (a.put o.dst v) w'):EJ P o a w next Q:=by
 intro r
 refine ⟨fun _ _=>trivial,?_⟩
 rw [show (FW r).round=r from rfl,kG h (fun d e=>by cases e) r]
 exact k
theorem jd {a:Act} {w w':World} {next:Act→World→Prop} {Q:Exit→Act→World→Prop} (h:(execOp a.eval o).run P w= .ok .skip w') (k:next (a.put o.dst undef) w'):EJ P o a w next Q:=by
 intro r
 refine ⟨fun _ _=>trivial,?_⟩
 rw [show (FW r).round=r from rfl,kG h (fun d e=>by cases e) r]
 exact k
theorem bF {d:D} (h:∀(M:MM) (w:World) (a:Act),(∀b o v,M.cell b o=some v→w.cell? ⟨b,o,none⟩=some v)→(∀x∈o.op.operands,bo M (ρ x) (a.eval x))→
  ∃v,(execOp a.eval o).run P w= .ok (.value v) w∧bo M d v):dY P o ρ (.pure d):=by
 intro w0 M own σ w a id hw hr _ next Q hn
 obtain ⟨v,h1,h2⟩:=h M w a hw.cells hr
 exact cI h1 (hn v M own w (.refl M) ⟨rfl,rfl⟩ hw h2)
theorem vo {d:D} (h:∀(M:MM) (w:World) (a:Act),(∀b o v,M.cell b o=some v→w.cell? ⟨b,o,none⟩=some v)→(∀x∈o.op.operands,bo M (ρ x) (a.eval x))→
  ∃v M' w',(execOp a.eval o).run P w= .ok (.value v) w'∧Ext M w M' w'∧M'.box=M.box∧M'.bl=M.bl∧M'.dW=M.dW∧bo M' d v):dY P o ρ (.pure d):=by
 intro w0 M own σ w a id hw hr _ next Q hn
 obtain ⟨v,M',w',h1,h2,h3,h4,hm,h5⟩:=h M w a hw.cells hr
 obtain ⟨k1,k2⟩:=hw.ext h2 h3 h4 hm
 exact cI h1 (hn v M' own w' k2 ⟨h3,h4⟩ k1 h5)
theorem nQ {ty:TypeId} {x:Operand} {dyn:Bool} {id off:Nat} {cs:List D} {d:D} (ho:o.op= .load ty x) (hx:ρ x= .ptr dyn id off) (hp:kE P ty cs off d):dY P o ρ (.read id (.box cs) d):=by
 intro w0 M own σ w a i hw hr OU next Q hn
 obtain ⟨b,vs,t,k⟩:=hw.box id cs OU
 have P3:=hr x (by simp [ho,Vx])
 rw [hx] at P3
 generalize hv:a.eval x=v at P3
 cases P3 with
 |ptr _ hb=>
  rename_i b'
  rw [k.box] at hb
  obtain rfl:=Vk hb
  have Pu:∀j c,cs[j]? =some c→w.cell? ⟨b,0+j,none⟩=some (vs.getD j .nilFunc)∧bo M c (vs.getD j .nilFunc):=by
   intro j c hj
   obtain ⟨u,hu,hru⟩:=kM k.len k.rep hj
   rw [VR,hu]
   refine ⟨?_,hru⟩
   simp [Wl,k.cq,hu]
  obtain ⟨v,h1,h2⟩:=iu hp (fun j=>vs.getD j .nilFunc) Pu
  rw [VT] at h1
  refine cI (v:=v) (w':=w) ?_ (hn v M own w (.refl M) ⟨rfl,rfl⟩ hw h2)
  simp [execOp,ho,Instr.loadAt,Instr.sureAddr,hv,h1]
theorem sN {ty:TypeId} {x:Operand} {dyn:Bool} {id off:Nat} {d:D} {e:TypeDesc} (ho:o.op= .load ty x) (hx:ρ x= .ptr dyn id off) (hu:P.underlying ty=some e) (ha:cF e=false):dY P o ρ (.gm id off d):=by
 intro w0 M own σ w a i hw hr OU next Q hn
 have OU:eZ (σ id) off=some d:=OU
 cases hs:σ id with
 |box cs=>
  rw [hs] at OU
  exact nQ (cs:=cs) (d:=d) ho hx ⟨e,hu,.inr ⟨ha,OU⟩⟩ w0 M own σ w a i hw hr hs next Q hn
 |_=>rw [hs] at OU;cases OU
theorem sM {ty:TypeId} {x:Operand} {dyn:Bool} {y:D} {off:Nat} {cs:List D} {d:D} (ho:o.op= .load ty x) (hx:ρ x= .cT dyn y off) (hy:y.cells=some cs) (hp:kE P ty cs off d):dY P o ρ (.pure d):=by
 refine bF fun M w a hc hr=> ?_
 have P3:=hr x (by simp [ho,Vx])
 rw [hx] at P3
 generalize hv:a.eval x=v at P3
 cases P3 with
 |cT _ vs QQ Qm Q0=>
  rw [hy] at QQ
  obtain rfl:=Vk QQ
  obtain ⟨v,h1,h2⟩:=iu (M:=M) (w:=w) hp vs (fun j c hj=>⟨hc _ _ _ (Qm j c hj),(Q0 j c hj).mono (MM.jR M)⟩)
  exact ⟨v,by simp [execOp,ho,Instr.loadAt,Instr.sureAddr,hv,h1],h2⟩
theorem zF {x:Operand} (ho:o.op= .move x∨o.op= .assign x):dY P o ρ (.pure (ρ x)):=
 bF fun M w a _ hr=>⟨a.eval x,by rcases ho with h|h<;>simp [execOp,h],hr x (by rcases ho with h|h<;>simp [h,Vx])⟩
theorem zE {c x y:Operand} {q:Bool} (ho:o.op= .pick c x y) (hc:ρ c= .bool q):dY P o ρ (.pure (if q then ρ x else ρ y)):=by
 refine bF fun M w a _ hr=> ?_
 have h1:=hr c (by simp [ho,Vx])
 rw [hc] at h1
 generalize hv:a.eval c=v at h1
 cases h1
 have h2:=hr x (by simp [ho,Vx])
 have h3:=hr y (by simp [ho,Vx])
 refine ⟨if q then a.eval x else a.eval y,?_,by cases q<;>simpa⟩
 cases q<;>simp [execOp,ho,asBool,hv]
theorem kr {x:Operand} (ho:o.op= .nilCheck x) (hx:(∃q i f,ρ x= .ptr q i f)∨(∃q y f,ρ x= .cT q y f)∨∃g l r,ρ x= .fn (.func g) l r):dY P o ρ (.pure (ρ x)):=by
 refine bF fun M w a _ hr=> ?_
 have h1:=hr x (by simp [ho,Vx])
 refine ⟨a.eval x,?_,h1⟩
 generalize hv:a.eval x=v at h1
 rcases hx with ⟨q,i,f,e⟩|⟨q,y,f,e⟩|⟨g,l,r,e⟩<;>rw [e] at h1<;>cases h1<;>simp [execOp,ho,hv]
theorem xC {x:Operand} {i:Nat} {ds:List D} {d:D} (ho:o.op= .extract x i) (hx:ρ x= .aM ds) (hd:ds[i]? =some d):dY P o ρ (.pure d):=by
 refine bF fun M w a _ hr=> ?_
 have h1:=hr x (by simp [ho,Vx])
 rw [hx] at h1
 generalize hv:a.eval x=v at h1
 cases h1 with
 |aM hl OP=>
  obtain ⟨u,hu,hru⟩:=bT.get ⟨hl,OP⟩ hd
  exact ⟨u,by simp [execOp,ho,Instr.extract,hv,hu],hru⟩
theorem vt {f:Fn} {first cap:Array Operand} (ho:o.op= .makeFunc f first cap):dY P o ρ (.pure (.fn f (first.toList.map ρ) (cap.toList.map ρ))):=by
 refine bF fun M w a _ hr=> ?_
 refine ⟨.func f (first.map a.eval) (cap.map a.eval),by simp [execOp,ho,Instr.makeFunc],.fn (by simp) (by simp) ?_ ?_⟩
 ·intro i d v h1 h2
  rw [VC,Vz] at h1
  obtain ⟨x,hx,rfl⟩:=h1
  rw [VE] at hx
  rw [Array.getElem?_map,hx] at h2
  simp only [Wv,Vs] at h2
  subst h2
  exact hr x (by simp [ho,Vx,Array.mem_of_getElem? hx])
 ·intro i d v h1 h2
  rw [VC,Vz] at h1
  obtain ⟨x,hx,rfl⟩:=h1
  rw [VE] at hx
  rw [Array.getElem?_map,hx] at h2
  simp only [Wv,Vs] at h2
  subst h2
  exact hr x (by simp [ho,Vx,Array.mem_of_getElem? hx])
theorem sQ {s:TypeId} {x:Operand} {f:Nat} {fields:Array Field} {fd:Field} (ho:o.op= .fieldAddr s x f) (hs:P.underlying s=some (.struct fields)) (hf:fields[f]? =some fd)
  (hk:known P fd.type=true) (O5:0<P.cellsOf fd.type):
  (∀q i off,ρ x= .ptr q i off→dY P o ρ (.pure (.ptr q i (off+fd.offset))))∧(∀q y off,ρ x= .cT q y off→dY P o ρ (.pure (.cT q y (off+fd.offset)))):=by
 constructor
 ·intro q i off hx
  refine bF fun M w a _ hr=> ?_
  have h1:=hr x (by simp [ho,Vx])
  rw [hx] at h1
  generalize hv:a.eval x=v at h1
  cases h1 with
  |ptr _ hb=>
   refine ⟨_,?_,.ptr q hb⟩
   simp [execOp,ho,Instr.fieldAt,run_underlying hs,hf,hv,Instr.sureAddr,fieldPlace,ck hk,Nat.ne_of_gt O5,ek]
 ·intro q y off hx
  refine bF fun M w a _ hr=> ?_
  have h1:=hr x (by simp [ho,Vx])
  rw [hx] at h1
  generalize hv:a.eval x=v at h1
  cases h1 with
  |cT _ vs QQ Qm Q0=>
   refine ⟨_,?_,.cT q vs QQ Qm Q0⟩
   simp [execOp,ho,Instr.fieldAt,run_underlying hs,hf,hv,Instr.sureAddr,fieldPlace,ck hk,Nat.ne_of_gt O5,ek,Nat.add_assoc]
theorem CY {ty:TypeId} {x:Operand} {f:Nat} {fields:Array Field} {fd:Field} {cs:List D} {d:D} (ho:o.op= .field ty x f) (hs:P.underlying ty=some (.struct fields)) (hf:fields[f]? =some fd)
  (hx:ρ x= .agg cs) (hp:kE P fd.type cs fd.offset d):dY P o ρ (.pure d):=by
 refine bF fun M w a _ hr=> ?_
 have h1:=hr x (by simp [ho,Vx])
 rw [hx] at h1
 generalize hv:a.eval x=v at h1
 cases h1 with
 |agg hl OP=>
  obtain ⟨v,h2,h3⟩:=nL hp ⟨hl,OP⟩
  exact ⟨v,by simp [execOp,ho,Instr.field,run_underlying hs,hf,hv,asAgg,h3],h2⟩
theorem ct {M:MM} {d:D} {v:Value} {k:WO} {n:Int} (h:bo M d v) (e:d= .int k n):v= .int k n:=by subst e;cases h;rfl
theorem mr {ty:TypeId} {x ix:Operand} {k:WO} {i:Int} {len:Nat} {elem:TypeId} (ho:o.op= .indexAddr ty x ix) (hi:ρ ix= .int k i) (ht:P.underlying ty=some (.array len elem)) (hk:known P elem=true) (hb:0≤i∧i<len) (dyn:Bool):
  (∀q id off,ρ x= .ptr q id off→dY P o ρ (.pure (.ptr dyn id (off+i.toNat*P.cellsOf elem))))∧(∀q y off,ρ x= .cT q y off→dY P o ρ (.pure (.cT dyn y (off+i.toNat*P.cellsOf elem)))):=by
 constructor
 ·intro q id off hx
  refine bF fun M w a _ hr=> ?_
  have h1:=hr x (by simp [ho,Vx])
  have h2:=ct (hr ix (by simp [ho,Vx])) hi
  rw [hx] at h1
  generalize hv:a.eval x=v at h1
  cases h1 with
  |ptr _ RB=>
   refine ⟨_,?_,.ptr dyn RB⟩
   simp [execOp,ho,Instr.indexAt,h2,asIntOf,run_underlying ht,hv,Instr.sureAddr,hb,ck hk,ek]
 ·intro q y off hx
  refine bF fun M w a _ hr=> ?_
  have h1:=hr x (by simp [ho,Vx])
  have h2:=ct (hr ix (by simp [ho,Vx])) hi
  rw [hx] at h1
  generalize hv:a.eval x=v at h1
  cases h1 with
  |cT _ vs QQ Qm Q0=>
   refine ⟨_,?_,.cT dyn vs QQ Qm Q0⟩
   simp [execOp,ho,Instr.indexAt,h2,asIntOf,run_underlying ht,hv,Instr.sureAddr,hb,ck hk,ek,Nat.add_assoc]
theorem m4 {ty:TypeId} {x ix:Operand} {k:WO} {i:Int} {elem:TypeId} {ow:j9} {sz:Nat} {xs:List D} {y:D} (ho:o.op= .indexAddr ty x ix) (hi:ρ ix= .int k i) (ht:P.underlying ty=some (.slice elem)) (hk:known P elem=true)
  (OT:P.cellsOf elem=sz) (hb:0≤i) (hx:ρ x= .aj ow sz xs) (hy:xs[i.toNat]? =some y):dY P o ρ (.pure (.cT false y 0)):=by
 refine bF fun M w a _ hr=> ?_
 have h1:=hr x (by simp [ho,Vx])
 have h2:=ct (hr ix (by simp [ho,Vx])) hi
 rw [hx] at h1
 generalize hv:a.eval x=v at h1
 cases h1 with
 |aj b off vs hl OL ha hs hc hrr OQ Po=>
  rename_i ad len cap
  have OK:i.toNat<xs.length:=by
   rcases VA i.toNat xs.length with h|h
   ·exact h
   ·simp [Vw h] at hy
  have O0:xs≠ []:=fun e=>by simp [e] at OK
  obtain rfl:=ha O0
  obtain ⟨cs,OJ,hlen⟩:=hs _ _ hy
  refine ⟨.pointer (some ⟨b,(off+i.toNat*sz)+0,none⟩),?_,.cT false (fun j=>vs i.toNat j) OJ (fun j c hj=>hc _ _ _ j c hy OJ hj) (fun j c hj=>hrr _ _ _ j c hy OJ hj)⟩
  have:i<len:=by omega
  simp [execOp,ho,Instr.indexAt,h2,asIntOf,run_underlying ht,hv,hb,this,ck hk,ek,OT]
theorem sP {ty:TypeId} {x ix:Operand} {k:WO} {i:Int} {len:Nat} {elem:TypeId} {cs:List D} {d:D} (ho:o.op= .index ty x ix) (hi:ρ ix= .int k i) (ht:P.underlying ty=some (.array len elem)) (hk:known P elem=true) (hb:0≤i∧i<len)
  (hx:ρ x= .agg cs) (hp:kE P elem cs (i.toNat*P.cellsOf elem) d):dY P o ρ (.pure d):=by
 refine bF fun M w a _ hr=> ?_
 have h1:=hr x (by simp [ho,Vx])
 have h2:=ct (hr ix (by simp [ho,Vx])) hi
 rw [hx] at h1
 generalize hv:a.eval x=v at h1
 cases h1 with
 |agg hl OP=>
  obtain ⟨v,h3,h4⟩:=nL hp ⟨hl,OP⟩
  exact ⟨v,by simp [execOp,ho,Instr.index,h2,asIntOf,run_underlying ht,hv,hb,ck hk,h4],h3⟩
theorem sO {ty:TypeId} {x ix:Operand} {k:WO} {i:Int} {s:ByteArray} {d:D} (ho:o.op= .index ty x ix) (hi:ρ ix= .int k i) (ht:P.underlying ty=some .string) (hb:0≤i)
  (hx:ρ x= .str s) (hp:(ja s)[i.toNat]? =some d):dY P o ρ (.pure d):=by
 refine bF fun M w a _ hr=> ?_
 have h1:=hr x (by simp [ho,Vx])
 have h2:=ct (hr ix (by simp [ho,Vx])) hi
 rw [hx] at h1
 generalize hv:a.eval x=v at h1
 cases h1
 unfold ja at hp
 rw [VC,Vz] at hp
 obtain ⟨c,hc,rfl⟩:=hp
 rw [VE] at hc
 have Qm:s[i.toNat]? =some c:=by
  have OK:i.toNat<s.data.size:=by
   rcases VA i.toNat s.data.size with h|h
   ·exact h
   ·simp [VV h] at hc
  have UA:i.toNat<s.size:=OK
  rw [getElem?_pos s i.toNat UA]
  rw [getElem?_pos s.data i.toNat OK] at hc
  exact hc
 exact ⟨.int .u8 c.toNat,by simp [execOp,ho,Instr.index,h2,asIntOf,run_underlying ht,hv,hb,Qm],.int _ _⟩
end
section
variable {P:Program} {o:Oper} {ρ:Operand→D}
theorem vp {ty:TypeId} {x v:Operand} {dyn:Bool} {id off:Nat} {cs vc:List D} (ho:o.op= .store ty x v) (hx:ρ x= .ptr dyn id off) (hv:(ρ v).cells=some vc) (hk:known P ty=true)
  (OT:vc.length=P.cellsOf ty) (OQ:∀d∈vc,storable d=true) (hl:off+vc.length≤cs.length):dY P o ρ (.dE id (.box cs) (.box (gC cs off vc)) .undef):=by
 intro w0 M own σ w a i hw hr OU next Q hn
 obtain ⟨b,vs,t,k⟩:=hw.box id cs OU
 have P3:=hr x (by simp [ho,Vx])
 have RJ:=hr v (by simp [ho,Vx])
 rw [hx] at P3
 generalize hva:a.eval x=va at P3
 cases P3 with
 |ptr _ hb=>
  rename_i b'
  rw [k.box] at hb
  obtain rfl:=Vk hb
  have OS:=RJ.cells hv
  have hlen:(a.eval v).cells.toList.length=vc.length:=by rw [V2,← OS.1]
  have PL:∀u∈(a.eval v).cells.toList,u.oneCell'=true:=by
   intro u hu
   obtain ⟨j,hj⟩:=List.mem_iff_getElem?.1 hu
   rw [VE] at hj
   have Qr:j<vc.length:=by
    rcases VA j vc.length with h|h
    ·exact h
    ·rw [OS.1] at h;simp [VV h] at hj
   exact jz (OS.2 j vc[j] u (by simp [Qr]) hj) (OQ _ (by simp))
  have OY:=dZ (P:=P) (b:=b) (off:=off) (fz:=(0,0)) (a.eval v).cells.toList 0 w vs k.cq PL (by rw [hlen];have:=k.len;omega) (fun o _ h=>by have:=h.2;simp at this)
  rw [WI] at OY
  have OP:=mn (M:=M) k.len k.rep OS hl
  refine jd (w':=bh w b (.cells (cQ vs off (a.eval v).cells.toList) t (0,0))) ?_ (hn undef M own _ (.refl M) ⟨rfl,fun _ _=>rfl⟩ (hw.CH k OP.1 (cX _ _ _) OP.2) (.undef _))
  have he:(a.eval v).cells.size=P.cellsOf ty:=by rw [← OS.1,OT]
  simp [execOp,ho,Instr.storeAt,Instr.sureAddr,hva,storeVar,ck hk,he,OY]
theorem m5 {cs:List D} (h:∀(M:MM) (w:World) (a:Act),(∀x∈o.op.operands,bo M (ρ x) (a.eval x))→∃vs ty,(execOp a.eval o).run P w= .ok (.value (.pointer (some ⟨w.heap.size,0,none⟩))) (w.alloc (.cells vs ty))∧bT M cs vs):
  dY P o ρ (.new (.box cs) fun id=> .ptr false id 0):=by
 intro w0 M own σ w a id hw hr OU next Q hn
 obtain ⟨vs,ty,h1,h2⟩:=h M w a hr
 have k:=hw.pt OU.1 OU.2 ty (Nat.le_of_eq h2.1) h2.2
 exact cI h1 (hn _ _ _ _ (MM.dt OU.1) ⟨fun j hj=>by simp [MM.bf,hj],fun _ _=>rfl⟩ k (.ptr false (by simp [MM.bf])))
theorem Ho {e:TypeId} {x:Operand} {cs:List D} (ho:o.op= .box e x) (hx:(ρ x).cells=some cs):dY P o ρ (.new (.box cs) fun id=> .ptr false id 0):=by
 refine m5 fun M w a hr=>⟨(a.eval x).cells,e,?_,(hr x (by simp [ho,Vx])).cells hx⟩
 simp [execOp,ho,Instr.box,newVar,newRow]
theorem eV {t:TypeId} {d:D} (h:gg P t=some d):∃i v,P.info? t=some i∧i.zero=some v∧d=mb v:=by
 unfold gg at h
 split at h
 ·rename_i i hi
  split at h
  ·rename_i v hv
   exact ⟨i,v,hi,hv,(Vk h).symm⟩
  ·cases h
 ·cases h
theorem C0 {e:TypeId} {d:D} {cs:List D} (ho:o.op= .alloc e) (hz:gg P e=some d) (hc:d.cells=some cs):dY P o ρ (.new (.box cs) fun id=> .ptr false id 0):=by
 obtain ⟨i,v,hi,hv,rfl⟩:=eV hz
 refine m5 fun M w a hr=>⟨v.cells,e,?_,(eR (M:=M) v).cells hc⟩
 simp [execOp,ho,Instr.alloc,dp hi hv,newVar,newRow]
theorem AR {e:TypeId} {d:D} (ho:o.op= .alloc e) (hz:gg P e=some d) (h1:Cs P e=true):dY P o ρ (.new (.box [.undef]) fun id=> .ptr false id 0):=by
 obtain ⟨i,v,hi,hv,rfl⟩:=eV hz
 have hs:v.cells.size=1:=by
  unfold Cs at h1
  rw [hi] at h1
  simp only [hv,VJ] at h1
  exact h1
 refine m5 fun M w a hr=>⟨v.cells,e,?_,hs.symm,fun j d u x y=> ?_⟩
 ·simp [execOp,ho,Instr.alloc,dp hi hv,newVar,newRow]
 ·cases j with
  |zero=>simp at x;subst x;exact .undef u
  |succ j=>simp at x
theorem BK (l:List Value):∀(cells:Array Value) (off k:Nat),(l.zipIdx k).foldl (fun cs (p:Value×Nat)=>cs.setIfInBounds (off+p.2) p.1) cells=cQ cells (off+k) l:=by
 induction l with
 |nil=>intro cells off k;rfl
 |cons x r ih=>intro cells off k;simp [List.zipIdx_cons,cQ,ih,Nat.add_assoc]
theorem pY (v cells:Array Value) (off:Nat):v.zipIdx.foldl (fun cs (c,j)=>cs.setIfInBounds (off+j) c) cells=cQ cells off v.toList:=by
 rw [← Array.foldl_toList,Array.toList_zipIdx]
 exact BK v.toList cells off 0
def GB (M:MM):List (Nat×D)→List (Nat×Value)→Prop
  | [],[]=>True
  |(i,d)::r,(j,v)::s=>i=j∧bo M d v∧GB M r s
  |_,_=>False
theorem uH {M:MM} {a:Act} (ps:List (Nat×Operand)) (h:∀p∈ps,bo M (ρ p.2) (a.eval p.2)):GB M (ps.map fun p=>(p.1,ρ p.2)) (ps.map fun p=>(p.1,a.eval p.2)):=by
 induction ps with
 |nil=>trivial
 |cons p r ih=>exact ⟨rfl,h p (by simp),ih fun q hq=>h q (by simp [hq])⟩
theorem tf {M:MM} (place:Nat→Option (Nat×Nat)):∀(parts:List (Nat×D)) (Py:List (Nat×Value)) (cells cs:List D) (arr:Array Value),GB M parts Py→bT M cells arr→rE place cells parts=some cs→
  ∃arr',Instr.fill place arr Py=some arr'∧bT M cs arr'
 | [],[],cells,cs,arr,_,h,e=>by
  simp only [rE,Vs] at e;subst e;exact ⟨arr,rfl,h⟩
 | [],_::_,_,_,_,hp,_,_=>hp.elim
 |_::_,[],_,_,_,hp,_,_=>hp.elim
 |(i,d)::r,(j,v)::s,cells,cs,arr,hp,h,e=>by
  obtain ⟨rfl,hd,hp⟩:=hp
  unfold rE at e
  split at e
  ·rename_i off size vc QM RQ
   split at e
   ·rename_i hb
    rw [Vi,VJ,Wg] at hb
    have TF:=hd.cells RQ
    have OT:off+vc.length≤cells.length:=by omega
    obtain ⟨arr',h1,h2⟩:=tf place r s _ cs _ hp (uI h TF OT) e
    refine ⟨arr',?_,h2⟩
    have e1:v.cells.size=size:=by rw [← TF.1];exact hb.1
    have e2:¬(off+v.cells.size>arr.size):=by rw [← h.1,e1];omega
    rw [Instr.fill,QM]
    simp only [e1,ne_eq,not_true_eq_false,decide_false,Bool.false_or]
    rw [← e1]
    simp only [e2,decide_false,V5,if_false,pY]
    exact h1
   ·cases e
  ·cases e
theorem qw {α β:Type} (f:α→Sem β) (g:α→β) (l:List α) (h:∀x∈l,∀w,(f x).run P w= .ok (g x) w):∀w,(l.mapM f).run P w= .ok (l.map g) w:=by
 induction l with
 |nil=>intro w;simp
 |cons x r ih=>
  intro w
  simp [List.mapM_cons,h x (by simp),ih fun y hy=>h y (by simp [hy])]
theorem CZ {ty:TypeId} {parts:Array (Nat×Operand)} {d:D} (ho:o.op= .build ty parts) (hb:yM P ty (parts.toList.map fun p=>(p.1,ρ p.2))=some d):dY P o ρ (.pure d):=by
 refine bF fun M w a _ hr=> ?_
 have QA:=uH (M:=M) (ρ:=ρ) (a:=a) parts.toList (fun p hp=>hr p.2 (by
  simp only [ho,Vx]
  exact List.mem_toArray.2 (List.mem_map.2 ⟨p,hp,rfl⟩)))
 have SZ:(parts.map fun (i,x)=>(i,a.eval x)).toList=parts.toList.map fun p=>(p.1,a.eval p.2):=by simp
 unfold yM at hb
 split at hb
 ·cases hb
 ·rename_i z hz
  obtain ⟨i,v,hi,hv,rfl⟩:=eV hz
  split at hb
  ·cases hb
  ·rename_i zero RK
   have UK:=(eR (M:=M) v).cells RK
   split at hb
   ·rename_i fields ht
    split at hb
    ·rename_i PM
     split at hb
     ·rename_i cs OJ
      simp only [Vs] at hb
      subst hb
      obtain ⟨arr,h1,h2⟩:=tf (M:=M) _ _ _ _ _ _ QA UK OJ
      refine ⟨.agg arr,?_,.agg h2.1 h2.2⟩
      have hm:∀w:World,(fields.mapM fun (f:Field)=>(do pure (f.offset,← sizeOf f.type):Sem (Nat×Nat))).run P w= .ok (fields.map fun (f:Field)=>(f.offset,P.cellsOf f.type)) w:=by
       intro w
       rw [Array.mapM_eq_mapM_toList]
       rw [VP] at PM
       have:=qw (P:=P) (fun f:Field=>(do pure (f.offset,← sizeOf f.type):Sem (Nat×Nat))) (fun f=>(f.offset,P.cellsOf f.type)) fields.toList (fun f hf w=>by simp [ck (PM f hf)]) w
       simp only [Sem.run_map,this,Vv]
       rw [← Array.toList_map,Array.toArray_toList]
      have QM:(fun (i:Nat)=>(fields.map fun (f:Field)=>(f.offset,P.cellsOf f.type))[i]?)=fun (i:Nat)=>(fields[i]?).map fun (f:Field)=>(f.offset,P.cellsOf f.type):=by
       funext i;simp
      simp only [execOp,ho,Instr.build,VD,dp hi hv,Vv,run_underlying ht]
      simp only [hm,Vv,SZ,QM,h1,VK]
     ·cases hb
    ·cases hb
   ·rename_i n elem ht
    split at hb
    ·rename_i hk
     split at hb
     ·rename_i cs OJ
      simp only [Vs] at hb
      subst hb
      obtain ⟨arr,h1,h2⟩:=tf (M:=M) _ _ _ _ _ _ QA UK OJ
      refine ⟨.agg arr,?_,.agg h2.1 h2.2⟩
      simp only [execOp,ho,Instr.build,VD,dp hi hv,Vv,run_underlying ht,ck hk,SZ,h1,VK]
     ·cases hb
    ·cases hb
   ·cases hb
theorem nK {k k':WO} (h:ez k k'=true):k=k':=by cases k<;>cases k'<;>first|rfl|(simp [ez] at h)
theorem Hp {op:BinOp} {t t':TypeId} {x y:Operand} {d:D} (ho:o.op= .binOp op t x y t')
  (h:∀(M:MM) (w:World) (u v:Value),bo M (ρ x) u→bo M (ρ y) v→∃r,(do eqGuard op t x y u v;binOp op t u v:Sem Value).run P w= .ok r w∧bo M d r):dY P o ρ (.pure d):=by
 refine bF fun M w a _ hr=> ?_
 obtain ⟨r,h1,h2⟩:=h M w _ _ (hr x (by simp [ho,Vx])) (hr y (by simp [ho,Vx]))
 refine ⟨r,?_,h2⟩
 simp only [execOp,ho]
 rw [VD,h1]
 rfl
end
section
variable {ρ':Type} {P:Program} {r:ρ'}
theorem xX {z:Z P} {st:Bool} {op:BinOp} {k:WO} {a b:Int} {K:Z P→D→Option ρ'} (h:xY z st op k a b K=some r) (Qw:op≠ .shl) (Uy:op≠ .shr):
  ∃z' d,K z' d=some r∧(z'.c→z.c∧∀(M:MM) (w:World) (t:TypeId) (x y:Operand),∃v,(do eqGuard op t x y (.int k a) (.int k b);binOp op t (.int k a) (.int k b):Sem Value).run P w= .ok v w∧bo M d v):=by
 cases op<;>simp only [xY] at h
 case shl=>exact absurd rfl Qw
 case shr=>exact absurd rfl Uy
 case quo=>
  obtain ⟨z',h1,h2⟩:=fu h
  refine ⟨z',_,h1,fun c=>⟨(h2 c).1,fun M w t x y=>⟨_,?_,.int _ _⟩⟩⟩
  have hb:b≠0:=by simpa using (h2 c).2
  simp [eqGuard,binOp,Op.intDiv,hb]
 case rem=>
  obtain ⟨z',h1,h2⟩:=fu h
  refine ⟨z',_,h1,fun c=>⟨(h2 c).1,fun M w t x y=>⟨_,?_,.int _ _⟩⟩⟩
  have hb:b≠0:=by simpa using (h2 c).2
  simp [eqGuard,binOp,Op.intDiv,hb]
 case and=>exact ⟨z,_,h,fun c=>⟨c,fun M w t x y=>⟨.int k _,by rw [eqGuard_at_int];simp only [pure_bind,binOp,ne_eq,not_true_eq_false,if_false];rfl,.int _ _⟩⟩⟩
 case or=>exact ⟨z,_,h,fun c=>⟨c,fun M w t x y=>⟨.int k _,by rw [eqGuard_at_int];simp only [pure_bind,binOp,ne_eq,not_true_eq_false,if_false];rfl,.int _ _⟩⟩⟩
 case xor=>exact ⟨z,_,h,fun c=>⟨c,fun M w t x y=>⟨.int k _,by rw [eqGuard_at_int];simp only [pure_bind,binOp,ne_eq,not_true_eq_false,if_false];rfl,.int _ _⟩⟩⟩
 case andNot=>exact ⟨z,_,h,fun c=>⟨c,fun M w t x y=>⟨.int k _,by rw [eqGuard_at_int];simp only [pure_bind,binOp,ne_eq,not_true_eq_false,if_false];rfl,.int _ _⟩⟩⟩
 case add=>exact ⟨z,_,h,fun c=>⟨c,fun M w t x y=>⟨.int k _,by rw [eqGuard_at_int];simp only [pure_bind,binOp,ne_eq,not_true_eq_false,if_false];rfl,.int _ _⟩⟩⟩
 case sub=>exact ⟨z,_,h,fun c=>⟨c,fun M w t x y=>⟨.int k _,by rw [eqGuard_at_int];simp only [pure_bind,binOp,ne_eq,not_true_eq_false,if_false];rfl,.int _ _⟩⟩⟩
 case mul=>exact ⟨z,_,h,fun c=>⟨c,fun M w t x y=>⟨.int k _,by rw [eqGuard_at_int];simp only [pure_bind,binOp,ne_eq,not_true_eq_false,if_false];rfl,.int _ _⟩⟩⟩
 all_goals exact ⟨z,_,h,fun c=>⟨c,fun M w t x y=>⟨.bool _,by rw [eqGuard_at_int];simp only [pure_bind,binOp,ne_eq,not_true_eq_false,if_false];rfl,.bool _⟩⟩⟩
theorem mG {M:MM} :∀ {ks:List LK} {xs:List D} {vs:List Value},fm ks xs=true→xs.length=vs.length→(∀(i:Nat) (d:D) (v:Value),xs[i]? =some d→vs[i]? =some v→bo M d v)→cC ks vs
 | [],[],[],_,_,_=>trivial
 | [],[],_::_,_,h,_=>by simp at h
 | [],_::_,_,h,_,_=>by simp [fm] at h
 |_::_,[],_,h,_,_=>by simp [fm] at h
 |_::_,_::_,[],_,h,_=>by simp at h
 |k::ks,d::ds,v::vs,h,hl,hr=>by
  simp only [fm,Vi] at h
  have h0:=hr 0 d v rfl rfl
  refine ⟨?_,mG h.2 (by simpa using hl) fun i d v a b=>hr (i+1) d v (by simpa using a) (by simpa using b)⟩
  have h1:=h.1
  cases k<;>cases d<;>simp only [LK.fits,V5] at h1<;>cases h0
  ·trivial
  ·exact nK h1
  ·trivial
theorem oc {M:MM} :∀ {ks:List LK} {xs ys:List D} {us vs:List Value},fm ks xs=true→fm ks ys=true→xs.length=us.length→ys.length=vs.length→
  (∀(i:Nat) (d:D) (v:Value),xs[i]? =some d→us[i]? =some v→bo M d v)→(∀(i:Nat) (d:D) (v:Value),ys[i]? =some d→vs[i]? =some v→bo M d v)→cj us vs=ae xs ys
 | [],xs,ys,us,vs,hx,hy,lx,ly,_,_=>by
  cases xs<;>cases ys<;>simp [fm] at hx hy
  cases us<;>cases vs<;>simp at lx ly
  rfl
 |k::ks,xs,ys,us,vs,hx,hy,lx,ly,rx,ry=>by
  cases xs with
  |nil=>simp [fm] at hx
  |cons x xs=>
  cases ys with
  |nil=>simp [fm] at hy
  |cons y ys=>
  cases us with
  |nil=>simp at lx
  |cons u us=>
  cases vs with
  |nil=>simp at ly
  |cons v vs=>
   simp only [fm,Vi] at hx hy
   have r1:=rx 0 x u rfl rfl
   have r2:=ry 0 y v rfl rfl
   have ih:=oc hx.2 hy.2 (by simpa using lx) (by simpa using ly) (fun i d v a b=>rx (i+1) d v (by simpa using a) (by simpa using b)) (fun i d v a b=>ry (i+1) d v (by simpa using a) (by simpa using b))
   simp only [cj,ae,ih]
   congr 1
   have h1:=hx.1
   have h2:=hy.1
   cases k<;>cases x<;>simp only [LK.fits,V5] at h1<;>cases y<;>simp only [LK.fits,V5] at h2<;>cases r1<;>cases r2<;>rfl
theorem H6 {w:World} {t:TypeId} {u v:Value} {b:Bool} (he:binOp .eql t u v=(do pure (.bool (← Op.equal t u v)):Sem Value)) (hn:binOp .neq t u v=(do pure (.bool (!(← Op.equal t u v))):Sem Value))
  (h:(Op.equal t u v).run P w= .ok b w):(binOp .eql t u v).run P w= .ok (.bool b) w∧(binOp .neq t u v).run P w= .ok (.bool (!b)) w:=by
 rw [he,hn,VD,VD,h]
 exact ⟨rfl,rfl⟩
theorem Ab {z : Z P} {t : TypeId} {x y : D} {K : Z P → Bool → Option ρ'} (h : Ko P z t x y K = some r) :
    ∃z' b,K z' b=some r∧(z'.c→z.c)∧∀(M:MM) (w:World) (u v:Value),bo M x u→bo M y v→
      (∀op px py,(eqGuard op t px py u v).run P w= .ok () w)∧(binOp .eql t u v).run P w= .ok (.bool b) w∧(binOp .neq t u v).run P w= .ok (.bool (!b)) w:=by
  unfold Ko at h
  split at h
  ·
    split at h
    · rename_i ht
      refine ⟨z,_,h,id,fun M w u v hu hv=> ?_⟩
      cases hu;cases hv
      exact ⟨fun op px py=>by rw [eqGuard_at_bool];rfl,run_eql_bool w t _ _ ht,run_neq_bool w t _ _ ht⟩
    · cases h
  · rename_i xs ys
    split at h
    · rename_i t' ks hf rest _
      obtain ⟨h1,h2⟩:=bg h
      rw [Vi,Vi,VJ] at h1
      obtain ⟨ht,hx,hy⟩:=h1
      subst ht
      refine ⟨_,_,h2,id,fun M w u v hu hv=> ?_⟩
      cases hu with
      |agg l1 r1=>
        cases hv with
        |agg l2 r2=>
          rename_i us vs
          have lx:xs.length=us.toList.length:=by simpa using l1
          have ly:ys.length=vs.toList.length:=by simpa using l2
          have e1:=mG (M:=M) hx lx (fun i d v a b=>r1 i d v a (by simpa using b))
          have e2:=mG (M:=M) hy ly (fun i d v a b=>r2 i d v a (by simpa using b))
          have e3:=oc (M:=M) hx hy lx ly (fun i d v a b=>r1 i d v a (by simpa using b)) (fun i d v a b=>r2 i d v a (by simpa using b))
          have e4:=hf.eq us vs w e1 e2
          refine ⟨fun op px py=>run_eqGuard_agg w op t' px py us vs hf.plain,?_,?_⟩
          · rw [run_eql_struct,e4,e3];rfl
          · rw [run_neq_struct,e4,e3];rfl
    · cases h
  all_goals first
    | (split at h
       · rename_i ht
         refine ⟨z,_,h,id,fun M w u v hu hv=> ?_⟩
         cases hu;cases hv
         refine ⟨fun op px py=>by cases op<;>rfl,?_⟩
         refine H6 rfl rfl ?_
         show (Op.equalIn (9999+1) t _ _).run P w=_
         unfold Op.equalIn
         simp only [VD,run_underlying ht,Vv,VK,Option.isNone_none]
       · cases h)
    |cases h
theorem Eo {z:Z P} {st:Bool} {op:BinOp} {t:TypeId} {x y:D} {K:Z P→D→Option ρ'} (h:Ie P z st op t x y K=some r):
  ∃z' d,K z' d=some r∧(z'.c→z.c∧∀(M:MM) (w:World) (px py:Operand) (u v:Value),bo M x u→bo M y v→
   ∃q,(do eqGuard op t px py u v;binOp op t u v:Sem Value).run P w= .ok q w∧bo M d q):=by
 unfold Ie at h
 split at h
 ·rename_i k a k' b
  split at h
  ·obtain ⟨z',h1,h2⟩:=fu h
   refine ⟨z',_,h1,fun c=>⟨(h2 c).1,fun M w px py u v hu hv=> ?_⟩⟩
   cases hu;cases hv
   have hb:¬b<0:=by have:=(h2 c).2;simp at this;omega
   exact ⟨_,by simp [eqGuard,binOp,Op.shift,hb]<;>rfl,.int _ _⟩
  ·obtain ⟨z',h1,h2⟩:=fu h
   refine ⟨z',_,h1,fun c=>⟨(h2 c).1,fun M w px py u v hu hv=> ?_⟩⟩
   cases hu;cases hv
   have hb:¬b<0:=by have:=(h2 c).2;simp at this;omega
   exact ⟨_,by simp [eqGuard,binOp,Op.shift,hb]<;>rfl,.int _ _⟩
  ·rename_i Qw Uy
   obtain ⟨h1,h2⟩:=bg h
   obtain rfl:=nK h1
   obtain ⟨z',d,h3,h4⟩:=xX h2 Qw Uy
   refine ⟨z',d,h3,fun c=>⟨(h4 c).1,fun M w px py u v hu hv=> ?_⟩⟩
   cases hu;cases hv
   exact (h4 c).2 M w t px py
 ·split at h
  ·refine ⟨z,_,h,fun c=>⟨c,fun M w px py u v hu hv=> ?_⟩⟩
   cases hu;cases hv
   exact ⟨_,by simp [eqGuard,binOp,Op.stringOp]<;>rfl,.bool _⟩
  ·refine ⟨z,_,h,fun c=>⟨c,fun M w px py u v hu hv=> ?_⟩⟩
   cases hu;cases hv
   exact ⟨_,by simp [eqGuard,binOp,Op.stringOp]<;>rfl,.bool _⟩
  ·cases h
 ·split at h
  ·obtain ⟨z',b,h1,h2,h3⟩:=Ab h
   refine ⟨z',_,h1,fun c=>⟨h2 c,fun M w px py u v hu hv=> ?_⟩⟩
   obtain ⟨e1,e2,e3⟩:=h3 M w u v hu hv
   exact ⟨_,by rw [VD,e1];exact e2,.bool _⟩
  ·obtain ⟨z',b,h1,h2,h3⟩:=Ab h
   refine ⟨z',_,h1,fun c=>⟨h2 c,fun M w px py u v hu hv=> ?_⟩⟩
   obtain ⟨e1,e2,e3⟩:=h3 M w u v hu hv
   exact ⟨_,by rw [VD,e1];exact e3,.bool _⟩
  ·cases h
theorem EM {op:UnOp} {x:D} {K:D→Option ρ'} (h:Kr op x K=some r):∃d,K d=some r∧∀(M:MM) (w:World) (u:Value),bo M x u→∃v,(Op.unary op u).run P w= .ok v w∧bo M d v:=by
 unfold Kr at h
 split at h
 ·refine ⟨_,h,fun M w u hu=> ?_⟩
  cases hu
  exact ⟨_,by simp [Op.unary,Op.intArith]<;>rfl,by simpa using .int _ _⟩
 ·refine ⟨_,h,fun M w u hu=> ?_⟩
  cases hu
  exact ⟨_,by simp [Op.unary,Op.intBits]<;>rfl,.int _ _⟩
 ·refine ⟨_,h,fun M w u hu=> ?_⟩
  cases hu
  exact ⟨_,by simp [Op.unary]<;>rfl,.bool _⟩
 ·cases h
end
theorem eJ {a b:WO} (h:ez a b=true):a=b:=by cases a<;>cases b<;>first|rfl|(simp [ez] at h)
theorem nz {k:WO} :∀ {es:List (Int×D)} {l:List MapEntry},lD k es l→es.length=l.length
 | [],[],_=>rfl
 | [],_::_,h=>h.elim
 |(_,_)::_,[],h=>h.elim
 |(n,d)::r,e::s,h=>by simp [nz h.2.2]
theorem qi:jb [] 0:=⟨rfl,fun i e h=>by simp at h⟩
theorem gL {l:List MapEntry} {c j:Nat} {f:MapEntry→MapEntry} (hf:∀e,(f e).born=e.born) (h:jb l c):jb (l.modify j f) c:=by
 refine ⟨by rw [List.length_modify];exact h.1,fun i e he=> ?_⟩
 rw [List.getElem?_modify] at he
 cases hl:l[i]? with
 |none=>rw [hl] at he;cases he
 |some e0=>
  rw [hl] at he
  have h0:=h.2 i e0 hl
  simp only [Option.map_eq_map,Wv,Vs] at he
  split at he
  ·rw [← he,hf];exact h0
  ·rw [← he];exact h0
theorem iV {l:List MapEntry} {c:Nat} {k v:Value} (h:jb l c):jb (l++ [⟨k,v,c⟩]) (c+1):=by
 refine ⟨by simp [h.1],fun i e he=> ?_⟩
 rw [Wh] at he
 split at he
 ·exact h.2 i e he
 ·rename_i hi
  have:i=l.length:=by
   rcases Nat.lt_trichotomy i l.length with q|q|q
   ·exact absurd q hi
   ·exact q
   ·rw [Vw (by simp;omega)] at he;cases he
  subst this
  simp only [Nat.sub_self,Wd,Vs] at he
  rw [← he];exact h.1
theorem Cg {OI:Array MapEntry} {c:Nat} (h:jb OI.toList c) {j:Nat} (hj:j<OI.size):OI.findIdx? (fun e=>((e.born:Int)==(j:Int)))=some j:=by
 rw [Array.findIdx?_eq_some_iff_getElem]
 refine ⟨hj,?_,fun i hi=> ?_⟩
 ·have:=h.2 j OI[j] (by simp [hj])
  simp [this]
 ·have:=h.2 i (OI[i]'(Nat.lt_trans hi hj)) (by simp [Nat.lt_trans hi hj])
  simp only [this]
  simp
  omega
theorem xI {OI:Array MapEntry} {j:Nat} {e0:MapEntry} {kv:Value} (he:OI[j]? =some e0) (hk:e0.key=kv):(OI.modify j fun e=> { e with key:=kv })=OI:=by
 apply Array.ext_getElem?
 intro i
 rw [Array.getElem?_modify]
 split
 ·rename_i hji
  subst hji
  rw [he]
  simp [← hk]
 ·rfl
theorem jk {P:Program} {ty kt et:TypeId} {b:Nat} {OI:Array MapEntry} {clock j:Nat} {kv v:Value} {e0:MapEntry} {w:World} (t1:P.underlying ty=some (.map kt et)) (cq:w.heap[b]? =some (.map OI clock))
  (Pk:(Instr.checkKey false 10000 kt kv).run P w= .ok () w) (Pb:(We kt kv OI.toList).run P w= .ok (some (j,v)) w) (he:OI[j]? =some e0) (hk:e0.key=kv) (hs:WH 10000 kv kv=true) (hb:e0.born=j):
  (Instr.mapEntry ty (.map (some b)) kv).run P w= .ok (.tuple #[v,.int .i64 j]) (bh w b (.map OI clock)):=by
 have hm:=xI he hk
 simp [Instr.mapEntry,run_underlying t1,run_getObj_map w b OI clock cq,Pk,Pb,he,hk,Instr.keyThatStays,hs,Ww _ cq,bh,hm,goInt,hb]
theorem jm {P:Program} {ty kt et:TypeId} {b:Nat} {OI:Array MapEntry} {clock:Nat} {kv zv:Value} {zi:TypeInfo} {w:World} (t1:P.underlying ty=some (.map kt et)) (cq:w.heap[b]? =some (.map OI clock))
  (Pk:(Instr.checkKey false 10000 kt kv).run P w= .ok () w) (Pb:(We kt kv OI.toList).run P w= .ok none w) (hz:P.info? et=some zi) (RV:zi.zero=some zv):
  (Instr.mapEntry ty (.map (some b)) kv).run P w= .ok (.tuple #[zv,.int .i64 clock]) (bh w b (.map (OI.push ⟨kv,zv,clock⟩) (clock+1))):=by
 simp [Instr.mapEntry,run_underlying t1,run_getObj_map w b OI clock cq,Pk,Pb,Ww _ cq,bh,goInt,dp hz RV]
theorem pb {P:Program} {ty:TypeId} {b:Nat} {OI:Array MapEntry} {clock j:Nat} {q:WO} {v:Value} {w:World} (cq:w.heap[b]? =some (.map OI clock)) (hb:jb OI.toList clock) (hj:j<OI.size):
  (Instr.entryStore ty (.map (some b)) (.int q j) v).run P w= .ok () (bh w b (.map (OI.modify j fun e=> { e with val:=v }) clock)):=by
 simp [Instr.entryStore,run_getObj_map w b OI clock cq,asInt,asIntOf,Cg hb hj,Ww _ cq,bh]
theorem rC {k:WO} :∀ {es:List (Int×D)} {l:List MapEntry} (j:Nat) {d:D} {v:Value},lD k es l→gj d=some v→lD k (wV es j d) (l.modify j fun e=> { e with val:=v })
 | [],[],j,_,_,_,_=>by cases j<;>exact trivial
 | [],_::_,_,_,_,h,_=>h.elim
 |(_,_)::_,[],_,_,_,h,_=>h.elim
 |(n,a)::r,e::s,0,d,v,h,hd=>by
  rw [List.modify_zero_cons]
  exact ⟨h.1,hd,h.2.2⟩
 |(n,a)::r,e::s,j+1,d,v,h,hd=>by
  rw [List.modify_succ_cons]
  exact ⟨h.1,h.2.1,rC j h.2.2 hd⟩
theorem rD {ks:List LK} :∀ {es:List (List D×D)} {l:List MapEntry} (j:Nat) {d:D} {v:Value},kz ks es l→gj d=some v→kz ks (wV es j d) (l.modify j fun e=> { e with val:=v })
 | [],[],j,_,_,_,_=>by cases j<;>exact trivial
 | [],_::_,_,_,_,h,_=>h.elim
 |(_,_)::_,[],_,_,_,h,_=>h.elim
 |(n,a)::r,e::s,0,d,v,h,hd=>by
  rw [List.modify_zero_cons]
  exact ⟨h.1,hd,h.2.2⟩
 |(n,a)::r,e::s,j+1,d,v,h,hd=>by
  rw [List.modify_succ_cons]
  exact ⟨h.1,h.2.1,rD j h.2.2 hd⟩
theorem nA {ks:List LK} :∀ {es:List (List D×D)} {l:List MapEntry},kz ks es l→es.length=l.length
 | [],[],_=>rfl
 | [],_::_,h=>h.elim
 |(_,_)::_,[],h=>h.elim
 |(n,d)::r,e::s,h=>by simp [nA h.2.2]
theorem kH {M:MM} {d:D} {v:Value} (h:gj d=some v):bo M d v:=by
 cases d<;>simp only [gj,Vs,reduceCtorEq] at h<;>subst h
 ·exact .int _ _
 ·exact .bool _
 ·exact .str _
theorem kj {M:MM} {d:D} {v:Value} (h:bo M d v) (hs:gD d=true):gj d=some v:=by
 cases h<;>first|rfl|(simp [gD] at hs)
theorem kZ {k q:WO} {n:Int} :∀ {es:List (Int×D)} {l:List MapEntry} (i:Nat),lD k es l→
  (∃j v d e,(dR es n=some d∧pO es n=j)∧gj d=some v∧Instr.findNow (.int q) (.int k n) l i=some (some (i+j,v))∧l[j]? =some e∧e.key= .int k n∧∀v2 d2,gj d2=some v2→lD k (fq es n d2) (l.modify j fun e=> { e with key:= .int k n,val:=v2 }))∨
  ((dR es n=none∧pO es n=es.length)∧Instr.findNow (.int q) (.int k n) l i=some none∧∀v2 d2 c,gj d2=some v2→lD k (fq es n d2) (l++ [⟨.int k n,v2,c⟩]))
 | [],[],i,_=> .inr ⟨⟨rfl,rfl⟩,rfl,fun v2 d2 c h=>⟨rfl,h,trivial⟩⟩
 | [],_::_,_,h=>h.elim
 |(_,_)::_,[],_,h=>h.elim
 |(a,d)::r,e::s,i,h=>by
  obtain ⟨h1,h2,h3⟩:=h
  have Pn:Instr.sameNow (.int q) (.int k n) e.key=some (n==a):=by rw [h1];simp [Instr.sameNow]
  by_cases hn:(n==a)=true
  ·left
   have hna:n=a:=by simpa using hn
   refine ⟨0,e.val,d,e,?_,h2,?_,rfl,by rw [h1,hna],?_⟩
   ·simp [dR,pO,hn]
   ·simp [Instr.findNow,Pn,hn]
   ·intro v2 d2 hd
    simp only [fq,hn,List.modify_zero_cons]
    exact ⟨rfl,hd,h3⟩
  ·have RH:(n==a)=false:=by simpa using hn
   rcases kZ (q:=q) (n:=n) (i+1) h3 with ⟨j,v,d',e',k1,k2,k3,k4,k5,k6⟩|⟨k1,k2,k3⟩
   ·left
    refine ⟨j+1,v,d',e',?_,k2,?_,by simpa using k4,k5,?_⟩
    ·simp [dR,pO,RH,k1]
    ·simp only [Instr.findNow,Pn,RH]
     rw [k3,show i+1+j=i+(j+1) by omega]
    ·intro v2 d2 hd
     simp only [fq,RH,List.modify_succ_cons]
     exact ⟨h1,h2,k6 v2 d2 hd⟩
   ·right
    refine ⟨?_,?_,?_⟩
    ·simp [dR,pO,RH,k1]
    ·simp only [Instr.findNow,Pn,RH,k2]
    ·intro v2 d2 c hd
     simp only [fq,RH,List.cons_append]
     exact ⟨h1,h2,k3 v2 d2 c hd⟩
section
variable {P:Program} {o:Oper} {ρ:Operand→D}
theorem iO {t:TypeId} {k:WO} {et:TypeId} (h:gH P t=some (k,et)):∃kt,P.underlying t=some (.map kt et)∧P.underlying kt=some (.int k):=by
 unfold gH at h
 split at h
 ·rename_i kt et' ht
  split at h
  ·rename_i k' hk
   simp only [Vs,Prod.mk.injEq] at h
   obtain ⟨rfl,rfl⟩:=h
   exact ⟨kt,ht,hk⟩
  ·cases h
 ·cases h
theorem ft {kt:TypeId} {q:WO} (hk:P.underlying kt=some (.int q)) (b:Bool) (v:Value) (w:World):(Instr.checkKey b 10000 kt v).run P w= .ok () w:=by
 unfold Instr.checkKey
 simp [run_underlying hk]
theorem xB {ty:TypeId} {r:Option Operand} {k:WO} {et:TypeId} (ho:o.op= .makeMap ty r) (hk:gH P ty=some (k,et)) (hr:∀x,r=some x→∃q n,ρ x= .int q n):
  dY P o ρ (.new (.mp k []) fun id=> .bp id):=by
 intro w0 M own σ w a id hw OP OU next Q hn
 obtain ⟨kt,h1,h2⟩:=iO hk
 have OY:(execOp a.eval o).run P w= .ok (.value (.map (some w.heap.size))) (w.alloc (.map #[] 0)):=by
  cases r with
  |none=>simp [execOp,ho,Instr.makeMap]
  |some x=>
   obtain ⟨q,n,hx⟩:=hr x rfl
   have:=ct (OP x (by simp [ho,Vx])) hx
   simp [execOp,ho,Instr.makeMap,run_underlying h1,this,asInt,asIntOf]
 have k:=hw.Du OU.1 (o:= .mp k []) rfl ⟨trivial,qi⟩
 exact cI OY (hn _ _ _ _ (MM.dt OU.1) ⟨fun j hj=>by simp [MM.bf,hj],fun _ _=>rfl⟩ k (.bp (by simp [MM.bf])))
theorem AP {ty:TypeId} {m kx v:Operand} {id:Nat} {q:WO} {n:Int} {es:List (Int×D)} {et:TypeId} (ho:o.op= .insert ty m kx v∨o.op= .mapUpdate ty m kx v) (hk:gH P ty=some (q,et))
  (hm:ρ m= .bp id) (hx:ρ kx= .int q n) (hv:gD (ρ v)=true):dY P o ρ (.dE id (.mp q es) (.mp q (fq es n (ρ v))) .undef):=by
 intro w0 M own σ w a i hw hr OU next Q hn
 obtain ⟨kt,t1,t2⟩:=iO hk
 obtain ⟨b,OI,clock,k⟩:=hw.mp id _ (by rw [(OU:σ id=_)];rfl)
 have QB:m∈o.op.operands∧kx∈o.op.operands∧v∈o.op.operands:=by rcases ho with h|h<;>simp [h,Vx]
 have Pt:=hr m QB.1
 have P3:=ct (hr kx QB.2.1) hx
 have RJ:=kj (hr v QB.2.2) hv
 rw [hm] at Pt
 generalize hva:a.eval m=va at Pt
 cases Pt with
 |bp hb=>
  rename_i b'
  rw [k.box] at hb
  obtain rfl:=Vk hb
  have OX:(execOp a.eval o).run P w=((Instr.mapUpdate ty (.map (some b)) (.int q n) (a.eval v)).run P w).andThen fun _ w'=> .ok .skip w':=by
   rcases ho with h|h<;>simp [execOp,h,hva,P3]
  rcases kZ (q:=q) (n:=n) 0 k.fits.1 with ⟨j,v0,d0,e0,k1,k2,k3,k4,k5,k6⟩|⟨k1,k2,k3⟩
  ·have PV:lD q (fq es n (ρ v)) (OI.modify j fun e=> { e with key:= .int q n,val:=a.eval v }).toList:=by
    rw [WA];exact k6 _ _ RJ
   have Pv:=hw.iW k clock (o':= .mp q (fq es n (ρ v))) rfl ⟨PV,by rw [WA];exact gL (fun _=>rfl) k.fits.2⟩
   refine jd (w':=bh w b (.map (OI.modify j fun e=> { e with key:= .int q n,val:=a.eval v }) clock)) ?_ (hn undef M own _ (.refl M) ⟨rfl,fun _ _=>rfl⟩ Pv (.undef _))
   rw [OX]
   have Rl:(We kt (.int q n) OI.toList).run P w= .ok (some (j,v0)) w:=by
    simp [We,run_underlying t2,k3]
   have Sy:OI[j]? =some e0:=by simpa using k4
   have Uu:WH 10000 (Value.int q n) (Value.int q n)=true:=by simp [WH]
   simp [Instr.mapUpdate,run_underlying t1,run_getObj_map w b OI clock k.cq,ft t2,Rl,Sy,k5,Instr.keyThatStays,Uu,Ww _ k.cq,bh]
  ·have PV:lD q (fq es n (ρ v)) (OI.push ⟨.int q n,a.eval v,clock⟩).toList:=by
    rw [Array.toList_push];exact k3 _ _ _ RJ
   have Pv:=hw.iW k (clock+1) (o':= .mp q (fq es n (ρ v))) rfl ⟨PV,by rw [Array.toList_push];exact iV k.fits.2⟩
   refine jd (w':=bh w b (.map (OI.push ⟨.int q n,a.eval v,clock⟩) (clock+1))) ?_ (hn undef M own _ (.refl M) ⟨rfl,fun _ _=>rfl⟩ Pv (.undef _))
   rw [OX]
   have Rl:(We kt (.int q n) OI.toList).run P w= .ok none w:=by
    simp [We,run_underlying t2,k2]
   simp [Instr.mapUpdate,run_underlying t1,run_getObj_map w b OI clock k.cq,ft t2,Rl,Ww _ k.cq,bh]
theorem xz {ty:TypeId} {m kx:Operand} {ok:Bool} {id:Nat} {q:WO} {n:Int} {es:List (Int×D)} {et:TypeId} {zd:D} {r:Option D} (ho:o.op= .lookup ty m kx ok) (hk:gH P ty=some (q,et)) (hz:gg P et=some zd)
  (hm:ρ m= .bp id) (hx:ρ kx= .int q n) (hl:dR es n=r):dY P o ρ (.read id (.mp q es) (match ok with|true=> .aM [r.getD zd,.bool r.isSome]|false=>r.getD zd)):=by
 intro w0 M own σ w a i hw hr OU next Q hn
 obtain ⟨kt,t1,t2⟩:=iO hk
 obtain ⟨b,OI,clock,k⟩:=hw.mp id _ (by rw [(OU:σ id=_)];rfl)
 have Pt:=hr m (by simp [ho,Vx])
 have P3:=ct (hr kx (by simp [ho,Vx])) hx
 rw [hm] at Pt
 generalize hva:a.eval m=va at Pt
 cases Pt with
 |bp hb=>
  rename_i b'
  rw [k.box] at hb
  obtain rfl:=Vk hb
  obtain ⟨zi,zv,hzi,RV,rfl⟩:=eV hz
  have main:∃v,bo M (r.getD (mb zv)) v∧(execOp a.eval o).run P w= .ok (.value (if ok then .tuple #[v,.bool r.isSome] else v)) w:=by
   rcases kZ (q:=q) (n:=n) 0 k.fits.1 with ⟨j,v0,d0,e0,k1,k2,k3,_⟩|⟨k1,k2,_⟩
   ·rw [k1.1] at hl
    subst hl
    refine ⟨v0,kH k2,?_⟩
    have Rl:(We kt (.int q n) OI.toList).run P w= .ok (some (j,v0)) w:=by
     simp [We,run_underlying t2,k3]
    simp [execOp,ho,Instr.lookup,run_underlying t1,hva,P3,run_getObj_map w b OI clock k.cq,ft t2,Rl]
   ·rw [k1.1] at hl
    subst hl
    refine ⟨zv,eR zv,?_⟩
    have Rl:(We kt (.int q n) OI.toList).run P w= .ok none w:=by
     simp [We,run_underlying t2,k2]
    simp [execOp,ho,Instr.lookup,run_underlying t1,hva,P3,run_getObj_map w b OI clock k.cq,ft t2,Rl,dp hzi RV]
  obtain ⟨v,h1,h2⟩:=main
  refine cI h2 (hn _ M own w (.refl M) ⟨rfl,rfl⟩ hw ?_)
  cases ok
  ·exact h1
  ·refine .aM rfl (fun i d u p q=> ?_)
   match i,p,q with
   |0,p,q=>simp at p q;subst p q;exact h1
   |1,p,q=>simp at p q;subst p q;exact .bool _
   |i+2,p,_=>simp at p
end
theorem kI:∀ {a b:List LK},ko a b=true→a=b
 | [],[],_=>rfl
 | [],_::_,h=>by simp [ko] at h
 |_::_,[],h=>by simp [ko] at h
 |a::x,b::y,h=>by
  simp only [ko,Vi] at h
  rw [kI h.2]
  congr 1
  have h1:=h.1
  cases a<;>cases b<;>simp only [LK.same,V5] at h1
  ·rfl
  ·rw [eJ h1]
  ·rfl
theorem qP {M:MM} :∀ {ks:List LK} {cs:List D} {vs:List Value},fm ks cs=true→cs.length=vs.length→(∀(i:Nat) (d:D) (v:Value),cs[i]? =some d→vs[i]? =some v→bo M d v)→gU cs=some vs
 |_,[],[],_,_,_=>rfl
 |_,[],_::_,_,h,_=>by simp at h
 |_,_::_,[],_,h,_=>by simp at h
 | [],_::_,_::_,h,_,_=>by simp [fm] at h
 |k::ks,d::cs,v::vs,h,hl,hr=>by
  simp only [fm,Vi] at h
  have h0:=hr 0 d v rfl rfl
  have ih:=qP h.2 (by simpa using hl) fun i d v a b=>hr (i+1) d v (by simpa using a) (by simpa using b)
  have hd:gj d=some v:=by
   have h1:=h.1
   cases k<;>cases d<;>simp only [LK.fits,V5] at h1<;>cases h0<;>rfl
  simp only [gU,hd,ih]
theorem wj {a b:D} {u v:Value} (ha:gj a=some u) (hb:gj b=some v):ak a b=jQ u v:=by
 cases a<;>simp only [gj,Vs,reduceCtorEq] at ha<;>subst ha<;>cases b<;>simp only [gj,Vs,reduceCtorEq] at hb<;>subst hb<;>rfl
theorem lE:∀ {a b:List D} {u v:List Value},gU a=some u→gU b=some v→ae a b=cj u v
 | [],[],u,v,ha,hb=>by simp only [gU,Vs] at ha hb;subst ha hb;rfl
 | [],y::b,u,v,ha,hb=>by
  simp only [gU,Vs] at ha hb
  subst ha
  split at hb
  ·obtain rfl:=Vk hb;rfl
  ·cases hb
 |x::a,[],u,v,ha,hb=>by
  simp only [gU,Vs] at ha hb
  subst hb
  split at ha
  ·obtain rfl:=Vk ha;rfl
  ·cases ha
 |x::a,y::b,u,v,ha,hb=>by
  simp only [gU] at ha hb
  split at ha
  ·rename_i u0 ul h1 h2
   obtain rfl:=Vk ha
   split at hb
   ·rename_i v0 vl h3 h4
    obtain rfl:=Vk hb
    simp only [ae,cj,wj h1 h3,lE h2 h4]
   ·cases hb
  ·cases ha
theorem jI {k:LK} {ks:List LK} (h:lA (k::ks)=true):lA ks=true∧k≠ .str:=by
 cases k
 ·exact ⟨h,by simp⟩
 ·exact ⟨h,by simp⟩
 ·simp [lA] at h
theorem od:∀ {ks:List LK} {u v:List Value},lA ks=true→cC ks u→cC ks v→cj u v=true→u=v
 | [],[],[],_,_,_,_=>rfl
 | [],_::_,_,_,h,_,_=>h.elim
 | [],[],_::_,_,_,h,_=>h.elim
 |_::_,[],_,_,h,_,_=>h.elim
 |_::_,_::_,[],_,_,h,_=>h.elim
 |k::ks,a::u,b::v,hs,hu,hv,h=>by
  simp only [cj,Vi] at h
  rw [od (jI hs).1 hu.2 hv.2 h.2]
  congr 1
  have h1:=hu.1
  have h2:=hv.1
  have h3:=h.1
  cases k<;>cases a<;>simp only [LK.ky] at h1<;>cases b<;>simp only [LK.ky] at h2
  ·simp only [jQ,beq_iff_eq] at h3;rw [h3]
  ·simp only [jQ,beq_iff_eq] at h3;rw [h3,← h1,← h2]
  ·exact absurd rfl (jI hs).2
theorem lu:∀ {ks:List LK} {u:List Value} (n:Nat),lA ks=true→cC ks u→∀p∈u.zip u,WH n p.1 p.2=true
 | [],[],_,_,_,p,hp=>by simp at hp
 | [],_::_,_,_,h,_,_=>h.elim
 |_::_,[],_,_,h,_,_=>h.elim
 |k::ks,a::u,n,hs,h,p,hp=>by
  rw [List.zip_cons_cons,List.mem_cons] at hp
  rcases hp with rfl|hp
  ·have h1:=h.1
   have h2:=(jI hs).2
   cases k
   ·cases a<;>simp only [LK.ky] at h1;simp [WH]
   ·cases a<;>simp only [LK.ky] at h1;simp [WH]
   ·exact absurd rfl h2
  ·exact lu n (jI hs).1 h.2 p hp
theorem mg {ks:List LK} {x:Array Value} (hs:lA ks=true) (h:cC ks x.toList):WH 10000 (.agg x) (.agg x)=true:=by
 show WH (9999+1) (.agg x) (.agg x)=true
 simp only [WH,beq_self_eq_true,Bool.true_and,VP]
 exact fun p hp=>lu 9999 hs h p hp
theorem jO {ks:List LK} :∀ {es:List (List D×D)} {l:List MapEntry},kz ks es l→∀e∈l,∃y:Array Value,e.key= .agg y∧cC ks y.toList
 | [],[],_,e,he=>by simp at he
 | [],_::_,h,_,_=>h.elim
 |(_,_)::_,[],h,_,_=>h.elim
 |(n,d)::r,e::s,h,e',he=>by
  rcases List.mem_cons.mp he with rfl|he
  ·obtain ⟨y,h1,_,h3⟩:=h.1
   exact ⟨y,h1,h3⟩
  ·exact jO h.2.2 e' he
theorem jP {ks:List LK} {x:Array Value} {cs:List D} (hs:lA ks=true) (hx:gU cs=some x.toList) (hf:cC ks x.toList):∀ {es:List (List D×D)} {l:List MapEntry} (i:Nat),kz ks es l→
  (∃j v d e,(hB es cs=some d∧pN es cs=j)∧gj d=some v∧kA x.toList l i=some (i+j,v)∧l[j]? =some e∧e.key= .agg x∧∀v2 d2,gj d2=some v2→kz ks (gw es cs d2) (l.modify j fun e=> { e with key:= .agg x,val:=v2 }))∨
  ((hB es cs=none∧pN es cs=es.length)∧kA x.toList l i=none∧∀v2 d2 c,gj d2=some v2→kz ks (gw es cs d2) (l++ [⟨.agg x,v2,c⟩]))
 | [],[],i,_=> .inr ⟨⟨rfl,rfl⟩,rfl,fun v2 d2 c h=>⟨⟨x,rfl,hx,hf⟩,h,trivial⟩⟩
 | [],_::_,_,h=>h.elim
 |(_,_)::_,[],_,h=>h.elim
 |(a,d)::r,e::s,i,h=>by
  obtain ⟨⟨y,hk,hy,hfy⟩,h2,h3⟩:=h
  have heq:ae cs a=cj x.toList y.toList:=lE hx hy
  cases hn:cj x.toList y.toList with
  |true=>
   left
   have hxy:x=y:=Array.ext' (od hs hf hfy hn)
   refine ⟨0,e.val,d,e,?_,h2,?_,rfl,by rw [hk,hxy],?_⟩
   ·simp [hB,pN,heq,hn]
   ·simp [kA,hk,hn]
   ·intro v2 d2 hd
    simp only [gw,heq,hn,List.modify_zero_cons]
    exact ⟨⟨x,rfl,hx,hf⟩,hd,h3⟩
  |false=>
   rcases jP hs hx hf (i+1) h3 with ⟨j,v,d',e',k1,k2,k3,k4,k5,k6⟩|⟨k1,k2,k3⟩
   ·left
    refine ⟨j+1,v,d',e',?_,k2,?_,by simpa using k4,k5,?_⟩
    ·simp [hB,pN,heq,hn,k1]
    ·simp only [kA,hk,hn]
     rw [k3,show i+1+j=i+(j+1) by omega]
    ·intro v2 d2 hd
     simp only [gw,heq,hn,List.modify_succ_cons]
     exact ⟨⟨y,hk,hy,hfy⟩,h2,k6 v2 d2 hd⟩
   ·right
    refine ⟨?_,?_,?_⟩
    ·simp [hB,pN,heq,hn,k1]
    ·simp only [kA,hk,hn,k2]
    ·intro v2 d2 c hd
     simp only [gw,heq,hn,List.cons_append]
     exact ⟨⟨y,hk,hy,hfy⟩,h2,k3 v2 d2 c hd⟩
theorem l4 {M:MM} {ks:List LK} {cs:List D} {v:Value} (h:bo M (.agg cs) v) (hf:fm ks cs=true):∃x:Array Value,v= .agg x∧gU cs=some x.toList∧cC ks x.toList:=by
 cases h with
 |agg hl hr=>
  rename_i vs
  have l1:cs.length=vs.toList.length:=by simpa using hl
  have r1:∀(i:Nat) (d:D) (v:Value),cs[i]? =some d→vs.toList[i]? =some v→bo M d v:=fun i d v a b=>hr i d v a (by simpa using b)
  exact ⟨vs,rfl,qP hf l1 r1,mG hf l1 r1⟩
section
variable {P:Program} {o:Oper} {ρ:Operand→D}
theorem iP {t kt et:TypeId} (h:gI P t=some (kt,et)):P.underlying t=some (.map kt et):=by
 unfold gI at h
 split at h
 ·rename_i kt' et' ht
  obtain ⟨rfl,rfl⟩:=Prod.mk.inj (Vk h)
  exact ht
 ·cases h
theorem vr {ty:TypeId} {r:Option Operand} {ks:List LK} {kt et:TypeId} (ho:o.op= .makeMap ty r) (hk:gI P ty=some (kt,et)) (hr:∀x,r=some x→∃q n,ρ x= .int q n):
  dY P o ρ (.new (.mf ks []) fun id=> .bp id):=by
 intro w0 M own σ w a id hw OP OU next Q hn
 have h1:=iP hk
 have OY:(execOp a.eval o).run P w= .ok (.value (.map (some w.heap.size))) (w.alloc (.map #[] 0)):=by
  cases r with
  |none=>simp [execOp,ho,Instr.makeMap]
  |some x=>
   obtain ⟨q,n,hx⟩:=hr x rfl
   have:=ct (OP x (by simp [ho,Vx])) hx
   simp [execOp,ho,Instr.makeMap,run_underlying h1,this,asInt,asIntOf]
 have k:=hw.Du OU.1 (o:= .mf ks []) rfl ⟨trivial,qi⟩
 exact cI OY (hn _ _ _ _ (MM.dt OU.1) ⟨fun j hj=>by simp [MM.bf,hj],fun _ _=>rfl⟩ k (.bp (by simp [MM.bf])))
theorem xy {ty:TypeId} {m kx v:Operand} {id:Nat} {ks:List LK} {cs:List D} {es:List (List D×D)} {kt et:TypeId} (ho:o.op= .insert ty m kx v∨o.op= .mapUpdate ty m kx v) (hk:gI P ty=some (kt,et)) (hK:ia P kt ks)
  (hm:ρ m= .bp id) (hx:ρ kx= .agg cs) (hf:fm ks cs=true) (hv:gD (ρ v)=true):dY P o ρ (.dE id (.mf ks es) (.mf ks (gw es cs (ρ v))) .undef):=by
 intro w0 M own σ w a i hw hr OU next Q hn
 have t1:=iP hk
 obtain ⟨b,OI,clock,k⟩:=hw.mp id _ (by rw [(OU:σ id=_)];rfl)
 have QB:m∈o.op.operands∧kx∈o.op.operands∧v∈o.op.operands:=by rcases ho with h|h<;>simp [h,Vx]
 have Pt:=hr m QB.1
 have P3:=hr kx QB.2.1
 rw [hx] at P3
 obtain ⟨x,ex,sx,fx⟩:=l4 P3 hf
 have RJ:=kj (hr v QB.2.2) hv
 rw [hm] at Pt
 generalize hva:a.eval m=va at Pt
 cases Pt with
 |bp hb=>
  rename_i b'
  rw [k.box] at hb
  obtain rfl:=Vk hb
  have OX:(execOp a.eval o).run P w=((Instr.mapUpdate ty (.map (some b)) (.agg x) (a.eval v)).run P w).andThen fun _ w'=> .ok .skip w':=by
   rcases ho with h|h<;>simp [execOp,h,hva,ex]
  have Pb:=hK.find w x OI.toList fx (jO k.fits.1)
  have Pk:=hK.check w false x fx
  rcases jP hK.vx sx fx 0 k.fits.1 with ⟨j,v0,d0,e0,k1,k2,k3,k4,k5,k6⟩|⟨k1,k2,k3⟩
  ·have PV:kz ks (gw es cs (ρ v)) (OI.modify j fun e=> { e with key:= .agg x,val:=a.eval v }).toList:=by
    rw [WA];exact k6 _ _ RJ
   have Pv:=hw.iW k clock (o':= .mf ks (gw es cs (ρ v))) rfl ⟨PV,by rw [WA];exact gL (fun _=>rfl) k.fits.2⟩
   refine jd (w':=bh w b (.map (OI.modify j fun e=> { e with key:= .agg x,val:=a.eval v }) clock)) ?_ (hn undef M own _ (.refl M) ⟨rfl,fun _ _=>rfl⟩ Pv (.undef _))
   rw [OX]
   rw [k3,VT] at Pb
   have Sy:OI[j]? =some e0:=by simpa using k4
   simp [Instr.mapUpdate,run_underlying t1,run_getObj_map w b OI clock k.cq,Pk,Pb,Sy,k5,Instr.keyThatStays,mg hK.vx fx,Ww _ k.cq,bh]
  ·have PV:kz ks (gw es cs (ρ v)) (OI.push ⟨.agg x,a.eval v,clock⟩).toList:=by
    rw [Array.toList_push];exact k3 _ _ _ RJ
   have Pv:=hw.iW k (clock+1) (o':= .mf ks (gw es cs (ρ v))) rfl ⟨PV,by rw [Array.toList_push];exact iV k.fits.2⟩
   refine jd (w':=bh w b (.map (OI.push ⟨.agg x,a.eval v,clock⟩) (clock+1))) ?_ (hn undef M own _ (.refl M) ⟨rfl,fun _ _=>rfl⟩ Pv (.undef _))
   rw [OX]
   rw [k2] at Pb
   simp [Instr.mapUpdate,run_underlying t1,run_getObj_map w b OI clock k.cq,Pk,Pb,Ww _ k.cq,bh]
theorem vq {ty:TypeId} {m kx:Operand} {ok:Bool} {id:Nat} {ks:List LK} {cs:List D} {es:List (List D×D)} {kt et:TypeId} {zd:D} {r:Option D} (ho:o.op= .lookup ty m kx ok) (hk:gI P ty=some (kt,et)) (hK:ia P kt ks)
  (hz:gg P et=some zd) (hm:ρ m= .bp id) (hx:ρ kx= .agg cs) (hf:fm ks cs=true) (hl:hB es cs=r):dY P o ρ (.read id (.mf ks es) (match ok with|true=> .aM [r.getD zd,.bool r.isSome]|false=>r.getD zd)):=by
 intro w0 M own σ w a i hw hr OU next Q hn
 have t1:=iP hk
 obtain ⟨b,OI,clock,k⟩:=hw.mp id _ (by rw [(OU:σ id=_)];rfl)
 have Pt:=hr m (by simp [ho,Vx])
 have P3:=hr kx (by simp [ho,Vx])
 rw [hx] at P3
 obtain ⟨x,ex,sx,fx⟩:=l4 P3 hf
 rw [hm] at Pt
 generalize hva:a.eval m=va at Pt
 cases Pt with
 |bp hb=>
  rename_i b'
  rw [k.box] at hb
  obtain rfl:=Vk hb
  obtain ⟨zi,zv,hzi,RV,rfl⟩:=eV hz
  have Pb:=hK.find w x OI.toList fx (jO k.fits.1)
  have Pk:=fun em=>hK.check w em x fx
  have main:∃v,bo M (r.getD (mb zv)) v∧(execOp a.eval o).run P w= .ok (.value (if ok then .tuple #[v,.bool r.isSome] else v)) w:=by
   rcases jP hK.vx sx fx 0 k.fits.1 with ⟨j,v0,d0,e0,k1,k2,k3,_⟩|⟨k1,k2,_⟩
   ·rw [k1.1] at hl
    subst hl
    rw [k3] at Pb
    refine ⟨v0,kH k2,?_⟩
    simp [execOp,ho,Instr.lookup,run_underlying t1,hva,ex,run_getObj_map w b OI clock k.cq,Pk,Pb]
   ·rw [k1.1] at hl
    subst hl
    rw [k2] at Pb
    refine ⟨zv,eR zv,?_⟩
    simp [execOp,ho,Instr.lookup,run_underlying t1,hva,ex,run_getObj_map w b OI clock k.cq,Pk,Pb,dp hzi RV]
  obtain ⟨v,h1,h2⟩:=main
  refine cI h2 (hn _ M own w (.refl M) ⟨rfl,rfl⟩ hw ?_)
  cases ok
  ·exact h1
  ·refine .aM rfl (fun i d u p q=> ?_)
   match i,p,q with
   |0,p,q=>simp at p q;subst p q;exact h1
   |1,p,q=>simp at p q;subst p q;exact .bool _
   |i+2,p,_=>simp at p
end
section
variable {P:Program} {o:Oper} {ρ:Operand→D}
theorem oA {M:MM} {d:D} {v:Value} {j j':Nat} (h:bo M d v) (e:j=j'):bo M (.aM [d,.int .i64 (j:Int)]) (.tuple #[v,.int .i64 (j':Int)]):=by
 subst e
 refine .aM rfl (fun i d' u p q=> ?_)
 match i,p,q with
 |0,p,q=>simp at p q;subst p q;exact h
 |1,p,q=>simp at p q;subst p q;exact .int _ _
 |i+2,p,_=>simp at p
theorem AQ {ty:TypeId} {m kx:Operand} {id:Nat} {q:WO} {n:Int} {es:List (Int×D)} {et:TypeId} {zd:D} {r:Option D} (ho:o.op= .mapEntry ty m kx) (hk:gH P ty=some (q,et)) (hz:gg P et=some zd) (Q9:gD zd=true)
  (hm:ρ m= .bp id) (hx:ρ kx= .int q n) (hl:dR es n=r):dY P o ρ (match r with|some d=> .dE id (.mp q es) (.mp q es) (.aM [d,.int .i64 (pO es n)])|none=> .dE id (.mp q es) (.mp q (fq es n zd)) (.aM [zd,.int .i64 (pO es n)])):=by
 have main:∀ {w0:dm} {M:MM} {own:Nat→Option Nat} {σ:Nat→Ob} {w:World} {a:Act},bu w0 M own σ w→(∀x∈o.op.operands,bo M (ρ x) (a.eval x))→σ id= .mp q es→∃d v QL w',(execOp a.eval o).run P w= .ok (.value v) w'∧
   bo M (.aM [d,.int .i64 (pO es n)]) v∧bu w0 M own (dE σ id (.mp q QL)) w'∧((dR es n=some d∧QL=es)∨(dR es n=none∧d=zd∧QL=fq es n zd)):=by
  intro w0 M own σ w a hw hr OU
  obtain ⟨kt,t1,t2⟩:=iO hk
  obtain ⟨b,OI,clock,k⟩:=hw.mp id _ (by rw [OU];rfl)
  have Pt:=hr m (by simp [ho,Vx])
  have P3:=ct (hr kx (by simp [ho,Vx])) hx
  rw [hm] at Pt
  generalize hva:a.eval m=va at Pt
  cases Pt with
  |bp hb=>
   rename_i b'
   rw [k.box] at hb
   obtain rfl:=Vk hb
   obtain ⟨zi,zv,hzi,RV,rfl⟩:=eV hz
   have OX:(execOp a.eval o).run P w=((Instr.mapEntry ty (.map (some b)) (.int q n)).run P w).andThen fun v w'=> .ok (.value v) w':=by
    simp [execOp,ho,hva,P3]
   have Uu:WH 10000 (Value.int q n) (Value.int q n)=true:=by simp [WH]
   rcases kZ (q:=q) (n:=n) 0 k.fits.1 with ⟨j,v0,d0,e0,k1,k2,k3,k4,k5,_⟩|⟨k1,k2,k3⟩
   ·have Rl:(We kt (.int q n) OI.toList).run P w= .ok (some (j,v0)) w:=by
     simp [We,run_underlying t2,k3]
    have Sy:OI[j]? =some e0:=by simpa using k4
    have Pv:=hw.iW k clock (o':= .mp q es) rfl k.fits
    refine ⟨d0,_,es,_,?_,oA (kH k2) k1.2,Pv,.inl ⟨k1.1,rfl⟩⟩
    rw [OX,jk t1 k.cq (ft t2 _ _ _) Rl Sy k5 Uu (k.fits.2.2 j e0 k4)]
    rfl
   ·have Rl:(We kt (.int q n) OI.toList).run P w= .ok none w:=by
     simp [We,run_underlying t2,k2]
    have Sj:=kj (eR (M:=M) zv) Q9
    have Pv:=hw.iW k (clock+1) (ents':=OI.push ⟨.int q n,zv,clock⟩) (o':= .mp q (fq es n (mb zv))) rfl ⟨by rw [Array.toList_push];exact k3 _ _ _ Sj,by rw [Array.toList_push];exact iV k.fits.2⟩
    refine ⟨mb zv,_,_,_,?_,oA (eR zv) (j':=clock) (by rw [k1.2,nz k.fits.1,← k.fits.2.1]),Pv,.inr ⟨k1.1,rfl,rfl⟩⟩
    rw [OX,jm t1 k.cq (ft t2 _ _ _) Rl hzi RV]
    rfl
 cases r with
 |none=>
  intro w0 M own σ w a i hw hr OU next Q hn
  obtain ⟨d,v,QL,w',h1,h2,h3,⟨h4,_⟩|⟨_,rfl,rfl⟩⟩:=main hw hr OU
  ·rw [hl] at h4;cases h4
  ·exact cI h1 (hn _ M own w' (.refl M) ⟨rfl,fun _ _=>rfl⟩ h3 h2)
 |some d=>
  intro w0 M own σ w a i hw hr OU next Q hn
  obtain ⟨d',v,QL,w',h1,h2,h3,⟨h4,rfl⟩|⟨h4,_⟩⟩:=main hw hr OU
  ·rw [hl] at h4
   obtain rfl:=Vk h4
   exact cI h1 (hn _ M own w' (.refl M) ⟨rfl,fun _ _=>rfl⟩ h3 h2)
  ·rw [hl] at h4;cases h4
theorem xA {ty:TypeId} {m kx:Operand} {id:Nat} {ks:List LK} {cs:List D} {es:List (List D×D)} {kt et:TypeId} {zd:D} {r:Option D} (ho:o.op= .mapEntry ty m kx) (hk:gI P ty=some (kt,et)) (hK:ia P kt ks) (hz:gg P et=some zd) (Q9:gD zd=true)
  (hm:ρ m= .bp id) (hx:ρ kx= .agg cs) (hf:fm ks cs=true) (hl:hB es cs=r):dY P o ρ (match r with|some d=> .dE id (.mf ks es) (.mf ks es) (.aM [d,.int .i64 (pN es cs)])|none=> .dE id (.mf ks es) (.mf ks (gw es cs zd)) (.aM [zd,.int .i64 (pN es cs)])):=by
 have main:∀ {w0:dm} {M:MM} {own:Nat→Option Nat} {σ:Nat→Ob} {w:World} {a:Act},bu w0 M own σ w→(∀x∈o.op.operands,bo M (ρ x) (a.eval x))→σ id= .mf ks es→∃d v QL w',(execOp a.eval o).run P w= .ok (.value v) w'∧
   bo M (.aM [d,.int .i64 (pN es cs)]) v∧bu w0 M own (dE σ id (.mf ks QL)) w'∧((hB es cs=some d∧QL=es)∨(hB es cs=none∧d=zd∧QL=gw es cs zd)):=by
  intro w0 M own σ w a hw hr OU
  have t1:=iP hk
  obtain ⟨b,OI,clock,k⟩:=hw.mp id _ (by rw [OU];rfl)
  have Pt:=hr m (by simp [ho,Vx])
  have P3:=hr kx (by simp [ho,Vx])
  rw [hx] at P3
  obtain ⟨x,ex,sx,fx⟩:=l4 P3 hf
  rw [hm] at Pt
  generalize hva:a.eval m=va at Pt
  cases Pt with
  |bp hb=>
   rename_i b'
   rw [k.box] at hb
   obtain rfl:=Vk hb
   obtain ⟨zi,zv,hzi,RV,rfl⟩:=eV hz
   have OX:(execOp a.eval o).run P w=((Instr.mapEntry ty (.map (some b)) (.agg x)).run P w).andThen fun v w'=> .ok (.value v) w':=by
    simp [execOp,ho,hva,ex]
   have Pb:=hK.find w x OI.toList fx (jO k.fits.1)
   have Pk:=hK.check w false x fx
   rcases jP hK.vx sx fx 0 k.fits.1 with ⟨j,v0,d0,e0,k1,k2,k3,k4,k5,_⟩|⟨k1,k2,k3⟩
   ·rw [k3,VT] at Pb
    have Sy:OI[j]? =some e0:=by simpa using k4
    have Pv:=hw.iW k clock (o':= .mf ks es) rfl k.fits
    refine ⟨d0,_,es,_,?_,oA (kH k2) k1.2,Pv,.inl ⟨k1.1,rfl⟩⟩
    rw [OX,jk t1 k.cq Pk Pb Sy k5 (mg hK.vx fx) (k.fits.2.2 j e0 k4)]
    rfl
   ·rw [k2] at Pb
    have Sj:=kj (eR (M:=M) zv) Q9
    have Pv:=hw.iW k (clock+1) (ents':=OI.push ⟨.agg x,zv,clock⟩) (o':= .mf ks (gw es cs (mb zv))) rfl ⟨by rw [Array.toList_push];exact k3 _ _ _ Sj,by rw [Array.toList_push];exact iV k.fits.2⟩
    refine ⟨mb zv,_,_,_,?_,oA (eR zv) (j':=clock) (by rw [k1.2,nA k.fits.1,← k.fits.2.1]),Pv,.inr ⟨k1.1,rfl,rfl⟩⟩
    rw [OX,jm t1 k.cq Pk Pb hzi RV]
    rfl
 cases r with
 |none=>
  intro w0 M own σ w a i hw hr OU next Q hn
  obtain ⟨d,v,QL,w',h1,h2,h3,⟨h4,_⟩|⟨_,rfl,rfl⟩⟩:=main hw hr OU
  ·rw [hl] at h4;cases h4
  ·exact cI h1 (hn _ M own w' (.refl M) ⟨rfl,fun _ _=>rfl⟩ h3 h2)
 |some d=>
  intro w0 M own σ w a i hw hr OU next Q hn
  obtain ⟨d',v,QL,w',h1,h2,h3,⟨h4,rfl⟩|⟨h4,_⟩⟩:=main hw hr OU
  ·rw [hl] at h4
   obtain rfl:=Vk h4
   exact cI h1 (hn _ M own w' (.refl M) ⟨rfl,fun _ _=>rfl⟩ h3 h2)
  ·rw [hl] at h4;cases h4
theorem nR {ty:TypeId} {m kn v:Operand} {id:Nat} {q0:WO} {jj:Int} {ob Rf:Ob} (ho:o.op= .entryStore ty m kn v) (hm:ρ m= .bp id) (hx:ρ kn= .int q0 jj) (hv:gD (ρ v)=true) (h0:0≤jj)
  (SH:(∃q es,ob= .mp q es∧Rf= .mp q (wV es jj.toNat (ρ v))∧jj.toNat<es.length)∨(∃ks es,ob= .mf ks es∧Rf= .mf ks (wV es jj.toNat (ρ v))∧jj.toNat<es.length)):dY P o ρ (.dE id ob Rf .undef):=by
 intro w0 M own σ w a i hw hr OU next Q hn
 have Pt:=hr m (by simp [ho,Vx])
 have P3:=ct (hr kn (by simp [ho,Vx])) hx
 have RJ:=kj (hr v (by simp [ho,Vx])) hv
 rw [hm] at Pt
 obtain ⟨j,rfl⟩:∃j:Nat,jj=j:=⟨jj.toNat,by omega⟩
 have hσ:σ id=ob:=OU
 have main:∃b OI clock,M.box id=some b∧w.heap[b]? =some (.map OI clock)∧jb OI.toList clock∧j<OI.size∧bu w0 M own (dE σ id Rf) (bh w b (.map (OI.modify j fun e=> { e with val:=a.eval v }) clock)):=by
  rcases SH with ⟨q,es,rfl,rfl,hj⟩|⟨ks,es,rfl,rfl,hj⟩
  ·obtain ⟨b,OI,clock,k⟩:=hw.mp id _ (by rw [hσ];rfl)
   have hl:=nz k.fits.1
   refine ⟨b,OI,clock,k.box,k.cq,k.fits.2,by simp at hl hj;omega,?_⟩
   exact hw.iW k clock (ents':=OI.modify j fun e=> { e with val:=a.eval v }) rfl ⟨by rw [WA];exact rC _ k.fits.1 RJ,by rw [WA];exact gL (fun _=>rfl) k.fits.2⟩
  ·obtain ⟨b,OI,clock,k⟩:=hw.mp id _ (by rw [hσ];rfl)
   have hl:=nA k.fits.1
   refine ⟨b,OI,clock,k.box,k.cq,k.fits.2,by simp at hl hj;omega,?_⟩
   exact hw.iW k clock (ents':=OI.modify j fun e=> { e with val:=a.eval v }) rfl ⟨by rw [WA];exact rD _ k.fits.1 RJ,by rw [WA];exact gL (fun _=>rfl) k.fits.2⟩
 obtain ⟨b,OI,clock,Q2,hblk,hborn,hj,Pv⟩:=main
 generalize hva:a.eval m=va at Pt
 cases Pt with
 |bp hb=>
  rename_i b'
  rw [Q2] at hb
  obtain rfl:=Vk hb
  refine jd (w':=bh w b (.map (OI.modify j fun e=> { e with val:=a.eval v }) clock)) ?_ (hn undef M own _ (.refl M) ⟨rfl,fun _ _=>rfl⟩ Pv (.undef _))
  simp [execOp,ho,hva,P3,pb hblk hborn hj]
end
section
variable {P:Program} {o:Oper} {ρ:Operand→D}
theorem qE (z:Array Value) (n i:Nat) (v:Value) (h:(madeCells z n)[i]? =some v) (hz:0<z.size):z[i%z.size]? =some v∧i<n:=by
 unfold madeCells at h
 rw [Array.getElem?_map,Vz] at h
 obtain ⟨j,hj,rfl⟩:=h
 rw [Array.getElem?_eq_some_iff] at hj
 obtain ⟨h1,h2⟩:=hj
 rw [Array.getElem_range] at h2
 subst h2
 rw [Array.size_range] at h1
 have hm:=Nat.mod_lt i hz
 refine ⟨?_,h1⟩
 rw [getElem!_pos z (i%z.size) hm,Array.getElem?_eq_getElem hm]
theorem vX {zc:List D} (hz:0<zc.length):∀(n i:Nat) (d:D),(Vc n zc).flatten[i]? =some d→zc[i%zc.length]? =some d
 |0,i,d,h=>by simp at h
 |n+1,i,d,h=>by
  rw [List.replicate_succ,List.flatten_cons,Wh] at h
  split at h
  ·rename_i hi
   rw [Nat.mod_eq_of_lt hi];exact h
  ·rename_i hi
   have:=vX hz n _ d h
   rwa [← Nat.mod_eq_sub_mod (by omega)] at this
theorem CU {zc:List D} (hz:0<zc.length) (n i:Nat) (d:D) (h:(sI n zc)[i]? =some d):zc[i%zc.length]? =some d:=by
 unfold sI at h
 split at h
 ·rename_i d0
  rw [List.getElem?_replicate] at h
  split at h
  ·simp only [Vs] at h;subst h;simp [Nat.mod_one]
  ·cases h
 ·exact vX hz n i d h
theorem vW (zc:List D):∀n:Nat,((Vc n zc).flatten).length=n*zc.length
 |0=>by simp
 |n+1=>by rw [List.replicate_succ,List.flatten_cons,Vd,vW zc n,Nat.succ_mul];omega
theorem CT (zc:List D) (n:Nat):(sI n zc).length=n*zc.length:=by
 unfold sI
 split
 ·simp
 ·exact vW zc n
theorem FB {ty e:TypeId} {l c:Operand} {q q':WO} {n:Int} {zd:D} {zc:List D} (ho:o.op= .makeSlice ty l c) (ht:P.underlying ty=some (.slice e)) (hk:known P e=true) (hz:gg P e=some zd) (RK:zd.cells=some zc)
  (hlen:zc.length=P.cellsOf e) (O5:0<zc.length) (Tu:P.bytesOf e≤65536) (hl:ρ l= .int q n) (hc:ρ c= .int q' n) (h0:0≤n) (h1:n≤2147483648):
  dY P o ρ (.new (.box (sI n.toNat zc)) fun id=> .bR id (P.cellsOf e) n.toNat):=by
 intro w0 M own σ w a id hw hr OU next Q hn
 obtain ⟨i,v,hi,hv,rfl⟩:=eV hz
 have r1:=ct (hr l (by simp [ho,Vx])) hl
 have r2:=ct (hr c (by simp [ho,Vx])) hc
 have hb:(i.bytes:Int)≤65536:=by
  have:P.bytesOf e=i.bytes:=by simp [Program.bytesOf,hi]
  omega
 have OT:P.cellsOf e=i.size:=by simp [Program.cellsOf,hi]
 have hmul:(i.bytes:Int)*n≤281474976710656:=by
  have:=Int.mul_le_mul hb h1 h0 (by omega:(0:Int)≤65536)
  omega
 have OY:=run_make (P:=P) w ty e i v ht hi hv q q' n n h0 (Int.le_refl _) hmul (by omega)
 have Sj:=(eR (M:=M) v).cells RK
 have hvs:v.cells.size=i.size:=by rw [← Sj.1,hlen,OT]
 have OP:bT M (sI n.toNat zc) (madeCells v.cells (n.toNat*i.size)):=by
  refine ⟨by rw [CT,size_madeCells,hlen,OT],fun j d u p r=> ?_⟩
  obtain ⟨u1,_⟩:=qE _ _ _ _ r (by rw [hvs,← OT,← hlen];exact O5)
  have u2:=CU O5 _ _ _ p
  rw [← Sj.1] at u1
  exact Sj.2 _ d u u2 u1
 have k:=hw.pt OU.1 OU.2 e (Nat.le_of_eq OP.1) OP.2
 obtain ⟨b1,vs1,ty1,kb⟩:=k.box id (sI n.toNat zc) (aV _ _ _)
 have eb:b1=w.heap.size:=by have:=kb.box;simp only [MM.bf,if_true] at this;exact (Vk this).symm
 have RA:vs1.size=n.toNat*i.size:=by
  have h1:=kb.cq
  rw [eb] at h1
  have h2:(w.alloc (.cells (madeCells v.cells (n.toNat*i.size)) e)).heap[w.heap.size]? =some (.cells (madeCells v.cells (n.toNat*i.size)) e (0,0)):=by
   show (w.heap.push _)[w.heap.size]? =_
   simp
  rw [h2] at h1
  have h3:=Vk h1
  simp only [Obj.cells.injEq] at h3
  rw [← h3.1,size_madeCells]
 have k2:=k.lf (aV _ _ _) kb (sz:=P.cellsOf e) (len:=n.toNat) (cap:=n.toNat) (OU.2 _) (by rw [RA,OT];exact Vq _)
 subst eb
 have P5:(M.bf id w.heap.size).Le ((M.bf id w.heap.size).aW id (P.cellsOf e) (.slice (some ⟨w.heap.size,0,none⟩) n.toNat n.toNat)):=MM.cA (OU.2 _)
 refine cI (v:= .slice (some ⟨w.heap.size,0,none⟩) n.toNat n.toNat) (w':=w.alloc (.cells (madeCells v.cells (n.toNat*i.size)) e)) ?_ (hn _ _ _ _ ((MM.dt OU.1).trans P5) ⟨fun j hj=>by simp [MM.bf,MM.aW,hj],fun j hj=>by funext q;simp [MM.aW,MM.bf,hj]⟩ k2 (.bR (b:=w.heap.size) (by simp [MM.bf,MM.aW]) (by simp [MM.aW]) (Vq _)))
 simp only [execOp,ho,r1,r2,VD,OY,Vv,VK]
theorem mZ {ty:TypeId} {x ix:Operand} {k:WO} {i:Int} {elem:TypeId} {id sz n:Nat} (ho:o.op= .indexAddr ty x ix) (hi:ρ ix= .int k i) (ht:P.underlying ty=some (.slice elem)) (hk:known P elem=true)
  (OT:P.cellsOf elem=sz) (hb:0≤i∧i<n) (hx:ρ x= .bR id sz n):dY P o ρ (.pure (.ptr true id (i.toNat*sz))):=by
 refine bF fun M w a _ hr=> ?_
 have h1:=hr x (by simp [ho,Vx])
 have h2:=ct (hr ix (by simp [ho,Vx])) hi
 rw [hx] at h1
 generalize hv:a.eval x=v at h1
 cases h1 with
 |bR Qv hhx OL=>
  refine ⟨_,?_,.ptr true Qv⟩
  have:i<n:=hb.2
  simp [execOp,ho,Instr.indexAt,h2,asIntOf,run_underlying ht,hv,hb.1,this,ck hk,ek,OT]
theorem mY {ty:TypeId} {x ix:Operand} {k:WO} {i:Int} {elem:TypeId} {id off sz n:Nat} {cp:Option Nat} (ho:o.op= .indexAddr ty x ix) (hi:ρ ix= .int k i) (ht:P.underlying ty=some (.slice elem)) (hk:known P elem=true)
  (OT:P.cellsOf elem=sz) (hb:0≤i∧i<n) (hx:ρ x= .sub id off sz n cp):dY P o ρ (.pure (.ptr true id (off+i.toNat*sz))):=by
 refine bF fun M w a _ hr=> ?_
 have h1:=hr x (by simp [ho,Vx])
 have h2:=ct (hr ix (by simp [ho,Vx])) hi
 rw [hx] at h1
 generalize hv:a.eval x=v at h1
 cases h1 with
 |sub Qv hc hp Qf=>
  obtain rfl:=Qf (by omega)
  refine ⟨_,?_,.ptr true Qv⟩
  have:i<n:=hb.2
  simp [execOp,ho,Instr.indexAt,h2,asIntOf,run_underlying ht,hv,hb.1,this,ck hk,ek,OT]
end
theorem bo.Av {M:MM} {o:j9} {sz:Nat} {xs:List D} {a:Option Addr} {len cap:Nat} (h:bo M (.aj o sz xs) (.slice a len cap)) (l hh m:Nat) (h1:l≤hh) (h2:hh≤len) (h3:hh≤m) (_h4:m≤cap) (o':j9)
  (PX:o'= .no∨(o'= .tight∧m=hh)):bo M (.aj o' sz ((xs.take hh).drop l)) (.slice (if m=l then a else a.map (·.add (l*sz))) (hh - l) (m - l)):=by
 cases h with
 |aj b off vs hl OL ha OT hc hr OQ ho=>
  have PO:∀i x,((xs.take hh).drop l)[i]? =some x→xs[l+i]? =some x∧l+i<hh:=by
   intro i x hx
   rw [List.getElem?_drop,WJ] at hx
   split at hx
   ·exact ⟨hx,by assumption⟩
   ·cases hx
  refine .aj b (off+l*sz) (fun i j=>vs (l+i) j) (by simp;omega) (by omega) ?_ ?_ ?_ ?_ ?_ ?_
  ·intro O0
   have OK:l<hh:=by
    rcases VA l hh with h|h
    ·exact h
    ·exact absurd (List.drop_eq_nil_of_le (by simp;omega)) O0
   have:xs≠ []:=fun e=>by subst e;simp at hl;omega
   rw [if_neg (by omega),ha this]
   simp [ek]
  ·intro i x hx;exact OT _ x (PO i x hx).1
  ·intro i x cs j c hx OJ hj
   have:=hc _ x cs j c (PO i x hx).1 OJ hj
   rw [Wm] at this
   rw [show off+l*sz+i*sz+j=off+(l*sz+i*sz)+j by omega]
   exact this
  ·intro i x cs j c hx OJ hj;exact hr _ x cs j c (PO i x hx).1 OJ hj
  ·intro i x cs c hx OJ hj;exact OQ _ x cs c (PO i x hx).1 OJ hj
  ·rcases PX with rfl|⟨rfl,rfl⟩
   ·trivial
   ·rfl
section
variable {ρ':Type} {P:Program} {r:ρ'}
theorem bG {k:WO} {i:Int} {y:Nat} {code:BoundsCode} (h:0≤i∧i≤y) (w:World):(Instr.sliceBound (.int k i) y code).run P w= .ok i.toNat w:=by
 simp [Instr.sliceBound,asIntOf,h]
def yZ:Option Int→Option Value→Prop
  |none,v=>v=none
  |some n,v=> ∃k,v=some (.int k n)
theorem wT {z:Z P} {o:j9} {sz:Nat} {xs:List D} {lo hi mx:Option Int} {K:Z P→D→Option ρ'} (h:wU z o sz xs lo hi mx K=some r):
  ∃z' d,K z' d=some r∧(z'.c→z.c∧∀(M:MM) (w:World) (t e:TypeId) (u:Value) (lv hv mv:Option Value),P.underlying t=some (.slice e)→known P e=true→P.cellsOf e=sz→bo M (.aj o sz xs) u→
   yZ lo lv→yZ hi hv→yZ mx mv→
   ∃v,(Instr.sliceAt t u lv hv mv).run P w= .ok v w∧bo M d v):=by
 have run:∀ {w:World} {t e:TypeId} {a:Option Addr} {len cap:Nat} {lv hv mv:Option Value} {l hh m:Nat},P.underlying t=some (.slice e)→known P e=true→P.cellsOf e=sz→
   (VU true len cap lv hv mv).run P w= .ok (l,hh,m) w→(Instr.sliceAt t (.slice a len cap) lv hv mv).run P w= .ok (.slice (if m=l then a else a.map (·.add (l*sz))) (hh - l) (m - l)) w:=by
  intro w t e a len cap lv hv mv l hh m ht hk hs hb
  simp only [Instr.sliceAt,VD,run_underlying ht,Vv,Instr.slice,hb,ck hk,hs,VK]
 unfold wU at h
 split at h
 ·refine ⟨z,_,h,fun c=>⟨c,fun M w t e u lv hv mv ht hk hs hu e1 e2 e3=> ?_⟩⟩
  obtain rfl:=e1
  obtain rfl:=e2
  obtain rfl:=e3
  cases hu with
  |aj b off vs hl OL ha OT hc hr OQ ho=>
   rename_i a len cap
   have hb:(VU true len cap none none none).run P w= .ok (0,len,cap) w:=by simp [VU]
   refine ⟨_,run ht hk hs hb,?_⟩
   have OP:bo M (.aj o sz xs) (.slice a len cap):= .aj b off vs hl OL ha OT hc hr OQ ho
   have hd:(o.aJ= .no∨(o.aJ= .tight∧cap=len)):=by
    cases o<;>first|exact .inl rfl|exact .inr ⟨rfl,ho⟩
   have:=OP.Av 0 len cap (by omega) (Vq _) OL (Vq _) o.aJ hd
   rw [List.take_of_length_le (by omega),Wu] at this
   exact this
 ·rename_i l
  obtain ⟨z',h1,h2⟩:=cN h
  refine ⟨z',_,h1,fun c=>⟨(h2 c).1,fun M w t e u lv hv mv ht hk hs hu e1 e2 e3=> ?_⟩⟩
  obtain ⟨k1,rfl⟩:=e1
  obtain rfl:=e2
  obtain rfl:=e3
  have SM:0≤l∧l≤xs.length:=by simpa using (h2 c).2
  cases hu with
  |aj b off vs hl OL ha OT hc hr OQ ho=>
   rename_i a len cap
   have hb:(VU true len cap (some (.int k1 l)) none none).run P w= .ok (l.toNat,len,cap) w:=by
    simp [VU,bG (show 0≤l∧l≤(len:Int) by omega)]
   refine ⟨_,run ht hk hs hb,?_⟩
   have OP:bo M (.aj o sz xs) (.slice a len cap):= .aj b off vs hl OL ha OT hc hr OQ ho
   have hd:(o.aJ= .no∨(o.aJ= .tight∧cap=len)):=by
    cases o<;>first|exact .inl rfl|exact .inr ⟨rfl,ho⟩
   have:=OP.Av l.toNat len cap (by omega) (Vq _) OL (Vq _) o.aJ hd
   rw [List.take_of_length_le (by omega)] at this
   exact this
 ·rename_i hh
  obtain ⟨z',h1,h2⟩:=cN h
  refine ⟨z',_,h1,fun c=>⟨(h2 c).1,fun M w t e u lv hv mv ht hk hs hu e1 e2 e3=> ?_⟩⟩
  obtain ⟨k1,rfl⟩:=e2
  obtain rfl:=e1
  obtain rfl:=e3
  have SM:0≤hh∧hh≤xs.length:=by simpa using (h2 c).2
  cases hu with
  |aj b off vs hl OL ha OT hc hr OQ ho=>
   rename_i a len cap
   have hb:(VU true len cap none (some (.int k1 hh)) none).run P w= .ok (0,hh.toNat,cap) w:=by
    simp [VU,bG (show 0≤hh∧hh≤(cap:Int) by omega)]
   refine ⟨_,run ht hk hs hb,?_⟩
   have OP:bo M (.aj o sz xs) (.slice a len cap):= .aj b off vs hl OL ha OT hc hr OQ ho
   have:=OP.Av 0 hh.toNat cap (by omega) (by omega) (by omega) (Vq _) .no (.inl rfl)
   rw [Wu] at this
   exact this
 ·rename_i l hh
  obtain ⟨z',h1,h2⟩:=cN h
  refine ⟨z',_,h1,fun c=>⟨(h2 c).1,fun M w t e u lv hv mv ht hk hs hu e1 e2 e3=> ?_⟩⟩
  obtain ⟨k1,rfl⟩:=e1
  obtain ⟨k2,rfl⟩:=e2
  obtain rfl:=e3
  have SM:0≤l∧l≤hh∧hh≤xs.length:=by simpa using (h2 c).2
  cases hu with
  |aj b off vs hl OL ha OT hc hr OQ ho=>
   rename_i a len cap
   have hb:(VU true len cap (some (.int k1 l)) (some (.int k2 hh)) none).run P w= .ok (l.toNat,hh.toNat,cap) w:=by
    simp [VU,bG (show 0≤hh∧hh≤(cap:Int) by omega),bG (show 0≤l∧l≤(hh.toNat:Int) by omega)]
   refine ⟨_,run ht hk hs hb,?_⟩
   have OP:bo M (.aj o sz xs) (.slice a len cap):= .aj b off vs hl OL ha OT hc hr OQ ho
   exact OP.Av l.toNat hh.toNat cap (by omega) (by omega) (by omega) (Vq _) .no (.inl rfl)
 ·rename_i hh m
  obtain ⟨z',h1,h2⟩:=cN h
  refine ⟨z',_,h1,fun c=>⟨(h2 c).1,fun M w t e u lv hv mv ht hk hs hu e1 e2 e3=> ?_⟩⟩
  obtain ⟨k1,rfl⟩:=e2
  obtain ⟨k2,rfl⟩:=e3
  obtain rfl:=e1
  have SM:0≤hh∧hh≤xs.length∧m=hh:=by simpa using (h2 c).2
  obtain ⟨hb1,TC,rfl⟩:=SM
  cases hu with
  |aj b off vs hl OL ha OT hc hr OQ ho=>
   rename_i a len cap
   have hb:(VU true len cap none (some (.int k1 m)) (some (.int k2 m))).run P w= .ok (0,m.toNat,m.toNat) w:=by
    simp [VU,bG (show 0≤m∧m≤(cap:Int) by omega),bG (show 0≤m∧m≤(m.toNat:Int) by omega)]
   refine ⟨_,run ht hk hs hb,?_⟩
   have OP:bo M (.aj o sz xs) (.slice a len cap):= .aj b off vs hl OL ha OT hc hr OQ ho
   have:=OP.Av 0 m.toNat m.toNat (by omega) (by omega) (by omega) (by omega) .tight (.inr ⟨rfl,rfl⟩)
   rw [Wu] at this
   exact this
 ·rename_i l hh m
  obtain ⟨z',h1,h2⟩:=cN h
  refine ⟨z',_,h1,fun c=>⟨(h2 c).1,fun M w t e u lv hv mv ht hk hs hu e1 e2 e3=> ?_⟩⟩
  obtain ⟨k1,rfl⟩:=e1
  obtain ⟨k2,rfl⟩:=e2
  obtain ⟨k3,rfl⟩:=e3
  have SM:0≤l∧l≤hh∧hh≤xs.length∧m=hh:=by simpa using (h2 c).2
  obtain ⟨hb1,TC,hb3,rfl⟩:=SM
  cases hu with
  |aj b off vs hl OL ha OT hc hr OQ ho=>
   rename_i a len cap
   have hb:(VU true len cap (some (.int k1 l)) (some (.int k2 m)) (some (.int k3 m))).run P w= .ok (l.toNat,m.toNat,m.toNat) w:=by
    simp [VU,bG (show 0≤m∧m≤(cap:Int) by omega),bG (show 0≤m∧m≤(m.toNat:Int) by omega),bG (show 0≤l∧l≤(m.toNat:Int) by omega)]
   refine ⟨_,run ht hk hs hb,?_⟩
   have OP:bo M (.aj o sz xs) (.slice a len cap):= .aj b off vs hl OL ha OT hc hr OQ ho
   exact OP.Av l.toNat m.toNat m.toNat (by omega) (by omega) (by omega) (by omega) .tight (.inr ⟨rfl,rfl⟩)
 ·cases h
theorem oX {z:Z P} {id off sz n:Nat} {cp:Option Nat} {lo hi mx:Option Int} {K:Z P→D→Option ρ'} (h:Cy z id off sz n cp lo hi mx K=some r):
  ∃(z':Z P) (l hh:Nat) (R0:Option Nat),K z' (.sub id (off+l*sz) sz (hh - l) R0)=some r∧(z'.c→z.c∧l≤hh∧hh≤n∧∀(q:Bool) (w:World) (c:Nat) (lv hv mv:Option Value),n≤c→(∀k,cp=some k→c=k)→yZ lo lv→yZ hi hv→yZ mx mv→
   ∃m,hh≤m∧(∀k,R0=some k→m - l=k)∧(VU q n c lv hv mv).run P w= .ok (l,hh,m) w):=by
 unfold Cy at h
 split at h
 ·refine ⟨z,0,n,cp,by simpa using h,fun c=>⟨c,Nat.zero_le _,Vq _,fun q w c lv hv mv hc hp e1 e2 e3=> ?_⟩⟩
  obtain rfl:=e1
  obtain rfl:=e2
  obtain rfl:=e3
  exact ⟨c,hc,fun k hk=>by rw [hp k hk];rfl,by simp [VU]⟩
 ·rename_i l
  obtain ⟨z',h1,h2⟩:=cN h
  refine ⟨z',l.toNat,n,cp.map (· - l.toNat),h1,fun c=> ?_⟩
  have hb:0≤l∧l≤(n:Int):=by simpa using (h2 c).2
  refine ⟨(h2 c).1,by omega,Vq _,fun q w c lv hv mv hc hp e1 e2 e3=> ?_⟩
  obtain ⟨k1,rfl⟩:=e1
  obtain rfl:=e2
  obtain rfl:=e3
  refine ⟨c,hc,fun k hk=> ?_,by simp [VU,bG hb]⟩
  cases cp with
  |none=>cases hk
  |some v=>rw [hp v rfl];simpa using hk
 ·rename_i hh
  obtain ⟨z',h1,h2⟩:=cN h
  refine ⟨z',0,hh.toNat,cp,by simpa using h1,fun c=> ?_⟩
  have hb:0≤hh∧hh≤(n:Int):=by simpa using (h2 c).2
  refine ⟨(h2 c).1,Nat.zero_le _,by omega,fun q w c lv hv mv hc hp e1 e2 e3=> ?_⟩
  obtain ⟨k1,rfl⟩:=e2
  obtain rfl:=e1
  obtain rfl:=e3
  exact ⟨c,by omega,fun k hk=>by rw [hp k hk];rfl,by simp [VU,bG (show 0≤hh∧hh≤(c:Int) by omega)]⟩
 ·rename_i l hh
  obtain ⟨z',h1,h2⟩:=cN h
  refine ⟨z',l.toNat,hh.toNat,cp.map (· - l.toNat),h1,fun c=> ?_⟩
  have hb:0≤l∧l≤hh∧hh≤(n:Int):=by simpa using (h2 c).2
  refine ⟨(h2 c).1,by omega,by omega,fun q w c lv hv mv hc hp e1 e2 e3=> ?_⟩
  obtain ⟨k1,rfl⟩:=e1
  obtain ⟨k2,rfl⟩:=e2
  obtain rfl:=e3
  refine ⟨c,by omega,fun k hk=> ?_,by simp [VU,bG (show 0≤hh∧hh≤(c:Int) by omega),bG (show 0≤l∧l≤(hh.toNat:Int) by omega)]⟩
  cases cp with
  |none=>cases hk
  |some v=>rw [hp v rfl];simpa using hk
 ·rename_i hh m
  obtain ⟨z',h1,h2⟩:=cN h
  refine ⟨z',0,hh.toNat,some m.toNat,by simpa using h1,fun c=> ?_⟩
  have hb:0≤hh∧hh≤m∧m≤(n:Int):=by simpa using (h2 c).2
  refine ⟨(h2 c).1,Nat.zero_le _,by omega,fun q w c lv hv mv hc hp e1 e2 e3=> ?_⟩
  obtain ⟨k1,rfl⟩:=e2
  obtain ⟨k2,rfl⟩:=e3
  obtain rfl:=e1
  exact ⟨m.toNat,by omega,fun k hk=>by simpa using hk,by simp [VU,bG (show 0≤m∧m≤(c:Int) by omega),bG (show 0≤hh∧hh≤(m.toNat:Int) by omega)]⟩
 ·rename_i l hh m
  obtain ⟨z',h1,h2⟩:=cN h
  refine ⟨z',l.toNat,hh.toNat,some (m.toNat - l.toNat),h1,fun c=> ?_⟩
  have hb:0≤l∧l≤hh∧hh≤m∧m≤(n:Int):=by simpa using (h2 c).2
  refine ⟨(h2 c).1,by omega,by omega,fun q w c lv hv mv hc hp e1 e2 e3=> ?_⟩
  obtain ⟨k1,rfl⟩:=e1
  obtain ⟨k2,rfl⟩:=e2
  obtain ⟨k3,rfl⟩:=e3
  exact ⟨m.toNat,by omega,fun k hk=>by simpa using hk,by simp [VU,bG (show 0≤m∧m≤(c:Int) by omega),bG (show 0≤hh∧hh≤(m.toNat:Int) by omega),bG (show 0≤l∧l≤(hh.toNat:Int) by omega)]⟩
 ·cases h
theorem pe {M:MM} {id off o2 sz n b l hh m:Nat} {R0:Option Nat} (hb:M.box id=some b) (Qf:n≠0→o2=off) (h1:l≤hh) (h2:hh≤n) (h3:hh≤m) (hp:∀k,R0=some k→m - l=k):
  bo M (.sub id (off+l*sz) sz (hh - l) R0) (.slice (if m=l then some ⟨b,o2,none⟩ else some ((⟨b,o2,none⟩:Addr).add (l*sz))) (hh - l) (m - l)):=by
 split
 ·exact .sub hb (by omega) hp (fun hn=>by omega)
 ·rw [ek]
  exact .sub hb (by omega) hp (fun hn=>by rw [Qf (by omega)])
theorem jY {w:World} {t e:TypeId} {a:Addr} {len cap sz:Nat} {lv hv mv:Option Value} {l hh m:Nat} (ht:P.underlying t=some (.slice e)) (hk:known P e=true) (hs:P.cellsOf e=sz) (hb:(VU true len cap lv hv mv).run P w= .ok (l,hh,m) w):
  (Instr.sliceAt t (.slice (some a) len cap) lv hv mv).run P w= .ok (.slice (if m=l then some a else some (a.add (l*sz))) (hh - l) (m - l)) w:=by
 simp only [Instr.sliceAt,VD,run_underlying ht,Vv,Instr.slice,hb,ck hk,hs,VK,Wv]
theorem oi {w:World} {t e:TypeId} {a:Addr} {n sz:Nat} {lv hv mv:Option Value} {l hh m:Nat} (ht:P.underlying t=some (.array n e)) (hk:known P e=true) (hs:P.cellsOf e=sz) (hb:(VU false n n lv hv mv).run P w= .ok (l,hh,m) w):
  (Instr.sliceAt t (.pointer (some a)) lv hv mv).run P w= .ok (.slice (if m=l then some a else some (a.add (l*sz))) (hh - l) (m - l)) w:=by
 simp only [Instr.sliceAt,VD,run_underlying ht,Vv,Instr.sureAddr,hb,ck hk,hs,VK]
 split<;>rfl
theorem F8 {x:D} {K:Int→Option ρ'} (h:idx x K=some r):∃k n,x= .int k n∧K n=some r:=by
 unfold idx at h
 split at h
 ·exact ⟨_,_,rfl,h⟩
 ·cases h
theorem dH {t:List D} {o:Option Operand} {K:Option Int→Option ρ'} (h:gn t o K=some r):∃n,K n=some r∧∀(M:MM) (a:Act),(∀x,o=some x→bo M (bB t x) (a.eval x))→yZ n (o.map a.eval):=by
 unfold gn at h
 split at h
 ·exact ⟨none,h,fun M a _=>rfl⟩
 ·obtain ⟨k,n,hx,hK⟩:=F8 h
  refine ⟨some n,hK,fun M a hr=>⟨k,?_⟩⟩
  have:=ct (hr _ rfl) hx
  simp [this]
theorem dA {o:Oper} {ρv:Operand→Value} {c:Call} {b:Builtin} (ho:o.op= .call c) (hc:c.callee= .builtin b) (w:World):
  (execOp ρv o).run P w=(builtin b c.argTypes o.type (c.args.map fun| .const _=>true|_=>false) (c.args.map ρv)).run P w:=by
 simp only [execOp,ho,resolve,hc,VD,VK,Vv,invoke]
 rfl
theorem DK {t:TypeId} {x:D} {K:D→Option ρ'} (h:HJ P t x K=some r):∃d,K d=some r∧∀(M:MM) (w:World) (u:Value) (ts:Array TypeId) (ty:TypeId) (vs:Array Value),bo M x u→ts[0]? =some t→vs[0]? =some u→∃v,(Builtin.len_ ts ty vs).run P w= .ok v w∧bo M d v:=by
 unfold HJ at h
 split at h
 ·rename_i ht
  refine ⟨_,h,fun M w u ts ty vs hu h1 h2=> ?_⟩
  cases hu
  exact ⟨.int .i64 _,by simp [Builtin.len_,h1,h2,run_underlying ht,goInt],.int _ _⟩
 ·rename_i ht
  refine ⟨_,h,fun M w u ts ty vs hu h1 h2=> ?_⟩
  exact ⟨.int .i64 _,by simp [Builtin.len_,h1,h2,run_underlying ht,goInt],.int _ _⟩
 ·rename_i ht
  refine ⟨_,h,fun M w u ts ty vs hu h1 h2=> ?_⟩
  cases hu with
  |aj b off vs' hl OL ha OT hc hr OQ ho=>exact ⟨.int .i64 _,by simp [Builtin.len_,h1,h2,run_underlying ht,goInt];omega,.int _ _⟩
 ·rename_i ht
  refine ⟨_,h,fun M w u ts ty vs hu h1 h2=> ?_⟩
  cases hu with
  |bR hb hh hc=>exact ⟨.int .i64 _,by simp [Builtin.len_,h1,h2,run_underlying ht,goInt],.int _ _⟩
 ·rename_i ht
  refine ⟨_,h,fun M w u ts ty vs hu h1 h2=> ?_⟩
  cases hu with
  |sub hb hc hp Qf=>exact ⟨.int .i64 _,by simp [Builtin.len_,h1,h2,run_underlying ht,goInt],.int _ _⟩
 ·cases h
theorem DB {x y:D} {K:D→Option ρ'} (h:HE x y K=some r):∃d,K d=some r∧∀(M:MM) (w:World) (u v:Value) (ts:Array TypeId) (ty:TypeId) (vs:Array Value),bo M x u→bo M y v→vs.toList= [u,v]→∃q,(Builtin.min_ ts ty vs).run P w= .ok q w∧bo M d q:=by
 unfold HE at h
 split at h
 ·refine ⟨_,h,fun M w u v ts ty vs hu hv h1=> ?_⟩
  cases hu;cases hv
  exact ⟨_,by simp only [Builtin.min_,h1,List.foldlM_cons,List.foldlM_nil,Builtin.min2,pure_bind];rfl,.int _ _⟩
 ·cases h
theorem DH {x y:D} {K:D→Option ρ'} (h:HH x y K=some r):∃d,K d=some r∧∀(M:MM) (w:World) (u v:Value) (ts:Array TypeId) (ty:TypeId) (vs:Array Value),bo M x u→bo M y v→vs.toList= [u,v]→∃q,(Builtin.max_ ts ty vs).run P w= .ok q w∧bo M d q:=by
 unfold HH at h
 split at h
 ·refine ⟨_,h,fun M w u v ts ty vs hu hv h1=> ?_⟩
  cases hu;cases hv
  exact ⟨_,by simp only [Builtin.max_,h1,List.foldlM_cons,List.foldlM_nil,Builtin.max2,pure_bind];rfl,.int _ _⟩
 ·cases h
end
structure fC (M:MM) (sz:Nat) (xs:List D) (arr:Array Value):Prop where
  len:xs.length*sz≤arr.size
  elem:∀(i:Nat) (x:D),xs[i]? =some x→∃cs,x.cells=some cs∧cs.length=sz
  get:∀(i:Nat) (x:D) (cs:List D) (j:Nat) (c:D),xs[i]? =some x→x.cells=some cs→cs[j]? =some c→∃v,arr[i*sz+j]? =some v∧bo M.bare c v
  st:∀(i:Nat) (x:D) (cs:List D) (c:D),xs[i]? =some x→x.cells=some cs→c∈cs→storable c=true
theorem fC.mono {M M':MM} {sz:Nat} {xs:List D} {arr:Array Value} (h:fC M sz xs arr) (le:M.Le M'):fC M' sz xs arr:=
 ⟨h.len,h.elem,fun i x cs j c h1 h2 h3=>let ⟨v,a,b⟩:=h.get i x cs j c h1 h2 h3;⟨v,a,b.mono le.bare⟩,h.st⟩
def MM.lay (M:MM) (b:Nat) (arr:Array Value) (n:Nat):MM:=M.bC b fun o=>if o<n then arr[o]? else none
theorem mH {M:MM} {w wd:World} {arr:Array Value} {ty:TypeId} {n:Nat} (hw:∀b o v,M.cell b o=some v→w.cell? ⟨b,o,none⟩=some v) (hd:wd.heap=w.heap) (hb:Below w.heap.size w wd) (fz:Nat×Nat):
  Ext M w (M.lay w.heap.size arr n) (wd.alloc (.cells arr ty fz)):=by
 have OT:wd.heap.size=w.heap.size:=by rw [hd]
 refine ⟨hb.alloc (by omega) _,?_,?_,?_⟩
 ·intro b o v h
  have:b≠w.heap.size:=fun e=>by rw [e,cV hw (Vq _) o] at h;cases h
  simp only [MM.lay,MM.bC,this,if_false];exact h
 ·intro b o v h OK
  simp only [MM.lay,MM.bC,show b≠w.heap.size by omega,if_false] at h;exact h
 ·intro b o v h
  by_cases e:b=w.heap.size
  ·subst e
   simp only [MM.lay,MM.bC,if_true] at h
   split at h
   ·have hh:(wd.alloc (.cells arr ty fz)).heap[w.heap.size]? =some (.cells arr ty fz):=by
     show (wd.heap.push _)[w.heap.size]? =_
     rw [← OT];simp
    simp only [Wl,hh]
    exact h
   ·cases h
  ·simp only [MM.lay,MM.bC,e,if_false] at h
   have h1:=hw b o v h
   have OK:b<w.heap.size:=World.block_lt_of_cell? w _ h1
   rw [World.cell?_alloc_lt _ _ _ (by simpa [OT] using OK)]
   simpa [Wl,hd] using h1
theorem ml {M:MM} {b:Nat} {arr:Array Value} {sz:Nat} {xs:List D} {o:j9} {cap n:Nat} (h:fC M sz xs arr) (hM:∀o,M.cell b o=none) (OL:xs.length≤cap) (hn:xs.length*sz≤n) (ho:(M.lay b arr n).lM o (some ⟨b,0,none⟩) xs.length cap):
  bo (M.lay b arr n) (.aj o sz xs) (.slice (some ⟨b,0,none⟩) xs.length cap):=by
 have le:M.Le (M.lay b arr n):=by
  refine ⟨fun c o v k=> ?_,fun _ _ k=>k,fun _ _ _ k=>k,fun _ k=>k⟩
  have:c≠b:=fun e=>by rw [e,hM o] at k;cases k
  simp only [MM.lay,MM.bC,this,if_false];exact k
 have OK:∀ {i j:Nat} {x:D} {cs:List D} {c:D},xs[i]? =some x→x.cells=some cs→cs[j]? =some c→i*sz+j<xs.length*sz:=by
  intro i j x cs c h1 h2 h3
  obtain ⟨Ph,e1,e2⟩:=h.elem i x h1
  rw [h2] at e1
  obtain rfl:=Vk e1
  have hj:j<sz:=by
   rcases VA j cs.length with q|q
   ·omega
   ·simp [Vw q] at h3
  have hi:i<xs.length:=by
   rcases VA i xs.length with q|q
   ·exact q
   ·simp [Vw q] at h1
  have:(i+1)*sz≤xs.length*sz:=V7 _ hi
  rw [Wm] at this
  omega
 refine .aj b 0 (fun i j=>(arr[i*sz+j]?).getD .nilFunc) rfl OL (fun _=>rfl) h.elem ?_ ?_ h.st ho
 ·intro i x cs j c h1 h2 h3
  obtain ⟨v,hv,_⟩:=h.get i x cs j c h1 h2 h3
  have:=OK h1 h2 h3
  simp only [MM.lay,MM.bC,if_true,VT,hv,V9]
  rw [if_pos (by omega)]
 ·intro i x cs j c h1 h2 h3
  obtain ⟨v,hv,hr⟩:=h.get i x cs j c h1 h2 h3
  simp only [hv,V9]
  exact hr.mono le.bare
theorem pn {ρ':Type} {r:ρ'} {x:D} {k:D→Option ρ'} (h:sK x k=some r):∃y,k y=some r∧(∀(M:MM) (v:Value),bo M x v→bo M.bare y v)∧y.plain=true:=by
 unfold sK at h
 split at h
 ·rename_i hp
  exact ⟨x,h,fun M v hr=>hr.FO hp,hp⟩
 ·obtain ⟨hc,hk⟩:=bg h
  exact ⟨_,hk,fun M v hr=>hr.mS hc,mI hc⟩
theorem xw {ρ':Type} {r:ρ'} {x:D} {k:D→Option ρ'} (h:xx x k=some r):∃y,k y=some r∧∀(M:MM) (v:Value),bo M x v→bo M.bare y v:=by
 unfold xx at h
 split at h
 ·rename_i q id off
  refine ⟨_,h,fun M v hr=> ?_⟩
  cases hr with
  |ptr _ hb=>
   rename_i b
   have:=bo.cT (M:=M.bare) false (x:= .agg []) (cs:= []) (off:=off) (b:=b) (base:=0) (fun _=> .nilFunc) rfl (fun j c hj=>by simp at hj) (fun j c hj=>by simp at hj)
   rw [VT] at this
   exact this
 ·refine ⟨_,h,fun M v hr=> ?_⟩
  cases hr with
  |cT _ vs hx hc hr=>exact .cT _ vs hx hc hr
 ·obtain ⟨y,hy,hr,_⟩:=pn h
  exact ⟨y,hy,hr⟩
theorem nP {ρ':Type} {r:ρ'} :∀ {l:List D} {k:List D→Option ρ'},oB l k=some r→∃l',k l'=some r∧∀(M:MM) (vs:Array Value),bT M l vs→bT M.bare l' vs
 | [],k,h=>⟨[],h,fun M vs hr=>⟨hr.1,fun i d v a=>by simp at a⟩⟩
 |x::l,k,h=>by
  unfold oB at h
  obtain ⟨y,hy,hr⟩:=xw h
  obtain ⟨l',hk,hl⟩:=nP hy
  refine ⟨y::l',hk,fun M vs hv=> ?_⟩
  have hs:vs.size=l.length+1:=by have:=hv.1;simp at this;omega
  have Tv:bT M l (vs.extract 1 vs.size):=by
   refine ⟨by simp;omega,fun i d v a b=> ?_⟩
   rw [Array.getElem?_extract] at b
   split at b
   ·exact hv.2 (i+1) d v (by simpa using a) (by rw [Nat.add_comm];exact b)
   ·cases b
  have h2:=hl M _ Tv
  refine ⟨by have:=h2.1;simp at this ⊢;omega,fun i d v a b=> ?_⟩
  cases i with
  |zero=>simp at a;subst a;exact hr M v (hv.2 0 x v rfl b)
  |succ i=>
   refine h2.2 i d v (by simpa using a) ?_
   rw [Array.getElem?_extract]
   have:i+1<vs.size:=by
    rcases VA (i+1) vs.size with q|q
    ·exact q
    ·simp [VV q] at b
   rw [if_pos (by omega),Nat.add_comm]
   exact b
theorem lI {sz i j n:Nat} (hi:i<n) (hj:j<sz):i*sz+j<n*sz:=by
 have:(i+1)*sz≤n*sz:=V7 _ hi
 rw [Wm] at this
 omega
theorem Ha {sz i i' j j':Nat} (hj:j<sz) (RY:j'<sz) (h:i≠i'):i*sz+j≠i'*sz+j':=by
 intro e
 rcases Nat.lt_or_gt_of_ne h with q|q
 ·have:=lI q hj;omega
 ·have:=lI q RY;omega
theorem oz {n i:Nat} {a x:D} (h:(Vc n a)[i]? =some x):i<n∧a=x:=by
 rw [List.getElem?_replicate] at h
 split at h
 ·exact ⟨by assumption,Vk h⟩
 ·cases h
section
variable {ρ':Type} {P:Program} {r:ρ'}
theorem me {size:Nat} :∀ {parts:List (Nat×D)} {xs:List D} {k:List D→Option ρ'},ki size xs parts k=some r→
  ∃xs',k xs'=some r∧xs'.length=xs.length∧∀(M:MM) (Py:List (Nat×Value)) (arr:Array Value),GB M parts Py→fC M size xs arr→
   ∃arr',Instr.fill (fun i=>some (i*size,size)) arr Py=some arr'∧fC M size xs' arr'∧arr'.size=arr.size
 | [],xs,k,h=>⟨xs,h,rfl,fun M Py arr hp hr=>by
   cases Py with
   |nil=>exact ⟨arr,rfl,hr,rfl⟩
   |cons _ _=>exact hp.elim⟩
 |(i,d)::rest,xs,k,h=>by
  unfold ki at h
  obtain ⟨y,hy,OP,_⟩:=pn h
  split at hy
  ·rename_i vc RQ
   obtain ⟨h1,h2⟩:=bg hy
   rw [Vi,Vi,VJ,VP] at h1
   obtain ⟨⟨OT,OK⟩,OQ⟩:=h1
   have OK:i<xs.length:=Nat.lt_of_succ_le (by simpa [Wq,Wg] using OK)
   obtain ⟨xs',hk,hl,PM⟩:=me h2
   refine ⟨xs',hk,by simpa using hl,fun M Py arr hp hr=> ?_⟩
   cases Py with
   |nil=>exact hp.elim
   |cons p s=>
    obtain ⟨j,u⟩:=p
    obtain ⟨rfl,hd,hp⟩:=hp
    have OS:=(OP M u hd).cells RQ
    have Ul:u.cells.size=size:=by rw [← OS.1];exact OT
    have hbound:i*size+size≤xs.length*size:=by
     have:(i+1)*size≤xs.length*size:=V7 _ OK
     rwa [Wm,Nat.one_mul] at this
    have Pc:i*size+u.cells.toList.length≤arr.size:=by rw [V2,Ul];exact Wo hbound hr.len
    have PU:fC M size (xs.set i y) (cQ arr (i*size) u.cells.toList):=by
     refine ⟨by rw [cX,Vj];exact hr.len,?_,?_,?_⟩
     ·intro k x hx
      by_cases e:i=k
      ·subst e
       rw [Wx (by simpa using OK)] at hx
       obtain rfl:=Vk hx
       exact ⟨vc,RQ,OT⟩
      ·rw [Wi e] at hx
       exact hr.elem k x hx
     ·intro k x cs j c hx OJ hj
      rw [eK _ _ _ _ Pc]
      rw [V2,Ul]
      by_cases e:i=k
      ·subst e
       rw [Wx (by simpa using OK)] at hx
       obtain rfl:=Vk hx
       rw [RQ] at OJ
       obtain rfl:=Vk OJ
       obtain ⟨v,hv,SK⟩:=OS.get hj
       have Qr:j<size:=by
        rcases VA j vc.length with q|q
        ·omega
        ·simp [Vw q] at hj
       rw [if_pos ⟨by omega,by omega⟩,show i*size+j - i*size=j by omega]
       exact ⟨v,by simpa using hv,SK⟩
      ·rw [Wi e] at hx
       obtain ⟨Ph,q1,q2⟩:=hr.elem k x hx
       rw [OJ] at q1
       obtain rfl:=Vk q1
       have Qr:j<size:=by
        rcases VA j cs.length with q|q
        ·omega
        ·simp [Vw q] at hj
       rw [if_neg]
       ·exact hr.get k x cs j c hx OJ hj
       ·intro hh
        obtain ⟨m,hm⟩:∃m,k*size+j=i*size+m:=⟨k*size+j - i*size,by omega⟩
        exact Ha Qr (show m<size by omega) (Ne.symm e) hm
     ·intro k x cs c hx OJ hc
      by_cases e:i=k
      ·subst e
       rw [Wx (by simpa using OK)] at hx
       obtain rfl:=Vk hx
       rw [RQ] at OJ
       obtain rfl:=Vk OJ
       exact OQ c hc
      ·rw [Wi e] at hx
       exact hr.st k x cs c hx OJ hc
    obtain ⟨arr',f1,f2,f3⟩:=PM M s _ hp PU
    refine ⟨arr',?_,f2,by rw [f3,cX]⟩
    have e2:¬(i*size+size>arr.size):=by have:=hr.len;omega
    rw [Instr.fill]
    simp only [Ul,ne_eq,not_true_eq_false,decide_false,Bool.false_or,e2,V5,if_false,pY]
    exact f1
  ·cases hy
end
section
variable {P:Program} {o:Oper} {ρ:Operand→D}
theorem zb {M:MM} {d:D} {zc:List D} {v:Value} (hc:d.cells=some zc) (hd:bo M.bare d v) (OQ:∀c∈zc,storable c=true) (len:Nat):
  fC M zc.length (Vc len d) ((Array.range (len*zc.length)).map (v.cells[· %v.cells.size]!)):=by
 have OS:=hd.cells hc
 refine ⟨by simp,?_,?_,?_⟩
 ·intro i x hx
  obtain ⟨_,rfl⟩:=oz hx
  exact ⟨zc,hc,rfl⟩
 ·intro i x cs j c hx OJ hj
  obtain ⟨hi,rfl⟩:=oz hx
  rw [hc] at OJ
  obtain rfl:=Vk OJ
  obtain ⟨u,hu,hru⟩:=OS.get hj
  have Qr:j<zc.length:=by
   rcases VA j zc.length with q|q
   ·exact q
   ·simp [Vw q] at hj
  refine ⟨u,?_,hru⟩
  have:=lI hi Qr
  simp only [Array.getElem?_map,Array.getElem?_range,this,if_true,Wv,Vs]
  rw [← OS.1,Nat.add_comm,Nat.add_mul_mod_self_right,Nat.mod_eq_of_lt Qr]
  have U1:j<v.cells.size:=by rw [← OS.1];exact Qr
  rw [getElem!_pos v.cells j U1]
  rw [getElem?_pos v.cells j U1] at hu
  exact Vk hu
 ·intro i x cs c hx OJ Qg
  obtain ⟨_,rfl⟩:=oz hx
  rw [hc] at OJ
  obtain rfl:=Vk OJ
  exact OQ c Qg
theorem qC {ρ':Type} {r:ρ'} {ty:TypeId} {len:Nat} {parts:Array (Nat×Operand)} {e:TypeId} {d:D} {zc:List D} {k:List D→Option ρ'} (ho:o.op= .buildSlice ty len parts) (ht:P.underlying ty=some (.slice e)) (hz:gg P e=some d) (hc:d.cells=some zc)
  (hk:known P e=true) (OT:zc.length=P.cellsOf e) (PZ:len*P.cellsOf e≤16777216) (OQ:∀c∈zc,storable c=true)
  (h:ki (P.cellsOf e) (Vc len d) (parts.toList.map fun p=>(p.1,ρ p.2)) k=some r):
  ∃xs,k xs=some r∧dY P o ρ (.pure (.aj .tight (P.cellsOf e) xs)):=by
 obtain ⟨xs,h1,h2,h3⟩:=me h
 refine ⟨xs,h1,vo fun M w a hw hr=> ?_⟩
 have QA:=uH (M:=M) (ρ:=ρ) (a:=a) parts.toList (fun p hp=>hr p.2 (by
  simp only [ho,Vx]
  exact List.mem_toArray.2 (List.mem_map.2 ⟨p,hp,rfl⟩)))
 have SZ:(parts.map fun (i,x)=>(i,a.eval x)).toList=parts.toList.map fun p=>(p.1,a.eval p.2):=by simp
 obtain ⟨i,v,hi,hv,rfl⟩:=eV hz
 have hlen:xs.length=len:=by rw [h2];simp
 obtain ⟨arr0,hr0,R1,hrun0⟩:∃arr0:Array Value,fC M (P.cellsOf e) (Vc len (mb v)) arr0∧arr0.size=len*P.cellsOf e∧
   (if len*P.cellsOf e=0 then pure #[] else do pure (← zeroValue e).cells:Sem (Array Value)).run P w= .ok (if len*P.cellsOf e=0 then #[] else v.cells) w∧
   ((Array.range (len*P.cellsOf e)).map ((if len*P.cellsOf e=0 then #[] else v.cells)[· %(if len*P.cellsOf e=0 then #[] else v.cells).size]!))=arr0:=by
  by_cases Rj:len*P.cellsOf e=0
  ·refine ⟨#[],?_,by simp [Rj],by simp [Rj],by simp [Rj]⟩
   rcases Nat.eq_zero_or_pos len with e1|e1
   ·subst e1
    exact ⟨by simp,fun i x hx=>by simp at hx,fun i x cs j c hx=>by simp at hx,fun i x cs c hx=>by simp at hx⟩
   ·have e2:P.cellsOf e=0:=by
     rcases Nat.mul_eq_zero.1 Rj with q|q
     ·omega
     ·exact q
    have e3:zc= []:=List.eq_nil_of_length_eq_zero (by omega)
    subst e3
    refine ⟨by simp [e2],fun i x hx=> ?_,fun i x cs j c hx OJ hj=> ?_,fun i x cs c hx OJ Qg=> ?_⟩<;>obtain ⟨_,rfl⟩:=oz hx
    ·exact ⟨[],hc,by simp [e2]⟩
    ·rw [hc] at OJ;obtain rfl:=Vk OJ;simp at hj
    ·rw [hc] at OJ;obtain rfl:=Vk OJ;simp at Qg
  ·refine ⟨_,?_,?_,by simp [Rj,dp hi hv],rfl⟩
   ·rw [if_neg Rj,← OT]
    exact zb hc (eR v) OQ len
   ·simp
 obtain ⟨arr,hf,PU,hsa⟩:=h3 M _ _ QA hr0
 have hx:=mH (M:=M) (w:=w) (wd:=w) (arr:=arr) (ty:=e) (n:=arr.size) hw rfl (Below.refl _ _) (0,0)
 have hl:=ml (b:=w.heap.size) (o:= .tight) (cap:=xs.length) (n:=arr.size) PU (cV hw (Vq _)) (Vq _) PU.len rfl
 refine ⟨_,_,_,?_,hx,rfl,rfl,rfl,hl⟩
 simp only [execOp,ho,Instr.buildSlice,VD,run_underlying ht,Vv,ck hk]
 rw [if_neg (by omega)]
 have S5:(newRow e arr).run P w= .ok ⟨w.heap.size,0,none⟩ (w.alloc (.cells arr e)):=by simp [newRow]
 by_cases Rj:len*P.cellsOf e=0
 ·have h5:=hrun0.2
  rw [Rj] at h5
  simp only [Rj,if_true,VD,VK,Vv,SZ]
  simp only [if_true] at h5
  rw [h5,hf]
  simp only [VD,S5,Vv,VK,hlen]
 ·have h5:=hrun0.2
  simp only [Rj,if_false] at h5
  simp only [Rj,if_false,VD,dp hi hv,VK,Vv,SZ,h5]
  rw [hf]
  simp only [VD,S5,Vv,VK,hlen]
theorem hO {M:MM} {ow:j9} {sz size:Nat} {xs:List D} {a:Option Addr} {len cap:Nat} (h:bo M (.aj ow sz xs) (.slice a len cap)) (hs:sz=size∨xs= []) {w:World} (hw:∀b o v,M.cell b o=some v→w.cell? ⟨b,o,none⟩=some v):
  ∃arr:Array Value,arr.size=xs.length*size∧fC M size xs arr∧(∀wd:World,(∀a,wd.cell? a=w.cell? a)→(VW size len (.slice a len cap)).run P wd= .ok arr wd)∧∀v∈arr.toList,v.oneCell'=true:=by
 cases h with
 |aj b off vs hl OL ha OT hc hr OQ ho=>
  by_cases O0:xs= []
  ·subst O0
   have hlen:len=0:=by simpa using hl.symm
   subst hlen
   refine ⟨#[],by simp,⟨by simp,fun i x hx=>by simp at hx,fun i x cs j c hx=>by simp at hx,fun i x cs c hx=>by simp at hx⟩,fun wd _=> ?_,by simp⟩
   cases a with
   |none=>rfl
   |some ad=>simp [VW,loadCells,loadCellsFrom]
  ·obtain rfl:sz=size:=hs.resolve_right O0
   obtain rfl:=ha O0
   let arr:Array Value:=((List.range (xs.length*sz)).map fun k=>vs (k / sz) (k%sz)).toArray
   have O5:∀ {k:Nat},k<xs.length*sz→0<sz:=fun {k} hk=>by
    rcases Nat.eq_zero_or_pos sz with q|q
    ·rw [q] at hk;omega
    ·exact q
   have hdiv:∀ {k:Nat},k<xs.length*sz→k / sz<xs.length∧k%sz<sz∧k / sz*sz+k%sz=k:=fun {k} hk=>by
    have hp:=O5 hk
    refine ⟨(Nat.div_lt_iff_lt_mul hp).2 hk,Nat.mod_lt _ hp,?_⟩
    rw [Nat.mul_comm];exact Nat.div_add_mod k sz
   have Rg:∀ {k:Nat},k<xs.length*sz→∃x cs c,xs[k / sz]? =some x∧x.cells=some cs∧cs[k%sz]? =some c:=fun {k} hk=>by
    obtain ⟨h1,h2,h3⟩:=hdiv hk
    have hx:xs[k / sz]? =some xs[k / sz]:=by simp [h1]
    obtain ⟨cs,OJ,hlen⟩:=OT _ _ hx
    exact ⟨_,cs,cs[k%sz]'(by omega),hx,OJ,by simp [show k%sz<cs.length by omega]⟩
   have PO:∀ {k:Nat} {v:Value},arr[k]? =some v→k<xs.length*sz∧v=vs (k / sz) (k%sz):=fun {k v} hk=>by
    simp only [arr,List.getElem?_toArray,VC,Vz] at hk
    obtain ⟨x,hx,rfl⟩:=hk
    have OK:k<xs.length*sz:=by
     rcases VA k (xs.length*sz) with q|q
     ·exact q
     ·rw [Vw (by simpa using q)] at hx;cases hx
    rw [List.getElem?_range OK] at hx
    cases hx
    exact ⟨OK,rfl⟩
   have P0:arr.size=xs.length*sz:=by simp [arr]
   refine ⟨arr,P0,⟨by rw [P0];exact Vq _,OT,?_,OQ⟩,?_,?_⟩
   ·intro i x cs j c hx OJ hj
    obtain ⟨Ph,q1,q2⟩:=OT i x hx
    rw [OJ] at q1
    obtain rfl:=Vk q1
    have Qr:j<sz:=by
     rcases VA j cs.length with q|q
     ·omega
     ·simp [Vw q] at hj
    have QZ:i<xs.length:=by
     rcases VA i xs.length with q|q
     ·exact q
     ·simp [Vw q] at hx
    have hk:=lI QZ Qr
    refine ⟨vs i j,?_,hr i x cs j c hx OJ hj⟩
    simp only [arr,List.getElem?_toArray,VC,List.getElem?_range hk,Wv,Vs]
    have e1:(i*sz+j) / sz=i:=by
     rw [Nat.add_comm,Nat.add_mul_div_right _ _ (O5 hk),Nat.div_eq_of_lt Qr,VT]
    have e2:(i*sz+j)%sz=j:=by
     rw [Nat.add_comm,Nat.add_mul_mod_self_right,Nat.mod_eq_of_lt Qr]
    rw [e1,e2]
   ·intro wd Tc
    have:=gk (P:=P) (w:=wd) b off arr (fun k v hk=>by
     rw [Tc]
     obtain ⟨OK,rfl⟩:=PO hk
     obtain ⟨x,cs,c,q1,q2,q3⟩:=Rg OK
     obtain ⟨d1,d2,d3⟩:=hdiv OK
     have:=hw _ _ _ (hc _ x cs _ c q1 q2 q3)
     rw [Nat.add_assoc,d3] at this
     exact this)
    simp only [VW]
    rw [P0,hl] at this
    exact this
   ·intro v hv
    obtain ⟨k,hk⟩:=List.mem_iff_getElem?.1 hv
    rw [VE] at hk
    obtain ⟨OK,rfl⟩:=PO hk
    obtain ⟨x,cs,c,q1,q2,q3⟩:=Rg OK
    exact jz (hr _ x cs _ c q1 q2 q3) (OQ _ x cs c q1 q2 (VQ q3))
theorem fC.append {M:MM} {size:Nat} {xs ys:List D} {a1 a2:Array Value} (h1:fC M size xs a1) (h2:fC M size ys a2) (hs:a1.size=xs.length*size) (rest:Array Value):fC M size (xs++ys) (a1++a2++rest):=by
 have Pp:∀ {i:Nat} {x:D},(xs++ys)[i]? =some x→(i<xs.length∧xs[i]? =some x)∨(xs.length≤i∧ys[i - xs.length]? =some x):=by
  intro i x hx
  rw [Wh] at hx
  split at hx
  ·exact .inl ⟨by assumption,hx⟩
  ·exact .inr ⟨by omega,hx⟩
 refine ⟨?_,?_,?_,?_⟩
 ·have:=h2.len
  simp only [Vd,Wj,Wm,hs]
  omega
 ·intro i x hx
  rcases Pp hx with ⟨_,h⟩|⟨_,h⟩
  ·exact h1.elem i x h
  ·exact h2.elem _ x h
 ·intro i x cs j c hx OJ hj
  rcases Pp hx with ⟨_,h⟩|⟨hge,h⟩
  ·obtain ⟨v,hv,hr⟩:=h1.get i x cs j c h OJ hj
   refine ⟨v,?_,hr⟩
   have OK:i*size+j<a1.size:=by
    rcases VA (i*size+j) a1.size with q|q
    ·exact q
    ·simp [VV q] at hv
   rw [Array.append_assoc,V0 OK]
   exact hv
  ·obtain ⟨v,hv,hr⟩:=h2.get _ x cs j c h OJ hj
   refine ⟨v,?_,hr⟩
   have OK:(i - xs.length)*size+j<a2.size:=by
    rcases VA ((i - xs.length)*size+j) a2.size with q|q
    ·exact q
    ·simp [VV q] at hv
   have e:i*size+j=a1.size+((i - xs.length)*size+j):=by
    rw [hs,← Nat.add_assoc,← Wm];congr 2;omega
   rw [e,Array.append_assoc,Array.getElem?_append_right (by omega),show a1.size+((i - xs.length)*size+j) - a1.size=(i - xs.length)*size+j by omega,V0 OK]
   exact hv
 ·intro i x cs c hx OJ hc
  rcases Pp hx with ⟨_,h⟩|⟨_,h⟩
  ·exact h1.st i x cs c h OJ hc
  ·exact h2.st _ x cs c h OJ hc
theorem fR {st xt OZ rty:TypeId} {e2:TypeId} {ts:Array TypeId} {args:Array Value} {i:TypeInfo} {z:Value} (ht:P.underlying st=some (.slice OZ)) (hx:P.underlying xt=some (.slice e2)) (h0:ts[0]? =some st) (h1:ts[1]? =some xt)
  (hi:P.info? OZ=some i) (hz:i.zero=some z) {a a':Option Addr} {len cap OO O7:Nat} {w:World} {g7 new:Array Value} (g0:args[0]? =some (.slice a len cap)) (g1:args[1]? =some (.slice a' OO O7))
  (hold:(VW i.size len (.slice a len cap)).run P w.drew= .ok g7 w.drew) (Pe:(VW i.size OO (.slice a' OO O7)).run P w= .ok new w) (Tw:(VW i.size OO (.slice a' OO O7)).run P w.drew= .ok new w.drew)
  (hb:i.bytes≤65536) (hn:len+OO≤2147483648):
  (len+OO≤cap→(V1 ts rty args).run P w=(do (match a with|some ad=>storeCells (ad.add (len*i.size)) new.toList|none=>pure ());pure (.slice a (len+OO) cap):Sem Value).run P w)∧
  (cap<len+OO→∃nc,len+OO≤nc∧nc≤9223372036854775807∧(V1 ts rty args).run P w= .ok (.slice (some ⟨w.heap.size,0,none⟩) (len+OO) nc) (w.drew.alloc (.cells (g7++new++WB z.cells (nc - (len+OO))) OZ))):=by
 constructor
 ·intro OL
  cases a<;>simp [V1,h0,h1,g0,g1,run_underlying ht,run_underlying hx,sizeOf,typeInfo,hi,Builtin.lenOf,OL,Pe]
 ·intro OL
  have O4:(len+OO)*i.bytes≤140737488355328:=by
   have:=Nat.mul_le_mul hn hb
   omega
  have hg:=growslice_fits OL O4
  refine ⟨grownCap w (len+OO) cap OZ,grownCap_ge w _ _ _,Wo (grownCap_le_maxLen w _ _ _ (by unfold maxLen;omega)) (by unfold maxLen;omega),?_⟩
  have e1:¬(len+OO≤cap):=by omega
  have e2:¬(9223372036854775807<(len:Int)+(OO:Int)∧i.bytes=0):=by omega
  have e3:¬(Builtin.nextslicecap (len+OO) cap*i.bytes>2^48):=by omega
  have e4:(Question.appendCap (len+OO) cap OZ).forced=false:=rfl
  have e5:∀x:Array Value,(newRow OZ x).run P w.drew= .ok ⟨w.heap.size,0,none⟩ (w.drew.alloc (.cells x OZ)):=fun x=>by first|(simp [newRow];done)|(simp [newRow];rfl)
  simp [V1,h0,h1,g0,g1,run_underlying ht,run_underlying hx,sizeOf,typeInfo,hi,Builtin.lenOf,e1,e3,e2,e4,hold,Tw,dp hi hz,e5]
  exact ⟨rfl,rfl⟩
theorem fi {t:TypeId} (h:ej P t=true):∃i z,P.info? t=some i∧i.zero=some z∧z.cells.size=i.size∧P.cellsOf t=i.size:=by
 unfold ej at h
 split at h
 ·rename_i i hi
  split at h
  ·rename_i z hz
   exact ⟨i,z,hi,hz,by simpa using h,by simp [Program.cellsOf,hi]⟩
  ·cases h
 ·cases h
theorem gP {sz size:Nat} {xs:List D} (h:oq sz xs size=true):sz=size∨xs= []:=by
 unfold oq at h
 rw [Bool.or_eq_true,VJ,List.isEmpty_iff] at h
 exact h
theorem wL {w:World} {M:MM} (Px:∀b o v,M.cell b o=some v→w.cell? ⟨b,o,none⟩=some v) {st xt OZ rty e2:TypeId} {ts:Array TypeId} {args:Array Value} (ht:P.underlying st=some (.slice OZ)) (hx:P.underlying xt=some (.slice e2)) (h0:ts[0]? =some st) (h1:ts[1]? =some xt)
  (hz:ej P OZ=true) (O4:P.bytesOf OZ≤65536) {ow Rh:j9} {sz O1:Nat} {xs:List D} {u u':Value} (g0:args[0]? =some u) (g1:args[1]? =some u') (hu:bo M (.aj ow sz xs) u) (Rr:bo M (.aj Rh O1 []) u')
  (OT:sz=P.cellsOf OZ∨xs= []) (hn:xs.length≤cy):(V1 ts rty args).run P w= .ok u w:=by
 obtain ⟨i,z,hi,hiz,Q9,OS⟩:=fi hz
 have O6:i.bytes≤65536:=by simpa [Program.bytesOf,hi] using O4
 cases hu with
 |aj b off vs hl OL ha P0 hc hr OQ ho=>
  rename_i a len cap
  have OP:bo M (.aj ow sz xs) (.slice a len cap):= .aj b off vs hl OL ha P0 hc hr OQ ho
  cases Rr with
  |aj b' off' vs' Pj hcap' ha' hsize' Qm Q0 hst' PX=>
   rename_i a' OO O7
   have Qj:bo M (.aj Rh O1 []) (.slice a' OO O7):= .aj b' off' vs' Pj hcap' ha' hsize' Qm Q0 hst' PX
   rw [OS] at OT
   obtain ⟨g7,os,orow,Qh,_⟩:=hO (P:=P) OP OT Px
   obtain ⟨new,ns,Pw,O2,Ps⟩:=hO (P:=P) Qj (Or.inr rfl:O1=i.size∨([]:List D)= []) Px
   have SS:OO=0:=by simpa using Pj.symm
   subst SS
   have PZ:len+0≤2147483648:=by rw [← hl];exact hn
   obtain ⟨r1,_⟩:=fR (P:=P) (rty:=rty) ht hx h0 h1 hi hiz g0 g1 (Qh w.drew fun _=>rfl) (O2 w fun _=>rfl) (O2 w.drew fun _=>rfl) O6 PZ
   have Ry:new= #[]:=by
    apply Wy;rw [ns];simp
   subst Ry
   rw [r1 (by omega)]
   cases a<;>simp [storeCells]
theorem qk {w0:dm} {w:World} {M:MM} {own:Nat→Option Nat} {σ:Nat→Ob} (hw:bu w0 M own σ w) {st xt OZ rty e2:TypeId} {ts:Array TypeId} {args:Array Value} (ht:P.underlying st=some (.slice OZ)) (hx:P.underlying xt=some (.slice e2)) (h0:ts[0]? =some st) (h1:ts[1]? =some xt)
  (hz:ej P OZ=true) (O4:P.bytesOf OZ≤65536) {ow:j9} {sz OO O7:Nat} {xs ys:List D} {u:Value} {a':Option Addr} {new:Array Value} (g0:args[0]? =some u) (g1:args[1]? =some (.slice a' OO O7)) (hu:bo M (.aj ow sz xs) u) (Pj:ys.length=OO) (ns:new.size=ys.length*P.cellsOf OZ) (Pw:fC M (P.cellsOf OZ) ys new) (O2:∀wd:World,(∀a,wd.cell? a=w.cell? a)→(VW (P.cellsOf OZ) OO (.slice a' OO O7)).run P wd= .ok new wd) (Ps:∀v∈new.toList,v.oneCell'=true)
  (OT:sz=P.cellsOf OZ∨xs= []) (hn:xs.length+ys.length≤cy) {id ver:Nat} (QG:∀v,ver≤v→M.bl id v=none)
  (Pc:∀a len cap,u= .slice a len cap→cap=len∨∃b vs ty fz Ri PC,a=some ⟨b,0,none⟩∧qs w0 M own id (P.cellsOf OZ) w len cap b vs ty fz∧σ id= .bz Ri PC):
  ∃v M' OH w',(V1 ts rty args).run P w= .ok v w'∧M.Le M'∧bu w0 M' OH (dE σ id (.bz ver (P.cellsOf OZ))) w'∧bo M' (.aj (.tok id ver) (P.cellsOf OZ) (xs++ys)) v∧M'.box=M.box∧∀j,j≠id→M'.bl j=M.bl j:=by
 obtain ⟨i,z,hi,hiz,Q9,OS⟩:=fi hz
 have O6:i.bytes≤65536:=by simpa [Program.bytesOf,hi] using O4
 cases hu with
 |aj b off vs hl OL ha P0 hc hr OQ ho=>
  rename_i a len cap
  have OP:bo M (.aj ow sz xs) (.slice a len cap):= .aj b off vs hl OL ha P0 hc hr OQ ho
  rw [OS] at OT ns Pw O2
  obtain ⟨g7,os,orow,Qh,_⟩:=hO (P:=P) OP OT hw.cells
  have PZ:len+OO≤2147483648:=by rw [← hl,← Pj];exact hn
  obtain ⟨r1,r2⟩:=fR (P:=P) (rty:=rty) ht hx h0 h1 hi hiz g0 g1 (Qh w.drew fun _=>rfl) (O2 w fun _=>rfl) (O2 w.drew fun _=>rfl) O6 PZ
  rcases VA cap (len+OO) with OK|hge
  ·
   obtain ⟨nc,Su,Sl,OY⟩:=r2 OK
   let arr:=g7++new++WB z.cells (nc - (len+OO))
   have PU:fC M i.size (xs++ys) arr:=orow.append Pw os _
   have Pm:arr.size=nc*i.size:=by
    simp only [arr,Wj,size_zeroCells,os,ns,Q9,hl,Pj,← Wm]
    congr 1;omega
   have Sf:(xs++ys).length*i.size≤(len+OO)*i.size:=by rw [Vd,hl,Pj];exact Vq _
   have QX:=mH (M:=M) (w:=w) (wd:=w.drew) (arr:=arr) (ty:=OZ) (n:=(len+OO)*i.size) hw.cells rfl (Below.refl _ _).drew (0,0)
   obtain ⟨Qx,P5⟩:=hw.ext QX rfl rfl rfl
   have QO:(w.drew.alloc (.cells arr OZ (0,0))).heap[w.heap.size]? =some (.cells arr OZ (0,0)):=by
    show (w.heap.push _)[w.heap.size]? =_
    simp
   have PG:own w.heap.size=none:=by
    cases e:own w.heap.size with
    |none=>rfl
    |some q=>have:=hw.owned _ _ e;omega
   obtain ⟨OH,hw3⟩:=Qx.lH (id:=id) (ver:=ver) QG (a:=some ⟨w.heap.size,0,none⟩) (len:=len+OO) (cap:=nc) i.size
    (.inr ⟨w.heap.size,arr,OZ,(0,0),rfl,hw.below.new,.inl PG,QO,fun o _ h=>by have:=h.2;simp at this,⟨by rw [Pm];exact Vq _,Sl⟩,fun o ho=>by
     simp only [MM.lay,MM.bC,if_true];rw [if_neg (by omega)]⟩)
   have Qp:=MM.cA (M:=M.lay w.heap.size arr ((len+OO)*i.size)) (id:=id) (ver:=ver) (v:= .slice (some ⟨w.heap.size,0,none⟩) (len+OO) nc) (QG ver (Vq _))
   refine ⟨_,_,OH,_,OY,P5.trans Qp,by rw [OS];exact hw3,?_,rfl,?_⟩
   ·have hlen:(xs++ys).length=len+OO:=by rw [Vd,hl,Pj]
    have h5:=ml (M:=M) (b:=w.heap.size) (o:= .no) (cap:=nc) (n:=(len+OO)*i.size) PU (cV hw.cells (Vq _)) (by omega) Sf trivial
    rw [OS]
    rw [hlen] at h5
    exact (h5.mono Qp).flag _ (by simp [MM.lM,MM.aW])
   ·intro j hj
    funext k
    simp [MM.aW,hj,MM.lay,MM.bC]
  ·have OY:=r1 hge
   by_cases hy:ys= []
   ·
    subst hy
    have SS:OO=0:=by simpa using Pj.symm
    subst SS
    have Ry:new= #[]:=by
     apply Wy;rw [ns];simp
    subst Ry
    have Q4:(V1 ts rty args).run P w= .ok (.slice a len cap) w:=by
     rw [OY]
     cases a<;>simp [storeCells]
    have St:cap=len∨∃b vs ty fz,a=some ⟨b,0,none⟩∧¬w0.X b∧(own b=none∨own b=some id)∧w.heap[b]? =some (.cells vs ty fz)∧ka fz vs.size∧(cap*i.size≤vs.size∧cap≤9223372036854775807)∧∀o,len*i.size≤o→M.cell b o=none:=by
     rcases Pc a len cap rfl with q|⟨b,vs,ty,fz,_,_,ha,r,_⟩
     ·exact .inl q
     ·rw [OS] at r
      exact .inr ⟨b,vs,ty,fz,ha,r.base,.inr r.own,r.cq,r.fz,r.cap,r.none⟩
    obtain ⟨OH,hw3⟩:=hw.lH (id:=id) (ver:=ver) QG i.size St
    have Qp:=MM.cA (id:=id) (ver:=ver) (v:= .slice a len cap) (QG ver (Vq _))
    refine ⟨_,_,OH,w,Q4,Qp,by rw [OS];exact hw3,?_,rfl,?_⟩
    ·rw [Wb,OS]
     exact ((OP.resize OT).mono Qp).flag _ (by simp [MM.lM,MM.aW])
    ·intro j hj
     funext k
     simp [MM.aW,hj]
   ·
    have O5:0<OO:=by
     rw [← Pj];exact List.length_pos_iff.2 hy
    rcases Pc a len cap rfl with q|⟨b1,vs1,ty1,fz1,Ri,PC,ha1,r,hσ⟩
    ·omega
    ·rw [OS] at r
     subst ha1
     have RL:new.toList.length=OO*i.size:=by rw [V2,ns,Pj]
     have PV:len*i.size+new.toList.length≤vs1.size:=by
      rw [RL,← Wm];exact Wo (V7 _ hge) r.cap.1
     have PE:=dZ (P:=P) (b:=b1) (off:=len*i.size) new.toList 0 w vs1 r.cq Ps (by simpa using PV) r.fz
     rw [WI] at PE
     let vs2:=cQ vs1 (len*i.size) new.toList
     have Pn:∀o,o<len*i.size→vs2[o]? =vs1[o]? :=fun o ho=>by
      simp only [vs2];rw [eK _ _ _ _ PV,if_neg (by omega)]
     have Qx:=hw.Ea hσ r ((len+OO)*i.size) (vs':=vs2) (cX _ _ _) Pn
     have P5:M.Le (M.cG b1 (len*i.size) ((len+OO)*i.size) vs2):=MM.zX r.none
     obtain ⟨OH,hw3⟩:=Qx.lH (id:=id) (ver:=ver) QG (a:=some ⟨b1,0,none⟩) (len:=len+OO) (cap:=cap) i.size
      (.inr ⟨b1,vs2,ty1,fz1,rfl,r.base,.inr r.own,dy r.cq,by simp only [vs2,cX];exact r.fz,by simp only [vs2,cX];exact r.cap,fun o ho=>by
       simp only [MM.cG,MM.bC,if_true]
       rw [if_neg (by omega)]
       exact r.none o (by rw [Wm] at ho;omega)⟩)
     have Qp:=MM.cA (M:=M.cG b1 (len*i.size) ((len+OO)*i.size) vs2) (id:=id) (ver:=ver) (v:= .slice (some ⟨b1,0,none⟩) (len+OO) cap) (QG ver (Vq _))
     have hσ2:dE (dE σ id .dead) id (.bz ver i.size)=dE σ id (.bz ver i.size):=by
      funext j;by_cases e:j=id<;>simp [dE,e]
     rw [hσ2] at hw3
     refine ⟨.slice (some ⟨b1,0,none⟩) (len+OO) cap,_,OH,bh w b1 (.cells vs2 ty1 fz1),?_,P5.trans Qp,by rw [OS];exact hw3,?_,rfl,?_⟩
     ·rw [OY]
      simp only [ek,VT,VD,PE,Vv,VK]
      rfl
     ·rw [OS]
      refine bo.flag (o:= .no) ?_ _ (by simp [MM.lM,MM.aW])
      refine bo.mono ?_ Qp
      have Qn:∀ {k:Nat} {x:D},(xs++ys)[k]? =some x→(k<len∧xs[k]? =some x)∨(len≤k∧k<len+OO∧ys[k - len]? =some x):=by
       intro k x hx
       rw [Wh] at hx
       split at hx
       ·exact .inl ⟨by omega,hx⟩
       ·refine .inr ⟨by omega,?_,by rw [← hl];exact hx⟩
        have:k - xs.length<ys.length:=by
         rcases VA (k - xs.length) ys.length with q|q
         ·exact q
         ·simp [Vw q] at hx
        omega
      have hold:∀ {k:Nat} {x:D} {cs:List D} {j:Nat} {c:D},xs[k]? =some x→x.cells=some cs→cs[j]? =some c→M.cell b1 (k*i.size+j)=some (vs k j)∧bo M.bare c (vs k j):=by
       intro k x cs j c hx OJ hj
       have O0:xs≠ []:=fun e=>by subst e;simp at hx
       have e1:=ha O0
       obtain ⟨rfl,rfl⟩:b1=b∧0=off:=by simpa using e1
       have e2:sz=i.size:=OT.resolve_right O0
       have h5:=hc k x cs j c hx OJ hj
       rw [e2,VT] at h5
       exact ⟨h5,hr k x cs j c hx OJ hj⟩
      have Uw:∀ {k:Nat} {x:D} {cs:List D} {j:Nat} {c:D},(xs++ys)[k]? =some x→x.cells=some cs→cs[j]? =some c→j<i.size:=by
       intro k x cs j c hx OJ hj
       have hlen:cs.length=i.size:=by
        rcases Qn hx with ⟨_,h⟩|⟨_,_,h⟩
        ·obtain ⟨Ph,q1,q2⟩:=orow.elem _ x h;rw [OJ] at q1;obtain rfl:=Vk q1;exact q2
        ·obtain ⟨Ph,q1,q2⟩:=Pw.elem _ x h;rw [OJ] at q1;obtain rfl:=Vk q1;exact q2
       rcases VA j cs.length with q|q
       ·omega
       ·simp [Vw q] at hj
      refine .aj b1 0 (fun k j=>if k<len then vs k j else (new[(k - len)*i.size+j]?).getD .nilFunc) (by rw [Vd,hl,Pj]) hge (fun _=>rfl) ?_ ?_ ?_ ?_ trivial
      ·intro k x hx
       rcases Qn hx with ⟨_,h⟩|⟨_,_,h⟩
       ·exact orow.elem _ x h
       ·exact Pw.elem _ x h
      ·intro k x cs j c hx OJ hj
       have Qr:=Uw hx OJ hj
       rw [VT]
       simp only [MM.cG,MM.bC,if_true]
       rcases Qn hx with ⟨hk,h⟩|⟨hk,Rt,h⟩
       ·have:=lI hk Qr
        rw [if_neg (by omega),if_pos hk]
        exact (hold h OJ hj).1
       ·have h6:=lI Rt Qr
        have h7:len*i.size≤k*i.size:=V7 _ hk
        rw [if_pos ⟨by omega,h6⟩,if_neg (by omega)]
        obtain ⟨v,hv,_⟩:=Pw.get _ x cs j c h OJ hj
        have e:k*i.size+j - len*i.size=(k - len)*i.size+j:=by
         rw [Nat.sub_mul];omega
        simp only [vs2]
        rw [eK _ _ _ _ PV,if_pos ⟨by omega,by rw [RL,← Wm];exact h6⟩,e,VE,hv]
        rfl
      ·intro k x cs j c hx OJ hj
       rcases Qn hx with ⟨hk,h⟩|⟨hk,_,h⟩
       ·simp only [if_pos hk]
        exact (hold h OJ hj).2.mono P5.bare
       ·simp only [if_neg (show ¬k<len by omega)]
        obtain ⟨v,hv,SK⟩:=Pw.get _ x cs j c h OJ hj
        rw [hv]
        exact SK.mono P5.bare
      ·intro k x cs c hx OJ Qg
       rcases Qn hx with ⟨_,h⟩|⟨_,_,h⟩
       ·exact orow.st _ x cs c h OJ Qg
       ·exact Pw.st _ x cs c h OJ Qg
     ·intro j hj
      funext k
      simp [MM.aW,hj,MM.cG,MM.bC]
theorem og {w0:dm} {w:World} {M:MM} {own:Nat→Option Nat} {σ:Nat→Ob} (hw:bu w0 M own σ w) {st xt OZ rty e2:TypeId} {ts:Array TypeId} {args:Array Value} (ht:P.underlying st=some (.slice OZ)) (hx:P.underlying xt=some (.slice e2)) (h0:ts[0]? =some st) (h1:ts[1]? =some xt)
  (hz:ej P OZ=true) (O4:P.bytesOf OZ≤65536) {ow Rh:j9} {sz O1:Nat} {xs ys:List D} {u u':Value} (g0:args[0]? =some u) (g1:args[1]? =some u') (hu:bo M (.aj ow sz xs) u) (Rr:bo M (.aj Rh O1 ys) u')
  (OT:sz=P.cellsOf OZ∨xs= []) (Ro:O1=P.cellsOf OZ∨ys= []) (hn:xs.length+ys.length≤cy) {id ver:Nat} (QG:∀v,ver≤v→M.bl id v=none)
  (Pc:∀a len cap,u= .slice a len cap→cap=len∨∃b vs ty fz Ri PC,a=some ⟨b,0,none⟩∧qs w0 M own id (P.cellsOf OZ) w len cap b vs ty fz∧σ id= .bz Ri PC):
  ∃v M' OH w',(V1 ts rty args).run P w= .ok v w'∧M.Le M'∧bu w0 M' OH (dE σ id (.bz ver (P.cellsOf OZ))) w'∧bo M' (.aj (.tok id ver) (P.cellsOf OZ) (xs++ys)) v∧M'.box=M.box∧∀j,j≠id→M'.bl j=M.bl j:=by
 cases Rr with
 |aj b' off' vs' Pj hcap' ha' hsize' Qm Q0 hst' PX=>
  rename_i a' OO O7
  have Qj:bo M (.aj Rh O1 ys) (.slice a' OO O7):= .aj b' off' vs' Pj hcap' ha' hsize' Qm Q0 hst' PX
  obtain ⟨new,ns,Pw,O2,Ps⟩:=hO (P:=P) Qj Ro hw.cells
  exact qk hw ht hx h0 h1 hz O4 g0 g1 hu Pj ns Pw O2 Ps OT hn QG Pc
end
structure tX (P:Program) (id:Nat) (args:List D) (s:List Ob) (d:D) (s':List Ob):Prop where
  len:s.length≤s'.length
  run:∀(w0:dm) (M:MM) (own:Nat→Option Nat) (w:World) (vs:Array Value) (l:Nat),bu w0 M own (bq s) w→M.upto s.length→bT M args vs→M.box id=some l→
    ∃fn tmps ag bd,(Instr.yield l vs).run P w= .ok (.round l fn tmps ag bd) w∧
      RoundIn Fence.wide 0 P l fn tmps ag bd w fun e w'=> ∃v M' OH,e= .returned v∧bu w0 M' OH (bq s') w'∧M'.upto s'.length∧M.Le M'∧bo M' d v
def J5 (P:Program) (g:Tg) (args:List D) (s:List Ob) (d:D) (s':List Ob):Prop:=match g with
  | .fn f=>cO P f args s d s'
  | .yl id=>tX P id args s d s'
def jv (P:Program) {ρ':Type} (inl:Ak P ρ'):Prop:= ∀(g:Tg) (args:List D) (s:List Ob) (z:Z P) (K:D→List Ob→Z P→Option ρ') (r:ρ'),inl g args s z K=some r→
  ∃d s' z',K d s' z'=some r∧(z'.c→z.c∧J5 P g args s d s')
def EA (P:Program) (o:Oper) (ρ:Operand→D) (s s':List Ob) (d:D):Prop:=
  s.length≤s'.length∧∀(w0:dm) (M:MM) (own:Nat→Option Nat) (w:World) (a:Act),bu w0 M own (bq s) w→M.upto s.length→(∀x∈o.op.operands,bo M (ρ x) (a.eval x))→
    ∀(next:Act→World→Prop) (Q:Exit→Act→World→Prop),
      (∀v M' OH w',M.Le M'→M'.upto s'.length→bu w0 M' OH (bq s') w'→bo M' d v→next (a.put o.dst v) w')→EJ P o a w next Q
def hJ (P:Program) (o:Oper) (ρ:Operand→D) (s:List Ob) (e:gZ):Prop:=match e with
  | .all s' d=>EA P o ρ s s' d
  | .read i ob d=>(s.getD i .dead=ob∧i<s.length)∧dY P o ρ (.read i ob d)
  | .gm i j d=>(eZ (s.getD i .dead) j=some d∧i<s.length)∧dY P o ρ (.gm i j d)
  | .dE i ob Rf d=>(s.getD i .dead=ob∧i<s.length)∧dY P o ρ (.dE i ob Rf d)
  |e=>dY P o ρ e
theorem cK {s:List Ob} {i:Nat} (h:s.getD i .dead≠ .dead):i<s.length:=by
 rcases VA i s.length with q|q
 ·exact q
 ·rw [Vr,Vw q] at h;exact absurd rfl h
theorem rF {P:Program} {o:Oper} {ρv:Operand→Value} {c:Call} {f:Operand} {g:FuncId} {fv cv:Array Value} (ho:o.op= .call c) (hc:c.callee= .value f) (hf:ρv f= .func (.func g) fv cv) (he:J8 P g) (w:World):
  (execOp ρv o).run P w= .ok (.enter g ((fv++c.args.map ρv)++cv)) w:=by
 obtain ⟨fn,code,h1,h2,h3⟩:=he
 simp only [execOp,ho,resolve,hc,hf,Deferred.ofValue,VD,VK,Vv,invoke,callFunc,run_program,h1,h3,V5,if_false,h2,Option.isNone_some]
theorem uo {P:Program} {o:Oper} {a:Act} {w:World} {g:FuncId} {vs:Array Value} {next:Act→World→Prop} {Q:Exit→Act→World→Prop} (h:(execOp a.eval o).run P w= .ok (.enter g vs) w)
  (k:Calls P g vs w fun e w'=> ∃v,e= .returned v∧next (a.put o.dst v) w'):EJ P o a w next Q:=by
 intro r
 refine ⟨fun _ _=>trivial,?_⟩
 rw [show (FW r).round=r from rfl,kG h (fun d e=>by cases e) r,Oper.uponIn_enter]
 refine ⟨fun e=>(by cases e),?_⟩
 have k':CallsIn (FW r) (0 - 1) P g vs w fun e w'=> ∃v,e= .returned v∧next (a.put o.dst v) w':=(callsIn_wide (n:=0)).2 k
 refine k'.mono fun e w' hh=> ?_
 obtain ⟨v,rfl,hn⟩:=hh
 exact hn
theorem yg {P:Program} {o:Oper} {ρv:Operand→Value} {c:Call} {f:Operand} {l:Nat} (ho:o.op= .call c) (hc:c.callee= .value f) (hf:ρv f= .func (.yield l) #[] #[]) (w:World):
  (execOp ρv o).run P w=(Instr.yield l (c.args.map ρv)).run P w:=by
 simp only [execOp,ho,resolve,hc,hf,Deferred.ofValue,VD,VK,Vv,invoke,Array.empty_append,Array.append_empty]
theorem Ct {P:Program} {o:Oper} {a:Act} {w:World} {l:Nat} {fn:FuncId} {tmps:Array Value} {ag bd:Code} {next:Act→World→Prop} {Q:Exit→Act→World→Prop} (h:(execOp a.eval o).run P w= .ok (.round l fn tmps ag bd) w)
  (k:RoundIn Fence.wide 0 P l fn tmps ag bd w fun e w'=> ∃v,e= .returned v∧next (a.put o.dst v) w'):EJ P o a w next Q:=by
 intro r
 refine ⟨fun _ _=>trivial,?_⟩
 rw [show (FW r).round=r from rfl,kG h (fun d e=>by cases e) r,Oper.uponIn_round]
 refine ⟨fun e=>(by cases e),?_⟩
 have k':RoundIn (FW r) (0 - 1) P l fn tmps ag bd w fun e w'=> ∃v,e= .returned v∧next (a.put o.dst v) w':=k
 refine k'.mono fun e w' hh=> ?_
 obtain ⟨v,rfl,hn⟩:=hh
 exact hn
theorem bT.append {M:MM} {xs ys:List D} {us vs:Array Value} (h:bT M xs us) (k:bT M ys vs):bT M (xs++ys) (us++vs):=by
 refine ⟨by simp [h.1,k.1],fun i d v a b=> ?_⟩
 rw [Wh] at a
 rw [Array.getElem?_append] at b
 rw [← h.1] at b
 split at a
 ·rename_i hi
  rw [if_pos hi] at b
  exact h.2 i d v a b
 ·rename_i hi
  rw [if_neg hi] at b
  exact k.2 _ d v a b
theorem pg {M:MM} {ρ:Operand→D} {a:Act} (l:Array Operand) (h:∀x∈l,bo M (ρ x) (a.eval x)):bT M (l.toList.map ρ) (l.map a.eval):=by
 refine ⟨by simp,fun i d v p q=> ?_⟩
 rw [VC,Vz] at p
 obtain ⟨x,hx,rfl⟩:=p
 rw [VE] at hx
 rw [Array.getElem?_map,hx] at q
 simp only [Wv,Vs] at q
 subst q
 exact h x (Array.mem_of_getElem? hx)
theorem bo.aJ {M:MM} {d:D} {v:Value} (h:bo M d v):bo M d.aJ v:=by
 induction h with
 |undef v=>exact .undef v
 |int k n=>exact .int k n
 |bool b=>exact .bool b
 |str s=>exact .str s
 |fL=>exact .fL
 |ptr q h=>exact .ptr q h
 |cT q vs hx hc hr ih=>exact .cT q vs hx hc hr
 |bp h=>exact .bp h
 |jx h=>exact .jx h
 |bR h hh hc=>exact .bR h hh hc
 |sub h hc hp ho=>exact .sub h hc hp ho
 |aj b off vs hl OL ha OT hc hr OQ ho ih=>
  rename_i o _ _ _ _ _
  rw [D.aJ]
  refine .aj b off vs hl OL ha OT hc hr OQ ?_
  cases o<;>first|trivial|exact ho
 |av=>exact .av
 |fn h1 h2 r1 r2 i1 i2=>
  rw [D.aJ,D.eP,D.eP]
  refine .fn (by simpa using h1) (by simpa using h2) ?_ ?_
  ·intro i d v a b
   rw [VC,Vz] at a
   obtain ⟨d0,h0,rfl⟩:=a
   exact i1 i d0 v h0 b
  ·intro i d v a b
   rw [VC,Vz] at a
   obtain ⟨d0,h0,rfl⟩:=a
   exact i2 i d0 v h0 b
 |agg h r ih=>
  rw [D.aJ,D.eP]
  refine .agg (by simpa using h) fun i d v a b=> ?_
  rw [VC,Vz] at a
  obtain ⟨d0,h0,rfl⟩:=a
  exact ih i d0 v h0 b
 |aM h r ih=>
  rw [D.aJ,D.eP]
  refine .aM (by simpa using h) fun i d v a b=> ?_
  rw [VC,Vz] at a
  obtain ⟨d0,h0,rfl⟩:=a
  exact ih i d0 v h0 b
theorem qm {id:Nat} :∀ {ds l:List D} {sz:Nat},gv id ds=some (l,sz)→∃(k O1:Nat) (xs:List D),ds[k]? =some (D.aj (.fresh sz) O1 xs)∧l.length=ds.length∧
  ∀(i:Nat) (d':D),l[i]? =some d'→(i=k∧d'=D.aj (.tok id 0) O1 xs)∨∃d0:D,ds[i]? =some d0∧(d'=d0∨d'=d0.aJ)
 | [],l,sz,h=>by simp [gv] at h
 |d::r,l,sz,h=>by
  unfold gv at h
  split at h
  ·cases h
  ·rename_i SO PC xs r' heq
   simp only [List.cons.injEq] at heq
   obtain ⟨rfl,rfl⟩:=heq
   simp only [Vs,Prod.mk.injEq] at h
   obtain ⟨rfl,rfl⟩:=h
   refine ⟨0,PC,xs,rfl,by simp,fun i d' hi=> ?_⟩
   cases i with
   |zero=>simp at hi;exact .inl ⟨rfl,hi.symm⟩
   |succ i=>
    simp only [V8,VC,Vz] at hi
    obtain ⟨d0,h0,rfl⟩:=hi
    exact .inr ⟨d0,by simpa using h0,.inr rfl⟩
  ·rename_i d1 r1 _ heq
   simp only [List.cons.injEq] at heq
   obtain ⟨rfl,rfl⟩:=heq
   split at h
   ·rename_i l' O1 hl
    simp only [Vs,Prod.mk.injEq] at h
    obtain ⟨rfl,rfl⟩:=h
    obtain ⟨k,PC,xs,h1,h2,h3⟩:=qm hl
    refine ⟨k+1,PC,xs,by simpa using h1,by simp [h2],fun i d' hi=> ?_⟩
    cases i with
    |zero=>simp at hi;exact .inr ⟨d,rfl,.inl hi.symm⟩
    |succ i=>
     rcases h3 i d' (by simpa using hi) with ⟨e1,e2⟩|⟨d0,e1,e2⟩
     ·exact .inl ⟨by omega,e2⟩
     ·exact .inr ⟨d0,by simpa using e1,e2⟩
   ·cases h
theorem Ey (id Qq:Nat) (d:D):(kD id d).2=(kD Qq d).2:=by
 have hl:∀ds:List D,(gv id ds).map (·.2)=(gv Qq ds).map (·.2):=by
  intro ds
  induction ds with
  |nil=>rfl
  |cons d r ih=>
   unfold gv
   split
   ·rfl
   ·rfl
   ·rename_i h;
    cases h1:gv id r with
    |none=>
     rw [h1] at ih
     cases h2:gv Qq r with
     |none=>simp_all
     |some p=>rw [h2] at ih;cases ih
    |some p=>
     rw [h1] at ih
     cases h2:gv Qq r with
     |none=>rw [h2] at ih;cases ih
     |some q=>
      rw [h2] at ih
      have:p.2=q.2:=by simpa using ih
      simp_all
 unfold kD
 split
 ·rfl
 ·rename_i ds
  have:=hl ds
  cases h1:gv id ds with
  |none=>
   rw [h1] at this
   cases h2:gv Qq ds with
   |none=>rfl
   |some p=>rw [h2] at this;cases this
  |some p=>
   rw [h1] at this
   cases h2:gv Qq ds with
   |none=>rw [h2] at this;cases this
   |some q=>
    rw [h2] at this
    have:p.2=q.2:=by simpa using this
    simp [this]
 ·rfl
theorem Ew {w0:dm} {w w':World} {M M1:MM} {own:Nat→Option Nat} {σ:Nat→Ob} (hw:bu w0 M own σ w) (R2:bu w0 M1 own σ w') (_hle:w.heap.size≤w'.heap.size) {id:Nat} (O8:∀v,M1.bl id v=none) {d:D} {v:Value} (hr:bo M1 d v) (hf:za w.heap.size w' M1.cell d v):
  ∃M' OH,M1.Le M'∧M'.box=M1.box∧(∀j,j≠id→M'.bl j=M1.bl j)∧bu w0 M' OH (dE σ id (kD id d).2) w'∧bo M' (kD id d).1 v:=by
 have bz:∀ {sz:Nat} {a:Option Addr} {len cap:Nat},ik w.heap.size w' M1.cell sz a len cap→∃OH,bu w0 (M1.aW id 0 (.slice a len cap)) OH (dE σ id (.bz 0 sz)) w':=by
  intro sz a len cap Pc
  refine R2.lH (fun v _=>O8 v) sz ?_
  rcases Pc with q|⟨b,vs,ty,fz,h1,h2,h3,h4,h5,h6⟩
  ·exact .inl q
  ·refine .inr ⟨b,vs,ty,fz,h1,(fun k=>by have:=hw.below.Jq k;omega),.inl ?_,h3,h4,h5,h6⟩
   cases e:own b with
   |none=>rfl
   |some q=>have:=hw.owned _ _ e;omega
 have bn:∀ {x:Value},(∀j,j≠id→(M1.aW id 0 x).bl j=M1.bl j):=fun {x} j hj=>by funext k;simp [MM.aW,hj]
 have dead:∀ {d':D},bo M1 d' v→∃M' OH,M1.Le M'∧M'.box=M1.box∧(∀j,j≠id→M'.bl j=M1.bl j)∧bu w0 M' OH (dE σ id .dead) w'∧bo M' d' v:=
  fun h=>⟨M1,own,.refl _,rfl,fun _ _=>rfl,R2.kill id,h⟩
 unfold kD
 split
 ·rename_i sz O1 xs
  obtain ⟨a,len,cap,rfl,rfl,Pc⟩:=hf.1 _ _ _ rfl
  obtain ⟨OH,h1⟩:=bz Pc
  have le:=MM.cA (M:=M1) (id:=id) (ver:=0) (v:= .slice a len cap) (O8 0)
  exact ⟨_,OH,le,rfl,bn,h1,(hr.mono le).flag _ (by simp [MM.lM,MM.aW])⟩
 ·rename_i ds
  split
  ·rename_i l sz hl
   obtain ⟨k,O1,xs,h1,h2,h3⟩:=qm hl
   cases hr with
   |aM hlen OP=>
    rename_i vs
    obtain ⟨a,len,cap,hv,rfl,Pc⟩:=hf.2 _ _ rfl rfl k _ _ _ h1
    obtain ⟨OH,h4⟩:=bz Pc
    have le:=MM.cA (M:=M1) (id:=id) (ver:=0) (v:= .slice a len cap) (O8 0)
    refine ⟨_,OH,le,rfl,bn,h4,.aM (by rw [h2];exact hlen) fun i d' u hi hu=> ?_⟩
    rcases h3 i d' hi with ⟨rfl,rfl⟩|⟨d0,e1,e2⟩
    ·rw [hv] at hu
     obtain rfl:=Vk hu
     exact ((OP _ _ _ h1 hv).mono le).flag _ (by simp [MM.lM,MM.aW])
    ·have:=(OP i d0 u e1 hu).mono le
     rcases e2 with rfl|rfl
     ·exact this
     ·exact this.aJ
  ·exact dead hr
 ·exact dead hr
theorem Hn {P:Program} {o:Oper} {ρ:Operand→D} {c:Call} {f:Operand} {g:FuncId} {first cap as:List D} {d:D} (ho:o.op= .call c) (hc:c.callee= .value f) (hf:ρ f= .fn (.func g) first cap) (RX:aZ P g as d)
  (has:∀(M:MM) (vs:Array Value),bT M (first++(c.args.toList.map ρ++cap)) vs→bT M.bare as vs):dY P o ρ (.new (kD 0 d).2 fun id=>(kD id d).1):=by
 intro w0 M own σ w a id hw hr OU next Q hn
 have OV:∀x∈c.args,bo M (ρ x) (a.eval x):=fun x hx=>hr x (by
  simp only [ho,Vx,WM,hc]
  exact Array.mem_append.2 (.inr hx))
 have QK:=hr f (by
  simp only [ho,Vx,WM,hc]
  exact Array.mem_append.2 (.inl (by simp)))
 rw [hf] at QK
 generalize hfv:a.eval f=fval at QK
 cases QK with
 |fn h1 h2 r1 r2=>
  rename_i fv cv
  have PM:bT M (first++(c.args.toList.map ρ++cap)) ((fv++c.args.map a.eval)++cv):=by
   rw [Array.append_assoc]
   exact bT.append ⟨h1,r1⟩ (bT.append (pg c.args OV) ⟨h2,r2⟩)
  have Rz:=RX.run w M.cell _ hw.cells (has M _ PM)
  refine uo (rF ho hc hfv RX.Cr w) (Calls.mono Rz fun e w' hh=> ?_)
  obtain ⟨v,C',rfl,hext,OP,QD⟩:=hh
  let M1:MM:=⟨C',M.box,M.bl,M.dW⟩
  have hx:Ext M w M1 w':=⟨hext.below,hext.cell,hext.only,hext.cells⟩
  obtain ⟨R2,SI⟩:=hw.ext hx rfl rfl rfl
  obtain ⟨M',OH,q1,q2,q3,q4,q5⟩:=Ew (id:=id) hw R2 hext.below.size OU.2 (OP.mono (MM.jR M1)) QD
  refine ⟨v,rfl,hn v M' OH w' (SI.trans q1) ⟨fun j _=>by rw [q2],fun j hj=>q3 j hj⟩ ?_ q5⟩
  show bu w0 M' OH (dE σ id (kD 0 d).2) w'
  rw [Ey 0 id d]
  exact q4
theorem C1 {P:Program} {o:Oper} {ρ:Operand→D} {c:Call} {f:Operand} {g:FuncId} {first cap:List D} {d:D} {s s':List Ob} (ho:o.op= .call c) (hc:c.callee= .value f) (hf:ρ f= .fn (.func g) first cap)
  (OY:cO P g (first++(c.args.toList.map ρ++cap)) s d s'):EA P o ρ s s' d:=by
 refine ⟨OY.len,?_⟩
 intro w0 M own w a hw PB hr next Q hn
 have OV:∀x∈c.args,bo M (ρ x) (a.eval x):=fun x hx=>hr x (by
  simp only [ho,Vx,WM,hc]
  exact Array.mem_append.2 (.inr hx))
 have QK:=hr f (by
  simp only [ho,Vx,WM,hc]
  exact Array.mem_append.2 (.inl (by simp)))
 rw [hf] at QK
 generalize hfv:a.eval f=fval at QK
 cases QK with
 |fn h1 h2 r1 r2=>
  rename_i fv cv
  have PM:bT M (first++(c.args.toList.map ρ++cap)) ((fv++c.args.map a.eval)++cv):=by
   rw [Array.append_assoc]
   exact bT.append ⟨h1,r1⟩ (bT.append (pg c.args OV) ⟨h2,r2⟩)
  refine uo (rF ho hc hfv OY.Cr w) (Calls.mono (OY.run w0 M own w _ hw PB PM) fun e w' hh=> ?_)
  obtain ⟨v,M',OH,rfl,q1,q2,q3,q4⟩:=hh
  exact ⟨v,rfl,hn v M' OH w' q3 q2 q1 q4⟩
theorem Hm {P:Program} {o:Oper} {ρ:Operand→D} {c:Call} {f:Operand} {id:Nat} {d:D} {s s':List Ob} (ho:o.op= .call c) (hc:c.callee= .value f) (hf:ρ f= .jx id)
  (OY:tX P id (c.args.toList.map ρ) s d s'):EA P o ρ s s' d:=by
 refine ⟨OY.len,?_⟩
 intro w0 M own w a hw PB hr next Q hn
 have OV:∀x∈c.args,bo M (ρ x) (a.eval x):=fun x hx=>hr x (by
  simp only [ho,Vx,WM,hc]
  exact Array.mem_append.2 (.inr hx))
 have QK:=hr f (by
  simp only [ho,Vx,WM,hc]
  exact Array.mem_append.2 (.inl (by simp)))
 rw [hf] at QK
 generalize hfv:a.eval f=fval at QK
 cases QK with
 |jx hb=>
  obtain ⟨fn,tmps,as,bd,h1,h2⟩:=OY.run w0 M own w _ _ hw PB (pg c.args OV) hb
  refine Ct (l:=_) ((yg ho hc hfv w).trans h1) (h2.mono fun e w' hh=> ?_)
  obtain ⟨v,M',OH,rfl,q1,q2,q3,q4⟩:=hh
  exact ⟨v,rfl,hn v M' OH w' q3 q2 q1 q4⟩
theorem jh {s:List Ob} {i:Nat} (h:i<s.length) (o:Ob):bq (s.set i o)=dE (bq s) i o:=by
 funext k
 unfold bq dE
 simp only [Vr]
 by_cases e:k=i
 ·subst e;rw [Wx h];simp
 ·rw [Wi (Ne.symm e),if_neg e]
theorem ir (s:List Ob) (o:Ob):bq (s++ [o])=dE (bq s) s.length o:=by
 funext k
 unfold bq dE
 simp only [Vr,Wh]
 by_cases e:k=s.length
 ·subst e;simp
 ·rw [if_neg e]
  split
  ·rfl
  ·rename_i h
   rw [Vw (show s.length≤k by omega)]
   have: [o][k - s.length]? =none:=Vw (by simp;omega)
   rw [this]
theorem qg {size:Nat} :∀ {ys nc:List D},eU ys=some nc→(∀(i:Nat) (x:D),ys[i]? =some x→∃cs,x.cells=some cs∧cs.length=size)→nc.length=ys.length*size∧
  ∀(i:Nat) (d:D),nc[i]? =some d→∃(q r:Nat) (x:D) (cs:List D),ys[q]? =some x∧x.cells=some cs∧cs[r]? =some d∧i=q*size+r
 | [],nc,h,_=>by
  simp only [eU,Vs] at h
  subst h
  exact ⟨by simp,fun i d hd=>by simp at hd⟩
 |y::ys,nc,h,he=>by
  simp only [eU] at h
  split at h
  ·rename_i c cs hc OJ
   obtain rfl:=Vk h
   obtain ⟨c',Qm,hlen⟩:=he 0 y rfl
   rw [hc] at Qm
   obtain rfl:=Vk Qm
   obtain ⟨l1,g1⟩:=qg OJ (fun i x hx=>he (i+1) x hx)
   refine ⟨by rw [Vd,l1,hlen,Vf,Nat.succ_mul];omega,fun i d hd=> ?_⟩
   rcases VA i c.length with hi|hi
   ·rw [List.getElem?_append_left hi] at hd
    exact ⟨0,i,y,c,rfl,hc,hd,by simp⟩
   ·rw [List.getElem?_append_right hi] at hd
    obtain ⟨q,r,x,cx,h1,h2,h3,h4⟩:=g1 _ d hd
    exact ⟨q+1,r,x,cx,h1,h2,h3,by rw [Nat.succ_mul];omega⟩
  ·cases h
theorem jR (M:MM):M.bare.Le M:=⟨fun _ _ _ h=>h,fun _ _ h=>(by cases h),fun _ _ _ h=>(by cases h),fun _ h=>h.elim⟩
theorem mV {M:MM} {size:Nat} {ys nc:List D} {arr:Array Value} (h:fC M size ys arr) (hc:eU ys=some nc):nc.length=ys.length*size∧
  ∀(i:Nat) (d:D) (v:Value),nc[i]? =some d→arr[i]? =some v→bo M d v:=by
 obtain ⟨h1,h2⟩:=qg hc h.elem
 refine ⟨h1,fun i d v hd hv=> ?_⟩
 obtain ⟨q,r,x,cs,a1,a2,a3,rfl⟩:=h2 i d hd
 obtain ⟨u,b1,b2⟩:=h.get q x cs r d a1 a2 a3
 rw [b1] at hv
 obtain rfl:=Vk hv
 exact b2.mono (jR M)
section
variable {P:Program} {o:Oper} {ρ:Operand→D}
theorem ur {w0:dm} {w:World} {M:MM} {own:Nat→Option Nat} {σ:Nat→Ob} (hw:bu w0 M own σ w) {st xt OZ rty e2:TypeId} {ts:Array TypeId} {args:Array Value} (ht:P.underlying st=some (.slice OZ)) (hx:P.underlying xt=some (.slice e2)) (h0:ts[0]? =some st) (h1:ts[1]? =some xt)
  (hz:ej P OZ=true) (O4:P.bytesOf OZ≤65536) {sz n O7:Nat} {nc:List D} {u:Value} {a':Option Addr} {new:Array Value} (g0:args[0]? =some u) (g1:args[1]? =some (.slice a' n O7)) (hu:bo M (.aj .tight sz []) u)
  (ns:new.size=n*P.cellsOf OZ) (O2:∀wd:World,(∀a,wd.cell? a=w.cell? a)→(VW (P.cellsOf OZ) n (.slice a' n O7)).run P wd= .ok new wd) (c1:nc.length=n*P.cellsOf OZ)
  (c2:∀(i:Nat) (d:D) (v:Value),nc[i]? =some d→new[i]? =some v→bo M d v) (hn:n≤cy) (O5:0<n) {id:Nat} (O8:M.box id=none) (hh:∀v,M.bl id v=none):
  ∃v M' OH w',(V1 ts rty args).run P w= .ok v w'∧M.Le M'∧bu w0 M' OH (dE σ id (.box nc)) w'∧bo M' (.bR id (P.cellsOf OZ) n) v∧(∀j,j≠id→M'.box j=M.box j)∧∀j,j≠id→M'.bl j=M.bl j:=by
 obtain ⟨i,z,hi,hiz,Q9,OS⟩:=fi hz
 have O6:i.bytes≤65536:=by simpa [Program.bytesOf,hi] using O4
 cases hu with
 |aj b off vs hl OL ha P0 SX hr OQ ho=>
  rename_i a len cap
  have OP:bo M (.aj .tight sz []) (.slice a len cap):= .aj b off vs hl OL ha P0 SX hr OQ ho
  have Rp:len=0:=by simpa using hl.symm
  have Ts:cap=len:=ho
  subst Rp
  subst Ts
  rw [OS] at ns O2 c1 ⊢
  obtain ⟨g7,os,orow,Qh,_⟩:=hO (P:=P) (size:=i.size) OP (.inr rfl) hw.cells
  have PZ:0+n≤2147483648:=by rw [VT];exact hn
  obtain ⟨_,r2⟩:=fR (P:=P) (rty:=rty) ht hx h0 h1 hi hiz g0 g1 (Qh w.drew fun _=>rfl) (O2 w fun _=>rfl) (O2 w.drew fun _=>rfl) O6 PZ
  obtain ⟨n2,Sf,_,OY⟩:=r2 (by omega)
  rw [VT] at OY Sf
  have hold:g7= #[]:=Wy (by rw [os];simp)
  subst hold
  let arr:= #[]++new++WB z.cells (n2 - n)
  have Pm:arr.size=n2*i.size:=by
   simp only [arr,Wj,size_zeroCells,ns,Q9]
   simp only [List.size_toArray,Vg,VT]
   rw [← Wm]
   congr 1;omega
  have hle:nc.length≤arr.size:=by rw [c1,Pm];exact V7 _ (by omega)
  have PJ:∀(j:Nat) (d:D) (v:Value),nc[j]? =some d→arr[j]? =some v→bo M d v:=by
   intro j d v hd hv
   have hj:j<new.size:=by
    rw [ns,← c1]
    rcases VA j nc.length with q|q
    ·exact q
    ·simp [Vw q] at hd
   refine c2 j d v hd ?_
   have:arr[j]? =new[j]? :=by
    simp only [arr]
    rw [V0 (by simpa using hj),Array.empty_append]
   rw [← this];exact hv
  have k:bu w0 (M.bf id w.heap.size) (eu own w.heap.size id) (dE σ id (.box nc)) (w.drew.alloc (.cells arr OZ)):=hw.drew.pt (id:=id) O8 hh (cs:=nc) (vs:=arr) OZ hle PJ
  obtain ⟨b1,vs1,ty1,kb⟩:=k.box id nc (aV _ _ _)
  have eb:b1=w.heap.size:=by have:=kb.box;simp only [MM.bf,if_true] at this;exact (Vk this).symm
  have RA:vs1.size=arr.size:=by
   have h1:=kb.cq
   rw [eb] at h1
   have h2:(w.drew.alloc (.cells arr OZ)).heap[w.heap.size]? =some (.cells arr OZ (0,0)):=by
    show (w.heap.push _)[w.heap.size]? =_
    simp
   rw [h2] at h1
   have h3:=Vk h1
   simp only [Obj.cells.injEq] at h3
   rw [← h3.1]
  have k2:=k.lf (aV _ _ _) kb (sz:=i.size) (len:=n) (cap:=n2) (hh _) (by rw [RA,Pm];exact Vq _)
  subst eb
  have P5:(M.bf id w.heap.size).Le ((M.bf id w.heap.size).aW id i.size (.slice (some ⟨w.heap.size,0,none⟩) n n2)):=MM.cA (hh _)
  refine ⟨_,_,_,_,OY,(MM.dt O8).trans P5,k2,?_,fun j hj=>by simp [MM.bf,MM.aW,hj],fun j hj=>by funext q;simp [MM.aW,MM.bf,hj]⟩
  exact .bR (b:=w.heap.size) (by simp [MM.bf,MM.aW]) (by simp [MM.aW]) (by omega)
theorem Al {w0:dm} {w:World} {M:MM} {own:Nat→Option Nat} {σ:Nat→Ob} (hw:bu w0 M own σ w) {st xt OZ rty e2:TypeId} {ts:Array TypeId} {args:Array Value} (ht:P.underlying st=some (.slice OZ)) (hx:P.underlying xt=some (.slice e2)) (h0:ts[0]? =some st) (h1:ts[1]? =some xt)
  (hz:ej P OZ=true) (O4:P.bytesOf OZ≤65536) {Rh:j9} {sz O1:Nat} {ys nc:List D} {u u':Value} (g0:args[0]? =some u) (g1:args[1]? =some u') (hu:bo M (.aj .tight sz []) u) (Rr:bo M (.aj Rh O1 ys) u')
  (Ro:O1=P.cellsOf OZ∨ys= []) (hn:ys.length≤cy) (O0:ys≠ []) (hc:eU ys=some nc) {id:Nat} (O8:M.box id=none) (hh:∀v,M.bl id v=none):
  ∃v M' OH w',(V1 ts rty args).run P w= .ok v w'∧M.Le M'∧bu w0 M' OH (dE σ id (.box nc)) w'∧bo M' (.bR id (P.cellsOf OZ) ys.length) v∧(∀j,j≠id→M'.box j=M.box j)∧∀j,j≠id→M'.bl j=M.bl j:=by
 cases Rr with
 |aj b' off' vs' Pj hcap' ha' hsize' Qm Q0 hst' PX=>
  rename_i a' OO O7
  have Qj:bo M (.aj Rh O1 ys) (.slice a' OO O7):= .aj b' off' vs' Pj hcap' ha' hsize' Qm Q0 hst' PX
  obtain ⟨new,ns,Pw,O2,Ps⟩:=hO (P:=P) Qj Ro hw.cells
  obtain ⟨c1,c2⟩:=mV Pw hc
  have O5:0<ys.length:=List.length_pos_iff.2 O0
  subst Pj
  exact ur hw ht hx h0 h1 hz O4 g0 g1 hu ns O2 c1 c2 hn O5 O8 hh
theorem lb {w0:dm} {w:World} {M:MM} {own:Nat→Option Nat} {σ:Nat→Ob} (hw:bu w0 M own σ w) {t off o2 n size c b:Nat} {cs nc:List D} (hb:M.box t=some b) (hσ:σ t= .box cs) (Qf:n≠0→o2=off) (Su:(cs.drop off).take (n*size)=nc) (hle:off+n*size≤cs.length):
  ∃new:Array Value,new.size=n*size∧(∀wd:World,(∀a,wd.cell? a=w.cell? a)→(VW size n (.slice (some ⟨b,o2,none⟩) n c)).run P wd= .ok new wd)∧nc.length=n*size∧∀(i:Nat) (d:D) (v:Value),nc[i]? =some d→new[i]? =some v→bo M d v:=by
 by_cases hn:n=0
 ·subst hn
  rw [Nat.zero_mul,List.take_zero] at Su
  subst Su
  refine ⟨#[],by simp,fun wd _=>by simp [VW,loadCells,loadCellsFrom],by simp,fun i d v hd=>by simp at hd⟩
 obtain ⟨b2,vs,ty,kb⟩:=hw.box t cs hσ
 have eb:b2=b:=by have:=kb.box;rw [hb] at this;exact (Vk this).symm
 subst eb
 obtain rfl:=Qf hn
 have TF:=kb.len
 refine ⟨vs.extract o2 (o2+n*size),by rw [Array.size_extract];omega,fun wd Tc=> ?_,by rw [← Su,List.length_take,List.length_drop];omega,fun i d v hd hv=> ?_⟩
 ·have:=gk (P:=P) (w:=wd) b2 o2 (vs.extract o2 (o2+n*size)) (fun j v hj=>by
   rw [Tc]
   rw [Array.getElem?_extract] at hj
   split at hj
   ·simp [Wl,kb.cq,hj]
   ·cases hj)
  rw [show (vs.extract o2 (o2+n*size)).size=n*size by rw [Array.size_extract];omega] at this
  exact this
 ·rw [Array.getElem?_extract] at hv
  split at hv
  ·rename_i hi
   rw [← Su,WJ,if_pos (by omega),List.getElem?_drop] at hd
   exact kb.rep _ d v hd hv
  ·cases hv
theorem pK {d:D} (h:isByte d=true):∃n,d= .int .u8 n:=by
 unfold isByte at h
 split at h
 ·exact ⟨_,rfl⟩
 ·cases h
theorem rK {M:MM} {nc:List D} {new:Array Value} (hl:nc.length=new.size) (h:nc.all isByte=true) (c2:∀(i:Nat) (d:D) (v:Value),nc[i]? =some d→new[i]? =some v→bo M d v):fC M 1 nc new∧∀v∈new.toList,v.oneCell'=true:=by
 have key:∀(i:Nat) (d:D),nc[i]? =some d→∃n,d= .int .u8 n∧new[i]? =some (.int .u8 n):=by
  intro i d hd
  obtain ⟨n,rfl⟩:=pK (VP.1 h d (VQ hd))
  have hi:i<new.size:=by rw [← hl];exact (List.getElem?_eq_some_iff.1 hd).1
  have e:=c2 i _ new[i] hd (by simp [hi])
  generalize hv:new[i]=v at e
  cases e
  exact ⟨n,rfl,by rw [Array.getElem?_eq_getElem hi,hv]⟩
 refine ⟨⟨by omega,fun i x hx=> ?_,fun i x cs j c hx OJ hj=> ?_,fun i x cs c hx OJ hc=> ?_⟩,fun v hv=> ?_⟩
 ·obtain ⟨n,rfl,_⟩:=key i x hx
  exact ⟨_,rfl,rfl⟩
 ·obtain ⟨n,rfl,hn⟩:=key i x hx
  simp only [D.cells,Vs] at OJ
  subst OJ
  cases j with
  |zero=>
   simp only [Wd,Vs] at hj
   subst hj
   exact ⟨_,by rw [WK,WI];exact hn,.int _ _⟩
  |succ j=>simp at hj
 ·obtain ⟨n,rfl,_⟩:=key i x hx
  simp only [D.cells,Vs] at OJ
  subst OJ
  rw [List.mem_singleton] at hc
  subst hc
  rfl
 ·obtain ⟨i,hi,rfl⟩:=List.getElem_of_mem hv
  rw [V2,← hl] at hi
  obtain ⟨n,_,hn⟩:=key i nc[i] (List.getElem?_eq_getElem hi)
  rw [Array.getElem_toList]
  have:=(Array.getElem?_eq_some_iff.1 hn).2
  rw [this]
  rfl
theorem vP {w0:dm} {w:World} {M:MM} {own:Nat→Option Nat} {σ:Nat→Ob} (hw:bu w0 M own σ w) {st xt OZ rty e2:TypeId} {ts:Array TypeId} {args:Array Value} (ht:P.underlying st=some (.slice OZ)) (hx:P.underlying xt=some (.slice e2)) (h0:ts[0]? =some st) (h1:ts[1]? =some xt)
  (hz:ej P OZ=true) (O4:P.bytesOf OZ≤65536) {t n OO O7:Nat} {cs nc:List D} {u:Value} {a':Option Addr} {new:Array Value} (g0:args[0]? =some u) (g1:args[1]? =some (.slice a' OO O7)) (hu:bo M (.bR t (P.cellsOf OZ) n) u)
  (ns:new.size=OO*P.cellsOf OZ) (O2:∀wd:World,(∀a,wd.cell? a=w.cell? a)→(VW (P.cellsOf OZ) OO (.slice a' OO O7)).run P wd= .ok new wd) (c1:nc.length=OO*P.cellsOf OZ)
  (c2:∀(i:Nat) (d:D) (v:Value),nc[i]? =some d→new[i]? =some v→bo M d v) (Ps:∀v∈new.toList,v.oneCell'=true) (hn:n+OO≤cy) (hσ:σ t= .box cs) (OJ:cs.length=n*P.cellsOf OZ) {id:Nat} (O8:M.box id=none) (hh:∀v,M.bl id v=none):
  ∃v M' OH w',(V1 ts rty args).run P w= .ok v w'∧M.Le M'∧bu w0 M' OH (dE (dE σ t .dead) id (.box (cs++nc))) w'∧bo M' (.bR id (P.cellsOf OZ) (n+OO)) v∧(∀j,j≠id→M'.box j=M.box j)∧∀j,j≠id→M'.bl j=M.bl j:=by
 obtain ⟨i,z,hi,hiz,Q9,OS⟩:=fi hz
 have O6:i.bytes≤65536:=by simpa [Program.bytesOf,hi] using O4
 rw [OS] at hu ns O2 c1 OJ ⊢
 cases hu with
 |bR hb PH OL=>
  rename_i b cap
  obtain ⟨b2,vs,ty,kb⟩:=hw.box t cs hσ
  have eb:b2=b:=by have:=kb.box;rw [hb] at this;exact (Vk this).symm
  subst eb
  have Pc:=kb.room _ _ _ _ PH
  have hnle:n*i.size≤vs.size:=Wo (V7 _ OL) Pc
  let g7:=vs.extract 0 (n*i.size)
  have R6:g7.size=n*i.size:=by simp [g7,Array.size_extract];omega
  have UT:∀j,j<n*i.size→g7[j]? =vs[j]? :=by
   intro j hj
   simp only [g7,Array.getElem?_extract]
   rw [if_pos (by omega),VT]
  have Qh:∀wd:World,(∀a,wd.cell? a=w.cell? a)→(VW i.size n (.slice (some ⟨b2,0,none⟩) n cap)).run P wd= .ok g7 wd:=by
   intro wd Tc
   have:=gk (P:=P) (w:=wd) b2 0 g7 (fun j v hj=>by
    rw [Tc]
    have Qr:j<n*i.size:=by
     rw [← R6]
     rcases VA j g7.size with q|q
     ·exact q
     ·simp [VV q] at hj
    rw [UT j Qr] at hj
    simp [Wl,kb.cq,hj])
   rw [R6] at this
   exact this
  have PZ:n+OO≤2147483648:=hn
  obtain ⟨r1,r2⟩:=fR (P:=P) (rty:=rty) ht hx h0 h1 hi hiz g0 g1 (Qh w.drew fun _=>rfl) (O2 w fun _=>rfl) (O2 w.drew fun _=>rfl) O6 PZ
  have RL:new.toList.length=OO*i.size:=by rw [V2,ns]
  rcases VA cap (n+OO) with OK|hge
  ·
   obtain ⟨n2,Sf,_,OY⟩:=r2 OK
   let arr:=g7++new++WB z.cells (n2 - (n+OO))
   have Pm:arr.size=n2*i.size:=by
    simp only [arr,Wj,size_zeroCells,ns,Q9,R6,← Wm]
    congr 1;omega
   have hle:(cs++nc).length≤arr.size:=by rw [Vd,OJ,c1,Pm,← Wm];exact V7 _ (by omega)
   have PJ:∀(j:Nat) (d:D) (v:Value),(cs++nc)[j]? =some d→arr[j]? =some v→bo M d v:=by
    intro j d v hd hv
    rcases VA j cs.length with hj|hj
    ·rw [List.getElem?_append_left hj] at hd
     have RY:j<n*i.size:=by rw [← OJ];exact hj
     have e:arr[j]? =g7[j]? :=by
      simp only [arr]
      rw [V0 (by rw [Wj,R6];omega),V0 (by rw [R6];exact RY)]
     rw [e,UT j RY] at hv
     exact kb.rep j d v hd hv
    ·rw [List.getElem?_append_right hj] at hd
     have SJ:j - cs.length<nc.length:=by
      rcases VA (j - cs.length) nc.length with q|q
      ·exact q
      ·simp [Vw q] at hd
     have e:arr[j]? =new[j - cs.length]? :=by
      simp only [arr]
      rw [V0 (by rw [Wj,R6,ns];rw [c1] at SJ;rw [OJ] at hj SJ;omega),Array.getElem?_append_right (by rw [R6,← OJ];exact hj),R6,OJ]
     rw [e] at hv
     exact c2 _ d v hd hv
   have k:bu w0 (M.bf id w.heap.size) (eu own w.heap.size id) (dE (dE σ t .dead) id (.box (cs++nc))) (w.drew.alloc (.cells arr OZ)):=(hw.drew.kill t).pt (id:=id) O8 hh (cs:=cs++nc) (vs:=arr) OZ hle PJ
   obtain ⟨b1,vs1,ty1,kb1⟩:=k.box id (cs++nc) (aV _ _ _)
   have eb:b1=w.heap.size:=by have:=kb1.box;simp only [MM.bf,if_true] at this;exact (Vk this).symm
   have RA:vs1.size=arr.size:=by
    have h1:=kb1.cq
    rw [eb] at h1
    have h2:(w.drew.alloc (.cells arr OZ)).heap[w.heap.size]? =some (.cells arr OZ (0,0)):=by
     show (w.heap.push _)[w.heap.size]? =_
     simp
    rw [h2] at h1
    have h3:=Vk h1
    simp only [Obj.cells.injEq] at h3
    rw [← h3.1]
   have k2:=k.lf (aV _ _ _) kb1 (sz:=i.size) (len:=n+OO) (cap:=n2) (hh _) (by rw [RA,Pm];exact Vq _)
   subst eb
   have P5:(M.bf id w.heap.size).Le ((M.bf id w.heap.size).aW id i.size (.slice (some ⟨w.heap.size,0,none⟩) (n+OO) n2)):=MM.cA (hh _)
   refine ⟨_,_,_,_,OY,(MM.dt O8).trans P5,k2,?_,fun j hj=>by simp [MM.bf,MM.aW,hj],fun j hj=>by funext q;simp [MM.aW,MM.bf,hj]⟩
   exact .bR (b:=w.heap.size) (by simp [MM.bf,MM.aW]) (by simp [MM.aW]) (by omega)
  ·
   have OY:=r1 hge
   have PV:n*i.size+new.toList.length≤vs.size:=by
    rw [RL,← Wm];exact Wo (V7 _ hge) Pc
   have PE:=dZ (P:=P) (b:=b2) (off:=n*i.size) new.toList 0 w vs kb.cq Ps (by simpa using PV) (fun o _ h=>by have:=h.2;simp at this)
   rw [WI] at PE
   let vs2:=cQ vs (n*i.size) new.toList
   have QH:vs2.size=vs.size:=cX _ _ _
   have PJ:∀(j:Nat) (d:D) (v:Value),(cs++nc)[j]? =some d→vs2[j]? =some v→bo M d v:=by
    intro j d v hd hv
    simp only [vs2] at hv
    rw [eK _ _ _ _ PV] at hv
    rcases VA j cs.length with hj|hj
    ·rw [List.getElem?_append_left hj] at hd
     rw [if_neg (by rw [OJ] at hj;omega)] at hv
     exact kb.rep j d v hd hv
    ·rw [List.getElem?_append_right hj] at hd
     have SJ:j - cs.length<nc.length:=by
      rcases VA (j - cs.length) nc.length with q|q
      ·exact q
      ·simp [Vw q] at hd
     rw [c1] at SJ
     rw [OJ] at hj SJ hd
     rw [if_pos ⟨hj,by rw [RL];omega⟩] at hv
     exact c2 _ d v hd (by simpa using hv)
   have hle:(cs++nc).length≤vs2.size:=by rw [Vd,OJ,c1,QH,← RL];exact PV
   have k:=hw.zR kb O8 hh hle PJ
   obtain ⟨b1,vs1,ty1,kb1⟩:=k.box id (cs++nc) (aV _ _ _)
   have eb:b1=b2:=by have:=kb1.box;simp only [MM.bf,if_true] at this;exact (Vk this).symm
   subst eb
   have RA:vs1.size=vs.size:=by
    have h1:=kb1.cq
    rw [dy kb.cq] at h1
    have h3:=Vk h1
    simp only [Obj.cells.injEq] at h3
    rw [← h3.1,QH]
   have k2:=k.lf (aV _ _ _) kb1 (sz:=i.size) (len:=n+OO) (cap:=cap) (hh _) (by rw [RA];exact Pc)
   have P5:(M.bf id b1).Le ((M.bf id b1).aW id i.size (.slice (some ⟨b1,0,none⟩) (n+OO) cap)):=MM.cA (hh _)
   refine ⟨.slice (some ⟨b1,0,none⟩) (n+OO) cap,_,_,bh w b1 (.cells vs2 ty (0,0)),?_,(MM.dt O8).trans P5,k2,?_,fun j hj=>by simp [MM.bf,MM.aW,hj],fun j hj=>by funext q;simp [MM.aW,MM.bf,hj]⟩
   ·rw [OY]
    simp only [ek,VT,VD,PE,Vv,VK]
    rfl
   ·exact .bR (b:=b1) (by simp [MM.bf,MM.aW]) (by simp [MM.aW]) hge
theorem Bw {w0:dm} {w:World} {M:MM} {own:Nat→Option Nat} {σ:Nat→Ob} (hw:bu w0 M own σ w) {st xt OZ rty e2:TypeId} {ts:Array TypeId} {args:Array Value} (ht:P.underlying st=some (.slice OZ)) (hx:P.underlying xt=some (.slice e2)) (h0:ts[0]? =some st) (h1:ts[1]? =some xt)
  (hz:ej P OZ=true) (O4:P.bytesOf OZ≤65536) {Rh:j9} {t n O1:Nat} {cs ys nc:List D} {u u':Value} (g0:args[0]? =some u) (g1:args[1]? =some u') (hu:bo M (.bR t (P.cellsOf OZ) n) u) (Rr:bo M (.aj Rh O1 ys) u')
  (Ro:O1=P.cellsOf OZ∨ys= []) (hn:n+ys.length≤cy) (hc:eU ys=some nc) (hσ:σ t= .box cs) (OJ:cs.length=n*P.cellsOf OZ) {id:Nat} (O8:M.box id=none) (hh:∀v,M.bl id v=none):
  ∃v M' OH w',(V1 ts rty args).run P w= .ok v w'∧M.Le M'∧bu w0 M' OH (dE (dE σ t .dead) id (.box (cs++nc))) w'∧bo M' (.bR id (P.cellsOf OZ) (n+ys.length)) v∧(∀j,j≠id→M'.box j=M.box j)∧∀j,j≠id→M'.bl j=M.bl j:=by
 cases Rr with
 |aj b' off' vs' Pj hcap' ha' hsize' Qm Q0 hst' PX=>
  rename_i a' OO O7
  have Qj:bo M (.aj Rh O1 ys) (.slice a' OO O7):= .aj b' off' vs' Pj hcap' ha' hsize' Qm Q0 hst' PX
  obtain ⟨new,ns,Pw,O2,Ps⟩:=hO (P:=P) Qj Ro hw.cells
  obtain ⟨c1,c2⟩:=mV Pw hc
  subst Pj
  exact vP hw ht hx h0 h1 hz O4 g0 g1 hu ns O2 c1 c2 Ps hn hσ OJ O8 hh
theorem AA {M:MM} {nc:List D} {new:Array Value} (hl:nc.length=new.size) (h:nc.all storable=true) (c2:∀(i:Nat) (d:D) (v:Value),nc[i]? =some d→new[i]? =some v→bo M d v):∀v∈new.toList,v.oneCell'=true:=by
 intro v hv
 obtain ⟨k,hk⟩:=List.mem_iff_getElem?.1 hv
 rw [VE] at hk
 have OK:k<nc.length:=by
  rw [hl]
  rcases VA k new.size with q|q
  ·exact q
  ·rw [VV q] at hk;cases hk
 exact jz (c2 k nc[k] v (by simp [OK]) hk) (VP.1 h _ (List.getElem_mem OK))
theorem Bf {w0:dm} {w:World} {M:MM} {own:Nat→Option Nat} {σ:Nat→Ob} (hw:bu w0 M own σ w) {st xt OZ rty e2:TypeId} {ts:Array TypeId} {args:Array Value} (ht:P.underlying st=some (.slice OZ)) (hx:P.underlying xt=some (.slice e2)) (h0:ts[0]? =some st) (h1:ts[1]? =some xt)
  (hz:ej P OZ=true) (O4:P.bytesOf OZ≤65536) {t n n2 PN SO PC:Nat} {Ug:Option Nat} {cs nc Re:List D} {u u':Value} (g0:args[0]? =some u) (g1:args[1]? =some u') (hu:bo M (.sub t 0 SO n (some n)) u) (Rr:bo M (.sub t PN PC n2 Ug) u')
  (hn:n+n2≤cy) (O5:0<n+n2) (hσ:σ t= .box cs) (hg:(cs.drop 0).take (n*P.cellsOf OZ)=nc) (T5:0+n*P.cellsOf OZ≤cs.length) (SE:(cs.drop PN).take (n2*P.cellsOf OZ)=Re) (Tp:PN+n2*P.cellsOf OZ≤cs.length) {id:Nat} (O8:M.box id=none) (hh:∀v,M.bl id v=none):
  ∃v M' OH w',(V1 ts rty args).run P w= .ok v w'∧M.Le M'∧bu w0 M' OH (dE (dE σ t .dead) id (.box (nc++Re))) w'∧bo M' (.bR id (P.cellsOf OZ) (n+n2)) v∧(∀j,j≠id→M'.box j=M.box j)∧∀j,j≠id→M'.bl j=M.bl j:=by
 obtain ⟨i,z,hi,hiz,Q9,OS⟩:=fi hz
 have O6:i.bytes≤65536:=by simpa [Program.bytesOf,hi] using O4
 rw [OS] at hg T5 SE Tp ⊢
 cases hu with
 |sub hb hc hp ho=>
  rename_i b o2 cap
  obtain rfl:=hp n rfl
  cases Rr with
  |sub RB Qm Vb PX=>
   rename_i b' o2' O7
   obtain ⟨g7,os,Qh,oc1,oc2⟩:=lb (P:=P) (c:=cap) hw hb hσ ho hg T5
   obtain ⟨new,ns,O2,c1,c2⟩:=lb (P:=P) (c:=O7) hw RB hσ PX SE Tp
   obtain ⟨b2,vs,ty,kb⟩:=hw.box t cs hσ
   have eb:b2=b:=by have:=kb.box;rw [hb] at this;exact (Vk this).symm
   subst eb
   have TF:=kb.len
   have PZ:cap+n2≤2147483648:=hn
   obtain ⟨r1,r2⟩:=fR (P:=P) (rty:=rty) ht hx h0 h1 hi hiz g0 g1 (Qh w.drew fun _=>rfl) (O2 w fun _=>rfl) (O2 w.drew fun _=>rfl) O6 PZ
   by_cases Sf:n2=0
   ·
    subst Sf
    have hnz:cap≠0:=by omega
    obtain rfl:=ho hnz
    have Pe:new= #[]:=Wy (by rw [ns];simp)
    have Sl:Re= []:=List.eq_nil_of_length_eq_zero (by rw [c1];simp)
    subst Pe
    subst Sl
    have OY:=r1 (Vq _)
    have PE:=dZ (P:=P) (b:=b2) (off:=cap*i.size) (#[]:Array Value).toList 0 w vs kb.cq (fun v hv=>by simp at hv) (by simp;omega) (fun o _ h=>by have:=h.2;simp at this)
    rw [WI] at PE
    let vs2:=cQ vs (cap*i.size) (#[]:Array Value).toList
    have QH:vs2.size=vs.size:=cX _ _ _
    have PJ:∀(j:Nat) (d:D) (v:Value),(nc++ [])[j]? =some d→vs2[j]? =some v→bo M d v:=by
     intro j d v hd hv
     simp only [vs2] at hv
     rw [eK _ _ _ _ (by simp;omega)] at hv
     rw [if_neg (by simp)] at hv
     rw [Wb,← hg,WJ,Wu] at hd
     split at hd
     ·exact kb.rep j d v hd hv
     ·cases hd
    have hle:(nc++ []).length≤vs2.size:=by rw [Wb,oc1,QH];omega
    have k:=hw.zR kb O8 hh hle PJ
    obtain ⟨b1,vs1,ty1,kb1⟩:=k.box id (nc++ []) (aV _ _ _)
    have eb:b1=b2:=by have:=kb1.box;simp only [MM.bf,if_true] at this;exact (Vk this).symm
    subst eb
    have RA:vs1.size=vs.size:=by
     have h1:=kb1.cq
     rw [dy kb.cq] at h1
     have h3:=Vk h1
     simp only [Obj.cells.injEq] at h3
     rw [← h3.1,QH]
    have k2:=k.lf (aV _ _ _) kb1 (sz:=i.size) (len:=cap+0) (cap:=cap) (hh _) (by rw [RA];omega)
    have P5:(M.bf id b1).Le ((M.bf id b1).aW id i.size (.slice (some ⟨b1,0,none⟩) (cap+0) cap)):=MM.cA (hh _)
    refine ⟨.slice (some ⟨b1,0,none⟩) (cap+0) cap,_,_,bh w b1 (.cells vs2 ty (0,0)),?_,(MM.dt O8).trans P5,k2,?_,fun j hj=>by simp [MM.bf,MM.aW,hj],fun j hj=>by funext q;simp [MM.aW,MM.bf,hj]⟩
    ·rw [OY]
     simp only [ek,VT,VD,PE,Vv,VK]
     rfl
    ·exact .bR (b:=b1) (by simp [MM.bf,MM.aW]) (by simp [MM.aW]) (Vq _)
   ·
    obtain ⟨n3,hn3,_,OY⟩:=r2 (by omega)
    let arr:=g7++new++WB z.cells (n3 - (cap+n2))
    have Pm:arr.size=n3*i.size:=by
     simp only [arr,Wj,size_zeroCells,ns,Q9,os,← Wm]
     congr 1;omega
    have hle:(nc++Re).length≤arr.size:=by rw [Vd,oc1,c1,Pm,← Wm];exact V7 _ (by omega)
    have PJ:∀(j:Nat) (d:D) (v:Value),(nc++Re)[j]? =some d→arr[j]? =some v→bo M d v:=by
     intro j d v hd hv
     rcases VA j nc.length with hj|hj
     ·rw [List.getElem?_append_left hj] at hd
      have e:arr[j]? =g7[j]? :=by
       simp only [arr]
       rw [V0 (by rw [Wj,os,← oc1];omega),V0 (by rw [os,← oc1];exact hj)]
      rw [e] at hv
      exact oc2 j d v hd hv
     ·rw [List.getElem?_append_right hj] at hd
      have SJ:j - nc.length<Re.length:=by
       rcases VA (j - nc.length) Re.length with q|q
       ·exact q
       ·simp [Vw q] at hd
      have e:arr[j]? =new[j - nc.length]? :=by
       simp only [arr]
       rw [V0 (by rw [Wj,os,ns,← oc1,← c1];omega),Array.getElem?_append_right (by rw [os,← oc1];exact hj),os,← oc1]
      rw [e] at hv
      exact c2 _ d v hd hv
    have k:bu w0 (M.bf id w.heap.size) (eu own w.heap.size id) (dE (dE σ t .dead) id (.box (nc++Re))) (w.drew.alloc (.cells arr OZ)):=(hw.drew.kill t).pt (id:=id) O8 hh (cs:=nc++Re) (vs:=arr) OZ hle PJ
    obtain ⟨b1,vs1,ty1,kb1⟩:=k.box id (nc++Re) (aV _ _ _)
    have eb:b1=w.heap.size:=by have:=kb1.box;simp only [MM.bf,if_true] at this;exact (Vk this).symm
    have RA:vs1.size=arr.size:=by
     have h1:=kb1.cq
     rw [eb] at h1
     have h2:(w.drew.alloc (.cells arr OZ)).heap[w.heap.size]? =some (.cells arr OZ (0,0)):=by
      show (w.heap.push _)[w.heap.size]? =_
      simp
     rw [h2] at h1
     have h3:=Vk h1
     simp only [Obj.cells.injEq] at h3
     rw [← h3.1]
    have k2:=k.lf (aV _ _ _) kb1 (sz:=i.size) (len:=cap+n2) (cap:=n3) (hh _) (by rw [RA,Pm];exact Vq _)
    subst eb
    have P5:(M.bf id w.heap.size).Le ((M.bf id w.heap.size).aW id i.size (.slice (some ⟨w.heap.size,0,none⟩) (cap+n2) n3)):=MM.cA (hh _)
    refine ⟨_,_,_,_,OY,(MM.dt O8).trans P5,k2,?_,fun j hj=>by simp [MM.bf,MM.aW,hj],fun j hj=>by funext q;simp [MM.aW,MM.bf,hj]⟩
    exact .bR (b:=w.heap.size) (by simp [MM.bf,MM.aW]) (by simp [MM.aW]) (by omega)
end
def MM.z7 (M:MM) (b n:Nat) (vs:Array Value):MM:=M.bC b fun o=>if o<n then vs[o]? else none
theorem MM.DM {M:MM} {b n:Nat} {vs:Array Value} (h:∀o,M.cell b o=none):M.Le (M.z7 b n vs):=by
 refine ⟨fun c o v hc=> ?_,fun _ _ x=>x,fun _ _ _ x=>x,fun _ x=>x⟩
 have:c≠b:=fun e=>by rw [e,h o] at hc;cases hc
 simp only [MM.z7,MM.bC,this,if_false]
 exact hc
theorem bu.freeze {w0:dm} {w:World} {M:MM} {own:Nat→Option Nat} {σ:Nat→Ob} (h:bu w0 M own σ w) {id b n:Nat} {cs:List D} {vs:Array Value} {ty:TypeId} (k:oh w0 M own id cs w b vs ty):
  bu w0 (M.z7 b n vs) own (dE σ id .dead) w:=by
 have le:M.Le (M.z7 b n vs):=MM.DM k.none
 have O0:∀ {i c:Nat},own c=some i→i≠id→c≠b:=fun hi e ec=>by rw [ec,k.own] at hi;exact e (Vk hi).symm
 have PF:∀ {c o:Nat},c≠b→M.cell c o=none→(M.z7 b n vs).cell c o=none:=fun hc hn=>by simp only [MM.z7,MM.bC,hc,if_false];exact hn
 refine ⟨h.below,?_,?_,h.owned,?_,?_,?_,?_,h.dW⟩
 ·intro c o v hc
  by_cases e:c=b
  ·subst e
   simp only [MM.z7,MM.bC,if_true] at hc
   split at hc
   ·simp [Wl,k.cq,hc]
   ·cases hc
  ·simp only [MM.z7,MM.bC,e,if_false] at hc
   exact h.cells c o v hc
 ·intro c o v hc OK
  have e:c≠b:=fun e=>k.base (e▸OK)
  simp only [MM.z7,MM.bC,e,if_false] at hc
  exact h.g7 c o v hc OK
 ·intro i QF hi
  by_cases e:i=id
  ·rw [e,aV] at hi;cases hi
  ·rw [aX e] at hi
   obtain ⟨c,vs2,ty2,k2⟩:=h.box i QF hi
   exact ⟨c,vs2,ty2,k2.box,k2.base,k2.own,fun o=>PF (O0 k2.own e) (k2.none o),k2.cq,k2.len,fun j d v a b=>(k2.rep j d v a b).mono le,k2.room⟩
 ·intro i ver sz hi
  by_cases e:i=id
  ·rw [e,aV] at hi;cases hi
  ·rw [aX e] at hi
   obtain ⟨a,len,cap,k2⟩:=h.bz i ver sz hi
   refine ⟨a,len,cap,k2.bl,k2.last,?_⟩
   rcases k2.room with r|⟨c,vs2,ty2,fz,ha,r⟩
   ·exact .inl r
   ·exact .inr ⟨c,vs2,ty2,fz,ha,r.base,r.own,r.cq,r.fz,r.cap,fun o ho=>PF (O0 r.own e) (r.none o ho)⟩
 ·intro i F hi
  by_cases e:i=id
  ·rw [e,aV] at hi;cases hi
  ·rw [aX e] at hi
   obtain ⟨c,OI,clock,q⟩:=h.mp i F hi
   exact ⟨c,OI,clock,q.box,q.base,q.own,fun o=>PF (O0 q.own e) (q.none o),q.cq,q.fits⟩
 ·intro i k2 t ps ag bd hi
  by_cases e:i=id
  ·rw [e,aV] at hi;cases hi
  ·rw [aX e] at hi
   obtain ⟨l,r,q⟩:=h.lp i k2 t ps ag bd hi
   exact ⟨l,r,q.bn le q.own q.cq⟩
def rows (sz:Nat):Nat→List D→List D
  |0,_=> []
  |n+1,cs=> .agg (cs.take sz)::rows sz n (cs.drop sz)
theorem CS {w0:dm} {w:World} {M:MM} {own:Nat→Option Nat} {id b n cap:Nat} {cs:List D} {vs:Array Value} {ty:TypeId} (k:oh w0 M own id cs w b vs ty) (hl:cs.length=n) (OL:n≤cap) (hb:cs.all isByte=true):
  bo (M.z7 b cs.length vs) (.aj .no 1 cs) (.slice (some ⟨b,0,none⟩) n cap):=by
 have key:∀ {i:Nat} {x:D},cs[i]? =some x→i<cs.length∧∃m,x= .int .u8 m∧vs[i]? =some (.int .u8 m):=by
  intro i x h
  obtain ⟨OK,_⟩:=List.getElem?_eq_some_iff.1 h
  rw [VP] at hb
  obtain ⟨m,rfl⟩:=pK (hb x (VQ h))
  obtain ⟨v,hv,hr⟩:=kM k.len k.rep h
  cases hr
  exact ⟨OK,m,rfl,hv⟩
 refine .aj b 0 (fun i j=>vs.getD (i*1+j) .nilFunc) hl OL (fun _=>rfl) ?_ ?_ ?_ ?_ trivial
 ·intro i x h1
  obtain ⟨OK,m,rfl,hv⟩:=key h1
  exact ⟨_,rfl,rfl⟩
 ·intro i x c' j c h1 h2 h3
  obtain ⟨OK,m,rfl,hv⟩:=key h1
  simp only [D.cells,Vs] at h2
  subst h2
  cases j with
  |zero=>simp only [MM.z7,MM.bC,if_true,VT,WK,WI,if_pos OK,VR,hv,V9]
  |succ j=>simp at h3
 ·intro i x c' j c h1 h2 h3
  obtain ⟨OK,m,rfl,hv⟩:=key h1
  simp only [D.cells,Vs] at h2
  subst h2
  cases j with
  |zero=>
   simp only [Wd,Vs] at h3
   subst h3
   simp only [WK,WI,VR,hv,V9]
   exact .int _ _
  |succ j=>simp at h3
 ·intro i x c' c h1 h2 h3
  obtain ⟨OK,m,rfl,hv⟩:=key h1
  simp only [D.cells,Vs] at h2
  subst h2
  rw [List.mem_singleton] at h3
  subst h3
  rfl
theorem cO.z7 {P:Program} {f:FuncId} {args:List D} {s s':List Ob} {id n:Nat} {cs:List D} (h:cO P f args s (.bR id 1 n) s') (hs:s'.getD id .dead= .box cs) (hl:cs.length=n) (hb:cs.all isByte=true):
  cO P f args s (.aj .no 1 cs) (s'.set id .dead):=by
 have OK:id<s'.length:=by
  rcases VA id s'.length with q|q
  ·exact q
  ·rw [Vr,Vw q] at hs;cases hs
 refine ⟨h.Cr,by rw [Vj];exact h.len,fun w0 M own w vs hw PB hr=>Calls.mono (h.run w0 M own w vs hw PB hr) ?_⟩
 rintro e w' ⟨v,M',OH,rfl,q1,q2,q3,q4⟩
 cases q4 with
 |bR Qv PH OL=>
  rename_i b cap
  obtain ⟨b2,vb,ty,kb⟩:=q1.box id cs hs
  have eb:b2=b:=by have:=kb.box;rw [Qv] at this;exact (Vk this).symm
  subst eb
  refine ⟨_,M'.z7 b2 cs.length vb,OH,rfl,?_,?_,q3.trans (MM.DM kb.none),CS kb hl OL hb⟩
  ·rw [jh OK];exact q1.freeze (n:=cs.length) kb
  ·rw [Vj];exact q2
section
variable {ρ':Type} {P:Program} {r:ρ'} {o:Oper} {ρ:Operand→D}
theorem foldl_push (l:List D) (h:l.all isByte=true):∃ns:List Int,l=ns.map (fun n=>D.int .u8 n)∧Cz l=ns.foldl (fun r n=>r.push (UInt8.ofNat n.toNat)) ByteArray.empty:=by
 have key:∀(l:List D) (s:ByteArray),l.all isByte=true→∃ns:List Int,l=ns.map (fun n=>D.int .u8 n)∧(⟨s.data++(l.map byteOf).toArray⟩:ByteArray)=ns.foldl (fun r n=>r.push (UInt8.ofNat n.toNat)) s:=by
  intro l
  induction l with
  |nil=>intro s _;exact ⟨[],rfl,by simp⟩
  |cons d t ih=>
   intro s h
   rw [List.all_cons,Vi] at h
   obtain ⟨n,rfl⟩:∃n,d= .int .u8 n:=by
    have h1:=h.1
    unfold isByte at h1
    split at h1
    ·exact ⟨_,rfl⟩
    ·cases h1
   obtain ⟨ns,e1,e2⟩:=ih (s.push (UInt8.ofNat n.toNat)) h.2
   refine ⟨n::ns,by simp [e1],?_⟩
   rw [List.foldl_cons,← e2]
   congr 1
   apply Array.ext'
   simp [byteOf,ByteArray.push]
 obtain ⟨ns,e1,e2⟩:=key l ByteArray.empty h
 refine ⟨ns,e1,?_⟩
 rw [← e2]
 unfold Cz
 congr 1
 apply Array.ext'
 simp [ByteArray.empty,ByteArray.emptyWithCapacity]
 rfl
theorem Cc {z:Z P} {src dst:TypeId} {x:Operand} {K:Z P→gZ→Option ρ'} (ho:o.op= .convert src dst x) (h:Ei P z src dst (ρ x) K=some r):
  ∃e z',K z' e=some r∧(z'.c→z.c∧dY P o ρ e)∧((∃d,e= .pure d)∨∃q m,e= .new q m):=by
 unfold Ei at h
 split at h
 ·rename_i hs hd hx
  refine ⟨_,z,h,fun c=>⟨c,bF fun M w a _ hr=> ?_⟩,.inl ⟨_,rfl⟩⟩
  have h1:=ct (hr x (by simp [ho,Vx])) hx
  rename_i d k _ n _
  exact ⟨.int _ _,by simp [execOp,ho,h1,convert,run_underlying hs,run_underlying hd,Conv.intToInt],.int _ _⟩
 ·rename_i hs hd hx
  refine ⟨_,z,h,fun c=>⟨c,bF fun M w a _ hr=> ?_⟩,.inl ⟨_,rfl⟩⟩
  have h1:=hr x (by simp [ho,Vx])
  rw [hx] at h1
  generalize hv:a.eval x=v at h1
  cases h1
  exact ⟨.string _,by simp [execOp,ho,hv,convert,run_underlying hs,run_underlying hd],.str _⟩
 ·rename_i e s hs hd hx
  split at h
  ·rename_i he
   obtain ⟨PZ,h⟩:=bg h
   rw [Wg] at PZ
   refine ⟨_,z,h,fun c=>⟨c,?_⟩,.inr ⟨_,_,rfl⟩⟩
   intro w0 M own σ w a id hw hr OU next Q hn
   have h1:=hr x (by simp [ho,Vx])
   rw [hx] at h1
   generalize hv:a.eval x=v at h1
   cases h1
   let cap:=grownCap w s.size 0 e
   have OL:s.size≤cap:=grownCap_ge w _ _ _
   let arr:Array Value:=(s.data.map fun b=>Value.int .u8 b.toNat)++Array.replicate (cap - s.size) (.int .u8 0)
   have Ui:s.data.size=s.size:=rfl
   have Pm:arr.size=cap:=by simp [arr,Ui];omega
   have PU:fC M 1 (ja s) arr:=by
    have hb:∀ {i:Nat} {x:D},(ja s)[i]? =some x→∃c,s.data[i]? =some c∧x=wA c:=by
     intro i x hi
     unfold ja at hi
     rw [VC,Vz] at hi
     obtain ⟨c,hc,rfl⟩:=hi
     exact ⟨c,by simpa using hc,rfl⟩
    refine ⟨?_,?_,?_,?_⟩
    ·rw [Pm,WK];simp [ja,Ui];exact OL
    ·intro i x hi
     obtain ⟨c,_,rfl⟩:=hb hi
     exact ⟨[wA c],rfl,rfl⟩
    ·intro i x cs j c hi OJ hj
     obtain ⟨b,hb1,rfl⟩:=hb hi
     simp only [wA,D.cells,Vs] at OJ
     subst OJ
     cases j with
     |succ j=>simp at hj
     |zero=>
      simp at hj
      subst hj
      refine ⟨.int .u8 b.toNat,?_,.int _ _⟩
      have OK:i<s.data.size:=by
       rcases VA i s.data.size with q|q
       ·exact q
       ·simp [VV q] at hb1
      simp only [arr,WK,WI]
      rw [V0 (by simpa using OK)]
      simp [hb1]
    ·intro i x cs c hi OJ Qg
     obtain ⟨b,_,rfl⟩:=hb hi
     simp only [wA,D.cells,Vs] at OJ
     subst OJ
     simp at Qg
     subst Qg
     rfl
   have hlen:(ja s).length=s.size:=by simp [ja,Ui]
   have QX:=mH (M:=M) (w:=w) (wd:=w.drew) (arr:=arr) (ty:=e) (n:=s.size) hw.cells rfl (Below.refl _ _).drew (arr.size,arr.size+1)
   obtain ⟨Qx,P5⟩:=hw.ext QX rfl rfl rfl
   have QO:(w.drew.alloc (.cells arr e (arr.size,arr.size+1))).heap[w.heap.size]? =some (.cells arr e (arr.size,arr.size+1)):=by
    show (w.heap.push _)[w.heap.size]? =_
    simp
   have PG:own w.heap.size=none:=by
    cases e:own w.heap.size with
    |none=>rfl
    |some q=>have:=hw.owned _ _ e;omega
   obtain ⟨OH,hw3⟩:=Qx.lH (id:=id) (ver:=0) (fun v _=>OU.2 v) (a:=some ⟨w.heap.size,0,none⟩) (len:=s.size) (cap:=cap) 1
    (.inr ⟨w.heap.size,arr,e,(arr.size,arr.size+1),rfl,hw.below.new,.inl PG,QO,fun o ho h=>by have:=h.1;simp at this;omega,⟨by rw [Pm];omega,Wo (grownCap_le_maxLen w _ _ _ (by unfold maxLen;omega)) (by unfold maxLen;omega)⟩,fun o ho=>by
     simp only [MM.lay,MM.bC,if_true];rw [if_neg (by omega)]⟩)
   have Qp:=MM.cA (M:=M.lay w.heap.size arr s.size) (id:=id) (ver:=0) (v:= .slice (some ⟨w.heap.size,0,none⟩) s.size cap) (OU.2 0)
   refine cI (v:= .slice (some ⟨w.heap.size,0,none⟩) s.size cap) (w':=w.drew.alloc (.cells arr e (arr.size,arr.size+1))) ?_ (hn _ _ OH _ (P5.trans Qp) ⟨fun _ _=>rfl,fun j hj=>by funext k;simp [MM.aW,hj,MM.lay,MM.bC]⟩ hw3 ?_)
   ·have Sr:(w.drew.alloc (.cells arr e)).freeze ⟨w.heap.size,arr.size,none⟩ 1=w.drew.alloc (.cells arr e (arr.size,arr.size+1)):=by
     unfold World.freeze World.alloc
     simp only [Nat.one_ne_zero,if_false]
     congr 1
     apply Array.ext_getElem?
     intro k
     rw [Array.getElem?_modify]
     by_cases e1:w.heap.size=k
     ·subst e1
      rw [if_pos rfl]
      show Option.map _ ((w.heap.push _)[w.heap.size]?)=(w.heap.push _)[w.heap.size]?
      simp
     ·rw [if_neg e1]
      show (w.heap.push _)[k]? =(w.heap.push _)[k]?
      rw [Array.getElem?_push,Array.getElem?_push,if_neg (Ne.symm e1),if_neg (Ne.symm e1)]
    have Sk:(w.drew.alloc (.cells arr e)).shape? w.heap.size=some (e,arr.size):=by
     unfold World.shape?
     have:(w.drew.alloc (.cells arr e)).heap[w.heap.size]? =some (.cells arr e):=by
      show (w.heap.push _)[w.heap.size]? =_
      simp
     rw [this]
    have RM:(Question.appendCap s.size 0 e).forced=false:=rfl
    have hch:(choose (.appendCap s.size 0 e)).run P w= .ok cap w.drew:=by
     rw [run_choose,RM];rfl
    have Tn:(newRow e arr).run P w.drew= .ok ⟨w.heap.size,0,none⟩ (w.drew.alloc (.cells arr e)):=by first|(simp [newRow];done)|(simp [newRow];rfl)
    simp only [execOp,ho,hv,convert,VD,run_underlying hs,run_underlying hd,run_underlying he,Vv,Conv.stringToBytes,hch]
    rw [show (newRow e ((s.data.map fun b=>Value.int .u8 b.toNat)++Array.replicate (cap - s.size) (.int .u8 0)))=newRow e arr from rfl,Tn]
    simp only [Vv,markStringish,VD,run_shape,Sk,run_freeze,Sr,VK]
   ·have h5:=ml (M:=M) (b:=w.heap.size) (o:= .no) (cap:=cap) (n:=s.size) PU (cV hw.cells (Vq _)) (by rw [hlen];exact OL) (by rw [hlen];omega) trivial
    rw [hlen] at h5
    exact (h5.mono Qp).flag _ (by simp [MM.lM,MM.aW])
  ·cases h
 ·rename_i e ow sz xs hs hd hx
  split at h
  ·rename_i he
   obtain ⟨z',h1,h2⟩:=cN h
   refine ⟨_,z',h1,fun c=>⟨(h2 c).1,bF fun M w a hw hr=> ?_⟩,.inl ⟨_,rfl⟩⟩
   have Pq:=hr x (by simp [ho,Vx])
   rw [hx] at Pq
   generalize hv:a.eval x=v at Pq
   obtain ⟨ns,e1,e2⟩:=foldl_push xs (h2 c).2
   cases Pq with
   |aj b off vs hl OL ha OT hc hrr OQ PX=>
    rename_i ad len cap
    have OP:bo M (.aj ow sz xs) (.slice ad len cap):= .aj b off vs hl OL ha OT hc hrr OQ PX
    have Up:sz=1∨xs= []:=by
     cases xs with
     |nil=>exact .inr rfl
     |cons d t=>
      left
      obtain ⟨cs,q1,q2⟩:=OT 0 d rfl
      cases ns with
      |nil=>simp at e1
      |cons n ns=>simp at e1;rw [e1.1] at q1;simp [D.cells] at q1;subst q1;simpa using q2.symm
    obtain ⟨arr,os,orow,Qh,_⟩:=hO (P:=P) OP Up hw
    have Pm:arr=(ns.map (Value.int .u8)).toArray:=by
     apply Array.ext_getElem?
     intro k
     have hlen:xs.length=ns.length:=by rw [e1];simp
     rcases VA k ns.length with q|q
     ·have TM:xs[k]? =some (.int .u8 ns[k]):=by rw [e1];simp [q]
      obtain ⟨u,hu,hru⟩:=orow.get k _ [.int .u8 ns[k]] 0 _ TM rfl rfl
      cases hru
      rw [WK,WI] at hu
      rw [hu]
      simp [q]
     ·rw [VV (by omega),VV (by simpa using q)]
    have UD:(Conv.bytesToString (.slice ad len cap)).run P w= .ok (.string (Cz xs)) w:=by
     rw [e2]
     cases ad with
     |none=>
      have:xs= []:=by
       cases xs with
       |nil=>rfl
       |cons d t=>have:=ha (by simp);cases this
      subst this
      have:ns= []:=by simpa using e1.symm
      subst this
      simp [Conv.bytesToString]
     |some ad=>
      have:=Qh w (fun _=>rfl)
      simp only [VW,WK] at this
      rw [Pm] at this
      exact run_bytesToString w ad len cap ns this
    refine ⟨.string (Cz xs),?_,.str _⟩
    simp only [execOp,ho,hv,VD,run_convert_bytes_string w src dst e ad len cap hs he hd,UD,Vv,VK]
  ·cases h
 ·cases h
theorem qN {z:Z P} {st xt OZ e2:TypeId} {ts:Array TypeId} {id off sz n SO:Nat} {s:List Ob} {K:Z P→gZ→Option ρ'} {args:Act→Array Value} {ux uy:Act→Value}
  (OX:∀(a:Act) (w w':World) (v:Value),(V1 ts o.type (args a)).run P w= .ok v w'→(execOp a.eval o).run P w= .ok (.value v) w') (ht:P.underlying st=some (.slice OZ)) (hx:P.underlying xt=some (.slice e2)) (h0:ts[0]? =some st) (h1:ts[1]? =some xt)
  (g0:∀a,(args a)[0]? =some (ux a)) (g1:∀a,(args a)[1]? =some (uy a)) (Se:∀(M:MM) (a:Act),(∀q∈o.op.operands,bo M (ρ q) (a.eval q))→bo M (.aj .tight SO []) (ux a))
  (RS:∀(M:MM) (a:Act),(∀q∈o.op.operands,bo M (ρ q) (a.eval q))→∃b o2 c,uy a= .slice (some ⟨b,o2,none⟩) n c∧M.box id=some b∧(n≠0→o2=off))
  (h:zh P z OZ id off sz n s K=some r):∃e z',K z' e=some r∧(z'.c→z.c∧hJ P o ρ s e):=by
 unfold zh at h
 split at h
 ·rename_i cs OJ
  obtain ⟨hchk,h⟩:=bg h
  simp only [Vi,Wg,VJ] at hchk
  obtain ⟨⟨hzero,OT⟩,hb⟩:=hchk
  obtain ⟨z1,h,hz1⟩:=fV h
  subst OT
  split at h
  ·rename_i q r0 hzo0
   split at h
   ·rename_i RZ
    rw [VJ] at RZ
    split at h
    ·rename_i l i k nc hg rest
     obtain ⟨z2,h,PT⟩:=cN h
     refine ⟨_,z2,h,fun hc=> ?_⟩
     obtain ⟨⟨e1,e2',e3⟩,PD⟩:=(PT hc).1
     have Tu:=(PT hc).2
     subst e1 e2' e3
     refine ⟨(hz1 PD).1,by simp,?_⟩
     intro w0 M own w a hw PB hr next Q hn
     obtain ⟨b,o2,c,huv,Qv,Qf⟩:=RS M a hr
     obtain ⟨new,ns,O2,c1,c2⟩:=lb (P:=P) (c:=c) hw Qv OJ Qf hg.1 hg.2
     have Uk:nc.length=n:=by rw [c1,RZ,WK]
     obtain ⟨Pw,Ps⟩:=rK (by rw [c1,ns]) Tu c2
     have R7:=g1 a
     rw [huv] at R7
     have Pq:=Se M a hr
     obtain ⟨v,M',OH,w',q1,q2,q3,q4,q5,q6⟩:=qk (rty:=o.type) (ys:=nc) hw ht hx h0 h1 hzero hb (g0 a) R7 Pq Uk (by rw [ns,Uk]) (by rw [RZ];exact Pw) O2 Ps (.inr rfl) (by rw [Vg,VT,Uk];exact (hz1 PD).2) (id:=s.length) (ver:=0) (fun v _=>PB.2 _ v (Vq _))
      (fun ad len cap e=>by
       rw [e] at Pq
       cases Pq with
       |aj b off vs hl OL ha OT hc hr OQ ho=>exact .inl ho)
     rw [List.nil_append] at q4
     refine cI (OX a w w' v q1) (hn v M' OH w' q2 ⟨fun i hi=> ?_,fun i q hi=> ?_⟩ ?_ q4)
     ·simp only [Vd,Vf,Vg] at hi
      rw [q5];exact PB.1 i (by omega)
     ·simp only [Vd,Vf,Vg] at hi
      rw [q6 i (by omega)];exact PB.2 i q (by omega)
     ·rw [ir];exact q3
    ·cases h
   ·cases h
  have hh:=iD h
  clear h
  obtain ⟨z2,⟨h,PT⟩|⟨h,PT⟩⟩:=hh
  ·split at h
   ·rename_i l i k nc hg rest SR
    refine ⟨_,_,h,fun hc=> ?_⟩
    obtain ⟨⟨e1,e2',e3⟩,PS⟩:=hc
    subst e1 e2' e3
    have PD:=(PT PS).1
    have O5:=(PT PS).2
    rw [Wp] at O5
    refine ⟨(hz1 PD).1,by simp,?_⟩
    intro w0 M own w a hw PB hr next Q hn
    obtain ⟨b,o2,c,huv,Qv,Qf⟩:=RS M a hr
    obtain ⟨new,ns,O2,c1,c2⟩:=lb (P:=P) (c:=c) hw Qv OJ Qf hg.1 hg.2
    have R7:=g1 a
    rw [huv] at R7
    obtain ⟨v,M',OH,w',q1,q2,q3,q4,q5,q6⟩:=ur (rty:=o.type) hw ht hx h0 h1 hzero hb (g0 a) R7 (Se M a hr) ns O2 c1 c2 (hz1 PD).2 O5 (id:=s.length) (PB.1 _ (Vq _)) (fun v=>PB.2 _ v (Vq _))
    refine cI (OX a w w' v q1) (hn v M' OH w' q2 ⟨fun i hi=> ?_,fun i q hi=> ?_⟩ ?_ q4)
    ·simp only [Vd,Vf,Vg] at hi
     rw [q5 i (by omega)];exact PB.1 i (by omega)
    ·simp only [Vd,Vf,Vg] at hi
     rw [q6 i (by omega)];exact PB.2 i q (by omega)
    ·rw [ir];exact q3
   ·cases h
  ·refine ⟨_,_,h,fun PS=> ?_⟩
   have PD:=(PT PS).1
   have QN:=(PT PS).2
   have UL:n=0:=by
    rcases Nat.eq_zero_or_pos n with q|q
    ·exact q
    ·have q':Wq 0 n=true:=by rw [Wp];exact q
     rw [q'] at QN;cases QN
   subst UL
   refine ⟨(hz1 PD).1,bF fun M w a Px hr=> ?_⟩
   have r1:=Se M a hr
   obtain ⟨b2,o2,c2,huv,_,_⟩:=RS M a hr
   have e1:=g0 a
   have e2:=g1 a
   rw [huv] at e2
   have hex:=OX a w w
   generalize ux a=u1 at r1 e1
   obtain ⟨i,zz,hi,hiz,Q9,OS⟩:=fi hzero
   have O6:i.bytes≤65536:=by simpa [Program.bytesOf,hi] using hb
   cases r1 with
   |aj b off vs hl OL ha OT hc hrr OQ ho=>
    rename_i ad len cap
    have SS:len=0:=by simpa using hl.symm
    subst SS
    have SX:cap=0:=ho
    subst SX
    have QY:∀(a3:Option Addr) (k:Nat) (wd:World),(VW i.size 0 (.slice a3 0 k)).run P wd= .ok #[] wd:=fun a3 k wd=>by cases a3<;>simp [VW,loadCells,loadCellsFrom]
    obtain ⟨q1,_⟩:=fR (P:=P) (rty:=o.type) (w:=w) ht hx h0 h1 hi hiz e1 e2 (QY _ _ _) (QY _ _ _) (QY _ _ _) O6 (by omega)
    have q2:=q1 (Vq _)
    refine ⟨.slice ad 0 0,hex _ ?_,.aj b off (fun _ _=> .nilFunc) rfl (Vq _) (fun q=>absurd rfl q) (fun i x hx=>by simp at hx) (fun i x cs j c hx=>by simp at hx) (fun i x cs j c hx=>by simp at hx) (fun i x cs c hx=>by simp at hx) rfl⟩
    rw [q2]
    cases ad<;>simp [VD,Vv,VK,storeCells]
 ·cases h
theorem CL {z:Z P} {s:List Ob} {x:D} {size:Nat} {K:Z P→List D→Nat→Option ρ'} (h:G9 z s x size K=some r):
  ∃z' nc m,K z' nc m=some r∧(z'.c→z.c∧∀(w0:dm) (M:MM) (own:Nat→Option Nat) (w:World) (u:Value),bu w0 M own (bq s) w→bo M x u→
   ∃(a:Option Addr) (c:Nat) (new:Array Value),u= .slice a m c∧new.size=m*size∧(∀wd:World,(∀a,wd.cell? a=w.cell? a)→(VW size m u).run P wd= .ok new wd)∧nc.length=m*size∧∀(i:Nat) (d:D) (v:Value),nc[i]? =some d→new[i]? =some v→bo M d v):=by
 have bx:∀ {id off n:Nat} {q:Bool},(∀(M:MM) (u:Value),bo M x u→∃b o2 c,u= .slice (some ⟨b,o2,none⟩) n c∧M.box id=some b∧(n≠0→o2=off))→fU q (oJ z s id off n size K)=some r→
   ∃z' nc m,K z' nc m=some r∧(z'.c→z.c∧∀(w0:dm) (M:MM) (own:Nat→Option Nat) (w:World) (u:Value),bu w0 M own (bq s) w→bo M x u→
   ∃(a:Option Addr) (c:Nat) (new:Array Value),u= .slice a m c∧new.size=m*size∧(∀wd:World,(∀a,wd.cell? a=w.cell? a)→(VW size m u).run P wd= .ok new wd)∧nc.length=m*size∧∀(i:Nat) (d:D) (v:Value),nc[i]? =some d→new[i]? =some v→bo M d v):=by
  intro id off n q hu h
  obtain ⟨_,h⟩:=bg h
  unfold oJ at h
  split at h
  ·rename_i cs OJ
   split at h
   ·rename_i l i k nc hg rest SR
    refine ⟨_,_,_,h,fun hc=>⟨hc.2,fun w0 M own w u hw hr=> ?_⟩⟩
    obtain ⟨⟨e1,e2,e3⟩,_⟩:=hc
    subst e1 e2 e3
    obtain ⟨b,o2,c,rfl,Qv,Qf⟩:=hu M u hr
    obtain ⟨new,ns,O2,c1,c2⟩:=lb (P:=P) (c:=c) hw Qv OJ Qf hg.1 hg.2
    exact ⟨_,_,new,rfl,ns,O2,c1,c2⟩
   ·cases h
  ·cases h
 unfold G9 at h
 split at h
 ·obtain ⟨hk,h⟩:=bg h
  obtain ⟨z',nc,h,hz⟩:=rA h
  refine ⟨z',nc,_,h,fun hc=>⟨(hz hc).1,fun w0 M own w u hw hr=> ?_⟩⟩
  cases hr with
  |aj b off vs hl OL ha OT SX hr0 OQ ho=>
   rename_i a len cap
   have OP:=bo.aj b off vs hl OL ha OT SX hr0 OQ ho
   obtain ⟨new,ns,Pw,O2,_⟩:=hO (P:=P) OP (gP hk) hw.cells
   obtain ⟨c1,c2⟩:=mV Pw (hz hc).2
   subst hl
   exact ⟨_,_,new,rfl,ns,O2,c1,c2⟩
 ·exact bx (fun M u hr=>by cases hr with|bR hb PH hc=>exact ⟨_,0,_,rfl,hb,fun _=>rfl⟩) h
 ·exact bx (fun M u hr=>by cases hr with|sub hb hc hp Qf=>exact ⟨_,_,_,rfl,hb,Qf⟩) h
 ·cases h
theorem qa {z:Z P} {c:Call} {x y:Operand} {rest:List Operand} {s:List Ob} {K:Z P→gZ→Option ρ'} {ty e:TypeId} {id off n:Nat} (ho:o.op= .call c) (hc:c.callee= .builtin .copy) (OV:c.args.toList=x::y::rest) (t0:c.argTypes[0]? =some ty) (ht:P.underlying ty=some (.slice e)) (hk:known P e=true) (hs:P.cellsOf e=1)
  (hu:∀(M:MM) (u:Value),bo M (ρ x) u→∃b o2 c,u= .slice (some ⟨b,o2,none⟩) n c∧M.box id=some b∧(n≠0→o2=off)) (h:tG z s id off n (ρ y) K=some r):∃e z',K z' e=some r∧(z'.c→z.c∧hJ P o ρ s e):=by
 have hx:x∈o.op.operands:=by
  have:x∈c.args.toList:=by rw [OV];simp
  simp only [ho,Vx,WM,hc];simpa using this
 have hy:y∈o.op.operands:=by
  have:y∈c.args.toList:=by rw [OV];simp
  simp only [ho,Vx,WM,hc];simpa using this
 unfold tG at h
 obtain ⟨z1,nc,m,h,hz1⟩:=CL h
 obtain ⟨z2,h,PT⟩:=cN h
 obtain ⟨z3,h,hz3⟩:=cN h
 split at h
 ·rename_i cs OJ
  split at h
  ·rename_i l i xs l' hg US SR
   refine ⟨_,_,h,fun Qg=> ?_⟩
   obtain ⟨⟨e1,e2,e3⟩,QU⟩:=Qg
   subst e1 e2 e3
   have PS:=(hz3 QU).1
   have Tu:=(hz3 QU).2
   have PD:=(PT PS).1
   have UY:=(PT PS).2
   rw [Wg] at UY
   have OK:id<s.length:=cK (by rw [OJ];intro e;cases e)
   refine ⟨(hz1 PD).1,by simp,?_⟩
   intro w0 M own w a hw PB hr next Q hn
   obtain ⟨b,o2,cc,Se,Qv,Qf⟩:=hu M _ (hr x hx)
   obtain ⟨sa,sc,new,RS,ns,O2,c1,c2⟩:=(hz1 PD).2 w0 M own w _ hw (hr y hy)
   rw [WK] at ns c1
   obtain ⟨Pw,Ps⟩:=rK (by rw [c1,ns]) Tu c2
   obtain ⟨b2,vs,bt,kb⟩:=hw.box id l OJ
   have eb:b2=b:=by have:=kb.box;rw [Qv] at this;exact (Vk this).symm
   subst eb
   have RL:new.toList.length=m:=by rw [V2,ns]
   have hle:=kb.len
   have QZ:i+m≤l.length:=by rw [← c1];exact hg.2
   have OQ:(storeCells ⟨b2,o2,none⟩ new.toList).run P w= .ok () (bh w b2 (.cells (cQ vs i new.toList) bt (0,0))):=by
    by_cases hm:m=0
    ·have Pe:new= #[]:=Wy (by rw [ns,hm])
     subst Pe
     have:=dZ (P:=P) (b:=b2) (off:=i) (fz:=(0,0)) ([]:List Value) 0 w vs kb.cq (by simp) (by simp;omega) (fun o _ h=>by have:=h.2;simp at this)
     simp only [storeCells,VK,WI] at this ⊢
     exact this
    ·obtain rfl:=Qf (by omega)
     have:=dZ (P:=P) (b:=b2) (off:=o2) (fz:=(0,0)) new.toList 0 w vs kb.cq Ps (by rw [RL];omega) (fun o _ h=>by have:=h.2;simp at this)
     rw [WI] at this
     exact this
   have U0:bT M xs ⟨new.toList⟩:=⟨by simp [c1,ns],fun i d v hd hv=>c2 i d v hd (by simpa using hv)⟩
   have OP:=mn (M:=M) kb.len kb.rep U0 hg.2
   have TW:gC l i xs=l':=by unfold gC;exact hg.1
   rw [TW] at OP
   have Q2:=hw.CH kb OP.1 (cX _ _ _) OP.2
   refine cI (v:= .int .i64 m) (w':=bh w b2 (.cells (cQ vs i new.toList) bt (0,0))) ?_ (hn _ M own _ (.refl M) ⟨fun j hj=> ?_,fun j q hj=> ?_⟩ ?_ (.int _ _))
   ·rw [dA ho hc]
    have e0:c.args[0]? =some x:=by rw [← VE,OV];rfl
    have e1:c.args[1]? =some y:=by rw [← VE,OV];rfl
    have TH:=O2 w (fun _=>rfl)
    rw [RS] at TH
    simp [builtin,Builtin.copy_,t0,e0,e1,run_underlying ht,Se,RS,Builtin.lenOf,Nat.min_eq_left UY,ck hk,hs,TH,OQ,goInt]
   ·rw [Vj] at hj;exact PB.1 j hj
   ·rw [Vj] at hj;exact PB.2 j q hj
   ·rw [jh OK];exact Q2
  ·cases h
 ·cases h
theorem Cb {z:Z P} {c:Call} {x y:Operand} {rest:List Operand} {s:List Ob} {K:Z P→gZ→Option ρ'} (ho:o.op= .call c) (hc:c.callee= .builtin .copy) (OV:c.args.toList=x::y::rest) (h:Eh P z c.argTypes (ρ x) (ρ y) s K=some r):∃e z',K z' e=some r∧(z'.c→z.c∧hJ P o ρ s e):=by
 unfold Eh at h
 split at h
 ·rename_i ty ts SG
  have t0:c.argTypes[0]? =some ty:=by rw [← VE,SG];rfl
  split at h
  ·rename_i e ht
   obtain ⟨hk,h⟩:=bg h
   rw [Vi,VJ] at hk
   split at h
   ·rename_i id sz n hρ
    obtain ⟨_,h⟩:=bg h
    exact qa ho hc OV t0 ht hk.1 hk.2 (fun M u hr=>by rw [hρ] at hr;cases hr with|bR hb PH hc=>exact ⟨_,0,_,rfl,hb,fun _=>rfl⟩) h
   ·rename_i id off sz n cp hρ
    obtain ⟨_,h⟩:=bg h
    exact qa ho hc OV t0 ht hk.1 hk.2 (fun M u hr=>by rw [hρ] at hr;cases hr with|sub hb hc hp Qf=>exact ⟨_,_,_,rfl,hb,Qf⟩) h
   ·cases h
  ·cases h
 ·cases h
theorem Be {z:Z P} {st xt OZ e2:TypeId} {ts:Array TypeId} {id off sz n c RI PN PC n2:Nat} {Ug:Option Nat} {s:List Ob} {K:Z P→gZ→Option ρ'} {args:Act→Array Value} {ux uy:Act→Value}
  (OX:∀(a:Act) (w w':World) (v:Value),(V1 ts o.type (args a)).run P w= .ok v w'→(execOp a.eval o).run P w= .ok (.value v) w') (ht:P.underlying st=some (.slice OZ)) (hx:P.underlying xt=some (.slice e2)) (h0:ts[0]? =some st) (h1:ts[1]? =some xt)
  (g0:∀a,(args a)[0]? =some (ux a)) (g1:∀a,(args a)[1]? =some (uy a)) (Se:∀(M:MM) (a:Act),(∀q∈o.op.operands,bo M (ρ q) (a.eval q))→bo M (.sub id off sz n (some c)) (ux a))
  (RS:∀(M:MM) (a:Act),(∀q∈o.op.operands,bo M (ρ q) (a.eval q))→bo M (.sub RI PN PC n2 Ug) (uy a))
  (h:DP P z OZ id off sz n c RI PN PC n2 s K=some r):∃e z',K z' e=some r∧(z'.c→z.c∧hJ P o ρ s e):=by
 unfold DP at h
 split at h
 ·rename_i cs OJ
  have hh:=bg h
  clear h
  obtain ⟨hchk,h⟩:=hh
  simp only [Vi,Wg,VJ] at hchk
  obtain ⟨⟨⟨⟨⟨hzero,rfl⟩,rfl⟩,rfl⟩,rfl⟩,hb⟩:=hchk
  have hh:=fV h
  clear h
  obtain ⟨z1,h,hz1⟩:=hh
  have hh:=cN h
  clear h
  obtain ⟨z2,h,PT⟩:=hh
  have hh:=iD h
  clear h
  obtain ⟨z3,⟨h,hz3⟩|⟨h,hz3⟩⟩:=hh
  ·split at h
   ·rename_i l i k nc hg l2 i2 k2 Re SE rest SR
    refine ⟨_,_,h,fun hc=> ?_⟩
    obtain ⟨⟨a1,a2,a3⟩,⟨e1,e2',e3⟩,QU⟩:=hc
    subst a1 a2 a3 e1 e2' e3
    have PS:=(hz3 QU).1
    have O5:=(hz3 QU).2
    have PD:=(PT PS).1
    have Tj:=(PT PS).2
    rw [Wp] at O5
    rw [VJ] at Tj
    subst Tj
    have OK:id<s.length:=cK (by rw [OJ];intro e;cases e)
    refine ⟨(hz1 PD).1,by simp,?_⟩
    intro w0 M own w a hw PB hr next Q hn
    obtain ⟨v,M',OH,w',q1,q2,q3,q4,q5,q6⟩:=Bf (rty:=o.type) hw ht hx h0 h1 hzero hb (g0 a) (g1 a) (Se M a hr) (RS M a hr) (hz1 PD).2 O5 OJ hg.1 hg.2 SE.1 SE.2 (id:=s.length) (PB.1 _ (Vq _)) (fun v=>PB.2 _ v (Vq _))
    refine cI (OX a w w' v q1) (hn v M' OH w' q2 ⟨fun i hi=> ?_,fun i q hi=> ?_⟩ ?_ q4)
    ·simp only [Vd,Vj,Vf,Vg] at hi
     rw [q5 i (by omega)];exact PB.1 i (by omega)
    ·simp only [Vd,Vj,Vf,Vg] at hi
     rw [q6 i (by omega)];exact PB.2 i q (by omega)
    ·rw [ir,jh OK,Vj];exact q3
   ·cases h
  ·refine ⟨_,_,h,fun QU=> ?_⟩
   have PS:=(hz3 QU).1
   have QN:=(hz3 QU).2
   have PD:=(PT PS).1
   have Tj:=(PT PS).2
   have hlen:=(hz1 PD).2
   rw [VJ] at Tj
   subst Tj
   have Rj:c+n2=0:=by
    rcases Nat.eq_zero_or_pos (c+n2) with q|q
    ·exact q
    ·have q':Wq 0 (c+n2)=true:=by rw [Wp];exact q
     rw [q'] at QN;cases QN
   obtain rfl:c=0:=by omega
   obtain rfl:n2=0:=by omega
   refine ⟨(hz1 PD).1,bF fun M w a Px hr=> ?_⟩
   have r1:=Se M a hr
   have r2:=RS M a hr
   have e1:=g0 a
   have e2:=g1 a
   have hex:=OX a w w
   generalize ux a=u1 at r1 e1
   generalize uy a=u2 at r2 e2
   cases r1 with
   |sub hb1 hc1' hp1 ho1=>
    rename_i b1 o1 c1
    cases r2 with
    |sub TC hc2' hp2 SU=>
     rename_i b2 o2 c2
     obtain rfl:=hp1 0 rfl
     obtain ⟨i,zz,hi,hiz,Q9,OS⟩:=fi hzero
     have O6:i.bytes≤65536:=by simpa [Program.bytesOf,hi] using hb
     have QY:∀(b o3 k:Nat) (wd:World),(VW i.size 0 (.slice (some ⟨b,o3,none⟩) 0 k)).run P wd= .ok #[] wd:=fun b o3 k wd=>by simp [VW,loadCells,loadCellsFrom]
     obtain ⟨q1,_⟩:=fR (P:=P) (rty:=o.type) (w:=w) ht hx h0 h1 hi hiz e1 e2 (QY _ _ _ _) (QY _ _ _ _) (QY _ _ _ _) O6 (by omega)
     have q2:=q1 (Vq _)
     refine ⟨.slice (some ⟨b1,o1,none⟩) 0 0,hex _ ?_,.aj b1 o1 (fun _ _=> .nilFunc) rfl (Vq _) (fun q=>absurd rfl q) (fun i x hx=>by simp at hx) (fun i x cs j c hx=>by simp at hx) (fun i x cs j c hx=>by simp at hx) (fun i x cs c hx=>by simp at hx) rfl⟩
     rw [q2]
     simp [VD,Vv,VK,storeCells]
 ·cases h
theorem wK {z:Z P} {c:Call} {x y:Operand} {rest:List Operand} {s:List Ob} {K:Z P→gZ→Option ρ'} (ho:o.op= .call c) (hc:c.callee= .builtin .append) (OV:c.args.toList=x::y::rest) (h:tW P z c.argTypes (ρ x) (ρ y) s K=some r):
  ∃e z',K z' e=some r∧(z'.c→z.c∧hJ P o ρ s e):=by
 have hx:x∈o.op.operands:=by
  have:x∈c.args.toList:=by rw [OV];simp
  simp only [ho,Vx,WM,hc];simpa using this
 have hy:y∈o.op.operands:=by
  have:y∈c.args.toList:=by rw [OV];simp
  simp only [ho,Vx,WM,hc];simpa using this
 have ga:∀a:Act,(c.args.map a.eval)[0]? =some (a.eval x)∧(c.args.map a.eval)[1]? =some (a.eval y):=by
  intro a
  have e0:c.args[0]? =some x:=by rw [← VE,OV];rfl
  have e1:c.args[1]? =some y:=by rw [← VE,OV];rfl
  simp [e0,e1]
 unfold tW at h
 split at h
 ·rename_i st xt ts SG
  have t0:c.argTypes[0]? =some st:=by rw [← VE,SG];rfl
  have t1:c.argTypes[1]? =some xt:=by rw [← VE,SG];rfl
  split at h
  ·rename_i OZ e2 ht QX
   split at h
   ·rename_i ow sz xs Rh O1 ys Q8 Rd
    have OX:∀(a:Act) (w w':World) (v:Value),(V1 c.argTypes o.type (c.args.map a.eval)).run P w= .ok v w'→(execOp a.eval o).run P w= .ok (.value v) w':=by
     intro a w w' v hv
     rw [dA ho hc]
     simp only [builtin,VD,hv,Vv,VK]
    split at h
    ·rename_i r0 SR
     split at h
     ·obtain ⟨hchk,h⟩:=bg h
      simp only [Vi,Wg] at hchk
      obtain ⟨⟨hzero,QH⟩,hb⟩:=hchk
      obtain ⟨z1,h,hz1⟩:=fV h
      obtain ⟨z2,nc,h,PT⟩:=BP h
      refine ⟨_,z2,h,fun PS=>⟨(hz1 (PT PS).1).1,?_⟩⟩
      have PD:=(PT PS).1
      have Pu:=(PT PS).2.1
      have O0:=(PT PS).2.2
      intro w0 M own σ w a id hw hr OU next Q hn
      have Pq:=hr x hx
      have P9:=hr y hy
      rw [Q8] at Pq
      rw [Rd] at P9
      obtain ⟨v,M',OH,w',q1,q2,q3,q4,q5,q6⟩:=Al (rty:=o.type) hw ht QX t0 t1 hzero hb (ga a).1 (ga a).2 Pq P9 (gP QH) (hz1 PD).2 O0 Pu (id:=id) OU.1 OU.2
      exact cI (OX a w w' v q1) (hn v M' OH w' q2 ⟨q5,q6⟩ q3 q4)
     ·cases h
    ·rename_i m r0 SR
     split at h
     ·obtain ⟨hchk,h⟩:=bg h
      simp only [Vi,Wg] at hchk
      obtain ⟨⟨hzero,RZ⟩,hb⟩:=hchk
      obtain ⟨z1,h,hz1⟩:=fV h
      refine ⟨_,z1,h,fun PD=>⟨(hz1 PD).1,?_⟩⟩
      have hlen:=(hz1 PD).2
      refine bF fun M w a Px hr=> ?_
      have Pq:=hr x hx
      have P9:=hr y hy
      rw [Q8] at Pq
      rw [Rd] at P9
      exact ⟨_,OX a w w _ (wL (rty:=o.type) Px ht QX t0 t1 hzero hb (ga a).1 (ga a).2 Pq P9 (gP RZ) hlen),Pq⟩
     ·cases h
    have hh:=bg h
    clear h
    obtain ⟨hchk,h⟩:=hh
    simp only [Vi,Wg] at hchk
    obtain ⟨⟨⟨⟨_,hzero⟩,RZ⟩,QH⟩,hb⟩:=hchk
    have hh:=fV h
    clear h
    obtain ⟨z1,h,hz1⟩:=hh
    split at h
    ·
     refine ⟨_,z1,h,fun PD=>⟨(hz1 PD).1,?_⟩⟩
     intro w0 M own σ w a id hw hr OU next Q hn
     have Pq:=hr x hx
     have P9:=hr y hy
     rw [Q8] at Pq
     rw [Rd] at P9
     obtain ⟨v,M',OH,w',q1,q2,q3,q4,q5,q6⟩:=og (rty:=o.type) hw ht QX t0 t1 hzero hb (ga a).1 (ga a).2 Pq P9 (gP RZ) (gP QH) (hz1 PD).2 (id:=id) (ver:=0) (fun v _=>OU.2 v)
      (fun ad len cap e=>by
       rw [e] at Pq
       cases Pq with
       |aj b off vs hl OL ha OT hc hr OQ ho=>exact .inl ho)
     exact cI (OX a w w' v q1) (hn v M' OH w' q2 ⟨fun j _=>by rw [q5],q6⟩ q3 q4)
    ·rename_i t v
     split at h
     ·rename_i v' PC OQ
      obtain ⟨hk,h⟩:=bg h
      rw [Vi,VJ,VJ] at hk
      obtain ⟨rfl,rfl⟩:=hk
      refine ⟨_,z1,h,fun PD=>⟨(hz1 PD).1,⟨OQ,cK (by rw [OQ];intro e;cases e)⟩,?_⟩⟩
      intro w0 M own σ w a id hw hr OU next Q hn
      have R3:σ t= .bz v' (P.cellsOf OZ):=OU
      have Pq:=hr x hx
      have P9:=hr y hy
      rw [Q8] at Pq
      rw [Rd] at P9
      obtain ⟨fa,flen,fcap,hfam⟩:=hw.bz t v' _ R3
      obtain ⟨u,M',OH,w',q1,q2,q3,q4,q5,q6⟩:=og (rty:=o.type) hw ht QX t0 t1 hzero hb (ga a).1 (ga a).2 Pq P9 (gP RZ) (gP QH) (hz1 PD).2 (id:=t) (ver:=v'+1) (fun v hv=>hfam.last v (by omega))
       (fun ad len cap e=>by
        rw [e] at Pq
        cases Pq with
        |aj b off vs hl OL ha OT hc hr OQ ho=>
         have SU:M.bl t v'=some (.slice ad len cap):=ho
         rw [hfam.bl] at SU
         simp only [Vs,Value.slice.injEq] at SU
         obtain ⟨rfl,rfl,rfl⟩:=SU
         rcases hfam.room with q|⟨b',vs',ty',fz',e1,r⟩
         ·exact .inl q
         ·exact .inr ⟨b',vs',ty',fz',v',_,e1,r,R3⟩)
      exact cI (OX a w w' u q1) (hn u M' OH w' q2 ⟨q5,q6⟩ q3 q4)
     ·cases h
    ·cases h
   ·rename_i SD sz n Rh O1 ys Q8 Rd
    have OX:∀(a:Act) (w w':World) (v:Value),(V1 c.argTypes o.type (c.args.map a.eval)).run P w= .ok v w'→(execOp a.eval o).run P w= .ok (.value v) w':=by
     intro a w w' v hv
     rw [dA ho hc]
     simp only [builtin,VD,hv,Vv,VK]
    split at h
    ·rename_i cs OQ
     obtain ⟨hchk,h⟩:=bg h
     simp only [Vi,Wg,VJ] at hchk
     obtain ⟨⟨⟨hzero,OT⟩,QH⟩,hb⟩:=hchk
     obtain ⟨z1,h,hz1⟩:=fV h
     obtain ⟨z2,h,PT⟩:=cN h
     obtain ⟨z3,nc,h,hz3⟩:=rA h
     have OK:SD<s.length:=cK (by rw [OQ];intro e;cases e)
     refine ⟨_,z3,h,fun QU=>⟨(hz1 (PT (hz3 QU).1).1).1,by simp,?_⟩⟩
     have PS:=(hz3 QU).1
     have Pu:=(hz3 QU).2
     have PD:=(PT PS).1
     have hlen:=(PT PS).2
     rw [VJ] at hlen
     intro w0 M own w a hw PB hr next Q hn
     have Pq:=hr x hx
     have P9:=hr y hy
     rw [Q8,OT] at Pq
     rw [Rd] at P9
     obtain ⟨v,M',OH,w',q1,q2,q3,q4,q5,q6⟩:=Bw (rty:=o.type) hw ht QX t0 t1 hzero hb (ga a).1 (ga a).2 Pq P9 (gP QH) (hz1 PD).2 Pu OQ hlen (id:=s.length) (PB.1 _ (Vq _)) (fun v=>PB.2 _ v (Vq _))
     rw [← OT] at q4
     refine cI (OX a w w' v q1) (hn v M' OH w' q2 ⟨fun i hi=> ?_,fun i q hi=> ?_⟩ ?_ q4)
     ·simp only [Vd,Vj,Vf,Vg] at hi
      rw [q5 i (by omega)];exact PB.1 i (by omega)
     ·simp only [Vd,Vj,Vf,Vg] at hi
      rw [q6 i (by omega)];exact PB.2 i q (by omega)
     ·rw [ir,jh OK,Vj];exact q3
    ·cases h
   ·rename_i SD sz n Uc PN PC n2 cp Q8 Rd
    have OX:∀(a:Act) (w w':World) (v:Value),(V1 c.argTypes o.type (c.args.map a.eval)).run P w= .ok v w'→(execOp a.eval o).run P w= .ok (.value v) w':=by
     intro a w w' v hv
     rw [dA ho hc]
     simp only [builtin,VD,hv,Vv,VK]
    unfold GY at h
    split at h
    ·rename_i cs QF OQ T6
     obtain ⟨hchk,h⟩:=bg h
     simp only [Vi,Wg,VJ] at hchk
     obtain ⟨⟨⟨hzero,OT⟩,QH⟩,hb⟩:=hchk
     obtain ⟨z1,h,hz1⟩:=fV h
     obtain ⟨z2,h,PT⟩:=cN h
     have OK:SD<s.length:=cK (by rw [OQ];intro e;cases e)
     split at h
     ·rename_i l i k nc hg Va SR
      obtain ⟨z3,h,hz3⟩:=cN h
      refine ⟨_,z3,h,fun QU=> ?_⟩
      obtain ⟨⟨e1,e2',e3⟩,PS⟩:=(hz3 QU).1
      have Ta:=(hz3 QU).2
      subst e1 e2' e3
      have PD:=(PT PS).1
      have hlen:=(PT PS).2
      rw [VJ] at hlen
      refine ⟨(hz1 PD).1,by simp,?_⟩
      intro w0 M own w a hw PB hr next Q hn
      have Pq:=hr x hx
      have P9:=hr y hy
      rw [Q8,OT] at Pq
      rw [Rd] at P9
      have R7:=(ga a).2
      generalize a.eval y=u2 at P9 R7
      cases P9 with
      |sub Qv hcle hcp Qf=>
       obtain ⟨new,ns,O2,c1,c2'⟩:=lb (P:=P) hw Qv T6 Qf hg.1 hg.2
       have Uf:=AA (by rw [c1,ns]) Ta c2'
       rw [QH] at ns O2 c1
       obtain ⟨v,M',OH,w',q1,q2,q3,q4,q5,q6⟩:=vP (rty:=o.type) hw ht QX t0 t1 hzero hb (ga a).1 R7 Pq ns O2 c1 c2' Uf (hz1 PD).2 OQ (by rw [hlen,OT]) (id:=s.length) (PB.1 _ (Vq _)) (fun v=>PB.2 _ v (Vq _))
       rw [← OT] at q4
       refine cI (OX a w w' v q1) (hn v M' OH w' q2 ⟨fun i hi=> ?_,fun i q hi=> ?_⟩ ?_ q4)
       ·simp only [Vd,Vj,Vf,Vg] at hi
        rw [q5 i (by omega)];exact PB.1 i (by omega)
       ·simp only [Vd,Vj,Vf,Vg] at hi
        rw [q6 i (by omega)];exact PB.2 i q (by omega)
       ·rw [ir,jh OK,Vj];exact q3
     ·cases h
    ·cases h
   ·rename_i SO SD sz n Q8 Rd
    have OX:∀(a:Act) (w w':World) (v:Value),(V1 c.argTypes o.type (c.args.map a.eval)).run P w= .ok v w'→(execOp a.eval o).run P w= .ok (.value v) w':=by
     intro a w w' v hv
     rw [dA ho hc]
     simp only [builtin,VD,hv,Vv,VK]
    refine qN OX ht QX t0 t1 (fun a=>(ga a).1) (fun a=>(ga a).2) (fun M a hr=>by have:=hr x hx;rw [Q8] at this;exact this) (fun M a hr=> ?_) h
    have P9:=hr y hy
    rw [Rd] at P9
    generalize a.eval y=u at P9
    cases P9 with
    |bR hb PH hc=>exact ⟨_,0,_,rfl,hb,fun _=>rfl⟩
   ·rename_i SO SD off sz n cp Q8 Rd
    have OX:∀(a:Act) (w w':World) (v:Value),(V1 c.argTypes o.type (c.args.map a.eval)).run P w= .ok v w'→(execOp a.eval o).run P w= .ok (.value v) w':=by
     intro a w w' v hv
     rw [dA ho hc]
     simp only [builtin,VD,hv,Vv,VK]
    refine qN OX ht QX t0 t1 (fun a=>(ga a).1) (fun a=>(ga a).2) (fun M a hr=>by have:=hr x hx;rw [Q8] at this;exact this) (fun M a hr=> ?_) h
    have P9:=hr y hy
    rw [Rd] at P9
    generalize a.eval y=u at P9
    cases P9 with
    |sub hb hc hp Qf=>exact ⟨_,_,_,rfl,hb,Qf⟩
   ·rename_i SD off sz n cc Uc PN PC n2 cp Q8 Rd
    have OX:∀(a:Act) (w w':World) (v:Value),(V1 c.argTypes o.type (c.args.map a.eval)).run P w= .ok v w'→(execOp a.eval o).run P w= .ok (.value v) w':=by
     intro a w w' v hv
     rw [dA ho hc]
     simp only [builtin,VD,hv,Vv,VK]
    exact Be OX ht QX t0 t1 (fun a=>(ga a).1) (fun a=>(ga a).2) (fun M a hr=>by have:=hr x hx;rw [Q8] at this;exact this) (fun M a hr=>by have:=hr y hy;rw [Rd] at this;exact this) h
   ·cases h
  ·cases h
 ·cases h
end
section
variable {ρ':Type} {P:Program} {r:ρ'} {o:Oper} {t:List D} {s:List Ob}
theorem CX {ρ:Operand→D} {ty e:TypeId} {l c:Operand} {q q':WO} {n:Int} {zd:D} {zc:List D} (ho:o.op= .makeSlice ty l c) (ht:P.underlying ty=some (.slice e)) (hk:known P e=true) (hz:gg P e=some zd) (RK:zd.cells=some zc)
  (hlen:zc.length=P.cellsOf e) (O5:0<zc.length) (Tu:P.bytesOf e≤65536) (hl:ρ l= .int q n) (hc:ρ c= .int q' n) (h0:0≤n) (h1:n≤2147483648) (OQ:∀c∈zc,storable c=true):
  dY P o ρ (.pure (.aj .tight (P.cellsOf e) (Vc n.toNat zd))):=by
 obtain ⟨i,v,hi,hv,rfl⟩:=eV hz
 refine vo fun M w a hw hr=> ?_
 have r1:=ct (hr l (by simp [ho,Vx])) hl
 have r2:=ct (hr c (by simp [ho,Vx])) hc
 have hb:(i.bytes:Int)≤65536:=by
  have:P.bytesOf e=i.bytes:=by simp [Program.bytesOf,hi]
  omega
 have OT:P.cellsOf e=i.size:=by simp [Program.cellsOf,hi]
 have hmul:(i.bytes:Int)*n≤281474976710656:=by
  have:=Int.mul_le_mul hb h1 h0 (by omega:(0:Int)≤65536)
  omega
 have OY:=run_make (P:=P) w ty e i v ht hi hv q q' n n h0 (Int.le_refl _) hmul (by omega)
 have PU:fC M (P.cellsOf e) (Vc n.toNat (mb v)) (madeCells v.cells (n.toNat*i.size)):=by
  have:=zb (M:=M) RK (eR v) OQ n.toNat
  rw [hlen] at this
  rw [← OT]
  exact this
 have hx:=mH (M:=M) (w:=w) (wd:=w) (arr:=madeCells v.cells (n.toNat*i.size)) (ty:=e) (n:=(madeCells v.cells (n.toNat*i.size)).size) hw rfl (Below.refl _ _) (0,0)
 have RT:=ml (b:=w.heap.size) (o:= .tight) (cap:=(Vc n.toNat (mb v)).length) (n:=(madeCells v.cells (n.toNat*i.size)).size) PU (cV hw (Vq _)) (Vq _) PU.len rfl
 refine ⟨_,_,_,?_,hx,rfl,rfl,rfl,RT⟩
 simp only [execOp,ho,r1,r2,VD,OY,Vv,VK,List.length_replicate]
theorem pD {z:Z P} {K:Z P→gZ→Option ρ'} {ty:TypeId} {rv:Option Operand} (ho:o.op= .makeMap ty rv) (hx:∀x,rv=some x→∃q n,bB t x= .int q n) (h:(oG P z ty K)=some r):
  ∃e z',K z' e=some r∧(z'.c→z.c∧hJ P o (bB t) s e):=by
 unfold oG at h
 split at h
 ·rename_i k et hk
  exact ⟨_,z,h,fun c=>⟨c,xB ho hk hx⟩⟩
 ·split at h
  ·rename_i kt et hk
   obtain ⟨z',ks,h1,h2,_⟩:=kT h
   exact ⟨_,z',h1,fun c=>⟨h2 c,vr ho hk hx⟩⟩
  ·cases h
theorem pC {z:Z P} {K:Z P→gZ→Option ρ'} {ty:TypeId} {m k v:Operand} (ho:o.op= .insert ty m k v∨o.op= .mapUpdate ty m k v) (h:(oE P z ty (bB t m) (bB t k) (bB t v) s K)=some r):
  ∃e z',K z' e=some r∧(z'.c→z.c∧hJ P o (bB t) s e):=by
 unfold oE at h
 split at h
 ·rename_i id q n hm hk
  split at h
  ·rename_i q' es q2 et hs QC
   have hh:=bg h
   clear h
   obtain ⟨P1,h⟩:=hh
   simp only [Vi] at P1
   have e1:=eJ P1.1.1
   have e2:=eJ P1.1.2
   subst e1 e2
   have O8:=cK (s:=s) (i:=id) (by rw [hs];intro e;cases e)
   exact ⟨_,z,h,fun c=>⟨c,⟨hs,O8⟩,AP ho QC hm hk P1.2⟩⟩
  ·cases h
 ·rename_i id cs hm hk
  split at h
  ·rename_i ks es kt et hs QC
   obtain ⟨z',Q7,h1,h2,hK⟩:=kT h
   obtain ⟨P1,h3⟩:=bg h1
   simp only [Vi] at P1
   have e1:=kI P1.1.1
   subst e1
   have O8:=cK (s:=s) (i:=id) (by rw [hs];intro e;cases e)
   exact ⟨_,z',h3,fun c=>⟨h2 c,⟨hs,O8⟩,xy ho QC hK hm hk P1.1.2 P1.2⟩⟩
  ·cases h
 ·cases h
theorem xP {z:Z P} {K:Z P→gZ→Option ρ'} {ty:TypeId} {m k:Operand} (ho:o.op= .mapEntry ty m k) (h:(sX P z ty (bB t m) (bB t k) s K)=some r):
  ∃e z',K z' e=some r∧(z'.c→z.c∧hJ P o (bB t) s e):=by
 unfold sX at h
 split at h
 ·rename_i id q n hm hk
  split at h
  ·rename_i q' es q2 et hs QC
   split at h
   ·rename_i zd hz
    have hh:=bg h
    clear h
    obtain ⟨P1,h⟩:=hh
    simp only [Vi] at P1
    have e1:=eJ P1.1.1
    have e2:=eJ P1.1.2
    subst e1 e2
    have O8:=cK (s:=s) (i:=id) (by rw [hs];intro e;cases e)
    obtain ⟨z',rr,h1,h2⟩:=re h
    have PI:=fun c=>AQ (P:=P) (ρ:=bB t) ho QC hz P1.2 hm hk (h2 c).2
    cases rr<;>exact ⟨_,z',h1,fun c=>⟨(h2 c).1,⟨hs,O8⟩,PI c⟩⟩
   ·cases h
  ·cases h
 ·rename_i id cs hm hk
  split at h
  ·rename_i ks es kt et hs QC
   split at h
   ·rename_i zd hz
    obtain ⟨z1,Q7,h0,RG,hK⟩:=kT h
    obtain ⟨P1,h3⟩:=bg h0
    simp only [Vi] at P1
    have e1:=kI P1.1.1
    subst e1
    have O8:=cK (s:=s) (i:=id) (by rw [hs];intro e;cases e)
    obtain ⟨z',rr,h1,h2⟩:=pA h3
    have PI:=fun c=>xA (P:=P) (ρ:=bB t) ho QC hK hz P1.2 hm hk P1.1.2 (h2 c).2
    cases rr<;>exact ⟨_,z',h1,fun c=>⟨RG (h2 c).1,⟨hs,O8⟩,PI c⟩⟩
   ·cases h
  ·cases h
 ·cases h
theorem tB {z:Z P} {K:Z P→gZ→Option ρ'} {ty:TypeId} {m n v:Operand} (ho:o.op= .entryStore ty m n v) (h:(nC P z (bB t m) (bB t n) (bB t v) s K)=some r):
  ∃e z',K z' e=some r∧(z'.c→z.c∧hJ P o (bB t) s e):=by
 unfold nC at h
 split at h
 ·rename_i id q0 j hm hn
  split at h
  ·rename_i q es hs
   obtain ⟨hv,h⟩:=bg h
   obtain ⟨z',h1,h2⟩:=cN h
   have O8:=cK (s:=s) (i:=id) (by rw [hs];intro e;cases e)
   refine ⟨_,z',h1,fun c=>⟨(h2 c).1,⟨hs,O8⟩,?_⟩⟩
   have hb:=(h2 c).2
   rw [Vi,decide_eq_true_eq,Wp] at hb
   exact nR ho hm hn hv hb.1 (.inl ⟨q,es,rfl,rfl,hb.2⟩)
  ·rename_i ks es hs
   obtain ⟨hv,h⟩:=bg h
   obtain ⟨z',h1,h2⟩:=cN h
   have O8:=cK (s:=s) (i:=id) (by rw [hs];intro e;cases e)
   refine ⟨_,z',h1,fun c=>⟨(h2 c).1,⟨hs,O8⟩,?_⟩⟩
   have hb:=(h2 c).2
   rw [Vi,decide_eq_true_eq,Wp] at hb
   exact nR ho hm hn hv hb.1 (.inr ⟨ks,es,rfl,rfl,hb.2⟩)
  ·cases h
 ·cases h
theorem D6 {z:Z P} {d:D} {s':List Ob} {K:Z P→gZ→Option ρ'} {r:ρ'} (h:HX z d s' K=some r):∃e z',K z' e=some r∧(z'.c→z.c∧∃d2 s2,e= .all s2 d2∧∀(g:FuncId) (args:List D) (s:List Ob),cO P g args s d s'→cO P g args s d2 s2):=by
 unfold HX at h
 split at h
 ·split at h
  ·rename_i id sz n
   split at h
   ·rename_i cs OJ
    have hh:=bg h
    clear h
    obtain ⟨OT,h⟩:=hh
    rw [VJ] at OT
    subst OT
    have hh:=cN h
    clear h
    obtain ⟨z1,h,hz1⟩:=hh
    refine ⟨_,z1,h,fun hc=>⟨(hz1 hc).1,_,_,rfl,fun g args s hr=> ?_⟩⟩
    have hq:=(hz1 hc).2
    rw [Vi,VJ] at hq
    exact hr.z7 OJ hq.1 hq.2
   ·cases h
  ·cases h
 ·exact ⟨_,z,h,fun hc=>⟨hc,_,_,rfl,fun g args s hr=>hr⟩⟩
theorem Fz {inl:Ak P ρ'} (Pd:jv P inl) {z:Z P} {K:Z P→gZ→Option ρ'} (h:Ke P inl o t s z K=some r):
  ∃e z',K z' e=some r∧(z'.c→z.c∧hJ P o (bB t) s e):=by
 unfold Ke at h
 split at h
 case h_1 x ho=>exact ⟨_,z,h,fun c=>⟨c,zF (.inl ho)⟩⟩
 case h_2 x ho=>exact ⟨_,z,h,fun c=>⟨c,zF (.inr ho)⟩⟩
 case h_3 c x y ho=>
  split at h
  ·rename_i q hq
   obtain ⟨z',⟨h1,h2⟩|⟨h1,h2⟩⟩:=iD h
   ·refine ⟨_,z',h1,fun c=>⟨(h2 c).1,?_⟩⟩
    have:=zE (P:=P) (ρ:=bB t) ho hq
    rw [(h2 c).2] at this
    exact this
   ·refine ⟨_,z',h1,fun c=>⟨(h2 c).1,?_⟩⟩
    have:=zE (P:=P) (ρ:=bB t) ho hq
    rw [(h2 c).2] at this
    exact this
  ·cases h
 case h_4 e x ho=>
  split at h
  ·rename_i cs OJ;exact ⟨_,z,h,fun c=>⟨c,Ho ho OJ⟩⟩
  ·cases h
 case h_5 e ho=>
  split at h
  ·rename_i d hd
   split at h
   ·rename_i cs OJ;exact ⟨_,z,h,fun c=>⟨c,C0 ho hd OJ⟩⟩
   ·split at h
    ·rename_i h1;exact ⟨_,z,h,fun c=>⟨c,AR ho hd h1⟩⟩
    ·cases h
  ·cases h
 case h_6 ty parts ho=>
  split at h
  ·rename_i d hd;exact ⟨_,z,h,fun c=>⟨c,CZ ho hd⟩⟩
  ·cases h
 case h_7 ty len parts ho=>
  split at h
  ·rename_i e ht
   split at h
   ·rename_i d hd
    split at h
    ·rename_i zc RK
     obtain ⟨hk,h⟩:=bg h
     simp only [Vi,VJ,Wg,VP] at hk
     obtain ⟨⟨⟨⟨h1,h2⟩,h3⟩,_⟩,h5⟩:=hk
     obtain ⟨xs,q1,q2⟩:=qC (P:=P) (ρ:=bB t) ho ht hd RK h1 h2 h3 h5 h
     exact ⟨_,z,q1,fun c=>⟨c,q2⟩⟩
    ·cases h
   ·cases h
  ·cases h
 case h_8 ty a ho=>
  unfold GU at h
  split at h
  ·rename_i dyn id off hx
   split at h
   ·rename_i cs OJ
    obtain ⟨z',d,h1,h2⟩:=kR h
    refine ⟨_,z',h1,fun c=>⟨(h2 c).1,?_⟩⟩
    have OK:id<s.length:=cK (by rw [OJ];intro e;cases e)
    split
    ·rename_i Q6
     obtain ⟨e,hu,hp⟩:=(h2 c).2
     unfold GG at Q6
     rw [hu] at Q6
     have ha:cF e=false:=by simpa using Q6
     rcases hp with ⟨q,_⟩|⟨_,q⟩
     ·rw [ha] at q;cases q
     ·exact ⟨⟨by rw [OJ];exact q,OK⟩,sN ho hx hu ha⟩
    ·exact ⟨⟨OJ,OK⟩,nQ ho hx (h2 c).2⟩
   ·cases h
  ·rename_i dyn y off hx
   split at h
   ·rename_i cs OJ
    obtain ⟨z',d,h1,h2⟩:=kR h
    exact ⟨_,z',h1,fun c=>⟨(h2 c).1,sM ho hx OJ (h2 c).2⟩⟩
   ·cases h
  ·cases h
 case h_9 ty a x ho=>
  unfold CA at h
  split at h
  ·rename_i dyn id off hx
   split at h
   ·rename_i cs OJ
    split at h
    ·rename_i vc RQ
     obtain ⟨hk,h⟩:=bg h
     simp only [Vi,VJ,VP] at hk
     obtain ⟨⟨k1,k2⟩,k3⟩:=hk
     have O8:=cK (s:=s) (i:=id) (by rw [OJ];intro e;cases e)
     split at h
     ·obtain ⟨hl,h⟩:=bg h
      rw [Wg] at hl
      exact ⟨_,z,h,fun c=>⟨c,⟨OJ,O8⟩,vp ho hx RQ k1 k2 k3 hl⟩⟩
     ·split at h
      ·rename_i l i xs l' hg rest _
       refine ⟨_,_,h,fun c=>⟨c.2,⟨OJ,O8⟩,?_⟩⟩
       have e1:=c.1.1
       have e2:=c.1.2.1
       have e3:=c.1.2.2
       subst e1 e2 e3
       have:=vp (P:=P) (ρ:=bB t) ho hx RQ k1 k2 k3 hg.2
       unfold gC at this
       rw [hg.1] at this
       exact this
      ·cases h
    ·cases h
   ·cases h
  ·cases h
 case h_10 x ho=>
  split at h
  ·rename_i dyn id off hx
   exact ⟨_,z,h,fun c=>⟨c,by have:=kr (P:=P) (ρ:=bB t) ho (.inl ⟨dyn,id,off,hx⟩);rw [hx] at this;exact this⟩⟩
  ·rename_i dyn y off hx
   exact ⟨_,z,h,fun c=>⟨c,by have:=kr (P:=P) (ρ:=bB t) ho (.inr (.inl ⟨dyn,y,off,hx⟩));rw [hx] at this;exact this⟩⟩
  ·rename_i g a b hx
   exact ⟨_,z,h,fun c=>⟨c,by have:=kr (P:=P) (ρ:=bB t) ho (.inr (.inr ⟨g,a,b,hx⟩));rw [hx] at this;exact this⟩⟩
  ·cases h
 case h_11 op ty x y ty' ho=>
  obtain ⟨z',d,h1,h2⟩:=Eo h
  exact ⟨_,z',h1,fun c=>⟨(h2 c).1,Hp ho fun M w u v hu hv=>(h2 c).2 M w x y u v hu hv⟩⟩
 case h_12 op ty x ho=>
  obtain ⟨d,h1,h2⟩:=EM (P:=P) h
  refine ⟨_,z,h1,fun c=>⟨c,bF fun M w a _ hr=> ?_⟩⟩
  obtain ⟨v,q1,q2⟩:=h2 M w _ (hr x (by simp [ho,Vx]))
  exact ⟨v,by simp only [execOp,ho,VD,q1,Vv,VK],q2⟩
 case h_13 src dst x ho=>
  obtain ⟨e,z',h1,h2,h3⟩:=Cc (ρ:=bB t) ho h
  refine ⟨e,z',h1,fun c=>⟨(h2 c).1,?_⟩⟩
  rcases h3 with ⟨d,rfl⟩|⟨q,m,rfl⟩<;>exact (h2 c).2
 case h_14 f first cap ho=>exact ⟨_,z,h,fun c=>⟨c,vt ho⟩⟩
 case h_15 ty x lo hi mx ho=>
  split at h
  ·rename_i e ow sz xs ht hx
   obtain ⟨hk,h⟩:=bg h
   rw [Vi,VJ] at hk
   obtain ⟨n1,h,o1⟩:=dH h
   obtain ⟨n2,h,o2⟩:=dH h
   obtain ⟨n3,h,o3⟩:=dH h
   obtain ⟨z',d,h1,h2⟩:=wT h
   refine ⟨_,z',h1,fun c=>⟨(h2 c).1,bF fun M w a _ hr=> ?_⟩⟩
   have Pq:=hr x (by simp [ho,Vx])
   rw [hx] at Pq
   have r1:=o1 M a (fun y hy=>hr y (by simp [ho,Vx,hy]))
   have r2:=o2 M a (fun y hy=>hr y (by simp [ho,Vx,hy]))
   have r3:=o3 M a (fun y hy=>hr y (by simp [ho,Vx,hy]))
   obtain ⟨v,q1,q2⟩:=(h2 c).2 M w ty e _ _ _ _ ht hk.1 hk.2 Pq r1 r2 r3
   exact ⟨v,by simp only [execOp,ho,VD,q1,Vv,VK],q2⟩
  ·rename_i e id sz n ht hx
   obtain ⟨hk,h⟩:=bg h
   rw [Vi,VJ] at hk
   obtain ⟨n1,h,o1⟩:=dH h
   obtain ⟨n2,h,o2⟩:=dH h
   obtain ⟨n3,h,o3⟩:=dH h
   obtain ⟨z',l,hh,R0,h1,h2⟩:=oX h
   refine ⟨_,z',h1,fun c=>⟨(h2 c).1,bF fun M w a _ hr=> ?_⟩⟩
   have Pq:=hr x (by simp [ho,Vx])
   rw [hx] at Pq
   have r1:=o1 M a (fun y hy=>hr y (by simp [ho,Vx,hy]))
   have r2:=o2 M a (fun y hy=>hr y (by simp [ho,Vx,hy]))
   have r3:=o3 M a (fun y hy=>hr y (by simp [ho,Vx,hy]))
   obtain ⟨_,b1,b2,b3⟩:=h2 c
   generalize hv:a.eval x=u at Pq
   cases Pq with
   |bR hb PH hc=>
    obtain ⟨m,m1,m2,m3⟩:=b3 true w _ _ _ _ hc (fun k hk=>by cases hk) r1 r2 r3
    exact ⟨_,by simp only [execOp,ho,hv,VD,jY ht hk.1 hk.2 m3,Vv,VK],pe hb (fun _=>rfl) b1 b2 m1 m2⟩
  ·rename_i e id off sz n cp ht hx
   obtain ⟨hk,h⟩:=bg h
   rw [Vi,VJ] at hk
   obtain ⟨n1,h,o1⟩:=dH h
   obtain ⟨n2,h,o2⟩:=dH h
   obtain ⟨n3,h,o3⟩:=dH h
   obtain ⟨z',l,hh,R0,h1,h2⟩:=oX h
   refine ⟨_,z',h1,fun c=>⟨(h2 c).1,bF fun M w a _ hr=> ?_⟩⟩
   have Pq:=hr x (by simp [ho,Vx])
   rw [hx] at Pq
   have r1:=o1 M a (fun y hy=>hr y (by simp [ho,Vx,hy]))
   have r2:=o2 M a (fun y hy=>hr y (by simp [ho,Vx,hy]))
   have r3:=o3 M a (fun y hy=>hr y (by simp [ho,Vx,hy]))
   obtain ⟨_,b1,b2,b3⟩:=h2 c
   generalize hv:a.eval x=u at Pq
   cases Pq with
   |sub hb hc hp Qf=>
    obtain ⟨m,m1,m2,m3⟩:=b3 true w _ _ _ _ hc hp r1 r2 r3
    exact ⟨_,by simp only [execOp,ho,hv,VD,jY ht hk.1 hk.2 m3,Vv,VK],pe hb Qf b1 b2 m1 m2⟩
  ·rename_i n e dyn id off ht hx
   obtain ⟨hk,h⟩:=bg h
   obtain ⟨n1,h,o1⟩:=dH h
   obtain ⟨n2,h,o2⟩:=dH h
   obtain ⟨n3,h,o3⟩:=dH h
   obtain ⟨z',l,hh,R0,h1,h2⟩:=oX h
   refine ⟨_,z',h1,fun c=>⟨(h2 c).1,bF fun M w a _ hr=> ?_⟩⟩
   have Pq:=hr x (by simp [ho,Vx])
   rw [hx] at Pq
   have r1:=o1 M a (fun y hy=>hr y (by simp [ho,Vx,hy]))
   have r2:=o2 M a (fun y hy=>hr y (by simp [ho,Vx,hy]))
   have r3:=o3 M a (fun y hy=>hr y (by simp [ho,Vx,hy]))
   obtain ⟨_,b1,b2,b3⟩:=h2 c
   generalize hv:a.eval x=u at Pq
   cases Pq with
   |ptr _ hb=>
    obtain ⟨m,m1,m2,m3⟩:=b3 false w _ _ _ _ (Vq _) (fun k hk=>Vk hk) r1 r2 r3
    exact ⟨_,by simp only [execOp,ho,hv,VD,oi ht hk rfl m3,Vv,VK],pe hb (fun _=>rfl) b1 b2 m1 m2⟩
  ·cases h
 case h_16 ty x f ho=>
  unfold p5 at h
  split at h
  ·rename_i fields ht
   split at h
   ·rename_i fd Uq
    obtain ⟨hk,h⟩:=bg h
    rw [Vi] at hk
    have O5:0<P.cellsOf fd.type:=Nat.lt_of_succ_le (by simpa [Wq,Wg] using hk.2)
    obtain ⟨g1,g2⟩:=sQ (P:=P) (ρ:=bB t) ho ht Uq hk.1 O5
    split at h
    ·rename_i dyn id off hx;exact ⟨_,z,h,fun c=>⟨c,g1 _ _ _ hx⟩⟩
    ·rename_i dyn y off hx;exact ⟨_,z,h,fun c=>⟨c,g2 _ _ _ hx⟩⟩
    ·cases h
   ·cases h
  ·cases h
 case h_17 ty x f ho=>
  split at h
  ·rename_i fields cs ht hx
   split at h
   ·rename_i fd Uq
    obtain ⟨z',d,h1,h2⟩:=kR h
    exact ⟨_,z',h1,fun c=>⟨(h2 c).1,CY ho ht Uq hx (h2 c).2⟩⟩
   ·cases h
  ·cases h
 case h_18 ty x ix ho=>
  unfold pM at h
  split at h
  ·rename_i k i hi
   split at h
   ·rename_i len elem dyn id off ht hx
    obtain ⟨hk,h⟩:=bg h
    obtain ⟨z',h1,h2⟩:=fu h
    exact ⟨_,z',h1,fun c=>⟨(h2 c).1,(mr (P:=P) (ρ:=bB t) ho hi ht hk (by simpa using (h2 c).2) _).1 _ _ _ hx⟩⟩
   ·rename_i len elem dyn y off ht hx
    obtain ⟨hk,h⟩:=bg h
    obtain ⟨z',h1,h2⟩:=fu h
    exact ⟨_,z',h1,fun c=>⟨(h2 c).1,(mr (P:=P) (ρ:=bB t) ho hi ht hk (by simpa using (h2 c).2) _).2 _ _ _ hx⟩⟩
   ·rename_i elem ow sz xs ht hx
    obtain ⟨hk,h⟩:=bg h
    rw [Vi,VJ] at hk
    obtain ⟨z',h1,h2⟩:=fu h
    obtain ⟨z2,y,h3,h4⟩:=po h1
    exact ⟨_,z2,h3,fun c=>⟨(h2 (h4 c).1).1,m4 ho hi ht hk.1 hk.2 (by simpa using (h2 (h4 c).1).2) hx (h4 c).2⟩⟩
   ·rename_i elem id sz n ht hx
    obtain ⟨hk,h⟩:=bg h
    rw [Vi,VJ] at hk
    obtain ⟨z',h1,h2⟩:=cN h
    exact ⟨_,z',h1,fun c=>⟨(h2 c).1,mZ ho hi ht hk.1 hk.2 (by simpa using (h2 c).2) hx⟩⟩
   ·rename_i elem id off sz n cp ht hx
    obtain ⟨hk,h⟩:=bg h
    rw [Vi,VJ] at hk
    obtain ⟨z',h1,h2⟩:=cN h
    exact ⟨_,z',h1,fun c=>⟨(h2 c).1,mY ho hi ht hk.1 hk.2 (by simpa using (h2 c).2) hx⟩⟩
   ·cases h
  ·cases h
 case h_19 ty x ix ho=>
  unfold DS at h
  split at h
  ·rename_i k i hi
   split at h
   ·rename_i len elem cs ht hx
    obtain ⟨hk,h⟩:=bg h
    obtain ⟨z',h1,h2⟩:=fu h
    obtain ⟨z2,d,h3,h4⟩:=kR h1
    exact ⟨_,z2,h3,fun c=>⟨(h2 (h4 c).1).1,sP ho hi ht hk (by simpa using (h2 (h4 c).1).2) hx (h4 c).2⟩⟩
   ·rename_i s' ht hx
    obtain ⟨z',h1,h2⟩:=fu h
    obtain ⟨z2,d,h3,h4⟩:=po h1
    exact ⟨_,z2,h3,fun c=>⟨(h2 (h4 c).1).1,sO ho hi ht (by simpa using (h2 (h4 c).1).2) hx (h4 c).2⟩⟩
   ·cases h
  ·cases h
 case h_20 x i ho=>
  split at h
  ·rename_i ds hx
   split at h
   ·rename_i d hd;exact ⟨_,z,h,fun c=>⟨c,xC ho hx hd⟩⟩
   ·cases h
  ·cases h
 case h_21 c ho=>
  have Q1:∀ {x:Operand},x∈c.args.toList→x∈o.op.operands:=by
   intro x hx
   simp only [ho,Vx,WM]
   exact Array.mem_append.2 (.inr (by simpa using hx))
  split at h
  ·rename_i hc
   split at h
   ·rename_i x rest ty ts OV SG
    obtain ⟨d,h1,h2⟩:=DK (P:=P) h
    refine ⟨_,z,h1,fun cc=>⟨cc,bF fun M w a _ hr=> ?_⟩⟩
    obtain ⟨v,q1,q2⟩:=h2 M w _ c.argTypes o.type (c.args.map a.eval) (hr x (Q1 (by rw [OV];simp))) (by rw [← VE,SG];rfl) (by
     have:c.args[0]? =some x:=by rw [← VE,OV];rfl
     simp [this])
    exact ⟨v,by rw [dA ho hc];simp only [builtin,VD,q1,Vv,VK],q2⟩
   ·cases h
  ·rename_i hc
   split at h
   ·rename_i x y rest OV
    exact wK ho hc OV h
   ·cases h
  ·rename_i hc
   split at h
   ·rename_i x y OV
    obtain ⟨d,h1,h2⟩:=DB (P:=P) h
    refine ⟨_,z,h1,fun cc=>⟨cc,bF fun M w a _ hr=> ?_⟩⟩
    obtain ⟨v,q1,q2⟩:=h2 M w _ _ c.argTypes o.type (c.args.map a.eval) (hr x (Q1 (by rw [OV];simp))) (hr y (Q1 (by rw [OV];simp))) (by rw [Array.toList_map,OV];rfl)
    exact ⟨v,by rw [dA ho hc];simp only [builtin,VD,q1,Vv,VK],q2⟩
   ·cases h
  ·rename_i hc
   split at h
   ·rename_i x y OV
    obtain ⟨d,h1,h2⟩:=DH (P:=P) h
    refine ⟨_,z,h1,fun cc=>⟨cc,bF fun M w a _ hr=> ?_⟩⟩
    obtain ⟨v,q1,q2⟩:=h2 M w _ _ c.argTypes o.type (c.args.map a.eval) (hr x (Q1 (by rw [OV];simp))) (hr y (Q1 (by rw [OV];simp))) (by rw [Array.toList_map,OV];rfl)
    exact ⟨v,by rw [dA ho hc];simp only [builtin,VD,q1,Vv,VK],q2⟩
   ·cases h
  ·rename_i hc
   split at h
   ·rename_i x y rest OV
    exact Cb ho hc OV h
   ·cases h
  ·rename_i f hc
   split at h
   ·rename_i g first cap hf
    unfold Af at h
    split at h
    ·rename_i rest _
     obtain ⟨d,s',z',h1,h2⟩:=Pd (.fn g) _ s _ _ r h
     obtain ⟨e,z2,h3,h4⟩:=D6 h1
     refine ⟨_,z2,h3,fun cc=> ?_⟩
     obtain ⟨c1,d2,s2,rfl,hk⟩:=h4 cc
     exact ⟨(h2 c1).1,C1 ho hc hf (hk _ _ _ (h2 c1).2)⟩
    ·rename_i g' ar s1 d Sd OY rest _
     have hh:=bg h
     clear h
     obtain ⟨hk,h⟩:=hh
     rw [VJ] at hk
     subst hk
     exact ⟨_,_,h,fun cc=>⟨cc.2,C1 ho hc hf (cc.1.1▸cc.1.2▸OY)⟩⟩
    ·rename_i g' as d RX rest _
     have hh:=bg h
     clear h
     obtain ⟨hk,h⟩:=hh
     rw [VJ] at hk
     subst hk
     obtain ⟨Th,h1,h2⟩:=nP h
     refine ⟨_,_,h1,fun cc=>⟨cc.2,?_⟩⟩
     exact Hn ho hc hf RX (fun M vs hv=>by rw [cc.1];exact h2 M vs hv)
    ·cases h
   ·rename_i id hf
    unfold It at h
    split at h
    ·rename_i rest _
     obtain ⟨d,s',z',h1,h2⟩:=Pd (.yl id) _ s _ _ r h
     exact ⟨_,z',h1,fun cc=>⟨(h2 cc).1,Hm ho hc hf (h2 cc).2⟩⟩
    ·cases h
   ·cases h
  ·cases h
 case h_22 ty rv ho=>
  split at h
  ·exact pD ho (fun x hx=>by cases hx) h
  ·rename_i x
   unfold idx at h
   split at h
   ·rename_i q n hx
    exact pD ho (fun y hy=>by obtain rfl:=Vk hy;exact ⟨q,n,hx⟩) h
   ·cases h
 case h_23 ty m k v ho=>exact pC (.inl ho) h
 case h_24 ty m k v ho=>exact pC (.inr ho) h
 case h_25 ty m k ok ho=>
  unfold vI at h
  split at h
  ·rename_i id q n hm hk
   split at h
   ·rename_i q' es q2 et hs QC
    split at h
    ·rename_i zd hz
     have hh:=bg h
     clear h
     obtain ⟨P1,h⟩:=hh
     rw [Vi] at P1
     have e1:=eJ P1.1
     have e2:=eJ P1.2
     subst e1 e2
     have O8:=cK (s:=s) (i:=id) (by rw [hs];intro e;cases e)
     obtain ⟨z',rr,h1,h2⟩:=re h
     have PI:=fun c=>xz (P:=P) (ρ:=bB t) ho QC hz hm hk (h2 c).2
     cases rr<;>cases ok<;>exact ⟨_,z',h1,fun c=>⟨(h2 c).1,⟨hs,O8⟩,PI c⟩⟩
    ·cases h
   ·cases h
  ·rename_i id cs hm hk
   split at h
   ·rename_i ks es kt et hs QC
    split at h
    ·rename_i zd hz
     obtain ⟨z1,Q7,h0,RG,hK⟩:=kT h
     obtain ⟨P1,h3⟩:=bg h0
     simp only [Vi] at P1
     have e1:=kI P1.1
     subst e1
     have O8:=cK (s:=s) (i:=id) (by rw [hs];intro e;cases e)
     obtain ⟨z',rr,h1,h2⟩:=pA h3
     have PI:=fun c=>vq (P:=P) (ρ:=bB t) ho QC hK hz hm hk P1.2 (h2 c).2
     cases rr<;>cases ok<;>exact ⟨_,z',h1,fun c=>⟨RG (h2 c).1,⟨hs,O8⟩,PI c⟩⟩
    ·cases h
   ·cases h
  ·cases h
 case h_26 ty m k ho=>exact xP ho h
 case h_27 ty m n v ho=>exact tB ho h
 case h_28 ty l c ho=>
  unfold GS at h
  split at h
  ·rename_i e q n q' m ht hl hc
   split at h
   ·rename_i zd hz
    split at h
    ·rename_i zc RK
     split at h
     ·obtain ⟨hk,h⟩:=bg h
      simp only [Vi,VJ,Wg,Wp] at hk
      obtain ⟨⟨⟨⟨k1,k2⟩,k3⟩,k4⟩,k5⟩:=hk
      obtain ⟨z',h1,h2⟩:=cN h
      refine ⟨_,z',h1,fun c=>⟨(h2 c).1,?_⟩⟩
      have hb:=(h2 c).2
      rw [decide_eq_true_eq] at hb
      obtain ⟨b0,rfl,b1⟩:=hb
      exact CX ho ht k1 hz RK k2 k3 k4 hl hc b0 b1 (List.all_eq_true.mp k5)
     ·obtain ⟨hk,h⟩:=bg h
      simp only [Vi,VJ,Wg,Wp] at hk
      obtain ⟨⟨⟨k1,k2⟩,k3⟩,k4⟩:=hk
      obtain ⟨z',h1,h2⟩:=cN h
      refine ⟨_,z',h1,fun c=>⟨(h2 c).1,?_⟩⟩
      have hb:=(h2 c).2
      rw [decide_eq_true_eq] at hb
      obtain ⟨b0,rfl,b1⟩:=hb
      exact FB ho ht k1 hz RK k2 k3 k4 hl hc b0 b1
    ·cases h
   ·cases h
  ·cases h
 case h_29=>cases h
end
end Go.Ev
