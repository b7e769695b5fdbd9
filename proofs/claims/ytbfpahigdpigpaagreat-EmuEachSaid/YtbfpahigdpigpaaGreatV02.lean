import Derived.Laws.Cells
import Derived.Laws.Entries
import Derived.ChangeKeysEq
import Derived.Laws.BytesString
import Derived.Laws.MakeOwn
import Derived.WideLaws
import Derived.MapKept
import Derived.Laws.AppendOwn
import Derived.RangeFuncRecord
import Derived.Test.YtbfpahigdpigpaaGreatV01
open List renaming replicate→Zx,getD_eq_getElem?_getD→ZF,range→ZL,getElem?_eq_none→ZN,length_append→ZR,getElem?_map→ZU,length_cons→ZZ,mem_of_getElem? →Z1,length_nil→Z5,all_eq_true→aab,getElem?_cons_zero→aat,getElem?_append→aax,length_set→aaz,getElem?_cons_succ→aaC,drop_zero→aaD,getElem?_set_ne→aaL,getElem?_drop→aaU
open Bool renaming and_eq_true→ZD,false_eq_true→aah
open Option.some renaming inj→ZE,injEq→ZK
open Go.Result renaming andThen_ok→ZO
open Nat renaming le_refl→ZP,lt_or_ge→ZY,beq_eq→Z3,zero_add→aan,ble_eq→aaF,le_trans→aaS
open Go.Op renaming operands→ZQ
open Option renaming map_eq_some_iff→ZS,getD_some→aay,map_some→aaT
open Go.Sem renaming run_bind→ZW,run_pure→Z4
open Array renaming getElem?_toList→Z0,getD_eq_getD_getElem? →Z7,getElem?_eq_none→aak,length_toList→aal,getElem?_setIfInBounds_ne→aar,mem_append→aaV
open Go.Instr renaming sliceBounds→aac,findKey→aaX
open Go.Builtin renaming firstCells→aau,append_→aav
open Go.Call renaming operands→aaO
open Go renaming IntKind→aaY
/- Contracts and plain laws that a statement's proof leans on (texts merged:EvK). -/
set_option linter.unusedVariables false
set_option linter.unusedSimpArgs false
namespace Go.Ev
open Go Go.RowKit
section
variable {P:Program} {w:World}
theorem Hy {t:TypeId} (h:known P t=true):∃i,P.info? t=some i:=by
 unfold known at h;exact Option.isSome_iff_exists.1 h
theorem dk {t:TypeId} (h:known P t=true) (w:World):(sizeOf t).run P w= .ok (P.cellsOf t) w:=by
 obtain ⟨i,hi⟩:=Hy h
 simp [sizeOf,typeInfo,hi,Program.cellsOf]
theorem lD {t:TypeId} {d:TypeDesc} (h:P.underlying t=some d):known P t=true:=by
 unfold known
 unfold Program.underlying at h
 cases e:P.info? t with
 |none=>simp [e] at h
 |some i=>rfl
theorem nr {t:TypeId} {d:TypeDesc} (h:P.underlying t=some d) (w:World):(isAgg t).run P w= .ok (dR d) w:=by
 cases d<;>simp [isAgg,run_underlying h,dR]
theorem fJ {t:TypeId} {i:TypeInfo} {v:Value} (hi:P.info? t=some i) (hz:i.zero=some v) (w:World):(zeroValue t).run P w= .ok v w:=by
 simp [zeroValue,typeInfo,hi,hz]
theorem gX (b off n:Nat):(Addr.mk b off none).add n=⟨b,off+n,none⟩:=by
 unfold Addr.add
 split
 ·rename_i h;subst h;simp
 ·rfl
theorem kn (b off:Nat) (vs:Array Value) (h:∀j v,vs[j]? =some v→w.cell? ⟨b,off+j,none⟩=some v):
  (loadCells ⟨b,off,none⟩ vs.size).run P w= .ok vs w:=by
 have:=run_loadCells_list (P:=P) (w:=w) ⟨b,off,none⟩ vs.toList (fun j v hj=>by rw [gX];exact h j v (by simpa using hj))
 simpa using this
def eG (vs:Array Value) (off:Nat):List Value→Array Value
  | []=>vs
  |x::r=>eG (vs.setIfInBounds off x) (off+1) r
theorem e9 (l:List Value):∀(vs:Array Value) (off:Nat),(eG vs off l).size=vs.size:=by
 induction l with
 |nil=>intro vs off;rfl
 |cons x r ih=>intro vs off;simp [eG,ih]
theorem jk (l:List Value):∀(vs:Array Value) (off k:Nat),off+l.length≤vs.size→
  (eG vs off l)[k]? =if off≤k∧k<off+l.length then l[k - off]? else vs[k]? :=by
 induction l with
 |nil=>intro vs off k _;rw [eG,if_neg (by intro h;have h1:=h.1;have h2:k<off+0:=h.2;omega)]
 |cons x r ih=>
  intro vs off k h
  simp only [ZZ] at h
  rw [eG,ih _ _ _ (by simp;omega)]
  by_cases h1:off+1≤k∧k<off+1+r.length
  ·rw [if_pos h1,if_pos ⟨by omega,by simp;omega⟩]
   rw [show k - off=(k - (off+1))+1 by omega,aaC]
  ·rw [if_neg h1]
   by_cases h2:k=off
   ·subst h2
    rw [if_pos ⟨by omega,by simp⟩]
    simp [show k<vs.size by omega]
   ·rw [if_neg (by simp;omega),aar (Ne.symm h2)]
theorem sB {w:World} {b:Nat} {o p:Obj} :cR (cR w b o) b p=cR w b p:=by
 unfold cR
 simp
theorem ud {w:World} {b o:Nat} {v:Value} {vs:Array Value} {ty:TypeId} {fz:Nat×Nat} (h:w.heap[b]? =some (.cells vs ty fz)):
  w.setCell ⟨b,o,none⟩ v=cR w b (.cells (vs.setIfInBounds o v) ty fz):=by
 have hb:=fx h
 have he:w.heap[b]= .cells vs ty fz:=by simpa [Array.getElem?_eq_getElem hb] using h
 unfold World.setCell cR
 congr 1
 apply Array.ext_getElem?
 intro k
 rw [Array.getElem?_modify]
 by_cases e:b=k
 ·subst e
  rw [if_pos rfl,h]
  simp [hb]
 ·rw [if_neg e,aar e]
theorem iU {b off:Nat} {ty:TypeId} {fz:Nat×Nat} (l:List Value):∀(i:Nat) (w:World) (vs:Array Value),w.heap[b]? =some (.cells vs ty fz)→(∀v∈l,v.oneCell'=true)→
  off+i+l.length≤vs.size→mJ fz vs.size→(storeCells ⟨b,off,none⟩ l i).run P w= .ok () (cR w b (.cells (eG vs (off+i) l) ty fz)):=by
 induction l with
 |nil=>
  intro i w vs h _ _ _
  simp only [storeCells,Z4,eG]
  have hb:=fx h
  have he:w.heap.setIfInBounds b (.cells vs ty fz)=w.heap:=by
   apply Array.ext_getElem?
   intro k
   by_cases e:b=k
   ·subst e;rw [h];simp [hb]
   ·rw [aar e]
  unfold cR
  rw [he]
 |cons x r ih=>
  intro i w vs h Ui hlen Xa
  simp only [ZZ] at hlen
  have Tq:off+i<vs.size:=by omega
  have UO:w.cell? ⟨b,off+i,none⟩=some vs[off+i]:=by simp [World.cell?,h,Tq]
  have UA:w.frozen? ⟨b,off+i,none⟩=false:=by
   have:=Xa _ Tq
   simp only [World.frozen?,h]
   simpa using this
  simp only [storeCells,ZW,gX]
  rw [run_store _ _ _ _ _ (Ui x (by simp)),UO]
  simp only [UA,aah,if_false,ZO]
  rw [ud h]
  rw [ih (i+1) _ (vs.setIfInBounds (off+i) x) (hH h) (fun v hv=>Ui v (by simp [hv])) (by simp;omega) (by simpa using Xa)]
  rw [sB]
  simp [eG,Nat.add_assoc]
theorem oU {t:TypeId} {d:TypeDesc} (h:P.underlying t=some d) (ha:dR d=false) {cs:Array Value} {off:Nat} {v:Value} (hv:cs[off]? =some v) (w:World):(part t cs off).run P w= .ok v w:=by
 simp [part,nr h,ha,hv]
theorem oV {t:TypeId} {d:TypeDesc} (h:P.underlying t=some d) (ha:dR d=true) (cs:Array Value) (off:Nat) (w:World):(part t cs off).run P w= .ok (.agg (cs.extract off (off+P.cellsOf t))) w:=by
 simp [part,nr h,ha,dk (lD h)]
theorem qL {t:TypeId} {d:TypeDesc} (h:P.underlying t=some d) (ha:dR d=false) {a:Addr} {v:Value} (hv:w.cell? a=some v):(loadVar t a).run P w= .ok v w:=by
 simp [loadVar,nr h,ha,hv]
theorem qM {t:TypeId} {d:TypeDesc} (h:P.underlying t=some d) (ha:dR d=true) {b off:Nat} (vs:Array Value) (hs:vs.size=P.cellsOf t)
  (hv:∀j v,vs[j]? =some v→w.cell? ⟨b,off+j,none⟩=some v):(loadVar t ⟨b,off,none⟩).run P w= .ok (.agg vs) w:=by
 simp [loadVar,nr h,ha,dk (lD h),← hs,kn b off vs hv]
end
theorem cA.get {M:MM} {cs:List D} {vs:Array Value} (h:cA M cs vs) {i:Nat} {d:D} (hd:cs[i]? =some d):∃v,vs[i]? =some v∧cj M d v:=by
 have hi:i<vs.size:=by
  rw [← h.1]
  rcases ZY i cs.length with x|x
  ·exact x
  ·simp [ZN x] at hd
 exact ⟨vs[i],by simp [hi],h.2 i d vs[i] hd (by simp [hi])⟩
theorem cA.sub {M:MM} {cs:List D} {vs:Array Value} (h:cA M cs vs) (off n:Nat) (hn:off+n≤cs.length):cA M ((cs.drop off).take n) (vs.extract off (off+n)):=by
 have hs:=h.1
 refine ⟨by simp;omega,fun i d v a b=> ?_⟩
 rw [List.getElem?_take] at a
 split at a
 ·rename_i hi
  rw [aaU] at a
  rw [Array.getElem?_extract] at b
  split at b
  ·exact h.2 _ d v a b
  ·cases b
 ·cases a
theorem qZ {M:MM} {v:Value} {d:D} (h:uH v=some d):cj M d v:=by
 unfold uH at h
 split at h<;>simp only [ZK,reduceCtorEq] at h<;>subst h
 ·exact .bool _
 ·exact .int _ _
 ·exact .str _
 ·exact .gA
 ·exact .bc 0 0 (fun _ _=> .nilFunc) rfl (ZP _) (fun h=>absurd rfl h) (fun i x h=>by simp at h) (fun i x cs j c h=>by simp at h) (fun i x cs j c h=>by simp at h) (fun i x cs c h=>by simp at h) rfl
 ·exact .cg
theorem ss {M:MM} :∀ {vs:List Value} {l:List D},jU vs=some l→l.length=vs.length∧∀(i:Nat) (d:D) (v:Value),l[i]? =some d→vs[i]? =some v→cj M d v
 | [],l,h=>by
  simp only [jU,ZK] at h;subst h;exact ⟨rfl,fun i d v a=>by simp at a⟩
 |v::r,l,h=>by
  unfold jU at h
  split at h
  ·rename_i d l' hd hl
   simp only [ZK] at h
   subst h
   obtain ⟨h1,h2⟩:=ss (M:=M) hl
   refine ⟨by simp [h1],fun i d' v' a b=> ?_⟩
   cases i with
   |zero=>simp at a b;subst a b;exact qZ hd
   |succ i=>exact h2 i d' v' (by simpa using a) (by simpa using b)
  ·cases h
theorem ED {M:MM} :∀(vs:List Value),(yI vs).length=vs.length∧∀(i:Nat) (d:D) (v:Value),(yI vs)[i]? =some d→vs[i]? =some v→cj M d v
 | []=>⟨rfl,fun i d v a=>by simp [yI] at a⟩
 |v::r=>by
  obtain ⟨h1,h2⟩:=ED (M:=M) r
  refine ⟨by simp [yI,h1],fun i d' v' a b=> ?_⟩
  cases i with
  |zero=>
   simp only [yI,aat,ZK] at a b
   subst a b
   split
   ·rename_i d hd;exact qZ hd
   ·exact .undef _
  |succ i=>exact h2 i d' v' (by simpa [yI] using a) (by simpa using b)
theorem kp {M:MM} (v:Value):cj M (hP v) v:=by
 unfold hP
 split
 ·rename_i cs
  obtain ⟨h1,h2⟩:=ED (M:=M) cs.toList
  exact .agg (by simpa using h1) (fun i d v a b=>h2 i d v a (by simpa using b))
 ·split
  ·rename_i d hd;exact qZ hd
  ·exact .undef _
theorem oY {M:MM} {t:List D} {a:Act} (h:cA M t a.tmps) (x:Operand):cj M (cP t x) (a.eval x):=by
 cases x with
 |tmp i=>
  show cj M (t.getD i .undef) (a.tmps.getD i undef)
  cases e:t[i]? with
  |none=>rw [ZF,e];exact .undef _
  |some d=>
   obtain ⟨v,hv,hr⟩:=h.get e
   rw [ZF,e,Z7,hv]
   exact hr
 |const v=>exact kp v
 |global g=>exact .undef _
 |func f=>exact .fn (M:=M) (first:= []) (cap:= []) rfl rfl (fun i d v a=>by simp at a) (fun i d v a=>by simp at a)
theorem oO {M:MM} {d:D} {v:Value} (h:cj M d v) (hs:storable d=true):v.oneCell'=true:=by
 cases h<;>first|rfl|(simp [storable] at hs)
theorem sd {cs xs:List D} {off k:Nat} (h:off+xs.length≤cs.length):(jx cs off xs)[k]? =if off≤k∧k<off+xs.length then xs[k - off]? else cs[k]? :=by
 unfold jx
 rw [aax]
 simp only [List.length_take,show min off cs.length=off by omega]
 by_cases h1:k<off
 ·rw [if_pos h1,if_neg (by omega),List.getElem?_take,if_pos h1]
 ·rw [if_neg h1,aax]
  by_cases h2:k - off<xs.length
  ·rw [if_pos h2,if_pos ⟨by omega,by omega⟩]
  ·rw [if_neg h2,if_neg (by omega),aaU]
   congr 1
   omega
theorem sb {cs xs:List D} {off:Nat} (h:off+xs.length≤cs.length):(jx cs off xs).length=cs.length:=by
 unfold jx
 simp
 omega
theorem zU {M:MM} {cs xs:List D} {vs ws:Array Value} {off:Nat} (h:cA M cs vs) (k:cA M xs ws) (hl:off+xs.length≤cs.length):cA M (jx cs off xs) (eG vs off ws.toList):=by
 refine ⟨by rw [sb hl,e9,h.1],fun i d v a b=> ?_⟩
 have hs:off+ws.toList.length≤vs.size:=by rw [← h.1,aal,← k.1];exact hl
 rw [sd hl] at a
 rw [jk _ _ _ _ hs] at b
 have:ws.toList.length=xs.length:=by rw [aal,← k.1]
 rw [this] at b
 split at a
 ·rename_i hc
  rw [if_pos hc] at b
  exact k.2 _ d v a (by simpa using b)
 ·rename_i hc
  rw [if_neg hc] at b
  exact h.2 _ d v a b
theorem nz {M:MM} {cs:List D} {vs:Array Value} (hl:cs.length≤vs.size) (h:∀(i:Nat) (d:D) (v:Value),cs[i]? =some d→vs[i]? =some v→cj M d v) {i:Nat} {d:D} (hd:cs[i]? =some d):∃v,vs[i]? =some v∧cj M d v:=by
 have hi:i<vs.size:=by
  rcases ZY i cs.length with x|x
  ·omega
  ·simp [ZN x] at hd
 exact ⟨vs[i],by simp [hi],h i d vs[i] hd (by simp [hi])⟩
theorem o6 {M:MM} {cs xs:List D} {vs ws:Array Value} {off:Nat} (h0:cs.length≤vs.size) (h:∀(i:Nat) (d:D) (v:Value),cs[i]? =some d→vs[i]? =some v→cj M d v) (k:cA M xs ws) (hl:off+xs.length≤cs.length):
  (jx cs off xs).length≤(eG vs off ws.toList).size∧∀(i:Nat) (d:D) (v:Value),(jx cs off xs)[i]? =some d→(eG vs off ws.toList)[i]? =some v→cj M d v:=by
 refine ⟨by rw [sb hl,e9];exact h0,fun i d v a b=> ?_⟩
 have hs:off+ws.toList.length≤vs.size:=by rw [aal,← k.1];omega
 rw [sd hl] at a
 rw [jk _ _ _ _ hs] at b
 have:ws.toList.length=xs.length:=by rw [aal,← k.1]
 rw [this] at b
 split at a
 ·rename_i hc
  rw [if_pos hc] at b
  exact k.2 _ d v a (by simpa using b)
 ·rename_i hc
  rw [if_neg hc] at b
  exact h _ d v a b
section
variable {ρ:Type} {P:Program} {r:ρ}
theorem b8 {b:Bool} {k:Option ρ} (h:jC b k=some r):b=true∧k=some r:=by
 cases b
 ·cases h
 ·exact ⟨rfl,h⟩
theorem fe {z:Z P} {b:Bool} {k:Z P→Option ρ} (h:ask z b k=some r):∃z',k z'=some r∧(z'.c→z.c∧b=true):=by
 unfold ask at h
 split at h
 ·rename_i q hq rest _
  exact ⟨_,h,fun c=>⟨c.2,c.1▸hq⟩⟩
 ·cases h
theorem HV {z:Z P} {ys:List D} {k:Z P→List D→Option ρ} (h:Li z ys k=some r):∃z' nc,k z' nc=some r∧(z'.c→z.c∧db ys=some nc):=by
 unfold Li at h
 split at h
 ·rename_i XT nc hq rest _
  exact ⟨_,nc,h,fun c=>⟨c.2,c.1▸hq⟩⟩
 ·split at h
  ·rename_i nc hq
   exact ⟨_,nc,h,fun c=>⟨c,hq⟩⟩
  ·cases h
theorem HU {z:Z P} {ys:List D} {k:Z P→List D→Option ρ} (h:Lh z ys k=some r):∃z' nc,k z' nc=some r∧(z'.c→z.c∧db ys=some nc∧ys≠ []):=by
 unfold Lh at h
 split at h
 ·rename_i XT nc hq rest _
  obtain ⟨z',h,hz⟩:=fe h
  refine ⟨z',nc,h,fun c=> ?_⟩
  obtain ⟨⟨e,c0⟩,hb⟩:=hz c
  refine ⟨c0,e▸hq,fun e0=> ?_⟩
  rw [e0] at hb
  cases hb
 ·split at h
  ·rename_i nc hq
   obtain ⟨hb,h⟩:=b8 h
   refine ⟨_,nc,h,fun c=>⟨c,hq,fun e0=> ?_⟩⟩
   rw [e0] at hb
   cases hb
  ·cases h
theorem iA {z:Z P} {st b:Bool} {k:Z P→Option ρ} (h:na z st b k=some r):∃z',k z'=some r∧(z'.c→z.c∧b=true):=by
 unfold na at h
 split at h
 ·obtain ⟨h1,h2⟩:=b8 h
  exact ⟨z,h2,fun c=>⟨c,h1⟩⟩
 ·exact fe h
theorem ou {z:Z P} {n m:Nat} {k:Z P→Option ρ} (h:tM z n m k=some r):∃z',k z'=some r∧(z'.c→z.c∧n≤m):=by
 unfold tM at h
 split at h
 ·rename_i n' m' hn rest _
  exact ⟨_,h,fun c=>⟨c.2,c.1.1▸c.1.2▸hn⟩⟩
 ·cases h
theorem oq {z:Z P} {b:Bool} {k1 k2:Z P→Option ρ} (h:branch z b k1 k2=some r):
  ∃z',(k1 z'=some r∧(z'.c→z.c∧b=true))∨(k2 z'=some r∧(z'.c→z.c∧b=false)):=by
 unfold branch at h
 split at h
 ·rename_i q v hq rest _
  cases v
  ·exact ⟨_,.inr ⟨h,fun c=>⟨c.2,c.1▸hq⟩⟩⟩
  ·exact ⟨_,.inl ⟨h,fun c=>⟨c.2,c.1▸hq⟩⟩⟩
 ·cases h
theorem sE {z:Z P} {l:List D} {i:Nat} {k:Z P→D→Option ρ} (h:pick z l i k=some r):∃z' d,k z' d=some r∧(z'.c→z.c∧l[i]? =some d):=by
 unfold pick at h
 split at h
 ·rename_i l' i' d hg rest _
  exact ⟨_,d,h,fun c=>⟨c.2,c.1.1▸c.1.2▸hg⟩⟩
 ·split at h
  ·rename_i d hg
   exact ⟨_,d,h,fun c=>⟨c,hg⟩⟩
  ·cases h
theorem Hd {z:Z P} {es:List (Int×D)} {n:Int} {k:Z P→Option D→Option ρ} (h:KN z es n k=some r):∃z' d,k z' d=some r∧(z'.c→z.c∧pv es n=d):=by
 unfold KN at h
 split at h
 ·rename_i Yk n' d hg rest _
  exact ⟨_,d,h,fun c=>⟨c.2,c.1.1▸c.1.2▸hg⟩⟩
 ·cases h
def nj (P:Program) (t:TypeId) (cs:List D) (off:Nat) (d:D):Prop:=
  ∃e,P.underlying t=some e∧((dR e=true∧off+P.cellsOf t≤cs.length∧d= .agg ((cs.drop off).take (P.cellsOf t)))∨(dR e=false∧cs[off]? =some d))
theorem nC {z:Z P} {dyn:Bool} {t:TypeId} {cs:List D} {off:Nat} {k:Z P→D→Option ρ} (h:uN P z dyn t cs off k=some r):
  ∃z' d,k z' d=some r∧(z'.c→z.c∧nj P t cs off d):=by
 unfold uN at h
 split at h
 ·cases h
 ·rename_i e he
  split at h
  ·rename_i ha
   obtain ⟨hk,h⟩:=b8 h
   split at h
   ·obtain ⟨h1,h2⟩:=b8 h
    exact ⟨z,_,h2,fun c=>⟨c,e,he,.inl ⟨ha,by simpa using h1,rfl⟩⟩⟩
   ·split at h
    ·rename_i l i n l' hg rest _
     refine ⟨_,_,h,fun c=>⟨c.2,e,he,.inl ⟨ha,?_,?_⟩⟩⟩
     ·rw [← c.1.1,← c.1.2.1,← c.1.2.2];exact hg.2
     ·rw [← c.1.1,← c.1.2.1,← c.1.2.2,hg.1]
    ·cases h
  ·rename_i ha
   split at h
   ·split at h
    ·rename_i d hd
     exact ⟨z,d,h,fun c=>⟨c,e,he,.inr ⟨ha,hd⟩⟩⟩
    ·cases h
   ·obtain ⟨z',d,h1,h2⟩:=sE h
    exact ⟨z',d,h1,fun c=>⟨(h2 c).1,e,he,.inr ⟨ha,(h2 c).2⟩⟩⟩
theorem qq {M:MM} {t:TypeId} {cs:List D} {off:Nat} {d:D} (hp:nj P t cs off d) {vs:Array Value} (h:cA M cs vs):∃v,cj M d v∧∀w:World,(part t vs off).run P w= .ok v w:=by
 obtain ⟨e,he,⟨ha,hl,rfl⟩|⟨ha,hd⟩⟩:=hp
 ·have XI:=h.sub off (P.cellsOf t) hl
  exact ⟨_,.agg XI.1 XI.2,fun w=>oV he ha vs off w⟩
 ·obtain ⟨v,hv,hr⟩:=h.get hd
  exact ⟨v,hr,fun w=>oU he ha hv w⟩
theorem km {M:MM} {t:TypeId} {cs:List D} {off b base:Nat} {d:D} (hp:nj P t cs off d) {w:World} (vs:Nat→Value)
  (hc:∀j c,cs[j]? =some c→w.cell? ⟨b,base+j,none⟩=some (vs j)∧cj M c (vs j)):∃v,(loadVar t ⟨b,base+off,none⟩).run P w= .ok v w∧cj M d v:=by
 obtain ⟨e,he,⟨ha,hl,rfl⟩|⟨ha,hd⟩⟩:=hp
 ·let ws:Array Value:=((ZL (P.cellsOf t)).map fun j=>vs (off+j)).toArray
  have Zh:∀j v,ws[j]? =some v→j<P.cellsOf t∧v=vs (off+j):=by
   intro j v hj
   simp only [ws,List.getElem?_toArray,ZU,ZS] at hj
   obtain ⟨x,hx,rfl⟩:=hj
   have Tq:j<P.cellsOf t:=by
    rcases ZY j (P.cellsOf t) with h|h
    ·exact h
    ·rw [ZN (by simpa using h)] at hx;cases hx
   rw [List.getElem?_range Tq] at hx
   cases hx
   exact ⟨Tq,rfl⟩
  have Tv:∀j,j<P.cellsOf t→∃c,cs[off+j]? =some c:=fun j hj=>⟨cs[off+j]'(by omega),by simp [show off+j<cs.length by omega]⟩
  refine ⟨.agg ws,qM he ha ws (by simp [ws]) ?_,.agg ?_ ?_⟩
  ·intro j v hj
   obtain ⟨h1,rfl⟩:=Zh j v hj
   obtain ⟨c,T3⟩:=Tv j h1
   rw [Nat.add_assoc]
   exact (hc _ c T3).1
  ·simp [ws];omega
  ·intro i c v a b
   obtain ⟨h1,rfl⟩:=Zh i v b
   rw [List.getElem?_take,if_pos h1,aaU] at a
   exact (hc _ c a).2
 ·obtain ⟨h1,h2⟩:=hc off d hd
  exact ⟨vs off,qL he ha h1,h2⟩
end
def Md (P:Program) (o:Oper) (a:Act) (w:World) (next:Act→World→Prop) (Q:Exit→Act→World→Prop):Prop:= ∀r:Option Nat,o.wpIn (FW r) 0 P a w next Q
theorem F9 {P:Program} {o:Oper} {ρ:Operand→Value} {c:Call} (ho:o.op= .defer c) {w w':World} {x:Next} (h:(execOp ρ o).run P w= .ok x w'):∃d,x= .defer d:=by
 unfold execOp at h
 rw [ho] at h
 simp only [ZW] at h
 cases hr:(resolve ρ c o.type).run P w with
 |ok d w1=>rw [hr] at h;simp only [ZO,Z4,Result.ok.injEq] at h;exact ⟨d,h.1.symm⟩
 |halt a b=>rw [hr] at h;cases h
theorem np {P:Program} {o:Oper} {ρ:Operand→Value} {w w':World} {x:Next} (h:(execOp ρ o).run P w= .ok x w') (hx:∀d,x≠ .defer d) (r:Option Nat):(o.semAt r ρ).run P w= .ok x w':=by
 by_cases hd:∃c,o.op= .defer c
 ·obtain ⟨c,hc⟩:=hd
  obtain ⟨d,hd⟩:=F9 hc h
  exact absurd hd (hx d)
 ·rw [Oper.semAt_eq r ρ o (fun c hc=>hd ⟨c,hc⟩)]
  exact h
def jT.pre (e:jT) (M:MM) (σ:Nat→Ob) (id:Nat):Prop:=match e with
  | .pure _=>True
  | .read i o _=>σ i=o
  | .ji i j d=>hY (σ i) j=some d
  | .gQ i o _ _=>σ i=o
  | .new _ _=>M.box id=none∧∀v,M.b9 id v=none
  | .all _ _=>False
def jT.post (e:jT) (σ:Nat→Ob) (id:Nat):Nat→Ob:=match e with
  | .gQ i _ o' _=>Ev.gQ σ i o'
  | .new o _=>Ev.gQ σ id o
  |_=>σ
def jT.val (e:jT) (id:Nat):D:=match e with
  | .pure d=>d
  | .read _ _ d=>d
  | .ji _ _ d=>d
  | .gQ _ _ _ d=>d
  | .new _ mk=>mk id
  | .all _ d=>d
def jT.R0 (e:jT) (M M':MM) (id:Nat):Prop:=match e with
  | .gQ i _ _ _=>M'.box=M.box∧∀j,j≠i→M'.b9 j=M.b9 j
  | .new _ _=>(∀j,j≠id→M'.box j=M.box j)∧∀j,j≠id→M'.b9 j=M.b9 j
  |_=>M'.box=M.box∧M'.b9=M.b9
def gH (P:Program) (o:Oper) (ρ:Operand→D) (e:jT):Prop:=
  ∀(w0:eW) (M:MM) (own:Nat→Option Nat) (σ:Nat→Ob) (w:World) (a:Act) (id:Nat),cn w0 M own σ w→(∀x∈o.op.operands,cj M (ρ x) (a.eval x))→e.pre M σ id→
    ∀(next:Act→World→Prop) (Q:Exit→Act→World→Prop),
      (∀v M' Tj w',M.Le M'→e.R0 M M' id→cn w0 M' Tj (e.post σ id) w'→cj M' (e.val id) v→next (a.put o.dst v) w')→Md P o a w next Q
section
variable {P:Program} {o:Oper} {ρ:Operand→D}
theorem gz {a:Act} {w w':World} {v:Value} {next:Act→World→Prop} {Q:Exit→Act→World→Prop} (h:(execOp a.eval o).run P w= .ok (.value v) w') (k:next (a.put o.dst v) w'):Md P o a w next Q:=by
 intro r
 refine ⟨fun _ _=>trivial,?_⟩
 rw [show (FW r).round=r from rfl,np h (fun d e=>by cases e) r]
 exact k
theorem rK {a:Act} {w w':World} {next:Act→World→Prop} {Q:Exit→Act→World→Prop} (h:(execOp a.eval o).run P w= .ok .skip w') (k:next (a.put o.dst undef) w'):Md P o a w next Q:=by
 intro r
 refine ⟨fun _ _=>trivial,?_⟩
 rw [show (FW r).round=r from rfl,np h (fun d e=>by cases e) r]
 exact k
theorem cC {d:D} (h:∀(M:MM) (w:World) (a:Act),(∀b o v,M.cell b o=some v→w.cell? ⟨b,o,none⟩=some v)→(∀x∈o.op.operands,cj M (ρ x) (a.eval x))→
  ∃v,(execOp a.eval o).run P w= .ok (.value v) w∧cj M d v):gH P o ρ (.pure d):=by
 intro w0 M own σ w a id hw hr _ next Q hn
 obtain ⟨v,h1,h2⟩:=h M w a hw.cells hr
 exact gz h1 (hn v M own w (.refl M) ⟨rfl,rfl⟩ hw h2)
theorem Au {d:D} (h:∀(M:MM) (w:World) (a:Act),(∀b o v,M.cell b o=some v→w.cell? ⟨b,o,none⟩=some v)→(∀x∈o.op.operands,cj M (ρ x) (a.eval x))→
  ∃v M' w',(execOp a.eval o).run P w= .ok (.value v) w'∧Ext M w M' w'∧M'.box=M.box∧M'.b9=M.b9∧M'.fW=M.fW∧cj M' d v):gH P o ρ (.pure d):=by
 intro w0 M own σ w a id hw hr _ next Q hn
 obtain ⟨v,M',w',h1,h2,h3,h4,hm,h5⟩:=h M w a hw.cells hr
 obtain ⟨k1,k2⟩:=hw.ext h2 h3 h4 hm
 exact gz h1 (hn v M' own w' k2 ⟨h3,h4⟩ k1 h5)
theorem qw {ty:TypeId} {x:Operand} {dyn:Bool} {id off:Nat} {cs:List D} {d:D} (ho:o.op= .load ty x) (hx:ρ x= .ptr dyn id off) (hp:nj P ty cs off d):gH P o ρ (.read id (.box cs) d):=by
 intro w0 M own σ w a i hw hr TB next Q hn
 obtain ⟨b,vs,t,k⟩:=hw.box id cs TB
 have Vj:=hr x (by simp [ho,ZQ])
 rw [hx] at Vj
 generalize hv:a.eval x=v at Vj
 cases Vj with
 |ptr _ hb=>
  rename_i b'
  rw [k.box] at hb
  obtain rfl:=ZE hb
  have UO:∀j c,cs[j]? =some c→w.cell? ⟨b,0+j,none⟩=some (vs.getD j .nilFunc)∧cj M c (vs.getD j .nilFunc):=by
   intro j c hj
   obtain ⟨u,hu,hru⟩:=nz k.len k.rep hj
   rw [Z7,hu]
   refine ⟨?_,hru⟩
   simp [World.cell?,k.dQ,hu]
  obtain ⟨v,h1,h2⟩:=km hp (fun j=>vs.getD j .nilFunc) UO
  rw [aan] at h1
  refine gz (v:=v) (w':=w) ?_ (hn v M own w (.refl M) ⟨rfl,rfl⟩ hw h2)
  simp [execOp,ho,Instr.loadAt,Instr.sureAddr,hv,h1]
theorem xE {ty:TypeId} {x:Operand} {dyn:Bool} {id off:Nat} {d:D} {e:TypeDesc} (ho:o.op= .load ty x) (hx:ρ x= .ptr dyn id off) (hu:P.underlying ty=some e) (ha:dR e=false):gH P o ρ (.ji id off d):=by
 intro w0 M own σ w a i hw hr TB next Q hn
 have TB:hY (σ id) off=some d:=TB
 cases hs:σ id with
 |box cs=>
  rw [hs] at TB
  exact qw (cs:=cs) (d:=d) ho hx ⟨e,hu,.inr ⟨ha,TB⟩⟩ w0 M own σ w a i hw hr hs next Q hn
 |_=>rw [hs] at TB;cases TB
theorem xA {ty:TypeId} {x:Operand} {dyn:Bool} {y:D} {off:Nat} {cs:List D} {d:D} (ho:o.op= .load ty x) (hx:ρ x= .eY dyn y off) (hy:y.cells=some cs) (hp:nj P ty cs off d):gH P o ρ (.pure d):=by
 refine cC fun M w a hc hr=> ?_
 have Vj:=hr x (by simp [ho,ZQ])
 rw [hx] at Vj
 generalize hv:a.eval x=v at Vj
 cases Vj with
 |eY _ vs hx' VA V2=>
  rw [hy] at hx'
  obtain rfl:=ZE hx'
  obtain ⟨v,h1,h2⟩:=km (M:=M) (w:=w) hp vs (fun j c hj=>⟨hc _ _ _ (VA j c hj),(V2 j c hj).mono (MM.mj M)⟩)
  exact ⟨v,by simp [execOp,ho,Instr.loadAt,Instr.sureAddr,hv,h1],h2⟩
theorem EX {x:Operand} (ho:o.op= .move x∨o.op= .assign x):gH P o ρ (.pure (ρ x)):=
 cC fun M w a _ hr=>⟨a.eval x,by rcases ho with h|h<;>simp [execOp,h],hr x (by rcases ho with h|h<;>simp [h,ZQ])⟩
theorem EW {c x y:Operand} {q:Bool} (ho:o.op= .pick c x y) (hc:ρ c= .bool q):gH P o ρ (.pure (if q then ρ x else ρ y)):=by
 refine cC fun M w a _ hr=> ?_
 have h1:=hr c (by simp [ho,ZQ])
 rw [hc] at h1
 generalize hv:a.eval c=v at h1
 cases h1
 have h2:=hr x (by simp [ho,ZQ])
 have h3:=hr y (by simp [ho,ZQ])
 refine ⟨if q then a.eval x else a.eval y,?_,by cases q<;>simpa⟩
 cases q<;>simp [execOp,ho,asBool,hv]
theorem mY {x:Operand} (ho:o.op= .nilCheck x) (hx:(∃q i f,ρ x= .ptr q i f)∨(∃q y f,ρ x= .eY q y f)∨∃g l r,ρ x= .fn (.func g) l r):gH P o ρ (.pure (ρ x)):=by
 refine cC fun M w a _ hr=> ?_
 have h1:=hr x (by simp [ho,ZQ])
 refine ⟨a.eval x,?_,h1⟩
 generalize hv:a.eval x=v at h1
 rcases hx with ⟨q,i,f,e⟩|⟨q,y,f,e⟩|⟨g,l,r,e⟩<;>rw [e] at h1<;>cases h1<;>simp [execOp,ho,hv]
theorem CC {x:Operand} {i:Nat} {ds:List D} {d:D} (ho:o.op= .extract x i) (hx:ρ x= .aL ds) (hd:ds[i]? =some d):gH P o ρ (.pure d):=by
 refine cC fun M w a _ hr=> ?_
 have h1:=hr x (by simp [ho,ZQ])
 rw [hx] at h1
 generalize hv:a.eval x=v at h1
 cases h1 with
 |aL hl Tn=>
  obtain ⟨u,hu,hru⟩:=cA.get ⟨hl,Tn⟩ hd
  exact ⟨u,by simp [execOp,ho,Instr.extract,hv,hu],hru⟩
theorem Ax {f:Fn} {first cap:Array Operand} (ho:o.op= .makeFunc f first cap):gH P o ρ (.pure (.fn f (first.toList.map ρ) (cap.toList.map ρ))):=by
 refine cC fun M w a _ hr=> ?_
 refine ⟨.func f (first.map a.eval) (cap.map a.eval),by simp [execOp,ho,Instr.makeFunc],.fn (by simp) (by simp) ?_ ?_⟩
 ·intro i d v h1 h2
  rw [ZU,ZS] at h1
  obtain ⟨x,hx,rfl⟩:=h1
  rw [Z0] at hx
  rw [Array.getElem?_map,hx] at h2
  simp only [aaT,ZK] at h2
  subst h2
  exact hr x (by simp [ho,ZQ,Array.mem_of_getElem? hx])
 ·intro i d v h1 h2
  rw [ZU,ZS] at h1
  obtain ⟨x,hx,rfl⟩:=h1
  rw [Z0] at hx
  rw [Array.getElem?_map,hx] at h2
  simp only [aaT,ZK] at h2
  subst h2
  exact hr x (by simp [ho,ZQ,Array.mem_of_getElem? hx])
theorem xH {s:TypeId} {x:Operand} {f:Nat} {fields:Array Field} {fd:Field} (ho:o.op= .fieldAddr s x f) (hs:P.underlying s=some (.struct fields)) (hf:fields[f]? =some fd)
  (hk:known P fd.type=true) (TX:0<P.cellsOf fd.type):
  (∀q i off,ρ x= .ptr q i off→gH P o ρ (.pure (.ptr q i (off+fd.offset))))∧(∀q y off,ρ x= .eY q y off→gH P o ρ (.pure (.eY q y (off+fd.offset)))):=by
 constructor
 ·intro q i off hx
  refine cC fun M w a _ hr=> ?_
  have h1:=hr x (by simp [ho,ZQ])
  rw [hx] at h1
  generalize hv:a.eval x=v at h1
  cases h1 with
  |ptr _ hb=>
   refine ⟨_,?_,.ptr q hb⟩
   simp [execOp,ho,Instr.fieldAt,run_underlying hs,hf,hv,Instr.sureAddr,fieldPlace,dk hk,Nat.ne_of_gt TX,gX]
 ·intro q y off hx
  refine cC fun M w a _ hr=> ?_
  have h1:=hr x (by simp [ho,ZQ])
  rw [hx] at h1
  generalize hv:a.eval x=v at h1
  cases h1 with
  |eY _ vs hx' VA V2=>
   refine ⟨_,?_,.eY q vs hx' VA V2⟩
   simp [execOp,ho,Instr.fieldAt,run_underlying hs,hf,hv,Instr.sureAddr,fieldPlace,dk hk,Nat.ne_of_gt TX,gX,Nat.add_assoc]
theorem Kf {ty:TypeId} {x:Operand} {f:Nat} {fields:Array Field} {fd:Field} {cs:List D} {d:D} (ho:o.op= .field ty x f) (hs:P.underlying ty=some (.struct fields)) (hf:fields[f]? =some fd)
  (hx:ρ x= .agg cs) (hp:nj P fd.type cs fd.offset d):gH P o ρ (.pure d):=by
 refine cC fun M w a _ hr=> ?_
 have h1:=hr x (by simp [ho,ZQ])
 rw [hx] at h1
 generalize hv:a.eval x=v at h1
 cases h1 with
 |agg hl Tn=>
  obtain ⟨v,h2,h3⟩:=qq hp ⟨hl,Tn⟩
  exact ⟨v,by simp [execOp,ho,Instr.field,run_underlying hs,hf,hv,asAgg,h3],h2⟩
theorem eo {M:MM} {d:D} {v:Value} {k:aaY} {n:Int} (h:cj M d v) (e:d= .int k n):v= .int k n:=by subst e;cases h;rfl
theorem po {ty:TypeId} {x ix:Operand} {k:aaY} {i:Int} {len:Nat} {elem:TypeId} (ho:o.op= .indexAddr ty x ix) (hi:ρ ix= .int k i) (ht:P.underlying ty=some (.array len elem)) (hk:known P elem=true) (hb:0≤i∧i<len) (dyn:Bool):
  (∀q id off,ρ x= .ptr q id off→gH P o ρ (.pure (.ptr dyn id (off+i.toNat*P.cellsOf elem))))∧(∀q y off,ρ x= .eY q y off→gH P o ρ (.pure (.eY dyn y (off+i.toNat*P.cellsOf elem)))):=by
 constructor
 ·intro q id off hx
  refine cC fun M w a _ hr=> ?_
  have h1:=hr x (by simp [ho,ZQ])
  have h2:=eo (hr ix (by simp [ho,ZQ])) hi
  rw [hx] at h1
  generalize hv:a.eval x=v at h1
  cases h1 with
  |ptr _ hb'=>
   refine ⟨_,?_,.ptr dyn hb'⟩
   simp [execOp,ho,Instr.indexAt,h2,asIntOf,run_underlying ht,hv,Instr.sureAddr,hb,dk hk,gX]
 ·intro q y off hx
  refine cC fun M w a _ hr=> ?_
  have h1:=hr x (by simp [ho,ZQ])
  have h2:=eo (hr ix (by simp [ho,ZQ])) hi
  rw [hx] at h1
  generalize hv:a.eval x=v at h1
  cases h1 with
  |eY _ vs hx' VA V2=>
   refine ⟨_,?_,.eY dyn vs hx' VA V2⟩
   simp [execOp,ho,Instr.indexAt,h2,asIntOf,run_underlying ht,hv,Instr.sureAddr,hb,dk hk,gX,Nat.add_assoc]
theorem p6 {ty:TypeId} {x ix:Operand} {k:aaY} {i:Int} {elem:TypeId} {ow:lP} {sz:Nat} {xs:List D} {y:D} (ho:o.op= .indexAddr ty x ix) (hi:ρ ix= .int k i) (ht:P.underlying ty=some (.slice elem)) (hk:known P elem=true)
  (Tw:P.cellsOf elem=sz) (hb:0≤i) (hx:ρ x= .bc ow sz xs) (hy:xs[i.toNat]? =some y):gH P o ρ (.pure (.eY false y 0)):=by
 refine cC fun M w a _ hr=> ?_
 have h1:=hr x (by simp [ho,ZQ])
 have h2:=eo (hr ix (by simp [ho,ZQ])) hi
 rw [hx] at h1
 generalize hv:a.eval x=v at h1
 cases h1 with
 |bc b off vs hl Tm ha hs hc hrr Ty TS=>
  rename_i ad len cap
  have Tq:i.toNat<xs.length:=by
   rcases ZY i.toNat xs.length with h|h
   ·exact h
   ·simp [ZN h] at hy
  have TU:xs≠ []:=fun e=>by simp [e] at Tq
  obtain rfl:=ha TU
  obtain ⟨cs,Tv,hlen⟩:=hs _ _ hy
  refine ⟨.pointer (some ⟨b,(off+i.toNat*sz)+0,none⟩),?_,.eY false (fun j=>vs i.toNat j) Tv (fun j c hj=>hc _ _ _ j c hy Tv hj) (fun j c hj=>hrr _ _ _ j c hy Tv hj)⟩
  have:i<len:=by omega
  simp [execOp,ho,Instr.indexAt,h2,asIntOf,run_underlying ht,hv,hb,this,dk hk,gX,Tw]
theorem xG {ty:TypeId} {x ix:Operand} {k:aaY} {i:Int} {len:Nat} {elem:TypeId} {cs:List D} {d:D} (ho:o.op= .index ty x ix) (hi:ρ ix= .int k i) (ht:P.underlying ty=some (.array len elem)) (hk:known P elem=true) (hb:0≤i∧i<len)
  (hx:ρ x= .agg cs) (hp:nj P elem cs (i.toNat*P.cellsOf elem) d):gH P o ρ (.pure d):=by
 refine cC fun M w a _ hr=> ?_
 have h1:=hr x (by simp [ho,ZQ])
 have h2:=eo (hr ix (by simp [ho,ZQ])) hi
 rw [hx] at h1
 generalize hv:a.eval x=v at h1
 cases h1 with
 |agg hl Tn=>
  obtain ⟨v,h3,h4⟩:=qq hp ⟨hl,Tn⟩
  exact ⟨v,by simp [execOp,ho,Instr.index,h2,asIntOf,run_underlying ht,hv,hb,dk hk,h4],h3⟩
theorem xF {ty:TypeId} {x ix:Operand} {k:aaY} {i:Int} {s:ByteArray} {d:D} (ho:o.op= .index ty x ix) (hi:ρ ix= .int k i) (ht:P.underlying ty=some .string) (hb:0≤i)
  (hx:ρ x= .str s) (hp:(lg s)[i.toNat]? =some d):gH P o ρ (.pure d):=by
 refine cC fun M w a _ hr=> ?_
 have h1:=hr x (by simp [ho,ZQ])
 have h2:=eo (hr ix (by simp [ho,ZQ])) hi
 rw [hx] at h1
 generalize hv:a.eval x=v at h1
 cases h1
 unfold lg at hp
 rw [ZU,ZS] at hp
 obtain ⟨c,hc,rfl⟩:=hp
 rw [Z0] at hc
 have VA:s[i.toNat]? =some c:=by
  have Tq:i.toNat<s.data.size:=by
   rcases ZY i.toNat s.data.size with h|h
   ·exact h
   ·simp [aak h] at hc
  have Y5:i.toNat<s.size:=Tq
  rw [getElem?_pos s i.toNat Y5]
  rw [getElem?_pos s.data i.toNat Tq] at hc
  exact hc
 exact ⟨.int .u8 c.toNat,by simp [execOp,ho,Instr.index,h2,asIntOf,run_underlying ht,hv,hb,VA],.int _ _⟩
end
section
variable {P:Program} {o:Oper} {ρ:Operand→D}
theorem Aw {ty:TypeId} {x v:Operand} {dyn:Bool} {id off:Nat} {cs vc:List D} (ho:o.op= .store ty x v) (hx:ρ x= .ptr dyn id off) (hv:(ρ v).cells=some vc) (hk:known P ty=true)
  (Tw:vc.length=P.cellsOf ty) (Ty:∀d∈vc,storable d=true) (hl:off+vc.length≤cs.length):gH P o ρ (.gQ id (.box cs) (.box (jx cs off vc)) .undef):=by
 intro w0 M own σ w a i hw hr TB next Q hn
 obtain ⟨b,vs,t,k⟩:=hw.box id cs TB
 have Vj:=hr x (by simp [ho,ZQ])
 have Yd:=hr v (by simp [ho,ZQ])
 rw [hx] at Vj
 generalize hva:a.eval x=va at Vj
 cases Vj with
 |ptr _ hb=>
  rename_i b'
  rw [k.box] at hb
  obtain rfl:=ZE hb
  have TA:=Yd.cells hv
  have hlen:(a.eval v).cells.toList.length=vc.length:=by rw [aal,← TA.1]
  have Ui:∀u∈(a.eval v).cells.toList,u.oneCell'=true:=by
   intro u hu
   obtain ⟨j,hj⟩:=List.mem_iff_getElem?.1 hu
   rw [Z0] at hj
   have U9:j<vc.length:=by
    rcases ZY j vc.length with h|h
    ·exact h
    ·rw [TA.1] at h;simp [aak h] at hj
   exact oO (TA.2 j vc[j] u (by simp [U9]) hj) (Ty _ (by simp))
  have TC:=iU (P:=P) (b:=b) (off:=off) (fz:=(0,0)) (a.eval v).cells.toList 0 w vs k.dQ Ui (by rw [hlen];have:=k.len;omega) (fun o _ h=>by have:=h.2;simp at this)
  rw [Nat.add_zero] at TC
  have Tn:=o6 (M:=M) k.len k.rep TA hl
  refine rK (w':=cR w b (.cells (eG vs off (a.eval v).cells.toList) t (0,0))) ?_ (hn undef M own _ (.refl M) ⟨rfl,fun _ _=>rfl⟩ (hw.Ju k Tn.1 (e9 _ _ _) Tn.2) (.undef _))
  have he:(a.eval v).cells.size=P.cellsOf ty:=by rw [← TA.1,Tw]
  simp [execOp,ho,Instr.storeAt,Instr.sureAddr,hva,storeVar,dk hk,he,TC]
theorem p7 {cs:List D} (h:∀(M:MM) (w:World) (a:Act),(∀x∈o.op.operands,cj M (ρ x) (a.eval x))→∃vs ty,(execOp a.eval o).run P w= .ok (.value (.pointer (some ⟨w.heap.size,0,none⟩))) (w.alloc (.cells vs ty))∧cA M cs vs):
  gH P o ρ (.new (.box cs) fun id=> .ptr false id 0):=by
 intro w0 M own σ w a id hw hr TB next Q hn
 obtain ⟨vs,ty,h1,h2⟩:=h M w a hr
 have k:=hw.CF TB.1 TB.2 ty (Nat.le_of_eq h2.1) h2.2
 exact gz h1 (hn _ _ _ _ (MM.gh TB.1) ⟨fun j hj=>by simp [MM.cQ,hj],fun _ _=>rfl⟩ k (.ptr false (by simp [MM.cQ])))
theorem O0 {e:TypeId} {x:Operand} {cs:List D} (ho:o.op= .box e x) (hx:(ρ x).cells=some cs):gH P o ρ (.new (.box cs) fun id=> .ptr false id 0):=by
 refine p7 fun M w a hr=>⟨(a.eval x).cells,e,?_,(hr x (by simp [ho,ZQ])).cells hx⟩
 simp [execOp,ho,Instr.box,newVar,newRow]
theorem jv {t:TypeId} {d:D} (h:kM P t=some d):∃i v,P.info? t=some i∧i.zero=some v∧d=hP v:=by
 unfold kM at h
 split at h
 ·rename_i i hi
  split at h
  ·rename_i v hv
   exact ⟨i,v,hi,hv,(ZE h).symm⟩
  ·cases h
 ·cases h
theorem Ki {e:TypeId} {d:D} {cs:List D} (ho:o.op= .alloc e) (hz:kM P e=some d) (hc:d.cells=some cs):gH P o ρ (.new (.box cs) fun id=> .ptr false id 0):=by
 obtain ⟨i,v,hi,hv,rfl⟩:=jv hz
 refine p7 fun M w a hr=>⟨v.cells,e,?_,(kp (M:=M) v).cells hc⟩
 simp [execOp,ho,Instr.alloc,fJ hi hv,newVar,newRow]
theorem G1 {e:TypeId} {d:D} (ho:o.op= .alloc e) (hz:kM P e=some d) (h1:IY P e=true):gH P o ρ (.new (.box [.undef]) fun id=> .ptr false id 0):=by
 obtain ⟨i,v,hi,hv,rfl⟩:=jv hz
 have hs:v.cells.size=1:=by
  unfold IY at h1
  rw [hi] at h1
  simp only [hv,Z3] at h1
  exact h1
 refine p7 fun M w a hr=>⟨v.cells,e,?_,hs.symm,fun j d u x y=> ?_⟩
 ·simp [execOp,ho,Instr.alloc,fJ hi hv,newVar,newRow]
 ·cases j with
  |zero=>simp at x;subst x;exact .undef u
  |succ j=>simp at x
theorem HT (l:List Value):∀(cells:Array Value) (off k:Nat),(l.zipIdx k).foldl (fun cs (p:Value×Nat)=>cs.setIfInBounds (off+p.2) p.1) cells=eG cells (off+k) l:=by
 induction l with
 |nil=>intro cells off k;rfl
 |cons x r ih=>intro cells off k;simp [List.zipIdx_cons,eG,ih,Nat.add_assoc]
theorem tc (v cells:Array Value) (off:Nat):v.zipIdx.foldl (fun cs (c,j)=>cs.setIfInBounds (off+j) c) cells=eG cells off v.toList:=by
 rw [← Array.foldl_toList,Array.toList_zipIdx]
 exact HT v.toList cells off 0
def NN (M:MM):List (Nat×D)→List (Nat×Value)→Prop
  | [],[]=>True
  |(i,d)::r,(j,v)::s=>i=j∧cj M d v∧NN M r s
  |_,_=>False
theorem zT {M:MM} {a:Act} (ps:List (Nat×Operand)) (h:∀p∈ps,cj M (ρ p.2) (a.eval p.2)):NN M (ps.map fun p=>(p.1,ρ p.2)) (ps.map fun p=>(p.1,a.eval p.2)):=by
 induction ps with
 |nil=>trivial
 |cons p r ih=>exact ⟨rfl,h p (by simp),ih fun q hq=>h q (by simp [hq])⟩
theorem x6 {M:MM} (place:Nat→Option (Nat×Nat)):∀(parts:List (Nat×D)) (T6:List (Nat×Value)) (cells cs:List D) (arr:Array Value),NN M parts T6→cA M cells arr→vo place cells parts=some cs→
  ∃arr',Instr.fill place arr T6=some arr'∧cA M cs arr'
 | [],[],cells,cs,arr,_,h,e=>by
  simp only [vo,ZK] at e;subst e;exact ⟨arr,rfl,h⟩
 | [],_::_,_,_,_,hp,_,_=>hp.elim
 |_::_,[],_,_,_,hp,_,_=>hp.elim
 |(i,d)::r,(j,v)::s,cells,cs,arr,hp,h,e=>by
  obtain ⟨rfl,hd,hp⟩:=hp
  unfold vo at e
  split at e
  ·rename_i off size vc YP Wv
   split at e
   ·rename_i hb
    rw [ZD,Z3,aaF] at hb
    have YY:=hd.cells Wv
    have Tw:off+vc.length≤cells.length:=by omega
    obtain ⟨arr',h1,h2⟩:=x6 place r s _ cs _ hp (zU h YY Tw) e
    refine ⟨arr',?_,h2⟩
    have e1:v.cells.size=size:=by rw [← YY.1];exact hb.1
    have e2:¬(off+v.cells.size>arr.size):=by rw [← h.1,e1];omega
    rw [Instr.fill,YP]
    simp only [e1,ne_eq,not_true_eq_false,decide_false,Bool.false_or]
    rw [← e1]
    simp only [e2,decide_false,aah,if_false,tc]
    exact h1
   ·cases e
  ·cases e
theorem ue {α β:Type} (f:α→Sem β) (g:α→β) (l:List α) (h:∀x∈l,∀w,(f x).run P w= .ok (g x) w):∀w,(l.mapM f).run P w= .ok (l.map g) w:=by
 induction l with
 |nil=>intro w;simp
 |cons x r ih=>
  intro w
  simp [List.mapM_cons,h x (by simp),ih fun y hy=>h y (by simp [hy])]
theorem Kh {ty:TypeId} {parts:Array (Nat×Operand)} {d:D} (ho:o.op= .build ty parts) (hb:DY P ty (parts.toList.map fun p=>(p.1,ρ p.2))=some d):gH P o ρ (.pure d):=by
 refine cC fun M w a _ hr=> ?_
 have U6:=zT (M:=M) (ρ:=ρ) (a:=a) parts.toList (fun p hp=>hr p.2 (by
  simp only [ho,ZQ]
  exact List.mem_toArray.2 (List.mem_map.2 ⟨p,hp,rfl⟩)))
 have XF:(parts.map fun (i,x)=>(i,a.eval x)).toList=parts.toList.map fun p=>(p.1,a.eval p.2):=by simp
 unfold DY at hb
 split at hb
 ·cases hb
 ·rename_i z hz
  obtain ⟨i,v,hi,hv,rfl⟩:=jv hz
  split at hb
  ·cases hb
  ·rename_i zero Wq
   have Zf:=(kp (M:=M) v).cells Wq
   split at hb
   ·rename_i fields ht
    split at hb
    ·rename_i Um
     split at hb
     ·rename_i cs Tv
      simp only [ZK] at hb
      subst hb
      obtain ⟨arr,h1,h2⟩:=x6 (M:=M) _ _ _ _ _ _ U6 Zf Tv
      refine ⟨.agg arr,?_,.agg h2.1 h2.2⟩
      have hm:∀w:World,(fields.mapM fun (f:Field)=>(do pure (f.offset,← sizeOf f.type):Sem (Nat×Nat))).run P w= .ok (fields.map fun (f:Field)=>(f.offset,P.cellsOf f.type)) w:=by
       intro w
       rw [Array.mapM_eq_mapM_toList]
       rw [aab] at Um
       have:=ue (P:=P) (fun f:Field=>(do pure (f.offset,← sizeOf f.type):Sem (Nat×Nat))) (fun f=>(f.offset,P.cellsOf f.type)) fields.toList (fun f hf w=>by simp [dk (Um f hf)]) w
       simp only [Sem.run_map,this,ZO]
       rw [← Array.toList_map,Array.toArray_toList]
      have YP:(fun (i:Nat)=>(fields.map fun (f:Field)=>(f.offset,P.cellsOf f.type))[i]?)=fun (i:Nat)=>(fields[i]?).map fun (f:Field)=>(f.offset,P.cellsOf f.type):=by
       funext i;simp
      simp only [execOp,ho,Instr.build,ZW,fJ hi hv,ZO,run_underlying ht]
      simp only [hm,ZO,XF,YP,h1,Z4]
     ·cases hb
    ·cases hb
   ·rename_i n elem ht
    split at hb
    ·rename_i hk
     split at hb
     ·rename_i cs Tv
      simp only [ZK] at hb
      subst hb
      obtain ⟨arr,h1,h2⟩:=x6 (M:=M) _ _ _ _ _ _ U6 Zf Tv
      refine ⟨.agg arr,?_,.agg h2.1 h2.2⟩
      simp only [execOp,ho,Instr.build,ZW,fJ hi hv,ZO,run_underlying ht,dk hk,XF,h1,Z4]
     ·cases hb
    ·cases hb
   ·cases hb
theorem qp {k k':aaY} (h:ij k k'=true):k=k':=by cases k<;>cases k'<;>first|rfl|(simp [ij] at h)
theorem O1 {op:BinOp} {t t':TypeId} {x y:Operand} {d:D} (ho:o.op= .binOp op t x y t')
  (h:∀(M:MM) (w:World) (u v:Value),cj M (ρ x) u→cj M (ρ y) v→∃r,(do eqGuard op t x y u v;binOp op t u v:Sem Value).run P w= .ok r w∧cj M d r):gH P o ρ (.pure d):=by
 refine cC fun M w a _ hr=> ?_
 obtain ⟨r,h1,h2⟩:=h M w _ _ (hr x (by simp [ho,ZQ])) (hr y (by simp [ho,ZQ]))
 refine ⟨r,?_,h2⟩
 simp only [execOp,ho]
 rw [ZW,h1]
 rfl
end
section
variable {ρ':Type} {P:Program} {r:ρ'}
theorem CR {z:Z P} {st:Bool} {op:BinOp} {k:aaY} {a b:Int} {K:Z P→D→Option ρ'} (h:CS z st op k a b K=some r) (U8:op≠ .shl) (Y3:op≠ .shr):
  ∃z' d,K z' d=some r∧(z'.c→z.c∧∀(M:MM) (w:World) (t:TypeId) (x y:Operand),∃v,(do eqGuard op t x y (.int k a) (.int k b);binOp op t (.int k a) (.int k b):Sem Value).run P w= .ok v w∧cj M d v):=by
 cases op<;>simp only [CS] at h
 case shl=>exact absurd rfl U8
 case shr=>exact absurd rfl Y3
 case quo=>
  obtain ⟨z',h1,h2⟩:=iA h
  refine ⟨z',_,h1,fun c=>⟨(h2 c).1,fun M w t x y=>⟨_,?_,.int _ _⟩⟩⟩
  have hb:b≠0:=by simpa using (h2 c).2
  simp [eqGuard,binOp,Op.intDiv,hb]
 case rem=>
  obtain ⟨z',h1,h2⟩:=iA h
  refine ⟨z',_,h1,fun c=>⟨(h2 c).1,fun M w t x y=>⟨_,?_,.int _ _⟩⟩⟩
  have hb:b≠0:=by simpa using (h2 c).2
  simp [eqGuard,binOp,Op.intDiv,hb]
 case and=>exact ⟨z,_,h,fun c=>⟨c,fun M w t x y=>⟨.int k _,by rw [eqGuard_at_int];simp only [pure_bind,binOp,ne_eq,not_true_eq_false,if_false];rfl,.int _ _⟩⟩⟩
 case or=>exact ⟨z,_,h,fun c=>⟨c,fun M w t x y=>⟨.int k _,by rw [eqGuard_at_int];simp only [pure_bind,binOp,ne_eq,not_true_eq_false,if_false];rfl,.int _ _⟩⟩⟩
 case xor=>exact ⟨z,_,h,fun c=>⟨c,fun M w t x y=>⟨.int k _,by rw [eqGuard_at_int];simp only [pure_bind,binOp,ne_eq,not_true_eq_false,if_false];rfl,.int _ _⟩⟩⟩
 case andNot=>exact ⟨z,_,h,fun c=>⟨c,fun M w t x y=>⟨.int k _,by rw [eqGuard_at_int];simp only [pure_bind,binOp,ne_eq,not_true_eq_false,if_false];rfl,.int _ _⟩⟩⟩
 case add=>exact ⟨z,_,h,fun c=>⟨c,fun M w t x y=>⟨.int k _,by rw [eqGuard_at_int];simp only [pure_bind,binOp,ne_eq,not_true_eq_false,if_false];rfl,.int _ _⟩⟩⟩
 case sub=>exact ⟨z,_,h,fun c=>⟨c,fun M w t x y=>⟨.int k _,by rw [eqGuard_at_int];simp only [pure_bind,binOp,ne_eq,not_true_eq_false,if_false];rfl,.int _ _⟩⟩⟩
 case mul=>exact ⟨z,_,h,fun c=>⟨c,fun M w t x y=>⟨.int k _,by rw [eqGuard_at_int];simp only [pure_bind,binOp,ne_eq,not_true_eq_false,if_false];rfl,.int _ _⟩⟩⟩
 all_goals exact ⟨z,_,h,fun c=>⟨c,fun M w t x y=>⟨.bool _,by rw [eqGuard_at_int];simp only [pure_bind,binOp,ne_eq,not_true_eq_false,if_false];rfl,.bool _⟩⟩⟩
theorem tj {M:MM} :∀ {ks:List LK} {xs:List D} {vs:List Value},kC ks xs=true→xs.length=vs.length→(∀(i:Nat) (d:D) (v:Value),xs[i]? =some d→vs[i]? =some v→cj M d v)→eM ks vs
 | [],[],[],_,_,_=>trivial
 | [],[],_::_,_,h,_=>by simp at h
 | [],_::_,_,h,_,_=>by simp [kC] at h
 |_::_,[],_,h,_,_=>by simp [kC] at h
 |_::_,_::_,[],_,h,_=>by simp at h
 |k::ks,d::ds,v::vs,h,hl,hr=>by
  simp only [kC,ZD] at h
  have h0:=hr 0 d v rfl rfl
  refine ⟨?_,tj h.2 (by simpa using hl) fun i d v a b=>hr (i+1) d v (by simpa using a) (by simpa using b)⟩
  have h1:=h.1
  cases k<;>cases d<;>simp only [LK.fits,aah] at h1<;>cases h0
  ·trivial
  ·exact qp h1
  ·trivial
theorem qF {M:MM} :∀ {ks:List LK} {xs ys:List D} {us vs:List Value},kC ks xs=true→kC ks ys=true→xs.length=us.length→ys.length=vs.length→
  (∀(i:Nat) (d:D) (v:Value),xs[i]? =some d→us[i]? =some v→cj M d v)→(∀(i:Nat) (d:D) (v:Value),ys[i]? =some d→vs[i]? =some v→cj M d v)→ea us vs=br xs ys
 | [],xs,ys,us,vs,hx,hy,lx,ly,_,_=>by
  cases xs<;>cases ys<;>simp [kC] at hx hy
  cases us<;>cases vs<;>simp at lx ly
  rfl
 |k::ks,xs,ys,us,vs,hx,hy,lx,ly,rx,ry=>by
  cases xs with
  |nil=>simp [kC] at hx
  |cons x xs=>
  cases ys with
  |nil=>simp [kC] at hy
  |cons y ys=>
  cases us with
  |nil=>simp at lx
  |cons u us=>
  cases vs with
  |nil=>simp at ly
  |cons v vs=>
   simp only [kC,ZD] at hx hy
   have r1:=rx 0 x u rfl rfl
   have r2:=ry 0 y v rfl rfl
   have ih:=qF hx.2 hy.2 (by simpa using lx) (by simpa using ly) (fun i d v a b=>rx (i+1) d v (by simpa using a) (by simpa using b)) (fun i d v a b=>ry (i+1) d v (by simpa using a) (by simpa using b))
   simp only [ea,br,ih]
   congr 1
   have h1:=hx.1
   have h2:=hy.1
   cases k<;>cases x<;>simp only [LK.fits,aah] at h1<;>cases y<;>simp only [LK.fits,aah] at h2<;>cases r1<;>cases r2<;>rfl
theorem Pv {w:World} {t:TypeId} {u v:Value} {b:Bool} (he:binOp .eql t u v=(do pure (.bool (← Op.equal t u v)):Sem Value)) (hn:binOp .neq t u v=(do pure (.bool (!(← Op.equal t u v))):Sem Value))
  (h:(Op.equal t u v).run P w= .ok b w):(binOp .eql t u v).run P w= .ok (.bool b) w∧(binOp .neq t u v).run P w= .ok (.bool (!b)) w:=by
 rw [he,hn,ZW,ZW,h]
 exact ⟨rfl,rfl⟩
theorem Fz {z : Z P} {t : TypeId} {x y : D} {K : Z P → Bool → Option ρ'} (h : Rd P z t x y K = some r) :
    ∃z' b,K z' b=some r∧(z'.c→z.c)∧∀(M:MM) (w:World) (u v:Value),cj M x u→cj M y v→
      (∀op px py,(eqGuard op t px py u v).run P w= .ok () w)∧(binOp .eql t u v).run P w= .ok (.bool b) w∧(binOp .neq t u v).run P w= .ok (.bool (!b)) w:=by
  unfold Rd at h
  split at h
  ·
    split at h
    · rename_i ht
      refine ⟨z,_,h,id,fun M w u v hu hv=> ?_⟩
      cases hu;cases hv
      exact ⟨fun op px py=>by rw [eqGuard_at_bool];rfl,run_eql_bool w t _ _ ht,run_neq_bool w t _ _ ht⟩
    · cases h
  · rename_i xs ys
    split at h
    · rename_i t' ks hf rest _
      obtain ⟨h1,h2⟩:=b8 h
      rw [ZD,ZD,Z3] at h1
      obtain ⟨ht,hx,hy⟩:=h1
      subst ht
      refine ⟨_,_,h2,id,fun M w u v hu hv=> ?_⟩
      cases hu with
      |agg l1 r1=>
        cases hv with
        |agg l2 r2=>
          rename_i us vs
          have lx:xs.length=us.toList.length:=by simpa using l1
          have ly:ys.length=vs.toList.length:=by simpa using l2
          have e1:=tj (M:=M) hx lx (fun i d v a b=>r1 i d v a (by simpa using b))
          have e2:=tj (M:=M) hy ly (fun i d v a b=>r2 i d v a (by simpa using b))
          have e3:=qF (M:=M) hx hy lx ly (fun i d v a b=>r1 i d v a (by simpa using b)) (fun i d v a b=>r2 i d v a (by simpa using b))
          have e4:=hf.eq us vs w e1 e2
          refine ⟨fun op px py=>run_eqGuard_agg w op t' px py us vs hf.plain,?_,?_⟩
          · rw [run_eql_struct,e4,e3];rfl
          · rw [run_neq_struct,e4,e3];rfl
    · cases h
  all_goals first
    | (split at h
       · rename_i ht
         refine ⟨z,_,h,id,fun M w u v hu hv=> ?_⟩
         cases hu;cases hv
         refine ⟨fun op px py=>by cases op<;>rfl,?_⟩
         refine Pv rfl rfl ?_
         show (Op.equalIn (9999+1) t _ _).run P w=_
         unfold Op.equalIn
         simp only [ZW,run_underlying ht,ZO,Z4,Option.isNone_none]
       · cases h)
    |cases h
theorem LJ {z:Z P} {st:Bool} {op:BinOp} {t:TypeId} {x y:D} {K:Z P→D→Option ρ'} (h:PE P z st op t x y K=some r):
  ∃z' d,K z' d=some r∧(z'.c→z.c∧∀(M:MM) (w:World) (px py:Operand) (u v:Value),cj M x u→cj M y v→
   ∃q,(do eqGuard op t px py u v;binOp op t u v:Sem Value).run P w= .ok q w∧cj M d q):=by
 unfold PE at h
 split at h
 ·rename_i k a k' b
  split at h
  ·obtain ⟨z',h1,h2⟩:=iA h
   refine ⟨z',_,h1,fun c=>⟨(h2 c).1,fun M w px py u v hu hv=> ?_⟩⟩
   cases hu;cases hv
   have hb:¬b<0:=by have:=(h2 c).2;simp at this;omega
   exact ⟨_,by simp [eqGuard,binOp,Op.shift,hb]<;>rfl,.int _ _⟩
  ·obtain ⟨z',h1,h2⟩:=iA h
   refine ⟨z',_,h1,fun c=>⟨(h2 c).1,fun M w px py u v hu hv=> ?_⟩⟩
   cases hu;cases hv
   have hb:¬b<0:=by have:=(h2 c).2;simp at this;omega
   exact ⟨_,by simp [eqGuard,binOp,Op.shift,hb]<;>rfl,.int _ _⟩
  ·rename_i U8 Y3
   obtain ⟨h1,h2⟩:=b8 h
   obtain rfl:=qp h1
   obtain ⟨z',d,h3,h4⟩:=CR h2 U8 Y3
   refine ⟨z',d,h3,fun c=>⟨(h4 c).1,fun M w px py u v hu hv=> ?_⟩⟩
   cases hu;cases hv
   exact (h4 c).2 M w t px py
 ·split at h
  ·refine ⟨z,_,h,fun c=>⟨c,fun M w px py u v hu hv=> ?_⟩⟩
   cases hu;cases hv
   exact ⟨_,by simp [eqGuard,binOp,Op.stringOp]<;>rfl,.bool _⟩
  ·refine ⟨z,_,h,fun c=>⟨c,fun M w px py u v hu hv=> ?_⟩⟩
   cases hu;cases hv
   exact ⟨_,by simp [eqGuard,binOp,Op.stringOp]<;>rfl,.bool _⟩
  ·cases h
 ·split at h
  ·obtain ⟨z',b,h1,h2,h3⟩:=Fz h
   refine ⟨z',_,h1,fun c=>⟨h2 c,fun M w px py u v hu hv=> ?_⟩⟩
   obtain ⟨e1,e2,e3⟩:=h3 M w u v hu hv
   exact ⟨_,by rw [ZW,e1];exact e2,.bool _⟩
  ·obtain ⟨z',b,h1,h2,h3⟩:=Fz h
   refine ⟨z',_,h1,fun c=>⟨h2 c,fun M w px py u v hu hv=> ?_⟩⟩
   obtain ⟨e1,e2,e3⟩:=h3 M w u v hu hv
   exact ⟨_,by rw [ZW,e1];exact e3,.bool _⟩
  ·cases h
theorem Mf {op:UnOp} {x:D} {K:D→Option ρ'} (h:Re op x K=some r):∃d,K d=some r∧∀(M:MM) (w:World) (u:Value),cj M x u→∃v,(Op.unary op u).run P w= .ok v w∧cj M d v:=by
 unfold Re at h
 split at h
 ·refine ⟨_,h,fun M w u hu=> ?_⟩
  cases hu
  exact ⟨_,by simp [Op.unary,Op.intArith]<;>rfl,by simpa using .int _ _⟩
 ·refine ⟨_,h,fun M w u hu=> ?_⟩
  cases hu
  exact ⟨_,by simp [Op.unary,Op.intBits]<;>rfl,.int _ _⟩
 ·refine ⟨_,h,fun M w u hu=> ?_⟩
  cases hu
  exact ⟨_,by simp [Op.unary]<;>rfl,.bool _⟩
 ·cases h
end
theorem jZ {a b:aaY} (h:ij a b=true):a=b:=by cases a<;>cases b<;>first|rfl|(simp [ij] at h)
theorem DZ:ot [] 0:=⟨rfl,fun i e h=>by simp at h⟩
theorem uE {l:List MapEntry} {c j:Nat} {f:MapEntry→MapEntry} (hf:∀e,(f e).born=e.born) (h:ot l c):ot (l.modify j f) c:=by
 refine ⟨by rw [List.length_modify];exact h.1,fun i e he=> ?_⟩
 rw [List.getElem?_modify] at he
 cases hl:l[i]? with
 |none=>rw [hl] at he;cases he
 |some e0=>
  rw [hl] at he
  have h0:=h.2 i e0 hl
  simp only [Option.map_eq_map,aaT,ZK] at he
  split at he
  ·rw [← he,hf];exact h0
  ·rw [← he];exact h0
theorem Bg {l:List MapEntry} {c:Nat} {k v:Value} (h:ot l c):ot (l++ [⟨k,v,c⟩]) (c+1):=by
 refine ⟨by simp [h.1],fun i e he=> ?_⟩
 rw [aax] at he
 split at he
 ·exact h.2 i e he
 ·rename_i hi
  have:i=l.length:=by
   rcases Nat.lt_trichotomy i l.length with q|q|q
   ·exact absurd q hi
   ·exact q
   ·rw [ZN (by simp;omega)] at he;cases he
  subst this
  simp only [Nat.sub_self,aat,ZK] at he
  rw [← he];exact h.1
theorem Ga {M:MM} {d:D} {v:Value} (h:oT d=some v):cj M d v:=by
 cases d<;>simp only [oT,ZK,reduceCtorEq] at h<;>subst h
 ·exact .int _ _
 ·exact .bool _
 ·exact .str _
theorem Jw {M:MM} {d:D} {v:Value} (h:cj M d v) (hs:sU d=true):oT d=some v:=by
 cases h<;>first|rfl|(simp [sU] at hs)
theorem qf {k q:aaY} {n:Int} :∀ {es:List (Int×D)} {l:List MapEntry} (i:Nat),tp k es l→
  (∃j v d e,(pv es n=some d∧HB es n=j)∧oT d=some v∧Instr.findNow (.int q) (.int k n) l i=some (some (i+j,v))∧l[j]? =some e∧e.key= .int k n∧∀v2 d2,oT d2=some v2→tp k (nM es n d2) (l.modify j fun e=> { e with key:= .int k n,val:=v2 }))∨
  ((pv es n=none∧HB es n=es.length)∧Instr.findNow (.int q) (.int k n) l i=some none∧∀v2 d2 c,oT d2=some v2→tp k (nM es n d2) (l++ [⟨.int k n,v2,c⟩]))
 | [],[],i,_=> .inr ⟨⟨rfl,rfl⟩,rfl,fun v2 d2 c h=>⟨rfl,h,trivial⟩⟩
 | [],_::_,_,h=>h.elim
 |(_,_)::_,[],_,h=>h.elim
 |(a,d)::r,e::s,i,h=>by
  obtain ⟨h1,h2,h3⟩:=h
  have TW:Instr.sameNow (.int q) (.int k n) e.key=some (n==a):=by rw [h1];simp [Instr.sameNow]
  by_cases hn:(n==a)=true
  ·left
   have hna:n=a:=by simpa using hn
   refine ⟨0,e.val,d,e,?_,h2,?_,rfl,by rw [h1,hna],?_⟩
   ·simp [pv,HB,hn]
   ·simp [Instr.findNow,TW,hn]
   ·intro v2 d2 hd
    simp only [nM,hn,List.modify_zero_cons]
    exact ⟨rfl,hd,h3⟩
  ·have Xe:(n==a)=false:=by simpa using hn
   rcases qf (q:=q) (n:=n) (i+1) h3 with ⟨j,v,d',e',k1,k2,k3,k4,k5,k6⟩|⟨k1,k2,k3⟩
   ·left
    refine ⟨j+1,v,d',e',?_,k2,?_,by simpa using k4,k5,?_⟩
    ·simp [pv,HB,Xe,k1]
    ·simp only [Instr.findNow,TW,Xe]
     rw [k3,show i+1+j=i+(j+1) by omega]
    ·intro v2 d2 hd
     simp only [nM,Xe,List.modify_succ_cons]
     exact ⟨h1,h2,k6 v2 d2 hd⟩
   ·right
    refine ⟨?_,?_,?_⟩
    ·simp [pv,HB,Xe,k1]
    ·simp only [Instr.findNow,TW,Xe,k2]
    ·intro v2 d2 c hd
     simp only [nM,Xe,List.cons_append]
     exact ⟨h1,h2,k3 v2 d2 c hd⟩
section
variable {P:Program} {o:Oper} {ρ:Operand→D}
theorem m4 {t:TypeId} {k:aaY} {et:TypeId} (h:kX P t=some (k,et)):∃kt,P.underlying t=some (.map kt et)∧P.underlying kt=some (.int k):=by
 unfold kX at h
 split at h
 ·rename_i kt et' ht
  split at h
  ·rename_i k' hk
   simp only [ZK,Prod.mk.injEq] at h
   obtain ⟨rfl,rfl⟩:=h
   exact ⟨kt,ht,hk⟩
  ·cases h
 ·cases h
theorem j7 {kt:TypeId} {q:aaY} (hk:P.underlying kt=some (.int q)) (b:Bool) (v:Value) (w:World):(Instr.checkKey b 10000 kt v).run P w= .ok () w:=by
 unfold Instr.checkKey
 simp [run_underlying hk]
theorem CB {ty:TypeId} {r:Option Operand} {k:aaY} {et:TypeId} (ho:o.op= .makeMap ty r) (hk:kX P ty=some (k,et)) (hr:∀x,r=some x→∃q n,ρ x= .int q n):
  gH P o ρ (.new (.mp k []) fun id=> .gw id):=by
 intro w0 M own σ w a id hw Tn TB next Q hn
 obtain ⟨kt,h1,h2⟩:=m4 hk
 have TC:(execOp a.eval o).run P w= .ok (.value (.map (some w.heap.size))) (w.alloc (.map #[] 0)):=by
  cases r with
  |none=>simp [execOp,ho,Instr.makeMap]
  |some x=>
   obtain ⟨q,n,hx⟩:=hr x rfl
   have:=eo (Tn x (by simp [ho,ZQ])) hx
   simp [execOp,ho,Instr.makeMap,run_underlying h1,this,asInt,asIntOf]
 have k:=hw.O6 TB.1 (o:= .mp k []) rfl ⟨trivial,DZ⟩
 exact gz TC (hn _ _ _ _ (MM.gh TB.1) ⟨fun j hj=>by simp [MM.cQ,hj],fun _ _=>rfl⟩ k (.gw (by simp [MM.cQ])))
theorem G0 {ty:TypeId} {m kx v:Operand} {id:Nat} {q:aaY} {n:Int} {es:List (Int×D)} {et:TypeId} (ho:o.op= .insert ty m kx v∨o.op= .mapUpdate ty m kx v) (hk:kX P ty=some (q,et))
  (hm:ρ m= .gw id) (hx:ρ kx= .int q n) (hv:sU (ρ v)=true):gH P o ρ (.gQ id (.mp q es) (.mp q (nM es n (ρ v))) .undef):=by
 intro w0 M own σ w a i hw hr TB next Q hn
 obtain ⟨kt,t1,t2⟩:=m4 hk
 obtain ⟨b,Tt,clock,k⟩:=hw.mp id _ (by rw [(TB:σ id=_)];rfl)
 have VX:m∈o.op.operands∧kx∈o.op.operands∧v∈o.op.operands:=by rcases ho with h|h<;>simp [h,ZQ]
 have WZ:=hr m VX.1
 have Vj:=eo (hr kx VX.2.1) hx
 have Yd:=Jw (hr v VX.2.2) hv
 rw [hm] at WZ
 generalize hva:a.eval m=va at WZ
 cases WZ with
 |gw hb=>
  rename_i b'
  rw [k.box] at hb
  obtain rfl:=ZE hb
  have TR:(execOp a.eval o).run P w=((Instr.mapUpdate ty (.map (some b)) (.int q n) (a.eval v)).run P w).andThen fun _ w'=> .ok .skip w':=by
   rcases ho with h|h<;>simp [execOp,h,hva,Vj]
  rcases qf (q:=q) (n:=n) 0 k.fits.1 with ⟨j,v0,d0,e0,k1,k2,k3,k4,k5,k6⟩|⟨k1,k2,k3⟩
  ·have UW:tp q (nM es n (ρ v)) (Tt.modify j fun e=> { e with key:= .int q n,val:=a.eval v }).toList:=by
    rw [Array.toList_modify];exact k6 _ _ Yd
   have Wj:=hw.Js k clock (o':= .mp q (nM es n (ρ v))) rfl ⟨UW,by rw [Array.toList_modify];exact uE (fun _=>rfl) k.fits.2⟩
   refine rK (w':=cR w b (.map (Tt.modify j fun e=> { e with key:= .int q n,val:=a.eval v }) clock)) ?_ (hn undef M own _ (.refl M) ⟨rfl,fun _ _=>rfl⟩ Wj (.undef _))
   rw [TR]
   have Xc:(aaX kt (.int q n) Tt.toList).run P w= .ok (some (j,v0)) w:=by
    simp [aaX,run_underlying t2,k3]
   have hej:Tt[j]? =some e0:=by simpa using k4
   have hsb:Instr.sameBits 10000 (Value.int q n) (Value.int q n)=true:=by simp [Instr.sameBits]
   simp [Instr.mapUpdate,run_underlying t1,run_getObj_map w b Tt clock k.dQ,j7 t2,Xc,hej,k5,Instr.keyThatStays,hsb,MapKept.run_setObj_map _ k.dQ,cR]
  ·have UW:tp q (nM es n (ρ v)) (Tt.push ⟨.int q n,a.eval v,clock⟩).toList:=by
    rw [Array.toList_push];exact k3 _ _ _ Yd
   have Wj:=hw.Js k (clock+1) (o':= .mp q (nM es n (ρ v))) rfl ⟨UW,by rw [Array.toList_push];exact Bg k.fits.2⟩
   refine rK (w':=cR w b (.map (Tt.push ⟨.int q n,a.eval v,clock⟩) (clock+1))) ?_ (hn undef M own _ (.refl M) ⟨rfl,fun _ _=>rfl⟩ Wj (.undef _))
   rw [TR]
   have Xc:(aaX kt (.int q n) Tt.toList).run P w= .ok none w:=by
    simp [aaX,run_underlying t2,k2]
   simp [Instr.mapUpdate,run_underlying t1,run_getObj_map w b Tt clock k.dQ,j7 t2,Xc,MapKept.run_setObj_map _ k.dQ,cR]
theorem CA {ty:TypeId} {m kx:Operand} {ok:Bool} {id:Nat} {q:aaY} {n:Int} {es:List (Int×D)} {et:TypeId} {zd:D} {r:Option D} (ho:o.op= .lookup ty m kx ok) (hk:kX P ty=some (q,et)) (hz:kM P et=some zd)
  (hm:ρ m= .gw id) (hx:ρ kx= .int q n) (hl:pv es n=r):gH P o ρ (.read id (.mp q es) (match ok with|true=> .aL [r.getD zd,.bool r.isSome]|false=>r.getD zd)):=by
 intro w0 M own σ w a i hw hr TB next Q hn
 obtain ⟨kt,t1,t2⟩:=m4 hk
 obtain ⟨b,Tt,clock,k⟩:=hw.mp id _ (by rw [(TB:σ id=_)];rfl)
 have WZ:=hr m (by simp [ho,ZQ])
 have Vj:=eo (hr kx (by simp [ho,ZQ])) hx
 rw [hm] at WZ
 generalize hva:a.eval m=va at WZ
 cases WZ with
 |gw hb=>
  rename_i b'
  rw [k.box] at hb
  obtain rfl:=ZE hb
  obtain ⟨zi,zv,hzi,hzv,rfl⟩:=jv hz
  have main:∃v,cj M (r.getD (hP zv)) v∧(execOp a.eval o).run P w= .ok (.value (if ok then .tuple #[v,.bool r.isSome] else v)) w:=by
   rcases qf (q:=q) (n:=n) 0 k.fits.1 with ⟨j,v0,d0,e0,k1,k2,k3,_⟩|⟨k1,k2,_⟩
   ·rw [k1.1] at hl
    subst hl
    refine ⟨v0,Ga k2,?_⟩
    have Xc:(aaX kt (.int q n) Tt.toList).run P w= .ok (some (j,v0)) w:=by
     simp [aaX,run_underlying t2,k3]
    simp [execOp,ho,Instr.lookup,run_underlying t1,hva,Vj,run_getObj_map w b Tt clock k.dQ,j7 t2,Xc]
   ·rw [k1.1] at hl
    subst hl
    refine ⟨zv,kp zv,?_⟩
    have Xc:(aaX kt (.int q n) Tt.toList).run P w= .ok none w:=by
     simp [aaX,run_underlying t2,k2]
    simp [execOp,ho,Instr.lookup,run_underlying t1,hva,Vj,run_getObj_map w b Tt clock k.dQ,j7 t2,Xc,fJ hzi hzv]
  obtain ⟨v,h1,h2⟩:=main
  refine gz h2 (hn _ M own w (.refl M) ⟨rfl,rfl⟩ hw ?_)
  cases ok
  ·exact h1
  ·refine .aL rfl (fun i d u p q=> ?_)
   match i,p,q with
   |0,p,q=>simp at p q;subst p q;exact h1
   |1,p,q=>simp at p q;subst p q;exact .bool _
   |i+2,p,_=>simp at p
end
section
variable {P:Program} {o:Oper} {ρ:Operand→D}
end
section
variable {P:Program} {o:Oper} {ρ:Operand→D}
end
section
variable {P:Program} {o:Oper} {ρ:Operand→D}
theorem uz (z:Array Value) (n i:Nat) (v:Value) (h:(madeCells z n)[i]? =some v) (hz:0<z.size):z[i%z.size]? =some v∧i<n:=by
 unfold madeCells at h
 rw [Array.getElem?_map,ZS] at h
 obtain ⟨j,hj,rfl⟩:=h
 rw [Array.getElem?_eq_some_iff] at hj
 obtain ⟨h1,h2⟩:=hj
 rw [Array.getElem_range] at h2
 subst h2
 rw [Array.size_range] at h1
 have hm:=Nat.mod_lt i hz
 refine ⟨?_,h1⟩
 rw [getElem!_pos z (i%z.size) hm,Array.getElem?_eq_getElem hm]
theorem AP {zc:List D} (hz:0<zc.length):∀(n i:Nat) (d:D),(Zx n zc).flatten[i]? =some d→zc[i%zc.length]? =some d
 |0,i,d,h=>by simp at h
 |n+1,i,d,h=>by
  rw [List.replicate_succ,List.flatten_cons,aax] at h
  split at h
  ·rename_i hi
   rw [Nat.mod_eq_of_lt hi];exact h
  ·rename_i hi
   have:=AP hz n _ d h
   rwa [← Nat.mod_eq_sub_mod (by omega)] at this
theorem JP {zc:List D} (hz:0<zc.length) (n i:Nat) (d:D) (h:(zW n zc)[i]? =some d):zc[i%zc.length]? =some d:=by
 unfold zW at h
 split at h
 ·rename_i d0
  rw [List.getElem?_replicate] at h
  split at h
  ·simp only [ZK] at h;subst h;simp [Nat.mod_one]
  ·cases h
 ·exact AP hz n i d h
theorem AO (zc:List D):∀n:Nat,((Zx n zc).flatten).length=n*zc.length
 |0=>by simp
 |n+1=>by rw [List.replicate_succ,List.flatten_cons,ZR,AO zc n,Nat.succ_mul];omega
theorem JO (zc:List D) (n:Nat):(zW n zc).length=n*zc.length:=by
 unfold zW
 split
 ·simp
 ·exact AO zc n
theorem MJ {ty e:TypeId} {l c:Operand} {q q':aaY} {n:Int} {zd:D} {zc:List D} (ho:o.op= .makeSlice ty l c) (ht:P.underlying ty=some (.slice e)) (hk:known P e=true) (hz:kM P e=some zd) (Wq:zd.cells=some zc)
  (hlen:zc.length=P.cellsOf e) (TX:0<zc.length) (Xr:P.bytesOf e≤65536) (hl:ρ l= .int q n) (hc:ρ c= .int q' n) (h0:0≤n) (h1:n≤2147483648):
  gH P o ρ (.new (.box (zW n.toNat zc)) fun id=> .dz id (P.cellsOf e) n.toNat):=by
 intro w0 M own σ w a id hw hr TB next Q hn
 obtain ⟨i,v,hi,hv,rfl⟩:=jv hz
 have r1:=eo (hr l (by simp [ho,ZQ])) hl
 have r2:=eo (hr c (by simp [ho,ZQ])) hc
 have hb:(i.bytes:Int)≤65536:=by
  have:P.bytesOf e=i.bytes:=by simp [Program.bytesOf,hi]
  omega
 have Tw:P.cellsOf e=i.size:=by simp [Program.cellsOf,hi]
 have hmul:(i.bytes:Int)*n≤281474976710656:=by
  have:=Int.mul_le_mul hb h1 h0 (by omega:(0:Int)≤65536)
  omega
 have TC:=run_make (P:=P) w ty e i v ht hi hv q q' n n h0 (Int.le_refl _) hmul (by omega)
 have YK:=(kp (M:=M) v).cells Wq
 have hvs:v.cells.size=i.size:=by rw [← YK.1,hlen,Tw]
 have Tn:cA M (zW n.toNat zc) (madeCells v.cells (n.toNat*i.size)):=by
  refine ⟨by rw [JO,size_madeCells,hlen,Tw],fun j d u p r=> ?_⟩
  obtain ⟨u1,_⟩:=uz _ _ _ _ r (by rw [hvs,← Tw,← hlen];exact TX)
  have u2:=JP TX _ _ _ p
  rw [← YK.1] at u1
  exact YK.2 _ d u u2 u1
 have k:=hw.CF TB.1 TB.2 e (Nat.le_of_eq Tn.1) Tn.2
 obtain ⟨b1,vs1,ty1,kb⟩:=k.box id (zW n.toNat zc) (bG _ _ _)
 have eb:b1=w.heap.size:=by have:=kb.box;simp only [MM.cQ,if_true] at this;exact (ZE this).symm
 have Yw:vs1.size=n.toNat*i.size:=by
  have h1:=kb.dQ
  rw [eb] at h1
  have h2:(w.alloc (.cells (madeCells v.cells (n.toNat*i.size)) e)).heap[w.heap.size]? =some (.cells (madeCells v.cells (n.toNat*i.size)) e (0,0)):=by
   show (w.heap.push _)[w.heap.size]? =_
   simp
  rw [h2] at h1
  have h3:=ZE h1
  simp only [Obj.cells.injEq] at h3
  rw [← h3.1,size_madeCells]
 have k2:=k.yt (bG _ _ _) kb (sz:=P.cellsOf e) (len:=n.toNat) (cap:=n.toNat) (TB.2 _) (by rw [Yw,Tw];exact ZP _)
 subst eb
 have U1:(M.cQ id w.heap.size).Le ((M.cQ id w.heap.size).bU id (P.cellsOf e) (.slice (some ⟨w.heap.size,0,none⟩) n.toNat n.toNat)):=MM.fh (TB.2 _)
 refine gz (v:= .slice (some ⟨w.heap.size,0,none⟩) n.toNat n.toNat) (w':=w.alloc (.cells (madeCells v.cells (n.toNat*i.size)) e)) ?_ (hn _ _ _ _ ((MM.gh TB.1).trans U1) ⟨fun j hj=>by simp [MM.cQ,MM.bU,hj],fun j hj=>by funext q;simp [MM.bU,MM.cQ,hj]⟩ k2 (.dz (b:=w.heap.size) (by simp [MM.cQ,MM.bU]) (by simp [MM.bU]) (ZP _)))
 simp only [execOp,ho,r1,r2,ZW,TC,ZO,Z4]
theorem p4 {ty:TypeId} {x ix:Operand} {k:aaY} {i:Int} {elem:TypeId} {id sz n:Nat} (ho:o.op= .indexAddr ty x ix) (hi:ρ ix= .int k i) (ht:P.underlying ty=some (.slice elem)) (hk:known P elem=true)
  (Tw:P.cellsOf elem=sz) (hb:0≤i∧i<n) (hx:ρ x= .dz id sz n):gH P o ρ (.pure (.ptr true id (i.toNat*sz))):=by
 refine cC fun M w a _ hr=> ?_
 have h1:=hr x (by simp [ho,ZQ])
 have h2:=eo (hr ix (by simp [ho,ZQ])) hi
 rw [hx] at h1
 generalize hv:a.eval x=v at h1
 cases h1 with
 |dz U7 hhx Tm=>
  refine ⟨_,?_,.ptr true U7⟩
  have:i<n:=hb.2
  simp [execOp,ho,Instr.indexAt,h2,asIntOf,run_underlying ht,hv,hb.1,this,dk hk,gX,Tw]
theorem pY {ty:TypeId} {x ix:Operand} {k:aaY} {i:Int} {elem:TypeId} {id off sz n:Nat} {cp:Option Nat} (ho:o.op= .indexAddr ty x ix) (hi:ρ ix= .int k i) (ht:P.underlying ty=some (.slice elem)) (hk:known P elem=true)
  (Tw:P.cellsOf elem=sz) (hb:0≤i∧i<n) (hx:ρ x= .sub id off sz n cp):gH P o ρ (.pure (.ptr true id (off+i.toNat*sz))):=by
 refine cC fun M w a _ hr=> ?_
 have h1:=hr x (by simp [ho,ZQ])
 have h2:=eo (hr ix (by simp [ho,ZQ])) hi
 rw [hx] at h1
 generalize hv:a.eval x=v at h1
 cases h1 with
 |sub U7 hc hp U0=>
  obtain rfl:=U0 (by omega)
  refine ⟨_,?_,.ptr true U7⟩
  have:i<n:=hb.2
  simp [execOp,ho,Instr.indexAt,h2,asIntOf,run_underlying ht,hv,hb.1,this,dk hk,gX,Tw]
end
theorem cj.FY {M:MM} {o:lP} {sz:Nat} {xs:List D} {a:Option Addr} {len cap:Nat} (h:cj M (.bc o sz xs) (.slice a len cap)) (l hh m:Nat) (h1:l≤hh) (h2:hh≤len) (h3:hh≤m) (_h4:m≤cap) (o':lP)
  (WA:o'= .no∨(o'= .tight∧m=hh)):cj M (.bc o' sz ((xs.take hh).drop l)) (.slice (if m=l then a else a.map (·.add (l*sz))) (hh - l) (m - l)):=by
 cases h with
 |bc b off vs hl Tm ha Tw hc hr Ty ho=>
  have Uv:∀i x,((xs.take hh).drop l)[i]? =some x→xs[l+i]? =some x∧l+i<hh:=by
   intro i x hx
   rw [aaU,List.getElem?_take] at hx
   split at hx
   ·exact ⟨hx,by assumption⟩
   ·cases hx
  refine .bc b (off+l*sz) (fun i j=>vs (l+i) j) (by simp;omega) (by omega) ?_ ?_ ?_ ?_ ?_ ?_
  ·intro TU
   have Tq:l<hh:=by
    rcases ZY l hh with h|h
    ·exact h
    ·exact absurd (List.drop_eq_nil_of_le (by simp;omega)) TU
   have:xs≠ []:=fun e=>by subst e;simp at hl;omega
   rw [if_neg (by omega),ha this]
   simp [gX]
  ·intro i x hx;exact Tw _ x (Uv i x hx).1
  ·intro i x cs j c hx Tv hj
   have:=hc _ x cs j c (Uv i x hx).1 Tv hj
   rw [Nat.add_mul] at this
   rw [show off+l*sz+i*sz+j=off+(l*sz+i*sz)+j by omega]
   exact this
  ·intro i x cs j c hx Tv hj;exact hr _ x cs j c (Uv i x hx).1 Tv hj
  ·intro i x cs c hx Tv hj;exact Ty _ x cs c (Uv i x hx).1 Tv hj
  ·rcases WA with rfl|⟨rfl,rfl⟩
   ·trivial
   ·rfl
section
variable {ρ':Type} {P:Program} {r:ρ'}
theorem cm {k:aaY} {i:Int} {y:Nat} {code:BoundsCode} (h:0≤i∧i≤y) (w:World):(Instr.sliceBound (.int k i) y code).run P w= .ok i.toNat w:=by
 simp [Instr.sliceBound,asIntOf,h]
def Ei:Option Int→Option Value→Prop
  |none,v=>v=none
  |some n,v=> ∃k,v=some (.int k n)
theorem BB {z:Z P} {o:lP} {sz:Nat} {xs:List D} {lo hi mx:Option Int} {K:Z P→D→Option ρ'} (h:BC z o sz xs lo hi mx K=some r):
  ∃z' d,K z' d=some r∧(z'.c→z.c∧∀(M:MM) (w:World) (t e:TypeId) (u:Value) (lv hv mv:Option Value),P.underlying t=some (.slice e)→known P e=true→P.cellsOf e=sz→cj M (.bc o sz xs) u→
   Ei lo lv→Ei hi hv→Ei mx mv→
   ∃v,(Instr.sliceAt t u lv hv mv).run P w= .ok v w∧cj M d v):=by
 have run:∀ {w:World} {t e:TypeId} {a:Option Addr} {len cap:Nat} {lv hv mv:Option Value} {l hh m:Nat},P.underlying t=some (.slice e)→known P e=true→P.cellsOf e=sz→
   (aac true len cap lv hv mv).run P w= .ok (l,hh,m) w→(Instr.sliceAt t (.slice a len cap) lv hv mv).run P w= .ok (.slice (if m=l then a else a.map (·.add (l*sz))) (hh - l) (m - l)) w:=by
  intro w t e a len cap lv hv mv l hh m ht hk hs hb
  simp only [Instr.sliceAt,ZW,run_underlying ht,ZO,Instr.slice,hb,dk hk,hs,Z4]
 unfold BC at h
 split at h
 ·refine ⟨z,_,h,fun c=>⟨c,fun M w t e u lv hv mv ht hk hs hu e1 e2 e3=> ?_⟩⟩
  obtain rfl:=e1
  obtain rfl:=e2
  obtain rfl:=e3
  cases hu with
  |bc b off vs hl Tm ha Tw hc hr Ty ho=>
   rename_i a len cap
   have hb:(aac true len cap none none none).run P w= .ok (0,len,cap) w:=by simp [aac]
   refine ⟨_,run ht hk hs hb,?_⟩
   have Tn:cj M (.bc o sz xs) (.slice a len cap):= .bc b off vs hl Tm ha Tw hc hr Ty ho
   have hd:(o.bn= .no∨(o.bn= .tight∧cap=len)):=by
    cases o<;>first|exact .inl rfl|exact .inr ⟨rfl,ho⟩
   have:=Tn.FY 0 len cap (by omega) (ZP _) Tm (ZP _) o.bn hd
   rw [List.take_of_length_le (by omega),aaD] at this
   exact this
 ·rename_i l
  obtain ⟨z',h1,h2⟩:=fe h
  refine ⟨z',_,h1,fun c=>⟨(h2 c).1,fun M w t e u lv hv mv ht hk hs hu e1 e2 e3=> ?_⟩⟩
  obtain ⟨k1,rfl⟩:=e1
  obtain rfl:=e2
  obtain rfl:=e3
  have Xg:0≤l∧l≤xs.length:=by simpa using (h2 c).2
  cases hu with
  |bc b off vs hl Tm ha Tw hc hr Ty ho=>
   rename_i a len cap
   have hb:(aac true len cap (some (.int k1 l)) none none).run P w= .ok (l.toNat,len,cap) w:=by
    simp [aac,cm (show 0≤l∧l≤(len:Int) by omega)]
   refine ⟨_,run ht hk hs hb,?_⟩
   have Tn:cj M (.bc o sz xs) (.slice a len cap):= .bc b off vs hl Tm ha Tw hc hr Ty ho
   have hd:(o.bn= .no∨(o.bn= .tight∧cap=len)):=by
    cases o<;>first|exact .inl rfl|exact .inr ⟨rfl,ho⟩
   have:=Tn.FY l.toNat len cap (by omega) (ZP _) Tm (ZP _) o.bn hd
   rw [List.take_of_length_le (by omega)] at this
   exact this
 ·rename_i hh
  obtain ⟨z',h1,h2⟩:=fe h
  refine ⟨z',_,h1,fun c=>⟨(h2 c).1,fun M w t e u lv hv mv ht hk hs hu e1 e2 e3=> ?_⟩⟩
  obtain ⟨k1,rfl⟩:=e2
  obtain rfl:=e1
  obtain rfl:=e3
  have Xg:0≤hh∧hh≤xs.length:=by simpa using (h2 c).2
  cases hu with
  |bc b off vs hl Tm ha Tw hc hr Ty ho=>
   rename_i a len cap
   have hb:(aac true len cap none (some (.int k1 hh)) none).run P w= .ok (0,hh.toNat,cap) w:=by
    simp [aac,cm (show 0≤hh∧hh≤(cap:Int) by omega)]
   refine ⟨_,run ht hk hs hb,?_⟩
   have Tn:cj M (.bc o sz xs) (.slice a len cap):= .bc b off vs hl Tm ha Tw hc hr Ty ho
   have:=Tn.FY 0 hh.toNat cap (by omega) (by omega) (by omega) (ZP _) .no (.inl rfl)
   rw [aaD] at this
   exact this
 ·rename_i l hh
  obtain ⟨z',h1,h2⟩:=fe h
  refine ⟨z',_,h1,fun c=>⟨(h2 c).1,fun M w t e u lv hv mv ht hk hs hu e1 e2 e3=> ?_⟩⟩
  obtain ⟨k1,rfl⟩:=e1
  obtain ⟨k2,rfl⟩:=e2
  obtain rfl:=e3
  have Xg:0≤l∧l≤hh∧hh≤xs.length:=by simpa using (h2 c).2
  cases hu with
  |bc b off vs hl Tm ha Tw hc hr Ty ho=>
   rename_i a len cap
   have hb:(aac true len cap (some (.int k1 l)) (some (.int k2 hh)) none).run P w= .ok (l.toNat,hh.toNat,cap) w:=by
    simp [aac,cm (show 0≤hh∧hh≤(cap:Int) by omega),cm (show 0≤l∧l≤(hh.toNat:Int) by omega)]
   refine ⟨_,run ht hk hs hb,?_⟩
   have Tn:cj M (.bc o sz xs) (.slice a len cap):= .bc b off vs hl Tm ha Tw hc hr Ty ho
   exact Tn.FY l.toNat hh.toNat cap (by omega) (by omega) (by omega) (ZP _) .no (.inl rfl)
 ·rename_i hh m
  obtain ⟨z',h1,h2⟩:=fe h
  refine ⟨z',_,h1,fun c=>⟨(h2 c).1,fun M w t e u lv hv mv ht hk hs hu e1 e2 e3=> ?_⟩⟩
  obtain ⟨k1,rfl⟩:=e2
  obtain ⟨k2,rfl⟩:=e3
  obtain rfl:=e1
  have Xg:0≤hh∧hh≤xs.length∧m=hh:=by simpa using (h2 c).2
  obtain ⟨hb1,hb2,rfl⟩:=Xg
  cases hu with
  |bc b off vs hl Tm ha Tw hc hr Ty ho=>
   rename_i a len cap
   have hb:(aac true len cap none (some (.int k1 m)) (some (.int k2 m))).run P w= .ok (0,m.toNat,m.toNat) w:=by
    simp [aac,cm (show 0≤m∧m≤(cap:Int) by omega),cm (show 0≤m∧m≤(m.toNat:Int) by omega)]
   refine ⟨_,run ht hk hs hb,?_⟩
   have Tn:cj M (.bc o sz xs) (.slice a len cap):= .bc b off vs hl Tm ha Tw hc hr Ty ho
   have:=Tn.FY 0 m.toNat m.toNat (by omega) (by omega) (by omega) (by omega) .tight (.inr ⟨rfl,rfl⟩)
   rw [aaD] at this
   exact this
 ·rename_i l hh m
  obtain ⟨z',h1,h2⟩:=fe h
  refine ⟨z',_,h1,fun c=>⟨(h2 c).1,fun M w t e u lv hv mv ht hk hs hu e1 e2 e3=> ?_⟩⟩
  obtain ⟨k1,rfl⟩:=e1
  obtain ⟨k2,rfl⟩:=e2
  obtain ⟨k3,rfl⟩:=e3
  have Xg:0≤l∧l≤hh∧hh≤xs.length∧m=hh:=by simpa using (h2 c).2
  obtain ⟨hb1,hb2,hb3,rfl⟩:=Xg
  cases hu with
  |bc b off vs hl Tm ha Tw hc hr Ty ho=>
   rename_i a len cap
   have hb:(aac true len cap (some (.int k1 l)) (some (.int k2 m)) (some (.int k3 m))).run P w= .ok (l.toNat,m.toNat,m.toNat) w:=by
    simp [aac,cm (show 0≤m∧m≤(cap:Int) by omega),cm (show 0≤m∧m≤(m.toNat:Int) by omega),cm (show 0≤l∧l≤(m.toNat:Int) by omega)]
   refine ⟨_,run ht hk hs hb,?_⟩
   have Tn:cj M (.bc o sz xs) (.slice a len cap):= .bc b off vs hl Tm ha Tw hc hr Ty ho
   exact Tn.FY l.toNat m.toNat m.toNat (by omega) (by omega) (by omega) (by omega) .tight (.inr ⟨rfl,rfl⟩)
 ·cases h
theorem rW {z:Z P} {id off sz n:Nat} {cp:Option Nat} {lo hi mx:Option Int} {K:Z P→D→Option ρ'} (h:Ji z id off sz n cp lo hi mx K=some r):
  ∃(z':Z P) (l hh:Nat) (WL:Option Nat),K z' (.sub id (off+l*sz) sz (hh - l) WL)=some r∧(z'.c→z.c∧l≤hh∧hh≤n∧∀(q:Bool) (w:World) (c:Nat) (lv hv mv:Option Value),n≤c→(∀k,cp=some k→c=k)→Ei lo lv→Ei hi hv→Ei mx mv→
   ∃m,hh≤m∧(∀k,WL=some k→m - l=k)∧(aac q n c lv hv mv).run P w= .ok (l,hh,m) w):=by
 unfold Ji at h
 split at h
 ·refine ⟨z,0,n,cp,by simpa using h,fun c=>⟨c,Nat.zero_le _,ZP _,fun q w c lv hv mv hc hp e1 e2 e3=> ?_⟩⟩
  obtain rfl:=e1
  obtain rfl:=e2
  obtain rfl:=e3
  exact ⟨c,hc,fun k hk=>by rw [hp k hk];rfl,by simp [aac]⟩
 ·rename_i l
  obtain ⟨z',h1,h2⟩:=fe h
  refine ⟨z',l.toNat,n,cp.map (· - l.toNat),h1,fun c=> ?_⟩
  have hb:0≤l∧l≤(n:Int):=by simpa using (h2 c).2
  refine ⟨(h2 c).1,by omega,ZP _,fun q w c lv hv mv hc hp e1 e2 e3=> ?_⟩
  obtain ⟨k1,rfl⟩:=e1
  obtain rfl:=e2
  obtain rfl:=e3
  refine ⟨c,hc,fun k hk=> ?_,by simp [aac,cm hb]⟩
  cases cp with
  |none=>cases hk
  |some v=>rw [hp v rfl];simpa using hk
 ·rename_i hh
  obtain ⟨z',h1,h2⟩:=fe h
  refine ⟨z',0,hh.toNat,cp,by simpa using h1,fun c=> ?_⟩
  have hb:0≤hh∧hh≤(n:Int):=by simpa using (h2 c).2
  refine ⟨(h2 c).1,Nat.zero_le _,by omega,fun q w c lv hv mv hc hp e1 e2 e3=> ?_⟩
  obtain ⟨k1,rfl⟩:=e2
  obtain rfl:=e1
  obtain rfl:=e3
  exact ⟨c,by omega,fun k hk=>by rw [hp k hk];rfl,by simp [aac,cm (show 0≤hh∧hh≤(c:Int) by omega)]⟩
 ·rename_i l hh
  obtain ⟨z',h1,h2⟩:=fe h
  refine ⟨z',l.toNat,hh.toNat,cp.map (· - l.toNat),h1,fun c=> ?_⟩
  have hb:0≤l∧l≤hh∧hh≤(n:Int):=by simpa using (h2 c).2
  refine ⟨(h2 c).1,by omega,by omega,fun q w c lv hv mv hc hp e1 e2 e3=> ?_⟩
  obtain ⟨k1,rfl⟩:=e1
  obtain ⟨k2,rfl⟩:=e2
  obtain rfl:=e3
  refine ⟨c,by omega,fun k hk=> ?_,by simp [aac,cm (show 0≤hh∧hh≤(c:Int) by omega),cm (show 0≤l∧l≤(hh.toNat:Int) by omega)]⟩
  cases cp with
  |none=>cases hk
  |some v=>rw [hp v rfl];simpa using hk
 ·rename_i hh m
  obtain ⟨z',h1,h2⟩:=fe h
  refine ⟨z',0,hh.toNat,some m.toNat,by simpa using h1,fun c=> ?_⟩
  have hb:0≤hh∧hh≤m∧m≤(n:Int):=by simpa using (h2 c).2
  refine ⟨(h2 c).1,Nat.zero_le _,by omega,fun q w c lv hv mv hc hp e1 e2 e3=> ?_⟩
  obtain ⟨k1,rfl⟩:=e2
  obtain ⟨k2,rfl⟩:=e3
  obtain rfl:=e1
  exact ⟨m.toNat,by omega,fun k hk=>by simpa using hk,by simp [aac,cm (show 0≤m∧m≤(c:Int) by omega),cm (show 0≤hh∧hh≤(m.toNat:Int) by omega)]⟩
 ·rename_i l hh m
  obtain ⟨z',h1,h2⟩:=fe h
  refine ⟨z',l.toNat,hh.toNat,some (m.toNat - l.toNat),h1,fun c=> ?_⟩
  have hb:0≤l∧l≤hh∧hh≤m∧m≤(n:Int):=by simpa using (h2 c).2
  refine ⟨(h2 c).1,by omega,by omega,fun q w c lv hv mv hc hp e1 e2 e3=> ?_⟩
  obtain ⟨k1,rfl⟩:=e1
  obtain ⟨k2,rfl⟩:=e2
  obtain ⟨k3,rfl⟩:=e3
  exact ⟨m.toNat,by omega,fun k hk=>by simpa using hk,by simp [aac,cm (show 0≤m∧m≤(c:Int) by omega),cm (show 0≤hh∧hh≤(m.toNat:Int) by omega),cm (show 0≤l∧l≤(hh.toNat:Int) by omega)]⟩
 ·cases h
theorem sq {M:MM} {id off o2 sz n b l hh m:Nat} {WL:Option Nat} (hb:M.box id=some b) (U0:n≠0→o2=off) (h1:l≤hh) (h2:hh≤n) (h3:hh≤m) (hp:∀k,WL=some k→m - l=k):
  cj M (.sub id (off+l*sz) sz (hh - l) WL) (.slice (if m=l then some ⟨b,o2,none⟩ else some ((⟨b,o2,none⟩:Addr).add (l*sz))) (hh - l) (m - l)):=by
 split
 ·exact .sub hb (by omega) hp (fun hn=>by omega)
 ·rw [gX]
  exact .sub hb (by omega) hp (fun hn=>by rw [U0 (by omega)])
theorem mz {w:World} {t e:TypeId} {a:Addr} {len cap sz:Nat} {lv hv mv:Option Value} {l hh m:Nat} (ht:P.underlying t=some (.slice e)) (hk:known P e=true) (hs:P.cellsOf e=sz) (hb:(aac true len cap lv hv mv).run P w= .ok (l,hh,m) w):
  (Instr.sliceAt t (.slice (some a) len cap) lv hv mv).run P w= .ok (.slice (if m=l then some a else some (a.add (l*sz))) (hh - l) (m - l)) w:=by
 simp only [Instr.sliceAt,ZW,run_underlying ht,ZO,Instr.slice,hb,dk hk,hs,Z4,aaT]
theorem qK {w:World} {t e:TypeId} {a:Addr} {n sz:Nat} {lv hv mv:Option Value} {l hh m:Nat} (ht:P.underlying t=some (.array n e)) (hk:known P e=true) (hs:P.cellsOf e=sz) (hb:(aac false n n lv hv mv).run P w= .ok (l,hh,m) w):
  (Instr.sliceAt t (.pointer (some a)) lv hv mv).run P w= .ok (.slice (if m=l then some a else some (a.add (l*sz))) (hh - l) (m - l)) w:=by
 simp only [Instr.sliceAt,ZW,run_underlying ht,ZO,Instr.sureAddr,hb,dk hk,hs,Z4]
 split<;>rfl
theorem M5 {x:D} {K:Int→Option ρ'} (h:idx x K=some r):∃k n,x= .int k n∧K n=some r:=by
 unfold idx at h
 split at h
 ·exact ⟨_,_,rfl,h⟩
 ·cases h
theorem fw {t:List D} {o:Option Operand} {K:Option Int→Option ρ'} (h:jl t o K=some r):∃n,K n=some r∧∀(M:MM) (a:Act),(∀x,o=some x→cj M (cP t x) (a.eval x))→Ei n (o.map a.eval):=by
 unfold jl at h
 split at h
 ·exact ⟨none,h,fun M a _=>rfl⟩
 ·obtain ⟨k,n,hx,hK⟩:=M5 h
  refine ⟨some n,hK,fun M a hr=>⟨k,?_⟩⟩
  have:=eo (hr _ rfl) hx
  simp [this]
theorem fI {o:Oper} {ρv:Operand→Value} {c:Call} {b:Builtin} (ho:o.op= .call c) (hc:c.callee= .builtin b) (w:World):
  (execOp ρv o).run P w=(builtin b c.argTypes o.type (c.args.map fun| .const _=>true|_=>false) (c.args.map ρv)).run P w:=by
 simp only [execOp,ho,resolve,hc,ZW,Z4,ZO,invoke]
 rfl
theorem KV {t:TypeId} {x:D} {K:D→Option ρ'} (h:Pk P t x K=some r):∃d,K d=some r∧∀(M:MM) (w:World) (u:Value) (ts:Array TypeId) (ty:TypeId) (vs:Array Value),cj M x u→ts[0]? =some t→vs[0]? =some u→∃v,(Builtin.len_ ts ty vs).run P w= .ok v w∧cj M d v:=by
 unfold Pk at h
 split at h
 ·rename_i ht
  refine ⟨_,h,fun M w u ts ty vs hu h1 h2=> ?_⟩
  cases hu
  exact ⟨.int .i64 _,by simp [Builtin.len_,h1,h2,run_underlying ht,goInt],.int _ _⟩
 ·rename_i ht
  refine ⟨_,h,fun M w u ts ty vs hu h1 h2=> ?_⟩
  exact ⟨.int .i64 _,by simp [Builtin.len_,h1,h2,run_underlying ht,goInt],.int _ _⟩
 ·rename_i ht
  refine ⟨_,h,fun M w u ts ty vs hu h1 h2=> ?_⟩
  cases hu with
  |bc b off vs' hl Tm ha Tw hc hr Ty ho=>exact ⟨.int .i64 _,by simp [Builtin.len_,h1,h2,run_underlying ht,goInt];omega,.int _ _⟩
 ·rename_i ht
  refine ⟨_,h,fun M w u ts ty vs hu h1 h2=> ?_⟩
  cases hu with
  |dz hb hh hc=>exact ⟨.int .i64 _,by simp [Builtin.len_,h1,h2,run_underlying ht,goInt],.int _ _⟩
 ·rename_i ht
  refine ⟨_,h,fun M w u ts ty vs hu h1 h2=> ?_⟩
  cases hu with
  |sub hb hc hp U0=>exact ⟨.int .i64 _,by simp [Builtin.len_,h1,h2,run_underlying ht,goInt],.int _ _⟩
 ·cases h
theorem KM {x y:D} {K:D→Option ρ'} (h:O7 x y K=some r):∃d,K d=some r∧∀(M:MM) (w:World) (u v:Value) (ts:Array TypeId) (ty:TypeId) (vs:Array Value),cj M x u→cj M y v→vs.toList= [u,v]→∃q,(Builtin.min_ ts ty vs).run P w= .ok q w∧cj M d q:=by
 unfold O7 at h
 split at h
 ·refine ⟨_,h,fun M w u v ts ty vs hu hv h1=> ?_⟩
  cases hu;cases hv
  exact ⟨_,by simp only [Builtin.min_,h1,List.foldlM_cons,List.foldlM_nil,Builtin.min2,pure_bind];rfl,.int _ _⟩
 ·cases h
theorem KQ {x y:D} {K:D→Option ρ'} (h:Pc x y K=some r):∃d,K d=some r∧∀(M:MM) (w:World) (u v:Value) (ts:Array TypeId) (ty:TypeId) (vs:Array Value),cj M x u→cj M y v→vs.toList= [u,v]→∃q,(Builtin.max_ ts ty vs).run P w= .ok q w∧cj M d q:=by
 unfold Pc at h
 split at h
 ·refine ⟨_,h,fun M w u v ts ty vs hu hv h1=> ?_⟩
  cases hu;cases hv
  exact ⟨_,by simp only [Builtin.max_,h1,List.foldlM_cons,List.foldlM_nil,Builtin.max2,pure_bind];rfl,.int _ _⟩
 ·cases h
end
structure jf (M:MM) (sz:Nat) (xs:List D) (arr:Array Value):Prop where
  len:xs.length*sz≤arr.size
  elem:∀(i:Nat) (x:D),xs[i]? =some x→∃cs,x.cells=some cs∧cs.length=sz
  get:∀(i:Nat) (x:D) (cs:List D) (j:Nat) (c:D),xs[i]? =some x→x.cells=some cs→cs[j]? =some c→∃v,arr[i*sz+j]? =some v∧cj M.bare c v
  st:∀(i:Nat) (x:D) (cs:List D) (c:D),xs[i]? =some x→x.cells=some cs→c∈cs→storable c=true
theorem jf.mono {M M':MM} {sz:Nat} {xs:List D} {arr:Array Value} (h:jf M sz xs arr) (le:M.Le M'):jf M' sz xs arr:=
 ⟨h.len,h.elem,fun i x cs j c h1 h2 h3=>let ⟨v,a,b⟩:=h.get i x cs j c h1 h2 h3;⟨v,a,b.mono le.bare⟩,h.st⟩
def MM.lay (M:MM) (b:Nat) (arr:Array Value) (n:Nat):MM:=M.cy b fun o=>if o<n then arr[o]? else none
theorem rA {M:MM} {w wd:World} {arr:Array Value} {ty:TypeId} {n:Nat} (hw:∀b o v,M.cell b o=some v→w.cell? ⟨b,o,none⟩=some v) (hd:wd.heap=w.heap) (hb:Below w.heap.size w wd) (fz:Nat×Nat):
  Ext M w (M.lay w.heap.size arr n) (wd.alloc (.cells arr ty fz)):=by
 have Tw:wd.heap.size=w.heap.size:=by rw [hd]
 refine ⟨hb.alloc (by omega) _,?_,?_,?_⟩
 ·intro b o v h
  have:b≠w.heap.size:=fun e=>by rw [e,ev hw (ZP _) o] at h;cases h
  simp only [MM.lay,MM.cy,this,if_false];exact h
 ·intro b o v h Tq
  simp only [MM.lay,MM.cy,show b≠w.heap.size by omega,if_false] at h;exact h
 ·intro b o v h
  by_cases e:b=w.heap.size
  ·subst e
   simp only [MM.lay,MM.cy,if_true] at h
   split at h
   ·have hh:(wd.alloc (.cells arr ty fz)).heap[w.heap.size]? =some (.cells arr ty fz):=by
     show (wd.heap.push _)[w.heap.size]? =_
     rw [← Tw];simp
    simp only [World.cell?,hh]
    exact h
   ·cases h
  ·simp only [MM.lay,MM.cy,e,if_false] at h
   have h1:=hw b o v h
   have Tq:b<w.heap.size:=World.block_lt_of_cell? w _ h1
   rw [World.cell?_alloc_lt _ _ _ (by simpa [Tw] using Tq)]
   simpa [World.cell?,hd] using h1
theorem qX {M:MM} {b:Nat} {arr:Array Value} {sz:Nat} {xs:List D} {o:lP} {cap n:Nat} (h:jf M sz xs arr) (hM:∀o,M.cell b o=none) (Tm:xs.length≤cap) (hn:xs.length*sz≤n) (ho:(M.lay b arr n).pX o (some ⟨b,0,none⟩) xs.length cap):
  cj (M.lay b arr n) (.bc o sz xs) (.slice (some ⟨b,0,none⟩) xs.length cap):=by
 have le:M.Le (M.lay b arr n):=by
  refine ⟨fun c o v k=> ?_,fun _ _ k=>k,fun _ _ _ k=>k,fun _ k=>k⟩
  have:c≠b:=fun e=>by rw [e,hM o] at k;cases k
  simp only [MM.lay,MM.cy,this,if_false];exact k
 have Tq:∀ {i j:Nat} {x:D} {cs:List D} {c:D},xs[i]? =some x→x.cells=some cs→cs[j]? =some c→i*sz+j<xs.length*sz:=by
  intro i j x cs c h1 h2 h3
  obtain ⟨TT,e1,e2⟩:=h.elem i x h1
  rw [h2] at e1
  obtain rfl:=ZE e1
  have hj:j<sz:=by
   rcases ZY j cs.length with q|q
   ·omega
   ·simp [ZN q] at h3
  have hi:i<xs.length:=by
   rcases ZY i xs.length with q|q
   ·exact q
   ·simp [ZN q] at h1
  have:(i+1)*sz≤xs.length*sz:=Nat.mul_le_mul_right _ hi
  rw [Nat.add_mul] at this
  omega
 refine .bc b 0 (fun i j=>(arr[i*sz+j]?).getD .nilFunc) rfl Tm (fun _=>rfl) h.elem ?_ ?_ h.st ho
 ·intro i x cs j c h1 h2 h3
  obtain ⟨v,hv,_⟩:=h.get i x cs j c h1 h2 h3
  have:=Tq h1 h2 h3
  simp only [MM.lay,MM.cy,if_true,aan,hv,aay]
  rw [if_pos (by omega)]
 ·intro i x cs j c h1 h2 h3
  obtain ⟨v,hv,hr⟩:=h.get i x cs j c h1 h2 h3
  simp only [hv,aay]
  exact hr.mono le.bare
theorem sD {ρ':Type} {r:ρ'} {x:D} {k:D→Option ρ'} (h:xw x k=some r):∃y,k y=some r∧(∀(M:MM) (v:Value),cj M x v→cj M.bare y v)∧y.plain=true:=by
 unfold xw at h
 split at h
 ·rename_i hp
  exact ⟨x,h,fun M v hr=>hr.MW hp,hp⟩
 ·obtain ⟨hc,hk⟩:=b8 h
  exact ⟨_,hk,fun M v hr=>hr.pQ hc,pG hc⟩
theorem Ct {ρ':Type} {r:ρ'} {x:D} {k:D→Option ρ'} (h:Cu x k=some r):∃y,k y=some r∧∀(M:MM) (v:Value),cj M x v→cj M.bare y v:=by
 unfold Cu at h
 split at h
 ·rename_i q id off
  refine ⟨_,h,fun M v hr=> ?_⟩
  cases hr with
  |ptr _ hb=>
   rename_i b
   have:=cj.eY (M:=M.bare) false (x:= .agg []) (cs:= []) (off:=off) (b:=b) (base:=0) (fun _=> .nilFunc) rfl (fun j c hj=>by simp at hj) (fun j c hj=>by simp at hj)
   rw [aan] at this
   exact this
 ·refine ⟨_,h,fun M v hr=> ?_⟩
  cases hr with
  |eY _ vs hx hc hr=>exact .eY _ vs hx hc hr
 ·obtain ⟨y,hy,hr,_⟩:=sD h
  exact ⟨y,hy,hr⟩
theorem mW {ρ':Type} {r:ρ'} :∀ {l:List D} {k:List D→Option ρ'},pg l k=some r→∃l',k l'=some r∧∀(M:MM) (vs:Array Value),cA M l vs→cA M.bare l' vs
 | [],k,h=>⟨[],h,fun M vs hr=>⟨hr.1,fun i d v a=>by simp at a⟩⟩
 |x::l,k,h=>by
  unfold pg at h
  obtain ⟨y,hy,hr⟩:=Ct h
  obtain ⟨l',hk,hl⟩:=mW hy
  refine ⟨y::l',hk,fun M vs hv=> ?_⟩
  have hs:vs.size=l.length+1:=by have:=hv.1;simp at this;omega
  have XP:cA M l (vs.extract 1 vs.size):=by
   refine ⟨by simp;omega,fun i d v a b=> ?_⟩
   rw [Array.getElem?_extract] at b
   split at b
   ·exact hv.2 (i+1) d v (by simpa using a) (by rw [Nat.add_comm];exact b)
   ·cases b
  have h2:=hl M _ XP
  refine ⟨by have:=h2.1;simp at this ⊢;omega,fun i d v a b=> ?_⟩
  cases i with
  |zero=>simp at a;subst a;exact hr M v (hv.2 0 x v rfl b)
  |succ i=>
   refine h2.2 i d v (by simpa using a) ?_
   rw [Array.getElem?_extract]
   have:i+1<vs.size:=by
    rcases ZY (i+1) vs.size with q|q
    ·exact q
    ·simp [aak q] at b
   rw [if_pos (by omega),Nat.add_comm]
   exact b
theorem pU {sz i j n:Nat} (hi:i<n) (hj:j<sz):i*sz+j<n*sz:=by
 have:(i+1)*sz≤n*sz:=Nat.mul_le_mul_right _ hi
 rw [Nat.add_mul] at this
 omega
theorem Ou {sz i i' j j':Nat} (hj:j<sz) (YX:j'<sz) (h:i≠i'):i*sz+j≠i'*sz+j':=by
 intro e
 rcases Nat.lt_or_gt_of_ne h with q|q
 ·have:=pU q hj;omega
 ·have:=pU q YX;omega
theorem qY {n i:Nat} {a x:D} (h:(Zx n a)[i]? =some x):i<n∧a=x:=by
 rw [List.getElem?_replicate] at h
 split at h
 ·exact ⟨by assumption,ZE h⟩
 ·cases h
section
variable {ρ':Type} {P:Program} {r:ρ'}
theorem oS {size:Nat} :∀ {parts:List (Nat×D)} {xs:List D} {k:List D→Option ρ'},mO size xs parts k=some r→
  ∃xs',k xs'=some r∧xs'.length=xs.length∧∀(M:MM) (T6:List (Nat×Value)) (arr:Array Value),NN M parts T6→jf M size xs arr→
   ∃arr',Instr.fill (fun i=>some (i*size,size)) arr T6=some arr'∧jf M size xs' arr'∧arr'.size=arr.size
 | [],xs,k,h=>⟨xs,h,rfl,fun M T6 arr hp hr=>by
   cases T6 with
   |nil=>exact ⟨arr,rfl,hr,rfl⟩
   |cons _ _=>exact hp.elim⟩
 |(i,d)::rest,xs,k,h=>by
  unfold mO at h
  obtain ⟨y,hy,Tn,_⟩:=sD h
  split at hy
  ·rename_i vc Wv
   obtain ⟨h1,h2⟩:=b8 hy
   rw [ZD,ZD,Z3,aab] at h1
   obtain ⟨⟨Tw,Tq⟩,Ty⟩:=h1
   have Tq:i<xs.length:=Nat.lt_of_succ_le (by simpa [Nat.blt,aaF] using Tq)
   obtain ⟨xs',hk,hl,Um⟩:=oS h2
   refine ⟨xs',hk,by simpa using hl,fun M T6 arr hp hr=> ?_⟩
   cases T6 with
   |nil=>exact hp.elim
   |cons p s=>
    obtain ⟨j,u⟩:=p
    obtain ⟨rfl,hd,hp⟩:=hp
    have TA:=(Tn M u hd).cells Wv
    have YJ:u.cells.size=size:=by rw [← TA.1];exact Tw
    have hbound:i*size+size≤xs.length*size:=by
     have:(i+1)*size≤xs.length*size:=Nat.mul_le_mul_right _ Tq
     rwa [Nat.add_mul,Nat.one_mul] at this
    have TZ:i*size+u.cells.toList.length≤arr.size:=by rw [aal,YJ];exact aaS hbound hr.len
    have UJ:jf M size (xs.set i y) (eG arr (i*size) u.cells.toList):=by
     refine ⟨by rw [e9,aaz];exact hr.len,?_,?_,?_⟩
     ·intro k x hx
      by_cases e:i=k
      ·subst e
       rw [List.getElem?_set_self (by simpa using Tq)] at hx
       obtain rfl:=ZE hx
       exact ⟨vc,Wv,Tw⟩
      ·rw [aaL e] at hx
       exact hr.elem k x hx
     ·intro k x cs j c hx Tv hj
      rw [jk _ _ _ _ TZ]
      rw [aal,YJ]
      by_cases e:i=k
      ·subst e
       rw [List.getElem?_set_self (by simpa using Tq)] at hx
       obtain rfl:=ZE hx
       rw [Wv] at Tv
       obtain rfl:=ZE Tv
       obtain ⟨v,hv,Xk⟩:=TA.get hj
       have U9:j<size:=by
        rcases ZY j vc.length with q|q
        ·omega
        ·simp [ZN q] at hj
       rw [if_pos ⟨by omega,by omega⟩,show i*size+j - i*size=j by omega]
       exact ⟨v,by simpa using hv,Xk⟩
      ·rw [aaL e] at hx
       obtain ⟨TT,q1,q2⟩:=hr.elem k x hx
       rw [Tv] at q1
       obtain rfl:=ZE q1
       have U9:j<size:=by
        rcases ZY j cs.length with q|q
        ·omega
        ·simp [ZN q] at hj
       rw [if_neg]
       ·exact hr.get k x cs j c hx Tv hj
       ·intro hh
        obtain ⟨m,hm⟩:∃m,k*size+j=i*size+m:=⟨k*size+j - i*size,by omega⟩
        exact Ou U9 (show m<size by omega) (Ne.symm e) hm
     ·intro k x cs c hx Tv hc
      by_cases e:i=k
      ·subst e
       rw [List.getElem?_set_self (by simpa using Tq)] at hx
       obtain rfl:=ZE hx
       rw [Wv] at Tv
       obtain rfl:=ZE Tv
       exact Ty c hc
      ·rw [aaL e] at hx
       exact hr.st k x cs c hx Tv hc
    obtain ⟨arr',f1,f2,f3⟩:=Um M s _ hp UJ
    refine ⟨arr',?_,f2,by rw [f3,e9]⟩
    have e2:¬(i*size+size>arr.size):=by have:=hr.len;omega
    rw [Instr.fill]
    simp only [YJ,ne_eq,not_true_eq_false,decide_false,Bool.false_or,e2,aah,if_false,tc]
    exact f1
  ·cases hy
end
section
variable {P:Program} {o:Oper} {ρ:Operand→D}
theorem Ek {M:MM} {d:D} {zc:List D} {v:Value} (hc:d.cells=some zc) (hd:cj M.bare d v) (Ty:∀c∈zc,storable c=true) (len:Nat):
  jf M zc.length (Zx len d) ((Array.range (len*zc.length)).map (v.cells[· %v.cells.size]!)):=by
 have TA:=hd.cells hc
 refine ⟨by simp,?_,?_,?_⟩
 ·intro i x hx
  obtain ⟨_,rfl⟩:=qY hx
  exact ⟨zc,hc,rfl⟩
 ·intro i x cs j c hx Tv hj
  obtain ⟨hi,rfl⟩:=qY hx
  rw [hc] at Tv
  obtain rfl:=ZE Tv
  obtain ⟨u,hu,hru⟩:=TA.get hj
  have U9:j<zc.length:=by
   rcases ZY j zc.length with q|q
   ·exact q
   ·simp [ZN q] at hj
  refine ⟨u,?_,hru⟩
  have:=pU hi U9
  simp only [Array.getElem?_map,Array.getElem?_range,this,if_true,aaT,ZK]
  rw [← TA.1,Nat.add_comm,Nat.add_mul_mod_self_right,Nat.mod_eq_of_lt U9]
  have Zd:j<v.cells.size:=by rw [← TA.1];exact U9
  rw [getElem!_pos v.cells j Zd]
  rw [getElem?_pos v.cells j Zd] at hu
  exact ZE hu
 ·intro i x cs c hx Tv T3
  obtain ⟨_,rfl⟩:=qY hx
  rw [hc] at Tv
  obtain rfl:=ZE Tv
  exact Ty c T3
theorem uv {ρ':Type} {r:ρ'} {ty:TypeId} {len:Nat} {parts:Array (Nat×Operand)} {e:TypeId} {d:D} {zc:List D} {k:List D→Option ρ'} (ho:o.op= .buildSlice ty len parts) (ht:P.underlying ty=some (.slice e)) (hz:kM P e=some d) (hc:d.cells=some zc)
  (hk:known P e=true) (Tw:zc.length=P.cellsOf e) (VE:len*P.cellsOf e≤16777216) (Ty:∀c∈zc,storable c=true)
  (h:mO (P.cellsOf e) (Zx len d) (parts.toList.map fun p=>(p.1,ρ p.2)) k=some r):
  ∃xs,k xs=some r∧gH P o ρ (.pure (.bc .tight (P.cellsOf e) xs)):=by
 obtain ⟨xs,h1,h2,h3⟩:=oS h
 refine ⟨xs,h1,Au fun M w a hw hr=> ?_⟩
 have U6:=zT (M:=M) (ρ:=ρ) (a:=a) parts.toList (fun p hp=>hr p.2 (by
  simp only [ho,ZQ]
  exact List.mem_toArray.2 (List.mem_map.2 ⟨p,hp,rfl⟩)))
 have XF:(parts.map fun (i,x)=>(i,a.eval x)).toList=parts.toList.map fun p=>(p.1,a.eval p.2):=by simp
 obtain ⟨i,v,hi,hv,rfl⟩:=jv hz
 have hlen:xs.length=len:=by rw [h2];simp
 obtain ⟨arr0,hr0,hs0,hrun0⟩:∃arr0:Array Value,jf M (P.cellsOf e) (Zx len (hP v)) arr0∧arr0.size=len*P.cellsOf e∧
   (if len*P.cellsOf e=0 then pure #[] else do pure (← zeroValue e).cells:Sem (Array Value)).run P w= .ok (if len*P.cellsOf e=0 then #[] else v.cells) w∧
   ((Array.range (len*P.cellsOf e)).map ((if len*P.cellsOf e=0 then #[] else v.cells)[· %(if len*P.cellsOf e=0 then #[] else v.cells).size]!))=arr0:=by
  by_cases hz0:len*P.cellsOf e=0
  ·refine ⟨#[],?_,by simp [hz0],by simp [hz0],by simp [hz0]⟩
   rcases Nat.eq_zero_or_pos len with e1|e1
   ·subst e1
    exact ⟨by simp,fun i x hx=>by simp at hx,fun i x cs j c hx=>by simp at hx,fun i x cs c hx=>by simp at hx⟩
   ·have e2:P.cellsOf e=0:=by
     rcases Nat.mul_eq_zero.1 hz0 with q|q
     ·omega
     ·exact q
    have e3:zc= []:=List.eq_nil_of_length_eq_zero (by omega)
    subst e3
    refine ⟨by simp [e2],fun i x hx=> ?_,fun i x cs j c hx Tv hj=> ?_,fun i x cs c hx Tv T3=> ?_⟩<;>obtain ⟨_,rfl⟩:=qY hx
    ·exact ⟨[],hc,by simp [e2]⟩
    ·rw [hc] at Tv;obtain rfl:=ZE Tv;simp at hj
    ·rw [hc] at Tv;obtain rfl:=ZE Tv;simp at T3
  ·refine ⟨_,?_,?_,by simp [hz0,fJ hi hv],rfl⟩
   ·rw [if_neg hz0,← Tw]
    exact Ek hc (kp v) Ty len
   ·simp
 obtain ⟨arr,hf,UJ,hsa⟩:=h3 M _ _ U6 hr0
 have hx:=rA (M:=M) (w:=w) (wd:=w) (arr:=arr) (ty:=e) (n:=arr.size) hw rfl (Below.refl _ _) (0,0)
 have hl:=qX (b:=w.heap.size) (o:= .tight) (cap:=xs.length) (n:=arr.size) UJ (ev hw (ZP _)) (ZP _) UJ.len rfl
 refine ⟨_,_,_,?_,hx,rfl,rfl,rfl,hl⟩
 simp only [execOp,ho,Instr.buildSlice,ZW,run_underlying ht,ZO,dk hk]
 rw [if_neg (by omega)]
 have XG:(newRow e arr).run P w= .ok ⟨w.heap.size,0,none⟩ (w.alloc (.cells arr e)):=by simp [newRow]
 by_cases hz0:len*P.cellsOf e=0
 ·have h5:=hrun0.2
  rw [hz0] at h5
  simp only [hz0,if_true,ZW,Z4,ZO,XF]
  simp only [if_true] at h5
  rw [h5,hf]
  simp only [ZW,XG,ZO,Z4,hlen]
 ·have h5:=hrun0.2
  simp only [hz0,if_false] at h5
  simp only [hz0,if_false,ZW,fJ hi hv,Z4,ZO,XF,h5]
  rw [hf]
  simp only [ZW,XG,ZO,Z4,hlen]
theorem ny {M:MM} {ow:lP} {sz size:Nat} {xs:List D} {a:Option Addr} {len cap:Nat} (h:cj M (.bc ow sz xs) (.slice a len cap)) (hs:sz=size∨xs= []) {w:World} (hw:∀b o v,M.cell b o=some v→w.cell? ⟨b,o,none⟩=some v):
  ∃arr:Array Value,arr.size=xs.length*size∧jf M size xs arr∧(∀wd:World,(∀a,wd.cell? a=w.cell? a)→(aau size len (.slice a len cap)).run P wd= .ok arr wd)∧∀v∈arr.toList,v.oneCell'=true:=by
 cases h with
 |bc b off vs hl Tm ha Tw hc hr Ty ho=>
  by_cases TU:xs= []
  ·subst TU
   have hlen:len=0:=by simpa using hl.symm
   subst hlen
   refine ⟨#[],by simp,⟨by simp,fun i x hx=>by simp at hx,fun i x cs j c hx=>by simp at hx,fun i x cs c hx=>by simp at hx⟩,fun wd _=> ?_,by simp⟩
   cases a with
   |none=>rfl
   |some ad=>simp [aau,loadCells,loadCellsFrom]
  ·obtain rfl:sz=size:=hs.resolve_right TU
   obtain rfl:=ha TU
   let arr:Array Value:=((ZL (xs.length*sz)).map fun k=>vs (k / sz) (k%sz)).toArray
   have TX:∀ {k:Nat},k<xs.length*sz→0<sz:=fun {k} hk=>by
    rcases Nat.eq_zero_or_pos sz with q|q
    ·rw [q] at hk;omega
    ·exact q
   have hdiv:∀ {k:Nat},k<xs.length*sz→k / sz<xs.length∧k%sz<sz∧k / sz*sz+k%sz=k:=fun {k} hk=>by
    have hp:=TX hk
    refine ⟨(Nat.div_lt_iff_lt_mul hp).2 hk,Nat.mod_lt _ hp,?_⟩
    rw [Nat.mul_comm];exact Nat.div_add_mod k sz
   have Vm:∀ {k:Nat},k<xs.length*sz→∃x cs c,xs[k / sz]? =some x∧x.cells=some cs∧cs[k%sz]? =some c:=fun {k} hk=>by
    obtain ⟨h1,h2,h3⟩:=hdiv hk
    have hx:xs[k / sz]? =some xs[k / sz]:=by simp [h1]
    obtain ⟨cs,Tv,hlen⟩:=Tw _ _ hx
    exact ⟨_,cs,cs[k%sz]'(by omega),hx,Tv,by simp [show k%sz<cs.length by omega]⟩
   have Uv:∀ {k:Nat} {v:Value},arr[k]? =some v→k<xs.length*sz∧v=vs (k / sz) (k%sz):=fun {k v} hk=>by
    simp only [arr,List.getElem?_toArray,ZU,ZS] at hk
    obtain ⟨x,hx,rfl⟩:=hk
    have Tq:k<xs.length*sz:=by
     rcases ZY k (xs.length*sz) with q|q
     ·exact q
     ·rw [ZN (by simpa using q)] at hx;cases hx
    rw [List.getElem?_range Tq] at hx
    cases hx
    exact ⟨Tq,rfl⟩
   have UI:arr.size=xs.length*sz:=by simp [arr]
   refine ⟨arr,UI,⟨by rw [UI];exact ZP _,Tw,?_,Ty⟩,?_,?_⟩
   ·intro i x cs j c hx Tv hj
    obtain ⟨TT,q1,q2⟩:=Tw i x hx
    rw [Tv] at q1
    obtain rfl:=ZE q1
    have U9:j<sz:=by
     rcases ZY j cs.length with q|q
     ·omega
     ·simp [ZN q] at hj
    have VK:i<xs.length:=by
     rcases ZY i xs.length with q|q
     ·exact q
     ·simp [ZN q] at hx
    have hk:=pU VK U9
    refine ⟨vs i j,?_,hr i x cs j c hx Tv hj⟩
    simp only [arr,List.getElem?_toArray,ZU,List.getElem?_range hk,aaT,ZK]
    have e1:(i*sz+j) / sz=i:=by
     rw [Nat.add_comm,Nat.add_mul_div_right _ _ (TX hk),Nat.div_eq_of_lt U9,aan]
    have e2:(i*sz+j)%sz=j:=by
     rw [Nat.add_comm,Nat.add_mul_mod_self_right,Nat.mod_eq_of_lt U9]
    rw [e1,e2]
   ·intro wd Y6
    have:=kn (P:=P) (w:=wd) b off arr (fun k v hk=>by
     rw [Y6]
     obtain ⟨Tq,rfl⟩:=Uv hk
     obtain ⟨x,cs,c,q1,q2,q3⟩:=Vm Tq
     obtain ⟨d1,d2,d3⟩:=hdiv Tq
     have:=hw _ _ _ (hc _ x cs _ c q1 q2 q3)
     rw [Nat.add_assoc,d3] at this
     exact this)
    simp only [aau]
    rw [UI,hl] at this
    exact this
   ·intro v hv
    obtain ⟨k,hk⟩:=List.mem_iff_getElem?.1 hv
    rw [Z0] at hk
    obtain ⟨Tq,rfl⟩:=Uv hk
    obtain ⟨x,cs,c,q1,q2,q3⟩:=Vm Tq
    exact oO (hr _ x cs _ c q1 q2 q3) (Ty _ x cs c q1 q2 (Z1 q3))
theorem jf.append {M:MM} {size:Nat} {xs ys:List D} {a1 a2:Array Value} (h1:jf M size xs a1) (h2:jf M size ys a2) (hs:a1.size=xs.length*size) (rest:Array Value):jf M size (xs++ys) (a1++a2++rest):=by
 have TV:∀ {i:Nat} {x:D},(xs++ys)[i]? =some x→(i<xs.length∧xs[i]? =some x)∨(xs.length≤i∧ys[i - xs.length]? =some x):=by
  intro i x hx
  rw [aax] at hx
  split at hx
  ·exact .inl ⟨by assumption,hx⟩
  ·exact .inr ⟨by omega,hx⟩
 refine ⟨?_,?_,?_,?_⟩
 ·have:=h2.len
  simp only [ZR,Array.size_append,Nat.add_mul,hs]
  omega
 ·intro i x hx
  rcases TV hx with ⟨_,h⟩|⟨_,h⟩
  ·exact h1.elem i x h
  ·exact h2.elem _ x h
 ·intro i x cs j c hx Tv hj
  rcases TV hx with ⟨_,h⟩|⟨Vz,h⟩
  ·obtain ⟨v,hv,hr⟩:=h1.get i x cs j c h Tv hj
   refine ⟨v,?_,hr⟩
   have Tq:i*size+j<a1.size:=by
    rcases ZY (i*size+j) a1.size with q|q
    ·exact q
    ·simp [aak q] at hv
   rw [Array.append_assoc,Array.getElem?_append_left Tq]
   exact hv
  ·obtain ⟨v,hv,hr⟩:=h2.get _ x cs j c h Tv hj
   refine ⟨v,?_,hr⟩
   have Tq:(i - xs.length)*size+j<a2.size:=by
    rcases ZY ((i - xs.length)*size+j) a2.size with q|q
    ·exact q
    ·simp [aak q] at hv
   have e:i*size+j=a1.size+((i - xs.length)*size+j):=by
    rw [hs,← Nat.add_assoc,← Nat.add_mul];congr 2;omega
   rw [e,Array.append_assoc,Array.getElem?_append_right (by omega),show a1.size+((i - xs.length)*size+j) - a1.size=(i - xs.length)*size+j by omega,Array.getElem?_append_left Tq]
   exact hv
 ·intro i x cs c hx Tv hc
  rcases TV hx with ⟨_,h⟩|⟨_,h⟩
  ·exact h1.st i x cs c h Tv hc
  ·exact h2.st _ x cs c h Tv hc
theorem sl {st xt TK rty:TypeId} {e2:TypeId} {ts:Array TypeId} {args:Array Value} {i:TypeInfo} {z:Value} (ht:P.underlying st=some (.slice TK)) (hx:P.underlying xt=some (.slice e2)) (h0:ts[0]? =some st) (h1:ts[1]? =some xt)
  (hi:P.info? TK=some i) (hz:i.zero=some z) {a a':Option Addr} {len cap Ts TQ:Nat} {w:World} {mI new:Array Value} (g0:args[0]? =some (.slice a len cap)) (g1:args[1]? =some (.slice a' Ts TQ))
  (hold:(aau i.size len (.slice a len cap)).run P w.drew= .ok mI w.drew) (TP:(aau i.size Ts (.slice a' Ts TQ)).run P w= .ok new w) (XM:(aau i.size Ts (.slice a' Ts TQ)).run P w.drew= .ok new w.drew)
  (hb:i.bytes≤65536) (hn:len+Ts≤2147483648):
  (len+Ts≤cap→(aav ts rty args).run P w=(do (match a with|some ad=>storeCells (ad.add (len*i.size)) new.toList|none=>pure ());pure (.slice a (len+Ts) cap):Sem Value).run P w)∧
  (cap<len+Ts→∃nc,len+Ts≤nc∧nc≤9223372036854775807∧(aav ts rty args).run P w= .ok (.slice (some ⟨w.heap.size,0,none⟩) (len+Ts) nc) (w.drew.alloc (.cells (mI++new++Builtin.zeroCells z.cells (nc - (len+Ts))) TK))):=by
 constructor
 ·intro Tm
  cases a<;>simp [aav,h0,h1,g0,g1,run_underlying ht,run_underlying hx,sizeOf,typeInfo,hi,Builtin.lenOf,Tm,TP]
 ·intro Tm
  have T8:(len+Ts)*i.bytes≤140737488355328:=by
   have:=Nat.mul_le_mul hn hb
   omega
  have hg:=growslice_fits Tm T8
  refine ⟨grownCap w (len+Ts) cap TK,grownCap_ge w _ _ _,aaS (grownCap_le_maxLen w _ _ _ (by unfold maxLen;omega)) (by unfold maxLen;omega),?_⟩
  have e1:¬(len+Ts≤cap):=by omega
  have e2:¬(9223372036854775807<(len:Int)+(Ts:Int)∧i.bytes=0):=by omega
  have e3:¬(Builtin.nextslicecap (len+Ts) cap*i.bytes>2^48):=by omega
  have e4:(Question.appendCap (len+Ts) cap TK).forced=false:=rfl
  have e5:∀x:Array Value,(newRow TK x).run P w.drew= .ok ⟨w.heap.size,0,none⟩ (w.drew.alloc (.cells x TK)):=fun x=>by first|(simp [newRow];done)|(simp [newRow];rfl)
  simp [aav,h0,h1,g0,g1,run_underlying ht,run_underlying hx,sizeOf,typeInfo,hi,Builtin.lenOf,e1,e3,e2,e4,hold,XM,fJ hi hz,e5]
  exact ⟨rfl,rfl⟩
theorem qy {t:TypeId} (h:j6 P t=true):∃i z,P.info? t=some i∧i.zero=some z∧z.cells.size=i.size∧P.cellsOf t=i.size:=by
 unfold j6 at h
 split at h
 ·rename_i i hi
  split at h
  ·rename_i z hz
   exact ⟨i,z,hi,hz,by simpa using h,by simp [Program.cellsOf,hi]⟩
  ·cases h
 ·cases h
theorem lK {sz size:Nat} {xs:List D} (h:uw sz xs size=true):sz=size∨xs= []:=by
 unfold uw at h
 rw [Bool.or_eq_true,Z3,List.isEmpty_iff] at h
 exact h
theorem tN {w0:eW} {w:World} {M:MM} {own:Nat→Option Nat} {σ:Nat→Ob} (hw:cn w0 M own σ w) {st xt TK rty e2:TypeId} {ts:Array TypeId} {args:Array Value} (ht:P.underlying st=some (.slice TK)) (hx:P.underlying xt=some (.slice e2)) (h0:ts[0]? =some st) (h1:ts[1]? =some xt)
  (hz:j6 P TK=true) (T8:P.bytesOf TK≤65536) {ow:lP} {sz Ts TQ:Nat} {xs ys:List D} {u:Value} {a':Option Addr} {new:Array Value} (g0:args[0]? =some u) (g1:args[1]? =some (.slice a' Ts TQ)) (hu:cj M (.bc ow sz xs) u) (Us:ys.length=Ts) (ns:new.size=ys.length*P.cellsOf TK) (Uh:jf M (P.cellsOf TK) ys new) (T7:∀wd:World,(∀a,wd.cell? a=w.cell? a)→(aau (P.cellsOf TK) Ts (.slice a' Ts TQ)).run P wd= .ok new wd) (Uz:∀v∈new.toList,v.oneCell'=true)
  (Tw:sz=P.cellsOf TK∨xs= []) (hn:xs.length+ys.length≤dK) {id ver:Nat} (Ve:∀v,ver≤v→M.b9 id v=none)
  (TZ:∀a len cap,u= .slice a len cap→cap=len∨∃b vs ty fz VF Un,a=some ⟨b,0,none⟩∧tX w0 M own id (P.cellsOf TK) w len cap b vs ty fz∧σ id= .ey VF Un):
  ∃v M' Tj w',(aav ts rty args).run P w= .ok v w'∧M.Le M'∧cn w0 M' Tj (gQ σ id (.ey ver (P.cellsOf TK))) w'∧cj M' (.bc (.tok id ver) (P.cellsOf TK) (xs++ys)) v∧M'.box=M.box∧∀j,j≠id→M'.b9 j=M.b9 j:=by
 obtain ⟨i,z,hi,hiz,hzs,TA⟩:=qy hz
 have U5:i.bytes≤65536:=by simpa [Program.bytesOf,hi] using T8
 cases hu with
 |bc b off vs hl Tm ha UI hc hr Ty ho=>
  rename_i a len cap
  have Tn:cj M (.bc ow sz xs) (.slice a len cap):= .bc b off vs hl Tm ha UI hc hr Ty ho
  rw [TA] at Tw ns Uh T7
  obtain ⟨mI,os,orow,orun,_⟩:=ny (P:=P) Tn Tw hw.cells
  have VE:len+Ts≤2147483648:=by rw [← hl,← Us];exact hn
  obtain ⟨r1,r2⟩:=sl (P:=P) (rty:=rty) ht hx h0 h1 hi hiz g0 g1 (orun w.drew fun _=>rfl) (T7 w fun _=>rfl) (T7 w.drew fun _=>rfl) U5 VE
  rcases ZY cap (len+Ts) with Tq|Vz
  ·
   obtain ⟨nc,Ub,hnc2,TC⟩:=r2 Tq
   let arr:=mI++new++Builtin.zeroCells z.cells (nc - (len+Ts))
   have UJ:jf M i.size (xs++ys) arr:=orow.append Uh os _
   have Ug:arr.size=nc*i.size:=by
    simp only [arr,Array.size_append,size_zeroCells,os,ns,hzs,hl,Us,← Nat.add_mul]
    congr 1;omega
   have Xl:(xs++ys).length*i.size≤(len+Ts)*i.size:=by rw [ZR,hl,Us];exact ZP _
   have VQ:=rA (M:=M) (w:=w) (wd:=w.drew) (arr:=arr) (ty:=TK) (n:=(len+Ts)*i.size) hw.cells rfl (Below.refl _ _).drew (0,0)
   obtain ⟨UF,U1⟩:=hw.ext VQ rfl rfl rfl
   have Wl:(w.drew.alloc (.cells arr TK (0,0))).heap[w.heap.size]? =some (.cells arr TK (0,0)):=by
    show (w.heap.push _)[w.heap.size]? =_
    simp
   have Uu:own w.heap.size=none:=by
    cases e:own w.heap.size with
    |none=>rfl
    |some q=>have:=hw.owned _ _ e;omega
   obtain ⟨Tj,hw3⟩:=UF.si (id:=id) (ver:=ver) Ve (a:=some ⟨w.heap.size,0,none⟩) (len:=len+Ts) (cap:=nc) i.size
    (.inr ⟨w.heap.size,arr,TK,(0,0),rfl,hw.below.new,.inl Uu,Wl,fun o _ h=>by have:=h.2;simp at this,⟨by rw [Ug];exact ZP _,hnc2⟩,fun o ho=>by
     simp only [MM.lay,MM.cy,if_true];rw [if_neg (by omega)]⟩)
   have Vk:=MM.fh (M:=M.lay w.heap.size arr ((len+Ts)*i.size)) (id:=id) (ver:=ver) (v:= .slice (some ⟨w.heap.size,0,none⟩) (len+Ts) nc) (Ve ver (ZP _))
   refine ⟨_,_,Tj,_,TC,U1.trans Vk,by rw [TA];exact hw3,?_,rfl,?_⟩
   ·have hlen:(xs++ys).length=len+Ts:=by rw [ZR,hl,Us]
    have h5:=qX (M:=M) (b:=w.heap.size) (o:= .no) (cap:=nc) (n:=(len+Ts)*i.size) UJ (ev hw.cells (ZP _)) (by omega) Xl trivial
    rw [TA]
    rw [hlen] at h5
    exact (h5.mono Vk).flag _ (by simp [MM.pX,MM.bU])
   ·intro j hj
    funext k
    simp [MM.bU,hj,MM.lay,MM.cy]
  ·have TC:=r1 Vz
   by_cases hy:ys= []
   ·
    subst hy
    have Y9:Ts=0:=by simpa using Us.symm
    subst Y9
    have XC:new= #[]:=by
     apply Array.eq_empty_of_size_eq_zero;rw [ns];simp
    subst XC
    have Vv:(aav ts rty args).run P w= .ok (.slice a len cap) w:=by
     rw [TC]
     cases a<;>simp [storeCells]
    have W8:cap=len∨∃b vs ty fz,a=some ⟨b,0,none⟩∧¬w0.X b∧(own b=none∨own b=some id)∧w.heap[b]? =some (.cells vs ty fz)∧mJ fz vs.size∧(cap*i.size≤vs.size∧cap≤9223372036854775807)∧∀o,len*i.size≤o→M.cell b o=none:=by
     rcases TZ a len cap rfl with q|⟨b,vs,ty,fz,_,_,ha,r,_⟩
     ·exact .inl q
     ·rw [TA] at r
      exact .inr ⟨b,vs,ty,fz,ha,r.base,.inr r.own,r.dQ,r.fz,r.cap,r.none⟩
    obtain ⟨Tj,hw3⟩:=hw.si (id:=id) (ver:=ver) Ve i.size W8
    have Vk:=MM.fh (id:=id) (ver:=ver) (v:= .slice a len cap) (Ve ver (ZP _))
    refine ⟨_,_,Tj,w,Vv,Vk,by rw [TA];exact hw3,?_,rfl,?_⟩
    ·rw [List.append_nil,TA]
     exact ((Tn.resize Tw).mono Vk).flag _ (by simp [MM.pX,MM.bU])
    ·intro j hj
     funext k
     simp [MM.bU,hj]
   ·
    have TX:0<Ts:=by
     rw [← Us];exact List.length_pos_iff.2 hy
    rcases TZ a len cap rfl with q|⟨b1,vs1,ty1,fz1,VF,Un,ha1,r,hσ⟩
    ·omega
    ·rw [TA] at r
     subst ha1
     have Xf:new.toList.length=Ts*i.size:=by rw [aal,ns,Us]
     have UW:len*i.size+new.toList.length≤vs1.size:=by
      rw [Xf,← Nat.add_mul];exact aaS (Nat.mul_le_mul_right _ Vz) r.cap.1
     have We:=iU (P:=P) (b:=b1) (off:=len*i.size) new.toList 0 w vs1 r.dQ Uz (by simpa using UW) r.fz
     rw [Nat.add_zero] at We
     let vs2:=eG vs1 (len*i.size) new.toList
     have TW:∀o,o<len*i.size→vs2[o]? =vs1[o]? :=fun o ho=>by
      simp only [vs2];rw [jk _ _ _ _ UW,if_neg (by omega)]
     have UF:=hw.Lm hσ r ((len+Ts)*i.size) (vs':=vs2) (e9 _ _ _) TW
     have U1:M.Le (M.j4 b1 (len*i.size) ((len+Ts)*i.size) vs2):=MM.Fl r.none
     obtain ⟨Tj,hw3⟩:=UF.si (id:=id) (ver:=ver) Ve (a:=some ⟨b1,0,none⟩) (len:=len+Ts) (cap:=cap) i.size
      (.inr ⟨b1,vs2,ty1,fz1,rfl,r.base,.inr r.own,hH r.dQ,by simp only [vs2,e9];exact r.fz,by simp only [vs2,e9];exact r.cap,fun o ho=>by
       simp only [MM.j4,MM.cy,if_true]
       rw [if_neg (by omega)]
       exact r.none o (by rw [Nat.add_mul] at ho;omega)⟩)
     have Vk:=MM.fh (M:=M.j4 b1 (len*i.size) ((len+Ts)*i.size) vs2) (id:=id) (ver:=ver) (v:= .slice (some ⟨b1,0,none⟩) (len+Ts) cap) (Ve ver (ZP _))
     have hσ2:gQ (gQ σ id .dead) id (.ey ver i.size)=gQ σ id (.ey ver i.size):=by
      funext j;by_cases e:j=id<;>simp [gQ,e]
     rw [hσ2] at hw3
     refine ⟨.slice (some ⟨b1,0,none⟩) (len+Ts) cap,_,Tj,cR w b1 (.cells vs2 ty1 fz1),?_,U1.trans Vk,by rw [TA];exact hw3,?_,rfl,?_⟩
     ·rw [TC]
      simp only [gX,aan,ZW,We,ZO,Z4]
      rfl
     ·rw [TA]
      refine cj.flag (o:= .no) ?_ _ (by simp [MM.pX,MM.bU])
      refine cj.mono ?_ Vk
      have UH:∀ {k:Nat} {x:D},(xs++ys)[k]? =some x→(k<len∧xs[k]? =some x)∨(len≤k∧k<len+Ts∧ys[k - len]? =some x):=by
       intro k x hx
       rw [aax] at hx
       split at hx
       ·exact .inl ⟨by omega,hx⟩
       ·refine .inr ⟨by omega,?_,by rw [← hl];exact hx⟩
        have:k - xs.length<ys.length:=by
         rcases ZY (k - xs.length) ys.length with q|q
         ·exact q
         ·simp [ZN q] at hx
        omega
      have hold:∀ {k:Nat} {x:D} {cs:List D} {j:Nat} {c:D},xs[k]? =some x→x.cells=some cs→cs[j]? =some c→M.cell b1 (k*i.size+j)=some (vs k j)∧cj M.bare c (vs k j):=by
       intro k x cs j c hx Tv hj
       have TU:xs≠ []:=fun e=>by subst e;simp at hx
       have e1:=ha TU
       obtain ⟨rfl,rfl⟩:b1=b∧0=off:=by simpa using e1
       have e2:sz=i.size:=Tw.resolve_right TU
       have h5:=hc k x cs j c hx Tv hj
       rw [e2,aan] at h5
       exact ⟨h5,hr k x cs j c hx Tv hj⟩
      have Yn:∀ {k:Nat} {x:D} {cs:List D} {j:Nat} {c:D},(xs++ys)[k]? =some x→x.cells=some cs→cs[j]? =some c→j<i.size:=by
       intro k x cs j c hx Tv hj
       have hlen:cs.length=i.size:=by
        rcases UH hx with ⟨_,h⟩|⟨_,_,h⟩
        ·obtain ⟨TT,q1,q2⟩:=orow.elem _ x h;rw [Tv] at q1;obtain rfl:=ZE q1;exact q2
        ·obtain ⟨TT,q1,q2⟩:=Uh.elem _ x h;rw [Tv] at q1;obtain rfl:=ZE q1;exact q2
       rcases ZY j cs.length with q|q
       ·omega
       ·simp [ZN q] at hj
      refine .bc b1 0 (fun k j=>if k<len then vs k j else (new[(k - len)*i.size+j]?).getD .nilFunc) (by rw [ZR,hl,Us]) Vz (fun _=>rfl) ?_ ?_ ?_ ?_ trivial
      ·intro k x hx
       rcases UH hx with ⟨_,h⟩|⟨_,_,h⟩
       ·exact orow.elem _ x h
       ·exact Uh.elem _ x h
      ·intro k x cs j c hx Tv hj
       have U9:=Yn hx Tv hj
       rw [aan]
       simp only [MM.j4,MM.cy,if_true]
       rcases UH hx with ⟨hk,h⟩|⟨hk,XV,h⟩
       ·have:=pU hk U9
        rw [if_neg (by omega),if_pos hk]
        exact (hold h Tv hj).1
       ·have h6:=pU XV U9
        have h7:len*i.size≤k*i.size:=Nat.mul_le_mul_right _ hk
        rw [if_pos ⟨by omega,h6⟩,if_neg (by omega)]
        obtain ⟨v,hv,_⟩:=Uh.get _ x cs j c h Tv hj
        have e:k*i.size+j - len*i.size=(k - len)*i.size+j:=by
         rw [Nat.sub_mul];omega
        simp only [vs2]
        rw [jk _ _ _ _ UW,if_pos ⟨by omega,by rw [Xf,← Nat.add_mul];exact h6⟩,e,Z0,hv]
        rfl
      ·intro k x cs j c hx Tv hj
       rcases UH hx with ⟨hk,h⟩|⟨hk,_,h⟩
       ·simp only [if_pos hk]
        exact (hold h Tv hj).2.mono U1.bare
       ·simp only [if_neg (show ¬k<len by omega)]
        obtain ⟨v,hv,Xk⟩:=Uh.get _ x cs j c h Tv hj
        rw [hv]
        exact Xk.mono U1.bare
      ·intro k x cs c hx Tv T3
       rcases UH hx with ⟨_,h⟩|⟨_,_,h⟩
       ·exact orow.st _ x cs c h Tv T3
       ·exact Uh.st _ x cs c h Tv T3
     ·intro j hj
      funext k
      simp [MM.bU,hj,MM.j4,MM.cy]
theorem qJ {w0:eW} {w:World} {M:MM} {own:Nat→Option Nat} {σ:Nat→Ob} (hw:cn w0 M own σ w) {st xt TK rty e2:TypeId} {ts:Array TypeId} {args:Array Value} (ht:P.underlying st=some (.slice TK)) (hx:P.underlying xt=some (.slice e2)) (h0:ts[0]? =some st) (h1:ts[1]? =some xt)
  (hz:j6 P TK=true) (T8:P.bytesOf TK≤65536) {ow W6:lP} {sz TH:Nat} {xs ys:List D} {u u':Value} (g0:args[0]? =some u) (g1:args[1]? =some u') (hu:cj M (.bc ow sz xs) u) (XH:cj M (.bc W6 TH ys) u')
  (Tw:sz=P.cellsOf TK∨xs= []) (W1:TH=P.cellsOf TK∨ys= []) (hn:xs.length+ys.length≤dK) {id ver:Nat} (Ve:∀v,ver≤v→M.b9 id v=none)
  (TZ:∀a len cap,u= .slice a len cap→cap=len∨∃b vs ty fz VF Un,a=some ⟨b,0,none⟩∧tX w0 M own id (P.cellsOf TK) w len cap b vs ty fz∧σ id= .ey VF Un):
  ∃v M' Tj w',(aav ts rty args).run P w= .ok v w'∧M.Le M'∧cn w0 M' Tj (gQ σ id (.ey ver (P.cellsOf TK))) w'∧cj M' (.bc (.tok id ver) (P.cellsOf TK) (xs++ys)) v∧M'.box=M.box∧∀j,j≠id→M'.b9 j=M.b9 j:=by
 cases XH with
 |bc b' off' vs' Us hcap' ha' hsize' VA V2 hst' WA=>
  rename_i a' Ts TQ
  have V3:cj M (.bc W6 TH ys) (.slice a' Ts TQ):= .bc b' off' vs' Us hcap' ha' hsize' VA V2 hst' WA
  obtain ⟨new,ns,Uh,T7,Uz⟩:=ny (P:=P) V3 W1 hw.cells
  exact tN hw ht hx h0 h1 hz T8 g0 g1 hu Us ns Uh T7 Uz Tw hn Ve TZ
end
structure yB (P:Program) (id:Nat) (args:List D) (s:List Ob) (d:D) (s':List Ob):Prop where
  len:s.length≤s'.length
  run:∀(w0:eW) (M:MM) (own:Nat→Option Nat) (w:World) (vs:Array Value) (l:Nat),cn w0 M own (bP s) w→M.upto s.length→cA M args vs→M.box id=some l→
    ∃fn tmps ag bd,(Instr.yield l vs).run P w= .ok (.round l fn tmps ag bd) w∧
      RoundIn Fence.wide 0 P l fn tmps ag bd w fun e w'=> ∃v M' Tj,e= .returned v∧cn w0 M' Tj (bP s') w'∧M'.upto s'.length∧M.Le M'∧cj M' d v
def QT (P:Program) (g:Tg) (args:List D) (s:List Ob) (d:D) (s':List Ob):Prop:=match g with
  | .fn f=>ao P f args s d s'
  | .yl id=>yB P id args s d s'
def lQ (P:Program) {ρ':Type} (inl:FL P ρ'):Prop:= ∀(g:Tg) (args:List D) (s:List Ob) (z:Z P) (K:D→List Ob→Z P→Option ρ') (r:ρ'),inl g args s z K=some r→
  ∃d s' z',K d s' z'=some r∧(z'.c→z.c∧QT P g args s d s')
def LX (P:Program) (o:Oper) (ρ:Operand→D) (s s':List Ob) (d:D):Prop:=
  s.length≤s'.length∧∀(w0:eW) (M:MM) (own:Nat→Option Nat) (w:World) (a:Act),cn w0 M own (bP s) w→M.upto s.length→(∀x∈o.op.operands,cj M (ρ x) (a.eval x))→
    ∀(next:Act→World→Prop) (Q:Exit→Act→World→Prop),
      (∀v M' Tj w',M.Le M'→M'.upto s'.length→cn w0 M' Tj (bP s') w'→cj M' d v→next (a.put o.dst v) w')→Md P o a w next Q
def jY (P:Program) (o:Oper) (ρ:Operand→D) (s:List Ob) (e:jT):Prop:=match e with
  | .all s' d=>LX P o ρ s s' d
  | .read i ob d=>(s.getD i .dead=ob∧i<s.length)∧gH P o ρ (.read i ob d)
  | .ji i j d=>(hY (s.getD i .dead) j=some d∧i<s.length)∧gH P o ρ (.ji i j d)
  | .gQ i ob ob' d=>(s.getD i .dead=ob∧i<s.length)∧gH P o ρ (.gQ i ob ob' d)
  |e=>gH P o ρ e
theorem ik {s:List Ob} {i:Nat} (h:s.getD i .dead≠ .dead):i<s.length:=by
 rcases ZY i s.length with q|q
 ·exact q
 ·rw [ZF,ZN q] at h;exact absurd rfl h
theorem qh {P:Program} {o:Oper} {ρv:Operand→Value} {c:Call} {f:Operand} {g:FuncId} {fv cv:Array Value} (ho:o.op= .call c) (hc:c.callee= .value f) (hf:ρv f= .func (.func g) fv cv) (he:R1 P g) (w:World):
  (execOp ρv o).run P w= .ok (.enter g ((fv++c.args.map ρv)++cv)) w:=by
 obtain ⟨fn,code,h1,h2,h3⟩:=he
 simp only [execOp,ho,resolve,hc,hf,Deferred.ofValue,ZW,Z4,ZO,invoke,callFunc,run_program,h1,h3,aah,if_false,h2,Option.isNone_some]
theorem rL {P:Program} {o:Oper} {a:Act} {w:World} {g:FuncId} {vs:Array Value} {next:Act→World→Prop} {Q:Exit→Act→World→Prop} (h:(execOp a.eval o).run P w= .ok (.enter g vs) w)
  (k:Calls P g vs w fun e w'=> ∃v,e= .returned v∧next (a.put o.dst v) w'):Md P o a w next Q:=by
 intro r
 refine ⟨fun _ _=>trivial,?_⟩
 rw [show (FW r).round=r from rfl,np h (fun d e=>by cases e) r,Oper.uponIn_enter]
 refine ⟨fun e=>(by cases e),?_⟩
 have k':CallsIn (FW r) (0 - 1) P g vs w fun e w'=> ∃v,e= .returned v∧next (a.put o.dst v) w':=(callsIn_wide (n:=0)).2 k
 refine k'.mono fun e w' hh=> ?_
 obtain ⟨v,rfl,hn⟩:=hh
 exact hn
theorem C0 {P:Program} {o:Oper} {ρv:Operand→Value} {c:Call} {f:Operand} {l:Nat} (ho:o.op= .call c) (hc:c.callee= .value f) (hf:ρv f= .func (.yield l) #[] #[]) (w:World):
  (execOp ρv o).run P w=(Instr.yield l (c.args.map ρv)).run P w:=by
 simp only [execOp,ho,resolve,hc,hf,Deferred.ofValue,ZW,Z4,ZO,invoke,Array.empty_append,Array.append_empty]
theorem I0 {P:Program} {o:Oper} {a:Act} {w:World} {l:Nat} {fn:FuncId} {tmps:Array Value} {ag bd:Code} {next:Act→World→Prop} {Q:Exit→Act→World→Prop} (h:(execOp a.eval o).run P w= .ok (.round l fn tmps ag bd) w)
  (k:RoundIn Fence.wide 0 P l fn tmps ag bd w fun e w'=> ∃v,e= .returned v∧next (a.put o.dst v) w'):Md P o a w next Q:=by
 intro r
 refine ⟨fun _ _=>trivial,?_⟩
 rw [show (FW r).round=r from rfl,np h (fun d e=>by cases e) r,Oper.uponIn_round]
 refine ⟨fun e=>(by cases e),?_⟩
 have k':RoundIn (FW r) (0 - 1) P l fn tmps ag bd w fun e w'=> ∃v,e= .returned v∧next (a.put o.dst v) w':=k
 refine k'.mono fun e w' hh=> ?_
 obtain ⟨v,rfl,hn⟩:=hh
 exact hn
theorem cA.append {M:MM} {xs ys:List D} {us vs:Array Value} (h:cA M xs us) (k:cA M ys vs):cA M (xs++ys) (us++vs):=by
 refine ⟨by simp [h.1,k.1],fun i d v a b=> ?_⟩
 rw [aax] at a
 rw [Array.getElem?_append] at b
 rw [← h.1] at b
 split at a
 ·rename_i hi
  rw [if_pos hi] at b
  exact h.2 i d v a b
 ·rename_i hi
  rw [if_neg hi] at b
  exact k.2 _ d v a b
theorem o7 {M:MM} {ρ:Operand→D} {a:Act} (l:Array Operand) (h:∀x∈l,cj M (ρ x) (a.eval x)):cA M (l.toList.map ρ) (l.map a.eval):=by
 refine ⟨by simp,fun i d v p q=> ?_⟩
 rw [ZU,ZS] at p
 obtain ⟨x,hx,rfl⟩:=p
 rw [Z0] at hx
 rw [Array.getElem?_map,hx] at q
 simp only [aaT,ZK] at q
 subst q
 exact h x (Array.mem_of_getElem? hx)
theorem cj.bn {M:MM} {d:D} {v:Value} (h:cj M d v):cj M d.bn v:=by
 induction h with
 |undef v=>exact .undef v
 |int k n=>exact .int k n
 |bool b=>exact .bool b
 |str s=>exact .str s
 |gA=>exact .gA
 |ptr q h=>exact .ptr q h
 |eY q vs hx hc hr ih=>exact .eY q vs hx hc hr
 |gw h=>exact .gw h
 |jM h=>exact .jM h
 |dz h hh hc=>exact .dz h hh hc
 |sub h hc hp ho=>exact .sub h hc hp ho
 |bc b off vs hl Tm ha Tw hc hr Ty ho ih=>
  rename_i o _ _ _ _ _
  rw [D.bn]
  refine .bc b off vs hl Tm ha Tw hc hr Ty ?_
  cases o<;>first|trivial|exact ho
 |cg=>exact .cg
 |fn h1 h2 r1 r2 i1 i2=>
  rw [D.bn,D.gO,D.gO]
  refine .fn (by simpa using h1) (by simpa using h2) ?_ ?_
  ·intro i d v a b
   rw [ZU,ZS] at a
   obtain ⟨d0,h0,rfl⟩:=a
   exact i1 i d0 v h0 b
  ·intro i d v a b
   rw [ZU,ZS] at a
   obtain ⟨d0,h0,rfl⟩:=a
   exact i2 i d0 v h0 b
 |agg h r ih=>
  rw [D.bn,D.gO]
  refine .agg (by simpa using h) fun i d v a b=> ?_
  rw [ZU,ZS] at a
  obtain ⟨d0,h0,rfl⟩:=a
  exact ih i d0 v h0 b
 |aL h r ih=>
  rw [D.bn,D.gO]
  refine .aL (by simpa using h) fun i d v a b=> ?_
  rw [ZU,ZS] at a
  obtain ⟨d0,h0,rfl⟩:=a
  exact ih i d0 v h0 b
theorem tP {id:Nat} :∀ {ds l:List D} {sz:Nat},jr id ds=some (l,sz)→∃(k TH:Nat) (xs:List D),ds[k]? =some (D.bc (.fresh sz) TH xs)∧l.length=ds.length∧
  ∀(i:Nat) (d':D),l[i]? =some d'→(i=k∧d'=D.bc (.tok id 0) TH xs)∨∃d0:D,ds[i]? =some d0∧(d'=d0∨d'=d0.bn)
 | [],l,sz,h=>by simp [jr] at h
 |d::r,l,sz,h=>by
  unfold jr at h
  split at h
  ·cases h
  ·rename_i Yc Un xs r' heq
   simp only [List.cons.injEq] at heq
   obtain ⟨rfl,rfl⟩:=heq
   simp only [ZK,Prod.mk.injEq] at h
   obtain ⟨rfl,rfl⟩:=h
   refine ⟨0,Un,xs,rfl,by simp,fun i d' hi=> ?_⟩
   cases i with
   |zero=>simp at hi;exact .inl ⟨rfl,hi.symm⟩
   |succ i=>
    simp only [aaC,ZU,ZS] at hi
    obtain ⟨d0,h0,rfl⟩:=hi
    exact .inr ⟨d0,by simpa using h0,.inr rfl⟩
  ·rename_i d1 r1 _ heq
   simp only [List.cons.injEq] at heq
   obtain ⟨rfl,rfl⟩:=heq
   split at h
   ·rename_i l' TH hl
    simp only [ZK,Prod.mk.injEq] at h
    obtain ⟨rfl,rfl⟩:=h
    obtain ⟨k,Un,xs,h1,h2,h3⟩:=tP hl
    refine ⟨k+1,Un,xs,by simpa using h1,by simp [h2],fun i d' hi=> ?_⟩
    cases i with
    |zero=>simp at hi;exact .inr ⟨d,rfl,.inl hi.symm⟩
    |succ i=>
     rcases h3 i d' (by simpa using hi) with ⟨e1,e2⟩|⟨d0,e1,e2⟩
     ·exact .inl ⟨by omega,e2⟩
     ·exact .inr ⟨d0,by simpa using e1,e2⟩
   ·cases h
theorem LW (id Wi:Nat) (d:D):(ni id d).2=(ni Wi d).2:=by
 have hl:∀ds:List D,(jr id ds).map (·.2)=(jr Wi ds).map (·.2):=by
  intro ds
  induction ds with
  |nil=>rfl
  |cons d r ih=>
   unfold jr
   split
   ·rfl
   ·rfl
   ·rename_i h;
    cases h1:jr id r with
    |none=>
     rw [h1] at ih
     cases h2:jr Wi r with
     |none=>simp_all
     |some p=>rw [h2] at ih;cases ih
    |some p=>
     rw [h1] at ih
     cases h2:jr Wi r with
     |none=>rw [h2] at ih;cases ih
     |some q=>
      rw [h2] at ih
      have:p.2=q.2:=by simpa using ih
      simp_all
 unfold ni
 split
 ·rfl
 ·rename_i ds
  have:=hl ds
  cases h1:jr id ds with
  |none=>
   rw [h1] at this
   cases h2:jr Wi ds with
   |none=>rfl
   |some p=>rw [h2] at this;cases this
  |some p=>
   rw [h1] at this
   cases h2:jr Wi ds with
   |none=>rw [h2] at this;cases this
   |some q=>
    rw [h2] at this
    have:p.2=q.2:=by simpa using this
    simp [this]
 ·rfl
theorem LV {w0:eW} {w w':World} {M M1:MM} {own:Nat→Option Nat} {σ:Nat→Ob} (hw:cn w0 M own σ w) (Wo:cn w0 M1 own σ w') (_hle:w.heap.size≤w'.heap.size) {id:Nat} (T1:∀v,M1.b9 id v=none) {d:D} {v:Value} (hr:cj M1 d v) (hf:Ej w.heap.size w' M1.cell d v):
  ∃M' Tj,M1.Le M'∧M'.box=M1.box∧(∀j,j≠id→M'.b9 j=M1.b9 j)∧cn w0 M' Tj (gQ σ id (ni id d).2) w'∧cj M' (ni id d).1 v:=by
 have ey:∀ {sz:Nat} {a:Option Addr} {len cap:Nat},ki w.heap.size w' M1.cell sz a len cap→∃Tj,cn w0 (M1.bU id 0 (.slice a len cap)) Tj (gQ σ id (.ey 0 sz)) w':=by
  intro sz a len cap TZ
  refine Wo.si (fun v _=>T1 v) sz ?_
  rcases TZ with q|⟨b,vs,ty,fz,h1,h2,h3,h4,h5,h6⟩
  ·exact .inl q
  ·refine .inr ⟨b,vs,ty,fz,h1,(fun k=>by have:=hw.below.PS k;omega),.inl ?_,h3,h4,h5,h6⟩
   cases e:own b with
   |none=>rfl
   |some q=>have:=hw.owned _ _ e;omega
 have aV:∀ {x:Value},(∀j,j≠id→(M1.bU id 0 x).b9 j=M1.b9 j):=fun {x} j hj=>by funext k;simp [MM.bU,hj]
 have dead:∀ {d':D},cj M1 d' v→∃M' Tj,M1.Le M'∧M'.box=M1.box∧(∀j,j≠id→M'.b9 j=M1.b9 j)∧cn w0 M' Tj (gQ σ id .dead) w'∧cj M' d' v:=
  fun h=>⟨M1,own,.refl _,rfl,fun _ _=>rfl,Wo.kill id,h⟩
 unfold ni
 split
 ·rename_i sz TH xs
  obtain ⟨a,len,cap,rfl,rfl,TZ⟩:=hf.1 _ _ _ rfl
  obtain ⟨Tj,h1⟩:=ey TZ
  have le:=MM.fh (M:=M1) (id:=id) (ver:=0) (v:= .slice a len cap) (T1 0)
  exact ⟨_,Tj,le,rfl,aV,h1,(hr.mono le).flag _ (by simp [MM.pX,MM.bU])⟩
 ·rename_i ds
  split
  ·rename_i l sz hl
   obtain ⟨k,TH,xs,h1,h2,h3⟩:=tP hl
   cases hr with
   |aL hlen Tn=>
    rename_i vs
    obtain ⟨a,len,cap,hv,rfl,TZ⟩:=hf.2 _ _ rfl rfl k _ _ _ h1
    obtain ⟨Tj,h4⟩:=ey TZ
    have le:=MM.fh (M:=M1) (id:=id) (ver:=0) (v:= .slice a len cap) (T1 0)
    refine ⟨_,Tj,le,rfl,aV,h4,.aL (by rw [h2];exact hlen) fun i d' u hi hu=> ?_⟩
    rcases h3 i d' hi with ⟨rfl,rfl⟩|⟨d0,e1,e2⟩
    ·rw [hv] at hu
     obtain rfl:=ZE hu
     exact ((Tn _ _ _ h1 hv).mono le).flag _ (by simp [MM.pX,MM.bU])
    ·have:=(Tn i d0 u e1 hu).mono le
     rcases e2 with rfl|rfl
     ·exact this
     ·exact this.bn
  ·exact dead hr
 ·exact dead hr
theorem OZ {P:Program} {o:Oper} {ρ:Operand→D} {c:Call} {f:Operand} {g:FuncId} {first cap as:List D} {d:D} (ho:o.op= .call c) (hc:c.callee= .value f) (hf:ρ f= .fn (.func g) first cap) (WB:aQ P g as d)
  (has:∀(M:MM) (vs:Array Value),cA M (first++(c.args.toList.map ρ++cap)) vs→cA M.bare as vs):gH P o ρ (.new (ni 0 d).2 fun id=>(ni id d).1):=by
 intro w0 M own σ w a id hw hr TB next Q hn
 have Tu:∀x∈c.args,cj M (ρ x) (a.eval x):=fun x hx=>hr x (by
  simp only [ho,ZQ,aaO,hc]
  exact aaV.2 (.inr hx))
 have UA:=hr f (by
  simp only [ho,ZQ,aaO,hc]
  exact aaV.2 (.inl (by simp)))
 rw [hf] at UA
 generalize hfv:a.eval f=fval at UA
 cases UA with
 |fn h1 h2 r1 r2=>
  rename_i fv cv
  have Um:cA M (first++(c.args.toList.map ρ++cap)) ((fv++c.args.map a.eval)++cv):=by
   rw [Array.append_assoc]
   exact cA.append ⟨h1,r1⟩ (cA.append (o7 c.args Tu) ⟨h2,r2⟩)
  have Wg:=WB.run w M.cell _ hw.cells (has M _ Um)
  refine rL (qh ho hc hfv WB.Ij w) (Calls.mono Wg fun e w' hh=> ?_)
  obtain ⟨v,C',rfl,hext,Tn,U4⟩:=hh
  let M1:MM:=⟨C',M.box,M.b9,M.fW⟩
  have hx:Ext M w M1 w':=⟨hext.below,hext.cell,hext.only,hext.cells⟩
  obtain ⟨Wo,Xo⟩:=hw.ext hx rfl rfl rfl
  obtain ⟨M',Tj,q1,q2,q3,q4,q5⟩:=LV (id:=id) hw Wo hext.below.size TB.2 (Tn.mono (MM.mj M1)) U4
  refine ⟨v,rfl,hn v M' Tj w' (Xo.trans q1) ⟨fun j _=>by rw [q2],fun j hj=>q3 j hj⟩ ?_ q5⟩
  show cn w0 M' Tj (gQ σ id (ni 0 d).2) w'
  rw [LW 0 id d]
  exact q4
theorem cn.PO {w0:eW} {w:World} {M:MM} {own:Nat→Option Nat} {σ:Nat→Ob} (h:cn w0 M own σ w) {id b:Nat} (T1:M.box id=none) (hh:∀v,M.b9 id v=none) {cs:List D} {vs:Array Value} {ty:TypeId} (hX:¬w0.X b) (TS:own b=none) (TP:∀o,M.cell b o=none)
  (UK:w.heap[b]? =some (.cells vs ty (0,0))) (hl:cs.length≤vs.size) (hr:∀(i:Nat) (d:D) (v:Value),cs[i]? =some d→vs[i]? =some v→cj M d v):
  cn w0 (M.cQ id b) (gI own b id) (gQ σ id (.box cs)) w:=by
 have le:=MM.gh (b:=b) T1
 have ho:∀ {b2 i:Nat},own b2=some i→gI own b id b2=some i:=fun {b2 i} k=>by
  have:b2≠b:=by rintro rfl;rw [TS] at k;cases k
  simp [gI,this,k]
 refine ⟨h.below,h.cells,h.mI,?_,?_,?_,?_,?_,h.fW⟩
 ·intro b2 i k
  by_cases e:b2=b
  ·rw [e];exact fx UK
  ·simp only [gI,e,if_false] at k
   exact h.owned b2 i k
 ·intro i TT hi
  by_cases e:i=id
  ·subst e
   rw [bG] at hi
   cases hi
   exact ⟨b,vs,ty,by simp [MM.cQ],hX,by simp [gI],TP,UK,hl,fun j d v a b=>(hr j d v a b).mono le,fun sz a len cap q=>by have q':M.b9 i sz=_:=q;rw [hh] at q';cases q'⟩
  ·rw [bC e] at hi
   obtain ⟨b2,vs',ty',k⟩:=h.box i TT hi
   exact ⟨b2,vs',ty',le.box _ _ k.box,k.base,ho k.own,k.none,k.dQ,k.len,fun j d v a b=>(k.rep j d v a b).mono le,k.room⟩
 ·intro i ver sz hi
  by_cases e:i=id
  ·rw [e,bG] at hi;cases hi
  ·rw [bC e] at hi
   obtain ⟨a,len,cap,k⟩:=h.ey i ver sz hi
   refine ⟨a,len,cap,k.b9,k.last,?_⟩
   rcases k.room with r|⟨b2,vs',ty',fz,ha,r⟩
   ·exact .inl r
   ·exact .inr ⟨b2,vs',ty',fz,ha,r.base,ho r.own,r.dQ,r.fz,r.cap,r.none⟩
 ·intro i F hi
  by_cases e:i=id
  ·rw [e,bG] at hi;cases hi
  ·rw [bC e] at hi
   obtain ⟨b2,Tt,clock,q⟩:=h.mp i F hi
   exact ⟨b2,Tt,clock,le.box _ _ q.box,q.base,ho q.own,q.none,q.dQ,q.fits⟩
 ·intro i k t ps ag bd hi
  by_cases e:i=id
  ·rw [e,bG] at hi;cases hi
  ·rw [bC e] at hi
   obtain ⟨l,r,q⟩:=h.lp i k t ps ag bd hi
   exact ⟨l,r,q.aV le (ho q.own) q.dQ⟩
theorem Kg {P:Program} {o:Oper} {ρ:Operand→D} {c:Call} {f:Operand} {g:FuncId} {first cap as cs:List D} {n:Nat} (ho:o.op= .call c) (hc:c.callee= .value f) (hf:ρ f= .fn (.func g) first cap) (TC:ao P g as [] (.dz 0 1 n) [.box cs]) (hb:∀d∈cs,∃k:Int,d= .int .u8 k)
  (has:∀(M:MM) (vs:Array Value),cA M (first++(c.args.toList.map ρ++cap)) vs→cA M.bare as vs):gH P o ρ (.new (.box cs) fun id=> .dz id 1 n):=by
 intro w0 M own σ w a id hw hr TB next Q hn
 have Tu:∀x∈c.args,cj M (ρ x) (a.eval x):=fun x hx=>hr x (by
  simp only [ho,ZQ,aaO,hc]
  exact aaV.2 (.inr hx))
 have UA:=hr f (by
  simp only [ho,ZQ,aaO,hc]
  exact aaV.2 (.inl (by simp)))
 rw [hf] at UA
 generalize hfv:a.eval f=fval at UA
 cases UA with
 |fn h1 h2 r1 r2=>
  rename_i fv cv
  have Um:cA M (first++(c.args.toList.map ρ++cap)) ((fv++c.args.map a.eval)++cv):=by
   rw [Array.append_assoc]
   exact cA.append ⟨h1,r1⟩ (cA.append (o7 c.args Tu) ⟨h2,r2⟩)
  have hW:cn ⟨w,M.cell,fun k=>k<w.heap.size⟩ M.bare (fun _=>none) (bP []) w:=
   ⟨.of _,hw.cells,fun b o v k _=>k,(fun b i k=>by cases k),(fun i cs k=>by simp [bP] at k),(fun i v sz k=>by simp [bP] at k),(fun i F q=>by simp [bP,Ob.CN] at q),(fun i k t ps ag bd q=>by simp [bP] at q),fun b (hb:False)=>hb.elim⟩
  refine rL (qh ho hc hfv TC.Ij w) (Calls.mono (TC.run _ M.bare (fun _=>none) w _ hW ⟨fun _ _=>rfl,fun _ _ _=>rfl⟩ (has M _ Um)) fun e w' hh=> ?_)
  obtain ⟨v,M1,own1,rfl,q1,q2,q3,q4⟩:=hh
  have hx:Ext M w M w':=⟨q1.below.below,fun _ _ _ h=>h,fun _ _ _ h _=>h,fun b o v h=>q1.cells b o v (q3.cell _ _ _ h)⟩
  obtain ⟨Wo,_⟩:=hw.ext hx rfl rfl rfl
  cases q4 with
  |dz U7 Uc Tm=>
   rename_i b cap
   obtain ⟨b2,vb,ty,kb⟩:=q1.box 0 cs rfl
   have eb:b2=b:=by have:=kb.box;rw [U7] at this;exact (ZE this).symm
   subst eb
   have Vz:w.heap.size≤b2:=Nat.le_of_not_lt kb.base
   have k:=Wo.PO (id:=id) TB.1 TB.2 (b:=b2) (cs:=cs) (vs:=vb) (ty:=ty) (fun h=>by have:=hw.below.PS h;omega) (by
    cases e:own b2 with
    |none=>rfl
    |some q=>have:=hw.owned _ _ e;omega) (fun o=>ev hw.cells Vz o) kb.dQ kb.len (fun i d u hd hv=>by
    obtain ⟨k,rfl⟩:=hb d (Z1 hd)
    have:=kb.rep i _ u hd hv
    cases this
    exact .int _ _)
   obtain ⟨b1,vs1,ty1,kb1⟩:=k.box id cs (bG _ _ _)
   have e1:b1=b2:=by have:=kb1.box;simp only [MM.cQ,if_true] at this;exact (ZE this).symm
   subst e1
   have e2:vs1=vb:=by
    have h3:=kb1.dQ
    rw [kb.dQ] at h3
    have h4:=ZE h3
    simp only [Obj.cells.injEq] at h4
    exact h4.1.symm
   have k2:=k.yt (bG _ _ _) kb1 (sz:=1) (len:=n) (cap:=cap) (TB.2 _) (by rw [e2];exact kb.room 1 _ n cap Uc)
   have U1:(M.cQ id b1).Le ((M.cQ id b1).bU id 1 (.slice (some ⟨b1,0,none⟩) n cap)):=MM.fh (TB.2 _)
   refine ⟨_,rfl,hn _ _ _ w' ((MM.gh TB.1).trans U1) ⟨fun j hj=>by simp [MM.cQ,MM.bU,hj],fun j hj=>by funext q;simp [MM.bU,MM.cQ,hj]⟩ k2 ?_⟩
   exact .dz (b:=b1) (by simp [MM.cQ,MM.bU]) (by simp [MM.bU]) Tm
theorem Kj {P:Program} {o:Oper} {ρ:Operand→D} {c:Call} {f:Operand} {g:FuncId} {first cap:List D} {d:D} {s s':List Ob} (ho:o.op= .call c) (hc:c.callee= .value f) (hf:ρ f= .fn (.func g) first cap)
  (TC:ao P g (first++(c.args.toList.map ρ++cap)) s d s'):LX P o ρ s s' d:=by
 refine ⟨TC.len,?_⟩
 intro w0 M own w a hw Vg hr next Q hn
 have Tu:∀x∈c.args,cj M (ρ x) (a.eval x):=fun x hx=>hr x (by
  simp only [ho,ZQ,aaO,hc]
  exact aaV.2 (.inr hx))
 have UA:=hr f (by
  simp only [ho,ZQ,aaO,hc]
  exact aaV.2 (.inl (by simp)))
 rw [hf] at UA
 generalize hfv:a.eval f=fval at UA
 cases UA with
 |fn h1 h2 r1 r2=>
  rename_i fv cv
  have Um:cA M (first++(c.args.toList.map ρ++cap)) ((fv++c.args.map a.eval)++cv):=by
   rw [Array.append_assoc]
   exact cA.append ⟨h1,r1⟩ (cA.append (o7 c.args Tu) ⟨h2,r2⟩)
  refine rL (qh ho hc hfv TC.Ij w) (Calls.mono (TC.run w0 M own w _ hw Vg Um) fun e w' hh=> ?_)
  obtain ⟨v,M',Tj,rfl,q1,q2,q3,q4⟩:=hh
  exact ⟨v,rfl,hn v M' Tj w' q3 q2 q1 q4⟩
theorem OY {P:Program} {o:Oper} {ρ:Operand→D} {c:Call} {f:Operand} {id:Nat} {d:D} {s s':List Ob} (ho:o.op= .call c) (hc:c.callee= .value f) (hf:ρ f= .jM id)
  (TC:yB P id (c.args.toList.map ρ) s d s'):LX P o ρ s s' d:=by
 refine ⟨TC.len,?_⟩
 intro w0 M own w a hw Vg hr next Q hn
 have Tu:∀x∈c.args,cj M (ρ x) (a.eval x):=fun x hx=>hr x (by
  simp only [ho,ZQ,aaO,hc]
  exact aaV.2 (.inr hx))
 have UA:=hr f (by
  simp only [ho,ZQ,aaO,hc]
  exact aaV.2 (.inl (by simp)))
 rw [hf] at UA
 generalize hfv:a.eval f=fval at UA
 cases UA with
 |jM hb=>
  obtain ⟨fn,tmps,as,bd,h1,h2⟩:=TC.run w0 M own w _ _ hw Vg (o7 c.args Tu) hb
  refine I0 (l:=_) ((C0 ho hc hfv w).trans h1) (h2.mono fun e w' hh=> ?_)
  obtain ⟨v,M',Tj,rfl,q1,q2,q3,q4⟩:=hh
  exact ⟨v,rfl,hn v M' Tj w' q3 q2 q1 q4⟩
theorem uG {s:List Ob} {i:Nat} (h:i<s.length) (o:Ob):bP (s.set i o)=gQ (bP s) i o:=by
 funext k
 unfold bP gQ
 simp only [ZF]
 by_cases e:k=i
 ·subst e;rw [List.getElem?_set_self h];simp
 ·rw [aaL (Ne.symm e),if_neg e]
theorem BA (s:List Ob) (o:Ob):bP (s++ [o])=gQ (bP s) s.length o:=by
 funext k
 unfold bP gQ
 simp only [ZF,aax]
 by_cases e:k=s.length
 ·subst e;simp
 ·rw [if_neg e]
  split
  ·rfl
  ·rename_i h
   rw [ZN (show s.length≤k by omega)]
   have: [o][k - s.length]? =none:=ZN (by simp;omega)
   rw [this]
theorem tK {size:Nat} :∀ {ys nc:List D},db ys=some nc→(∀(i:Nat) (x:D),ys[i]? =some x→∃cs,x.cells=some cs∧cs.length=size)→nc.length=ys.length*size∧
  ∀(i:Nat) (d:D),nc[i]? =some d→∃(q r:Nat) (x:D) (cs:List D),ys[q]? =some x∧x.cells=some cs∧cs[r]? =some d∧i=q*size+r
 | [],nc,h,_=>by
  simp only [db,ZK] at h
  subst h
  exact ⟨by simp,fun i d hd=>by simp at hd⟩
 |y::ys,nc,h,he=>by
  simp only [db] at h
  split at h
  ·rename_i c cs hc Tv
   obtain rfl:=ZE h
   obtain ⟨c',VA,hlen⟩:=he 0 y rfl
   rw [hc] at VA
   obtain rfl:=ZE VA
   obtain ⟨l1,g1⟩:=tK Tv (fun i x hx=>he (i+1) x hx)
   refine ⟨by rw [ZR,l1,hlen,ZZ,Nat.succ_mul];omega,fun i d hd=> ?_⟩
   rcases ZY i c.length with hi|hi
   ·rw [List.getElem?_append_left hi] at hd
    exact ⟨0,i,y,c,rfl,hc,hd,by simp⟩
   ·rw [List.getElem?_append_right hi] at hd
    obtain ⟨q,r,x,cx,h1,h2,h3,h4⟩:=g1 _ d hd
    exact ⟨q+1,r,x,cx,h1,h2,h3,by rw [Nat.succ_mul];omega⟩
  ·cases h
theorem mj (M:MM):M.bare.Le M:=⟨fun _ _ _ h=>h,fun _ _ h=>(by cases h),fun _ _ _ h=>(by cases h),fun _ h=>h.elim⟩
theorem uI {M:MM} {size:Nat} {ys nc:List D} {arr:Array Value} (h:jf M size ys arr) (hc:db ys=some nc):nc.length=ys.length*size∧
  ∀(i:Nat) (d:D) (v:Value),nc[i]? =some d→arr[i]? =some v→cj M d v:=by
 obtain ⟨h1,h2⟩:=tK hc h.elem
 refine ⟨h1,fun i d v hd hv=> ?_⟩
 obtain ⟨q,r,x,cs,a1,a2,a3,rfl⟩:=h2 i d hd
 obtain ⟨u,b1,b2⟩:=h.get q x cs r d a1 a2 a3
 rw [b1] at hv
 obtain rfl:=ZE hv
 exact b2.mono (mj M)
section
variable {P:Program} {o:Oper} {ρ:Operand→D}
theorem I8 {w0:eW} {w:World} {M:MM} {own:Nat→Option Nat} {σ:Nat→Ob} (hw:cn w0 M own σ w) {st xt TK rty e2:TypeId} {ts:Array TypeId} {args:Array Value} (ht:P.underlying st=some (.slice TK)) (hx:P.underlying xt=some (.slice e2)) (h0:ts[0]? =some st) (h1:ts[1]? =some xt)
  (hz:j6 P TK=true) (T8:P.bytesOf TK≤65536) {sz n TQ:Nat} {nc:List D} {u:Value} {a':Option Addr} {new:Array Value} (g0:args[0]? =some u) (g1:args[1]? =some (.slice a' n TQ)) (hu:cj M (.bc .tight sz []) u)
  (ns:new.size=n*P.cellsOf TK) (T7:∀wd:World,(∀a,wd.cell? a=w.cell? a)→(aau (P.cellsOf TK) n (.slice a' n TQ)).run P wd= .ok new wd) (c1:nc.length=n*P.cellsOf TK)
  (c2:∀(i:Nat) (d:D) (v:Value),nc[i]? =some d→new[i]? =some v→cj M d v) (hn:n≤dK) (TX:0<n) {id:Nat} (T1:M.box id=none) (hh:∀v,M.b9 id v=none):
  ∃v M' Tj w',(aav ts rty args).run P w= .ok v w'∧M.Le M'∧cn w0 M' Tj (gQ σ id (.box nc)) w'∧cj M' (.dz id (P.cellsOf TK) n) v∧(∀j,j≠id→M'.box j=M.box j)∧∀j,j≠id→M'.b9 j=M.b9 j:=by
 obtain ⟨i,z,hi,hiz,hzs,TA⟩:=qy hz
 have U5:i.bytes≤65536:=by simpa [Program.bytesOf,hi] using T8
 cases hu with
 |bc b off vs hl Tm ha UI hc0 hr Ty ho=>
  rename_i a len cap
  have Tn:cj M (.bc .tight sz []) (.slice a len cap):= .bc b off vs hl Tm ha UI hc0 hr Ty ho
  have VS:len=0:=by simpa using hl.symm
  have XA:cap=len:=ho
  subst VS
  subst XA
  rw [TA] at ns T7 c1 ⊢
  obtain ⟨mI,os,orow,orun,_⟩:=ny (P:=P) (size:=i.size) Tn (.inr rfl) hw.cells
  have VE:0+n≤2147483648:=by rw [aan];exact hn
  obtain ⟨_,r2⟩:=sl (P:=P) (rty:=rty) ht hx h0 h1 hi hiz g0 g1 (orun w.drew fun _=>rfl) (T7 w fun _=>rfl) (T7 w.drew fun _=>rfl) U5 VE
  obtain ⟨n2,Xl,_,TC⟩:=r2 (by omega)
  rw [aan] at TC Xl
  have hold:mI= #[]:=Array.eq_empty_of_size_eq_zero (by rw [os];simp)
  subst hold
  let arr:= #[]++new++Builtin.zeroCells z.cells (n2 - n)
  have Ug:arr.size=n2*i.size:=by
   simp only [arr,Array.size_append,size_zeroCells,ns,hzs]
   simp only [List.size_toArray,Z5,aan]
   rw [← Nat.add_mul]
   congr 1;omega
  have hle:nc.length≤arr.size:=by rw [c1,Ug];exact Nat.mul_le_mul_right _ (by omega)
  have VW:∀(j:Nat) (d:D) (v:Value),nc[j]? =some d→arr[j]? =some v→cj M d v:=by
   intro j d v hd hv
   have hj:j<new.size:=by
    rw [ns,← c1]
    rcases ZY j nc.length with q|q
    ·exact q
    ·simp [ZN q] at hd
   refine c2 j d v hd ?_
   have:arr[j]? =new[j]? :=by
    simp only [arr]
    rw [Array.getElem?_append_left (by simpa using hj),Array.empty_append]
   rw [← this];exact hv
  have k:cn w0 (M.cQ id w.heap.size) (gI own w.heap.size id) (gQ σ id (.box nc)) (w.drew.alloc (.cells arr TK)):=hw.drew.CF (id:=id) T1 hh (cs:=nc) (vs:=arr) TK hle VW
  obtain ⟨b1,vs1,ty1,kb⟩:=k.box id nc (bG _ _ _)
  have eb:b1=w.heap.size:=by have:=kb.box;simp only [MM.cQ,if_true] at this;exact (ZE this).symm
  have Yw:vs1.size=arr.size:=by
   have h1:=kb.dQ
   rw [eb] at h1
   have h2:(w.drew.alloc (.cells arr TK)).heap[w.heap.size]? =some (.cells arr TK (0,0)):=by
    show (w.heap.push _)[w.heap.size]? =_
    simp
   rw [h2] at h1
   have h3:=ZE h1
   simp only [Obj.cells.injEq] at h3
   rw [← h3.1]
  have k2:=k.yt (bG _ _ _) kb (sz:=i.size) (len:=n) (cap:=n2) (hh _) (by rw [Yw,Ug];exact ZP _)
  subst eb
  have U1:(M.cQ id w.heap.size).Le ((M.cQ id w.heap.size).bU id i.size (.slice (some ⟨w.heap.size,0,none⟩) n n2)):=MM.fh (hh _)
  refine ⟨_,_,_,_,TC,(MM.gh T1).trans U1,k2,?_,fun j hj=>by simp [MM.cQ,MM.bU,hj],fun j hj=>by funext q;simp [MM.bU,MM.cQ,hj]⟩
  exact .dz (b:=w.heap.size) (by simp [MM.cQ,MM.bU]) (by simp [MM.bU]) (by omega)
theorem FO {w0:eW} {w:World} {M:MM} {own:Nat→Option Nat} {σ:Nat→Ob} (hw:cn w0 M own σ w) {st xt TK rty e2:TypeId} {ts:Array TypeId} {args:Array Value} (ht:P.underlying st=some (.slice TK)) (hx:P.underlying xt=some (.slice e2)) (h0:ts[0]? =some st) (h1:ts[1]? =some xt)
  (hz:j6 P TK=true) (T8:P.bytesOf TK≤65536) {W6:lP} {sz TH:Nat} {ys nc:List D} {u u':Value} (g0:args[0]? =some u) (g1:args[1]? =some u') (hu:cj M (.bc .tight sz []) u) (XH:cj M (.bc W6 TH ys) u')
  (W1:TH=P.cellsOf TK∨ys= []) (hn:ys.length≤dK) (TU:ys≠ []) (hc:db ys=some nc) {id:Nat} (T1:M.box id=none) (hh:∀v,M.b9 id v=none):
  ∃v M' Tj w',(aav ts rty args).run P w= .ok v w'∧M.Le M'∧cn w0 M' Tj (gQ σ id (.box nc)) w'∧cj M' (.dz id (P.cellsOf TK) ys.length) v∧(∀j,j≠id→M'.box j=M.box j)∧∀j,j≠id→M'.b9 j=M.b9 j:=by
 cases XH with
 |bc b' off' vs' Us hcap' ha' hsize' VA V2 hst' WA=>
  rename_i a' Ts TQ
  have V3:cj M (.bc W6 TH ys) (.slice a' Ts TQ):= .bc b' off' vs' Us hcap' ha' hsize' VA V2 hst' WA
  obtain ⟨new,ns,Uh,T7,Uz⟩:=ny (P:=P) V3 W1 hw.cells
  obtain ⟨c1,c2⟩:=uI Uh hc
  have TX:0<ys.length:=List.length_pos_iff.2 TU
  subst Us
  exact I8 hw ht hx h0 h1 hz T8 g0 g1 hu ns T7 c1 c2 hn TX T1 hh
theorem FE {w0:eW} {w:World} {M:MM} {own:Nat→Option Nat} {σ:Nat→Ob} (hw:cn w0 M own σ w) {t off o2 n size c b:Nat} {cs nc:List D} (hb:M.box t=some b) (hσ:σ t= .box cs) (U0:n≠0→o2=off) (Ub:(cs.drop off).take (n*size)=nc) (hle:off+n*size≤cs.length):
  ∃new:Array Value,new.size=n*size∧(∀wd:World,(∀a,wd.cell? a=w.cell? a)→(aau size n (.slice (some ⟨b,o2,none⟩) n c)).run P wd= .ok new wd)∧nc.length=n*size∧∀(i:Nat) (d:D) (v:Value),nc[i]? =some d→new[i]? =some v→cj M d v:=by
 by_cases hn:n=0
 ·subst hn
  rw [Nat.zero_mul,List.take_zero] at Ub
  subst Ub
  refine ⟨#[],by simp,fun wd _=>by simp [aau,loadCells,loadCellsFrom],by simp,fun i d v hd=>by simp at hd⟩
 obtain ⟨b2,vs,ty,kb⟩:=hw.box t cs hσ
 have eb:b2=b:=by have:=kb.box;rw [hb] at this;exact (ZE this).symm
 subst eb
 obtain rfl:=U0 hn
 have YY:=kb.len
 refine ⟨vs.extract o2 (o2+n*size),by rw [Array.size_extract];omega,fun wd Y6=> ?_,by rw [← Ub,List.length_take,List.length_drop];omega,fun i d v hd hv=> ?_⟩
 ·have:=kn (P:=P) (w:=wd) b2 o2 (vs.extract o2 (o2+n*size)) (fun j v hj=>by
   rw [Y6]
   rw [Array.getElem?_extract] at hj
   split at hj
   ·simp [World.cell?,kb.dQ,hj]
   ·cases hj)
  rw [show (vs.extract o2 (o2+n*size)).size=n*size by rw [Array.size_extract];omega] at this
  exact this
 ·rw [Array.getElem?_extract] at hv
  split at hv
  ·rename_i hi
   rw [← Ub,List.getElem?_take,if_pos (by omega),aaU] at hd
   exact kb.rep _ d v hd hv
  ·cases hv
theorem sV {d:D} (h:isByte d=true):∃n,d= .int .u8 n:=by
 unfold isByte at h
 split at h
 ·exact ⟨_,rfl⟩
 ·cases h
theorem vv {M:MM} {nc:List D} {new:Array Value} (hl:nc.length=new.size) (h:nc.all isByte=true) (c2:∀(i:Nat) (d:D) (v:Value),nc[i]? =some d→new[i]? =some v→cj M d v):jf M 1 nc new∧∀v∈new.toList,v.oneCell'=true:=by
 have key:∀(i:Nat) (d:D),nc[i]? =some d→∃n,d= .int .u8 n∧new[i]? =some (.int .u8 n):=by
  intro i d hd
  obtain ⟨n,rfl⟩:=sV (aab.1 h d (Z1 hd))
  have hi:i<new.size:=by rw [← hl];exact (List.getElem?_eq_some_iff.1 hd).1
  have e:=c2 i _ new[i] hd (by simp [hi])
  generalize hv:new[i]=v at e
  cases e
  exact ⟨n,rfl,by rw [Array.getElem?_eq_getElem hi,hv]⟩
 refine ⟨⟨by omega,fun i x hx=> ?_,fun i x cs j c hx Tv hj=> ?_,fun i x cs c hx Tv hc=> ?_⟩,fun v hv=> ?_⟩
 ·obtain ⟨n,rfl,_⟩:=key i x hx
  exact ⟨_,rfl,rfl⟩
 ·obtain ⟨n,rfl,hn⟩:=key i x hx
  simp only [D.cells,ZK] at Tv
  subst Tv
  cases j with
  |zero=>
   simp only [aat,ZK] at hj
   subst hj
   exact ⟨_,by rw [Nat.mul_one,Nat.add_zero];exact hn,.int _ _⟩
  |succ j=>simp at hj
 ·obtain ⟨n,rfl,_⟩:=key i x hx
  simp only [D.cells,ZK] at Tv
  subst Tv
  rw [List.mem_singleton] at hc
  subst hc
  rfl
 ·obtain ⟨i,hi,rfl⟩:=List.getElem_of_mem hv
  rw [aal,← hl] at hi
  obtain ⟨n,_,hn⟩:=key i nc[i] (List.getElem?_eq_getElem hi)
  rw [Array.getElem_toList]
  have:=(Array.getElem?_eq_some_iff.1 hn).2
  rw [this]
  rfl
end
def MM.CX (M:MM) (b n:Nat) (vs:Array Value):MM:=M.cy b fun o=>if o<n then vs[o]? else none
theorem MM.KX {M:MM} {b n:Nat} {vs:Array Value} (h:∀o,M.cell b o=none):M.Le (M.CX b n vs):=by
 refine ⟨fun c o v hc=> ?_,fun _ _ x=>x,fun _ _ _ x=>x,fun _ x=>x⟩
 have:c≠b:=fun e=>by rw [e,h o] at hc;cases hc
 simp only [MM.CX,MM.cy,this,if_false]
 exact hc
theorem cn.freeze {w0:eW} {w:World} {M:MM} {own:Nat→Option Nat} {σ:Nat→Ob} (h:cn w0 M own σ w) {id b n:Nat} {cs:List D} {vs:Array Value} {ty:TypeId} (k:tY w0 M own id cs w b vs ty):
  cn w0 (M.CX b n vs) own (gQ σ id .dead) w:=by
 have le:M.Le (M.CX b n vs):=MM.KX k.none
 have TU:∀ {i c:Nat},own c=some i→i≠id→c≠b:=fun hi e ec=>by rw [ec,k.own] at hi;exact e (ZE hi).symm
 have Ue:∀ {c o:Nat},c≠b→M.cell c o=none→(M.CX b n vs).cell c o=none:=fun hc hn=>by simp only [MM.CX,MM.cy,hc,if_false];exact hn
 refine ⟨h.below,?_,?_,h.owned,?_,?_,?_,?_,h.fW⟩
 ·intro c o v hc
  by_cases e:c=b
  ·subst e
   simp only [MM.CX,MM.cy,if_true] at hc
   split at hc
   ·simp [World.cell?,k.dQ,hc]
   ·cases hc
  ·simp only [MM.CX,MM.cy,e,if_false] at hc
   exact h.cells c o v hc
 ·intro c o v hc Tq
  have e:c≠b:=fun e=>k.base (e▸Tq)
  simp only [MM.CX,MM.cy,e,if_false] at hc
  exact h.mI c o v hc Tq
 ·intro i VD hi
  by_cases e:i=id
  ·rw [e,bG] at hi;cases hi
  ·rw [bC e] at hi
   obtain ⟨c,vs2,ty2,k2⟩:=h.box i VD hi
   exact ⟨c,vs2,ty2,k2.box,k2.base,k2.own,fun o=>Ue (TU k2.own e) (k2.none o),k2.dQ,k2.len,fun j d v a b=>(k2.rep j d v a b).mono le,k2.room⟩
 ·intro i ver sz hi
  by_cases e:i=id
  ·rw [e,bG] at hi;cases hi
  ·rw [bC e] at hi
   obtain ⟨a,len,cap,k2⟩:=h.ey i ver sz hi
   refine ⟨a,len,cap,k2.b9,k2.last,?_⟩
   rcases k2.room with r|⟨c,vs2,ty2,fz,ha,r⟩
   ·exact .inl r
   ·exact .inr ⟨c,vs2,ty2,fz,ha,r.base,r.own,r.dQ,r.fz,r.cap,fun o ho=>Ue (TU r.own e) (r.none o ho)⟩
 ·intro i F hi
  by_cases e:i=id
  ·rw [e,bG] at hi;cases hi
  ·rw [bC e] at hi
   obtain ⟨c,Tt,clock,q⟩:=h.mp i F hi
   exact ⟨c,Tt,clock,q.box,q.base,q.own,fun o=>Ue (TU q.own e) (q.none o),q.dQ,q.fits⟩
 ·intro i k2 t ps ag bd hi
  by_cases e:i=id
  ·rw [e,bG] at hi;cases hi
  ·rw [bC e] at hi
   obtain ⟨l,r,q⟩:=h.lp i k2 t ps ag bd hi
   exact ⟨l,r,q.aV le q.own q.dQ⟩
def rows (sz:Nat):Nat→List D→List D
  |0,_=> []
  |n+1,cs=> .agg (cs.take sz)::rows sz n (cs.drop sz)
theorem JN {w0:eW} {w:World} {M:MM} {own:Nat→Option Nat} {id b n cap:Nat} {cs:List D} {vs:Array Value} {ty:TypeId} (k:tY w0 M own id cs w b vs ty) (hl:cs.length=n) (Tm:n≤cap) (hb:cs.all isByte=true):
  cj (M.CX b cs.length vs) (.bc .no 1 cs) (.slice (some ⟨b,0,none⟩) n cap):=by
 have key:∀ {i:Nat} {x:D},cs[i]? =some x→i<cs.length∧∃m,x= .int .u8 m∧vs[i]? =some (.int .u8 m):=by
  intro i x h
  obtain ⟨Tq,_⟩:=List.getElem?_eq_some_iff.1 h
  rw [aab] at hb
  obtain ⟨m,rfl⟩:=sV (hb x (Z1 h))
  obtain ⟨v,hv,hr⟩:=nz k.len k.rep h
  cases hr
  exact ⟨Tq,m,rfl,hv⟩
 refine .bc b 0 (fun i j=>vs.getD (i*1+j) .nilFunc) hl Tm (fun _=>rfl) ?_ ?_ ?_ ?_ trivial
 ·intro i x h1
  obtain ⟨Tq,m,rfl,hv⟩:=key h1
  exact ⟨_,rfl,rfl⟩
 ·intro i x c' j c h1 h2 h3
  obtain ⟨Tq,m,rfl,hv⟩:=key h1
  simp only [D.cells,ZK] at h2
  subst h2
  cases j with
  |zero=>simp only [MM.CX,MM.cy,if_true,aan,Nat.mul_one,Nat.add_zero,if_pos Tq,Z7,hv,aay]
  |succ j=>simp at h3
 ·intro i x c' j c h1 h2 h3
  obtain ⟨Tq,m,rfl,hv⟩:=key h1
  simp only [D.cells,ZK] at h2
  subst h2
  cases j with
  |zero=>
   simp only [aat,ZK] at h3
   subst h3
   simp only [Nat.mul_one,Nat.add_zero,Z7,hv,aay]
   exact .int _ _
  |succ j=>simp at h3
 ·intro i x c' c h1 h2 h3
  obtain ⟨Tq,m,rfl,hv⟩:=key h1
  simp only [D.cells,ZK] at h2
  subst h2
  rw [List.mem_singleton] at h3
  subst h3
  rfl
theorem ao.CX {P:Program} {f:FuncId} {args:List D} {s s':List Ob} {id n:Nat} {cs:List D} (h:ao P f args s (.dz id 1 n) s') (hs:s'.getD id .dead= .box cs) (hl:cs.length=n) (hb:cs.all isByte=true):
  ao P f args s (.bc .no 1 cs) (s'.set id .dead):=by
 have Tq:id<s'.length:=by
  rcases ZY id s'.length with q|q
  ·exact q
  ·rw [ZF,ZN q] at hs;cases hs
 refine ⟨h.Ij,by rw [aaz];exact h.len,fun w0 M own w vs hw Vg hr=>Calls.mono (h.run w0 M own w vs hw Vg hr) ?_⟩
 rintro e w' ⟨v,M',Tj,rfl,q1,q2,q3,q4⟩
 cases q4 with
 |dz U7 Uc Tm=>
  rename_i b cap
  obtain ⟨b2,vb,ty,kb⟩:=q1.box id cs hs
  have eb:b2=b:=by have:=kb.box;rw [U7] at this;exact (ZE this).symm
  subst eb
  refine ⟨_,M'.CX b2 cs.length vb,Tj,rfl,?_,?_,q3.trans (MM.KX kb.none),JN kb hl Tm hb⟩
  ·rw [uG Tq];exact q1.freeze (n:=cs.length) kb
  ·rw [aaz];exact q2
section
variable {ρ':Type} {P:Program} {r:ρ'} {o:Oper} {ρ:Operand→D}
theorem foldl_push (l:List D) (h:l.all isByte=true):∃ns:List Int,l=ns.map (fun n=>D.int .u8 n)∧iG l=ns.foldl (fun r n=>r.push (UInt8.ofNat n.toNat)) ByteArray.empty:=by
 have key:∀(l:List D) (s:ByteArray),l.all isByte=true→∃ns:List Int,l=ns.map (fun n=>D.int .u8 n)∧(⟨s.data++(l.map byteOf).toArray⟩:ByteArray)=ns.foldl (fun r n=>r.push (UInt8.ofNat n.toNat)) s:=by
  intro l
  induction l with
  |nil=>intro s _;exact ⟨[],rfl,by simp⟩
  |cons d t ih=>
   intro s h
   rw [List.all_cons,ZD] at h
   obtain ⟨n,rfl⟩:∃n,d= .int .u8 n:=by
    have h1:=h.1
    unfold isByte at h1
    split at h1
    ·exact ⟨_,rfl⟩
    ·cases h1
   obtain ⟨ns,e1,e2⟩:=ih (s.push (UInt8.ofNat n.toNat)) h.2
   refine ⟨n::ns,by simp [e1],?_⟩
   rw [List.foldl_cons,← e2]
   congr 1
   apply Array.ext'
   simp [byteOf,ByteArray.push]
 obtain ⟨ns,e1,e2⟩:=key l ByteArray.empty h
 refine ⟨ns,e1,?_⟩
 rw [← e2]
 unfold iG
 congr 1
 apply Array.ext'
 simp [ByteArray.empty,ByteArray.emptyWithCapacity]
 rfl
theorem Ix {z:Z P} {src dst:TypeId} {x:Operand} {K:Z P→jT→Option ρ'} (ho:o.op= .convert src dst x) (h:LA P z src dst (ρ x) K=some r):
  ∃e z',K z' e=some r∧(z'.c→z.c∧gH P o ρ e)∧((∃d,e= .pure d)∨∃q m,e= .new q m):=by
 unfold LA at h
 split at h
 ·rename_i hs hd hx
  refine ⟨_,z,h,fun c=>⟨c,cC fun M w a _ hr=> ?_⟩,.inl ⟨_,rfl⟩⟩
  have h1:=eo (hr x (by simp [ho,ZQ])) hx
  rename_i d k _ n _
  exact ⟨.int _ _,by simp [execOp,ho,h1,convert,run_underlying hs,run_underlying hd,Conv.intToInt],.int _ _⟩
 ·rename_i hs hd hx
  refine ⟨_,z,h,fun c=>⟨c,cC fun M w a _ hr=> ?_⟩,.inl ⟨_,rfl⟩⟩
  have h1:=hr x (by simp [ho,ZQ])
  rw [hx] at h1
  generalize hv:a.eval x=v at h1
  cases h1
  exact ⟨.string _,by simp [execOp,ho,hv,convert,run_underlying hs,run_underlying hd],.str _⟩
 ·rename_i e s hs hd hx
  split at h
  ·rename_i he
   obtain ⟨VE,h⟩:=b8 h
   rw [aaF] at VE
   refine ⟨_,z,h,fun c=>⟨c,?_⟩,.inr ⟨_,_,rfl⟩⟩
   intro w0 M own σ w a id hw hr TB next Q hn
   have h1:=hr x (by simp [ho,ZQ])
   rw [hx] at h1
   generalize hv:a.eval x=v at h1
   cases h1
   let cap:=grownCap w s.size 0 e
   have Tm:s.size≤cap:=grownCap_ge w _ _ _
   let arr:Array Value:=(s.data.map fun b=>Value.int .u8 b.toNat)++Array.replicate (cap - s.size) (.int .u8 0)
   have Y0:s.data.size=s.size:=rfl
   have Ug:arr.size=cap:=by simp [arr,Y0];omega
   have UJ:jf M 1 (lg s) arr:=by
    have hb:∀ {i:Nat} {x:D},(lg s)[i]? =some x→∃c,s.data[i]? =some c∧x=Be c:=by
     intro i x hi
     unfold lg at hi
     rw [ZU,ZS] at hi
     obtain ⟨c,hc,rfl⟩:=hi
     exact ⟨c,by simpa using hc,rfl⟩
    refine ⟨?_,?_,?_,?_⟩
    ·rw [Ug,Nat.mul_one];simp [lg,Y0];exact Tm
    ·intro i x hi
     obtain ⟨c,_,rfl⟩:=hb hi
     exact ⟨[Be c],rfl,rfl⟩
    ·intro i x cs j c hi Tv hj
     obtain ⟨b,hb1,rfl⟩:=hb hi
     simp only [Be,D.cells,ZK] at Tv
     subst Tv
     cases j with
     |succ j=>simp at hj
     |zero=>
      simp at hj
      subst hj
      refine ⟨.int .u8 b.toNat,?_,.int _ _⟩
      have Tq:i<s.data.size:=by
       rcases ZY i s.data.size with q|q
       ·exact q
       ·simp [aak q] at hb1
      simp only [arr,Nat.mul_one,Nat.add_zero]
      rw [Array.getElem?_append_left (by simpa using Tq)]
      simp [hb1]
    ·intro i x cs c hi Tv T3
     obtain ⟨b,_,rfl⟩:=hb hi
     simp only [Be,D.cells,ZK] at Tv
     subst Tv
     simp at T3
     subst T3
     rfl
   have hlen:(lg s).length=s.size:=by simp [lg,Y0]
   have VQ:=rA (M:=M) (w:=w) (wd:=w.drew) (arr:=arr) (ty:=e) (n:=s.size) hw.cells rfl (Below.refl _ _).drew (arr.size,arr.size+1)
   obtain ⟨UF,U1⟩:=hw.ext VQ rfl rfl rfl
   have Wl:(w.drew.alloc (.cells arr e (arr.size,arr.size+1))).heap[w.heap.size]? =some (.cells arr e (arr.size,arr.size+1)):=by
    show (w.heap.push _)[w.heap.size]? =_
    simp
   have Uu:own w.heap.size=none:=by
    cases e:own w.heap.size with
    |none=>rfl
    |some q=>have:=hw.owned _ _ e;omega
   obtain ⟨Tj,hw3⟩:=UF.si (id:=id) (ver:=0) (fun v _=>TB.2 v) (a:=some ⟨w.heap.size,0,none⟩) (len:=s.size) (cap:=cap) 1
    (.inr ⟨w.heap.size,arr,e,(arr.size,arr.size+1),rfl,hw.below.new,.inl Uu,Wl,fun o ho h=>by have:=h.1;simp at this;omega,⟨by rw [Ug];omega,aaS (grownCap_le_maxLen w _ _ _ (by unfold maxLen;omega)) (by unfold maxLen;omega)⟩,fun o ho=>by
     simp only [MM.lay,MM.cy,if_true];rw [if_neg (by omega)]⟩)
   have Vk:=MM.fh (M:=M.lay w.heap.size arr s.size) (id:=id) (ver:=0) (v:= .slice (some ⟨w.heap.size,0,none⟩) s.size cap) (TB.2 0)
   refine gz (v:= .slice (some ⟨w.heap.size,0,none⟩) s.size cap) (w':=w.drew.alloc (.cells arr e (arr.size,arr.size+1))) ?_ (hn _ _ Tj _ (U1.trans Vk) ⟨fun _ _=>rfl,fun j hj=>by funext k;simp [MM.bU,hj,MM.lay,MM.cy]⟩ hw3 ?_)
   ·have Xa:(w.drew.alloc (.cells arr e)).freeze ⟨w.heap.size,arr.size,none⟩ 1=w.drew.alloc (.cells arr e (arr.size,arr.size+1)):=by
     unfold World.freeze World.alloc
     simp only [Nat.one_ne_zero,if_false]
     congr 1
     apply Array.ext_getElem?
     intro k
     rw [Array.getElem?_modify]
     by_cases e1:w.heap.size=k
     ·subst e1
      rw [if_pos rfl]
      show Option.map _ ((w.heap.push _)[w.heap.size]?)=(w.heap.push _)[w.heap.size]?
      simp
     ·rw [if_neg e1]
      show (w.heap.push _)[k]? =(w.heap.push _)[k]?
      rw [Array.getElem?_push,Array.getElem?_push,if_neg (Ne.symm e1),if_neg (Ne.symm e1)]
    have WY:(w.drew.alloc (.cells arr e)).shape? w.heap.size=some (e,arr.size):=by
     unfold World.shape?
     have:(w.drew.alloc (.cells arr e)).heap[w.heap.size]? =some (.cells arr e):=by
      show (w.heap.push _)[w.heap.size]? =_
      simp
     rw [this]
    have Wz:(Question.appendCap s.size 0 e).forced=false:=rfl
    have hch:(choose (.appendCap s.size 0 e)).run P w= .ok cap w.drew:=by
     rw [run_choose,Wz];rfl
    have XK:(newRow e arr).run P w.drew= .ok ⟨w.heap.size,0,none⟩ (w.drew.alloc (.cells arr e)):=by first|(simp [newRow];done)|(simp [newRow];rfl)
    simp only [execOp,ho,hv,convert,ZW,run_underlying hs,run_underlying hd,run_underlying he,ZO,Conv.stringToBytes,hch]
    rw [show (newRow e ((s.data.map fun b=>Value.int .u8 b.toNat)++Array.replicate (cap - s.size) (.int .u8 0)))=newRow e arr from rfl,XK]
    simp only [ZO,markStringish,ZW,run_shape,WY,run_freeze,Xa,Z4]
   ·have h5:=qX (M:=M) (b:=w.heap.size) (o:= .no) (cap:=cap) (n:=s.size) UJ (ev hw.cells (ZP _)) (by rw [hlen];exact Tm) (by rw [hlen];omega) trivial
    rw [hlen] at h5
    exact (h5.mono Vk).flag _ (by simp [MM.pX,MM.bU])
  ·cases h
 ·rename_i e ow sz xs hs hd hx
  split at h
  ·rename_i he
   obtain ⟨z',h1,h2⟩:=fe h
   refine ⟨_,z',h1,fun c=>⟨(h2 c).1,cC fun M w a hw hr=> ?_⟩,.inl ⟨_,rfl⟩⟩
   have Ud:=hr x (by simp [ho,ZQ])
   rw [hx] at Ud
   generalize hv:a.eval x=v at Ud
   obtain ⟨ns,e1,e2⟩:=foldl_push xs (h2 c).2
   cases Ud with
   |bc b off vs hl Tm ha Tw hc hrr Ty WA=>
    rename_i ad len cap
    have Tn:cj M (.bc ow sz xs) (.slice ad len cap):= .bc b off vs hl Tm ha Tw hc hrr Ty WA
    have YE:sz=1∨xs= []:=by
     cases xs with
     |nil=>exact .inr rfl
     |cons d t=>
      left
      obtain ⟨cs,q1,q2⟩:=Tw 0 d rfl
      cases ns with
      |nil=>simp at e1
      |cons n ns=>simp at e1;rw [e1.1] at q1;simp [D.cells] at q1;subst q1;simpa using q2.symm
    obtain ⟨arr,os,orow,orun,_⟩:=ny (P:=P) Tn YE hw
    have Ug:arr=(ns.map (Value.int .u8)).toArray:=by
     apply Array.ext_getElem?
     intro k
     have hlen:xs.length=ns.length:=by rw [e1];simp
     rcases ZY k ns.length with q|q
     ·have hxk:xs[k]? =some (.int .u8 ns[k]):=by rw [e1];simp [q]
      obtain ⟨u,hu,hru⟩:=orow.get k _ [.int .u8 ns[k]] 0 _ hxk rfl rfl
      cases hru
      rw [Nat.mul_one,Nat.add_zero] at hu
      rw [hu]
      simp [q]
     ·rw [aak (by omega),aak (by simpa using q)]
    have YB:(Conv.bytesToString (.slice ad len cap)).run P w= .ok (.string (iG xs)) w:=by
     rw [e2]
     cases ad with
     |none=>
      have:xs= []:=by
       cases xs with
       |nil=>rfl
       |cons d t=>have:=ha (by simp);cases this
      subst this
      have:ns= []:=by simpa using e1.symm
      subst this
      simp [Conv.bytesToString]
     |some ad=>
      have:=orun w (fun _=>rfl)
      simp only [aau,Nat.mul_one] at this
      rw [Ug] at this
      exact run_bytesToString w ad len cap ns this
    refine ⟨.string (iG xs),?_,.str _⟩
    simp only [execOp,ho,hv,ZW,run_convert_bytes_string w src dst e ad len cap hs he hd,YB,ZO,Z4]
  ·cases h
 ·cases h
theorem uF {z:Z P} {st xt TK e2:TypeId} {ts:Array TypeId} {id off sz n Yc:Nat} {s:List Ob} {K:Z P→jT→Option ρ'} {args:Act→Array Value} {ux uy:Act→Value}
  (TR:∀(a:Act) (w w':World) (v:Value),(aav ts o.type (args a)).run P w= .ok v w'→(execOp a.eval o).run P w= .ok (.value v) w') (ht:P.underlying st=some (.slice TK)) (hx:P.underlying xt=some (.slice e2)) (h0:ts[0]? =some st) (h1:ts[1]? =some xt)
  (g0:∀a,(args a)[0]? =some (ux a)) (g1:∀a,(args a)[1]? =some (uy a)) (XZ:∀(M:MM) (a:Act),(∀q∈o.op.operands,cj M (ρ q) (a.eval q))→cj M (.bc .tight Yc []) (ux a))
  (Xu:∀(M:MM) (a:Act),(∀q∈o.op.operands,cj M (ρ q) (a.eval q))→∃b o2 c,uy a= .slice (some ⟨b,o2,none⟩) n c∧M.box id=some b∧(n≠0→o2=off))
  (h:Ep P z TK id off sz n s K=some r):∃e z',K z' e=some r∧(z'.c→z.c∧jY P o ρ s e):=by
 unfold Ep at h
 split at h
 ·rename_i cs Tv
  obtain ⟨hchk,h⟩:=b8 h
  simp only [ZD,aaF,Z3] at hchk
  obtain ⟨⟨hzero,Tw⟩,hb⟩:=hchk
  obtain ⟨z1,h,hz1⟩:=ou h
  subst Tw
  split at h
  ·rename_i q r0 hzo0
   split at h
   ·rename_i Xi
    rw [Z3] at Xi
    split at h
    ·rename_i l i k nc hg rest
     obtain ⟨z2,h,VJ⟩:=fe h
     refine ⟨_,z2,h,fun hc=> ?_⟩
     obtain ⟨⟨e1,e2',e3⟩,VL⟩:=(VJ hc).1
     have Xr:=(VJ hc).2
     subst e1 e2' e3
     refine ⟨(hz1 VL).1,by simp,?_⟩
     intro w0 M own w a hw Vg hr next Q hn
     obtain ⟨b,o2,c,huv,U7,U0⟩:=Xu M a hr
     obtain ⟨new,ns,T7,c1,c2⟩:=FE (P:=P) (c:=c) hw U7 Tv U0 hg.1 hg.2
     have YQ:nc.length=n:=by rw [c1,Xi,Nat.mul_one]
     obtain ⟨Uh,Uz⟩:=vv (by rw [c1,ns]) Xr c2
     have Y8:=g1 a
     rw [huv] at Y8
     have Ud:=XZ M a hr
     obtain ⟨v,M',Tj,w',q1,q2,q3,q4,q5,q6⟩:=tN (rty:=o.type) (ys:=nc) hw ht hx h0 h1 hzero hb (g0 a) Y8 Ud YQ (by rw [ns,YQ]) (by rw [Xi];exact Uh) T7 Uz (.inr rfl) (by rw [Z5,aan,YQ];exact (hz1 VL).2) (id:=s.length) (ver:=0) (fun v _=>Vg.2 _ v (ZP _))
      (fun ad len cap e=>by
       rw [e] at Ud
       cases Ud with
       |bc b off vs hl Tm ha Tw hc hr Ty ho=>exact .inl ho)
     rw [List.nil_append] at q4
     refine gz (TR a w w' v q1) (hn v M' Tj w' q2 ⟨fun i hi=> ?_,fun i q hi=> ?_⟩ ?_ q4)
     ·simp only [ZR,ZZ,Z5] at hi
      rw [q5];exact Vg.1 i (by omega)
     ·simp only [ZR,ZZ,Z5] at hi
      rw [q6 i (by omega)];exact Vg.2 i q (by omega)
     ·rw [BA];exact q3
    ·cases h
   ·cases h
  cases h
 ·cases h
theorem JD {z:Z P} {s:List Ob} {x:D} {size:Nat} {K:Z P→List D→Nat→Option ρ'} (h:Ot z s x size K=some r):
  ∃z' nc m,K z' nc m=some r∧(z'.c→z.c∧∀(w0:eW) (M:MM) (own:Nat→Option Nat) (w:World) (u:Value),cn w0 M own (bP s) w→cj M x u→
   ∃(a:Option Addr) (c:Nat) (new:Array Value),u= .slice a m c∧new.size=m*size∧(∀wd:World,(∀a,wd.cell? a=w.cell? a)→(aau size m u).run P wd= .ok new wd)∧nc.length=m*size∧∀(i:Nat) (d:D) (v:Value),nc[i]? =some d→new[i]? =some v→cj M d v):=by
 have bx:∀ {id off n:Nat} {q:Bool},(∀(M:MM) (u:Value),cj M x u→∃b o2 c,u= .slice (some ⟨b,o2,none⟩) n c∧M.box id=some b∧(n≠0→o2=off))→jC q (rF z s id off n size K)=some r→
   ∃z' nc m,K z' nc m=some r∧(z'.c→z.c∧∀(w0:eW) (M:MM) (own:Nat→Option Nat) (w:World) (u:Value),cn w0 M own (bP s) w→cj M x u→
   ∃(a:Option Addr) (c:Nat) (new:Array Value),u= .slice a m c∧new.size=m*size∧(∀wd:World,(∀a,wd.cell? a=w.cell? a)→(aau size m u).run P wd= .ok new wd)∧nc.length=m*size∧∀(i:Nat) (d:D) (v:Value),nc[i]? =some d→new[i]? =some v→cj M d v):=by
  intro id off n q hu h
  obtain ⟨_,h⟩:=b8 h
  unfold rF at h
  split at h
  ·rename_i cs Tv
   split at h
   ·rename_i l i k nc hg rest YU
    refine ⟨_,_,_,h,fun hc=>⟨hc.2,fun w0 M own w u hw hr=> ?_⟩⟩
    obtain ⟨⟨e1,e2,e3⟩,_⟩:=hc
    subst e1 e2 e3
    obtain ⟨b,o2,c,rfl,U7,U0⟩:=hu M u hr
    obtain ⟨new,ns,T7,c1,c2⟩:=FE (P:=P) (c:=c) hw U7 Tv U0 hg.1 hg.2
    exact ⟨_,_,new,rfl,ns,T7,c1,c2⟩
   ·cases h
  ·cases h
 unfold Ot at h
 split at h
 ·obtain ⟨hk,h⟩:=b8 h
  obtain ⟨z',nc,h,hz⟩:=HV h
  refine ⟨z',nc,_,h,fun hc=>⟨(hz hc).1,fun w0 M own w u hw hr=> ?_⟩⟩
  cases hr with
  |bc b off vs hl Tm ha Tw hc0 hr0 Ty ho=>
   rename_i a len cap
   have Tn:=cj.bc b off vs hl Tm ha Tw hc0 hr0 Ty ho
   obtain ⟨new,ns,Uh,T7,_⟩:=ny (P:=P) Tn (lK hk) hw.cells
   obtain ⟨c1,c2⟩:=uI Uh (hz hc).2
   subst hl
   exact ⟨_,_,new,rfl,ns,T7,c1,c2⟩
 ·exact bx (fun M u hr=>by cases hr with|dz hb Uc hc=>exact ⟨_,0,_,rfl,hb,fun _=>rfl⟩) h
 ·exact bx (fun M u hr=>by cases hr with|sub hb hc hp U0=>exact ⟨_,_,_,rfl,hb,U0⟩) h
 ·cases h
theorem tH {z:Z P} {c:Call} {x y:Operand} {rest:List Operand} {s:List Ob} {K:Z P→jT→Option ρ'} {ty e:TypeId} {id off n:Nat} (ho:o.op= .call c) (hc:c.callee= .builtin .copy) (Tu:c.args.toList=x::y::rest) (t0:c.argTypes[0]? =some ty) (ht:P.underlying ty=some (.slice e)) (hk:known P e=true) (hs:P.cellsOf e=1)
  (hu:∀(M:MM) (u:Value),cj M (ρ x) u→∃b o2 c,u= .slice (some ⟨b,o2,none⟩) n c∧M.box id=some b∧(n≠0→o2=off)) (h:yf z s id off n (ρ y) K=some r):∃e z',K z' e=some r∧(z'.c→z.c∧jY P o ρ s e):=by
 have hx:x∈o.op.operands:=by
  have:x∈c.args.toList:=by rw [Tu];simp
  simp only [ho,ZQ,aaO,hc];simpa using this
 have hy:y∈o.op.operands:=by
  have:y∈c.args.toList:=by rw [Tu];simp
  simp only [ho,ZQ,aaO,hc];simpa using this
 unfold yf at h
 obtain ⟨z1,nc,m,h,hz1⟩:=JD h
 obtain ⟨z2,h,VJ⟩:=fe h
 obtain ⟨z3,h,hz3⟩:=fe h
 split at h
 ·rename_i cs Tv
  split at h
  ·rename_i l i xs l' hg Zk YU
   refine ⟨_,_,h,fun T3=> ?_⟩
   obtain ⟨⟨e1,e2,e3⟩,hc3⟩:=T3
   subst e1 e2 e3
   have Wt:=(hz3 hc3).1
   have Xr:=(hz3 hc3).2
   have VL:=(VJ Wt).1
   have Zl:=(VJ Wt).2
   rw [aaF] at Zl
   have Tq:id<s.length:=ik (by rw [Tv];intro e;cases e)
   refine ⟨(hz1 VL).1,by simp,?_⟩
   intro w0 M own w a hw Vg hr next Q hn
   obtain ⟨b,o2,cc,XZ,U7,U0⟩:=hu M _ (hr x hx)
   obtain ⟨sa,sc,new,Xu,ns,T7,c1,c2⟩:=(hz1 VL).2 w0 M own w _ hw (hr y hy)
   rw [Nat.mul_one] at ns c1
   obtain ⟨Uh,Uz⟩:=vv (by rw [c1,ns]) Xr c2
   obtain ⟨b2,vs,bt,kb⟩:=hw.box id l Tv
   have eb:b2=b:=by have:=kb.box;rw [U7] at this;exact (ZE this).symm
   subst eb
   have Xf:new.toList.length=m:=by rw [aal,ns]
   have hle:=kb.len
   have VK:i+m≤l.length:=by rw [← c1];exact hg.2
   have Ty:(storeCells ⟨b2,o2,none⟩ new.toList).run P w= .ok () (cR w b2 (.cells (eG vs i new.toList) bt (0,0))):=by
    by_cases hm:m=0
    ·have TP:new= #[]:=Array.eq_empty_of_size_eq_zero (by rw [ns,hm])
     subst TP
     have:=iU (P:=P) (b:=b2) (off:=i) (fz:=(0,0)) ([]:List Value) 0 w vs kb.dQ (by simp) (by simp;omega) (fun o _ h=>by have:=h.2;simp at this)
     simp only [storeCells,Z4,Nat.add_zero] at this ⊢
     exact this
    ·obtain rfl:=U0 (by omega)
     have:=iU (P:=P) (b:=b2) (off:=o2) (fz:=(0,0)) new.toList 0 w vs kb.dQ Uz (by rw [Xf];omega) (fun o _ h=>by have:=h.2;simp at this)
     rw [Nat.add_zero] at this
     exact this
   have hrl:cA M xs ⟨new.toList⟩:=⟨by simp [c1,ns],fun i d v hd hv=>c2 i d v hd (by simpa using hv)⟩
   have Tn:=o6 (M:=M) kb.len kb.rep hrl hg.2
   have Yo:jx l i xs=l':=by unfold jx;exact hg.1
   rw [Yo] at Tn
   have VZ:=hw.Ju kb Tn.1 (e9 _ _ _) Tn.2
   refine gz (v:= .int .i64 m) (w':=cR w b2 (.cells (eG vs i new.toList) bt (0,0))) ?_ (hn _ M own _ (.refl M) ⟨fun j hj=> ?_,fun j q hj=> ?_⟩ ?_ (.int _ _))
   ·rw [fI ho hc]
    have e0:c.args[0]? =some x:=by rw [← Z0,Tu];rfl
    have e1:c.args[1]? =some y:=by rw [← Z0,Tu];rfl
    have XB:=T7 w (fun _=>rfl)
    rw [Xu] at XB
    simp [builtin,Builtin.copy_,t0,e0,e1,run_underlying ht,XZ,Xu,Builtin.lenOf,Nat.min_eq_left Zl,dk hk,hs,XB,Ty,goInt]
   ·rw [aaz] at hj;exact Vg.1 j hj
   ·rw [aaz] at hj;exact Vg.2 j q hj
   ·rw [uG Tq];exact VZ
  ·cases h
 ·cases h
theorem Iw {z:Z P} {c:Call} {x y:Operand} {rest:List Operand} {s:List Ob} {K:Z P→jT→Option ρ'} (ho:o.op= .call c) (hc:c.callee= .builtin .copy) (Tu:c.args.toList=x::y::rest) (h:Lz P z c.argTypes (ρ x) (ρ y) s K=some r):∃e z',K z' e=some r∧(z'.c→z.c∧jY P o ρ s e):=by
 unfold Lz at h
 split at h
 ·rename_i ty ts Xd
  have t0:c.argTypes[0]? =some ty:=by rw [← Z0,Xd];rfl
  split at h
  ·rename_i e ht
   obtain ⟨hk,h⟩:=b8 h
   rw [ZD,Z3] at hk
   split at h
   ·rename_i id sz n hρ
    obtain ⟨_,h⟩:=b8 h
    exact tH ho hc Tu t0 ht hk.1 hk.2 (fun M u hr=>by rw [hρ] at hr;cases hr with|dz hb Uc hc=>exact ⟨_,0,_,rfl,hb,fun _=>rfl⟩) h
   ·rename_i id off sz n cp hρ
    obtain ⟨_,h⟩:=b8 h
    exact tH ho hc Tu t0 ht hk.1 hk.2 (fun M u hr=>by rw [hρ] at hr;cases hr with|sub hb hc hp U0=>exact ⟨_,_,_,rfl,hb,U0⟩) h
   ·cases h
  ·cases h
 ·cases h
theorem HA {z:Z P} {st xt TK e2:TypeId} {ts:Array TypeId} {id off sz n c WO UT Un n2:Nat} {cp2:Option Nat} {s:List Ob} {K:Z P→jT→Option ρ'} {args:Act→Array Value} {ux uy:Act→Value}
  (TR:∀(a:Act) (w w':World) (v:Value),(aav ts o.type (args a)).run P w= .ok v w'→(execOp a.eval o).run P w= .ok (.value v) w') (ht:P.underlying st=some (.slice TK)) (hx:P.underlying xt=some (.slice e2)) (h0:ts[0]? =some st) (h1:ts[1]? =some xt)
  (g0:∀a,(args a)[0]? =some (ux a)) (g1:∀a,(args a)[1]? =some (uy a)) (XZ:∀(M:MM) (a:Act),(∀q∈o.op.operands,cj M (ρ q) (a.eval q))→cj M (.sub id off sz n (some c)) (ux a))
  (Xu:∀(M:MM) (a:Act),(∀q∈o.op.operands,cj M (ρ q) (a.eval q))→cj M (.sub WO UT Un n2 cp2) (uy a))
  (h:KY P z TK id off sz n c WO UT Un n2 s K=some r):∃e z',K z' e=some r∧(z'.c→z.c∧jY P o ρ s e):=by
 simp [KY] at h
theorem Bn {z:Z P} {c:Call} {x y:Operand} {rest:List Operand} {s:List Ob} {K:Z P→jT→Option ρ'} (ho:o.op= .call c) (hc:c.callee= .builtin .append) (Tu:c.args.toList=x::y::rest) (h:yx P z c.argTypes (ρ x) (ρ y) s K=some r):
  ∃e z',K z' e=some r∧(z'.c→z.c∧jY P o ρ s e):=by
 have hx:x∈o.op.operands:=by
  have:x∈c.args.toList:=by rw [Tu];simp
  simp only [ho,ZQ,aaO,hc];simpa using this
 have hy:y∈o.op.operands:=by
  have:y∈c.args.toList:=by rw [Tu];simp
  simp only [ho,ZQ,aaO,hc];simpa using this
 have ga:∀a:Act,(c.args.map a.eval)[0]? =some (a.eval x)∧(c.args.map a.eval)[1]? =some (a.eval y):=by
  intro a
  have e0:c.args[0]? =some x:=by rw [← Z0,Tu];rfl
  have e1:c.args[1]? =some y:=by rw [← Z0,Tu];rfl
  simp [e0,e1]
 unfold yx at h
 split at h
 ·rename_i st xt ts Xd
  have t0:c.argTypes[0]? =some st:=by rw [← Z0,Xd];rfl
  have t1:c.argTypes[1]? =some xt:=by rw [← Z0,Xd];rfl
  split at h
  ·rename_i TK e2 ht VQ
   split at h
   ·rename_i ow sz xs W6 TH ys Wd VU
    have TR:∀(a:Act) (w w':World) (v:Value),(aav c.argTypes o.type (c.args.map a.eval)).run P w= .ok v w'→(execOp a.eval o).run P w= .ok (.value v) w':=by
     intro a w w' v hv
     rw [fI ho hc]
     simp only [builtin,ZW,hv,ZO,Z4]
    split at h
    ·rename_i r0 YU
     split at h
     ·obtain ⟨hchk,h⟩:=b8 h
      simp only [ZD,aaF] at hchk
      obtain ⟨⟨hzero,WV⟩,hb⟩:=hchk
      obtain ⟨z1,h,hz1⟩:=ou h
      obtain ⟨z2,nc,h,VJ⟩:=HU h
      refine ⟨_,z2,h,fun Wt=>⟨(hz1 (VJ Wt).1).1,?_⟩⟩
      have VL:=(VJ Wt).1
      have UO:=(VJ Wt).2.1
      have TU:=(VJ Wt).2.2
      intro w0 M own σ w a id hw hr TB next Q hn
      have Ud:=hr x hx
      have Vl:=hr y hy
      rw [Wd] at Ud
      rw [VU] at Vl
      obtain ⟨v,M',Tj,w',q1,q2,q3,q4,q5,q6⟩:=FO (rty:=o.type) hw ht VQ t0 t1 hzero hb (ga a).1 (ga a).2 Ud Vl (lK WV) (hz1 VL).2 TU UO (id:=id) TB.1 TB.2
      exact gz (TR a w w' v q1) (hn v M' Tj w' q2 ⟨q5,q6⟩ q3 q4)
     ·cases h
    ·rename_i m r0 YU
     cases h
    have hh:=b8 h
    clear h
    obtain ⟨hchk,h⟩:=hh
    simp only [ZD,aaF] at hchk
    obtain ⟨⟨⟨⟨_,hzero⟩,Xi⟩,WV⟩,hb⟩:=hchk
    have hh:=ou h
    clear h
    obtain ⟨z1,h,hz1⟩:=hh
    split at h
    ·
     refine ⟨_,z1,h,fun VL=>⟨(hz1 VL).1,?_⟩⟩
     intro w0 M own σ w a id hw hr TB next Q hn
     have Ud:=hr x hx
     have Vl:=hr y hy
     rw [Wd] at Ud
     rw [VU] at Vl
     obtain ⟨v,M',Tj,w',q1,q2,q3,q4,q5,q6⟩:=qJ (rty:=o.type) hw ht VQ t0 t1 hzero hb (ga a).1 (ga a).2 Ud Vl (lK Xi) (lK WV) (hz1 VL).2 (id:=id) (ver:=0) (fun v _=>TB.2 v)
      (fun ad len cap e=>by
       rw [e] at Ud
       cases Ud with
       |bc b off vs hl Tm ha Tw hc hr Ty ho=>exact .inl ho)
     exact gz (TR a w w' v q1) (hn v M' Tj w' q2 ⟨fun j _=>by rw [q5],q6⟩ q3 q4)
    ·rename_i t v
     split at h
     ·rename_i v' Un Ty
      obtain ⟨hk,h⟩:=b8 h
      rw [ZD,Z3,Z3] at hk
      obtain ⟨rfl,rfl⟩:=hk
      refine ⟨_,z1,h,fun VL=>⟨(hz1 VL).1,⟨Ty,ik (by rw [Ty];intro e;cases e)⟩,?_⟩⟩
      intro w0 M own σ w a id hw hr TB next Q hn
      have WK:σ t= .ey v' (P.cellsOf TK):=TB
      have Ud:=hr x hx
      have Vl:=hr y hy
      rw [Wd] at Ud
      rw [VU] at Vl
      obtain ⟨fa,flen,fcap,hfam⟩:=hw.ey t v' _ WK
      obtain ⟨u,M',Tj,w',q1,q2,q3,q4,q5,q6⟩:=qJ (rty:=o.type) hw ht VQ t0 t1 hzero hb (ga a).1 (ga a).2 Ud Vl (lK Xi) (lK WV) (hz1 VL).2 (id:=t) (ver:=v'+1) (fun v hv=>hfam.last v (by omega))
       (fun ad len cap e=>by
        rw [e] at Ud
        cases Ud with
        |bc b off vs hl Tm ha Tw hc hr Ty ho=>
         have Yb:M.b9 t v'=some (.slice ad len cap):=ho
         rw [hfam.b9] at Yb
         simp only [ZK,Value.slice.injEq] at Yb
         obtain ⟨rfl,rfl,rfl⟩:=Yb
         rcases hfam.room with q|⟨b',vs',ty',fz',e1,r⟩
         ·exact .inl q
         ·exact .inr ⟨b',vs',ty',fz',v',_,e1,r,WK⟩)
      exact gz (TR a w w' u q1) (hn u M' Tj w' q2 ⟨q5,q6⟩ q3 q4)
     ·cases h
    ·cases h
   ·rename_i Yh sz n W6 TH ys Wd VU
    cases h
   ·rename_i Yh sz n YS UT Un n2 cp Wd VU
    have TR:∀(a:Act) (w w':World) (v:Value),(aav c.argTypes o.type (c.args.map a.eval)).run P w= .ok v w'→(execOp a.eval o).run P w= .ok (.value v) w':=by
     intro a w w' v hv
     rw [fI ho hc]
     simp only [builtin,ZW,hv,ZO,Z4]
    simp [N9] at h
   ·rename_i Yc Yh sz n Wd VU
    have TR:∀(a:Act) (w w':World) (v:Value),(aav c.argTypes o.type (c.args.map a.eval)).run P w= .ok v w'→(execOp a.eval o).run P w= .ok (.value v) w':=by
     intro a w w' v hv
     rw [fI ho hc]
     simp only [builtin,ZW,hv,ZO,Z4]
    refine uF TR ht VQ t0 t1 (fun a=>(ga a).1) (fun a=>(ga a).2) (fun M a hr=>by have:=hr x hx;rw [Wd] at this;exact this) (fun M a hr=> ?_) h
    have Vl:=hr y hy
    rw [VU] at Vl
    generalize a.eval y=u at Vl
    cases Vl with
    |dz hb Uc hc=>exact ⟨_,0,_,rfl,hb,fun _=>rfl⟩
   ·rename_i Yc Yh off sz n cp Wd VU
    have TR:∀(a:Act) (w w':World) (v:Value),(aav c.argTypes o.type (c.args.map a.eval)).run P w= .ok v w'→(execOp a.eval o).run P w= .ok (.value v) w':=by
     intro a w w' v hv
     rw [fI ho hc]
     simp only [builtin,ZW,hv,ZO,Z4]
    refine uF TR ht VQ t0 t1 (fun a=>(ga a).1) (fun a=>(ga a).2) (fun M a hr=>by have:=hr x hx;rw [Wd] at this;exact this) (fun M a hr=> ?_) h
    have Vl:=hr y hy
    rw [VU] at Vl
    generalize a.eval y=u at Vl
    cases Vl with
    |sub hb hc hp U0=>exact ⟨_,_,_,rfl,hb,U0⟩
   ·rename_i Yh off sz n cc YS UT Un n2 cp Wd VU
    have TR:∀(a:Act) (w w':World) (v:Value),(aav c.argTypes o.type (c.args.map a.eval)).run P w= .ok v w'→(execOp a.eval o).run P w= .ok (.value v) w':=by
     intro a w w' v hv
     rw [fI ho hc]
     simp only [builtin,ZW,hv,ZO,Z4]
    exact HA TR ht VQ t0 t1 (fun a=>(ga a).1) (fun a=>(ga a).2) (fun M a hr=>by have:=hr x hx;rw [Wd] at this;exact this) (fun M a hr=>by have:=hr y hy;rw [VU] at this;exact this) h
   ·cases h
  ·cases h
 ·cases h
end
section
variable {ρ':Type} {P:Program} {r:ρ'} {o:Oper} {t:List D} {s:List Ob}
theorem Ke {ρ:Operand→D} {ty e:TypeId} {l c:Operand} {q q':aaY} {n:Int} {zd:D} {zc:List D} (ho:o.op= .makeSlice ty l c) (ht:P.underlying ty=some (.slice e)) (hk:known P e=true) (hz:kM P e=some zd) (Wq:zd.cells=some zc)
  (hlen:zc.length=P.cellsOf e) (TX:0<zc.length) (Xr:P.bytesOf e≤65536) (hl:ρ l= .int q n) (hc:ρ c= .int q' n) (h0:0≤n) (h1:n≤2147483648) (Ty:∀c∈zc,storable c=true):
  gH P o ρ (.pure (.bc .tight (P.cellsOf e) (Zx n.toNat zd))):=by
 obtain ⟨i,v,hi,hv,rfl⟩:=jv hz
 refine Au fun M w a hw hr=> ?_
 have r1:=eo (hr l (by simp [ho,ZQ])) hl
 have r2:=eo (hr c (by simp [ho,ZQ])) hc
 have hb:(i.bytes:Int)≤65536:=by
  have:P.bytesOf e=i.bytes:=by simp [Program.bytesOf,hi]
  omega
 have Tw:P.cellsOf e=i.size:=by simp [Program.cellsOf,hi]
 have hmul:(i.bytes:Int)*n≤281474976710656:=by
  have:=Int.mul_le_mul hb h1 h0 (by omega:(0:Int)≤65536)
  omega
 have TC:=run_make (P:=P) w ty e i v ht hi hv q q' n n h0 (Int.le_refl _) hmul (by omega)
 have UJ:jf M (P.cellsOf e) (Zx n.toNat (hP v)) (madeCells v.cells (n.toNat*i.size)):=by
  have:=Ek (M:=M) Wq (kp v) Ty n.toNat
  rw [hlen] at this
  rw [← Tw]
  exact this
 have hx:=rA (M:=M) (w:=w) (wd:=w) (arr:=madeCells v.cells (n.toNat*i.size)) (ty:=e) (n:=(madeCells v.cells (n.toNat*i.size)).size) hw rfl (Below.refl _ _) (0,0)
 have WH:=qX (b:=w.heap.size) (o:= .tight) (cap:=(Zx n.toNat (hP v)).length) (n:=(madeCells v.cells (n.toNat*i.size)).size) UJ (ev hw (ZP _)) (ZP _) UJ.len rfl
 refine ⟨_,_,_,?_,hx,rfl,rfl,rfl,WH⟩
 simp only [execOp,ho,r1,r2,ZW,TC,ZO,Z4,List.length_replicate]
theorem sN {z:Z P} {K:Z P→jT→Option ρ'} {ty:TypeId} {rv:Option Operand} (ho:o.op= .makeMap ty rv) (hx:∀x,rv=some x→∃q n,cP t x= .int q n) (h:(rq P z ty K)=some r):
  ∃e z',K z' e=some r∧(z'.c→z.c∧jY P o (cP t) s e):=by
 unfold rq at h
 split at h
 ·rename_i k et hk
  exact ⟨_,z,h,fun c=>⟨c,CB ho hk hx⟩⟩
 ·split at h
  ·rename_i kt et hk
   simp [uU] at h
  ·cases h
theorem sL {z:Z P} {K:Z P→jT→Option ρ'} {ty:TypeId} {m k v:Operand} (ho:o.op= .insert ty m k v∨o.op= .mapUpdate ty m k v) (h:(rp P z ty (cP t m) (cP t k) (cP t v) s K)=some r):
  ∃e z',K z' e=some r∧(z'.c→z.c∧jY P o (cP t) s e):=by
 unfold rp at h
 split at h
 ·rename_i id q n hm hk
  split at h
  ·rename_i q' es q2 et hs VG
   have hh:=b8 h
   clear h
   obtain ⟨Wn,h⟩:=hh
   simp only [ZD] at Wn
   have e1:=jZ Wn.1.1
   have e2:=jZ Wn.1.2
   subst e1 e2
   have T1:=ik (s:=s) (i:=id) (by rw [hs];intro e;cases e)
   exact ⟨_,z,h,fun c=>⟨c,⟨hs,T1⟩,G0 ho VG hm hk Wn.2⟩⟩
  ·cases h
 ·rename_i id cs hm hk
  split at h
  ·rename_i ks es kt et hs VG
   simp [uU] at h
  ·cases h
 ·cases h
theorem CO {z:Z P} {K:Z P→jT→Option ρ'} {ty:TypeId} {m k:Operand} (ho:o.op= .mapEntry ty m k) (h:(xR P z ty (cP t m) (cP t k) s K)=some r):
  ∃e z',K z' e=some r∧(z'.c→z.c∧jY P o (cP t) s e):=by
 simp [xR] at h
theorem yc {z:Z P} {K:Z P→jT→Option ρ'} {ty:TypeId} {m n v:Operand} (ho:o.op= .entryStore ty m n v) (h:(qj P z (cP t m) (cP t n) (cP t v) s K)=some r):
  ∃e z',K z' e=some r∧(z'.c→z.c∧jY P o (cP t) s e):=by
 simp [qj] at h
theorem Lg {z:Z P} {d:D} {s':List Ob} {K:Z P→jT→Option ρ'} {r:ρ'} (h:Pt z d s' K=some r):∃e z',K z' e=some r∧(z'.c→z.c∧∃d2 s2,e= .all s2 d2∧∀(g:FuncId) (args:List D) (s:List Ob),ao P g args s d s'→ao P g args s d2 s2):=by
 unfold Pt at h
 split at h
 ·split at h
  ·rename_i id sz n
   split at h
   ·rename_i cs Tv
    have hh:=b8 h
    clear h
    obtain ⟨Tw,h⟩:=hh
    rw [Z3] at Tw
    subst Tw
    have hh:=fe h
    clear h
    obtain ⟨z1,h,hz1⟩:=hh
    refine ⟨_,z1,h,fun hc=>⟨(hz1 hc).1,_,_,rfl,fun g args s hr=> ?_⟩⟩
    have hq:=(hz1 hc).2
    rw [ZD,Z3] at hq
    exact hr.CX Tv hq.1 hq.2
   ·cases h
  ·cases h
 ·exact ⟨_,z,h,fun hc=>⟨hc,_,_,rfl,fun g args s hr=>hr⟩⟩
theorem MI {inl:FL P ρ'} (TM:lQ P inl) {z:Z P} {K:Z P→jT→Option ρ'} (h:Q5 P inl o t s z K=some r):
  ∃e z',K z' e=some r∧(z'.c→z.c∧jY P o (cP t) s e):=by
 unfold Q5 at h
 split at h
 case h_1 x ho=>exact ⟨_,z,h,fun c=>⟨c,EX (.inl ho)⟩⟩
 case h_2 x ho=>exact ⟨_,z,h,fun c=>⟨c,EX (.inr ho)⟩⟩
 case h_3 c x y ho=>
  split at h
  ·rename_i q hq
   obtain ⟨z',⟨h1,h2⟩|⟨h1,h2⟩⟩:=oq h
   ·refine ⟨_,z',h1,fun c=>⟨(h2 c).1,?_⟩⟩
    have:=EW (P:=P) (ρ:=cP t) ho hq
    rw [(h2 c).2] at this
    exact this
   ·refine ⟨_,z',h1,fun c=>⟨(h2 c).1,?_⟩⟩
    have:=EW (P:=P) (ρ:=cP t) ho hq
    rw [(h2 c).2] at this
    exact this
  ·cases h
 case h_4 e x ho=>
  split at h
  ·rename_i cs Tv;exact ⟨_,z,h,fun c=>⟨c,O0 ho Tv⟩⟩
  ·cases h
 case h_5 e ho=>
  split at h
  ·rename_i d hd
   split at h
   ·rename_i cs Tv;exact ⟨_,z,h,fun c=>⟨c,Ki ho hd Tv⟩⟩
   ·split at h
    ·rename_i h1;exact ⟨_,z,h,fun c=>⟨c,G1 ho hd h1⟩⟩
    ·cases h
  ·cases h
 case h_6 ty parts ho=>
  split at h
  ·rename_i d hd;exact ⟨_,z,h,fun c=>⟨c,Kh ho hd⟩⟩
  ·cases h
 case h_7 ty len parts ho=>
  split at h
  ·rename_i e ht
   split at h
   ·rename_i d hd
    split at h
    ·rename_i zc Wq
     obtain ⟨hk,h⟩:=b8 h
     simp only [ZD,Z3,aaF,aab] at hk
     obtain ⟨⟨⟨⟨h1,h2⟩,h3⟩,_⟩,h5⟩:=hk
     obtain ⟨xs,q1,q2⟩:=uv (P:=P) (ρ:=cP t) ho ht hd Wq h1 h2 h3 h5 h
     exact ⟨_,z,q1,fun c=>⟨c,q2⟩⟩
    ·cases h
   ·cases h
  ·cases h
 case h_8 ty a ho=>
  unfold N5 at h
  split at h
  ·rename_i dyn id off hx
   split at h
   ·rename_i cs Tv
    obtain ⟨z',d,h1,h2⟩:=nC h
    refine ⟨_,z',h1,fun c=>⟨(h2 c).1,?_⟩⟩
    have Tq:id<s.length:=ik (by rw [Tv];intro e;cases e)
    split
    ·rename_i Yz
     obtain ⟨e,hu,hp⟩:=(h2 c).2
     unfold NW at Yz
     rw [hu] at Yz
     have ha:dR e=false:=by simpa using Yz
     rcases hp with ⟨q,_⟩|⟨_,q⟩
     ·rw [ha] at q;cases q
     ·exact ⟨⟨by rw [Tv];exact q,Tq⟩,xE ho hx hu ha⟩
    ·exact ⟨⟨Tv,Tq⟩,qw ho hx (h2 c).2⟩
   ·cases h
  ·rename_i dyn y off hx
   split at h
   ·rename_i cs Tv
    obtain ⟨z',d,h1,h2⟩:=nC h
    exact ⟨_,z',h1,fun c=>⟨(h2 c).1,xA ho hx Tv (h2 c).2⟩⟩
   ·cases h
  ·cases h
 case h_9 ty a x ho=>
  unfold Jk at h
  split at h
  ·rename_i dyn id off hx
   split at h
   ·rename_i cs Tv
    split at h
    ·rename_i vc Wv
     obtain ⟨hk,h⟩:=b8 h
     simp only [ZD,Z3,aab] at hk
     obtain ⟨⟨k1,k2⟩,k3⟩:=hk
     have T1:=ik (s:=s) (i:=id) (by rw [Tv];intro e;cases e)
     split at h
     ·obtain ⟨hl,h⟩:=b8 h
      rw [aaF] at hl
      exact ⟨_,z,h,fun c=>⟨c,⟨Tv,T1⟩,Aw ho hx Wv k1 k2 k3 hl⟩⟩
     ·split at h
      ·rename_i l i xs l' hg rest _
       refine ⟨_,_,h,fun c=>⟨c.2,⟨Tv,T1⟩,?_⟩⟩
       have e1:=c.1.1
       have e2:=c.1.2.1
       have e3:=c.1.2.2
       subst e1 e2 e3
       have:=Aw (P:=P) (ρ:=cP t) ho hx Wv k1 k2 k3 hg.2
       unfold jx at this
       rw [hg.1] at this
       exact this
      ·cases h
    ·cases h
   ·cases h
  ·cases h
 case h_10 x ho=>
  split at h
  ·rename_i dyn id off hx
   exact ⟨_,z,h,fun c=>⟨c,by have:=mY (P:=P) (ρ:=cP t) ho (.inl ⟨dyn,id,off,hx⟩);rw [hx] at this;exact this⟩⟩
  ·rename_i dyn y off hx
   exact ⟨_,z,h,fun c=>⟨c,by have:=mY (P:=P) (ρ:=cP t) ho (.inr (.inl ⟨dyn,y,off,hx⟩));rw [hx] at this;exact this⟩⟩
  ·rename_i g a b hx
   exact ⟨_,z,h,fun c=>⟨c,by have:=mY (P:=P) (ρ:=cP t) ho (.inr (.inr ⟨g,a,b,hx⟩));rw [hx] at this;exact this⟩⟩
  ·cases h
 case h_11 op ty x y ty' ho=>
  obtain ⟨z',d,h1,h2⟩:=LJ h
  exact ⟨_,z',h1,fun c=>⟨(h2 c).1,O1 ho fun M w u v hu hv=>(h2 c).2 M w x y u v hu hv⟩⟩
 case h_12 op ty x ho=>
  obtain ⟨d,h1,h2⟩:=Mf (P:=P) h
  refine ⟨_,z,h1,fun c=>⟨c,cC fun M w a _ hr=> ?_⟩⟩
  obtain ⟨v,q1,q2⟩:=h2 M w _ (hr x (by simp [ho,ZQ]))
  exact ⟨v,by simp only [execOp,ho,ZW,q1,ZO,Z4],q2⟩
 case h_13 src dst x ho=>
  obtain ⟨e,z',h1,h2,h3⟩:=Ix (ρ:=cP t) ho h
  refine ⟨e,z',h1,fun c=>⟨(h2 c).1,?_⟩⟩
  rcases h3 with ⟨d,rfl⟩|⟨q,m,rfl⟩<;>exact (h2 c).2
 case h_14 f first cap ho=>exact ⟨_,z,h,fun c=>⟨c,Ax ho⟩⟩
 case h_15 ty x lo hi mx ho=>
  split at h
  ·rename_i e ow sz xs ht hx
   obtain ⟨hk,h⟩:=b8 h
   rw [ZD,Z3] at hk
   obtain ⟨n1,h,o1⟩:=fw h
   obtain ⟨n2,h,o2⟩:=fw h
   obtain ⟨n3,h,o3⟩:=fw h
   obtain ⟨z',d,h1,h2⟩:=BB h
   refine ⟨_,z',h1,fun c=>⟨(h2 c).1,cC fun M w a _ hr=> ?_⟩⟩
   have Ud:=hr x (by simp [ho,ZQ])
   rw [hx] at Ud
   have r1:=o1 M a (fun y hy=>hr y (by simp [ho,ZQ,hy]))
   have r2:=o2 M a (fun y hy=>hr y (by simp [ho,ZQ,hy]))
   have r3:=o3 M a (fun y hy=>hr y (by simp [ho,ZQ,hy]))
   obtain ⟨v,q1,q2⟩:=(h2 c).2 M w ty e _ _ _ _ ht hk.1 hk.2 Ud r1 r2 r3
   exact ⟨v,by simp only [execOp,ho,ZW,q1,ZO,Z4],q2⟩
  ·rename_i e id sz n ht hx
   obtain ⟨hk,h⟩:=b8 h
   rw [ZD,Z3] at hk
   obtain ⟨n1,h,o1⟩:=fw h
   obtain ⟨n2,h,o2⟩:=fw h
   obtain ⟨n3,h,o3⟩:=fw h
   obtain ⟨z',l,hh,WL,h1,h2⟩:=rW h
   refine ⟨_,z',h1,fun c=>⟨(h2 c).1,cC fun M w a _ hr=> ?_⟩⟩
   have Ud:=hr x (by simp [ho,ZQ])
   rw [hx] at Ud
   have r1:=o1 M a (fun y hy=>hr y (by simp [ho,ZQ,hy]))
   have r2:=o2 M a (fun y hy=>hr y (by simp [ho,ZQ,hy]))
   have r3:=o3 M a (fun y hy=>hr y (by simp [ho,ZQ,hy]))
   obtain ⟨_,b1,b2,b3⟩:=h2 c
   generalize hv:a.eval x=u at Ud
   cases Ud with
   |dz hb Uc hc=>
    obtain ⟨m,m1,m2,m3⟩:=b3 true w _ _ _ _ hc (fun k hk=>by cases hk) r1 r2 r3
    exact ⟨_,by simp only [execOp,ho,hv,ZW,mz ht hk.1 hk.2 m3,ZO,Z4],sq hb (fun _=>rfl) b1 b2 m1 m2⟩
  ·rename_i e id off sz n cp ht hx
   obtain ⟨hk,h⟩:=b8 h
   rw [ZD,Z3] at hk
   obtain ⟨n1,h,o1⟩:=fw h
   obtain ⟨n2,h,o2⟩:=fw h
   obtain ⟨n3,h,o3⟩:=fw h
   obtain ⟨z',l,hh,WL,h1,h2⟩:=rW h
   refine ⟨_,z',h1,fun c=>⟨(h2 c).1,cC fun M w a _ hr=> ?_⟩⟩
   have Ud:=hr x (by simp [ho,ZQ])
   rw [hx] at Ud
   have r1:=o1 M a (fun y hy=>hr y (by simp [ho,ZQ,hy]))
   have r2:=o2 M a (fun y hy=>hr y (by simp [ho,ZQ,hy]))
   have r3:=o3 M a (fun y hy=>hr y (by simp [ho,ZQ,hy]))
   obtain ⟨_,b1,b2,b3⟩:=h2 c
   generalize hv:a.eval x=u at Ud
   cases Ud with
   |sub hb hc hp U0=>
    obtain ⟨m,m1,m2,m3⟩:=b3 true w _ _ _ _ hc hp r1 r2 r3
    exact ⟨_,by simp only [execOp,ho,hv,ZW,mz ht hk.1 hk.2 m3,ZO,Z4],sq hb U0 b1 b2 m1 m2⟩
  ·rename_i n e dyn id off ht hx
   obtain ⟨hk,h⟩:=b8 h
   obtain ⟨n1,h,o1⟩:=fw h
   obtain ⟨n2,h,o2⟩:=fw h
   obtain ⟨n3,h,o3⟩:=fw h
   obtain ⟨z',l,hh,WL,h1,h2⟩:=rW h
   refine ⟨_,z',h1,fun c=>⟨(h2 c).1,cC fun M w a _ hr=> ?_⟩⟩
   have Ud:=hr x (by simp [ho,ZQ])
   rw [hx] at Ud
   have r1:=o1 M a (fun y hy=>hr y (by simp [ho,ZQ,hy]))
   have r2:=o2 M a (fun y hy=>hr y (by simp [ho,ZQ,hy]))
   have r3:=o3 M a (fun y hy=>hr y (by simp [ho,ZQ,hy]))
   obtain ⟨_,b1,b2,b3⟩:=h2 c
   generalize hv:a.eval x=u at Ud
   cases Ud with
   |ptr _ hb=>
    obtain ⟨m,m1,m2,m3⟩:=b3 false w _ _ _ _ (ZP _) (fun k hk=>ZE hk) r1 r2 r3
    exact ⟨_,by simp only [execOp,ho,hv,ZW,qK ht hk rfl m3,ZO,Z4],sq hb (fun _=>rfl) b1 b2 m1 m2⟩
  ·cases h
 case h_16 ty x f ho=>
  unfold tw at h
  split at h
  ·rename_i fields ht
   split at h
   ·rename_i fd YN
    obtain ⟨hk,h⟩:=b8 h
    rw [ZD] at hk
    have TX:0<P.cellsOf fd.type:=Nat.lt_of_succ_le (by simpa [Nat.blt,aaF] using hk.2)
    obtain ⟨g1,g2⟩:=xH (P:=P) (ρ:=cP t) ho ht YN hk.1 TX
    split at h
    ·rename_i dyn id off hx;exact ⟨_,z,h,fun c=>⟨c,g1 _ _ _ hx⟩⟩
    ·rename_i dyn y off hx;exact ⟨_,z,h,fun c=>⟨c,g2 _ _ _ hx⟩⟩
    ·cases h
   ·cases h
  ·cases h
 case h_17 ty x f ho=>
  split at h
  ·rename_i fields cs ht hx
   split at h
   ·rename_i fd YN
    obtain ⟨z',d,h1,h2⟩:=nC h
    exact ⟨_,z',h1,fun c=>⟨(h2 c).1,Kf ho ht YN hx (h2 c).2⟩⟩
   ·cases h
  ·cases h
 case h_18 ty x ix ho=>
  unfold sX at h
  split at h
  ·rename_i k i hi
   split at h
   ·rename_i len elem dyn id off ht hx
    obtain ⟨hk,h⟩:=b8 h
    obtain ⟨z',h1,h2⟩:=iA h
    exact ⟨_,z',h1,fun c=>⟨(h2 c).1,(po (P:=P) (ρ:=cP t) ho hi ht hk (by simpa using (h2 c).2) _).1 _ _ _ hx⟩⟩
   ·rename_i len elem dyn y off ht hx
    obtain ⟨hk,h⟩:=b8 h
    obtain ⟨z',h1,h2⟩:=iA h
    exact ⟨_,z',h1,fun c=>⟨(h2 c).1,(po (P:=P) (ρ:=cP t) ho hi ht hk (by simpa using (h2 c).2) _).2 _ _ _ hx⟩⟩
   ·rename_i elem ow sz xs ht hx
    obtain ⟨hk,h⟩:=b8 h
    rw [ZD,Z3] at hk
    obtain ⟨z',h1,h2⟩:=iA h
    obtain ⟨z2,y,h3,h4⟩:=sE h1
    exact ⟨_,z2,h3,fun c=>⟨(h2 (h4 c).1).1,p6 ho hi ht hk.1 hk.2 (by simpa using (h2 (h4 c).1).2) hx (h4 c).2⟩⟩
   ·rename_i elem id sz n ht hx
    obtain ⟨hk,h⟩:=b8 h
    rw [ZD,Z3] at hk
    obtain ⟨z',h1,h2⟩:=fe h
    exact ⟨_,z',h1,fun c=>⟨(h2 c).1,p4 ho hi ht hk.1 hk.2 (by simpa using (h2 c).2) hx⟩⟩
   ·rename_i elem id off sz n cp ht hx
    obtain ⟨hk,h⟩:=b8 h
    rw [ZD,Z3] at hk
    obtain ⟨z',h1,h2⟩:=fe h
    exact ⟨_,z',h1,fun c=>⟨(h2 c).1,pY ho hi ht hk.1 hk.2 (by simpa using (h2 c).2) hx⟩⟩
   ·cases h
  ·cases h
 case h_19 ty x ix ho=>
  unfold K0 at h
  split at h
  ·rename_i k i hi
   split at h
   ·rename_i len elem cs ht hx
    obtain ⟨hk,h⟩:=b8 h
    obtain ⟨z',h1,h2⟩:=iA h
    obtain ⟨z2,d,h3,h4⟩:=nC h1
    exact ⟨_,z2,h3,fun c=>⟨(h2 (h4 c).1).1,xG ho hi ht hk (by simpa using (h2 (h4 c).1).2) hx (h4 c).2⟩⟩
   ·rename_i s' ht hx
    obtain ⟨z',h1,h2⟩:=iA h
    obtain ⟨z2,d,h3,h4⟩:=sE h1
    exact ⟨_,z2,h3,fun c=>⟨(h2 (h4 c).1).1,xF ho hi ht (by simpa using (h2 (h4 c).1).2) hx (h4 c).2⟩⟩
   ·cases h
  ·cases h
 case h_20 x i ho=>
  split at h
  ·rename_i ds hx
   split at h
   ·rename_i d hd;exact ⟨_,z,h,fun c=>⟨c,CC ho hx hd⟩⟩
   ·cases h
  ·cases h
 case h_21 c ho=>
  have Vo:∀ {x:Operand},x∈c.args.toList→x∈o.op.operands:=by
   intro x hx
   simp only [ho,ZQ,aaO]
   exact aaV.2 (.inr (by simpa using hx))
  split at h
  ·rename_i hc
   split at h
   ·rename_i x rest ty ts Tu Xd
    obtain ⟨d,h1,h2⟩:=KV (P:=P) h
    refine ⟨_,z,h1,fun cc=>⟨cc,cC fun M w a _ hr=> ?_⟩⟩
    obtain ⟨v,q1,q2⟩:=h2 M w _ c.argTypes o.type (c.args.map a.eval) (hr x (Vo (by rw [Tu];simp))) (by rw [← Z0,Xd];rfl) (by
     have:c.args[0]? =some x:=by rw [← Z0,Tu];rfl
     simp [this])
    exact ⟨v,by rw [fI ho hc];simp only [builtin,ZW,q1,ZO,Z4],q2⟩
   ·cases h
  ·rename_i hc
   split at h
   ·rename_i x y rest Tu
    exact Bn ho hc Tu h
   ·cases h
  ·rename_i hc
   split at h
   ·rename_i x y Tu
    obtain ⟨d,h1,h2⟩:=KM (P:=P) h
    refine ⟨_,z,h1,fun cc=>⟨cc,cC fun M w a _ hr=> ?_⟩⟩
    obtain ⟨v,q1,q2⟩:=h2 M w _ _ c.argTypes o.type (c.args.map a.eval) (hr x (Vo (by rw [Tu];simp))) (hr y (Vo (by rw [Tu];simp))) (by rw [Array.toList_map,Tu];rfl)
    exact ⟨v,by rw [fI ho hc];simp only [builtin,ZW,q1,ZO,Z4],q2⟩
   ·cases h
  ·rename_i hc
   split at h
   ·rename_i x y Tu
    obtain ⟨d,h1,h2⟩:=KQ (P:=P) h
    refine ⟨_,z,h1,fun cc=>⟨cc,cC fun M w a _ hr=> ?_⟩⟩
    obtain ⟨v,q1,q2⟩:=h2 M w _ _ c.argTypes o.type (c.args.map a.eval) (hr x (Vo (by rw [Tu];simp))) (hr y (Vo (by rw [Tu];simp))) (by rw [Array.toList_map,Tu];rfl)
    exact ⟨v,by rw [fI ho hc];simp only [builtin,ZW,q1,ZO,Z4],q2⟩
   ·cases h
  ·rename_i hc
   split at h
   ·rename_i x y rest Tu
    exact Iw ho hc Tu h
   ·cases h
  ·rename_i f hc
   split at h
   ·rename_i g first cap hf
    unfold FD at h
    split at h
    ·rename_i rest _
     obtain ⟨d,s',z',h1,h2⟩:=TM (.fn g) _ s _ _ r h
     obtain ⟨e,z2,h3,h4⟩:=Lg h1
     refine ⟨_,z2,h3,fun cc=> ?_⟩
     obtain ⟨c1,d2,s2,rfl,hk⟩:=h4 cc
     exact ⟨(h2 c1).1,Kj ho hc hf (hk _ _ _ (h2 c1).2)⟩
    ·rename_i g' ar s1 d WG TC rest _
     have hh:=b8 h
     clear h
     obtain ⟨hk,h⟩:=hh
     rw [Z3] at hk
     subst hk
     exact ⟨_,_,h,fun cc=>⟨cc.2,Kj ho hc hf (cc.1.1▸cc.1.2▸TC)⟩⟩
    ·rename_i g' as n cs TC hb rest _
     have hh:=b8 h
     clear h
     obtain ⟨hk,h⟩:=hh
     rw [Z3] at hk
     subst hk
     obtain ⟨as',h1,h2⟩:=mW h
     refine ⟨_,_,h1,fun cc=>⟨cc.2,?_⟩⟩
     exact Kg ho hc hf TC hb (fun M vs hv=>by rw [cc.1];exact h2 M vs hv)
    ·rename_i g' as d WB rest _
     have hh:=b8 h
     clear h
     obtain ⟨hk,h⟩:=hh
     rw [Z3] at hk
     subst hk
     obtain ⟨as',h1,h2⟩:=mW h
     refine ⟨_,_,h1,fun cc=>⟨cc.2,?_⟩⟩
     exact OZ ho hc hf WB (fun M vs hv=>by rw [cc.1];exact h2 M vs hv)
    ·cases h
   ·rename_i id hf
    unfold PU at h
    split at h
    ·rename_i rest _
     obtain ⟨d,s',z',h1,h2⟩:=TM (.yl id) _ s _ _ r h
     exact ⟨_,z',h1,fun cc=>⟨(h2 cc).1,OY ho hc hf (h2 cc).2⟩⟩
    ·cases h
   ·cases h
  ·cases h
 case h_22 ty rv ho=>
  split at h
  ·exact sN ho (fun x hx=>by cases hx) h
  ·rename_i x
   unfold idx at h
   split at h
   ·rename_i q n hx
    exact sN ho (fun y hy=>by obtain rfl:=ZE hy;exact ⟨q,n,hx⟩) h
   ·cases h
 case h_23 ty m k v ho=>exact sL (.inl ho) h
 case h_24 ty m k v ho=>exact sL (.inr ho) h
 case h_25 ty m k ok ho=>
  unfold AE at h
  split at h
  ·rename_i id q n hm hk
   split at h
   ·rename_i q' es q2 et hs VG
    split at h
    ·rename_i zd hz
     have hh:=b8 h
     clear h
     obtain ⟨Wn,h⟩:=hh
     rw [ZD] at Wn
     have e1:=jZ Wn.1
     have e2:=jZ Wn.2
     subst e1 e2
     have T1:=ik (s:=s) (i:=id) (by rw [hs];intro e;cases e)
     obtain ⟨z',rr,h1,h2⟩:=Hd h
     have TY:=fun c=>CA (P:=P) (ρ:=cP t) ho VG hz hm hk (h2 c).2
     cases rr<;>cases ok<;>exact ⟨_,z',h1,fun c=>⟨(h2 c).1,⟨hs,T1⟩,TY c⟩⟩
    ·cases h
   ·cases h
  ·rename_i id cs hm hk
   split at h
   ·rename_i ks es kt et hs VG
    split at h
    ·rename_i zd hz
     simp [uU] at h
    ·cases h
   ·cases h
  ·cases h
 case h_26 ty m k ho=>exact CO ho h
 case h_27 ty m n v ho=>exact yc ho h
 case h_28 ty l c ho=>
  unfold N3 at h
  split at h
  ·rename_i e q n q' m ht hl hc
   split at h
   ·rename_i zd hz
    split at h
    ·rename_i zc Wq
     split at h
     ·obtain ⟨hk,h⟩:=b8 h
      simp only [ZD,Z3,aaF,Nat.blt_eq] at hk
      obtain ⟨⟨⟨⟨k1,k2⟩,k3⟩,k4⟩,k5⟩:=hk
      obtain ⟨z',h1,h2⟩:=fe h
      refine ⟨_,z',h1,fun c=>⟨(h2 c).1,?_⟩⟩
      have hb:=(h2 c).2
      rw [bX] at hb
      obtain ⟨b0,rfl,b1⟩:=hb
      exact Ke ho ht k1 hz Wq k2 k3 k4 hl hc b0 b1 (List.all_eq_true.mp k5)
     ·obtain ⟨hk,h⟩:=b8 h
      simp only [ZD,Z3,aaF,Nat.blt_eq] at hk
      obtain ⟨⟨⟨k1,k2⟩,k3⟩,k4⟩:=hk
      obtain ⟨z',h1,h2⟩:=fe h
      refine ⟨_,z',h1,fun c=>⟨(h2 c).1,?_⟩⟩
      have hb:=(h2 c).2
      rw [bX] at hb
      obtain ⟨b0,rfl,b1⟩:=hb
      exact MJ ho ht k1 hz Wq k2 k3 k4 hl hc b0 b1
    ·cases h
   ·cases h
  ·cases h
 case h_29=>cases h
end
end Go.Ev
