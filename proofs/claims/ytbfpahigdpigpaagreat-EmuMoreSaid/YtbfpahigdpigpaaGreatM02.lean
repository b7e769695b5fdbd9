import Derived.Laws.Cells
import Derived.Laws.Entries
import Derived.ChangeKeysEq
import Derived.Laws.BytesString
import Derived.Laws.MakeOwn
import Derived.WideLaws
import Derived.MapKept
import Derived.Laws.AppendOwn
import Derived.RangeFuncRecord
import Derived.Test.YtbfpahigdpigpaaGreatM01
/- Contracts and plain laws that a statement's proof leans on (texts merged:EvK). -/
set_option linter.unusedVariables false
set_option linter.unusedSimpArgs false
namespace Go.Ev
open Go Go.RowKit
section
variable {P:Program} {w:World}
theorem AI {t:TypeId} (h:known P t=true):∃i,P.info? t=some i:=by
 unfold known at h;exact Option.isSome_iff_exists.1 h
theorem ca {t:TypeId} (h:known P t=true) (w:World):(sizeOf t).run P w= .ok (P.cellsOf t) w:=by
 obtain ⟨i,hi⟩:=AI h
 simp [sizeOf,typeInfo,hi,Program.cellsOf]
theorem js {t:TypeId} {d:TypeDesc} (h:P.underlying t=some d):known P t=true:=by
 unfold known
 unfold Program.underlying at h
 cases e:P.info? t with
 |none=>simp [e] at h
 |some i=>rfl
theorem kO {t:TypeId} {d:TypeDesc} (h:P.underlying t=some d) (w:World):(isAgg t).run P w= .ok (cA d) w:=by
 cases d<;>simp [isAgg,run_underlying h,cA]
theorem dx {t:TypeId} {i:TypeInfo} {v:Value} (hi:P.info? t=some i) (hz:i.zero=some v) (w:World):(zeroValue t).run P w= .ok v w:=by
 simp [zeroValue,typeInfo,hi,hz]
theorem ev (b off n:Nat):(Addr.mk b off none).add n=⟨b,off+n,none⟩:=by
 unfold Addr.add
 split
 ·rename_i h;subst h;simp
 ·rfl
theorem gq (b off:Nat) (vs:Array Value) (h:∀j v,vs[j]? =some v→w.cell? ⟨b,off+j,none⟩=some v):
  (loadCells ⟨b,off,none⟩ vs.size).run P w= .ok vs w:=by
 have:=run_loadCells_list (P:=P) (w:=w) ⟨b,off,none⟩ vs.toList (fun j v hj=>by rw [ev];exact h j v (by simpa using hj))
 simpa using this
def cG (vs:Array Value) (off:Nat):List Value→Array Value
  | []=>vs
  |x::r=>cG (vs.setIfInBounds off x) (off+1) r
theorem cQ (l:List Value):∀(vs:Array Value) (off:Nat),(cG vs off l).size=vs.size:=by
 induction l with
 |nil=>intro vs off;rfl
 |cons x r ih=>intro vs off;simp [cG,ih]
theorem eQ (l:List Value):∀(vs:Array Value) (off k:Nat),off+l.length≤vs.size→
  (cG vs off l)[k]? =if off≤k∧k<off+l.length then l[k - off]? else vs[k]? :=by
 induction l with
 |nil=>intro vs off k _;rw [cG,if_neg (by intro h;have h1:=h.1;have h2:k<off+0:=h.2;omega)]
 |cons x r ih=>
  intro vs off k h
  simp only [List.length_cons] at h
  rw [cG,ih _ _ _ (by simp;omega)]
  by_cases h1:off+1≤k∧k<off+1+r.length
  ·rw [if_pos h1,if_pos ⟨by omega,by simp;omega⟩]
   rw [show k - off=(k - (off+1))+1 by omega,List.getElem?_cons_succ]
  ·rw [if_neg h1]
   by_cases h2:k=off
   ·subst h2
    rw [if_pos ⟨by omega,by simp⟩]
    simp [show k<vs.size by omega]
   ·rw [if_neg (by simp;omega),Array.getElem?_setIfInBounds_ne (Ne.symm h2)]
theorem pn {w:World} {b:Nat} {o p:Obj} :aZ (aZ w b o) b p=aZ w b p:=by
 unfold aZ
 simp
theorem qn {w:World} {b o:Nat} {v:Value} {vs:Array Value} {ty:TypeId} {fz:Nat×Nat} (h:w.heap[b]? =some (.cells vs ty fz)):
  w.setCell ⟨b,o,none⟩ v=aZ w b (.cells (vs.setIfInBounds o v) ty fz):=by
 have hb:=dI h
 have he:w.heap[b]= .cells vs ty fz:=by simpa [Array.getElem?_eq_getElem hb] using h
 unfold World.setCell aZ
 congr 1
 apply Array.ext_getElem?
 intro k
 rw [Array.getElem?_modify]
 by_cases e:b=k
 ·subst e
  rw [if_pos rfl,h]
  simp [hb]
 ·rw [if_neg e,Array.getElem?_setIfInBounds_ne e]
theorem ei {b off:Nat} {ty:TypeId} {fz:Nat×Nat} (l:List Value):∀(i:Nat) (w:World) (vs:Array Value),w.heap[b]? =some (.cells vs ty fz)→(∀v∈l,v.oneCell'=true)→
  off+i+l.length≤vs.size→kf fz vs.size→(storeCells ⟨b,off,none⟩ l i).run P w= .ok () (aZ w b (.cells (cG vs (off+i) l) ty fz)):=by
 induction l with
 |nil=>
  intro i w vs h _ _ _
  simp only [storeCells,Sem.run_pure,cG]
  have hb:=dI h
  have he:w.heap.setIfInBounds b (.cells vs ty fz)=w.heap:=by
   apply Array.ext_getElem?
   intro k
   by_cases e:b=k
   ·subst e;rw [h];simp [hb]
   ·rw [Array.getElem?_setIfInBounds_ne e]
  unfold aZ
  rw [he]
 |cons x r ih=>
  intro i w vs h hone hlen hfz
  simp only [List.length_cons] at hlen
  have hlt:off+i<vs.size:=by omega
  have hcell:w.cell? ⟨b,off+i,none⟩=some vs[off+i]:=by simp [World.cell?,h,hlt]
  have hfr:w.frozen? ⟨b,off+i,none⟩=false:=by
   have:=hfz _ hlt
   simp only [World.frozen?,h]
   simpa using this
  simp only [storeCells,Sem.run_bind,ev]
  rw [run_store _ _ _ _ _ (hone x (by simp)),hcell]
  simp only [hfr,Bool.false_eq_true,if_false,Result.andThen_ok]
  rw [qn h]
  rw [ih (i+1) _ (vs.setIfInBounds (off+i) x) (dy h) (fun v hv=>hone v (by simp [hv])) (by simp;omega) (by simpa using hfz)]
  rw [pn]
  simp [cG,Nat.add_assoc]
theorem mg {t:TypeId} {d:TypeDesc} (h:P.underlying t=some d) (ha:cA d=false) {cs:Array Value} {off:Nat} {v:Value} (hv:cs[off]? =some v) (w:World):(part t cs off).run P w= .ok v w:=by
 simp [part,kO h,ha,hv]
theorem mh {t:TypeId} {d:TypeDesc} (h:P.underlying t=some d) (ha:cA d=true) (cs:Array Value) (off:Nat) (w:World):(part t cs off).run P w= .ok (.agg (cs.extract off (off+P.cellsOf t))) w:=by
 simp [part,kO h,ha,ca (js h)]
theorem nX {t:TypeId} {d:TypeDesc} (h:P.underlying t=some d) (ha:cA d=false) {a:Addr} {v:Value} (hv:w.cell? a=some v):(loadVar t a).run P w= .ok v w:=by
 simp [loadVar,kO h,ha,hv]
theorem nY {t:TypeId} {d:TypeDesc} (h:P.underlying t=some d) (ha:cA d=true) {b off:Nat} (vs:Array Value) (hs:vs.size=P.cellsOf t)
  (hv:∀j v,vs[j]? =some v→w.cell? ⟨b,off+j,none⟩=some v):(loadVar t ⟨b,off,none⟩).run P w= .ok (.agg vs) w:=by
 simp [loadVar,kO h,ha,ca (js h),← hs,gq b off vs hv]
end
theorem bS.get {M:MM} {cs:List D} {vs:Array Value} (h:bS M cs vs) {i:Nat} {d:D} (hd:cs[i]? =some d):∃v,vs[i]? =some v∧bk M d v:=by
 have hi:i<vs.size:=by
  rw [← h.1]
  rcases Nat.lt_or_ge i cs.length with x|x
  ·exact x
  ·simp [List.getElem?_eq_none x] at hd
 exact ⟨vs[i],by simp [hi],h.2 i d vs[i] hd (by simp [hi])⟩
theorem bS.sub {M:MM} {cs:List D} {vs:Array Value} (h:bS M cs vs) (off n:Nat) (hn:off+n≤cs.length):bS M ((cs.drop off).take n) (vs.extract off (off+n)):=by
 have hs:=h.1
 refine ⟨by simp;omega,fun i d v a b=> ?_⟩
 rw [List.getElem?_take] at a
 split at a
 ·rename_i hi
  rw [List.getElem?_drop] at a
  rw [Array.getElem?_extract] at b
  split at b
  ·exact h.2 _ d v a b
  ·cases b
 ·cases a
theorem om {M:MM} {v:Value} {d:D} (h:qF v=some d):bk M d v:=by
 unfold qF at h
 split at h<;>simp only [Option.some.injEq,reduceCtorEq] at h<;>subst h
 ·exact .bool _
 ·exact .int _ _
 ·exact .str _
 ·exact .gD
 ·exact .aj 0 0 (fun _ _=> .nilFunc) rfl (Nat.le_refl _) (fun h=>absurd rfl h) (fun i x h=>by simp at h) (fun i x cs j c h=>by simp at h) (fun i x cs j c h=>by simp at h) (fun i x cs c h=>by simp at h) rfl
 ·exact .aq
theorem pg {M:MM} :∀ {vs:List Value} {l:List D},ib vs=some l→l.length=vs.length∧∀(i:Nat) (d:D) (v:Value),l[i]? =some d→vs[i]? =some v→bk M d v
 | [],l,h=>by
  simp only [ib,Option.some.injEq] at h;subst h;exact ⟨rfl,fun i d v a=>by simp at a⟩
 |v::r,l,h=>by
  unfold ib at h
  split at h
  ·rename_i d l' hd hl
   simp only [Option.some.injEq] at h
   subst h
   obtain ⟨h1,h2⟩:=pg (M:=M) hl
   refine ⟨by simp [h1],fun i d' v' a b=> ?_⟩
   cases i with
   |zero=>simp at a b;subst a b;exact om hd
   |succ i=>exact h2 i d' v' (by simpa using a) (by simpa using b)
  ·cases h
theorem yc {M:MM} :∀(vs:List Value),(tW vs).length=vs.length∧∀(i:Nat) (d:D) (v:Value),(tW vs)[i]? =some d→vs[i]? =some v→bk M d v
 | []=>⟨rfl,fun i d v a=>by simp [tW] at a⟩
 |v::r=>by
  obtain ⟨h1,h2⟩:=yc (M:=M) r
  refine ⟨by simp [tW,h1],fun i d' v' a b=> ?_⟩
  cases i with
  |zero=>
   simp only [tW,List.getElem?_cons_zero,Option.some.injEq] at a b
   subst a b
   split
   ·rename_i d hd;exact om hd
   ·exact .undef _
  |succ i=>exact h2 i d' v' (by simpa [tW] using a) (by simpa using b)
theorem eX {M:MM} (v:Value):bk M (fN v) v:=by
 unfold fN
 split
 ·rename_i cs
  obtain ⟨h1,h2⟩:=yc (M:=M) cs.toList
  exact .agg (by simpa using h1) (fun i d v a b=>h2 i d v a (by simpa using b))
 ·split
  ·rename_i d hd;exact om hd
  ·exact .undef _
theorem mi {M:MM} {t:List D} {a:Act} (h:bS M t a.tmps) (x:Operand):bk M (bI t x) (a.eval x):=by
 cases x with
 |tmp i=>
  show bk M (t.getD i .undef) (a.tmps.getD i undef)
  cases e:t[i]? with
  |none=>rw [List.getD_eq_getElem?_getD,e];exact .undef _
  |some d=>
   obtain ⟨v,hv,hr⟩:=h.get e
   rw [List.getD_eq_getElem?_getD,e,Array.getD_eq_getD_getElem?,hv]
   exact hr
 |const v=>exact eX v
 |global g=>exact .undef _
 |func f=>exact .fn (M:=M) (first:= []) (cap:= []) rfl rfl (fun i d v a=>by simp at a) (fun i d v a=>by simp at a)
theorem mc {M:MM} {d:D} {v:Value} (h:bk M d v) (hs:storable d=true):v.oneCell'=true:=by
 cases h<;>first|rfl|(simp [storable] at hs)
theorem oV {cs xs:List D} {off k:Nat} (h:off+xs.length≤cs.length):(gJ cs off xs)[k]? =if off≤k∧k<off+xs.length then xs[k - off]? else cs[k]? :=by
 unfold gJ
 rw [List.getElem?_append]
 simp only [List.length_take,show min off cs.length=off by omega]
 by_cases h1:k<off
 ·rw [if_pos h1,if_neg (by omega),List.getElem?_take,if_pos h1]
 ·rw [if_neg h1,List.getElem?_append]
  by_cases h2:k - off<xs.length
  ·rw [if_pos h2,if_pos ⟨by omega,by omega⟩]
  ·rw [if_neg h2,if_neg (by omega),List.getElem?_drop]
   congr 1
   omega
theorem oU {cs xs:List D} {off:Nat} (h:off+xs.length≤cs.length):(gJ cs off xs).length=cs.length:=by
 unfold gJ
 simp
 omega
theorem uD {M:MM} {cs xs:List D} {vs ws:Array Value} {off:Nat} (h:bS M cs vs) (k:bS M xs ws) (hl:off+xs.length≤cs.length):bS M (gJ cs off xs) (cG vs off ws.toList):=by
 refine ⟨by rw [oU hl,cQ,h.1],fun i d v a b=> ?_⟩
 have hs:off+ws.toList.length≤vs.size:=by rw [← h.1,Array.length_toList,← k.1];exact hl
 rw [oV hl] at a
 rw [eQ _ _ _ _ hs] at b
 have:ws.toList.length=xs.length:=by rw [Array.length_toList,← k.1]
 rw [this] at b
 split at a
 ·rename_i hc
  rw [if_pos hc] at b
  exact k.2 _ d v a (by simpa using b)
 ·rename_i hc
  rw [if_neg hc] at b
  exact h.2 _ d v a b
theorem kP {M:MM} {cs:List D} {vs:Array Value} (hl:cs.length≤vs.size) (h:∀(i:Nat) (d:D) (v:Value),cs[i]? =some d→vs[i]? =some v→bk M d v) {i:Nat} {d:D} (hd:cs[i]? =some d):∃v,vs[i]? =some v∧bk M d v:=by
 have hi:i<vs.size:=by
  rcases Nat.lt_or_ge i cs.length with x|x
  ·omega
  ·simp [List.getElem?_eq_none x] at hd
 exact ⟨vs[i],by simp [hi],h i d vs[i] hd (by simp [hi])⟩
theorem mj {M:MM} {cs xs:List D} {vs ws:Array Value} {off:Nat} (h0:cs.length≤vs.size) (h:∀(i:Nat) (d:D) (v:Value),cs[i]? =some d→vs[i]? =some v→bk M d v) (k:bS M xs ws) (hl:off+xs.length≤cs.length):
  (gJ cs off xs).length≤(cG vs off ws.toList).size∧∀(i:Nat) (d:D) (v:Value),(gJ cs off xs)[i]? =some d→(cG vs off ws.toList)[i]? =some v→bk M d v:=by
 refine ⟨by rw [oU hl,cQ];exact h0,fun i d v a b=> ?_⟩
 have hs:off+ws.toList.length≤vs.size:=by rw [Array.length_toList,← k.1];omega
 rw [oV hl] at a
 rw [eQ _ _ _ _ hs] at b
 have:ws.toList.length=xs.length:=by rw [Array.length_toList,← k.1]
 rw [this] at b
 split at a
 ·rename_i hc
  rw [if_pos hc] at b
  exact k.2 _ d v a (by simpa using b)
 ·rename_i hc
  rw [if_neg hc] at b
  exact h _ d v a b
section
variable {ρ:Type} {P:Program} {r:ρ}
theorem aY {b:Bool} {k:Option ρ} (h:gk b k=some r):b=true∧k=some r:=by
 cases b
 ·cases h
 ·exact ⟨rfl,h⟩
theorem cM {z:Z P} {b:Bool} {k:Z P→Option ρ} (h:ask z b k=some r):∃z',k z'=some r∧(z'.c→z.c∧b=true):=by
 unfold ask at h
 split at h
 ·rename_i q hq rest _
  exact ⟨_,h,fun c=>⟨c.2,c.1▸hq⟩⟩
 ·cases h
theorem ri {z:Z P} {ys:List D} {k:Z P→List D→Option ρ} (h:yE z ys k=some r):∃z' nc,k z' nc=some r∧(z'.c→z.c∧bA ys=some nc):=by
 unfold yE at h
 split at h
 ·rename_i ys' nc hq rest _
  exact ⟨_,nc,h,fun c=>⟨c.2,c.1▸hq⟩⟩
 ·split at h
  ·rename_i nc hq
   exact ⟨_,nc,h,fun c=>⟨c,hq⟩⟩
  ·cases h
theorem AV {z:Z P} {ys:List D} {k:Z P→List D→Option ρ} (h:Da z ys k=some r):∃z' nc,k z' nc=some r∧(z'.c→z.c∧bA ys=some nc∧ys≠ []):=by
 unfold Da at h
 split at h
 ·rename_i ys' nc hq rest _
  obtain ⟨z',h,hz⟩:=cM h
  refine ⟨z',nc,h,fun c=> ?_⟩
  obtain ⟨⟨e,c0⟩,hb⟩:=hz c
  refine ⟨c0,e▸hq,fun e0=> ?_⟩
  rw [e0] at hb
  cases hb
 ·split at h
  ·rename_i nc hq
   obtain ⟨hb,h⟩:=aY h
   refine ⟨_,nc,h,fun c=>⟨c,hq,fun e0=> ?_⟩⟩
   rw [e0] at hb
   cases hb
  ·cases h
theorem fH {z:Z P} {st b:Bool} {k:Z P→Option ρ} (h:kG z st b k=some r):∃z',k z'=some r∧(z'.c→z.c∧b=true):=by
 unfold kG at h
 split at h
 ·obtain ⟨h1,h2⟩:=aY h
  exact ⟨z,h2,fun c=>⟨c,h1⟩⟩
 ·exact cM h
theorem gW {z:Z P} {n m:Nat} {k:Z P→Option ρ} (h:kF z n m k=some r):∃z',k z'=some r∧(z'.c→z.c∧n≤m):=by
 unfold kF at h
 split at h
 ·rename_i n' m' hn rest _
  exact ⟨_,h,fun c=>⟨c.2,c.1.1▸c.1.2▸hn⟩⟩
 ·cases h
theorem jU {z:Z P} {b:Bool} {k1 k2:Z P→Option ρ} (h:branch z b k1 k2=some r):
  ∃z',(k1 z'=some r∧(z'.c→z.c∧b=true))∨(k2 z'=some r∧(z'.c→z.c∧b=false)):=by
 unfold branch at h
 split at h
 ·rename_i q v hq rest _
  cases v
  ·exact ⟨_,.inr ⟨h,fun c=>⟨c.2,c.1▸hq⟩⟩⟩
  ·exact ⟨_,.inl ⟨h,fun c=>⟨c.2,c.1▸hq⟩⟩⟩
 ·cases h
theorem pq {z:Z P} {l:List D} {i:Nat} {k:Z P→D→Option ρ} (h:pick z l i k=some r):∃z' d,k z' d=some r∧(z'.c→z.c∧l[i]? =some d):=by
 unfold pick at h
 split at h
 ·rename_i l' i' d hg rest _
  exact ⟨_,d,h,fun c=>⟨c.2,c.1.1▸c.1.2▸hg⟩⟩
 ·cases h
theorem qQ {z:Z P} {es:List (Int×D)} {n:Int} {k:Z P→Option D→Option ρ} (h:yu z es n k=some r):∃z' d,k z' d=some r∧(z'.c→z.c∧j6 es n=d):=by
 unfold yu at h
 split at h
 ·rename_i es' n' d hg rest _
  exact ⟨_,d,h,fun c=>⟨c.2,c.1.1▸c.1.2▸hg⟩⟩
 ·cases h
theorem pw {z:Z P} {es:List (List D×D)} {n:List D} {k:Z P→Option D→Option ρ} (h:sT z es n k=some r):∃z' d,k z' d=some r∧(z'.c→z.c∧j5 es n=d):=by
 unfold sT at h
 split at h
 ·rename_i es' n' d hg rest _
  exact ⟨_,d,h,fun c=>⟨c.2,c.1.1▸c.1.2▸hg⟩⟩
 ·cases h
theorem kW {z:Z P} {t:TypeId} {k:Z P→List LK→Option ρ} (h:qN z t k=some r):∃z' ks,k z' ks=some r∧(z'.c→z.c)∧jX P t ks:=by
 unfold qN at h
 split at h
 ·rename_i t' ks hk rest _
  obtain ⟨h1,h2⟩:=aY h
  rw [Nat.beq_eq] at h1
  subst h1
  exact ⟨_,ks,h2,id,hk⟩
 ·cases h
def kJ (P:Program) (t:TypeId) (cs:List D) (off:Nat) (d:D):Prop:=
  ∃e,P.underlying t=some e∧((cA e=true∧off+P.cellsOf t≤cs.length∧d= .agg ((cs.drop off).take (P.cellsOf t)))∨(cA e=false∧cs[off]? =some d))
theorem kT {z:Z P} {dyn:Bool} {t:TypeId} {cs:List D} {off:Nat} {k:Z P→D→Option ρ} (h:qH P z dyn t cs off k=some r):
  ∃z' d,k z' d=some r∧(z'.c→z.c∧kJ P t cs off d):=by
 unfold qH at h
 split at h
 ·cases h
 ·rename_i e he
  split at h
  ·rename_i ha
   obtain ⟨hk,h⟩:=aY h
   split at h
   ·obtain ⟨h1,h2⟩:=aY h
    exact ⟨z,_,h2,fun c=>⟨c,e,he,.inl ⟨ha,by simpa using h1,rfl⟩⟩⟩
   ·split at h
    ·rename_i l i n l' hg rest _
     refine ⟨_,_,h,fun c=>⟨c.2,e,he,.inl ⟨ha,?_,?_⟩⟩⟩
     ·rw [← c.1.1,← c.1.2.1,← c.1.2.2];exact hg.2
     ·rw [← c.1.1,← c.1.2.1,← c.1.2.2,hg.1]
    ·cases h
  ·rename_i ha
   split at h
   ·split at h
    ·rename_i d hd
     exact ⟨z,d,h,fun c=>⟨c,e,he,.inr ⟨ha,hd⟩⟩⟩
    ·cases h
   ·obtain ⟨z',d,h1,h2⟩:=pq h
    exact ⟨z',d,h1,fun c=>⟨(h2 c).1,e,he,.inr ⟨ha,(h2 c).2⟩⟩⟩
theorem nD {M:MM} {t:TypeId} {cs:List D} {off:Nat} {d:D} (hp:kJ P t cs off d) {vs:Array Value} (h:bS M cs vs):∃v,bk M d v∧∀w:World,(part t vs off).run P w= .ok v w:=by
 obtain ⟨e,he,⟨ha,hl,rfl⟩|⟨ha,hd⟩⟩:=hp
 ·have hsub:=h.sub off (P.cellsOf t) hl
  exact ⟨_,.agg hsub.1 hsub.2,fun w=>mh he ha vs off w⟩
 ·obtain ⟨v,hv,hr⟩:=h.get hd
  exact ⟨v,hr,fun w=>mg he ha hv w⟩
theorem iw {M:MM} {t:TypeId} {cs:List D} {off b base:Nat} {d:D} (hp:kJ P t cs off d) {w:World} (vs:Nat→Value)
  (hc:∀j c,cs[j]? =some c→w.cell? ⟨b,base+j,none⟩=some (vs j)∧bk M c (vs j)):∃v,(loadVar t ⟨b,base+off,none⟩).run P w= .ok v w∧bk M d v:=by
 obtain ⟨e,he,⟨ha,hl,rfl⟩|⟨ha,hd⟩⟩:=hp
 ·let ws:Array Value:=((List.range (P.cellsOf t)).map fun j=>vs (off+j)).toArray
  have hws:∀j v,ws[j]? =some v→j<P.cellsOf t∧v=vs (off+j):=by
   intro j v hj
   simp only [ws,List.getElem?_toArray,List.getElem?_map,Option.map_eq_some_iff] at hj
   obtain ⟨x,hx,rfl⟩:=hj
   have hlt:j<P.cellsOf t:=by
    rcases Nat.lt_or_ge j (P.cellsOf t) with h|h
    ·exact h
    ·rw [List.getElem?_eq_none (by simpa using h)] at hx;cases hx
   rw [List.getElem?_range hlt] at hx
   cases hx
   exact ⟨hlt,rfl⟩
  have hcs:∀j,j<P.cellsOf t→∃c,cs[off+j]? =some c:=fun j hj=>⟨cs[off+j]'(by omega),by simp [show off+j<cs.length by omega]⟩
  refine ⟨.agg ws,nY he ha ws (by simp [ws]) ?_,.agg ?_ ?_⟩
  ·intro j v hj
   obtain ⟨h1,rfl⟩:=hws j v hj
   obtain ⟨c,hcc⟩:=hcs j h1
   rw [Nat.add_assoc]
   exact (hc _ c hcc).1
  ·simp [ws];omega
  ·intro i c v a b
   obtain ⟨h1,rfl⟩:=hws i v b
   rw [List.getElem?_take,if_pos h1,List.getElem?_drop] at a
   exact (hc _ c a).2
 ·obtain ⟨h1,h2⟩:=hc off d hd
  exact ⟨vs off,nX he ha h1,h2⟩
end
def DJ (P:Program) (o:Oper) (a:Act) (w:World) (next:Act→World→Prop) (Q:Exit→Act→World→Prop):Prop:= ∀r:Option Nat,o.wpIn (FW r) 0 P a w next Q
theorem zj {P:Program} {o:Oper} {ρ:Operand→Value} {c:Call} (ho:o.op= .defer c) {w w':World} {x:Next} (h:(execOp ρ o).run P w= .ok x w'):∃d,x= .defer d:=by
 unfold execOp at h
 rw [ho] at h
 simp only [Sem.run_bind] at h
 cases hr:(resolve ρ c o.type).run P w with
 |ok d w1=>rw [hr] at h;simp only [Result.andThen_ok,Sem.run_pure,Result.ok.injEq] at h;exact ⟨d,h.1.symm⟩
 |halt a b=>rw [hr] at h;cases h
theorem kL {P:Program} {o:Oper} {ρ:Operand→Value} {w w':World} {x:Next} (h:(execOp ρ o).run P w= .ok x w') (hx:∀d,x≠ .defer d) (r:Option Nat):(o.semAt r ρ).run P w= .ok x w':=by
 by_cases hd:∃c,o.op= .defer c
 ·obtain ⟨c,hc⟩:=hd
  obtain ⟨d,hd⟩:=zj hc h
  exact absurd hd (hx d)
 ·rw [Oper.semAt_eq r ρ o (fun c hc=>hd ⟨c,hc⟩)]
  exact h
def ig.pre (e:ig) (M:MM) (σ:Nat→Ob) (id:Nat):Prop:=match e with
  | .pure _=>True
  | .read i o _=>σ i=o
  | .gr i j d=>fe (σ i) j=some d
  | .dJ i o _ _=>σ i=o
  | .new _ _=>M.box id=none∧∀v,M.bG id v=none
  | .all _ _=>False
def ig.post (e:ig) (σ:Nat→Ob) (id:Nat):Nat→Ob:=match e with
  | .dJ i _ o' _=>Ev.dJ σ i o'
  | .new o _=>Ev.dJ σ id o
  |_=>σ
def ig.val (e:ig) (id:Nat):D:=match e with
  | .pure d=>d
  | .read _ _ d=>d
  | .gr _ _ d=>d
  | .dJ _ _ _ d=>d
  | .new _ mk=>mk id
  | .all _ d=>d
def ig.HZ (e:ig) (M M':MM) (id:Nat):Prop:=match e with
  | .dJ i _ _ _=>M'.box=M.box∧∀j,j≠i→M'.bG j=M.bG j
  | .new _ _=>(∀j,j≠id→M'.box j=M.box j)∧∀j,j≠id→M'.bG j=M.bG j
  |_=>M'.box=M.box∧M'.bG=M.bG
def ey (P:Program) (o:Oper) (ρ:Operand→D) (e:ig):Prop:=
  ∀(w0:di) (M:MM) (own:Nat→Option Nat) (σ:Nat→Ob) (w:World) (a:Act) (id:Nat),bj w0 M own σ w→(∀x∈o.op.operands,bk M (ρ x) (a.eval x))→e.pre M σ id→
    ∀(next:Act→World→Prop) (Q:Exit→Act→World→Prop),
      (∀v M' own' w',M.Le M'→e.HZ M M' id→bj w0 M' own' (e.post σ id) w'→bk M' (e.val id) v→next (a.put o.dst v) w')→DJ P o a w next Q
section
variable {P:Program} {o:Oper} {ρ:Operand→D}
theorem cF {a:Act} {w w':World} {v:Value} {next:Act→World→Prop} {Q:Exit→Act→World→Prop} (h:(execOp a.eval o).run P w= .ok (.value v) w') (k:next (a.put o.dst v) w'):DJ P o a w next Q:=by
 intro r
 refine ⟨fun _ _=>trivial,?_⟩
 rw [show (FW r).round=r from rfl,kL h (fun d e=>by cases e) r]
 exact k
theorem jo {a:Act} {w w':World} {next:Act→World→Prop} {Q:Exit→Act→World→Prop} (h:(execOp a.eval o).run P w= .ok .skip w') (k:next (a.put o.dst undef) w'):DJ P o a w next Q:=by
 intro r
 refine ⟨fun _ _=>trivial,?_⟩
 rw [show (FW r).round=r from rfl,kL h (fun d e=>by cases e) r]
 exact k
theorem br {d:D} (h:∀(M:MM) (w:World) (a:Act),(∀b o v,M.cell b o=some v→w.cell? ⟨b,o,none⟩=some v)→(∀x∈o.op.operands,bk M (ρ x) (a.eval x))→
  ∃v,(execOp a.eval o).run P w= .ok (.value v) w∧bk M d v):ey P o ρ (.pure d):=by
 intro w0 M own σ w a id hw hr _ next Q hn
 obtain ⟨v,h1,h2⟩:=h M w a hw.cells hr
 exact cF h1 (hn v M own w (.refl M) ⟨rfl,rfl⟩ hw h2)
theorem uJ {d:D} (h:∀(M:MM) (w:World) (a:Act),(∀b o v,M.cell b o=some v→w.cell? ⟨b,o,none⟩=some v)→(∀x∈o.op.operands,bk M (ρ x) (a.eval x))→
  ∃v M' w',(execOp a.eval o).run P w= .ok (.value v) w'∧Ext M w M' w'∧M'.box=M.box∧M'.bG=M.bG∧M'.eL=M.eL∧bk M' d v):ey P o ρ (.pure d):=by
 intro w0 M own σ w a id hw hr _ next Q hn
 obtain ⟨v,M',w',h1,h2,h3,h4,hm,h5⟩:=h M w a hw.cells hr
 obtain ⟨k1,k2⟩:=hw.ext h2 h3 h4 hm
 exact cF h1 (hn v M' own w' k2 ⟨h3,h4⟩ k1 h5)
theorem nH {ty:TypeId} {x:Operand} {dyn:Bool} {id off:Nat} {cs:List D} {d:D} (ho:o.op= .load ty x) (hx:ρ x= .ptr dyn id off) (hp:kJ P ty cs off d):ey P o ρ (.read id (.box cs) d):=by
 intro w0 M own σ w a i hw hr hpre next Q hn
 obtain ⟨b,vs,t,k⟩:=hw.box id cs hpre
 have hxr:=hr x (by simp [ho,Op.operands])
 rw [hx] at hxr
 generalize hv:a.eval x=v at hxr
 cases hxr with
 |ptr _ hb=>
  rename_i b'
  rw [k.box] at hb
  obtain rfl:=Option.some.inj hb
  have hcell:∀j c,cs[j]? =some c→w.cell? ⟨b,0+j,none⟩=some (vs.getD j .nilFunc)∧bk M c (vs.getD j .nilFunc):=by
   intro j c hj
   obtain ⟨u,hu,hru⟩:=kP k.len k.rep hj
   rw [Array.getD_eq_getD_getElem?,hu]
   refine ⟨?_,hru⟩
   simp [World.cell?,k.cy,hu]
  obtain ⟨v,h1,h2⟩:=iw hp (fun j=>vs.getD j .nilFunc) hcell
  rw [Nat.zero_add] at h1
  refine cF (v:=v) (w':=w) ?_ (hn v M own w (.refl M) ⟨rfl,rfl⟩ hw h2)
  simp [execOp,ho,Instr.loadAt,Instr.sureAddr,hv,h1]
theorem sJ {ty:TypeId} {x:Operand} {dyn:Bool} {id off:Nat} {d:D} {e:TypeDesc} (ho:o.op= .load ty x) (hx:ρ x= .ptr dyn id off) (hu:P.underlying ty=some e) (ha:cA e=false):ey P o ρ (.gr id off d):=by
 intro w0 M own σ w a i hw hr hpre next Q hn
 have hpre:fe (σ id) off=some d:=hpre
 cases hs:σ id with
 |box cs=>
  rw [hs] at hpre
  exact nH (cs:=cs) (d:=d) ho hx ⟨e,hu,.inr ⟨ha,hpre⟩⟩ w0 M own σ w a i hw hr hs next Q hn
 |_=>rw [hs] at hpre;cases hpre
theorem sI {ty:TypeId} {x:Operand} {dyn:Bool} {y:D} {off:Nat} {cs:List D} {d:D} (ho:o.op= .load ty x) (hx:ρ x= .dN dyn y off) (hy:y.cells=some cs) (hp:kJ P ty cs off d):ey P o ρ (.pure d):=by
 refine br fun M w a hc hr=> ?_
 have hxr:=hr x (by simp [ho,Op.operands])
 rw [hx] at hxr
 generalize hv:a.eval x=v at hxr
 cases hxr with
 |dN _ vs hx' hc' hr'=>
  rw [hy] at hx'
  obtain rfl:=Option.some.inj hx'
  obtain ⟨v,h1,h2⟩:=iw (M:=M) (w:=w) hp vs (fun j c hj=>⟨hc _ _ _ (hc' j c hj),(hr' j c hj).mono (MM.lb M)⟩)
  exact ⟨v,by simp [execOp,ho,Instr.loadAt,Instr.sureAddr,hv,h1],h2⟩
theorem yj {x:Operand} (ho:o.op= .move x∨o.op= .assign x):ey P o ρ (.pure (ρ x)):=
 br fun M w a _ hr=>⟨a.eval x,by rcases ho with h|h<;>simp [execOp,h],hr x (by rcases ho with h|h<;>simp [h,Op.operands])⟩
theorem yi {c x y:Operand} {q:Bool} (ho:o.op= .pick c x y) (hc:ρ c= .bool q):ey P o ρ (.pure (if q then ρ x else ρ y)):=by
 refine br fun M w a _ hr=> ?_
 have h1:=hr c (by simp [ho,Op.operands])
 rw [hc] at h1
 generalize hv:a.eval c=v at h1
 cases h1
 have h2:=hr x (by simp [ho,Op.operands])
 have h3:=hr y (by simp [ho,Op.operands])
 refine ⟨if q then a.eval x else a.eval y,?_,by cases q<;>simpa⟩
 cases q<;>simp [execOp,ho,asBool,hv]
theorem ku {x:Operand} (ho:o.op= .nilCheck x) (hx:(∃q i f,ρ x= .ptr q i f)∨(∃q y f,ρ x= .dN q y f)∨∃g l r,ρ x= .fn (.func g) l r):ey P o ρ (.pure (ρ x)):=by
 refine br fun M w a _ hr=> ?_
 have h1:=hr x (by simp [ho,Op.operands])
 refine ⟨a.eval x,?_,h1⟩
 generalize hv:a.eval x=v at h1
 rcases hx with ⟨q,i,f,e⟩|⟨q,y,f,e⟩|⟨g,l,r,e⟩<;>rw [e] at h1<;>cases h1<;>simp [execOp,ho,hv]
theorem wx {x:Operand} {i:Nat} {ds:List D} {d:D} (ho:o.op= .extract x i) (hx:ρ x= .aA ds) (hd:ds[i]? =some d):ey P o ρ (.pure d):=by
 refine br fun M w a _ hr=> ?_
 have h1:=hr x (by simp [ho,Op.operands])
 rw [hx] at h1
 generalize hv:a.eval x=v at h1
 cases h1 with
 |aA hl hrep=>
  obtain ⟨u,hu,hru⟩:=bS.get ⟨hl,hrep⟩ hd
  exact ⟨u,by simp [execOp,ho,Instr.extract,hv,hu],hru⟩
theorem uO {f:Fn} {first cap:Array Operand} (ho:o.op= .makeFunc f first cap):ey P o ρ (.pure (.fn f (first.toList.map ρ) (cap.toList.map ρ))):=by
 refine br fun M w a _ hr=> ?_
 refine ⟨.func f (first.map a.eval) (cap.map a.eval),by simp [execOp,ho,Instr.makeFunc],.fn (by simp) (by simp) ?_ ?_⟩
 ·intro i d v h1 h2
  rw [List.getElem?_map,Option.map_eq_some_iff] at h1
  obtain ⟨x,hx,rfl⟩:=h1
  rw [Array.getElem?_toList] at hx
  rw [Array.getElem?_map,hx] at h2
  simp only [Option.map_some,Option.some.injEq] at h2
  subst h2
  exact hr x (by simp [ho,Op.operands,Array.mem_of_getElem? hx])
 ·intro i d v h1 h2
  rw [List.getElem?_map,Option.map_eq_some_iff] at h1
  obtain ⟨x,hx,rfl⟩:=h1
  rw [Array.getElem?_toList] at hx
  rw [Array.getElem?_map,hx] at h2
  simp only [Option.map_some,Option.some.injEq] at h2
  subst h2
  exact hr x (by simp [ho,Op.operands,Array.mem_of_getElem? hx])
theorem sN {s:TypeId} {x:Operand} {f:Nat} {fields:Array Field} {fd:Field} (ho:o.op= .fieldAddr s x f) (hs:P.underlying s=some (.struct fields)) (hf:fields[f]? =some fd)
  (hk:known P fd.type=true) (hpos:0<P.cellsOf fd.type):
  (∀q i off,ρ x= .ptr q i off→ey P o ρ (.pure (.ptr q i (off+fd.offset))))∧(∀q y off,ρ x= .dN q y off→ey P o ρ (.pure (.dN q y (off+fd.offset)))):=by
 constructor
 ·intro q i off hx
  refine br fun M w a _ hr=> ?_
  have h1:=hr x (by simp [ho,Op.operands])
  rw [hx] at h1
  generalize hv:a.eval x=v at h1
  cases h1 with
  |ptr _ hb=>
   refine ⟨_,?_,.ptr q hb⟩
   simp [execOp,ho,Instr.fieldAt,run_underlying hs,hf,hv,Instr.sureAddr,fieldPlace,ca hk,Nat.ne_of_gt hpos,ev]
 ·intro q y off hx
  refine br fun M w a _ hr=> ?_
  have h1:=hr x (by simp [ho,Op.operands])
  rw [hx] at h1
  generalize hv:a.eval x=v at h1
  cases h1 with
  |dN _ vs hx' hc' hr'=>
   refine ⟨_,?_,.dN q vs hx' hc' hr'⟩
   simp [execOp,ho,Instr.fieldAt,run_underlying hs,hf,hv,Instr.sureAddr,fieldPlace,ca hk,Nat.ne_of_gt hpos,ev,Nat.add_assoc]
theorem Ck {ty:TypeId} {x:Operand} {f:Nat} {fields:Array Field} {fd:Field} {cs:List D} {d:D} (ho:o.op= .field ty x f) (hs:P.underlying ty=some (.struct fields)) (hf:fields[f]? =some fd)
  (hx:ρ x= .agg cs) (hp:kJ P fd.type cs fd.offset d):ey P o ρ (.pure d):=by
 refine br fun M w a _ hr=> ?_
 have h1:=hr x (by simp [ho,Op.operands])
 rw [hx] at h1
 generalize hv:a.eval x=v at h1
 cases h1 with
 |agg hl hrep=>
  obtain ⟨v,h2,h3⟩:=nD hp ⟨hl,hrep⟩
  exact ⟨v,by simp [execOp,ho,Instr.field,run_underlying hs,hf,hv,asAgg,h3],h2⟩
theorem ck {M:MM} {d:D} {v:Value} {k:IntKind} {n:Int} (h:bk M d v) (e:d= .int k n):v= .int k n:=by subst e;cases h;rfl
theorem mr {ty:TypeId} {x ix:Operand} {k:IntKind} {i:Int} {len:Nat} {elem:TypeId} (ho:o.op= .indexAddr ty x ix) (hi:ρ ix= .int k i) (ht:P.underlying ty=some (.array len elem)) (hk:known P elem=true) (hb:0≤i∧i<len) (dyn:Bool):
  (∀q id off,ρ x= .ptr q id off→ey P o ρ (.pure (.ptr dyn id (off+i.toNat*P.cellsOf elem))))∧(∀q y off,ρ x= .dN q y off→ey P o ρ (.pure (.dN dyn y (off+i.toNat*P.cellsOf elem)))):=by
 constructor
 ·intro q id off hx
  refine br fun M w a _ hr=> ?_
  have h1:=hr x (by simp [ho,Op.operands])
  have h2:=ck (hr ix (by simp [ho,Op.operands])) hi
  rw [hx] at h1
  generalize hv:a.eval x=v at h1
  cases h1 with
  |ptr _ hb'=>
   refine ⟨_,?_,.ptr dyn hb'⟩
   simp [execOp,ho,Instr.indexAt,h2,asIntOf,run_underlying ht,hv,Instr.sureAddr,hb,ca hk,ev]
 ·intro q y off hx
  refine br fun M w a _ hr=> ?_
  have h1:=hr x (by simp [ho,Op.operands])
  have h2:=ck (hr ix (by simp [ho,Op.operands])) hi
  rw [hx] at h1
  generalize hv:a.eval x=v at h1
  cases h1 with
  |dN _ vs hx' hc' hr'=>
   refine ⟨_,?_,.dN dyn vs hx' hc' hr'⟩
   simp [execOp,ho,Instr.indexAt,h2,asIntOf,run_underlying ht,hv,Instr.sureAddr,hb,ca hk,ev,Nat.add_assoc]
theorem m9 {ty:TypeId} {x ix:Operand} {k:IntKind} {i:Int} {elem:TypeId} {ow:jW} {sz:Nat} {xs:List D} {y:D} (ho:o.op= .indexAddr ty x ix) (hi:ρ ix= .int k i) (ht:P.underlying ty=some (.slice elem)) (hk:known P elem=true)
  (hsz:P.cellsOf elem=sz) (hb:0≤i) (hx:ρ x= .aj ow sz xs) (hy:xs[i.toNat]? =some y):ey P o ρ (.pure (.dN false y 0)):=by
 refine br fun M w a _ hr=> ?_
 have h1:=hr x (by simp [ho,Op.operands])
 have h2:=ck (hr ix (by simp [ho,Op.operands])) hi
 rw [hx] at h1
 generalize hv:a.eval x=v at h1
 cases h1 with
 |aj b off vs hl hcap ha hs hc hrr hst hown=>
  rename_i ad len cap
  have hlt:i.toNat<xs.length:=by
   rcases Nat.lt_or_ge i.toNat xs.length with h|h
   ·exact h
   ·simp [List.getElem?_eq_none h] at hy
  have hne:xs≠ []:=fun e=>by simp [e] at hlt
  obtain rfl:=ha hne
  obtain ⟨cs,hcs,hlen⟩:=hs _ _ hy
  refine ⟨.pointer (some ⟨b,(off+i.toNat*sz)+0,none⟩),?_,.dN false (fun j=>vs i.toNat j) hcs (fun j c hj=>hc _ _ _ j c hy hcs hj) (fun j c hj=>hrr _ _ _ j c hy hcs hj)⟩
  have:i<len:=by omega
  simp [execOp,ho,Instr.indexAt,h2,asIntOf,run_underlying ht,hv,hb,this,ca hk,ev,hsz]
theorem sL {ty:TypeId} {x ix:Operand} {k:IntKind} {i:Int} {len:Nat} {elem:TypeId} {cs:List D} {d:D} (ho:o.op= .index ty x ix) (hi:ρ ix= .int k i) (ht:P.underlying ty=some (.array len elem)) (hk:known P elem=true) (hb:0≤i∧i<len)
  (hx:ρ x= .agg cs) (hp:kJ P elem cs (i.toNat*P.cellsOf elem) d):ey P o ρ (.pure d):=by
 refine br fun M w a _ hr=> ?_
 have h1:=hr x (by simp [ho,Op.operands])
 have h2:=ck (hr ix (by simp [ho,Op.operands])) hi
 rw [hx] at h1
 generalize hv:a.eval x=v at h1
 cases h1 with
 |agg hl hrep=>
  obtain ⟨v,h3,h4⟩:=nD hp ⟨hl,hrep⟩
  exact ⟨v,by simp [execOp,ho,Instr.index,h2,asIntOf,run_underlying ht,hv,hb,ca hk,h4],h3⟩
theorem sK {ty:TypeId} {x ix:Operand} {k:IntKind} {i:Int} {s:ByteArray} {d:D} (ho:o.op= .index ty x ix) (hi:ρ ix= .int k i) (ht:P.underlying ty=some .string) (hb:0≤i)
  (hx:ρ x= .str s) (hp:(ji s)[i.toNat]? =some d):ey P o ρ (.pure d):=by
 refine br fun M w a _ hr=> ?_
 have h1:=hr x (by simp [ho,Op.operands])
 have h2:=ck (hr ix (by simp [ho,Op.operands])) hi
 rw [hx] at h1
 generalize hv:a.eval x=v at h1
 cases h1
 unfold ji at hp
 rw [List.getElem?_map,Option.map_eq_some_iff] at hp
 obtain ⟨c,hc,rfl⟩:=hp
 rw [Array.getElem?_toList] at hc
 have hc':s[i.toNat]? =some c:=by
  have hlt:i.toNat<s.data.size:=by
   rcases Nat.lt_or_ge i.toNat s.data.size with h|h
   ·exact h
   ·simp [Array.getElem?_eq_none h] at hc
  have hlt':i.toNat<s.size:=hlt
  rw [getElem?_pos s i.toNat hlt']
  rw [getElem?_pos s.data i.toNat hlt] at hc
  exact hc
 exact ⟨.int .u8 c.toNat,by simp [execOp,ho,Instr.index,h2,asIntOf,run_underlying ht,hv,hb,hc'],.int _ _⟩
end
section
variable {P:Program} {o:Oper} {ρ:Operand→D}
theorem uL {ty:TypeId} {x v:Operand} {dyn:Bool} {id off:Nat} {cs vc:List D} (ho:o.op= .store ty x v) (hx:ρ x= .ptr dyn id off) (hv:(ρ v).cells=some vc) (hk:known P ty=true)
  (hsz:vc.length=P.cellsOf ty) (hst:∀d∈vc,storable d=true) (hl:off+vc.length≤cs.length):ey P o ρ (.dJ id (.box cs) (.box (gJ cs off vc)) .undef):=by
 intro w0 M own σ w a i hw hr hpre next Q hn
 obtain ⟨b,vs,t,k⟩:=hw.box id cs hpre
 have hxr:=hr x (by simp [ho,Op.operands])
 have hvr:=hr v (by simp [ho,Op.operands])
 rw [hx] at hxr
 generalize hva:a.eval x=va at hxr
 cases hxr with
 |ptr _ hb=>
  rename_i b'
  rw [k.box] at hb
  obtain rfl:=Option.some.inj hb
  have hcells:=hvr.cells hv
  have hlen:(a.eval v).cells.toList.length=vc.length:=by rw [Array.length_toList,← hcells.1]
  have hone:∀u∈(a.eval v).cells.toList,u.oneCell'=true:=by
   intro u hu
   obtain ⟨j,hj⟩:=List.mem_iff_getElem?.1 hu
   rw [Array.getElem?_toList] at hj
   have hjl:j<vc.length:=by
    rcases Nat.lt_or_ge j vc.length with h|h
    ·exact h
    ·rw [hcells.1] at h;simp [Array.getElem?_eq_none h] at hj
   exact mc (hcells.2 j vc[j] u (by simp [hjl]) hj) (hst _ (by simp))
  have hrun:=ei (P:=P) (b:=b) (off:=off) (fz:=(0,0)) (a.eval v).cells.toList 0 w vs k.cy hone (by rw [hlen];have:=k.len;omega) (fun o _ h=>by have:=h.2;simp at this)
  rw [Nat.add_zero] at hrun
  have hrep:=mj (M:=M) k.len k.rep hcells hl
  refine jo (w':=aZ w b (.cells (cG vs off (a.eval v).cells.toList) t (0,0))) ?_ (hn undef M own _ (.refl M) ⟨rfl,fun _ _=>rfl⟩ (hw.BU k hrep.1 (cQ _ _ _) hrep.2) (.undef _))
  have he:(a.eval v).cells.size=P.cellsOf ty:=by rw [← hcells.1,hsz]
  simp [execOp,ho,Instr.storeAt,Instr.sureAddr,hva,storeVar,ca hk,he,hrun]
theorem qJ {cs:List D} (h:∀(M:MM) (w:World) (a:Act),(∀x∈o.op.operands,bk M (ρ x) (a.eval x))→∃vs ty,(execOp a.eval o).run P w= .ok (.value (.pointer (some ⟨w.heap.size,0,none⟩))) (w.alloc (.cells vs ty))∧bS M cs vs):
  ey P o ρ (.new (.box cs) fun id=> .ptr false id 0):=by
 intro w0 M own σ w a id hw hr hpre next Q hn
 obtain ⟨vs,ty,h1,h2⟩:=h M w a hr
 have k:=hw.pt hpre.1 hpre.2 ty (Nat.le_of_eq h2.1) h2.2
 exact cF h1 (hn _ _ _ _ (MM.dc hpre.1) ⟨fun j hj=>by simp [MM.aW,hj],fun _ _=>rfl⟩ k (.ptr false (by simp [MM.aW])))
theorem FO {e:TypeId} {x:Operand} {cs:List D} (ho:o.op= .box e x) (hx:(ρ x).cells=some cs):ey P o ρ (.new (.box cs) fun id=> .ptr false id 0):=by
 refine qJ fun M w a hr=>⟨(a.eval x).cells,e,?_,(hr x (by simp [ho,Op.operands])).cells hx⟩
 simp [execOp,ho,Instr.box,newVar,newRow]
theorem fC {t:TypeId} {d:D} (h:gE P t=some d):∃i v,P.info? t=some i∧i.zero=some v∧d=fN v:=by
 unfold gE at h
 split at h
 ·rename_i i hi
  split at h
  ·rename_i v hv
   exact ⟨i,v,hi,hv,(Option.some.inj h).symm⟩
  ·cases h
 ·cases h
theorem Cm {e:TypeId} {d:D} {cs:List D} (ho:o.op= .alloc e) (hz:gE P e=some d) (hc:d.cells=some cs):ey P o ρ (.new (.box cs) fun id=> .ptr false id 0):=by
 obtain ⟨i,v,hi,hv,rfl⟩:=fC hz
 refine qJ fun M w a hr=>⟨v.cells,e,?_,(eX (M:=M) v).cells hc⟩
 simp [execOp,ho,Instr.alloc,dx hi hv,newVar,newRow]
theorem AU (l:List Value):∀(cells:Array Value) (off k:Nat),(l.zipIdx k).foldl (fun cs (p:Value×Nat)=>cs.setIfInBounds (off+p.2) p.1) cells=cG cells (off+k) l:=by
 induction l with
 |nil=>intro cells off k;rfl
 |cons x r ih=>intro cells off k;simp [List.zipIdx_cons,cG,ih,Nat.add_assoc]
theorem pP (v cells:Array Value) (off:Nat):v.zipIdx.foldl (fun cs (c,j)=>cs.setIfInBounds (off+j) c) cells=cG cells off v.toList:=by
 rw [← Array.foldl_toList,Array.toList_zipIdx]
 exact AU v.toList cells off 0
def Fc (M:MM):List (Nat×D)→List (Nat×Value)→Prop
  | [],[]=>True
  |(i,d)::r,(j,v)::s=>i=j∧bk M d v∧Fc M r s
  |_,_=>False
theorem uB {M:MM} {a:Act} (ps:List (Nat×Operand)) (h:∀p∈ps,bk M (ρ p.2) (a.eval p.2)):Fc M (ps.map fun p=>(p.1,ρ p.2)) (ps.map fun p=>(p.1,a.eval p.2)):=by
 induction ps with
 |nil=>trivial
 |cons p r ih=>exact ⟨rfl,h p (by simp),ih fun q hq=>h q (by simp [hq])⟩
theorem s6 {M:MM} (place:Nat→Option (Nat×Nat)):∀(parts:List (Nat×D)) (vparts:List (Nat×Value)) (cells cs:List D) (arr:Array Value),Fc M parts vparts→bS M cells arr→rp place cells parts=some cs→
  ∃arr',Instr.fill place arr vparts=some arr'∧bS M cs arr'
 | [],[],cells,cs,arr,_,h,e=>by
  simp only [rp,Option.some.injEq] at e;subst e;exact ⟨arr,rfl,h⟩
 | [],_::_,_,_,_,hp,_,_=>hp.elim
 |_::_,[],_,_,_,hp,_,_=>hp.elim
 |(i,d)::r,(j,v)::s,cells,cs,arr,hp,h,e=>by
  obtain ⟨rfl,hd,hp⟩:=hp
  unfold rp at e
  split at e
  ·rename_i off size vc hpl hvc
   split at e
   ·rename_i hb
    rw [Bool.and_eq_true,Nat.beq_eq,Nat.ble_eq] at hb
    have hvl:=hd.cells hvc
    have hsz:off+vc.length≤cells.length:=by omega
    obtain ⟨arr',h1,h2⟩:=s6 place r s _ cs _ hp (uD h hvl hsz) e
    refine ⟨arr',?_,h2⟩
    have e1:v.cells.size=size:=by rw [← hvl.1];exact hb.1
    have e2:¬(off+v.cells.size>arr.size):=by rw [← h.1,e1];omega
    rw [Instr.fill,hpl]
    simp only [e1,ne_eq,not_true_eq_false,decide_false,Bool.false_or]
    rw [← e1]
    simp only [e2,decide_false,Bool.false_eq_true,if_false,pP]
    exact h1
   ·cases e
  ·cases e
theorem qo {α β:Type} (f:α→Sem β) (g:α→β) (l:List α) (h:∀x∈l,∀w,(f x).run P w= .ok (g x) w):∀w,(l.mapM f).run P w= .ok (l.map g) w:=by
 induction l with
 |nil=>intro w;simp
 |cons x r ih=>
  intro w
  simp [List.mapM_cons,h x (by simp),ih fun y hy=>h y (by simp [hy])]
theorem Cl {ty:TypeId} {parts:Array (Nat×Operand)} {d:D} (ho:o.op= .build ty parts) (hb:xH P ty (parts.toList.map fun p=>(p.1,ρ p.2))=some d):ey P o ρ (.pure d):=by
 refine br fun M w a _ hr=> ?_
 have hparts:=uB (M:=M) (ρ:=ρ) (a:=a) parts.toList (fun p hp=>hr p.2 (by
  simp only [ho,Op.operands]
  exact List.mem_toArray.2 (List.mem_map.2 ⟨p,hp,rfl⟩)))
 have htl:(parts.map fun (i,x)=>(i,a.eval x)).toList=parts.toList.map fun p=>(p.1,a.eval p.2):=by simp
 unfold xH at hb
 split at hb
 ·cases hb
 ·rename_i z hz
  obtain ⟨i,v,hi,hv,rfl⟩:=fC hz
  split at hb
  ·cases hb
  ·rename_i zero hzc
   have hzl:=(eX (M:=M) v).cells hzc
   split at hb
   ·rename_i fields ht
    split at hb
    ·rename_i hall
     split at hb
     ·rename_i cs hcs
      simp only [Option.some.injEq] at hb
      subst hb
      obtain ⟨arr,h1,h2⟩:=s6 (M:=M) _ _ _ _ _ _ hparts hzl hcs
      refine ⟨.agg arr,?_,.agg h2.1 h2.2⟩
      have hm:∀w:World,(fields.mapM fun (f:Field)=>(do pure (f.offset,← sizeOf f.type):Sem (Nat×Nat))).run P w= .ok (fields.map fun (f:Field)=>(f.offset,P.cellsOf f.type)) w:=by
       intro w
       rw [Array.mapM_eq_mapM_toList]
       rw [List.all_eq_true] at hall
       have:=qo (P:=P) (fun f:Field=>(do pure (f.offset,← sizeOf f.type):Sem (Nat×Nat))) (fun f=>(f.offset,P.cellsOf f.type)) fields.toList (fun f hf w=>by simp [ca (hall f hf)]) w
       simp only [Sem.run_map,this,Result.andThen_ok]
       rw [← Array.toList_map,Array.toArray_toList]
      have hpl:(fun (i:Nat)=>(fields.map fun (f:Field)=>(f.offset,P.cellsOf f.type))[i]?)=fun (i:Nat)=>(fields[i]?).map fun (f:Field)=>(f.offset,P.cellsOf f.type):=by
       funext i;simp
      simp only [execOp,ho,Instr.build,Sem.run_bind,dx hi hv,Result.andThen_ok,run_underlying ht]
      simp only [hm,Result.andThen_ok,htl,hpl,h1,Sem.run_pure]
     ·cases hb
    ·cases hb
   ·rename_i n elem ht
    split at hb
    ·rename_i hk
     split at hb
     ·rename_i cs hcs
      simp only [Option.some.injEq] at hb
      subst hb
      obtain ⟨arr,h1,h2⟩:=s6 (M:=M) _ _ _ _ _ _ hparts hzl hcs
      refine ⟨.agg arr,?_,.agg h2.1 h2.2⟩
      simp only [execOp,ho,Instr.build,Sem.run_bind,dx hi hv,Result.andThen_ok,run_underlying ht,ca hk,htl,h1,Sem.run_pure]
     ·cases hb
    ·cases hb
   ·cases hb
theorem nC {k k':IntKind} (h:eG k k'=true):k=k':=by cases k<;>cases k'<;>first|rfl|(simp [eG] at h)
theorem FQ {op:BinOp} {t t':TypeId} {x y:Operand} {d:D} (ho:o.op= .binOp op t x y t')
  (h:∀(M:MM) (w:World) (u v:Value),bk M (ρ x) u→bk M (ρ y) v→∃r,(do eqGuard op t x y u v;binOp op t u v:Sem Value).run P w= .ok r w∧bk M d r):ey P o ρ (.pure d):=by
 refine br fun M w a _ hr=> ?_
 obtain ⟨r,h1,h2⟩:=h M w _ _ (hr x (by simp [ho,Op.operands])) (hr y (by simp [ho,Op.operands]))
 refine ⟨r,?_,h2⟩
 simp only [execOp,ho]
 rw [Sem.run_bind,h1]
 rfl
end
section
variable {ρ':Type} {P:Program} {r:ρ'}
theorem wO {z:Z P} {st:Bool} {op:BinOp} {k:IntKind} {a b:Int} {K:Z P→D→Option ρ'} (h:wP z st op k a b K=some r) (hsl:op≠ .shl) (hsr:op≠ .shr):
  ∃z' d,K z' d=some r∧(z'.c→z.c∧∀(M:MM) (w:World) (t:TypeId) (x y:Operand),∃v,(do eqGuard op t x y (.int k a) (.int k b);binOp op t (.int k a) (.int k b):Sem Value).run P w= .ok v w∧bk M d v):=by
 cases op<;>simp only [wP] at h
 case shl=>exact absurd rfl hsl
 case shr=>exact absurd rfl hsr
 case quo=>
  obtain ⟨z',h1,h2⟩:=fH h
  refine ⟨z',_,h1,fun c=>⟨(h2 c).1,fun M w t x y=>⟨_,?_,.int _ _⟩⟩⟩
  have hb:b≠0:=by simpa using (h2 c).2
  simp [eqGuard,binOp,Op.intDiv,hb]
 case rem=>
  obtain ⟨z',h1,h2⟩:=fH h
  refine ⟨z',_,h1,fun c=>⟨(h2 c).1,fun M w t x y=>⟨_,?_,.int _ _⟩⟩⟩
  have hb:b≠0:=by simpa using (h2 c).2
  simp [eqGuard,binOp,Op.intDiv,hb]
 case and=>exact ⟨z,_,h,fun c=>⟨c,fun M w t x y=>⟨.int k _,by rw [eqGuard_at_int];simp only [pure_bind,binOp,ne_eq,not_true_eq_false,if_false];rfl,.int _ _⟩⟩⟩
 case or=>exact ⟨z,_,h,fun c=>⟨c,fun M w t x y=>⟨.int k _,by rw [eqGuard_at_int];simp only [pure_bind,binOp,ne_eq,not_true_eq_false,if_false];rfl,.int _ _⟩⟩⟩
 case xor=>exact ⟨z,_,h,fun c=>⟨c,fun M w t x y=>⟨.int k _,by rw [eqGuard_at_int];simp only [pure_bind,binOp,ne_eq,not_true_eq_false,if_false];rfl,.int _ _⟩⟩⟩
 case andNot=>exact ⟨z,_,h,fun c=>⟨c,fun M w t x y=>⟨.int k _,by rw [eqGuard_at_int];simp only [pure_bind,binOp,ne_eq,not_true_eq_false,if_false];rfl,.int _ _⟩⟩⟩
 case add=>exact ⟨z,_,h,fun c=>⟨c,fun M w t x y=>⟨.int k _,by rw [eqGuard_at_int];simp only [pure_bind,binOp,ne_eq,not_true_eq_false,if_false];rfl,.int _ _⟩⟩⟩
 case sub=>exact ⟨z,_,h,fun c=>⟨c,fun M w t x y=>⟨.int k _,by rw [eqGuard_at_int];simp only [pure_bind,binOp,ne_eq,not_true_eq_false,if_false];rfl,.int _ _⟩⟩⟩
 case mul=>exact ⟨z,_,h,fun c=>⟨c,fun M w t x y=>⟨.int k _,by rw [eqGuard_at_int];simp only [pure_bind,binOp,ne_eq,not_true_eq_false,if_false];rfl,.int _ _⟩⟩⟩
 all_goals exact ⟨z,_,h,fun c=>⟨c,fun M w t x y=>⟨.bool _,by rw [eqGuard_at_int];simp only [pure_bind,binOp,ne_eq,not_true_eq_false,if_false];rfl,.bool _⟩⟩⟩
theorem mF {M:MM} :∀ {ks:List LK} {xs:List D} {vs:List Value},fu ks xs=true→xs.length=vs.length→(∀(i:Nat) (d:D) (v:Value),xs[i]? =some d→vs[i]? =some v→bk M d v)→cr ks vs
 | [],[],[],_,_,_=>trivial
 | [],[],_::_,_,h,_=>by simp at h
 | [],_::_,_,h,_,_=>by simp [fu] at h
 |_::_,[],_,h,_,_=>by simp [fu] at h
 |_::_,_::_,[],_,h,_=>by simp at h
 |k::ks,d::ds,v::vs,h,hl,hr=>by
  simp only [fu,Bool.and_eq_true] at h
  have h0:=hr 0 d v rfl rfl
  refine ⟨?_,mF h.2 (by simpa using hl) fun i d v a b=>hr (i+1) d v (by simpa using a) (by simpa using b)⟩
  have h1:=h.1
  cases k<;>cases d<;>simp only [LK.fits,Bool.false_eq_true] at h1<;>cases h0
  ·trivial
  ·exact nC h1
  ·trivial
theorem nR {M:MM} :∀ {ks:List LK} {xs ys:List D} {us vs:List Value},fu ks xs=true→fu ks ys=true→xs.length=us.length→ys.length=vs.length→
  (∀(i:Nat) (d:D) (v:Value),xs[i]? =some d→us[i]? =some v→bk M d v)→(∀(i:Nat) (d:D) (v:Value),ys[i]? =some d→vs[i]? =some v→bk M d v)→b9 us vs=ab xs ys
 | [],xs,ys,us,vs,hx,hy,lx,ly,_,_=>by
  cases xs<;>cases ys<;>simp [fu] at hx hy
  cases us<;>cases vs<;>simp at lx ly
  rfl
 |k::ks,xs,ys,us,vs,hx,hy,lx,ly,rx,ry=>by
  cases xs with
  |nil=>simp [fu] at hx
  |cons x xs=>
  cases ys with
  |nil=>simp [fu] at hy
  |cons y ys=>
  cases us with
  |nil=>simp at lx
  |cons u us=>
  cases vs with
  |nil=>simp at ly
  |cons v vs=>
   simp only [fu,Bool.and_eq_true] at hx hy
   have r1:=rx 0 x u rfl rfl
   have r2:=ry 0 y v rfl rfl
   have ih:=nR hx.2 hy.2 (by simpa using lx) (by simpa using ly) (fun i d v a b=>rx (i+1) d v (by simpa using a) (by simpa using b)) (fun i d v a b=>ry (i+1) d v (by simpa using a) (by simpa using b))
   simp only [b9,ab,ih]
   congr 1
   have h1:=hx.1
   have h2:=hy.1
   cases k<;>cases x<;>simp only [LK.fits,Bool.false_eq_true] at h1<;>cases y<;>simp only [LK.fits,Bool.false_eq_true] at h2<;>cases r1<;>cases r2<;>rfl
theorem Gn {w:World} {t:TypeId} {u v:Value} {b:Bool} (he:binOp .eql t u v=(do pure (.bool (← Op.equal t u v)):Sem Value)) (hn:binOp .neq t u v=(do pure (.bool (!(← Op.equal t u v))):Sem Value))
  (h:(Op.equal t u v).run P w= .ok b w):(binOp .eql t u v).run P w= .ok (.bool b) w∧(binOp .neq t u v).run P w= .ok (.bool (!b)) w:=by
 rw [he,hn,Sem.run_bind,Sem.run_bind,h]
 exact ⟨rfl,rfl⟩
theorem yH {z : Z P} {t : TypeId} {x y : D} {K : Z P → Bool → Option ρ'} (h : Hu P z t x y K = some r) :
    ∃z' b,K z' b=some r∧(z'.c→z.c)∧∀(M:MM) (w:World) (u v:Value),bk M x u→bk M y v→
      (∀op px py,(eqGuard op t px py u v).run P w= .ok () w)∧(binOp .eql t u v).run P w= .ok (.bool b) w∧(binOp .neq t u v).run P w= .ok (.bool (!b)) w:=by
  unfold Hu at h
  split at h
  ·
    split at h
    · rename_i ht
      refine ⟨z,_,h,id,fun M w u v hu hv=> ?_⟩
      cases hu;cases hv
      exact ⟨fun op px py=>by rw [eqGuard_at_bool];rfl,run_eql_bool w t _ _ ht,run_neq_bool w t _ _ ht⟩
    · cases h
  · rename_i xs ys
    split at h
    · rename_i t' ks hf rest _
      obtain ⟨h1,h2⟩:=aY h
      rw [Bool.and_eq_true,Bool.and_eq_true,Nat.beq_eq] at h1
      obtain ⟨ht,hx,hy⟩:=h1
      subst ht
      refine ⟨_,_,h2,id,fun M w u v hu hv=> ?_⟩
      cases hu with
      |agg l1 r1=>
        cases hv with
        |agg l2 r2=>
          rename_i us vs
          have lx:xs.length=us.toList.length:=by simpa using l1
          have ly:ys.length=vs.toList.length:=by simpa using l2
          have e1:=mF (M:=M) hx lx (fun i d v a b=>r1 i d v a (by simpa using b))
          have e2:=mF (M:=M) hy ly (fun i d v a b=>r2 i d v a (by simpa using b))
          have e3:=nR (M:=M) hx hy lx ly (fun i d v a b=>r1 i d v a (by simpa using b)) (fun i d v a b=>r2 i d v a (by simpa using b))
          have e4:=hf.eq us vs w e1 e2
          refine ⟨fun op px py=>run_eqGuard_agg w op t' px py us vs hf.plain,?_,?_⟩
          · rw [run_eql_struct,e4,e3];rfl
          · rw [run_neq_struct,e4,e3];rfl
    · cases h
  all_goals first
    | (split at h
       · rename_i ht
         refine ⟨z,_,h,id,fun M w u v hu hv=> ?_⟩
         cases hu;cases hv
         refine ⟨fun op px py=>by cases op<;>rfl,?_⟩
         refine Gn rfl rfl ?_
         show (Op.equalIn (9999+1) t _ _).run P w=_
         unfold Op.equalIn
         simp only [Sem.run_bind,run_underlying ht,Result.andThen_ok,Sem.run_pure,Option.isNone_none]
       · cases h)
    |cases h
theorem Dq {z:Z P} {st:Bool} {op:BinOp} {t:TypeId} {x y:D} {K:Z P→D→Option ρ'} (h:Gr P z st op t x y K=some r):
  ∃z' d,K z' d=some r∧(z'.c→z.c∧∀(M:MM) (w:World) (px py:Operand) (u v:Value),bk M x u→bk M y v→
   ∃q,(do eqGuard op t px py u v;binOp op t u v:Sem Value).run P w= .ok q w∧bk M d q):=by
 unfold Gr at h
 split at h
 ·rename_i k a k' b
  split at h
  ·obtain ⟨z',h1,h2⟩:=fH h
   refine ⟨z',_,h1,fun c=>⟨(h2 c).1,fun M w px py u v hu hv=> ?_⟩⟩
   cases hu;cases hv
   have hb:¬b<0:=by have:=(h2 c).2;simp at this;omega
   exact ⟨_,by simp [eqGuard,binOp,Op.shift,hb]<;>rfl,.int _ _⟩
  ·obtain ⟨z',h1,h2⟩:=fH h
   refine ⟨z',_,h1,fun c=>⟨(h2 c).1,fun M w px py u v hu hv=> ?_⟩⟩
   cases hu;cases hv
   have hb:¬b<0:=by have:=(h2 c).2;simp at this;omega
   exact ⟨_,by simp [eqGuard,binOp,Op.shift,hb]<;>rfl,.int _ _⟩
  ·rename_i hsl hsr
   obtain ⟨h1,h2⟩:=aY h
   obtain rfl:=nC h1
   obtain ⟨z',d,h3,h4⟩:=wO h2 hsl hsr
   refine ⟨z',d,h3,fun c=>⟨(h4 c).1,fun M w px py u v hu hv=> ?_⟩⟩
   cases hu;cases hv
   exact (h4 c).2 M w t px py
 ·split at h
  ·refine ⟨z,_,h,fun c=>⟨c,fun M w px py u v hu hv=> ?_⟩⟩
   cases hu;cases hv
   exact ⟨_,by simp [eqGuard,binOp,Op.stringOp]<;>rfl,.bool _⟩
  ·refine ⟨z,_,h,fun c=>⟨c,fun M w px py u v hu hv=> ?_⟩⟩
   cases hu;cases hv
   exact ⟨_,by simp [eqGuard,binOp,Op.stringOp]<;>rfl,.bool _⟩
  ·cases h
 ·split at h
  ·obtain ⟨z',b,h1,h2,h3⟩:=yH h
   refine ⟨z',_,h1,fun c=>⟨h2 c,fun M w px py u v hu hv=> ?_⟩⟩
   obtain ⟨e1,e2,e3⟩:=h3 M w u v hu hv
   exact ⟨_,by rw [Sem.run_bind,e1];exact e2,.bool _⟩
  ·obtain ⟨z',b,h1,h2,h3⟩:=yH h
   refine ⟨z',_,h1,fun c=>⟨h2 c,fun M w px py u v hu hv=> ?_⟩⟩
   obtain ⟨e1,e2,e3⟩:=h3 M w u v hu hv
   exact ⟨_,by rw [Sem.run_bind,e1];exact e3,.bool _⟩
  ·cases h
theorem DL {op:UnOp} {x:D} {K:D→Option ρ'} (h:Hz op x K=some r):∃d,K d=some r∧∀(M:MM) (w:World) (u:Value),bk M x u→∃v,(Op.unary op u).run P w= .ok v w∧bk M d v:=by
 unfold Hz at h
 split at h
 ·refine ⟨_,h,fun M w u hu=> ?_⟩
  cases hu
  exact ⟨_,by simp [Op.unary,Op.intArith]<;>rfl,by simpa using .int _ _⟩
 ·refine ⟨_,h,fun M w u hu=> ?_⟩
  cases hu
  exact ⟨_,by simp [Op.unary,Op.intBits]<;>rfl,.int _ _⟩
 ·refine ⟨_,h,fun M w u hu=> ?_⟩
  cases hu
  exact ⟨_,by simp [Op.unary]<;>rfl,.bool _⟩
 ·cases h
end
theorem eP {a b:IntKind} (h:eG a b=true):a=b:=by cases a<;>cases b<;>first|rfl|(simp [eG] at h)
theorem nr {k:IntKind} :∀ {es:List (Int×D)} {l:List MapEntry},lM k es l→es.length=l.length
 | [],[],_=>rfl
 | [],_::_,h=>h.elim
 |(_,_)::_,[],h=>h.elim
 |(n,d)::r,e::s,h=>by simp [nr h.2.2]
theorem qe:jk [] 0:=⟨rfl,fun i e h=>by simp at h⟩
theorem hB {l:List MapEntry} {c j:Nat} {f:MapEntry→MapEntry} (hf:∀e,(f e).born=e.born) (h:jk l c):jk (l.modify j f) c:=by
 refine ⟨by rw [List.length_modify];exact h.1,fun i e he=> ?_⟩
 rw [List.getElem?_modify] at he
 cases hl:l[i]? with
 |none=>rw [hl] at he;cases he
 |some e0=>
  rw [hl] at he
  have h0:=h.2 i e0 hl
  simp only [Option.map_eq_map,Option.map_some,Option.some.injEq] at he
  split at he
  ·rw [← he,hf];exact h0
  ·rw [← he];exact h0
theorem ja {l:List MapEntry} {c:Nat} {k v:Value} (h:jk l c):jk (l++ [⟨k,v,c⟩]) (c+1):=by
 refine ⟨by simp [h.1],fun i e he=> ?_⟩
 rw [List.getElem?_append] at he
 split at he
 ·exact h.2 i e he
 ·rename_i hi
  have:i=l.length:=by
   rcases Nat.lt_trichotomy i l.length with q|q|q
   ·exact absurd q hi
   ·exact q
   ·rw [List.getElem?_eq_none (by simp;omega)] at he;cases he
  subst this
  simp only [Nat.sub_self,List.getElem?_cons_zero,Option.some.injEq] at he
  rw [← he];exact h.1
theorem Bl {ents:Array MapEntry} {c:Nat} (h:jk ents.toList c) {j:Nat} (hj:j<ents.size):ents.findIdx? (fun e=>((e.born:Int)==(j:Int)))=some j:=by
 rw [Array.findIdx?_eq_some_iff_getElem]
 refine ⟨hj,?_,fun i hi=> ?_⟩
 ·have:=h.2 j ents[j] (by simp [hj])
  simp [this]
 ·have:=h.2 i (ents[i]'(Nat.lt_trans hi hj)) (by simp [Nat.lt_trans hi hj])
  simp only [this]
  simp
  omega
theorem wC {ents:Array MapEntry} {j:Nat} {e0:MapEntry} {kv:Value} (he:ents[j]? =some e0) (hk:e0.key=kv):(ents.modify j fun e=> { e with key:=kv })=ents:=by
 apply Array.ext_getElem?
 intro i
 rw [Array.getElem?_modify]
 split
 ·rename_i hji
  subst hji
  rw [he]
  simp [← hk]
 ·rfl
theorem jt {P:Program} {ty kt et:TypeId} {b:Nat} {ents:Array MapEntry} {clock j:Nat} {kv v:Value} {e0:MapEntry} {w:World} (t1:P.underlying ty=some (.map kt et)) (cy:w.heap[b]? =some (.map ents clock))
  (hcheck:(Instr.checkKey false 10000 kt kv).run P w= .ok () w) (hfind:(Instr.findKey kt kv ents.toList).run P w= .ok (some (j,v)) w) (he:ents[j]? =some e0) (hk:e0.key=kv) (hs:Instr.sameBits 10000 kv kv=true) (hb:e0.born=j):
  (Instr.mapEntry ty (.map (some b)) kv).run P w= .ok (.tuple #[v,.int .i64 j]) (aZ w b (.map ents clock)):=by
 have hm:=wC he hk
 simp [Instr.mapEntry,run_underlying t1,run_getObj_map w b ents clock cy,hcheck,hfind,he,hk,Instr.keyThatStays,hs,MapKept.run_setObj_map _ cy,aZ,hm,goInt,hb]
theorem ju {P:Program} {ty kt et:TypeId} {b:Nat} {ents:Array MapEntry} {clock:Nat} {kv zv:Value} {zi:TypeInfo} {w:World} (t1:P.underlying ty=some (.map kt et)) (cy:w.heap[b]? =some (.map ents clock))
  (hcheck:(Instr.checkKey false 10000 kt kv).run P w= .ok () w) (hfind:(Instr.findKey kt kv ents.toList).run P w= .ok none w) (hz:P.info? et=some zi) (hzv:zi.zero=some zv):
  (Instr.mapEntry ty (.map (some b)) kv).run P w= .ok (.tuple #[zv,.int .i64 clock]) (aZ w b (.map (ents.push ⟨kv,zv,clock⟩) (clock+1))):=by
 simp [Instr.mapEntry,run_underlying t1,run_getObj_map w b ents clock cy,hcheck,hfind,MapKept.run_setObj_map _ cy,aZ,goInt,dx hz hzv]
theorem pb {P:Program} {ty:TypeId} {b:Nat} {ents:Array MapEntry} {clock j:Nat} {q:IntKind} {v:Value} {w:World} (cy:w.heap[b]? =some (.map ents clock)) (hb:jk ents.toList clock) (hj:j<ents.size):
  (Instr.entryStore ty (.map (some b)) (.int q j) v).run P w= .ok () (aZ w b (.map (ents.modify j fun e=> { e with val:=v }) clock)):=by
 simp [Instr.entryStore,run_getObj_map w b ents clock cy,asInt,asIntOf,Bl hb hj,MapKept.run_setObj_map _ cy,aZ]
theorem rk {k:IntKind} :∀ {es:List (Int×D)} {l:List MapEntry} (j:Nat) {d:D} {v:Value},lM k es l→gp d=some v→lM k (vX es j d) (l.modify j fun e=> { e with val:=v })
 | [],[],j,_,_,_,_=>by cases j<;>exact trivial
 | [],_::_,_,_,_,h,_=>h.elim
 |(_,_)::_,[],_,_,_,h,_=>h.elim
 |(n,a)::r,e::s,0,d,v,h,hd=>by
  rw [List.modify_zero_cons]
  exact ⟨h.1,hd,h.2.2⟩
 |(n,a)::r,e::s,j+1,d,v,h,hd=>by
  rw [List.modify_succ_cons]
  exact ⟨h.1,h.2.1,rk j h.2.2 hd⟩
theorem rn {ks:List LK} :∀ {es:List (List D×D)} {l:List MapEntry} (j:Nat) {d:D} {v:Value},kA ks es l→gp d=some v→kA ks (vX es j d) (l.modify j fun e=> { e with val:=v })
 | [],[],j,_,_,_,_=>by cases j<;>exact trivial
 | [],_::_,_,_,_,h,_=>h.elim
 |(_,_)::_,[],_,_,_,h,_=>h.elim
 |(n,a)::r,e::s,0,d,v,h,hd=>by
  rw [List.modify_zero_cons]
  exact ⟨h.1,hd,h.2.2⟩
 |(n,a)::r,e::s,j+1,d,v,h,hd=>by
  rw [List.modify_succ_cons]
  exact ⟨h.1,h.2.1,rn j h.2.2 hd⟩
theorem nv {ks:List LK} :∀ {es:List (List D×D)} {l:List MapEntry},kA ks es l→es.length=l.length
 | [],[],_=>rfl
 | [],_::_,h=>h.elim
 |(_,_)::_,[],h=>h.elim
 |(n,d)::r,e::s,h=>by simp [nv h.2.2]
theorem kM {M:MM} {d:D} {v:Value} (h:gp d=some v):bk M d v:=by
 cases d<;>simp only [gp,Option.some.injEq,reduceCtorEq] at h<;>subst h
 ·exact .int _ _
 ·exact .bool _
 ·exact .str _
theorem kl {M:MM} {d:D} {v:Value} (h:bk M d v) (hs:gP d=true):gp d=some v:=by
 cases h<;>first|rfl|(simp [gP] at hs)
theorem k9 {k q:IntKind} {n:Int} :∀ {es:List (Int×D)} {l:List MapEntry} (i:Nat),lM k es l→
  (∃j v d e,(j6 es n=some d∧pJ es n=j)∧gp d=some v∧Instr.findNow (.int q) (.int k n) l i=some (some (i+j,v))∧l[j]? =some e∧e.key= .int k n∧∀v2 d2,gp d2=some v2→lM k (jC es n d2) (l.modify j fun e=> { e with key:= .int k n,val:=v2 }))∨
  ((j6 es n=none∧pJ es n=es.length)∧Instr.findNow (.int q) (.int k n) l i=some none∧∀v2 d2 c,gp d2=some v2→lM k (jC es n d2) (l++ [⟨.int k n,v2,c⟩]))
 | [],[],i,_=> .inr ⟨⟨rfl,rfl⟩,rfl,fun v2 d2 c h=>⟨rfl,h,trivial⟩⟩
 | [],_::_,_,h=>h.elim
 |(_,_)::_,[],_,h=>h.elim
 |(a,d)::r,e::s,i,h=>by
  obtain ⟨h1,h2,h3⟩:=h
  have hsame:Instr.sameNow (.int q) (.int k n) e.key=some (n==a):=by rw [h1];simp [Instr.sameNow]
  by_cases hn:(n==a)=true
  ·left
   have hna:n=a:=by simpa using hn
   refine ⟨0,e.val,d,e,?_,h2,?_,rfl,by rw [h1,hna],?_⟩
   ·simp [j6,pJ,hn]
   ·simp [Instr.findNow,hsame,hn]
   ·intro v2 d2 hd
    simp only [jC,hn,List.modify_zero_cons]
    exact ⟨rfl,hd,h3⟩
  ·have hn':(n==a)=false:=by simpa using hn
   rcases k9 (q:=q) (n:=n) (i+1) h3 with ⟨j,v,d',e',k1,k2,k3,k4,k5,k6⟩|⟨k1,k2,k3⟩
   ·left
    refine ⟨j+1,v,d',e',?_,k2,?_,by simpa using k4,k5,?_⟩
    ·simp [j6,pJ,hn',k1]
    ·simp only [Instr.findNow,hsame,hn']
     rw [k3,show i+1+j=i+(j+1) by omega]
    ·intro v2 d2 hd
     simp only [jC,hn',List.modify_succ_cons]
     exact ⟨h1,h2,k6 v2 d2 hd⟩
   ·right
    refine ⟨?_,?_,?_⟩
    ·simp [j6,pJ,hn',k1]
    ·simp only [Instr.findNow,hsame,hn',k2]
    ·intro v2 d2 c hd
     simp only [jC,hn',List.cons_append]
     exact ⟨h1,h2,k3 v2 d2 c hd⟩
section
variable {P:Program} {o:Oper} {ρ:Operand→D}
theorem iW {t:TypeId} {k:IntKind} {et:TypeId} (h:gY P t=some (k,et)):∃kt,P.underlying t=some (.map kt et)∧P.underlying kt=some (.int k):=by
 unfold gY at h
 split at h
 ·rename_i kt et' ht
  split at h
  ·rename_i k' hk
   simp only [Option.some.injEq,Prod.mk.injEq] at h
   obtain ⟨rfl,rfl⟩:=h
   exact ⟨kt,ht,hk⟩
  ·cases h
 ·cases h
theorem fG {kt:TypeId} {q:IntKind} (hk:P.underlying kt=some (.int q)) (b:Bool) (v:Value) (w:World):(Instr.checkKey b 10000 kt v).run P w= .ok () w:=by
 unfold Instr.checkKey
 simp [run_underlying hk]
theorem wv {ty:TypeId} {r:Option Operand} {k:IntKind} {et:TypeId} (ho:o.op= .makeMap ty r) (hk:gY P ty=some (k,et)) (hr:∀x,r=some x→∃q n,ρ x= .int q n):
  ey P o ρ (.new (.mp k []) fun id=> .dM id):=by
 intro w0 M own σ w a id hw hrep hpre next Q hn
 obtain ⟨kt,h1,h2⟩:=iW hk
 have hrun:(execOp a.eval o).run P w= .ok (.value (.map (some w.heap.size))) (w.alloc (.map #[] 0)):=by
  cases r with
  |none=>simp [execOp,ho,Instr.makeMap]
  |some x=>
   obtain ⟨q,n,hx⟩:=hr x rfl
   have:=ck (hrep x (by simp [ho,Op.operands])) hx
   simp [execOp,ho,Instr.makeMap,run_underlying h1,this,asInt,asIntOf]
 have k:=hw.CO hpre.1 (o:= .mp k []) rfl ⟨trivial,qe⟩
 exact cF hrun (hn _ _ _ _ (MM.dc hpre.1) ⟨fun j hj=>by simp [MM.aW,hj],fun _ _=>rfl⟩ k (.dM (by simp [MM.aW])))
theorem Af {ty:TypeId} {m kx v:Operand} {id:Nat} {q:IntKind} {n:Int} {es:List (Int×D)} {et:TypeId} (ho:o.op= .insert ty m kx v∨o.op= .mapUpdate ty m kx v) (hk:gY P ty=some (q,et))
  (hm:ρ m= .dM id) (hx:ρ kx= .int q n) (hv:gP (ρ v)=true):ey P o ρ (.dJ id (.mp q es) (.mp q (jC es n (ρ v))) .undef):=by
 intro w0 M own σ w a i hw hr hpre next Q hn
 obtain ⟨kt,t1,t2⟩:=iW hk
 obtain ⟨b,ents,clock,k⟩:=hw.mp id _ (by rw [(hpre:σ id=_)];rfl)
 have hops:m∈o.op.operands∧kx∈o.op.operands∧v∈o.op.operands:=by rcases ho with h|h<;>simp [h,Op.operands]
 have hmr:=hr m hops.1
 have hxr:=ck (hr kx hops.2.1) hx
 have hvr:=kl (hr v hops.2.2) hv
 rw [hm] at hmr
 generalize hva:a.eval m=va at hmr
 cases hmr with
 |dM hb=>
  rename_i b'
  rw [k.box] at hb
  obtain rfl:=Option.some.inj hb
  have hexec:(execOp a.eval o).run P w=((Instr.mapUpdate ty (.map (some b)) (.int q n) (a.eval v)).run P w).andThen fun _ w'=> .ok .skip w':=by
   rcases ho with h|h<;>simp [execOp,h,hva,hxr]
  rcases k9 (q:=q) (n:=n) 0 k.fits.1 with ⟨j,v0,d0,e0,k1,k2,k3,k4,k5,k6⟩|⟨k1,k2,k3⟩
  ·have hfit:lM q (jC es n (ρ v)) (ents.modify j fun e=> { e with key:= .int q n,val:=a.eval v }).toList:=by
    rw [Array.toList_modify];exact k6 _ _ hvr
   have hset:=hw.jf k clock (o':= .mp q (jC es n (ρ v))) rfl ⟨hfit,by rw [Array.toList_modify];exact hB (fun _=>rfl) k.fits.2⟩
   refine jo (w':=aZ w b (.map (ents.modify j fun e=> { e with key:= .int q n,val:=a.eval v }) clock)) ?_ (hn undef M own _ (.refl M) ⟨rfl,fun _ _=>rfl⟩ hset (.undef _))
   rw [hexec]
   have hfk:(Instr.findKey kt (.int q n) ents.toList).run P w= .ok (some (j,v0)) w:=by
    simp [Instr.findKey,run_underlying t2,k3]
   have hej:ents[j]? =some e0:=by simpa using k4
   have hsb:Instr.sameBits 10000 (Value.int q n) (Value.int q n)=true:=by simp [Instr.sameBits]
   simp [Instr.mapUpdate,run_underlying t1,run_getObj_map w b ents clock k.cy,fG t2,hfk,hej,k5,Instr.keyThatStays,hsb,MapKept.run_setObj_map _ k.cy,aZ]
  ·have hfit:lM q (jC es n (ρ v)) (ents.push ⟨.int q n,a.eval v,clock⟩).toList:=by
    rw [Array.toList_push];exact k3 _ _ _ hvr
   have hset:=hw.jf k (clock+1) (o':= .mp q (jC es n (ρ v))) rfl ⟨hfit,by rw [Array.toList_push];exact ja k.fits.2⟩
   refine jo (w':=aZ w b (.map (ents.push ⟨.int q n,a.eval v,clock⟩) (clock+1))) ?_ (hn undef M own _ (.refl M) ⟨rfl,fun _ _=>rfl⟩ hset (.undef _))
   rw [hexec]
   have hfk:(Instr.findKey kt (.int q n) ents.toList).run P w= .ok none w:=by
    simp [Instr.findKey,run_underlying t2,k2]
   simp [Instr.mapUpdate,run_underlying t1,run_getObj_map w b ents clock k.cy,fG t2,hfk,MapKept.run_setObj_map _ k.cy,aZ]
theorem wq {ty:TypeId} {m kx:Operand} {ok:Bool} {id:Nat} {q:IntKind} {n:Int} {es:List (Int×D)} {et:TypeId} {zd:D} {r:Option D} (ho:o.op= .lookup ty m kx ok) (hk:gY P ty=some (q,et)) (hz:gE P et=some zd)
  (hm:ρ m= .dM id) (hx:ρ kx= .int q n) (hl:j6 es n=r):ey P o ρ (.read id (.mp q es) (match ok with|true=> .aA [r.getD zd,.bool r.isSome]|false=>r.getD zd)):=by
 intro w0 M own σ w a i hw hr hpre next Q hn
 obtain ⟨kt,t1,t2⟩:=iW hk
 obtain ⟨b,ents,clock,k⟩:=hw.mp id _ (by rw [(hpre:σ id=_)];rfl)
 have hmr:=hr m (by simp [ho,Op.operands])
 have hxr:=ck (hr kx (by simp [ho,Op.operands])) hx
 rw [hm] at hmr
 generalize hva:a.eval m=va at hmr
 cases hmr with
 |dM hb=>
  rename_i b'
  rw [k.box] at hb
  obtain rfl:=Option.some.inj hb
  obtain ⟨zi,zv,hzi,hzv,rfl⟩:=fC hz
  have main:∃v,bk M (r.getD (fN zv)) v∧(execOp a.eval o).run P w= .ok (.value (if ok then .tuple #[v,.bool r.isSome] else v)) w:=by
   rcases k9 (q:=q) (n:=n) 0 k.fits.1 with ⟨j,v0,d0,e0,k1,k2,k3,_⟩|⟨k1,k2,_⟩
   ·rw [k1.1] at hl
    subst hl
    refine ⟨v0,kM k2,?_⟩
    have hfk:(Instr.findKey kt (.int q n) ents.toList).run P w= .ok (some (j,v0)) w:=by
     simp [Instr.findKey,run_underlying t2,k3]
    simp [execOp,ho,Instr.lookup,run_underlying t1,hva,hxr,run_getObj_map w b ents clock k.cy,fG t2,hfk]
   ·rw [k1.1] at hl
    subst hl
    refine ⟨zv,eX zv,?_⟩
    have hfk:(Instr.findKey kt (.int q n) ents.toList).run P w= .ok none w:=by
     simp [Instr.findKey,run_underlying t2,k2]
    simp [execOp,ho,Instr.lookup,run_underlying t1,hva,hxr,run_getObj_map w b ents clock k.cy,fG t2,hfk,dx hzi hzv]
  obtain ⟨v,h1,h2⟩:=main
  refine cF h2 (hn _ M own w (.refl M) ⟨rfl,rfl⟩ hw ?_)
  cases ok
  ·exact h1
  ·refine .aA rfl (fun i d u p q=> ?_)
   match i,p,q with
   |0,p,q=>simp at p q;subst p q;exact h1
   |1,p,q=>simp at p q;subst p q;exact .bool _
   |i+2,p,_=>simp at p
end
theorem kN:∀ {a b:List LK},ko a b=true→a=b
 | [],[],_=>rfl
 | [],_::_,h=>by simp [ko] at h
 |_::_,[],h=>by simp [ko] at h
 |a::x,b::y,h=>by
  simp only [ko,Bool.and_eq_true] at h
  rw [kN h.2]
  congr 1
  have h1:=h.1
  cases a<;>cases b<;>simp only [LK.same,Bool.false_eq_true] at h1
  ·rfl
  ·rw [eP h1]
  ·rfl
theorem qE {M:MM} :∀ {ks:List LK} {cs:List D} {vs:List Value},fu ks cs=true→cs.length=vs.length→(∀(i:Nat) (d:D) (v:Value),cs[i]? =some d→vs[i]? =some v→bk M d v)→hU cs=some vs
 |_,[],[],_,_,_=>rfl
 |_,[],_::_,_,h,_=>by simp at h
 |_,_::_,[],_,h,_=>by simp at h
 | [],_::_,_::_,h,_,_=>by simp [fu] at h
 |k::ks,d::cs,v::vs,h,hl,hr=>by
  simp only [fu,Bool.and_eq_true] at h
  have h0:=hr 0 d v rfl rfl
  have ih:=qE h.2 (by simpa using hl) fun i d v a b=>hr (i+1) d v (by simpa using a) (by simpa using b)
  have hd:gp d=some v:=by
   have h1:=h.1
   cases k<;>cases d<;>simp only [LK.fits,Bool.false_eq_true] at h1<;>cases h0<;>rfl
  simp only [hU,hd,ih]
theorem vv {a b:D} {u v:Value} (ha:gp a=some u) (hb:gp b=some v):ak a b=jS u v:=by
 cases a<;>simp only [gp,Option.some.injEq,reduceCtorEq] at ha<;>subst ha<;>cases b<;>simp only [gp,Option.some.injEq,reduceCtorEq] at hb<;>subst hb<;>rfl
theorem lN:∀ {a b:List D} {u v:List Value},hU a=some u→hU b=some v→ab a b=b9 u v
 | [],[],u,v,ha,hb=>by simp only [hU,Option.some.injEq] at ha hb;subst ha hb;rfl
 | [],y::b,u,v,ha,hb=>by
  simp only [hU,Option.some.injEq] at ha hb
  subst ha
  split at hb
  ·obtain rfl:=Option.some.inj hb;rfl
  ·cases hb
 |x::a,[],u,v,ha,hb=>by
  simp only [hU,Option.some.injEq] at ha hb
  subst hb
  split at ha
  ·obtain rfl:=Option.some.inj ha;rfl
  ·cases ha
 |x::a,y::b,u,v,ha,hb=>by
  simp only [hU] at ha hb
  split at ha
  ·rename_i u0 ul h1 h2
   obtain rfl:=Option.some.inj ha
   split at hb
   ·rename_i v0 vl h3 h4
    obtain rfl:=Option.some.inj hb
    simp only [ab,b9,vv h1 h3,lN h2 h4]
   ·cases hb
  ·cases ha
theorem jM {k:LK} {ks:List LK} (h:lL (k::ks)=true):lL ks=true∧k≠ .str:=by
 cases k
 ·exact ⟨h,by simp⟩
 ·exact ⟨h,by simp⟩
 ·simp [lL] at h
theorem nS:∀ {ks:List LK} {u v:List Value},lL ks=true→cr ks u→cr ks v→b9 u v=true→u=v
 | [],[],[],_,_,_,_=>rfl
 | [],_::_,_,_,h,_,_=>h.elim
 | [],[],_::_,_,_,h,_=>h.elim
 |_::_,[],_,_,h,_,_=>h.elim
 |_::_,_::_,[],_,_,h,_=>h.elim
 |k::ks,a::u,b::v,hs,hu,hv,h=>by
  simp only [b9,Bool.and_eq_true] at h
  rw [nS (jM hs).1 hu.2 hv.2 h.2]
  congr 1
  have h1:=hu.1
  have h2:=hv.1
  have h3:=h.1
  cases k<;>cases a<;>simp only [LK.kz] at h1<;>cases b<;>simp only [LK.kz] at h2
  ·simp only [jS,beq_iff_eq] at h3;rw [h3]
  ·simp only [jS,beq_iff_eq] at h3;rw [h3,← h1,← h2]
  ·exact absurd rfl (jM hs).2
theorem lI:∀ {ks:List LK} {u:List Value} (n:Nat),lL ks=true→cr ks u→∀p∈u.zip u,Instr.sameBits n p.1 p.2=true
 | [],[],_,_,_,p,hp=>by simp at hp
 | [],_::_,_,_,h,_,_=>h.elim
 |_::_,[],_,_,h,_,_=>h.elim
 |k::ks,a::u,n,hs,h,p,hp=>by
  rw [List.zip_cons_cons,List.mem_cons] at hp
  rcases hp with rfl|hp
  ·have h1:=h.1
   have h2:=(jM hs).2
   cases k
   ·cases a<;>simp only [LK.kz] at h1;simp [Instr.sameBits]
   ·cases a<;>simp only [LK.kz] at h1;simp [Instr.sameBits]
   ·exact absurd rfl h2
  ·exact lI n (jM hs).1 h.2 p hp
theorem me {ks:List LK} {x:Array Value} (hs:lL ks=true) (h:cr ks x.toList):Instr.sameBits 10000 (.agg x) (.agg x)=true:=by
 show Instr.sameBits (9999+1) (.agg x) (.agg x)=true
 simp only [Instr.sameBits,beq_self_eq_true,Bool.true_and,List.all_eq_true]
 exact fun p hp=>lI 9999 hs h p hp
theorem jQ {ks:List LK} :∀ {es:List (List D×D)} {l:List MapEntry},kA ks es l→∀e∈l,∃y:Array Value,e.key= .agg y∧cr ks y.toList
 | [],[],_,e,he=>by simp at he
 | [],_::_,h,_,_=>h.elim
 |(_,_)::_,[],h,_,_=>h.elim
 |(n,d)::r,e::s,h,e',he=>by
  rcases List.mem_cons.mp he with rfl|he
  ·obtain ⟨y,h1,_,h3⟩:=h.1
   exact ⟨y,h1,h3⟩
  ·exact jQ h.2.2 e' he
theorem jR {ks:List LK} {x:Array Value} {cs:List D} (hs:lL ks=true) (hx:hU cs=some x.toList) (hf:cr ks x.toList):∀ {es:List (List D×D)} {l:List MapEntry} (i:Nat),kA ks es l→
  (∃j v d e,(j5 es cs=some d∧pI es cs=j)∧gp d=some v∧kB x.toList l i=some (i+j,v)∧l[j]? =some e∧e.key= .agg x∧∀v2 d2,gp d2=some v2→kA ks (lA es cs d2) (l.modify j fun e=> { e with key:= .agg x,val:=v2 }))∨
  ((j5 es cs=none∧pI es cs=es.length)∧kB x.toList l i=none∧∀v2 d2 c,gp d2=some v2→kA ks (lA es cs d2) (l++ [⟨.agg x,v2,c⟩]))
 | [],[],i,_=> .inr ⟨⟨rfl,rfl⟩,rfl,fun v2 d2 c h=>⟨⟨x,rfl,hx,hf⟩,h,trivial⟩⟩
 | [],_::_,_,h=>h.elim
 |(_,_)::_,[],_,h=>h.elim
 |(a,d)::r,e::s,i,h=>by
  obtain ⟨⟨y,hk,hy,hfy⟩,h2,h3⟩:=h
  have heq:ab cs a=b9 x.toList y.toList:=lN hx hy
  cases hn:b9 x.toList y.toList with
  |true=>
   left
   have hxy:x=y:=Array.ext' (nS hs hf hfy hn)
   refine ⟨0,e.val,d,e,?_,h2,?_,rfl,by rw [hk,hxy],?_⟩
   ·simp [j5,pI,heq,hn]
   ·simp [kB,hk,hn]
   ·intro v2 d2 hd
    simp only [lA,heq,hn,List.modify_zero_cons]
    exact ⟨⟨x,rfl,hx,hf⟩,hd,h3⟩
  |false=>
   rcases jR hs hx hf (i+1) h3 with ⟨j,v,d',e',k1,k2,k3,k4,k5,k6⟩|⟨k1,k2,k3⟩
   ·left
    refine ⟨j+1,v,d',e',?_,k2,?_,by simpa using k4,k5,?_⟩
    ·simp [j5,pI,heq,hn,k1]
    ·simp only [kB,hk,hn]
     rw [k3,show i+1+j=i+(j+1) by omega]
    ·intro v2 d2 hd
     simp only [lA,heq,hn,List.modify_succ_cons]
     exact ⟨⟨y,hk,hy,hfy⟩,h2,k6 v2 d2 hd⟩
   ·right
    refine ⟨?_,?_,?_⟩
    ·simp [j5,pI,heq,hn,k1]
    ·simp only [kB,hk,hn,k2]
    ·intro v2 d2 c hd
     simp only [lA,heq,hn,List.cons_append]
     exact ⟨⟨y,hk,hy,hfy⟩,h2,k3 v2 d2 c hd⟩
theorem l0 {M:MM} {ks:List LK} {cs:List D} {v:Value} (h:bk M (.agg cs) v) (hf:fu ks cs=true):∃x:Array Value,v= .agg x∧hU cs=some x.toList∧cr ks x.toList:=by
 cases h with
 |agg hl hr=>
  rename_i vs
  have l1:cs.length=vs.toList.length:=by simpa using hl
  have r1:∀(i:Nat) (d:D) (v:Value),cs[i]? =some d→vs.toList[i]? =some v→bk M d v:=fun i d v a b=>hr i d v a (by simpa using b)
  exact ⟨vs,rfl,qE hf l1 r1,mF hf l1 r1⟩
section
variable {P:Program} {o:Oper} {ρ:Operand→D}
theorem iX {t kt et:TypeId} (h:gZ P t=some (kt,et)):P.underlying t=some (.map kt et):=by
 unfold gZ at h
 split at h
 ·rename_i kt' et' ht
  obtain ⟨rfl,rfl⟩:=Prod.mk.inj (Option.some.inj h)
  exact ht
 ·cases h
theorem uN {ty:TypeId} {r:Option Operand} {ks:List LK} {kt et:TypeId} (ho:o.op= .makeMap ty r) (hk:gZ P ty=some (kt,et)) (hr:∀x,r=some x→∃q n,ρ x= .int q n):
  ey P o ρ (.new (.mf ks []) fun id=> .dM id):=by
 intro w0 M own σ w a id hw hrep hpre next Q hn
 have h1:=iX hk
 have hrun:(execOp a.eval o).run P w= .ok (.value (.map (some w.heap.size))) (w.alloc (.map #[] 0)):=by
  cases r with
  |none=>simp [execOp,ho,Instr.makeMap]
  |some x=>
   obtain ⟨q,n,hx⟩:=hr x rfl
   have:=ck (hrep x (by simp [ho,Op.operands])) hx
   simp [execOp,ho,Instr.makeMap,run_underlying h1,this,asInt,asIntOf]
 have k:=hw.CO hpre.1 (o:= .mf ks []) rfl ⟨trivial,qe⟩
 exact cF hrun (hn _ _ _ _ (MM.dc hpre.1) ⟨fun j hj=>by simp [MM.aW,hj],fun _ _=>rfl⟩ k (.dM (by simp [MM.aW])))
theorem wo {ty:TypeId} {m kx v:Operand} {id:Nat} {ks:List LK} {cs:List D} {es:List (List D×D)} {kt et:TypeId} (ho:o.op= .insert ty m kx v∨o.op= .mapUpdate ty m kx v) (hk:gZ P ty=some (kt,et)) (hK:jX P kt ks)
  (hm:ρ m= .dM id) (hx:ρ kx= .agg cs) (hf:fu ks cs=true) (hv:gP (ρ v)=true):ey P o ρ (.dJ id (.mf ks es) (.mf ks (lA es cs (ρ v))) .undef):=by
 intro w0 M own σ w a i hw hr hpre next Q hn
 have t1:=iX hk
 obtain ⟨b,ents,clock,k⟩:=hw.mp id _ (by rw [(hpre:σ id=_)];rfl)
 have hops:m∈o.op.operands∧kx∈o.op.operands∧v∈o.op.operands:=by rcases ho with h|h<;>simp [h,Op.operands]
 have hmr:=hr m hops.1
 have hxr:=hr kx hops.2.1
 rw [hx] at hxr
 obtain ⟨x,ex,sx,fx⟩:=l0 hxr hf
 have hvr:=kl (hr v hops.2.2) hv
 rw [hm] at hmr
 generalize hva:a.eval m=va at hmr
 cases hmr with
 |dM hb=>
  rename_i b'
  rw [k.box] at hb
  obtain rfl:=Option.some.inj hb
  have hexec:(execOp a.eval o).run P w=((Instr.mapUpdate ty (.map (some b)) (.agg x) (a.eval v)).run P w).andThen fun _ w'=> .ok .skip w':=by
   rcases ho with h|h<;>simp [execOp,h,hva,ex]
  have hfind:=hK.find w x ents.toList fx (jQ k.fits.1)
  have hcheck:=hK.check w false x fx
  rcases jR hK.uR sx fx 0 k.fits.1 with ⟨j,v0,d0,e0,k1,k2,k3,k4,k5,k6⟩|⟨k1,k2,k3⟩
  ·have hfit:kA ks (lA es cs (ρ v)) (ents.modify j fun e=> { e with key:= .agg x,val:=a.eval v }).toList:=by
    rw [Array.toList_modify];exact k6 _ _ hvr
   have hset:=hw.jf k clock (o':= .mf ks (lA es cs (ρ v))) rfl ⟨hfit,by rw [Array.toList_modify];exact hB (fun _=>rfl) k.fits.2⟩
   refine jo (w':=aZ w b (.map (ents.modify j fun e=> { e with key:= .agg x,val:=a.eval v }) clock)) ?_ (hn undef M own _ (.refl M) ⟨rfl,fun _ _=>rfl⟩ hset (.undef _))
   rw [hexec]
   rw [k3,Nat.zero_add] at hfind
   have hej:ents[j]? =some e0:=by simpa using k4
   simp [Instr.mapUpdate,run_underlying t1,run_getObj_map w b ents clock k.cy,hcheck,hfind,hej,k5,Instr.keyThatStays,me hK.uR fx,MapKept.run_setObj_map _ k.cy,aZ]
  ·have hfit:kA ks (lA es cs (ρ v)) (ents.push ⟨.agg x,a.eval v,clock⟩).toList:=by
    rw [Array.toList_push];exact k3 _ _ _ hvr
   have hset:=hw.jf k (clock+1) (o':= .mf ks (lA es cs (ρ v))) rfl ⟨hfit,by rw [Array.toList_push];exact ja k.fits.2⟩
   refine jo (w':=aZ w b (.map (ents.push ⟨.agg x,a.eval v,clock⟩) (clock+1))) ?_ (hn undef M own _ (.refl M) ⟨rfl,fun _ _=>rfl⟩ hset (.undef _))
   rw [hexec]
   rw [k2] at hfind
   simp [Instr.mapUpdate,run_underlying t1,run_getObj_map w b ents clock k.cy,hcheck,hfind,MapKept.run_setObj_map _ k.cy,aZ]
theorem uM {ty:TypeId} {m kx:Operand} {ok:Bool} {id:Nat} {ks:List LK} {cs:List D} {es:List (List D×D)} {kt et:TypeId} {zd:D} {r:Option D} (ho:o.op= .lookup ty m kx ok) (hk:gZ P ty=some (kt,et)) (hK:jX P kt ks)
  (hz:gE P et=some zd) (hm:ρ m= .dM id) (hx:ρ kx= .agg cs) (hf:fu ks cs=true) (hl:j5 es cs=r):ey P o ρ (.read id (.mf ks es) (match ok with|true=> .aA [r.getD zd,.bool r.isSome]|false=>r.getD zd)):=by
 intro w0 M own σ w a i hw hr hpre next Q hn
 have t1:=iX hk
 obtain ⟨b,ents,clock,k⟩:=hw.mp id _ (by rw [(hpre:σ id=_)];rfl)
 have hmr:=hr m (by simp [ho,Op.operands])
 have hxr:=hr kx (by simp [ho,Op.operands])
 rw [hx] at hxr
 obtain ⟨x,ex,sx,fx⟩:=l0 hxr hf
 rw [hm] at hmr
 generalize hva:a.eval m=va at hmr
 cases hmr with
 |dM hb=>
  rename_i b'
  rw [k.box] at hb
  obtain rfl:=Option.some.inj hb
  obtain ⟨zi,zv,hzi,hzv,rfl⟩:=fC hz
  have hfind:=hK.find w x ents.toList fx (jQ k.fits.1)
  have hcheck:=fun em=>hK.check w em x fx
  have main:∃v,bk M (r.getD (fN zv)) v∧(execOp a.eval o).run P w= .ok (.value (if ok then .tuple #[v,.bool r.isSome] else v)) w:=by
   rcases jR hK.uR sx fx 0 k.fits.1 with ⟨j,v0,d0,e0,k1,k2,k3,_⟩|⟨k1,k2,_⟩
   ·rw [k1.1] at hl
    subst hl
    rw [k3] at hfind
    refine ⟨v0,kM k2,?_⟩
    simp [execOp,ho,Instr.lookup,run_underlying t1,hva,ex,run_getObj_map w b ents clock k.cy,hcheck,hfind]
   ·rw [k1.1] at hl
    subst hl
    rw [k2] at hfind
    refine ⟨zv,eX zv,?_⟩
    simp [execOp,ho,Instr.lookup,run_underlying t1,hva,ex,run_getObj_map w b ents clock k.cy,hcheck,hfind,dx hzi hzv]
  obtain ⟨v,h1,h2⟩:=main
  refine cF h2 (hn _ M own w (.refl M) ⟨rfl,rfl⟩ hw ?_)
  cases ok
  ·exact h1
  ·refine .aA rfl (fun i d u p q=> ?_)
   match i,p,q with
   |0,p,q=>simp at p q;subst p q;exact h1
   |1,p,q=>simp at p q;subst p q;exact .bool _
   |i+2,p,_=>simp at p
end
section
variable {P:Program} {o:Oper} {ρ:Operand→D}
theorem oj {M:MM} {d:D} {v:Value} {j j':Nat} (h:bk M d v) (e:j=j'):bk M (.aA [d,.int .i64 (j:Int)]) (.tuple #[v,.int .i64 (j':Int)]):=by
 subst e
 refine .aA rfl (fun i d' u p q=> ?_)
 match i,p,q with
 |0,p,q=>simp at p q;subst p q;exact h
 |1,p,q=>simp at p q;subst p q;exact .int _ _
 |i+2,p,_=>simp at p
theorem Ag {ty:TypeId} {m kx:Operand} {id:Nat} {q:IntKind} {n:Int} {es:List (Int×D)} {et:TypeId} {zd:D} {r:Option D} (ho:o.op= .mapEntry ty m kx) (hk:gY P ty=some (q,et)) (hz:gE P et=some zd) (hzs:gP zd=true)
  (hm:ρ m= .dM id) (hx:ρ kx= .int q n) (hl:j6 es n=r):ey P o ρ (match r with|some d=> .dJ id (.mp q es) (.mp q es) (.aA [d,.int .i64 (pJ es n)])|none=> .dJ id (.mp q es) (.mp q (jC es n zd)) (.aA [zd,.int .i64 (pJ es n)])):=by
 have main:∀ {w0:di} {M:MM} {own:Nat→Option Nat} {σ:Nat→Ob} {w:World} {a:Act},bj w0 M own σ w→(∀x∈o.op.operands,bk M (ρ x) (a.eval x))→σ id= .mp q es→∃d v es' w',(execOp a.eval o).run P w= .ok (.value v) w'∧
   bk M (.aA [d,.int .i64 (pJ es n)]) v∧bj w0 M own (dJ σ id (.mp q es')) w'∧((j6 es n=some d∧es'=es)∨(j6 es n=none∧d=zd∧es'=jC es n zd)):=by
  intro w0 M own σ w a hw hr hpre
  obtain ⟨kt,t1,t2⟩:=iW hk
  obtain ⟨b,ents,clock,k⟩:=hw.mp id _ (by rw [hpre];rfl)
  have hmr:=hr m (by simp [ho,Op.operands])
  have hxr:=ck (hr kx (by simp [ho,Op.operands])) hx
  rw [hm] at hmr
  generalize hva:a.eval m=va at hmr
  cases hmr with
  |dM hb=>
   rename_i b'
   rw [k.box] at hb
   obtain rfl:=Option.some.inj hb
   obtain ⟨zi,zv,hzi,hzv,rfl⟩:=fC hz
   have hexec:(execOp a.eval o).run P w=((Instr.mapEntry ty (.map (some b)) (.int q n)).run P w).andThen fun v w'=> .ok (.value v) w':=by
    simp [execOp,ho,hva,hxr]
   have hsb:Instr.sameBits 10000 (Value.int q n) (Value.int q n)=true:=by simp [Instr.sameBits]
   rcases k9 (q:=q) (n:=n) 0 k.fits.1 with ⟨j,v0,d0,e0,k1,k2,k3,k4,k5,_⟩|⟨k1,k2,k3⟩
   ·have hfk:(Instr.findKey kt (.int q n) ents.toList).run P w= .ok (some (j,v0)) w:=by
     simp [Instr.findKey,run_underlying t2,k3]
    have hej:ents[j]? =some e0:=by simpa using k4
    have hset:=hw.jf k clock (o':= .mp q es) rfl k.fits
    refine ⟨d0,_,es,_,?_,oj (kM k2) k1.2,hset,.inl ⟨k1.1,rfl⟩⟩
    rw [hexec,jt t1 k.cy (fG t2 _ _ _) hfk hej k5 hsb (k.fits.2.2 j e0 k4)]
    rfl
   ·have hfk:(Instr.findKey kt (.int q n) ents.toList).run P w= .ok none w:=by
     simp [Instr.findKey,run_underlying t2,k2]
    have hzr:=kl (eX (M:=M) zv) hzs
    have hset:=hw.jf k (clock+1) (ents':=ents.push ⟨.int q n,zv,clock⟩) (o':= .mp q (jC es n (fN zv))) rfl ⟨by rw [Array.toList_push];exact k3 _ _ _ hzr,by rw [Array.toList_push];exact ja k.fits.2⟩
    refine ⟨fN zv,_,_,_,?_,oj (eX zv) (j':=clock) (by rw [k1.2,nr k.fits.1,← k.fits.2.1]),hset,.inr ⟨k1.1,rfl,rfl⟩⟩
    rw [hexec,ju t1 k.cy (fG t2 _ _ _) hfk hzi hzv]
    rfl
 cases r with
 |none=>
  intro w0 M own σ w a i hw hr hpre next Q hn
  obtain ⟨d,v,es',w',h1,h2,h3,⟨h4,_⟩|⟨_,rfl,rfl⟩⟩:=main hw hr hpre
  ·rw [hl] at h4;cases h4
  ·exact cF h1 (hn _ M own w' (.refl M) ⟨rfl,fun _ _=>rfl⟩ h3 h2)
 |some d=>
  intro w0 M own σ w a i hw hr hpre next Q hn
  obtain ⟨d',v,es',w',h1,h2,h3,⟨h4,rfl⟩|⟨h4,_⟩⟩:=main hw hr hpre
  ·rw [hl] at h4
   obtain rfl:=Option.some.inj h4
   exact cF h1 (hn _ M own w' (.refl M) ⟨rfl,fun _ _=>rfl⟩ h3 h2)
  ·rw [hl] at h4;cases h4
theorem wu {ty:TypeId} {m kx:Operand} {id:Nat} {ks:List LK} {cs:List D} {es:List (List D×D)} {kt et:TypeId} {zd:D} {r:Option D} (ho:o.op= .mapEntry ty m kx) (hk:gZ P ty=some (kt,et)) (hK:jX P kt ks) (hz:gE P et=some zd) (hzs:gP zd=true)
  (hm:ρ m= .dM id) (hx:ρ kx= .agg cs) (hf:fu ks cs=true) (hl:j5 es cs=r):ey P o ρ (match r with|some d=> .dJ id (.mf ks es) (.mf ks es) (.aA [d,.int .i64 (pI es cs)])|none=> .dJ id (.mf ks es) (.mf ks (lA es cs zd)) (.aA [zd,.int .i64 (pI es cs)])):=by
 have main:∀ {w0:di} {M:MM} {own:Nat→Option Nat} {σ:Nat→Ob} {w:World} {a:Act},bj w0 M own σ w→(∀x∈o.op.operands,bk M (ρ x) (a.eval x))→σ id= .mf ks es→∃d v es' w',(execOp a.eval o).run P w= .ok (.value v) w'∧
   bk M (.aA [d,.int .i64 (pI es cs)]) v∧bj w0 M own (dJ σ id (.mf ks es')) w'∧((j5 es cs=some d∧es'=es)∨(j5 es cs=none∧d=zd∧es'=lA es cs zd)):=by
  intro w0 M own σ w a hw hr hpre
  have t1:=iX hk
  obtain ⟨b,ents,clock,k⟩:=hw.mp id _ (by rw [hpre];rfl)
  have hmr:=hr m (by simp [ho,Op.operands])
  have hxr:=hr kx (by simp [ho,Op.operands])
  rw [hx] at hxr
  obtain ⟨x,ex,sx,fx⟩:=l0 hxr hf
  rw [hm] at hmr
  generalize hva:a.eval m=va at hmr
  cases hmr with
  |dM hb=>
   rename_i b'
   rw [k.box] at hb
   obtain rfl:=Option.some.inj hb
   obtain ⟨zi,zv,hzi,hzv,rfl⟩:=fC hz
   have hexec:(execOp a.eval o).run P w=((Instr.mapEntry ty (.map (some b)) (.agg x)).run P w).andThen fun v w'=> .ok (.value v) w':=by
    simp [execOp,ho,hva,ex]
   have hfind:=hK.find w x ents.toList fx (jQ k.fits.1)
   have hcheck:=hK.check w false x fx
   rcases jR hK.uR sx fx 0 k.fits.1 with ⟨j,v0,d0,e0,k1,k2,k3,k4,k5,_⟩|⟨k1,k2,k3⟩
   ·rw [k3,Nat.zero_add] at hfind
    have hej:ents[j]? =some e0:=by simpa using k4
    have hset:=hw.jf k clock (o':= .mf ks es) rfl k.fits
    refine ⟨d0,_,es,_,?_,oj (kM k2) k1.2,hset,.inl ⟨k1.1,rfl⟩⟩
    rw [hexec,jt t1 k.cy hcheck hfind hej k5 (me hK.uR fx) (k.fits.2.2 j e0 k4)]
    rfl
   ·rw [k2] at hfind
    have hzr:=kl (eX (M:=M) zv) hzs
    have hset:=hw.jf k (clock+1) (ents':=ents.push ⟨.agg x,zv,clock⟩) (o':= .mf ks (lA es cs (fN zv))) rfl ⟨by rw [Array.toList_push];exact k3 _ _ _ hzr,by rw [Array.toList_push];exact ja k.fits.2⟩
    refine ⟨fN zv,_,_,_,?_,oj (eX zv) (j':=clock) (by rw [k1.2,nv k.fits.1,← k.fits.2.1]),hset,.inr ⟨k1.1,rfl,rfl⟩⟩
    rw [hexec,ju t1 k.cy hcheck hfind hzi hzv]
    rfl
 cases r with
 |none=>
  intro w0 M own σ w a i hw hr hpre next Q hn
  obtain ⟨d,v,es',w',h1,h2,h3,⟨h4,_⟩|⟨_,rfl,rfl⟩⟩:=main hw hr hpre
  ·rw [hl] at h4;cases h4
  ·exact cF h1 (hn _ M own w' (.refl M) ⟨rfl,fun _ _=>rfl⟩ h3 h2)
 |some d=>
  intro w0 M own σ w a i hw hr hpre next Q hn
  obtain ⟨d',v,es',w',h1,h2,h3,⟨h4,rfl⟩|⟨h4,_⟩⟩:=main hw hr hpre
  ·rw [hl] at h4
   obtain rfl:=Option.some.inj h4
   exact cF h1 (hn _ M own w' (.refl M) ⟨rfl,fun _ _=>rfl⟩ h3 h2)
  ·rw [hl] at h4;cases h4
theorem nI {ty:TypeId} {m kn v:Operand} {id:Nat} {q0:IntKind} {jj:Int} {ob ob':Ob} (ho:o.op= .entryStore ty m kn v) (hm:ρ m= .dM id) (hx:ρ kn= .int q0 jj) (hv:gP (ρ v)=true) (h0:0≤jj)
  (hob:(∃q es,ob= .mp q es∧ob'= .mp q (vX es jj.toNat (ρ v))∧jj.toNat<es.length)∨(∃ks es,ob= .mf ks es∧ob'= .mf ks (vX es jj.toNat (ρ v))∧jj.toNat<es.length)):ey P o ρ (.dJ id ob ob' .undef):=by
 intro w0 M own σ w a i hw hr hpre next Q hn
 have hmr:=hr m (by simp [ho,Op.operands])
 have hxr:=ck (hr kn (by simp [ho,Op.operands])) hx
 have hvr:=kl (hr v (by simp [ho,Op.operands])) hv
 rw [hm] at hmr
 obtain ⟨j,rfl⟩:∃j:Nat,jj=j:=⟨jj.toNat,by omega⟩
 have hσ:σ id=ob:=hpre
 have main:∃b ents clock,M.box id=some b∧w.heap[b]? =some (.map ents clock)∧jk ents.toList clock∧j<ents.size∧bj w0 M own (dJ σ id ob') (aZ w b (.map (ents.modify j fun e=> { e with val:=a.eval v }) clock)):=by
  rcases hob with ⟨q,es,rfl,rfl,hj⟩|⟨ks,es,rfl,rfl,hj⟩
  ·obtain ⟨b,ents,clock,k⟩:=hw.mp id _ (by rw [hσ];rfl)
   have hl:=nr k.fits.1
   refine ⟨b,ents,clock,k.box,k.cy,k.fits.2,by simp at hl hj;omega,?_⟩
   exact hw.jf k clock (ents':=ents.modify j fun e=> { e with val:=a.eval v }) rfl ⟨by rw [Array.toList_modify];exact rk _ k.fits.1 hvr,by rw [Array.toList_modify];exact hB (fun _=>rfl) k.fits.2⟩
  ·obtain ⟨b,ents,clock,k⟩:=hw.mp id _ (by rw [hσ];rfl)
   have hl:=nv k.fits.1
   refine ⟨b,ents,clock,k.box,k.cy,k.fits.2,by simp at hl hj;omega,?_⟩
   exact hw.jf k clock (ents':=ents.modify j fun e=> { e with val:=a.eval v }) rfl ⟨by rw [Array.toList_modify];exact rn _ k.fits.1 hvr,by rw [Array.toList_modify];exact hB (fun _=>rfl) k.fits.2⟩
 obtain ⟨b,ents,clock,hbox,hblk,hborn,hj,hset⟩:=main
 generalize hva:a.eval m=va at hmr
 cases hmr with
 |dM hb=>
  rename_i b'
  rw [hbox] at hb
  obtain rfl:=Option.some.inj hb
  refine jo (w':=aZ w b (.map (ents.modify j fun e=> { e with val:=a.eval v }) clock)) ?_ (hn undef M own _ (.refl M) ⟨rfl,fun _ _=>rfl⟩ hset (.undef _))
  simp [execOp,ho,hva,hxr,pb hblk hborn hj]
end
section
variable {P:Program} {o:Oper} {ρ:Operand→D}
theorem qv (z:Array Value) (n i:Nat) (v:Value) (h:(madeCells z n)[i]? =some v) (hz:0<z.size):z[i%z.size]? =some v∧i<n:=by
 unfold madeCells at h
 rw [Array.getElem?_map,Option.map_eq_some_iff] at h
 obtain ⟨j,hj,rfl⟩:=h
 rw [Array.getElem?_eq_some_iff] at hj
 obtain ⟨h1,h2⟩:=hj
 rw [Array.getElem_range] at h2
 subst h2
 rw [Array.size_range] at h1
 have hm:=Nat.mod_lt i hz
 refine ⟨?_,h1⟩
 rw [getElem!_pos z (i%z.size) hm,Array.getElem?_eq_getElem hm]
theorem vg {zc:List D} (hz:0<zc.length):∀(n i:Nat) (d:D),(List.replicate n zc).flatten[i]? =some d→zc[i%zc.length]? =some d
 |0,i,d,h=>by simp at h
 |n+1,i,d,h=>by
  rw [List.replicate_succ,List.flatten_cons,List.getElem?_append] at h
  split at h
  ·rename_i hi
   rw [Nat.mod_eq_of_lt hi];exact h
  ·rename_i hi
   have:=vg hz n _ d h
   rwa [← Nat.mod_eq_sub_mod (by omega)] at this
theorem B8 {zc:List D} (hz:0<zc.length) (n i:Nat) (d:D) (h:(uF n zc)[i]? =some d):zc[i%zc.length]? =some d:=by
 unfold uF at h
 split at h
 ·rename_i d0
  rw [List.getElem?_replicate] at h
  split at h
  ·simp only [Option.some.injEq] at h;subst h;simp [Nat.mod_one]
  ·cases h
 ·exact vg hz n i d h
theorem vf (zc:List D):∀n:Nat,((List.replicate n zc).flatten).length=n*zc.length
 |0=>by simp
 |n+1=>by rw [List.replicate_succ,List.flatten_cons,List.length_append,vf zc n,Nat.succ_mul];omega
theorem B7 (zc:List D) (n:Nat):(uF n zc).length=n*zc.length:=by
 unfold uF
 split
 ·simp
 ·exact vf zc n
theorem D3 {ty e:TypeId} {l c:Operand} {q q':IntKind} {n:Int} {zd:D} {zc:List D} (ho:o.op= .makeSlice ty l c) (ht:P.underlying ty=some (.slice e)) (hk:known P e=true) (hz:gE P e=some zd) (hzc:zd.cells=some zc)
  (hlen:zc.length=P.cellsOf e) (hpos:0<zc.length) (hby:P.bytesOf e≤65536) (hl:ρ l= .int q n) (hc:ρ c= .int q' n) (h0:0≤n) (h1:n≤2147483648):
  ey P o ρ (.new (.box (uF n.toNat zc)) fun id=> .dn id (P.cellsOf e) n.toNat):=by
 intro w0 M own σ w a id hw hr hpre next Q hn
 obtain ⟨i,v,hi,hv,rfl⟩:=fC hz
 have r1:=ck (hr l (by simp [ho,Op.operands])) hl
 have r2:=ck (hr c (by simp [ho,Op.operands])) hc
 have hb:(i.bytes:Int)≤65536:=by
  have:P.bytesOf e=i.bytes:=by simp [Program.bytesOf,hi]
  omega
 have hsz:P.cellsOf e=i.size:=by simp [Program.cellsOf,hi]
 have hmul:(i.bytes:Int)*n≤281474976710656:=by
  have:=Int.mul_le_mul hb h1 h0 (by omega:(0:Int)≤65536)
  omega
 have hrun:=run_make (P:=P) w ty e i v ht hi hv q q' n n h0 (Int.le_refl _) hmul (by omega)
 have hzr:=(eX (M:=M) v).cells hzc
 have hvs:v.cells.size=i.size:=by rw [← hzr.1,hlen,hsz]
 have hrep:bS M (uF n.toNat zc) (madeCells v.cells (n.toNat*i.size)):=by
  refine ⟨by rw [B7,size_madeCells,hlen,hsz],fun j d u p r=> ?_⟩
  obtain ⟨u1,_⟩:=qv _ _ _ _ r (by rw [hvs,← hsz,← hlen];exact hpos)
  have u2:=B8 hpos _ _ _ p
  rw [← hzr.1] at u1
  exact hzr.2 _ d u u2 u1
 have k:=hw.pt hpre.1 hpre.2 e (Nat.le_of_eq hrep.1) hrep.2
 obtain ⟨b1,vs1,ty1,kb⟩:=k.box id (uF n.toNat zc) (aO _ _ _)
 have eb:b1=w.heap.size:=by have:=kb.box;simp only [MM.aW,if_true] at this;exact (Option.some.inj this).symm
 have evs:vs1.size=n.toNat*i.size:=by
  have h1:=kb.cy
  rw [eb] at h1
  have h2:(w.alloc (.cells (madeCells v.cells (n.toNat*i.size)) e)).heap[w.heap.size]? =some (.cells (madeCells v.cells (n.toNat*i.size)) e (0,0)):=by
   show (w.heap.push _)[w.heap.size]? =_
   simp
  rw [h2] at h1
  have h3:=Option.some.inj h1
  simp only [Obj.cells.injEq] at h3
  rw [← h3.1,size_madeCells]
 have k2:=k.la (aO _ _ _) kb (sz:=P.cellsOf e) (len:=n.toNat) (cap:=n.toNat) (hpre.2 _) (by rw [evs,hsz];exact Nat.le_refl _)
 subst eb
 have le2:(M.aW id w.heap.size).Le ((M.aW id w.heap.size).aR id (P.cellsOf e) (.slice (some ⟨w.heap.size,0,none⟩) n.toNat n.toNat)):=MM.cL (hpre.2 _)
 refine cF (v:= .slice (some ⟨w.heap.size,0,none⟩) n.toNat n.toNat) (w':=w.alloc (.cells (madeCells v.cells (n.toNat*i.size)) e)) ?_ (hn _ _ _ _ ((MM.dc hpre.1).trans le2) ⟨fun j hj=>by simp [MM.aW,MM.aR,hj],fun j hj=>by funext q;simp [MM.aR,MM.aW,hj]⟩ k2 (.dn (b:=w.heap.size) (by simp [MM.aW,MM.aR]) (by simp [MM.aR]) (Nat.le_refl _)))
 simp only [execOp,ho,r1,r2,Sem.run_bind,hrun,Result.andThen_ok,Sem.run_pure]
theorem m8 {ty:TypeId} {x ix:Operand} {k:IntKind} {i:Int} {elem:TypeId} {id sz n:Nat} (ho:o.op= .indexAddr ty x ix) (hi:ρ ix= .int k i) (ht:P.underlying ty=some (.slice elem)) (hk:known P elem=true)
  (hsz:P.cellsOf elem=sz) (hb:0≤i∧i<n) (hx:ρ x= .dn id sz n):ey P o ρ (.pure (.ptr true id (i.toNat*sz))):=by
 refine br fun M w a _ hr=> ?_
 have h1:=hr x (by simp [ho,Op.operands])
 have h2:=ck (hr ix (by simp [ho,Op.operands])) hi
 rw [hx] at h1
 generalize hv:a.eval x=v at h1
 cases h1 with
 |dn hbx hhx hcap=>
  refine ⟨_,?_,.ptr true hbx⟩
  have:i<n:=hb.2
  simp [execOp,ho,Instr.indexAt,h2,asIntOf,run_underlying ht,hv,hb.1,this,ca hk,ev,hsz]
theorem m7 {ty:TypeId} {x ix:Operand} {k:IntKind} {i:Int} {elem:TypeId} {id off sz n:Nat} {cp:Option Nat} (ho:o.op= .indexAddr ty x ix) (hi:ρ ix= .int k i) (ht:P.underlying ty=some (.slice elem)) (hk:known P elem=true)
  (hsz:P.cellsOf elem=sz) (hb:0≤i∧i<n) (hx:ρ x= .sub id off sz n cp):ey P o ρ (.pure (.ptr true id (off+i.toNat*sz))):=by
 refine br fun M w a _ hr=> ?_
 have h1:=hr x (by simp [ho,Op.operands])
 have h2:=ck (hr ix (by simp [ho,Op.operands])) hi
 rw [hx] at h1
 generalize hv:a.eval x=v at h1
 cases h1 with
 |sub hbx hc hp hof=>
  obtain rfl:=hof (by omega)
  refine ⟨_,?_,.ptr true hbx⟩
  have:i<n:=hb.2
  simp [execOp,ho,Instr.indexAt,h2,asIntOf,run_underlying ht,hv,hb.1,this,ca hk,ev,hsz]
end
theorem bk.za {M:MM} {o:jW} {sz:Nat} {xs:List D} {a:Option Addr} {len cap:Nat} (h:bk M (.aj o sz xs) (.slice a len cap)) (l hh m:Nat) (h1:l≤hh) (h2:hh≤len) (h3:hh≤m) (_h4:m≤cap) (o':jW)
  (ho':o'= .no∨(o'= .tight∧m=hh)):bk M (.aj o' sz ((xs.take hh).drop l)) (.slice (if m=l then a else a.map (·.add (l*sz))) (hh - l) (m - l)):=by
 cases h with
 |aj b off vs hl hcap ha hsz hc hr hst ho=>
  have hget:∀i x,((xs.take hh).drop l)[i]? =some x→xs[l+i]? =some x∧l+i<hh:=by
   intro i x hx
   rw [List.getElem?_drop,List.getElem?_take] at hx
   split at hx
   ·exact ⟨hx,by assumption⟩
   ·cases hx
  refine .aj b (off+l*sz) (fun i j=>vs (l+i) j) (by simp;omega) (by omega) ?_ ?_ ?_ ?_ ?_ ?_
  ·intro hne
   have hlt:l<hh:=by
    rcases Nat.lt_or_ge l hh with h|h
    ·exact h
    ·exact absurd (List.drop_eq_nil_of_le (by simp;omega)) hne
   have:xs≠ []:=fun e=>by subst e;simp at hl;omega
   rw [if_neg (by omega),ha this]
   simp [ev]
  ·intro i x hx;exact hsz _ x (hget i x hx).1
  ·intro i x cs j c hx hcs hj
   have:=hc _ x cs j c (hget i x hx).1 hcs hj
   rw [Nat.add_mul] at this
   rw [show off+l*sz+i*sz+j=off+(l*sz+i*sz)+j by omega]
   exact this
  ·intro i x cs j c hx hcs hj;exact hr _ x cs j c (hget i x hx).1 hcs hj
  ·intro i x cs c hx hcs hj;exact hst _ x cs c (hget i x hx).1 hcs hj
  ·rcases ho' with rfl|⟨rfl,rfl⟩
   ·trivial
   ·rfl
section
variable {ρ':Type} {P:Program} {r:ρ'}
theorem bp {k:IntKind} {i:Int} {y:Nat} {code:BoundsCode} (h:0≤i∧i≤y) (w:World):(Instr.sliceBound (.int k i) y code).run P w= .ok i.toNat w:=by
 simp [Instr.sliceBound,asIntOf,h]
def xV:Option Int→Option Value→Prop
  |none,v=>v=none
  |some n,v=> ∃k,v=some (.int k n)
theorem vU {z:Z P} {o:jW} {sz:Nat} {xs:List D} {lo hi mx:Option Int} {K:Z P→D→Option ρ'} (h:vV z o sz xs lo hi mx K=some r):
  ∃z' d,K z' d=some r∧(z'.c→z.c∧∀(M:MM) (w:World) (t e:TypeId) (u:Value) (lv hv mv:Option Value),P.underlying t=some (.slice e)→known P e=true→P.cellsOf e=sz→bk M (.aj o sz xs) u→
   xV lo lv→xV hi hv→xV mx mv→
   ∃v,(Instr.sliceAt t u lv hv mv).run P w= .ok v w∧bk M d v):=by
 have run:∀ {w:World} {t e:TypeId} {a:Option Addr} {len cap:Nat} {lv hv mv:Option Value} {l hh m:Nat},P.underlying t=some (.slice e)→known P e=true→P.cellsOf e=sz→
   (Instr.sliceBounds true len cap lv hv mv).run P w= .ok (l,hh,m) w→(Instr.sliceAt t (.slice a len cap) lv hv mv).run P w= .ok (.slice (if m=l then a else a.map (·.add (l*sz))) (hh - l) (m - l)) w:=by
  intro w t e a len cap lv hv mv l hh m ht hk hs hb
  simp only [Instr.sliceAt,Sem.run_bind,run_underlying ht,Result.andThen_ok,Instr.slice,hb,ca hk,hs,Sem.run_pure]
 unfold vV at h
 split at h
 ·refine ⟨z,_,h,fun c=>⟨c,fun M w t e u lv hv mv ht hk hs hu e1 e2 e3=> ?_⟩⟩
  obtain rfl:=e1
  obtain rfl:=e2
  obtain rfl:=e3
  cases hu with
  |aj b off vs hl hcap ha hsz hc hr hst ho=>
   rename_i a len cap
   have hb:(Instr.sliceBounds true len cap none none none).run P w= .ok (0,len,cap) w:=by simp [Instr.sliceBounds]
   refine ⟨_,run ht hk hs hb,?_⟩
   have hrep:bk M (.aj o sz xs) (.slice a len cap):= .aj b off vs hl hcap ha hsz hc hr hst ho
   have hd:(o.aX= .no∨(o.aX= .tight∧cap=len)):=by
    cases o<;>first|exact .inl rfl|exact .inr ⟨rfl,ho⟩
   have:=hrep.za 0 len cap (by omega) (Nat.le_refl _) hcap (Nat.le_refl _) o.aX hd
   rw [List.take_of_length_le (by omega),List.drop_zero] at this
   exact this
 ·rename_i l
  obtain ⟨z',h1,h2⟩:=cM h
  refine ⟨z',_,h1,fun c=>⟨(h2 c).1,fun M w t e u lv hv mv ht hk hs hu e1 e2 e3=> ?_⟩⟩
  obtain ⟨k1,rfl⟩:=e1
  obtain rfl:=e2
  obtain rfl:=e3
  have hbd:0≤l∧l≤xs.length:=by simpa using (h2 c).2
  cases hu with
  |aj b off vs hl hcap ha hsz hc hr hst ho=>
   rename_i a len cap
   have hb:(Instr.sliceBounds true len cap (some (.int k1 l)) none none).run P w= .ok (l.toNat,len,cap) w:=by
    simp [Instr.sliceBounds,bp (show 0≤l∧l≤(len:Int) by omega)]
   refine ⟨_,run ht hk hs hb,?_⟩
   have hrep:bk M (.aj o sz xs) (.slice a len cap):= .aj b off vs hl hcap ha hsz hc hr hst ho
   have hd:(o.aX= .no∨(o.aX= .tight∧cap=len)):=by
    cases o<;>first|exact .inl rfl|exact .inr ⟨rfl,ho⟩
   have:=hrep.za l.toNat len cap (by omega) (Nat.le_refl _) hcap (Nat.le_refl _) o.aX hd
   rw [List.take_of_length_le (by omega)] at this
   exact this
 ·rename_i hh
  obtain ⟨z',h1,h2⟩:=cM h
  refine ⟨z',_,h1,fun c=>⟨(h2 c).1,fun M w t e u lv hv mv ht hk hs hu e1 e2 e3=> ?_⟩⟩
  obtain ⟨k1,rfl⟩:=e2
  obtain rfl:=e1
  obtain rfl:=e3
  have hbd:0≤hh∧hh≤xs.length:=by simpa using (h2 c).2
  cases hu with
  |aj b off vs hl hcap ha hsz hc hr hst ho=>
   rename_i a len cap
   have hb:(Instr.sliceBounds true len cap none (some (.int k1 hh)) none).run P w= .ok (0,hh.toNat,cap) w:=by
    simp [Instr.sliceBounds,bp (show 0≤hh∧hh≤(cap:Int) by omega)]
   refine ⟨_,run ht hk hs hb,?_⟩
   have hrep:bk M (.aj o sz xs) (.slice a len cap):= .aj b off vs hl hcap ha hsz hc hr hst ho
   have:=hrep.za 0 hh.toNat cap (by omega) (by omega) (by omega) (Nat.le_refl _) .no (.inl rfl)
   rw [List.drop_zero] at this
   exact this
 ·rename_i l hh
  obtain ⟨z',h1,h2⟩:=cM h
  refine ⟨z',_,h1,fun c=>⟨(h2 c).1,fun M w t e u lv hv mv ht hk hs hu e1 e2 e3=> ?_⟩⟩
  obtain ⟨k1,rfl⟩:=e1
  obtain ⟨k2,rfl⟩:=e2
  obtain rfl:=e3
  have hbd:0≤l∧l≤hh∧hh≤xs.length:=by simpa using (h2 c).2
  cases hu with
  |aj b off vs hl hcap ha hsz hc hr hst ho=>
   rename_i a len cap
   have hb:(Instr.sliceBounds true len cap (some (.int k1 l)) (some (.int k2 hh)) none).run P w= .ok (l.toNat,hh.toNat,cap) w:=by
    simp [Instr.sliceBounds,bp (show 0≤hh∧hh≤(cap:Int) by omega),bp (show 0≤l∧l≤(hh.toNat:Int) by omega)]
   refine ⟨_,run ht hk hs hb,?_⟩
   have hrep:bk M (.aj o sz xs) (.slice a len cap):= .aj b off vs hl hcap ha hsz hc hr hst ho
   exact hrep.za l.toNat hh.toNat cap (by omega) (by omega) (by omega) (Nat.le_refl _) .no (.inl rfl)
 ·rename_i hh m
  obtain ⟨z',h1,h2⟩:=cM h
  refine ⟨z',_,h1,fun c=>⟨(h2 c).1,fun M w t e u lv hv mv ht hk hs hu e1 e2 e3=> ?_⟩⟩
  obtain ⟨k1,rfl⟩:=e2
  obtain ⟨k2,rfl⟩:=e3
  obtain rfl:=e1
  have hbd:0≤hh∧hh≤xs.length∧m=hh:=by simpa using (h2 c).2
  obtain ⟨hb1,hb2,rfl⟩:=hbd
  cases hu with
  |aj b off vs hl hcap ha hsz hc hr hst ho=>
   rename_i a len cap
   have hb:(Instr.sliceBounds true len cap none (some (.int k1 m)) (some (.int k2 m))).run P w= .ok (0,m.toNat,m.toNat) w:=by
    simp [Instr.sliceBounds,bp (show 0≤m∧m≤(cap:Int) by omega),bp (show 0≤m∧m≤(m.toNat:Int) by omega)]
   refine ⟨_,run ht hk hs hb,?_⟩
   have hrep:bk M (.aj o sz xs) (.slice a len cap):= .aj b off vs hl hcap ha hsz hc hr hst ho
   have:=hrep.za 0 m.toNat m.toNat (by omega) (by omega) (by omega) (by omega) .tight (.inr ⟨rfl,rfl⟩)
   rw [List.drop_zero] at this
   exact this
 ·rename_i l hh m
  obtain ⟨z',h1,h2⟩:=cM h
  refine ⟨z',_,h1,fun c=>⟨(h2 c).1,fun M w t e u lv hv mv ht hk hs hu e1 e2 e3=> ?_⟩⟩
  obtain ⟨k1,rfl⟩:=e1
  obtain ⟨k2,rfl⟩:=e2
  obtain ⟨k3,rfl⟩:=e3
  have hbd:0≤l∧l≤hh∧hh≤xs.length∧m=hh:=by simpa using (h2 c).2
  obtain ⟨hb1,hb2,hb3,rfl⟩:=hbd
  cases hu with
  |aj b off vs hl hcap ha hsz hc hr hst ho=>
   rename_i a len cap
   have hb:(Instr.sliceBounds true len cap (some (.int k1 l)) (some (.int k2 m)) (some (.int k3 m))).run P w= .ok (l.toNat,m.toNat,m.toNat) w:=by
    simp [Instr.sliceBounds,bp (show 0≤m∧m≤(cap:Int) by omega),bp (show 0≤m∧m≤(m.toNat:Int) by omega),bp (show 0≤l∧l≤(m.toNat:Int) by omega)]
   refine ⟨_,run ht hk hs hb,?_⟩
   have hrep:bk M (.aj o sz xs) (.slice a len cap):= .aj b off vs hl hcap ha hsz hc hr hst ho
   exact hrep.za l.toNat m.toNat m.toNat (by omega) (by omega) (by omega) (by omega) .tight (.inr ⟨rfl,rfl⟩)
 ·cases h
theorem oT {z:Z P} {id off sz n:Nat} {cp:Option Nat} {lo hi mx:Option Int} {K:Z P→D→Option ρ'} (h:BN z id off sz n cp lo hi mx K=some r):
  ∃(z':Z P) (l hh:Nat) (cp':Option Nat),K z' (.sub id (off+l*sz) sz (hh - l) cp')=some r∧(z'.c→z.c∧l≤hh∧hh≤n∧∀(q:Bool) (w:World) (c:Nat) (lv hv mv:Option Value),n≤c→(∀k,cp=some k→c=k)→xV lo lv→xV hi hv→xV mx mv→
   ∃m,hh≤m∧(∀k,cp'=some k→m - l=k)∧(Instr.sliceBounds q n c lv hv mv).run P w= .ok (l,hh,m) w):=by
 unfold BN at h
 split at h
 ·refine ⟨z,0,n,cp,by simpa using h,fun c=>⟨c,Nat.zero_le _,Nat.le_refl _,fun q w c lv hv mv hc hp e1 e2 e3=> ?_⟩⟩
  obtain rfl:=e1
  obtain rfl:=e2
  obtain rfl:=e3
  exact ⟨c,hc,fun k hk=>by rw [hp k hk];rfl,by simp [Instr.sliceBounds]⟩
 ·rename_i l
  obtain ⟨z',h1,h2⟩:=cM h
  refine ⟨z',l.toNat,n,cp.map (· - l.toNat),h1,fun c=> ?_⟩
  have hb:0≤l∧l≤(n:Int):=by simpa using (h2 c).2
  refine ⟨(h2 c).1,by omega,Nat.le_refl _,fun q w c lv hv mv hc hp e1 e2 e3=> ?_⟩
  obtain ⟨k1,rfl⟩:=e1
  obtain rfl:=e2
  obtain rfl:=e3
  refine ⟨c,hc,fun k hk=> ?_,by simp [Instr.sliceBounds,bp hb]⟩
  cases cp with
  |none=>cases hk
  |some v=>rw [hp v rfl];simpa using hk
 ·rename_i hh
  obtain ⟨z',h1,h2⟩:=cM h
  refine ⟨z',0,hh.toNat,cp,by simpa using h1,fun c=> ?_⟩
  have hb:0≤hh∧hh≤(n:Int):=by simpa using (h2 c).2
  refine ⟨(h2 c).1,Nat.zero_le _,by omega,fun q w c lv hv mv hc hp e1 e2 e3=> ?_⟩
  obtain ⟨k1,rfl⟩:=e2
  obtain rfl:=e1
  obtain rfl:=e3
  exact ⟨c,by omega,fun k hk=>by rw [hp k hk];rfl,by simp [Instr.sliceBounds,bp (show 0≤hh∧hh≤(c:Int) by omega)]⟩
 ·rename_i l hh
  obtain ⟨z',h1,h2⟩:=cM h
  refine ⟨z',l.toNat,hh.toNat,cp.map (· - l.toNat),h1,fun c=> ?_⟩
  have hb:0≤l∧l≤hh∧hh≤(n:Int):=by simpa using (h2 c).2
  refine ⟨(h2 c).1,by omega,by omega,fun q w c lv hv mv hc hp e1 e2 e3=> ?_⟩
  obtain ⟨k1,rfl⟩:=e1
  obtain ⟨k2,rfl⟩:=e2
  obtain rfl:=e3
  refine ⟨c,by omega,fun k hk=> ?_,by simp [Instr.sliceBounds,bp (show 0≤hh∧hh≤(c:Int) by omega),bp (show 0≤l∧l≤(hh.toNat:Int) by omega)]⟩
  cases cp with
  |none=>cases hk
  |some v=>rw [hp v rfl];simpa using hk
 ·rename_i hh m
  obtain ⟨z',h1,h2⟩:=cM h
  refine ⟨z',0,hh.toNat,some m.toNat,by simpa using h1,fun c=> ?_⟩
  have hb:0≤hh∧hh≤m∧m≤(n:Int):=by simpa using (h2 c).2
  refine ⟨(h2 c).1,Nat.zero_le _,by omega,fun q w c lv hv mv hc hp e1 e2 e3=> ?_⟩
  obtain ⟨k1,rfl⟩:=e2
  obtain ⟨k2,rfl⟩:=e3
  obtain rfl:=e1
  exact ⟨m.toNat,by omega,fun k hk=>by simpa using hk,by simp [Instr.sliceBounds,bp (show 0≤m∧m≤(c:Int) by omega),bp (show 0≤hh∧hh≤(m.toNat:Int) by omega)]⟩
 ·rename_i l hh m
  obtain ⟨z',h1,h2⟩:=cM h
  refine ⟨z',l.toNat,hh.toNat,some (m.toNat - l.toNat),h1,fun c=> ?_⟩
  have hb:0≤l∧l≤hh∧hh≤m∧m≤(n:Int):=by simpa using (h2 c).2
  refine ⟨(h2 c).1,by omega,by omega,fun q w c lv hv mv hc hp e1 e2 e3=> ?_⟩
  obtain ⟨k1,rfl⟩:=e1
  obtain ⟨k2,rfl⟩:=e2
  obtain ⟨k3,rfl⟩:=e3
  exact ⟨m.toNat,by omega,fun k hk=>by simpa using hk,by simp [Instr.sliceBounds,bp (show 0≤m∧m≤(c:Int) by omega),bp (show 0≤hh∧hh≤(m.toNat:Int) by omega),bp (show 0≤l∧l≤(hh.toNat:Int) by omega)]⟩
 ·cases h
theorem pe {M:MM} {id off o2 sz n b l hh m:Nat} {cp':Option Nat} (hb:M.box id=some b) (hof:n≠0→o2=off) (h1:l≤hh) (h2:hh≤n) (h3:hh≤m) (hp:∀k,cp'=some k→m - l=k):
  bk M (.sub id (off+l*sz) sz (hh - l) cp') (.slice (if m=l then some ⟨b,o2,none⟩ else some ((⟨b,o2,none⟩:Addr).add (l*sz))) (hh - l) (m - l)):=by
 split
 ·exact .sub hb (by omega) hp (fun hn=>by omega)
 ·rw [ev]
  exact .sub hb (by omega) hp (fun hn=>by rw [hof (by omega)])
theorem j3 {w:World} {t e:TypeId} {a:Addr} {len cap sz:Nat} {lv hv mv:Option Value} {l hh m:Nat} (ht:P.underlying t=some (.slice e)) (hk:known P e=true) (hs:P.cellsOf e=sz) (hb:(Instr.sliceBounds true len cap lv hv mv).run P w= .ok (l,hh,m) w):
  (Instr.sliceAt t (.slice (some a) len cap) lv hv mv).run P w= .ok (.slice (if m=l then some a else some (a.add (l*sz))) (hh - l) (m - l)) w:=by
 simp only [Instr.sliceAt,Sem.run_bind,run_underlying ht,Result.andThen_ok,Instr.slice,hb,ca hk,hs,Sem.run_pure,Option.map_some]
theorem nW {w:World} {t e:TypeId} {a:Addr} {n sz:Nat} {lv hv mv:Option Value} {l hh m:Nat} (ht:P.underlying t=some (.array n e)) (hk:known P e=true) (hs:P.cellsOf e=sz) (hb:(Instr.sliceBounds false n n lv hv mv).run P w= .ok (l,hh,m) w):
  (Instr.sliceAt t (.pointer (some a)) lv hv mv).run P w= .ok (.slice (if m=l then some a else some (a.add (l*sz))) (hh - l) (m - l)) w:=by
 simp only [Instr.sliceAt,Sem.run_bind,run_underlying ht,Result.andThen_ok,Instr.sureAddr,hb,ca hk,hs,Sem.run_pure]
 split<;>rfl
theorem Eo {x:D} {K:Int→Option ρ'} (h:idx x K=some r):∃k n,x= .int k n∧K n=some r:=by
 unfold idx at h
 split at h
 ·exact ⟨_,_,rfl,h⟩
 ·cases h
theorem dH {t:List D} {o:Option Operand} {K:Option Int→Option ρ'} (h:gu t o K=some r):∃n,K n=some r∧∀(M:MM) (a:Act),(∀x,o=some x→bk M (bI t x) (a.eval x))→xV n (o.map a.eval):=by
 unfold gu at h
 split at h
 ·exact ⟨none,h,fun M a _=>rfl⟩
 ·obtain ⟨k,n,hx,hK⟩:=Eo h
  refine ⟨some n,hK,fun M a hr=>⟨k,?_⟩⟩
  have:=ck (hr _ rfl) hx
  simp [this]
theorem dR {o:Oper} {ρv:Operand→Value} {c:Call} {b:Builtin} (ho:o.op= .call c) (hc:c.callee= .builtin b) (w:World):
  (execOp ρv o).run P w=(builtin b c.argTypes o.type (c.args.map fun| .const _=>true|_=>false) (c.args.map ρv)).run P w:=by
 simp only [execOp,ho,resolve,hc,Sem.run_bind,Sem.run_pure,Result.andThen_ok,invoke]
 rfl
theorem CW {t:TypeId} {x:D} {K:D→Option ρ'} (h:Gg P t x K=some r):∃d,K d=some r∧∀(M:MM) (w:World) (u:Value) (ts:Array TypeId) (ty:TypeId) (vs:Array Value),bk M x u→ts[0]? =some t→vs[0]? =some u→∃v,(Builtin.len_ ts ty vs).run P w= .ok v w∧bk M d v:=by
 unfold Gg at h
 split at h
 ·rename_i ht
  refine ⟨_,h,fun M w u ts ty vs hu h1 h2=> ?_⟩
  cases hu
  exact ⟨.int .i64 _,by simp [Builtin.len_,h1,h2,run_underlying ht,goInt],.int _ _⟩
 ·rename_i ht
  refine ⟨_,h,fun M w u ts ty vs hu h1 h2=> ?_⟩
  exact ⟨.int .i64 _,by simp [Builtin.len_,h1,h2,run_underlying ht,goInt],.int _ _⟩
 ·rename_i ht
  refine ⟨_,h,fun M w u ts ty vs hu h1 h2=> ?_⟩
  cases hu with
  |aj b off vs' hl hcap ha hsz hc hr hst ho=>exact ⟨.int .i64 _,by simp [Builtin.len_,h1,h2,run_underlying ht,goInt];omega,.int _ _⟩
 ·rename_i ht
  refine ⟨_,h,fun M w u ts ty vs hu h1 h2=> ?_⟩
  cases hu with
  |dn hb hh hc=>exact ⟨.int .i64 _,by simp [Builtin.len_,h1,h2,run_underlying ht,goInt],.int _ _⟩
 ·rename_i ht
  refine ⟨_,h,fun M w u ts ty vs hu h1 h2=> ?_⟩
  cases hu with
  |sub hb hc hp hof=>exact ⟨.int .i64 _,by simp [Builtin.len_,h1,h2,run_underlying ht,goInt],.int _ _⟩
 ·cases h
theorem CQ {x y:D} {K:D→Option ρ'} (h:FY x y K=some r):∃d,K d=some r∧∀(M:MM) (w:World) (u v:Value) (ts:Array TypeId) (ty:TypeId) (vs:Array Value),bk M x u→bk M y v→vs.toList= [u,v]→∃q,(Builtin.min_ ts ty vs).run P w= .ok q w∧bk M d q:=by
 unfold FY at h
 split at h
 ·refine ⟨_,h,fun M w u v ts ty vs hu hv h1=> ?_⟩
  cases hu;cases hv
  exact ⟨_,by simp only [Builtin.min_,h1,List.foldlM_cons,List.foldlM_nil,Builtin.min2,pure_bind];rfl,.int _ _⟩
 ·cases h
theorem CT {x y:D} {K:D→Option ρ'} (h:F6 x y K=some r):∃d,K d=some r∧∀(M:MM) (w:World) (u v:Value) (ts:Array TypeId) (ty:TypeId) (vs:Array Value),bk M x u→bk M y v→vs.toList= [u,v]→∃q,(Builtin.max_ ts ty vs).run P w= .ok q w∧bk M d q:=by
 unfold F6 at h
 split at h
 ·refine ⟨_,h,fun M w u v ts ty vs hu hv h1=> ?_⟩
  cases hu;cases hv
  exact ⟨_,by simp only [Builtin.max_,h1,List.foldlM_cons,List.foldlM_nil,Builtin.max2,pure_bind];rfl,.int _ _⟩
 ·cases h
end
structure gj (M:MM) (sz:Nat) (xs:List D) (arr:Array Value):Prop where
  len:xs.length*sz≤arr.size
  elem:∀(i:Nat) (x:D),xs[i]? =some x→∃cs,x.cells=some cs∧cs.length=sz
  get:∀(i:Nat) (x:D) (cs:List D) (j:Nat) (c:D),xs[i]? =some x→x.cells=some cs→cs[j]? =some c→∃v,arr[i*sz+j]? =some v∧bk M.bare c v
  st:∀(i:Nat) (x:D) (cs:List D) (c:D),xs[i]? =some x→x.cells=some cs→c∈cs→storable c=true
theorem gj.mono {M M':MM} {sz:Nat} {xs:List D} {arr:Array Value} (h:gj M sz xs arr) (le:M.Le M'):gj M' sz xs arr:=
 ⟨h.len,h.elem,fun i x cs j c h1 h2 h3=>let ⟨v,a,b⟩:=h.get i x cs j c h1 h2 h3;⟨v,a,b.mono le.bare⟩,h.st⟩
def MM.lay (M:MM) (b:Nat) (arr:Array Value) (n:Nat):MM:=M.bw b fun o=>if o<n then arr[o]? else none
theorem oC {M:MM} {w wd:World} {arr:Array Value} {ty:TypeId} {n:Nat} (hw:∀b o v,M.cell b o=some v→w.cell? ⟨b,o,none⟩=some v) (hd:wd.heap=w.heap) (hb:Below w.heap.size w wd) (fz:Nat×Nat):
  Ext M w (M.lay w.heap.size arr n) (wd.alloc (.cells arr ty fz)):=by
 have hsz:wd.heap.size=w.heap.size:=by rw [hd]
 refine ⟨hb.alloc (by omega) _,?_,?_,?_⟩
 ·intro b o v h
  have:b≠w.heap.size:=fun e=>by rw [e,dg hw (Nat.le_refl _) o] at h;cases h
  simp only [MM.lay,MM.bw,this,if_false];exact h
 ·intro b o v h hlt
  simp only [MM.lay,MM.bw,show b≠w.heap.size by omega,if_false] at h;exact h
 ·intro b o v h
  by_cases e:b=w.heap.size
  ·subst e
   simp only [MM.lay,MM.bw,if_true] at h
   split at h
   ·have hh:(wd.alloc (.cells arr ty fz)).heap[w.heap.size]? =some (.cells arr ty fz):=by
     show (wd.heap.push _)[w.heap.size]? =_
     rw [← hsz];simp
    simp only [World.cell?,hh]
    exact h
   ·cases h
  ·simp only [MM.lay,MM.bw,e,if_false] at h
   have h1:=hw b o v h
   have hlt:b<w.heap.size:=World.block_lt_of_cell? w _ h1
   rw [World.cell?_alloc_lt _ _ _ (by simpa [hsz] using hlt)]
   simpa [World.cell?,hd] using h1
theorem oh {M:MM} {b:Nat} {arr:Array Value} {sz:Nat} {xs:List D} {o:jW} {cap n:Nat} (h:gj M sz xs arr) (hM:∀o,M.cell b o=none) (hcap:xs.length≤cap) (hn:xs.length*sz≤n) (ho:(M.lay b arr n).m5 o (some ⟨b,0,none⟩) xs.length cap):
  bk (M.lay b arr n) (.aj o sz xs) (.slice (some ⟨b,0,none⟩) xs.length cap):=by
 have le:M.Le (M.lay b arr n):=by
  refine ⟨fun c o v k=> ?_,fun _ _ k=>k,fun _ _ _ k=>k,fun _ k=>k⟩
  have:c≠b:=fun e=>by rw [e,hM o] at k;cases k
  simp only [MM.lay,MM.bw,this,if_false];exact k
 have hlt:∀ {i j:Nat} {x:D} {cs:List D} {c:D},xs[i]? =some x→x.cells=some cs→cs[j]? =some c→i*sz+j<xs.length*sz:=by
  intro i j x cs c h1 h2 h3
  obtain ⟨cs',e1,e2⟩:=h.elem i x h1
  rw [h2] at e1
  obtain rfl:=Option.some.inj e1
  have hj:j<sz:=by
   rcases Nat.lt_or_ge j cs.length with q|q
   ·omega
   ·simp [List.getElem?_eq_none q] at h3
  have hi:i<xs.length:=by
   rcases Nat.lt_or_ge i xs.length with q|q
   ·exact q
   ·simp [List.getElem?_eq_none q] at h1
  have:(i+1)*sz≤xs.length*sz:=Nat.mul_le_mul_right _ hi
  rw [Nat.add_mul] at this
  omega
 refine .aj b 0 (fun i j=>(arr[i*sz+j]?).getD .nilFunc) rfl hcap (fun _=>rfl) h.elem ?_ ?_ h.st ho
 ·intro i x cs j c h1 h2 h3
  obtain ⟨v,hv,_⟩:=h.get i x cs j c h1 h2 h3
  have:=hlt h1 h2 h3
  simp only [MM.lay,MM.bw,if_true,Nat.zero_add,hv,Option.getD_some]
  rw [if_pos (by omega)]
 ·intro i x cs j c h1 h2 h3
  obtain ⟨v,hv,hr⟩:=h.get i x cs j c h1 h2 h3
  simp only [hv,Option.getD_some]
  exact hr.mono le.bare
theorem po {ρ':Type} {r:ρ'} {x:D} {k:D→Option ρ'} (h:sE x k=some r):∃y,k y=some r∧(∀(M:MM) (v:Value),bk M x v→bk M.bare y v)∧y.plain=true:=by
 unfold sE at h
 split at h
 ·rename_i hp
  exact ⟨x,h,fun M v hr=>hr.Ef hp,hp⟩
 ·obtain ⟨hc,hk⟩:=aY h
  exact ⟨_,hk,fun M v hr=>hr.oJ hc,mG hc⟩
theorem wi {ρ':Type} {r:ρ'} {x:D} {k:D→Option ρ'} (h:wj x k=some r):∃y,k y=some r∧∀(M:MM) (v:Value),bk M x v→bk M.bare y v:=by
 unfold wj at h
 split at h
 ·rename_i q id off
  refine ⟨_,h,fun M v hr=> ?_⟩
  cases hr with
  |ptr _ hb=>
   rename_i b
   have:=bk.dN (M:=M.bare) false (x:= .agg []) (cs:= []) (off:=off) (b:=b) (base:=0) (fun _=> .nilFunc) rfl (fun j c hj=>by simp at hj) (fun j c hj=>by simp at hj)
   rw [Nat.zero_add] at this
   exact this
 ·refine ⟨_,h,fun M v hr=> ?_⟩
  cases hr with
  |dN _ vs hx hc hr=>exact .dN _ vs hx hc hr
 ·obtain ⟨y,hy,hr,_⟩:=po h
  exact ⟨y,hy,hr⟩
theorem nG {ρ':Type} {r:ρ'} :∀ {l:List D} {k:List D→Option ρ'},oo l k=some r→∃l',k l'=some r∧∀(M:MM) (vs:Array Value),bS M l vs→bS M.bare l' vs
 | [],k,h=>⟨[],h,fun M vs hr=>⟨hr.1,fun i d v a=>by simp at a⟩⟩
 |x::l,k,h=>by
  unfold oo at h
  obtain ⟨y,hy,hr⟩:=wi h
  obtain ⟨l',hk,hl⟩:=nG hy
  refine ⟨y::l',hk,fun M vs hv=> ?_⟩
  have hs:vs.size=l.length+1:=by have:=hv.1;simp at this;omega
  have htail:bS M l (vs.extract 1 vs.size):=by
   refine ⟨by simp;omega,fun i d v a b=> ?_⟩
   rw [Array.getElem?_extract] at b
   split at b
   ·exact hv.2 (i+1) d v (by simpa using a) (by rw [Nat.add_comm];exact b)
   ·cases b
  have h2:=hl M _ htail
  refine ⟨by have:=h2.1;simp at this ⊢;omega,fun i d v a b=> ?_⟩
  cases i with
  |zero=>simp at a;subst a;exact hr M v (hv.2 0 x v rfl b)
  |succ i=>
   refine h2.2 i d v (by simpa using a) ?_
   rw [Array.getElem?_extract]
   have:i+1<vs.size:=by
    rcases Nat.lt_or_ge (i+1) vs.size with q|q
    ·exact q
    ·simp [Array.getElem?_eq_none q] at b
   rw [if_pos (by omega),Nat.add_comm]
   exact b
theorem mX {sz i j n:Nat} (hi:i<n) (hj:j<sz):i*sz+j<n*sz:=by
 have:(i+1)*sz≤n*sz:=Nat.mul_le_mul_right _ hi
 rw [Nat.add_mul] at this
 omega
theorem FE {sz i i' j j':Nat} (hj:j<sz) (hj':j'<sz) (h:i≠i'):i*sz+j≠i'*sz+j':=by
 intro e
 rcases Nat.lt_or_gt_of_ne h with q|q
 ·have:=mX q hj;omega
 ·have:=mX q hj';omega
theorem oi {n i:Nat} {a x:D} (h:(List.replicate n a)[i]? =some x):i<n∧a=x:=by
 rw [List.getElem?_replicate] at h
 split at h
 ·exact ⟨by assumption,Option.some.inj h⟩
 ·cases h
section
variable {ρ':Type} {P:Program} {r:ρ'}
theorem md {size:Nat} :∀ {parts:List (Nat×D)} {xs:List D} {k:List D→Option ρ'},kj size xs parts k=some r→
  ∃xs',k xs'=some r∧xs'.length=xs.length∧∀(M:MM) (vparts:List (Nat×Value)) (arr:Array Value),Fc M parts vparts→gj M size xs arr→
   ∃arr',Instr.fill (fun i=>some (i*size,size)) arr vparts=some arr'∧gj M size xs' arr'∧arr'.size=arr.size
 | [],xs,k,h=>⟨xs,h,rfl,fun M vparts arr hp hr=>by
   cases vparts with
   |nil=>exact ⟨arr,rfl,hr,rfl⟩
   |cons _ _=>exact hp.elim⟩
 |(i,d)::rest,xs,k,h=>by
  unfold kj at h
  obtain ⟨y,hy,hrep,_⟩:=po h
  split at hy
  ·rename_i vc hvc
   obtain ⟨h1,h2⟩:=aY hy
   rw [Bool.and_eq_true,Bool.and_eq_true,Nat.beq_eq,List.all_eq_true] at h1
   obtain ⟨⟨hsz,hlt⟩,hst⟩:=h1
   have hlt:i<xs.length:=Nat.lt_of_succ_le (by simpa [Nat.blt,Nat.ble_eq] using hlt)
   obtain ⟨xs',hk,hl,hall⟩:=md h2
   refine ⟨xs',hk,by simpa using hl,fun M vparts arr hp hr=> ?_⟩
   cases vparts with
   |nil=>exact hp.elim
   |cons p s=>
    obtain ⟨j,u⟩:=p
    obtain ⟨rfl,hd,hp⟩:=hp
    have hcells:=(hrep M u hd).cells hvc
    have hus:u.cells.size=size:=by rw [← hcells.1];exact hsz
    have hbound:i*size+size≤xs.length*size:=by
     have:(i+1)*size≤xs.length*size:=Nat.mul_le_mul_right _ hlt
     rwa [Nat.add_mul,Nat.one_mul] at this
    have hroom:i*size+u.cells.toList.length≤arr.size:=by rw [Array.length_toList,hus];exact Nat.le_trans hbound hr.len
    have hrow:gj M size (xs.set i y) (cG arr (i*size) u.cells.toList):=by
     refine ⟨by rw [cQ,List.length_set];exact hr.len,?_,?_,?_⟩
     ·intro k x hx
      by_cases e:i=k
      ·subst e
       rw [List.getElem?_set_self (by simpa using hlt)] at hx
       obtain rfl:=Option.some.inj hx
       exact ⟨vc,hvc,hsz⟩
      ·rw [List.getElem?_set_ne e] at hx
       exact hr.elem k x hx
     ·intro k x cs j c hx hcs hj
      rw [eQ _ _ _ _ hroom]
      rw [Array.length_toList,hus]
      by_cases e:i=k
      ·subst e
       rw [List.getElem?_set_self (by simpa using hlt)] at hx
       obtain rfl:=Option.some.inj hx
       rw [hvc] at hcs
       obtain rfl:=Option.some.inj hcs
       obtain ⟨v,hv,hrv⟩:=hcells.get hj
       have hjl:j<size:=by
        rcases Nat.lt_or_ge j vc.length with q|q
        ·omega
        ·simp [List.getElem?_eq_none q] at hj
       rw [if_pos ⟨by omega,by omega⟩,show i*size+j - i*size=j by omega]
       exact ⟨v,by simpa using hv,hrv⟩
      ·rw [List.getElem?_set_ne e] at hx
       obtain ⟨cs',q1,q2⟩:=hr.elem k x hx
       rw [hcs] at q1
       obtain rfl:=Option.some.inj q1
       have hjl:j<size:=by
        rcases Nat.lt_or_ge j cs.length with q|q
        ·omega
        ·simp [List.getElem?_eq_none q] at hj
       rw [if_neg]
       ·exact hr.get k x cs j c hx hcs hj
       ·intro hh
        obtain ⟨m,hm⟩:∃m,k*size+j=i*size+m:=⟨k*size+j - i*size,by omega⟩
        exact FE hjl (show m<size by omega) (Ne.symm e) hm
     ·intro k x cs c hx hcs hc
      by_cases e:i=k
      ·subst e
       rw [List.getElem?_set_self (by simpa using hlt)] at hx
       obtain rfl:=Option.some.inj hx
       rw [hvc] at hcs
       obtain rfl:=Option.some.inj hcs
       exact hst c hc
      ·rw [List.getElem?_set_ne e] at hx
       exact hr.st k x cs c hx hcs hc
    obtain ⟨arr',f1,f2,f3⟩:=hall M s _ hp hrow
    refine ⟨arr',?_,f2,by rw [f3,cQ]⟩
    have e2:¬(i*size+size>arr.size):=by have:=hr.len;omega
    rw [Instr.fill]
    simp only [hus,ne_eq,not_true_eq_false,decide_false,Bool.false_or,e2,Bool.false_eq_true,if_false,pP]
    exact f1
  ·cases hy
end
section
variable {P:Program} {o:Oper} {ρ:Operand→D}
theorem xX {M:MM} {d:D} {zc:List D} {v:Value} (hc:d.cells=some zc) (hd:bk M.bare d v) (hst:∀c∈zc,storable c=true) (len:Nat):
  gj M zc.length (List.replicate len d) ((Array.range (len*zc.length)).map (v.cells[· %v.cells.size]!)):=by
 have hcells:=hd.cells hc
 refine ⟨by simp,?_,?_,?_⟩
 ·intro i x hx
  obtain ⟨_,rfl⟩:=oi hx
  exact ⟨zc,hc,rfl⟩
 ·intro i x cs j c hx hcs hj
  obtain ⟨hi,rfl⟩:=oi hx
  rw [hc] at hcs
  obtain rfl:=Option.some.inj hcs
  obtain ⟨u,hu,hru⟩:=hcells.get hj
  have hjl:j<zc.length:=by
   rcases Nat.lt_or_ge j zc.length with q|q
   ·exact q
   ·simp [List.getElem?_eq_none q] at hj
  refine ⟨u,?_,hru⟩
  have:=mX hi hjl
  simp only [Array.getElem?_map,Array.getElem?_range,this,if_true,Option.map_some,Option.some.injEq]
  rw [← hcells.1,Nat.add_comm,Nat.add_mul_mod_self_right,Nat.mod_eq_of_lt hjl]
  have hjs:j<v.cells.size:=by rw [← hcells.1];exact hjl
  rw [getElem!_pos v.cells j hjs]
  rw [getElem?_pos v.cells j hjs] at hu
  exact Option.some.inj hu
 ·intro i x cs c hx hcs hcc
  obtain ⟨_,rfl⟩:=oi hx
  rw [hc] at hcs
  obtain rfl:=Option.some.inj hcs
  exact hst c hcc
theorem qt {ρ':Type} {r:ρ'} {ty:TypeId} {len:Nat} {parts:Array (Nat×Operand)} {e:TypeId} {d:D} {zc:List D} {k:List D→Option ρ'} (ho:o.op= .buildSlice ty len parts) (ht:P.underlying ty=some (.slice e)) (hz:gE P e=some d) (hc:d.cells=some zc)
  (hk:known P e=true) (hsz:zc.length=P.cellsOf e) (hbig:len*P.cellsOf e≤16777216) (hst:∀c∈zc,storable c=true)
  (h:kj (P.cellsOf e) (List.replicate len d) (parts.toList.map fun p=>(p.1,ρ p.2)) k=some r):
  ∃xs,k xs=some r∧ey P o ρ (.pure (.aj .tight (P.cellsOf e) xs)):=by
 obtain ⟨xs,h1,h2,h3⟩:=md h
 refine ⟨xs,h1,uJ fun M w a hw hr=> ?_⟩
 have hparts:=uB (M:=M) (ρ:=ρ) (a:=a) parts.toList (fun p hp=>hr p.2 (by
  simp only [ho,Op.operands]
  exact List.mem_toArray.2 (List.mem_map.2 ⟨p,hp,rfl⟩)))
 have htl:(parts.map fun (i,x)=>(i,a.eval x)).toList=parts.toList.map fun p=>(p.1,a.eval p.2):=by simp
 obtain ⟨i,v,hi,hv,rfl⟩:=fC hz
 have hlen:xs.length=len:=by rw [h2];simp
 obtain ⟨arr0,hr0,hs0,hrun0⟩:∃arr0:Array Value,gj M (P.cellsOf e) (List.replicate len (fN v)) arr0∧arr0.size=len*P.cellsOf e∧
   (if len*P.cellsOf e=0 then pure #[] else do pure (← zeroValue e).cells:Sem (Array Value)).run P w= .ok (if len*P.cellsOf e=0 then #[] else v.cells) w∧
   ((Array.range (len*P.cellsOf e)).map ((if len*P.cellsOf e=0 then #[] else v.cells)[· %(if len*P.cellsOf e=0 then #[] else v.cells).size]!))=arr0:=by
  by_cases hz0:len*P.cellsOf e=0
  ·refine ⟨#[],?_,by simp [hz0],by simp [hz0],by simp [hz0]⟩
   rcases Nat.eq_zero_or_pos len with e1|e1
   ·subst e1
    exact ⟨by simp,fun i x hx=>by simp at hx,fun i x cs j c hx=>by simp at hx,fun i x cs c hx=>by simp at hx⟩
   ·have e2:P.cellsOf e=0:=by
     rcases Nat.mul_eq_zero.1 hz0 with q|q
     ·omega
     ·exact q
    have e3:zc= []:=List.eq_nil_of_length_eq_zero (by omega)
    subst e3
    refine ⟨by simp [e2],fun i x hx=> ?_,fun i x cs j c hx hcs hj=> ?_,fun i x cs c hx hcs hcc=> ?_⟩<;>obtain ⟨_,rfl⟩:=oi hx
    ·exact ⟨[],hc,by simp [e2]⟩
    ·rw [hc] at hcs;obtain rfl:=Option.some.inj hcs;simp at hj
    ·rw [hc] at hcs;obtain rfl:=Option.some.inj hcs;simp at hcc
  ·refine ⟨_,?_,?_,by simp [hz0,dx hi hv],rfl⟩
   ·rw [if_neg hz0,← hsz]
    exact xX hc (eX v) hst len
   ·simp
 obtain ⟨arr,hf,hrow,hsa⟩:=h3 M _ _ hparts hr0
 have hx:=oC (M:=M) (w:=w) (wd:=w) (arr:=arr) (ty:=e) (n:=arr.size) hw rfl (Below.refl _ _) (0,0)
 have hl:=oh (b:=w.heap.size) (o:= .tight) (cap:=xs.length) (n:=arr.size) hrow (dg hw (Nat.le_refl _)) (Nat.le_refl _) hrow.len rfl
 refine ⟨_,_,_,?_,hx,rfl,rfl,rfl,hl⟩
 simp only [execOp,ho,Instr.buildSlice,Sem.run_bind,run_underlying ht,Result.andThen_ok,ca hk]
 rw [if_neg (by omega)]
 have hend:(newRow e arr).run P w= .ok ⟨w.heap.size,0,none⟩ (w.alloc (.cells arr e)):=by simp [newRow]
 by_cases hz0:len*P.cellsOf e=0
 ·have h5:=hrun0.2
  rw [hz0] at h5
  simp only [hz0,if_true,Sem.run_bind,Sem.run_pure,Result.andThen_ok,htl]
  simp only [if_true] at h5
  rw [h5,hf]
  simp only [Sem.run_bind,hend,Result.andThen_ok,Sem.run_pure,hlen]
 ·have h5:=hrun0.2
  simp only [hz0,if_false] at h5
  simp only [hz0,if_false,Sem.run_bind,dx hi hv,Sem.run_pure,Result.andThen_ok,htl,h5]
  rw [hf]
  simp only [Sem.run_bind,hend,Result.andThen_ok,Sem.run_pure,hlen]
theorem ij {M:MM} {ow:jW} {sz size:Nat} {xs:List D} {a:Option Addr} {len cap:Nat} (h:bk M (.aj ow sz xs) (.slice a len cap)) (hs:sz=size∨xs= []) {w:World} (hw:∀b o v,M.cell b o=some v→w.cell? ⟨b,o,none⟩=some v):
  ∃arr:Array Value,arr.size=xs.length*size∧gj M size xs arr∧(∀wd:World,(∀a,wd.cell? a=w.cell? a)→(Builtin.firstCells size len (.slice a len cap)).run P wd= .ok arr wd)∧∀v∈arr.toList,v.oneCell'=true:=by
 cases h with
 |aj b off vs hl hcap ha hsz hc hr hst ho=>
  by_cases hne:xs= []
  ·subst hne
   have hlen:len=0:=by simpa using hl.symm
   subst hlen
   refine ⟨#[],by simp,⟨by simp,fun i x hx=>by simp at hx,fun i x cs j c hx=>by simp at hx,fun i x cs c hx=>by simp at hx⟩,fun wd _=> ?_,by simp⟩
   cases a with
   |none=>rfl
   |some ad=>simp [Builtin.firstCells,loadCells,loadCellsFrom]
  ·obtain rfl:sz=size:=hs.resolve_right hne
   obtain rfl:=ha hne
   let arr:Array Value:=((List.range (xs.length*sz)).map fun k=>vs (k / sz) (k%sz)).toArray
   have hpos:∀ {k:Nat},k<xs.length*sz→0<sz:=fun {k} hk=>by
    rcases Nat.eq_zero_or_pos sz with q|q
    ·rw [q] at hk;omega
    ·exact q
   have hdiv:∀ {k:Nat},k<xs.length*sz→k / sz<xs.length∧k%sz<sz∧k / sz*sz+k%sz=k:=fun {k} hk=>by
    have hp:=hpos hk
    refine ⟨(Nat.div_lt_iff_lt_mul hp).2 hk,Nat.mod_lt _ hp,?_⟩
    rw [Nat.mul_comm];exact Nat.div_add_mod k sz
   have hat:∀ {k:Nat},k<xs.length*sz→∃x cs c,xs[k / sz]? =some x∧x.cells=some cs∧cs[k%sz]? =some c:=fun {k} hk=>by
    obtain ⟨h1,h2,h3⟩:=hdiv hk
    have hx:xs[k / sz]? =some xs[k / sz]:=by simp [h1]
    obtain ⟨cs,hcs,hlen⟩:=hsz _ _ hx
    exact ⟨_,cs,cs[k%sz]'(by omega),hx,hcs,by simp [show k%sz<cs.length by omega]⟩
   have hget:∀ {k:Nat} {v:Value},arr[k]? =some v→k<xs.length*sz∧v=vs (k / sz) (k%sz):=fun {k v} hk=>by
    simp only [arr,List.getElem?_toArray,List.getElem?_map,Option.map_eq_some_iff] at hk
    obtain ⟨x,hx,rfl⟩:=hk
    have hlt:k<xs.length*sz:=by
     rcases Nat.lt_or_ge k (xs.length*sz) with q|q
     ·exact q
     ·rw [List.getElem?_eq_none (by simpa using q)] at hx;cases hx
    rw [List.getElem?_range hlt] at hx
    cases hx
    exact ⟨hlt,rfl⟩
   have hsize:arr.size=xs.length*sz:=by simp [arr]
   refine ⟨arr,hsize,⟨by rw [hsize];exact Nat.le_refl _,hsz,?_,hst⟩,?_,?_⟩
   ·intro i x cs j c hx hcs hj
    obtain ⟨cs',q1,q2⟩:=hsz i x hx
    rw [hcs] at q1
    obtain rfl:=Option.some.inj q1
    have hjl:j<sz:=by
     rcases Nat.lt_or_ge j cs.length with q|q
     ·omega
     ·simp [List.getElem?_eq_none q] at hj
    have hil:i<xs.length:=by
     rcases Nat.lt_or_ge i xs.length with q|q
     ·exact q
     ·simp [List.getElem?_eq_none q] at hx
    have hk:=mX hil hjl
    refine ⟨vs i j,?_,hr i x cs j c hx hcs hj⟩
    simp only [arr,List.getElem?_toArray,List.getElem?_map,List.getElem?_range hk,Option.map_some,Option.some.injEq]
    have e1:(i*sz+j) / sz=i:=by
     rw [Nat.add_comm,Nat.add_mul_div_right _ _ (hpos hk),Nat.div_eq_of_lt hjl,Nat.zero_add]
    have e2:(i*sz+j)%sz=j:=by
     rw [Nat.add_comm,Nat.add_mul_mod_self_right,Nat.mod_eq_of_lt hjl]
    rw [e1,e2]
   ·intro wd hwd
    have:=gq (P:=P) (w:=wd) b off arr (fun k v hk=>by
     rw [hwd]
     obtain ⟨hlt,rfl⟩:=hget hk
     obtain ⟨x,cs,c,q1,q2,q3⟩:=hat hlt
     obtain ⟨d1,d2,d3⟩:=hdiv hlt
     have:=hw _ _ _ (hc _ x cs _ c q1 q2 q3)
     rw [Nat.add_assoc,d3] at this
     exact this)
    simp only [Builtin.firstCells]
    rw [hsize,hl] at this
    exact this
   ·intro v hv
    obtain ⟨k,hk⟩:=List.mem_iff_getElem?.1 hv
    rw [Array.getElem?_toList] at hk
    obtain ⟨hlt,rfl⟩:=hget hk
    obtain ⟨x,cs,c,q1,q2,q3⟩:=hat hlt
    exact mc (hr _ x cs _ c q1 q2 q3) (hst _ x cs c q1 q2 (List.mem_of_getElem? q3))
theorem gj.append {M:MM} {size:Nat} {xs ys:List D} {a1 a2:Array Value} (h1:gj M size xs a1) (h2:gj M size ys a2) (hs:a1.size=xs.length*size) (rest:Array Value):gj M size (xs++ys) (a1++a2++rest):=by
 have hcase:∀ {i:Nat} {x:D},(xs++ys)[i]? =some x→(i<xs.length∧xs[i]? =some x)∨(xs.length≤i∧ys[i - xs.length]? =some x):=by
  intro i x hx
  rw [List.getElem?_append] at hx
  split at hx
  ·exact .inl ⟨by assumption,hx⟩
  ·exact .inr ⟨by omega,hx⟩
 refine ⟨?_,?_,?_,?_⟩
 ·have:=h2.len
  simp only [List.length_append,Array.size_append,Nat.add_mul,hs]
  omega
 ·intro i x hx
  rcases hcase hx with ⟨_,h⟩|⟨_,h⟩
  ·exact h1.elem i x h
  ·exact h2.elem _ x h
 ·intro i x cs j c hx hcs hj
  rcases hcase hx with ⟨_,h⟩|⟨hge,h⟩
  ·obtain ⟨v,hv,hr⟩:=h1.get i x cs j c h hcs hj
   refine ⟨v,?_,hr⟩
   have hlt:i*size+j<a1.size:=by
    rcases Nat.lt_or_ge (i*size+j) a1.size with q|q
    ·exact q
    ·simp [Array.getElem?_eq_none q] at hv
   rw [Array.append_assoc,Array.getElem?_append_left hlt]
   exact hv
  ·obtain ⟨v,hv,hr⟩:=h2.get _ x cs j c h hcs hj
   refine ⟨v,?_,hr⟩
   have hlt:(i - xs.length)*size+j<a2.size:=by
    rcases Nat.lt_or_ge ((i - xs.length)*size+j) a2.size with q|q
    ·exact q
    ·simp [Array.getElem?_eq_none q] at hv
   have e:i*size+j=a1.size+((i - xs.length)*size+j):=by
    rw [hs,← Nat.add_assoc,← Nat.add_mul];congr 2;omega
   rw [e,Array.append_assoc,Array.getElem?_append_right (by omega),show a1.size+((i - xs.length)*size+j) - a1.size=(i - xs.length)*size+j by omega,Array.getElem?_append_left hlt]
   exact hv
 ·intro i x cs c hx hcs hc
  rcases hcase hx with ⟨_,h⟩|⟨_,h⟩
  ·exact h1.st i x cs c h hcs hc
  ·exact h2.st _ x cs c h hcs hc
theorem gL {st xt ety rty:TypeId} {e2:TypeId} {ts:Array TypeId} {args:Array Value} {i:TypeInfo} {z:Value} (ht:P.underlying st=some (.slice ety)) (hx:P.underlying xt=some (.slice e2)) (h0:ts[0]? =some st) (h1:ts[1]? =some xt)
  (hi:P.info? ety=some i) (hz:i.zero=some z) {a a':Option Addr} {len cap len' cap':Nat} {w:World} {iz new:Array Value} (g0:args[0]? =some (.slice a len cap)) (g1:args[1]? =some (.slice a' len' cap'))
  (hold:(Builtin.firstCells i.size len (.slice a len cap)).run P w.drew= .ok iz w.drew) (hnew:(Builtin.firstCells i.size len' (.slice a' len' cap')).run P w= .ok new w) (hnew':(Builtin.firstCells i.size len' (.slice a' len' cap')).run P w.drew= .ok new w.drew)
  (hb:i.bytes≤65536) (hn:len+len'≤2147483648):
  (len+len'≤cap→(Builtin.append_ ts rty args).run P w=(do (match a with|some ad=>storeCells (ad.add (len*i.size)) new.toList|none=>pure ());pure (.slice a (len+len') cap):Sem Value).run P w)∧
  (cap<len+len'→∃nc,len+len'≤nc∧(Builtin.append_ ts rty args).run P w= .ok (.slice (some ⟨w.heap.size,0,none⟩) (len+len') nc) (w.drew.alloc (.cells (iz++new++Builtin.zeroCells z.cells (nc - (len+len'))) ety))):=by
 constructor
 ·intro hcap
  cases a<;>simp [Builtin.append_,h0,h1,g0,g1,run_underlying ht,run_underlying hx,sizeOf,typeInfo,hi,Builtin.lenOf,hcap,hnew]
 ·intro hcap
  have hbytes:(len+len')*i.bytes≤140737488355328:=by
   have:=Nat.mul_le_mul hn hb
   omega
  have hg:=growslice_fits hcap hbytes
  refine ⟨grownCap w (len+len') cap ety,grownCap_ge w _ _ _,?_⟩
  have e1:¬(len+len'≤cap):=by omega
  have e2:¬(9223372036854775807<(len:Int)+(len':Int)∧i.bytes=0):=by omega
  have e3:¬(Builtin.nextslicecap (len+len') cap*i.bytes>2^48):=by omega
  have e4:(Question.appendCap (len+len') cap ety).forced=false:=rfl
  have e5:∀x:Array Value,(newRow ety x).run P w.drew= .ok ⟨w.heap.size,0,none⟩ (w.drew.alloc (.cells x ety)):=fun x=>by first|(simp [newRow];done)|(simp [newRow];rfl)
  simp [Builtin.append_,h0,h1,g0,g1,run_underlying ht,run_underlying hx,sizeOf,typeInfo,hi,Builtin.lenOf,e1,e3,e2,e4,hold,hnew',dx hi hz,e5]
  exact ⟨rfl,rfl⟩
theorem gg {t:TypeId} (h:eU P t=true):∃i z,P.info? t=some i∧i.zero=some z∧z.cells.size=i.size∧P.cellsOf t=i.size:=by
 unfold eU at h
 split at h
 ·rename_i i hi
  split at h
  ·rename_i z hz
   exact ⟨i,z,hi,hz,by simpa using h,by simp [Program.cellsOf,hi]⟩
  ·cases h
 ·cases h
theorem hI {sz size:Nat} {xs:List D} (h:nZ sz xs size=true):sz=size∨xs= []:=by
 unfold nZ at h
 rw [Bool.or_eq_true,Nat.beq_eq,List.isEmpty_iff] at h
 exact h
theorem vP {w:World} {M:MM} (hcl:∀b o v,M.cell b o=some v→w.cell? ⟨b,o,none⟩=some v) {st xt ety rty e2:TypeId} {ts:Array TypeId} {args:Array Value} (ht:P.underlying st=some (.slice ety)) (hx:P.underlying xt=some (.slice e2)) (h0:ts[0]? =some st) (h1:ts[1]? =some xt)
  (hz:eU P ety=true) (hbytes:P.bytesOf ety≤65536) {ow ow':jW} {sz sz':Nat} {xs:List D} {u u':Value} (g0:args[0]? =some u) (g1:args[1]? =some u') (hu:bk M (.aj ow sz xs) u) (hu':bk M (.aj ow' sz' []) u')
  (hsz:sz=P.cellsOf ety∨xs= []) (hn:xs.length≤dZ):(Builtin.append_ ts rty args).run P w= .ok u w:=by
 obtain ⟨i,z,hi,hiz,hzs,hcells⟩:=gg hz
 have hbytes':i.bytes≤65536:=by simpa [Program.bytesOf,hi] using hbytes
 cases hu with
 |aj b off vs hl hcap ha hsize hc hr hst ho=>
  rename_i a len cap
  have hrep:bk M (.aj ow sz xs) (.slice a len cap):= .aj b off vs hl hcap ha hsize hc hr hst ho
  cases hu' with
  |aj b' off' vs' hl' hcap' ha' hsize' hc' hr' hst' ho'=>
   rename_i a' len' cap'
   have hrep':bk M (.aj ow' sz' []) (.slice a' len' cap'):= .aj b' off' vs' hl' hcap' ha' hsize' hc' hr' hst' ho'
   rw [hcells] at hsz
   obtain ⟨iz,os,orow,orun,_⟩:=ij (P:=P) hrep hsz hcl
   obtain ⟨new,ns,nrow,nrun,none1⟩:=ij (P:=P) hrep' (Or.inr rfl:sz'=i.size∨([]:List D)= []) hcl
   have hl0:len'=0:=by simpa using hl'.symm
   subst hl0
   have hbig:len+0≤2147483648:=by rw [← hl];exact hn
   obtain ⟨r1,_⟩:=gL (P:=P) (rty:=rty) ht hx h0 h1 hi hiz g0 g1 (orun w.drew fun _=>rfl) (nrun w fun _=>rfl) (nrun w.drew fun _=>rfl) hbytes' hbig
   have hnew0:new= #[]:=by
    apply Array.eq_empty_of_size_eq_zero;rw [ns];simp
   subst hnew0
   rw [r1 (by omega)]
   cases a<;>simp [storeCells]
theorem qg {w0:di} {w:World} {M:MM} {own:Nat→Option Nat} {σ:Nat→Ob} (hw:bj w0 M own σ w) {st xt ety rty e2:TypeId} {ts:Array TypeId} {args:Array Value} (ht:P.underlying st=some (.slice ety)) (hx:P.underlying xt=some (.slice e2)) (h0:ts[0]? =some st) (h1:ts[1]? =some xt)
  (hz:eU P ety=true) (hbytes:P.bytesOf ety≤65536) {ow:jW} {sz len' cap':Nat} {xs ys:List D} {u:Value} {a':Option Addr} {new:Array Value} (g0:args[0]? =some u) (g1:args[1]? =some (.slice a' len' cap')) (hu:bk M (.aj ow sz xs) u) (hl':ys.length=len') (ns:new.size=ys.length*P.cellsOf ety) (nrow:gj M (P.cellsOf ety) ys new) (nrun:∀wd:World,(∀a,wd.cell? a=w.cell? a)→(Builtin.firstCells (P.cellsOf ety) len' (.slice a' len' cap')).run P wd= .ok new wd) (none1:∀v∈new.toList,v.oneCell'=true)
  (hsz:sz=P.cellsOf ety∨xs= []) (hn:xs.length+ys.length≤dZ) {id ver:Nat} (hver:∀v,ver≤v→M.bG id v=none)
  (hroom:∀a len cap,u= .slice a len cap→cap=len∨∃b vs ty fz ver' sz2,a=some ⟨b,0,none⟩∧ql w0 M own id (P.cellsOf ety) w len cap b vs ty fz∧σ id= .bX ver' sz2):
  ∃v M' own' w',(Builtin.append_ ts rty args).run P w= .ok v w'∧M.Le M'∧bj w0 M' own' (dJ σ id (.bX ver (P.cellsOf ety))) w'∧bk M' (.aj (.tok id ver) (P.cellsOf ety) (xs++ys)) v∧M'.box=M.box∧∀j,j≠id→M'.bG j=M.bG j:=by
 obtain ⟨i,z,hi,hiz,hzs,hcells⟩:=gg hz
 have hbytes':i.bytes≤65536:=by simpa [Program.bytesOf,hi] using hbytes
 cases hu with
 |aj b off vs hl hcap ha hsize hc hr hst ho=>
  rename_i a len cap
  have hrep:bk M (.aj ow sz xs) (.slice a len cap):= .aj b off vs hl hcap ha hsize hc hr hst ho
  rw [hcells] at hsz ns nrow nrun
  obtain ⟨iz,os,orow,orun,_⟩:=ij (P:=P) hrep hsz hw.cells
  have hbig:len+len'≤2147483648:=by rw [← hl,← hl'];exact hn
  obtain ⟨r1,r2⟩:=gL (P:=P) (rty:=rty) ht hx h0 h1 hi hiz g0 g1 (orun w.drew fun _=>rfl) (nrun w fun _=>rfl) (nrun w.drew fun _=>rfl) hbytes' hbig
  rcases Nat.lt_or_ge cap (len+len') with hlt|hge
  ·
   obtain ⟨nc,hnc,hrun⟩:=r2 hlt
   let arr:=iz++new++Builtin.zeroCells z.cells (nc - (len+len'))
   have hrow:gj M i.size (xs++ys) arr:=orow.append nrow os _
   have harr:arr.size=nc*i.size:=by
    simp only [arr,Array.size_append,size_zeroCells,os,ns,hzs,hl,hl',← Nat.add_mul]
    congr 1;omega
   have hn2:(xs++ys).length*i.size≤(len+len')*i.size:=by rw [List.length_append,hl,hl'];exact Nat.le_refl _
   have hx2:=oC (M:=M) (w:=w) (wd:=w.drew) (arr:=arr) (ty:=ety) (n:=(len+len')*i.size) hw.cells rfl (Below.refl _ _).drew (0,0)
   obtain ⟨hw2,le2⟩:=hw.ext hx2 rfl rfl rfl
   have hheap:(w.drew.alloc (.cells arr ety (0,0))).heap[w.heap.size]? =some (.cells arr ety (0,0)):=by
    show (w.heap.push _)[w.heap.size]? =_
    simp
   have hfree:own w.heap.size=none:=by
    cases e:own w.heap.size with
    |none=>rfl
    |some q=>have:=hw.owned _ _ e;omega
   obtain ⟨own',hw3⟩:=hw2.o6 (id:=id) (ver:=ver) hver (a:=some ⟨w.heap.size,0,none⟩) (len:=len+len') (cap:=nc) i.size
    (.inr ⟨w.heap.size,arr,ety,(0,0),rfl,hw.below.new,.inl hfree,hheap,fun o _ h=>by have:=h.2;simp at this,by rw [harr];exact Nat.le_refl _,fun o ho=>by
     simp only [MM.lay,MM.bw,if_true];rw [if_neg (by omega)]⟩)
   have le3:=MM.cL (M:=M.lay w.heap.size arr ((len+len')*i.size)) (id:=id) (ver:=ver) (v:= .slice (some ⟨w.heap.size,0,none⟩) (len+len') nc) (hver ver (Nat.le_refl _))
   refine ⟨_,_,own',_,hrun,le2.trans le3,by rw [hcells];exact hw3,?_,rfl,?_⟩
   ·have hlen:(xs++ys).length=len+len':=by rw [List.length_append,hl,hl']
    have h5:=oh (M:=M) (b:=w.heap.size) (o:= .no) (cap:=nc) (n:=(len+len')*i.size) hrow (dg hw.cells (Nat.le_refl _)) (by omega) hn2 trivial
    rw [hcells]
    rw [hlen] at h5
    exact (h5.mono le3).flag _ (by simp [MM.m5,MM.aR])
   ·intro j hj
    funext k
    simp [MM.aR,hj,MM.lay,MM.bw]
  ·have hrun:=r1 hge
   by_cases hy:ys= []
   ·
    subst hy
    have hl0:len'=0:=by simpa using hl'.symm
    subst hl0
    have hnew0:new= #[]:=by
     apply Array.eq_empty_of_size_eq_zero;rw [ns];simp
    subst hnew0
    have hrun2:(Builtin.append_ ts rty args).run P w= .ok (.slice a len cap) w:=by
     rw [hrun]
     cases a<;>simp [storeCells]
    have hroom':cap=len∨∃b vs ty fz,a=some ⟨b,0,none⟩∧¬w0.X b∧(own b=none∨own b=some id)∧w.heap[b]? =some (.cells vs ty fz)∧kf fz vs.size∧cap*i.size≤vs.size∧∀o,len*i.size≤o→M.cell b o=none:=by
     rcases hroom a len cap rfl with q|⟨b,vs,ty,fz,_,_,ha,r,_⟩
     ·exact .inl q
     ·rw [hcells] at r
      exact .inr ⟨b,vs,ty,fz,ha,r.base,.inr r.own,r.cy,r.fz,r.cap,r.none⟩
    obtain ⟨own',hw3⟩:=hw.o6 (id:=id) (ver:=ver) hver i.size hroom'
    have le3:=MM.cL (id:=id) (ver:=ver) (v:= .slice a len cap) (hver ver (Nat.le_refl _))
    refine ⟨_,_,own',w,hrun2,le3,by rw [hcells];exact hw3,?_,rfl,?_⟩
    ·rw [List.append_nil,hcells]
     exact ((hrep.resize hsz).mono le3).flag _ (by simp [MM.m5,MM.aR])
    ·intro j hj
     funext k
     simp [MM.aR,hj]
   ·
    have hpos:0<len':=by
     rw [← hl'];exact List.length_pos_iff.2 hy
    rcases hroom a len cap rfl with q|⟨b1,vs1,ty1,fz1,ver',sz2,ha1,r,hσ⟩
    ·omega
    ·rw [hcells] at r
     subst ha1
     have hnl:new.toList.length=len'*i.size:=by rw [Array.length_toList,ns,hl']
     have hfit:len*i.size+new.toList.length≤vs1.size:=by
      rw [hnl,← Nat.add_mul];exact Nat.le_trans (Nat.mul_le_mul_right _ hge) r.cap
     have hstore:=ei (P:=P) (b:=b1) (off:=len*i.size) new.toList 0 w vs1 r.cy none1 (by simpa using hfit) r.fz
     rw [Nat.add_zero] at hstore
     let vs2:=cG vs1 (len*i.size) new.toList
     have hsame:∀o,o<len*i.size→vs2[o]? =vs1[o]? :=fun o ho=>by
      simp only [vs2];rw [eQ _ _ _ _ hfit,if_neg (by omega)]
     have hw2:=hw.Dd hσ r ((len+len')*i.size) (vs':=vs2) (cQ _ _ _) hsame
     have le2:M.Le (M.iM b1 (len*i.size) ((len+len')*i.size) vs2):=MM.yy r.none
     obtain ⟨own',hw3⟩:=hw2.o6 (id:=id) (ver:=ver) hver (a:=some ⟨b1,0,none⟩) (len:=len+len') (cap:=cap) i.size
      (.inr ⟨b1,vs2,ty1,fz1,rfl,r.base,.inr r.own,dy r.cy,by simp only [vs2,cQ];exact r.fz,by simp only [vs2,cQ];exact r.cap,fun o ho=>by
       simp only [MM.iM,MM.bw,if_true]
       rw [if_neg (by omega)]
       exact r.none o (by rw [Nat.add_mul] at ho;omega)⟩)
     have le3:=MM.cL (M:=M.iM b1 (len*i.size) ((len+len')*i.size) vs2) (id:=id) (ver:=ver) (v:= .slice (some ⟨b1,0,none⟩) (len+len') cap) (hver ver (Nat.le_refl _))
     have hσ2:dJ (dJ σ id .dead) id (.bX ver i.size)=dJ σ id (.bX ver i.size):=by
      funext j;by_cases e:j=id<;>simp [dJ,e]
     rw [hσ2] at hw3
     refine ⟨.slice (some ⟨b1,0,none⟩) (len+len') cap,_,own',aZ w b1 (.cells vs2 ty1 fz1),?_,le2.trans le3,by rw [hcells];exact hw3,?_,rfl,?_⟩
     ·rw [hrun]
      simp only [ev,Nat.zero_add,Sem.run_bind,hstore,Result.andThen_ok,Sem.run_pure]
      rfl
     ·rw [hcells]
      refine bk.flag (o:= .no) ?_ _ (by simp [MM.m5,MM.aR])
      refine bk.mono ?_ le3
      have hsplit:∀ {k:Nat} {x:D},(xs++ys)[k]? =some x→(k<len∧xs[k]? =some x)∨(len≤k∧k<len+len'∧ys[k - len]? =some x):=by
       intro k x hx
       rw [List.getElem?_append] at hx
       split at hx
       ·exact .inl ⟨by omega,hx⟩
       ·refine .inr ⟨by omega,?_,by rw [← hl];exact hx⟩
        have:k - xs.length<ys.length:=by
         rcases Nat.lt_or_ge (k - xs.length) ys.length with q|q
         ·exact q
         ·simp [List.getElem?_eq_none q] at hx
        omega
      have hold:∀ {k:Nat} {x:D} {cs:List D} {j:Nat} {c:D},xs[k]? =some x→x.cells=some cs→cs[j]? =some c→M.cell b1 (k*i.size+j)=some (vs k j)∧bk M.bare c (vs k j):=by
       intro k x cs j c hx hcs hj
       have hne:xs≠ []:=fun e=>by subst e;simp at hx
       have e1:=ha hne
       obtain ⟨rfl,rfl⟩:b1=b∧0=off:=by simpa using e1
       have e2:sz=i.size:=hsz.resolve_right hne
       have h5:=hc k x cs j c hx hcs hj
       rw [e2,Nat.zero_add] at h5
       exact ⟨h5,hr k x cs j c hx hcs hj⟩
      have hjlt:∀ {k:Nat} {x:D} {cs:List D} {j:Nat} {c:D},(xs++ys)[k]? =some x→x.cells=some cs→cs[j]? =some c→j<i.size:=by
       intro k x cs j c hx hcs hj
       have hlen:cs.length=i.size:=by
        rcases hsplit hx with ⟨_,h⟩|⟨_,_,h⟩
        ·obtain ⟨cs',q1,q2⟩:=orow.elem _ x h;rw [hcs] at q1;obtain rfl:=Option.some.inj q1;exact q2
        ·obtain ⟨cs',q1,q2⟩:=nrow.elem _ x h;rw [hcs] at q1;obtain rfl:=Option.some.inj q1;exact q2
       rcases Nat.lt_or_ge j cs.length with q|q
       ·omega
       ·simp [List.getElem?_eq_none q] at hj
      refine .aj b1 0 (fun k j=>if k<len then vs k j else (new[(k - len)*i.size+j]?).getD .nilFunc) (by rw [List.length_append,hl,hl']) hge (fun _=>rfl) ?_ ?_ ?_ ?_ trivial
      ·intro k x hx
       rcases hsplit hx with ⟨_,h⟩|⟨_,_,h⟩
       ·exact orow.elem _ x h
       ·exact nrow.elem _ x h
      ·intro k x cs j c hx hcs hj
       have hjl:=hjlt hx hcs hj
       rw [Nat.zero_add]
       simp only [MM.iM,MM.bw,if_true]
       rcases hsplit hx with ⟨hk,h⟩|⟨hk,hk2,h⟩
       ·have:=mX hk hjl
        rw [if_neg (by omega),if_pos hk]
        exact (hold h hcs hj).1
       ·have h6:=mX hk2 hjl
        have h7:len*i.size≤k*i.size:=Nat.mul_le_mul_right _ hk
        rw [if_pos ⟨by omega,h6⟩,if_neg (by omega)]
        obtain ⟨v,hv,_⟩:=nrow.get _ x cs j c h hcs hj
        have e:k*i.size+j - len*i.size=(k - len)*i.size+j:=by
         rw [Nat.sub_mul];omega
        simp only [vs2]
        rw [eQ _ _ _ _ hfit,if_pos ⟨by omega,by rw [hnl,← Nat.add_mul];exact h6⟩,e,Array.getElem?_toList,hv]
        rfl
      ·intro k x cs j c hx hcs hj
       rcases hsplit hx with ⟨hk,h⟩|⟨hk,_,h⟩
       ·simp only [if_pos hk]
        exact (hold h hcs hj).2.mono le2.bare
       ·simp only [if_neg (show ¬k<len by omega)]
        obtain ⟨v,hv,hrv⟩:=nrow.get _ x cs j c h hcs hj
        rw [hv]
        exact hrv.mono le2.bare
      ·intro k x cs c hx hcs hcc
       rcases hsplit hx with ⟨_,h⟩|⟨_,_,h⟩
       ·exact orow.st _ x cs c h hcs hcc
       ·exact nrow.st _ x cs c h hcs hcc
     ·intro j hj
      funext k
      simp [MM.aR,hj,MM.iM,MM.bw]
theorem nU {w0:di} {w:World} {M:MM} {own:Nat→Option Nat} {σ:Nat→Ob} (hw:bj w0 M own σ w) {st xt ety rty e2:TypeId} {ts:Array TypeId} {args:Array Value} (ht:P.underlying st=some (.slice ety)) (hx:P.underlying xt=some (.slice e2)) (h0:ts[0]? =some st) (h1:ts[1]? =some xt)
  (hz:eU P ety=true) (hbytes:P.bytesOf ety≤65536) {ow ow':jW} {sz sz':Nat} {xs ys:List D} {u u':Value} (g0:args[0]? =some u) (g1:args[1]? =some u') (hu:bk M (.aj ow sz xs) u) (hu':bk M (.aj ow' sz' ys) u')
  (hsz:sz=P.cellsOf ety∨xs= []) (hsz':sz'=P.cellsOf ety∨ys= []) (hn:xs.length+ys.length≤dZ) {id ver:Nat} (hver:∀v,ver≤v→M.bG id v=none)
  (hroom:∀a len cap,u= .slice a len cap→cap=len∨∃b vs ty fz ver' sz2,a=some ⟨b,0,none⟩∧ql w0 M own id (P.cellsOf ety) w len cap b vs ty fz∧σ id= .bX ver' sz2):
  ∃v M' own' w',(Builtin.append_ ts rty args).run P w= .ok v w'∧M.Le M'∧bj w0 M' own' (dJ σ id (.bX ver (P.cellsOf ety))) w'∧bk M' (.aj (.tok id ver) (P.cellsOf ety) (xs++ys)) v∧M'.box=M.box∧∀j,j≠id→M'.bG j=M.bG j:=by
 cases hu' with
 |aj b' off' vs' hl' hcap' ha' hsize' hc' hr' hst' ho'=>
  rename_i a' len' cap'
  have hrep':bk M (.aj ow' sz' ys) (.slice a' len' cap'):= .aj b' off' vs' hl' hcap' ha' hsize' hc' hr' hst' ho'
  obtain ⟨new,ns,nrow,nrun,none1⟩:=ij (P:=P) hrep' hsz' hw.cells
  exact qg hw ht hx h0 h1 hz hbytes g0 g1 hu hl' ns nrow nrun none1 hsz hn hver hroom
end
structure tP (P:Program) (id:Nat) (args:List D) (s:List Ob) (d:D) (s':List Ob):Prop where
  len:s.length≤s'.length
  run:∀(w0:di) (M:MM) (own:Nat→Option Nat) (w:World) (vs:Array Value) (l:Nat),bj w0 M own (bm s) w→M.upto s.length→bS M args vs→M.box id=some l→
    ∃fn tmps ag bd,(Instr.yield l vs).run P w= .ok (.round l fn tmps ag bd) w∧
      RoundIn Fence.wide 0 P l fn tmps ag bd w fun e w'=> ∃v M' own',e= .returned v∧bj w0 M' own' (bm s') w'∧M'.upto s'.length∧M.Le M'∧bk M' d v
def Hl (P:Program) (g:Tg) (args:List D) (s:List Ob) (d:D) (s':List Ob):Prop:=match g with
  | .fn f=>ai P f args s d s'
  | .yl id=>tP P id args s d s'
def jB (P:Program) {ρ':Type} (inl:yN P ρ'):Prop:= ∀(g:Tg) (args:List D) (s:List Ob) (z:Z P) (K:D→List Ob→Z P→Option ρ') (r:ρ'),inl g args s z K=some r→
  ∃d s' z',K d s' z'=some r∧(z'.c→z.c∧Hl P g args s d s')
def DB (P:Program) (o:Oper) (ρ:Operand→D) (s s':List Ob) (d:D):Prop:=
  s.length≤s'.length∧∀(w0:di) (M:MM) (own:Nat→Option Nat) (w:World) (a:Act),bj w0 M own (bm s) w→M.upto s.length→(∀x∈o.op.operands,bk M (ρ x) (a.eval x))→
    ∀(next:Act→World→Prop) (Q:Exit→Act→World→Prop),
      (∀v M' own' w',M.Le M'→M'.upto s'.length→bj w0 M' own' (bm s') w'→bk M' d v→next (a.put o.dst v) w')→DJ P o a w next Q
def ie (P:Program) (o:Oper) (ρ:Operand→D) (s:List Ob) (e:ig):Prop:=match e with
  | .all s' d=>DB P o ρ s s' d
  | .read i ob d=>(s.getD i .dead=ob∧i<s.length)∧ey P o ρ (.read i ob d)
  | .gr i j d=>(fe (s.getD i .dead) j=some d∧i<s.length)∧ey P o ρ (.gr i j d)
  | .dJ i ob ob' d=>(s.getD i .dead=ob∧i<s.length)∧ey P o ρ (.dJ i ob ob' d)
  |e=>ey P o ρ e
theorem cJ {s:List Ob} {i:Nat} (h:s.getD i .dead≠ .dead):i<s.length:=by
 rcases Nat.lt_or_ge i s.length with q|q
 ·exact q
 ·rw [List.getD_eq_getElem?_getD,List.getElem?_eq_none q] at h;exact absurd rfl h
theorem rq {P:Program} {o:Oper} {ρv:Operand→Value} {c:Call} {f:Operand} {g:FuncId} {fv cv:Array Value} (ho:o.op= .call c) (hc:c.callee= .value f) (hf:ρv f= .func (.func g) fv cv) (he:H0 P g) (w:World):
  (execOp ρv o).run P w= .ok (.enter g ((fv++c.args.map ρv)++cv)) w:=by
 obtain ⟨fn,code,h1,h2,h3⟩:=he
 simp only [execOp,ho,resolve,hc,hf,Deferred.ofValue,Sem.run_bind,Sem.run_pure,Result.andThen_ok,invoke,callFunc,run_program,h1,h3,Bool.false_eq_true,if_false,h2,Option.isNone_some]
theorem ui {P:Program} {o:Oper} {a:Act} {w:World} {g:FuncId} {vs:Array Value} {next:Act→World→Prop} {Q:Exit→Act→World→Prop} (h:(execOp a.eval o).run P w= .ok (.enter g vs) w)
  (k:Calls P g vs w fun e w'=> ∃v,e= .returned v∧next (a.put o.dst v) w'):DJ P o a w next Q:=by
 intro r
 refine ⟨fun _ _=>trivial,?_⟩
 rw [show (FW r).round=r from rfl,kL h (fun d e=>by cases e) r,Oper.uponIn_enter]
 refine ⟨fun e=>(by cases e),?_⟩
 have k':CallsIn (FW r) (0 - 1) P g vs w fun e w'=> ∃v,e= .returned v∧next (a.put o.dst v) w':=(callsIn_wide (n:=0)).2 k
 refine k'.mono fun e w' hh=> ?_
 obtain ⟨v,rfl,hn⟩:=hh
 exact hn
theorem wX {P:Program} {o:Oper} {ρv:Operand→Value} {c:Call} {f:Operand} {l:Nat} (ho:o.op= .call c) (hc:c.callee= .value f) (hf:ρv f= .func (.yield l) #[] #[]) (w:World):
  (execOp ρv o).run P w=(Instr.yield l (c.args.map ρv)).run P w:=by
 simp only [execOp,ho,resolve,hc,hf,Deferred.ofValue,Sem.run_bind,Sem.run_pure,Result.andThen_ok,invoke,Array.empty_append,Array.append_empty]
theorem BB {P:Program} {o:Oper} {a:Act} {w:World} {l:Nat} {fn:FuncId} {tmps:Array Value} {ag bd:Code} {next:Act→World→Prop} {Q:Exit→Act→World→Prop} (h:(execOp a.eval o).run P w= .ok (.round l fn tmps ag bd) w)
  (k:RoundIn Fence.wide 0 P l fn tmps ag bd w fun e w'=> ∃v,e= .returned v∧next (a.put o.dst v) w'):DJ P o a w next Q:=by
 intro r
 refine ⟨fun _ _=>trivial,?_⟩
 rw [show (FW r).round=r from rfl,kL h (fun d e=>by cases e) r,Oper.uponIn_round]
 refine ⟨fun e=>(by cases e),?_⟩
 have k':RoundIn (FW r) (0 - 1) P l fn tmps ag bd w fun e w'=> ∃v,e= .returned v∧next (a.put o.dst v) w':=k
 refine k'.mono fun e w' hh=> ?_
 obtain ⟨v,rfl,hn⟩:=hh
 exact hn
theorem bS.append {M:MM} {xs ys:List D} {us vs:Array Value} (h:bS M xs us) (k:bS M ys vs):bS M (xs++ys) (us++vs):=by
 refine ⟨by simp [h.1,k.1],fun i d v a b=> ?_⟩
 rw [List.getElem?_append] at a
 rw [Array.getElem?_append] at b
 rw [← h.1] at b
 split at a
 ·rename_i hi
  rw [if_pos hi] at b
  exact h.2 i d v a b
 ·rename_i hi
  rw [if_neg hi] at b
  exact k.2 _ d v a b
theorem ph {M:MM} {ρ:Operand→D} {a:Act} (l:Array Operand) (h:∀x∈l,bk M (ρ x) (a.eval x)):bS M (l.toList.map ρ) (l.map a.eval):=by
 refine ⟨by simp,fun i d v p q=> ?_⟩
 rw [List.getElem?_map,Option.map_eq_some_iff] at p
 obtain ⟨x,hx,rfl⟩:=p
 rw [Array.getElem?_toList] at hx
 rw [Array.getElem?_map,hx] at q
 simp only [Option.map_some,Option.some.injEq] at q
 subst q
 exact h x (Array.mem_of_getElem? hx)
theorem bk.aX {M:MM} {d:D} {v:Value} (h:bk M d v):bk M d.aX v:=by
 induction h with
 |undef v=>exact .undef v
 |int k n=>exact .int k n
 |bool b=>exact .bool b
 |str s=>exact .str s
 |gD=>exact .gD
 |ptr q h=>exact .ptr q h
 |dN q vs hx hc hr ih=>exact .dN q vs hx hc hr
 |dM h=>exact .dM h
 |iq h=>exact .iq h
 |dn h hh hc=>exact .dn h hh hc
 |sub h hc hp ho=>exact .sub h hc hp ho
 |aj b off vs hl hcap ha hsz hc hr hst ho ih=>
  rename_i o _ _ _ _ _
  rw [D.aX]
  refine .aj b off vs hl hcap ha hsz hc hr hst ?_
  cases o<;>first|trivial|exact ho
 |aq=>exact .aq
 |fn h1 h2 r1 r2 i1 i2=>
  rw [D.aX,D.fA,D.fA]
  refine .fn (by simpa using h1) (by simpa using h2) ?_ ?_
  ·intro i d v a b
   rw [List.getElem?_map,Option.map_eq_some_iff] at a
   obtain ⟨d0,h0,rfl⟩:=a
   exact i1 i d0 v h0 b
  ·intro i d v a b
   rw [List.getElem?_map,Option.map_eq_some_iff] at a
   obtain ⟨d0,h0,rfl⟩:=a
   exact i2 i d0 v h0 b
 |agg h r ih=>
  rw [D.aX,D.fA]
  refine .agg (by simpa using h) fun i d v a b=> ?_
  rw [List.getElem?_map,Option.map_eq_some_iff] at a
  obtain ⟨d0,h0,rfl⟩:=a
  exact ih i d0 v h0 b
 |aA h r ih=>
  rw [D.aX,D.fA]
  refine .aA (by simpa using h) fun i d v a b=> ?_
  rw [List.getElem?_map,Option.map_eq_some_iff] at a
  obtain ⟨d0,h0,rfl⟩:=a
  exact ih i d0 v h0 b
theorem qh {id:Nat} :∀ {ds l:List D} {sz:Nat},gA id ds=some (l,sz)→∃(k sz':Nat) (xs:List D),ds[k]? =some (D.aj (.fresh sz) sz' xs)∧l.length=ds.length∧
  ∀(i:Nat) (d':D),l[i]? =some d'→(i=k∧d'=D.aj (.tok id 0) sz' xs)∨∃d0:D,ds[i]? =some d0∧(d'=d0∨d'=d0.aX)
 | [],l,sz,h=>by simp [gA] at h
 |d::r,l,sz,h=>by
  unfold gA at h
  split at h
  ·cases h
  ·rename_i sz1 sz2 xs r' heq
   simp only [List.cons.injEq] at heq
   obtain ⟨rfl,rfl⟩:=heq
   simp only [Option.some.injEq,Prod.mk.injEq] at h
   obtain ⟨rfl,rfl⟩:=h
   refine ⟨0,sz2,xs,rfl,by simp,fun i d' hi=> ?_⟩
   cases i with
   |zero=>simp at hi;exact .inl ⟨rfl,hi.symm⟩
   |succ i=>
    simp only [List.getElem?_cons_succ,List.getElem?_map,Option.map_eq_some_iff] at hi
    obtain ⟨d0,h0,rfl⟩:=hi
    exact .inr ⟨d0,by simpa using h0,.inr rfl⟩
  ·rename_i d1 r1 _ heq
   simp only [List.cons.injEq] at heq
   obtain ⟨rfl,rfl⟩:=heq
   split at h
   ·rename_i l' sz' hl
    simp only [Option.some.injEq,Prod.mk.injEq] at h
    obtain ⟨rfl,rfl⟩:=h
    obtain ⟨k,sz2,xs,h1,h2,h3⟩:=qh hl
    refine ⟨k+1,sz2,xs,by simpa using h1,by simp [h2],fun i d' hi=> ?_⟩
    cases i with
    |zero=>simp at hi;exact .inr ⟨d,rfl,.inl hi.symm⟩
    |succ i=>
     rcases h3 i d' (by simpa using hi) with ⟨e1,e2⟩|⟨d0,e1,e2⟩
     ·exact .inl ⟨by omega,e2⟩
     ·exact .inr ⟨d0,by simpa using e1,e2⟩
   ·cases h
theorem Dy (id id':Nat) (d:D):(kI id d).2=(kI id' d).2:=by
 have hl:∀ds:List D,(gA id ds).map (·.2)=(gA id' ds).map (·.2):=by
  intro ds
  induction ds with
  |nil=>rfl
  |cons d r ih=>
   unfold gA
   split
   ·rfl
   ·rfl
   ·rename_i h;
    cases h1:gA id r with
    |none=>
     rw [h1] at ih
     cases h2:gA id' r with
     |none=>simp_all
     |some p=>rw [h2] at ih;cases ih
    |some p=>
     rw [h1] at ih
     cases h2:gA id' r with
     |none=>rw [h2] at ih;cases ih
     |some q=>
      rw [h2] at ih
      have:p.2=q.2:=by simpa using ih
      simp_all
 unfold kI
 split
 ·rfl
 ·rename_i ds
  have:=hl ds
  cases h1:gA id ds with
  |none=>
   rw [h1] at this
   cases h2:gA id' ds with
   |none=>rfl
   |some p=>rw [h2] at this;cases this
  |some p=>
   rw [h1] at this
   cases h2:gA id' ds with
   |none=>rw [h2] at this;cases this
   |some q=>
    rw [h2] at this
    have:p.2=q.2:=by simpa using this
    simp [this]
 ·rfl
theorem Dx {w0:di} {w w':World} {M M1:MM} {own:Nat→Option Nat} {σ:Nat→Ob} (hw:bj w0 M own σ w) (hw1:bj w0 M1 own σ w') (_hle:w.heap.size≤w'.heap.size) {id:Nat} (hid:∀v,M1.bG id v=none) {d:D} {v:Value} (hr:bk M1 d v) (hf:xW w.heap.size w' M1.cell d v):
  ∃M' own',M1.Le M'∧M'.box=M1.box∧(∀j,j≠id→M'.bG j=M1.bG j)∧bj w0 M' own' (dJ σ id (kI id d).2) w'∧bk M' (kI id d).1 v:=by
 have bX:∀ {sz:Nat} {a:Option Addr} {len cap:Nat},iu w.heap.size w' M1.cell sz a len cap→∃own',bj w0 (M1.aR id 0 (.slice a len cap)) own' (dJ σ id (.bX 0 sz)) w':=by
  intro sz a len cap hroom
  refine hw1.o6 (fun v _=>hid v) sz ?_
  rcases hroom with q|⟨b,vs,ty,fz,h1,h2,h3,h4,h5,h6⟩
  ·exact .inl q
  ·refine .inr ⟨b,vs,ty,fz,h1,(fun k=>by have:=hw.below.Ht k;omega),.inl ?_,h3,h4,h5,h6⟩
   cases e:own b with
   |none=>rfl
   |some q=>have:=hw.owned _ _ e;omega
 have aB:∀ {x:Value},(∀j,j≠id→(M1.aR id 0 x).bG j=M1.bG j):=fun {x} j hj=>by funext k;simp [MM.aR,hj]
 have dead:∀ {d':D},bk M1 d' v→∃M' own',M1.Le M'∧M'.box=M1.box∧(∀j,j≠id→M'.bG j=M1.bG j)∧bj w0 M' own' (dJ σ id .dead) w'∧bk M' d' v:=
  fun h=>⟨M1,own,.refl _,rfl,fun _ _=>rfl,hw1.kill id,h⟩
 unfold kI
 split
 ·rename_i sz sz' xs
  obtain ⟨a,len,cap,rfl,rfl,hroom⟩:=hf.1 _ _ _ rfl
  obtain ⟨own',h1⟩:=bX hroom
  have le:=MM.cL (M:=M1) (id:=id) (ver:=0) (v:= .slice a len cap) (hid 0)
  exact ⟨_,own',le,rfl,aB,h1,(hr.mono le).flag _ (by simp [MM.m5,MM.aR])⟩
 ·rename_i ds
  split
  ·rename_i l sz hl
   obtain ⟨k,sz',xs,h1,h2,h3⟩:=qh hl
   cases hr with
   |aA hlen hrep=>
    rename_i vs
    obtain ⟨a,len,cap,hv,rfl,hroom⟩:=hf.2 _ _ rfl rfl k _ _ _ h1
    obtain ⟨own',h4⟩:=bX hroom
    have le:=MM.cL (M:=M1) (id:=id) (ver:=0) (v:= .slice a len cap) (hid 0)
    refine ⟨_,own',le,rfl,aB,h4,.aA (by rw [h2];exact hlen) fun i d' u hi hu=> ?_⟩
    rcases h3 i d' hi with ⟨rfl,rfl⟩|⟨d0,e1,e2⟩
    ·rw [hv] at hu
     obtain rfl:=Option.some.inj hu
     exact ((hrep _ _ _ h1 hv).mono le).flag _ (by simp [MM.m5,MM.aR])
    ·have:=(hrep i d0 u e1 hu).mono le
     rcases e2 with rfl|rfl
     ·exact this
     ·exact this.aX
  ·exact dead hr
 ·exact dead hr
theorem FN {P:Program} {o:Oper} {ρ:Operand→D} {c:Call} {f:Operand} {g:FuncId} {first cap as:List D} {d:D} (ho:o.op= .call c) (hc:c.callee= .value f) (hf:ρ f= .fn (.func g) first cap) (hret:aE P g as d)
  (has:∀(M:MM) (vs:Array Value),bS M (first++(c.args.toList.map ρ++cap)) vs→bS M.bare as vs):ey P o ρ (.new (kI 0 d).2 fun id=>(kI id d).1):=by
 intro w0 M own σ w a id hw hr hpre next Q hn
 have hargs:∀x∈c.args,bk M (ρ x) (a.eval x):=fun x hx=>hr x (by
  simp only [ho,Op.operands,Call.operands,hc]
  exact Array.mem_append.2 (.inr hx))
 have hfr:=hr f (by
  simp only [ho,Op.operands,Call.operands,hc]
  exact Array.mem_append.2 (.inl (by simp)))
 rw [hf] at hfr
 generalize hfv:a.eval f=fval at hfr
 cases hfr with
 |fn h1 h2 r1 r2=>
  rename_i fv cv
  have hall:bS M (first++(c.args.toList.map ρ++cap)) ((fv++c.args.map a.eval)++cv):=by
   rw [Array.append_assoc]
   exact bS.append ⟨h1,r1⟩ (bS.append (ph c.args hargs) ⟨h2,r2⟩)
  have hcall:=hret.run w M.cell _ hw.cells (has M _ hall)
  refine ui (rq ho hc hfv hret.ED w) (Calls.mono hcall fun e w' hh=> ?_)
  obtain ⟨v,C',rfl,hext,hrep,hfresh⟩:=hh
  let M1:MM:=⟨C',M.box,M.bG,M.eL⟩
  have hx:Ext M w M1 w':=⟨hext.below,hext.cell,hext.only,hext.cells⟩
  obtain ⟨hw1,le1⟩:=hw.ext hx rfl rfl rfl
  obtain ⟨M',own',q1,q2,q3,q4,q5⟩:=Dx (id:=id) hw hw1 hext.below.size hpre.2 (hrep.mono (MM.lb M1)) hfresh
  refine ⟨v,rfl,hn v M' own' w' (le1.trans q1) ⟨fun j _=>by rw [q2],fun j hj=>q3 j hj⟩ ?_ q5⟩
  show bj w0 M' own' (dJ σ id (kI 0 d).2) w'
  rw [Dy 0 id d]
  exact q4
theorem Cn {P:Program} {o:Oper} {ρ:Operand→D} {c:Call} {f:Operand} {g:FuncId} {first cap:List D} {d:D} {s s':List Ob} (ho:o.op= .call c) (hc:c.callee= .value f) (hf:ρ f= .fn (.func g) first cap)
  (hrun:ai P g (first++(c.args.toList.map ρ++cap)) s d s'):DB P o ρ s s' d:=by
 refine ⟨hrun.len,?_⟩
 intro w0 M own w a hw hup hr next Q hn
 have hargs:∀x∈c.args,bk M (ρ x) (a.eval x):=fun x hx=>hr x (by
  simp only [ho,Op.operands,Call.operands,hc]
  exact Array.mem_append.2 (.inr hx))
 have hfr:=hr f (by
  simp only [ho,Op.operands,Call.operands,hc]
  exact Array.mem_append.2 (.inl (by simp)))
 rw [hf] at hfr
 generalize hfv:a.eval f=fval at hfr
 cases hfr with
 |fn h1 h2 r1 r2=>
  rename_i fv cv
  have hall:bS M (first++(c.args.toList.map ρ++cap)) ((fv++c.args.map a.eval)++cv):=by
   rw [Array.append_assoc]
   exact bS.append ⟨h1,r1⟩ (bS.append (ph c.args hargs) ⟨h2,r2⟩)
  refine ui (rq ho hc hfv hrun.ED w) (Calls.mono (hrun.run w0 M own w _ hw hup hall) fun e w' hh=> ?_)
  obtain ⟨v,M',own',rfl,q1,q2,q3,q4⟩:=hh
  exact ⟨v,rfl,hn v M' own' w' q3 q2 q1 q4⟩
theorem FM {P:Program} {o:Oper} {ρ:Operand→D} {c:Call} {f:Operand} {id:Nat} {d:D} {s s':List Ob} (ho:o.op= .call c) (hc:c.callee= .value f) (hf:ρ f= .iq id)
  (hrun:tP P id (c.args.toList.map ρ) s d s'):DB P o ρ s s' d:=by
 refine ⟨hrun.len,?_⟩
 intro w0 M own w a hw hup hr next Q hn
 have hargs:∀x∈c.args,bk M (ρ x) (a.eval x):=fun x hx=>hr x (by
  simp only [ho,Op.operands,Call.operands,hc]
  exact Array.mem_append.2 (.inr hx))
 have hfr:=hr f (by
  simp only [ho,Op.operands,Call.operands,hc]
  exact Array.mem_append.2 (.inl (by simp)))
 rw [hf] at hfr
 generalize hfv:a.eval f=fval at hfr
 cases hfr with
 |iq hb=>
  obtain ⟨fn,tmps,as,bd,h1,h2⟩:=hrun.run w0 M own w _ _ hw hup (ph c.args hargs) hb
  refine BB (l:=_) ((wX ho hc hfv w).trans h1) (h2.mono fun e w' hh=> ?_)
  obtain ⟨v,M',own',rfl,q1,q2,q3,q4⟩:=hh
  exact ⟨v,rfl,hn v M' own' w' q3 q2 q1 q4⟩
theorem kK {s:List Ob} {i:Nat} (h:i<s.length) (o:Ob):bm (s.set i o)=dJ (bm s) i o:=by
 funext k
 unfold bm dJ
 simp only [List.getD_eq_getElem?_getD]
 by_cases e:k=i
 ·subst e;rw [List.getElem?_set_self h];simp
 ·rw [List.getElem?_set_ne (Ne.symm e),if_neg e]
theorem jD (s:List Ob) (o:Ob):bm (s++ [o])=dJ (bm s) s.length o:=by
 funext k
 unfold bm dJ
 simp only [List.getD_eq_getElem?_getD,List.getElem?_append]
 by_cases e:k=s.length
 ·subst e;simp
 ·rw [if_neg e]
  split
  ·rfl
  ·rename_i h
   rw [List.getElem?_eq_none (show s.length≤k by omega)]
   have: [o][k - s.length]? =none:=List.getElem?_eq_none (by simp;omega)
   rw [this]
theorem qb {size:Nat} :∀ {ys nc:List D},bA ys=some nc→(∀(i:Nat) (x:D),ys[i]? =some x→∃cs,x.cells=some cs∧cs.length=size)→nc.length=ys.length*size∧
  ∀(i:Nat) (d:D),nc[i]? =some d→∃(q r:Nat) (x:D) (cs:List D),ys[q]? =some x∧x.cells=some cs∧cs[r]? =some d∧i=q*size+r
 | [],nc,h,_=>by
  simp only [bA,Option.some.injEq] at h
  subst h
  exact ⟨by simp,fun i d hd=>by simp at hd⟩
 |y::ys,nc,h,he=>by
  simp only [bA] at h
  split at h
  ·rename_i c cs hc hcs
   obtain rfl:=Option.some.inj h
   obtain ⟨c',hc',hlen⟩:=he 0 y rfl
   rw [hc] at hc'
   obtain rfl:=Option.some.inj hc'
   obtain ⟨l1,g1⟩:=qb hcs (fun i x hx=>he (i+1) x hx)
   refine ⟨by rw [List.length_append,l1,hlen,List.length_cons,Nat.succ_mul];omega,fun i d hd=> ?_⟩
   rcases Nat.lt_or_ge i c.length with hi|hi
   ·rw [List.getElem?_append_left hi] at hd
    exact ⟨0,i,y,c,rfl,hc,hd,by simp⟩
   ·rw [List.getElem?_append_right hi] at hd
    obtain ⟨q,r,x,cx,h1,h2,h3,h4⟩:=g1 _ d hd
    exact ⟨q+1,r,x,cx,h1,h2,h3,by rw [Nat.succ_mul];omega⟩
  ·cases h
theorem lb (M:MM):M.bare.Le M:=⟨fun _ _ _ h=>h,fun _ _ h=>(by cases h),fun _ _ _ h=>(by cases h),fun _ h=>h.elim⟩
theorem mY {M:MM} {size:Nat} {ys nc:List D} {arr:Array Value} (h:gj M size ys arr) (hc:bA ys=some nc):nc.length=ys.length*size∧
  ∀(i:Nat) (d:D) (v:Value),nc[i]? =some d→arr[i]? =some v→bk M d v:=by
 obtain ⟨h1,h2⟩:=qb hc h.elem
 refine ⟨h1,fun i d v hd hv=> ?_⟩
 obtain ⟨q,r,x,cs,a1,a2,a3,rfl⟩:=h2 i d hd
 obtain ⟨u,b1,b2⟩:=h.get q x cs r d a1 a2 a3
 rw [b1] at hv
 obtain rfl:=Option.some.inj hv
 exact b2.mono (lb M)
section
variable {P:Program} {o:Oper} {ρ:Operand→D}
theorem uk {w0:di} {w:World} {M:MM} {own:Nat→Option Nat} {σ:Nat→Ob} (hw:bj w0 M own σ w) {st xt ety rty e2:TypeId} {ts:Array TypeId} {args:Array Value} (ht:P.underlying st=some (.slice ety)) (hx:P.underlying xt=some (.slice e2)) (h0:ts[0]? =some st) (h1:ts[1]? =some xt)
  (hz:eU P ety=true) (hbytes:P.bytesOf ety≤65536) {sz n cap':Nat} {nc:List D} {u:Value} {a':Option Addr} {new:Array Value} (g0:args[0]? =some u) (g1:args[1]? =some (.slice a' n cap')) (hu:bk M (.aj .tight sz []) u)
  (ns:new.size=n*P.cellsOf ety) (nrun:∀wd:World,(∀a,wd.cell? a=w.cell? a)→(Builtin.firstCells (P.cellsOf ety) n (.slice a' n cap')).run P wd= .ok new wd) (c1:nc.length=n*P.cellsOf ety)
  (c2:∀(i:Nat) (d:D) (v:Value),nc[i]? =some d→new[i]? =some v→bk M d v) (hn:n≤dZ) (hpos:0<n) {id:Nat} (hid:M.box id=none) (hh:∀v,M.bG id v=none):
  ∃v M' own' w',(Builtin.append_ ts rty args).run P w= .ok v w'∧M.Le M'∧bj w0 M' own' (dJ σ id (.box nc)) w'∧bk M' (.dn id (P.cellsOf ety) n) v∧(∀j,j≠id→M'.box j=M.box j)∧∀j,j≠id→M'.bG j=M.bG j:=by
 obtain ⟨i,z,hi,hiz,hzs,hcells⟩:=gg hz
 have hbytes':i.bytes≤65536:=by simpa [Program.bytesOf,hi] using hbytes
 cases hu with
 |aj b off vs hl hcap ha hsize hc0 hr hst ho=>
  rename_i a len cap
  have hrep:bk M (.aj .tight sz []) (.slice a len cap):= .aj b off vs hl hcap ha hsize hc0 hr hst ho
  have hlen0:len=0:=by simpa using hl.symm
  have hcap0:cap=len:=ho
  subst hlen0
  subst hcap0
  rw [hcells] at ns nrun c1 ⊢
  obtain ⟨iz,os,orow,orun,_⟩:=ij (P:=P) (size:=i.size) hrep (.inr rfl) hw.cells
  have hbig:0+n≤2147483648:=by rw [Nat.zero_add];exact hn
  obtain ⟨_,r2⟩:=gL (P:=P) (rty:=rty) ht hx h0 h1 hi hiz g0 g1 (orun w.drew fun _=>rfl) (nrun w fun _=>rfl) (nrun w.drew fun _=>rfl) hbytes' hbig
  obtain ⟨n2,hn2,hrun⟩:=r2 (by omega)
  rw [Nat.zero_add] at hrun hn2
  have hold:iz= #[]:=Array.eq_empty_of_size_eq_zero (by rw [os];simp)
  subst hold
  let arr:= #[]++new++Builtin.zeroCells z.cells (n2 - n)
  have harr:arr.size=n2*i.size:=by
   simp only [arr,Array.size_append,size_zeroCells,ns,hzs]
   simp only [List.size_toArray,List.length_nil,Nat.zero_add]
   rw [← Nat.add_mul]
   congr 1;omega
  have hle:nc.length≤arr.size:=by rw [c1,harr];exact Nat.mul_le_mul_right _ (by omega)
  have hreps:∀(j:Nat) (d:D) (v:Value),nc[j]? =some d→arr[j]? =some v→bk M d v:=by
   intro j d v hd hv
   have hj:j<new.size:=by
    rw [ns,← c1]
    rcases Nat.lt_or_ge j nc.length with q|q
    ·exact q
    ·simp [List.getElem?_eq_none q] at hd
   refine c2 j d v hd ?_
   have:arr[j]? =new[j]? :=by
    simp only [arr]
    rw [Array.getElem?_append_left (by simpa using hj),Array.empty_append]
   rw [← this];exact hv
  have k:bj w0 (M.aW id w.heap.size) (eC own w.heap.size id) (dJ σ id (.box nc)) (w.drew.alloc (.cells arr ety)):=hw.drew.pt (id:=id) hid hh (cs:=nc) (vs:=arr) ety hle hreps
  obtain ⟨b1,vs1,ty1,kb⟩:=k.box id nc (aO _ _ _)
  have eb:b1=w.heap.size:=by have:=kb.box;simp only [MM.aW,if_true] at this;exact (Option.some.inj this).symm
  have evs:vs1.size=arr.size:=by
   have h1:=kb.cy
   rw [eb] at h1
   have h2:(w.drew.alloc (.cells arr ety)).heap[w.heap.size]? =some (.cells arr ety (0,0)):=by
    show (w.heap.push _)[w.heap.size]? =_
    simp
   rw [h2] at h1
   have h3:=Option.some.inj h1
   simp only [Obj.cells.injEq] at h3
   rw [← h3.1]
  have k2:=k.la (aO _ _ _) kb (sz:=i.size) (len:=n) (cap:=n2) (hh _) (by rw [evs,harr];exact Nat.le_refl _)
  subst eb
  have le2:(M.aW id w.heap.size).Le ((M.aW id w.heap.size).aR id i.size (.slice (some ⟨w.heap.size,0,none⟩) n n2)):=MM.cL (hh _)
  refine ⟨_,_,_,_,hrun,(MM.dc hid).trans le2,k2,?_,fun j hj=>by simp [MM.aW,MM.aR,hj],fun j hj=>by funext q;simp [MM.aR,MM.aW,hj]⟩
  exact .dn (b:=w.heap.size) (by simp [MM.aW,MM.aR]) (by simp [MM.aR]) (by omega)
theorem y7 {w0:di} {w:World} {M:MM} {own:Nat→Option Nat} {σ:Nat→Ob} (hw:bj w0 M own σ w) {st xt ety rty e2:TypeId} {ts:Array TypeId} {args:Array Value} (ht:P.underlying st=some (.slice ety)) (hx:P.underlying xt=some (.slice e2)) (h0:ts[0]? =some st) (h1:ts[1]? =some xt)
  (hz:eU P ety=true) (hbytes:P.bytesOf ety≤65536) {ow':jW} {sz sz':Nat} {ys nc:List D} {u u':Value} (g0:args[0]? =some u) (g1:args[1]? =some u') (hu:bk M (.aj .tight sz []) u) (hu':bk M (.aj ow' sz' ys) u')
  (hsz':sz'=P.cellsOf ety∨ys= []) (hn:ys.length≤dZ) (hne:ys≠ []) (hc:bA ys=some nc) {id:Nat} (hid:M.box id=none) (hh:∀v,M.bG id v=none):
  ∃v M' own' w',(Builtin.append_ ts rty args).run P w= .ok v w'∧M.Le M'∧bj w0 M' own' (dJ σ id (.box nc)) w'∧bk M' (.dn id (P.cellsOf ety) ys.length) v∧(∀j,j≠id→M'.box j=M.box j)∧∀j,j≠id→M'.bG j=M.bG j:=by
 cases hu' with
 |aj b' off' vs' hl' hcap' ha' hsize' hc' hr' hst' ho'=>
  rename_i a' len' cap'
  have hrep':bk M (.aj ow' sz' ys) (.slice a' len' cap'):= .aj b' off' vs' hl' hcap' ha' hsize' hc' hr' hst' ho'
  obtain ⟨new,ns,nrow,nrun,none1⟩:=ij (P:=P) hrep' hsz' hw.cells
  obtain ⟨c1,c2⟩:=mY nrow hc
  have hpos:0<ys.length:=List.length_pos_iff.2 hne
  subst hl'
  exact uk hw ht hx h0 h1 hz hbytes g0 g1 hu ns nrun c1 c2 hn hpos hid hh
theorem mK {w0:di} {w:World} {M:MM} {own:Nat→Option Nat} {σ:Nat→Ob} (hw:bj w0 M own σ w) {t off o2 n size c b:Nat} {cs nc:List D} (hb:M.box t=some b) (hσ:σ t= .box cs) (hof:n≠0→o2=off) (hnc:(cs.drop off).take (n*size)=nc) (hle:off+n*size≤cs.length):
  ∃new:Array Value,new.size=n*size∧(∀wd:World,(∀a,wd.cell? a=w.cell? a)→(Builtin.firstCells size n (.slice (some ⟨b,o2,none⟩) n c)).run P wd= .ok new wd)∧nc.length=n*size∧∀(i:Nat) (d:D) (v:Value),nc[i]? =some d→new[i]? =some v→bk M d v:=by
 by_cases hn:n=0
 ·subst hn
  rw [Nat.zero_mul,List.take_zero] at hnc
  subst hnc
  refine ⟨#[],by simp,fun wd _=>by simp [Builtin.firstCells,loadCells,loadCellsFrom],by simp,fun i d v hd=>by simp at hd⟩
 obtain ⟨b2,vs,ty,kb⟩:=hw.box t cs hσ
 have eb:b2=b:=by have:=kb.box;rw [hb] at this;exact (Option.some.inj this).symm
 subst eb
 obtain rfl:=hof hn
 have hvl:=kb.len
 refine ⟨vs.extract o2 (o2+n*size),by rw [Array.size_extract];omega,fun wd hwd=> ?_,by rw [← hnc,List.length_take,List.length_drop];omega,fun i d v hd hv=> ?_⟩
 ·have:=gq (P:=P) (w:=wd) b2 o2 (vs.extract o2 (o2+n*size)) (fun j v hj=>by
   rw [hwd]
   rw [Array.getElem?_extract] at hj
   split at hj
   ·simp [World.cell?,kb.cy,hj]
   ·cases hj)
  rw [show (vs.extract o2 (o2+n*size)).size=n*size by rw [Array.size_extract];omega] at this
  exact this
 ·rw [Array.getElem?_extract] at hv
  split at hv
  ·rename_i hi
   rw [← hnc,List.getElem?_take,if_pos (by omega),List.getElem?_drop] at hd
   exact kb.rep _ d v hd hv
  ·cases hv
theorem pF {d:D} (h:isByte d=true):∃n,d= .int .u8 n:=by
 unfold isByte at h
 split at h
 ·exact ⟨_,rfl⟩
 ·cases h
theorem rD {M:MM} {nc:List D} {new:Array Value} (hl:nc.length=new.size) (h:nc.all isByte=true) (c2:∀(i:Nat) (d:D) (v:Value),nc[i]? =some d→new[i]? =some v→bk M d v):gj M 1 nc new∧∀v∈new.toList,v.oneCell'=true:=by
 have key:∀(i:Nat) (d:D),nc[i]? =some d→∃n,d= .int .u8 n∧new[i]? =some (.int .u8 n):=by
  intro i d hd
  obtain ⟨n,rfl⟩:=pF (List.all_eq_true.1 h d (List.mem_of_getElem? hd))
  have hi:i<new.size:=by rw [← hl];exact (List.getElem?_eq_some_iff.1 hd).1
  have e:=c2 i _ new[i] hd (by simp [hi])
  generalize hv:new[i]=v at e
  cases e
  exact ⟨n,rfl,by rw [Array.getElem?_eq_getElem hi,hv]⟩
 refine ⟨⟨by omega,fun i x hx=> ?_,fun i x cs j c hx hcs hj=> ?_,fun i x cs c hx hcs hc=> ?_⟩,fun v hv=> ?_⟩
 ·obtain ⟨n,rfl,_⟩:=key i x hx
  exact ⟨_,rfl,rfl⟩
 ·obtain ⟨n,rfl,hn⟩:=key i x hx
  simp only [D.cells,Option.some.injEq] at hcs
  subst hcs
  cases j with
  |zero=>
   simp only [List.getElem?_cons_zero,Option.some.injEq] at hj
   subst hj
   exact ⟨_,by rw [Nat.mul_one,Nat.add_zero];exact hn,.int _ _⟩
  |succ j=>simp at hj
 ·obtain ⟨n,rfl,_⟩:=key i x hx
  simp only [D.cells,Option.some.injEq] at hcs
  subst hcs
  rw [List.mem_singleton] at hc
  subst hc
  rfl
 ·obtain ⟨i,hi,rfl⟩:=List.getElem_of_mem hv
  rw [Array.length_toList,← hl] at hi
  obtain ⟨n,_,hn⟩:=key i nc[i] (List.getElem?_eq_getElem hi)
  rw [Array.getElem_toList]
  have:=(Array.getElem?_eq_some_iff.1 hn).2
  rw [this]
  rfl
theorem AN {w0:di} {w:World} {M:MM} {own:Nat→Option Nat} {σ:Nat→Ob} (hw:bj w0 M own σ w) {st xt ety rty e2:TypeId} {ts:Array TypeId} {args:Array Value} (ht:P.underlying st=some (.slice ety)) (hx:P.underlying xt=some (.slice e2)) (h0:ts[0]? =some st) (h1:ts[1]? =some xt)
  (hz:eU P ety=true) (hbytes:P.bytesOf ety≤65536) {ow':jW} {t n sz':Nat} {cs ys nc:List D} {u u':Value} (g0:args[0]? =some u) (g1:args[1]? =some u') (hu:bk M (.dn t (P.cellsOf ety) n) u) (hu':bk M (.aj ow' sz' ys) u')
  (hsz':sz'=P.cellsOf ety∨ys= []) (hn:n+ys.length≤dZ) (hc:bA ys=some nc) (hσ:σ t= .box cs) (hcs:cs.length=n*P.cellsOf ety) {id:Nat} (hid:M.box id=none) (hh:∀v,M.bG id v=none):
  ∃v M' own' w',(Builtin.append_ ts rty args).run P w= .ok v w'∧M.Le M'∧bj w0 M' own' (dJ (dJ σ t .dead) id (.box (cs++nc))) w'∧bk M' (.dn id (P.cellsOf ety) (n+ys.length)) v∧(∀j,j≠id→M'.box j=M.box j)∧∀j,j≠id→M'.bG j=M.bG j:=by
 obtain ⟨i,z,hi,hiz,hzs,hcells⟩:=gg hz
 have hbytes':i.bytes≤65536:=by simpa [Program.bytesOf,hi] using hbytes
 rw [hcells] at hu hsz' hcs ⊢
 cases hu with
 |dn hb hhist hcap=>
  rename_i b cap
  obtain ⟨b2,vs,ty,kb⟩:=hw.box t cs hσ
  have eb:b2=b:=by have:=kb.box;rw [hb] at this;exact (Option.some.inj this).symm
  subst eb
  have hroom:=kb.room _ _ _ _ hhist
  cases hu' with
  |aj b' off' vs' hl' hcap' ha' hsize' hc' hr' hst' ho'=>
   rename_i a' len' cap'
   have hrep':bk M (.aj ow' sz' ys) (.slice a' len' cap'):= .aj b' off' vs' hl' hcap' ha' hsize' hc' hr' hst' ho'
   obtain ⟨new,ns,nrow,nrun,none1⟩:=ij (P:=P) hrep' hsz' hw.cells
   have hnle:n*i.size≤vs.size:=Nat.le_trans (Nat.mul_le_mul_right _ hcap) hroom
   let iz:=vs.extract 0 (n*i.size)
   have hos:iz.size=n*i.size:=by simp [iz,Array.size_extract];omega
   have hog:∀j,j<n*i.size→iz[j]? =vs[j]? :=by
    intro j hj
    simp only [iz,Array.getElem?_extract]
    rw [if_pos (by omega),Nat.zero_add]
   have orun:∀wd:World,(∀a,wd.cell? a=w.cell? a)→(Builtin.firstCells i.size n (.slice (some ⟨b2,0,none⟩) n cap)).run P wd= .ok iz wd:=by
    intro wd hwd
    have:=gq (P:=P) (w:=wd) b2 0 iz (fun j v hj=>by
     rw [hwd]
     have hjl:j<n*i.size:=by
      rw [← hos]
      rcases Nat.lt_or_ge j iz.size with q|q
      ·exact q
      ·simp [Array.getElem?_eq_none q] at hj
     rw [hog j hjl] at hj
     simp [World.cell?,kb.cy,hj])
    rw [hos] at this
    exact this
   have hbig:n+len'≤2147483648:=by rw [← hl'];exact hn
   obtain ⟨r1,r2⟩:=gL (P:=P) (rty:=rty) ht hx h0 h1 hi hiz g0 g1 (orun w.drew fun _=>rfl) (nrun w fun _=>rfl) (nrun w.drew fun _=>rfl) hbytes' hbig
   obtain ⟨c1,c2⟩:=mY nrow hc
   have hnl:new.toList.length=len'*i.size:=by rw [Array.length_toList,ns,hl']
   rcases Nat.lt_or_ge cap (n+len') with hlt|hge
   ·
    obtain ⟨n2,hn2,hrun⟩:=r2 hlt
    let arr:=iz++new++Builtin.zeroCells z.cells (n2 - (n+len'))
    have harr:arr.size=n2*i.size:=by
     simp only [arr,Array.size_append,size_zeroCells,ns,hzs,hl',hos,← Nat.add_mul]
     congr 1;omega
    have hle:(cs++nc).length≤arr.size:=by rw [List.length_append,hcs,c1,hl',harr,← Nat.add_mul];exact Nat.mul_le_mul_right _ (by omega)
    have hreps:∀(j:Nat) (d:D) (v:Value),(cs++nc)[j]? =some d→arr[j]? =some v→bk M d v:=by
     intro j d v hd hv
     rcases Nat.lt_or_ge j cs.length with hj|hj
     ·rw [List.getElem?_append_left hj] at hd
      have hj':j<n*i.size:=by rw [← hcs];exact hj
      have e:arr[j]? =iz[j]? :=by
       simp only [arr]
       rw [Array.getElem?_append_left (by rw [Array.size_append,hos];omega),Array.getElem?_append_left (by rw [hos];exact hj')]
      rw [e,hog j hj'] at hv
      exact kb.rep j d v hd hv
     ·rw [List.getElem?_append_right hj] at hd
      have hj2:j - cs.length<nc.length:=by
       rcases Nat.lt_or_ge (j - cs.length) nc.length with q|q
       ·exact q
       ·simp [List.getElem?_eq_none q] at hd
      have e:arr[j]? =new[j - cs.length]? :=by
       simp only [arr]
       rw [Array.getElem?_append_left (by rw [Array.size_append,hos,ns,hl'];rw [c1,hl'] at hj2;rw [hcs] at hj hj2;omega),Array.getElem?_append_right (by rw [hos,← hcs];exact hj),hos,hcs]
      rw [e] at hv
      exact c2 _ d v hd hv
    have k:bj w0 (M.aW id w.heap.size) (eC own w.heap.size id) (dJ (dJ σ t .dead) id (.box (cs++nc))) (w.drew.alloc (.cells arr ety)):=(hw.drew.kill t).pt (id:=id) hid hh (cs:=cs++nc) (vs:=arr) ety hle hreps
    obtain ⟨b1,vs1,ty1,kb1⟩:=k.box id (cs++nc) (aO _ _ _)
    have eb:b1=w.heap.size:=by have:=kb1.box;simp only [MM.aW,if_true] at this;exact (Option.some.inj this).symm
    have evs:vs1.size=arr.size:=by
     have h1:=kb1.cy
     rw [eb] at h1
     have h2:(w.drew.alloc (.cells arr ety)).heap[w.heap.size]? =some (.cells arr ety (0,0)):=by
      show (w.heap.push _)[w.heap.size]? =_
      simp
     rw [h2] at h1
     have h3:=Option.some.inj h1
     simp only [Obj.cells.injEq] at h3
     rw [← h3.1]
    have k2:=k.la (aO _ _ _) kb1 (sz:=i.size) (len:=n+len') (cap:=n2) (hh _) (by rw [evs,harr];exact Nat.le_refl _)
    subst eb
    have le2:(M.aW id w.heap.size).Le ((M.aW id w.heap.size).aR id i.size (.slice (some ⟨w.heap.size,0,none⟩) (n+len') n2)):=MM.cL (hh _)
    refine ⟨_,_,_,_,hrun,(MM.dc hid).trans le2,k2,?_,fun j hj=>by simp [MM.aW,MM.aR,hj],fun j hj=>by funext q;simp [MM.aR,MM.aW,hj]⟩
    rw [hl']
    exact .dn (b:=w.heap.size) (by simp [MM.aW,MM.aR]) (by simp [MM.aR]) (by omega)
   ·
    have hrun:=r1 hge
    have hfit:n*i.size+new.toList.length≤vs.size:=by
     rw [hnl,← Nat.add_mul];exact Nat.le_trans (Nat.mul_le_mul_right _ hge) hroom
    have hstore:=ei (P:=P) (b:=b2) (off:=n*i.size) new.toList 0 w vs kb.cy none1 (by simpa using hfit) (fun o _ h=>by have:=h.2;simp at this)
    rw [Nat.add_zero] at hstore
    let vs2:=cG vs (n*i.size) new.toList
    have hs2:vs2.size=vs.size:=cQ _ _ _
    have hreps:∀(j:Nat) (d:D) (v:Value),(cs++nc)[j]? =some d→vs2[j]? =some v→bk M d v:=by
     intro j d v hd hv
     simp only [vs2] at hv
     rw [eQ _ _ _ _ hfit] at hv
     rcases Nat.lt_or_ge j cs.length with hj|hj
     ·rw [List.getElem?_append_left hj] at hd
      rw [if_neg (by rw [hcs] at hj;omega)] at hv
      exact kb.rep j d v hd hv
     ·rw [List.getElem?_append_right hj] at hd
      have hj2:j - cs.length<nc.length:=by
       rcases Nat.lt_or_ge (j - cs.length) nc.length with q|q
       ·exact q
       ·simp [List.getElem?_eq_none q] at hd
      rw [c1,hl'] at hj2
      rw [hcs] at hj hj2 hd
      rw [if_pos ⟨hj,by rw [hnl];omega⟩] at hv
      exact c2 _ d v hd (by simpa using hv)
    have hle:(cs++nc).length≤vs2.size:=by rw [List.length_append,hcs,c1,hl',hs2,← hnl];exact hfit
    have k:=hw.yt kb hid hh hle hreps
    obtain ⟨b1,vs1,ty1,kb1⟩:=k.box id (cs++nc) (aO _ _ _)
    have eb:b1=b2:=by have:=kb1.box;simp only [MM.aW,if_true] at this;exact (Option.some.inj this).symm
    subst eb
    have evs:vs1.size=vs.size:=by
     have h1:=kb1.cy
     rw [dy kb.cy] at h1
     have h3:=Option.some.inj h1
     simp only [Obj.cells.injEq] at h3
     rw [← h3.1,hs2]
    have k2:=k.la (aO _ _ _) kb1 (sz:=i.size) (len:=n+len') (cap:=cap) (hh _) (by rw [evs];exact hroom)
    have le2:(M.aW id b1).Le ((M.aW id b1).aR id i.size (.slice (some ⟨b1,0,none⟩) (n+len') cap)):=MM.cL (hh _)
    refine ⟨.slice (some ⟨b1,0,none⟩) (n+len') cap,_,_,aZ w b1 (.cells vs2 ty (0,0)),?_,(MM.dc hid).trans le2,k2,?_,fun j hj=>by simp [MM.aW,MM.aR,hj],fun j hj=>by funext q;simp [MM.aR,MM.aW,hj]⟩
    ·rw [hrun]
     simp only [ev,Nat.zero_add,Sem.run_bind,hstore,Result.andThen_ok,Sem.run_pure]
     rfl
    ·rw [hl']
     exact .dn (b:=b1) (by simp [MM.aW,MM.aR]) (by simp [MM.aR]) hge
theorem AL {w0:di} {w:World} {M:MM} {own:Nat→Option Nat} {σ:Nat→Ob} (hw:bj w0 M own σ w) {st xt ety rty e2:TypeId} {ts:Array TypeId} {args:Array Value} (ht:P.underlying st=some (.slice ety)) (hx:P.underlying xt=some (.slice e2)) (h0:ts[0]? =some st) (h1:ts[1]? =some xt)
  (hz:eU P ety=true) (hbytes:P.bytesOf ety≤65536) {t n n2 off2 sz1 sz2:Nat} {cp2:Option Nat} {cs nc nc2:List D} {u u':Value} (g0:args[0]? =some u) (g1:args[1]? =some u') (hu:bk M (.sub t 0 sz1 n (some n)) u) (hu':bk M (.sub t off2 sz2 n2 cp2) u')
  (hn:n+n2≤dZ) (hpos:0<n+n2) (hσ:σ t= .box cs) (hg:(cs.drop 0).take (n*P.cellsOf ety)=nc) (hgl:0+n*P.cellsOf ety≤cs.length) (hg2:(cs.drop off2).take (n2*P.cellsOf ety)=nc2) (hgl2:off2+n2*P.cellsOf ety≤cs.length) {id:Nat} (hid:M.box id=none) (hh:∀v,M.bG id v=none):
  ∃v M' own' w',(Builtin.append_ ts rty args).run P w= .ok v w'∧M.Le M'∧bj w0 M' own' (dJ (dJ σ t .dead) id (.box (nc++nc2))) w'∧bk M' (.dn id (P.cellsOf ety) (n+n2)) v∧(∀j,j≠id→M'.box j=M.box j)∧∀j,j≠id→M'.bG j=M.bG j:=by
 obtain ⟨i,z,hi,hiz,hzs,hcells⟩:=gg hz
 have hbytes':i.bytes≤65536:=by simpa [Program.bytesOf,hi] using hbytes
 rw [hcells] at hg hgl hg2 hgl2 ⊢
 cases hu with
 |sub hb hc hp ho=>
  rename_i b o2 cap
  obtain rfl:=hp n rfl
  cases hu' with
  |sub hb' hc' hp' ho'=>
   rename_i b' o2' cap'
   obtain ⟨iz,os,orun,oc1,oc2⟩:=mK (P:=P) (c:=cap) hw hb hσ ho hg hgl
   obtain ⟨new,ns,nrun,c1,c2⟩:=mK (P:=P) (c:=cap') hw hb' hσ ho' hg2 hgl2
   obtain ⟨b2,vs,ty,kb⟩:=hw.box t cs hσ
   have eb:b2=b:=by have:=kb.box;rw [hb] at this;exact (Option.some.inj this).symm
   subst eb
   have hvl:=kb.len
   have hbig:cap+n2≤2147483648:=hn
   obtain ⟨r1,r2⟩:=gL (P:=P) (rty:=rty) ht hx h0 h1 hi hiz g0 g1 (orun w.drew fun _=>rfl) (nrun w fun _=>rfl) (nrun w.drew fun _=>rfl) hbytes' hbig
   by_cases hn2:n2=0
   ·
    subst hn2
    have hnz:cap≠0:=by omega
    obtain rfl:=ho hnz
    have hnew:new= #[]:=Array.eq_empty_of_size_eq_zero (by rw [ns];simp)
    have hnc2:nc2= []:=List.eq_nil_of_length_eq_zero (by rw [c1];simp)
    subst hnew
    subst hnc2
    have hrun:=r1 (Nat.le_refl _)
    have hstore:=ei (P:=P) (b:=b2) (off:=cap*i.size) (#[]:Array Value).toList 0 w vs kb.cy (fun v hv=>by simp at hv) (by simp;omega) (fun o _ h=>by have:=h.2;simp at this)
    rw [Nat.add_zero] at hstore
    let vs2:=cG vs (cap*i.size) (#[]:Array Value).toList
    have hs2:vs2.size=vs.size:=cQ _ _ _
    have hreps:∀(j:Nat) (d:D) (v:Value),(nc++ [])[j]? =some d→vs2[j]? =some v→bk M d v:=by
     intro j d v hd hv
     simp only [vs2] at hv
     rw [eQ _ _ _ _ (by simp;omega)] at hv
     rw [if_neg (by simp)] at hv
     rw [List.append_nil,← hg,List.getElem?_take,List.drop_zero] at hd
     split at hd
     ·exact kb.rep j d v hd hv
     ·cases hd
    have hle:(nc++ []).length≤vs2.size:=by rw [List.append_nil,oc1,hs2];omega
    have k:=hw.yt kb hid hh hle hreps
    obtain ⟨b1,vs1,ty1,kb1⟩:=k.box id (nc++ []) (aO _ _ _)
    have eb:b1=b2:=by have:=kb1.box;simp only [MM.aW,if_true] at this;exact (Option.some.inj this).symm
    subst eb
    have evs:vs1.size=vs.size:=by
     have h1:=kb1.cy
     rw [dy kb.cy] at h1
     have h3:=Option.some.inj h1
     simp only [Obj.cells.injEq] at h3
     rw [← h3.1,hs2]
    have k2:=k.la (aO _ _ _) kb1 (sz:=i.size) (len:=cap+0) (cap:=cap) (hh _) (by rw [evs];omega)
    have le2:(M.aW id b1).Le ((M.aW id b1).aR id i.size (.slice (some ⟨b1,0,none⟩) (cap+0) cap)):=MM.cL (hh _)
    refine ⟨.slice (some ⟨b1,0,none⟩) (cap+0) cap,_,_,aZ w b1 (.cells vs2 ty (0,0)),?_,(MM.dc hid).trans le2,k2,?_,fun j hj=>by simp [MM.aW,MM.aR,hj],fun j hj=>by funext q;simp [MM.aR,MM.aW,hj]⟩
    ·rw [hrun]
     simp only [ev,Nat.zero_add,Sem.run_bind,hstore,Result.andThen_ok,Sem.run_pure]
     rfl
    ·exact .dn (b:=b1) (by simp [MM.aW,MM.aR]) (by simp [MM.aR]) (Nat.le_refl _)
   ·
    obtain ⟨n3,hn3,hrun⟩:=r2 (by omega)
    let arr:=iz++new++Builtin.zeroCells z.cells (n3 - (cap+n2))
    have harr:arr.size=n3*i.size:=by
     simp only [arr,Array.size_append,size_zeroCells,ns,hzs,os,← Nat.add_mul]
     congr 1;omega
    have hle:(nc++nc2).length≤arr.size:=by rw [List.length_append,oc1,c1,harr,← Nat.add_mul];exact Nat.mul_le_mul_right _ (by omega)
    have hreps:∀(j:Nat) (d:D) (v:Value),(nc++nc2)[j]? =some d→arr[j]? =some v→bk M d v:=by
     intro j d v hd hv
     rcases Nat.lt_or_ge j nc.length with hj|hj
     ·rw [List.getElem?_append_left hj] at hd
      have e:arr[j]? =iz[j]? :=by
       simp only [arr]
       rw [Array.getElem?_append_left (by rw [Array.size_append,os,← oc1];omega),Array.getElem?_append_left (by rw [os,← oc1];exact hj)]
      rw [e] at hv
      exact oc2 j d v hd hv
     ·rw [List.getElem?_append_right hj] at hd
      have hj2:j - nc.length<nc2.length:=by
       rcases Nat.lt_or_ge (j - nc.length) nc2.length with q|q
       ·exact q
       ·simp [List.getElem?_eq_none q] at hd
      have e:arr[j]? =new[j - nc.length]? :=by
       simp only [arr]
       rw [Array.getElem?_append_left (by rw [Array.size_append,os,ns,← oc1,← c1];omega),Array.getElem?_append_right (by rw [os,← oc1];exact hj),os,← oc1]
      rw [e] at hv
      exact c2 _ d v hd hv
    have k:bj w0 (M.aW id w.heap.size) (eC own w.heap.size id) (dJ (dJ σ t .dead) id (.box (nc++nc2))) (w.drew.alloc (.cells arr ety)):=(hw.drew.kill t).pt (id:=id) hid hh (cs:=nc++nc2) (vs:=arr) ety hle hreps
    obtain ⟨b1,vs1,ty1,kb1⟩:=k.box id (nc++nc2) (aO _ _ _)
    have eb:b1=w.heap.size:=by have:=kb1.box;simp only [MM.aW,if_true] at this;exact (Option.some.inj this).symm
    have evs:vs1.size=arr.size:=by
     have h1:=kb1.cy
     rw [eb] at h1
     have h2:(w.drew.alloc (.cells arr ety)).heap[w.heap.size]? =some (.cells arr ety (0,0)):=by
      show (w.heap.push _)[w.heap.size]? =_
      simp
     rw [h2] at h1
     have h3:=Option.some.inj h1
     simp only [Obj.cells.injEq] at h3
     rw [← h3.1]
    have k2:=k.la (aO _ _ _) kb1 (sz:=i.size) (len:=cap+n2) (cap:=n3) (hh _) (by rw [evs,harr];exact Nat.le_refl _)
    subst eb
    have le2:(M.aW id w.heap.size).Le ((M.aW id w.heap.size).aR id i.size (.slice (some ⟨w.heap.size,0,none⟩) (cap+n2) n3)):=MM.cL (hh _)
    refine ⟨_,_,_,_,hrun,(MM.dc hid).trans le2,k2,?_,fun j hj=>by simp [MM.aW,MM.aR,hj],fun j hj=>by funext q;simp [MM.aR,MM.aW,hj]⟩
    exact .dn (b:=w.heap.size) (by simp [MM.aW,MM.aR]) (by simp [MM.aR]) (by omega)
end
def MM.wT (M:MM) (b n:Nat) (vs:Array Value):MM:=M.bw b fun o=>if o<n then vs[o]? else none
theorem MM.CX {M:MM} {b n:Nat} {vs:Array Value} (h:∀o,M.cell b o=none):M.Le (M.wT b n vs):=by
 refine ⟨fun c o v hc=> ?_,fun _ _ x=>x,fun _ _ _ x=>x,fun _ x=>x⟩
 have:c≠b:=fun e=>by rw [e,h o] at hc;cases hc
 simp only [MM.wT,MM.bw,this,if_false]
 exact hc
theorem bj.freeze {w0:di} {w:World} {M:MM} {own:Nat→Option Nat} {σ:Nat→Ob} (h:bj w0 M own σ w) {id b n:Nat} {cs:List D} {vs:Array Value} {ty:TypeId} (k:nV w0 M own id cs w b vs ty):
  bj w0 (M.wT b n vs) own (dJ σ id .dead) w:=by
 have le:M.Le (M.wT b n vs):=MM.CX k.none
 have hne:∀ {i c:Nat},own c=some i→i≠id→c≠b:=fun hi e ec=>by rw [ec,k.own] at hi;exact e (Option.some.inj hi).symm
 have hnone:∀ {c o:Nat},c≠b→M.cell c o=none→(M.wT b n vs).cell c o=none:=fun hc hn=>by simp only [MM.wT,MM.bw,hc,if_false];exact hn
 refine ⟨h.below,?_,?_,h.owned,?_,?_,?_,?_,h.eL⟩
 ·intro c o v hc
  by_cases e:c=b
  ·subst e
   simp only [MM.wT,MM.bw,if_true] at hc
   split at hc
   ·simp [World.cell?,k.cy,hc]
   ·cases hc
  ·simp only [MM.wT,MM.bw,e,if_false] at hc
   exact h.cells c o v hc
 ·intro c o v hc hlt
  have e:c≠b:=fun e=>k.base (e▸hlt)
  simp only [MM.wT,MM.bw,e,if_false] at hc
  exact h.iz c o v hc hlt
 ·intro i cs2 hi
  by_cases e:i=id
  ·rw [e,aO] at hi;cases hi
  ·rw [aQ e] at hi
   obtain ⟨c,vs2,ty2,k2⟩:=h.box i cs2 hi
   exact ⟨c,vs2,ty2,k2.box,k2.base,k2.own,fun o=>hnone (hne k2.own e) (k2.none o),k2.cy,k2.len,fun j d v a b=>(k2.rep j d v a b).mono le,k2.room⟩
 ·intro i ver sz hi
  by_cases e:i=id
  ·rw [e,aO] at hi;cases hi
  ·rw [aQ e] at hi
   obtain ⟨a,len,cap,k2⟩:=h.bX i ver sz hi
   refine ⟨a,len,cap,k2.bG,k2.last,?_⟩
   rcases k2.room with r|⟨c,vs2,ty2,fz,ha,r⟩
   ·exact .inl r
   ·exact .inr ⟨c,vs2,ty2,fz,ha,r.base,r.own,r.cy,r.fz,r.cap,fun o ho=>hnone (hne r.own e) (r.none o ho)⟩
 ·intro i F hi
  by_cases e:i=id
  ·rw [e,aO] at hi;cases hi
  ·rw [aQ e] at hi
   obtain ⟨c,ents,clock,q⟩:=h.mp i F hi
   exact ⟨c,ents,clock,q.box,q.base,q.own,fun o=>hnone (hne q.own e) (q.none o),q.cy,q.fits⟩
 ·intro i k2 t ps ag bd hi
  by_cases e:i=id
  ·rw [e,aO] at hi;cases hi
  ·rw [aQ e] at hi
   obtain ⟨l,r,q⟩:=h.lp i k2 t ps ag bd hi
   exact ⟨l,r,q.aB le q.own q.cy⟩
def rows (sz:Nat):Nat→List D→List D
  |0,_=> []
  |n+1,cs=> .agg (cs.take sz)::rows sz n (cs.drop sz)
theorem B6 {w0:di} {w:World} {M:MM} {own:Nat→Option Nat} {id b n cap:Nat} {cs:List D} {vs:Array Value} {ty:TypeId} (k:nV w0 M own id cs w b vs ty) (hl:cs.length=n) (hcap:n≤cap) (hb:cs.all isByte=true):
  bk (M.wT b cs.length vs) (.aj .no 1 cs) (.slice (some ⟨b,0,none⟩) n cap):=by
 have key:∀ {i:Nat} {x:D},cs[i]? =some x→i<cs.length∧∃m,x= .int .u8 m∧vs[i]? =some (.int .u8 m):=by
  intro i x h
  obtain ⟨hlt,_⟩:=List.getElem?_eq_some_iff.1 h
  rw [List.all_eq_true] at hb
  obtain ⟨m,rfl⟩:=pF (hb x (List.mem_of_getElem? h))
  obtain ⟨v,hv,hr⟩:=kP k.len k.rep h
  cases hr
  exact ⟨hlt,m,rfl,hv⟩
 refine .aj b 0 (fun i j=>vs.getD (i*1+j) .nilFunc) hl hcap (fun _=>rfl) ?_ ?_ ?_ ?_ trivial
 ·intro i x h1
  obtain ⟨hlt,m,rfl,hv⟩:=key h1
  exact ⟨_,rfl,rfl⟩
 ·intro i x c' j c h1 h2 h3
  obtain ⟨hlt,m,rfl,hv⟩:=key h1
  simp only [D.cells,Option.some.injEq] at h2
  subst h2
  cases j with
  |zero=>simp only [MM.wT,MM.bw,if_true,Nat.zero_add,Nat.mul_one,Nat.add_zero,if_pos hlt,Array.getD_eq_getD_getElem?,hv,Option.getD_some]
  |succ j=>simp at h3
 ·intro i x c' j c h1 h2 h3
  obtain ⟨hlt,m,rfl,hv⟩:=key h1
  simp only [D.cells,Option.some.injEq] at h2
  subst h2
  cases j with
  |zero=>
   simp only [List.getElem?_cons_zero,Option.some.injEq] at h3
   subst h3
   simp only [Nat.mul_one,Nat.add_zero,Array.getD_eq_getD_getElem?,hv,Option.getD_some]
   exact .int _ _
  |succ j=>simp at h3
 ·intro i x c' c h1 h2 h3
  obtain ⟨hlt,m,rfl,hv⟩:=key h1
  simp only [D.cells,Option.some.injEq] at h2
  subst h2
  rw [List.mem_singleton] at h3
  subst h3
  rfl
theorem ai.wT {P:Program} {f:FuncId} {args:List D} {s s':List Ob} {id n:Nat} {cs:List D} (h:ai P f args s (.dn id 1 n) s') (hs:s'.getD id .dead= .box cs) (hl:cs.length=n) (hb:cs.all isByte=true):
  ai P f args s (.aj .no 1 cs) (s'.set id .dead):=by
 have hlt:id<s'.length:=by
  rcases Nat.lt_or_ge id s'.length with q|q
  ·exact q
  ·rw [List.getD_eq_getElem?_getD,List.getElem?_eq_none q] at hs;cases hs
 refine ⟨h.ED,by rw [List.length_set];exact h.len,fun w0 M own w vs hw hup hr=>Calls.mono (h.run w0 M own w vs hw hup hr) ?_⟩
 rintro e w' ⟨v,M',own',rfl,q1,q2,q3,q4⟩
 cases q4 with
 |dn hbx hhist hcap=>
  rename_i b cap
  obtain ⟨b2,vb,ty,kb⟩:=q1.box id cs hs
  have eb:b2=b:=by have:=kb.box;rw [hbx] at this;exact (Option.some.inj this).symm
  subst eb
  refine ⟨_,M'.wT b2 cs.length vb,own',rfl,?_,?_,q3.trans (MM.CX kb.none),B6 kb hl hcap hb⟩
  ·rw [kK hlt];exact q1.freeze (n:=cs.length) kb
  ·rw [List.length_set];exact q2
section
variable {ρ':Type} {P:Program} {r:ρ'} {o:Oper} {ρ:Operand→D}
theorem foldl_push (l:List D) (h:l.all isByte=true):∃ns:List Int,l=ns.map (fun n=>D.int .u8 n)∧je l=ns.foldl (fun r n=>r.push (UInt8.ofNat n.toNat)) ByteArray.empty:=by
 have key:∀(l:List D) (s:ByteArray),l.all isByte=true→∃ns:List Int,l=ns.map (fun n=>D.int .u8 n)∧(⟨s.data++(l.map byteOf).toArray⟩:ByteArray)=ns.foldl (fun r n=>r.push (UInt8.ofNat n.toNat)) s:=by
  intro l
  induction l with
  |nil=>intro s _;exact ⟨[],rfl,by simp⟩
  |cons d t ih=>
   intro s h
   rw [List.all_cons,Bool.and_eq_true] at h
   obtain ⟨n,rfl⟩:∃n,d= .int .u8 n:=by
    have h1:=h.1
    unfold isByte at h1
    split at h1
    ·exact ⟨_,rfl⟩
    ·cases h1
   obtain ⟨ns,e1,e2⟩:=ih (s.push (UInt8.ofNat n.toNat)) h.2
   refine ⟨n::ns,by simp [e1],?_⟩
   rw [List.foldl_cons,← e2]
   congr 1
   apply Array.ext'
   simp [byteOf,ByteArray.push]
 obtain ⟨ns,e1,e2⟩:=key l ByteArray.empty h
 refine ⟨ns,e1,?_⟩
 rw [← e2]
 unfold je
 congr 1
 apply Array.ext'
 simp [ByteArray.empty,ByteArray.emptyWithCapacity]
 rfl
theorem Bh {z:Z P} {src dst:TypeId} {x:Operand} {K:Z P→ig→Option ρ'} (ho:o.op= .convert src dst x) (h:Dk P z src dst (ρ x) K=some r):
  ∃e z',K z' e=some r∧(z'.c→z.c∧ey P o ρ e)∧((∃d,e= .pure d)∨∃q m,e= .new q m):=by
 unfold Dk at h
 split at h
 ·rename_i hs hd hx
  refine ⟨_,z,h,fun c=>⟨c,br fun M w a _ hr=> ?_⟩,.inl ⟨_,rfl⟩⟩
  have h1:=ck (hr x (by simp [ho,Op.operands])) hx
  rename_i d k _ n _
  exact ⟨.int _ _,by simp [execOp,ho,h1,convert,run_underlying hs,run_underlying hd,Conv.intToInt],.int _ _⟩
 ·rename_i hs hd hx
  refine ⟨_,z,h,fun c=>⟨c,br fun M w a _ hr=> ?_⟩,.inl ⟨_,rfl⟩⟩
  have h1:=hr x (by simp [ho,Op.operands])
  rw [hx] at h1
  generalize hv:a.eval x=v at h1
  cases h1
  exact ⟨.string _,by simp [execOp,ho,hv,convert,run_underlying hs,run_underlying hd],.str _⟩
 ·rename_i e s hs hd hx
  split at h
  ·rename_i he
   refine ⟨_,z,h,fun c=>⟨c,?_⟩,.inr ⟨_,_,rfl⟩⟩
   intro w0 M own σ w a id hw hr hpre next Q hn
   have h1:=hr x (by simp [ho,Op.operands])
   rw [hx] at h1
   generalize hv:a.eval x=v at h1
   cases h1
   let cap:=grownCap w s.size 0 e
   have hcap:s.size≤cap:=grownCap_ge w _ _ _
   let arr:Array Value:=(s.data.map fun b=>Value.int .u8 b.toNat)++Array.replicate (cap - s.size) (.int .u8 0)
   have hss:s.data.size=s.size:=rfl
   have harr:arr.size=cap:=by simp [arr,hss];omega
   have hrow:gj M 1 (ji s) arr:=by
    have hb:∀ {i:Nat} {x:D},(ji s)[i]? =some x→∃c,s.data[i]? =some c∧x=vF c:=by
     intro i x hi
     unfold ji at hi
     rw [List.getElem?_map,Option.map_eq_some_iff] at hi
     obtain ⟨c,hc,rfl⟩:=hi
     exact ⟨c,by simpa using hc,rfl⟩
    refine ⟨?_,?_,?_,?_⟩
    ·rw [harr,Nat.mul_one];simp [ji,hss];exact hcap
    ·intro i x hi
     obtain ⟨c,_,rfl⟩:=hb hi
     exact ⟨[vF c],rfl,rfl⟩
    ·intro i x cs j c hi hcs hj
     obtain ⟨b,hb1,rfl⟩:=hb hi
     simp only [vF,D.cells,Option.some.injEq] at hcs
     subst hcs
     cases j with
     |succ j=>simp at hj
     |zero=>
      simp at hj
      subst hj
      refine ⟨.int .u8 b.toNat,?_,.int _ _⟩
      have hlt:i<s.data.size:=by
       rcases Nat.lt_or_ge i s.data.size with q|q
       ·exact q
       ·simp [Array.getElem?_eq_none q] at hb1
      simp only [arr,Nat.mul_one,Nat.add_zero]
      rw [Array.getElem?_append_left (by simpa using hlt)]
      simp [hb1]
    ·intro i x cs c hi hcs hcc
     obtain ⟨b,_,rfl⟩:=hb hi
     simp only [vF,D.cells,Option.some.injEq] at hcs
     subst hcs
     simp at hcc
     subst hcc
     rfl
   have hlen:(ji s).length=s.size:=by simp [ji,hss]
   have hx2:=oC (M:=M) (w:=w) (wd:=w.drew) (arr:=arr) (ty:=e) (n:=s.size) hw.cells rfl (Below.refl _ _).drew (arr.size,arr.size+1)
   obtain ⟨hw2,le2⟩:=hw.ext hx2 rfl rfl rfl
   have hheap:(w.drew.alloc (.cells arr e (arr.size,arr.size+1))).heap[w.heap.size]? =some (.cells arr e (arr.size,arr.size+1)):=by
    show (w.heap.push _)[w.heap.size]? =_
    simp
   have hfree:own w.heap.size=none:=by
    cases e:own w.heap.size with
    |none=>rfl
    |some q=>have:=hw.owned _ _ e;omega
   obtain ⟨own',hw3⟩:=hw2.o6 (id:=id) (ver:=0) (fun v _=>hpre.2 v) (a:=some ⟨w.heap.size,0,none⟩) (len:=s.size) (cap:=cap) 1
    (.inr ⟨w.heap.size,arr,e,(arr.size,arr.size+1),rfl,hw.below.new,.inl hfree,hheap,fun o ho h=>by have:=h.1;simp at this;omega,by rw [harr];omega,fun o ho=>by
     simp only [MM.lay,MM.bw,if_true];rw [if_neg (by omega)]⟩)
   have le3:=MM.cL (M:=M.lay w.heap.size arr s.size) (id:=id) (ver:=0) (v:= .slice (some ⟨w.heap.size,0,none⟩) s.size cap) (hpre.2 0)
   refine cF (v:= .slice (some ⟨w.heap.size,0,none⟩) s.size cap) (w':=w.drew.alloc (.cells arr e (arr.size,arr.size+1))) ?_ (hn _ _ own' _ (le2.trans le3) ⟨fun _ _=>rfl,fun j hj=>by funext k;simp [MM.aR,hj,MM.lay,MM.bw]⟩ hw3 ?_)
   ·have hfz:(w.drew.alloc (.cells arr e)).freeze ⟨w.heap.size,arr.size,none⟩ 1=w.drew.alloc (.cells arr e (arr.size,arr.size+1)):=by
     unfold World.freeze World.alloc
     simp only [Nat.one_ne_zero,if_false]
     congr 1
     apply Array.ext_getElem?
     intro k
     rw [Array.getElem?_modify]
     by_cases e1:w.heap.size=k
     ·subst e1
      rw [if_pos rfl]
      show Option.map _ ((w.heap.push _)[w.heap.size]?)=(w.heap.push _)[w.heap.size]?
      simp
     ·rw [if_neg e1]
      show (w.heap.push _)[k]? =(w.heap.push _)[k]?
      rw [Array.getElem?_push,Array.getElem?_push,if_neg (Ne.symm e1),if_neg (Ne.symm e1)]
    have hshape:(w.drew.alloc (.cells arr e)).shape? w.heap.size=some (e,arr.size):=by
     unfold World.shape?
     have:(w.drew.alloc (.cells arr e)).heap[w.heap.size]? =some (.cells arr e):=by
      show (w.heap.push _)[w.heap.size]? =_
      simp
     rw [this]
    have hforced:(Question.appendCap s.size 0 e).forced=false:=rfl
    have hch:(choose (.appendCap s.size 0 e)).run P w= .ok cap w.drew:=by
     rw [run_choose,hforced];rfl
    have hrow2:(newRow e arr).run P w.drew= .ok ⟨w.heap.size,0,none⟩ (w.drew.alloc (.cells arr e)):=by first|(simp [newRow];done)|(simp [newRow];rfl)
    simp only [execOp,ho,hv,convert,Sem.run_bind,run_underlying hs,run_underlying hd,run_underlying he,Result.andThen_ok,Conv.stringToBytes,hch]
    rw [show (newRow e ((s.data.map fun b=>Value.int .u8 b.toNat)++Array.replicate (cap - s.size) (.int .u8 0)))=newRow e arr from rfl,hrow2]
    simp only [Result.andThen_ok,markStringish,Sem.run_bind,run_shape,hshape,run_freeze,hfz,Sem.run_pure]
   ·have h5:=oh (M:=M) (b:=w.heap.size) (o:= .no) (cap:=cap) (n:=s.size) hrow (dg hw.cells (Nat.le_refl _)) (by rw [hlen];exact hcap) (by rw [hlen];omega) trivial
    rw [hlen] at h5
    exact (h5.mono le3).flag _ (by simp [MM.m5,MM.aR])
  ·cases h
 ·rename_i e ow sz xs hs hd hx
  split at h
  ·rename_i he
   obtain ⟨z',h1,h2⟩:=cM h
   refine ⟨_,z',h1,fun c=>⟨(h2 c).1,br fun M w a hw hr=> ?_⟩,.inl ⟨_,rfl⟩⟩
   have hrx:=hr x (by simp [ho,Op.operands])
   rw [hx] at hrx
   generalize hv:a.eval x=v at hrx
   obtain ⟨ns,e1,e2⟩:=foldl_push xs (h2 c).2
   cases hrx with
   |aj b off vs hl hcap ha hsz hc hrr hst ho'=>
    rename_i ad len cap
    have hrep:bk M (.aj ow sz xs) (.slice ad len cap):= .aj b off vs hl hcap ha hsz hc hrr hst ho'
    have hsz1:sz=1∨xs= []:=by
     cases xs with
     |nil=>exact .inr rfl
     |cons d t=>
      left
      obtain ⟨cs,q1,q2⟩:=hsz 0 d rfl
      cases ns with
      |nil=>simp at e1
      |cons n ns=>simp at e1;rw [e1.1] at q1;simp [D.cells] at q1;subst q1;simpa using q2.symm
    obtain ⟨arr,os,orow,orun,_⟩:=ij (P:=P) hrep hsz1 hw
    have harr:arr=(ns.map (Value.int .u8)).toArray:=by
     apply Array.ext_getElem?
     intro k
     have hlen:xs.length=ns.length:=by rw [e1];simp
     rcases Nat.lt_or_ge k ns.length with q|q
     ·have hxk:xs[k]? =some (.int .u8 ns[k]):=by rw [e1];simp [q]
      obtain ⟨u,hu,hru⟩:=orow.get k _ [.int .u8 ns[k]] 0 _ hxk rfl rfl
      cases hru
      rw [Nat.mul_one,Nat.add_zero] at hu
      rw [hu]
      simp [q]
     ·rw [Array.getElem?_eq_none (by omega),Array.getElem?_eq_none (by simpa using q)]
    have hfin:(Conv.bytesToString (.slice ad len cap)).run P w= .ok (.string (je xs)) w:=by
     rw [e2]
     cases ad with
     |none=>
      have:xs= []:=by
       cases xs with
       |nil=>rfl
       |cons d t=>have:=ha (by simp);cases this
      subst this
      have:ns= []:=by simpa using e1.symm
      subst this
      simp [Conv.bytesToString]
     |some ad=>
      have:=orun w (fun _=>rfl)
      simp only [Builtin.firstCells,Nat.mul_one] at this
      rw [harr] at this
      exact run_bytesToString w ad len cap ns this
    refine ⟨.string (je xs),?_,.str _⟩
    simp only [execOp,ho,hv,Sem.run_bind,run_convert_bytes_string w src dst e ad len cap hs he hd,hfin,Result.andThen_ok,Sem.run_pure]
  ·cases h
 ·cases h
theorem qD {z:Z P} {st xt ety e2:TypeId} {ts:Array TypeId} {id off sz n sz1:Nat} {s:List Ob} {K:Z P→ig→Option ρ'} {args:Act→Array Value} {ux uy:Act→Value}
  (hexec:∀(a:Act) (w w':World) (v:Value),(Builtin.append_ ts o.type (args a)).run P w= .ok v w'→(execOp a.eval o).run P w= .ok (.value v) w') (ht:P.underlying st=some (.slice ety)) (hx:P.underlying xt=some (.slice e2)) (h0:ts[0]? =some st) (h1:ts[1]? =some xt)
  (g0:∀a,(args a)[0]? =some (ux a)) (g1:∀a,(args a)[1]? =some (uy a)) (hux:∀(M:MM) (a:Act),(∀q∈o.op.operands,bk M (ρ q) (a.eval q))→bk M (.aj .tight sz1 []) (ux a))
  (huy:∀(M:MM) (a:Act),(∀q∈o.op.operands,bk M (ρ q) (a.eval q))→∃b o2 c,uy a= .slice (some ⟨b,o2,none⟩) n c∧M.box id=some b∧(n≠0→o2=off))
  (h:x6 P z ety id off sz n s K=some r):∃e z',K z' e=some r∧(z'.c→z.c∧ie P o ρ s e):=by
 unfold x6 at h
 split at h
 ·rename_i cs hcs
  obtain ⟨hchk,h⟩:=aY h
  simp only [Bool.and_eq_true,Nat.ble_eq,Nat.beq_eq] at hchk
  obtain ⟨⟨hzero,hsz⟩,hb⟩:=hchk
  obtain ⟨z1,h,hz1⟩:=gW h
  subst hsz
  split at h
  ·rename_i q r0 hzo0
   split at h
   ·rename_i hs1
    rw [Nat.beq_eq] at hs1
    split at h
    ·rename_i l i k nc hg rest
     obtain ⟨z2,h,hz2⟩:=cM h
     refine ⟨_,z2,h,fun hc=> ?_⟩
     obtain ⟨⟨e1,e2',e3⟩,hc1⟩:=(hz2 hc).1
     have hby:=(hz2 hc).2
     subst e1 e2' e3
     refine ⟨(hz1 hc1).1,by simp,?_⟩
     intro w0 M own w a hw hup hr next Q hn
     obtain ⟨b,o2,c,huv,hbx,hof⟩:=huy M a hr
     obtain ⟨new,ns,nrun,c1,c2⟩:=mK (P:=P) (c:=c) hw hbx hcs hof hg.1 hg.2
     have hnn:nc.length=n:=by rw [c1,hs1,Nat.mul_one]
     obtain ⟨nrow,none1⟩:=rD (by rw [c1,ns]) hby c2
     have g1':=g1 a
     rw [huv] at g1'
     have hrx:=hux M a hr
     obtain ⟨v,M',own',w',q1,q2,q3,q4,q5,q6⟩:=qg (rty:=o.type) (ys:=nc) hw ht hx h0 h1 hzero hb (g0 a) g1' hrx hnn (by rw [ns,hnn]) (by rw [hs1];exact nrow) nrun none1 (.inr rfl) (by rw [List.length_nil,Nat.zero_add,hnn];exact (hz1 hc1).2) (id:=s.length) (ver:=0) (fun v _=>hup.2 _ v (Nat.le_refl _))
      (fun ad len cap e=>by
       rw [e] at hrx
       cases hrx with
       |aj b off vs hl hcap ha hsz hc hr hst ho=>exact .inl ho)
     rw [List.nil_append] at q4
     refine cF (hexec a w w' v q1) (hn v M' own' w' q2 ⟨fun i hi=> ?_,fun i q hi=> ?_⟩ ?_ q4)
     ·simp only [List.length_append,List.length_cons,List.length_nil] at hi
      rw [q5];exact hup.1 i (by omega)
     ·simp only [List.length_append,List.length_cons,List.length_nil] at hi
      rw [q6 i (by omega)];exact hup.2 i q (by omega)
     ·rw [jD];exact q3
    ·cases h
   ·cases h
  have hh:=cM h
  clear h
  obtain ⟨z2,h,hz2⟩:=hh
  split at h
  ·rename_i l i k nc hg rest hzo
   refine ⟨_,_,h,fun hc=> ?_⟩
   obtain ⟨⟨e1,e2',e3⟩,hc2⟩:=hc
   subst e1 e2' e3
   have hc1:=(hz2 hc2).1
   have hpos:=(hz2 hc2).2
   rw [Nat.blt_eq] at hpos
   refine ⟨(hz1 hc1).1,by simp,?_⟩
   intro w0 M own w a hw hup hr next Q hn
   obtain ⟨b,o2,c,huv,hbx,hof⟩:=huy M a hr
   obtain ⟨new,ns,nrun,c1,c2⟩:=mK (P:=P) (c:=c) hw hbx hcs hof hg.1 hg.2
   have g1':=g1 a
   rw [huv] at g1'
   obtain ⟨v,M',own',w',q1,q2,q3,q4,q5,q6⟩:=uk (rty:=o.type) hw ht hx h0 h1 hzero hb (g0 a) g1' (hux M a hr) ns nrun c1 c2 (hz1 hc1).2 hpos (id:=s.length) (hup.1 _ (Nat.le_refl _)) (fun v=>hup.2 _ v (Nat.le_refl _))
   refine cF (hexec a w w' v q1) (hn v M' own' w' q2 ⟨fun i hi=> ?_,fun i q hi=> ?_⟩ ?_ q4)
   ·simp only [List.length_append,List.length_cons,List.length_nil] at hi
    rw [q5 i (by omega)];exact hup.1 i (by omega)
   ·simp only [List.length_append,List.length_cons,List.length_nil] at hi
    rw [q6 i (by omega)];exact hup.2 i q (by omega)
   ·rw [jD];exact q3
  ·cases h
 ·cases h
theorem B2 {z:Z P} {s:List Ob} {x:D} {size:Nat} {K:Z P→List D→Nat→Option ρ'} (h:FD z s x size K=some r):
  ∃z' nc m,K z' nc m=some r∧(z'.c→z.c∧∀(w0:di) (M:MM) (own:Nat→Option Nat) (w:World) (u:Value),bj w0 M own (bm s) w→bk M x u→
   ∃(a:Option Addr) (c:Nat) (new:Array Value),u= .slice a m c∧new.size=m*size∧(∀wd:World,(∀a,wd.cell? a=w.cell? a)→(Builtin.firstCells size m u).run P wd= .ok new wd)∧nc.length=m*size∧∀(i:Nat) (d:D) (v:Value),nc[i]? =some d→new[i]? =some v→bk M d v):=by
 have bx:∀ {id off n:Nat} {q:Bool},(∀(M:MM) (u:Value),bk M x u→∃b o2 c,u= .slice (some ⟨b,o2,none⟩) n c∧M.box id=some b∧(n≠0→o2=off))→gk q (oE z s id off n size K)=some r→
   ∃z' nc m,K z' nc m=some r∧(z'.c→z.c∧∀(w0:di) (M:MM) (own:Nat→Option Nat) (w:World) (u:Value),bj w0 M own (bm s) w→bk M x u→
   ∃(a:Option Addr) (c:Nat) (new:Array Value),u= .slice a m c∧new.size=m*size∧(∀wd:World,(∀a,wd.cell? a=w.cell? a)→(Builtin.firstCells size m u).run P wd= .ok new wd)∧nc.length=m*size∧∀(i:Nat) (d:D) (v:Value),nc[i]? =some d→new[i]? =some v→bk M d v):=by
  intro id off n q hu h
  obtain ⟨_,h⟩:=aY h
  unfold oE at h
  split at h
  ·rename_i cs hcs
   split at h
   ·rename_i l i k nc hg rest hzo
    refine ⟨_,_,_,h,fun hc=>⟨hc.2,fun w0 M own w u hw hr=> ?_⟩⟩
    obtain ⟨⟨e1,e2,e3⟩,_⟩:=hc
    subst e1 e2 e3
    obtain ⟨b,o2,c,rfl,hbx,hof⟩:=hu M u hr
    obtain ⟨new,ns,nrun,c1,c2⟩:=mK (P:=P) (c:=c) hw hbx hcs hof hg.1 hg.2
    exact ⟨_,_,new,rfl,ns,nrun,c1,c2⟩
   ·cases h
  ·cases h
 unfold FD at h
 split at h
 ·obtain ⟨hk,h⟩:=aY h
  obtain ⟨z',nc,h,hz⟩:=ri h
  refine ⟨z',nc,_,h,fun hc=>⟨(hz hc).1,fun w0 M own w u hw hr=> ?_⟩⟩
  cases hr with
  |aj b off vs hl hcap ha hsz hc0 hr0 hst ho=>
   rename_i a len cap
   have hrep:=bk.aj b off vs hl hcap ha hsz hc0 hr0 hst ho
   obtain ⟨new,ns,nrow,nrun,_⟩:=ij (P:=P) hrep (hI hk) hw.cells
   obtain ⟨c1,c2⟩:=mY nrow (hz hc).2
   subst hl
   exact ⟨_,_,new,rfl,ns,nrun,c1,c2⟩
 ·exact bx (fun M u hr=>by cases hr with|dn hb hhist hc=>exact ⟨_,0,_,rfl,hb,fun _=>rfl⟩) h
 ·exact bx (fun M u hr=>by cases hr with|sub hb hc hp hof=>exact ⟨_,_,_,rfl,hb,hof⟩) h
 ·cases h
theorem p6 {z:Z P} {c:Call} {x y:Operand} {rest:List Operand} {s:List Ob} {K:Z P→ig→Option ρ'} {ty e:TypeId} {id off n:Nat} (ho:o.op= .call c) (hc:c.callee= .builtin .copy) (hargs:c.args.toList=x::y::rest) (t0:c.argTypes[0]? =some ty) (ht:P.underlying ty=some (.slice e)) (hk:known P e=true) (hs:P.cellsOf e=1)
  (hu:∀(M:MM) (u:Value),bk M (ρ x) u→∃b o2 c,u= .slice (some ⟨b,o2,none⟩) n c∧M.box id=some b∧(n≠0→o2=off)) (h:tw z s id off n (ρ y) K=some r):∃e z',K z' e=some r∧(z'.c→z.c∧ie P o ρ s e):=by
 have hx:x∈o.op.operands:=by
  have:x∈c.args.toList:=by rw [hargs];simp
  simp only [ho,Op.operands,Call.operands,hc];simpa using this
 have hy:y∈o.op.operands:=by
  have:y∈c.args.toList:=by rw [hargs];simp
  simp only [ho,Op.operands,Call.operands,hc];simpa using this
 unfold tw at h
 obtain ⟨z1,nc,m,h,hz1⟩:=B2 h
 obtain ⟨z2,h,hz2⟩:=cM h
 obtain ⟨z3,h,hz3⟩:=cM h
 split at h
 ·rename_i cs hcs
  split at h
  ·rename_i l i xs l' hg rest' hzo
   refine ⟨_,_,h,fun hcc=> ?_⟩
   obtain ⟨⟨e1,e2,e3⟩,hc3⟩:=hcc
   subst e1 e2 e3
   have hc2:=(hz3 hc3).1
   have hby:=(hz3 hc3).2
   have hc1:=(hz2 hc2).1
   have hmn:=(hz2 hc2).2
   rw [Nat.ble_eq] at hmn
   have hlt:id<s.length:=cJ (by rw [hcs];intro e;cases e)
   refine ⟨(hz1 hc1).1,by simp,?_⟩
   intro w0 M own w a hw hup hr next Q hn
   obtain ⟨b,o2,cc,hux,hbx,hof⟩:=hu M _ (hr x hx)
   obtain ⟨sa,sc,new,huy,ns,nrun,c1,c2⟩:=(hz1 hc1).2 w0 M own w _ hw (hr y hy)
   rw [Nat.mul_one] at ns c1
   obtain ⟨nrow,none1⟩:=rD (by rw [c1,ns]) hby c2
   obtain ⟨b2,vs,bt,kb⟩:=hw.box id l hcs
   have eb:b2=b:=by have:=kb.box;rw [hbx] at this;exact (Option.some.inj this).symm
   subst eb
   have hnl:new.toList.length=m:=by rw [Array.length_toList,ns]
   have hle:=kb.len
   have hil:i+m≤l.length:=by rw [← c1];exact hg.2
   have hst:(storeCells ⟨b2,o2,none⟩ new.toList).run P w= .ok () (aZ w b2 (.cells (cG vs i new.toList) bt (0,0))):=by
    by_cases hm:m=0
    ·have hnew:new= #[]:=Array.eq_empty_of_size_eq_zero (by rw [ns,hm])
     subst hnew
     have:=ei (P:=P) (b:=b2) (off:=i) (fz:=(0,0)) ([]:List Value) 0 w vs kb.cy (by simp) (by simp;omega) (fun o _ h=>by have:=h.2;simp at this)
     simp only [storeCells,Sem.run_pure,Nat.add_zero] at this ⊢
     exact this
    ·obtain rfl:=hof (by omega)
     have:=ei (P:=P) (b:=b2) (off:=o2) (fz:=(0,0)) new.toList 0 w vs kb.cy none1 (by rw [hnl];omega) (fun o _ h=>by have:=h.2;simp at this)
     rw [Nat.add_zero] at this
     exact this
   have hrl:bS M xs ⟨new.toList⟩:=⟨by simp [c1,ns],fun i d v hd hv=>c2 i d v hd (by simpa using hv)⟩
   have hrep:=mj (M:=M) kb.len kb.rep hrl hg.2
   have hspl:gJ l i xs=l':=by unfold gJ;exact hg.1
   rw [hspl] at hrep
   have hbox:=hw.BU kb hrep.1 (cQ _ _ _) hrep.2
   refine cF (v:= .int .i64 m) (w':=aZ w b2 (.cells (cG vs i new.toList) bt (0,0))) ?_ (hn _ M own _ (.refl M) ⟨fun j hj=> ?_,fun j q hj=> ?_⟩ ?_ (.int _ _))
   ·rw [dR ho hc]
    have e0:c.args[0]? =some x:=by rw [← Array.getElem?_toList,hargs];rfl
    have e1:c.args[1]? =some y:=by rw [← Array.getElem?_toList,hargs];rfl
    have hr1:=nrun w (fun _=>rfl)
    rw [huy] at hr1
    simp [builtin,Builtin.copy_,t0,e0,e1,run_underlying ht,hux,huy,Builtin.lenOf,Nat.min_eq_left hmn,ca hk,hs,hr1,hst,goInt]
   ·rw [List.length_set] at hj;exact hup.1 j hj
   ·rw [List.length_set] at hj;exact hup.2 j q hj
   ·rw [kK hlt];exact hbox
  ·cases h
 ·cases h
theorem Bg {z:Z P} {c:Call} {x y:Operand} {rest:List Operand} {s:List Ob} {K:Z P→ig→Option ρ'} (ho:o.op= .call c) (hc:c.callee= .builtin .copy) (hargs:c.args.toList=x::y::rest) (h:Dj P z c.argTypes (ρ x) (ρ y) s K=some r):∃e z',K z' e=some r∧(z'.c→z.c∧ie P o ρ s e):=by
 unfold Dj at h
 split at h
 ·rename_i ty ts hts
  have t0:c.argTypes[0]? =some ty:=by rw [← Array.getElem?_toList,hts];rfl
  split at h
  ·rename_i e ht
   obtain ⟨hk,h⟩:=aY h
   rw [Bool.and_eq_true,Nat.beq_eq] at hk
   split at h
   ·rename_i id sz n hρ
    obtain ⟨_,h⟩:=aY h
    exact p6 ho hc hargs t0 ht hk.1 hk.2 (fun M u hr=>by rw [hρ] at hr;cases hr with|dn hb hhist hc=>exact ⟨_,0,_,rfl,hb,fun _=>rfl⟩) h
   ·rename_i id off sz n cp hρ
    obtain ⟨_,h⟩:=aY h
    exact p6 ho hc hargs t0 ht hk.1 hk.2 (fun M u hr=>by rw [hρ] at hr;cases hr with|sub hb hc hp hof=>exact ⟨_,_,_,rfl,hb,hof⟩) h
   ·cases h
  ·cases h
 ·cases h
theorem AK {z:Z P} {st xt ety e2:TypeId} {ts:Array TypeId} {id off sz n c id2 off2 sz2 n2:Nat} {cp2:Option Nat} {s:List Ob} {K:Z P→ig→Option ρ'} {args:Act→Array Value} {ux uy:Act→Value}
  (hexec:∀(a:Act) (w w':World) (v:Value),(Builtin.append_ ts o.type (args a)).run P w= .ok v w'→(execOp a.eval o).run P w= .ok (.value v) w') (ht:P.underlying st=some (.slice ety)) (hx:P.underlying xt=some (.slice e2)) (h0:ts[0]? =some st) (h1:ts[1]? =some xt)
  (g0:∀a,(args a)[0]? =some (ux a)) (g1:∀a,(args a)[1]? =some (uy a)) (hux:∀(M:MM) (a:Act),(∀q∈o.op.operands,bk M (ρ q) (a.eval q))→bk M (.sub id off sz n (some c)) (ux a))
  (huy:∀(M:MM) (a:Act),(∀q∈o.op.operands,bk M (ρ q) (a.eval q))→bk M (.sub id2 off2 sz2 n2 cp2) (uy a))
  (h:CY P z ety id off sz n c id2 off2 sz2 n2 s K=some r):∃e z',K z' e=some r∧(z'.c→z.c∧ie P o ρ s e):=by
 unfold CY at h
 split at h
 ·rename_i cs hcs
  have hh:=aY h
  clear h
  obtain ⟨hchk,h⟩:=hh
  simp only [Bool.and_eq_true,Nat.ble_eq,Nat.beq_eq] at hchk
  obtain ⟨⟨⟨⟨⟨hzero,rfl⟩,rfl⟩,rfl⟩,rfl⟩,hb⟩:=hchk
  have hh:=gW h
  clear h
  obtain ⟨z1,h,hz1⟩:=hh
  have hh:=cM h
  clear h
  obtain ⟨z2,h,hz2⟩:=hh
  have hh:=jU h
  clear h
  obtain ⟨z3,⟨h,hz3⟩|⟨h,hz3⟩⟩:=hh
  ·split at h
   ·rename_i l i k nc hg l2 i2 k2 nc2 hg2 rest hzo
    refine ⟨_,_,h,fun hc=> ?_⟩
    obtain ⟨⟨a1,a2,a3⟩,⟨e1,e2',e3⟩,hc3⟩:=hc
    subst a1 a2 a3 e1 e2' e3
    have hc2:=(hz3 hc3).1
    have hpos:=(hz3 hc3).2
    have hc1:=(hz2 hc2).1
    have hcn:=(hz2 hc2).2
    rw [Nat.blt_eq] at hpos
    rw [Nat.beq_eq] at hcn
    subst hcn
    have hlt:id<s.length:=cJ (by rw [hcs];intro e;cases e)
    refine ⟨(hz1 hc1).1,by simp,?_⟩
    intro w0 M own w a hw hup hr next Q hn
    obtain ⟨v,M',own',w',q1,q2,q3,q4,q5,q6⟩:=AL (rty:=o.type) hw ht hx h0 h1 hzero hb (g0 a) (g1 a) (hux M a hr) (huy M a hr) (hz1 hc1).2 hpos hcs hg.1 hg.2 hg2.1 hg2.2 (id:=s.length) (hup.1 _ (Nat.le_refl _)) (fun v=>hup.2 _ v (Nat.le_refl _))
    refine cF (hexec a w w' v q1) (hn v M' own' w' q2 ⟨fun i hi=> ?_,fun i q hi=> ?_⟩ ?_ q4)
    ·simp only [List.length_append,List.length_set,List.length_cons,List.length_nil] at hi
     rw [q5 i (by omega)];exact hup.1 i (by omega)
    ·simp only [List.length_append,List.length_set,List.length_cons,List.length_nil] at hi
     rw [q6 i (by omega)];exact hup.2 i q (by omega)
    ·rw [jD,kK hlt,List.length_set];exact q3
   ·cases h
  ·refine ⟨_,_,h,fun hc3=> ?_⟩
   have hc2:=(hz3 hc3).1
   have hnil:=(hz3 hc3).2
   have hc1:=(hz2 hc2).1
   have hcn:=(hz2 hc2).2
   have hlen:=(hz1 hc1).2
   rw [Nat.beq_eq] at hcn
   subst hcn
   have hz0:c+n2=0:=by
    rcases Nat.eq_zero_or_pos (c+n2) with q|q
    ·exact q
    ·have q':Nat.blt 0 (c+n2)=true:=by rw [Nat.blt_eq];exact q
     rw [q'] at hnil;cases hnil
   obtain rfl:c=0:=by omega
   obtain rfl:n2=0:=by omega
   refine ⟨(hz1 hc1).1,br fun M w a hcl hr=> ?_⟩
   have r1:=hux M a hr
   have r2:=huy M a hr
   have e1:=g0 a
   have e2:=g1 a
   have hex:=hexec a w w
   generalize ux a=u1 at r1 e1
   generalize uy a=u2 at r2 e2
   cases r1 with
   |sub hb1 hc1' hp1 ho1=>
    rename_i b1 o1 c1
    cases r2 with
    |sub hb2 hc2' hp2 ho2=>
     rename_i b2 o2 c2
     obtain rfl:=hp1 0 rfl
     obtain ⟨i,zz,hi,hiz,hzs,hcells⟩:=gg hzero
     have hbytes':i.bytes≤65536:=by simpa [Program.bytesOf,hi] using hb
     have run0:∀(b o3 k:Nat) (wd:World),(Builtin.firstCells i.size 0 (.slice (some ⟨b,o3,none⟩) 0 k)).run P wd= .ok #[] wd:=fun b o3 k wd=>by simp [Builtin.firstCells,loadCells,loadCellsFrom]
     obtain ⟨q1,_⟩:=gL (P:=P) (rty:=o.type) (w:=w) ht hx h0 h1 hi hiz e1 e2 (run0 _ _ _ _) (run0 _ _ _ _) (run0 _ _ _ _) hbytes' (by omega)
     have q2:=q1 (Nat.le_refl _)
     refine ⟨.slice (some ⟨b1,o1,none⟩) 0 0,hex _ ?_,.aj b1 o1 (fun _ _=> .nilFunc) rfl (Nat.le_refl _) (fun q=>absurd rfl q) (fun i x hx=>by simp at hx) (fun i x cs j c hx=>by simp at hx) (fun i x cs j c hx=>by simp at hx) (fun i x cs c hx=>by simp at hx) rfl⟩
     rw [q2]
     simp [Sem.run_bind,Result.andThen_ok,Sem.run_pure,storeCells]
 ·cases h
theorem vO {z:Z P} {c:Call} {x y:Operand} {rest:List Operand} {s:List Ob} {K:Z P→ig→Option ρ'} (ho:o.op= .call c) (hc:c.callee= .builtin .append) (hargs:c.args.toList=x::y::rest) (h:tM P z c.argTypes (ρ x) (ρ y) s K=some r):
  ∃e z',K z' e=some r∧(z'.c→z.c∧ie P o ρ s e):=by
 have hx:x∈o.op.operands:=by
  have:x∈c.args.toList:=by rw [hargs];simp
  simp only [ho,Op.operands,Call.operands,hc];simpa using this
 have hy:y∈o.op.operands:=by
  have:y∈c.args.toList:=by rw [hargs];simp
  simp only [ho,Op.operands,Call.operands,hc];simpa using this
 have ga:∀a:Act,(c.args.map a.eval)[0]? =some (a.eval x)∧(c.args.map a.eval)[1]? =some (a.eval y):=by
  intro a
  have e0:c.args[0]? =some x:=by rw [← Array.getElem?_toList,hargs];rfl
  have e1:c.args[1]? =some y:=by rw [← Array.getElem?_toList,hargs];rfl
  simp [e0,e1]
 unfold tM at h
 split at h
 ·rename_i st xt ts hts
  have t0:c.argTypes[0]? =some st:=by rw [← Array.getElem?_toList,hts];rfl
  have t1:c.argTypes[1]? =some xt:=by rw [← Array.getElem?_toList,hts];rfl
  split at h
  ·rename_i ety e2 ht hx2
   split at h
   ·rename_i ow sz xs ow' sz' ys hρx hρy
    have hexec:∀(a:Act) (w w':World) (v:Value),(Builtin.append_ c.argTypes o.type (c.args.map a.eval)).run P w= .ok v w'→(execOp a.eval o).run P w= .ok (.value v) w':=by
     intro a w w' v hv
     rw [dR ho hc]
     simp only [builtin,Sem.run_bind,hv,Result.andThen_ok,Sem.run_pure]
    split at h
    ·rename_i r0 hzo
     split at h
     ·obtain ⟨hchk,h⟩:=aY h
      simp only [Bool.and_eq_true,Nat.ble_eq] at hchk
      obtain ⟨⟨hzero,hs2⟩,hb⟩:=hchk
      obtain ⟨z1,h,hz1⟩:=gW h
      obtain ⟨z2,nc,h,hz2⟩:=AV h
      refine ⟨_,z2,h,fun hc2=>⟨(hz1 (hz2 hc2).1).1,?_⟩⟩
      have hc1:=(hz2 hc2).1
      have hcell:=(hz2 hc2).2.1
      have hne:=(hz2 hc2).2.2
      intro w0 M own σ w a id hw hr hpre next Q hn
      have hrx:=hr x hx
      have hry:=hr y hy
      rw [hρx] at hrx
      rw [hρy] at hry
      obtain ⟨v,M',own',w',q1,q2,q3,q4,q5,q6⟩:=y7 (rty:=o.type) hw ht hx2 t0 t1 hzero hb (ga a).1 (ga a).2 hrx hry (hI hs2) (hz1 hc1).2 hne hcell (id:=id) hpre.1 hpre.2
      exact cF (hexec a w w' v q1) (hn v M' own' w' q2 ⟨q5,q6⟩ q3 q4)
     ·cases h
    ·rename_i m r0 hzo
     split at h
     ·obtain ⟨hchk,h⟩:=aY h
      simp only [Bool.and_eq_true,Nat.ble_eq] at hchk
      obtain ⟨⟨hzero,hs1⟩,hb⟩:=hchk
      obtain ⟨z1,h,hz1⟩:=gW h
      refine ⟨_,z1,h,fun hc1=>⟨(hz1 hc1).1,?_⟩⟩
      have hlen:=(hz1 hc1).2
      refine br fun M w a hcl hr=> ?_
      have hrx:=hr x hx
      have hry:=hr y hy
      rw [hρx] at hrx
      rw [hρy] at hry
      exact ⟨_,hexec a w w _ (vP (rty:=o.type) hcl ht hx2 t0 t1 hzero hb (ga a).1 (ga a).2 hrx hry (hI hs1) hlen),hrx⟩
     ·cases h
    have hh:=aY h
    clear h
    obtain ⟨hchk,h⟩:=hh
    simp only [Bool.and_eq_true,Nat.ble_eq] at hchk
    obtain ⟨⟨⟨⟨_,hzero⟩,hs1⟩,hs2⟩,hb⟩:=hchk
    have hh:=gW h
    clear h
    obtain ⟨z1,h,hz1⟩:=hh
    split at h
    ·
     refine ⟨_,z1,h,fun hc1=>⟨(hz1 hc1).1,?_⟩⟩
     intro w0 M own σ w a id hw hr hpre next Q hn
     have hrx:=hr x hx
     have hry:=hr y hy
     rw [hρx] at hrx
     rw [hρy] at hry
     obtain ⟨v,M',own',w',q1,q2,q3,q4,q5,q6⟩:=nU (rty:=o.type) hw ht hx2 t0 t1 hzero hb (ga a).1 (ga a).2 hrx hry (hI hs1) (hI hs2) (hz1 hc1).2 (id:=id) (ver:=0) (fun v _=>hpre.2 v)
      (fun ad len cap e=>by
       rw [e] at hrx
       cases hrx with
       |aj b off vs hl hcap ha hsz hc hr hst ho=>exact .inl ho)
     exact cF (hexec a w w' v q1) (hn v M' own' w' q2 ⟨fun j _=>by rw [q5],q6⟩ q3 q4)
    ·rename_i t v
     split at h
     ·rename_i v' sz2 hst
      obtain ⟨hk,h⟩:=aY h
      rw [Bool.and_eq_true,Nat.beq_eq,Nat.beq_eq] at hk
      obtain ⟨rfl,rfl⟩:=hk
      refine ⟨_,z1,h,fun hc1=>⟨(hz1 hc1).1,⟨hst,cJ (by rw [hst];intro e;cases e)⟩,?_⟩⟩
      intro w0 M own σ w a id hw hr hpre next Q hn
      have hpre':σ t= .bX v' (P.cellsOf ety):=hpre
      have hrx:=hr x hx
      have hry:=hr y hy
      rw [hρx] at hrx
      rw [hρy] at hry
      obtain ⟨fa,flen,fcap,hfam⟩:=hw.bX t v' _ hpre'
      obtain ⟨u,M',own',w',q1,q2,q3,q4,q5,q6⟩:=nU (rty:=o.type) hw ht hx2 t0 t1 hzero hb (ga a).1 (ga a).2 hrx hry (hI hs1) (hI hs2) (hz1 hc1).2 (id:=t) (ver:=v'+1) (fun v hv=>hfam.last v (by omega))
       (fun ad len cap e=>by
        rw [e] at hrx
        cases hrx with
        |aj b off vs hl hcap ha hsz hc hr hst ho=>
         have ho2:M.bG t v'=some (.slice ad len cap):=ho
         rw [hfam.bG] at ho2
         simp only [Option.some.injEq,Value.slice.injEq] at ho2
         obtain ⟨rfl,rfl,rfl⟩:=ho2
         rcases hfam.room with q|⟨b',vs',ty',fz',e1,r⟩
         ·exact .inl q
         ·exact .inr ⟨b',vs',ty',fz',v',_,e1,r,hpre'⟩)
      exact cF (hexec a w w' u q1) (hn u M' own' w' q2 ⟨q5,q6⟩ q3 q4)
     ·cases h
    ·cases h
   ·rename_i bid sz n ow' sz' ys hρx hρy
    have hexec:∀(a:Act) (w w':World) (v:Value),(Builtin.append_ c.argTypes o.type (c.args.map a.eval)).run P w= .ok v w'→(execOp a.eval o).run P w= .ok (.value v) w':=by
     intro a w w' v hv
     rw [dR ho hc]
     simp only [builtin,Sem.run_bind,hv,Result.andThen_ok,Sem.run_pure]
    split at h
    ·rename_i cs hst
     obtain ⟨hchk,h⟩:=aY h
     simp only [Bool.and_eq_true,Nat.ble_eq,Nat.beq_eq] at hchk
     obtain ⟨⟨⟨hzero,hsz⟩,hs2⟩,hb⟩:=hchk
     obtain ⟨z1,h,hz1⟩:=gW h
     obtain ⟨z2,h,hz2⟩:=cM h
     obtain ⟨z3,nc,h,hz3⟩:=ri h
     have hlt:bid<s.length:=cJ (by rw [hst];intro e;cases e)
     refine ⟨_,z3,h,fun hc3=>⟨(hz1 (hz2 (hz3 hc3).1).1).1,by simp,?_⟩⟩
     have hc2:=(hz3 hc3).1
     have hcell:=(hz3 hc3).2
     have hc1:=(hz2 hc2).1
     have hlen:=(hz2 hc2).2
     rw [Nat.beq_eq] at hlen
     intro w0 M own w a hw hup hr next Q hn
     have hrx:=hr x hx
     have hry:=hr y hy
     rw [hρx,hsz] at hrx
     rw [hρy] at hry
     obtain ⟨v,M',own',w',q1,q2,q3,q4,q5,q6⟩:=AN (rty:=o.type) hw ht hx2 t0 t1 hzero hb (ga a).1 (ga a).2 hrx hry (hI hs2) (hz1 hc1).2 hcell hst hlen (id:=s.length) (hup.1 _ (Nat.le_refl _)) (fun v=>hup.2 _ v (Nat.le_refl _))
     rw [← hsz] at q4
     refine cF (hexec a w w' v q1) (hn v M' own' w' q2 ⟨fun i hi=> ?_,fun i q hi=> ?_⟩ ?_ q4)
     ·simp only [List.length_append,List.length_set,List.length_cons,List.length_nil] at hi
      rw [q5 i (by omega)];exact hup.1 i (by omega)
     ·simp only [List.length_append,List.length_set,List.length_cons,List.length_nil] at hi
      rw [q6 i (by omega)];exact hup.2 i q (by omega)
     ·rw [jD,kK hlt,List.length_set];exact q3
    ·cases h
   ·rename_i sz1 bid sz n hρx hρy
    have hexec:∀(a:Act) (w w':World) (v:Value),(Builtin.append_ c.argTypes o.type (c.args.map a.eval)).run P w= .ok v w'→(execOp a.eval o).run P w= .ok (.value v) w':=by
     intro a w w' v hv
     rw [dR ho hc]
     simp only [builtin,Sem.run_bind,hv,Result.andThen_ok,Sem.run_pure]
    refine qD hexec ht hx2 t0 t1 (fun a=>(ga a).1) (fun a=>(ga a).2) (fun M a hr=>by have:=hr x hx;rw [hρx] at this;exact this) (fun M a hr=> ?_) h
    have hry:=hr y hy
    rw [hρy] at hry
    generalize a.eval y=u at hry
    cases hry with
    |dn hb hhist hc=>exact ⟨_,0,_,rfl,hb,fun _=>rfl⟩
   ·rename_i sz1 bid off sz n cp hρx hρy
    have hexec:∀(a:Act) (w w':World) (v:Value),(Builtin.append_ c.argTypes o.type (c.args.map a.eval)).run P w= .ok v w'→(execOp a.eval o).run P w= .ok (.value v) w':=by
     intro a w w' v hv
     rw [dR ho hc]
     simp only [builtin,Sem.run_bind,hv,Result.andThen_ok,Sem.run_pure]
    refine qD hexec ht hx2 t0 t1 (fun a=>(ga a).1) (fun a=>(ga a).2) (fun M a hr=>by have:=hr x hx;rw [hρx] at this;exact this) (fun M a hr=> ?_) h
    have hry:=hr y hy
    rw [hρy] at hry
    generalize a.eval y=u at hry
    cases hry with
    |sub hb hc hp hof=>exact ⟨_,_,_,rfl,hb,hof⟩
   ·rename_i bid off sz n cc bid2 off2 sz2 n2 cp hρx hρy
    have hexec:∀(a:Act) (w w':World) (v:Value),(Builtin.append_ c.argTypes o.type (c.args.map a.eval)).run P w= .ok v w'→(execOp a.eval o).run P w= .ok (.value v) w':=by
     intro a w w' v hv
     rw [dR ho hc]
     simp only [builtin,Sem.run_bind,hv,Result.andThen_ok,Sem.run_pure]
    exact AK hexec ht hx2 t0 t1 (fun a=>(ga a).1) (fun a=>(ga a).2) (fun M a hr=>by have:=hr x hx;rw [hρx] at this;exact this) (fun M a hr=>by have:=hr y hy;rw [hρy] at this;exact this) h
   ·cases h
  ·cases h
 ·cases h
end
section
variable {ρ':Type} {P:Program} {r:ρ'} {o:Oper} {t:List D} {s:List Ob}
theorem Cj {ρ:Operand→D} {ty e:TypeId} {l c:Operand} {q q':IntKind} {n:Int} {zd:D} {zc:List D} (ho:o.op= .makeSlice ty l c) (ht:P.underlying ty=some (.slice e)) (hk:known P e=true) (hz:gE P e=some zd) (hzc:zd.cells=some zc)
  (hlen:zc.length=P.cellsOf e) (hpos:0<zc.length) (hby:P.bytesOf e≤65536) (hl:ρ l= .int q n) (hc:ρ c= .int q' n) (h0:0≤n) (h1:n≤2147483648) (hst:∀c∈zc,storable c=true):
  ey P o ρ (.pure (.aj .tight (P.cellsOf e) (List.replicate n.toNat zd))):=by
 obtain ⟨i,v,hi,hv,rfl⟩:=fC hz
 refine uJ fun M w a hw hr=> ?_
 have r1:=ck (hr l (by simp [ho,Op.operands])) hl
 have r2:=ck (hr c (by simp [ho,Op.operands])) hc
 have hb:(i.bytes:Int)≤65536:=by
  have:P.bytesOf e=i.bytes:=by simp [Program.bytesOf,hi]
  omega
 have hsz:P.cellsOf e=i.size:=by simp [Program.cellsOf,hi]
 have hmul:(i.bytes:Int)*n≤281474976710656:=by
  have:=Int.mul_le_mul hb h1 h0 (by omega:(0:Int)≤65536)
  omega
 have hrun:=run_make (P:=P) w ty e i v ht hi hv q q' n n h0 (Int.le_refl _) hmul (by omega)
 have hrow:gj M (P.cellsOf e) (List.replicate n.toNat (fN v)) (madeCells v.cells (n.toNat*i.size)):=by
  have:=xX (M:=M) hzc (eX v) hst n.toNat
  rw [hlen] at this
  rw [← hsz]
  exact this
 have hx:=oC (M:=M) (w:=w) (wd:=w) (arr:=madeCells v.cells (n.toNat*i.size)) (ty:=e) (n:=(madeCells v.cells (n.toNat*i.size)).size) hw rfl (Below.refl _ _) (0,0)
 have hl2:=oh (b:=w.heap.size) (o:= .tight) (cap:=(List.replicate n.toNat (fN v)).length) (n:=(madeCells v.cells (n.toNat*i.size)).size) hrow (dg hw (Nat.le_refl _)) (Nat.le_refl _) hrow.len rfl
 refine ⟨_,_,_,?_,hx,rfl,rfl,rfl,hl2⟩
 simp only [execOp,ho,r1,r2,Sem.run_bind,hrun,Result.andThen_ok,Sem.run_pure,List.length_replicate]
theorem pA {z:Z P} {K:Z P→ig→Option ρ'} {ty:TypeId} {rv:Option Operand} (ho:o.op= .makeMap ty rv) (hx:∀x,rv=some x→∃q n,bI t x= .int q n) (h:(oz P z ty K)=some r):
  ∃e z',K z' e=some r∧(z'.c→z.c∧ie P o (bI t) s e):=by
 unfold oz at h
 split at h
 ·rename_i k et hk
  exact ⟨_,z,h,fun c=>⟨c,wv ho hk hx⟩⟩
 ·split at h
  ·rename_i kt et hk
   obtain ⟨z',ks,h1,h2,_⟩:=kW h
   exact ⟨_,z',h1,fun c=>⟨h2 c,uN ho hk hx⟩⟩
  ·cases h
theorem pz {z:Z P} {K:Z P→ig→Option ρ'} {ty:TypeId} {m k v:Operand} (ho:o.op= .insert ty m k v∨o.op= .mapUpdate ty m k v) (h:(ov P z ty (bI t m) (bI t k) (bI t v) s K)=some r):
  ∃e z',K z' e=some r∧(z'.c→z.c∧ie P o (bI t) s e):=by
 unfold ov at h
 split at h
 ·rename_i id q n hm hk
  split at h
  ·rename_i q' es q2 et hs hmk
   have hh:=aY h
   clear h
   obtain ⟨hkk,h⟩:=hh
   simp only [Bool.and_eq_true] at hkk
   have e1:=eP hkk.1.1
   have e2:=eP hkk.1.2
   subst e1 e2
   have hid:=cJ (s:=s) (i:=id) (by rw [hs];intro e;cases e)
   exact ⟨_,z,h,fun c=>⟨c,⟨hs,hid⟩,Af ho hmk hm hk hkk.2⟩⟩
  ·cases h
 ·rename_i id cs hm hk
  split at h
  ·rename_i ks es kt et hs hmk
   obtain ⟨z',ks',h1,h2,hK⟩:=kW h
   obtain ⟨hkk,h3⟩:=aY h1
   simp only [Bool.and_eq_true] at hkk
   have e1:=kN hkk.1.1
   subst e1
   have hid:=cJ (s:=s) (i:=id) (by rw [hs];intro e;cases e)
   exact ⟨_,z',h3,fun c=>⟨h2 c,⟨hs,hid⟩,wo ho hmk hK hm hk hkk.1.2 hkk.2⟩⟩
  ·cases h
 ·cases h
theorem wJ {z:Z P} {K:Z P→ig→Option ρ'} {ty:TypeId} {m k:Operand} (ho:o.op= .mapEntry ty m k) (h:(sU P z ty (bI t m) (bI t k) s K)=some r):
  ∃e z',K z' e=some r∧(z'.c→z.c∧ie P o (bI t) s e):=by
 unfold sU at h
 split at h
 ·rename_i id q n hm hk
  split at h
  ·rename_i q' es q2 et hs hmk
   split at h
   ·rename_i zd hz
    have hh:=aY h
    clear h
    obtain ⟨hkk,h⟩:=hh
    simp only [Bool.and_eq_true] at hkk
    have e1:=eP hkk.1.1
    have e2:=eP hkk.1.2
    subst e1 e2
    have hid:=cJ (s:=s) (i:=id) (by rw [hs];intro e;cases e)
    obtain ⟨z',rr,h1,h2⟩:=qQ h
    have hok:=fun c=>Ag (P:=P) (ρ:=bI t) ho hmk hz hkk.2 hm hk (h2 c).2
    cases rr<;>exact ⟨_,z',h1,fun c=>⟨(h2 c).1,⟨hs,hid⟩,hok c⟩⟩
   ·cases h
  ·cases h
 ·rename_i id cs hm hk
  split at h
  ·rename_i ks es kt et hs hmk
   split at h
   ·rename_i zd hz
    obtain ⟨z1,ks',h0,h0',hK⟩:=kW h
    obtain ⟨hkk,h3⟩:=aY h0
    simp only [Bool.and_eq_true] at hkk
    have e1:=kN hkk.1.1
    subst e1
    have hid:=cJ (s:=s) (i:=id) (by rw [hs];intro e;cases e)
    obtain ⟨z',rr,h1,h2⟩:=pw h3
    have hok:=fun c=>wu (P:=P) (ρ:=bI t) ho hmk hK hz hkk.2 hm hk hkk.1.2 (h2 c).2
    cases rr<;>exact ⟨_,z',h1,fun c=>⟨h0' (h2 c).1,⟨hs,hid⟩,hok c⟩⟩
   ·cases h
  ·cases h
 ·cases h
theorem tj {z:Z P} {K:Z P→ig→Option ρ'} {ty:TypeId} {m n v:Operand} (ho:o.op= .entryStore ty m n v) (h:(nz P z (bI t m) (bI t n) (bI t v) s K)=some r):
  ∃e z',K z' e=some r∧(z'.c→z.c∧ie P o (bI t) s e):=by
 unfold nz at h
 split at h
 ·rename_i id q0 j hm hn
  split at h
  ·rename_i q es hs
   obtain ⟨hv,h⟩:=aY h
   obtain ⟨z',h1,h2⟩:=cM h
   have hid:=cJ (s:=s) (i:=id) (by rw [hs];intro e;cases e)
   refine ⟨_,z',h1,fun c=>⟨(h2 c).1,⟨hs,hid⟩,?_⟩⟩
   have hb:=(h2 c).2
   rw [Bool.and_eq_true,decide_eq_true_eq,Nat.blt_eq] at hb
   exact nI ho hm hn hv hb.1 (.inl ⟨q,es,rfl,rfl,hb.2⟩)
  ·rename_i ks es hs
   obtain ⟨hv,h⟩:=aY h
   obtain ⟨z',h1,h2⟩:=cM h
   have hid:=cJ (s:=s) (i:=id) (by rw [hs];intro e;cases e)
   refine ⟨_,z',h1,fun c=>⟨(h2 c).1,⟨hs,hid⟩,?_⟩⟩
   have hb:=(h2 c).2
   rw [Bool.and_eq_true,decide_eq_true_eq,Nat.blt_eq] at hb
   exact nI ho hm hn hv hb.1 (.inr ⟨ks,es,rfl,rfl,hb.2⟩)
  ·cases h
 ·cases h
theorem C9 {z:Z P} {d:D} {s':List Ob} {K:Z P→ig→Option ρ'} {r:ρ'} (h:Gm z d s' K=some r):∃e z',K z' e=some r∧(z'.c→z.c∧∃d2 s2,e= .all s2 d2∧∀(g:FuncId) (args:List D) (s:List Ob),ai P g args s d s'→ai P g args s d2 s2):=by
 unfold Gm at h
 split at h
 ·split at h
  ·rename_i id sz n
   split at h
   ·rename_i cs hcs
    have hh:=aY h
    clear h
    obtain ⟨hsz,h⟩:=hh
    rw [Nat.beq_eq] at hsz
    subst hsz
    have hh:=cM h
    clear h
    obtain ⟨z1,h,hz1⟩:=hh
    refine ⟨_,z1,h,fun hc=>⟨(hz1 hc).1,_,_,rfl,fun g args s hr=> ?_⟩⟩
    have hq:=(hz1 hc).2
    rw [Bool.and_eq_true,Nat.beq_eq] at hq
    exact hr.wT hcs hq.1 hq.2
   ·cases h
  ·cases h
 ·exact ⟨_,z,h,fun hc=>⟨hc,_,_,rfl,fun g args s hr=>hr⟩⟩
theorem D2 {inl:yN P ρ'} (hinl:jB P inl) {z:Z P} {K:Z P→ig→Option ρ'} (h:Hr P inl o t s z K=some r):
  ∃e z',K z' e=some r∧(z'.c→z.c∧ie P o (bI t) s e):=by
 unfold Hr at h
 split at h
 case h_1 x ho=>exact ⟨_,z,h,fun c=>⟨c,yj (.inl ho)⟩⟩
 case h_2 x ho=>exact ⟨_,z,h,fun c=>⟨c,yj (.inr ho)⟩⟩
 case h_3 c x y ho=>
  split at h
  ·rename_i q hq
   obtain ⟨z',⟨h1,h2⟩|⟨h1,h2⟩⟩:=jU h
   ·refine ⟨_,z',h1,fun c=>⟨(h2 c).1,?_⟩⟩
    have:=yi (P:=P) (ρ:=bI t) ho hq
    rw [(h2 c).2] at this
    exact this
   ·refine ⟨_,z',h1,fun c=>⟨(h2 c).1,?_⟩⟩
    have:=yi (P:=P) (ρ:=bI t) ho hq
    rw [(h2 c).2] at this
    exact this
  ·cases h
 case h_4 e x ho=>
  split at h
  ·rename_i cs hcs;exact ⟨_,z,h,fun c=>⟨c,FO ho hcs⟩⟩
  ·cases h
 case h_5 e ho=>
  split at h
  ·rename_i d hd
   split at h
   ·rename_i cs hcs;exact ⟨_,z,h,fun c=>⟨c,Cm ho hd hcs⟩⟩
   ·cases h
  ·cases h
 case h_6 ty parts ho=>
  split at h
  ·rename_i d hd;exact ⟨_,z,h,fun c=>⟨c,Cl ho hd⟩⟩
  ·cases h
 case h_7 ty len parts ho=>
  split at h
  ·rename_i e ht
   split at h
   ·rename_i d hd
    split at h
    ·rename_i zc hzc
     obtain ⟨hk,h⟩:=aY h
     simp only [Bool.and_eq_true,Nat.beq_eq,Nat.ble_eq,List.all_eq_true] at hk
     obtain ⟨⟨⟨⟨h1,h2⟩,h3⟩,_⟩,h5⟩:=hk
     obtain ⟨xs,q1,q2⟩:=qt (P:=P) (ρ:=bI t) ho ht hd hzc h1 h2 h3 h5 h
     exact ⟨_,z,q1,fun c=>⟨c,q2⟩⟩
    ·cases h
   ·cases h
  ·cases h
 case h_8 ty a ho=>
  unfold Fs at h
  split at h
  ·rename_i dyn id off hx
   split at h
   ·rename_i cs hcs
    obtain ⟨z',d,h1,h2⟩:=kT h
    refine ⟨_,z',h1,fun c=>⟨(h2 c).1,?_⟩⟩
    have hlt:id<s.length:=cJ (by rw [hcs];intro e;cases e)
    split
    ·rename_i hsc
     obtain ⟨e,hu,hp⟩:=(h2 c).2
     unfold Fg at hsc
     rw [hu] at hsc
     have ha:cA e=false:=by simpa using hsc
     rcases hp with ⟨q,_⟩|⟨_,q⟩
     ·rw [ha] at q;cases q
     ·exact ⟨⟨by rw [hcs];exact q,hlt⟩,sJ ho hx hu ha⟩
    ·exact ⟨⟨hcs,hlt⟩,nH ho hx (h2 c).2⟩
   ·cases h
  ·rename_i dyn y off hx
   split at h
   ·rename_i cs hcs
    obtain ⟨z',d,h1,h2⟩:=kT h
    exact ⟨_,z',h1,fun c=>⟨(h2 c).1,sI ho hx hcs (h2 c).2⟩⟩
   ·cases h
  ·cases h
 case h_9 ty a x ho=>
  unfold BO at h
  split at h
  ·rename_i dyn id off hx
   split at h
   ·rename_i cs hcs
    split at h
    ·rename_i vc hvc
     obtain ⟨hk,h⟩:=aY h
     simp only [Bool.and_eq_true,Nat.beq_eq,List.all_eq_true] at hk
     obtain ⟨⟨k1,k2⟩,k3⟩:=hk
     have hid:=cJ (s:=s) (i:=id) (by rw [hcs];intro e;cases e)
     split at h
     ·obtain ⟨hl,h⟩:=aY h
      rw [Nat.ble_eq] at hl
      exact ⟨_,z,h,fun c=>⟨c,⟨hcs,hid⟩,uL ho hx hvc k1 k2 k3 hl⟩⟩
     ·split at h
      ·rename_i l i xs l' hg rest _
       refine ⟨_,_,h,fun c=>⟨c.2,⟨hcs,hid⟩,?_⟩⟩
       have e1:=c.1.1
       have e2:=c.1.2.1
       have e3:=c.1.2.2
       subst e1 e2 e3
       have:=uL (P:=P) (ρ:=bI t) ho hx hvc k1 k2 k3 hg.2
       unfold gJ at this
       rw [hg.1] at this
       exact this
      ·cases h
    ·cases h
   ·cases h
  ·cases h
 case h_10 x ho=>
  split at h
  ·rename_i dyn id off hx
   exact ⟨_,z,h,fun c=>⟨c,by have:=ku (P:=P) (ρ:=bI t) ho (.inl ⟨dyn,id,off,hx⟩);rw [hx] at this;exact this⟩⟩
  ·rename_i dyn y off hx
   exact ⟨_,z,h,fun c=>⟨c,by have:=ku (P:=P) (ρ:=bI t) ho (.inr (.inl ⟨dyn,y,off,hx⟩));rw [hx] at this;exact this⟩⟩
  ·rename_i g a b hx
   exact ⟨_,z,h,fun c=>⟨c,by have:=ku (P:=P) (ρ:=bI t) ho (.inr (.inr ⟨g,a,b,hx⟩));rw [hx] at this;exact this⟩⟩
  ·cases h
 case h_11 op ty x y ty' ho=>
  obtain ⟨z',d,h1,h2⟩:=Dq h
  exact ⟨_,z',h1,fun c=>⟨(h2 c).1,FQ ho fun M w u v hu hv=>(h2 c).2 M w x y u v hu hv⟩⟩
 case h_12 op ty x ho=>
  obtain ⟨d,h1,h2⟩:=DL (P:=P) h
  refine ⟨_,z,h1,fun c=>⟨c,br fun M w a _ hr=> ?_⟩⟩
  obtain ⟨v,q1,q2⟩:=h2 M w _ (hr x (by simp [ho,Op.operands]))
  exact ⟨v,by simp only [execOp,ho,Sem.run_bind,q1,Result.andThen_ok,Sem.run_pure],q2⟩
 case h_13 src dst x ho=>
  obtain ⟨e,z',h1,h2,h3⟩:=Bh (ρ:=bI t) ho h
  refine ⟨e,z',h1,fun c=>⟨(h2 c).1,?_⟩⟩
  rcases h3 with ⟨d,rfl⟩|⟨q,m,rfl⟩<;>exact (h2 c).2
 case h_14 f first cap ho=>exact ⟨_,z,h,fun c=>⟨c,uO ho⟩⟩
 case h_15 ty x lo hi mx ho=>
  split at h
  ·rename_i e ow sz xs ht hx
   obtain ⟨hk,h⟩:=aY h
   rw [Bool.and_eq_true,Nat.beq_eq] at hk
   obtain ⟨n1,h,o1⟩:=dH h
   obtain ⟨n2,h,o2⟩:=dH h
   obtain ⟨n3,h,o3⟩:=dH h
   obtain ⟨z',d,h1,h2⟩:=vU h
   refine ⟨_,z',h1,fun c=>⟨(h2 c).1,br fun M w a _ hr=> ?_⟩⟩
   have hrx:=hr x (by simp [ho,Op.operands])
   rw [hx] at hrx
   have r1:=o1 M a (fun y hy=>hr y (by simp [ho,Op.operands,hy]))
   have r2:=o2 M a (fun y hy=>hr y (by simp [ho,Op.operands,hy]))
   have r3:=o3 M a (fun y hy=>hr y (by simp [ho,Op.operands,hy]))
   obtain ⟨v,q1,q2⟩:=(h2 c).2 M w ty e _ _ _ _ ht hk.1 hk.2 hrx r1 r2 r3
   exact ⟨v,by simp only [execOp,ho,Sem.run_bind,q1,Result.andThen_ok,Sem.run_pure],q2⟩
  ·rename_i e id sz n ht hx
   obtain ⟨hk,h⟩:=aY h
   rw [Bool.and_eq_true,Nat.beq_eq] at hk
   obtain ⟨n1,h,o1⟩:=dH h
   obtain ⟨n2,h,o2⟩:=dH h
   obtain ⟨n3,h,o3⟩:=dH h
   obtain ⟨z',l,hh,cp',h1,h2⟩:=oT h
   refine ⟨_,z',h1,fun c=>⟨(h2 c).1,br fun M w a _ hr=> ?_⟩⟩
   have hrx:=hr x (by simp [ho,Op.operands])
   rw [hx] at hrx
   have r1:=o1 M a (fun y hy=>hr y (by simp [ho,Op.operands,hy]))
   have r2:=o2 M a (fun y hy=>hr y (by simp [ho,Op.operands,hy]))
   have r3:=o3 M a (fun y hy=>hr y (by simp [ho,Op.operands,hy]))
   obtain ⟨_,b1,b2,b3⟩:=h2 c
   generalize hv:a.eval x=u at hrx
   cases hrx with
   |dn hb hhist hc=>
    obtain ⟨m,m1,m2,m3⟩:=b3 true w _ _ _ _ hc (fun k hk=>by cases hk) r1 r2 r3
    exact ⟨_,by simp only [execOp,ho,hv,Sem.run_bind,j3 ht hk.1 hk.2 m3,Result.andThen_ok,Sem.run_pure],pe hb (fun _=>rfl) b1 b2 m1 m2⟩
  ·rename_i e id off sz n cp ht hx
   obtain ⟨hk,h⟩:=aY h
   rw [Bool.and_eq_true,Nat.beq_eq] at hk
   obtain ⟨n1,h,o1⟩:=dH h
   obtain ⟨n2,h,o2⟩:=dH h
   obtain ⟨n3,h,o3⟩:=dH h
   obtain ⟨z',l,hh,cp',h1,h2⟩:=oT h
   refine ⟨_,z',h1,fun c=>⟨(h2 c).1,br fun M w a _ hr=> ?_⟩⟩
   have hrx:=hr x (by simp [ho,Op.operands])
   rw [hx] at hrx
   have r1:=o1 M a (fun y hy=>hr y (by simp [ho,Op.operands,hy]))
   have r2:=o2 M a (fun y hy=>hr y (by simp [ho,Op.operands,hy]))
   have r3:=o3 M a (fun y hy=>hr y (by simp [ho,Op.operands,hy]))
   obtain ⟨_,b1,b2,b3⟩:=h2 c
   generalize hv:a.eval x=u at hrx
   cases hrx with
   |sub hb hc hp hof=>
    obtain ⟨m,m1,m2,m3⟩:=b3 true w _ _ _ _ hc hp r1 r2 r3
    exact ⟨_,by simp only [execOp,ho,hv,Sem.run_bind,j3 ht hk.1 hk.2 m3,Result.andThen_ok,Sem.run_pure],pe hb hof b1 b2 m1 m2⟩
  ·rename_i n e dyn id off ht hx
   obtain ⟨hk,h⟩:=aY h
   obtain ⟨n1,h,o1⟩:=dH h
   obtain ⟨n2,h,o2⟩:=dH h
   obtain ⟨n3,h,o3⟩:=dH h
   obtain ⟨z',l,hh,cp',h1,h2⟩:=oT h
   refine ⟨_,z',h1,fun c=>⟨(h2 c).1,br fun M w a _ hr=> ?_⟩⟩
   have hrx:=hr x (by simp [ho,Op.operands])
   rw [hx] at hrx
   have r1:=o1 M a (fun y hy=>hr y (by simp [ho,Op.operands,hy]))
   have r2:=o2 M a (fun y hy=>hr y (by simp [ho,Op.operands,hy]))
   have r3:=o3 M a (fun y hy=>hr y (by simp [ho,Op.operands,hy]))
   obtain ⟨_,b1,b2,b3⟩:=h2 c
   generalize hv:a.eval x=u at hrx
   cases hrx with
   |ptr _ hb=>
    obtain ⟨m,m1,m2,m3⟩:=b3 false w _ _ _ _ (Nat.le_refl _) (fun k hk=>Option.some.inj hk) r1 r2 r3
    exact ⟨_,by simp only [execOp,ho,hv,Sem.run_bind,nW ht hk rfl m3,Result.andThen_ok,Sem.run_pure],pe hb (fun _=>rfl) b1 b2 m1 m2⟩
  ·cases h
 case h_16 ty x f ho=>
  unfold pY at h
  split at h
  ·rename_i fields ht
   split at h
   ·rename_i fd hfd
    obtain ⟨hk,h⟩:=aY h
    rw [Bool.and_eq_true] at hk
    have hpos:0<P.cellsOf fd.type:=Nat.lt_of_succ_le (by simpa [Nat.blt,Nat.ble_eq] using hk.2)
    obtain ⟨g1,g2⟩:=sN (P:=P) (ρ:=bI t) ho ht hfd hk.1 hpos
    split at h
    ·rename_i dyn id off hx;exact ⟨_,z,h,fun c=>⟨c,g1 _ _ _ hx⟩⟩
    ·rename_i dyn y off hx;exact ⟨_,z,h,fun c=>⟨c,g2 _ _ _ hx⟩⟩
    ·cases h
   ·cases h
  ·cases h
 case h_17 ty x f ho=>
  split at h
  ·rename_i fields cs ht hx
   split at h
   ·rename_i fd hfd
    obtain ⟨z',d,h1,h2⟩:=kT h
    exact ⟨_,z',h1,fun c=>⟨(h2 c).1,Ck ho ht hfd hx (h2 c).2⟩⟩
   ·cases h
  ·cases h
 case h_18 ty x ix ho=>
  unfold pH at h
  split at h
  ·rename_i k i hi
   split at h
   ·rename_i len elem dyn id off ht hx
    obtain ⟨hk,h⟩:=aY h
    obtain ⟨z',h1,h2⟩:=fH h
    exact ⟨_,z',h1,fun c=>⟨(h2 c).1,(mr (P:=P) (ρ:=bI t) ho hi ht hk (by simpa using (h2 c).2) _).1 _ _ _ hx⟩⟩
   ·rename_i len elem dyn y off ht hx
    obtain ⟨hk,h⟩:=aY h
    obtain ⟨z',h1,h2⟩:=fH h
    exact ⟨_,z',h1,fun c=>⟨(h2 c).1,(mr (P:=P) (ρ:=bI t) ho hi ht hk (by simpa using (h2 c).2) _).2 _ _ _ hx⟩⟩
   ·rename_i elem ow sz xs ht hx
    obtain ⟨hk,h⟩:=aY h
    rw [Bool.and_eq_true,Nat.beq_eq] at hk
    obtain ⟨z',h1,h2⟩:=fH h
    obtain ⟨z2,y,h3,h4⟩:=pq h1
    exact ⟨_,z2,h3,fun c=>⟨(h2 (h4 c).1).1,m9 ho hi ht hk.1 hk.2 (by simpa using (h2 (h4 c).1).2) hx (h4 c).2⟩⟩
   ·rename_i elem id sz n ht hx
    obtain ⟨hk,h⟩:=aY h
    rw [Bool.and_eq_true,Nat.beq_eq] at hk
    obtain ⟨z',h1,h2⟩:=cM h
    exact ⟨_,z',h1,fun c=>⟨(h2 c).1,m8 ho hi ht hk.1 hk.2 (by simpa using (h2 c).2) hx⟩⟩
   ·rename_i elem id off sz n cp ht hx
    obtain ⟨hk,h⟩:=aY h
    rw [Bool.and_eq_true,Nat.beq_eq] at hk
    obtain ⟨z',h1,h2⟩:=cM h
    exact ⟨_,z',h1,fun c=>⟨(h2 c).1,m7 ho hi ht hk.1 hk.2 (by simpa using (h2 c).2) hx⟩⟩
   ·cases h
  ·cases h
 case h_19 ty x ix ho=>
  unfold C0 at h
  split at h
  ·rename_i k i hi
   split at h
   ·rename_i len elem cs ht hx
    obtain ⟨hk,h⟩:=aY h
    obtain ⟨z',h1,h2⟩:=fH h
    obtain ⟨z2,d,h3,h4⟩:=kT h1
    exact ⟨_,z2,h3,fun c=>⟨(h2 (h4 c).1).1,sL ho hi ht hk (by simpa using (h2 (h4 c).1).2) hx (h4 c).2⟩⟩
   ·rename_i s' ht hx
    obtain ⟨z',h1,h2⟩:=fH h
    obtain ⟨z2,d,h3,h4⟩:=pq h1
    exact ⟨_,z2,h3,fun c=>⟨(h2 (h4 c).1).1,sK ho hi ht (by simpa using (h2 (h4 c).1).2) hx (h4 c).2⟩⟩
   ·cases h
  ·cases h
 case h_20 x i ho=>
  split at h
  ·rename_i ds hx
   split at h
   ·rename_i d hd;exact ⟨_,z,h,fun c=>⟨c,wx ho hx hd⟩⟩
   ·cases h
  ·cases h
 case h_21 c ho=>
  have hmem:∀ {x:Operand},x∈c.args.toList→x∈o.op.operands:=by
   intro x hx
   simp only [ho,Op.operands,Call.operands]
   exact Array.mem_append.2 (.inr (by simpa using hx))
  split at h
  ·rename_i hc
   split at h
   ·rename_i x rest ty ts hargs hts
    obtain ⟨d,h1,h2⟩:=CW (P:=P) h
    refine ⟨_,z,h1,fun cc=>⟨cc,br fun M w a _ hr=> ?_⟩⟩
    obtain ⟨v,q1,q2⟩:=h2 M w _ c.argTypes o.type (c.args.map a.eval) (hr x (hmem (by rw [hargs];simp))) (by rw [← Array.getElem?_toList,hts];rfl) (by
     have:c.args[0]? =some x:=by rw [← Array.getElem?_toList,hargs];rfl
     simp [this])
    exact ⟨v,by rw [dR ho hc];simp only [builtin,Sem.run_bind,q1,Result.andThen_ok,Sem.run_pure],q2⟩
   ·cases h
  ·rename_i hc
   split at h
   ·rename_i x y rest hargs
    exact vO ho hc hargs h
   ·cases h
  ·rename_i hc
   split at h
   ·rename_i x y hargs
    obtain ⟨d,h1,h2⟩:=CQ (P:=P) h
    refine ⟨_,z,h1,fun cc=>⟨cc,br fun M w a _ hr=> ?_⟩⟩
    obtain ⟨v,q1,q2⟩:=h2 M w _ _ c.argTypes o.type (c.args.map a.eval) (hr x (hmem (by rw [hargs];simp))) (hr y (hmem (by rw [hargs];simp))) (by rw [Array.toList_map,hargs];rfl)
    exact ⟨v,by rw [dR ho hc];simp only [builtin,Sem.run_bind,q1,Result.andThen_ok,Sem.run_pure],q2⟩
   ·cases h
  ·rename_i hc
   split at h
   ·rename_i x y hargs
    obtain ⟨d,h1,h2⟩:=CT (P:=P) h
    refine ⟨_,z,h1,fun cc=>⟨cc,br fun M w a _ hr=> ?_⟩⟩
    obtain ⟨v,q1,q2⟩:=h2 M w _ _ c.argTypes o.type (c.args.map a.eval) (hr x (hmem (by rw [hargs];simp))) (hr y (hmem (by rw [hargs];simp))) (by rw [Array.toList_map,hargs];rfl)
    exact ⟨v,by rw [dR ho hc];simp only [builtin,Sem.run_bind,q1,Result.andThen_ok,Sem.run_pure],q2⟩
   ·cases h
  ·rename_i hc
   split at h
   ·rename_i x y rest hargs
    exact Bg ho hc hargs h
   ·cases h
  ·rename_i f hc
   split at h
   ·rename_i g first cap hf
    unfold yI at h
    split at h
    ·rename_i rest _
     obtain ⟨d,s',z',h1,h2⟩:=hinl (.fn g) _ s _ _ r h
     obtain ⟨e,z2,h3,h4⟩:=C9 h1
     refine ⟨_,z2,h3,fun cc=> ?_⟩
     obtain ⟨c1,d2,s2,rfl,hk⟩:=h4 cc
     exact ⟨(h2 c1).1,Cn ho hc hf (hk _ _ _ (h2 c1).2)⟩
    ·rename_i g' ar s1 d s1' hrun rest _
     have hh:=aY h
     clear h
     obtain ⟨hk,h⟩:=hh
     rw [Nat.beq_eq] at hk
     subst hk
     exact ⟨_,_,h,fun cc=>⟨cc.2,Cn ho hc hf (cc.1.1▸cc.1.2▸hrun)⟩⟩
    ·rename_i g' as d hret rest _
     have hh:=aY h
     clear h
     obtain ⟨hk,h⟩:=hh
     rw [Nat.beq_eq] at hk
     subst hk
     obtain ⟨as',h1,h2⟩:=nG h
     refine ⟨_,_,h1,fun cc=>⟨cc.2,?_⟩⟩
     exact FN ho hc hf hret (fun M vs hv=>by rw [cc.1];exact h2 M vs hv)
    ·cases h
   ·rename_i id hf
    unfold GH at h
    split at h
    ·rename_i rest _
     obtain ⟨d,s',z',h1,h2⟩:=hinl (.yl id) _ s _ _ r h
     exact ⟨_,z',h1,fun cc=>⟨(h2 cc).1,FM ho hc hf (h2 cc).2⟩⟩
    ·cases h
   ·cases h
  ·cases h
 case h_22 ty rv ho=>
  split at h
  ·exact pA ho (fun x hx=>by cases hx) h
  ·rename_i x
   unfold idx at h
   split at h
   ·rename_i q n hx
    exact pA ho (fun y hy=>by obtain rfl:=Option.some.inj hy;exact ⟨q,n,hx⟩) h
   ·cases h
 case h_23 ty m k v ho=>exact pz (.inl ho) h
 case h_24 ty m k v ho=>exact pz (.inr ho) h
 case h_25 ty m k ok ho=>
  unfold uX at h
  split at h
  ·rename_i id q n hm hk
   split at h
   ·rename_i q' es q2 et hs hmk
    split at h
    ·rename_i zd hz
     have hh:=aY h
     clear h
     obtain ⟨hkk,h⟩:=hh
     rw [Bool.and_eq_true] at hkk
     have e1:=eP hkk.1
     have e2:=eP hkk.2
     subst e1 e2
     have hid:=cJ (s:=s) (i:=id) (by rw [hs];intro e;cases e)
     obtain ⟨z',rr,h1,h2⟩:=qQ h
     have hok:=fun c=>wq (P:=P) (ρ:=bI t) ho hmk hz hm hk (h2 c).2
     cases rr<;>cases ok<;>exact ⟨_,z',h1,fun c=>⟨(h2 c).1,⟨hs,hid⟩,hok c⟩⟩
    ·cases h
   ·cases h
  ·rename_i id cs hm hk
   split at h
   ·rename_i ks es kt et hs hmk
    split at h
    ·rename_i zd hz
     obtain ⟨z1,ks',h0,h0',hK⟩:=kW h
     obtain ⟨hkk,h3⟩:=aY h0
     simp only [Bool.and_eq_true] at hkk
     have e1:=kN hkk.1
     subst e1
     have hid:=cJ (s:=s) (i:=id) (by rw [hs];intro e;cases e)
     obtain ⟨z',rr,h1,h2⟩:=pw h3
     have hok:=fun c=>uM (P:=P) (ρ:=bI t) ho hmk hK hz hm hk hkk.2 (h2 c).2
     cases rr<;>cases ok<;>exact ⟨_,z',h1,fun c=>⟨h0' (h2 c).1,⟨hs,hid⟩,hok c⟩⟩
    ·cases h
   ·cases h
  ·cases h
 case h_26 ty m k ho=>exact wJ ho h
 case h_27 ty m n v ho=>exact tj ho h
 case h_28 ty l c ho=>
  unfold Fq at h
  split at h
  ·rename_i e q n q' m ht hl hc
   split at h
   ·rename_i zd hz
    split at h
    ·rename_i zc hzc
     split at h
     ·obtain ⟨hk,h⟩:=aY h
      simp only [Bool.and_eq_true,Nat.beq_eq,Nat.ble_eq,Nat.blt_eq] at hk
      obtain ⟨⟨⟨⟨k1,k2⟩,k3⟩,k4⟩,k5⟩:=hk
      obtain ⟨z',h1,h2⟩:=cM h
      refine ⟨_,z',h1,fun c=>⟨(h2 c).1,?_⟩⟩
      have hb:=(h2 c).2
      rw [decide_eq_true_eq] at hb
      obtain ⟨b0,rfl,b1⟩:=hb
      exact Cj ho ht k1 hz hzc k2 k3 k4 hl hc b0 b1 (List.all_eq_true.mp k5)
     ·obtain ⟨hk,h⟩:=aY h
      simp only [Bool.and_eq_true,Nat.beq_eq,Nat.ble_eq,Nat.blt_eq] at hk
      obtain ⟨⟨⟨k1,k2⟩,k3⟩,k4⟩:=hk
      obtain ⟨z',h1,h2⟩:=cM h
      refine ⟨_,z',h1,fun c=>⟨(h2 c).1,?_⟩⟩
      have hb:=(h2 c).2
      rw [decide_eq_true_eq] at hb
      obtain ⟨b0,rfl,b1⟩:=hb
      exact D3 ho ht k1 hz hzc k2 k3 k4 hl hc b0 b1
    ·cases h
   ·cases h
  ·cases h
 case h_29=>cases h
end
end Go.Ev
