import Derived.Laws.Cells
import Derived.Laws.Entries
import Derived.ChangeKeysEq
import Derived.Laws.BytesString
import Derived.Laws.MakeOwn
import Derived.WideLaws
import Derived.MapKept
import Derived.Laws.AppendOwn
import Derived.RangeFuncRecord
import Derived.Test.YtbfpahigdpigpaaGreatQ01
open List renaming replicate→Z7,getD_eq_getElem?_getD→aaf,getElem?_eq_none→aam,range→aao,length_append→aap,getElem?_map→aau,length_cons→aaw,length_nil→aaC,mem_of_getElem? →aaD,all_eq_true→aaO,drop_zero→aa0,length_set→aa1,getElem?_append→aa8,getElem?_cons_zero→abb,take_of_length_le→abd,getElem?_cons_succ→abf,getElem?_set_ne→abn
open Option.some renaming inj→aad,injEq→aak
open Bool renaming and_eq_true→aae,false_eq_true→aaT
open Go.Result renaming andThen_ok→aaq
open Nat renaming le_refl→aar,lt_or_ge→aaA,beq_eq→aaG,zero_add→aaY,mul_one→abg,ble_eq→abh,le_trans→abu
open Go.Op renaming operands→aas
open Option renaming map_eq_some_iff→aat,getD_some→aa9,map_some→abv
open Go.Sem renaming run_bind→aay,run_pure→aaH
open Array renaming getElem?_toList→aaB,getD_eq_getD_getElem? →aaJ,getElem?_eq_none→aaW,length_toList→aaX,getElem?_setIfInBounds_ne→aa3,mem_append→abw
open Go.Instr renaming sliceBounds→aaP,findKey→aby
open Go.Builtin renaming firstCells→aa5,append_→aa6
open Go.Call renaming operands→abp
open Go renaming IntKind→abz
/- Contracts and plain laws that a statement's proof leans on (texts merged:EvK). -/
set_option linter.unusedVariables false
set_option linter.unusedSimpArgs false
namespace Go.Ev
open Go Go.RowKit
section
variable {P:Program} {w:World}
theorem Hy {t:TypeId} (h:known P t=true):∃i,P.info? t=some i:=by
 unfold known at h;exact Option.isSome_iff_exists.1 h
theorem dc {t:TypeId} (h:known P t=true) (w:World):(sizeOf t).run P w= .ok (P.cellsOf t) w:=by
 obtain ⟨i,hi⟩:=Hy h
 simp [sizeOf,typeInfo,hi,Program.cellsOf]
theorem kZ {t:TypeId} {d:TypeDesc} (h:P.underlying t=some d):known P t=true:=by
 unfold known
 unfold Program.underlying at h
 cases e:P.info? t with
 |none=>simp [e] at h
 |some i=>rfl
theorem m5 {t:TypeId} {d:TypeDesc} (h:P.underlying t=some d) (w:World):(isAgg t).run P w= .ok (dJ d) w:=by
 cases d<;>simp [isAgg,run_underlying h,dJ]
theorem fC {t:TypeId} {i:TypeInfo} {v:Value} (hi:P.info? t=some i) (hz:i.zero=some v) (w:World):(zeroValue t).run P w= .ok v w:=by
 simp [zeroValue,typeInfo,hi,hz]
theorem gP (b off n:Nat):(Addr.mk b off none).add n=⟨b,off+n,none⟩:=by
 unfold Addr.add
 split
 ·rename_i h;subst h;simp
 ·rfl
theorem jY (b off:Nat) (vs:Array Value) (h:∀j v,vs[j]? =some v→w.cell? ⟨b,off+j,none⟩=some v):
  (loadCells ⟨b,off,none⟩ vs.size).run P w= .ok vs w:=by
 have:=run_loadCells_list (P:=P) (w:=w) ⟨b,off,none⟩ vs.toList (fun j v hj=>by rw [gP];exact h j v (by simpa using hj))
 simpa using this
def eh (vs:Array Value) (off:Nat):List Value→Array Value
  | []=>vs
  |x::r=>eh (vs.setIfInBounds off x) (off+1) r
theorem eN (l:List Value):∀(vs:Array Value) (off:Nat),(eh vs off l).size=vs.size:=by
 induction l with
 |nil=>intro vs off;rfl
 |cons x r ih=>intro vs off;simp [eh,ih]
theorem iV (l:List Value):∀(vs:Array Value) (off k:Nat),off+l.length≤vs.size→
  (eh vs off l)[k]? =if off≤k∧k<off+l.length then l[k - off]? else vs[k]? :=by
 induction l with
 |nil=>intro vs off k _;rw [eh,if_neg (by intro h;have h1:=h.1;have h2:k<off+0:=h.2;omega)]
 |cons x r ih=>
  intro vs off k h
  simp only [aaw] at h
  rw [eh,ih _ _ _ (by simp;omega)]
  by_cases h1:off+1≤k∧k<off+1+r.length
  ·rw [if_pos h1,if_pos ⟨by omega,by simp;omega⟩]
   rw [show k - off=(k - (off+1))+1 by omega,abf]
  ·rw [if_neg h1]
   by_cases h2:k=off
   ·subst h2
    rw [if_pos ⟨by omega,by simp⟩]
    simp [show k<vs.size by omega]
   ·rw [if_neg (by simp;omega),aa3 (Ne.symm h2)]
theorem sB {w:World} {b:Nat} {o p:Obj} :cM (cM w b o) b p=cM w b p:=by
 unfold cM
 simp
theorem ub {w:World} {b o:Nat} {v:Value} {vs:Array Value} {ty:TypeId} {fz:Nat×Nat} (h:w.heap[b]? =some (.cells vs ty fz)):
  w.setCell ⟨b,o,none⟩ v=cM w b (.cells (vs.setIfInBounds o v) ty fz):=by
 have hb:=fj h
 have he:w.heap[b]= .cells vs ty fz:=by simpa [Array.getElem?_eq_getElem hb] using h
 unfold World.setCell cM
 congr 1
 apply Array.ext_getElem?
 intro k
 rw [Array.getElem?_modify]
 by_cases e:b=k
 ·subst e
  rw [if_pos rfl,h]
  simp [hb]
 ·rw [if_neg e,aa3 e]
theorem iI {b off:Nat} {ty:TypeId} {fz:Nat×Nat} (l:List Value):∀(i:Nat) (w:World) (vs:Array Value),w.heap[b]? =some (.cells vs ty fz)→(∀v∈l,v.oneCell'=true)→
  off+i+l.length≤vs.size→mq fz vs.size→(storeCells ⟨b,off,none⟩ l i).run P w= .ok () (cM w b (.cells (eh vs (off+i) l) ty fz)):=by
 induction l with
 |nil=>
  intro i w vs h _ _ _
  simp only [storeCells,aaH,eh]
  have hb:=fj h
  have he:w.heap.setIfInBounds b (.cells vs ty fz)=w.heap:=by
   apply Array.ext_getElem?
   intro k
   by_cases e:b=k
   ·subst e;rw [h];simp [hb]
   ·rw [aa3 e]
  unfold cM
  rw [he]
 |cons x r ih=>
  intro i w vs h UU hlen Xs
  simp only [aaw] at hlen
  have T1:off+i<vs.size:=by omega
  have Vk:w.cell? ⟨b,off+i,none⟩=some vs[off+i]:=by simp [World.cell?,h,T1]
  have U1:w.frozen? ⟨b,off+i,none⟩=false:=by
   have:=Xs _ T1
   simp only [World.frozen?,h]
   simpa using this
  simp only [storeCells,aay,gP]
  rw [run_store _ _ _ _ _ (UU x (by simp)),Vk]
  simp only [U1,aaT,if_false,aaq]
  rw [ub h]
  rw [ih (i+1) _ (vs.setIfInBounds (off+i) x) (gV h) (fun v hv=>UU v (by simp [hv])) (by simp;omega) (by simpa using Xs)]
  rw [sB]
  simp [eh,Nat.add_assoc]
theorem oG {t:TypeId} {d:TypeDesc} (h:P.underlying t=some d) (ha:dJ d=false) {cs:Array Value} {off:Nat} {v:Value} (hv:cs[off]? =some v) (w:World):(part t cs off).run P w= .ok v w:=by
 simp [part,m5 h,ha,hv]
theorem oH {t:TypeId} {d:TypeDesc} (h:P.underlying t=some d) (ha:dJ d=true) (cs:Array Value) (off:Nat) (w:World):(part t cs off).run P w= .ok (.agg (cs.extract off (off+P.cellsOf t))) w:=by
 simp [part,m5 h,ha,dc (kZ h)]
theorem qL {t:TypeId} {d:TypeDesc} (h:P.underlying t=some d) (ha:dJ d=false) {a:Addr} {v:Value} (hv:w.cell? a=some v):(loadVar t a).run P w= .ok v w:=by
 simp [loadVar,m5 h,ha,hv]
theorem qM {t:TypeId} {d:TypeDesc} (h:P.underlying t=some d) (ha:dJ d=true) {b off:Nat} (vs:Array Value) (hs:vs.size=P.cellsOf t)
  (hv:∀j v,vs[j]? =some v→w.cell? ⟨b,off+j,none⟩=some v):(loadVar t ⟨b,off,none⟩).run P w= .ok (.agg vs) w:=by
 simp [loadVar,m5 h,ha,dc (kZ h),← hs,jY b off vs hv]
end
theorem cy.get {M:MM} {cs:List D} {vs:Array Value} (h:cy M cs vs) {i:Nat} {d:D} (hd:cs[i]? =some d):∃v,vs[i]? =some v∧b7 M d v:=by
 have hi:i<vs.size:=by
  rw [← h.1]
  rcases aaA i cs.length with x|x
  ·exact x
  ·simp [aam x] at hd
 exact ⟨vs[i],by simp [hi],h.2 i d vs[i] hd (by simp [hi])⟩
theorem cy.sub {M:MM} {cs:List D} {vs:Array Value} (h:cy M cs vs) (off n:Nat) (hn:off+n≤cs.length):cy M ((cs.drop off).take n) (vs.extract off (off+n)):=by
 have hs:=h.1
 refine ⟨by simp;omega,fun i d v a b=> ?_⟩
 rw [List.getElem?_take] at a
 split at a
 ·rename_i hi
  rw [List.getElem?_drop] at a
  rw [Array.getElem?_extract] at b
  split at b
  ·exact h.2 _ d v a b
  ·cases b
 ·cases a
theorem qY {M:MM} {v:Value} {d:D} (h:uI v=some d):b7 M d v:=by
 unfold uI at h
 split at h<;>simp only [aak,reduceCtorEq] at h<;>subst h
 ·exact .bool _
 ·exact .int _ _
 ·exact .str _
 ·exact .fW
 ·exact .aY 0 0 (fun _ _=> .nilFunc) rfl (aar _) (fun h=>absurd rfl h) (fun i x h=>by simp at h) (fun i x cs j c h=>by simp at h) (fun i x cs j c h=>by simp at h) (fun i x cs c h=>by simp at h) rfl
 ·exact .b6
theorem ss {M:MM} :∀ {vs:List Value} {l:List D},jC vs=some l→l.length=vs.length∧∀(i:Nat) (d:D) (v:Value),l[i]? =some d→vs[i]? =some v→b7 M d v
 | [],l,h=>by
  simp only [jC,aak] at h;subst h;exact ⟨rfl,fun i d v a=>by simp at a⟩
 |v::r,l,h=>by
  unfold jC at h
  split at h
  ·rename_i d l' hd hl
   simp only [aak] at h
   subst h
   obtain ⟨h1,h2⟩:=ss (M:=M) hl
   refine ⟨by simp [h1],fun i d' v' a b=> ?_⟩
   cases i with
   |zero=>simp at a b;subst a b;exact qY hd
   |succ i=>exact h2 i d' v' (by simpa using a) (by simpa using b)
  ·cases h
theorem EP {M:MM} :∀(vs:List Value),(yV vs).length=vs.length∧∀(i:Nat) (d:D) (v:Value),(yV vs)[i]? =some d→vs[i]? =some v→b7 M d v
 | []=>⟨rfl,fun i d v a=>by simp [yV] at a⟩
 |v::r=>by
  obtain ⟨h1,h2⟩:=EP (M:=M) r
  refine ⟨by simp [yV,h1],fun i d' v' a b=> ?_⟩
  cases i with
  |zero=>
   simp only [yV,abb,aak] at a b
   subst a b
   split
   ·rename_i d hd;exact qY hd
   ·exact .undef _
  |succ i=>exact h2 i d' v' (by simpa [yV] using a) (by simpa using b)
theorem jZ {M:MM} (v:Value):b7 M (gh v) v:=by
 unfold gh
 split
 ·rename_i cs
  obtain ⟨h1,h2⟩:=EP (M:=M) cs.toList
  exact .agg (by simpa using h1) (fun i d v a b=>h2 i d v a (by simpa using b))
 ·split
  ·rename_i d hd;exact qY hd
  ·exact .undef _
theorem oM {M:MM} {t:List D} {a:Act} (h:cy M t a.tmps) (x:Operand):b7 M (cJ t x) (a.eval x):=by
 cases x with
 |tmp i=>
  show b7 M (t.getD i .undef) (a.tmps.getD i undef)
  cases e:t[i]? with
  |none=>rw [aaf,e];exact .undef _
  |some d=>
   obtain ⟨v,hv,hr⟩:=h.get e
   rw [aaf,e,aaJ,hv]
   exact hr
 |const v=>exact jZ v
 |global g=>exact .undef _
 |func f=>exact .fn (M:=M) (first:= []) (cap:= []) rfl rfl (fun i d v a=>by simp at a) (fun i d v a=>by simp at a)
theorem oA {M:MM} {d:D} {v:Value} (h:b7 M d v) (hs:storable d=true):v.oneCell'=true:=by
 cases h<;>first|rfl|(simp [storable] at hs)
theorem sd {cs xs:List D} {off k:Nat} (h:off+xs.length≤cs.length):(jh cs off xs)[k]? =if off≤k∧k<off+xs.length then xs[k - off]? else cs[k]? :=by
 unfold jh
 rw [aa8]
 simp only [List.length_take,show min off cs.length=off by omega]
 by_cases h1:k<off
 ·rw [if_pos h1,if_neg (by omega),List.getElem?_take,if_pos h1]
 ·rw [if_neg h1,aa8]
  by_cases h2:k - off<xs.length
  ·rw [if_pos h2,if_pos ⟨by omega,by omega⟩]
  ·rw [if_neg h2,if_neg (by omega),List.getElem?_drop]
   congr 1
   omega
theorem sb {cs xs:List D} {off:Nat} (h:off+xs.length≤cs.length):(jh cs off xs).length=cs.length:=by
 unfold jh
 simp
 omega
theorem Af {M:MM} {cs xs:List D} {vs ws:Array Value} {off:Nat} (h:cy M cs vs) (k:cy M xs ws) (hl:off+xs.length≤cs.length):cy M (jh cs off xs) (eh vs off ws.toList):=by
 refine ⟨by rw [sb hl,eN,h.1],fun i d v a b=> ?_⟩
 have hs:off+ws.toList.length≤vs.size:=by rw [← h.1,aaX,← k.1];exact hl
 rw [sd hl] at a
 rw [iV _ _ _ _ hs] at b
 have:ws.toList.length=xs.length:=by rw [aaX,← k.1]
 rw [this] at b
 split at a
 ·rename_i hc
  rw [if_pos hc] at b
  exact k.2 _ d v a (by simpa using b)
 ·rename_i hc
  rw [if_neg hc] at b
  exact h.2 _ d v a b
theorem m8 {M:MM} {cs:List D} {vs:Array Value} (hl:cs.length≤vs.size) (h:∀(i:Nat) (d:D) (v:Value),cs[i]? =some d→vs[i]? =some v→b7 M d v) {i:Nat} {d:D} (hd:cs[i]? =some d):∃v,vs[i]? =some v∧b7 M d v:=by
 have hi:i<vs.size:=by
  rcases aaA i cs.length with x|x
  ·omega
  ·simp [aam x] at hd
 exact ⟨vs[i],by simp [hi],h i d vs[i] hd (by simp [hi])⟩
theorem oO {M:MM} {cs xs:List D} {vs ws:Array Value} {off:Nat} (h0:cs.length≤vs.size) (h:∀(i:Nat) (d:D) (v:Value),cs[i]? =some d→vs[i]? =some v→b7 M d v) (k:cy M xs ws) (hl:off+xs.length≤cs.length):
  (jh cs off xs).length≤(eh vs off ws.toList).size∧∀(i:Nat) (d:D) (v:Value),(jh cs off xs)[i]? =some d→(eh vs off ws.toList)[i]? =some v→b7 M d v:=by
 refine ⟨by rw [sb hl,eN];exact h0,fun i d v a b=> ?_⟩
 have hs:off+ws.toList.length≤vs.size:=by rw [aaX,← k.1];omega
 rw [sd hl] at a
 rw [iV _ _ _ _ hs] at b
 have:ws.toList.length=xs.length:=by rw [aaX,← k.1]
 rw [this] at b
 split at a
 ·rename_i hc
  rw [if_pos hc] at b
  exact k.2 _ d v a (by simpa using b)
 ·rename_i hc
  rw [if_neg hc] at b
  exact h _ d v a b
section
variable {ρ:Type} {P:Program} {r:ρ}
theorem bW {b:Bool} {k:Option ρ} (h:jm b k=some r):b=true∧k=some r:=by
 cases b
 ·cases h
 ·exact ⟨rfl,h⟩
theorem eP {z:Z P} {b:Bool} {k:Z P→Option ρ} (h:ask z b k=some r):∃z',k z'=some r∧(z'.c→z.c∧b=true):=by
 unfold ask at h
 split at h
 ·rename_i q hq rest _
  exact ⟨_,h,fun c=>⟨c.2,c.1▸hq⟩⟩
 ·cases h
theorem HV {z:Z P} {ys:List D} {k:Z P→List D→Option ρ} (h:Ld z ys k=some r):∃z' nc,k z' nc=some r∧(z'.c→z.c∧cO ys=some nc):=by
 unfold Ld at h
 split at h
 ·rename_i Ye nc hq rest _
  exact ⟨_,nc,h,fun c=>⟨c.2,c.1▸hq⟩⟩
 ·split at h
  ·rename_i nc hq
   exact ⟨_,nc,h,fun c=>⟨c,hq⟩⟩
  ·cases h
theorem HU {z:Z P} {ys:List D} {k:Z P→List D→Option ρ} (h:Lc z ys k=some r):∃z' nc,k z' nc=some r∧(z'.c→z.c∧cO ys=some nc∧ys≠ []):=by
 unfold Lc at h
 split at h
 ·rename_i Ye nc hq rest _
  obtain ⟨z',h,hz⟩:=eP h
  refine ⟨z',nc,h,fun c=> ?_⟩
  obtain ⟨⟨e,c0⟩,hb⟩:=hz c
  refine ⟨c0,e▸hq,fun e0=> ?_⟩
  rw [e0] at hb
  cases hb
 ·split at h
  ·rename_i nc hq
   obtain ⟨hb,h⟩:=bW h
   refine ⟨_,nc,h,fun c=>⟨c,hq,fun e0=> ?_⟩⟩
   rw [e0] at hb
   cases hb
  ·cases h
theorem ik {z:Z P} {st b:Bool} {k:Z P→Option ρ} (h:mQ z st b k=some r):∃z',k z'=some r∧(z'.c→z.c∧b=true):=by
 unfold mQ at h
 split at h
 ·obtain ⟨h1,h2⟩:=bW h
  exact ⟨z,h2,fun c=>⟨c,h1⟩⟩
 ·exact eP h
theorem oc {z:Z P} {n m:Nat} {k:Z P→Option ρ} (h:tJ z n m k=some r):∃z',k z'=some r∧(z'.c→z.c∧n≤m):=by
 unfold tJ at h
 split at h
 ·rename_i n' m' hn rest _
  exact ⟨_,h,fun c=>⟨c.2,c.1.1▸c.1.2▸hn⟩⟩
 ·cases h
theorem nZ {z:Z P} {b:Bool} {k1 k2:Z P→Option ρ} (h:branch z b k1 k2=some r):
  ∃z',(k1 z'=some r∧(z'.c→z.c∧b=true))∨(k2 z'=some r∧(z'.c→z.c∧b=false)):=by
 unfold branch at h
 split at h
 ·rename_i q v hq rest _
  cases v
  ·exact ⟨_,.inr ⟨h,fun c=>⟨c.2,c.1▸hq⟩⟩⟩
  ·exact ⟨_,.inl ⟨h,fun c=>⟨c.2,c.1▸hq⟩⟩⟩
 ·cases h
theorem sE {z:Z P} {l:List D} {i:Nat} {k:Z P→D→Option ρ} (h:pick z l i k=some r):∃z' d,k z' d=some r∧(z'.c→z.c∧l[i]? =some d):=by
 unfold pick at h
 split at h
 ·rename_i l' i' d hg rest _
  exact ⟨_,d,h,fun c=>⟨c.2,c.1.1▸c.1.2▸hg⟩⟩
 ·split at h
  ·rename_i d hg
   exact ⟨_,d,h,fun c=>⟨c,hg⟩⟩
  ·cases h
theorem Hc {z:Z P} {es:List (Int×D)} {n:Int} {k:Z P→Option D→Option ρ} (h:KI z es n k=some r):∃z' d,k z' d=some r∧(z'.c→z.c∧pg es n=d):=by
 unfold KI at h
 split at h
 ·rename_i YC n' d hg rest _
  exact ⟨_,d,h,fun c=>⟨c.2,c.1.1▸c.1.2▸hg⟩⟩
 ·cases h
def mV (P:Program) (t:TypeId) (cs:List D) (off:Nat) (d:D):Prop:=
  ∃e,P.underlying t=some e∧((dJ e=true∧off+P.cellsOf t≤cs.length∧d= .agg ((cs.drop off).take (P.cellsOf t)))∨(dJ e=false∧cs[off]? =some d))
theorem nj {z:Z P} {dyn:Bool} {t:TypeId} {cs:List D} {off:Nat} {k:Z P→D→Option ρ} (h:uU P z dyn t cs off k=some r):
  ∃z' d,k z' d=some r∧(z'.c→z.c∧mV P t cs off d):=by
 unfold uU at h
 split at h
 ·cases h
 ·rename_i e he
  split at h
  ·rename_i ha
   obtain ⟨hk,h⟩:=bW h
   split at h
   ·obtain ⟨h1,h2⟩:=bW h
    exact ⟨z,_,h2,fun c=>⟨c,e,he,.inl ⟨ha,by simpa using h1,rfl⟩⟩⟩
   ·split at h
    ·rename_i l i n l' hg rest _
     refine ⟨_,_,h,fun c=>⟨c.2,e,he,.inl ⟨ha,?_,?_⟩⟩⟩
     ·rw [← c.1.1,← c.1.2.1,← c.1.2.2];exact hg.2
     ·rw [← c.1.1,← c.1.2.1,← c.1.2.2,hg.1]
    ·cases h
  ·rename_i ha
   split at h
   ·split at h
    ·rename_i d hd
     exact ⟨z,d,h,fun c=>⟨c,e,he,.inr ⟨ha,hd⟩⟩⟩
    ·cases h
   ·obtain ⟨z',d,h1,h2⟩:=sE h
    exact ⟨z',d,h1,fun c=>⟨(h2 c).1,e,he,.inr ⟨ha,(h2 c).2⟩⟩⟩
theorem qq {M:MM} {t:TypeId} {cs:List D} {off:Nat} {d:D} (hp:mV P t cs off d) {vs:Array Value} (h:cy M cs vs):∃v,b7 M d v∧∀w:World,(part t vs off).run P w= .ok v w:=by
 obtain ⟨e,he,⟨ha,hl,rfl⟩|⟨ha,hd⟩⟩:=hp
 ·have Yc:=h.sub off (P.cellsOf t) hl
  exact ⟨_,.agg Yc.1 Yc.2,fun w=>oH he ha vs off w⟩
 ·obtain ⟨v,hv,hr⟩:=h.get hd
  exact ⟨v,hr,fun w=>oG he ha hv w⟩
theorem jX {M:MM} {t:TypeId} {cs:List D} {off b base:Nat} {d:D} (hp:mV P t cs off d) {w:World} (vs:Nat→Value)
  (hc:∀j c,cs[j]? =some c→w.cell? ⟨b,base+j,none⟩=some (vs j)∧b7 M c (vs j)):∃v,(loadVar t ⟨b,base+off,none⟩).run P w= .ok v w∧b7 M d v:=by
 obtain ⟨e,he,⟨ha,hl,rfl⟩|⟨ha,hd⟩⟩:=hp
 ·let ws:Array Value:=((aao (P.cellsOf t)).map fun j=>vs (off+j)).toArray
  have ZI:∀j v,ws[j]? =some v→j<P.cellsOf t∧v=vs (off+j):=by
   intro j v hj
   simp only [ws,List.getElem?_toArray,aau,aat] at hj
   obtain ⟨x,hx,rfl⟩:=hj
   have T1:j<P.cellsOf t:=by
    rcases aaA j (P.cellsOf t) with h|h
    ·exact h
    ·rw [aam (by simpa using h)] at hx;cases hx
   rw [List.getElem?_range T1] at hx
   cases hx
   exact ⟨T1,rfl⟩
  have T6:∀j,j<P.cellsOf t→∃c,cs[off+j]? =some c:=fun j hj=>⟨cs[off+j]'(by omega),by simp [show off+j<cs.length by omega]⟩
  refine ⟨.agg ws,qM he ha ws (by simp [ws]) ?_,.agg ?_ ?_⟩
  ·intro j v hj
   obtain ⟨h1,rfl⟩:=ZI j v hj
   obtain ⟨c,Uu⟩:=T6 j h1
   rw [Nat.add_assoc]
   exact (hc _ c Uu).1
  ·simp [ws];omega
  ·intro i c v a b
   obtain ⟨h1,rfl⟩:=ZI i v b
   rw [List.getElem?_take,if_pos h1,List.getElem?_drop] at a
   exact (hc _ c a).2
 ·obtain ⟨h1,h2⟩:=hc off d hd
  exact ⟨vs off,qL he ha h1,h2⟩
end
def Mb (P:Program) (o:Oper) (a:Act) (w:World) (next:Act→World→Prop) (Q:Exit→Act→World→Prop):Prop:= ∀r:Option Nat,o.wpIn (FW r) 0 P a w next Q
theorem Gl {P:Program} {o:Oper} {ρ:Operand→Value} {c:Call} (ho:o.op= .defer c) {w w':World} {x:Next} (h:(execOp ρ o).run P w= .ok x w'):∃d,x= .defer d:=by
 unfold execOp at h
 rw [ho] at h
 simp only [aay] at h
 cases hr:(resolve ρ c o.type).run P w with
 |ok d w1=>rw [hr] at h;simp only [aaq,aaH,Result.ok.injEq] at h;exact ⟨d,h.1.symm⟩
 |halt a b=>rw [hr] at h;cases h
theorem mY {P:Program} {o:Oper} {ρ:Operand→Value} {w w':World} {x:Next} (h:(execOp ρ o).run P w= .ok x w') (hx:∀d,x≠ .defer d) (r:Option Nat):(o.semAt r ρ).run P w= .ok x w':=by
 by_cases hd:∃c,o.op= .defer c
 ·obtain ⟨c,hc⟩:=hd
  obtain ⟨d,hd⟩:=Gl hc h
  exact absurd hd (hx d)
 ·rw [Oper.semAt_eq r ρ o (fun c hc=>hd ⟨c,hc⟩)]
  exact h
def jB.pre (e:jB) (M:MM) (σ:Nat→Ob) (id:Nat):Prop:=match e with
  | .pure _=>True
  | .read i o _=>σ i=o
  | .iU i j d=>hG (σ i) j=some d
  | .gK i o _ _=>σ i=o
  | .new _ _=>M.box id=none∧∀v,M.bX id v=none
  | .all _ _=>False
def jB.post (e:jB) (σ:Nat→Ob) (id:Nat):Nat→Ob:=match e with
  | .gK i _ o' _=>Ev.gK σ i o'
  | .new o _=>Ev.gK σ id o
  |_=>σ
def jB.val (e:jB) (id:Nat):D:=match e with
  | .pure d=>d
  | .read _ _ d=>d
  | .iU _ _ d=>d
  | .gK _ _ _ d=>d
  | .new _ mk=>mk id
  | .all _ d=>d
def jB.St (e:jB) (M M':MM) (id:Nat):Prop:=match e with
  | .gK i _ _ _=>M'.box=M.box∧∀j,j≠i→M'.bX j=M.bX j
  | .new _ _=>(∀j,j≠id→M'.box j=M.box j)∧∀j,j≠id→M'.bX j=M.bX j
  |_=>M'.box=M.box∧M'.bX=M.bX
def gw (P:Program) (o:Oper) (ρ:Operand→D) (e:jB):Prop:=
  ∀(w0:eJ) (M:MM) (own:Nat→Option Nat) (σ:Nat→Ob) (w:World) (a:Act) (id:Nat),ca w0 M own σ w→(∀x∈o.op.operands,b7 M (ρ x) (a.eval x))→e.pre M σ id→
    ∀(next:Act→World→Prop) (Q:Exit→Act→World→Prop),
      (∀v M' TW w',M.Le M'→e.St M M' id→ca w0 M' TW (e.post σ id) w'→b7 M' (e.val id) v→next (a.put o.dst v) w')→Mb P o a w next Q
section
variable {P:Program} {o:Oper} {ρ:Operand→D}
theorem gn {a:Act} {w w':World} {v:Value} {next:Act→World→Prop} {Q:Exit→Act→World→Prop} (h:(execOp a.eval o).run P w= .ok (.value v) w') (k:next (a.put o.dst v) w'):Mb P o a w next Q:=by
 intro r
 refine ⟨fun _ _=>trivial,?_⟩
 rw [show (FW r).round=r from rfl,mY h (fun d e=>by cases e) r]
 exact k
theorem rK {a:Act} {w w':World} {next:Act→World→Prop} {Q:Exit→Act→World→Prop} (h:(execOp a.eval o).run P w= .ok .skip w') (k:next (a.put o.dst undef) w'):Mb P o a w next Q:=by
 intro r
 refine ⟨fun _ _=>trivial,?_⟩
 rw [show (FW r).round=r from rfl,mY h (fun d e=>by cases e) r]
 exact k
theorem cA {d:D} (h:∀(M:MM) (w:World) (a:Act),(∀b o v,M.cell b o=some v→w.cell? ⟨b,o,none⟩=some v)→(∀x∈o.op.operands,b7 M (ρ x) (a.eval x))→
  ∃v,(execOp a.eval o).run P w= .ok (.value v) w∧b7 M d v):gw P o ρ (.pure d):=by
 intro w0 M own σ w a id hw hr _ next Q hn
 obtain ⟨v,h1,h2⟩:=h M w a hw.cells hr
 exact gn h1 (hn v M own w (.refl M) ⟨rfl,rfl⟩ hw h2)
theorem AI {d:D} (h:∀(M:MM) (w:World) (a:Act),(∀b o v,M.cell b o=some v→w.cell? ⟨b,o,none⟩=some v)→(∀x∈o.op.operands,b7 M (ρ x) (a.eval x))→
  ∃v M' w',(execOp a.eval o).run P w= .ok (.value v) w'∧Ext M w M' w'∧M'.box=M.box∧M'.bX=M.bX∧M'.fM=M.fM∧b7 M' d v):gw P o ρ (.pure d):=by
 intro w0 M own σ w a id hw hr _ next Q hn
 obtain ⟨v,M',w',h1,h2,h3,h4,hm,h5⟩:=h M w a hw.cells hr
 obtain ⟨k1,k2⟩:=hw.ext h2 h3 h4 hm
 exact gn h1 (hn v M' own w' k2 ⟨h3,h4⟩ k1 h5)
theorem qw {ty:TypeId} {x:Operand} {dyn:Bool} {id off:Nat} {cs:List D} {d:D} (ho:o.op= .load ty x) (hx:ρ x= .ptr dyn id off) (hp:mV P ty cs off d):gw P o ρ (.read id (.box cs) d):=by
 intro w0 M own σ w a i hw hr Ub next Q hn
 obtain ⟨b,vs,t,k⟩:=hw.box id cs Ub
 have VY:=hr x (by simp [ho,aas])
 rw [hx] at VY
 generalize hv:a.eval x=v at VY
 cases VY with
 |ptr _ hb=>
  rename_i b'
  rw [k.box] at hb
  obtain rfl:=aad hb
  have Vk:∀j c,cs[j]? =some c→w.cell? ⟨b,0+j,none⟩=some (vs.getD j .nilFunc)∧b7 M c (vs.getD j .nilFunc):=by
   intro j c hj
   obtain ⟨u,hu,hru⟩:=m8 k.len k.rep hj
   rw [aaJ,hu]
   refine ⟨?_,hru⟩
   simp [World.cell?,k.dI,hu]
  obtain ⟨v,h1,h2⟩:=jX hp (fun j=>vs.getD j .nilFunc) Vk
  rw [aaY] at h1
  refine gn (v:=v) (w':=w) ?_ (hn v M own w (.refl M) ⟨rfl,rfl⟩ hw h2)
  simp [execOp,ho,Instr.loadAt,Instr.sureAddr,hv,h1]
theorem xP {ty:TypeId} {x:Operand} {dyn:Bool} {id off:Nat} {d:D} {e:TypeDesc} (ho:o.op= .load ty x) (hx:ρ x= .ptr dyn id off) (hu:P.underlying ty=some e) (ha:dJ e=false):gw P o ρ (.iU id off d):=by
 intro w0 M own σ w a i hw hr Ub next Q hn
 have Ub:hG (σ id) off=some d:=Ub
 cases hs:σ id with
 |box cs=>
  rw [hs] at Ub
  exact qw (cs:=cs) (d:=d) ho hx ⟨e,hu,.inr ⟨ha,Ub⟩⟩ w0 M own σ w a i hw hr hs next Q hn
 |_=>rw [hs] at Ub;cases Ub
theorem xO {ty:TypeId} {x:Operand} {dyn:Bool} {y:D} {off:Nat} {cs:List D} {d:D} (ho:o.op= .load ty x) (hx:ρ x= .eL dyn y off) (hy:y.cells=some cs) (hp:mV P ty cs off d):gw P o ρ (.pure d):=by
 refine cA fun M w a hc hr=> ?_
 have VY:=hr x (by simp [ho,aas])
 rw [hx] at VY
 generalize hv:a.eval x=v at VY
 cases VY with
 |eL _ vs hx' Wb WK=>
  rw [hy] at hx'
  obtain rfl:=aad hx'
  obtain ⟨v,h1,h2⟩:=jX (M:=M) (w:=w) hp vs (fun j c hj=>⟨hc _ _ _ (Wb j c hj),(WK j c hj).mono (MM.lV M)⟩)
  exact ⟨v,by simp [execOp,ho,Instr.loadAt,Instr.sureAddr,hv,h1],h2⟩
theorem Fj {x:Operand} (ho:o.op= .move x∨o.op= .assign x):gw P o ρ (.pure (ρ x)):=
 cA fun M w a _ hr=>⟨a.eval x,by rcases ho with h|h<;>simp [execOp,h],hr x (by rcases ho with h|h<;>simp [h,aas])⟩
theorem Fi {c x y:Operand} {q:Bool} (ho:o.op= .pick c x y) (hc:ρ c= .bool q):gw P o ρ (.pure (if q then ρ x else ρ y)):=by
 refine cA fun M w a _ hr=> ?_
 have h1:=hr c (by simp [ho,aas])
 rw [hc] at h1
 generalize hv:a.eval c=v at h1
 cases h1
 have h2:=hr x (by simp [ho,aas])
 have h3:=hr y (by simp [ho,aas])
 refine ⟨if q then a.eval x else a.eval y,?_,by cases q<;>simpa⟩
 cases q<;>simp [execOp,ho,asBool,hv]
theorem mI {x:Operand} (ho:o.op= .nilCheck x) (hx:(∃q i f,ρ x= .ptr q i f)∨(∃q y f,ρ x= .eL q y f)∨∃g l r,ρ x= .fn (.func g) l r):gw P o ρ (.pure (ρ x)):=by
 refine cA fun M w a _ hr=> ?_
 have h1:=hr x (by simp [ho,aas])
 refine ⟨a.eval x,?_,h1⟩
 generalize hv:a.eval x=v at h1
 rcases hx with ⟨q,i,f,e⟩|⟨q,y,f,e⟩|⟨g,l,r,e⟩<;>rw [e] at h1<;>cases h1<;>simp [execOp,ho,hv]
theorem CT {x:Operand} {i:Nat} {ds:List D} {d:D} (ho:o.op= .extract x i) (hx:ρ x= .aL ds) (hd:ds[i]? =some d):gw P o ρ (.pure d):=by
 refine cA fun M w a _ hr=> ?_
 have h1:=hr x (by simp [ho,aas])
 rw [hx] at h1
 generalize hv:a.eval x=v at h1
 cases h1 with
 |aL hl T0=>
  obtain ⟨u,hu,hru⟩:=cy.get ⟨hl,T0⟩ hd
  exact ⟨u,by simp [execOp,ho,Instr.extract,hv,hu],hru⟩
theorem AK {f:Fn} {first cap:Array Operand} (ho:o.op= .makeFunc f first cap):gw P o ρ (.pure (.fn f (first.toList.map ρ) (cap.toList.map ρ))):=by
 refine cA fun M w a _ hr=> ?_
 refine ⟨.func f (first.map a.eval) (cap.map a.eval),by simp [execOp,ho,Instr.makeFunc],.fn (by simp) (by simp) ?_ ?_⟩
 ·intro i d v h1 h2
  rw [aau,aat] at h1
  obtain ⟨x,hx,rfl⟩:=h1
  rw [aaB] at hx
  rw [Array.getElem?_map,hx] at h2
  simp only [abv,aak] at h2
  subst h2
  exact hr x (by simp [ho,aas,Array.mem_of_getElem? hx])
 ·intro i d v h1 h2
  rw [aau,aat] at h1
  obtain ⟨x,hx,rfl⟩:=h1
  rw [aaB] at hx
  rw [Array.getElem?_map,hx] at h2
  simp only [abv,aak] at h2
  subst h2
  exact hr x (by simp [ho,aas,Array.mem_of_getElem? hx])
theorem xS {s:TypeId} {x:Operand} {f:Nat} {fields:Array Field} {fd:Field} (ho:o.op= .fieldAddr s x f) (hs:P.underlying s=some (.struct fields)) (hf:fields[f]? =some fd)
  (hk:known P fd.type=true) (Ux:0<P.cellsOf fd.type):
  (∀q i off,ρ x= .ptr q i off→gw P o ρ (.pure (.ptr q i (off+fd.offset))))∧(∀q y off,ρ x= .eL q y off→gw P o ρ (.pure (.eL q y (off+fd.offset)))):=by
 constructor
 ·intro q i off hx
  refine cA fun M w a _ hr=> ?_
  have h1:=hr x (by simp [ho,aas])
  rw [hx] at h1
  generalize hv:a.eval x=v at h1
  cases h1 with
  |ptr _ hb=>
   refine ⟨_,?_,.ptr q hb⟩
   simp [execOp,ho,Instr.fieldAt,run_underlying hs,hf,hv,Instr.sureAddr,fieldPlace,dc hk,Nat.ne_of_gt Ux,gP]
 ·intro q y off hx
  refine cA fun M w a _ hr=> ?_
  have h1:=hr x (by simp [ho,aas])
  rw [hx] at h1
  generalize hv:a.eval x=v at h1
  cases h1 with
  |eL _ vs hx' Wb WK=>
   refine ⟨_,?_,.eL q vs hx' Wb WK⟩
   simp [execOp,ho,Instr.fieldAt,run_underlying hs,hf,hv,Instr.sureAddr,fieldPlace,dc hk,Nat.ne_of_gt Ux,gP,Nat.add_assoc]
theorem Ku {ty:TypeId} {x:Operand} {f:Nat} {fields:Array Field} {fd:Field} {cs:List D} {d:D} (ho:o.op= .field ty x f) (hs:P.underlying ty=some (.struct fields)) (hf:fields[f]? =some fd)
  (hx:ρ x= .agg cs) (hp:mV P fd.type cs fd.offset d):gw P o ρ (.pure d):=by
 refine cA fun M w a _ hr=> ?_
 have h1:=hr x (by simp [ho,aas])
 rw [hx] at h1
 generalize hv:a.eval x=v at h1
 cases h1 with
 |agg hl T0=>
  obtain ⟨v,h2,h3⟩:=qq hp ⟨hl,T0⟩
  exact ⟨v,by simp [execOp,ho,Instr.field,run_underlying hs,hf,hv,asAgg,h3],h2⟩
theorem dX {M:MM} {d:D} {v:Value} {k:abz} {n:Int} (h:b7 M d v) (e:d= .int k n):v= .int k n:=by subst e;cases h;rfl
theorem o7 {ty:TypeId} {x ix:Operand} {k:abz} {i:Int} {len:Nat} {elem:TypeId} (ho:o.op= .indexAddr ty x ix) (hi:ρ ix= .int k i) (ht:P.underlying ty=some (.array len elem)) (hk:known P elem=true) (hb:0≤i∧i<len) (dyn:Bool):
  (∀q id off,ρ x= .ptr q id off→gw P o ρ (.pure (.ptr dyn id (off+i.toNat*P.cellsOf elem))))∧(∀q y off,ρ x= .eL q y off→gw P o ρ (.pure (.eL dyn y (off+i.toNat*P.cellsOf elem)))):=by
 constructor
 ·intro q id off hx
  refine cA fun M w a _ hr=> ?_
  have h1:=hr x (by simp [ho,aas])
  have h2:=dX (hr ix (by simp [ho,aas])) hi
  rw [hx] at h1
  generalize hv:a.eval x=v at h1
  cases h1 with
  |ptr _ hb'=>
   refine ⟨_,?_,.ptr dyn hb'⟩
   simp [execOp,ho,Instr.indexAt,h2,asIntOf,run_underlying ht,hv,Instr.sureAddr,hb,dc hk,gP]
 ·intro q y off hx
  refine cA fun M w a _ hr=> ?_
  have h1:=hr x (by simp [ho,aas])
  have h2:=dX (hr ix (by simp [ho,aas])) hi
  rw [hx] at h1
  generalize hv:a.eval x=v at h1
  cases h1 with
  |eL _ vs hx' Wb WK=>
   refine ⟨_,?_,.eL dyn vs hx' Wb WK⟩
   simp [execOp,ho,Instr.indexAt,h2,asIntOf,run_underlying ht,hv,Instr.sureAddr,hb,dc hk,gP,Nat.add_assoc]
theorem pW {ty:TypeId} {x ix:Operand} {k:abz} {i:Int} {elem:TypeId} {ow:ln} {sz:Nat} {xs:List D} {y:D} (ho:o.op= .indexAddr ty x ix) (hi:ρ ix= .int k i) (ht:P.underlying ty=some (.slice elem)) (hk:known P elem=true)
  (T8:P.cellsOf elem=sz) (hb:0≤i) (hx:ρ x= .aY ow sz xs) (hy:xs[i.toNat]? =some y):gw P o ρ (.pure (.eL false y 0)):=by
 refine cA fun M w a _ hr=> ?_
 have h1:=hr x (by simp [ho,aas])
 have h2:=dX (hr ix (by simp [ho,aas])) hi
 rw [hx] at h1
 generalize hv:a.eval x=v at h1
 cases h1 with
 |aY b off vs hl TZ ha hs hc hrr T5 Ur=>
  rename_i ad len cap
  have T1:i.toNat<xs.length:=by
   rcases aaA i.toNat xs.length with h|h
   ·exact h
   ·simp [aam h] at hy
  have Ut:xs≠ []:=fun e=>by simp [e] at T1
  obtain rfl:=ha Ut
  obtain ⟨cs,T6,hlen⟩:=hs _ _ hy
  refine ⟨.pointer (some ⟨b,(off+i.toNat*sz)+0,none⟩),?_,.eL false (fun j=>vs i.toNat j) T6 (fun j c hj=>hc _ _ _ j c hy T6 hj) (fun j c hj=>hrr _ _ _ j c hy T6 hj)⟩
  have:i<len:=by omega
  simp [execOp,ho,Instr.indexAt,h2,asIntOf,run_underlying ht,hv,hb,this,dc hk,gP,T8]
theorem xR {ty:TypeId} {x ix:Operand} {k:abz} {i:Int} {len:Nat} {elem:TypeId} {cs:List D} {d:D} (ho:o.op= .index ty x ix) (hi:ρ ix= .int k i) (ht:P.underlying ty=some (.array len elem)) (hk:known P elem=true) (hb:0≤i∧i<len)
  (hx:ρ x= .agg cs) (hp:mV P elem cs (i.toNat*P.cellsOf elem) d):gw P o ρ (.pure d):=by
 refine cA fun M w a _ hr=> ?_
 have h1:=hr x (by simp [ho,aas])
 have h2:=dX (hr ix (by simp [ho,aas])) hi
 rw [hx] at h1
 generalize hv:a.eval x=v at h1
 cases h1 with
 |agg hl T0=>
  obtain ⟨v,h3,h4⟩:=qq hp ⟨hl,T0⟩
  exact ⟨v,by simp [execOp,ho,Instr.index,h2,asIntOf,run_underlying ht,hv,hb,dc hk,h4],h3⟩
theorem xQ {ty:TypeId} {x ix:Operand} {k:abz} {i:Int} {s:ByteArray} {d:D} (ho:o.op= .index ty x ix) (hi:ρ ix= .int k i) (ht:P.underlying ty=some .string) (hb:0≤i)
  (hx:ρ x= .str s) (hp:(kP s)[i.toNat]? =some d):gw P o ρ (.pure d):=by
 refine cA fun M w a _ hr=> ?_
 have h1:=hr x (by simp [ho,aas])
 have h2:=dX (hr ix (by simp [ho,aas])) hi
 rw [hx] at h1
 generalize hv:a.eval x=v at h1
 cases h1
 unfold kP at hp
 rw [aau,aat] at hp
 obtain ⟨c,hc,rfl⟩:=hp
 rw [aaB] at hc
 have Wb:s[i.toNat]? =some c:=by
  have T1:i.toNat<s.data.size:=by
   rcases aaA i.toNat s.data.size with h|h
   ·exact h
   ·simp [aaW h] at hc
  have Zt:i.toNat<s.size:=T1
  rw [getElem?_pos s i.toNat Zt]
  rw [getElem?_pos s.data i.toNat T1] at hc
  exact hc
 exact ⟨.int .u8 c.toNat,by simp [execOp,ho,Instr.index,h2,asIntOf,run_underlying ht,hv,hb,Wb],.int _ _⟩
end
section
variable {P:Program} {o:Oper} {ρ:Operand→D}
theorem AJ {ty:TypeId} {x v:Operand} {dyn:Bool} {id off:Nat} {cs vc:List D} (ho:o.op= .store ty x v) (hx:ρ x= .ptr dyn id off) (hv:(ρ v).cells=some vc) (hk:known P ty=true)
  (T8:vc.length=P.cellsOf ty) (T5:∀d∈vc,storable d=true) (hl:off+vc.length≤cs.length):gw P o ρ (.gK id (.box cs) (.box (jh cs off vc)) .undef):=by
 intro w0 M own σ w a i hw hr Ub next Q hn
 obtain ⟨b,vs,t,k⟩:=hw.box id cs Ub
 have VY:=hr x (by simp [ho,aas])
 have YQ:=hr v (by simp [ho,aas])
 rw [hx] at VY
 generalize hva:a.eval x=va at VY
 cases VY with
 |ptr _ hb=>
  rename_i b'
  rw [k.box] at hb
  obtain rfl:=aad hb
  have T9:=YQ.cells hv
  have hlen:(a.eval v).cells.toList.length=vc.length:=by rw [aaX,← T9.1]
  have UU:∀u∈(a.eval v).cells.toList,u.oneCell'=true:=by
   intro u hu
   obtain ⟨j,hj⟩:=List.mem_iff_getElem?.1 hu
   rw [aaB] at hj
   have VP:j<vc.length:=by
    rcases aaA j vc.length with h|h
    ·exact h
    ·rw [T9.1] at h;simp [aaW h] at hj
   exact oA (T9.2 j vc[j] u (by simp [VP]) hj) (T5 _ (by simp))
  have Ud:=iI (P:=P) (b:=b) (off:=off) (fz:=(0,0)) (a.eval v).cells.toList 0 w vs k.dI UU (by rw [hlen];have:=k.len;omega) (fun o _ h=>by have:=h.2;simp at this)
  rw [Nat.add_zero] at Ud
  have T0:=oO (M:=M) k.len k.rep T9 hl
  refine rK (w':=cM w b (.cells (eh vs off (a.eval v).cells.toList) t (0,0))) ?_ (hn undef M own _ (.refl M) ⟨rfl,fun _ _=>rfl⟩ (hw.Jy k T0.1 (eN _ _ _) T0.2) (.undef _))
  have he:(a.eval v).cells.size=P.cellsOf ty:=by rw [← T9.1,T8]
  simp [execOp,ho,Instr.storeAt,Instr.sureAddr,hva,storeVar,dc hk,he,Ud]
theorem pY {cs:List D} (h:∀(M:MM) (w:World) (a:Act),(∀x∈o.op.operands,b7 M (ρ x) (a.eval x))→∃vs ty,(execOp a.eval o).run P w= .ok (.value (.pointer (some ⟨w.heap.size,0,none⟩))) (w.alloc (.cells vs ty))∧cy M cs vs):
  gw P o ρ (.new (.box cs) fun id=> .ptr false id 0):=by
 intro w0 M own σ w a id hw hr Ub next Q hn
 obtain ⟨vs,ty,h1,h2⟩:=h M w a hr
 have k:=hw.CW Ub.1 Ub.2 ty (Nat.le_of_eq h2.1) h2.2
 exact gn h1 (hn _ _ _ _ (MM.fX Ub.1) ⟨fun j hj=>by simp [MM.cL,hj],fun _ _=>rfl⟩ k (.ptr false (by simp [MM.cL])))
theorem O4 {e:TypeId} {x:Operand} {cs:List D} (ho:o.op= .box e x) (hx:(ρ x).cells=some cs):gw P o ρ (.new (.box cs) fun id=> .ptr false id 0):=by
 refine pY fun M w a hr=>⟨(a.eval x).cells,e,?_,(hr x (by simp [ho,aas])).cells hx⟩
 simp [execOp,ho,Instr.box,newVar,newRow]
theorem jf {t:TypeId} {d:D} (h:kq P t=some d):∃i v,P.info? t=some i∧i.zero=some v∧d=gh v:=by
 unfold kq at h
 split at h
 ·rename_i i hi
  split at h
  ·rename_i v hv
   exact ⟨i,v,hi,hv,(aad h).symm⟩
  ·cases h
 ·cases h
theorem Kx {e:TypeId} {d:D} {cs:List D} (ho:o.op= .alloc e) (hz:kq P e=some d) (hc:d.cells=some cs):gw P o ρ (.new (.box cs) fun id=> .ptr false id 0):=by
 obtain ⟨i,v,hi,hv,rfl⟩:=jf hz
 refine pY fun M w a hr=>⟨v.cells,e,?_,(jZ (M:=M) v).cells hc⟩
 simp [execOp,ho,Instr.alloc,fC hi hv,newVar,newRow]
theorem GZ {e:TypeId} {d:D} (ho:o.op= .alloc e) (hz:kq P e=some d) (h1:IZ P e=true):gw P o ρ (.new (.box [.undef]) fun id=> .ptr false id 0):=by
 obtain ⟨i,v,hi,hv,rfl⟩:=jf hz
 have hs:v.cells.size=1:=by
  unfold IZ at h1
  rw [hi] at h1
  simp only [hv,aaG] at h1
  exact h1
 refine pY fun M w a hr=>⟨v.cells,e,?_,hs.symm,fun j d u x y=> ?_⟩
 ·simp [execOp,ho,Instr.alloc,fC hi hv,newVar,newRow]
 ·cases j with
  |zero=>simp at x;subst x;exact .undef u
  |succ j=>simp at x
theorem HT (l:List Value):∀(cells:Array Value) (off k:Nat),(l.zipIdx k).foldl (fun cs (p:Value×Nat)=>cs.setIfInBounds (off+p.2) p.1) cells=eh cells (off+k) l:=by
 induction l with
 |nil=>intro cells off k;rfl
 |cons x r ih=>intro cells off k;simp [List.zipIdx_cons,eh,ih,Nat.add_assoc]
theorem s8 (v cells:Array Value) (off:Nat):v.zipIdx.foldl (fun cs (c,j)=>cs.setIfInBounds (off+j) c) cells=eh cells off v.toList:=by
 rw [← Array.foldl_toList,Array.toList_zipIdx]
 exact HT v.toList cells off 0
def NH (M:MM):List (Nat×D)→List (Nat×Value)→Prop
  | [],[]=>True
  |(i,d)::r,(j,v)::s=>i=j∧b7 M d v∧NH M r s
  |_,_=>False
theorem Ae {M:MM} {a:Act} (ps:List (Nat×Operand)) (h:∀p∈ps,b7 M (ρ p.2) (a.eval p.2)):NH M (ps.map fun p=>(p.1,ρ p.2)) (ps.map fun p=>(p.1,a.eval p.2)):=by
 induction ps with
 |nil=>trivial
 |cons p r ih=>exact ⟨rfl,h p (by simp),ih fun q hq=>h q (by simp [hq])⟩
theorem yg {M:MM} (place:Nat→Option (Nat×Nat)):∀(parts:List (Nat×D)) (UF:List (Nat×Value)) (cells cs:List D) (arr:Array Value),NH M parts UF→cy M cells arr→vw place cells parts=some cs→
  ∃arr',Instr.fill place arr UF=some arr'∧cy M cs arr'
 | [],[],cells,cs,arr,_,h,e=>by
  simp only [vw,aak] at e;subst e;exact ⟨arr,rfl,h⟩
 | [],_::_,_,_,_,hp,_,_=>hp.elim
 |_::_,[],_,_,_,hp,_,_=>hp.elim
 |(i,d)::r,(j,v)::s,cells,cs,arr,hp,h,e=>by
  obtain ⟨rfl,hd,hp⟩:=hp
  unfold vw at e
  split at e
  ·rename_i off size vc Zs W2
   split at e
   ·rename_i hb
    rw [aae,aaG,abh] at hb
    have Za:=hd.cells W2
    have T8:off+vc.length≤cells.length:=by omega
    obtain ⟨arr',h1,h2⟩:=yg place r s _ cs _ hp (Af h Za T8) e
    refine ⟨arr',?_,h2⟩
    have e1:v.cells.size=size:=by rw [← Za.1];exact hb.1
    have e2:¬(off+v.cells.size>arr.size):=by rw [← h.1,e1];omega
    rw [Instr.fill,Zs]
    simp only [e1,ne_eq,not_true_eq_false,decide_false,Bool.false_or]
    rw [← e1]
    simp only [e2,decide_false,aaT,if_false,s8]
    exact h1
   ·cases e
  ·cases e
theorem uc {α β:Type} (f:α→Sem β) (g:α→β) (l:List α) (h:∀x∈l,∀w,(f x).run P w= .ok (g x) w):∀w,(l.mapM f).run P w= .ok (l.map g) w:=by
 induction l with
 |nil=>intro w;simp
 |cons x r ih=>
  intro w
  simp [List.mapM_cons,h x (by simp),ih fun y hy=>h y (by simp [hy])]
theorem Kw {ty:TypeId} {parts:Array (Nat×Operand)} {d:D} (ho:o.op= .build ty parts) (hb:Ef P ty (parts.toList.map fun p=>(p.1,ρ p.2))=some d):gw P o ρ (.pure d):=by
 refine cA fun M w a _ hr=> ?_
 have VL:=Ae (M:=M) (ρ:=ρ) (a:=a) parts.toList (fun p hp=>hr p.2 (by
  simp only [ho,aas]
  exact List.mem_toArray.2 (List.mem_map.2 ⟨p,hp,rfl⟩)))
 have Yu:(parts.map fun (i,x)=>(i,a.eval x)).toList=parts.toList.map fun p=>(p.1,a.eval p.2):=by simp
 unfold Ef at hb
 split at hb
 ·cases hb
 ·rename_i z hz
  obtain ⟨i,v,hi,hv,rfl⟩:=jf hz
  split at hb
  ·cases hb
  ·rename_i zero WS
   have ZV:=(jZ (M:=M) v).cells WS
   split at hb
   ·rename_i fields ht
    split at hb
    ·rename_i US
     split at hb
     ·rename_i cs T6
      simp only [aak] at hb
      subst hb
      obtain ⟨arr,h1,h2⟩:=yg (M:=M) _ _ _ _ _ _ VL ZV T6
      refine ⟨.agg arr,?_,.agg h2.1 h2.2⟩
      have hm:∀w:World,(fields.mapM fun (f:Field)=>(do pure (f.offset,← sizeOf f.type):Sem (Nat×Nat))).run P w= .ok (fields.map fun (f:Field)=>(f.offset,P.cellsOf f.type)) w:=by
       intro w
       rw [Array.mapM_eq_mapM_toList]
       rw [aaO] at US
       have:=uc (P:=P) (fun f:Field=>(do pure (f.offset,← sizeOf f.type):Sem (Nat×Nat))) (fun f=>(f.offset,P.cellsOf f.type)) fields.toList (fun f hf w=>by simp [dc (US f hf)]) w
       simp only [Sem.run_map,this,aaq]
       rw [← Array.toList_map,Array.toArray_toList]
      have Zs:(fun (i:Nat)=>(fields.map fun (f:Field)=>(f.offset,P.cellsOf f.type))[i]?)=fun (i:Nat)=>(fields[i]?).map fun (f:Field)=>(f.offset,P.cellsOf f.type):=by
       funext i;simp
      simp only [execOp,ho,Instr.build,aay,fC hi hv,aaq,run_underlying ht]
      simp only [hm,aaq,Yu,Zs,h1,aaH]
     ·cases hb
    ·cases hb
   ·rename_i n elem ht
    split at hb
    ·rename_i hk
     split at hb
     ·rename_i cs T6
      simp only [aak] at hb
      subst hb
      obtain ⟨arr,h1,h2⟩:=yg (M:=M) _ _ _ _ _ _ VL ZV T6
      refine ⟨.agg arr,?_,.agg h2.1 h2.2⟩
      simp only [execOp,ho,Instr.build,aay,fC hi hv,aaq,run_underlying ht,dc hk,Yu,h1,aaH]
     ·cases hb
    ·cases hb
   ·cases hb
theorem qp {k k':abz} (h:hY k k'=true):k=k':=by cases k<;>cases k'<;>first|rfl|(simp [hY] at h)
theorem O5 {op:BinOp} {t t':TypeId} {x y:Operand} {d:D} (ho:o.op= .binOp op t x y t')
  (h:∀(M:MM) (w:World) (u v:Value),b7 M (ρ x) u→b7 M (ρ y) v→∃r,(do eqGuard op t x y u v;binOp op t u v:Sem Value).run P w= .ok r w∧b7 M d r):gw P o ρ (.pure d):=by
 refine cA fun M w a _ hr=> ?_
 obtain ⟨r,h1,h2⟩:=h M w _ _ (hr x (by simp [ho,aas])) (hr y (by simp [ho,aas]))
 refine ⟨r,?_,h2⟩
 simp only [execOp,ho]
 rw [aay,h1]
 rfl
end
section
variable {ρ':Type} {P:Program} {r:ρ'}
theorem C8 {z:Z P} {st:Bool} {op:BinOp} {k:abz} {a b:Int} {K:Z P→D→Option ρ'} (h:C9 z st op k a b K=some r) (VJ:op≠ .shl) (Zf:op≠ .shr):
  ∃z' d,K z' d=some r∧(z'.c→z.c∧∀(M:MM) (w:World) (t:TypeId) (x y:Operand),∃v,(do eqGuard op t x y (.int k a) (.int k b);binOp op t (.int k a) (.int k b):Sem Value).run P w= .ok v w∧b7 M d v):=by
 cases op<;>simp only [C9] at h
 case shl=>exact absurd rfl VJ
 case shr=>exact absurd rfl Zf
 case quo=>
  obtain ⟨z',h1,h2⟩:=ik h
  refine ⟨z',_,h1,fun c=>⟨(h2 c).1,fun M w t x y=>⟨_,?_,.int _ _⟩⟩⟩
  have hb:b≠0:=by simpa using (h2 c).2
  simp [eqGuard,binOp,Op.intDiv,hb]
 case rem=>
  obtain ⟨z',h1,h2⟩:=ik h
  refine ⟨z',_,h1,fun c=>⟨(h2 c).1,fun M w t x y=>⟨_,?_,.int _ _⟩⟩⟩
  have hb:b≠0:=by simpa using (h2 c).2
  simp [eqGuard,binOp,Op.intDiv,hb]
 case and=>exact ⟨z,_,h,fun c=>⟨c,fun M w t x y=>⟨.int k _,by rw [eqGuard_at_int];simp only [pure_bind,binOp,ne_eq,not_true_eq_false,if_false];rfl,.int _ _⟩⟩⟩
 case or=>exact ⟨z,_,h,fun c=>⟨c,fun M w t x y=>⟨.int k _,by rw [eqGuard_at_int];simp only [pure_bind,binOp,ne_eq,not_true_eq_false,if_false];rfl,.int _ _⟩⟩⟩
 case xor=>exact ⟨z,_,h,fun c=>⟨c,fun M w t x y=>⟨.int k _,by rw [eqGuard_at_int];simp only [pure_bind,binOp,ne_eq,not_true_eq_false,if_false];rfl,.int _ _⟩⟩⟩
 case andNot=>exact ⟨z,_,h,fun c=>⟨c,fun M w t x y=>⟨.int k _,by rw [eqGuard_at_int];simp only [pure_bind,binOp,ne_eq,not_true_eq_false,if_false];rfl,.int _ _⟩⟩⟩
 case add=>exact ⟨z,_,h,fun c=>⟨c,fun M w t x y=>⟨.int k _,by rw [eqGuard_at_int];simp only [pure_bind,binOp,ne_eq,not_true_eq_false,if_false];rfl,.int _ _⟩⟩⟩
 case sub=>exact ⟨z,_,h,fun c=>⟨c,fun M w t x y=>⟨.int k _,by rw [eqGuard_at_int];simp only [pure_bind,binOp,ne_eq,not_true_eq_false,if_false];rfl,.int _ _⟩⟩⟩
 case mul=>exact ⟨z,_,h,fun c=>⟨c,fun M w t x y=>⟨.int k _,by rw [eqGuard_at_int];simp only [pure_bind,binOp,ne_eq,not_true_eq_false,if_false];rfl,.int _ _⟩⟩⟩
 all_goals exact ⟨z,_,h,fun c=>⟨c,fun M w t x y=>⟨.bool _,by rw [eqGuard_at_int];simp only [pure_bind,binOp,ne_eq,not_true_eq_false,if_false];rfl,.bool _⟩⟩⟩
theorem tg {M:MM} :∀ {ks:List LK} {xs:List D} {vs:List Value},j9 ks xs=true→xs.length=vs.length→(∀(i:Nat) (d:D) (v:Value),xs[i]? =some d→vs[i]? =some v→b7 M d v)→ev ks vs
 | [],[],[],_,_,_=>trivial
 | [],[],_::_,_,h,_=>by simp at h
 | [],_::_,_,h,_,_=>by simp [j9] at h
 |_::_,[],_,h,_,_=>by simp [j9] at h
 |_::_,_::_,[],_,h,_=>by simp at h
 |k::ks,d::ds,v::vs,h,hl,hr=>by
  simp only [j9,aae] at h
  have h0:=hr 0 d v rfl rfl
  refine ⟨?_,tg h.2 (by simpa using hl) fun i d v a b=>hr (i+1) d v (by simpa using a) (by simpa using b)⟩
  have h1:=h.1
  cases k<;>cases d<;>simp only [LK.fits,aaT] at h1<;>cases h0
  ·trivial
  ·exact qp h1
  ·trivial
theorem qF {M:MM} :∀ {ks:List LK} {xs ys:List D} {us vs:List Value},j9 ks xs=true→j9 ks ys=true→xs.length=us.length→ys.length=vs.length→
  (∀(i:Nat) (d:D) (v:Value),xs[i]? =some d→us[i]? =some v→b7 M d v)→(∀(i:Nat) (d:D) (v:Value),ys[i]? =some d→vs[i]? =some v→b7 M d v)→dT us vs=bZ xs ys
 | [],xs,ys,us,vs,hx,hy,lx,ly,_,_=>by
  cases xs<;>cases ys<;>simp [j9] at hx hy
  cases us<;>cases vs<;>simp at lx ly
  rfl
 |k::ks,xs,ys,us,vs,hx,hy,lx,ly,rx,ry=>by
  cases xs with
  |nil=>simp [j9] at hx
  |cons x xs=>
  cases ys with
  |nil=>simp [j9] at hy
  |cons y ys=>
  cases us with
  |nil=>simp at lx
  |cons u us=>
  cases vs with
  |nil=>simp at ly
  |cons v vs=>
   simp only [j9,aae] at hx hy
   have r1:=rx 0 x u rfl rfl
   have r2:=ry 0 y v rfl rfl
   have ih:=qF hx.2 hy.2 (by simpa using lx) (by simpa using ly) (fun i d v a b=>rx (i+1) d v (by simpa using a) (by simpa using b)) (fun i d v a b=>ry (i+1) d v (by simpa using a) (by simpa using b))
   simp only [dT,bZ,ih]
   congr 1
   have h1:=hx.1
   have h2:=hy.1
   cases k<;>cases x<;>simp only [LK.fits,aaT] at h1<;>cases y<;>simp only [LK.fits,aaT] at h2<;>cases r1<;>cases r2<;>rfl
theorem Px {w:World} {t:TypeId} {u v:Value} {b:Bool} (he:binOp .eql t u v=(do pure (.bool (← Op.equal t u v)):Sem Value)) (hn:binOp .neq t u v=(do pure (.bool (!(← Op.equal t u v))):Sem Value))
  (h:(Op.equal t u v).run P w= .ok b w):(binOp .eql t u v).run P w= .ok (.bool b) w∧(binOp .neq t u v).run P w= .ok (.bool (!b)) w:=by
 rw [he,hn,aay,aay,h]
 exact ⟨rfl,rfl⟩
theorem FK {z : Z P} {t : TypeId} {x y : D} {K : Z P → Bool → Option ρ'} (h : Ry P z t x y K = some r) :
    ∃z' b,K z' b=some r∧(z'.c→z.c)∧∀(M:MM) (w:World) (u v:Value),b7 M x u→b7 M y v→
      (∀op px py,(eqGuard op t px py u v).run P w= .ok () w)∧(binOp .eql t u v).run P w= .ok (.bool b) w∧(binOp .neq t u v).run P w= .ok (.bool (!b)) w:=by
  unfold Ry at h
  split at h
  ·
    split at h
    · rename_i ht
      refine ⟨z,_,h,id,fun M w u v hu hv=> ?_⟩
      cases hu;cases hv
      exact ⟨fun op px py=>by rw [eqGuard_at_bool];rfl,run_eql_bool w t _ _ ht,run_neq_bool w t _ _ ht⟩
    · cases h
  · rename_i xs ys
    split at h
    · rename_i t' ks hf rest _
      obtain ⟨h1,h2⟩:=bW h
      rw [aae,aae,aaG] at h1
      obtain ⟨ht,hx,hy⟩:=h1
      subst ht
      refine ⟨_,_,h2,id,fun M w u v hu hv=> ?_⟩
      cases hu with
      |agg l1 r1=>
        cases hv with
        |agg l2 r2=>
          rename_i us vs
          have lx:xs.length=us.toList.length:=by simpa using l1
          have ly:ys.length=vs.toList.length:=by simpa using l2
          have e1:=tg (M:=M) hx lx (fun i d v a b=>r1 i d v a (by simpa using b))
          have e2:=tg (M:=M) hy ly (fun i d v a b=>r2 i d v a (by simpa using b))
          have e3:=qF (M:=M) hx hy lx ly (fun i d v a b=>r1 i d v a (by simpa using b)) (fun i d v a b=>r2 i d v a (by simpa using b))
          have e4:=hf.eq us vs w e1 e2
          refine ⟨fun op px py=>run_eqGuard_agg w op t' px py us vs hf.plain,?_,?_⟩
          · rw [run_eql_struct,e4,e3];rfl
          · rw [run_neq_struct,e4,e3];rfl
    · cases h
  all_goals first
    | (split at h
       · rename_i ht
         refine ⟨z,_,h,id,fun M w u v hu hv=> ?_⟩
         cases hu;cases hv
         refine ⟨fun op px py=>by cases op<;>rfl,?_⟩
         refine Px rfl rfl ?_
         show (Op.equalIn (9999+1) t _ _).run P w=_
         unfold Op.equalIn
         simp only [aay,run_underlying ht,aaq,aaH,Option.isNone_none]
       · cases h)
    |cases h
theorem LF {z:Z P} {st:Bool} {op:BinOp} {t:TypeId} {x y:D} {K:Z P→D→Option ρ'} (h:PI P z st op t x y K=some r):
  ∃z' d,K z' d=some r∧(z'.c→z.c∧∀(M:MM) (w:World) (px py:Operand) (u v:Value),b7 M x u→b7 M y v→
   ∃q,(do eqGuard op t px py u v;binOp op t u v:Sem Value).run P w= .ok q w∧b7 M d q):=by
 unfold PI at h
 split at h
 ·rename_i k a k' b
  split at h
  ·obtain ⟨z',h1,h2⟩:=ik h
   refine ⟨z',_,h1,fun c=>⟨(h2 c).1,fun M w px py u v hu hv=> ?_⟩⟩
   cases hu;cases hv
   have hb:¬b<0:=by have:=(h2 c).2;simp at this;omega
   exact ⟨_,by simp [eqGuard,binOp,Op.shift,hb]<;>rfl,.int _ _⟩
  ·obtain ⟨z',h1,h2⟩:=ik h
   refine ⟨z',_,h1,fun c=>⟨(h2 c).1,fun M w px py u v hu hv=> ?_⟩⟩
   cases hu;cases hv
   have hb:¬b<0:=by have:=(h2 c).2;simp at this;omega
   exact ⟨_,by simp [eqGuard,binOp,Op.shift,hb]<;>rfl,.int _ _⟩
  ·rename_i VJ Zf
   obtain ⟨h1,h2⟩:=bW h
   obtain rfl:=qp h1
   obtain ⟨z',d,h3,h4⟩:=C8 h2 VJ Zf
   refine ⟨z',d,h3,fun c=>⟨(h4 c).1,fun M w px py u v hu hv=> ?_⟩⟩
   cases hu;cases hv
   exact (h4 c).2 M w t px py
 ·split at h
  ·refine ⟨z,_,h,fun c=>⟨c,fun M w px py u v hu hv=> ?_⟩⟩
   cases hu;cases hv
   exact ⟨_,by simp [eqGuard,binOp,Op.stringOp]<;>rfl,.bool _⟩
  ·refine ⟨z,_,h,fun c=>⟨c,fun M w px py u v hu hv=> ?_⟩⟩
   cases hu;cases hv
   exact ⟨_,by simp [eqGuard,binOp,Op.stringOp]<;>rfl,.bool _⟩
  ·cases h
 ·split at h
  ·obtain ⟨z',b,h1,h2,h3⟩:=FK h
   refine ⟨z',_,h1,fun c=>⟨h2 c,fun M w px py u v hu hv=> ?_⟩⟩
   obtain ⟨e1,e2,e3⟩:=h3 M w u v hu hv
   exact ⟨_,by rw [aay,e1];exact e2,.bool _⟩
  ·obtain ⟨z',b,h1,h2,h3⟩:=FK h
   refine ⟨z',_,h1,fun c=>⟨h2 c,fun M w px py u v hu hv=> ?_⟩⟩
   obtain ⟨e1,e2,e3⟩:=h3 M w u v hu hv
   exact ⟨_,by rw [aay,e1];exact e3,.bool _⟩
  ·cases h
theorem Me {op:UnOp} {x:D} {K:D→Option ρ'} (h:RA op x K=some r):∃d,K d=some r∧∀(M:MM) (w:World) (u:Value),b7 M x u→∃v,(Op.unary op u).run P w= .ok v w∧b7 M d v:=by
 unfold RA at h
 split at h
 ·refine ⟨_,h,fun M w u hu=> ?_⟩
  cases hu
  exact ⟨_,by simp [Op.unary,Op.intArith]<;>rfl,by simpa using .int _ _⟩
 ·refine ⟨_,h,fun M w u hu=> ?_⟩
  cases hu
  exact ⟨_,by simp [Op.unary,Op.intBits]<;>rfl,.int _ _⟩
 ·refine ⟨_,h,fun M w u hu=> ?_⟩
  cases hu
  exact ⟨_,by simp [Op.unary]<;>rfl,.bool _⟩
 ·cases h
end
theorem jJ {a b:abz} (h:hY a b=true):a=b:=by cases a<;>cases b<;>first|rfl|(simp [hY] at h)
theorem Eg:oa [] 0:=⟨rfl,fun i e h=>by simp at h⟩
theorem uB {l:List MapEntry} {c j:Nat} {f:MapEntry→MapEntry} (hf:∀e,(f e).born=e.born) (h:oa l c):oa (l.modify j f) c:=by
 refine ⟨by rw [List.length_modify];exact h.1,fun i e he=> ?_⟩
 rw [List.getElem?_modify] at he
 cases hl:l[i]? with
 |none=>rw [hl] at he;cases he
 |some e0=>
  rw [hl] at he
  have h0:=h.2 i e0 hl
  simp only [Option.map_eq_map,abv,aak] at he
  split at he
  ·rw [← he,hf];exact h0
  ·rw [← he];exact h0
theorem Bt {l:List MapEntry} {c:Nat} {k v:Value} (h:oa l c):oa (l++ [⟨k,v,c⟩]) (c+1):=by
 refine ⟨by simp [h.1],fun i e he=> ?_⟩
 rw [aa8] at he
 split at he
 ·exact h.2 i e he
 ·rename_i hi
  have:i=l.length:=by
   rcases Nat.lt_trichotomy i l.length with q|q|q
   ·exact absurd q hi
   ·exact q
   ·rw [aam (by simp;omega)] at he;cases he
  subst this
  simp only [Nat.sub_self,abb,aak] at he
  rw [← he];exact h.1
theorem Gm {M:MM} {d:D} {v:Value} (h:oE d=some v):b7 M d v:=by
 cases d<;>simp only [oE,aak,reduceCtorEq] at h<;>subst h
 ·exact .int _ _
 ·exact .bool _
 ·exact .str _
theorem JA {M:MM} {d:D} {v:Value} (h:b7 M d v) (hs:sR d=true):oE d=some v:=by
 cases h<;>first|rfl|(simp [sR] at hs)
theorem qe {k q:abz} {n:Int} :∀ {es:List (Int×D)} {l:List MapEntry} (i:Nat),ti k es l→
  (∃j v d e,(pg es n=some d∧HB es n=j)∧oE d=some v∧Instr.findNow (.int q) (.int k n) l i=some (some (i+j,v))∧l[j]? =some e∧e.key= .int k n∧∀v2 d2,oE d2=some v2→ti k (nB es n d2) (l.modify j fun e=> { e with key:= .int k n,val:=v2 }))∨
  ((pg es n=none∧HB es n=es.length)∧Instr.findNow (.int q) (.int k n) l i=some none∧∀v2 d2 c,oE d2=some v2→ti k (nB es n d2) (l++ [⟨.int k n,v2,c⟩]))
 | [],[],i,_=> .inr ⟨⟨rfl,rfl⟩,rfl,fun v2 d2 c h=>⟨rfl,h,trivial⟩⟩
 | [],_::_,_,h=>h.elim
 |(_,_)::_,[],_,h=>h.elim
 |(a,d)::r,e::s,i,h=>by
  obtain ⟨h1,h2,h3⟩:=h
  have Uv:Instr.sameNow (.int q) (.int k n) e.key=some (n==a):=by rw [h1];simp [Instr.sameNow]
  by_cases hn:(n==a)=true
  ·left
   have hna:n=a:=by simpa using hn
   refine ⟨0,e.val,d,e,?_,h2,?_,rfl,by rw [h1,hna],?_⟩
   ·simp [pg,HB,hn]
   ·simp [Instr.findNow,Uv,hn]
   ·intro v2 d2 hd
    simp only [nB,hn,List.modify_zero_cons]
    exact ⟨rfl,hd,h3⟩
  ·have XJ:(n==a)=false:=by simpa using hn
   rcases qe (q:=q) (n:=n) (i+1) h3 with ⟨j,v,d',e',k1,k2,k3,k4,k5,k6⟩|⟨k1,k2,k3⟩
   ·left
    refine ⟨j+1,v,d',e',?_,k2,?_,by simpa using k4,k5,?_⟩
    ·simp [pg,HB,XJ,k1]
    ·simp only [Instr.findNow,Uv,XJ]
     rw [k3,show i+1+j=i+(j+1) by omega]
    ·intro v2 d2 hd
     simp only [nB,XJ,List.modify_succ_cons]
     exact ⟨h1,h2,k6 v2 d2 hd⟩
   ·right
    refine ⟨?_,?_,?_⟩
    ·simp [pg,HB,XJ,k1]
    ·simp only [Instr.findNow,Uv,XJ,k2]
    ·intro v2 d2 c hd
     simp only [nB,XJ,List.cons_append]
     exact ⟨h1,h2,k3 v2 d2 c hd⟩
section
variable {P:Program} {o:Oper} {ρ:Operand→D}
theorem mK {t:TypeId} {k:abz} {et:TypeId} (h:kE P t=some (k,et)):∃kt,P.underlying t=some (.map kt et)∧P.underlying kt=some (.int k):=by
 unfold kE at h
 split at h
 ·rename_i kt et' ht
  split at h
  ·rename_i k' hk
   simp only [aak,Prod.mk.injEq] at h
   obtain ⟨rfl,rfl⟩:=h
   exact ⟨kt,ht,hk⟩
  ·cases h
 ·cases h
theorem jO {kt:TypeId} {q:abz} (hk:P.underlying kt=some (.int q)) (b:Bool) (v:Value) (w:World):(Instr.checkKey b 10000 kt v).run P w= .ok () w:=by
 unfold Instr.checkKey
 simp [run_underlying hk]
theorem CS {ty:TypeId} {r:Option Operand} {k:abz} {et:TypeId} (ho:o.op= .makeMap ty r) (hk:kE P ty=some (k,et)) (hr:∀x,r=some x→∃q n,ρ x= .int q n):
  gw P o ρ (.new (.mp k []) fun id=> .gl id):=by
 intro w0 M own σ w a id hw T0 Ub next Q hn
 obtain ⟨kt,h1,h2⟩:=mK hk
 have Ud:(execOp a.eval o).run P w= .ok (.value (.map (some w.heap.size))) (w.alloc (.map #[] 0)):=by
  cases r with
  |none=>simp [execOp,ho,Instr.makeMap]
  |some x=>
   obtain ⟨q,n,hx⟩:=hr x rfl
   have:=dX (T0 x (by simp [ho,aas])) hx
   simp [execOp,ho,Instr.makeMap,run_underlying h1,this,asInt,asIntOf]
 have k:=hw.Pa Ub.1 (o:= .mp k []) rfl ⟨trivial,Eg⟩
 exact gn Ud (hn _ _ _ _ (MM.fX Ub.1) ⟨fun j hj=>by simp [MM.cL,hj],fun _ _=>rfl⟩ k (.gl (by simp [MM.cL])))
theorem GY {ty:TypeId} {m kx v:Operand} {id:Nat} {q:abz} {n:Int} {es:List (Int×D)} {et:TypeId} (ho:o.op= .insert ty m kx v∨o.op= .mapUpdate ty m kx v) (hk:kE P ty=some (q,et))
  (hm:ρ m= .gl id) (hx:ρ kx= .int q n) (hv:sR (ρ v)=true):gw P o ρ (.gK id (.mp q es) (.mp q (nB es n (ρ v))) .undef):=by
 intro w0 M own σ w a i hw hr Ub next Q hn
 obtain ⟨kt,t1,t2⟩:=mK hk
 obtain ⟨b,T3,clock,k⟩:=hw.mp id _ (by rw [(Ub:σ id=_)];rfl)
 have WM:m∈o.op.operands∧kx∈o.op.operands∧v∈o.op.operands:=by rcases ho with h|h<;>simp [h,aas]
 have Xp:=hr m WM.1
 have VY:=dX (hr kx WM.2.1) hx
 have YQ:=JA (hr v WM.2.2) hv
 rw [hm] at Xp
 generalize hva:a.eval m=va at Xp
 cases Xp with
 |gl hb=>
  rename_i b'
  rw [k.box] at hb
  obtain rfl:=aad hb
  have Uq:(execOp a.eval o).run P w=((Instr.mapUpdate ty (.map (some b)) (.int q n) (a.eval v)).run P w).andThen fun _ w'=> .ok .skip w':=by
   rcases ho with h|h<;>simp [execOp,h,hva,VY]
  rcases qe (q:=q) (n:=n) 0 k.fits.1 with ⟨j,v0,d0,e0,k1,k2,k3,k4,k5,k6⟩|⟨k1,k2,k3⟩
  ·have VD:ti q (nB es n (ρ v)) (T3.modify j fun e=> { e with key:= .int q n,val:=a.eval v }).toList:=by
    rw [Array.toList_modify];exact k6 _ _ YQ
   have WR:=hw.Jw k clock (o':= .mp q (nB es n (ρ v))) rfl ⟨VD,by rw [Array.toList_modify];exact uB (fun _=>rfl) k.fits.2⟩
   refine rK (w':=cM w b (.map (T3.modify j fun e=> { e with key:= .int q n,val:=a.eval v }) clock)) ?_ (hn undef M own _ (.refl M) ⟨rfl,fun _ _=>rfl⟩ WR (.undef _))
   rw [Uq]
   have Xv:(aby kt (.int q n) T3.toList).run P w= .ok (some (j,v0)) w:=by
    simp [aby,run_underlying t2,k3]
   have hej:T3[j]? =some e0:=by simpa using k4
   have hsb:Instr.sameBits 10000 (Value.int q n) (Value.int q n)=true:=by simp [Instr.sameBits]
   simp [Instr.mapUpdate,run_underlying t1,run_getObj_map w b T3 clock k.dI,jO t2,Xv,hej,k5,Instr.keyThatStays,hsb,MapKept.run_setObj_map _ k.dI,cM]
  ·have VD:ti q (nB es n (ρ v)) (T3.push ⟨.int q n,a.eval v,clock⟩).toList:=by
    rw [Array.toList_push];exact k3 _ _ _ YQ
   have WR:=hw.Jw k (clock+1) (o':= .mp q (nB es n (ρ v))) rfl ⟨VD,by rw [Array.toList_push];exact Bt k.fits.2⟩
   refine rK (w':=cM w b (.map (T3.push ⟨.int q n,a.eval v,clock⟩) (clock+1))) ?_ (hn undef M own _ (.refl M) ⟨rfl,fun _ _=>rfl⟩ WR (.undef _))
   rw [Uq]
   have Xv:(aby kt (.int q n) T3.toList).run P w= .ok none w:=by
    simp [aby,run_underlying t2,k2]
   simp [Instr.mapUpdate,run_underlying t1,run_getObj_map w b T3 clock k.dI,jO t2,Xv,MapKept.run_setObj_map _ k.dI,cM]
theorem CR {ty:TypeId} {m kx:Operand} {ok:Bool} {id:Nat} {q:abz} {n:Int} {es:List (Int×D)} {et:TypeId} {zd:D} {r:Option D} (ho:o.op= .lookup ty m kx ok) (hk:kE P ty=some (q,et)) (hz:kq P et=some zd)
  (hm:ρ m= .gl id) (hx:ρ kx= .int q n) (hl:pg es n=r):gw P o ρ (.read id (.mp q es) (match ok with|true=> .aL [r.getD zd,.bool r.isSome]|false=>r.getD zd)):=by
 intro w0 M own σ w a i hw hr Ub next Q hn
 obtain ⟨kt,t1,t2⟩:=mK hk
 obtain ⟨b,T3,clock,k⟩:=hw.mp id _ (by rw [(Ub:σ id=_)];rfl)
 have Xp:=hr m (by simp [ho,aas])
 have VY:=dX (hr kx (by simp [ho,aas])) hx
 rw [hm] at Xp
 generalize hva:a.eval m=va at Xp
 cases Xp with
 |gl hb=>
  rename_i b'
  rw [k.box] at hb
  obtain rfl:=aad hb
  obtain ⟨zi,zv,hzi,hzv,rfl⟩:=jf hz
  have main:∃v,b7 M (r.getD (gh zv)) v∧(execOp a.eval o).run P w= .ok (.value (if ok then .tuple #[v,.bool r.isSome] else v)) w:=by
   rcases qe (q:=q) (n:=n) 0 k.fits.1 with ⟨j,v0,d0,e0,k1,k2,k3,_⟩|⟨k1,k2,_⟩
   ·rw [k1.1] at hl
    subst hl
    refine ⟨v0,Gm k2,?_⟩
    have Xv:(aby kt (.int q n) T3.toList).run P w= .ok (some (j,v0)) w:=by
     simp [aby,run_underlying t2,k3]
    simp [execOp,ho,Instr.lookup,run_underlying t1,hva,VY,run_getObj_map w b T3 clock k.dI,jO t2,Xv]
   ·rw [k1.1] at hl
    subst hl
    refine ⟨zv,jZ zv,?_⟩
    have Xv:(aby kt (.int q n) T3.toList).run P w= .ok none w:=by
     simp [aby,run_underlying t2,k2]
    simp [execOp,ho,Instr.lookup,run_underlying t1,hva,VY,run_getObj_map w b T3 clock k.dI,jO t2,Xv,fC hzi hzv]
  obtain ⟨v,h1,h2⟩:=main
  refine gn h2 (hn _ M own w (.refl M) ⟨rfl,rfl⟩ hw ?_)
  cases ok
  ·exact h1
  ·refine .aL rfl (fun i d u p q=> ?_)
   match i,p,q with
   |0,p,q=>simp at p q;subst p q;exact h1
   |1,p,q=>simp at p q;subst p q;exact .bool _
   |i+2,p,_=>simp at p
end
section
variable {P:Program} {o:Oper} {ρ:Operand→D}
end
section
variable {P:Program} {o:Oper} {ρ:Operand→D}
end
section
variable {P:Program} {o:Oper} {ρ:Operand→D}
theorem uw (z:Array Value) (n i:Nat) (v:Value) (h:(madeCells z n)[i]? =some v) (hz:0<z.size):z[i%z.size]? =some v∧i<n:=by
 unfold madeCells at h
 rw [Array.getElem?_map,aat] at h
 obtain ⟨j,hj,rfl⟩:=h
 rw [Array.getElem?_eq_some_iff] at hj
 obtain ⟨h1,h2⟩:=hj
 rw [Array.getElem_range] at h2
 subst h2
 rw [Array.size_range] at h1
 have hm:=Nat.mod_lt i hz
 refine ⟨?_,h1⟩
 rw [getElem!_pos z (i%z.size) hm,Array.getElem?_eq_getElem hm]
theorem A4 {zc:List D} (hz:0<zc.length):∀(n i:Nat) (d:D),(Z7 n zc).flatten[i]? =some d→zc[i%zc.length]? =some d
 |0,i,d,h=>by simp at h
 |n+1,i,d,h=>by
  rw [List.replicate_succ,List.flatten_cons,aa8] at h
  split at h
  ·rename_i hi
   rw [Nat.mod_eq_of_lt hi];exact h
  ·rename_i hi
   have:=A4 hz n _ d h
   rwa [← Nat.mod_eq_sub_mod (by omega)] at this
theorem JW {zc:List D} (hz:0<zc.length) (n i:Nat) (d:D) (h:(Ah n zc)[i]? =some d):zc[i%zc.length]? =some d:=by
 unfold Ah at h
 split at h
 ·rename_i d0
  rw [List.getElem?_replicate] at h
  split at h
  ·simp only [aak] at h;subst h;simp [Nat.mod_one]
  ·cases h
 ·exact A4 hz n i d h
theorem A3 (zc:List D):∀n:Nat,((Z7 n zc).flatten).length=n*zc.length
 |0=>by simp
 |n+1=>by rw [List.replicate_succ,List.flatten_cons,aap,A3 zc n,Nat.succ_mul];omega
theorem JV (zc:List D) (n:Nat):(Ah n zc).length=n*zc.length:=by
 unfold Ah
 split
 ·simp
 ·exact A3 zc n
theorem MH {ty e:TypeId} {l c:Operand} {q q':abz} {n:Int} {zd:D} {zc:List D} (ho:o.op= .makeSlice ty l c) (ht:P.underlying ty=some (.slice e)) (hk:known P e=true) (hz:kq P e=some zd) (WS:zd.cells=some zc)
  (hlen:zc.length=P.cellsOf e) (Ux:0<zc.length) (Ys:P.bytesOf e≤65536) (hl:ρ l= .int q n) (hc:ρ c= .int q' n) (h0:0≤n) (h1:n≤2147483648):
  gw P o ρ (.new (.box (Ah n.toNat zc)) fun id=> .dm id (P.cellsOf e) n.toNat):=by
 intro w0 M own σ w a id hw hr Ub next Q hn
 obtain ⟨i,v,hi,hv,rfl⟩:=jf hz
 have r1:=dX (hr l (by simp [ho,aas])) hl
 have r2:=dX (hr c (by simp [ho,aas])) hc
 have hb:(i.bytes:Int)≤65536:=by
  have:P.bytesOf e=i.bytes:=by simp [Program.bytesOf,hi]
  omega
 have T8:P.cellsOf e=i.size:=by simp [Program.cellsOf,hi]
 have hmul:(i.bytes:Int)*n≤281474976710656:=by
  have:=Int.mul_le_mul hb h1 h0 (by omega:(0:Int)≤65536)
  omega
 have Ud:=run_make (P:=P) w ty e i v ht hi hv q q' n n h0 (Int.le_refl _) hmul (by omega)
 have YT:=(jZ (M:=M) v).cells WS
 have hvs:v.cells.size=i.size:=by rw [← YT.1,hlen,T8]
 have T0:cy M (Ah n.toNat zc) (madeCells v.cells (n.toNat*i.size)):=by
  refine ⟨by rw [JV,size_madeCells,hlen,T8],fun j d u p r=> ?_⟩
  obtain ⟨u1,_⟩:=uw _ _ _ _ r (by rw [hvs,← T8,← hlen];exact Ux)
  have u2:=JW Ux _ _ _ p
  rw [← YT.1] at u1
  exact YT.2 _ d u u2 u1
 have k:=hw.CW Ub.1 Ub.2 e (Nat.le_of_eq T0.1) T0.2
 obtain ⟨b1,vs1,ty1,kb⟩:=k.box id (Ah n.toNat zc) (bw _ _ _)
 have eb:b1=w.heap.size:=by have:=kb.box;simp only [MM.cL,if_true] at this;exact (aad this).symm
 have Zc:vs1.size=n.toNat*i.size:=by
  have h1:=kb.dI
  rw [eb] at h1
  have h2:(w.alloc (.cells (madeCells v.cells (n.toNat*i.size)) e)).heap[w.heap.size]? =some (.cells (madeCells v.cells (n.toNat*i.size)) e (0,0)):=by
   show (w.heap.push _)[w.heap.size]? =_
   simp
  rw [h2] at h1
  have h3:=aad h1
  simp only [Obj.cells.injEq] at h3
  rw [← h3.1,size_madeCells]
 have k2:=k.yE (bw _ _ _) kb (sz:=P.cellsOf e) (len:=n.toNat) (cap:=n.toNat) (Ub.2 _) (by rw [Zc,T8];exact aar _)
 subst eb
 have VG:(M.cL id w.heap.size).Le ((M.cL id w.heap.size).bM id (P.cellsOf e) (.slice (some ⟨w.heap.size,0,none⟩) n.toNat n.toNat)):=MM.eY (Ub.2 _)
 refine gn (v:= .slice (some ⟨w.heap.size,0,none⟩) n.toNat n.toNat) (w':=w.alloc (.cells (madeCells v.cells (n.toNat*i.size)) e)) ?_ (hn _ _ _ _ ((MM.fX Ub.1).trans VG) ⟨fun j hj=>by simp [MM.cL,MM.bM,hj],fun j hj=>by funext q;simp [MM.bM,MM.cL,hj]⟩ k2 (.dm (b:=w.heap.size) (by simp [MM.cL,MM.bM]) (by simp [MM.bM]) (aar _)))
 simp only [execOp,ho,r1,r2,aay,Ud,aaq,aaH]
theorem pV {ty:TypeId} {x ix:Operand} {k:abz} {i:Int} {elem:TypeId} {id sz n:Nat} (ho:o.op= .indexAddr ty x ix) (hi:ρ ix= .int k i) (ht:P.underlying ty=some (.slice elem)) (hk:known P elem=true)
  (T8:P.cellsOf elem=sz) (hb:0≤i∧i<n) (hx:ρ x= .dm id sz n):gw P o ρ (.pure (.ptr true id (i.toNat*sz))):=by
 refine cA fun M w a _ hr=> ?_
 have h1:=hr x (by simp [ho,aas])
 have h2:=dX (hr ix (by simp [ho,aas])) hi
 rw [hx] at h1
 generalize hv:a.eval x=v at h1
 cases h1 with
 |dm VN hhx TZ=>
  refine ⟨_,?_,.ptr true VN⟩
  have:i<n:=hb.2
  simp [execOp,ho,Instr.indexAt,h2,asIntOf,run_underlying ht,hv,hb.1,this,dc hk,gP,T8]
theorem pU {ty:TypeId} {x ix:Operand} {k:abz} {i:Int} {elem:TypeId} {id off sz n:Nat} {cp:Option Nat} (ho:o.op= .indexAddr ty x ix) (hi:ρ ix= .int k i) (ht:P.underlying ty=some (.slice elem)) (hk:known P elem=true)
  (T8:P.cellsOf elem=sz) (hb:0≤i∧i<n) (hx:ρ x= .sub id off sz n cp):gw P o ρ (.pure (.ptr true id (off+i.toNat*sz))):=by
 refine cA fun M w a _ hr=> ?_
 have h1:=hr x (by simp [ho,aas])
 have h2:=dX (hr ix (by simp [ho,aas])) hi
 rw [hx] at h1
 generalize hv:a.eval x=v at h1
 cases h1 with
 |sub VN hc hp VF=>
  obtain rfl:=VF (by omega)
  refine ⟨_,?_,.ptr true VN⟩
  have:i<n:=hb.2
  simp [execOp,ho,Instr.indexAt,h2,asIntOf,run_underlying ht,hv,hb.1,this,dc hk,gP,T8]
end
theorem b7.Ge {M:MM} {o:ln} {sz:Nat} {xs:List D} {a:Option Addr} {len cap:Nat} (h:b7 M (.aY o sz xs) (.slice a len cap)) (l hh m:Nat) (h1:l≤hh) (h2:hh≤len) (h3:hh≤m) (_h4:m≤cap) (o':ln)
  (WX:o'= .no∨(o'= .tight∧m=hh)):b7 M (.aY o' sz ((xs.take hh).drop l)) (.slice (if m=l then a else a.map (·.add (l*sz))) (hh - l) (m - l)):=by
 cases h with
 |aY b off vs hl TZ ha T8 hc hr T5 ho=>
  have U8:∀i x,((xs.take hh).drop l)[i]? =some x→xs[l+i]? =some x∧l+i<hh:=by
   intro i x hx
   rw [List.getElem?_drop,List.getElem?_take] at hx
   split at hx
   ·exact ⟨hx,by assumption⟩
   ·cases hx
  refine .aY b (off+l*sz) (fun i j=>vs (l+i) j) (by simp;omega) (by omega) ?_ ?_ ?_ ?_ ?_ ?_
  ·intro Ut
   have T1:l<hh:=by
    rcases aaA l hh with h|h
    ·exact h
    ·exact absurd (List.drop_eq_nil_of_le (by simp;omega)) Ut
   have:xs≠ []:=fun e=>by subst e;simp at hl;omega
   rw [if_neg (by omega),ha this]
   simp [gP]
  ·intro i x hx;exact T8 _ x (U8 i x hx).1
  ·intro i x cs j c hx T6 hj
   have:=hc _ x cs j c (U8 i x hx).1 T6 hj
   rw [Nat.add_mul] at this
   rw [show off+l*sz+i*sz+j=off+(l*sz+i*sz)+j by omega]
   exact this
  ·intro i x cs j c hx T6 hj;exact hr _ x cs j c (U8 i x hx).1 T6 hj
  ·intro i x cs c hx T6 hj;exact T5 _ x cs c (U8 i x hx).1 T6 hj
  ·rcases WX with rfl|⟨rfl,rfl⟩
   ·trivial
   ·rfl
section
variable {ρ':Type} {P:Program} {r:ρ'}
theorem b9 {k:abz} {i:Int} {y:Nat} {code:BoundsCode} (h:0≤i∧i≤y) (w:World):(Instr.sliceBound (.int k i) y code).run P w= .ok i.toNat w:=by
 simp [Instr.sliceBound,asIntOf,h]
def Er:Option Int→Option Value→Prop
  |none,v=>v=none
  |some n,v=> ∃k,v=some (.int k n)
theorem BQ {z:Z P} {o:ln} {sz:Nat} {xs:List D} {lo hi mx:Option Int} {K:Z P→D→Option ρ'} (h:BR z o sz xs lo hi mx K=some r):
  ∃z' d,K z' d=some r∧(z'.c→z.c∧∀(M:MM) (w:World) (t e:TypeId) (u:Value) (lv hv mv:Option Value),P.underlying t=some (.slice e)→known P e=true→P.cellsOf e=sz→b7 M (.aY o sz xs) u→
   Er lo lv→Er hi hv→Er mx mv→
   ∃v,(Instr.sliceAt t u lv hv mv).run P w= .ok v w∧b7 M d v):=by
 have run:∀ {w:World} {t e:TypeId} {a:Option Addr} {len cap:Nat} {lv hv mv:Option Value} {l hh m:Nat},P.underlying t=some (.slice e)→known P e=true→P.cellsOf e=sz→
   (aaP true len cap lv hv mv).run P w= .ok (l,hh,m) w→(Instr.sliceAt t (.slice a len cap) lv hv mv).run P w= .ok (.slice (if m=l then a else a.map (·.add (l*sz))) (hh - l) (m - l)) w:=by
  intro w t e a len cap lv hv mv l hh m ht hk hs hb
  simp only [Instr.sliceAt,aay,run_underlying ht,aaq,Instr.slice,hb,dc hk,hs,aaH]
 unfold BR at h
 split at h
 ·refine ⟨z,_,h,fun c=>⟨c,fun M w t e u lv hv mv ht hk hs hu e1 e2 e3=> ?_⟩⟩
  obtain rfl:=e1
  obtain rfl:=e2
  obtain rfl:=e3
  cases hu with
  |aY b off vs hl TZ ha T8 hc hr T5 ho=>
   rename_i a len cap
   have hb:(aaP true len cap none none none).run P w= .ok (0,len,cap) w:=by simp [aaP]
   refine ⟨_,run ht hk hs hb,?_⟩
   have T0:b7 M (.aY o sz xs) (.slice a len cap):= .aY b off vs hl TZ ha T8 hc hr T5 ho
   have hd:(o.bg= .no∨(o.bg= .tight∧cap=len)):=by
    cases o<;>first|exact .inl rfl|exact .inr ⟨rfl,ho⟩
   have:=T0.Ge 0 len cap (by omega) (aar _) TZ (aar _) o.bg hd
   rw [abd (by omega),aa0] at this
   exact this
 ·rename_i l
  obtain ⟨z',h1,h2⟩:=eP h
  refine ⟨z',_,h1,fun c=>⟨(h2 c).1,fun M w t e u lv hv mv ht hk hs hu e1 e2 e3=> ?_⟩⟩
  obtain ⟨k1,rfl⟩:=e1
  obtain rfl:=e2
  obtain rfl:=e3
  have XM:0≤l∧l≤xs.length:=by simpa using (h2 c).2
  cases hu with
  |aY b off vs hl TZ ha T8 hc hr T5 ho=>
   rename_i a len cap
   have hb:(aaP true len cap (some (.int k1 l)) none none).run P w= .ok (l.toNat,len,cap) w:=by
    simp [aaP,b9 (show 0≤l∧l≤(len:Int) by omega)]
   refine ⟨_,run ht hk hs hb,?_⟩
   have T0:b7 M (.aY o sz xs) (.slice a len cap):= .aY b off vs hl TZ ha T8 hc hr T5 ho
   have hd:(o.bg= .no∨(o.bg= .tight∧cap=len)):=by
    cases o<;>first|exact .inl rfl|exact .inr ⟨rfl,ho⟩
   have:=T0.Ge l.toNat len cap (by omega) (aar _) TZ (aar _) o.bg hd
   rw [abd (by omega)] at this
   exact this
 ·rename_i hh
  obtain ⟨z',h1,h2⟩:=eP h
  refine ⟨z',_,h1,fun c=>⟨(h2 c).1,fun M w t e u lv hv mv ht hk hs hu e1 e2 e3=> ?_⟩⟩
  obtain ⟨k1,rfl⟩:=e2
  obtain rfl:=e1
  obtain rfl:=e3
  have XM:0≤hh∧hh≤xs.length:=by simpa using (h2 c).2
  cases hu with
  |aY b off vs hl TZ ha T8 hc hr T5 ho=>
   rename_i a len cap
   have hb:(aaP true len cap none (some (.int k1 hh)) none).run P w= .ok (0,hh.toNat,cap) w:=by
    simp [aaP,b9 (show 0≤hh∧hh≤(cap:Int) by omega)]
   refine ⟨_,run ht hk hs hb,?_⟩
   have T0:b7 M (.aY o sz xs) (.slice a len cap):= .aY b off vs hl TZ ha T8 hc hr T5 ho
   have:=T0.Ge 0 hh.toNat cap (by omega) (by omega) (by omega) (aar _) .no (.inl rfl)
   rw [aa0] at this
   exact this
 ·rename_i l hh
  obtain ⟨z',h1,h2⟩:=eP h
  refine ⟨z',_,h1,fun c=>⟨(h2 c).1,fun M w t e u lv hv mv ht hk hs hu e1 e2 e3=> ?_⟩⟩
  obtain ⟨k1,rfl⟩:=e1
  obtain ⟨k2,rfl⟩:=e2
  obtain rfl:=e3
  have XM:0≤l∧l≤hh∧hh≤xs.length:=by simpa using (h2 c).2
  cases hu with
  |aY b off vs hl TZ ha T8 hc hr T5 ho=>
   rename_i a len cap
   have hb:(aaP true len cap (some (.int k1 l)) (some (.int k2 hh)) none).run P w= .ok (l.toNat,hh.toNat,cap) w:=by
    simp [aaP,b9 (show 0≤hh∧hh≤(cap:Int) by omega),b9 (show 0≤l∧l≤(hh.toNat:Int) by omega)]
   refine ⟨_,run ht hk hs hb,?_⟩
   have T0:b7 M (.aY o sz xs) (.slice a len cap):= .aY b off vs hl TZ ha T8 hc hr T5 ho
   exact T0.Ge l.toNat hh.toNat cap (by omega) (by omega) (by omega) (aar _) .no (.inl rfl)
 ·rename_i hh m
  obtain ⟨z',h1,h2⟩:=eP h
  refine ⟨z',_,h1,fun c=>⟨(h2 c).1,fun M w t e u lv hv mv ht hk hs hu e1 e2 e3=> ?_⟩⟩
  obtain ⟨k1,rfl⟩:=e2
  obtain ⟨k2,rfl⟩:=e3
  obtain rfl:=e1
  have XM:0≤hh∧hh≤xs.length∧m=hh:=by simpa using (h2 c).2
  obtain ⟨hb1,hb2,rfl⟩:=XM
  cases hu with
  |aY b off vs hl TZ ha T8 hc hr T5 ho=>
   rename_i a len cap
   have hb:(aaP true len cap none (some (.int k1 m)) (some (.int k2 m))).run P w= .ok (0,m.toNat,m.toNat) w:=by
    simp [aaP,b9 (show 0≤m∧m≤(cap:Int) by omega),b9 (show 0≤m∧m≤(m.toNat:Int) by omega)]
   refine ⟨_,run ht hk hs hb,?_⟩
   have T0:b7 M (.aY o sz xs) (.slice a len cap):= .aY b off vs hl TZ ha T8 hc hr T5 ho
   have:=T0.Ge 0 m.toNat m.toNat (by omega) (by omega) (by omega) (by omega) .tight (.inr ⟨rfl,rfl⟩)
   rw [aa0] at this
   exact this
 ·rename_i l hh m
  obtain ⟨z',h1,h2⟩:=eP h
  refine ⟨z',_,h1,fun c=>⟨(h2 c).1,fun M w t e u lv hv mv ht hk hs hu e1 e2 e3=> ?_⟩⟩
  obtain ⟨k1,rfl⟩:=e1
  obtain ⟨k2,rfl⟩:=e2
  obtain ⟨k3,rfl⟩:=e3
  have XM:0≤l∧l≤hh∧hh≤xs.length∧m=hh:=by simpa using (h2 c).2
  obtain ⟨hb1,hb2,hb3,rfl⟩:=XM
  cases hu with
  |aY b off vs hl TZ ha T8 hc hr T5 ho=>
   rename_i a len cap
   have hb:(aaP true len cap (some (.int k1 l)) (some (.int k2 m)) (some (.int k3 m))).run P w= .ok (l.toNat,m.toNat,m.toNat) w:=by
    simp [aaP,b9 (show 0≤m∧m≤(cap:Int) by omega),b9 (show 0≤m∧m≤(m.toNat:Int) by omega),b9 (show 0≤l∧l≤(m.toNat:Int) by omega)]
   refine ⟨_,run ht hk hs hb,?_⟩
   have T0:b7 M (.aY o sz xs) (.slice a len cap):= .aY b off vs hl TZ ha T8 hc hr T5 ho
   exact T0.Ge l.toNat m.toNat m.toNat (by omega) (by omega) (by omega) (by omega) .tight (.inr ⟨rfl,rfl⟩)
 ·cases h
theorem rW {z:Z P} {id off sz n:Nat} {cp:Option Nat} {lo hi mx:Option Int} {K:Z P→D→Option ρ'} (h:Jm z id off sz n cp lo hi mx K=some r):
  ∃(z':Z P) (l hh:Nat) (Xm:Option Nat),K z' (.sub id (off+l*sz) sz (hh - l) Xm)=some r∧(z'.c→z.c∧l≤hh∧hh≤n∧∀(q:Bool) (w:World) (c:Nat) (lv hv mv:Option Value),n≤c→(∀k,cp=some k→c=k)→Er lo lv→Er hi hv→Er mx mv→
   ∃m,hh≤m∧(∀k,Xm=some k→m - l=k)∧(aaP q n c lv hv mv).run P w= .ok (l,hh,m) w):=by
 unfold Jm at h
 split at h
 ·refine ⟨z,0,n,cp,by simpa using h,fun c=>⟨c,Nat.zero_le _,aar _,fun q w c lv hv mv hc hp e1 e2 e3=> ?_⟩⟩
  obtain rfl:=e1
  obtain rfl:=e2
  obtain rfl:=e3
  exact ⟨c,hc,fun k hk=>by rw [hp k hk];rfl,by simp [aaP]⟩
 ·rename_i l
  obtain ⟨z',h1,h2⟩:=eP h
  refine ⟨z',l.toNat,n,cp.map (· - l.toNat),h1,fun c=> ?_⟩
  have hb:0≤l∧l≤(n:Int):=by simpa using (h2 c).2
  refine ⟨(h2 c).1,by omega,aar _,fun q w c lv hv mv hc hp e1 e2 e3=> ?_⟩
  obtain ⟨k1,rfl⟩:=e1
  obtain rfl:=e2
  obtain rfl:=e3
  refine ⟨c,hc,fun k hk=> ?_,by simp [aaP,b9 hb]⟩
  cases cp with
  |none=>cases hk
  |some v=>rw [hp v rfl];simpa using hk
 ·rename_i hh
  obtain ⟨z',h1,h2⟩:=eP h
  refine ⟨z',0,hh.toNat,cp,by simpa using h1,fun c=> ?_⟩
  have hb:0≤hh∧hh≤(n:Int):=by simpa using (h2 c).2
  refine ⟨(h2 c).1,Nat.zero_le _,by omega,fun q w c lv hv mv hc hp e1 e2 e3=> ?_⟩
  obtain ⟨k1,rfl⟩:=e2
  obtain rfl:=e1
  obtain rfl:=e3
  exact ⟨c,by omega,fun k hk=>by rw [hp k hk];rfl,by simp [aaP,b9 (show 0≤hh∧hh≤(c:Int) by omega)]⟩
 ·rename_i l hh
  obtain ⟨z',h1,h2⟩:=eP h
  refine ⟨z',l.toNat,hh.toNat,cp.map (· - l.toNat),h1,fun c=> ?_⟩
  have hb:0≤l∧l≤hh∧hh≤(n:Int):=by simpa using (h2 c).2
  refine ⟨(h2 c).1,by omega,by omega,fun q w c lv hv mv hc hp e1 e2 e3=> ?_⟩
  obtain ⟨k1,rfl⟩:=e1
  obtain ⟨k2,rfl⟩:=e2
  obtain rfl:=e3
  refine ⟨c,by omega,fun k hk=> ?_,by simp [aaP,b9 (show 0≤hh∧hh≤(c:Int) by omega),b9 (show 0≤l∧l≤(hh.toNat:Int) by omega)]⟩
  cases cp with
  |none=>cases hk
  |some v=>rw [hp v rfl];simpa using hk
 ·rename_i hh m
  obtain ⟨z',h1,h2⟩:=eP h
  refine ⟨z',0,hh.toNat,some m.toNat,by simpa using h1,fun c=> ?_⟩
  have hb:0≤hh∧hh≤m∧m≤(n:Int):=by simpa using (h2 c).2
  refine ⟨(h2 c).1,Nat.zero_le _,by omega,fun q w c lv hv mv hc hp e1 e2 e3=> ?_⟩
  obtain ⟨k1,rfl⟩:=e2
  obtain ⟨k2,rfl⟩:=e3
  obtain rfl:=e1
  exact ⟨m.toNat,by omega,fun k hk=>by simpa using hk,by simp [aaP,b9 (show 0≤m∧m≤(c:Int) by omega),b9 (show 0≤hh∧hh≤(m.toNat:Int) by omega)]⟩
 ·rename_i l hh m
  obtain ⟨z',h1,h2⟩:=eP h
  refine ⟨z',l.toNat,hh.toNat,some (m.toNat - l.toNat),h1,fun c=> ?_⟩
  have hb:0≤l∧l≤hh∧hh≤m∧m≤(n:Int):=by simpa using (h2 c).2
  refine ⟨(h2 c).1,by omega,by omega,fun q w c lv hv mv hc hp e1 e2 e3=> ?_⟩
  obtain ⟨k1,rfl⟩:=e1
  obtain ⟨k2,rfl⟩:=e2
  obtain ⟨k3,rfl⟩:=e3
  exact ⟨m.toNat,by omega,fun k hk=>by simpa using hk,by simp [aaP,b9 (show 0≤m∧m≤(c:Int) by omega),b9 (show 0≤hh∧hh≤(m.toNat:Int) by omega),b9 (show 0≤l∧l≤(hh.toNat:Int) by omega)]⟩
 ·cases h
theorem sq {M:MM} {id off o2 sz n b l hh m:Nat} {Xm:Option Nat} (hb:M.box id=some b) (VF:n≠0→o2=off) (h1:l≤hh) (h2:hh≤n) (h3:hh≤m) (hp:∀k,Xm=some k→m - l=k):
  b7 M (.sub id (off+l*sz) sz (hh - l) Xm) (.slice (if m=l then some ⟨b,o2,none⟩ else some ((⟨b,o2,none⟩:Addr).add (l*sz))) (hh - l) (m - l)):=by
 split
 ·exact .sub hb (by omega) hp (fun hn=>by omega)
 ·rw [gP]
  exact .sub hb (by omega) hp (fun hn=>by rw [VF (by omega)])
theorem l6 {w:World} {t e:TypeId} {a:Addr} {len cap sz:Nat} {lv hv mv:Option Value} {l hh m:Nat} (ht:P.underlying t=some (.slice e)) (hk:known P e=true) (hs:P.cellsOf e=sz) (hb:(aaP true len cap lv hv mv).run P w= .ok (l,hh,m) w):
  (Instr.sliceAt t (.slice (some a) len cap) lv hv mv).run P w= .ok (.slice (if m=l then some a else some (a.add (l*sz))) (hh - l) (m - l)) w:=by
 simp only [Instr.sliceAt,aay,run_underlying ht,aaq,Instr.slice,hb,dc hk,hs,aaH,abv]
theorem qK {w:World} {t e:TypeId} {a:Addr} {n sz:Nat} {lv hv mv:Option Value} {l hh m:Nat} (ht:P.underlying t=some (.array n e)) (hk:known P e=true) (hs:P.cellsOf e=sz) (hb:(aaP false n n lv hv mv).run P w= .ok (l,hh,m) w):
  (Instr.sliceAt t (.pointer (some a)) lv hv mv).run P w= .ok (.slice (if m=l then some a else some (a.add (l*sz))) (hh - l) (m - l)) w:=by
 simp only [Instr.sliceAt,aay,run_underlying ht,aaq,Instr.sureAddr,hb,dc hk,hs,aaH]
 split<;>rfl
theorem MQ {x:D} {K:Int→Option ρ'} (h:idx x K=some r):∃k n,x= .int k n∧K n=some r:=by
 unfold idx at h
 split at h
 ·exact ⟨_,_,rfl,h⟩
 ·cases h
theorem fi {t:List D} {o:Option Operand} {K:Option Int→Option ρ'} (h:iW t o K=some r):∃n,K n=some r∧∀(M:MM) (a:Act),(∀x,o=some x→b7 M (cJ t x) (a.eval x))→Er n (o.map a.eval):=by
 unfold iW at h
 split at h
 ·exact ⟨none,h,fun M a _=>rfl⟩
 ·obtain ⟨k,n,hx,hK⟩:=MQ h
  refine ⟨some n,hK,fun M a hr=>⟨k,?_⟩⟩
  have:=dX (hr _ rfl) hx
  simp [this]
theorem fB {o:Oper} {ρv:Operand→Value} {c:Call} {b:Builtin} (ho:o.op= .call c) (hc:c.callee= .builtin b) (w:World):
  (execOp ρv o).run P w=(builtin b c.argTypes o.type (c.args.map fun| .const _=>true|_=>false) (c.args.map ρv)).run P w:=by
 simp only [execOp,ho,resolve,hc,aay,aaH,aaq,invoke]
 rfl
theorem KQ {t:TypeId} {x:D} {K:D→Option ρ'} (h:Pp P t x K=some r):∃d,K d=some r∧∀(M:MM) (w:World) (u:Value) (ts:Array TypeId) (ty:TypeId) (vs:Array Value),b7 M x u→ts[0]? =some t→vs[0]? =some u→∃v,(Builtin.len_ ts ty vs).run P w= .ok v w∧b7 M d v:=by
 unfold Pp at h
 split at h
 ·rename_i ht
  refine ⟨_,h,fun M w u ts ty vs hu h1 h2=> ?_⟩
  cases hu
  exact ⟨.int .i64 _,by simp [Builtin.len_,h1,h2,run_underlying ht,goInt],.int _ _⟩
 ·rename_i ht
  refine ⟨_,h,fun M w u ts ty vs hu h1 h2=> ?_⟩
  exact ⟨.int .i64 _,by simp [Builtin.len_,h1,h2,run_underlying ht,goInt],.int _ _⟩
 ·rename_i ht
  refine ⟨_,h,fun M w u ts ty vs hu h1 h2=> ?_⟩
  cases hu with
  |aY b off vs' hl TZ ha T8 hc hr T5 ho=>exact ⟨.int .i64 _,by simp [Builtin.len_,h1,h2,run_underlying ht,goInt];omega,.int _ _⟩
 ·rename_i ht
  refine ⟨_,h,fun M w u ts ty vs hu h1 h2=> ?_⟩
  cases hu with
  |dm hb hh hc=>exact ⟨.int .i64 _,by simp [Builtin.len_,h1,h2,run_underlying ht,goInt],.int _ _⟩
 ·rename_i ht
  refine ⟨_,h,fun M w u ts ty vs hu h1 h2=> ?_⟩
  cases hu with
  |sub hb hc hp VF=>exact ⟨.int .i64 _,by simp [Builtin.len_,h1,h2,run_underlying ht,goInt],.int _ _⟩
 ·cases h
theorem KH {x y:D} {K:D→Option ρ'} (h:Pc x y K=some r):∃d,K d=some r∧∀(M:MM) (w:World) (u v:Value) (ts:Array TypeId) (ty:TypeId) (vs:Array Value),b7 M x u→b7 M y v→vs.toList= [u,v]→∃q,(Builtin.min_ ts ty vs).run P w= .ok q w∧b7 M d q:=by
 unfold Pc at h
 split at h
 ·refine ⟨_,h,fun M w u v ts ty vs hu hv h1=> ?_⟩
  cases hu;cases hv
  exact ⟨_,by simp only [Builtin.min_,h1,List.foldlM_cons,List.foldlM_nil,Builtin.min2,pure_bind];rfl,.int _ _⟩
 ·cases h
theorem KL {x y:D} {K:D→Option ρ'} (h:Pg x y K=some r):∃d,K d=some r∧∀(M:MM) (w:World) (u v:Value) (ts:Array TypeId) (ty:TypeId) (vs:Array Value),b7 M x u→b7 M y v→vs.toList= [u,v]→∃q,(Builtin.max_ ts ty vs).run P w= .ok q w∧b7 M d q:=by
 unfold Pg at h
 split at h
 ·refine ⟨_,h,fun M w u v ts ty vs hu hv h1=> ?_⟩
  cases hu;cases hv
  exact ⟨_,by simp only [Builtin.max_,h1,List.foldlM_cons,List.foldlM_nil,Builtin.max2,pure_bind];rfl,.int _ _⟩
 ·cases h
end
structure iQ (M:MM) (sz:Nat) (xs:List D) (arr:Array Value):Prop where
  len:xs.length*sz≤arr.size
  elem:∀(i:Nat) (x:D),xs[i]? =some x→∃cs,x.cells=some cs∧cs.length=sz
  get:∀(i:Nat) (x:D) (cs:List D) (j:Nat) (c:D),xs[i]? =some x→x.cells=some cs→cs[j]? =some c→∃v,arr[i*sz+j]? =some v∧b7 M.bare c v
  st:∀(i:Nat) (x:D) (cs:List D) (c:D),xs[i]? =some x→x.cells=some cs→c∈cs→storable c=true
theorem iQ.mono {M M':MM} {sz:Nat} {xs:List D} {arr:Array Value} (h:iQ M sz xs arr) (le:M.Le M'):iQ M' sz xs arr:=
 ⟨h.len,h.elem,fun i x cs j c h1 h2 h3=>let ⟨v,a,b⟩:=h.get i x cs j c h1 h2 h3;⟨v,a,b.mono le.bare⟩,h.st⟩
def MM.lay (M:MM) (b:Nat) (arr:Array Value) (n:Nat):MM:=M.cn b fun o=>if o<n then arr[o]? else none
theorem rA {M:MM} {w wd:World} {arr:Array Value} {ty:TypeId} {n:Nat} (hw:∀b o v,M.cell b o=some v→w.cell? ⟨b,o,none⟩=some v) (hd:wd.heap=w.heap) (hb:Below w.heap.size w wd) (fz:Nat×Nat):
  Ext M w (M.lay w.heap.size arr n) (wd.alloc (.cells arr ty fz)):=by
 have T8:wd.heap.size=w.heap.size:=by rw [hd]
 refine ⟨hb.alloc (by omega) _,?_,?_,?_⟩
 ·intro b o v h
  have:b≠w.heap.size:=fun e=>by rw [e,dZ hw (aar _) o] at h;cases h
  simp only [MM.lay,MM.cn,this,if_false];exact h
 ·intro b o v h T1
  simp only [MM.lay,MM.cn,show b≠w.heap.size by omega,if_false] at h;exact h
 ·intro b o v h
  by_cases e:b=w.heap.size
  ·subst e
   simp only [MM.lay,MM.cn,if_true] at h
   split at h
   ·have hh:(wd.alloc (.cells arr ty fz)).heap[w.heap.size]? =some (.cells arr ty fz):=by
     show (wd.heap.push _)[w.heap.size]? =_
     rw [← T8];simp
    simp only [World.cell?,hh]
    exact h
   ·cases h
  ·simp only [MM.lay,MM.cn,e,if_false] at h
   have h1:=hw b o v h
   have T1:b<w.heap.size:=World.block_lt_of_cell? w _ h1
   rw [World.cell?_alloc_lt _ _ _ (by simpa [T8] using T1)]
   simpa [World.cell?,hd] using h1
theorem qV {M:MM} {b:Nat} {arr:Array Value} {sz:Nat} {xs:List D} {o:ln} {cap n:Nat} (h:iQ M sz xs arr) (hM:∀o,M.cell b o=none) (TZ:xs.length≤cap) (hn:xs.length*sz≤n) (ho:(M.lay b arr n).pR o (some ⟨b,0,none⟩) xs.length cap):
  b7 (M.lay b arr n) (.aY o sz xs) (.slice (some ⟨b,0,none⟩) xs.length cap):=by
 have le:M.Le (M.lay b arr n):=by
  refine ⟨fun c o v k=> ?_,fun _ _ k=>k,fun _ _ _ k=>k,fun _ k=>k⟩
  have:c≠b:=fun e=>by rw [e,hM o] at k;cases k
  simp only [MM.lay,MM.cn,this,if_false];exact k
 have T1:∀ {i j:Nat} {x:D} {cs:List D} {c:D},xs[i]? =some x→x.cells=some cs→cs[j]? =some c→i*sz+j<xs.length*sz:=by
  intro i j x cs c h1 h2 h3
  obtain ⟨Us,e1,e2⟩:=h.elem i x h1
  rw [h2] at e1
  obtain rfl:=aad e1
  have hj:j<sz:=by
   rcases aaA j cs.length with q|q
   ·omega
   ·simp [aam q] at h3
  have hi:i<xs.length:=by
   rcases aaA i xs.length with q|q
   ·exact q
   ·simp [aam q] at h1
  have:(i+1)*sz≤xs.length*sz:=Nat.mul_le_mul_right _ hi
  rw [Nat.add_mul] at this
  omega
 refine .aY b 0 (fun i j=>(arr[i*sz+j]?).getD .nilFunc) rfl TZ (fun _=>rfl) h.elem ?_ ?_ h.st ho
 ·intro i x cs j c h1 h2 h3
  obtain ⟨v,hv,_⟩:=h.get i x cs j c h1 h2 h3
  have:=T1 h1 h2 h3
  simp only [MM.lay,MM.cn,if_true,aaY,hv,aa9]
  rw [if_pos (by omega)]
 ·intro i x cs j c h1 h2 h3
  obtain ⟨v,hv,hr⟩:=h.get i x cs j c h1 h2 h3
  simp only [hv,aa9]
  exact hr.mono le.bare
theorem sD {ρ':Type} {r:ρ'} {x:D} {k:D→Option ρ'} (h:xK x k=some r):∃y,k y=some r∧(∀(M:MM) (v:Value),b7 M x v→b7 M.bare y v)∧y.plain=true:=by
 unfold xK at h
 split at h
 ·rename_i hp
  exact ⟨x,h,fun M v hr=>hr.MJ hp,hp⟩
 ·obtain ⟨hc,hk⟩:=bW h
  exact ⟨_,hk,fun M v hr=>hr.pF hc,pw hc⟩
theorem CJ {ρ':Type} {r:ρ'} {x:D} {k:D→Option ρ'} (h:CK x k=some r):∃y,k y=some r∧∀(M:MM) (v:Value),b7 M x v→b7 M.bare y v:=by
 unfold CK at h
 split at h
 ·rename_i q id off
  refine ⟨_,h,fun M v hr=> ?_⟩
  cases hr with
  |ptr _ hb=>
   rename_i b
   have:=b7.eL (M:=M.bare) false (x:= .agg []) (cs:= []) (off:=off) (b:=b) (base:=0) (fun _=> .nilFunc) rfl (fun j c hj=>by simp at hj) (fun j c hj=>by simp at hj)
   rw [aaY] at this
   exact this
 ·refine ⟨_,h,fun M v hr=> ?_⟩
  cases hr with
  |eL _ vs hx hc hr=>exact .eL _ vs hx hc hr
 ·obtain ⟨y,hy,hr,_⟩:=sD h
  exact ⟨y,hy,hr⟩
theorem mG {ρ':Type} {r:ρ'} :∀ {l:List D} {k:List D→Option ρ'},oV l k=some r→∃l',k l'=some r∧∀(M:MM) (vs:Array Value),cy M l vs→cy M.bare l' vs
 | [],k,h=>⟨[],h,fun M vs hr=>⟨hr.1,fun i d v a=>by simp at a⟩⟩
 |x::l,k,h=>by
  unfold oV at h
  obtain ⟨y,hy,hr⟩:=CJ h
  obtain ⟨l',hk,hl⟩:=mG hy
  refine ⟨y::l',hk,fun M vs hv=> ?_⟩
  have hs:vs.size=l.length+1:=by have:=hv.1;simp at this;omega
  have Yp:cy M l (vs.extract 1 vs.size):=by
   refine ⟨by simp;omega,fun i d v a b=> ?_⟩
   rw [Array.getElem?_extract] at b
   split at b
   ·exact hv.2 (i+1) d v (by simpa using a) (by rw [Nat.add_comm];exact b)
   ·cases b
  have h2:=hl M _ Yp
  refine ⟨by have:=h2.1;simp at this ⊢;omega,fun i d v a b=> ?_⟩
  cases i with
  |zero=>simp at a;subst a;exact hr M v (hv.2 0 x v rfl b)
  |succ i=>
   refine h2.2 i d v (by simpa using a) ?_
   rw [Array.getElem?_extract]
   have:i+1<vs.size:=by
    rcases aaA (i+1) vs.size with q|q
    ·exact q
    ·simp [aaW q] at b
   rw [if_pos (by omega),Nat.add_comm]
   exact b
theorem pH {sz i j n:Nat} (hi:i<n) (hj:j<sz):i*sz+j<n*sz:=by
 have:(i+1)*sz≤n*sz:=Nat.mul_le_mul_right _ hi
 rw [Nat.add_mul] at this
 omega
theorem Oo {sz i i' j j':Nat} (hj:j<sz) (Y8:j'<sz) (h:i≠i'):i*sz+j≠i'*sz+j':=by
 intro e
 rcases Nat.lt_or_gt_of_ne h with q|q
 ·have:=pH q hj;omega
 ·have:=pH q Y8;omega
theorem qW {n i:Nat} {a x:D} (h:(Z7 n a)[i]? =some x):i<n∧a=x:=by
 rw [List.getElem?_replicate] at h
 split at h
 ·exact ⟨by assumption,aad h⟩
 ·cases h
section
variable {ρ':Type} {P:Program} {r:ρ'}
theorem oD {size:Nat} :∀ {parts:List (Nat×D)} {xs:List D} {k:List D→Option ρ'},mz size xs parts k=some r→
  ∃xs',k xs'=some r∧xs'.length=xs.length∧∀(M:MM) (UF:List (Nat×Value)) (arr:Array Value),NH M parts UF→iQ M size xs arr→
   ∃arr',Instr.fill (fun i=>some (i*size,size)) arr UF=some arr'∧iQ M size xs' arr'∧arr'.size=arr.size
 | [],xs,k,h=>⟨xs,h,rfl,fun M UF arr hp hr=>by
   cases UF with
   |nil=>exact ⟨arr,rfl,hr,rfl⟩
   |cons _ _=>exact hp.elim⟩
 |(i,d)::rest,xs,k,h=>by
  unfold mz at h
  obtain ⟨y,hy,T0,_⟩:=sD h
  split at hy
  ·rename_i vc W2
   obtain ⟨h1,h2⟩:=bW hy
   rw [aae,aae,aaG,aaO] at h1
   obtain ⟨⟨T8,T1⟩,T5⟩:=h1
   have T1:i<xs.length:=Nat.lt_of_succ_le (by simpa [Nat.blt,abh] using T1)
   obtain ⟨xs',hk,hl,US⟩:=oD h2
   refine ⟨xs',hk,by simpa using hl,fun M UF arr hp hr=> ?_⟩
   cases UF with
   |nil=>exact hp.elim
   |cons p s=>
    obtain ⟨j,u⟩:=p
    obtain ⟨rfl,hd,hp⟩:=hp
    have T9:=(T0 M u hd).cells W2
    have Zo:u.cells.size=size:=by rw [← T9.1];exact T8
    have hbound:i*size+size≤xs.length*size:=by
     have:(i+1)*size≤xs.length*size:=Nat.mul_le_mul_right _ T1
     rwa [Nat.add_mul,Nat.one_mul] at this
    have UA:i*size+u.cells.toList.length≤arr.size:=by rw [aaX,Zo];exact abu hbound hr.len
    have Vi:iQ M size (xs.set i y) (eh arr (i*size) u.cells.toList):=by
     refine ⟨by rw [eN,aa1];exact hr.len,?_,?_,?_⟩
     ·intro k x hx
      by_cases e:i=k
      ·subst e
       rw [List.getElem?_set_self (by simpa using T1)] at hx
       obtain rfl:=aad hx
       exact ⟨vc,W2,T8⟩
      ·rw [abn e] at hx
       exact hr.elem k x hx
     ·intro k x cs j c hx T6 hj
      rw [iV _ _ _ _ UA]
      rw [aaX,Zo]
      by_cases e:i=k
      ·subst e
       rw [List.getElem?_set_self (by simpa using T1)] at hx
       obtain rfl:=aad hx
       rw [W2] at T6
       obtain rfl:=aad T6
       obtain ⟨v,hv,XV⟩:=T9.get hj
       have VP:j<size:=by
        rcases aaA j vc.length with q|q
        ·omega
        ·simp [aam q] at hj
       rw [if_pos ⟨by omega,by omega⟩,show i*size+j - i*size=j by omega]
       exact ⟨v,by simpa using hv,XV⟩
      ·rw [abn e] at hx
       obtain ⟨Us,q1,q2⟩:=hr.elem k x hx
       rw [T6] at q1
       obtain rfl:=aad q1
       have VP:j<size:=by
        rcases aaA j cs.length with q|q
        ·omega
        ·simp [aam q] at hj
       rw [if_neg]
       ·exact hr.get k x cs j c hx T6 hj
       ·intro hh
        obtain ⟨m,hm⟩:∃m,k*size+j=i*size+m:=⟨k*size+j - i*size,by omega⟩
        exact Oo VP (show m<size by omega) (Ne.symm e) hm
     ·intro k x cs c hx T6 hc
      by_cases e:i=k
      ·subst e
       rw [List.getElem?_set_self (by simpa using T1)] at hx
       obtain rfl:=aad hx
       rw [W2] at T6
       obtain rfl:=aad T6
       exact T5 c hc
      ·rw [abn e] at hx
       exact hr.st k x cs c hx T6 hc
    obtain ⟨arr',f1,f2,f3⟩:=US M s _ hp Vi
    refine ⟨arr',?_,f2,by rw [f3,eN]⟩
    have e2:¬(i*size+size>arr.size):=by have:=hr.len;omega
    rw [Instr.fill]
    simp only [Zo,ne_eq,not_true_eq_false,decide_false,Bool.false_or,e2,aaT,if_false,s8]
    exact f1
  ·cases hy
end
section
variable {P:Program} {o:Oper} {ρ:Operand→D}
theorem Eu {M:MM} {d:D} {zc:List D} {v:Value} (hc:d.cells=some zc) (hd:b7 M.bare d v) (T5:∀c∈zc,storable c=true) (len:Nat):
  iQ M zc.length (Z7 len d) ((Array.range (len*zc.length)).map (v.cells[· %v.cells.size]!)):=by
 have T9:=hd.cells hc
 refine ⟨by simp,?_,?_,?_⟩
 ·intro i x hx
  obtain ⟨_,rfl⟩:=qW hx
  exact ⟨zc,hc,rfl⟩
 ·intro i x cs j c hx T6 hj
  obtain ⟨hi,rfl⟩:=qW hx
  rw [hc] at T6
  obtain rfl:=aad T6
  obtain ⟨u,hu,hru⟩:=T9.get hj
  have VP:j<zc.length:=by
   rcases aaA j zc.length with q|q
   ·exact q
   ·simp [aam q] at hj
  refine ⟨u,?_,hru⟩
  have:=pH hi VP
  simp only [Array.getElem?_map,Array.getElem?_range,this,if_true,abv,aak]
  rw [← T9.1,Nat.add_comm,Nat.add_mul_mod_self_right,Nat.mod_eq_of_lt VP]
  have ZP:j<v.cells.size:=by rw [← T9.1];exact VP
  rw [getElem!_pos v.cells j ZP]
  rw [getElem?_pos v.cells j ZP] at hu
  exact aad hu
 ·intro i x cs c hx T6 Uu
  obtain ⟨_,rfl⟩:=qW hx
  rw [hc] at T6
  obtain rfl:=aad T6
  exact T5 c Uu
theorem uq {ρ':Type} {r:ρ'} {ty:TypeId} {len:Nat} {parts:Array (Nat×Operand)} {e:TypeId} {d:D} {zc:List D} {k:List D→Option ρ'} (ho:o.op= .buildSlice ty len parts) (ht:P.underlying ty=some (.slice e)) (hz:kq P e=some d) (hc:d.cells=some zc)
  (hk:known P e=true) (T8:zc.length=P.cellsOf e) (Wl:len*P.cellsOf e≤16777216) (T5:∀c∈zc,storable c=true)
  (h:mz (P.cellsOf e) (Z7 len d) (parts.toList.map fun p=>(p.1,ρ p.2)) k=some r):
  ∃xs,k xs=some r∧gw P o ρ (.pure (.aY .tight (P.cellsOf e) xs)):=by
 obtain ⟨xs,h1,h2,h3⟩:=oD h
 refine ⟨xs,h1,AI fun M w a hw hr=> ?_⟩
 have VL:=Ae (M:=M) (ρ:=ρ) (a:=a) parts.toList (fun p hp=>hr p.2 (by
  simp only [ho,aas]
  exact List.mem_toArray.2 (List.mem_map.2 ⟨p,hp,rfl⟩)))
 have Yu:(parts.map fun (i,x)=>(i,a.eval x)).toList=parts.toList.map fun p=>(p.1,a.eval p.2):=by simp
 obtain ⟨i,v,hi,hv,rfl⟩:=jf hz
 have hlen:xs.length=len:=by rw [h2];simp
 obtain ⟨arr0,hr0,hs0,hrun0⟩:∃arr0:Array Value,iQ M (P.cellsOf e) (Z7 len (gh v)) arr0∧arr0.size=len*P.cellsOf e∧
   (if len*P.cellsOf e=0 then pure #[] else do pure (← zeroValue e).cells:Sem (Array Value)).run P w= .ok (if len*P.cellsOf e=0 then #[] else v.cells) w∧
   ((Array.range (len*P.cellsOf e)).map ((if len*P.cellsOf e=0 then #[] else v.cells)[· %(if len*P.cellsOf e=0 then #[] else v.cells).size]!))=arr0:=by
  by_cases hz0:len*P.cellsOf e=0
  ·refine ⟨#[],?_,by simp [hz0],by simp [hz0],by simp [hz0]⟩
   rcases Nat.eq_zero_or_pos len with e1|e1
   ·subst e1
    exact ⟨by simp,fun i x hx=>by simp at hx,fun i x cs j c hx=>by simp at hx,fun i x cs c hx=>by simp at hx⟩
   ·have e2:P.cellsOf e=0:=by
     rcases Nat.mul_eq_zero.1 hz0 with q|q
     ·omega
     ·exact q
    have e3:zc= []:=List.eq_nil_of_length_eq_zero (by omega)
    subst e3
    refine ⟨by simp [e2],fun i x hx=> ?_,fun i x cs j c hx T6 hj=> ?_,fun i x cs c hx T6 Uu=> ?_⟩<;>obtain ⟨_,rfl⟩:=qW hx
    ·exact ⟨[],hc,by simp [e2]⟩
    ·rw [hc] at T6;obtain rfl:=aad T6;simp at hj
    ·rw [hc] at T6;obtain rfl:=aad T6;simp at Uu
  ·refine ⟨_,?_,?_,by simp [hz0,fC hi hv],rfl⟩
   ·rw [if_neg hz0,← T8]
    exact Eu hc (jZ v) T5 len
   ·simp
 obtain ⟨arr,hf,Vi,hsa⟩:=h3 M _ _ VL hr0
 have hx:=rA (M:=M) (w:=w) (wd:=w) (arr:=arr) (ty:=e) (n:=arr.size) hw rfl (Below.refl _ _) (0,0)
 have hl:=qV (b:=w.heap.size) (o:= .tight) (cap:=xs.length) (n:=arr.size) Vi (dZ hw (aar _)) (aar _) Vi.len rfl
 refine ⟨_,_,_,?_,hx,rfl,rfl,rfl,hl⟩
 simp only [execOp,ho,Instr.buildSlice,aay,run_underlying ht,aaq,dc hk]
 rw [if_neg (by omega)]
 have Yb:(newRow e arr).run P w= .ok ⟨w.heap.size,0,none⟩ (w.alloc (.cells arr e)):=by simp [newRow]
 by_cases hz0:len*P.cellsOf e=0
 ·have h5:=hrun0.2
  rw [hz0] at h5
  simp only [hz0,if_true,aay,aaH,aaq,Yu]
  simp only [if_true] at h5
  rw [h5,hf]
  simp only [aay,Yb,aaq,aaH,hlen]
 ·have h5:=hrun0.2
  simp only [hz0,if_false] at h5
  simp only [hz0,if_false,aay,fC hi hv,aaH,aaq,Yu,h5]
  rw [hf]
  simp only [aay,Yb,aaq,aaH,hlen]
theorem m7 {M:MM} {ow:ln} {sz size:Nat} {xs:List D} {a:Option Addr} {len cap:Nat} (h:b7 M (.aY ow sz xs) (.slice a len cap)) (hs:sz=size∨xs= []) {w:World} (hw:∀b o v,M.cell b o=some v→w.cell? ⟨b,o,none⟩=some v):
  ∃arr:Array Value,arr.size=xs.length*size∧iQ M size xs arr∧(∀wd:World,(∀a,wd.cell? a=w.cell? a)→(aa5 size len (.slice a len cap)).run P wd= .ok arr wd)∧∀v∈arr.toList,v.oneCell'=true:=by
 cases h with
 |aY b off vs hl TZ ha T8 hc hr T5 ho=>
  by_cases Ut:xs= []
  ·subst Ut
   have hlen:len=0:=by simpa using hl.symm
   subst hlen
   refine ⟨#[],by simp,⟨by simp,fun i x hx=>by simp at hx,fun i x cs j c hx=>by simp at hx,fun i x cs c hx=>by simp at hx⟩,fun wd _=> ?_,by simp⟩
   cases a with
   |none=>rfl
   |some ad=>simp [aa5,loadCells,loadCellsFrom]
  ·obtain rfl:sz=size:=hs.resolve_right Ut
   obtain rfl:=ha Ut
   let arr:Array Value:=((aao (xs.length*sz)).map fun k=>vs (k / sz) (k%sz)).toArray
   have Ux:∀ {k:Nat},k<xs.length*sz→0<sz:=fun {k} hk=>by
    rcases Nat.eq_zero_or_pos sz with q|q
    ·rw [q] at hk;omega
    ·exact q
   have hdiv:∀ {k:Nat},k<xs.length*sz→k / sz<xs.length∧k%sz<sz∧k / sz*sz+k%sz=k:=fun {k} hk=>by
    have hp:=Ux hk
    refine ⟨(Nat.div_lt_iff_lt_mul hp).2 hk,Nat.mod_lt _ hp,?_⟩
    rw [Nat.mul_comm];exact Nat.div_add_mod k sz
   have V0:∀ {k:Nat},k<xs.length*sz→∃x cs c,xs[k / sz]? =some x∧x.cells=some cs∧cs[k%sz]? =some c:=fun {k} hk=>by
    obtain ⟨h1,h2,h3⟩:=hdiv hk
    have hx:xs[k / sz]? =some xs[k / sz]:=by simp [h1]
    obtain ⟨cs,T6,hlen⟩:=T8 _ _ hx
    exact ⟨_,cs,cs[k%sz]'(by omega),hx,T6,by simp [show k%sz<cs.length by omega]⟩
   have U8:∀ {k:Nat} {v:Value},arr[k]? =some v→k<xs.length*sz∧v=vs (k / sz) (k%sz):=fun {k v} hk=>by
    simp only [arr,List.getElem?_toArray,aau,aat] at hk
    obtain ⟨x,hx,rfl⟩:=hk
    have T1:k<xs.length*sz:=by
     rcases aaA k (xs.length*sz) with q|q
     ·exact q
     ·rw [aam (by simpa using q)] at hx;cases hx
    rw [List.getElem?_range T1] at hx
    cases hx
    exact ⟨T1,rfl⟩
   have Vq:arr.size=xs.length*sz:=by simp [arr]
   refine ⟨arr,Vq,⟨by rw [Vq];exact aar _,T8,?_,T5⟩,?_,?_⟩
   ·intro i x cs j c hx T6 hj
    obtain ⟨Us,q1,q2⟩:=T8 i x hx
    rw [T6] at q1
    obtain rfl:=aad q1
    have VP:j<sz:=by
     rcases aaA j cs.length with q|q
     ·omega
     ·simp [aam q] at hj
    have Wg:i<xs.length:=by
     rcases aaA i xs.length with q|q
     ·exact q
     ·simp [aam q] at hx
    have hk:=pH Wg VP
    refine ⟨vs i j,?_,hr i x cs j c hx T6 hj⟩
    simp only [arr,List.getElem?_toArray,aau,List.getElem?_range hk,abv,aak]
    have e1:(i*sz+j) / sz=i:=by
     rw [Nat.add_comm,Nat.add_mul_div_right _ _ (Ux hk),Nat.div_eq_of_lt VP,aaY]
    have e2:(i*sz+j)%sz=j:=by
     rw [Nat.add_comm,Nat.add_mul_mod_self_right,Nat.mod_eq_of_lt VP]
    rw [e1,e2]
   ·intro wd YX
    have:=jY (P:=P) (w:=wd) b off arr (fun k v hk=>by
     rw [YX]
     obtain ⟨T1,rfl⟩:=U8 hk
     obtain ⟨x,cs,c,q1,q2,q3⟩:=V0 T1
     obtain ⟨d1,d2,d3⟩:=hdiv T1
     have:=hw _ _ _ (hc _ x cs _ c q1 q2 q3)
     rw [Nat.add_assoc,d3] at this
     exact this)
    simp only [aa5]
    rw [Vq,hl] at this
    exact this
   ·intro v hv
    obtain ⟨k,hk⟩:=List.mem_iff_getElem?.1 hv
    rw [aaB] at hk
    obtain ⟨T1,rfl⟩:=U8 hk
    obtain ⟨x,cs,c,q1,q2,q3⟩:=V0 T1
    exact oA (hr _ x cs _ c q1 q2 q3) (T5 _ x cs c q1 q2 (aaD q3))
theorem iQ.append {M:MM} {size:Nat} {xs ys:List D} {a1 a2:Array Value} (h1:iQ M size xs a1) (h2:iQ M size ys a2) (hs:a1.size=xs.length*size) (rest:Array Value):iQ M size (xs++ys) (a1++a2++rest):=by
 have Uw:∀ {i:Nat} {x:D},(xs++ys)[i]? =some x→(i<xs.length∧xs[i]? =some x)∨(xs.length≤i∧ys[i - xs.length]? =some x):=by
  intro i x hx
  rw [aa8] at hx
  split at hx
  ·exact .inl ⟨by assumption,hx⟩
  ·exact .inr ⟨by omega,hx⟩
 refine ⟨?_,?_,?_,?_⟩
 ·have:=h2.len
  simp only [aap,Array.size_append,Nat.add_mul,hs]
  omega
 ·intro i x hx
  rcases Uw hx with ⟨_,h⟩|⟨_,h⟩
  ·exact h1.elem i x h
  ·exact h2.elem _ x h
 ·intro i x cs j c hx T6 hj
  rcases Uw hx with ⟨_,h⟩|⟨V5,h⟩
  ·obtain ⟨v,hv,hr⟩:=h1.get i x cs j c h T6 hj
   refine ⟨v,?_,hr⟩
   have T1:i*size+j<a1.size:=by
    rcases aaA (i*size+j) a1.size with q|q
    ·exact q
    ·simp [aaW q] at hv
   rw [Array.append_assoc,Array.getElem?_append_left T1]
   exact hv
  ·obtain ⟨v,hv,hr⟩:=h2.get _ x cs j c h T6 hj
   refine ⟨v,?_,hr⟩
   have T1:(i - xs.length)*size+j<a2.size:=by
    rcases aaA ((i - xs.length)*size+j) a2.size with q|q
    ·exact q
    ·simp [aaW q] at hv
   have e:i*size+j=a1.size+((i - xs.length)*size+j):=by
    rw [hs,← Nat.add_assoc,← Nat.add_mul];congr 2;omega
   rw [e,Array.append_assoc,Array.getElem?_append_right (by omega),show a1.size+((i - xs.length)*size+j) - a1.size=(i - xs.length)*size+j by omega,Array.getElem?_append_left T1]
   exact hv
 ·intro i x cs c hx T6 hc
  rcases Uw hx with ⟨_,h⟩|⟨_,h⟩
  ·exact h1.st i x cs c h T6 hc
  ·exact h2.st _ x cs c h T6 hc
theorem sl {st xt Uk rty:TypeId} {e2:TypeId} {ts:Array TypeId} {args:Array Value} {i:TypeInfo} {z:Value} (ht:P.underlying st=some (.slice Uk)) (hx:P.underlying xt=some (.slice e2)) (h0:ts[0]? =some st) (h1:ts[1]? =some xt)
  (hi:P.info? Uk=some i) (hz:i.zero=some z) {a a':Option Addr} {len cap T2 Up:Nat} {w:World} {mj new:Array Value} (g0:args[0]? =some (.slice a len cap)) (g1:args[1]? =some (.slice a' T2 Up))
  (hold:(aa5 i.size len (.slice a len cap)).run P w.drew= .ok mj w.drew) (Uo:(aa5 i.size T2 (.slice a' T2 Up)).run P w= .ok new w) (X8:(aa5 i.size T2 (.slice a' T2 Up)).run P w.drew= .ok new w.drew)
  (hb:i.bytes≤65536) (hn:len+T2≤2147483648):
  (len+T2≤cap→(aa6 ts rty args).run P w=(do (match a with|some ad=>storeCells (ad.add (len*i.size)) new.toList|none=>pure ());pure (.slice a (len+T2) cap):Sem Value).run P w)∧
  (cap<len+T2→∃nc,len+T2≤nc∧nc≤9223372036854775807∧(aa6 ts rty args).run P w= .ok (.slice (some ⟨w.heap.size,0,none⟩) (len+T2) nc) (w.drew.alloc (.cells (mj++new++Builtin.zeroCells z.cells (nc - (len+T2))) Uk))):=by
 constructor
 ·intro TZ
  cases a<;>simp [aa6,h0,h1,g0,g1,run_underlying ht,run_underlying hx,sizeOf,typeInfo,hi,Builtin.lenOf,TZ,Uo]
 ·intro TZ
  have UE:(len+T2)*i.bytes≤140737488355328:=by
   have:=Nat.mul_le_mul hn hb
   omega
  have hg:=growslice_fits TZ UE
  refine ⟨grownCap w (len+T2) cap Uk,grownCap_ge w _ _ _,abu (grownCap_le_maxLen w _ _ _ (by unfold maxLen;omega)) (by unfold maxLen;omega),?_⟩
  have e1:¬(len+T2≤cap):=by omega
  have e2:¬(9223372036854775807<(len:Int)+(T2:Int)∧i.bytes=0):=by omega
  have e3:¬(Builtin.nextslicecap (len+T2) cap*i.bytes>2^48):=by omega
  have e4:(Question.appendCap (len+T2) cap Uk).forced=false:=rfl
  have e5:∀x:Array Value,(newRow Uk x).run P w.drew= .ok ⟨w.heap.size,0,none⟩ (w.drew.alloc (.cells x Uk)):=fun x=>by first|(simp [newRow];done)|(simp [newRow];rfl)
  simp [aa6,h0,h1,g0,g1,run_underlying ht,run_underlying hx,sizeOf,typeInfo,hi,Builtin.lenOf,e1,e3,e2,e4,hold,X8,fC hi hz,e5]
  exact ⟨rfl,rfl⟩
theorem qy {t:TypeId} (h:jN P t=true):∃i z,P.info? t=some i∧i.zero=some z∧z.cells.size=i.size∧P.cellsOf t=i.size:=by
 unfold jN at h
 split at h
 ·rename_i i hi
  split at h
  ·rename_i z hz
   exact ⟨i,z,hi,hz,by simpa using h,by simp [Program.cellsOf,hi]⟩
  ·cases h
 ·cases h
theorem lg {sz size:Nat} {xs:List D} (h:ur sz xs size=true):sz=size∨xs= []:=by
 unfold ur at h
 rw [Bool.or_eq_true,aaG,List.isEmpty_iff] at h
 exact h
theorem tK {w0:eJ} {w:World} {M:MM} {own:Nat→Option Nat} {σ:Nat→Ob} (hw:ca w0 M own σ w) {st xt Uk rty e2:TypeId} {ts:Array TypeId} {args:Array Value} (ht:P.underlying st=some (.slice Uk)) (hx:P.underlying xt=some (.slice e2)) (h0:ts[0]? =some st) (h1:ts[1]? =some xt)
  (hz:jN P Uk=true) (UE:P.bytesOf Uk≤65536) {ow:ln} {sz T2 Up:Nat} {xs ys:List D} {u:Value} {a':Option Addr} {new:Array Value} (g0:args[0]? =some u) (g1:args[1]? =some (.slice a' T2 Up)) (hu:b7 M (.aY ow sz xs) u) (U2:ys.length=T2) (ns:new.size=ys.length*P.cellsOf Uk) (UT:iQ M (P.cellsOf Uk) ys new) (UJ:∀wd:World,(∀a,wd.cell? a=w.cell? a)→(aa5 (P.cellsOf Uk) T2 (.slice a' T2 Up)).run P wd= .ok new wd) (Vf:∀v∈new.toList,v.oneCell'=true)
  (T8:sz=P.cellsOf Uk∨xs= []) (hn:xs.length+ys.length≤dy) {id ver:Nat} (VT:∀v,ver≤v→M.bX id v=none)
  (UA:∀a len cap,u= .slice a len cap→cap=len∨∃b vs ty fz Wi UX,a=some ⟨b,0,none⟩∧tR w0 M own id (P.cellsOf Uk) w len cap b vs ty fz∧σ id= .dD Wi UX):
  ∃v M' TW w',(aa6 ts rty args).run P w= .ok v w'∧M.Le M'∧ca w0 M' TW (gK σ id (.dD ver (P.cellsOf Uk))) w'∧b7 M' (.aY (.tok id ver) (P.cellsOf Uk) (xs++ys)) v∧M'.box=M.box∧∀j,j≠id→M'.bX j=M.bX j:=by
 obtain ⟨i,z,hi,hiz,hzs,T9⟩:=qy hz
 have VM:i.bytes≤65536:=by simpa [Program.bytesOf,hi] using UE
 cases hu with
 |aY b off vs hl TZ ha Vq hc hr T5 ho=>
  rename_i a len cap
  have T0:b7 M (.aY ow sz xs) (.slice a len cap):= .aY b off vs hl TZ ha Vq hc hr T5 ho
  rw [T9] at T8 ns UT UJ
  obtain ⟨mj,os,orow,orun,_⟩:=m7 (P:=P) T0 T8 hw.cells
  have Wl:len+T2≤2147483648:=by rw [← hl,← U2];exact hn
  obtain ⟨r1,r2⟩:=sl (P:=P) (rty:=rty) ht hx h0 h1 hi hiz g0 g1 (orun w.drew fun _=>rfl) (UJ w fun _=>rfl) (UJ w.drew fun _=>rfl) VM Wl
  rcases aaA cap (len+T2) with T1|V5
  ·
   obtain ⟨nc,UK,hnc2,Ud⟩:=r2 T1
   let arr:=mj++new++Builtin.zeroCells z.cells (nc - (len+T2))
   have Vi:iQ M i.size (xs++ys) arr:=orow.append UT os _
   have UW:arr.size=nc*i.size:=by
    simp only [arr,Array.size_append,size_zeroCells,os,ns,hzs,hl,U2,← Nat.add_mul]
    congr 1;omega
   have XT:(xs++ys).length*i.size≤(len+T2)*i.size:=by rw [aap,hl,U2];exact aar _
   have Wn:=rA (M:=M) (w:=w) (wd:=w.drew) (arr:=arr) (ty:=Uk) (n:=(len+T2)*i.size) hw.cells rfl (Below.refl _ _).drew (0,0)
   obtain ⟨Vh,VG⟩:=hw.ext Wn rfl rfl rfl
   have Wx:(w.drew.alloc (.cells arr Uk (0,0))).heap[w.heap.size]? =some (.cells arr Uk (0,0)):=by
    show (w.heap.push _)[w.heap.size]? =_
    simp
   have U9:own w.heap.size=none:=by
    cases e:own w.heap.size with
    |none=>rfl
    |some q=>have:=hw.owned _ _ e;omega
   obtain ⟨TW,hw3⟩:=Vh.si (id:=id) (ver:=ver) VT (a:=some ⟨w.heap.size,0,none⟩) (len:=len+T2) (cap:=nc) i.size
    (.inr ⟨w.heap.size,arr,Uk,(0,0),rfl,hw.below.new,.inl U9,Wx,fun o _ h=>by have:=h.2;simp at this,⟨by rw [UW];exact aar _,hnc2⟩,fun o ho=>by
     simp only [MM.lay,MM.cn,if_true];rw [if_neg (by omega)]⟩)
   have VZ:=MM.eY (M:=M.lay w.heap.size arr ((len+T2)*i.size)) (id:=id) (ver:=ver) (v:= .slice (some ⟨w.heap.size,0,none⟩) (len+T2) nc) (VT ver (aar _))
   refine ⟨_,_,TW,_,Ud,VG.trans VZ,by rw [T9];exact hw3,?_,rfl,?_⟩
   ·have hlen:(xs++ys).length=len+T2:=by rw [aap,hl,U2]
    have h5:=qV (M:=M) (b:=w.heap.size) (o:= .no) (cap:=nc) (n:=(len+T2)*i.size) Vi (dZ hw.cells (aar _)) (by omega) XT trivial
    rw [T9]
    rw [hlen] at h5
    exact (h5.mono VZ).flag _ (by simp [MM.pR,MM.bM])
   ·intro j hj
    funext k
    simp [MM.bM,hj,MM.lay,MM.cn]
  ·have Ud:=r1 V5
   by_cases hy:ys= []
   ·
    subst hy
    have ZL:T2=0:=by simpa using U2.symm
    subst ZL
    have Yg:new= #[]:=by
     apply Array.eq_empty_of_size_eq_zero;rw [ns];simp
    subst Yg
    have Wa:(aa6 ts rty args).run P w= .ok (.slice a len cap) w:=by
     rw [Ud]
     cases a<;>simp [storeCells]
    have XB:cap=len∨∃b vs ty fz,a=some ⟨b,0,none⟩∧¬w0.X b∧(own b=none∨own b=some id)∧w.heap[b]? =some (.cells vs ty fz)∧mq fz vs.size∧(cap*i.size≤vs.size∧cap≤9223372036854775807)∧∀o,len*i.size≤o→M.cell b o=none:=by
     rcases UA a len cap rfl with q|⟨b,vs,ty,fz,_,_,ha,r,_⟩
     ·exact .inl q
     ·rw [T9] at r
      exact .inr ⟨b,vs,ty,fz,ha,r.base,.inr r.own,r.dI,r.fz,r.cap,r.none⟩
    obtain ⟨TW,hw3⟩:=hw.si (id:=id) (ver:=ver) VT i.size XB
    have VZ:=MM.eY (id:=id) (ver:=ver) (v:= .slice a len cap) (VT ver (aar _))
    refine ⟨_,_,TW,w,Wa,VZ,by rw [T9];exact hw3,?_,rfl,?_⟩
    ·rw [List.append_nil,T9]
     exact ((T0.resize T8).mono VZ).flag _ (by simp [MM.pR,MM.bM])
    ·intro j hj
     funext k
     simp [MM.bM,hj]
   ·
    have Ux:0<T2:=by
     rw [← U2];exact List.length_pos_iff.2 hy
    rcases UA a len cap rfl with q|⟨b1,vs1,ty1,fz1,Wi,UX,ha1,r,hσ⟩
    ·omega
    ·rw [T9] at r
     subst ha1
     have XK:new.toList.length=T2*i.size:=by rw [aaX,ns,U2]
     have VD:len*i.size+new.toList.length≤vs1.size:=by
      rw [XK,← Nat.add_mul];exact abu (Nat.mul_le_mul_right _ V5) r.cap.1
     have WA:=iI (P:=P) (b:=b1) (off:=len*i.size) new.toList 0 w vs1 r.dI Vf (by simpa using VD) r.fz
     rw [Nat.add_zero] at WA
     let vs2:=eh vs1 (len*i.size) new.toList
     have Uv:∀o,o<len*i.size→vs2[o]? =vs1[o]? :=fun o ho=>by
      simp only [vs2];rw [iV _ _ _ _ VD,if_neg (by omega)]
     have Vh:=hw.Lh hσ r ((len+T2)*i.size) (vs':=vs2) (eN _ _ _) Uv
     have VG:M.Le (M.iw b1 (len*i.size) ((len+T2)*i.size) vs2):=MM.Fx r.none
     obtain ⟨TW,hw3⟩:=Vh.si (id:=id) (ver:=ver) VT (a:=some ⟨b1,0,none⟩) (len:=len+T2) (cap:=cap) i.size
      (.inr ⟨b1,vs2,ty1,fz1,rfl,r.base,.inr r.own,gV r.dI,by simp only [vs2,eN];exact r.fz,by simp only [vs2,eN];exact r.cap,fun o ho=>by
       simp only [MM.iw,MM.cn,if_true]
       rw [if_neg (by omega)]
       exact r.none o (by rw [Nat.add_mul] at ho;omega)⟩)
     have VZ:=MM.eY (M:=M.iw b1 (len*i.size) ((len+T2)*i.size) vs2) (id:=id) (ver:=ver) (v:= .slice (some ⟨b1,0,none⟩) (len+T2) cap) (VT ver (aar _))
     have hσ2:gK (gK σ id .dead) id (.dD ver i.size)=gK σ id (.dD ver i.size):=by
      funext j;by_cases e:j=id<;>simp [gK,e]
     rw [hσ2] at hw3
     refine ⟨.slice (some ⟨b1,0,none⟩) (len+T2) cap,_,TW,cM w b1 (.cells vs2 ty1 fz1),?_,VG.trans VZ,by rw [T9];exact hw3,?_,rfl,?_⟩
     ·rw [Ud]
      simp only [gP,aaY,aay,WA,aaq,aaH]
      rfl
     ·rw [T9]
      refine b7.flag (o:= .no) ?_ _ (by simp [MM.pR,MM.bM])
      refine b7.mono ?_ VZ
      have Vr:∀ {k:Nat} {x:D},(xs++ys)[k]? =some x→(k<len∧xs[k]? =some x)∨(len≤k∧k<len+T2∧ys[k - len]? =some x):=by
       intro k x hx
       rw [aa8] at hx
       split at hx
       ·exact .inl ⟨by omega,hx⟩
       ·refine .inr ⟨by omega,?_,by rw [← hl];exact hx⟩
        have:k - xs.length<ys.length:=by
         rcases aaA (k - xs.length) ys.length with q|q
         ·exact q
         ·simp [aam q] at hx
        omega
      have hold:∀ {k:Nat} {x:D} {cs:List D} {j:Nat} {c:D},xs[k]? =some x→x.cells=some cs→cs[j]? =some c→M.cell b1 (k*i.size+j)=some (vs k j)∧b7 M.bare c (vs k j):=by
       intro k x cs j c hx T6 hj
       have Ut:xs≠ []:=fun e=>by subst e;simp at hx
       have e1:=ha Ut
       obtain ⟨rfl,rfl⟩:b1=b∧0=off:=by simpa using e1
       have e2:sz=i.size:=T8.resolve_right Ut
       have h5:=hc k x cs j c hx T6 hj
       rw [e2,aaY] at h5
       exact ⟨h5,hr k x cs j c hx T6 hj⟩
      have Zv:∀ {k:Nat} {x:D} {cs:List D} {j:Nat} {c:D},(xs++ys)[k]? =some x→x.cells=some cs→cs[j]? =some c→j<i.size:=by
       intro k x cs j c hx T6 hj
       have hlen:cs.length=i.size:=by
        rcases Vr hx with ⟨_,h⟩|⟨_,_,h⟩
        ·obtain ⟨Us,q1,q2⟩:=orow.elem _ x h;rw [T6] at q1;obtain rfl:=aad q1;exact q2
        ·obtain ⟨Us,q1,q2⟩:=UT.elem _ x h;rw [T6] at q1;obtain rfl:=aad q1;exact q2
       rcases aaA j cs.length with q|q
       ·omega
       ·simp [aam q] at hj
      refine .aY b1 0 (fun k j=>if k<len then vs k j else (new[(k - len)*i.size+j]?).getD .nilFunc) (by rw [aap,hl,U2]) V5 (fun _=>rfl) ?_ ?_ ?_ ?_ trivial
      ·intro k x hx
       rcases Vr hx with ⟨_,h⟩|⟨_,_,h⟩
       ·exact orow.elem _ x h
       ·exact UT.elem _ x h
      ·intro k x cs j c hx T6 hj
       have VP:=Zv hx T6 hj
       rw [aaY]
       simp only [MM.iw,MM.cn,if_true]
       rcases Vr hx with ⟨hk,h⟩|⟨hk,YA,h⟩
       ·have:=pH hk VP
        rw [if_neg (by omega),if_pos hk]
        exact (hold h T6 hj).1
       ·have h6:=pH YA VP
        have h7:len*i.size≤k*i.size:=Nat.mul_le_mul_right _ hk
        rw [if_pos ⟨by omega,h6⟩,if_neg (by omega)]
        obtain ⟨v,hv,_⟩:=UT.get _ x cs j c h T6 hj
        have e:k*i.size+j - len*i.size=(k - len)*i.size+j:=by
         rw [Nat.sub_mul];omega
        simp only [vs2]
        rw [iV _ _ _ _ VD,if_pos ⟨by omega,by rw [XK,← Nat.add_mul];exact h6⟩,e,aaB,hv]
        rfl
      ·intro k x cs j c hx T6 hj
       rcases Vr hx with ⟨hk,h⟩|⟨hk,_,h⟩
       ·simp only [if_pos hk]
        exact (hold h T6 hj).2.mono VG.bare
       ·simp only [if_neg (show ¬k<len by omega)]
        obtain ⟨v,hv,XV⟩:=UT.get _ x cs j c h T6 hj
        rw [hv]
        exact XV.mono VG.bare
      ·intro k x cs c hx T6 Uu
       rcases Vr hx with ⟨_,h⟩|⟨_,_,h⟩
       ·exact orow.st _ x cs c h T6 Uu
       ·exact UT.st _ x cs c h T6 Uu
     ·intro j hj
      funext k
      simp [MM.bM,hj,MM.iw,MM.cn]
theorem qJ {w0:eJ} {w:World} {M:MM} {own:Nat→Option Nat} {σ:Nat→Ob} (hw:ca w0 M own σ w) {st xt Uk rty e2:TypeId} {ts:Array TypeId} {args:Array Value} (ht:P.underlying st=some (.slice Uk)) (hx:P.underlying xt=some (.slice e2)) (h0:ts[0]? =some st) (h1:ts[1]? =some xt)
  (hz:jN P Uk=true) (UE:P.bytesOf Uk≤65536) {ow Xr:ln} {sz Ug:Nat} {xs ys:List D} {u u':Value} (g0:args[0]? =some u) (g1:args[1]? =some u') (hu:b7 M (.aY ow sz xs) u) (Yf:b7 M (.aY Xr Ug ys) u')
  (T8:sz=P.cellsOf Uk∨xs= []) (Xy:Ug=P.cellsOf Uk∨ys= []) (hn:xs.length+ys.length≤dy) {id ver:Nat} (VT:∀v,ver≤v→M.bX id v=none)
  (UA:∀a len cap,u= .slice a len cap→cap=len∨∃b vs ty fz Wi UX,a=some ⟨b,0,none⟩∧tR w0 M own id (P.cellsOf Uk) w len cap b vs ty fz∧σ id= .dD Wi UX):
  ∃v M' TW w',(aa6 ts rty args).run P w= .ok v w'∧M.Le M'∧ca w0 M' TW (gK σ id (.dD ver (P.cellsOf Uk))) w'∧b7 M' (.aY (.tok id ver) (P.cellsOf Uk) (xs++ys)) v∧M'.box=M.box∧∀j,j≠id→M'.bX j=M.bX j:=by
 cases Yf with
 |aY b' off' vs' U2 hcap' ha' hsize' Wb WK hst' WX=>
  rename_i a' T2 Up
  have Ws:b7 M (.aY Xr Ug ys) (.slice a' T2 Up):= .aY b' off' vs' U2 hcap' ha' hsize' Wb WK hst' WX
  obtain ⟨new,ns,UT,UJ,Vf⟩:=m7 (P:=P) Ws Xy hw.cells
  exact tK hw ht hx h0 h1 hz UE g0 g1 hu U2 ns UT UJ Vf T8 hn VT UA
end
structure yM (P:Program) (id:Nat) (args:List D) (s:List Ob) (d:D) (s':List Ob):Prop where
  len:s.length≤s'.length
  run:∀(w0:eJ) (M:MM) (own:Nat→Option Nat) (w:World) (vs:Array Value) (l:Nat),ca w0 M own (bJ s) w→M.upto s.length→cy M args vs→M.box id=some l→
    ∃fn tmps ag bd,(Instr.yield l vs).run P w= .ok (.round l fn tmps ag bd) w∧
      RoundIn Fence.wide 0 P l fn tmps ag bd w fun e w'=> ∃v M' TW,e= .returned v∧ca w0 M' TW (bJ s') w'∧M'.upto s'.length∧M.Le M'∧b7 M' d v
def Rd (P:Program) (g:Tg) (args:List D) (s:List Ob) (d:D) (s':List Ob):Prop:=match g with
  | .fn f=>ak P f args s d s'
  | .yl id=>yM P id args s d s'
def lq (P:Program) {ρ':Type} (inl:FZ P ρ'):Prop:= ∀(g:Tg) (args:List D) (s:List Ob) (z:Z P) (K:D→List Ob→Z P→Option ρ') (r:ρ'),inl g args s z K=some r→
  ∃d s' z',K d s' z'=some r∧(z'.c→z.c∧Rd P g args s d s')
def LS (P:Program) (o:Oper) (ρ:Operand→D) (s s':List Ob) (d:D):Prop:=
  s.length≤s'.length∧∀(w0:eJ) (M:MM) (own:Nat→Option Nat) (w:World) (a:Act),ca w0 M own (bJ s) w→M.upto s.length→(∀x∈o.op.operands,b7 M (ρ x) (a.eval x))→
    ∀(next:Act→World→Prop) (Q:Exit→Act→World→Prop),
      (∀v M' TW w',M.Le M'→M'.upto s'.length→ca w0 M' TW (bJ s') w'→b7 M' d v→next (a.put o.dst v) w')→Mb P o a w next Q
def jH (P:Program) (o:Oper) (ρ:Operand→D) (s:List Ob) (e:jB):Prop:=match e with
  | .all s' d=>LS P o ρ s s' d
  | .read i ob d=>(s.getD i .dead=ob∧i<s.length)∧gw P o ρ (.read i ob d)
  | .iU i j d=>(hG (s.getD i .dead) j=some d∧i<s.length)∧gw P o ρ (.iU i j d)
  | .gK i ob ob' d=>(s.getD i .dead=ob∧i<s.length)∧gw P o ρ (.gK i ob ob' d)
  |e=>gw P o ρ e
theorem hZ {s:List Ob} {i:Nat} (h:s.getD i .dead≠ .dead):i<s.length:=by
 rcases aaA i s.length with q|q
 ·exact q
 ·rw [aaf,aam q] at h;exact absurd rfl h
theorem qg {P:Program} {o:Oper} {ρv:Operand→Value} {c:Call} {f:Operand} {g:FuncId} {fv cv:Array Value} (ho:o.op= .call c) (hc:c.callee= .value f) (hf:ρv f= .func (.func g) fv cv) (he:Su P g) (w:World):
  (execOp ρv o).run P w= .ok (.enter g ((fv++c.args.map ρv)++cv)) w:=by
 obtain ⟨fn,code,h1,h2,h3⟩:=he
 simp only [execOp,ho,resolve,hc,hf,Deferred.ofValue,aay,aaH,aaq,invoke,callFunc,run_program,h1,h3,aaT,if_false,h2,Option.isNone_some]
theorem rL {P:Program} {o:Oper} {a:Act} {w:World} {g:FuncId} {vs:Array Value} {next:Act→World→Prop} {Q:Exit→Act→World→Prop} (h:(execOp a.eval o).run P w= .ok (.enter g vs) w)
  (k:Calls P g vs w fun e w'=> ∃v,e= .returned v∧next (a.put o.dst v) w'):Mb P o a w next Q:=by
 intro r
 refine ⟨fun _ _=>trivial,?_⟩
 rw [show (FW r).round=r from rfl,mY h (fun d e=>by cases e) r,Oper.uponIn_enter]
 refine ⟨fun e=>(by cases e),?_⟩
 have k':CallsIn (FW r) (0 - 1) P g vs w fun e w'=> ∃v,e= .returned v∧next (a.put o.dst v) w':=(callsIn_wide (n:=0)).2 k
 refine k'.mono fun e w' hh=> ?_
 obtain ⟨v,rfl,hn⟩:=hh
 exact hn
theorem Dh {P:Program} {o:Oper} {ρv:Operand→Value} {c:Call} {f:Operand} {l:Nat} (ho:o.op= .call c) (hc:c.callee= .value f) (hf:ρv f= .func (.yield l) #[] #[]) (w:World):
  (execOp ρv o).run P w=(Instr.yield l (c.args.map ρv)).run P w:=by
 simp only [execOp,ho,resolve,hc,hf,Deferred.ofValue,aay,aaH,aaq,invoke,Array.empty_append,Array.append_empty]
theorem I1 {P:Program} {o:Oper} {a:Act} {w:World} {l:Nat} {fn:FuncId} {tmps:Array Value} {ag bd:Code} {next:Act→World→Prop} {Q:Exit→Act→World→Prop} (h:(execOp a.eval o).run P w= .ok (.round l fn tmps ag bd) w)
  (k:RoundIn Fence.wide 0 P l fn tmps ag bd w fun e w'=> ∃v,e= .returned v∧next (a.put o.dst v) w'):Mb P o a w next Q:=by
 intro r
 refine ⟨fun _ _=>trivial,?_⟩
 rw [show (FW r).round=r from rfl,mY h (fun d e=>by cases e) r,Oper.uponIn_round]
 refine ⟨fun e=>(by cases e),?_⟩
 have k':RoundIn (FW r) (0 - 1) P l fn tmps ag bd w fun e w'=> ∃v,e= .returned v∧next (a.put o.dst v) w':=k
 refine k'.mono fun e w' hh=> ?_
 obtain ⟨v,rfl,hn⟩:=hh
 exact hn
theorem cy.append {M:MM} {xs ys:List D} {us vs:Array Value} (h:cy M xs us) (k:cy M ys vs):cy M (xs++ys) (us++vs):=by
 refine ⟨by simp [h.1,k.1],fun i d v a b=> ?_⟩
 rw [aa8] at a
 rw [Array.getElem?_append] at b
 rw [← h.1] at b
 split at a
 ·rename_i hi
  rw [if_pos hi] at b
  exact h.2 i d v a b
 ·rename_i hi
  rw [if_neg hi] at b
  exact k.2 _ d v a b
theorem oP {M:MM} {ρ:Operand→D} {a:Act} (l:Array Operand) (h:∀x∈l,b7 M (ρ x) (a.eval x)):cy M (l.toList.map ρ) (l.map a.eval):=by
 refine ⟨by simp,fun i d v p q=> ?_⟩
 rw [aau,aat] at p
 obtain ⟨x,hx,rfl⟩:=p
 rw [aaB] at hx
 rw [Array.getElem?_map,hx] at q
 simp only [abv,aak] at q
 subst q
 exact h x (Array.mem_of_getElem? hx)
theorem b7.bg {M:MM} {d:D} {v:Value} (h:b7 M d v):b7 M d.bg v:=by
 induction h with
 |undef v=>exact .undef v
 |int k n=>exact .int k n
 |bool b=>exact .bool b
 |str s=>exact .str s
 |fW=>exact .fW
 |ptr q h=>exact .ptr q h
 |eL q vs hx hc hr ih=>exact .eL q vs hx hc hr
 |gl h=>exact .gl h
 |jx h=>exact .jx h
 |dm h hh hc=>exact .dm h hh hc
 |sub h hc hp ho=>exact .sub h hc hp ho
 |aY b off vs hl TZ ha T8 hc hr T5 ho ih=>
  rename_i o _ _ _ _ _
  rw [D.bg]
  refine .aY b off vs hl TZ ha T8 hc hr T5 ?_
  cases o<;>first|trivial|exact ho
 |b6=>exact .b6
 |fn h1 h2 r1 r2 i1 i2=>
  rw [D.bg,D.gI,D.gI]
  refine .fn (by simpa using h1) (by simpa using h2) ?_ ?_
  ·intro i d v a b
   rw [aau,aat] at a
   obtain ⟨d0,h0,rfl⟩:=a
   exact i1 i d0 v h0 b
  ·intro i d v a b
   rw [aau,aat] at a
   obtain ⟨d0,h0,rfl⟩:=a
   exact i2 i d0 v h0 b
 |agg h r ih=>
  rw [D.bg,D.gI]
  refine .agg (by simpa using h) fun i d v a b=> ?_
  rw [aau,aat] at a
  obtain ⟨d0,h0,rfl⟩:=a
  exact ih i d0 v h0 b
 |aL h r ih=>
  rw [D.bg,D.gI]
  refine .aL (by simpa using h) fun i d v a b=> ?_
  rw [aau,aat] at a
  obtain ⟨d0,h0,rfl⟩:=a
  exact ih i d0 v h0 b
theorem tL {id:Nat} :∀ {ds l:List D} {sz:Nat},jb id ds=some (l,sz)→∃(k Ug:Nat) (xs:List D),ds[k]? =some (D.aY (.fresh sz) Ug xs)∧l.length=ds.length∧
  ∀(i:Nat) (d':D),l[i]? =some d'→(i=k∧d'=D.aY (.tok id 0) Ug xs)∨∃d0:D,ds[i]? =some d0∧(d'=d0∨d'=d0.bg)
 | [],l,sz,h=>by simp [jb] at h
 |d::r,l,sz,h=>by
  unfold jb at h
  split at h
  ·cases h
  ·rename_i YM UX xs r' heq
   simp only [List.cons.injEq] at heq
   obtain ⟨rfl,rfl⟩:=heq
   simp only [aak,Prod.mk.injEq] at h
   obtain ⟨rfl,rfl⟩:=h
   refine ⟨0,UX,xs,rfl,by simp,fun i d' hi=> ?_⟩
   cases i with
   |zero=>simp at hi;exact .inl ⟨rfl,hi.symm⟩
   |succ i=>
    simp only [abf,aau,aat] at hi
    obtain ⟨d0,h0,rfl⟩:=hi
    exact .inr ⟨d0,by simpa using h0,.inr rfl⟩
  ·rename_i d1 r1 _ heq
   simp only [List.cons.injEq] at heq
   obtain ⟨rfl,rfl⟩:=heq
   split at h
   ·rename_i l' Ug hl
    simp only [aak,Prod.mk.injEq] at h
    obtain ⟨rfl,rfl⟩:=h
    obtain ⟨k,UX,xs,h1,h2,h3⟩:=tL hl
    refine ⟨k+1,UX,xs,by simpa using h1,by simp [h2],fun i d' hi=> ?_⟩
    cases i with
    |zero=>simp at hi;exact .inr ⟨d,rfl,.inl hi.symm⟩
    |succ i=>
     rcases h3 i d' (by simpa using hi) with ⟨e1,e2⟩|⟨d0,e1,e2⟩
     ·exact .inl ⟨by omega,e2⟩
     ·exact .inr ⟨d0,by simpa using e1,e2⟩
   ·cases h
theorem LR (id Wz:Nat) (d:D):(mU id d).2=(mU Wz d).2:=by
 have hl:∀ds:List D,(jb id ds).map (·.2)=(jb Wz ds).map (·.2):=by
  intro ds
  induction ds with
  |nil=>rfl
  |cons d r ih=>
   unfold jb
   split
   ·rfl
   ·rfl
   ·rename_i h;
    cases h1:jb id r with
    |none=>
     rw [h1] at ih
     cases h2:jb Wz r with
     |none=>simp_all
     |some p=>rw [h2] at ih;cases ih
    |some p=>
     rw [h1] at ih
     cases h2:jb Wz r with
     |none=>rw [h2] at ih;cases ih
     |some q=>
      rw [h2] at ih
      have:p.2=q.2:=by simpa using ih
      simp_all
 unfold mU
 split
 ·rfl
 ·rename_i ds
  have:=hl ds
  cases h1:jb id ds with
  |none=>
   rw [h1] at this
   cases h2:jb Wz ds with
   |none=>rfl
   |some p=>rw [h2] at this;cases this
  |some p=>
   rw [h1] at this
   cases h2:jb Wz ds with
   |none=>rw [h2] at this;cases this
   |some q=>
    rw [h2] at this
    have:p.2=q.2:=by simpa using this
    simp [this]
 ·rfl
theorem LQ {w0:eJ} {w w':World} {M M1:MM} {own:Nat→Option Nat} {σ:Nat→Ob} (hw:ca w0 M own σ w) (WW:ca w0 M1 own σ w') (_hle:w.heap.size≤w'.heap.size) {id:Nat} (UB:∀v,M1.bX id v=none) {d:D} {v:Value} (hr:b7 M1 d v) (hf:Es w.heap.size w' M1.cell d v):
  ∃M' TW,M1.Le M'∧M'.box=M1.box∧(∀j,j≠id→M'.bX j=M1.bX j)∧ca w0 M' TW (gK σ id (mU id d).2) w'∧b7 M' (mU id d).1 v:=by
 have dD:∀ {sz:Nat} {a:Option Addr} {len cap:Nat},jV w.heap.size w' M1.cell sz a len cap→∃TW,ca w0 (M1.bM id 0 (.slice a len cap)) TW (gK σ id (.dD 0 sz)) w':=by
  intro sz a len cap UA
  refine WW.si (fun v _=>UB v) sz ?_
  rcases UA with q|⟨b,vs,ty,fz,h1,h2,h3,h4,h5,h6⟩
  ·exact .inl q
  ·refine .inr ⟨b,vs,ty,fz,h1,(fun k=>by have:=hw.below.PZ k;omega),.inl ?_,h3,h4,h5,h6⟩
   cases e:own b with
   |none=>rfl
   |some q=>have:=hw.owned _ _ e;omega
 have aU:∀ {x:Value},(∀j,j≠id→(M1.bM id 0 x).bX j=M1.bX j):=fun {x} j hj=>by funext k;simp [MM.bM,hj]
 have dead:∀ {d':D},b7 M1 d' v→∃M' TW,M1.Le M'∧M'.box=M1.box∧(∀j,j≠id→M'.bX j=M1.bX j)∧ca w0 M' TW (gK σ id .dead) w'∧b7 M' d' v:=
  fun h=>⟨M1,own,.refl _,rfl,fun _ _=>rfl,WW.kill id,h⟩
 unfold mU
 split
 ·rename_i sz Ug xs
  obtain ⟨a,len,cap,rfl,rfl,UA⟩:=hf.1 _ _ _ rfl
  obtain ⟨TW,h1⟩:=dD UA
  have le:=MM.eY (M:=M1) (id:=id) (ver:=0) (v:= .slice a len cap) (UB 0)
  exact ⟨_,TW,le,rfl,aU,h1,(hr.mono le).flag _ (by simp [MM.pR,MM.bM])⟩
 ·rename_i ds
  split
  ·rename_i l sz hl
   obtain ⟨k,Ug,xs,h1,h2,h3⟩:=tL hl
   cases hr with
   |aL hlen T0=>
    rename_i vs
    obtain ⟨a,len,cap,hv,rfl,UA⟩:=hf.2 _ _ rfl rfl k _ _ _ h1
    obtain ⟨TW,h4⟩:=dD UA
    have le:=MM.eY (M:=M1) (id:=id) (ver:=0) (v:= .slice a len cap) (UB 0)
    refine ⟨_,TW,le,rfl,aU,h4,.aL (by rw [h2];exact hlen) fun i d' u hi hu=> ?_⟩
    rcases h3 i d' hi with ⟨rfl,rfl⟩|⟨d0,e1,e2⟩
    ·rw [hv] at hu
     obtain rfl:=aad hu
     exact ((T0 _ _ _ h1 hv).mono le).flag _ (by simp [MM.pR,MM.bM])
    ·have:=(T0 i d0 u e1 hu).mono le
     rcases e2 with rfl|rfl
     ·exact this
     ·exact this.bg
  ·exact dead hr
 ·exact dead hr
theorem O3 {P:Program} {o:Oper} {ρ:Operand→D} {c:Call} {f:Operand} {g:FuncId} {first cap as:List D} {d:D} (ho:o.op= .call c) (hc:c.callee= .value f) (hf:ρ f= .fn (.func g) first cap) (WY:aP P g as d)
  (has:∀(M:MM) (vs:Array Value),cy M (first++(c.args.toList.map ρ++cap)) vs→cy M.bare as vs):gw P o ρ (.new (mU 0 d).2 fun id=>(mU id d).1):=by
 intro w0 M own σ w a id hw hr Ub next Q hn
 have T4:∀x∈c.args,b7 M (ρ x) (a.eval x):=fun x hx=>hr x (by
  simp only [ho,aas,abp,hc]
  exact abw.2 (.inr hx))
 have U1:=hr f (by
  simp only [ho,aas,abp,hc]
  exact abw.2 (.inl (by simp)))
 rw [hf] at U1
 generalize hfv:a.eval f=fval at U1
 cases U1 with
 |fn h1 h2 r1 r2=>
  rename_i fv cv
  have US:cy M (first++(c.args.toList.map ρ++cap)) ((fv++c.args.map a.eval)++cv):=by
   rw [Array.append_assoc]
   exact cy.append ⟨h1,r1⟩ (cy.append (oP c.args T4) ⟨h2,r2⟩)
  have WO:=WY.run w M.cell _ hw.cells (has M _ US)
  refine rL (qg ho hc hfv WY.Ij w) (Calls.mono WO fun e w' hh=> ?_)
  obtain ⟨v,C',rfl,hext,T0,VK⟩:=hh
  let M1:MM:=⟨C',M.box,M.bX,M.fM⟩
  have hx:Ext M w M1 w':=⟨hext.below,hext.cell,hext.only,hext.cells⟩
  obtain ⟨WW,XP⟩:=hw.ext hx rfl rfl rfl
  obtain ⟨M',TW,q1,q2,q3,q4,q5⟩:=LQ (id:=id) hw WW hext.below.size Ub.2 (T0.mono (MM.lV M1)) VK
  refine ⟨v,rfl,hn v M' TW w' (XP.trans q1) ⟨fun j _=>by rw [q2],fun j hj=>q3 j hj⟩ ?_ q5⟩
  show ca w0 M' TW (gK σ id (mU 0 d).2) w'
  rw [LR 0 id d]
  exact q4
theorem ca.PU {w0:eJ} {w:World} {M:MM} {own:Nat→Option Nat} {σ:Nat→Ob} (h:ca w0 M own σ w) {id b:Nat} (UB:M.box id=none) (hh:∀v,M.bX id v=none) {cs:List D} {vs:Array Value} {ty:TypeId} (hX:¬w0.X b) (Ur:own b=none) (Uo:∀o,M.cell b o=none)
  (Vu:w.heap[b]? =some (.cells vs ty (0,0))) (hl:cs.length≤vs.size) (hr:∀(i:Nat) (d:D) (v:Value),cs[i]? =some d→vs[i]? =some v→b7 M d v):
  ca w0 (M.cL id b) (gy own b id) (gK σ id (.box cs)) w:=by
 have le:=MM.fX (b:=b) UB
 have ho:∀ {b2 i:Nat},own b2=some i→gy own b id b2=some i:=fun {b2 i} k=>by
  have:b2≠b:=by rintro rfl;rw [Ur] at k;cases k
  simp [gy,this,k]
 refine ⟨h.below,h.cells,h.mj,?_,?_,?_,?_,?_,h.fM⟩
 ·intro b2 i k
  by_cases e:b2=b
  ·rw [e];exact fj Vu
  ·simp only [gy,e,if_false] at k
   exact h.owned b2 i k
 ·intro i Us hi
  by_cases e:i=id
  ·subst e
   rw [bw] at hi
   cases hi
   exact ⟨b,vs,ty,by simp [MM.cL],hX,by simp [gy],Uo,Vu,hl,fun j d v a b=>(hr j d v a b).mono le,fun sz a len cap q=>by have q':M.bX i sz=_:=q;rw [hh] at q';cases q'⟩
  ·rw [br e] at hi
   obtain ⟨b2,vs',ty',k⟩:=h.box i Us hi
   exact ⟨b2,vs',ty',le.box _ _ k.box,k.base,ho k.own,k.none,k.dI,k.len,fun j d v a b=>(k.rep j d v a b).mono le,k.room⟩
 ·intro i ver sz hi
  by_cases e:i=id
  ·rw [e,bw] at hi;cases hi
  ·rw [br e] at hi
   obtain ⟨a,len,cap,k⟩:=h.dD i ver sz hi
   refine ⟨a,len,cap,k.bX,k.last,?_⟩
   rcases k.room with r|⟨b2,vs',ty',fz,ha,r⟩
   ·exact .inl r
   ·exact .inr ⟨b2,vs',ty',fz,ha,r.base,ho r.own,r.dI,r.fz,r.cap,r.none⟩
 ·intro i F hi
  by_cases e:i=id
  ·rw [e,bw] at hi;cases hi
  ·rw [br e] at hi
   obtain ⟨b2,T3,clock,q⟩:=h.mp i F hi
   exact ⟨b2,T3,clock,le.box _ _ q.box,q.base,ho q.own,q.none,q.dI,q.fits⟩
 ·intro i k t ps ag bd hi
  by_cases e:i=id
  ·rw [e,bw] at hi;cases hi
  ·rw [br e] at hi
   obtain ⟨l,r,q⟩:=h.lp i k t ps ag bd hi
   exact ⟨l,r,q.aU le (ho q.own) q.dI⟩
theorem Kv {P:Program} {o:Oper} {ρ:Operand→D} {c:Call} {f:Operand} {g:FuncId} {first cap as cs:List D} {n:Nat} (ho:o.op= .call c) (hc:c.callee= .value f) (hf:ρ f= .fn (.func g) first cap) (Ud:ak P g as [] (.dm 0 1 n) [.box cs]) (hb:∀d∈cs,∃k:Int,d= .int .u8 k)
  (has:∀(M:MM) (vs:Array Value),cy M (first++(c.args.toList.map ρ++cap)) vs→cy M.bare as vs):gw P o ρ (.new (.box cs) fun id=> .dm id 1 n):=by
 intro w0 M own σ w a id hw hr Ub next Q hn
 have T4:∀x∈c.args,b7 M (ρ x) (a.eval x):=fun x hx=>hr x (by
  simp only [ho,aas,abp,hc]
  exact abw.2 (.inr hx))
 have U1:=hr f (by
  simp only [ho,aas,abp,hc]
  exact abw.2 (.inl (by simp)))
 rw [hf] at U1
 generalize hfv:a.eval f=fval at U1
 cases U1 with
 |fn h1 h2 r1 r2=>
  rename_i fv cv
  have US:cy M (first++(c.args.toList.map ρ++cap)) ((fv++c.args.map a.eval)++cv):=by
   rw [Array.append_assoc]
   exact cy.append ⟨h1,r1⟩ (cy.append (oP c.args T4) ⟨h2,r2⟩)
  have hW:ca ⟨w,M.cell,fun k=>k<w.heap.size⟩ M.bare (fun _=>none) (bJ []) w:=
   ⟨.of _,hw.cells,fun b o v k _=>k,(fun b i k=>by cases k),(fun i cs k=>by simp [bJ] at k),(fun i v sz k=>by simp [bJ] at k),(fun i F q=>by simp [bJ,Ob.C4] at q),(fun i k t ps ag bd q=>by simp [bJ] at q),fun b (hb:False)=>hb.elim⟩
  refine rL (qg ho hc hfv Ud.Ij w) (Calls.mono (Ud.run _ M.bare (fun _=>none) w _ hW ⟨fun _ _=>rfl,fun _ _ _=>rfl⟩ (has M _ US)) fun e w' hh=> ?_)
  obtain ⟨v,M1,own1,rfl,q1,q2,q3,q4⟩:=hh
  have hx:Ext M w M w':=⟨q1.below.below,fun _ _ _ h=>h,fun _ _ _ h _=>h,fun b o v h=>q1.cells b o v (q3.cell _ _ _ h)⟩
  obtain ⟨WW,_⟩:=hw.ext hx rfl rfl rfl
  cases q4 with
  |dm VN UN TZ=>
   rename_i b cap
   obtain ⟨b2,vb,ty,kb⟩:=q1.box 0 cs rfl
   have eb:b2=b:=by have:=kb.box;rw [VN] at this;exact (aad this).symm
   subst eb
   have V5:w.heap.size≤b2:=Nat.le_of_not_lt kb.base
   have k:=WW.PU (id:=id) Ub.1 Ub.2 (b:=b2) (cs:=cs) (vs:=vb) (ty:=ty) (fun h=>by have:=hw.below.PZ h;omega) (by
    cases e:own b2 with
    |none=>rfl
    |some q=>have:=hw.owned _ _ e;omega) (fun o=>dZ hw.cells V5 o) kb.dI kb.len (fun i d u hd hv=>by
    obtain ⟨k,rfl⟩:=hb d (aaD hd)
    have:=kb.rep i _ u hd hv
    cases this
    exact .int _ _)
   obtain ⟨b1,vs1,ty1,kb1⟩:=k.box id cs (bw _ _ _)
   have e1:b1=b2:=by have:=kb1.box;simp only [MM.cL,if_true] at this;exact (aad this).symm
   subst e1
   have e2:vs1=vb:=by
    have h3:=kb1.dI
    rw [kb.dI] at h3
    have h4:=aad h3
    simp only [Obj.cells.injEq] at h4
    exact h4.1.symm
   have k2:=k.yE (bw _ _ _) kb1 (sz:=1) (len:=n) (cap:=cap) (Ub.2 _) (by rw [e2];exact kb.room 1 _ n cap UN)
   have VG:(M.cL id b1).Le ((M.cL id b1).bM id 1 (.slice (some ⟨b1,0,none⟩) n cap)):=MM.eY (Ub.2 _)
   refine ⟨_,rfl,hn _ _ _ w' ((MM.fX Ub.1).trans VG) ⟨fun j hj=>by simp [MM.cL,MM.bM,hj],fun j hj=>by funext q;simp [MM.bM,MM.cL,hj]⟩ k2 ?_⟩
   exact .dm (b:=b1) (by simp [MM.cL,MM.bM]) (by simp [MM.bM]) TZ
theorem Ky {P:Program} {o:Oper} {ρ:Operand→D} {c:Call} {f:Operand} {g:FuncId} {first cap:List D} {d:D} {s s':List Ob} (ho:o.op= .call c) (hc:c.callee= .value f) (hf:ρ f= .fn (.func g) first cap)
  (Ud:ak P g (first++(c.args.toList.map ρ++cap)) s d s'):LS P o ρ s s' d:=by
 refine ⟨Ud.len,?_⟩
 intro w0 M own w a hw VS hr next Q hn
 have T4:∀x∈c.args,b7 M (ρ x) (a.eval x):=fun x hx=>hr x (by
  simp only [ho,aas,abp,hc]
  exact abw.2 (.inr hx))
 have U1:=hr f (by
  simp only [ho,aas,abp,hc]
  exact abw.2 (.inl (by simp)))
 rw [hf] at U1
 generalize hfv:a.eval f=fval at U1
 cases U1 with
 |fn h1 h2 r1 r2=>
  rename_i fv cv
  have US:cy M (first++(c.args.toList.map ρ++cap)) ((fv++c.args.map a.eval)++cv):=by
   rw [Array.append_assoc]
   exact cy.append ⟨h1,r1⟩ (cy.append (oP c.args T4) ⟨h2,r2⟩)
  refine rL (qg ho hc hfv Ud.Ij w) (Calls.mono (Ud.run w0 M own w _ hw VS US) fun e w' hh=> ?_)
  obtain ⟨v,M',TW,rfl,q1,q2,q3,q4⟩:=hh
  exact ⟨v,rfl,hn v M' TW w' q3 q2 q1 q4⟩
theorem O2 {P:Program} {o:Oper} {ρ:Operand→D} {c:Call} {f:Operand} {id:Nat} {d:D} {s s':List Ob} (ho:o.op= .call c) (hc:c.callee= .value f) (hf:ρ f= .jx id)
  (Ud:yM P id (c.args.toList.map ρ) s d s'):LS P o ρ s s' d:=by
 refine ⟨Ud.len,?_⟩
 intro w0 M own w a hw VS hr next Q hn
 have T4:∀x∈c.args,b7 M (ρ x) (a.eval x):=fun x hx=>hr x (by
  simp only [ho,aas,abp,hc]
  exact abw.2 (.inr hx))
 have U1:=hr f (by
  simp only [ho,aas,abp,hc]
  exact abw.2 (.inl (by simp)))
 rw [hf] at U1
 generalize hfv:a.eval f=fval at U1
 cases U1 with
 |jx hb=>
  obtain ⟨fn,tmps,as,bd,h1,h2⟩:=Ud.run w0 M own w _ _ hw VS (oP c.args T4) hb
  refine I1 (l:=_) ((Dh ho hc hfv w).trans h1) (h2.mono fun e w' hh=> ?_)
  obtain ⟨v,M',TW,rfl,q1,q2,q3,q4⟩:=hh
  exact ⟨v,rfl,hn v M' TW w' q3 q2 q1 q4⟩
theorem uH {s:List Ob} {i:Nat} (h:i<s.length) (o:Ob):bJ (s.set i o)=gK (bJ s) i o:=by
 funext k
 unfold bJ gK
 simp only [aaf]
 by_cases e:k=i
 ·subst e;rw [List.getElem?_set_self h];simp
 ·rw [abn (Ne.symm e),if_neg e]
theorem BP (s:List Ob) (o:Ob):bJ (s++ [o])=gK (bJ s) s.length o:=by
 funext k
 unfold bJ gK
 simp only [aaf,aa8]
 by_cases e:k=s.length
 ·subst e;simp
 ·rw [if_neg e]
  split
  ·rfl
  ·rename_i h
   rw [aam (show s.length≤k by omega)]
   have: [o][k - s.length]? =none:=aam (by simp;omega)
   rw [this]
theorem tH {size:Nat} :∀ {ys nc:List D},cO ys=some nc→(∀(i:Nat) (x:D),ys[i]? =some x→∃cs,x.cells=some cs∧cs.length=size)→nc.length=ys.length*size∧
  ∀(i:Nat) (d:D),nc[i]? =some d→∃(q r:Nat) (x:D) (cs:List D),ys[q]? =some x∧x.cells=some cs∧cs[r]? =some d∧i=q*size+r
 | [],nc,h,_=>by
  simp only [cO,aak] at h
  subst h
  exact ⟨by simp,fun i d hd=>by simp at hd⟩
 |y::ys,nc,h,he=>by
  simp only [cO] at h
  split at h
  ·rename_i c cs hc T6
   obtain rfl:=aad h
   obtain ⟨c',Wb,hlen⟩:=he 0 y rfl
   rw [hc] at Wb
   obtain rfl:=aad Wb
   obtain ⟨l1,g1⟩:=tH T6 (fun i x hx=>he (i+1) x hx)
   refine ⟨by rw [aap,l1,hlen,aaw,Nat.succ_mul];omega,fun i d hd=> ?_⟩
   rcases aaA i c.length with hi|hi
   ·rw [List.getElem?_append_left hi] at hd
    exact ⟨0,i,y,c,rfl,hc,hd,by simp⟩
   ·rw [List.getElem?_append_right hi] at hd
    obtain ⟨q,r,x,cx,h1,h2,h3,h4⟩:=g1 _ d hd
    exact ⟨q+1,r,x,cx,h1,h2,h3,by rw [Nat.succ_mul];omega⟩
  ·cases h
theorem lV (M:MM):M.bare.Le M:=⟨fun _ _ _ h=>h,fun _ _ h=>(by cases h),fun _ _ _ h=>(by cases h),fun _ h=>h.elim⟩
theorem uK {M:MM} {size:Nat} {ys nc:List D} {arr:Array Value} (h:iQ M size ys arr) (hc:cO ys=some nc):nc.length=ys.length*size∧
  ∀(i:Nat) (d:D) (v:Value),nc[i]? =some d→arr[i]? =some v→b7 M d v:=by
 obtain ⟨h1,h2⟩:=tH hc h.elem
 refine ⟨h1,fun i d v hd hv=> ?_⟩
 obtain ⟨q,r,x,cs,a1,a2,a3,rfl⟩:=h2 i d hd
 obtain ⟨u,b1,b2⟩:=h.get q x cs r d a1 a2 a3
 rw [b1] at hv
 obtain rfl:=aad hv
 exact b2.mono (lV M)
section
variable {P:Program} {o:Oper} {ρ:Operand→D}
theorem Jb {w0:eJ} {w:World} {M:MM} {own:Nat→Option Nat} {σ:Nat→Ob} (hw:ca w0 M own σ w) {st xt Uk rty e2:TypeId} {ts:Array TypeId} {args:Array Value} (ht:P.underlying st=some (.slice Uk)) (hx:P.underlying xt=some (.slice e2)) (h0:ts[0]? =some st) (h1:ts[1]? =some xt)
  (hz:jN P Uk=true) (UE:P.bytesOf Uk≤65536) {sz n Up:Nat} {nc:List D} {u:Value} {a':Option Addr} {new:Array Value} (g0:args[0]? =some u) (g1:args[1]? =some (.slice a' n Up)) (hu:b7 M (.aY .tight sz []) u)
  (ns:new.size=n*P.cellsOf Uk) (UJ:∀wd:World,(∀a,wd.cell? a=w.cell? a)→(aa5 (P.cellsOf Uk) n (.slice a' n Up)).run P wd= .ok new wd) (c1:nc.length=n*P.cellsOf Uk)
  (c2:∀(i:Nat) (d:D) (v:Value),nc[i]? =some d→new[i]? =some v→b7 M d v) (hn:n≤dy) (Ux:0<n) {id:Nat} (UB:M.box id=none) (hh:∀v,M.bX id v=none):
  ∃v M' TW w',(aa6 ts rty args).run P w= .ok v w'∧M.Le M'∧ca w0 M' TW (gK σ id (.box nc)) w'∧b7 M' (.dm id (P.cellsOf Uk) n) v∧(∀j,j≠id→M'.box j=M.box j)∧∀j,j≠id→M'.bX j=M.bX j:=by
 obtain ⟨i,z,hi,hiz,hzs,T9⟩:=qy hz
 have VM:i.bytes≤65536:=by simpa [Program.bytesOf,hi] using UE
 cases hu with
 |aY b off vs hl TZ ha Vq hc0 hr T5 ho=>
  rename_i a len cap
  have T0:b7 M (.aY .tight sz []) (.slice a len cap):= .aY b off vs hl TZ ha Vq hc0 hr T5 ho
  have Wv:len=0:=by simpa using hl.symm
  have Yk:cap=len:=ho
  subst Wv
  subst Yk
  rw [T9] at ns UJ c1 ⊢
  obtain ⟨mj,os,orow,orun,_⟩:=m7 (P:=P) (size:=i.size) T0 (.inr rfl) hw.cells
  have Wl:0+n≤2147483648:=by rw [aaY];exact hn
  obtain ⟨_,r2⟩:=sl (P:=P) (rty:=rty) ht hx h0 h1 hi hiz g0 g1 (orun w.drew fun _=>rfl) (UJ w fun _=>rfl) (UJ w.drew fun _=>rfl) VM Wl
  obtain ⟨n2,XT,_,Ud⟩:=r2 (by omega)
  rw [aaY] at Ud XT
  have hold:mj= #[]:=Array.eq_empty_of_size_eq_zero (by rw [os];simp)
  subst hold
  let arr:= #[]++new++Builtin.zeroCells z.cells (n2 - n)
  have UW:arr.size=n2*i.size:=by
   simp only [arr,Array.size_append,size_zeroCells,ns,hzs]
   simp only [List.size_toArray,aaC,aaY]
   rw [← Nat.add_mul]
   congr 1;omega
  have hle:nc.length≤arr.size:=by rw [c1,UW];exact Nat.mul_le_mul_right _ (by omega)
  have WJ:∀(j:Nat) (d:D) (v:Value),nc[j]? =some d→arr[j]? =some v→b7 M d v:=by
   intro j d v hd hv
   have hj:j<new.size:=by
    rw [ns,← c1]
    rcases aaA j nc.length with q|q
    ·exact q
    ·simp [aam q] at hd
   refine c2 j d v hd ?_
   have:arr[j]? =new[j]? :=by
    simp only [arr]
    rw [Array.getElem?_append_left (by simpa using hj),Array.empty_append]
   rw [← this];exact hv
  have k:ca w0 (M.cL id w.heap.size) (gy own w.heap.size id) (gK σ id (.box nc)) (w.drew.alloc (.cells arr Uk)):=hw.drew.CW (id:=id) UB hh (cs:=nc) (vs:=arr) Uk hle WJ
  obtain ⟨b1,vs1,ty1,kb⟩:=k.box id nc (bw _ _ _)
  have eb:b1=w.heap.size:=by have:=kb.box;simp only [MM.cL,if_true] at this;exact (aad this).symm
  have Zc:vs1.size=arr.size:=by
   have h1:=kb.dI
   rw [eb] at h1
   have h2:(w.drew.alloc (.cells arr Uk)).heap[w.heap.size]? =some (.cells arr Uk (0,0)):=by
    show (w.heap.push _)[w.heap.size]? =_
    simp
   rw [h2] at h1
   have h3:=aad h1
   simp only [Obj.cells.injEq] at h3
   rw [← h3.1]
  have k2:=k.yE (bw _ _ _) kb (sz:=i.size) (len:=n) (cap:=n2) (hh _) (by rw [Zc,UW];exact aar _)
  subst eb
  have VG:(M.cL id w.heap.size).Le ((M.cL id w.heap.size).bM id i.size (.slice (some ⟨w.heap.size,0,none⟩) n n2)):=MM.eY (hh _)
  refine ⟨_,_,_,_,Ud,(MM.fX UB).trans VG,k2,?_,fun j hj=>by simp [MM.cL,MM.bM,hj],fun j hj=>by funext q;simp [MM.bM,MM.cL,hj]⟩
  exact .dm (b:=w.heap.size) (by simp [MM.cL,MM.bM]) (by simp [MM.bM]) (by omega)
theorem F7 {w0:eJ} {w:World} {M:MM} {own:Nat→Option Nat} {σ:Nat→Ob} (hw:ca w0 M own σ w) {st xt Uk rty e2:TypeId} {ts:Array TypeId} {args:Array Value} (ht:P.underlying st=some (.slice Uk)) (hx:P.underlying xt=some (.slice e2)) (h0:ts[0]? =some st) (h1:ts[1]? =some xt)
  (hz:jN P Uk=true) (UE:P.bytesOf Uk≤65536) {Xr:ln} {sz Ug:Nat} {ys nc:List D} {u u':Value} (g0:args[0]? =some u) (g1:args[1]? =some u') (hu:b7 M (.aY .tight sz []) u) (Yf:b7 M (.aY Xr Ug ys) u')
  (Xy:Ug=P.cellsOf Uk∨ys= []) (hn:ys.length≤dy) (Ut:ys≠ []) (hc:cO ys=some nc) {id:Nat} (UB:M.box id=none) (hh:∀v,M.bX id v=none):
  ∃v M' TW w',(aa6 ts rty args).run P w= .ok v w'∧M.Le M'∧ca w0 M' TW (gK σ id (.box nc)) w'∧b7 M' (.dm id (P.cellsOf Uk) ys.length) v∧(∀j,j≠id→M'.box j=M.box j)∧∀j,j≠id→M'.bX j=M.bX j:=by
 cases Yf with
 |aY b' off' vs' U2 hcap' ha' hsize' Wb WK hst' WX=>
  rename_i a' T2 Up
  have Ws:b7 M (.aY Xr Ug ys) (.slice a' T2 Up):= .aY b' off' vs' U2 hcap' ha' hsize' Wb WK hst' WX
  obtain ⟨new,ns,UT,UJ,Vf⟩:=m7 (P:=P) Ws Xy hw.cells
  obtain ⟨c1,c2⟩:=uK UT hc
  have Ux:0<ys.length:=List.length_pos_iff.2 Ut
  subst U2
  exact Jb hw ht hx h0 h1 hz UE g0 g1 hu ns UJ c1 c2 hn Ux UB hh
theorem FQ {w0:eJ} {w:World} {M:MM} {own:Nat→Option Nat} {σ:Nat→Ob} (hw:ca w0 M own σ w) {t off o2 n size c b:Nat} {cs nc:List D} (hb:M.box t=some b) (hσ:σ t= .box cs) (VF:n≠0→o2=off) (UK:(cs.drop off).take (n*size)=nc) (hle:off+n*size≤cs.length):
  ∃new:Array Value,new.size=n*size∧(∀wd:World,(∀a,wd.cell? a=w.cell? a)→(aa5 size n (.slice (some ⟨b,o2,none⟩) n c)).run P wd= .ok new wd)∧nc.length=n*size∧∀(i:Nat) (d:D) (v:Value),nc[i]? =some d→new[i]? =some v→b7 M d v:=by
 by_cases hn:n=0
 ·subst hn
  rw [Nat.zero_mul,List.take_zero] at UK
  subst UK
  refine ⟨#[],by simp,fun wd _=>by simp [aa5,loadCells,loadCellsFrom],by simp,fun i d v hd=>by simp at hd⟩
 obtain ⟨b2,vs,ty,kb⟩:=hw.box t cs hσ
 have eb:b2=b:=by have:=kb.box;rw [hb] at this;exact (aad this).symm
 subst eb
 obtain rfl:=VF hn
 have Za:=kb.len
 refine ⟨vs.extract o2 (o2+n*size),by rw [Array.size_extract];omega,fun wd YX=> ?_,by rw [← UK,List.length_take,List.length_drop];omega,fun i d v hd hv=> ?_⟩
 ·have:=jY (P:=P) (w:=wd) b2 o2 (vs.extract o2 (o2+n*size)) (fun j v hj=>by
   rw [YX]
   rw [Array.getElem?_extract] at hj
   split at hj
   ·simp [World.cell?,kb.dI,hj]
   ·cases hj)
  rw [show (vs.extract o2 (o2+n*size)).size=n*size by rw [Array.size_extract];omega] at this
  exact this
 ·rw [Array.getElem?_extract] at hv
  split at hv
  ·rename_i hi
   rw [← UK,List.getElem?_take,if_pos (by omega),List.getElem?_drop] at hd
   exact kb.rep _ d v hd hv
  ·cases hv
theorem sS {d:D} (h:isByte d=true):∃n,d= .int .u8 n:=by
 unfold isByte at h
 split at h
 ·exact ⟨_,rfl⟩
 ·cases h
theorem vC {M:MM} {nc:List D} {new:Array Value} (hl:nc.length=new.size) (h:nc.all isByte=true) (c2:∀(i:Nat) (d:D) (v:Value),nc[i]? =some d→new[i]? =some v→b7 M d v):iQ M 1 nc new∧∀v∈new.toList,v.oneCell'=true:=by
 have key:∀(i:Nat) (d:D),nc[i]? =some d→∃n,d= .int .u8 n∧new[i]? =some (.int .u8 n):=by
  intro i d hd
  obtain ⟨n,rfl⟩:=sS (aaO.1 h d (aaD hd))
  have hi:i<new.size:=by rw [← hl];exact (List.getElem?_eq_some_iff.1 hd).1
  have e:=c2 i _ new[i] hd (by simp [hi])
  generalize hv:new[i]=v at e
  cases e
  exact ⟨n,rfl,by rw [Array.getElem?_eq_getElem hi,hv]⟩
 refine ⟨⟨by omega,fun i x hx=> ?_,fun i x cs j c hx T6 hj=> ?_,fun i x cs c hx T6 hc=> ?_⟩,fun v hv=> ?_⟩
 ·obtain ⟨n,rfl,_⟩:=key i x hx
  exact ⟨_,rfl,rfl⟩
 ·obtain ⟨n,rfl,hn⟩:=key i x hx
  simp only [D.cells,aak] at T6
  subst T6
  cases j with
  |zero=>
   simp only [abb,aak] at hj
   subst hj
   exact ⟨_,by rw [abg,Nat.add_zero];exact hn,.int _ _⟩
  |succ j=>simp at hj
 ·obtain ⟨n,rfl,_⟩:=key i x hx
  simp only [D.cells,aak] at T6
  subst T6
  rw [List.mem_singleton] at hc
  subst hc
  rfl
 ·obtain ⟨i,hi,rfl⟩:=List.getElem_of_mem hv
  rw [aaX,← hl] at hi
  obtain ⟨n,_,hn⟩:=key i nc[i] (List.getElem?_eq_getElem hi)
  rw [Array.getElem_toList]
  have:=(Array.getElem?_eq_some_iff.1 hn).2
  rw [this]
  rfl
end
def MM.De (M:MM) (b n:Nat) (vs:Array Value):MM:=M.cn b fun o=>if o<n then vs[o]? else none
theorem MM.KR {M:MM} {b n:Nat} {vs:Array Value} (h:∀o,M.cell b o=none):M.Le (M.De b n vs):=by
 refine ⟨fun c o v hc=> ?_,fun _ _ x=>x,fun _ _ _ x=>x,fun _ x=>x⟩
 have:c≠b:=fun e=>by rw [e,h o] at hc;cases hc
 simp only [MM.De,MM.cn,this,if_false]
 exact hc
theorem ca.freeze {w0:eJ} {w:World} {M:MM} {own:Nat→Option Nat} {σ:Nat→Ob} (h:ca w0 M own σ w) {id b n:Nat} {cs:List D} {vs:Array Value} {ty:TypeId} (k:tV w0 M own id cs w b vs ty):
  ca w0 (M.De b n vs) own (gK σ id .dead) w:=by
 have le:M.Le (M.De b n vs):=MM.KR k.none
 have Ut:∀ {i c:Nat},own c=some i→i≠id→c≠b:=fun hi e ec=>by rw [ec,k.own] at hi;exact e (aad hi).symm
 have UL:∀ {c o:Nat},c≠b→M.cell c o=none→(M.De b n vs).cell c o=none:=fun hc hn=>by simp only [MM.De,MM.cn,hc,if_false];exact hn
 refine ⟨h.below,?_,?_,h.owned,?_,?_,?_,?_,h.fM⟩
 ·intro c o v hc
  by_cases e:c=b
  ·subst e
   simp only [MM.De,MM.cn,if_true] at hc
   split at hc
   ·simp [World.cell?,k.dI,hc]
   ·cases hc
  ·simp only [MM.De,MM.cn,e,if_false] at hc
   exact h.cells c o v hc
 ·intro c o v hc T1
  have e:c≠b:=fun e=>k.base (e▸T1)
  simp only [MM.De,MM.cn,e,if_false] at hc
  exact h.mj c o v hc T1
 ·intro i Wf hi
  by_cases e:i=id
  ·rw [e,bw] at hi;cases hi
  ·rw [br e] at hi
   obtain ⟨c,vs2,ty2,k2⟩:=h.box i Wf hi
   exact ⟨c,vs2,ty2,k2.box,k2.base,k2.own,fun o=>UL (Ut k2.own e) (k2.none o),k2.dI,k2.len,fun j d v a b=>(k2.rep j d v a b).mono le,k2.room⟩
 ·intro i ver sz hi
  by_cases e:i=id
  ·rw [e,bw] at hi;cases hi
  ·rw [br e] at hi
   obtain ⟨a,len,cap,k2⟩:=h.dD i ver sz hi
   refine ⟨a,len,cap,k2.bX,k2.last,?_⟩
   rcases k2.room with r|⟨c,vs2,ty2,fz,ha,r⟩
   ·exact .inl r
   ·exact .inr ⟨c,vs2,ty2,fz,ha,r.base,r.own,r.dI,r.fz,r.cap,fun o ho=>UL (Ut r.own e) (r.none o ho)⟩
 ·intro i F hi
  by_cases e:i=id
  ·rw [e,bw] at hi;cases hi
  ·rw [br e] at hi
   obtain ⟨c,T3,clock,q⟩:=h.mp i F hi
   exact ⟨c,T3,clock,q.box,q.base,q.own,fun o=>UL (Ut q.own e) (q.none o),q.dI,q.fits⟩
 ·intro i k2 t ps ag bd hi
  by_cases e:i=id
  ·rw [e,bw] at hi;cases hi
  ·rw [br e] at hi
   obtain ⟨l,r,q⟩:=h.lp i k2 t ps ag bd hi
   exact ⟨l,r,q.aU le q.own q.dI⟩
def rows (sz:Nat):Nat→List D→List D
  |0,_=> []
  |n+1,cs=> .agg (cs.take sz)::rows sz n (cs.drop sz)
theorem JU {w0:eJ} {w:World} {M:MM} {own:Nat→Option Nat} {id b n cap:Nat} {cs:List D} {vs:Array Value} {ty:TypeId} (k:tV w0 M own id cs w b vs ty) (hl:cs.length=n) (TZ:n≤cap) (hb:cs.all isByte=true):
  b7 (M.De b cs.length vs) (.aY .no 1 cs) (.slice (some ⟨b,0,none⟩) n cap):=by
 have key:∀ {i:Nat} {x:D},cs[i]? =some x→i<cs.length∧∃m,x= .int .u8 m∧vs[i]? =some (.int .u8 m):=by
  intro i x h
  obtain ⟨T1,_⟩:=List.getElem?_eq_some_iff.1 h
  rw [aaO] at hb
  obtain ⟨m,rfl⟩:=sS (hb x (aaD h))
  obtain ⟨v,hv,hr⟩:=m8 k.len k.rep h
  cases hr
  exact ⟨T1,m,rfl,hv⟩
 refine .aY b 0 (fun i j=>vs.getD (i*1+j) .nilFunc) hl TZ (fun _=>rfl) ?_ ?_ ?_ ?_ trivial
 ·intro i x h1
  obtain ⟨T1,m,rfl,hv⟩:=key h1
  exact ⟨_,rfl,rfl⟩
 ·intro i x c' j c h1 h2 h3
  obtain ⟨T1,m,rfl,hv⟩:=key h1
  simp only [D.cells,aak] at h2
  subst h2
  cases j with
  |zero=>simp only [MM.De,MM.cn,if_true,aaY,abg,Nat.add_zero,if_pos T1,aaJ,hv,aa9]
  |succ j=>simp at h3
 ·intro i x c' j c h1 h2 h3
  obtain ⟨T1,m,rfl,hv⟩:=key h1
  simp only [D.cells,aak] at h2
  subst h2
  cases j with
  |zero=>
   simp only [abb,aak] at h3
   subst h3
   simp only [abg,Nat.add_zero,aaJ,hv,aa9]
   exact .int _ _
  |succ j=>simp at h3
 ·intro i x c' c h1 h2 h3
  obtain ⟨T1,m,rfl,hv⟩:=key h1
  simp only [D.cells,aak] at h2
  subst h2
  rw [List.mem_singleton] at h3
  subst h3
  rfl
theorem ak.De {P:Program} {f:FuncId} {args:List D} {s s':List Ob} {id n:Nat} {cs:List D} (h:ak P f args s (.dm id 1 n) s') (hs:s'.getD id .dead= .box cs) (hl:cs.length=n) (hb:cs.all isByte=true):
  ak P f args s (.aY .no 1 cs) (s'.set id .dead):=by
 have T1:id<s'.length:=by
  rcases aaA id s'.length with q|q
  ·exact q
  ·rw [aaf,aam q] at hs;cases hs
 refine ⟨h.Ij,by rw [aa1];exact h.len,fun w0 M own w vs hw VS hr=>Calls.mono (h.run w0 M own w vs hw VS hr) ?_⟩
 rintro e w' ⟨v,M',TW,rfl,q1,q2,q3,q4⟩
 cases q4 with
 |dm VN UN TZ=>
  rename_i b cap
  obtain ⟨b2,vb,ty,kb⟩:=q1.box id cs hs
  have eb:b2=b:=by have:=kb.box;rw [VN] at this;exact (aad this).symm
  subst eb
  refine ⟨_,M'.De b2 cs.length vb,TW,rfl,?_,?_,q3.trans (MM.KR kb.none),JU kb hl TZ hb⟩
  ·rw [uH T1];exact q1.freeze (n:=cs.length) kb
  ·rw [aa1];exact q2
section
variable {ρ':Type} {P:Program} {r:ρ'} {o:Oper} {ρ:Operand→D}
theorem foldl_push (l:List D) (h:l.all isByte=true):∃ns:List Int,l=ns.map (fun n=>D.int .u8 n)∧gC l=ns.foldl (fun r n=>r.push (UInt8.ofNat n.toNat)) ByteArray.empty:=by
 have key:∀(l:List D) (s:ByteArray),l.all isByte=true→∃ns:List Int,l=ns.map (fun n=>D.int .u8 n)∧(⟨s.data++(l.map byteOf).toArray⟩:ByteArray)=ns.foldl (fun r n=>r.push (UInt8.ofNat n.toNat)) s:=by
  intro l
  induction l with
  |nil=>intro s _;exact ⟨[],rfl,by simp⟩
  |cons d t ih=>
   intro s h
   rw [List.all_cons,aae] at h
   obtain ⟨n,rfl⟩:∃n,d= .int .u8 n:=by
    have h1:=h.1
    unfold isByte at h1
    split at h1
    ·exact ⟨_,rfl⟩
    ·cases h1
   obtain ⟨ns,e1,e2⟩:=ih (s.push (UInt8.ofNat n.toNat)) h.2
   refine ⟨n::ns,by simp [e1],?_⟩
   rw [List.foldl_cons,← e2]
   congr 1
   apply Array.ext'
   simp [byteOf,ByteArray.push]
 obtain ⟨ns,e1,e2⟩:=key l ByteArray.empty h
 refine ⟨ns,e1,?_⟩
 rw [← e2]
 unfold gC
 congr 1
 apply Array.ext'
 simp [ByteArray.empty,ByteArray.emptyWithCapacity]
 rfl
theorem Ix {z:Z P} {src dst:TypeId} {x:Operand} {K:Z P→jB→Option ρ'} (ho:o.op= .convert src dst x) (h:Lw P z src dst (ρ x) K=some r):
  ∃e z',K z' e=some r∧(z'.c→z.c∧gw P o ρ e)∧((∃d,e= .pure d)∨∃q m,e= .new q m):=by
 unfold Lw at h
 split at h
 ·rename_i hs hd hx
  refine ⟨_,z,h,fun c=>⟨c,cA fun M w a _ hr=> ?_⟩,.inl ⟨_,rfl⟩⟩
  have h1:=dX (hr x (by simp [ho,aas])) hx
  rename_i d k _ n _
  exact ⟨.int _ _,by simp [execOp,ho,h1,convert,run_underlying hs,run_underlying hd,Conv.intToInt],.int _ _⟩
 ·rename_i hs hd hx
  refine ⟨_,z,h,fun c=>⟨c,cA fun M w a _ hr=> ?_⟩,.inl ⟨_,rfl⟩⟩
  have h1:=hr x (by simp [ho,aas])
  rw [hx] at h1
  generalize hv:a.eval x=v at h1
  cases h1
  exact ⟨.string _,by simp [execOp,ho,hv,convert,run_underlying hs,run_underlying hd],.str _⟩
 ·rename_i e s hs hd hx
  split at h
  ·rename_i he
   obtain ⟨Wl,h⟩:=bW h
   rw [abh] at Wl
   refine ⟨_,z,h,fun c=>⟨c,?_⟩,.inr ⟨_,_,rfl⟩⟩
   intro w0 M own σ w a id hw hr Ub next Q hn
   have h1:=hr x (by simp [ho,aas])
   rw [hx] at h1
   generalize hv:a.eval x=v at h1
   cases h1
   let cap:=grownCap w s.size 0 e
   have TZ:s.size≤cap:=grownCap_ge w _ _ _
   let arr:Array Value:=(s.data.map fun b=>Value.int .u8 b.toNat)++Array.replicate (cap - s.size) (.int .u8 0)
   have ZF:s.data.size=s.size:=rfl
   have UW:arr.size=cap:=by simp [arr,ZF];omega
   have Vi:iQ M 1 (kP s) arr:=by
    have hb:∀ {i:Nat} {x:D},(kP s)[i]? =some x→∃c,s.data[i]? =some c∧x=Br c:=by
     intro i x hi
     unfold kP at hi
     rw [aau,aat] at hi
     obtain ⟨c,hc,rfl⟩:=hi
     exact ⟨c,by simpa using hc,rfl⟩
    refine ⟨?_,?_,?_,?_⟩
    ·rw [UW,abg];simp [kP,ZF];exact TZ
    ·intro i x hi
     obtain ⟨c,_,rfl⟩:=hb hi
     exact ⟨[Br c],rfl,rfl⟩
    ·intro i x cs j c hi T6 hj
     obtain ⟨b,hb1,rfl⟩:=hb hi
     simp only [Br,D.cells,aak] at T6
     subst T6
     cases j with
     |succ j=>simp at hj
     |zero=>
      simp at hj
      subst hj
      refine ⟨.int .u8 b.toNat,?_,.int _ _⟩
      have T1:i<s.data.size:=by
       rcases aaA i s.data.size with q|q
       ·exact q
       ·simp [aaW q] at hb1
      simp only [arr,abg,Nat.add_zero]
      rw [Array.getElem?_append_left (by simpa using T1)]
      simp [hb1]
    ·intro i x cs c hi T6 Uu
     obtain ⟨b,_,rfl⟩:=hb hi
     simp only [Br,D.cells,aak] at T6
     subst T6
     simp at Uu
     subst Uu
     rfl
   have hlen:(kP s).length=s.size:=by simp [kP,ZF]
   have Wn:=rA (M:=M) (w:=w) (wd:=w.drew) (arr:=arr) (ty:=e) (n:=s.size) hw.cells rfl (Below.refl _ _).drew (arr.size,arr.size+1)
   obtain ⟨Vh,VG⟩:=hw.ext Wn rfl rfl rfl
   have Wx:(w.drew.alloc (.cells arr e (arr.size,arr.size+1))).heap[w.heap.size]? =some (.cells arr e (arr.size,arr.size+1)):=by
    show (w.heap.push _)[w.heap.size]? =_
    simp
   have U9:own w.heap.size=none:=by
    cases e:own w.heap.size with
    |none=>rfl
    |some q=>have:=hw.owned _ _ e;omega
   obtain ⟨TW,hw3⟩:=Vh.si (id:=id) (ver:=0) (fun v _=>Ub.2 v) (a:=some ⟨w.heap.size,0,none⟩) (len:=s.size) (cap:=cap) 1
    (.inr ⟨w.heap.size,arr,e,(arr.size,arr.size+1),rfl,hw.below.new,.inl U9,Wx,fun o ho h=>by have:=h.1;simp at this;omega,⟨by rw [UW];omega,abu (grownCap_le_maxLen w _ _ _ (by unfold maxLen;omega)) (by unfold maxLen;omega)⟩,fun o ho=>by
     simp only [MM.lay,MM.cn,if_true];rw [if_neg (by omega)]⟩)
   have VZ:=MM.eY (M:=M.lay w.heap.size arr s.size) (id:=id) (ver:=0) (v:= .slice (some ⟨w.heap.size,0,none⟩) s.size cap) (Ub.2 0)
   refine gn (v:= .slice (some ⟨w.heap.size,0,none⟩) s.size cap) (w':=w.drew.alloc (.cells arr e (arr.size,arr.size+1))) ?_ (hn _ _ TW _ (VG.trans VZ) ⟨fun _ _=>rfl,fun j hj=>by funext k;simp [MM.bM,hj,MM.lay,MM.cn]⟩ hw3 ?_)
   ·have Xs:(w.drew.alloc (.cells arr e)).freeze ⟨w.heap.size,arr.size,none⟩ 1=w.drew.alloc (.cells arr e (arr.size,arr.size+1)):=by
     unfold World.freeze World.alloc
     simp only [Nat.one_ne_zero,if_false]
     congr 1
     apply Array.ext_getElem?
     intro k
     rw [Array.getElem?_modify]
     by_cases e1:w.heap.size=k
     ·subst e1
      rw [if_pos rfl]
      show Option.map _ ((w.heap.push _)[w.heap.size]?)=(w.heap.push _)[w.heap.size]?
      simp
     ·rw [if_neg e1]
      show (w.heap.push _)[k]? =(w.heap.push _)[k]?
      rw [Array.getElem?_push,Array.getElem?_push,if_neg (Ne.symm e1),if_neg (Ne.symm e1)]
    have Xq:(w.drew.alloc (.cells arr e)).shape? w.heap.size=some (e,arr.size):=by
     unfold World.shape?
     have:(w.drew.alloc (.cells arr e)).heap[w.heap.size]? =some (.cells arr e):=by
      show (w.heap.push _)[w.heap.size]? =_
      simp
     rw [this]
    have W6:(Question.appendCap s.size 0 e).forced=false:=rfl
    have hch:(choose (.appendCap s.size 0 e)).run P w= .ok cap w.drew:=by
     rw [run_choose,W6];rfl
    have Yw:(newRow e arr).run P w.drew= .ok ⟨w.heap.size,0,none⟩ (w.drew.alloc (.cells arr e)):=by first|(simp [newRow];done)|(simp [newRow];rfl)
    simp only [execOp,ho,hv,convert,aay,run_underlying hs,run_underlying hd,run_underlying he,aaq,Conv.stringToBytes,hch]
    rw [show (newRow e ((s.data.map fun b=>Value.int .u8 b.toNat)++Array.replicate (cap - s.size) (.int .u8 0)))=newRow e arr from rfl,Yw]
    simp only [aaq,markStringish,aay,run_shape,Xq,run_freeze,Xs,aaH]
   ·have h5:=qV (M:=M) (b:=w.heap.size) (o:= .no) (cap:=cap) (n:=s.size) Vi (dZ hw.cells (aar _)) (by rw [hlen];exact TZ) (by rw [hlen];omega) trivial
    rw [hlen] at h5
    exact (h5.mono VZ).flag _ (by simp [MM.pR,MM.bM])
  ·cases h
 ·rename_i e ow sz xs hs hd hx
  split at h
  ·rename_i he
   obtain ⟨z',h1,h2⟩:=eP h
   refine ⟨_,z',h1,fun c=>⟨(h2 c).1,cA fun M w a hw hr=> ?_⟩,.inl ⟨_,rfl⟩⟩
   have UM:=hr x (by simp [ho,aas])
   rw [hx] at UM
   generalize hv:a.eval x=v at UM
   obtain ⟨ns,e1,e2⟩:=foldl_push xs (h2 c).2
   cases UM with
   |aY b off vs hl TZ ha T8 hc hrr T5 WX=>
    rename_i ad len cap
    have T0:b7 M (.aY ow sz xs) (.slice ad len cap):= .aY b off vs hl TZ ha T8 hc hrr T5 WX
    have Zk:sz=1∨xs= []:=by
     cases xs with
     |nil=>exact .inr rfl
     |cons d t=>
      left
      obtain ⟨cs,q1,q2⟩:=T8 0 d rfl
      cases ns with
      |nil=>simp at e1
      |cons n ns=>simp at e1;rw [e1.1] at q1;simp [D.cells] at q1;subst q1;simpa using q2.symm
    obtain ⟨arr,os,orow,orun,_⟩:=m7 (P:=P) T0 Zk hw
    have UW:arr=(ns.map (Value.int .u8)).toArray:=by
     apply Array.ext_getElem?
     intro k
     have hlen:xs.length=ns.length:=by rw [e1];simp
     rcases aaA k ns.length with q|q
     ·have hxk:xs[k]? =some (.int .u8 ns[k]):=by rw [e1];simp [q]
      obtain ⟨u,hu,hru⟩:=orow.get k _ [.int .u8 ns[k]] 0 _ hxk rfl rfl
      cases hru
      rw [abg,Nat.add_zero] at hu
      rw [hu]
      simp [q]
     ·rw [aaW (by omega),aaW (by simpa using q)]
    have Zp:(Conv.bytesToString (.slice ad len cap)).run P w= .ok (.string (gC xs)) w:=by
     rw [e2]
     cases ad with
     |none=>
      have:xs= []:=by
       cases xs with
       |nil=>rfl
       |cons d t=>have:=ha (by simp);cases this
      subst this
      have:ns= []:=by simpa using e1.symm
      subst this
      simp [Conv.bytesToString]
     |some ad=>
      have:=orun w (fun _=>rfl)
      simp only [aa5,abg] at this
      rw [UW] at this
      exact run_bytesToString w ad len cap ns this
    refine ⟨.string (gC xs),?_,.str _⟩
    simp only [execOp,ho,hv,aay,run_convert_bytes_string w src dst e ad len cap hs he hd,Zp,aaq,aaH]
  ·cases h
 ·cases h
theorem uE {z:Z P} {st xt Uk e2:TypeId} {ts:Array TypeId} {id off sz n YM:Nat} {s:List Ob} {K:Z P→jB→Option ρ'} {args:Act→Array Value} {ux uy:Act→Value}
  (Uq:∀(a:Act) (w w':World) (v:Value),(aa6 ts o.type (args a)).run P w= .ok v w'→(execOp a.eval o).run P w= .ok (.value v) w') (ht:P.underlying st=some (.slice Uk)) (hx:P.underlying xt=some (.slice e2)) (h0:ts[0]? =some st) (h1:ts[1]? =some xt)
  (g0:∀a,(args a)[0]? =some (ux a)) (g1:∀a,(args a)[1]? =some (uy a)) (YH:∀(M:MM) (a:Act),(∀q∈o.op.operands,b7 M (ρ q) (a.eval q))→b7 M (.aY .tight YM []) (ux a))
  (Yi:∀(M:MM) (a:Act),(∀q∈o.op.operands,b7 M (ρ q) (a.eval q))→∃b o2 c,uy a= .slice (some ⟨b,o2,none⟩) n c∧M.box id=some b∧(n≠0→o2=off))
  (h:EC P z Uk id off sz n s K=some r):∃e z',K z' e=some r∧(z'.c→z.c∧jH P o ρ s e):=by
 unfold EC at h
 split at h
 ·rename_i cs T6
  obtain ⟨hchk,h⟩:=bW h
  simp only [aae,abh,aaG] at hchk
  obtain ⟨⟨hzero,T8⟩,hb⟩:=hchk
  obtain ⟨z1,h,hz1⟩:=oc h
  subst T8
  split at h
  ·rename_i q r0 hzo0
   split at h
   ·rename_i XU
    rw [aaG] at XU
    split at h
    ·rename_i l i k nc hg rest
     obtain ⟨z2,h,Wc⟩:=eP h
     refine ⟨_,z2,h,fun hc=> ?_⟩
     obtain ⟨⟨e1,e2',e3⟩,Wj⟩:=(Wc hc).1
     have Ys:=(Wc hc).2
     subst e1 e2' e3
     refine ⟨(hz1 Wj).1,by simp,?_⟩
     intro w0 M own w a hw VS hr next Q hn
     obtain ⟨b,o2,c,huv,VN,VF⟩:=Yi M a hr
     obtain ⟨new,ns,UJ,c1,c2⟩:=FQ (P:=P) (c:=c) hw VN T6 VF hg.1 hg.2
     have Y4:nc.length=n:=by rw [c1,XU,abg]
     obtain ⟨UT,Vf⟩:=vC (by rw [c1,ns]) Ys c2
     have ZY:=g1 a
     rw [huv] at ZY
     have UM:=YH M a hr
     obtain ⟨v,M',TW,w',q1,q2,q3,q4,q5,q6⟩:=tK (rty:=o.type) (ys:=nc) hw ht hx h0 h1 hzero hb (g0 a) ZY UM Y4 (by rw [ns,Y4]) (by rw [XU];exact UT) UJ Vf (.inr rfl) (by rw [aaC,aaY,Y4];exact (hz1 Wj).2) (id:=s.length) (ver:=0) (fun v _=>VS.2 _ v (aar _))
      (fun ad len cap e=>by
       rw [e] at UM
       cases UM with
       |aY b off vs hl TZ ha T8 hc hr T5 ho=>exact .inl ho)
     rw [List.nil_append] at q4
     refine gn (Uq a w w' v q1) (hn v M' TW w' q2 ⟨fun i hi=> ?_,fun i q hi=> ?_⟩ ?_ q4)
     ·simp only [aap,aaw,aaC] at hi
      rw [q5];exact VS.1 i (by omega)
     ·simp only [aap,aaw,aaC] at hi
      rw [q6 i (by omega)];exact VS.2 i q (by omega)
     ·rw [BP];exact q3
    ·cases h
   ·cases h
  cases h
 ·cases h
theorem JK {z:Z P} {s:List Ob} {x:D} {size:Nat} {K:Z P→List D→Nat→Option ρ'} (h:Om z s x size K=some r):
  ∃z' nc m,K z' nc m=some r∧(z'.c→z.c∧∀(w0:eJ) (M:MM) (own:Nat→Option Nat) (w:World) (u:Value),ca w0 M own (bJ s) w→b7 M x u→
   ∃(a:Option Addr) (c:Nat) (new:Array Value),u= .slice a m c∧new.size=m*size∧(∀wd:World,(∀a,wd.cell? a=w.cell? a)→(aa5 size m u).run P wd= .ok new wd)∧nc.length=m*size∧∀(i:Nat) (d:D) (v:Value),nc[i]? =some d→new[i]? =some v→b7 M d v):=by
 have bx:∀ {id off n:Nat} {q:Bool},(∀(M:MM) (u:Value),b7 M x u→∃b o2 c,u= .slice (some ⟨b,o2,none⟩) n c∧M.box id=some b∧(n≠0→o2=off))→jm q (rF z s id off n size K)=some r→
   ∃z' nc m,K z' nc m=some r∧(z'.c→z.c∧∀(w0:eJ) (M:MM) (own:Nat→Option Nat) (w:World) (u:Value),ca w0 M own (bJ s) w→b7 M x u→
   ∃(a:Option Addr) (c:Nat) (new:Array Value),u= .slice a m c∧new.size=m*size∧(∀wd:World,(∀a,wd.cell? a=w.cell? a)→(aa5 size m u).run P wd= .ok new wd)∧nc.length=m*size∧∀(i:Nat) (d:D) (v:Value),nc[i]? =some d→new[i]? =some v→b7 M d v):=by
  intro id off n q hu h
  obtain ⟨_,h⟩:=bW h
  unfold rF at h
  split at h
  ·rename_i cs T6
   split at h
   ·rename_i l i k nc hg rest YZ
    refine ⟨_,_,_,h,fun hc=>⟨hc.2,fun w0 M own w u hw hr=> ?_⟩⟩
    obtain ⟨⟨e1,e2,e3⟩,_⟩:=hc
    subst e1 e2 e3
    obtain ⟨b,o2,c,rfl,VN,VF⟩:=hu M u hr
    obtain ⟨new,ns,UJ,c1,c2⟩:=FQ (P:=P) (c:=c) hw VN T6 VF hg.1 hg.2
    exact ⟨_,_,new,rfl,ns,UJ,c1,c2⟩
   ·cases h
  ·cases h
 unfold Om at h
 split at h
 ·obtain ⟨hk,h⟩:=bW h
  obtain ⟨z',nc,h,hz⟩:=HV h
  refine ⟨z',nc,_,h,fun hc=>⟨(hz hc).1,fun w0 M own w u hw hr=> ?_⟩⟩
  cases hr with
  |aY b off vs hl TZ ha T8 hc0 hr0 T5 ho=>
   rename_i a len cap
   have T0:=b7.aY b off vs hl TZ ha T8 hc0 hr0 T5 ho
   obtain ⟨new,ns,UT,UJ,_⟩:=m7 (P:=P) T0 (lg hk) hw.cells
   obtain ⟨c1,c2⟩:=uK UT (hz hc).2
   subst hl
   exact ⟨_,_,new,rfl,ns,UJ,c1,c2⟩
 ·exact bx (fun M u hr=>by cases hr with|dm hb UN hc=>exact ⟨_,0,_,rfl,hb,fun _=>rfl⟩) h
 ·exact bx (fun M u hr=>by cases hr with|sub hb hc hp VF=>exact ⟨_,_,_,rfl,hb,VF⟩) h
 ·cases h
theorem tD {z:Z P} {c:Call} {x y:Operand} {rest:List Operand} {s:List Ob} {K:Z P→jB→Option ρ'} {ty e:TypeId} {id off n:Nat} (ho:o.op= .call c) (hc:c.callee= .builtin .copy) (T4:c.args.toList=x::y::rest) (t0:c.argTypes[0]? =some ty) (ht:P.underlying ty=some (.slice e)) (hk:known P e=true) (hs:P.cellsOf e=1)
  (hu:∀(M:MM) (u:Value),b7 M (ρ x) u→∃b o2 c,u= .slice (some ⟨b,o2,none⟩) n c∧M.box id=some b∧(n≠0→o2=off)) (h:yt z s id off n (ρ y) K=some r):∃e z',K z' e=some r∧(z'.c→z.c∧jH P o ρ s e):=by
 have hx:x∈o.op.operands:=by
  have:x∈c.args.toList:=by rw [T4];simp
  simp only [ho,aas,abp,hc];simpa using this
 have hy:y∈o.op.operands:=by
  have:y∈c.args.toList:=by rw [T4];simp
  simp only [ho,aas,abp,hc];simpa using this
 unfold yt at h
 obtain ⟨z1,nc,m,h,hz1⟩:=JK h
 obtain ⟨z2,h,Wc⟩:=eP h
 obtain ⟨z3,h,hz3⟩:=eP h
 split at h
 ·rename_i cs T6
  split at h
  ·rename_i l i xs l' hg ZK YZ
   refine ⟨_,_,h,fun Uu=> ?_⟩
   obtain ⟨⟨e1,e2,e3⟩,hc3⟩:=Uu
   subst e1 e2 e3
   have W4:=(hz3 hc3).1
   have Ys:=(hz3 hc3).2
   have Wj:=(Wc W4).1
   have ZT:=(Wc W4).2
   rw [abh] at ZT
   have T1:id<s.length:=hZ (by rw [T6];intro e;cases e)
   refine ⟨(hz1 Wj).1,by simp,?_⟩
   intro w0 M own w a hw VS hr next Q hn
   obtain ⟨b,o2,cc,YH,VN,VF⟩:=hu M _ (hr x hx)
   obtain ⟨sa,sc,new,Yi,ns,UJ,c1,c2⟩:=(hz1 Wj).2 w0 M own w _ hw (hr y hy)
   rw [abg] at ns c1
   obtain ⟨UT,Vf⟩:=vC (by rw [c1,ns]) Ys c2
   obtain ⟨b2,vs,bt,kb⟩:=hw.box id l T6
   have eb:b2=b:=by have:=kb.box;rw [VN] at this;exact (aad this).symm
   subst eb
   have XK:new.toList.length=m:=by rw [aaX,ns]
   have hle:=kb.len
   have Wg:i+m≤l.length:=by rw [← c1];exact hg.2
   have T5:(storeCells ⟨b2,o2,none⟩ new.toList).run P w= .ok () (cM w b2 (.cells (eh vs i new.toList) bt (0,0))):=by
    by_cases hm:m=0
    ·have Uo:new= #[]:=Array.eq_empty_of_size_eq_zero (by rw [ns,hm])
     subst Uo
     have:=iI (P:=P) (b:=b2) (off:=i) (fz:=(0,0)) ([]:List Value) 0 w vs kb.dI (by simp) (by simp;omega) (fun o _ h=>by have:=h.2;simp at this)
     simp only [storeCells,aaH,Nat.add_zero] at this ⊢
     exact this
    ·obtain rfl:=VF (by omega)
     have:=iI (P:=P) (b:=b2) (off:=o2) (fz:=(0,0)) new.toList 0 w vs kb.dI Vf (by rw [XK];omega) (fun o _ h=>by have:=h.2;simp at this)
     rw [Nat.add_zero] at this
     exact this
   have hrl:cy M xs ⟨new.toList⟩:=⟨by simp [c1,ns],fun i d v hd hv=>c2 i d v hd (by simpa using hv)⟩
   have T0:=oO (M:=M) kb.len kb.rep hrl hg.2
   have YW:jh l i xs=l':=by unfold jh;exact hg.1
   rw [YW] at T0
   have WG:=hw.Jy kb T0.1 (eN _ _ _) T0.2
   refine gn (v:= .int .i64 m) (w':=cM w b2 (.cells (eh vs i new.toList) bt (0,0))) ?_ (hn _ M own _ (.refl M) ⟨fun j hj=> ?_,fun j q hj=> ?_⟩ ?_ (.int _ _))
   ·rw [fB ho hc]
    have e0:c.args[0]? =some x:=by rw [← aaB,T4];rfl
    have e1:c.args[1]? =some y:=by rw [← aaB,T4];rfl
    have Yj:=UJ w (fun _=>rfl)
    rw [Yi] at Yj
    simp [builtin,Builtin.copy_,t0,e0,e1,run_underlying ht,YH,Yi,Builtin.lenOf,Nat.min_eq_left ZT,dc hk,hs,Yj,T5,goInt]
   ·rw [aa1] at hj;exact VS.1 j hj
   ·rw [aa1] at hj;exact VS.2 j q hj
   ·rw [uH T1];exact WG
  ·cases h
 ·cases h
theorem Iw {z:Z P} {c:Call} {x y:Operand} {rest:List Operand} {s:List Ob} {K:Z P→jB→Option ρ'} (ho:o.op= .call c) (hc:c.callee= .builtin .copy) (T4:c.args.toList=x::y::rest) (h:Lv P z c.argTypes (ρ x) (ρ y) s K=some r):∃e z',K z' e=some r∧(z'.c→z.c∧jH P o ρ s e):=by
 unfold Lv at h
 split at h
 ·rename_i ty ts XR
  have t0:c.argTypes[0]? =some ty:=by rw [← aaB,XR];rfl
  split at h
  ·rename_i e ht
   obtain ⟨hk,h⟩:=bW h
   rw [aae,aaG] at hk
   split at h
   ·rename_i id sz n hρ
    obtain ⟨_,h⟩:=bW h
    exact tD ho hc T4 t0 ht hk.1 hk.2 (fun M u hr=>by rw [hρ] at hr;cases hr with|dm hb UN hc=>exact ⟨_,0,_,rfl,hb,fun _=>rfl⟩) h
   ·rename_i id off sz n cp hρ
    obtain ⟨_,h⟩:=bW h
    exact tD ho hc T4 t0 ht hk.1 hk.2 (fun M u hr=>by rw [hρ] at hr;cases hr with|sub hb hc hp VF=>exact ⟨_,_,_,rfl,hb,VF⟩) h
   ·cases h
  ·cases h
 ·cases h
theorem HA {z:Z P} {st xt Uk e2:TypeId} {ts:Array TypeId} {id off sz n c Xh VB UX n2:Nat} {cp2:Option Nat} {s:List Ob} {K:Z P→jB→Option ρ'} {args:Act→Array Value} {ux uy:Act→Value}
  (Uq:∀(a:Act) (w w':World) (v:Value),(aa6 ts o.type (args a)).run P w= .ok v w'→(execOp a.eval o).run P w= .ok (.value v) w') (ht:P.underlying st=some (.slice Uk)) (hx:P.underlying xt=some (.slice e2)) (h0:ts[0]? =some st) (h1:ts[1]? =some xt)
  (g0:∀a,(args a)[0]? =some (ux a)) (g1:∀a,(args a)[1]? =some (uy a)) (YH:∀(M:MM) (a:Act),(∀q∈o.op.operands,b7 M (ρ q) (a.eval q))→b7 M (.sub id off sz n (some c)) (ux a))
  (Yi:∀(M:MM) (a:Act),(∀q∈o.op.operands,b7 M (ρ q) (a.eval q))→b7 M (.sub Xh VB UX n2 cp2) (uy a))
  (h:KS P z Uk id off sz n c Xh VB UX n2 s K=some r):∃e z',K z' e=some r∧(z'.c→z.c∧jH P o ρ s e):=by
 simp [KS] at h
theorem BA {z:Z P} {c:Call} {x y:Operand} {rest:List Operand} {s:List Ob} {K:Z P→jB→Option ρ'} (ho:o.op= .call c) (hc:c.callee= .builtin .append) (T4:c.args.toList=x::y::rest) (h:yI P z c.argTypes (ρ x) (ρ y) s K=some r):
  ∃e z',K z' e=some r∧(z'.c→z.c∧jH P o ρ s e):=by
 have hx:x∈o.op.operands:=by
  have:x∈c.args.toList:=by rw [T4];simp
  simp only [ho,aas,abp,hc];simpa using this
 have hy:y∈o.op.operands:=by
  have:y∈c.args.toList:=by rw [T4];simp
  simp only [ho,aas,abp,hc];simpa using this
 have ga:∀a:Act,(c.args.map a.eval)[0]? =some (a.eval x)∧(c.args.map a.eval)[1]? =some (a.eval y):=by
  intro a
  have e0:c.args[0]? =some x:=by rw [← aaB,T4];rfl
  have e1:c.args[1]? =some y:=by rw [← aaB,T4];rfl
  simp [e0,e1]
 unfold yI at h
 split at h
 ·rename_i st xt ts XR
  have t0:c.argTypes[0]? =some st:=by rw [← aaB,XR];rfl
  have t1:c.argTypes[1]? =some xt:=by rw [← aaB,XR];rfl
  split at h
  ·rename_i Uk e2 ht Wn
   split at h
   ·rename_i ow sz xs Xr Ug ys WE WB
    have Uq:∀(a:Act) (w w':World) (v:Value),(aa6 c.argTypes o.type (c.args.map a.eval)).run P w= .ok v w'→(execOp a.eval o).run P w= .ok (.value v) w':=by
     intro a w w' v hv
     rw [fB ho hc]
     simp only [builtin,aay,hv,aaq,aaH]
    split at h
    ·rename_i r0 YZ
     split at h
     ·obtain ⟨hchk,h⟩:=bW h
      simp only [aae,abh] at hchk
      obtain ⟨⟨hzero,XE⟩,hb⟩:=hchk
      obtain ⟨z1,h,hz1⟩:=oc h
      obtain ⟨z2,nc,h,Wc⟩:=HU h
      refine ⟨_,z2,h,fun W4=>⟨(hz1 (Wc W4).1).1,?_⟩⟩
      have Wj:=(Wc W4).1
      have Vk:=(Wc W4).2.1
      have Ut:=(Wc W4).2.2
      intro w0 M own σ w a id hw hr Ub next Q hn
      have UM:=hr x hx
      have VW:=hr y hy
      rw [WE] at UM
      rw [WB] at VW
      obtain ⟨v,M',TW,w',q1,q2,q3,q4,q5,q6⟩:=F7 (rty:=o.type) hw ht Wn t0 t1 hzero hb (ga a).1 (ga a).2 UM VW (lg XE) (hz1 Wj).2 Ut Vk (id:=id) Ub.1 Ub.2
      exact gn (Uq a w w' v q1) (hn v M' TW w' q2 ⟨q5,q6⟩ q3 q4)
     ·cases h
    ·rename_i m r0 YZ
     cases h
    have hh:=bW h
    clear h
    obtain ⟨hchk,h⟩:=hh
    simp only [aae,abh] at hchk
    obtain ⟨⟨⟨⟨_,hzero⟩,XU⟩,XE⟩,hb⟩:=hchk
    have hh:=oc h
    clear h
    obtain ⟨z1,h,hz1⟩:=hh
    split at h
    ·
     refine ⟨_,z1,h,fun Wj=>⟨(hz1 Wj).1,?_⟩⟩
     intro w0 M own σ w a id hw hr Ub next Q hn
     have UM:=hr x hx
     have VW:=hr y hy
     rw [WE] at UM
     rw [WB] at VW
     obtain ⟨v,M',TW,w',q1,q2,q3,q4,q5,q6⟩:=qJ (rty:=o.type) hw ht Wn t0 t1 hzero hb (ga a).1 (ga a).2 UM VW (lg XU) (lg XE) (hz1 Wj).2 (id:=id) (ver:=0) (fun v _=>Ub.2 v)
      (fun ad len cap e=>by
       rw [e] at UM
       cases UM with
       |aY b off vs hl TZ ha T8 hc hr T5 ho=>exact .inl ho)
     exact gn (Uq a w w' v q1) (hn v M' TW w' q2 ⟨fun j _=>by rw [q5],q6⟩ q3 q4)
    ·rename_i t v
     split at h
     ·rename_i v' UX T5
      obtain ⟨hk,h⟩:=bW h
      rw [aae,aaG,aaG] at hk
      obtain ⟨rfl,rfl⟩:=hk
      refine ⟨_,z1,h,fun Wj=>⟨(hz1 Wj).1,⟨T5,hZ (by rw [T5];intro e;cases e)⟩,?_⟩⟩
      intro w0 M own σ w a id hw hr Ub next Q hn
      have Xn:σ t= .dD v' (P.cellsOf Uk):=Ub
      have UM:=hr x hx
      have VW:=hr y hy
      rw [WE] at UM
      rw [WB] at VW
      obtain ⟨fa,flen,fcap,hfam⟩:=hw.dD t v' _ Xn
      obtain ⟨u,M',TW,w',q1,q2,q3,q4,q5,q6⟩:=qJ (rty:=o.type) hw ht Wn t0 t1 hzero hb (ga a).1 (ga a).2 UM VW (lg XU) (lg XE) (hz1 Wj).2 (id:=t) (ver:=v'+1) (fun v hv=>hfam.last v (by omega))
       (fun ad len cap e=>by
        rw [e] at UM
        cases UM with
        |aY b off vs hl TZ ha T8 hc hr T5 ho=>
         have YS:M.bX t v'=some (.slice ad len cap):=ho
         rw [hfam.bX] at YS
         simp only [aak,Value.slice.injEq] at YS
         obtain ⟨rfl,rfl,rfl⟩:=YS
         rcases hfam.room with q|⟨b',vs',ty',fz',e1,r⟩
         ·exact .inl q
         ·exact .inr ⟨b',vs',ty',fz',v',_,e1,r,Xn⟩)
      exact gn (Uq a w w' u q1) (hn u M' TW w' q2 ⟨q5,q6⟩ q3 q4)
     ·cases h
    ·cases h
   ·rename_i YG sz n Xr Ug ys WE WB
    cases h
   ·rename_i YG sz n Zr VB UX n2 cp WE WB
    have Uq:∀(a:Act) (w w':World) (v:Value),(aa6 c.argTypes o.type (c.args.map a.eval)).run P w= .ok v w'→(execOp a.eval o).run P w= .ok (.value v) w':=by
     intro a w w' v hv
     rw [fB ho hc]
     simp only [builtin,aay,hv,aaq,aaH]
    simp [N4] at h
   ·rename_i YM YG sz n WE WB
    have Uq:∀(a:Act) (w w':World) (v:Value),(aa6 c.argTypes o.type (c.args.map a.eval)).run P w= .ok v w'→(execOp a.eval o).run P w= .ok (.value v) w':=by
     intro a w w' v hv
     rw [fB ho hc]
     simp only [builtin,aay,hv,aaq,aaH]
    refine uE Uq ht Wn t0 t1 (fun a=>(ga a).1) (fun a=>(ga a).2) (fun M a hr=>by have:=hr x hx;rw [WE] at this;exact this) (fun M a hr=> ?_) h
    have VW:=hr y hy
    rw [WB] at VW
    generalize a.eval y=u at VW
    cases VW with
    |dm hb UN hc=>exact ⟨_,0,_,rfl,hb,fun _=>rfl⟩
   ·rename_i YM YG off sz n cp WE WB
    have Uq:∀(a:Act) (w w':World) (v:Value),(aa6 c.argTypes o.type (c.args.map a.eval)).run P w= .ok v w'→(execOp a.eval o).run P w= .ok (.value v) w':=by
     intro a w w' v hv
     rw [fB ho hc]
     simp only [builtin,aay,hv,aaq,aaH]
    refine uE Uq ht Wn t0 t1 (fun a=>(ga a).1) (fun a=>(ga a).2) (fun M a hr=>by have:=hr x hx;rw [WE] at this;exact this) (fun M a hr=> ?_) h
    have VW:=hr y hy
    rw [WB] at VW
    generalize a.eval y=u at VW
    cases VW with
    |sub hb hc hp VF=>exact ⟨_,_,_,rfl,hb,VF⟩
   ·rename_i YG off sz n cc Zr VB UX n2 cp WE WB
    have Uq:∀(a:Act) (w w':World) (v:Value),(aa6 c.argTypes o.type (c.args.map a.eval)).run P w= .ok v w'→(execOp a.eval o).run P w= .ok (.value v) w':=by
     intro a w w' v hv
     rw [fB ho hc]
     simp only [builtin,aay,hv,aaq,aaH]
    exact HA Uq ht Wn t0 t1 (fun a=>(ga a).1) (fun a=>(ga a).2) (fun M a hr=>by have:=hr x hx;rw [WE] at this;exact this) (fun M a hr=>by have:=hr y hy;rw [WB] at this;exact this) h
   ·cases h
  ·cases h
 ·cases h
end
section
variable {ρ':Type} {P:Program} {r:ρ'} {o:Oper} {t:List D} {s:List Ob}
theorem Kt {ρ:Operand→D} {ty e:TypeId} {l c:Operand} {q q':abz} {n:Int} {zd:D} {zc:List D} (ho:o.op= .makeSlice ty l c) (ht:P.underlying ty=some (.slice e)) (hk:known P e=true) (hz:kq P e=some zd) (WS:zd.cells=some zc)
  (hlen:zc.length=P.cellsOf e) (Ux:0<zc.length) (Ys:P.bytesOf e≤65536) (hl:ρ l= .int q n) (hc:ρ c= .int q' n) (h0:0≤n) (h1:n≤2147483648) (T5:∀c∈zc,storable c=true):
  gw P o ρ (.pure (.aY .tight (P.cellsOf e) (Z7 n.toNat zd))):=by
 obtain ⟨i,v,hi,hv,rfl⟩:=jf hz
 refine AI fun M w a hw hr=> ?_
 have r1:=dX (hr l (by simp [ho,aas])) hl
 have r2:=dX (hr c (by simp [ho,aas])) hc
 have hb:(i.bytes:Int)≤65536:=by
  have:P.bytesOf e=i.bytes:=by simp [Program.bytesOf,hi]
  omega
 have T8:P.cellsOf e=i.size:=by simp [Program.cellsOf,hi]
 have hmul:(i.bytes:Int)*n≤281474976710656:=by
  have:=Int.mul_le_mul hb h1 h0 (by omega:(0:Int)≤65536)
  omega
 have Ud:=run_make (P:=P) w ty e i v ht hi hv q q' n n h0 (Int.le_refl _) hmul (by omega)
 have Vi:iQ M (P.cellsOf e) (Z7 n.toNat (gh v)) (madeCells v.cells (n.toNat*i.size)):=by
  have:=Eu (M:=M) WS (jZ v) T5 n.toNat
  rw [hlen] at this
  rw [← T8]
  exact this
 have hx:=rA (M:=M) (w:=w) (wd:=w) (arr:=madeCells v.cells (n.toNat*i.size)) (ty:=e) (n:=(madeCells v.cells (n.toNat*i.size)).size) hw rfl (Below.refl _ _) (0,0)
 have WV:=qV (b:=w.heap.size) (o:= .tight) (cap:=(Z7 n.toNat (gh v)).length) (n:=(madeCells v.cells (n.toNat*i.size)).size) Vi (dZ hw (aar _)) (aar _) Vi.len rfl
 refine ⟨_,_,_,?_,hx,rfl,rfl,rfl,WV⟩
 simp only [execOp,ho,r1,r2,aay,Ud,aaq,aaH,List.length_replicate]
theorem sL {z:Z P} {K:Z P→jB→Option ρ'} {ty:TypeId} {rv:Option Operand} (ho:o.op= .makeMap ty rv) (hx:∀x,rv=some x→∃q n,cJ t x= .int q n) (h:(rp P z ty K)=some r):
  ∃e z',K z' e=some r∧(z'.c→z.c∧jH P o (cJ t) s e):=by
 unfold rp at h
 split at h
 ·rename_i k et hk
  exact ⟨_,z,h,fun c=>⟨c,CS ho hk hx⟩⟩
 ·split at h
  ·rename_i kt et hk
   simp [vd] at h
  ·cases h
theorem sK {z:Z P} {K:Z P→jB→Option ρ'} {ty:TypeId} {m k v:Operand} (ho:o.op= .insert ty m k v∨o.op= .mapUpdate ty m k v) (h:(rk P z ty (cJ t m) (cJ t k) (cJ t v) s K)=some r):
  ∃e z',K z' e=some r∧(z'.c→z.c∧jH P o (cJ t) s e):=by
 unfold rk at h
 split at h
 ·rename_i id q n hm hk
  split at h
  ·rename_i q' es q2 et hs Wd
   have hh:=bW h
   clear h
   obtain ⟨WT,h⟩:=hh
   simp only [aae] at WT
   have e1:=jJ WT.1.1
   have e2:=jJ WT.1.2
   subst e1 e2
   have UB:=hZ (s:=s) (i:=id) (by rw [hs];intro e;cases e)
   exact ⟨_,z,h,fun c=>⟨c,⟨hs,UB⟩,GY ho Wd hm hk WT.2⟩⟩
  ·cases h
 ·rename_i id cs hm hk
  split at h
  ·rename_i ks es kt et hs Wd
   simp [vd] at h
  ·cases h
 ·cases h
theorem C5 {z:Z P} {K:Z P→jB→Option ρ'} {ty:TypeId} {m k:Operand} (ho:o.op= .mapEntry ty m k) (h:(x9 P z ty (cJ t m) (cJ t k) s K)=some r):
  ∃e z',K z' e=some r∧(z'.c→z.c∧jH P o (cJ t) s e):=by
 simp [x9] at h
theorem yn {z:Z P} {K:Z P→jB→Option ρ'} {ty:TypeId} {m n v:Operand} (ho:o.op= .entryStore ty m n v) (h:(qi P z (cJ t m) (cJ t n) (cJ t v) s K)=some r):
  ∃e z',K z' e=some r∧(z'.c→z.c∧jH P o (cJ t) s e):=by
 simp [qi] at h
theorem Lb {z:Z P} {d:D} {s':List Ob} {K:Z P→jB→Option ρ'} {r:ρ'} (h:Pv z d s' K=some r):∃e z',K z' e=some r∧(z'.c→z.c∧∃d2 s2,e= .all s2 d2∧∀(g:FuncId) (args:List D) (s:List Ob),ak P g args s d s'→ak P g args s d2 s2):=by
 unfold Pv at h
 split at h
 ·split at h
  ·rename_i id sz n
   split at h
   ·rename_i cs T6
    have hh:=bW h
    clear h
    obtain ⟨T8,h⟩:=hh
    rw [aaG] at T8
    subst T8
    have hh:=eP h
    clear h
    obtain ⟨z1,h,hz1⟩:=hh
    refine ⟨_,z1,h,fun hc=>⟨(hz1 hc).1,_,_,rfl,fun g args s hr=> ?_⟩⟩
    have hq:=(hz1 hc).2
    rw [aae,aaG] at hq
    exact hr.De T6 hq.1 hq.2
   ·cases h
  ·cases h
 ·exact ⟨_,z,h,fun hc=>⟨hc,_,_,rfl,fun g args s hr=>hr⟩⟩
theorem MG {inl:FZ P ρ'} (Um:lq P inl) {z:Z P} {K:Z P→jB→Option ρ'} (h:Rs P inl o t s z K=some r):
  ∃e z',K z' e=some r∧(z'.c→z.c∧jH P o (cJ t) s e):=by
 unfold Rs at h
 split at h
 case h_1 x ho=>exact ⟨_,z,h,fun c=>⟨c,Fj (.inl ho)⟩⟩
 case h_2 x ho=>exact ⟨_,z,h,fun c=>⟨c,Fj (.inr ho)⟩⟩
 case h_3 c x y ho=>
  split at h
  ·rename_i q hq
   obtain ⟨z',⟨h1,h2⟩|⟨h1,h2⟩⟩:=nZ h
   ·refine ⟨_,z',h1,fun c=>⟨(h2 c).1,?_⟩⟩
    have:=Fi (P:=P) (ρ:=cJ t) ho hq
    rw [(h2 c).2] at this
    exact this
   ·refine ⟨_,z',h1,fun c=>⟨(h2 c).1,?_⟩⟩
    have:=Fi (P:=P) (ρ:=cJ t) ho hq
    rw [(h2 c).2] at this
    exact this
  ·cases h
 case h_4 e x ho=>
  split at h
  ·rename_i cs T6;exact ⟨_,z,h,fun c=>⟨c,O4 ho T6⟩⟩
  ·cases h
 case h_5 e ho=>
  split at h
  ·rename_i d hd
   split at h
   ·rename_i cs T6;exact ⟨_,z,h,fun c=>⟨c,Kx ho hd T6⟩⟩
   ·split at h
    ·rename_i h1;exact ⟨_,z,h,fun c=>⟨c,GZ ho hd h1⟩⟩
    ·cases h
  ·cases h
 case h_6 ty parts ho=>
  split at h
  ·rename_i d hd;exact ⟨_,z,h,fun c=>⟨c,Kw ho hd⟩⟩
  ·cases h
 case h_7 ty len parts ho=>
  split at h
  ·rename_i e ht
   split at h
   ·rename_i d hd
    split at h
    ·rename_i zc WS
     obtain ⟨hk,h⟩:=bW h
     simp only [aae,aaG,abh,aaO] at hk
     obtain ⟨⟨⟨⟨h1,h2⟩,h3⟩,_⟩,h5⟩:=hk
     obtain ⟨xs,q1,q2⟩:=uq (P:=P) (ρ:=cJ t) ho ht hd WS h1 h2 h3 h5 h
     exact ⟨_,z,q1,fun c=>⟨c,q2⟩⟩
    ·cases h
   ·cases h
  ·cases h
 case h_8 ty a ho=>
  unfold N0 at h
  split at h
  ·rename_i dyn id off hx
   split at h
   ·rename_i cs T6
    obtain ⟨z',d,h1,h2⟩:=nj h
    refine ⟨_,z',h1,fun c=>⟨(h2 c).1,?_⟩⟩
    have T1:id<s.length:=hZ (by rw [T6];intro e;cases e)
    split
    ·rename_i Zh
     obtain ⟨e,hu,hp⟩:=(h2 c).2
     unfold NQ at Zh
     rw [hu] at Zh
     have ha:dJ e=false:=by simpa using Zh
     rcases hp with ⟨q,_⟩|⟨_,q⟩
     ·rw [ha] at q;cases q
     ·exact ⟨⟨by rw [T6];exact q,T1⟩,xP ho hx hu ha⟩
    ·exact ⟨⟨T6,T1⟩,qw ho hx (h2 c).2⟩
   ·cases h
  ·rename_i dyn y off hx
   split at h
   ·rename_i cs T6
    obtain ⟨z',d,h1,h2⟩:=nj h
    exact ⟨_,z',h1,fun c=>⟨(h2 c).1,xO ho hx T6 (h2 c).2⟩⟩
   ·cases h
  ·cases h
 case h_9 ty a x ho=>
  unfold Jo at h
  split at h
  ·rename_i dyn id off hx
   split at h
   ·rename_i cs T6
    split at h
    ·rename_i vc W2
     obtain ⟨hk,h⟩:=bW h
     simp only [aae,aaG,aaO] at hk
     obtain ⟨⟨k1,k2⟩,k3⟩:=hk
     have UB:=hZ (s:=s) (i:=id) (by rw [T6];intro e;cases e)
     split at h
     ·obtain ⟨hl,h⟩:=bW h
      rw [abh] at hl
      exact ⟨_,z,h,fun c=>⟨c,⟨T6,UB⟩,AJ ho hx W2 k1 k2 k3 hl⟩⟩
     ·split at h
      ·rename_i l i xs l' hg rest _
       refine ⟨_,_,h,fun c=>⟨c.2,⟨T6,UB⟩,?_⟩⟩
       have e1:=c.1.1
       have e2:=c.1.2.1
       have e3:=c.1.2.2
       subst e1 e2 e3
       have:=AJ (P:=P) (ρ:=cJ t) ho hx W2 k1 k2 k3 hg.2
       unfold jh at this
       rw [hg.1] at this
       exact this
      ·cases h
    ·cases h
   ·cases h
  ·cases h
 case h_10 x ho=>
  split at h
  ·rename_i dyn id off hx
   exact ⟨_,z,h,fun c=>⟨c,by have:=mI (P:=P) (ρ:=cJ t) ho (.inl ⟨dyn,id,off,hx⟩);rw [hx] at this;exact this⟩⟩
  ·rename_i dyn y off hx
   exact ⟨_,z,h,fun c=>⟨c,by have:=mI (P:=P) (ρ:=cJ t) ho (.inr (.inl ⟨dyn,y,off,hx⟩));rw [hx] at this;exact this⟩⟩
  ·rename_i g a b hx
   exact ⟨_,z,h,fun c=>⟨c,by have:=mI (P:=P) (ρ:=cJ t) ho (.inr (.inr ⟨g,a,b,hx⟩));rw [hx] at this;exact this⟩⟩
  ·cases h
 case h_11 op ty x y ty' ho=>
  obtain ⟨z',d,h1,h2⟩:=LF h
  exact ⟨_,z',h1,fun c=>⟨(h2 c).1,O5 ho fun M w u v hu hv=>(h2 c).2 M w x y u v hu hv⟩⟩
 case h_12 op ty x ho=>
  obtain ⟨d,h1,h2⟩:=Me (P:=P) h
  refine ⟨_,z,h1,fun c=>⟨c,cA fun M w a _ hr=> ?_⟩⟩
  obtain ⟨v,q1,q2⟩:=h2 M w _ (hr x (by simp [ho,aas]))
  exact ⟨v,by simp only [execOp,ho,aay,q1,aaq,aaH],q2⟩
 case h_13 src dst x ho=>
  obtain ⟨e,z',h1,h2,h3⟩:=Ix (ρ:=cJ t) ho h
  refine ⟨e,z',h1,fun c=>⟨(h2 c).1,?_⟩⟩
  rcases h3 with ⟨d,rfl⟩|⟨q,m,rfl⟩<;>exact (h2 c).2
 case h_14 f first cap ho=>exact ⟨_,z,h,fun c=>⟨c,AK ho⟩⟩
 case h_15 ty x lo hi mx ho=>
  split at h
  ·rename_i e ow sz xs ht hx
   obtain ⟨hk,h⟩:=bW h
   rw [aae,aaG] at hk
   obtain ⟨n1,h,o1⟩:=fi h
   obtain ⟨n2,h,o2⟩:=fi h
   obtain ⟨n3,h,o3⟩:=fi h
   obtain ⟨z',d,h1,h2⟩:=BQ h
   refine ⟨_,z',h1,fun c=>⟨(h2 c).1,cA fun M w a _ hr=> ?_⟩⟩
   have UM:=hr x (by simp [ho,aas])
   rw [hx] at UM
   have r1:=o1 M a (fun y hy=>hr y (by simp [ho,aas,hy]))
   have r2:=o2 M a (fun y hy=>hr y (by simp [ho,aas,hy]))
   have r3:=o3 M a (fun y hy=>hr y (by simp [ho,aas,hy]))
   obtain ⟨v,q1,q2⟩:=(h2 c).2 M w ty e _ _ _ _ ht hk.1 hk.2 UM r1 r2 r3
   exact ⟨v,by simp only [execOp,ho,aay,q1,aaq,aaH],q2⟩
  ·rename_i e id sz n ht hx
   obtain ⟨hk,h⟩:=bW h
   rw [aae,aaG] at hk
   obtain ⟨n1,h,o1⟩:=fi h
   obtain ⟨n2,h,o2⟩:=fi h
   obtain ⟨n3,h,o3⟩:=fi h
   obtain ⟨z',l,hh,Xm,h1,h2⟩:=rW h
   refine ⟨_,z',h1,fun c=>⟨(h2 c).1,cA fun M w a _ hr=> ?_⟩⟩
   have UM:=hr x (by simp [ho,aas])
   rw [hx] at UM
   have r1:=o1 M a (fun y hy=>hr y (by simp [ho,aas,hy]))
   have r2:=o2 M a (fun y hy=>hr y (by simp [ho,aas,hy]))
   have r3:=o3 M a (fun y hy=>hr y (by simp [ho,aas,hy]))
   obtain ⟨_,b1,b2,b3⟩:=h2 c
   generalize hv:a.eval x=u at UM
   cases UM with
   |dm hb UN hc=>
    obtain ⟨m,m1,m2,m3⟩:=b3 true w _ _ _ _ hc (fun k hk=>by cases hk) r1 r2 r3
    exact ⟨_,by simp only [execOp,ho,hv,aay,l6 ht hk.1 hk.2 m3,aaq,aaH],sq hb (fun _=>rfl) b1 b2 m1 m2⟩
  ·rename_i e id off sz n cp ht hx
   obtain ⟨hk,h⟩:=bW h
   rw [aae,aaG] at hk
   obtain ⟨n1,h,o1⟩:=fi h
   obtain ⟨n2,h,o2⟩:=fi h
   obtain ⟨n3,h,o3⟩:=fi h
   obtain ⟨z',l,hh,Xm,h1,h2⟩:=rW h
   refine ⟨_,z',h1,fun c=>⟨(h2 c).1,cA fun M w a _ hr=> ?_⟩⟩
   have UM:=hr x (by simp [ho,aas])
   rw [hx] at UM
   have r1:=o1 M a (fun y hy=>hr y (by simp [ho,aas,hy]))
   have r2:=o2 M a (fun y hy=>hr y (by simp [ho,aas,hy]))
   have r3:=o3 M a (fun y hy=>hr y (by simp [ho,aas,hy]))
   obtain ⟨_,b1,b2,b3⟩:=h2 c
   generalize hv:a.eval x=u at UM
   cases UM with
   |sub hb hc hp VF=>
    obtain ⟨m,m1,m2,m3⟩:=b3 true w _ _ _ _ hc hp r1 r2 r3
    exact ⟨_,by simp only [execOp,ho,hv,aay,l6 ht hk.1 hk.2 m3,aaq,aaH],sq hb VF b1 b2 m1 m2⟩
  ·rename_i n e dyn id off ht hx
   obtain ⟨hk,h⟩:=bW h
   obtain ⟨n1,h,o1⟩:=fi h
   obtain ⟨n2,h,o2⟩:=fi h
   obtain ⟨n3,h,o3⟩:=fi h
   obtain ⟨z',l,hh,Xm,h1,h2⟩:=rW h
   refine ⟨_,z',h1,fun c=>⟨(h2 c).1,cA fun M w a _ hr=> ?_⟩⟩
   have UM:=hr x (by simp [ho,aas])
   rw [hx] at UM
   have r1:=o1 M a (fun y hy=>hr y (by simp [ho,aas,hy]))
   have r2:=o2 M a (fun y hy=>hr y (by simp [ho,aas,hy]))
   have r3:=o3 M a (fun y hy=>hr y (by simp [ho,aas,hy]))
   obtain ⟨_,b1,b2,b3⟩:=h2 c
   generalize hv:a.eval x=u at UM
   cases UM with
   |ptr _ hb=>
    obtain ⟨m,m1,m2,m3⟩:=b3 false w _ _ _ _ (aar _) (fun k hk=>aad hk) r1 r2 r3
    exact ⟨_,by simp only [execOp,ho,hv,aay,qK ht hk rfl m3,aaq,aaH],sq hb (fun _=>rfl) b1 b2 m1 m2⟩
  ·cases h
 case h_16 ty x f ho=>
  unfold tp at h
  split at h
  ·rename_i fields ht
   split at h
   ·rename_i fd ZC
    obtain ⟨hk,h⟩:=bW h
    rw [aae] at hk
    have Ux:0<P.cellsOf fd.type:=Nat.lt_of_succ_le (by simpa [Nat.blt,abh] using hk.2)
    obtain ⟨g1,g2⟩:=xS (P:=P) (ρ:=cJ t) ho ht ZC hk.1 Ux
    split at h
    ·rename_i dyn id off hx;exact ⟨_,z,h,fun c=>⟨c,g1 _ _ _ hx⟩⟩
    ·rename_i dyn y off hx;exact ⟨_,z,h,fun c=>⟨c,g2 _ _ _ hx⟩⟩
    ·cases h
   ·cases h
  ·cases h
 case h_17 ty x f ho=>
  split at h
  ·rename_i fields cs ht hx
   split at h
   ·rename_i fd ZC
    obtain ⟨z',d,h1,h2⟩:=nj h
    exact ⟨_,z',h1,fun c=>⟨(h2 c).1,Ku ho ht ZC hx (h2 c).2⟩⟩
   ·cases h
  ·cases h
 case h_18 ty x ix ho=>
  unfold sU at h
  split at h
  ·rename_i k i hi
   split at h
   ·rename_i len elem dyn id off ht hx
    obtain ⟨hk,h⟩:=bW h
    obtain ⟨z',h1,h2⟩:=ik h
    exact ⟨_,z',h1,fun c=>⟨(h2 c).1,(o7 (P:=P) (ρ:=cJ t) ho hi ht hk (by simpa using (h2 c).2) _).1 _ _ _ hx⟩⟩
   ·rename_i len elem dyn y off ht hx
    obtain ⟨hk,h⟩:=bW h
    obtain ⟨z',h1,h2⟩:=ik h
    exact ⟨_,z',h1,fun c=>⟨(h2 c).1,(o7 (P:=P) (ρ:=cJ t) ho hi ht hk (by simpa using (h2 c).2) _).2 _ _ _ hx⟩⟩
   ·rename_i elem ow sz xs ht hx
    obtain ⟨hk,h⟩:=bW h
    rw [aae,aaG] at hk
    obtain ⟨z',h1,h2⟩:=ik h
    obtain ⟨z2,y,h3,h4⟩:=sE h1
    exact ⟨_,z2,h3,fun c=>⟨(h2 (h4 c).1).1,pW ho hi ht hk.1 hk.2 (by simpa using (h2 (h4 c).1).2) hx (h4 c).2⟩⟩
   ·rename_i elem id sz n ht hx
    obtain ⟨hk,h⟩:=bW h
    rw [aae,aaG] at hk
    obtain ⟨z',h1,h2⟩:=eP h
    exact ⟨_,z',h1,fun c=>⟨(h2 c).1,pV ho hi ht hk.1 hk.2 (by simpa using (h2 c).2) hx⟩⟩
   ·rename_i elem id off sz n cp ht hx
    obtain ⟨hk,h⟩:=bW h
    rw [aae,aaG] at hk
    obtain ⟨z',h1,h2⟩:=eP h
    exact ⟨_,z',h1,fun c=>⟨(h2 c).1,pU ho hi ht hk.1 hk.2 (by simpa using (h2 c).2) hx⟩⟩
   ·cases h
  ·cases h
 case h_19 ty x ix ho=>
  unfold KU at h
  split at h
  ·rename_i k i hi
   split at h
   ·rename_i len elem cs ht hx
    obtain ⟨hk,h⟩:=bW h
    obtain ⟨z',h1,h2⟩:=ik h
    obtain ⟨z2,d,h3,h4⟩:=nj h1
    exact ⟨_,z2,h3,fun c=>⟨(h2 (h4 c).1).1,xR ho hi ht hk (by simpa using (h2 (h4 c).1).2) hx (h4 c).2⟩⟩
   ·rename_i s' ht hx
    obtain ⟨z',h1,h2⟩:=ik h
    obtain ⟨z2,d,h3,h4⟩:=sE h1
    exact ⟨_,z2,h3,fun c=>⟨(h2 (h4 c).1).1,xQ ho hi ht (by simpa using (h2 (h4 c).1).2) hx (h4 c).2⟩⟩
   ·cases h
  ·cases h
 case h_20 x i ho=>
  split at h
  ·rename_i ds hx
   split at h
   ·rename_i d hd;exact ⟨_,z,h,fun c=>⟨c,CT ho hx hd⟩⟩
   ·cases h
  ·cases h
 case h_21 c ho=>
  have V3:∀ {x:Operand},x∈c.args.toList→x∈o.op.operands:=by
   intro x hx
   simp only [ho,aas,abp]
   exact abw.2 (.inr (by simpa using hx))
  split at h
  ·rename_i hc
   split at h
   ·rename_i x rest ty ts T4 XR
    obtain ⟨d,h1,h2⟩:=KQ (P:=P) h
    refine ⟨_,z,h1,fun cc=>⟨cc,cA fun M w a _ hr=> ?_⟩⟩
    obtain ⟨v,q1,q2⟩:=h2 M w _ c.argTypes o.type (c.args.map a.eval) (hr x (V3 (by rw [T4];simp))) (by rw [← aaB,XR];rfl) (by
     have:c.args[0]? =some x:=by rw [← aaB,T4];rfl
     simp [this])
    exact ⟨v,by rw [fB ho hc];simp only [builtin,aay,q1,aaq,aaH],q2⟩
   ·cases h
  ·rename_i hc
   split at h
   ·rename_i x y rest T4
    exact BA ho hc T4 h
   ·cases h
  ·rename_i hc
   split at h
   ·rename_i x y T4
    obtain ⟨d,h1,h2⟩:=KH (P:=P) h
    refine ⟨_,z,h1,fun cc=>⟨cc,cA fun M w a _ hr=> ?_⟩⟩
    obtain ⟨v,q1,q2⟩:=h2 M w _ _ c.argTypes o.type (c.args.map a.eval) (hr x (V3 (by rw [T4];simp))) (hr y (V3 (by rw [T4];simp))) (by rw [Array.toList_map,T4];rfl)
    exact ⟨v,by rw [fB ho hc];simp only [builtin,aay,q1,aaq,aaH],q2⟩
   ·cases h
  ·rename_i hc
   split at h
   ·rename_i x y T4
    obtain ⟨d,h1,h2⟩:=KL (P:=P) h
    refine ⟨_,z,h1,fun cc=>⟨cc,cA fun M w a _ hr=> ?_⟩⟩
    obtain ⟨v,q1,q2⟩:=h2 M w _ _ c.argTypes o.type (c.args.map a.eval) (hr x (V3 (by rw [T4];simp))) (hr y (V3 (by rw [T4];simp))) (by rw [Array.toList_map,T4];rfl)
    exact ⟨v,by rw [fB ho hc];simp only [builtin,aay,q1,aaq,aaH],q2⟩
   ·cases h
  ·rename_i hc
   split at h
   ·rename_i x y rest T4
    exact Iw ho hc T4 h
   ·cases h
  ·rename_i f hc
   split at h
   ·rename_i g first cap hf
    unfold FO at h
    split at h
    ·rename_i rest _
     obtain ⟨d,s',z',h1,h2⟩:=Um (.fn g) _ s _ _ r h
     obtain ⟨e,z2,h3,h4⟩:=Lb h1
     refine ⟨_,z2,h3,fun cc=> ?_⟩
     obtain ⟨c1,d2,s2,rfl,hk⟩:=h4 cc
     exact ⟨(h2 c1).1,Ky ho hc hf (hk _ _ _ (h2 c1).2)⟩
    ·rename_i g' ar s1 d W9 Ud rest _
     have hh:=bW h
     clear h
     obtain ⟨hk,h⟩:=hh
     rw [aaG] at hk
     subst hk
     exact ⟨_,_,h,fun cc=>⟨cc.2,Ky ho hc hf (cc.1.1▸cc.1.2▸Ud)⟩⟩
    ·rename_i g' as n cs Ud hb rest _
     have hh:=bW h
     clear h
     obtain ⟨hk,h⟩:=hh
     rw [aaG] at hk
     subst hk
     obtain ⟨as',h1,h2⟩:=mG h
     refine ⟨_,_,h1,fun cc=>⟨cc.2,?_⟩⟩
     exact Kv ho hc hf Ud hb (fun M vs hv=>by rw [cc.1];exact h2 M vs hv)
    ·rename_i g' as d WY rest _
     have hh:=bW h
     clear h
     obtain ⟨hk,h⟩:=hh
     rw [aaG] at hk
     subst hk
     obtain ⟨as',h1,h2⟩:=mG h
     refine ⟨_,_,h1,fun cc=>⟨cc.2,?_⟩⟩
     exact O3 ho hc hf WY (fun M vs hv=>by rw [cc.1];exact h2 M vs hv)
    ·cases h
   ·rename_i id hf
    unfold P1 at h
    split at h
    ·rename_i rest _
     obtain ⟨d,s',z',h1,h2⟩:=Um (.yl id) _ s _ _ r h
     exact ⟨_,z',h1,fun cc=>⟨(h2 cc).1,O2 ho hc hf (h2 cc).2⟩⟩
    ·cases h
   ·cases h
  ·cases h
 case h_22 ty rv ho=>
  split at h
  ·exact sL ho (fun x hx=>by cases hx) h
  ·rename_i x
   unfold idx at h
   split at h
   ·rename_i q n hx
    exact sL ho (fun y hy=>by obtain rfl:=aad hy;exact ⟨q,n,hx⟩) h
   ·cases h
 case h_23 ty m k v ho=>exact sK (.inl ho) h
 case h_24 ty m k v ho=>exact sK (.inr ho) h
 case h_25 ty m k ok ho=>
  unfold AR at h
  split at h
  ·rename_i id q n hm hk
   split at h
   ·rename_i q' es q2 et hs Wd
    split at h
    ·rename_i zd hz
     have hh:=bW h
     clear h
     obtain ⟨WT,h⟩:=hh
     rw [aae] at WT
     have e1:=jJ WT.1
     have e2:=jJ WT.2
     subst e1 e2
     have UB:=hZ (s:=s) (i:=id) (by rw [hs];intro e;cases e)
     obtain ⟨z',rr,h1,h2⟩:=Hc h
     have Uy:=fun c=>CR (P:=P) (ρ:=cJ t) ho Wd hz hm hk (h2 c).2
     cases rr<;>cases ok<;>exact ⟨_,z',h1,fun c=>⟨(h2 c).1,⟨hs,UB⟩,Uy c⟩⟩
    ·cases h
   ·cases h
  ·rename_i id cs hm hk
   split at h
   ·rename_i ks es kt et hs Wd
    split at h
    ·rename_i zd hz
     simp [vd] at h
    ·cases h
   ·cases h
  ·cases h
 case h_26 ty m k ho=>exact C5 ho h
 case h_27 ty m n v ho=>exact yn ho h
 case h_28 ty l c ho=>
  unfold NY at h
  split at h
  ·rename_i e q n q' m ht hl hc
   split at h
   ·rename_i zd hz
    split at h
    ·rename_i zc WS
     split at h
     ·obtain ⟨hk,h⟩:=bW h
      simp only [aae,aaG,abh,Nat.blt_eq] at hk
      obtain ⟨⟨⟨⟨k1,k2⟩,k3⟩,k4⟩,k5⟩:=hk
      obtain ⟨z',h1,h2⟩:=eP h
      refine ⟨_,z',h1,fun c=>⟨(h2 c).1,?_⟩⟩
      have hb:=(h2 c).2
      rw [bS] at hb
      obtain ⟨b0,rfl,b1⟩:=hb
      exact Kt ho ht k1 hz WS k2 k3 k4 hl hc b0 b1 (List.all_eq_true.mp k5)
     ·obtain ⟨hk,h⟩:=bW h
      simp only [aae,aaG,abh,Nat.blt_eq] at hk
      obtain ⟨⟨⟨k1,k2⟩,k3⟩,k4⟩:=hk
      obtain ⟨z',h1,h2⟩:=eP h
      refine ⟨_,z',h1,fun c=>⟨(h2 c).1,?_⟩⟩
      have hb:=(h2 c).2
      rw [bS] at hb
      obtain ⟨b0,rfl,b1⟩:=hb
      exact MH ho ht k1 hz WS k2 k3 k4 hl hc b0 b1
    ·cases h
   ·cases h
  ·cases h
 case h_29=>cases h
end
end Go.Ev
