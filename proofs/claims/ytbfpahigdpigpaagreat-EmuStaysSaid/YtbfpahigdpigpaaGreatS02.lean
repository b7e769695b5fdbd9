import Derived.Laws.Cells
import Derived.Laws.Entries
import Derived.ChangeKeysEq
import Derived.Laws.BytesString
import Derived.Laws.MakeOwn
import Derived.WideLaws
import Derived.MapKept
import Derived.Laws.AppendOwn
import Derived.RangeFuncRecord
import Derived.Test.YtbfpahigdpigpaaGreatS01
open List renaming replicate→Xg,getD_eq_getElem?_getD→Xr,range→Xt,length_append→Xu,length_cons→Xx,getElem?_eq_none→Xy,length_nil→XE,getElem?_map→XH,mem_of_getElem? →XP,all_eq_true→XZ,length_set→Ym,drop_zero→Yn,getElem?_cons_zero→Yr,getElem?_append→Yu,getElem?_cons_succ→Yw,take_of_length_le→Yy,getElem?_set_ne→YE
open Option.some renaming inj→Xo,injEq→Xv
open Bool renaming and_eq_true→Xp,false_eq_true→Yb
open Go.Result renaming andThen_ok→Xz
open Nat renaming le_refl→XC,lt_or_ge→XL,beq_eq→XR,zero_add→Yl,ble_eq→YB,le_trans→YG,mul_one→YJ
open Go.Op renaming operands→XD
open Option renaming map_eq_some_iff→XF,getD_some→Yp,map_some→YI
open Go.Sem renaming run_bind→XK,run_pure→XQ
open Array renaming getElem?_toList→XN,getD_eq_getD_getElem? →XV,getElem?_eq_none→Ye,length_toList→Yf,getElem?_setIfInBounds_ne→Yi
open Go.Instr renaming sliceBounds→X5,findKey→YM
open Go.Builtin renaming firstCells→Yq,append_→Yt
open Go.Call renaming operands→YN
open Go renaming IntKind→YO
/- Contracts and plain laws that a statement's proof leans on (texts merged:EvK). -/
set_option linter.unusedVariables false
set_option linter.unusedSimpArgs false
namespace Go.Ev
open Go Go.RowKit
section
variable {P:Program} {w:World}
theorem Ff {t:TypeId} (h:known P t=true):∃i,P.info? t=some i:=by
 unfold known at h;exact Option.isSome_iff_exists.1 h
theorem dx {t:TypeId} (h:known P t=true) (w:World):(sizeOf t).run P w= .ok (P.cellsOf t) w:=by
 obtain ⟨i,hi⟩:=Ff h
 simp [sizeOf,typeInfo,hi,Program.cellsOf]
theorem kW {t:TypeId} {d:TypeDesc} (h:P.underlying t=some d):known P t=true:=by
 unfold known
 unfold Program.underlying at h
 cases e:P.info? t with
 |none=>simp [e] at h
 |some i=>rfl
theorem mC {t:TypeId} {d:TypeDesc} (h:P.underlying t=some d) (w:World):(isAgg t).run P w= .ok (dR d) w:=by
 cases d<;>simp [isAgg,run_underlying h,dR]
theorem fA {t:TypeId} {i:TypeInfo} {v:Value} (hi:P.info? t=some i) (hz:i.zero=some v) (w:World):(zeroValue t).run P w= .ok v w:=by
 simp [zeroValue,typeInfo,hi,hz]
theorem gF (b off n:Nat):(Addr.mk b off none).add n=⟨b,off+n,none⟩:=by
 unfold Addr.add
 split
 ·rename_i h;subst h;simp
 ·rfl
theorem j4 (b off:Nat) (vs:Array Value) (h:∀j v,vs[j]? =some v→w.cell? ⟨b,off+j,none⟩=some v):
  (loadCells ⟨b,off,none⟩ vs.size).run P w= .ok vs w:=by
 have:=run_loadCells_list (P:=P) (w:=w) ⟨b,off,none⟩ vs.toList (fun j v hj=>by rw [gF];exact h j v (by simpa using hj))
 simpa using this
def eA (vs:Array Value) (off:Nat):List Value→Array Value
  | []=>vs
  |x::r=>eA (vs.setIfInBounds off x) (off+1) r
theorem eX (l:List Value):∀(vs:Array Value) (off:Nat),(eA vs off l).size=vs.size:=by
 induction l with
 |nil=>intro vs off;rfl
 |cons x r ih=>intro vs off;simp [eA,ih]
theorem iU (l:List Value):∀(vs:Array Value) (off k:Nat),off+l.length≤vs.size→
  (eA vs off l)[k]? =if off≤k∧k<off+l.length then l[k - off]? else vs[k]? :=by
 induction l with
 |nil=>intro vs off k _;rw [eA,if_neg (by intro h;have h1:=h.1;have h2:k<off+0:=h.2;omega)]
 |cons x r ih=>
  intro vs off k h
  simp only [Xx] at h
  rw [eA,ih _ _ _ (by simp;omega)]
  by_cases h1:off+1≤k∧k<off+1+r.length
  ·rw [if_pos h1,if_pos ⟨by omega,by simp;omega⟩]
   rw [show k - off=(k - (off+1))+1 by omega,Yw]
  ·rw [if_neg h1]
   by_cases h2:k=off
   ·subst h2
    rw [if_pos ⟨by omega,by simp⟩]
    simp [show k<vs.size by omega]
   ·rw [if_neg (by simp;omega),Yi (Ne.symm h2)]
theorem rf {w:World} {b:Nat} {o p:Obj} :cW (cW w b o) b p=cW w b p:=by
 unfold cW
 simp
theorem sJ {w:World} {b o:Nat} {v:Value} {vs:Array Value} {ty:TypeId} {fz:Nat×Nat} (h:w.heap[b]? =some (.cells vs ty fz)):
  w.setCell ⟨b,o,none⟩ v=cW w b (.cells (vs.setIfInBounds o v) ty fz):=by
 have hb:=fG h
 have he:w.heap[b]= .cells vs ty fz:=by simpa [Array.getElem?_eq_getElem hb] using h
 unfold World.setCell cW
 congr 1
 apply Array.ext_getElem?
 intro k
 rw [Array.getElem?_modify]
 by_cases e:b=k
 ·subst e
  rw [if_pos rfl,h]
  simp [hb]
 ·rw [if_neg e,Yi e]
theorem iu {b off:Nat} {ty:TypeId} {fz:Nat×Nat} (l:List Value):∀(i:Nat) (w:World) (vs:Array Value),w.heap[b]? =some (.cells vs ty fz)→(∀v∈l,v.oneCell'=true)→
  off+i+l.length≤vs.size→lW fz vs.size→(storeCells ⟨b,off,none⟩ l i).run P w= .ok () (cW w b (.cells (eA vs (off+i) l) ty fz)):=by
 induction l with
 |nil=>
  intro i w vs h _ _ _
  simp only [storeCells,XQ,eA]
  have hb:=fG h
  have he:w.heap.setIfInBounds b (.cells vs ty fz)=w.heap:=by
   apply Array.ext_getElem?
   intro k
   by_cases e:b=k
   ·subst e;rw [h];simp [hb]
   ·rw [Yi e]
  unfold cW
  rw [he]
 |cons x r ih=>
  intro i w vs h RW hlen UK
  simp only [Xx] at hlen
  have QQ:off+i<vs.size:=by omega
  have SS:w.cell? ⟨b,off+i,none⟩=some vs[off+i]:=by simp [World.cell?,h,QQ]
  have RD:w.frozen? ⟨b,off+i,none⟩=false:=by
   have:=UK _ QQ
   simp only [World.frozen?,h]
   simpa using this
  simp only [storeCells,XK,gF]
  rw [run_store _ _ _ _ _ (RW x (by simp)),SS]
  simp only [RD,Yb,if_false,Xz]
  rw [sJ h]
  rw [ih (i+1) _ (vs.setIfInBounds (off+i) x) (gH h) (fun v hv=>RW v (by simp [hv])) (by simp;omega) (by simpa using UK)]
  rw [rf]
  simp [eA,Nat.add_assoc]
theorem nT {t:TypeId} {d:TypeDesc} (h:P.underlying t=some d) (ha:dR d=false) {cs:Array Value} {off:Nat} {v:Value} (hv:cs[off]? =some v) (w:World):(part t cs off).run P w= .ok v w:=by
 simp [part,mC h,ha,hv]
theorem nU {t:TypeId} {d:TypeDesc} (h:P.underlying t=some d) (ha:dR d=true) (cs:Array Value) (off:Nat) (w:World):(part t cs off).run P w= .ok (.agg (cs.extract off (off+P.cellsOf t))) w:=by
 simp [part,mC h,ha,dx (kW h)]
theorem p7 {t:TypeId} {d:TypeDesc} (h:P.underlying t=some d) (ha:dR d=false) {a:Addr} {v:Value} (hv:w.cell? a=some v):(loadVar t a).run P w= .ok v w:=by
 simp [loadVar,mC h,ha,hv]
theorem p8 {t:TypeId} {d:TypeDesc} (h:P.underlying t=some d) (ha:dR d=true) {b off:Nat} (vs:Array Value) (hs:vs.size=P.cellsOf t)
  (hv:∀j v,vs[j]? =some v→w.cell? ⟨b,off+j,none⟩=some v):(loadVar t ⟨b,off,none⟩).run P w= .ok (.agg vs) w:=by
 simp [loadVar,mC h,ha,dx (kW h),← hs,j4 b off vs hv]
end
theorem cN.get {M:MM} {cs:List D} {vs:Array Value} (h:cN M cs vs) {i:Nat} {d:D} (hd:cs[i]? =some d):∃v,vs[i]? =some v∧cz M d v:=by
 have hi:i<vs.size:=by
  rw [← h.1]
  rcases XL i cs.length with x|x
  ·exact x
  ·simp [Xy x] at hd
 exact ⟨vs[i],by simp [hi],h.2 i d vs[i] hd (by simp [hi])⟩
theorem cN.sub {M:MM} {cs:List D} {vs:Array Value} (h:cN M cs vs) (off n:Nat) (hn:off+n≤cs.length):cN M ((cs.drop off).take n) (vs.extract off (off+n)):=by
 have hs:=h.1
 refine ⟨by simp;omega,fun i d v a b=> ?_⟩
 rw [List.getElem?_take] at a
 split at a
 ·rename_i hi
  rw [List.getElem?_drop] at a
  rw [Array.getElem?_extract] at b
  split at b
  ·exact h.2 _ d v a b
  ·cases b
 ·cases a
theorem qj {M:MM} {v:Value} {d:D} (h:tk v=some d):cz M d v:=by
 unfold tk at h
 split at h<;>simp only [Xv,reduceCtorEq] at h<;>subst h
 ·exact .bool _
 ·exact .int _ _
 ·exact .str _
 ·exact .ik
 ·exact .bc 0 0 (fun _ _=> .nilFunc) rfl (XC _) (fun h=>absurd rfl h) (fun i x h=>by simp at h) (fun i x cs j c h=>by simp at h) (fun i x cs j c h=>by simp at h) (fun i x cs c h=>by simp at h) rfl
 ·exact .cm
theorem qV {M:MM} :∀ {vs:List Value} {l:List D},jJ vs=some l→l.length=vs.length∧∀(i:Nat) (d:D) (v:Value),l[i]? =some d→vs[i]? =some v→cz M d v
 | [],l,h=>by
  simp only [jJ,Xv] at h;subst h;exact ⟨rfl,fun i d v a=>by simp at a⟩
 |v::r,l,h=>by
  unfold jJ at h
  split at h
  ·rename_i d l' hd hl
   simp only [Xv] at h
   subst h
   obtain ⟨h1,h2⟩:=qV (M:=M) hl
   refine ⟨by simp [h1],fun i d' v' a b=> ?_⟩
   cases i with
   |zero=>simp at a b;subst a b;exact qj hd
   |succ i=>exact h2 i d' v' (by simpa using a) (by simpa using b)
  ·cases h
theorem Cp {M:MM} :∀(vs:List Value),(xr vs).length=vs.length∧∀(i:Nat) (d:D) (v:Value),(xr vs)[i]? =some d→vs[i]? =some v→cz M d v
 | []=>⟨rfl,fun i d v a=>by simp [xr] at a⟩
 |v::r=>by
  obtain ⟨h1,h2⟩:=Cp (M:=M) r
  refine ⟨by simp [xr,h1],fun i d' v' a b=> ?_⟩
  cases i with
  |zero=>
   simp only [xr,Yr,Xv] at a b
   subst a b
   split
   ·rename_i d hd;exact qj hd
   ·exact .undef _
  |succ i=>exact h2 i d' v' (by simpa [xr] using a) (by simpa using b)
theorem j5 {M:MM} (v:Value):cz M (fh v) v:=by
 unfold fh
 split
 ·rename_i cs
  obtain ⟨h1,h2⟩:=Cp (M:=M) cs.toList
  exact .agg (by simpa using h1) (fun i d v a b=>h2 i d v a (by simpa using b))
 ·split
  ·rename_i d hd;exact qj hd
  ·exact .undef _
theorem nW {M:MM} {t:List D} {a:Act} (h:cN M t a.tmps) (x:Operand):cz M (cU t x) (a.eval x):=by
 cases x with
 |tmp i=>
  show cz M (t.getD i .undef) (a.tmps.getD i undef)
  cases e:t[i]? with
  |none=>rw [Xr,e];exact .undef _
  |some d=>
   obtain ⟨v,hv,hr⟩:=h.get e
   rw [Xr,e,XV,hv]
   exact hr
 |const v=>exact j5 v
 |global g=>exact .undef _
 |func f=>exact .fn (M:=M) (first:= []) (cap:= []) rfl rfl (fun i d v a=>by simp at a) (fun i d v a=>by simp at a)
theorem nQ {M:MM} {d:D} {v:Value} (h:cz M d v) (hs:storable d=true):v.oneCell'=true:=by
 cases h<;>first|rfl|(simp [storable] at hs)
theorem qJ {cs xs:List D} {off k:Nat} (h:off+xs.length≤cs.length):(jl cs off xs)[k]? =if off≤k∧k<off+xs.length then xs[k - off]? else cs[k]? :=by
 unfold jl
 rw [Yu]
 simp only [List.length_take,show min off cs.length=off by omega]
 by_cases h1:k<off
 ·rw [if_pos h1,if_neg (by omega),List.getElem?_take,if_pos h1]
 ·rw [if_neg h1,Yu]
  by_cases h2:k - off<xs.length
  ·rw [if_pos h2,if_pos ⟨by omega,by omega⟩]
  ·rw [if_neg h2,if_neg (by omega),List.getElem?_drop]
   congr 1
   omega
theorem qI {cs xs:List D} {off:Nat} (h:off+xs.length≤cs.length):(jl cs off xs).length=cs.length:=by
 unfold jl
 simp
 omega
theorem xX {M:MM} {cs xs:List D} {vs ws:Array Value} {off:Nat} (h:cN M cs vs) (k:cN M xs ws) (hl:off+xs.length≤cs.length):cN M (jl cs off xs) (eA vs off ws.toList):=by
 refine ⟨by rw [qI hl,eX,h.1],fun i d v a b=> ?_⟩
 have hs:off+ws.toList.length≤vs.size:=by rw [← h.1,Yf,← k.1];exact hl
 rw [qJ hl] at a
 rw [iU _ _ _ _ hs] at b
 have:ws.toList.length=xs.length:=by rw [Yf,← k.1]
 rw [this] at b
 split at a
 ·rename_i hc
  rw [if_pos hc] at b
  exact k.2 _ d v a (by simpa using b)
 ·rename_i hc
  rw [if_neg hc] at b
  exact h.2 _ d v a b
theorem mF {M:MM} {cs:List D} {vs:Array Value} (hl:cs.length≤vs.size) (h:∀(i:Nat) (d:D) (v:Value),cs[i]? =some d→vs[i]? =some v→cz M d v) {i:Nat} {d:D} (hd:cs[i]? =some d):∃v,vs[i]? =some v∧cz M d v:=by
 have hi:i<vs.size:=by
  rcases XL i cs.length with x|x
  ·omega
  ·simp [Xy x] at hd
 exact ⟨vs[i],by simp [hi],h i d vs[i] hd (by simp [hi])⟩
theorem nX {M:MM} {cs xs:List D} {vs ws:Array Value} {off:Nat} (h0:cs.length≤vs.size) (h:∀(i:Nat) (d:D) (v:Value),cs[i]? =some d→vs[i]? =some v→cz M d v) (k:cN M xs ws) (hl:off+xs.length≤cs.length):
  (jl cs off xs).length≤(eA vs off ws.toList).size∧∀(i:Nat) (d:D) (v:Value),(jl cs off xs)[i]? =some d→(eA vs off ws.toList)[i]? =some v→cz M d v:=by
 refine ⟨by rw [qI hl,eX];exact h0,fun i d v a b=> ?_⟩
 have hs:off+ws.toList.length≤vs.size:=by rw [Yf,← k.1];omega
 rw [qJ hl] at a
 rw [iU _ _ _ _ hs] at b
 have:ws.toList.length=xs.length:=by rw [Yf,← k.1]
 rw [this] at b
 split at a
 ·rename_i hc
  rw [if_pos hc] at b
  exact k.2 _ d v a (by simpa using b)
 ·rename_i hc
  rw [if_neg hc] at b
  exact h _ d v a b
section
variable {ρ:Type} {P:Program} {r:ρ}
theorem cr {b:Bool} {k:Option ρ} (h:jA b k=some r):b=true∧k=some r:=by
 cases b
 ·cases h
 ·exact ⟨rfl,h⟩
theorem fj {z:Z P} {b:Bool} {k:Z P→Option ρ} (h:ask z b k=some r):∃z',k z'=some r∧(z'.c→z.c∧b=true):=by
 unfold ask at h
 split at h
 ·rename_i q hq rest _
  exact ⟨_,h,fun c=>⟨c.2,c.1▸hq⟩⟩
 ·cases h
theorem FD {z:Z P} {ys:List D} {k:Z P→List D→Option ρ} (h:Jb z ys k=some r):∃z' nc,k z' nc=some r∧(z'.c→z.c∧bZ ys=some nc):=by
 unfold Jb at h
 split at h
 ·rename_i VH nc hq rest _
  exact ⟨_,nc,h,fun c=>⟨c.2,c.1▸hq⟩⟩
 ·split at h
  ·rename_i nc hq
   exact ⟨_,nc,h,fun c=>⟨c,hq⟩⟩
  ·cases h
theorem hU {z:Z P} {st b:Bool} {k:Z P→Option ρ} (h:mr z st b k=some r):∃z',k z'=some r∧(z'.c→z.c∧b=true):=by
 unfold mr at h
 split at h
 ·obtain ⟨h1,h2⟩:=cr h
  exact ⟨z,h2,fun c=>⟨c,h1⟩⟩
 ·exact fj h
theorem sx {z:Z P} {n m:Nat} {k:Z P→Option ρ} (h:xd z n m k=some r):∃z',k z'=some r∧(z'.c→z.c∧n≤m):=by
 unfold xd at h
 split at h
 ·rename_i n' m' hn rest _
  exact ⟨_,h,fun c=>⟨c.2,c.1.1▸c.1.2▸hn⟩⟩
 ·cases h
theorem nE {z:Z P} {b:Bool} {k1 k2:Z P→Option ρ} (h:branch z b k1 k2=some r):
  ∃z',(k1 z'=some r∧(z'.c→z.c∧b=true))∨(k2 z'=some r∧(z'.c→z.c∧b=false)):=by
 unfold branch at h
 split at h
 ·rename_i q v hq rest _
  cases v
  ·exact ⟨_,.inr ⟨h,fun c=>⟨c.2,c.1▸hq⟩⟩⟩
  ·exact ⟨_,.inl ⟨h,fun c=>⟨c.2,c.1▸hq⟩⟩⟩
 ·cases h
theorem ri {z:Z P} {l:List D} {i:Nat} {k:Z P→D→Option ρ} (h:pick z l i k=some r):∃z' d,k z' d=some r∧(z'.c→z.c∧l[i]? =some d):=by
 unfold pick at h
 split at h
 ·rename_i l' i' d hg rest _
  exact ⟨_,d,h,fun c=>⟨c.2,c.1.1▸c.1.2▸hg⟩⟩
 ·split at h
  ·rename_i d hg
   exact ⟨_,d,h,fun c=>⟨c,hg⟩⟩
  ·cases h
theorem EG {z:Z P} {es:List (Int×D)} {n:Int} {k:Z P→Option D→Option ρ} (h:IC z es n k=some r):∃z' d,k z' d=some r∧(z'.c→z.c∧oj es n=d):=by
 unfold IC at h
 split at h
 ·rename_i VC n' d hg rest _
  exact ⟨_,d,h,fun c=>⟨c.2,c.1.1▸c.1.2▸hg⟩⟩
 ·cases h
def my (P:Program) (t:TypeId) (cs:List D) (off:Nat) (d:D):Prop:=
  ∃e,P.underlying t=some e∧((dR e=true∧off+P.cellsOf t≤cs.length∧d= .agg ((cs.drop off).take (P.cellsOf t)))∨(dR e=false∧cs[off]? =some d))
theorem mJ {z:Z P} {dyn:Bool} {t:TypeId} {cs:List D} {off:Nat} {k:Z P→D→Option ρ} (h:tw P z dyn t cs off k=some r):
  ∃z' d,k z' d=some r∧(z'.c→z.c∧my P t cs off d):=by
 unfold tw at h
 split at h
 ·cases h
 ·rename_i e he
  split at h
  ·rename_i ha
   obtain ⟨hk,h⟩:=cr h
   split at h
   ·obtain ⟨h1,h2⟩:=cr h
    exact ⟨z,_,h2,fun c=>⟨c,e,he,.inl ⟨ha,by simpa using h1,rfl⟩⟩⟩
   ·split at h
    ·rename_i l i n l' hg rest _
     refine ⟨_,_,h,fun c=>⟨c.2,e,he,.inl ⟨ha,?_,?_⟩⟩⟩
     ·rw [← c.1.1,← c.1.2.1,← c.1.2.2];exact hg.2
     ·rw [← c.1.1,← c.1.2.1,← c.1.2.2,hg.1]
    ·cases h
  ·rename_i ha
   split at h
   ·split at h
    ·rename_i d hd
     exact ⟨z,d,h,fun c=>⟨c,e,he,.inr ⟨ha,hd⟩⟩⟩
    ·cases h
   ·obtain ⟨z',d,h1,h2⟩:=ri h
    exact ⟨z',d,h1,fun c=>⟨(h2 c).1,e,he,.inr ⟨ha,(h2 c).2⟩⟩⟩
theorem pD {M:MM} {t:TypeId} {cs:List D} {off:Nat} {d:D} (hp:my P t cs off d) {vs:Array Value} (h:cN M cs vs):∃v,cz M d v∧∀w:World,(part t vs off).run P w= .ok v w:=by
 obtain ⟨e,he,⟨ha,hl,rfl⟩|⟨ha,hd⟩⟩:=hp
 ·have Vk:=h.sub off (P.cellsOf t) hl
  exact ⟨_,.agg Vk.1 Vk.2,fun w=>nU he ha vs off w⟩
 ·obtain ⟨v,hv,hr⟩:=h.get hd
  exact ⟨v,hr,fun w=>nT he ha hv w⟩
theorem j3 {M:MM} {t:TypeId} {cs:List D} {off b base:Nat} {d:D} (hp:my P t cs off d) {w:World} (vs:Nat→Value)
  (hc:∀j c,cs[j]? =some c→w.cell? ⟨b,base+j,none⟩=some (vs j)∧cz M c (vs j)):∃v,(loadVar t ⟨b,base+off,none⟩).run P w= .ok v w∧cz M d v:=by
 obtain ⟨e,he,⟨ha,hl,rfl⟩|⟨ha,hd⟩⟩:=hp
 ·let ws:Array Value:=((Xt (P.cellsOf t)).map fun j=>vs (off+j)).toArray
  have W1:∀j v,ws[j]? =some v→j<P.cellsOf t∧v=vs (off+j):=by
   intro j v hj
   simp only [ws,List.getElem?_toArray,XH,XF] at hj
   obtain ⟨x,hx,rfl⟩:=hj
   have QQ:j<P.cellsOf t:=by
    rcases XL j (P.cellsOf t) with h|h
    ·exact h
    ·rw [Xy (by simpa using h)] at hx;cases hx
   rw [List.getElem?_range QQ] at hx
   cases hx
   exact ⟨QQ,rfl⟩
  have QW:∀j,j<P.cellsOf t→∃c,cs[off+j]? =some c:=fun j hj=>⟨cs[off+j]'(by omega),by simp [show off+j<cs.length by omega]⟩
  refine ⟨.agg ws,p8 he ha ws (by simp [ws]) ?_,.agg ?_ ?_⟩
  ·intro j v hj
   obtain ⟨h1,rfl⟩:=W1 j v hj
   obtain ⟨c,Rp⟩:=QW j h1
   rw [Nat.add_assoc]
   exact (hc _ c Rp).1
  ·simp [ws];omega
  ·intro i c v a b
   obtain ⟨h1,rfl⟩:=W1 i v b
   rw [List.getElem?_take,if_pos h1,List.getElem?_drop] at a
   exact (hc _ c a).2
 ·obtain ⟨h1,h2⟩:=hc off d hd
  exact ⟨vs off,p7 he ha h1,h2⟩
end
def J0 (P:Program) (o:Oper) (a:Act) (w:World) (next:Act→World→Prop) (Q:Exit→Act→World→Prop):Prop:= ∀r:Option Nat,o.wpIn (FW r) 0 P a w next Q
theorem Dv {P:Program} {o:Oper} {ρ:Operand→Value} {c:Call} (ho:o.op= .defer c) {w w':World} {x:Next} (h:(execOp ρ o).run P w= .ok x w'):∃d,x= .defer d:=by
 unfold execOp at h
 rw [ho] at h
 simp only [XK] at h
 cases hr:(resolve ρ c o.type).run P w with
 |ok d w1=>rw [hr] at h;simp only [Xz,XQ,Result.ok.injEq] at h;exact ⟨d,h.1.symm⟩
 |halt a b=>rw [hr] at h;cases h
theorem mz {P:Program} {o:Oper} {ρ:Operand→Value} {w w':World} {x:Next} (h:(execOp ρ o).run P w= .ok x w') (hx:∀d,x≠ .defer d) (r:Option Nat):(o.semAt r ρ).run P w= .ok x w':=by
 by_cases hd:∃c,o.op= .defer c
 ·obtain ⟨c,hc⟩:=hd
  obtain ⟨d,hd⟩:=Dv hc h
  exact absurd hd (hx d)
 ·rw [Oper.semAt_eq r ρ o (fun c hc=>hd ⟨c,hc⟩)]
  exact h
def jI.pre (e:jI) (M:MM) (σ:Nat→Ob) (id:Nat):Prop:=match e with
  | .pure _=>True
  | .read i o _=>σ i=o
  | .iR i j d=>gM (σ i) j=some d
  | .gN i o _ _=>σ i=o
  | .new _ _=>M.box id=none∧∀v,M.cu id v=none
  | .all _ _=>False
def jI.post (e:jI) (σ:Nat→Ob) (id:Nat):Nat→Ob:=match e with
  | .gN i _ o' _=>Ev.gN σ i o'
  | .new o _=>Ev.gN σ id o
  |_=>σ
def jI.val (e:jI) (id:Nat):D:=match e with
  | .pure d=>d
  | .read _ _ d=>d
  | .iR _ _ d=>d
  | .gN _ _ _ d=>d
  | .new _ mk=>mk id
  | .all _ d=>d
def jI.PG (e:jI) (M M':MM) (id:Nat):Prop:=match e with
  | .gN i _ _ _=>M'.box=M.box∧∀j,j≠i→M'.cu j=M.cu j
  | .new _ _=>(∀j,j≠id→M'.box j=M.box j)∧∀j,j≠id→M'.cu j=M.cu j
  |_=>M'.box=M.box∧M'.cu=M.cu
def gz (P:Program) (o:Oper) (ρ:Operand→D) (e:jI):Prop:=
  ∀(w0:fg) (M:MM) (own:Nat→Option Nat) (σ:Nat→Ob) (w:World) (a:Act) (id:Nat),cJ w0 M own σ w→(∀x∈o.op.operands,cz M (ρ x) (a.eval x))→e.pre M σ id→
    ∀(next:Act→World→Prop) (Q:Exit→Act→World→Prop),
      (∀v M' QK w',M.Le M'→e.PG M M' id→cJ w0 M' QK (e.post σ id) w'→cz M' (e.val id) v→next (a.put o.dst v) w')→J0 P o a w next Q
section
variable {P:Program} {o:Oper} {ρ:Operand→D}
theorem gA {a:Act} {w w':World} {v:Value} {next:Act→World→Prop} {Q:Exit→Act→World→Prop} (h:(execOp a.eval o).run P w= .ok (.value v) w') (k:next (a.put o.dst v) w'):J0 P o a w next Q:=by
 intro r
 refine ⟨fun _ _=>trivial,?_⟩
 rw [show (FW r).round=r from rfl,mz h (fun d e=>by cases e) r]
 exact k
theorem qB {a:Act} {w w':World} {next:Act→World→Prop} {Q:Exit→Act→World→Prop} (h:(execOp a.eval o).run P w= .ok .skip w') (k:next (a.put o.dst undef) w'):J0 P o a w next Q:=by
 intro r
 refine ⟨fun _ _=>trivial,?_⟩
 rw [show (FW r).round=r from rfl,mz h (fun d e=>by cases e) r]
 exact k
theorem cI {d:D} (h:∀(M:MM) (w:World) (a:Act),(∀b o v,M.cell b o=some v→w.cell? ⟨b,o,none⟩=some v)→(∀x∈o.op.operands,cz M (ρ x) (a.eval x))→
  ∃v,(execOp a.eval o).run P w= .ok (.value v) w∧cz M d v):gz P o ρ (.pure d):=by
 intro w0 M own σ w a id hw hr _ next Q hn
 obtain ⟨v,h1,h2⟩:=h M w a hw.cells hr
 exact gA h1 (hn v M own w (.refl M) ⟨rfl,rfl⟩ hw h2)
theorem yn {d:D} (h:∀(M:MM) (w:World) (a:Act),(∀b o v,M.cell b o=some v→w.cell? ⟨b,o,none⟩=some v)→(∀x∈o.op.operands,cz M (ρ x) (a.eval x))→
  ∃v M' w',(execOp a.eval o).run P w= .ok (.value v) w'∧Ext M w M' w'∧M'.box=M.box∧M'.cu=M.cu∧M'.fV=M.fV∧cz M' d v):gz P o ρ (.pure d):=by
 intro w0 M own σ w a id hw hr _ next Q hn
 obtain ⟨v,M',w',h1,h2,h3,h4,hm,h5⟩:=h M w a hw.cells hr
 obtain ⟨k1,k2⟩:=hw.ext h2 h3 h4 hm
 exact gA h1 (hn v M' own w' k2 ⟨h3,h4⟩ k1 h5)
theorem pI {ty:TypeId} {x:Operand} {dyn:Bool} {id off:Nat} {cs:List D} {d:D} (ho:o.op= .load ty x) (hx:ρ x= .ptr dyn id off) (hp:my P ty cs off d):gz P o ρ (.read id (.box cs) d):=by
 intro w0 M own σ w a i hw hr Q6 next Q hn
 obtain ⟨b,vs,t,k⟩:=hw.box id cs Q6
 have S8:=hr x (by simp [ho,XD])
 rw [hx] at S8
 generalize hv:a.eval x=v at S8
 cases S8 with
 |ptr _ hb=>
  rename_i b'
  rw [k.box] at hb
  obtain rfl:=Xo hb
  have SS:∀j c,cs[j]? =some c→w.cell? ⟨b,0+j,none⟩=some (vs.getD j .nilFunc)∧cz M c (vs.getD j .nilFunc):=by
   intro j c hj
   obtain ⟨u,hu,hru⟩:=mF k.len k.rep hj
   rw [XV,hu]
   refine ⟨?_,hru⟩
   simp [World.cell?,k.dZ,hu]
  obtain ⟨v,h1,h2⟩:=j3 hp (fun j=>vs.getD j .nilFunc) SS
  rw [Yl] at h1
  refine gA (v:=v) (w':=w) ?_ (hn v M own w (.refl M) ⟨rfl,rfl⟩ hw h2)
  simp [execOp,ho,Instr.loadAt,Instr.sureAddr,hv,h1]
theorem v8 {ty:TypeId} {x:Operand} {dyn:Bool} {id off:Nat} {d:D} {e:TypeDesc} (ho:o.op= .load ty x) (hx:ρ x= .ptr dyn id off) (hu:P.underlying ty=some e) (ha:dR e=false):gz P o ρ (.iR id off d):=by
 intro w0 M own σ w a i hw hr Q6 next Q hn
 have Q6:gM (σ id) off=some d:=Q6
 cases hs:σ id with
 |box cs=>
  rw [hs] at Q6
  exact pI (cs:=cs) (d:=d) ho hx ⟨e,hu,.inr ⟨ha,Q6⟩⟩ w0 M own σ w a i hw hr hs next Q hn
 |_=>rw [hs] at Q6;cases Q6
theorem v7 {ty:TypeId} {x:Operand} {dyn:Bool} {y:D} {off:Nat} {cs:List D} {d:D} (ho:o.op= .load ty x) (hx:ρ x= .eV dyn y off) (hy:y.cells=some cs) (hp:my P ty cs off d):gz P o ρ (.pure d):=by
 refine cI fun M w a hc hr=> ?_
 have S8:=hr x (by simp [ho,XD])
 rw [hx] at S8
 generalize hv:a.eval x=v at S8
 cases S8 with
 |eV _ vs hx' TF Ug=>
  rw [hy] at hx'
  obtain rfl:=Xo hx'
  obtain ⟨v,h1,h2⟩:=j3 (M:=M) (w:=w) hp vs (fun j c hj=>⟨hc _ _ _ (TF j c hj),(Ug j c hj).mono (MM.lG M)⟩)
  exact ⟨v,by simp [execOp,ho,Instr.loadAt,Instr.sureAddr,hv,h1],h2⟩
theorem CB {x:Operand} (ho:o.op= .move x∨o.op= .assign x):gz P o ρ (.pure (ρ x)):=
 cI fun M w a _ hr=>⟨a.eval x,by rcases ho with h|h<;>simp [execOp,h],hr x (by rcases ho with h|h<;>simp [h,XD])⟩
theorem CA {c x y:Operand} {q:Bool} (ho:o.op= .pick c x y) (hc:ρ c= .bool q):gz P o ρ (.pure (if q then ρ x else ρ y)):=by
 refine cI fun M w a _ hr=> ?_
 have h1:=hr c (by simp [ho,XD])
 rw [hc] at h1
 generalize hv:a.eval c=v at h1
 cases h1
 have h2:=hr x (by simp [ho,XD])
 have h3:=hr y (by simp [ho,XD])
 refine ⟨if q then a.eval x else a.eval y,?_,by cases q<;>simpa⟩
 cases q<;>simp [execOp,ho,asBool,hv]
theorem mb {x:Operand} (ho:o.op= .nilCheck x) (hx:(∃q i f,ρ x= .ptr q i f)∨(∃q y f,ρ x= .eV q y f)∨∃g l r,ρ x= .fn (.func g) l r):gz P o ρ (.pure (ρ x)):=by
 refine cI fun M w a _ hr=> ?_
 have h1:=hr x (by simp [ho,XD])
 refine ⟨a.eval x,?_,h1⟩
 generalize hv:a.eval x=v at h1
 rcases hx with ⟨q,i,f,e⟩|⟨q,y,f,e⟩|⟨g,l,r,e⟩<;>rw [e] at h1<;>cases h1<;>simp [execOp,ho,hv]
theorem Ak {x:Operand} {i:Nat} {ds:List D} {d:D} (ho:o.op= .extract x i) (hx:ρ x= .aQ ds) (hd:ds[i]? =some d):gz P o ρ (.pure d):=by
 refine cI fun M w a _ hr=> ?_
 have h1:=hr x (by simp [ho,XD])
 rw [hx] at h1
 generalize hv:a.eval x=v at h1
 cases h1 with
 |aQ hl QR=>
  obtain ⟨u,hu,hru⟩:=cN.get ⟨hl,QR⟩ hd
  exact ⟨u,by simp [execOp,ho,Instr.extract,hv,hu],hru⟩
theorem yp {f:Fn} {first cap:Array Operand} (ho:o.op= .makeFunc f first cap):gz P o ρ (.pure (.fn f (first.toList.map ρ) (cap.toList.map ρ))):=by
 refine cI fun M w a _ hr=> ?_
 refine ⟨.func f (first.map a.eval) (cap.map a.eval),by simp [execOp,ho,Instr.makeFunc],.fn (by simp) (by simp) ?_ ?_⟩
 ·intro i d v h1 h2
  rw [XH,XF] at h1
  obtain ⟨x,hx,rfl⟩:=h1
  rw [XN] at hx
  rw [Array.getElem?_map,hx] at h2
  simp only [YI,Xv] at h2
  subst h2
  exact hr x (by simp [ho,XD,Array.mem_of_getElem? hx])
 ·intro i d v h1 h2
  rw [XH,XF] at h1
  obtain ⟨x,hx,rfl⟩:=h1
  rw [XN] at hx
  rw [Array.getElem?_map,hx] at h2
  simp only [YI,Xv] at h2
  subst h2
  exact hr x (by simp [ho,XD,Array.mem_of_getElem? hx])
theorem wb {s:TypeId} {x:Operand} {f:Nat} {fields:Array Field} {fd:Field} (ho:o.op= .fieldAddr s x f) (hs:P.underlying s=some (.struct fields)) (hf:fields[f]? =some fd)
  (hk:known P fd.type=true) (RF:0<P.cellsOf fd.type):
  (∀q i off,ρ x= .ptr q i off→gz P o ρ (.pure (.ptr q i (off+fd.offset))))∧(∀q y off,ρ x= .eV q y off→gz P o ρ (.pure (.eV q y (off+fd.offset)))):=by
 constructor
 ·intro q i off hx
  refine cI fun M w a _ hr=> ?_
  have h1:=hr x (by simp [ho,XD])
  rw [hx] at h1
  generalize hv:a.eval x=v at h1
  cases h1 with
  |ptr _ hb=>
   refine ⟨_,?_,.ptr q hb⟩
   simp [execOp,ho,Instr.fieldAt,run_underlying hs,hf,hv,Instr.sureAddr,fieldPlace,dx hk,Nat.ne_of_gt RF,gF]
 ·intro q y off hx
  refine cI fun M w a _ hr=> ?_
  have h1:=hr x (by simp [ho,XD])
  rw [hx] at h1
  generalize hv:a.eval x=v at h1
  cases h1 with
  |eV _ vs hx' TF Ug=>
   refine ⟨_,?_,.eV q vs hx' TF Ug⟩
   simp [execOp,ho,Instr.fieldAt,run_underlying hs,hf,hv,Instr.sureAddr,fieldPlace,dx hk,Nat.ne_of_gt RF,gF,Nat.add_assoc]
theorem HX {ty:TypeId} {x:Operand} {f:Nat} {fields:Array Field} {fd:Field} {cs:List D} {d:D} (ho:o.op= .field ty x f) (hs:P.underlying ty=some (.struct fields)) (hf:fields[f]? =some fd)
  (hx:ρ x= .agg cs) (hp:my P fd.type cs fd.offset d):gz P o ρ (.pure d):=by
 refine cI fun M w a _ hr=> ?_
 have h1:=hr x (by simp [ho,XD])
 rw [hx] at h1
 generalize hv:a.eval x=v at h1
 cases h1 with
 |agg hl QR=>
  obtain ⟨v,h2,h3⟩:=pD hp ⟨hl,QR⟩
  exact ⟨v,by simp [execOp,ho,Instr.field,run_underlying hs,hf,hv,asAgg,h3],h2⟩
theorem eg {M:MM} {d:D} {v:Value} {k:YO} {n:Int} (h:cz M d v) (e:d= .int k n):v= .int k n:=by subst e;cases h;rfl
theorem oe {ty:TypeId} {x ix:Operand} {k:YO} {i:Int} {len:Nat} {elem:TypeId} (ho:o.op= .indexAddr ty x ix) (hi:ρ ix= .int k i) (ht:P.underlying ty=some (.array len elem)) (hk:known P elem=true) (hb:0≤i∧i<len) (dyn:Bool):
  (∀q id off,ρ x= .ptr q id off→gz P o ρ (.pure (.ptr dyn id (off+i.toNat*P.cellsOf elem))))∧(∀q y off,ρ x= .eV q y off→gz P o ρ (.pure (.eV dyn y (off+i.toNat*P.cellsOf elem)))):=by
 constructor
 ·intro q id off hx
  refine cI fun M w a _ hr=> ?_
  have h1:=hr x (by simp [ho,XD])
  have h2:=eg (hr ix (by simp [ho,XD])) hi
  rw [hx] at h1
  generalize hv:a.eval x=v at h1
  cases h1 with
  |ptr _ hb'=>
   refine ⟨_,?_,.ptr dyn hb'⟩
   simp [execOp,ho,Instr.indexAt,h2,asIntOf,run_underlying ht,hv,Instr.sureAddr,hb,dx hk,gF]
 ·intro q y off hx
  refine cI fun M w a _ hr=> ?_
  have h1:=hr x (by simp [ho,XD])
  have h2:=eg (hr ix (by simp [ho,XD])) hi
  rw [hx] at h1
  generalize hv:a.eval x=v at h1
  cases h1 with
  |eV _ vs hx' TF Ug=>
   refine ⟨_,?_,.eV dyn vs hx' TF Ug⟩
   simp [execOp,ho,Instr.indexAt,h2,asIntOf,run_underlying ht,hv,Instr.sureAddr,hb,dx hk,gF,Nat.add_assoc]
theorem pe {ty:TypeId} {x ix:Operand} {k:YO} {i:Int} {elem:TypeId} {ow:kp} {sz:Nat} {xs:List D} {y:D} (ho:o.op= .indexAddr ty x ix) (hi:ρ ix= .int k i) (ht:P.underlying ty=some (.slice elem)) (hk:known P elem=true)
  (QX:P.cellsOf elem=sz) (hb:0≤i) (hx:ρ x= .bc ow sz xs) (hy:xs[i.toNat]? =some y):gz P o ρ (.pure (.eV false y 0)):=by
 refine cI fun M w a _ hr=> ?_
 have h1:=hr x (by simp [ho,XD])
 have h2:=eg (hr ix (by simp [ho,XD])) hi
 rw [hx] at h1
 generalize hv:a.eval x=v at h1
 cases h1 with
 |bc b off vs hl QP ha hs hc hrr QT Rz=>
  rename_i ad len cap
  have QQ:i.toNat<xs.length:=by
   rcases XL i.toNat xs.length with h|h
   ·exact h
   ·simp [Xy h] at hy
  have RR:xs≠ []:=fun e=>by simp [e] at QQ
  obtain rfl:=ha RR
  obtain ⟨cs,QW,hlen⟩:=hs _ _ hy
  refine ⟨.pointer (some ⟨b,(off+i.toNat*sz)+0,none⟩),?_,.eV false (fun j=>vs i.toNat j) QW (fun j c hj=>hc _ _ _ j c hy QW hj) (fun j c hj=>hrr _ _ _ j c hy QW hj)⟩
  have:i<len:=by omega
  simp [execOp,ho,Instr.indexAt,h2,asIntOf,run_underlying ht,hv,hb,this,dx hk,gF,QX]
theorem wa {ty:TypeId} {x ix:Operand} {k:YO} {i:Int} {len:Nat} {elem:TypeId} {cs:List D} {d:D} (ho:o.op= .index ty x ix) (hi:ρ ix= .int k i) (ht:P.underlying ty=some (.array len elem)) (hk:known P elem=true) (hb:0≤i∧i<len)
  (hx:ρ x= .agg cs) (hp:my P elem cs (i.toNat*P.cellsOf elem) d):gz P o ρ (.pure d):=by
 refine cI fun M w a _ hr=> ?_
 have h1:=hr x (by simp [ho,XD])
 have h2:=eg (hr ix (by simp [ho,XD])) hi
 rw [hx] at h1
 generalize hv:a.eval x=v at h1
 cases h1 with
 |agg hl QR=>
  obtain ⟨v,h3,h4⟩:=pD hp ⟨hl,QR⟩
  exact ⟨v,by simp [execOp,ho,Instr.index,h2,asIntOf,run_underlying ht,hv,hb,dx hk,h4],h3⟩
theorem v9 {ty:TypeId} {x ix:Operand} {k:YO} {i:Int} {s:ByteArray} {d:D} (ho:o.op= .index ty x ix) (hi:ρ ix= .int k i) (ht:P.underlying ty=some .string) (hb:0≤i)
  (hx:ρ x= .str s) (hp:(kN s)[i.toNat]? =some d):gz P o ρ (.pure d):=by
 refine cI fun M w a _ hr=> ?_
 have h1:=hr x (by simp [ho,XD])
 have h2:=eg (hr ix (by simp [ho,XD])) hi
 rw [hx] at h1
 generalize hv:a.eval x=v at h1
 cases h1
 unfold kN at hp
 rw [XH,XF] at hp
 obtain ⟨c,hc,rfl⟩:=hp
 rw [XN] at hc
 have TF:s[i.toNat]? =some c:=by
  have QQ:i.toNat<s.data.size:=by
   rcases XL i.toNat s.data.size with h|h
   ·exact h
   ·simp [Ye h] at hc
  have Wz:i.toNat<s.size:=QQ
  rw [getElem?_pos s i.toNat Wz]
  rw [getElem?_pos s.data i.toNat QQ] at hc
  exact hc
 exact ⟨.int .u8 c.toNat,by simp [execOp,ho,Instr.index,h2,asIntOf,run_underlying ht,hv,hb,TF],.int _ _⟩
end
section
variable {P:Program} {o:Oper} {ρ:Operand→D}
theorem yo {ty:TypeId} {x v:Operand} {dyn:Bool} {id off:Nat} {cs vc:List D} (ho:o.op= .store ty x v) (hx:ρ x= .ptr dyn id off) (hv:(ρ v).cells=some vc) (hk:known P ty=true)
  (QX:vc.length=P.cellsOf ty) (QT:∀d∈vc,storable d=true) (hl:off+vc.length≤cs.length):gz P o ρ (.gN id (.box cs) (.box (jl cs off vc)) .undef):=by
 intro w0 M own σ w a i hw hr Q6 next Q hn
 obtain ⟨b,vs,t,k⟩:=hw.box id cs Q6
 have S8:=hr x (by simp [ho,XD])
 have VK:=hr v (by simp [ho,XD])
 rw [hx] at S8
 generalize hva:a.eval x=va at S8
 cases S8 with
 |ptr _ hb=>
  rename_i b'
  rw [k.box] at hb
  obtain rfl:=Xo hb
  have Q2:=VK.cells hv
  have hlen:(a.eval v).cells.toList.length=vc.length:=by rw [Yf,← Q2.1]
  have RW:∀u∈(a.eval v).cells.toList,u.oneCell'=true:=by
   intro u hu
   obtain ⟨j,hj⟩:=List.mem_iff_getElem?.1 hu
   rw [XN] at hj
   have SN:j<vc.length:=by
    rcases XL j vc.length with h|h
    ·exact h
    ·rw [Q2.1] at h;simp [Ye h] at hj
   exact nQ (Q2.2 j vc[j] u (by simp [SN]) hj) (QT _ (by simp))
  have Q7:=iu (P:=P) (b:=b) (off:=off) (fz:=(0,0)) (a.eval v).cells.toList 0 w vs k.dZ RW (by rw [hlen];have:=k.len;omega) (fun o _ h=>by have:=h.2;simp at this)
  rw [Nat.add_zero] at Q7
  have QR:=nX (M:=M) k.len k.rep Q2 hl
  refine qB (w':=cW w b (.cells (eA vs off (a.eval v).cells.toList) t (0,0))) ?_ (hn undef M own _ (.refl M) ⟨rfl,fun _ _=>rfl⟩ (hw.Ha k QR.1 (eX _ _ _) QR.2) (.undef _))
  have he:(a.eval v).cells.size=P.cellsOf ty:=by rw [← Q2.1,QX]
  simp [execOp,ho,Instr.storeAt,Instr.sureAddr,hva,storeVar,dx hk,he,Q7]
theorem pf {cs:List D} (h:∀(M:MM) (w:World) (a:Act),(∀x∈o.op.operands,cz M (ρ x) (a.eval x))→∃vs ty,(execOp a.eval o).run P w= .ok (.value (.pointer (some ⟨w.heap.size,0,none⟩))) (w.alloc (.cells vs ty))∧cN M cs vs):
  gz P o ρ (.new (.box cs) fun id=> .ptr false id 0):=by
 intro w0 M own σ w a id hw hr Q6 next Q hn
 obtain ⟨vs,ty,h1,h2⟩:=h M w a hr
 have k:=hw.IA Q6.1 Q6.2 ty (Nat.le_of_eq h2.1) h2.2
 exact gA h1 (hn _ _ _ _ (MM.iB Q6.1) ⟨fun j hj=>by simp [MM.eK,hj],fun _ _=>rfl⟩ k (.ptr false (by simp [MM.eK])))
theorem MN {e:TypeId} {x:Operand} {cs:List D} (ho:o.op= .box e x) (hx:(ρ x).cells=some cs):gz P o ρ (.new (.box cs) fun id=> .ptr false id 0):=by
 refine pf fun M w a hr=>⟨(a.eval x).cells,e,?_,(hr x (by simp [ho,XD])).cells hx⟩
 simp [execOp,ho,Instr.box,newVar,newRow]
theorem jh {t:TypeId} {d:D} (h:kv P t=some d):∃i v,P.info? t=some i∧i.zero=some v∧d=fh v:=by
 unfold kv at h
 split at h
 ·rename_i i hi
  split at h
  ·rename_i v hv
   exact ⟨i,v,hi,hv,(Xo h).symm⟩
  ·cases h
 ·cases h
theorem HZ {e:TypeId} {d:D} {cs:List D} (ho:o.op= .alloc e) (hz:kv P e=some d) (hc:d.cells=some cs):gz P o ρ (.new (.box cs) fun id=> .ptr false id 0):=by
 obtain ⟨i,v,hi,hv,rfl⟩:=jh hz
 refine pf fun M w a hr=>⟨v.cells,e,?_,(j5 (M:=M) v).cells hc⟩
 simp [execOp,ho,Instr.alloc,fA hi hv,newVar,newRow]
theorem Et {e:TypeId} {d:D} (ho:o.op= .alloc e) (hz:kv P e=some d) (h1:GF P e=true):gz P o ρ (.new (.box [.undef]) fun id=> .ptr false id 0):=by
 obtain ⟨i,v,hi,hv,rfl⟩:=jh hz
 have hs:v.cells.size=1:=by
  unfold GF at h1
  rw [hi] at h1
  simp only [hv,XR] at h1
  exact h1
 refine pf fun M w a hr=>⟨v.cells,e,?_,hs.symm,fun j d u x y=> ?_⟩
 ·simp [execOp,ho,Instr.alloc,fA hi hv,newVar,newRow]
 ·cases j with
  |zero=>simp at x;subst x;exact .undef u
  |succ j=>simp at x
theorem FC (l:List Value):∀(cells:Array Value) (off k:Nat),(l.zipIdx k).foldl (fun cs (p:Value×Nat)=>cs.setIfInBounds (off+p.2) p.1) cells=eA cells (off+k) l:=by
 induction l with
 |nil=>intro cells off k;rfl
 |cons x r ih=>intro cells off k;simp [List.zipIdx_cons,eA,ih,Nat.add_assoc]
theorem rQ (v cells:Array Value) (off:Nat):v.zipIdx.foldl (fun cs (c,j)=>cs.setIfInBounds (off+j) c) cells=eA cells off v.toList:=by
 rw [← Array.foldl_toList,Array.toList_zipIdx]
 exact FC v.toList cells off 0
def LG (M:MM):List (Nat×D)→List (Nat×Value)→Prop
  | [],[]=>True
  |(i,d)::r,(j,v)::s=>i=j∧cz M d v∧LG M r s
  |_,_=>False
theorem xW {M:MM} {a:Act} (ps:List (Nat×Operand)) (h:∀p∈ps,cz M (ρ p.2) (a.eval p.2)):LG M (ps.map fun p=>(p.1,ρ p.2)) (ps.map fun p=>(p.1,a.eval p.2)):=by
 induction ps with
 |nil=>trivial
 |cons p r ih=>exact ⟨rfl,h p (by simp),ih fun q hq=>h q (by simp [hq])⟩
theorem wA {M:MM} (place:Nat→Option (Nat×Nat)):∀(parts:List (Nat×D)) (RI:List (Nat×Value)) (cells cs:List D) (arr:Array Value),LG M parts RI→cN M cells arr→ub place cells parts=some cs→
  ∃arr',Instr.fill place arr RI=some arr'∧cN M cs arr'
 | [],[],cells,cs,arr,_,h,e=>by
  simp only [ub,Xv] at e;subst e;exact ⟨arr,rfl,h⟩
 | [],_::_,_,_,_,hp,_,_=>hp.elim
 |_::_,[],_,_,_,hp,_,_=>hp.elim
 |(i,d)::r,(j,v)::s,cells,cs,arr,hp,h,e=>by
  obtain ⟨rfl,hd,hp⟩:=hp
  unfold ub at e
  split at e
  ·rename_i off size vc Sr Ue
   split at e
   ·rename_i hb
    rw [Xp,XR,YB] at hb
    have V3:=hd.cells Ue
    have QX:off+vc.length≤cells.length:=by omega
    obtain ⟨arr',h1,h2⟩:=wA place r s _ cs _ hp (xX h V3 QX) e
    refine ⟨arr',?_,h2⟩
    have e1:v.cells.size=size:=by rw [← V3.1];exact hb.1
    have e2:¬(off+v.cells.size>arr.size):=by rw [← h.1,e1];omega
    rw [Instr.fill,Sr]
    simp only [e1,ne_eq,not_true_eq_false,decide_false,Bool.false_or]
    rw [← e1]
    simp only [e2,decide_false,Yb,if_false,rQ]
    exact h1
   ·cases e
  ·cases e
theorem sK {α β:Type} (f:α→Sem β) (g:α→β) (l:List α) (h:∀x∈l,∀w,(f x).run P w= .ok (g x) w):∀w,(l.mapM f).run P w= .ok (l.map g) w:=by
 induction l with
 |nil=>intro w;simp
 |cons x r ih=>
  intro w
  simp [List.mapM_cons,h x (by simp),ih fun y hy=>h y (by simp [hy])]
theorem HY {ty:TypeId} {parts:Array (Nat×Operand)} {d:D} (ho:o.op= .build ty parts) (hb:BJ P ty (parts.toList.map fun p=>(p.1,ρ p.2))=some d):gz P o ρ (.pure d):=by
 refine cI fun M w a _ hr=> ?_
 have SL:=xW (M:=M) (ρ:=ρ) (a:=a) parts.toList (fun p hp=>hr p.2 (by
  simp only [ho,XD]
  exact List.mem_toArray.2 (List.mem_map.2 ⟨p,hp,rfl⟩)))
 have VA:(parts.map fun (i,x)=>(i,a.eval x)).toList=parts.toList.map fun p=>(p.1,a.eval p.2):=by simp
 unfold BJ at hb
 split at hb
 ·cases hb
 ·rename_i z hz
  obtain ⟨i,v,hi,hv,rfl⟩:=jh hz
  split at hb
  ·cases hb
  ·rename_i zero T8
   have Xb:=(j5 (M:=M) v).cells T8
   split at hb
   ·rename_i fields ht
    split at hb
    ·rename_i R9
     split at hb
     ·rename_i cs QW
      simp only [Xv] at hb
      subst hb
      obtain ⟨arr,h1,h2⟩:=wA (M:=M) _ _ _ _ _ _ SL Xb QW
      refine ⟨.agg arr,?_,.agg h2.1 h2.2⟩
      have hm:∀w:World,(fields.mapM fun (f:Field)=>(do pure (f.offset,← sizeOf f.type):Sem (Nat×Nat))).run P w= .ok (fields.map fun (f:Field)=>(f.offset,P.cellsOf f.type)) w:=by
       intro w
       rw [Array.mapM_eq_mapM_toList]
       rw [XZ] at R9
       have:=sK (P:=P) (fun f:Field=>(do pure (f.offset,← sizeOf f.type):Sem (Nat×Nat))) (fun f=>(f.offset,P.cellsOf f.type)) fields.toList (fun f hf w=>by simp [dx (R9 f hf)]) w
       simp only [Sem.run_map,this,Xz]
       rw [← Array.toList_map,Array.toArray_toList]
      have Sr:(fun (i:Nat)=>(fields.map fun (f:Field)=>(f.offset,P.cellsOf f.type))[i]?)=fun (i:Nat)=>(fields[i]?).map fun (f:Field)=>(f.offset,P.cellsOf f.type):=by
       funext i;simp
      simp only [execOp,ho,Instr.build,XK,fA hi hv,Xz,run_underlying ht]
      simp only [hm,Xz,VA,Sr,h1,XQ]
     ·cases hb
    ·cases hb
   ·rename_i n elem ht
    split at hb
    ·rename_i hk
     split at hb
     ·rename_i cs QW
      simp only [Xv] at hb
      subst hb
      obtain ⟨arr,h1,h2⟩:=wA (M:=M) _ _ _ _ _ _ SL Xb QW
      refine ⟨.agg arr,?_,.agg h2.1 h2.2⟩
      simp only [execOp,ho,Instr.build,XK,fA hi hv,Xz,run_underlying ht,dx hk,VA,h1,XQ]
     ·cases hb
    ·cases hb
   ·cases hb
theorem pC {k k':YO} (h:gY k k'=true):k=k':=by cases k<;>cases k'<;>first|rfl|(simp [gY] at h)
theorem MO {op:BinOp} {t t':TypeId} {x y:Operand} {d:D} (ho:o.op= .binOp op t x y t')
  (h:∀(M:MM) (w:World) (u v:Value),cz M (ρ x) u→cz M (ρ y) v→∃r,(do eqGuard op t x y u v;binOp op t u v:Sem Value).run P w= .ok r w∧cz M d r):gz P o ρ (.pure d):=by
 refine cI fun M w a _ hr=> ?_
 obtain ⟨r,h1,h2⟩:=h M w _ _ (hr x (by simp [ho,XD])) (hr y (by simp [ho,XD]))
 refine ⟨r,?_,h2⟩
 simp only [execOp,ho]
 rw [XK,h1]
 rfl
end
section
variable {ρ':Type} {P:Program} {r:ρ'}
theorem AA {z:Z P} {st:Bool} {op:BinOp} {k:YO} {a b:Int} {K:Z P→D→Option ρ'} (h:AB z st op k a b K=some r) (SK:op≠ .shl) (WO:op≠ .shr):
  ∃z' d,K z' d=some r∧(z'.c→z.c∧∀(M:MM) (w:World) (t:TypeId) (x y:Operand),∃v,(do eqGuard op t x y (.int k a) (.int k b);binOp op t (.int k a) (.int k b):Sem Value).run P w= .ok v w∧cz M d v):=by
 cases op<;>simp only [AB] at h
 case shl=>exact absurd rfl SK
 case shr=>exact absurd rfl WO
 case quo=>
  obtain ⟨z',h1,h2⟩:=hU h
  refine ⟨z',_,h1,fun c=>⟨(h2 c).1,fun M w t x y=>⟨_,?_,.int _ _⟩⟩⟩
  have hb:b≠0:=by simpa using (h2 c).2
  simp [eqGuard,binOp,Op.intDiv,hb]
 case rem=>
  obtain ⟨z',h1,h2⟩:=hU h
  refine ⟨z',_,h1,fun c=>⟨(h2 c).1,fun M w t x y=>⟨_,?_,.int _ _⟩⟩⟩
  have hb:b≠0:=by simpa using (h2 c).2
  simp [eqGuard,binOp,Op.intDiv,hb]
 case and=>exact ⟨z,_,h,fun c=>⟨c,fun M w t x y=>⟨.int k _,by rw [eqGuard_at_int];simp only [pure_bind,binOp,ne_eq,not_true_eq_false,if_false];rfl,.int _ _⟩⟩⟩
 case or=>exact ⟨z,_,h,fun c=>⟨c,fun M w t x y=>⟨.int k _,by rw [eqGuard_at_int];simp only [pure_bind,binOp,ne_eq,not_true_eq_false,if_false];rfl,.int _ _⟩⟩⟩
 case xor=>exact ⟨z,_,h,fun c=>⟨c,fun M w t x y=>⟨.int k _,by rw [eqGuard_at_int];simp only [pure_bind,binOp,ne_eq,not_true_eq_false,if_false];rfl,.int _ _⟩⟩⟩
 case andNot=>exact ⟨z,_,h,fun c=>⟨c,fun M w t x y=>⟨.int k _,by rw [eqGuard_at_int];simp only [pure_bind,binOp,ne_eq,not_true_eq_false,if_false];rfl,.int _ _⟩⟩⟩
 case add=>exact ⟨z,_,h,fun c=>⟨c,fun M w t x y=>⟨.int k _,by rw [eqGuard_at_int];simp only [pure_bind,binOp,ne_eq,not_true_eq_false,if_false];rfl,.int _ _⟩⟩⟩
 case sub=>exact ⟨z,_,h,fun c=>⟨c,fun M w t x y=>⟨.int k _,by rw [eqGuard_at_int];simp only [pure_bind,binOp,ne_eq,not_true_eq_false,if_false];rfl,.int _ _⟩⟩⟩
 case mul=>exact ⟨z,_,h,fun c=>⟨c,fun M w t x y=>⟨.int k _,by rw [eqGuard_at_int];simp only [pure_bind,binOp,ne_eq,not_true_eq_false,if_false];rfl,.int _ _⟩⟩⟩
 all_goals exact ⟨z,_,h,fun c=>⟨c,fun M w t x y=>⟨.bool _,by rw [eqGuard_at_int];simp only [pure_bind,binOp,ne_eq,not_true_eq_false,if_false];rfl,.bool _⟩⟩⟩
theorem rY {M:MM} :∀ {ks:List LK} {xs:List D} {vs:List Value},ki ks xs=true→xs.length=vs.length→(∀(i:Nat) (d:D) (v:Value),xs[i]? =some d→vs[i]? =some v→cz M d v)→eG ks vs
 | [],[],[],_,_,_=>trivial
 | [],[],_::_,_,h,_=>by simp at h
 | [],_::_,_,h,_,_=>by simp [ki] at h
 |_::_,[],_,h,_,_=>by simp [ki] at h
 |_::_,_::_,[],_,h,_=>by simp at h
 |k::ks,d::ds,v::vs,h,hl,hr=>by
  simp only [ki,Xp] at h
  have h0:=hr 0 d v rfl rfl
  refine ⟨?_,rY h.2 (by simpa using hl) fun i d v a b=>hr (i+1) d v (by simpa using a) (by simpa using b)⟩
  have h1:=h.1
  cases k<;>cases d<;>simp only [LK.fits,Yb] at h1<;>cases h0
  ·trivial
  ·exact pC h1
  ·trivial
theorem pR {M:MM} :∀ {ks:List LK} {xs ys:List D} {us vs:List Value},ki ks xs=true→ki ks ys=true→xs.length=us.length→ys.length=vs.length→
  (∀(i:Nat) (d:D) (v:Value),xs[i]? =some d→us[i]? =some v→cz M d v)→(∀(i:Nat) (d:D) (v:Value),ys[i]? =some d→vs[i]? =some v→cz M d v)→dY us vs=bA xs ys
 | [],xs,ys,us,vs,hx,hy,lx,ly,_,_=>by
  cases xs<;>cases ys<;>simp [ki] at hx hy
  cases us<;>cases vs<;>simp at lx ly
  rfl
 |k::ks,xs,ys,us,vs,hx,hy,lx,ly,rx,ry=>by
  cases xs with
  |nil=>simp [ki] at hx
  |cons x xs=>
  cases ys with
  |nil=>simp [ki] at hy
  |cons y ys=>
  cases us with
  |nil=>simp at lx
  |cons u us=>
  cases vs with
  |nil=>simp at ly
  |cons v vs=>
   simp only [ki,Xp] at hx hy
   have r1:=rx 0 x u rfl rfl
   have r2:=ry 0 y v rfl rfl
   have ih:=pR hx.2 hy.2 (by simpa using lx) (by simpa using ly) (fun i d v a b=>rx (i+1) d v (by simpa using a) (by simpa using b)) (fun i d v a b=>ry (i+1) d v (by simpa using a) (by simpa using b))
   simp only [dY,bA,ih]
   congr 1
   have h1:=hx.1
   have h2:=hy.1
   cases k<;>cases x<;>simp only [LK.fits,Yb] at h1<;>cases y<;>simp only [LK.fits,Yb] at h2<;>cases r1<;>cases r2<;>rfl
theorem Nj {w:World} {t:TypeId} {u v:Value} {b:Bool} (he:binOp .eql t u v=(do pure (.bool (← Op.equal t u v)):Sem Value)) (hn:binOp .neq t u v=(do pure (.bool (!(← Op.equal t u v))):Sem Value))
  (h:(Op.equal t u v).run P w= .ok b w):(binOp .eql t u v).run P w= .ok (.bool b) w∧(binOp .neq t u v).run P w= .ok (.bool (!b)) w:=by
 rw [he,hn,XK,XK,h]
 exact ⟨rfl,rfl⟩
theorem CZ {z : Z P} {t : TypeId} {x y : D} {K : Z P → Bool → Option ρ'} (h : O3 P z t x y K = some r) :
    ∃z' b,K z' b=some r∧(z'.c→z.c)∧∀(M:MM) (w:World) (u v:Value),cz M x u→cz M y v→
      (∀op px py,(eqGuard op t px py u v).run P w= .ok () w)∧(binOp .eql t u v).run P w= .ok (.bool b) w∧(binOp .neq t u v).run P w= .ok (.bool (!b)) w:=by
  unfold O3 at h
  split at h
  ·
    split at h
    · rename_i ht
      refine ⟨z,_,h,id,fun M w u v hu hv=> ?_⟩
      cases hu;cases hv
      exact ⟨fun op px py=>by rw [eqGuard_at_bool];rfl,run_eql_bool w t _ _ ht,run_neq_bool w t _ _ ht⟩
    · cases h
  · rename_i xs ys
    split at h
    · rename_i t' ks hf rest _
      obtain ⟨h1,h2⟩:=cr h
      rw [Xp,Xp,XR] at h1
      obtain ⟨ht,hx,hy⟩:=h1
      subst ht
      refine ⟨_,_,h2,id,fun M w u v hu hv=> ?_⟩
      cases hu with
      |agg l1 r1=>
        cases hv with
        |agg l2 r2=>
          rename_i us vs
          have lx:xs.length=us.toList.length:=by simpa using l1
          have ly:ys.length=vs.toList.length:=by simpa using l2
          have e1:=rY (M:=M) hx lx (fun i d v a b=>r1 i d v a (by simpa using b))
          have e2:=rY (M:=M) hy ly (fun i d v a b=>r2 i d v a (by simpa using b))
          have e3:=pR (M:=M) hx hy lx ly (fun i d v a b=>r1 i d v a (by simpa using b)) (fun i d v a b=>r2 i d v a (by simpa using b))
          have e4:=hf.eq us vs w e1 e2
          refine ⟨fun op px py=>run_eqGuard_agg w op t' px py us vs hf.plain,?_,?_⟩
          · rw [run_eql_struct,e4,e3];rfl
          · rw [run_neq_struct,e4,e3];rfl
    · cases h
  all_goals first
    | (split at h
       · rename_i ht
         refine ⟨z,_,h,id,fun M w u v hu hv=> ?_⟩
         cases hu;cases hv
         refine ⟨fun op px py=>by cases op<;>rfl,?_⟩
         refine Nj rfl rfl ?_
         show (Op.equalIn (9999+1) t _ _).run P w=_
         unfold Op.equalIn
         simp only [XK,run_underlying ht,Xz,XQ,Option.isNone_none]
       · cases h)
    |cases h
theorem Jw {z:Z P} {st:Bool} {op:BinOp} {t:TypeId} {x y:D} {K:Z P→D→Option ρ'} (h:Nq P z st op t x y K=some r):
  ∃z' d,K z' d=some r∧(z'.c→z.c∧∀(M:MM) (w:World) (px py:Operand) (u v:Value),cz M x u→cz M y v→
   ∃q,(do eqGuard op t px py u v;binOp op t u v:Sem Value).run P w= .ok q w∧cz M d q):=by
 unfold Nq at h
 split at h
 ·rename_i k a k' b
  split at h
  ·obtain ⟨z',h1,h2⟩:=hU h
   refine ⟨z',_,h1,fun c=>⟨(h2 c).1,fun M w px py u v hu hv=> ?_⟩⟩
   cases hu;cases hv
   have hb:¬b<0:=by have:=(h2 c).2;simp at this;omega
   exact ⟨_,by simp [eqGuard,binOp,Op.shift,hb]<;>rfl,.int _ _⟩
  ·obtain ⟨z',h1,h2⟩:=hU h
   refine ⟨z',_,h1,fun c=>⟨(h2 c).1,fun M w px py u v hu hv=> ?_⟩⟩
   cases hu;cases hv
   have hb:¬b<0:=by have:=(h2 c).2;simp at this;omega
   exact ⟨_,by simp [eqGuard,binOp,Op.shift,hb]<;>rfl,.int _ _⟩
  ·rename_i SK WO
   obtain ⟨h1,h2⟩:=cr h
   obtain rfl:=pC h1
   obtain ⟨z',d,h3,h4⟩:=AA h2 SK WO
   refine ⟨z',d,h3,fun c=>⟨(h4 c).1,fun M w px py u v hu hv=> ?_⟩⟩
   cases hu;cases hv
   exact (h4 c).2 M w t px py
 ·split at h
  ·refine ⟨z,_,h,fun c=>⟨c,fun M w px py u v hu hv=> ?_⟩⟩
   cases hu;cases hv
   exact ⟨_,by simp [eqGuard,binOp,Op.stringOp]<;>rfl,.bool _⟩
  ·refine ⟨z,_,h,fun c=>⟨c,fun M w px py u v hu hv=> ?_⟩⟩
   cases hu;cases hv
   exact ⟨_,by simp [eqGuard,binOp,Op.stringOp]<;>rfl,.bool _⟩
  ·cases h
 ·split at h
  ·obtain ⟨z',b,h1,h2,h3⟩:=CZ h
   refine ⟨z',_,h1,fun c=>⟨h2 c,fun M w px py u v hu hv=> ?_⟩⟩
   obtain ⟨e1,e2,e3⟩:=h3 M w u v hu hv
   exact ⟨_,by rw [XK,e1];exact e2,.bool _⟩
  ·obtain ⟨z',b,h1,h2,h3⟩:=CZ h
   refine ⟨z',_,h1,fun c=>⟨h2 c,fun M w px py u v hu hv=> ?_⟩⟩
   obtain ⟨e1,e2,e3⟩:=h3 M w u v hu hv
   exact ⟨_,by rw [XK,e1];exact e3,.bool _⟩
  ·cases h
theorem J2 {op:UnOp} {x:D} {K:D→Option ρ'} (h:O8 op x K=some r):∃d,K d=some r∧∀(M:MM) (w:World) (u:Value),cz M x u→∃v,(Op.unary op u).run P w= .ok v w∧cz M d v:=by
 unfold O8 at h
 split at h
 ·refine ⟨_,h,fun M w u hu=> ?_⟩
  cases hu
  exact ⟨_,by simp [Op.unary,Op.intArith]<;>rfl,by simpa using .int _ _⟩
 ·refine ⟨_,h,fun M w u hu=> ?_⟩
  cases hu
  exact ⟨_,by simp [Op.unary,Op.intBits]<;>rfl,.int _ _⟩
 ·refine ⟨_,h,fun M w u hu=> ?_⟩
  cases hu
  exact ⟨_,by simp [Op.unary]<;>rfl,.bool _⟩
 ·cases h
end
theorem jN {a b:YO} (h:gY a b=true):a=b:=by cases a<;>cases b<;>first|rfl|(simp [gY] at h)
theorem BK:nF [] 0:=⟨rfl,fun i e h=>by simp at h⟩
theorem te {l:List MapEntry} {c j:Nat} {f:MapEntry→MapEntry} (hf:∀e,(f e).born=e.born) (h:nF l c):nF (l.modify j f) c:=by
 refine ⟨by rw [List.length_modify];exact h.1,fun i e he=> ?_⟩
 rw [List.getElem?_modify] at he
 cases hl:l[i]? with
 |none=>rw [hl] at he;cases he
 |some e0=>
  rw [hl] at he
  have h0:=h.2 i e0 hl
  simp only [Option.map_eq_map,YI,Xv] at he
  split at he
  ·rw [← he,hf];exact h0
  ·rw [← he];exact h0
theorem zb {l:List MapEntry} {c:Nat} {k v:Value} (h:nF l c):nF (l++ [⟨k,v,c⟩]) (c+1):=by
 refine ⟨by simp [h.1],fun i e he=> ?_⟩
 rw [Yu] at he
 split at he
 ·exact h.2 i e he
 ·rename_i hi
  have:i=l.length:=by
   rcases Nat.lt_trichotomy i l.length with q|q|q
   ·exact absurd q hi
   ·exact q
   ·rw [Xy (by simp;omega)] at he;cases he
  subst this
  simp only [Nat.sub_self,Yr,Xv] at he
  rw [← he];exact h.1
theorem Dw {M:MM} {d:D} {v:Value} (h:nS d=some v):cz M d v:=by
 cases d<;>simp only [nS,Xv,reduceCtorEq] at h<;>subst h
 ·exact .int _ _
 ·exact .bool _
 ·exact .str _
theorem Hc {M:MM} {d:D} {v:Value} (h:cz M d v) (hs:rF d=true):nS d=some v:=by
 cases h<;>first|rfl|(simp [rF] at hs)
theorem pt {k q:YO} {n:Int} :∀ {es:List (Int×D)} {l:List MapEntry} (i:Nat),sb k es l→
  (∃j v d e,(oj es n=some d∧Fj es n=j)∧nS d=some v∧Instr.findNow (.int q) (.int k n) l i=some (some (i+j,v))∧l[j]? =some e∧e.key= .int k n∧∀v2 d2,nS d2=some v2→sb k (m7 es n d2) (l.modify j fun e=> { e with key:= .int k n,val:=v2 }))∨
  ((oj es n=none∧Fj es n=es.length)∧Instr.findNow (.int q) (.int k n) l i=some none∧∀v2 d2 c,nS d2=some v2→sb k (m7 es n d2) (l++ [⟨.int k n,v2,c⟩]))
 | [],[],i,_=> .inr ⟨⟨rfl,rfl⟩,rfl,fun v2 d2 c h=>⟨rfl,h,trivial⟩⟩
 | [],_::_,_,h=>h.elim
 |(_,_)::_,[],_,h=>h.elim
 |(a,d)::r,e::s,i,h=>by
  obtain ⟨h1,h2,h3⟩:=h
  have Rv:Instr.sameNow (.int q) (.int k n) e.key=some (n==a):=by rw [h1];simp [Instr.sameNow]
  by_cases hn:(n==a)=true
  ·left
   have hna:n=a:=by simpa using hn
   refine ⟨0,e.val,d,e,?_,h2,?_,rfl,by rw [h1,hna],?_⟩
   ·simp [oj,Fj,hn]
   ·simp [Instr.findNow,Rv,hn]
   ·intro v2 d2 hd
    simp only [m7,hn,List.modify_zero_cons]
    exact ⟨rfl,hd,h3⟩
  ·have U2:(n==a)=false:=by simpa using hn
   rcases pt (q:=q) (n:=n) (i+1) h3 with ⟨j,v,d',e',k1,k2,k3,k4,k5,k6⟩|⟨k1,k2,k3⟩
   ·left
    refine ⟨j+1,v,d',e',?_,k2,?_,by simpa using k4,k5,?_⟩
    ·simp [oj,Fj,U2,k1]
    ·simp only [Instr.findNow,Rv,U2]
     rw [k3,show i+1+j=i+(j+1) by omega]
    ·intro v2 d2 hd
     simp only [m7,U2,List.modify_succ_cons]
     exact ⟨h1,h2,k6 v2 d2 hd⟩
   ·right
    refine ⟨?_,?_,?_⟩
    ·simp [oj,Fj,U2,k1]
    ·simp only [Instr.findNow,Rv,U2,k2]
    ·intro v2 d2 c hd
     simp only [m7,U2,List.cons_append]
     exact ⟨h1,h2,k3 v2 d2 c hd⟩
section
variable {P:Program} {o:Oper} {ρ:Operand→D}
theorem me {t:TypeId} {k:YO} {et:TypeId} (h:kG P t=some (k,et)):∃kt,P.underlying t=some (.map kt et)∧P.underlying kt=some (.int k):=by
 unfold kG at h
 split at h
 ·rename_i kt et' ht
  split at h
  ·rename_i k' hk
   simp only [Xv,Prod.mk.injEq] at h
   obtain ⟨rfl,rfl⟩:=h
   exact ⟨kt,ht,hk⟩
  ·cases h
 ·cases h
theorem jR {kt:TypeId} {q:YO} (hk:P.underlying kt=some (.int q)) (b:Bool) (v:Value) (w:World):(Instr.checkKey b 10000 kt v).run P w= .ok () w:=by
 unfold Instr.checkKey
 simp [run_underlying hk]
theorem Aj {ty:TypeId} {r:Option Operand} {k:YO} {et:TypeId} (ho:o.op= .makeMap ty r) (hk:kG P ty=some (k,et)) (hr:∀x,r=some x→∃q n,ρ x= .int q n):
  gz P o ρ (.new (.mp k []) fun id=> .gj id):=by
 intro w0 M own σ w a id hw QR Q6 next Q hn
 obtain ⟨kt,h1,h2⟩:=me hk
 have Q7:(execOp a.eval o).run P w= .ok (.value (.map (some w.heap.size))) (w.alloc (.map #[] 0)):=by
  cases r with
  |none=>simp [execOp,ho,Instr.makeMap]
  |some x=>
   obtain ⟨q,n,hx⟩:=hr x rfl
   have:=eg (QR x (by simp [ho,XD])) hx
   simp [execOp,ho,Instr.makeMap,run_underlying h1,this,asInt,asIntOf]
 have k:=hw.MT Q6.1 (o:= .mp k []) rfl ⟨trivial,BK⟩
 exact gA Q7 (hn _ _ _ _ (MM.iB Q6.1) ⟨fun j hj=>by simp [MM.eK,hj],fun _ _=>rfl⟩ k (.gj (by simp [MM.eK])))
theorem Es {ty:TypeId} {m kx v:Operand} {id:Nat} {q:YO} {n:Int} {es:List (Int×D)} {et:TypeId} (ho:o.op= .insert ty m kx v∨o.op= .mapUpdate ty m kx v) (hk:kG P ty=some (q,et))
  (hm:ρ m= .gj id) (hx:ρ kx= .int q n) (hv:rF (ρ v)=true):gz P o ρ (.gN id (.mp q es) (.mp q (m7 es n (ρ v))) .undef):=by
 intro w0 M own σ w a i hw hr Q6 next Q hn
 obtain ⟨kt,t1,t2⟩:=me hk
 obtain ⟨b,QV,clock,k⟩:=hw.mp id _ (by rw [(Q6:σ id=_)];rfl)
 have TQ:m∈o.op.operands∧kx∈o.op.operands∧v∈o.op.operands:=by rcases ho with h|h<;>simp [h,XD]
 have UE:=hr m TQ.1
 have S8:=eg (hr kx TQ.2.1) hx
 have VK:=Hc (hr v TQ.2.2) hv
 rw [hm] at UE
 generalize hva:a.eval m=va at UE
 cases UE with
 |gj hb=>
  rename_i b'
  rw [k.box] at hb
  obtain rfl:=Xo hb
  have Rx:(execOp a.eval o).run P w=((Instr.mapUpdate ty (.map (some b)) (.int q n) (a.eval v)).run P w).andThen fun _ w'=> .ok .skip w':=by
   rcases ho with h|h<;>simp [execOp,h,hva,S8]
  rcases pt (q:=q) (n:=n) 0 k.fits.1 with ⟨j,v0,d0,e0,k1,k2,k3,k4,k5,k6⟩|⟨k1,k2,k3⟩
  ·have SE:sb q (m7 es n (ρ v)) (QV.modify j fun e=> { e with key:= .int q n,val:=a.eval v }).toList:=by
    rw [Array.toList_modify];exact k6 _ _ VK
   have TV:=hw.G8 k clock (o':= .mp q (m7 es n (ρ v))) rfl ⟨SE,by rw [Array.toList_modify];exact te (fun _=>rfl) k.fits.2⟩
   refine qB (w':=cW w b (.map (QV.modify j fun e=> { e with key:= .int q n,val:=a.eval v }) clock)) ?_ (hn undef M own _ (.refl M) ⟨rfl,fun _ _=>rfl⟩ TV (.undef _))
   rw [Rx]
   have Uy:(YM kt (.int q n) QV.toList).run P w= .ok (some (j,v0)) w:=by
    simp [YM,run_underlying t2,k3]
   have hej:QV[j]? =some e0:=by simpa using k4
   have hsb:Instr.sameBits 10000 (Value.int q n) (Value.int q n)=true:=by simp [Instr.sameBits]
   simp [Instr.mapUpdate,run_underlying t1,run_getObj_map w b QV clock k.dZ,jR t2,Uy,hej,k5,Instr.keyThatStays,hsb,MapKept.run_setObj_map _ k.dZ,cW]
  ·have SE:sb q (m7 es n (ρ v)) (QV.push ⟨.int q n,a.eval v,clock⟩).toList:=by
    rw [Array.toList_push];exact k3 _ _ _ VK
   have TV:=hw.G8 k (clock+1) (o':= .mp q (m7 es n (ρ v))) rfl ⟨SE,by rw [Array.toList_push];exact zb k.fits.2⟩
   refine qB (w':=cW w b (.map (QV.push ⟨.int q n,a.eval v,clock⟩) (clock+1))) ?_ (hn undef M own _ (.refl M) ⟨rfl,fun _ _=>rfl⟩ TV (.undef _))
   rw [Rx]
   have Uy:(YM kt (.int q n) QV.toList).run P w= .ok none w:=by
    simp [YM,run_underlying t2,k2]
   simp [Instr.mapUpdate,run_underlying t1,run_getObj_map w b QV clock k.dZ,jR t2,Uy,MapKept.run_setObj_map _ k.dZ,cW]
theorem Ai {ty:TypeId} {m kx:Operand} {ok:Bool} {id:Nat} {q:YO} {n:Int} {es:List (Int×D)} {et:TypeId} {zd:D} {r:Option D} (ho:o.op= .lookup ty m kx ok) (hk:kG P ty=some (q,et)) (hz:kv P et=some zd)
  (hm:ρ m= .gj id) (hx:ρ kx= .int q n) (hl:oj es n=r):gz P o ρ (.read id (.mp q es) (match ok with|true=> .aQ [r.getD zd,.bool r.isSome]|false=>r.getD zd)):=by
 intro w0 M own σ w a i hw hr Q6 next Q hn
 obtain ⟨kt,t1,t2⟩:=me hk
 obtain ⟨b,QV,clock,k⟩:=hw.mp id _ (by rw [(Q6:σ id=_)];rfl)
 have UE:=hr m (by simp [ho,XD])
 have S8:=eg (hr kx (by simp [ho,XD])) hx
 rw [hm] at UE
 generalize hva:a.eval m=va at UE
 cases UE with
 |gj hb=>
  rename_i b'
  rw [k.box] at hb
  obtain rfl:=Xo hb
  obtain ⟨zi,zv,hzi,hzv,rfl⟩:=jh hz
  have main:∃v,cz M (r.getD (fh zv)) v∧(execOp a.eval o).run P w= .ok (.value (if ok then .tuple #[v,.bool r.isSome] else v)) w:=by
   rcases pt (q:=q) (n:=n) 0 k.fits.1 with ⟨j,v0,d0,e0,k1,k2,k3,_⟩|⟨k1,k2,_⟩
   ·rw [k1.1] at hl
    subst hl
    refine ⟨v0,Dw k2,?_⟩
    have Uy:(YM kt (.int q n) QV.toList).run P w= .ok (some (j,v0)) w:=by
     simp [YM,run_underlying t2,k3]
    simp [execOp,ho,Instr.lookup,run_underlying t1,hva,S8,run_getObj_map w b QV clock k.dZ,jR t2,Uy]
   ·rw [k1.1] at hl
    subst hl
    refine ⟨zv,j5 zv,?_⟩
    have Uy:(YM kt (.int q n) QV.toList).run P w= .ok none w:=by
     simp [YM,run_underlying t2,k2]
    simp [execOp,ho,Instr.lookup,run_underlying t1,hva,S8,run_getObj_map w b QV clock k.dZ,jR t2,Uy,fA hzi hzv]
  obtain ⟨v,h1,h2⟩:=main
  refine gA h2 (hn _ M own w (.refl M) ⟨rfl,rfl⟩ hw ?_)
  cases ok
  ·exact h1
  ·refine .aQ rfl (fun i d u p q=> ?_)
   match i,p,q with
   |0,p,q=>simp at p q;subst p q;exact h1
   |1,p,q=>simp at p q;subst p q;exact .bool _
   |i+2,p,_=>simp at p
end
section
variable {P:Program} {o:Oper} {ρ:Operand→D}
end
section
variable {P:Program} {o:Oper} {ρ:Operand→D}
end
section
variable {P:Program} {o:Oper} {ρ:Operand→D}
theorem sX (z:Array Value) (n i:Nat) (v:Value) (h:(madeCells z n)[i]? =some v) (hz:0<z.size):z[i%z.size]? =some v∧i<n:=by
 unfold madeCells at h
 rw [Array.getElem?_map,XF] at h
 obtain ⟨j,hj,rfl⟩:=h
 rw [Array.getElem?_eq_some_iff] at hj
 obtain ⟨h1,h2⟩:=hj
 rw [Array.getElem_range] at h2
 subst h2
 rw [Array.size_range] at h1
 have hm:=Nat.mod_lt i hz
 refine ⟨?_,h1⟩
 rw [getElem!_pos z (i%z.size) hm,Array.getElem?_eq_getElem hm]
theorem yJ {zc:List D} (hz:0<zc.length):∀(n i:Nat) (d:D),(Xg n zc).flatten[i]? =some d→zc[i%zc.length]? =some d
 |0,i,d,h=>by simp at h
 |n+1,i,d,h=>by
  rw [List.replicate_succ,List.flatten_cons,Yu] at h
  split at h
  ·rename_i hi
   rw [Nat.mod_eq_of_lt hi];exact h
  ·rename_i hi
   have:=yJ hz n _ d h
   rwa [← Nat.mod_eq_sub_mod (by omega)] at this
theorem Hv {zc:List D} (hz:0<zc.length) (n i:Nat) (d:D) (h:(xZ n zc)[i]? =some d):zc[i%zc.length]? =some d:=by
 unfold xZ at h
 split at h
 ·rename_i d0
  rw [List.getElem?_replicate] at h
  split at h
  ·simp only [Xv] at h;subst h;simp [Nat.mod_one]
  ·cases h
 ·exact yJ hz n i d h
theorem yI (zc:List D):∀n:Nat,((Xg n zc).flatten).length=n*zc.length
 |0=>by simp
 |n+1=>by rw [List.replicate_succ,List.flatten_cons,Xu,yI zc n,Nat.succ_mul];omega
theorem Hu (zc:List D) (n:Nat):(xZ n zc).length=n*zc.length:=by
 unfold xZ
 split
 ·simp
 ·exact yI zc n
theorem KG {ty e:TypeId} {l c:Operand} {q q':YO} {n:Int} {zd:D} {zc:List D} (ho:o.op= .makeSlice ty l c) (ht:P.underlying ty=some (.slice e)) (hk:known P e=true) (hz:kv P e=some zd) (T8:zd.cells=some zc)
  (hlen:zc.length=P.cellsOf e) (RF:0<zc.length) (Vx:P.bytesOf e≤65536) (hl:ρ l= .int q n) (hc:ρ c= .int q' n) (h0:0≤n) (h1:n≤2147483648):
  gz P o ρ (.new (.box (xZ n.toNat zc)) fun id=> .ez id (P.cellsOf e) n.toNat):=by
 intro w0 M own σ w a id hw hr Q6 next Q hn
 obtain ⟨i,v,hi,hv,rfl⟩:=jh hz
 have r1:=eg (hr l (by simp [ho,XD])) hl
 have r2:=eg (hr c (by simp [ho,XD])) hc
 have hb:(i.bytes:Int)≤65536:=by
  have:P.bytesOf e=i.bytes:=by simp [Program.bytesOf,hi]
  omega
 have QX:P.cellsOf e=i.size:=by simp [Program.cellsOf,hi]
 have hmul:(i.bytes:Int)*n≤281474976710656:=by
  have:=Int.mul_le_mul hb h1 h0 (by omega:(0:Int)≤65536)
  omega
 have Q7:=run_make (P:=P) w ty e i v ht hi hv q q' n n h0 (Int.le_refl _) hmul (by omega)
 have Wh:=(j5 (M:=M) v).cells T8
 have hvs:v.cells.size=i.size:=by rw [← Wh.1,hlen,QX]
 have QR:cN M (xZ n.toNat zc) (madeCells v.cells (n.toNat*i.size)):=by
  refine ⟨by rw [Hu,size_madeCells,hlen,QX],fun j d u p r=> ?_⟩
  obtain ⟨u1,_⟩:=sX _ _ _ _ r (by rw [hvs,← QX,← hlen];exact RF)
  have u2:=Hv RF _ _ _ p
  rw [← Wh.1] at u1
  exact Wh.2 _ d u u2 u1
 have k:=hw.IA Q6.1 Q6.2 e (Nat.le_of_eq QR.1) QR.2
 obtain ⟨b1,vs1,ty1,kb⟩:=k.box id (xZ n.toNat zc) (bS _ _ _)
 have eb:b1=w.heap.size:=by have:=kb.box;simp only [MM.eK,if_true] at this;exact (Xo this).symm
 have evs:vs1.size=n.toNat*i.size:=by
  have h1:=kb.dZ
  rw [eb] at h1
  have h2:(w.alloc (.cells (madeCells v.cells (n.toNat*i.size)) e)).heap[w.heap.size]? =some (.cells (madeCells v.cells (n.toNat*i.size)) e (0,0)):=by
   show (w.heap.push _)[w.heap.size]? =_
   simp
  rw [h2] at h1
  have h3:=Xo h1
  simp only [Obj.cells.injEq] at h3
  rw [← h3.1,size_madeCells]
 have k2:=k.Lp (bS _ _ _) kb (sz:=P.cellsOf e) (len:=n.toNat) (cap:=n.toNat) (Q6.2 _) (by rw [evs,QX];exact XC _)
 subst eb
 have S4:(M.eK id w.heap.size).Le ((M.eK id w.heap.size).cR id (P.cellsOf e) (.slice (some ⟨w.heap.size,0,none⟩) n.toNat n.toNat)):=MM.fW (Q6.2 _)
 refine gA (v:= .slice (some ⟨w.heap.size,0,none⟩) n.toNat n.toNat) (w':=w.alloc (.cells (madeCells v.cells (n.toNat*i.size)) e)) ?_ (hn _ _ _ _ ((MM.iB Q6.1).trans S4) ⟨fun j hj=>by simp [MM.eK,MM.cR,hj],fun j hj=>by funext q;simp [MM.cR,MM.eK,hj]⟩ k2 (.ez (b:=w.heap.size) (by simp [MM.eK,MM.cR]) (by simp [MM.cR]) (XC _)))
 simp only [execOp,ho,r1,r2,XK,Q7,Xz,XQ]
theorem pb {ty:TypeId} {x ix:Operand} {k:YO} {i:Int} {elem:TypeId} {id sz n:Nat} (ho:o.op= .indexAddr ty x ix) (hi:ρ ix= .int k i) (ht:P.underlying ty=some (.slice elem)) (hk:known P elem=true)
  (QX:P.cellsOf elem=sz) (hb:0≤i∧i<n) (hx:ρ x= .ez id sz n):gz P o ρ (.pure (.ptr true id (i.toNat*sz))):=by
 refine cI fun M w a _ hr=> ?_
 have h1:=hr x (by simp [ho,XD])
 have h2:=eg (hr ix (by simp [ho,XD])) hi
 rw [hx] at h1
 generalize hv:a.eval x=v at h1
 cases h1 with
 |ez SQ hhx QP=>
  refine ⟨_,?_,.ptr true SQ⟩
  have:i<n:=hb.2
  simp [execOp,ho,Instr.indexAt,h2,asIntOf,run_underlying ht,hv,hb.1,this,dx hk,gF,QX]
theorem pa {ty:TypeId} {x ix:Operand} {k:YO} {i:Int} {elem:TypeId} {id off sz n:Nat} {cp:Option Nat} (ho:o.op= .indexAddr ty x ix) (hi:ρ ix= .int k i) (ht:P.underlying ty=some (.slice elem)) (hk:known P elem=true)
  (QX:P.cellsOf elem=sz) (hb:0≤i∧i<n) (hx:ρ x= .sub id off sz n cp):gz P o ρ (.pure (.ptr true id (off+i.toNat*sz))):=by
 refine cI fun M w a _ hr=> ?_
 have h1:=hr x (by simp [ho,XD])
 have h2:=eg (hr ix (by simp [ho,XD])) hi
 rw [hx] at h1
 generalize hv:a.eval x=v at h1
 cases h1 with
 |sub SQ hc hp SJ=>
  obtain rfl:=SJ (by omega)
  refine ⟨_,?_,.ptr true SQ⟩
  have:i<n:=hb.2
  simp [execOp,ho,Instr.indexAt,h2,asIntOf,run_underlying ht,hv,hb.1,this,dx hk,gF,QX]
end
theorem cz.Dm {M:MM} {o:kp} {sz:Nat} {xs:List D} {a:Option Addr} {len cap:Nat} (h:cz M (.bc o sz xs) (.slice a len cap)) (l hh m:Nat) (h1:l≤hh) (h2:hh≤len) (h3:hh≤m) (_h4:m≤cap) (o':kp)
  (UH:o'= .no∨(o'= .tight∧m=hh)):cz M (.bc o' sz ((xs.take hh).drop l)) (.slice (if m=l then a else a.map (·.add (l*sz))) (hh - l) (m - l)):=by
 cases h with
 |bc b off vs hl QP ha QX hc hr QT ho=>
  have Se:∀i x,((xs.take hh).drop l)[i]? =some x→xs[l+i]? =some x∧l+i<hh:=by
   intro i x hx
   rw [List.getElem?_drop,List.getElem?_take] at hx
   split at hx
   ·exact ⟨hx,by assumption⟩
   ·cases hx
  refine .bc b (off+l*sz) (fun i j=>vs (l+i) j) (by simp;omega) (by omega) ?_ ?_ ?_ ?_ ?_ ?_
  ·intro RR
   have QQ:l<hh:=by
    rcases XL l hh with h|h
    ·exact h
    ·exact absurd (List.drop_eq_nil_of_le (by simp;omega)) RR
   have:xs≠ []:=fun e=>by subst e;simp at hl;omega
   rw [if_neg (by omega),ha this]
   simp [gF]
  ·intro i x hx;exact QX _ x (Se i x hx).1
  ·intro i x cs j c hx QW hj
   have:=hc _ x cs j c (Se i x hx).1 QW hj
   rw [Nat.add_mul] at this
   rw [show off+l*sz+i*sz+j=off+(l*sz+i*sz)+j by omega]
   exact this
  ·intro i x cs j c hx QW hj;exact hr _ x cs j c (Se i x hx).1 QW hj
  ·intro i x cs c hx QW hj;exact QT _ x cs c (Se i x hx).1 QW hj
  ·rcases UH with rfl|⟨rfl,rfl⟩
   ·trivial
   ·rfl
section
variable {ρ':Type} {P:Program} {r:ρ'}
theorem cy {k:YO} {i:Int} {y:Nat} {code:BoundsCode} (h:0≤i∧i≤y) (w:World):(Instr.sliceBound (.int k i) y code).run P w= .ok i.toNat w:=by
 simp [Instr.sliceBound,asIntOf,h]
def B4:Option Int→Option Value→Prop
  |none,v=>v=none
  |some n,v=> ∃k,v=some (.int k n)
theorem zt {z:Z P} {o:kp} {sz:Nat} {xs:List D} {lo hi mx:Option Int} {K:Z P→D→Option ρ'} (h:zu z o sz xs lo hi mx K=some r):
  ∃z' d,K z' d=some r∧(z'.c→z.c∧∀(M:MM) (w:World) (t e:TypeId) (u:Value) (lv hv mv:Option Value),P.underlying t=some (.slice e)→known P e=true→P.cellsOf e=sz→cz M (.bc o sz xs) u→
   B4 lo lv→B4 hi hv→B4 mx mv→
   ∃v,(Instr.sliceAt t u lv hv mv).run P w= .ok v w∧cz M d v):=by
 have run:∀ {w:World} {t e:TypeId} {a:Option Addr} {len cap:Nat} {lv hv mv:Option Value} {l hh m:Nat},P.underlying t=some (.slice e)→known P e=true→P.cellsOf e=sz→
   (X5 true len cap lv hv mv).run P w= .ok (l,hh,m) w→(Instr.sliceAt t (.slice a len cap) lv hv mv).run P w= .ok (.slice (if m=l then a else a.map (·.add (l*sz))) (hh - l) (m - l)) w:=by
  intro w t e a len cap lv hv mv l hh m ht hk hs hb
  simp only [Instr.sliceAt,XK,run_underlying ht,Xz,Instr.slice,hb,dx hk,hs,XQ]
 unfold zu at h
 split at h
 ·refine ⟨z,_,h,fun c=>⟨c,fun M w t e u lv hv mv ht hk hs hu e1 e2 e3=> ?_⟩⟩
  obtain rfl:=e1
  obtain rfl:=e2
  obtain rfl:=e3
  cases hu with
  |bc b off vs hl QP ha QX hc hr QT ho=>
   rename_i a len cap
   have hb:(X5 true len cap none none none).run P w= .ok (0,len,cap) w:=by simp [X5]
   refine ⟨_,run ht hk hs hb,?_⟩
   have QR:cz M (.bc o sz xs) (.slice a len cap):= .bc b off vs hl QP ha QX hc hr QT ho
   have hd:(o.bu= .no∨(o.bu= .tight∧cap=len)):=by
    cases o<;>first|exact .inl rfl|exact .inr ⟨rfl,ho⟩
   have:=QR.Dm 0 len cap (by omega) (XC _) QP (XC _) o.bu hd
   rw [Yy (by omega),Yn] at this
   exact this
 ·rename_i l
  obtain ⟨z',h1,h2⟩:=fj h
  refine ⟨z',_,h1,fun c=>⟨(h2 c).1,fun M w t e u lv hv mv ht hk hs hu e1 e2 e3=> ?_⟩⟩
  obtain ⟨k1,rfl⟩:=e1
  obtain rfl:=e2
  obtain rfl:=e3
  have UW:0≤l∧l≤xs.length:=by simpa using (h2 c).2
  cases hu with
  |bc b off vs hl QP ha QX hc hr QT ho=>
   rename_i a len cap
   have hb:(X5 true len cap (some (.int k1 l)) none none).run P w= .ok (l.toNat,len,cap) w:=by
    simp [X5,cy (show 0≤l∧l≤(len:Int) by omega)]
   refine ⟨_,run ht hk hs hb,?_⟩
   have QR:cz M (.bc o sz xs) (.slice a len cap):= .bc b off vs hl QP ha QX hc hr QT ho
   have hd:(o.bu= .no∨(o.bu= .tight∧cap=len)):=by
    cases o<;>first|exact .inl rfl|exact .inr ⟨rfl,ho⟩
   have:=QR.Dm l.toNat len cap (by omega) (XC _) QP (XC _) o.bu hd
   rw [Yy (by omega)] at this
   exact this
 ·rename_i hh
  obtain ⟨z',h1,h2⟩:=fj h
  refine ⟨z',_,h1,fun c=>⟨(h2 c).1,fun M w t e u lv hv mv ht hk hs hu e1 e2 e3=> ?_⟩⟩
  obtain ⟨k1,rfl⟩:=e2
  obtain rfl:=e1
  obtain rfl:=e3
  have UW:0≤hh∧hh≤xs.length:=by simpa using (h2 c).2
  cases hu with
  |bc b off vs hl QP ha QX hc hr QT ho=>
   rename_i a len cap
   have hb:(X5 true len cap none (some (.int k1 hh)) none).run P w= .ok (0,hh.toNat,cap) w:=by
    simp [X5,cy (show 0≤hh∧hh≤(cap:Int) by omega)]
   refine ⟨_,run ht hk hs hb,?_⟩
   have QR:cz M (.bc o sz xs) (.slice a len cap):= .bc b off vs hl QP ha QX hc hr QT ho
   have:=QR.Dm 0 hh.toNat cap (by omega) (by omega) (by omega) (XC _) .no (.inl rfl)
   rw [Yn] at this
   exact this
 ·rename_i l hh
  obtain ⟨z',h1,h2⟩:=fj h
  refine ⟨z',_,h1,fun c=>⟨(h2 c).1,fun M w t e u lv hv mv ht hk hs hu e1 e2 e3=> ?_⟩⟩
  obtain ⟨k1,rfl⟩:=e1
  obtain ⟨k2,rfl⟩:=e2
  obtain rfl:=e3
  have UW:0≤l∧l≤hh∧hh≤xs.length:=by simpa using (h2 c).2
  cases hu with
  |bc b off vs hl QP ha QX hc hr QT ho=>
   rename_i a len cap
   have hb:(X5 true len cap (some (.int k1 l)) (some (.int k2 hh)) none).run P w= .ok (l.toNat,hh.toNat,cap) w:=by
    simp [X5,cy (show 0≤hh∧hh≤(cap:Int) by omega),cy (show 0≤l∧l≤(hh.toNat:Int) by omega)]
   refine ⟨_,run ht hk hs hb,?_⟩
   have QR:cz M (.bc o sz xs) (.slice a len cap):= .bc b off vs hl QP ha QX hc hr QT ho
   exact QR.Dm l.toNat hh.toNat cap (by omega) (by omega) (by omega) (XC _) .no (.inl rfl)
 ·rename_i hh m
  obtain ⟨z',h1,h2⟩:=fj h
  refine ⟨z',_,h1,fun c=>⟨(h2 c).1,fun M w t e u lv hv mv ht hk hs hu e1 e2 e3=> ?_⟩⟩
  obtain ⟨k1,rfl⟩:=e2
  obtain ⟨k2,rfl⟩:=e3
  obtain rfl:=e1
  have UW:0≤hh∧hh≤xs.length∧m=hh:=by simpa using (h2 c).2
  obtain ⟨Si,SP,rfl⟩:=UW
  cases hu with
  |bc b off vs hl QP ha QX hc hr QT ho=>
   rename_i a len cap
   have hb:(X5 true len cap none (some (.int k1 m)) (some (.int k2 m))).run P w= .ok (0,m.toNat,m.toNat) w:=by
    simp [X5,cy (show 0≤m∧m≤(cap:Int) by omega),cy (show 0≤m∧m≤(m.toNat:Int) by omega)]
   refine ⟨_,run ht hk hs hb,?_⟩
   have QR:cz M (.bc o sz xs) (.slice a len cap):= .bc b off vs hl QP ha QX hc hr QT ho
   have:=QR.Dm 0 m.toNat m.toNat (by omega) (by omega) (by omega) (by omega) .tight (.inr ⟨rfl,rfl⟩)
   rw [Yn] at this
   exact this
 ·rename_i l hh m
  obtain ⟨z',h1,h2⟩:=fj h
  refine ⟨z',_,h1,fun c=>⟨(h2 c).1,fun M w t e u lv hv mv ht hk hs hu e1 e2 e3=> ?_⟩⟩
  obtain ⟨k1,rfl⟩:=e1
  obtain ⟨k2,rfl⟩:=e2
  obtain ⟨k3,rfl⟩:=e3
  have UW:0≤l∧l≤hh∧hh≤xs.length∧m=hh:=by simpa using (h2 c).2
  obtain ⟨Si,SP,S9,rfl⟩:=UW
  cases hu with
  |bc b off vs hl QP ha QX hc hr QT ho=>
   rename_i a len cap
   have hb:(X5 true len cap (some (.int k1 l)) (some (.int k2 m)) (some (.int k3 m))).run P w= .ok (l.toNat,m.toNat,m.toNat) w:=by
    simp [X5,cy (show 0≤m∧m≤(cap:Int) by omega),cy (show 0≤m∧m≤(m.toNat:Int) by omega),cy (show 0≤l∧l≤(m.toNat:Int) by omega)]
   refine ⟨_,run ht hk hs hb,?_⟩
   have QR:cz M (.bc o sz xs) (.slice a len cap):= .bc b off vs hl QP ha QX hc hr QT ho
   exact QR.Dm l.toNat m.toNat m.toNat (by omega) (by omega) (by omega) (by omega) .tight (.inr ⟨rfl,rfl⟩)
 ·cases h
theorem qH {z:Z P} {id off sz n:Nat} {cp:Option Nat} {lo hi mx:Option Int} {K:Z P→D→Option ρ'} (h:GY z id off sz n cp lo hi mx K=some r):
  ∃(z':Z P) (l hh:Nat) (Uv:Option Nat),K z' (.sub id (off+l*sz) sz (hh - l) Uv)=some r∧(z'.c→z.c∧l≤hh∧hh≤n∧∀(q:Bool) (w:World) (c:Nat) (lv hv mv:Option Value),n≤c→(∀k,cp=some k→c=k)→B4 lo lv→B4 hi hv→B4 mx mv→
   ∃m,hh≤m∧(∀k,Uv=some k→m - l=k)∧(X5 q n c lv hv mv).run P w= .ok (l,hh,m) w):=by
 unfold GY at h
 split at h
 ·refine ⟨z,0,n,cp,by simpa using h,fun c=>⟨c,Nat.zero_le _,XC _,fun q w c lv hv mv hc hp e1 e2 e3=> ?_⟩⟩
  obtain rfl:=e1
  obtain rfl:=e2
  obtain rfl:=e3
  exact ⟨c,hc,fun k hk=>by rw [hp k hk];rfl,by simp [X5]⟩
 ·rename_i l
  obtain ⟨z',h1,h2⟩:=fj h
  refine ⟨z',l.toNat,n,cp.map (· - l.toNat),h1,fun c=> ?_⟩
  have hb:0≤l∧l≤(n:Int):=by simpa using (h2 c).2
  refine ⟨(h2 c).1,by omega,XC _,fun q w c lv hv mv hc hp e1 e2 e3=> ?_⟩
  obtain ⟨k1,rfl⟩:=e1
  obtain rfl:=e2
  obtain rfl:=e3
  refine ⟨c,hc,fun k hk=> ?_,by simp [X5,cy hb]⟩
  cases cp with
  |none=>cases hk
  |some v=>rw [hp v rfl];simpa using hk
 ·rename_i hh
  obtain ⟨z',h1,h2⟩:=fj h
  refine ⟨z',0,hh.toNat,cp,by simpa using h1,fun c=> ?_⟩
  have hb:0≤hh∧hh≤(n:Int):=by simpa using (h2 c).2
  refine ⟨(h2 c).1,Nat.zero_le _,by omega,fun q w c lv hv mv hc hp e1 e2 e3=> ?_⟩
  obtain ⟨k1,rfl⟩:=e2
  obtain rfl:=e1
  obtain rfl:=e3
  exact ⟨c,by omega,fun k hk=>by rw [hp k hk];rfl,by simp [X5,cy (show 0≤hh∧hh≤(c:Int) by omega)]⟩
 ·rename_i l hh
  obtain ⟨z',h1,h2⟩:=fj h
  refine ⟨z',l.toNat,hh.toNat,cp.map (· - l.toNat),h1,fun c=> ?_⟩
  have hb:0≤l∧l≤hh∧hh≤(n:Int):=by simpa using (h2 c).2
  refine ⟨(h2 c).1,by omega,by omega,fun q w c lv hv mv hc hp e1 e2 e3=> ?_⟩
  obtain ⟨k1,rfl⟩:=e1
  obtain ⟨k2,rfl⟩:=e2
  obtain rfl:=e3
  refine ⟨c,by omega,fun k hk=> ?_,by simp [X5,cy (show 0≤hh∧hh≤(c:Int) by omega),cy (show 0≤l∧l≤(hh.toNat:Int) by omega)]⟩
  cases cp with
  |none=>cases hk
  |some v=>rw [hp v rfl];simpa using hk
 ·rename_i hh m
  obtain ⟨z',h1,h2⟩:=fj h
  refine ⟨z',0,hh.toNat,some m.toNat,by simpa using h1,fun c=> ?_⟩
  have hb:0≤hh∧hh≤m∧m≤(n:Int):=by simpa using (h2 c).2
  refine ⟨(h2 c).1,Nat.zero_le _,by omega,fun q w c lv hv mv hc hp e1 e2 e3=> ?_⟩
  obtain ⟨k1,rfl⟩:=e2
  obtain ⟨k2,rfl⟩:=e3
  obtain rfl:=e1
  exact ⟨m.toNat,by omega,fun k hk=>by simpa using hk,by simp [X5,cy (show 0≤m∧m≤(c:Int) by omega),cy (show 0≤hh∧hh≤(m.toNat:Int) by omega)]⟩
 ·rename_i l hh m
  obtain ⟨z',h1,h2⟩:=fj h
  refine ⟨z',l.toNat,hh.toNat,some (m.toNat - l.toNat),h1,fun c=> ?_⟩
  have hb:0≤l∧l≤hh∧hh≤m∧m≤(n:Int):=by simpa using (h2 c).2
  refine ⟨(h2 c).1,by omega,by omega,fun q w c lv hv mv hc hp e1 e2 e3=> ?_⟩
  obtain ⟨k1,rfl⟩:=e1
  obtain ⟨k2,rfl⟩:=e2
  obtain ⟨k3,rfl⟩:=e3
  exact ⟨m.toNat,by omega,fun k hk=>by simpa using hk,by simp [X5,cy (show 0≤m∧m≤(c:Int) by omega),cy (show 0≤hh∧hh≤(m.toNat:Int) by omega),cy (show 0≤l∧l≤(hh.toNat:Int) by omega)]⟩
 ·cases h
theorem qT {M:MM} {id off o2 sz n b l hh m:Nat} {Uv:Option Nat} (hb:M.box id=some b) (SJ:n≠0→o2=off) (h1:l≤hh) (h2:hh≤n) (h3:hh≤m) (hp:∀k,Uv=some k→m - l=k):
  cz M (.sub id (off+l*sz) sz (hh - l) Uv) (.slice (if m=l then some ⟨b,o2,none⟩ else some ((⟨b,o2,none⟩:Addr).add (l*sz))) (hh - l) (m - l)):=by
 split
 ·exact .sub hb (by omega) hp (fun hn=>by omega)
 ·rw [gF]
  exact .sub hb (by omega) hp (fun hn=>by rw [SJ (by omega)])
theorem lM {w:World} {t e:TypeId} {a:Addr} {len cap sz:Nat} {lv hv mv:Option Value} {l hh m:Nat} (ht:P.underlying t=some (.slice e)) (hk:known P e=true) (hs:P.cellsOf e=sz) (hb:(X5 true len cap lv hv mv).run P w= .ok (l,hh,m) w):
  (Instr.sliceAt t (.slice (some a) len cap) lv hv mv).run P w= .ok (.slice (if m=l then some a else some (a.add (l*sz))) (hh - l) (m - l)) w:=by
 simp only [Instr.sliceAt,XK,run_underlying ht,Xz,Instr.slice,hb,dx hk,hs,XQ,YI]
theorem p6 {w:World} {t e:TypeId} {a:Addr} {n sz:Nat} {lv hv mv:Option Value} {l hh m:Nat} (ht:P.underlying t=some (.array n e)) (hk:known P e=true) (hs:P.cellsOf e=sz) (hb:(X5 false n n lv hv mv).run P w= .ok (l,hh,m) w):
  (Instr.sliceAt t (.pointer (some a)) lv hv mv).run P w= .ok (.slice (if m=l then some a else some (a.add (l*sz))) (hh - l) (m - l)) w:=by
 simp only [Instr.sliceAt,XK,run_underlying ht,Xz,Instr.sureAddr,hb,dx hk,hs,XQ]
 split<;>rfl
theorem KY {x:D} {K:Int→Option ρ'} (h:idx x K=some r):∃k n,x= .int k n∧K n=some r:=by
 unfold idx at h
 split at h
 ·exact ⟨_,_,rfl,h⟩
 ·cases h
theorem ft {t:List D} {o:Option Operand} {K:Option Int→Option ρ'} (h:iV t o K=some r):∃n,K n=some r∧∀(M:MM) (a:Act),(∀x,o=some x→cz M (cU t x) (a.eval x))→B4 n (o.map a.eval):=by
 unfold iV at h
 split at h
 ·exact ⟨none,h,fun M a _=>rfl⟩
 ·obtain ⟨k,n,hx,hK⟩:=KY h
  refine ⟨some n,hK,fun M a hr=>⟨k,?_⟩⟩
  have:=eg (hr _ rfl) hx
  simp [this]
theorem fx {o:Oper} {ρv:Operand→Value} {c:Call} {b:Builtin} (ho:o.op= .call c) (hc:c.callee= .builtin b) (w:World):
  (execOp ρv o).run P w=(builtin b c.argTypes o.type (c.args.map fun| .const _=>true|_=>false) (c.args.map ρv)).run P w:=by
 simp only [execOp,ho,resolve,hc,XK,XQ,Xz,invoke]
 rfl
theorem IM {t:TypeId} {x:D} {K:D→Option ρ'} (h:M7 P t x K=some r):∃d,K d=some r∧∀(M:MM) (w:World) (u:Value) (ts:Array TypeId) (ty:TypeId) (vs:Array Value),cz M x u→ts[0]? =some t→vs[0]? =some u→∃v,(Builtin.len_ ts ty vs).run P w= .ok v w∧cz M d v:=by
 unfold M7 at h
 split at h
 ·rename_i ht
  refine ⟨_,h,fun M w u ts ty vs hu h1 h2=> ?_⟩
  cases hu
  exact ⟨.int .i64 _,by simp [Builtin.len_,h1,h2,run_underlying ht,goInt],.int _ _⟩
 ·rename_i ht
  refine ⟨_,h,fun M w u ts ty vs hu h1 h2=> ?_⟩
  exact ⟨.int .i64 _,by simp [Builtin.len_,h1,h2,run_underlying ht,goInt],.int _ _⟩
 ·rename_i ht
  refine ⟨_,h,fun M w u ts ty vs hu h1 h2=> ?_⟩
  cases hu with
  |bc b off vs' hl QP ha QX hc hr QT ho=>exact ⟨.int .i64 _,by simp [Builtin.len_,h1,h2,run_underlying ht,goInt];omega,.int _ _⟩
 ·rename_i ht
  refine ⟨_,h,fun M w u ts ty vs hu h1 h2=> ?_⟩
  cases hu with
  |ez hb hh hc=>exact ⟨.int .i64 _,by simp [Builtin.len_,h1,h2,run_underlying ht,goInt],.int _ _⟩
 ·rename_i ht
  refine ⟨_,h,fun M w u ts ty vs hu h1 h2=> ?_⟩
  cases hu with
  |sub hb hc hp SJ=>exact ⟨.int .i64 _,by simp [Builtin.len_,h1,h2,run_underlying ht,goInt],.int _ _⟩
 ·cases h
theorem IB {x y:D} {K:D→Option ρ'} (h:MU x y K=some r):∃d,K d=some r∧∀(M:MM) (w:World) (u v:Value) (ts:Array TypeId) (ty:TypeId) (vs:Array Value),cz M x u→cz M y v→vs.toList= [u,v]→∃q,(Builtin.min_ ts ty vs).run P w= .ok q w∧cz M d q:=by
 unfold MU at h
 split at h
 ·refine ⟨_,h,fun M w u v ts ty vs hu hv h1=> ?_⟩
  cases hu;cases hv
  exact ⟨_,by simp only [Builtin.min_,h1,List.foldlM_cons,List.foldlM_nil,Builtin.min2,pure_bind];rfl,.int _ _⟩
 ·cases h
theorem IJ {x y:D} {K:D→Option ρ'} (h:MY x y K=some r):∃d,K d=some r∧∀(M:MM) (w:World) (u v:Value) (ts:Array TypeId) (ty:TypeId) (vs:Array Value),cz M x u→cz M y v→vs.toList= [u,v]→∃q,(Builtin.max_ ts ty vs).run P w= .ok q w∧cz M d q:=by
 unfold MY at h
 split at h
 ·refine ⟨_,h,fun M w u v ts ty vs hu hv h1=> ?_⟩
  cases hu;cases hv
  exact ⟨_,by simp only [Builtin.max_,h1,List.foldlM_cons,List.foldlM_nil,Builtin.max2,pure_bind];rfl,.int _ _⟩
 ·cases h
end
structure iM (M:MM) (sz:Nat) (xs:List D) (arr:Array Value):Prop where
  len:xs.length*sz≤arr.size
  elem:∀(i:Nat) (x:D),xs[i]? =some x→∃cs,x.cells=some cs∧cs.length=sz
  get:∀(i:Nat) (x:D) (cs:List D) (j:Nat) (c:D),xs[i]? =some x→x.cells=some cs→cs[j]? =some c→∃v,arr[i*sz+j]? =some v∧cz M.bare c v
  st:∀(i:Nat) (x:D) (cs:List D) (c:D),xs[i]? =some x→x.cells=some cs→c∈cs→storable c=true
theorem iM.mono {M M':MM} {sz:Nat} {xs:List D} {arr:Array Value} (h:iM M sz xs arr) (le:M.Le M'):iM M' sz xs arr:=
 ⟨h.len,h.elem,fun i x cs j c h1 h2 h3=>let ⟨v,a,b⟩:=h.get i x cs j c h1 h2 h3;⟨v,a,b.mono le.bare⟩,h.st⟩
def MM.lay (M:MM) (b:Nat) (arr:Array Value) (n:Nat):MM:=M.cD b fun o=>if o<n then arr[o]? else none
theorem qu {M:MM} {w wd:World} {arr:Array Value} {ty:TypeId} {n:Nat} (hw:∀b o v,M.cell b o=some v→w.cell? ⟨b,o,none⟩=some v) (hd:wd.heap=w.heap) (hb:Below w.heap.size w wd) (fz:Nat×Nat):
  Ext M w (M.lay w.heap.size arr n) (wd.alloc (.cells arr ty fz)):=by
 have QX:wd.heap.size=w.heap.size:=by rw [hd]
 refine ⟨hb.alloc (by omega) _,?_,?_,?_⟩
 ·intro b o v h
  have:b≠w.heap.size:=fun e=>by rw [e,eN hw (XC _) o] at h;cases h
  simp only [MM.lay,MM.cD,this,if_false];exact h
 ·intro b o v h QQ
  simp only [MM.lay,MM.cD,show b≠w.heap.size by omega,if_false] at h;exact h
 ·intro b o v h
  by_cases e:b=w.heap.size
  ·subst e
   simp only [MM.lay,MM.cD,if_true] at h
   split at h
   ·have hh:(wd.alloc (.cells arr ty fz)).heap[w.heap.size]? =some (.cells arr ty fz):=by
     show (wd.heap.push _)[w.heap.size]? =_
     rw [← QX];simp
    simp only [World.cell?,hh]
    exact h
   ·cases h
  ·simp only [MM.lay,MM.cD,e,if_false] at h
   have h1:=hw b o v h
   have QQ:b<w.heap.size:=World.block_lt_of_cell? w _ h1
   rw [World.cell?_alloc_lt _ _ _ (by simpa [QX] using QQ)]
   simpa [World.cell?,hd] using h1
theorem qh {M:MM} {b:Nat} {arr:Array Value} {sz:Nat} {xs:List D} {o:kp} {cap n:Nat} (h:iM M sz xs arr) (hM:∀o,M.cell b o=none) (QP:xs.length≤cap) (hn:xs.length*sz≤n) (ho:(M.lay b arr n).o6 o (some ⟨b,0,none⟩) xs.length cap):
  cz (M.lay b arr n) (.bc o sz xs) (.slice (some ⟨b,0,none⟩) xs.length cap):=by
 have le:M.Le (M.lay b arr n):=by
  refine ⟨fun c o v k=> ?_,fun _ _ k=>k,fun _ _ _ k=>k,fun _ k=>k⟩
  have:c≠b:=fun e=>by rw [e,hM o] at k;cases k
  simp only [MM.lay,MM.cD,this,if_false];exact k
 have QQ:∀ {i j:Nat} {x:D} {cs:List D} {c:D},xs[i]? =some x→x.cells=some cs→cs[j]? =some c→i*sz+j<xs.length*sz:=by
  intro i j x cs c h1 h2 h3
  obtain ⟨Ru,e1,e2⟩:=h.elem i x h1
  rw [h2] at e1
  obtain rfl:=Xo e1
  have hj:j<sz:=by
   rcases XL j cs.length with q|q
   ·omega
   ·simp [Xy q] at h3
  have hi:i<xs.length:=by
   rcases XL i xs.length with q|q
   ·exact q
   ·simp [Xy q] at h1
  have:(i+1)*sz≤xs.length*sz:=Nat.mul_le_mul_right _ hi
  rw [Nat.add_mul] at this
  omega
 refine .bc b 0 (fun i j=>(arr[i*sz+j]?).getD .nilFunc) rfl QP (fun _=>rfl) h.elem ?_ ?_ h.st ho
 ·intro i x cs j c h1 h2 h3
  obtain ⟨v,hv,_⟩:=h.get i x cs j c h1 h2 h3
  have:=QQ h1 h2 h3
  simp only [MM.lay,MM.cD,if_true,Yl,hv,Yp]
  rw [if_pos (by omega)]
 ·intro i x cs j c h1 h2 h3
  obtain ⟨v,hv,hr⟩:=h.get i x cs j c h1 h2 h3
  simp only [hv,Yp]
  exact hr.mono le.bare
theorem rh {ρ':Type} {r:ρ'} {x:D} {k:D→Option ρ'} (h:vX x k=some r):∃y,k y=some r∧(∀(M:MM) (v:Value),cz M x v→cz M.bare y v)∧y.plain=true:=by
 unfold vX at h
 split at h
 ·rename_i hp
  exact ⟨x,h,fun M v hr=>hr.KS hp,hp⟩
 ·obtain ⟨hc,hk⟩:=cr h
  exact ⟨_,hk,fun M v hr=>hr.oS hc,oA hc⟩
theorem Af {ρ':Type} {r:ρ'} {x:D} {k:D→Option ρ'} (h:Ag x k=some r):∃y,k y=some r∧∀(M:MM) (v:Value),cz M x v→cz M.bare y v:=by
 unfold Ag at h
 split at h
 ·rename_i q id off
  refine ⟨_,h,fun M v hr=> ?_⟩
  cases hr with
  |ptr _ hb=>
   rename_i b
   have:=cz.eV (M:=M.bare) false (x:= .agg []) (cs:= []) (off:=off) (b:=b) (base:=0) (fun _=> .nilFunc) rfl (fun j c hj=>by simp at hj) (fun j c hj=>by simp at hj)
   rw [Yl] at this
   exact this
 ·refine ⟨_,h,fun M v hr=> ?_⟩
  cases hr with
  |eV _ vs hx hc hr=>exact .eV _ vs hx hc hr
 ·obtain ⟨y,hy,hr,_⟩:=rh h
  exact ⟨y,hy,hr⟩
theorem pG {ρ':Type} {r:ρ'} :∀ {l:List D} {k:List D→Option ρ'},qk l k=some r→∃l',k l'=some r∧∀(M:MM) (vs:Array Value),cN M l vs→cN M.bare l' vs
 | [],k,h=>⟨[],h,fun M vs hr=>⟨hr.1,fun i d v a=>by simp at a⟩⟩
 |x::l,k,h=>by
  unfold qk at h
  obtain ⟨y,hy,hr⟩:=Af h
  obtain ⟨l',hk,hl⟩:=pG hy
  refine ⟨y::l',hk,fun M vs hv=> ?_⟩
  have hs:vs.size=l.length+1:=by have:=hv.1;simp at this;omega
  have U8:cN M l (vs.extract 1 vs.size):=by
   refine ⟨by simp;omega,fun i d v a b=> ?_⟩
   rw [Array.getElem?_extract] at b
   split at b
   ·exact hv.2 (i+1) d v (by simpa using a) (by rw [Nat.add_comm];exact b)
   ·cases b
  have h2:=hl M _ U8
  refine ⟨by have:=h2.1;simp at this ⊢;omega,fun i d v a b=> ?_⟩
  cases i with
  |zero=>simp at a;subst a;exact hr M v (hv.2 0 x v rfl b)
  |succ i=>
   refine h2.2 i d v (by simpa using a) ?_
   rw [Array.getElem?_extract]
   have:i+1<vs.size:=by
    rcases XL (i+1) vs.size with q|q
    ·exact q
    ·simp [Ye q] at b
   rw [if_pos (by omega),Nat.add_comm]
   exact b
theorem oV {sz i j n:Nat} (hi:i<n) (hj:j<sz):i*sz+j<n*sz:=by
 have:(i+1)*sz≤n*sz:=Nat.mul_le_mul_right _ hi
 rw [Nat.add_mul] at this
 omega
theorem Mh {sz i i' j j':Nat} (hj:j<sz) (V2:j'<sz) (h:i≠i'):i*sz+j≠i'*sz+j':=by
 intro e
 rcases Nat.lt_or_gt_of_ne h with q|q
 ·have:=oV q hj;omega
 ·have:=oV q V2;omega
theorem qi {n i:Nat} {a x:D} (h:(Xg n a)[i]? =some x):i<n∧a=x:=by
 rw [List.getElem?_replicate] at h
 split at h
 ·exact ⟨by assumption,Xo h⟩
 ·cases h
section
variable {ρ':Type} {P:Program} {r:ρ'}
theorem nR {size:Nat} :∀ {parts:List (Nat×D)} {xs:List D} {k:List D→Option ρ'},l3 size xs parts k=some r→
  ∃xs',k xs'=some r∧xs'.length=xs.length∧∀(M:MM) (RI:List (Nat×Value)) (arr:Array Value),LG M parts RI→iM M size xs arr→
   ∃arr',Instr.fill (fun i=>some (i*size,size)) arr RI=some arr'∧iM M size xs' arr'∧arr'.size=arr.size
 | [],xs,k,h=>⟨xs,h,rfl,fun M RI arr hp hr=>by
   cases RI with
   |nil=>exact ⟨arr,rfl,hr,rfl⟩
   |cons _ _=>exact hp.elim⟩
 |(i,d)::rest,xs,k,h=>by
  unfold l3 at h
  obtain ⟨y,hy,QR,_⟩:=rh h
  split at hy
  ·rename_i vc Ue
   obtain ⟨h1,h2⟩:=cr hy
   rw [Xp,Xp,XR,XZ] at h1
   obtain ⟨⟨QX,QQ⟩,QT⟩:=h1
   have QQ:i<xs.length:=Nat.lt_of_succ_le (by simpa [Nat.blt,YB] using QQ)
   obtain ⟨xs',hk,hl,R9⟩:=nR h2
   refine ⟨xs',hk,by simpa using hl,fun M RI arr hp hr=> ?_⟩
   cases RI with
   |nil=>exact hp.elim
   |cons p s=>
    obtain ⟨j,u⟩:=p
    obtain ⟨rfl,hd,hp⟩:=hp
    have Q2:=(QR M u hd).cells Ue
    have We:u.cells.size=size:=by rw [← Q2.1];exact QX
    have hbound:i*size+size≤xs.length*size:=by
     have:(i+1)*size≤xs.length*size:=Nat.mul_le_mul_right _ QQ
     rwa [Nat.add_mul,Nat.one_mul] at this
    have RA:i*size+u.cells.toList.length≤arr.size:=by rw [Yf,We];exact YG hbound hr.len
    have Sx:iM M size (xs.set i y) (eA arr (i*size) u.cells.toList):=by
     refine ⟨by rw [eX,Ym];exact hr.len,?_,?_,?_⟩
     ·intro k x hx
      by_cases e:i=k
      ·subst e
       rw [List.getElem?_set_self (by simpa using QQ)] at hx
       obtain rfl:=Xo hx
       exact ⟨vc,Ue,QX⟩
      ·rw [YE e] at hx
       exact hr.elem k x hx
     ·intro k x cs j c hx QW hj
      rw [iU _ _ _ _ RA]
      rw [Yf,We]
      by_cases e:i=k
      ·subst e
       rw [List.getElem?_set_self (by simpa using QQ)] at hx
       obtain rfl:=Xo hx
       rw [Ue] at QW
       obtain rfl:=Xo QW
       obtain ⟨v,hv,UQ⟩:=Q2.get hj
       have SN:j<size:=by
        rcases XL j vc.length with q|q
        ·omega
        ·simp [Xy q] at hj
       rw [if_pos ⟨by omega,by omega⟩,show i*size+j - i*size=j by omega]
       exact ⟨v,by simpa using hv,UQ⟩
      ·rw [YE e] at hx
       obtain ⟨Ru,q1,q2⟩:=hr.elem k x hx
       rw [QW] at q1
       obtain rfl:=Xo q1
       have SN:j<size:=by
        rcases XL j cs.length with q|q
        ·omega
        ·simp [Xy q] at hj
       rw [if_neg]
       ·exact hr.get k x cs j c hx QW hj
       ·intro hh
        obtain ⟨m,hm⟩:∃m,k*size+j=i*size+m:=⟨k*size+j - i*size,by omega⟩
        exact Mh SN (show m<size by omega) (Ne.symm e) hm
     ·intro k x cs c hx QW hc
      by_cases e:i=k
      ·subst e
       rw [List.getElem?_set_self (by simpa using QQ)] at hx
       obtain rfl:=Xo hx
       rw [Ue] at QW
       obtain rfl:=Xo QW
       exact QT c hc
      ·rw [YE e] at hx
       exact hr.st k x cs c hx QW hc
    obtain ⟨arr',f1,f2,f3⟩:=R9 M s _ hp Sx
    refine ⟨arr',?_,f2,by rw [f3,eX]⟩
    have e2:¬(i*size+size>arr.size):=by have:=hr.len;omega
    rw [Instr.fill]
    simp only [We,ne_eq,not_true_eq_false,decide_false,Bool.false_or,e2,Yb,if_false,rQ]
    exact f1
  ·cases hy
end
section
variable {P:Program} {o:Oper} {ρ:Operand→D}
theorem B6 {M:MM} {d:D} {zc:List D} {v:Value} (hc:d.cells=some zc) (hd:cz M.bare d v) (QT:∀c∈zc,storable c=true) (len:Nat):
  iM M zc.length (Xg len d) ((Array.range (len*zc.length)).map (v.cells[· %v.cells.size]!)):=by
 have Q2:=hd.cells hc
 refine ⟨by simp,?_,?_,?_⟩
 ·intro i x hx
  obtain ⟨_,rfl⟩:=qi hx
  exact ⟨zc,hc,rfl⟩
 ·intro i x cs j c hx QW hj
  obtain ⟨hi,rfl⟩:=qi hx
  rw [hc] at QW
  obtain rfl:=Xo QW
  obtain ⟨u,hu,hru⟩:=Q2.get hj
  have SN:j<zc.length:=by
   rcases XL j zc.length with q|q
   ·exact q
   ·simp [Xy q] at hj
  refine ⟨u,?_,hru⟩
  have:=oV hi SN
  simp only [Array.getElem?_map,Array.getElem?_range,this,if_true,YI,Xv]
  rw [← Q2.1,Nat.add_comm,Nat.add_mul_mod_self_right,Nat.mod_eq_of_lt SN]
  have WU:j<v.cells.size:=by rw [← Q2.1];exact SN
  rw [getElem!_pos v.cells j WU]
  rw [getElem?_pos v.cells j WU] at hu
  exact Xo hu
 ·intro i x cs c hx QW Rp
  obtain ⟨_,rfl⟩:=qi hx
  rw [hc] at QW
  obtain rfl:=Xo QW
  exact QT c Rp
theorem sV {ρ':Type} {r:ρ'} {ty:TypeId} {len:Nat} {parts:Array (Nat×Operand)} {e:TypeId} {d:D} {zc:List D} {k:List D→Option ρ'} (ho:o.op= .buildSlice ty len parts) (ht:P.underlying ty=some (.slice e)) (hz:kv P e=some d) (hc:d.cells=some zc)
  (hk:known P e=true) (QX:zc.length=P.cellsOf e) (Uf:len*P.cellsOf e≤16777216) (QT:∀c∈zc,storable c=true)
  (h:l3 (P.cellsOf e) (Xg len d) (parts.toList.map fun p=>(p.1,ρ p.2)) k=some r):
  ∃xs,k xs=some r∧gz P o ρ (.pure (.bc .tight (P.cellsOf e) xs)):=by
 obtain ⟨xs,h1,h2,h3⟩:=nR h
 refine ⟨xs,h1,yn fun M w a hw hr=> ?_⟩
 have SL:=xW (M:=M) (ρ:=ρ) (a:=a) parts.toList (fun p hp=>hr p.2 (by
  simp only [ho,XD]
  exact List.mem_toArray.2 (List.mem_map.2 ⟨p,hp,rfl⟩)))
 have VA:(parts.map fun (i,x)=>(i,a.eval x)).toList=parts.toList.map fun p=>(p.1,a.eval p.2):=by simp
 obtain ⟨i,v,hi,hv,rfl⟩:=jh hz
 have hlen:xs.length=len:=by rw [h2];simp
 obtain ⟨arr0,hr0,hs0,hrun0⟩:∃arr0:Array Value,iM M (P.cellsOf e) (Xg len (fh v)) arr0∧arr0.size=len*P.cellsOf e∧
   (if len*P.cellsOf e=0 then pure #[] else do pure (← zeroValue e).cells:Sem (Array Value)).run P w= .ok (if len*P.cellsOf e=0 then #[] else v.cells) w∧
   ((Array.range (len*P.cellsOf e)).map ((if len*P.cellsOf e=0 then #[] else v.cells)[· %(if len*P.cellsOf e=0 then #[] else v.cells).size]!))=arr0:=by
  by_cases hz0:len*P.cellsOf e=0
  ·refine ⟨#[],?_,by simp [hz0],by simp [hz0],by simp [hz0]⟩
   rcases Nat.eq_zero_or_pos len with e1|e1
   ·subst e1
    exact ⟨by simp,fun i x hx=>by simp at hx,fun i x cs j c hx=>by simp at hx,fun i x cs c hx=>by simp at hx⟩
   ·have e2:P.cellsOf e=0:=by
     rcases Nat.mul_eq_zero.1 hz0 with q|q
     ·omega
     ·exact q
    have e3:zc= []:=List.eq_nil_of_length_eq_zero (by omega)
    subst e3
    refine ⟨by simp [e2],fun i x hx=> ?_,fun i x cs j c hx QW hj=> ?_,fun i x cs c hx QW Rp=> ?_⟩<;>obtain ⟨_,rfl⟩:=qi hx
    ·exact ⟨[],hc,by simp [e2]⟩
    ·rw [hc] at QW;obtain rfl:=Xo QW;simp at hj
    ·rw [hc] at QW;obtain rfl:=Xo QW;simp at Rp
  ·refine ⟨_,?_,?_,by simp [hz0,fA hi hv],rfl⟩
   ·rw [if_neg hz0,← QX]
    exact B6 hc (j5 v) QT len
   ·simp
 obtain ⟨arr,hf,Sx,hsa⟩:=h3 M _ _ SL hr0
 have hx:=qu (M:=M) (w:=w) (wd:=w) (arr:=arr) (ty:=e) (n:=arr.size) hw rfl (Below.refl _ _) (0,0)
 have hl:=qh (b:=w.heap.size) (o:= .tight) (cap:=xs.length) (n:=arr.size) Sx (eN hw (XC _)) (XC _) Sx.len rfl
 refine ⟨_,_,_,?_,hx,rfl,rfl,rfl,hl⟩
 simp only [execOp,ho,Instr.buildSlice,XK,run_underlying ht,Xz,dx hk]
 rw [if_neg (by omega)]
 have Vy:(newRow e arr).run P w= .ok ⟨w.heap.size,0,none⟩ (w.alloc (.cells arr e)):=by simp [newRow]
 by_cases hz0:len*P.cellsOf e=0
 ·have h5:=hrun0.2
  rw [hz0] at h5
  simp only [hz0,if_true,XK,XQ,Xz,VA]
  simp only [if_true] at h5
  rw [h5,hf]
  simp only [XK,Vy,Xz,XQ,hlen]
 ·have h5:=hrun0.2
  simp only [hz0,if_false] at h5
  simp only [hz0,if_false,XK,fA hi hv,XQ,Xz,VA,h5]
  rw [hf]
  simp only [XK,Vy,Xz,XQ,hlen]
theorem qg {M:MM} {ow:kp} {sz size:Nat} {xs:List D} {a:Option Addr} {len cap:Nat} (h:cz M (.bc ow sz xs) (.slice a len cap)) (hs:sz=size∨xs= []) {w:World} (hw:∀b o v,M.cell b o=some v→w.cell? ⟨b,o,none⟩=some v):
  ∃arr:Array Value,arr.size=xs.length*size∧iM M size xs arr∧(∀wd:World,(∀a,wd.cell? a=w.cell? a)→(Yq size len (.slice a len cap)).run P wd= .ok arr wd)∧∀v∈arr.toList,v.oneCell'=true:=by
 cases h with
 |bc b off vs hl QP ha QX hc hr QT ho=>
  by_cases RR:xs= []
  ·subst RR
   have hlen:len=0:=by simpa using hl.symm
   subst hlen
   refine ⟨#[],by simp,⟨by simp,fun i x hx=>by simp at hx,fun i x cs j c hx=>by simp at hx,fun i x cs c hx=>by simp at hx⟩,fun wd _=> ?_,by simp⟩
   cases a with
   |none=>rfl
   |some ad=>simp [Yq,loadCells,loadCellsFrom]
  ·obtain rfl:sz=size:=hs.resolve_right RR
   obtain rfl:=ha RR
   let arr:Array Value:=((Xt (xs.length*sz)).map fun k=>vs (k / sz) (k%sz)).toArray
   have RF:∀ {k:Nat},k<xs.length*sz→0<sz:=fun {k} hk=>by
    rcases Nat.eq_zero_or_pos sz with q|q
    ·rw [q] at hk;omega
    ·exact q
   have hdiv:∀ {k:Nat},k<xs.length*sz→k / sz<xs.length∧k%sz<sz∧k / sz*sz+k%sz=k:=fun {k} hk=>by
    have hp:=RF hk
    refine ⟨(Nat.div_lt_iff_lt_mul hp).2 hk,Nat.mod_lt _ hp,?_⟩
    rw [Nat.mul_comm];exact Nat.div_add_mod k sz
   have S7:∀ {k:Nat},k<xs.length*sz→∃x cs c,xs[k / sz]? =some x∧x.cells=some cs∧cs[k%sz]? =some c:=fun {k} hk=>by
    obtain ⟨h1,h2,h3⟩:=hdiv hk
    have hx:xs[k / sz]? =some xs[k / sz]:=by simp [h1]
    obtain ⟨cs,QW,hlen⟩:=QX _ _ hx
    exact ⟨_,cs,cs[k%sz]'(by omega),hx,QW,by simp [show k%sz<cs.length by omega]⟩
   have Se:∀ {k:Nat} {v:Value},arr[k]? =some v→k<xs.length*sz∧v=vs (k / sz) (k%sz):=fun {k v} hk=>by
    simp only [arr,List.getElem?_toArray,XH,XF] at hk
    obtain ⟨x,hx,rfl⟩:=hk
    have QQ:k<xs.length*sz:=by
     rcases XL k (xs.length*sz) with q|q
     ·exact q
     ·rw [Xy (by simpa using q)] at hx;cases hx
    rw [List.getElem?_range QQ] at hx
    cases hx
    exact ⟨QQ,rfl⟩
   have SX:arr.size=xs.length*sz:=by simp [arr]
   refine ⟨arr,SX,⟨by rw [SX];exact XC _,QX,?_,QT⟩,?_,?_⟩
   ·intro i x cs j c hx QW hj
    obtain ⟨Ru,q1,q2⟩:=QX i x hx
    rw [QW] at q1
    obtain rfl:=Xo q1
    have SN:j<sz:=by
     rcases XL j cs.length with q|q
     ·omega
     ·simp [Xy q] at hj
    have TC:i<xs.length:=by
     rcases XL i xs.length with q|q
     ·exact q
     ·simp [Xy q] at hx
    have hk:=oV TC SN
    refine ⟨vs i j,?_,hr i x cs j c hx QW hj⟩
    simp only [arr,List.getElem?_toArray,XH,List.getElem?_range hk,YI,Xv]
    have e1:(i*sz+j) / sz=i:=by
     rw [Nat.add_comm,Nat.add_mul_div_right _ _ (RF hk),Nat.div_eq_of_lt SN,Yl]
    have e2:(i*sz+j)%sz=j:=by
     rw [Nat.add_comm,Nat.add_mul_mod_self_right,Nat.mod_eq_of_lt SN]
    rw [e1,e2]
   ·intro wd Wq
    have:=j4 (P:=P) (w:=wd) b off arr (fun k v hk=>by
     rw [Wq]
     obtain ⟨QQ,rfl⟩:=Se hk
     obtain ⟨x,cs,c,q1,q2,q3⟩:=S7 QQ
     obtain ⟨d1,d2,d3⟩:=hdiv QQ
     have:=hw _ _ _ (hc _ x cs _ c q1 q2 q3)
     rw [Nat.add_assoc,d3] at this
     exact this)
    simp only [Yq]
    rw [SX,hl] at this
    exact this
   ·intro v hv
    obtain ⟨k,hk⟩:=List.mem_iff_getElem?.1 hv
    rw [XN] at hk
    obtain ⟨QQ,rfl⟩:=Se hk
    obtain ⟨x,cs,c,q1,q2,q3⟩:=S7 QQ
    exact nQ (hr _ x cs _ c q1 q2 q3) (QT _ x cs c q1 q2 (XP q3))
theorem iM.append {M:MM} {size:Nat} {xs ys:List D} {a1 a2:Array Value} (h1:iM M size xs a1) (h2:iM M size ys a2) (hs:a1.size=xs.length*size) (rest:Array Value):iM M size (xs++ys) (a1++a2++rest):=by
 have Ry:∀ {i:Nat} {x:D},(xs++ys)[i]? =some x→(i<xs.length∧xs[i]? =some x)∨(xs.length≤i∧ys[i - xs.length]? =some x):=by
  intro i x hx
  rw [Yu] at hx
  split at hx
  ·exact .inl ⟨by assumption,hx⟩
  ·exact .inr ⟨by omega,hx⟩
 refine ⟨?_,?_,?_,?_⟩
 ·have:=h2.len
  simp only [Xu,Array.size_append,Nat.add_mul,hs]
  omega
 ·intro i x hx
  rcases Ry hx with ⟨_,h⟩|⟨_,h⟩
  ·exact h1.elem i x h
  ·exact h2.elem _ x h
 ·intro i x cs j c hx QW hj
  rcases Ry hx with ⟨_,h⟩|⟨hge,h⟩
  ·obtain ⟨v,hv,hr⟩:=h1.get i x cs j c h QW hj
   refine ⟨v,?_,hr⟩
   have QQ:i*size+j<a1.size:=by
    rcases XL (i*size+j) a1.size with q|q
    ·exact q
    ·simp [Ye q] at hv
   rw [Array.append_assoc,Array.getElem?_append_left QQ]
   exact hv
  ·obtain ⟨v,hv,hr⟩:=h2.get _ x cs j c h QW hj
   refine ⟨v,?_,hr⟩
   have QQ:(i - xs.length)*size+j<a2.size:=by
    rcases XL ((i - xs.length)*size+j) a2.size with q|q
    ·exact q
    ·simp [Ye q] at hv
   have e:i*size+j=a1.size+((i - xs.length)*size+j):=by
    rw [hs,← Nat.add_assoc,← Nat.add_mul];congr 2;omega
   rw [e,Array.append_assoc,Array.getElem?_append_right (by omega),show a1.size+((i - xs.length)*size+j) - a1.size=(i - xs.length)*size+j by omega,Array.getElem?_append_left QQ]
   exact hv
 ·intro i x cs c hx QW hc
  rcases Ry hx with ⟨_,h⟩|⟨_,h⟩
  ·exact h1.st i x cs c h QW hc
  ·exact h2.st _ x cs c h QW hc
theorem zD {st xt RJ rty:TypeId} {e2:TypeId} {ts:Array TypeId} {args:Array Value} {i:TypeInfo} {z:Value} (ht:P.underlying st=some (.slice RJ)) (hx:P.underlying xt=some (.slice e2)) (h0:ts[0]? =some st) (h1:ts[1]? =some xt)
  (hi:P.info? RJ=some i) (hz:i.zero=some z) {a a':Option Addr} {len cap QU RE:Nat} {w:World} {ng new:Array Value} (g0:args[0]? =some (.slice a len cap)) (g1:args[1]? =some (.slice a' QU RE))
  (hold:(Yq i.size len (.slice a len cap)).run P w.drew= .ok ng w.drew) (Rt:(Yq i.size QU (.slice a' QU RE)).run P w= .ok new w) (U9:(Yq i.size QU (.slice a' QU RE)).run P w.drew= .ok new w.drew)
  (hb:i.bytes≤65536) (hn:len+QU≤2147483648):
  (len+QU≤cap→(Yt ts rty args).run P w=(do (match a with|some ad=>storeCells (ad.add (len*i.size)) new.toList|none=>pure ());pure (.slice a (len+QU) cap):Sem Value).run P w)∧
  (cap<len+QU→∃nc,len+QU≤nc∧nc≤9223372036854775807∧(Yt ts rty args).run P w= .ok (.slice (some ⟨w.heap.size,0,none⟩) (len+QU) nc) (w.drew.alloc (.cells (ng++new++Builtin.zeroCells z.cells (nc - (len+QU))) RJ))):=by
 constructor
 ·intro QP
  cases a<;>simp [Yt,h0,h1,g0,g1,run_underlying ht,run_underlying hx,sizeOf,typeInfo,hi,Builtin.lenOf,QP,Rt]
 ·intro QP
  have SB:(len+QU)*i.bytes≤140737488355328:=by
   have:=Nat.mul_le_mul hn hb
   omega
  have hg:=growslice_fits QP SB
  refine ⟨grownCap w (len+QU) cap RJ,grownCap_ge w _ _ _,YG (grownCap_le_maxLen w _ _ _ (by unfold maxLen;omega)) (by unfold maxLen;omega),?_⟩
  have e1:¬(len+QU≤cap):=by omega
  have e2:¬(9223372036854775807<(len:Int)+(QU:Int)∧i.bytes=0):=by omega
  have e3:¬(Builtin.nextslicecap (len+QU) cap*i.bytes>2^48):=by omega
  have e4:(Question.appendCap (len+QU) cap RJ).forced=false:=rfl
  have e5:∀x:Array Value,(newRow RJ x).run P w.drew= .ok ⟨w.heap.size,0,none⟩ (w.drew.alloc (.cells x RJ)):=fun x=>by first|(simp [newRow];done)|(simp [newRow];rfl)
  simp [Yt,h0,h1,g0,g1,run_underlying ht,run_underlying hx,sizeOf,typeInfo,hi,Builtin.lenOf,e1,e3,e2,e4,hold,U9,fA hi hz,e5]
  exact ⟨rfl,rfl⟩
theorem yF {t:TypeId} (h:mP P t=true):∃i z,P.info? t=some i∧i.zero=some z∧z.cells.size=i.size∧P.cellsOf t=i.size:=by
 unfold mP at h
 split at h
 ·rename_i i hi
  split at h
  ·rename_i z hz
   exact ⟨i,z,hi,hz,by simpa using h,by simp [Program.cellsOf,hi]⟩
  ·cases h
 ·cases h
theorem mc {sz size:Nat} {xs:List D} (h:wc sz xs size=true):sz=size∨xs= []:=by
 unfold wc at h
 rw [Bool.or_eq_true,XR,List.isEmpty_iff] at h
 exact h
theorem sy {w0:fg} {w:World} {M:MM} {own:Nat→Option Nat} {σ:Nat→Ob} (hw:cJ w0 M own σ w) {st xt RJ rty e2:TypeId} {ts:Array TypeId} {args:Array Value} (ht:P.underlying st=some (.slice RJ)) (hx:P.underlying xt=some (.slice e2)) (h0:ts[0]? =some st) (h1:ts[1]? =some xt)
  (hz:mP P RJ=true) (SB:P.bytesOf RJ≤65536) {ow:kp} {sz QU RE:Nat} {xs ys:List D} {u:Value} {a':Option Addr} {new:Array Value} (g0:args[0]? =some u) (g1:args[1]? =some (.slice a' QU RE)) (hu:cz M (.bc ow sz xs) u) (Sg:ys.length=QU) (ns:new.size=ys.length*P.cellsOf RJ) (R7:iM M (P.cellsOf RJ) ys new) (Sl:∀wd:World,(∀a,wd.cell? a=w.cell? a)→(Yq (P.cellsOf RJ) QU (.slice a' QU RE)).run P wd= .ok new wd) (Sv:∀v∈new.toList,v.oneCell'=true)
  (QX:sz=P.cellsOf RJ∨xs= []) (hn:xs.length+ys.length≤cV) {id ver:Nat} (S3:∀v,ver≤v→M.cu id v=none)
  (RA:∀a len cap,u= .slice a len cap→cap=len∨∃b vs ty fz TD RX,a=some ⟨b,0,none⟩∧sE w0 M own id (P.cellsOf RJ) w len cap b vs ty fz∧σ id= .cM TD RX):
  ∃v M' QK w',(Yt ts rty args).run P w= .ok v w'∧M.Le M'∧cJ w0 M' QK (gN σ id (.cM ver (P.cellsOf RJ))) w'∧cz M' (.bc (.tok id ver) (P.cellsOf RJ) (xs++ys)) v∧M'.box=M.box∧∀j,j≠id→M'.cu j=M.cu j:=by
 obtain ⟨i,z,hi,hiz,hzs,Q2⟩:=yF hz
 have Ud:i.bytes≤65536:=by simpa [Program.bytesOf,hi] using SB
 cases hu with
 |bc b off vs hl QP ha SX hc hr QT ho=>
  rename_i a len cap
  have QR:cz M (.bc ow sz xs) (.slice a len cap):= .bc b off vs hl QP ha SX hc hr QT ho
  rw [Q2] at QX ns R7 Sl
  obtain ⟨ng,os,orow,orun,_⟩:=qg (P:=P) QR QX hw.cells
  have Uf:len+QU≤2147483648:=by rw [← hl,← Sg];exact hn
  obtain ⟨r1,r2⟩:=zD (P:=P) (rty:=rty) ht hx h0 h1 hi hiz g0 g1 (orun w.drew fun _=>rfl) (Sl w fun _=>rfl) (Sl w.drew fun _=>rfl) Ud Uf
  rcases XL cap (len+QU) with QQ|hge
  ·
   obtain ⟨nc,QM,hnc2,Q7⟩:=r2 QQ
   let arr:=ng++new++Builtin.zeroCells z.cells (nc - (len+QU))
   have Sx:iM M i.size (xs++ys) arr:=orow.append R7 os _
   have Sm:arr.size=nc*i.size:=by
    simp only [arr,Array.size_append,size_zeroCells,os,ns,hzs,hl,Sg,← Nat.add_mul]
    congr 1;omega
   have TH:(xs++ys).length*i.size≤(len+QU)*i.size:=by rw [Xu,hl,Sg];exact XC _
   have TY:=qu (M:=M) (w:=w) (wd:=w.drew) (arr:=arr) (ty:=RJ) (n:=(len+QU)*i.size) hw.cells rfl (Below.refl _ _).drew (0,0)
   obtain ⟨St,S4⟩:=hw.ext TY rfl rfl rfl
   have TT:(w.drew.alloc (.cells arr RJ (0,0))).heap[w.heap.size]? =some (.cells arr RJ (0,0)):=by
    show (w.heap.push _)[w.heap.size]? =_
    simp
   have Sb:own w.heap.size=none:=by
    cases e:own w.heap.size with
    |none=>rfl
    |some q=>have:=hw.owned _ _ e;omega
   obtain ⟨QK,hw3⟩:=St.qP (id:=id) (ver:=ver) S3 (a:=some ⟨w.heap.size,0,none⟩) (len:=len+QU) (cap:=nc) i.size
    (.inr ⟨w.heap.size,arr,RJ,(0,0),rfl,hw.below.new,.inl Sb,TT,fun o _ h=>by have:=h.2;simp at this,⟨by rw [Sm];exact XC _,hnc2⟩,fun o ho=>by
     simp only [MM.lay,MM.cD,if_true];rw [if_neg (by omega)]⟩)
   have Ta:=MM.fW (M:=M.lay w.heap.size arr ((len+QU)*i.size)) (id:=id) (ver:=ver) (v:= .slice (some ⟨w.heap.size,0,none⟩) (len+QU) nc) (S3 ver (XC _))
   refine ⟨_,_,QK,_,Q7,S4.trans Ta,by rw [Q2];exact hw3,?_,rfl,?_⟩
   ·have hlen:(xs++ys).length=len+QU:=by rw [Xu,hl,Sg]
    have h5:=qh (M:=M) (b:=w.heap.size) (o:= .no) (cap:=nc) (n:=(len+QU)*i.size) Sx (eN hw.cells (XC _)) (by omega) TH trivial
    rw [Q2]
    rw [hlen] at h5
    exact (h5.mono Ta).flag _ (by simp [MM.o6,MM.cR])
   ·intro j hj
    funext k
    simp [MM.cR,hj,MM.lay,MM.cD]
  ·have Q7:=r1 hge
   by_cases hy:ys= []
   ·
    subst hy
    have WW:QU=0:=by simpa using Sg.symm
    subst WW
    have Vs:new= #[]:=by
     apply Array.eq_empty_of_size_eq_zero;rw [ns];simp
    subst Vs
    have Tw:(Yt ts rty args).run P w= .ok (.slice a len cap) w:=by
     rw [Q7]
     cases a<;>simp [storeCells]
    have Uz:cap=len∨∃b vs ty fz,a=some ⟨b,0,none⟩∧¬w0.X b∧(own b=none∨own b=some id)∧w.heap[b]? =some (.cells vs ty fz)∧lW fz vs.size∧(cap*i.size≤vs.size∧cap≤9223372036854775807)∧∀o,len*i.size≤o→M.cell b o=none:=by
     rcases RA a len cap rfl with q|⟨b,vs,ty,fz,_,_,ha,r,_⟩
     ·exact .inl q
     ·rw [Q2] at r
      exact .inr ⟨b,vs,ty,fz,ha,r.base,.inr r.own,r.dZ,r.fz,r.cap,r.none⟩
    obtain ⟨QK,hw3⟩:=hw.qP (id:=id) (ver:=ver) S3 i.size Uz
    have Ta:=MM.fW (id:=id) (ver:=ver) (v:= .slice a len cap) (S3 ver (XC _))
    refine ⟨_,_,QK,w,Tw,Ta,by rw [Q2];exact hw3,?_,rfl,?_⟩
    ·rw [List.append_nil,Q2]
     exact ((QR.resize QX).mono Ta).flag _ (by simp [MM.o6,MM.cR])
    ·intro j hj
     funext k
     simp [MM.cR,hj]
   ·
    have RF:0<QU:=by
     rw [← Sg];exact List.length_pos_iff.2 hy
    rcases RA a len cap rfl with q|⟨b1,vs1,ty1,fz1,TD,RX,ha1,r,hσ⟩
    ·omega
    ·rw [Q2] at r
     subst ha1
     have UX:new.toList.length=QU*i.size:=by rw [Yf,ns,Sg]
     have SE:len*i.size+new.toList.length≤vs1.size:=by
      rw [UX,← Nat.add_mul];exact YG (Nat.mul_le_mul_right _ hge) r.cap.1
     have T1:=iu (P:=P) (b:=b1) (off:=len*i.size) new.toList 0 w vs1 r.dZ Sv (by simpa using SE) r.fz
     rw [Nat.add_zero] at T1
     let vs2:=eA vs1 (len*i.size) new.toList
     have Rv:∀o,o<len*i.size→vs2[o]? =vs1[o]? :=fun o ho=>by
      simp only [vs2];rw [iU _ _ _ _ SE,if_neg (by omega)]
     have St:=hw.Je hσ r ((len+QU)*i.size) (vs':=vs2) (eX _ _ _) Rv
     have S4:M.Le (M.ic b1 (len*i.size) ((len+QU)*i.size) vs2):=MM.CP r.none
     obtain ⟨QK,hw3⟩:=St.qP (id:=id) (ver:=ver) S3 (a:=some ⟨b1,0,none⟩) (len:=len+QU) (cap:=cap) i.size
      (.inr ⟨b1,vs2,ty1,fz1,rfl,r.base,.inr r.own,gH r.dZ,by simp only [vs2,eX];exact r.fz,by simp only [vs2,eX];exact r.cap,fun o ho=>by
       simp only [MM.ic,MM.cD,if_true]
       rw [if_neg (by omega)]
       exact r.none o (by rw [Nat.add_mul] at ho;omega)⟩)
     have Ta:=MM.fW (M:=M.ic b1 (len*i.size) ((len+QU)*i.size) vs2) (id:=id) (ver:=ver) (v:= .slice (some ⟨b1,0,none⟩) (len+QU) cap) (S3 ver (XC _))
     have hσ2:gN (gN σ id .dead) id (.cM ver i.size)=gN σ id (.cM ver i.size):=by
      funext j;by_cases e:j=id<;>simp [gN,e]
     rw [hσ2] at hw3
     refine ⟨.slice (some ⟨b1,0,none⟩) (len+QU) cap,_,QK,cW w b1 (.cells vs2 ty1 fz1),?_,S4.trans Ta,by rw [Q2];exact hw3,?_,rfl,?_⟩
     ·rw [Q7]
      simp only [gF,Yl,XK,T1,Xz,XQ]
      rfl
     ·rw [Q2]
      refine cz.flag (o:= .no) ?_ _ (by simp [MM.o6,MM.cR])
      refine cz.mono ?_ Ta
      have Sy:∀ {k:Nat} {x:D},(xs++ys)[k]? =some x→(k<len∧xs[k]? =some x)∨(len≤k∧k<len+QU∧ys[k - len]? =some x):=by
       intro k x hx
       rw [Yu] at hx
       split at hx
       ·exact .inl ⟨by omega,hx⟩
       ·refine .inr ⟨by omega,?_,by rw [← hl];exact hx⟩
        have:k - xs.length<ys.length:=by
         rcases XL (k - xs.length) ys.length with q|q
         ·exact q
         ·simp [Xy q] at hx
        omega
      have hold:∀ {k:Nat} {x:D} {cs:List D} {j:Nat} {c:D},xs[k]? =some x→x.cells=some cs→cs[j]? =some c→M.cell b1 (k*i.size+j)=some (vs k j)∧cz M.bare c (vs k j):=by
       intro k x cs j c hx QW hj
       have RR:xs≠ []:=fun e=>by subst e;simp at hx
       have e1:=ha RR
       obtain ⟨rfl,rfl⟩:b1=b∧0=off:=by simpa using e1
       have e2:sz=i.size:=QX.resolve_right RR
       have h5:=hc k x cs j c hx QW hj
       rw [e2,Yl] at h5
       exact ⟨h5,hr k x cs j c hx QW hj⟩
      have Wm:∀ {k:Nat} {x:D} {cs:List D} {j:Nat} {c:D},(xs++ys)[k]? =some x→x.cells=some cs→cs[j]? =some c→j<i.size:=by
       intro k x cs j c hx QW hj
       have hlen:cs.length=i.size:=by
        rcases Sy hx with ⟨_,h⟩|⟨_,_,h⟩
        ·obtain ⟨Ru,q1,q2⟩:=orow.elem _ x h;rw [QW] at q1;obtain rfl:=Xo q1;exact q2
        ·obtain ⟨Ru,q1,q2⟩:=R7.elem _ x h;rw [QW] at q1;obtain rfl:=Xo q1;exact q2
       rcases XL j cs.length with q|q
       ·omega
       ·simp [Xy q] at hj
      refine .bc b1 0 (fun k j=>if k<len then vs k j else (new[(k - len)*i.size+j]?).getD .nilFunc) (by rw [Xu,hl,Sg]) hge (fun _=>rfl) ?_ ?_ ?_ ?_ trivial
      ·intro k x hx
       rcases Sy hx with ⟨_,h⟩|⟨_,_,h⟩
       ·exact orow.elem _ x h
       ·exact R7.elem _ x h
      ·intro k x cs j c hx QW hj
       have SN:=Wm hx QW hj
       rw [Yl]
       simp only [MM.ic,MM.cD,if_true]
       rcases Sy hx with ⟨hk,h⟩|⟨hk,hk2,h⟩
       ·have:=oV hk SN
        rw [if_neg (by omega),if_pos hk]
        exact (hold h QW hj).1
       ·have h6:=oV hk2 SN
        have h7:len*i.size≤k*i.size:=Nat.mul_le_mul_right _ hk
        rw [if_pos ⟨by omega,h6⟩,if_neg (by omega)]
        obtain ⟨v,hv,_⟩:=R7.get _ x cs j c h QW hj
        have e:k*i.size+j - len*i.size=(k - len)*i.size+j:=by
         rw [Nat.sub_mul];omega
        simp only [vs2]
        rw [iU _ _ _ _ SE,if_pos ⟨by omega,by rw [UX,← Nat.add_mul];exact h6⟩,e,XN,hv]
        rfl
      ·intro k x cs j c hx QW hj
       rcases Sy hx with ⟨hk,h⟩|⟨hk,_,h⟩
       ·simp only [if_pos hk]
        exact (hold h QW hj).2.mono S4.bare
       ·simp only [if_neg (show ¬k<len by omega)]
        obtain ⟨v,hv,UQ⟩:=R7.get _ x cs j c h QW hj
        rw [hv]
        exact UQ.mono S4.bare
      ·intro k x cs c hx QW Rp
       rcases Sy hx with ⟨_,h⟩|⟨_,_,h⟩
       ·exact orow.st _ x cs c h QW Rp
       ·exact R7.st _ x cs c h QW Rp
     ·intro j hj
      funext k
      simp [MM.cR,hj,MM.ic,MM.cD]
theorem pY {w0:fg} {w:World} {M:MM} {own:Nat→Option Nat} {σ:Nat→Ob} (hw:cJ w0 M own σ w) {st xt RJ rty e2:TypeId} {ts:Array TypeId} {args:Array Value} (ht:P.underlying st=some (.slice RJ)) (hx:P.underlying xt=some (.slice e2)) (h0:ts[0]? =some st) (h1:ts[1]? =some xt)
  (hz:mP P RJ=true) (SB:P.bytesOf RJ≤65536) {ow VY:kp} {sz Ra:Nat} {xs ys:List D} {u u':Value} (g0:args[0]? =some u) (g1:args[1]? =some u') (hu:cz M (.bc ow sz xs) u) (WA:cz M (.bc VY Ra ys) u')
  (QX:sz=P.cellsOf RJ∨xs= []) (Wn:Ra=P.cellsOf RJ∨ys= []) (hn:xs.length+ys.length≤cV) {id ver:Nat} (S3:∀v,ver≤v→M.cu id v=none)
  (RA:∀a len cap,u= .slice a len cap→cap=len∨∃b vs ty fz TD RX,a=some ⟨b,0,none⟩∧sE w0 M own id (P.cellsOf RJ) w len cap b vs ty fz∧σ id= .cM TD RX):
  ∃v M' QK w',(Yt ts rty args).run P w= .ok v w'∧M.Le M'∧cJ w0 M' QK (gN σ id (.cM ver (P.cellsOf RJ))) w'∧cz M' (.bc (.tok id ver) (P.cellsOf RJ) (xs++ys)) v∧M'.box=M.box∧∀j,j≠id→M'.cu j=M.cu j:=by
 cases WA with
 |bc b' off' vs' Sg hcap' ha' hsize' TF Ug hst' UH=>
  rename_i a' QU RE
  have U7:cz M (.bc VY Ra ys) (.slice a' QU RE):= .bc b' off' vs' Sg hcap' ha' hsize' TF Ug hst' UH
  obtain ⟨new,ns,R7,Sl,Sv⟩:=qg (P:=P) U7 Wn hw.cells
  exact sy hw ht hx h0 h1 hz SB g0 g1 hu Sg ns R7 Sl Sv QX hn S3 RA
end
structure xh (P:Program) (id:Nat) (args:List D) (s:List Ob) (d:D) (s':List Ob):Prop where
  len:s.length≤s'.length
  run:∀(w0:fg) (M:MM) (own:Nat→Option Nat) (w:World) (vs:Array Value) (l:Nat),cJ w0 M own (ca s) w→M.upto s.length→cN M args vs→M.box id=some l→
    ∃fn tmps ag bd,(Instr.yield l vs).run P w= .ok (.round l fn tmps ag bd) w∧
      RoundIn Fence.wide 0 P l fn tmps ag bd w fun e w'=> ∃v M' QK,e= .returned v∧cJ w0 M' QK (ca s') w'∧M'.upto s'.length∧M.Le M'∧cz M' d v
def OL (P:Program) (g:Tg) (args:List D) (s:List Ob) (d:D) (s':List Ob):Prop:=match g with
  | .fn f=>ak P f args s d s'
  | .yl id=>xh P id args s d s'
def lb (P:Program) {ρ':Type} (inl:C7 P ρ'):Prop:= ∀(g:Tg) (args:List D) (s:List Ob) (z:Z P) (K:D→List Ob→Z P→Option ρ') (r:ρ'),inl g args s z K=some r→
  ∃d s' z',K d s' z'=some r∧(z'.c→z.c∧OL P g args s d s')
def JL (P:Program) (o:Oper) (ρ:Operand→D) (s s':List Ob) (d:D):Prop:=
  s.length≤s'.length∧∀(w0:fg) (M:MM) (own:Nat→Option Nat) (w:World) (a:Act),cJ w0 M own (ca s) w→M.upto s.length→(∀x∈o.op.operands,cz M (ρ x) (a.eval x))→
    ∀(next:Act→World→Prop) (Q:Exit→Act→World→Prop),
      (∀v M' QK w',M.Le M'→M'.upto s'.length→cJ w0 M' QK (ca s') w'→cz M' d v→next (a.put o.dst v) w')→J0 P o a w next Q
def jM (P:Program) (o:Oper) (ρ:Operand→D) (s:List Ob) (e:jI):Prop:=match e with
  | .all s' d=>JL P o ρ s s' d
  | .read i ob d=>(s.getD i .dead=ob∧i<s.length)∧gz P o ρ (.read i ob d)
  | .iR i j d=>(gM (s.getD i .dead) j=some d∧i<s.length)∧gz P o ρ (.iR i j d)
  | .gN i ob ob' d=>(s.getD i .dead=ob∧i<s.length)∧gz P o ρ (.gN i ob ob' d)
  |e=>gz P o ρ e
theorem hE {s:List Ob} {i:Nat} (h:s.getD i .dead≠ .dead):i<s.length:=by
 rcases XL i s.length with q|q
 ·exact q
 ·rw [Xr,Xy q] at h;exact absurd rfl h
theorem uc {P:Program} {o:Oper} {ρv:Operand→Value} {c:Call} {f:Operand} {g:FuncId} {fv cv:Array Value} (ho:o.op= .call c) (hc:c.callee= .value f) (hf:ρv f= .func (.func g) fv cv) (he:PH P g) (w:World):
  (execOp ρv o).run P w= .ok (.enter g ((fv++c.args.map ρv)++cv)) w:=by
 obtain ⟨fn,code,h1,h2,h3⟩:=he
 simp only [execOp,ho,resolve,hc,hf,Deferred.ofValue,XK,XQ,Xz,invoke,callFunc,run_program,h1,h3,Yb,if_false,h2,Option.isNone_some]
theorem xH {P:Program} {o:Oper} {a:Act} {w:World} {g:FuncId} {vs:Array Value} {next:Act→World→Prop} {Q:Exit→Act→World→Prop} (h:(execOp a.eval o).run P w= .ok (.enter g vs) w)
  (k:Calls P g vs w fun e w'=> ∃v,e= .returned v∧next (a.put o.dst v) w'):J0 P o a w next Q:=by
 intro r
 refine ⟨fun _ _=>trivial,?_⟩
 rw [show (FW r).round=r from rfl,mz h (fun d e=>by cases e) r,Oper.uponIn_enter]
 refine ⟨fun e=>(by cases e),?_⟩
 have k':CallsIn (FW r) (0 - 1) P g vs w fun e w'=> ∃v,e= .returned v∧next (a.put o.dst v) w':=(callsIn_wide (n:=0)).2 k
 refine k'.mono fun e w' hh=> ?_
 obtain ⟨v,rfl,hn⟩:=hh
 exact hn
theorem AK {P:Program} {o:Oper} {ρv:Operand→Value} {c:Call} {f:Operand} {l:Nat} (ho:o.op= .call c) (hc:c.callee= .value f) (hf:ρv f= .func (.yield l) #[] #[]) (w:World):
  (execOp ρv o).run P w=(Instr.yield l (c.args.map ρv)).run P w:=by
 simp only [execOp,ho,resolve,hc,hf,Deferred.ofValue,XK,XQ,Xz,invoke,Array.empty_append,Array.append_empty]
theorem GH {P:Program} {o:Oper} {a:Act} {w:World} {l:Nat} {fn:FuncId} {tmps:Array Value} {ag bd:Code} {next:Act→World→Prop} {Q:Exit→Act→World→Prop} (h:(execOp a.eval o).run P w= .ok (.round l fn tmps ag bd) w)
  (k:RoundIn Fence.wide 0 P l fn tmps ag bd w fun e w'=> ∃v,e= .returned v∧next (a.put o.dst v) w'):J0 P o a w next Q:=by
 intro r
 refine ⟨fun _ _=>trivial,?_⟩
 rw [show (FW r).round=r from rfl,mz h (fun d e=>by cases e) r,Oper.uponIn_round]
 refine ⟨fun e=>(by cases e),?_⟩
 have k':RoundIn (FW r) (0 - 1) P l fn tmps ag bd w fun e w'=> ∃v,e= .returned v∧next (a.put o.dst v) w':=k
 refine k'.mono fun e w' hh=> ?_
 obtain ⟨v,rfl,hn⟩:=hh
 exact hn
theorem cN.append {M:MM} {xs ys:List D} {us vs:Array Value} (h:cN M xs us) (k:cN M ys vs):cN M (xs++ys) (us++vs):=by
 refine ⟨by simp [h.1,k.1],fun i d v a b=> ?_⟩
 rw [Yu] at a
 rw [Array.getElem?_append] at b
 rw [← h.1] at b
 split at a
 ·rename_i hi
  rw [if_pos hi] at b
  exact h.2 i d v a b
 ·rename_i hi
  rw [if_neg hi] at b
  exact k.2 _ d v a b
theorem qW {M:MM} {ρ:Operand→D} {a:Act} (l:Array Operand) (h:∀x∈l,cz M (ρ x) (a.eval x)):cN M (l.toList.map ρ) (l.map a.eval):=by
 refine ⟨by simp,fun i d v p q=> ?_⟩
 rw [XH,XF] at p
 obtain ⟨x,hx,rfl⟩:=p
 rw [XN] at hx
 rw [Array.getElem?_map,hx] at q
 simp only [YI,Xv] at q
 subst q
 exact h x (Array.mem_of_getElem? hx)
theorem cz.bu {M:MM} {d:D} {v:Value} (h:cz M d v):cz M d.bu v:=by
 induction h with
 |undef v=>exact .undef v
 |int k n=>exact .int k n
 |bool b=>exact .bool b
 |str s=>exact .str s
 |ik=>exact .ik
 |ptr q h=>exact .ptr q h
 |eV q vs hx hc hr ih=>exact .eV q vs hx hc hr
 |gj h=>exact .gj h
 |je h=>exact .je h
 |ez h hh hc=>exact .ez h hh hc
 |sub h hc hp ho=>exact .sub h hc hp ho
 |bc b off vs hl QP ha QX hc hr QT ho ih=>
  rename_i o _ _ _ _ _
  rw [D.bu]
  refine .bc b off vs hl QP ha QX hc hr QT ?_
  cases o<;>first|trivial|exact ho
 |cm=>exact .cm
 |fn h1 h2 r1 r2 i1 i2=>
  rw [D.bu,D.gy,D.gy]
  refine .fn (by simpa using h1) (by simpa using h2) ?_ ?_
  ·intro i d v a b
   rw [XH,XF] at a
   obtain ⟨d0,h0,rfl⟩:=a
   exact i1 i d0 v h0 b
  ·intro i d v a b
   rw [XH,XF] at a
   obtain ⟨d0,h0,rfl⟩:=a
   exact i2 i d0 v h0 b
 |agg h r ih=>
  rw [D.bu,D.gy]
  refine .agg (by simpa using h) fun i d v a b=> ?_
  rw [XH,XF] at a
  obtain ⟨d0,h0,rfl⟩:=a
  exact ih i d0 v h0 b
 |aQ h r ih=>
  rw [D.bu,D.gy]
  refine .aQ (by simpa using h) fun i d v a b=> ?_
  rw [XH,XF] at a
  obtain ⟨d0,h0,rfl⟩:=a
  exact ih i d0 v h0 b
theorem sA {id:Nat} :∀ {ds l:List D} {sz:Nat},ja id ds=some (l,sz)→∃(k Ra:Nat) (xs:List D),ds[k]? =some (D.bc (.fresh sz) Ra xs)∧l.length=ds.length∧
  ∀(i:Nat) (d':D),l[i]? =some d'→(i=k∧d'=D.bc (.tok id 0) Ra xs)∨∃d0:D,ds[i]? =some d0∧(d'=d0∨d'=d0.bu)
 | [],l,sz,h=>by simp [ja] at h
 |d::r,l,sz,h=>by
  unfold ja at h
  split at h
  ·cases h
  ·rename_i VG RX xs r' heq
   simp only [List.cons.injEq] at heq
   obtain ⟨rfl,rfl⟩:=heq
   simp only [Xv,Prod.mk.injEq] at h
   obtain ⟨rfl,rfl⟩:=h
   refine ⟨0,RX,xs,rfl,by simp,fun i d' hi=> ?_⟩
   cases i with
   |zero=>simp at hi;exact .inl ⟨rfl,hi.symm⟩
   |succ i=>
    simp only [Yw,XH,XF] at hi
    obtain ⟨d0,h0,rfl⟩:=hi
    exact .inr ⟨d0,by simpa using h0,.inr rfl⟩
  ·rename_i d1 r1 _ heq
   simp only [List.cons.injEq] at heq
   obtain ⟨rfl,rfl⟩:=heq
   split at h
   ·rename_i l' Ra hl
    simp only [Xv,Prod.mk.injEq] at h
    obtain ⟨rfl,rfl⟩:=h
    obtain ⟨k,RX,xs,h1,h2,h3⟩:=sA hl
    refine ⟨k+1,RX,xs,by simpa using h1,by simp [h2],fun i d' hi=> ?_⟩
    cases i with
    |zero=>simp at hi;exact .inr ⟨d,rfl,.inl hi.symm⟩
    |succ i=>
     rcases h3 i d' (by simpa using hi) with ⟨e1,e2⟩|⟨d0,e1,e2⟩
     ·exact .inl ⟨by omega,e2⟩
     ·exact .inr ⟨d0,by simpa using e1,e2⟩
   ·cases h
theorem JI (id TJ:Nat) (d:D):(mw id d).2=(mw TJ d).2:=by
 have hl:∀ds:List D,(ja id ds).map (·.2)=(ja TJ ds).map (·.2):=by
  intro ds
  induction ds with
  |nil=>rfl
  |cons d r ih=>
   unfold ja
   split
   ·rfl
   ·rfl
   ·rename_i h;
    cases h1:ja id r with
    |none=>
     rw [h1] at ih
     cases h2:ja TJ r with
     |none=>simp_all
     |some p=>rw [h2] at ih;cases ih
    |some p=>
     rw [h1] at ih
     cases h2:ja TJ r with
     |none=>rw [h2] at ih;cases ih
     |some q=>
      rw [h2] at ih
      have:p.2=q.2:=by simpa using ih
      simp_all
 unfold mw
 split
 ·rfl
 ·rename_i ds
  have:=hl ds
  cases h1:ja id ds with
  |none=>
   rw [h1] at this
   cases h2:ja TJ ds with
   |none=>rfl
   |some p=>rw [h2] at this;cases this
  |some p=>
   rw [h1] at this
   cases h2:ja TJ ds with
   |none=>rw [h2] at this;cases this
   |some q=>
    rw [h2] at this
    have:p.2=q.2:=by simpa using this
    simp [this]
 ·rfl
theorem JH {w0:fg} {w w':World} {M M1:MM} {own:Nat→Option Nat} {σ:Nat→Ob} (hw:cJ w0 M own σ w) (Uo:cJ w0 M1 own σ w') (_hle:w.heap.size≤w'.heap.size) {id:Nat} (RU:∀v,M1.cu id v=none) {d:D} {v:Value} (hr:cz M1 d v) (hf:B5 w.heap.size w' M1.cell d v):
  ∃M' QK,M1.Le M'∧M'.box=M1.box∧(∀j,j≠id→M'.cu j=M1.cu j)∧cJ w0 M' QK (gN σ id (mw id d).2) w'∧cz M' (mw id d).1 v:=by
 have cM:∀ {sz:Nat} {a:Option Addr} {len cap:Nat},jY w.heap.size w' M1.cell sz a len cap→∃QK,cJ w0 (M1.cR id 0 (.slice a len cap)) QK (gN σ id (.cM 0 sz)) w':=by
  intro sz a len cap RA
  refine Uo.qP (fun v _=>RU v) sz ?_
  rcases RA with q|⟨b,vs,ty,fz,h1,h2,h3,h4,h5,h6⟩
  ·exact .inl q
  ·refine .inr ⟨b,vs,ty,fz,h1,(fun k=>by have:=hw.below.Oj k;omega),.inl ?_,h3,h4,h5,h6⟩
   cases e:own b with
   |none=>rfl
   |some q=>have:=hw.owned _ _ e;omega
 have aV:∀ {x:Value},(∀j,j≠id→(M1.cR id 0 x).cu j=M1.cu j):=fun {x} j hj=>by funext k;simp [MM.cR,hj]
 have dead:∀ {d':D},cz M1 d' v→∃M' QK,M1.Le M'∧M'.box=M1.box∧(∀j,j≠id→M'.cu j=M1.cu j)∧cJ w0 M' QK (gN σ id .dead) w'∧cz M' d' v:=
  fun h=>⟨M1,own,.refl _,rfl,fun _ _=>rfl,Uo.kill id,h⟩
 unfold mw
 split
 ·rename_i sz Ra xs
  obtain ⟨a,len,cap,rfl,rfl,RA⟩:=hf.1 _ _ _ rfl
  obtain ⟨QK,h1⟩:=cM RA
  have le:=MM.fW (M:=M1) (id:=id) (ver:=0) (v:= .slice a len cap) (RU 0)
  exact ⟨_,QK,le,rfl,aV,h1,(hr.mono le).flag _ (by simp [MM.o6,MM.cR])⟩
 ·rename_i ds
  split
  ·rename_i l sz hl
   obtain ⟨k,Ra,xs,h1,h2,h3⟩:=sA hl
   cases hr with
   |aQ hlen QR=>
    rename_i vs
    obtain ⟨a,len,cap,hv,rfl,RA⟩:=hf.2 _ _ rfl rfl k _ _ _ h1
    obtain ⟨QK,h4⟩:=cM RA
    have le:=MM.fW (M:=M1) (id:=id) (ver:=0) (v:= .slice a len cap) (RU 0)
    refine ⟨_,QK,le,rfl,aV,h4,.aQ (by rw [h2];exact hlen) fun i d' u hi hu=> ?_⟩
    rcases h3 i d' hi with ⟨rfl,rfl⟩|⟨d0,e1,e2⟩
    ·rw [hv] at hu
     obtain rfl:=Xo hu
     exact ((QR _ _ _ h1 hv).mono le).flag _ (by simp [MM.o6,MM.cR])
    ·have:=(QR i d0 u e1 hu).mono le
     rcases e2 with rfl|rfl
     ·exact this
     ·exact this.bu
  ·exact dead hr
 ·exact dead hr
theorem ML {P:Program} {o:Oper} {ρ:Operand→D} {c:Call} {f:Operand} {g:FuncId} {first cap as:List D} {d:D} (ho:o.op= .call c) (hc:c.callee= .value f) (hf:ρ f= .fn (.func g) first cap) (Ub:aY P g as d)
  (has:∀(M:MM) (vs:Array Value),cN M (first++(c.args.toList.map ρ++cap)) vs→cN M.bare as vs):gz P o ρ (.new (mw 0 d).2 fun id=>(mw id d).1):=by
 intro w0 M own σ w a id hw hr Q6 next Q hn
 have QZ:∀x∈c.args,cz M (ρ x) (a.eval x):=fun x hx=>hr x (by
  simp only [ho,XD,YN,hc]
  exact Array.mem_append.2 (.inr hx))
 have RD:=hr f (by
  simp only [ho,XD,YN,hc]
  exact Array.mem_append.2 (.inl (by simp)))
 rw [hf] at RD
 generalize hfv:a.eval f=fval at RD
 cases RD with
 |fn h1 h2 r1 r2=>
  rename_i fv cv
  have R9:cN M (first++(c.args.toList.map ρ++cap)) ((fv++c.args.map a.eval)++cv):=by
   rw [Array.append_assoc]
   exact cN.append ⟨h1,r1⟩ (cN.append (qW c.args QZ) ⟨h2,r2⟩)
  have TZ:=Ub.run w M.cell _ hw.cells (has M _ R9)
  refine xH (uc ho hc hfv Ub.JV w) (Calls.mono TZ fun e w' hh=> ?_)
  obtain ⟨v,C',rfl,hext,QR,SM⟩:=hh
  let M1:MM:=⟨C',M.box,M.cu,M.fV⟩
  have hx:Ext M w M1 w':=⟨hext.below,hext.cell,hext.only,hext.cells⟩
  obtain ⟨Uo,UT⟩:=hw.ext hx rfl rfl rfl
  obtain ⟨M',QK,q1,q2,q3,q4,q5⟩:=JH (id:=id) hw Uo hext.below.size Q6.2 (QR.mono (MM.lG M1)) SM
  refine ⟨v,rfl,hn v M' QK w' (UT.trans q1) ⟨fun j _=>by rw [q2],fun j hj=>q3 j hj⟩ ?_ q5⟩
  show cJ w0 M' QK (gN σ id (mw 0 d).2) w'
  rw [JI 0 id d]
  exact q4
theorem H0 {P:Program} {o:Oper} {ρ:Operand→D} {c:Call} {f:Operand} {g:FuncId} {first cap:List D} {d:D} {s s':List Ob} (ho:o.op= .call c) (hc:c.callee= .value f) (hf:ρ f= .fn (.func g) first cap)
  (Q7:ak P g (first++(c.args.toList.map ρ++cap)) s d s'):JL P o ρ s s' d:=by
 refine ⟨Q7.len,?_⟩
 intro w0 M own w a hw SY hr next Q hn
 have QZ:∀x∈c.args,cz M (ρ x) (a.eval x):=fun x hx=>hr x (by
  simp only [ho,XD,YN,hc]
  exact Array.mem_append.2 (.inr hx))
 have RD:=hr f (by
  simp only [ho,XD,YN,hc]
  exact Array.mem_append.2 (.inl (by simp)))
 rw [hf] at RD
 generalize hfv:a.eval f=fval at RD
 cases RD with
 |fn h1 h2 r1 r2=>
  rename_i fv cv
  have R9:cN M (first++(c.args.toList.map ρ++cap)) ((fv++c.args.map a.eval)++cv):=by
   rw [Array.append_assoc]
   exact cN.append ⟨h1,r1⟩ (cN.append (qW c.args QZ) ⟨h2,r2⟩)
  refine xH (uc ho hc hfv Q7.JV w) (Calls.mono (Q7.run w0 M own w _ hw SY R9) fun e w' hh=> ?_)
  obtain ⟨v,M',QK,rfl,q1,q2,q3,q4⟩:=hh
  exact ⟨v,rfl,hn v M' QK w' q3 q2 q1 q4⟩
theorem MK {P:Program} {o:Oper} {ρ:Operand→D} {c:Call} {f:Operand} {id:Nat} {d:D} {s s':List Ob} (ho:o.op= .call c) (hc:c.callee= .value f) (hf:ρ f= .je id)
  (Q7:xh P id (c.args.toList.map ρ) s d s'):JL P o ρ s s' d:=by
 refine ⟨Q7.len,?_⟩
 intro w0 M own w a hw SY hr next Q hn
 have QZ:∀x∈c.args,cz M (ρ x) (a.eval x):=fun x hx=>hr x (by
  simp only [ho,XD,YN,hc]
  exact Array.mem_append.2 (.inr hx))
 have RD:=hr f (by
  simp only [ho,XD,YN,hc]
  exact Array.mem_append.2 (.inl (by simp)))
 rw [hf] at RD
 generalize hfv:a.eval f=fval at RD
 cases RD with
 |je hb=>
  obtain ⟨fn,tmps,as,bd,h1,h2⟩:=Q7.run w0 M own w _ _ hw SY (qW c.args QZ) hb
  refine GH (l:=_) ((AK ho hc hfv w).trans h1) (h2.mono fun e w' hh=> ?_)
  obtain ⟨v,M',QK,rfl,q1,q2,q3,q4⟩:=hh
  exact ⟨v,rfl,hn v M' QK w' q3 q2 q1 q4⟩
theorem th {s:List Ob} {i:Nat} (h:i<s.length) (o:Ob):ca (s.set i o)=gN (ca s) i o:=by
 funext k
 unfold ca gN
 simp only [Xr]
 by_cases e:k=i
 ·subst e;rw [List.getElem?_set_self h];simp
 ·rw [YE (Ne.symm e),if_neg e]
theorem zs (s:List Ob) (o:Ob):ca (s++ [o])=gN (ca s) s.length o:=by
 funext k
 unfold ca gN
 simp only [Xr,Yu]
 by_cases e:k=s.length
 ·subst e;simp
 ·rw [if_neg e]
  split
  ·rfl
  ·rename_i h
   rw [Xy (show s.length≤k by omega)]
   have: [o][k - s.length]? =none:=Xy (by simp;omega)
   rw [this]
theorem su {size:Nat} :∀ {ys nc:List D},bZ ys=some nc→(∀(i:Nat) (x:D),ys[i]? =some x→∃cs,x.cells=some cs∧cs.length=size)→nc.length=ys.length*size∧
  ∀(i:Nat) (d:D),nc[i]? =some d→∃(q r:Nat) (x:D) (cs:List D),ys[q]? =some x∧x.cells=some cs∧cs[r]? =some d∧i=q*size+r
 | [],nc,h,_=>by
  simp only [bZ,Xv] at h
  subst h
  exact ⟨by simp,fun i d hd=>by simp at hd⟩
 |y::ys,nc,h,he=>by
  simp only [bZ] at h
  split at h
  ·rename_i c cs hc QW
   obtain rfl:=Xo h
   obtain ⟨c',TF,hlen⟩:=he 0 y rfl
   rw [hc] at TF
   obtain rfl:=Xo TF
   obtain ⟨l1,g1⟩:=su QW (fun i x hx=>he (i+1) x hx)
   refine ⟨by rw [Xu,l1,hlen,Xx,Nat.succ_mul];omega,fun i d hd=> ?_⟩
   rcases XL i c.length with hi|hi
   ·rw [List.getElem?_append_left hi] at hd
    exact ⟨0,i,y,c,rfl,hc,hd,by simp⟩
   ·rw [List.getElem?_append_right hi] at hd
    obtain ⟨q,r,x,cx,h1,h2,h3,h4⟩:=g1 _ d hd
    exact ⟨q+1,r,x,cx,h1,h2,h3,by rw [Nat.succ_mul];omega⟩
  ·cases h
theorem lG (M:MM):M.bare.Le M:=⟨fun _ _ _ h=>h,fun _ _ h=>(by cases h),fun _ _ _ h=>(by cases h),fun _ h=>h.elim⟩
theorem DC {M:MM} {size:Nat} {ys nc:List D} {arr:Array Value} (h:iM M size ys arr) (hc:bZ ys=some nc):nc.length=ys.length*size∧
  ∀(i:Nat) (d:D) (v:Value),nc[i]? =some d→arr[i]? =some v→cz M d v:=by
 obtain ⟨h1,h2⟩:=su hc h.elem
 refine ⟨h1,fun i d v hd hv=> ?_⟩
 obtain ⟨q,r,x,cs,a1,a2,a3,rfl⟩:=h2 i d hd
 obtain ⟨u,b1,b2⟩:=h.get q x cs r d a1 a2 a3
 rw [b1] at hv
 obtain rfl:=Xo hv
 exact b2.mono (lG M)
section
variable {P:Program} {o:Oper} {ρ:Operand→D}
theorem C2 {w0:fg} {w:World} {M:MM} {own:Nat→Option Nat} {σ:Nat→Ob} (hw:cJ w0 M own σ w) {t off o2 n size c b:Nat} {cs nc:List D} (hb:M.box t=some b) (hσ:σ t= .box cs) (SJ:n≠0→o2=off) (QM:(cs.drop off).take (n*size)=nc) (hle:off+n*size≤cs.length):
  ∃new:Array Value,new.size=n*size∧(∀wd:World,(∀a,wd.cell? a=w.cell? a)→(Yq size n (.slice (some ⟨b,o2,none⟩) n c)).run P wd= .ok new wd)∧nc.length=n*size∧∀(i:Nat) (d:D) (v:Value),nc[i]? =some d→new[i]? =some v→cz M d v:=by
 by_cases hn:n=0
 ·subst hn
  rw [Nat.zero_mul,List.take_zero] at QM
  subst QM
  refine ⟨#[],by simp,fun wd _=>by simp [Yq,loadCells,loadCellsFrom],by simp,fun i d v hd=>by simp at hd⟩
 obtain ⟨b2,vs,ty,kb⟩:=hw.box t cs hσ
 have eb:b2=b:=by have:=kb.box;rw [hb] at this;exact (Xo this).symm
 subst eb
 obtain rfl:=SJ hn
 have V3:=kb.len
 refine ⟨vs.extract o2 (o2+n*size),by rw [Array.size_extract];omega,fun wd Wq=> ?_,by rw [← QM,List.length_take,List.length_drop];omega,fun i d v hd hv=> ?_⟩
 ·have:=j4 (P:=P) (w:=wd) b2 o2 (vs.extract o2 (o2+n*size)) (fun j v hj=>by
   rw [Wq]
   rw [Array.getElem?_extract] at hj
   split at hj
   ·simp [World.cell?,kb.dZ,hj]
   ·cases hj)
  rw [show (vs.extract o2 (o2+n*size)).size=n*size by rw [Array.size_extract];omega] at this
  exact this
 ·rw [Array.getElem?_extract] at hv
  split at hv
  ·rename_i hi
   rw [← QM,List.getElem?_take,if_pos (by omega),List.getElem?_drop] at hd
   exact kb.rep _ d v hd hv
  ·cases hv
theorem rG {d:D} (h:isByte d=true):∃n,d= .int .u8 n:=by
 unfold isByte at h
 split at h
 ·exact ⟨_,rfl⟩
 ·cases h
theorem uh {M:MM} {nc:List D} {new:Array Value} (hl:nc.length=new.size) (h:nc.all isByte=true) (c2:∀(i:Nat) (d:D) (v:Value),nc[i]? =some d→new[i]? =some v→cz M d v):iM M 1 nc new∧∀v∈new.toList,v.oneCell'=true:=by
 have key:∀(i:Nat) (d:D),nc[i]? =some d→∃n,d= .int .u8 n∧new[i]? =some (.int .u8 n):=by
  intro i d hd
  obtain ⟨n,rfl⟩:=rG (XZ.1 h d (XP hd))
  have hi:i<new.size:=by rw [← hl];exact (List.getElem?_eq_some_iff.1 hd).1
  have e:=c2 i _ new[i] hd (by simp [hi])
  generalize hv:new[i]=v at e
  cases e
  exact ⟨n,rfl,by rw [Array.getElem?_eq_getElem hi,hv]⟩
 refine ⟨⟨by omega,fun i x hx=> ?_,fun i x cs j c hx QW hj=> ?_,fun i x cs c hx QW hc=> ?_⟩,fun v hv=> ?_⟩
 ·obtain ⟨n,rfl,_⟩:=key i x hx
  exact ⟨_,rfl,rfl⟩
 ·obtain ⟨n,rfl,hn⟩:=key i x hx
  simp only [D.cells,Xv] at QW
  subst QW
  cases j with
  |zero=>
   simp only [Yr,Xv] at hj
   subst hj
   exact ⟨_,by rw [YJ,Nat.add_zero];exact hn,.int _ _⟩
  |succ j=>simp at hj
 ·obtain ⟨n,rfl,_⟩:=key i x hx
  simp only [D.cells,Xv] at QW
  subst QW
  rw [List.mem_singleton] at hc
  subst hc
  rfl
 ·obtain ⟨i,hi,rfl⟩:=List.getElem_of_mem hv
  rw [Yf,← hl] at hi
  obtain ⟨n,_,hn⟩:=key i nc[i] (List.getElem?_eq_getElem hi)
  rw [Array.getElem_toList]
  have:=(Array.getElem?_eq_some_iff.1 hn).2
  rw [this]
  rfl
end
def MM.AH (M:MM) (b n:Nat) (vs:Array Value):MM:=M.cD b fun o=>if o<n then vs[o]? else none
theorem MM.IP {M:MM} {b n:Nat} {vs:Array Value} (h:∀o,M.cell b o=none):M.Le (M.AH b n vs):=by
 refine ⟨fun c o v hc=> ?_,fun _ _ x=>x,fun _ _ _ x=>x,fun _ x=>x⟩
 have:c≠b:=fun e=>by rw [e,h o] at hc;cases hc
 simp only [MM.AH,MM.cD,this,if_false]
 exact hc
theorem cJ.freeze {w0:fg} {w:World} {M:MM} {own:Nat→Option Nat} {σ:Nat→Ob} (h:cJ w0 M own σ w) {id b n:Nat} {cs:List D} {vs:Array Value} {ty:TypeId} (k:sF w0 M own id cs w b vs ty):
  cJ w0 (M.AH b n vs) own (gN σ id .dead) w:=by
 have le:M.Le (M.AH b n vs):=MM.IP k.none
 have RR:∀ {i c:Nat},own c=some i→i≠id→c≠b:=fun hi e ec=>by rw [ec,k.own] at hi;exact e (Xo hi).symm
 have RT:∀ {c o:Nat},c≠b→M.cell c o=none→(M.AH b n vs).cell c o=none:=fun hc hn=>by simp only [MM.AH,MM.cD,hc,if_false];exact hn
 refine ⟨h.below,?_,?_,h.owned,?_,?_,?_,?_,h.fV⟩
 ·intro c o v hc
  by_cases e:c=b
  ·subst e
   simp only [MM.AH,MM.cD,if_true] at hc
   split at hc
   ·simp [World.cell?,k.dZ,hc]
   ·cases hc
  ·simp only [MM.AH,MM.cD,e,if_false] at hc
   exact h.cells c o v hc
 ·intro c o v hc QQ
  have e:c≠b:=fun e=>k.base (e▸QQ)
  simp only [MM.AH,MM.cD,e,if_false] at hc
  exact h.ng c o v hc QQ
 ·intro i TE hi
  by_cases e:i=id
  ·rw [e,bS] at hi;cases hi
  ·rw [bN e] at hi
   obtain ⟨c,vs2,ty2,k2⟩:=h.box i TE hi
   exact ⟨c,vs2,ty2,k2.box,k2.base,k2.own,fun o=>RT (RR k2.own e) (k2.none o),k2.dZ,k2.len,fun j d v a b=>(k2.rep j d v a b).mono le,k2.room⟩
 ·intro i ver sz hi
  by_cases e:i=id
  ·rw [e,bS] at hi;cases hi
  ·rw [bN e] at hi
   obtain ⟨a,len,cap,k2⟩:=h.cM i ver sz hi
   refine ⟨a,len,cap,k2.cu,k2.last,?_⟩
   rcases k2.room with r|⟨c,vs2,ty2,fz,ha,r⟩
   ·exact .inl r
   ·exact .inr ⟨c,vs2,ty2,fz,ha,r.base,r.own,r.dZ,r.fz,r.cap,fun o ho=>RT (RR r.own e) (r.none o ho)⟩
 ·intro i F hi
  by_cases e:i=id
  ·rw [e,bS] at hi;cases hi
  ·rw [bN e] at hi
   obtain ⟨c,QV,clock,q⟩:=h.mp i F hi
   exact ⟨c,QV,clock,q.box,q.base,q.own,fun o=>RT (RR q.own e) (q.none o),q.dZ,q.fits⟩
 ·intro i k2 t ps ag bd hi
  by_cases e:i=id
  ·rw [e,bS] at hi;cases hi
  ·rw [bN e] at hi
   obtain ⟨l,r,q⟩:=h.lp i k2 t ps ag bd hi
   exact ⟨l,r,q.aV le q.own q.dZ⟩
def rows (sz:Nat):Nat→List D→List D
  |0,_=> []
  |n+1,cs=> .agg (cs.take sz)::rows sz n (cs.drop sz)
theorem Ht {w0:fg} {w:World} {M:MM} {own:Nat→Option Nat} {id b n cap:Nat} {cs:List D} {vs:Array Value} {ty:TypeId} (k:sF w0 M own id cs w b vs ty) (hl:cs.length=n) (QP:n≤cap) (hb:cs.all isByte=true):
  cz (M.AH b cs.length vs) (.bc .no 1 cs) (.slice (some ⟨b,0,none⟩) n cap):=by
 have key:∀ {i:Nat} {x:D},cs[i]? =some x→i<cs.length∧∃m,x= .int .u8 m∧vs[i]? =some (.int .u8 m):=by
  intro i x h
  obtain ⟨QQ,_⟩:=List.getElem?_eq_some_iff.1 h
  rw [XZ] at hb
  obtain ⟨m,rfl⟩:=rG (hb x (XP h))
  obtain ⟨v,hv,hr⟩:=mF k.len k.rep h
  cases hr
  exact ⟨QQ,m,rfl,hv⟩
 refine .bc b 0 (fun i j=>vs.getD (i*1+j) .nilFunc) hl QP (fun _=>rfl) ?_ ?_ ?_ ?_ trivial
 ·intro i x h1
  obtain ⟨QQ,m,rfl,hv⟩:=key h1
  exact ⟨_,rfl,rfl⟩
 ·intro i x c' j c h1 h2 h3
  obtain ⟨QQ,m,rfl,hv⟩:=key h1
  simp only [D.cells,Xv] at h2
  subst h2
  cases j with
  |zero=>simp only [MM.AH,MM.cD,if_true,Yl,YJ,Nat.add_zero,if_pos QQ,XV,hv,Yp]
  |succ j=>simp at h3
 ·intro i x c' j c h1 h2 h3
  obtain ⟨QQ,m,rfl,hv⟩:=key h1
  simp only [D.cells,Xv] at h2
  subst h2
  cases j with
  |zero=>
   simp only [Yr,Xv] at h3
   subst h3
   simp only [YJ,Nat.add_zero,XV,hv,Yp]
   exact .int _ _
  |succ j=>simp at h3
 ·intro i x c' c h1 h2 h3
  obtain ⟨QQ,m,rfl,hv⟩:=key h1
  simp only [D.cells,Xv] at h2
  subst h2
  rw [List.mem_singleton] at h3
  subst h3
  rfl
theorem ak.AH {P:Program} {f:FuncId} {args:List D} {s s':List Ob} {id n:Nat} {cs:List D} (h:ak P f args s (.ez id 1 n) s') (hs:s'.getD id .dead= .box cs) (hl:cs.length=n) (hb:cs.all isByte=true):
  ak P f args s (.bc .no 1 cs) (s'.set id .dead):=by
 have QQ:id<s'.length:=by
  rcases XL id s'.length with q|q
  ·exact q
  ·rw [Xr,Xy q] at hs;cases hs
 refine ⟨h.JV,by rw [Ym];exact h.len,fun w0 M own w vs hw SY hr=>Calls.mono (h.run w0 M own w vs hw SY hr) ?_⟩
 rintro e w' ⟨v,M',QK,rfl,q1,q2,q3,q4⟩
 cases q4 with
 |ez SQ Sf QP=>
  rename_i b cap
  obtain ⟨b2,vb,ty,kb⟩:=q1.box id cs hs
  have eb:b2=b:=by have:=kb.box;rw [SQ] at this;exact (Xo this).symm
  subst eb
  refine ⟨_,M'.AH b2 cs.length vb,QK,rfl,?_,?_,q3.trans (MM.IP kb.none),Ht kb hl QP hb⟩
  ·rw [th QQ];exact q1.freeze (n:=cs.length) kb
  ·rw [Ym];exact q2
section
variable {ρ':Type} {P:Program} {r:ρ'} {o:Oper} {ρ:Operand→D}
theorem foldl_push (l:List D) (h:l.all isByte=true):∃ns:List Int,l=ns.map (fun n=>D.int .u8 n)∧gk l=ns.foldl (fun r n=>r.push (UInt8.ofNat n.toNat)) ByteArray.empty:=by
 have key:∀(l:List D) (s:ByteArray),l.all isByte=true→∃ns:List Int,l=ns.map (fun n=>D.int .u8 n)∧(⟨s.data++(l.map byteOf).toArray⟩:ByteArray)=ns.foldl (fun r n=>r.push (UInt8.ofNat n.toNat)) s:=by
  intro l
  induction l with
  |nil=>intro s _;exact ⟨[],rfl,by simp⟩
  |cons d t ih=>
   intro s h
   rw [List.all_cons,Xp] at h
   obtain ⟨n,rfl⟩:∃n,d= .int .u8 n:=by
    have h1:=h.1
    unfold isByte at h1
    split at h1
    ·exact ⟨_,rfl⟩
    ·cases h1
   obtain ⟨ns,e1,e2⟩:=ih (s.push (UInt8.ofNat n.toNat)) h.2
   refine ⟨n::ns,by simp [e1],?_⟩
   rw [List.foldl_cons,← e2]
   congr 1
   apply Array.ext'
   simp [byteOf,ByteArray.push]
 obtain ⟨ns,e1,e2⟩:=key l ByteArray.empty h
 refine ⟨ns,e1,?_⟩
 rw [← e2]
 unfold gk
 congr 1
 apply Array.ext'
 simp [ByteArray.empty,ByteArray.emptyWithCapacity]
 rfl
theorem Gf {z:Z P} {src dst:TypeId} {x:Operand} {K:Z P→jI→Option ρ'} (ho:o.op= .convert src dst x) (h:Jp P z src dst (ρ x) K=some r):
  ∃e z',K z' e=some r∧(z'.c→z.c∧gz P o ρ e)∧((∃d,e= .pure d)∨∃q m,e= .new q m):=by
 unfold Jp at h
 split at h
 ·rename_i hs hd hx
  refine ⟨_,z,h,fun c=>⟨c,cI fun M w a _ hr=> ?_⟩,.inl ⟨_,rfl⟩⟩
  have h1:=eg (hr x (by simp [ho,XD])) hx
  rename_i d k _ n _
  exact ⟨.int _ _,by simp [execOp,ho,h1,convert,run_underlying hs,run_underlying hd,Conv.intToInt],.int _ _⟩
 ·rename_i hs hd hx
  refine ⟨_,z,h,fun c=>⟨c,cI fun M w a _ hr=> ?_⟩,.inl ⟨_,rfl⟩⟩
  have h1:=hr x (by simp [ho,XD])
  rw [hx] at h1
  generalize hv:a.eval x=v at h1
  cases h1
  exact ⟨.string _,by simp [execOp,ho,hv,convert,run_underlying hs,run_underlying hd],.str _⟩
 ·rename_i e s hs hd hx
  split at h
  ·rename_i he
   obtain ⟨Uf,h⟩:=cr h
   rw [YB] at Uf
   refine ⟨_,z,h,fun c=>⟨c,?_⟩,.inr ⟨_,_,rfl⟩⟩
   intro w0 M own σ w a id hw hr Q6 next Q hn
   have h1:=hr x (by simp [ho,XD])
   rw [hx] at h1
   generalize hv:a.eval x=v at h1
   cases h1
   let cap:=grownCap w s.size 0 e
   have QP:s.size≤cap:=grownCap_ge w _ _ _
   let arr:Array Value:=(s.data.map fun b=>Value.int .u8 b.toNat)++Array.replicate (cap - s.size) (.int .u8 0)
   have Wx:s.data.size=s.size:=rfl
   have Sm:arr.size=cap:=by simp [arr,Wx];omega
   have Sx:iM M 1 (kN s) arr:=by
    have hb:∀ {i:Nat} {x:D},(kN s)[i]? =some x→∃c,s.data[i]? =some c∧x=y9 c:=by
     intro i x hi
     unfold kN at hi
     rw [XH,XF] at hi
     obtain ⟨c,hc,rfl⟩:=hi
     exact ⟨c,by simpa using hc,rfl⟩
    refine ⟨?_,?_,?_,?_⟩
    ·rw [Sm,YJ];simp [kN,Wx];exact QP
    ·intro i x hi
     obtain ⟨c,_,rfl⟩:=hb hi
     exact ⟨[y9 c],rfl,rfl⟩
    ·intro i x cs j c hi QW hj
     obtain ⟨b,Si,rfl⟩:=hb hi
     simp only [y9,D.cells,Xv] at QW
     subst QW
     cases j with
     |succ j=>simp at hj
     |zero=>
      simp at hj
      subst hj
      refine ⟨.int .u8 b.toNat,?_,.int _ _⟩
      have QQ:i<s.data.size:=by
       rcases XL i s.data.size with q|q
       ·exact q
       ·simp [Ye q] at Si
      simp only [arr,YJ,Nat.add_zero]
      rw [Array.getElem?_append_left (by simpa using QQ)]
      simp [Si]
    ·intro i x cs c hi QW Rp
     obtain ⟨b,_,rfl⟩:=hb hi
     simp only [y9,D.cells,Xv] at QW
     subst QW
     simp at Rp
     subst Rp
     rfl
   have hlen:(kN s).length=s.size:=by simp [kN,Wx]
   have TY:=qu (M:=M) (w:=w) (wd:=w.drew) (arr:=arr) (ty:=e) (n:=s.size) hw.cells rfl (Below.refl _ _).drew (arr.size,arr.size+1)
   obtain ⟨St,S4⟩:=hw.ext TY rfl rfl rfl
   have TT:(w.drew.alloc (.cells arr e (arr.size,arr.size+1))).heap[w.heap.size]? =some (.cells arr e (arr.size,arr.size+1)):=by
    show (w.heap.push _)[w.heap.size]? =_
    simp
   have Sb:own w.heap.size=none:=by
    cases e:own w.heap.size with
    |none=>rfl
    |some q=>have:=hw.owned _ _ e;omega
   obtain ⟨QK,hw3⟩:=St.qP (id:=id) (ver:=0) (fun v _=>Q6.2 v) (a:=some ⟨w.heap.size,0,none⟩) (len:=s.size) (cap:=cap) 1
    (.inr ⟨w.heap.size,arr,e,(arr.size,arr.size+1),rfl,hw.below.new,.inl Sb,TT,fun o ho h=>by have:=h.1;simp at this;omega,⟨by rw [Sm];omega,YG (grownCap_le_maxLen w _ _ _ (by unfold maxLen;omega)) (by unfold maxLen;omega)⟩,fun o ho=>by
     simp only [MM.lay,MM.cD,if_true];rw [if_neg (by omega)]⟩)
   have Ta:=MM.fW (M:=M.lay w.heap.size arr s.size) (id:=id) (ver:=0) (v:= .slice (some ⟨w.heap.size,0,none⟩) s.size cap) (Q6.2 0)
   refine gA (v:= .slice (some ⟨w.heap.size,0,none⟩) s.size cap) (w':=w.drew.alloc (.cells arr e (arr.size,arr.size+1))) ?_ (hn _ _ QK _ (S4.trans Ta) ⟨fun _ _=>rfl,fun j hj=>by funext k;simp [MM.cR,hj,MM.lay,MM.cD]⟩ hw3 ?_)
   ·have UK:(w.drew.alloc (.cells arr e)).freeze ⟨w.heap.size,arr.size,none⟩ 1=w.drew.alloc (.cells arr e (arr.size,arr.size+1)):=by
     unfold World.freeze World.alloc
     simp only [Nat.one_ne_zero,if_false]
     congr 1
     apply Array.ext_getElem?
     intro k
     rw [Array.getElem?_modify]
     by_cases e1:w.heap.size=k
     ·subst e1
      rw [if_pos rfl]
      show Option.map _ ((w.heap.push _)[w.heap.size]?)=(w.heap.push _)[w.heap.size]?
      simp
     ·rw [if_neg e1]
      show (w.heap.push _)[k]? =(w.heap.push _)[k]?
      rw [Array.getElem?_push,Array.getElem?_push,if_neg (Ne.symm e1),if_neg (Ne.symm e1)]
    have UG:(w.drew.alloc (.cells arr e)).shape? w.heap.size=some (e,arr.size):=by
     unfold World.shape?
     have:(w.drew.alloc (.cells arr e)).heap[w.heap.size]? =some (.cells arr e):=by
      show (w.heap.push _)[w.heap.size]? =_
      simp
     rw [this]
    have Uk:(Question.appendCap s.size 0 e).forced=false:=rfl
    have hch:(choose (.appendCap s.size 0 e)).run P w= .ok cap w.drew:=by
     rw [run_choose,Uk];rfl
    have Vm:(newRow e arr).run P w.drew= .ok ⟨w.heap.size,0,none⟩ (w.drew.alloc (.cells arr e)):=by first|(simp [newRow];done)|(simp [newRow];rfl)
    simp only [execOp,ho,hv,convert,XK,run_underlying hs,run_underlying hd,run_underlying he,Xz,Conv.stringToBytes,hch]
    rw [show (newRow e ((s.data.map fun b=>Value.int .u8 b.toNat)++Array.replicate (cap - s.size) (.int .u8 0)))=newRow e arr from rfl,Vm]
    simp only [Xz,markStringish,XK,run_shape,UG,run_freeze,UK,XQ]
   ·have h5:=qh (M:=M) (b:=w.heap.size) (o:= .no) (cap:=cap) (n:=s.size) Sx (eN hw.cells (XC _)) (by rw [hlen];exact QP) (by rw [hlen];omega) trivial
    rw [hlen] at h5
    exact (h5.mono Ta).flag _ (by simp [MM.o6,MM.cR])
  ·cases h
 ·rename_i e ow sz xs hs hd hx
  split at h
  ·rename_i he
   obtain ⟨z',h1,h2⟩:=fj h
   refine ⟨_,z',h1,fun c=>⟨(h2 c).1,cI fun M w a hw hr=> ?_⟩,.inl ⟨_,rfl⟩⟩
   have RY:=hr x (by simp [ho,XD])
   rw [hx] at RY
   generalize hv:a.eval x=v at RY
   obtain ⟨ns,e1,e2⟩:=foldl_push xs (h2 c).2
   cases RY with
   |bc b off vs hl QP ha QX hc hrr QT UH=>
    rename_i ad len cap
    have QR:cz M (.bc ow sz xs) (.slice ad len cap):= .bc b off vs hl QP ha QX hc hrr QT UH
    have WM:sz=1∨xs= []:=by
     cases xs with
     |nil=>exact .inr rfl
     |cons d t=>
      left
      obtain ⟨cs,q1,q2⟩:=QX 0 d rfl
      cases ns with
      |nil=>simp at e1
      |cons n ns=>simp at e1;rw [e1.1] at q1;simp [D.cells] at q1;subst q1;simpa using q2.symm
    obtain ⟨arr,os,orow,orun,_⟩:=qg (P:=P) QR WM hw
    have Sm:arr=(ns.map (Value.int .u8)).toArray:=by
     apply Array.ext_getElem?
     intro k
     have hlen:xs.length=ns.length:=by rw [e1];simp
     rcases XL k ns.length with q|q
     ·have hxk:xs[k]? =some (.int .u8 ns[k]):=by rw [e1];simp [q]
      obtain ⟨u,hu,hru⟩:=orow.get k _ [.int .u8 ns[k]] 0 _ hxk rfl rfl
      cases hru
      rw [YJ,Nat.add_zero] at hu
      rw [hu]
      simp [q]
     ·rw [Ye (by omega),Ye (by simpa using q)]
    have Wg:(Conv.bytesToString (.slice ad len cap)).run P w= .ok (.string (gk xs)) w:=by
     rw [e2]
     cases ad with
     |none=>
      have:xs= []:=by
       cases xs with
       |nil=>rfl
       |cons d t=>have:=ha (by simp);cases this
      subst this
      have:ns= []:=by simpa using e1.symm
      subst this
      simp [Conv.bytesToString]
     |some ad=>
      have:=orun w (fun _=>rfl)
      simp only [Yq,YJ] at this
      rw [Sm] at this
      exact run_bytesToString w ad len cap ns this
    refine ⟨.string (gk xs),?_,.str _⟩
    simp only [execOp,ho,hv,XK,run_convert_bytes_string w src dst e ad len cap hs he hd,Wg,Xz,XQ]
  ·cases h
 ·cases h
theorem tg {z:Z P} {st xt RJ e2:TypeId} {ts:Array TypeId} {id off sz n VG:Nat} {s:List Ob} {K:Z P→jI→Option ρ'} {args:Act→Array Value} {ux uy:Act→Value}
  (Rx:∀(a:Act) (w w':World) (v:Value),(Yt ts o.type (args a)).run P w= .ok v w'→(execOp a.eval o).run P w= .ok (.value v) w') (ht:P.underlying st=some (.slice RJ)) (hx:P.underlying xt=some (.slice e2)) (h0:ts[0]? =some st) (h1:ts[1]? =some xt)
  (g0:∀a,(args a)[0]? =some (ux a)) (g1:∀a,(args a)[1]? =some (uy a)) (VT:∀(M:MM) (a:Act),(∀q∈o.op.operands,cz M (ρ q) (a.eval q))→cz M (.bc .tight VG []) (ux a))
  (Vz:∀(M:MM) (a:Act),(∀q∈o.op.operands,cz M (ρ q) (a.eval q))→∃b o2 c,uy a= .slice (some ⟨b,o2,none⟩) n c∧M.box id=some b∧(n≠0→o2=off))
  (h:Cb P z RJ id off sz n s K=some r):∃e z',K z' e=some r∧(z'.c→z.c∧jM P o ρ s e):=by
 unfold Cb at h
 split at h
 ·rename_i cs QW
  obtain ⟨hchk,h⟩:=cr h
  simp only [Xp,YB,XR] at hchk
  obtain ⟨⟨hzero,QX⟩,hb⟩:=hchk
  obtain ⟨z1,h,hz1⟩:=sx h
  subst QX
  split at h
  ·rename_i q r0 hzo0
   split at h
   ·rename_i UZ
    rw [XR] at UZ
    split at h
    ·rename_i l i k nc hg rest
     obtain ⟨z2,h,Uu⟩:=fj h
     refine ⟨_,z2,h,fun hc=> ?_⟩
     obtain ⟨⟨e1,e2',e3⟩,TR⟩:=(Uu hc).1
     have Vx:=(Uu hc).2
     subst e1 e2' e3
     refine ⟨(hz1 TR).1,by simp,?_⟩
     intro w0 M own w a hw SY hr next Q hn
     obtain ⟨b,o2,c,huv,SQ,SJ⟩:=Vz M a hr
     obtain ⟨new,ns,Sl,c1,c2⟩:=C2 (P:=P) (c:=c) hw SQ QW SJ hg.1 hg.2
     have Wt:nc.length=n:=by rw [c1,UZ,YJ]
     obtain ⟨R7,Sv⟩:=uh (by rw [c1,ns]) Vx c2
     have WX:=g1 a
     rw [huv] at WX
     have RY:=VT M a hr
     obtain ⟨v,M',QK,w',q1,q2,q3,q4,q5,q6⟩:=sy (rty:=o.type) (ys:=nc) hw ht hx h0 h1 hzero hb (g0 a) WX RY Wt (by rw [ns,Wt]) (by rw [UZ];exact R7) Sl Sv (.inr rfl) (by rw [XE,Yl,Wt];exact (hz1 TR).2) (id:=s.length) (ver:=0) (fun v _=>SY.2 _ v (XC _))
      (fun ad len cap e=>by
       rw [e] at RY
       cases RY with
       |bc b off vs hl QP ha QX hc hr QT ho=>exact .inl ho)
     rw [List.nil_append] at q4
     refine gA (Rx a w w' v q1) (hn v M' QK w' q2 ⟨fun i hi=> ?_,fun i q hi=> ?_⟩ ?_ q4)
     ·simp only [Xu,Xx,XE] at hi
      rw [q5];exact SY.1 i (by omega)
     ·simp only [Xu,Xx,XE] at hi
      rw [q6 i (by omega)];exact SY.2 i q (by omega)
     ·rw [zs];exact q3
    ·cases h
   ·cases h
  cases h
 ·cases h
theorem Hl {z:Z P} {s:List Ob} {x:D} {size:Nat} {K:Z P→List D→Nat→Option ρ'} (h:Mg z s x size K=some r):
  ∃z' nc m,K z' nc m=some r∧(z'.c→z.c∧∀(w0:fg) (M:MM) (own:Nat→Option Nat) (w:World) (u:Value),cJ w0 M own (ca s) w→cz M x u→
   ∃(a:Option Addr) (c:Nat) (new:Array Value),u= .slice a m c∧new.size=m*size∧(∀wd:World,(∀a,wd.cell? a=w.cell? a)→(Yq size m u).run P wd= .ok new wd)∧nc.length=m*size∧∀(i:Nat) (d:D) (v:Value),nc[i]? =some d→new[i]? =some v→cz M d v):=by
 have bx:∀ {id off n:Nat} {q:Bool},(∀(M:MM) (u:Value),cz M x u→∃b o2 c,u= .slice (some ⟨b,o2,none⟩) n c∧M.box id=some b∧(n≠0→o2=off))→jA q (qx z s id off n size K)=some r→
   ∃z' nc m,K z' nc m=some r∧(z'.c→z.c∧∀(w0:fg) (M:MM) (own:Nat→Option Nat) (w:World) (u:Value),cJ w0 M own (ca s) w→cz M x u→
   ∃(a:Option Addr) (c:Nat) (new:Array Value),u= .slice a m c∧new.size=m*size∧(∀wd:World,(∀a,wd.cell? a=w.cell? a)→(Yq size m u).run P wd= .ok new wd)∧nc.length=m*size∧∀(i:Nat) (d:D) (v:Value),nc[i]? =some d→new[i]? =some v→cz M d v):=by
  intro id off n q hu h
  obtain ⟨_,h⟩:=cr h
  unfold qx at h
  split at h
  ·rename_i cs QW
   split at h
   ·rename_i l i k nc hg rest Wp
    refine ⟨_,_,_,h,fun hc=>⟨hc.2,fun w0 M own w u hw hr=> ?_⟩⟩
    obtain ⟨⟨e1,e2,e3⟩,_⟩:=hc
    subst e1 e2 e3
    obtain ⟨b,o2,c,rfl,SQ,SJ⟩:=hu M u hr
    obtain ⟨new,ns,Sl,c1,c2⟩:=C2 (P:=P) (c:=c) hw SQ QW SJ hg.1 hg.2
    exact ⟨_,_,new,rfl,ns,Sl,c1,c2⟩
   ·cases h
  ·cases h
 unfold Mg at h
 split at h
 ·obtain ⟨hk,h⟩:=cr h
  obtain ⟨z',nc,h,hz⟩:=FD h
  refine ⟨z',nc,_,h,fun hc=>⟨(hz hc).1,fun w0 M own w u hw hr=> ?_⟩⟩
  cases hr with
  |bc b off vs hl QP ha QX hc0 hr0 QT ho=>
   rename_i a len cap
   have QR:=cz.bc b off vs hl QP ha QX hc0 hr0 QT ho
   obtain ⟨new,ns,R7,Sl,_⟩:=qg (P:=P) QR (mc hk) hw.cells
   obtain ⟨c1,c2⟩:=DC R7 (hz hc).2
   subst hl
   exact ⟨_,_,new,rfl,ns,Sl,c1,c2⟩
 ·exact bx (fun M u hr=>by cases hr with|ez hb Sf hc=>exact ⟨_,0,_,rfl,hb,fun _=>rfl⟩) h
 ·exact bx (fun M u hr=>by cases hr with|sub hb hc hp SJ=>exact ⟨_,_,_,rfl,hb,SJ⟩) h
 ·cases h
theorem sl {z:Z P} {c:Call} {x y:Operand} {rest:List Operand} {s:List Ob} {K:Z P→jI→Option ρ'} {ty e:TypeId} {id off n:Nat} (ho:o.op= .call c) (hc:c.callee= .builtin .copy) (QZ:c.args.toList=x::y::rest) (t0:c.argTypes[0]? =some ty) (ht:P.underlying ty=some (.slice e)) (hk:known P e=true) (hs:P.cellsOf e=1)
  (hu:∀(M:MM) (u:Value),cz M (ρ x) u→∃b o2 c,u= .slice (some ⟨b,o2,none⟩) n c∧M.box id=some b∧(n≠0→o2=off)) (h:wV z s id off n (ρ y) K=some r):∃e z',K z' e=some r∧(z'.c→z.c∧jM P o ρ s e):=by
 have hx:x∈o.op.operands:=by
  have:x∈c.args.toList:=by rw [QZ];simp
  simp only [ho,XD,YN,hc];simpa using this
 have hy:y∈o.op.operands:=by
  have:y∈c.args.toList:=by rw [QZ];simp
  simp only [ho,XD,YN,hc];simpa using this
 unfold wV at h
 obtain ⟨z1,nc,m,h,hz1⟩:=Hl h
 obtain ⟨z2,h,Uu⟩:=fj h
 obtain ⟨z3,h,hz3⟩:=fj h
 split at h
 ·rename_i cs QW
  split at h
  ·rename_i l i xs l' hg Xa Wp
   refine ⟨_,_,h,fun Rp=> ?_⟩
   obtain ⟨⟨e1,e2,e3⟩,hc3⟩:=Rp
   subst e1 e2 e3
   have VX:=(hz3 hc3).1
   have Vx:=(hz3 hc3).2
   have TR:=(Uu VX).1
   have WY:=(Uu VX).2
   rw [YB] at WY
   have QQ:id<s.length:=hE (by rw [QW];intro e;cases e)
   refine ⟨(hz1 TR).1,by simp,?_⟩
   intro w0 M own w a hw SY hr next Q hn
   obtain ⟨b,o2,cc,VT,SQ,SJ⟩:=hu M _ (hr x hx)
   obtain ⟨sa,sc,new,Vz,ns,Sl,c1,c2⟩:=(hz1 TR).2 w0 M own w _ hw (hr y hy)
   rw [YJ] at ns c1
   obtain ⟨R7,Sv⟩:=uh (by rw [c1,ns]) Vx c2
   obtain ⟨b2,vs,bt,kb⟩:=hw.box id l QW
   have eb:b2=b:=by have:=kb.box;rw [SQ] at this;exact (Xo this).symm
   subst eb
   have UX:new.toList.length=m:=by rw [Yf,ns]
   have hle:=kb.len
   have TC:i+m≤l.length:=by rw [← c1];exact hg.2
   have QT:(storeCells ⟨b2,o2,none⟩ new.toList).run P w= .ok () (cW w b2 (.cells (eA vs i new.toList) bt (0,0))):=by
    by_cases hm:m=0
    ·have Rt:new= #[]:=Array.eq_empty_of_size_eq_zero (by rw [ns,hm])
     subst Rt
     have:=iu (P:=P) (b:=b2) (off:=i) (fz:=(0,0)) ([]:List Value) 0 w vs kb.dZ (by simp) (by simp;omega) (fun o _ h=>by have:=h.2;simp at this)
     simp only [storeCells,XQ,Nat.add_zero] at this ⊢
     exact this
    ·obtain rfl:=SJ (by omega)
     have:=iu (P:=P) (b:=b2) (off:=o2) (fz:=(0,0)) new.toList 0 w vs kb.dZ Sv (by rw [UX];omega) (fun o _ h=>by have:=h.2;simp at this)
     rw [Nat.add_zero] at this
     exact this
   have hrl:cN M xs ⟨new.toList⟩:=⟨by simp [c1,ns],fun i d v hd hv=>c2 i d v hd (by simpa using hv)⟩
   have QR:=nX (M:=M) kb.len kb.rep hrl hg.2
   have V7:jl l i xs=l':=by unfold jl;exact hg.1
   rw [V7] at QR
   have T3:=hw.Ha kb QR.1 (eX _ _ _) QR.2
   refine gA (v:= .int .i64 m) (w':=cW w b2 (.cells (eA vs i new.toList) bt (0,0))) ?_ (hn _ M own _ (.refl M) ⟨fun j hj=> ?_,fun j q hj=> ?_⟩ ?_ (.int _ _))
   ·rw [fx ho hc]
    have e0:c.args[0]? =some x:=by rw [← XN,QZ];rfl
    have e1:c.args[1]? =some y:=by rw [← XN,QZ];rfl
    have Th:=Sl w (fun _=>rfl)
    rw [Vz] at Th
    simp [builtin,Builtin.copy_,t0,e0,e1,run_underlying ht,VT,Vz,Builtin.lenOf,Nat.min_eq_left WY,dx hk,hs,Th,QT,goInt]
   ·rw [Ym] at hj;exact SY.1 j hj
   ·rw [Ym] at hj;exact SY.2 j q hj
   ·rw [th QQ];exact T3
  ·cases h
 ·cases h
theorem Ge {z:Z P} {c:Call} {x y:Operand} {rest:List Operand} {s:List Ob} {K:Z P→jI→Option ρ'} (ho:o.op= .call c) (hc:c.callee= .builtin .copy) (QZ:c.args.toList=x::y::rest) (h:Jo P z c.argTypes (ρ x) (ρ y) s K=some r):∃e z',K z' e=some r∧(z'.c→z.c∧jM P o ρ s e):=by
 unfold Jo at h
 split at h
 ·rename_i ty ts U1
  have t0:c.argTypes[0]? =some ty:=by rw [← XN,U1];rfl
  split at h
  ·rename_i e ht
   obtain ⟨hk,h⟩:=cr h
   rw [Xp,XR] at hk
   split at h
   ·rename_i id sz n hρ
    obtain ⟨_,h⟩:=cr h
    exact sl ho hc QZ t0 ht hk.1 hk.2 (fun M u hr=>by rw [hρ] at hr;cases hr with|ez hb Sf hc=>exact ⟨_,0,_,rfl,hb,fun _=>rfl⟩) h
   ·rename_i id off sz n cp hρ
    obtain ⟨_,h⟩:=cr h
    exact sl ho hc QZ t0 ht hk.1 hk.2 (fun M u hr=>by rw [hρ] at hr;cases hr with|sub hb hc hp SJ=>exact ⟨_,_,_,rfl,hb,SJ⟩) h
   ·cases h
  ·cases h
 ·cases h
theorem Fh {z:Z P} {st xt RJ e2:TypeId} {ts:Array TypeId} {id off sz n c Ux SG RX n2:Nat} {cp2:Option Nat} {s:List Ob} {K:Z P→jI→Option ρ'} {args:Act→Array Value} {ux uy:Act→Value}
  (Rx:∀(a:Act) (w w':World) (v:Value),(Yt ts o.type (args a)).run P w= .ok v w'→(execOp a.eval o).run P w= .ok (.value v) w') (ht:P.underlying st=some (.slice RJ)) (hx:P.underlying xt=some (.slice e2)) (h0:ts[0]? =some st) (h1:ts[1]? =some xt)
  (g0:∀a,(args a)[0]? =some (ux a)) (g1:∀a,(args a)[1]? =some (uy a)) (VT:∀(M:MM) (a:Act),(∀q∈o.op.operands,cz M (ρ q) (a.eval q))→cz M (.sub id off sz n (some c)) (ux a))
  (Vz:∀(M:MM) (a:Act),(∀q∈o.op.operands,cz M (ρ q) (a.eval q))→cz M (.sub Ux SG RX n2 cp2) (uy a))
  (h:IQ P z RJ id off sz n c Ux SG RX n2 s K=some r):∃e z',K z' e=some r∧(z'.c→z.c∧jM P o ρ s e):=by
 simp [IQ] at h
theorem zm {z:Z P} {c:Call} {x y:Operand} {rest:List Operand} {s:List Ob} {K:Z P→jI→Option ρ'} (ho:o.op= .call c) (hc:c.callee= .builtin .append) (QZ:c.args.toList=x::y::rest) (h:xe P z c.argTypes (ρ x) (ρ y) s K=some r):
  ∃e z',K z' e=some r∧(z'.c→z.c∧jM P o ρ s e):=by
 have hx:x∈o.op.operands:=by
  have:x∈c.args.toList:=by rw [QZ];simp
  simp only [ho,XD,YN,hc];simpa using this
 have hy:y∈o.op.operands:=by
  have:y∈c.args.toList:=by rw [QZ];simp
  simp only [ho,XD,YN,hc];simpa using this
 have ga:∀a:Act,(c.args.map a.eval)[0]? =some (a.eval x)∧(c.args.map a.eval)[1]? =some (a.eval y):=by
  intro a
  have e0:c.args[0]? =some x:=by rw [← XN,QZ];rfl
  have e1:c.args[1]? =some y:=by rw [← XN,QZ];rfl
  simp [e0,e1]
 unfold xe at h
 split at h
 ·rename_i st xt ts U1
  have t0:c.argTypes[0]? =some st:=by rw [← XN,U1];rfl
  have t1:c.argTypes[1]? =some xt:=by rw [← XN,U1];rfl
  split at h
  ·rename_i RJ e2 ht TY
   split at h
   ·rename_i ow sz xs VY Ra ys T7 T5
    have Rx:∀(a:Act) (w w':World) (v:Value),(Yt c.argTypes o.type (c.args.map a.eval)).run P w= .ok v w'→(execOp a.eval o).run P w= .ok (.value v) w':=by
     intro a w w' v hv
     rw [fx ho hc]
     simp only [builtin,XK,hv,Xz,XQ]
    split at h
    ·rename_i r0 Wp
     cases h
    ·rename_i m r0 Wp
     cases h
    have hh:=cr h
    clear h
    obtain ⟨hchk,h⟩:=hh
    simp only [Xp,YB] at hchk
    obtain ⟨⟨⟨⟨_,hzero⟩,UZ⟩,Vl⟩,hb⟩:=hchk
    have hh:=sx h
    clear h
    obtain ⟨z1,h,hz1⟩:=hh
    split at h
    ·
     refine ⟨_,z1,h,fun TR=>⟨(hz1 TR).1,?_⟩⟩
     intro w0 M own σ w a id hw hr Q6 next Q hn
     have RY:=hr x hx
     have TB:=hr y hy
     rw [T7] at RY
     rw [T5] at TB
     obtain ⟨v,M',QK,w',q1,q2,q3,q4,q5,q6⟩:=pY (rty:=o.type) hw ht TY t0 t1 hzero hb (ga a).1 (ga a).2 RY TB (mc UZ) (mc Vl) (hz1 TR).2 (id:=id) (ver:=0) (fun v _=>Q6.2 v)
      (fun ad len cap e=>by
       rw [e] at RY
       cases RY with
       |bc b off vs hl QP ha QX hc hr QT ho=>exact .inl ho)
     exact gA (Rx a w w' v q1) (hn v M' QK w' q2 ⟨fun j _=>by rw [q5],q6⟩ q3 q4)
    ·rename_i t v
     split at h
     ·rename_i v' RX QT
      obtain ⟨hk,h⟩:=cr h
      rw [Xp,XR,XR] at hk
      obtain ⟨rfl,rfl⟩:=hk
      refine ⟨_,z1,h,fun TR=>⟨(hz1 TR).1,⟨QT,hE (by rw [QT];intro e;cases e)⟩,?_⟩⟩
      intro w0 M own σ w a id hw hr Q6 next Q hn
      have Ul:σ t= .cM v' (P.cellsOf RJ):=Q6
      have RY:=hr x hx
      have TB:=hr y hy
      rw [T7] at RY
      rw [T5] at TB
      obtain ⟨fa,flen,fcap,hfam⟩:=hw.cM t v' _ Ul
      obtain ⟨u,M',QK,w',q1,q2,q3,q4,q5,q6⟩:=pY (rty:=o.type) hw ht TY t0 t1 hzero hb (ga a).1 (ga a).2 RY TB (mc UZ) (mc Vl) (hz1 TR).2 (id:=t) (ver:=v'+1) (fun v hv=>hfam.last v (by omega))
       (fun ad len cap e=>by
        rw [e] at RY
        cases RY with
        |bc b off vs hl QP ha QX hc hr QT ho=>
         have VE:M.cu t v'=some (.slice ad len cap):=ho
         rw [hfam.cu] at VE
         simp only [Xv,Value.slice.injEq] at VE
         obtain ⟨rfl,rfl,rfl⟩:=VE
         rcases hfam.room with q|⟨b',vs',ty',fz',e1,r⟩
         ·exact .inl q
         ·exact .inr ⟨b',vs',ty',fz',v',_,e1,r,Ul⟩)
      exact gA (Rx a w w' u q1) (hn u M' QK w' q2 ⟨q5,q6⟩ q3 q4)
     ·cases h
    ·cases h
   ·rename_i VW sz n VY Ra ys T7 T5
    cases h
   ·rename_i VW sz n Wl SG RX n2 cp T7 T5
    have Rx:∀(a:Act) (w w':World) (v:Value),(Yt c.argTypes o.type (c.args.map a.eval)).run P w= .ok v w'→(execOp a.eval o).run P w= .ok (.value v) w':=by
     intro a w w' v hv
     rw [fx ho hc]
     simp only [builtin,XK,hv,Xz,XQ]
    simp [L3] at h
   ·rename_i VG VW sz n T7 T5
    have Rx:∀(a:Act) (w w':World) (v:Value),(Yt c.argTypes o.type (c.args.map a.eval)).run P w= .ok v w'→(execOp a.eval o).run P w= .ok (.value v) w':=by
     intro a w w' v hv
     rw [fx ho hc]
     simp only [builtin,XK,hv,Xz,XQ]
    refine tg Rx ht TY t0 t1 (fun a=>(ga a).1) (fun a=>(ga a).2) (fun M a hr=>by have:=hr x hx;rw [T7] at this;exact this) (fun M a hr=> ?_) h
    have TB:=hr y hy
    rw [T5] at TB
    generalize a.eval y=u at TB
    cases TB with
    |ez hb Sf hc=>exact ⟨_,0,_,rfl,hb,fun _=>rfl⟩
   ·rename_i VG VW off sz n cp T7 T5
    have Rx:∀(a:Act) (w w':World) (v:Value),(Yt c.argTypes o.type (c.args.map a.eval)).run P w= .ok v w'→(execOp a.eval o).run P w= .ok (.value v) w':=by
     intro a w w' v hv
     rw [fx ho hc]
     simp only [builtin,XK,hv,Xz,XQ]
    refine tg Rx ht TY t0 t1 (fun a=>(ga a).1) (fun a=>(ga a).2) (fun M a hr=>by have:=hr x hx;rw [T7] at this;exact this) (fun M a hr=> ?_) h
    have TB:=hr y hy
    rw [T5] at TB
    generalize a.eval y=u at TB
    cases TB with
    |sub hb hc hp SJ=>exact ⟨_,_,_,rfl,hb,SJ⟩
   ·rename_i VW off sz n cc Wl SG RX n2 cp T7 T5
    have Rx:∀(a:Act) (w w':World) (v:Value),(Yt c.argTypes o.type (c.args.map a.eval)).run P w= .ok v w'→(execOp a.eval o).run P w= .ok (.value v) w':=by
     intro a w w' v hv
     rw [fx ho hc]
     simp only [builtin,XK,hv,Xz,XQ]
    exact Fh Rx ht TY t0 t1 (fun a=>(ga a).1) (fun a=>(ga a).2) (fun M a hr=>by have:=hr x hx;rw [T7] at this;exact this) (fun M a hr=>by have:=hr y hy;rw [T5] at this;exact this) h
   ·cases h
  ·cases h
 ·cases h
end
section
variable {ρ':Type} {P:Program} {r:ρ'} {o:Oper} {t:List D} {s:List Ob}
theorem HW {ρ:Operand→D} {ty e:TypeId} {l c:Operand} {q q':YO} {n:Int} {zd:D} {zc:List D} (ho:o.op= .makeSlice ty l c) (ht:P.underlying ty=some (.slice e)) (hk:known P e=true) (hz:kv P e=some zd) (T8:zd.cells=some zc)
  (hlen:zc.length=P.cellsOf e) (RF:0<zc.length) (Vx:P.bytesOf e≤65536) (hl:ρ l= .int q n) (hc:ρ c= .int q' n) (h0:0≤n) (h1:n≤2147483648) (QT:∀c∈zc,storable c=true):
  gz P o ρ (.pure (.bc .tight (P.cellsOf e) (Xg n.toNat zd))):=by
 obtain ⟨i,v,hi,hv,rfl⟩:=jh hz
 refine yn fun M w a hw hr=> ?_
 have r1:=eg (hr l (by simp [ho,XD])) hl
 have r2:=eg (hr c (by simp [ho,XD])) hc
 have hb:(i.bytes:Int)≤65536:=by
  have:P.bytesOf e=i.bytes:=by simp [Program.bytesOf,hi]
  omega
 have QX:P.cellsOf e=i.size:=by simp [Program.cellsOf,hi]
 have hmul:(i.bytes:Int)*n≤281474976710656:=by
  have:=Int.mul_le_mul hb h1 h0 (by omega:(0:Int)≤65536)
  omega
 have Q7:=run_make (P:=P) w ty e i v ht hi hv q q' n n h0 (Int.le_refl _) hmul (by omega)
 have Sx:iM M (P.cellsOf e) (Xg n.toNat (fh v)) (madeCells v.cells (n.toNat*i.size)):=by
  have:=B6 (M:=M) T8 (j5 v) QT n.toNat
  rw [hlen] at this
  rw [← QX]
  exact this
 have hx:=qu (M:=M) (w:=w) (wd:=w) (arr:=madeCells v.cells (n.toNat*i.size)) (ty:=e) (n:=(madeCells v.cells (n.toNat*i.size)).size) hw rfl (Below.refl _ _) (0,0)
 have TA:=qh (b:=w.heap.size) (o:= .tight) (cap:=(Xg n.toNat (fh v)).length) (n:=(madeCells v.cells (n.toNat*i.size)).size) Sx (eN hw (XC _)) (XC _) Sx.len rfl
 refine ⟨_,_,_,?_,hx,rfl,rfl,rfl,TA⟩
 simp only [execOp,ho,r1,r2,XK,Q7,Xz,XQ,List.length_replicate]
theorem ru {z:Z P} {K:Z P→jI→Option ρ'} {ty:TypeId} {rv:Option Operand} (ho:o.op= .makeMap ty rv) (hx:∀x,rv=some x→∃q n,cU t x= .int q n) (h:(qq P z ty K)=some r):
  ∃e z',K z' e=some r∧(z'.c→z.c∧jM P o (cU t) s e):=by
 unfold qq at h
 split at h
 ·rename_i k et hk
  exact ⟨_,z,h,fun c=>⟨c,Aj ho hk hx⟩⟩
 ·split at h
  ·rename_i kt et hk
   simp [tG] at h
  ·cases h
theorem rq {z:Z P} {K:Z P→jI→Option ρ'} {ty:TypeId} {m k v:Operand} (ho:o.op= .insert ty m k v∨o.op= .mapUpdate ty m k v) (h:(qp P z ty (cU t m) (cU t k) (cU t v) s K)=some r):
  ∃e z',K z' e=some r∧(z'.c→z.c∧jM P o (cU t) s e):=by
 unfold qp at h
 split at h
 ·rename_i id q n hm hk
  split at h
  ·rename_i q' es q2 et hs Tz
   have hh:=cr h
   clear h
   obtain ⟨T6,h⟩:=hh
   simp only [Xp] at T6
   have e1:=jN T6.1.1
   have e2:=jN T6.1.2
   subst e1 e2
   have RU:=hE (s:=s) (i:=id) (by rw [hs];intro e;cases e)
   exact ⟨_,z,h,fun c=>⟨c,⟨hs,RU⟩,Es ho Tz hm hk T6.2⟩⟩
  ·cases h
 ·rename_i id cs hm hk
  split at h
  ·rename_i ks es kt et hs Tz
   simp [tG] at h
  ·cases h
 ·cases h
theorem Aw {z:Z P} {K:Z P→jI→Option ρ'} {ty:TypeId} {m k:Operand} (ho:o.op= .mapEntry ty m k) (h:(wo P z ty (cU t m) (cU t k) s K)=some r):
  ∃e z',K z' e=some r∧(z'.c→z.c∧jM P o (cU t) s e):=by
 simp [wo] at h
theorem wN {z:Z P} {K:Z P→jI→Option ρ'} {ty:TypeId} {m n v:Operand} (ho:o.op= .entryStore ty m n v) (h:(pw P z (cU t m) (cU t n) (cU t v) s K)=some r):
  ∃e z',K z' e=some r∧(z'.c→z.c∧jM P o (cU t) s e):=by
 simp [pw] at h
theorem Ja {z:Z P} {d:D} {s':List Ob} {K:Z P→jI→Option ρ'} {r:ρ'} (h:Nh z d s' K=some r):∃e z',K z' e=some r∧(z'.c→z.c∧∃d2 s2,e= .all s2 d2∧∀(g:FuncId) (args:List D) (s:List Ob),ak P g args s d s'→ak P g args s d2 s2):=by
 unfold Nh at h
 split at h
 ·split at h
  ·rename_i id sz n
   split at h
   ·rename_i cs QW
    have hh:=cr h
    clear h
    obtain ⟨QX,h⟩:=hh
    rw [XR] at QX
    subst QX
    have hh:=fj h
    clear h
    obtain ⟨z1,h,hz1⟩:=hh
    refine ⟨_,z1,h,fun hc=>⟨(hz1 hc).1,_,_,rfl,fun g args s hr=> ?_⟩⟩
    have hq:=(hz1 hc).2
    rw [Xp,XR] at hq
    exact hr.AH QW hq.1 hq.2
   ·cases h
  ·cases h
 ·exact ⟨_,z,h,fun hc=>⟨hc,_,_,rfl,fun g args s hr=>hr⟩⟩
theorem KF {inl:C7 P ρ'} (Re:lb P inl) {z:Z P} {K:Z P→jI→Option ρ'} (h:OW P inl o t s z K=some r):
  ∃e z',K z' e=some r∧(z'.c→z.c∧jM P o (cU t) s e):=by
 unfold OW at h
 split at h
 case h_1 x ho=>exact ⟨_,z,h,fun c=>⟨c,CB (.inl ho)⟩⟩
 case h_2 x ho=>exact ⟨_,z,h,fun c=>⟨c,CB (.inr ho)⟩⟩
 case h_3 c x y ho=>
  split at h
  ·rename_i q hq
   obtain ⟨z',⟨h1,h2⟩|⟨h1,h2⟩⟩:=nE h
   ·refine ⟨_,z',h1,fun c=>⟨(h2 c).1,?_⟩⟩
    have:=CA (P:=P) (ρ:=cU t) ho hq
    rw [(h2 c).2] at this
    exact this
   ·refine ⟨_,z',h1,fun c=>⟨(h2 c).1,?_⟩⟩
    have:=CA (P:=P) (ρ:=cU t) ho hq
    rw [(h2 c).2] at this
    exact this
  ·cases h
 case h_4 e x ho=>
  split at h
  ·rename_i cs QW;exact ⟨_,z,h,fun c=>⟨c,MN ho QW⟩⟩
  ·cases h
 case h_5 e ho=>
  split at h
  ·rename_i d hd
   split at h
   ·rename_i cs QW;exact ⟨_,z,h,fun c=>⟨c,HZ ho hd QW⟩⟩
   ·split at h
    ·rename_i h1;exact ⟨_,z,h,fun c=>⟨c,Et ho hd h1⟩⟩
    ·cases h
  ·cases h
 case h_6 ty parts ho=>
  split at h
  ·rename_i d hd;exact ⟨_,z,h,fun c=>⟨c,HY ho hd⟩⟩
  ·cases h
 case h_7 ty len parts ho=>
  split at h
  ·rename_i e ht
   split at h
   ·rename_i d hd
    split at h
    ·rename_i zc T8
     obtain ⟨hk,h⟩:=cr h
     simp only [Xp,XR,YB,XZ] at hk
     obtain ⟨⟨⟨⟨h1,h2⟩,h3⟩,_⟩,h5⟩:=hk
     obtain ⟨xs,q1,q2⟩:=sV (P:=P) (ρ:=cU t) ho ht hd T8 h1 h2 h3 h5 h
     exact ⟨_,z,q1,fun c=>⟨c,q2⟩⟩
    ·cases h
   ·cases h
  ·cases h
 case h_8 ty a ho=>
  unfold L0 at h
  split at h
  ·rename_i dyn id off hx
   split at h
   ·rename_i cs QW
    obtain ⟨z',d,h1,h2⟩:=mJ h
    refine ⟨_,z',h1,fun c=>⟨(h2 c).1,?_⟩⟩
    have QQ:id<s.length:=hE (by rw [QW];intro e;cases e)
    split
    ·rename_i Wc
     obtain ⟨e,hu,hp⟩:=(h2 c).2
     unfold LN at Wc
     rw [hu] at Wc
     have ha:dR e=false:=by simpa using Wc
     rcases hp with ⟨q,_⟩|⟨_,q⟩
     ·rw [ha] at q;cases q
     ·exact ⟨⟨by rw [QW];exact q,QQ⟩,v8 ho hx hu ha⟩
    ·exact ⟨⟨QW,QQ⟩,pI ho hx (h2 c).2⟩
   ·cases h
  ·rename_i dyn y off hx
   split at h
   ·rename_i cs QW
    obtain ⟨z',d,h1,h2⟩:=mJ h
    exact ⟨_,z',h1,fun c=>⟨(h2 c).1,v7 ho hx QW (h2 c).2⟩⟩
   ·cases h
  ·cases h
 case h_9 ty a x ho=>
  unfold G0 at h
  split at h
  ·rename_i dyn id off hx
   split at h
   ·rename_i cs QW
    split at h
    ·rename_i vc Ue
     obtain ⟨hk,h⟩:=cr h
     simp only [Xp,XR,XZ] at hk
     obtain ⟨⟨k1,k2⟩,k3⟩:=hk
     have RU:=hE (s:=s) (i:=id) (by rw [QW];intro e;cases e)
     split at h
     ·obtain ⟨hl,h⟩:=cr h
      rw [YB] at hl
      exact ⟨_,z,h,fun c=>⟨c,⟨QW,RU⟩,yo ho hx Ue k1 k2 k3 hl⟩⟩
     ·split at h
      ·rename_i l i xs l' hg rest _
       refine ⟨_,_,h,fun c=>⟨c.2,⟨QW,RU⟩,?_⟩⟩
       have e1:=c.1.1
       have e2:=c.1.2.1
       have e3:=c.1.2.2
       subst e1 e2 e3
       have:=yo (P:=P) (ρ:=cU t) ho hx Ue k1 k2 k3 hg.2
       unfold jl at this
       rw [hg.1] at this
       exact this
      ·cases h
    ·cases h
   ·cases h
  ·cases h
 case h_10 x ho=>
  split at h
  ·rename_i dyn id off hx
   exact ⟨_,z,h,fun c=>⟨c,by have:=mb (P:=P) (ρ:=cU t) ho (.inl ⟨dyn,id,off,hx⟩);rw [hx] at this;exact this⟩⟩
  ·rename_i dyn y off hx
   exact ⟨_,z,h,fun c=>⟨c,by have:=mb (P:=P) (ρ:=cU t) ho (.inr (.inl ⟨dyn,y,off,hx⟩));rw [hx] at this;exact this⟩⟩
  ·rename_i g a b hx
   exact ⟨_,z,h,fun c=>⟨c,by have:=mb (P:=P) (ρ:=cU t) ho (.inr (.inr ⟨g,a,b,hx⟩));rw [hx] at this;exact this⟩⟩
  ·cases h
 case h_11 op ty x y ty' ho=>
  obtain ⟨z',d,h1,h2⟩:=Jw h
  exact ⟨_,z',h1,fun c=>⟨(h2 c).1,MO ho fun M w u v hu hv=>(h2 c).2 M w x y u v hu hv⟩⟩
 case h_12 op ty x ho=>
  obtain ⟨d,h1,h2⟩:=J2 (P:=P) h
  refine ⟨_,z,h1,fun c=>⟨c,cI fun M w a _ hr=> ?_⟩⟩
  obtain ⟨v,q1,q2⟩:=h2 M w _ (hr x (by simp [ho,XD]))
  exact ⟨v,by simp only [execOp,ho,XK,q1,Xz,XQ],q2⟩
 case h_13 src dst x ho=>
  obtain ⟨e,z',h1,h2,h3⟩:=Gf (ρ:=cU t) ho h
  refine ⟨e,z',h1,fun c=>⟨(h2 c).1,?_⟩⟩
  rcases h3 with ⟨d,rfl⟩|⟨q,m,rfl⟩<;>exact (h2 c).2
 case h_14 f first cap ho=>exact ⟨_,z,h,fun c=>⟨c,yp ho⟩⟩
 case h_15 ty x lo hi mx ho=>
  split at h
  ·rename_i e ow sz xs ht hx
   obtain ⟨hk,h⟩:=cr h
   rw [Xp,XR] at hk
   obtain ⟨n1,h,o1⟩:=ft h
   obtain ⟨n2,h,o2⟩:=ft h
   obtain ⟨n3,h,o3⟩:=ft h
   obtain ⟨z',d,h1,h2⟩:=zt h
   refine ⟨_,z',h1,fun c=>⟨(h2 c).1,cI fun M w a _ hr=> ?_⟩⟩
   have RY:=hr x (by simp [ho,XD])
   rw [hx] at RY
   have r1:=o1 M a (fun y hy=>hr y (by simp [ho,XD,hy]))
   have r2:=o2 M a (fun y hy=>hr y (by simp [ho,XD,hy]))
   have r3:=o3 M a (fun y hy=>hr y (by simp [ho,XD,hy]))
   obtain ⟨v,q1,q2⟩:=(h2 c).2 M w ty e _ _ _ _ ht hk.1 hk.2 RY r1 r2 r3
   exact ⟨v,by simp only [execOp,ho,XK,q1,Xz,XQ],q2⟩
  ·rename_i e id sz n ht hx
   obtain ⟨hk,h⟩:=cr h
   rw [Xp,XR] at hk
   obtain ⟨n1,h,o1⟩:=ft h
   obtain ⟨n2,h,o2⟩:=ft h
   obtain ⟨n3,h,o3⟩:=ft h
   obtain ⟨z',l,hh,Uv,h1,h2⟩:=qH h
   refine ⟨_,z',h1,fun c=>⟨(h2 c).1,cI fun M w a _ hr=> ?_⟩⟩
   have RY:=hr x (by simp [ho,XD])
   rw [hx] at RY
   have r1:=o1 M a (fun y hy=>hr y (by simp [ho,XD,hy]))
   have r2:=o2 M a (fun y hy=>hr y (by simp [ho,XD,hy]))
   have r3:=o3 M a (fun y hy=>hr y (by simp [ho,XD,hy]))
   obtain ⟨_,b1,b2,b3⟩:=h2 c
   generalize hv:a.eval x=u at RY
   cases RY with
   |ez hb Sf hc=>
    obtain ⟨m,m1,m2,m3⟩:=b3 true w _ _ _ _ hc (fun k hk=>by cases hk) r1 r2 r3
    exact ⟨_,by simp only [execOp,ho,hv,XK,lM ht hk.1 hk.2 m3,Xz,XQ],qT hb (fun _=>rfl) b1 b2 m1 m2⟩
  ·rename_i e id off sz n cp ht hx
   obtain ⟨hk,h⟩:=cr h
   rw [Xp,XR] at hk
   obtain ⟨n1,h,o1⟩:=ft h
   obtain ⟨n2,h,o2⟩:=ft h
   obtain ⟨n3,h,o3⟩:=ft h
   obtain ⟨z',l,hh,Uv,h1,h2⟩:=qH h
   refine ⟨_,z',h1,fun c=>⟨(h2 c).1,cI fun M w a _ hr=> ?_⟩⟩
   have RY:=hr x (by simp [ho,XD])
   rw [hx] at RY
   have r1:=o1 M a (fun y hy=>hr y (by simp [ho,XD,hy]))
   have r2:=o2 M a (fun y hy=>hr y (by simp [ho,XD,hy]))
   have r3:=o3 M a (fun y hy=>hr y (by simp [ho,XD,hy]))
   obtain ⟨_,b1,b2,b3⟩:=h2 c
   generalize hv:a.eval x=u at RY
   cases RY with
   |sub hb hc hp SJ=>
    obtain ⟨m,m1,m2,m3⟩:=b3 true w _ _ _ _ hc hp r1 r2 r3
    exact ⟨_,by simp only [execOp,ho,hv,XK,lM ht hk.1 hk.2 m3,Xz,XQ],qT hb SJ b1 b2 m1 m2⟩
  ·rename_i n e dyn id off ht hx
   obtain ⟨hk,h⟩:=cr h
   obtain ⟨n1,h,o1⟩:=ft h
   obtain ⟨n2,h,o2⟩:=ft h
   obtain ⟨n3,h,o3⟩:=ft h
   obtain ⟨z',l,hh,Uv,h1,h2⟩:=qH h
   refine ⟨_,z',h1,fun c=>⟨(h2 c).1,cI fun M w a _ hr=> ?_⟩⟩
   have RY:=hr x (by simp [ho,XD])
   rw [hx] at RY
   have r1:=o1 M a (fun y hy=>hr y (by simp [ho,XD,hy]))
   have r2:=o2 M a (fun y hy=>hr y (by simp [ho,XD,hy]))
   have r3:=o3 M a (fun y hy=>hr y (by simp [ho,XD,hy]))
   obtain ⟨_,b1,b2,b3⟩:=h2 c
   generalize hv:a.eval x=u at RY
   cases RY with
   |ptr _ hb=>
    obtain ⟨m,m1,m2,m3⟩:=b3 false w _ _ _ _ (XC _) (fun k hk=>Xo hk) r1 r2 r3
    exact ⟨_,by simp only [execOp,ho,hv,XK,p6 ht hk rfl m3,Xz,XQ],qT hb (fun _=>rfl) b1 b2 m1 m2⟩
  ·cases h
 case h_16 ty x f ho=>
  unfold sf at h
  split at h
  ·rename_i fields ht
   split at h
   ·rename_i fd Ws
    obtain ⟨hk,h⟩:=cr h
    rw [Xp] at hk
    have RF:0<P.cellsOf fd.type:=Nat.lt_of_succ_le (by simpa [Nat.blt,YB] using hk.2)
    obtain ⟨g1,g2⟩:=wb (P:=P) (ρ:=cU t) ho ht Ws hk.1 RF
    split at h
    ·rename_i dyn id off hx;exact ⟨_,z,h,fun c=>⟨c,g1 _ _ _ hx⟩⟩
    ·rename_i dyn y off hx;exact ⟨_,z,h,fun c=>⟨c,g2 _ _ _ hx⟩⟩
    ·cases h
   ·cases h
  ·cases h
 case h_17 ty x f ho=>
  split at h
  ·rename_i fields cs ht hx
   split at h
   ·rename_i fd Ws
    obtain ⟨z',d,h1,h2⟩:=mJ h
    exact ⟨_,z',h1,fun c=>⟨(h2 c).1,HX ho ht Ws hx (h2 c).2⟩⟩
   ·cases h
  ·cases h
 case h_18 ty x ix ho=>
  unfold rI at h
  split at h
  ·rename_i k i hi
   split at h
   ·rename_i len elem dyn id off ht hx
    obtain ⟨hk,h⟩:=cr h
    obtain ⟨z',h1,h2⟩:=hU h
    exact ⟨_,z',h1,fun c=>⟨(h2 c).1,(oe (P:=P) (ρ:=cU t) ho hi ht hk (by simpa using (h2 c).2) _).1 _ _ _ hx⟩⟩
   ·rename_i len elem dyn y off ht hx
    obtain ⟨hk,h⟩:=cr h
    obtain ⟨z',h1,h2⟩:=hU h
    exact ⟨_,z',h1,fun c=>⟨(h2 c).1,(oe (P:=P) (ρ:=cU t) ho hi ht hk (by simpa using (h2 c).2) _).2 _ _ _ hx⟩⟩
   ·rename_i elem ow sz xs ht hx
    obtain ⟨hk,h⟩:=cr h
    rw [Xp,XR] at hk
    obtain ⟨z',h1,h2⟩:=hU h
    obtain ⟨z2,y,h3,h4⟩:=ri h1
    exact ⟨_,z2,h3,fun c=>⟨(h2 (h4 c).1).1,pe ho hi ht hk.1 hk.2 (by simpa using (h2 (h4 c).1).2) hx (h4 c).2⟩⟩
   ·rename_i elem id sz n ht hx
    obtain ⟨hk,h⟩:=cr h
    rw [Xp,XR] at hk
    obtain ⟨z',h1,h2⟩:=fj h
    exact ⟨_,z',h1,fun c=>⟨(h2 c).1,pb ho hi ht hk.1 hk.2 (by simpa using (h2 c).2) hx⟩⟩
   ·rename_i elem id off sz n cp ht hx
    obtain ⟨hk,h⟩:=cr h
    rw [Xp,XR] at hk
    obtain ⟨z',h1,h2⟩:=fj h
    exact ⟨_,z',h1,fun c=>⟨(h2 c).1,pa ho hi ht hk.1 hk.2 (by simpa using (h2 c).2) hx⟩⟩
   ·cases h
  ·cases h
 case h_19 ty x ix ho=>
  unfold IU at h
  split at h
  ·rename_i k i hi
   split at h
   ·rename_i len elem cs ht hx
    obtain ⟨hk,h⟩:=cr h
    obtain ⟨z',h1,h2⟩:=hU h
    obtain ⟨z2,d,h3,h4⟩:=mJ h1
    exact ⟨_,z2,h3,fun c=>⟨(h2 (h4 c).1).1,wa ho hi ht hk (by simpa using (h2 (h4 c).1).2) hx (h4 c).2⟩⟩
   ·rename_i s' ht hx
    obtain ⟨z',h1,h2⟩:=hU h
    obtain ⟨z2,d,h3,h4⟩:=ri h1
    exact ⟨_,z2,h3,fun c=>⟨(h2 (h4 c).1).1,v9 ho hi ht (by simpa using (h2 (h4 c).1).2) hx (h4 c).2⟩⟩
   ·cases h
  ·cases h
 case h_20 x i ho=>
  split at h
  ·rename_i ds hx
   split at h
   ·rename_i d hd;exact ⟨_,z,h,fun c=>⟨c,Ak ho hx hd⟩⟩
   ·cases h
  ·cases h
 case h_21 c ho=>
  have SD:∀ {x:Operand},x∈c.args.toList→x∈o.op.operands:=by
   intro x hx
   simp only [ho,XD,YN]
   exact Array.mem_append.2 (.inr (by simpa using hx))
  split at h
  ·rename_i hc
   split at h
   ·rename_i x rest ty ts QZ U1
    obtain ⟨d,h1,h2⟩:=IM (P:=P) h
    refine ⟨_,z,h1,fun cc=>⟨cc,cI fun M w a _ hr=> ?_⟩⟩
    obtain ⟨v,q1,q2⟩:=h2 M w _ c.argTypes o.type (c.args.map a.eval) (hr x (SD (by rw [QZ];simp))) (by rw [← XN,U1];rfl) (by
     have:c.args[0]? =some x:=by rw [← XN,QZ];rfl
     simp [this])
    exact ⟨v,by rw [fx ho hc];simp only [builtin,XK,q1,Xz,XQ],q2⟩
   ·cases h
  ·rename_i hc
   split at h
   ·rename_i x y rest QZ
    exact zm ho hc QZ h
   ·cases h
  ·rename_i hc
   split at h
   ·rename_i x y QZ
    obtain ⟨d,h1,h2⟩:=IB (P:=P) h
    refine ⟨_,z,h1,fun cc=>⟨cc,cI fun M w a _ hr=> ?_⟩⟩
    obtain ⟨v,q1,q2⟩:=h2 M w _ _ c.argTypes o.type (c.args.map a.eval) (hr x (SD (by rw [QZ];simp))) (hr y (SD (by rw [QZ];simp))) (by rw [Array.toList_map,QZ];rfl)
    exact ⟨v,by rw [fx ho hc];simp only [builtin,XK,q1,Xz,XQ],q2⟩
   ·cases h
  ·rename_i hc
   split at h
   ·rename_i x y QZ
    obtain ⟨d,h1,h2⟩:=IJ (P:=P) h
    refine ⟨_,z,h1,fun cc=>⟨cc,cI fun M w a _ hr=> ?_⟩⟩
    obtain ⟨v,q1,q2⟩:=h2 M w _ _ c.argTypes o.type (c.args.map a.eval) (hr x (SD (by rw [QZ];simp))) (hr y (SD (by rw [QZ];simp))) (by rw [Array.toList_map,QZ];rfl)
    exact ⟨v,by rw [fx ho hc];simp only [builtin,XK,q1,Xz,XQ],q2⟩
   ·cases h
  ·rename_i hc
   split at h
   ·rename_i x y rest QZ
    exact Ge ho hc QZ h
   ·cases h
  ·rename_i f hc
   split at h
   ·rename_i g first cap hf
    unfold C1 at h
    split at h
    ·rename_i rest _
     obtain ⟨d,s',z',h1,h2⟩:=Re (.fn g) _ s _ _ r h
     obtain ⟨e,z2,h3,h4⟩:=Ja h1
     refine ⟨_,z2,h3,fun cc=> ?_⟩
     obtain ⟨c1,d2,s2,rfl,hk⟩:=h4 cc
     exact ⟨(h2 c1).1,H0 ho hc hf (hk _ _ _ (h2 c1).2)⟩
    ·rename_i g' ar s1 d Um Q7 rest _
     have hh:=cr h
     clear h
     obtain ⟨hk,h⟩:=hh
     rw [XR] at hk
     subst hk
     exact ⟨_,_,h,fun cc=>⟨cc.2,H0 ho hc hf (cc.1.1▸cc.1.2▸Q7)⟩⟩
    ·rename_i g' as d Ub rest _
     have hh:=cr h
     clear h
     obtain ⟨hk,h⟩:=hh
     rw [XR] at hk
     subst hk
     obtain ⟨as',h1,h2⟩:=pG h
     refine ⟨_,_,h1,fun cc=>⟨cc.2,?_⟩⟩
     exact ML ho hc hf Ub (fun M vs hv=>by rw [cc.1];exact h2 M vs hv)
    ·cases h
   ·rename_i id hf
    unfold NC at h
    split at h
    ·rename_i rest _
     obtain ⟨d,s',z',h1,h2⟩:=Re (.yl id) _ s _ _ r h
     exact ⟨_,z',h1,fun cc=>⟨(h2 cc).1,MK ho hc hf (h2 cc).2⟩⟩
    ·cases h
   ·cases h
  ·cases h
 case h_22 ty rv ho=>
  split at h
  ·exact ru ho (fun x hx=>by cases hx) h
  ·rename_i x
   unfold idx at h
   split at h
   ·rename_i q n hx
    exact ru ho (fun y hy=>by obtain rfl:=Xo hy;exact ⟨q,n,hx⟩) h
   ·cases h
 case h_23 ty m k v ho=>exact rq (.inl ho) h
 case h_24 ty m k v ho=>exact rq (.inr ho) h
 case h_25 ty m k ok ho=>
  unfold yy at h
  split at h
  ·rename_i id q n hm hk
   split at h
   ·rename_i q' es q2 et hs Tz
    split at h
    ·rename_i zd hz
     have hh:=cr h
     clear h
     obtain ⟨T6,h⟩:=hh
     rw [Xp] at T6
     have e1:=jN T6.1
     have e2:=jN T6.2
     subst e1 e2
     have RU:=hE (s:=s) (i:=id) (by rw [hs];intro e;cases e)
     obtain ⟨z',rr,h1,h2⟩:=EG h
     have RN:=fun c=>Ai (P:=P) (ρ:=cU t) ho Tz hz hm hk (h2 c).2
     cases rr<;>cases ok<;>exact ⟨_,z',h1,fun c=>⟨(h2 c).1,⟨hs,RU⟩,RN c⟩⟩
    ·cases h
   ·cases h
  ·rename_i id cs hm hk
   split at h
   ·rename_i ks es kt et hs Tz
    split at h
    ·rename_i zd hz
     simp [tG] at h
    ·cases h
   ·cases h
  ·cases h
 case h_26 ty m k ho=>exact Aw ho h
 case h_27 ty m n v ho=>exact wN ho h
 case h_28 ty l c ho=>
  unfold LY at h
  split at h
  ·rename_i e q n q' m ht hl hc
   split at h
   ·rename_i zd hz
    split at h
    ·rename_i zc T8
     split at h
     ·obtain ⟨hk,h⟩:=cr h
      simp only [Xp,XR,YB,Nat.blt_eq] at hk
      obtain ⟨⟨⟨⟨k1,k2⟩,k3⟩,k4⟩,k5⟩:=hk
      obtain ⟨z',h1,h2⟩:=fj h
      refine ⟨_,z',h1,fun c=>⟨(h2 c).1,?_⟩⟩
      have hb:=(h2 c).2
      rw [bP] at hb
      obtain ⟨b0,rfl,b1⟩:=hb
      exact HW ho ht k1 hz T8 k2 k3 k4 hl hc b0 b1 (List.all_eq_true.mp k5)
     ·obtain ⟨hk,h⟩:=cr h
      simp only [Xp,XR,YB,Nat.blt_eq] at hk
      obtain ⟨⟨⟨k1,k2⟩,k3⟩,k4⟩:=hk
      obtain ⟨z',h1,h2⟩:=fj h
      refine ⟨_,z',h1,fun c=>⟨(h2 c).1,?_⟩⟩
      have hb:=(h2 c).2
      rw [bP] at hb
      obtain ⟨b0,rfl,b1⟩:=hb
      exact KG ho ht k1 hz T8 k2 k3 k4 hl hc b0 b1
    ·cases h
   ·cases h
  ·cases h
 case h_29=>cases h
end
end Go.Ev
