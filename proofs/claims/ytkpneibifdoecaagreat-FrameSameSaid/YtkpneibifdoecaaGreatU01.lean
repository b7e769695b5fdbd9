import Derived.Calls
import Derived.Orders
import Derived.Below
import Derived.Laws.World
import Derived.Laws.Sem
import Derived.RangeFuncRecord
import Derived.Laws.StructEq
import Derived.OrdersIn
import Derived.ControlIn
open List renaming replicate→Vc,getElem?_map→VC,all_eq_true→VP,mem_of_getElem? →VQ
open BitVec renaming ofInt→Vh
open Bool renaming and_eq_true→Vi
open Option.some renaming inj→Vk,injEq→Vs
open Nat renaming le_refl→Vq,lt_or_ge→VA,beq→VM,blt→Wq,ble→Wr
open Option renaming map_eq_some_iff→Vz
open Go.World renaming cell? →Wl,block_lt_of_cell? →Wt
open Go renaming IntKind→WO
/- Contracts and plain laws that a statement's proof leans on (texts merged:EvC). -/
set_option linter.unusedVariables false
set_option linter.unusedSimpArgs false
namespace Go.Ev
open Go Go.RowKit
inductive j9 where
  |no
  |tight
  |tok (t ver:Nat)
  |fresh (sz:Nat)
inductive D where
  |undef
  |int (k:WO) (n:Int)
  |bool (b:Bool)
  |str (s:ByteArray)
  |fL
  |ptr (dyn:Bool) (id off:Nat)
  |cT (dyn:Bool) (x:D) (off:Nat)
  |bp (id:Nat)
  |jx (id:Nat)
  |bR (id sz n:Nat)
  |sub (id off sz n:Nat) (cap:Option Nat)
  |aj (o:j9) (sz:Nat) (xs:List D)
  |av
  |fn (f:Fn) (first cap:List D)
  |agg (cs:List D)
  |aM (vs:List D)
def D.cells:D→Option (List D)
  | .agg cs=>some cs
  | .undef=>none
  | .aM _=>none
  |d=>some [d]
def storable:D→Bool
  | .undef=>false
  | .agg _=>false
  | .aM _=>false
  |_=>true
structure MM where
  cell:Nat→Nat→Option Value
  box:Nat→Option Nat
  bl:Nat→Nat→Option Value
  dW:Nat→Prop
def MM.bare (M:MM):MM:=⟨M.cell,fun _=>none,fun _ _=>none,fun _=>False⟩
def ep (C:Nat→Nat→Option Value):MM:=⟨C,fun _=>none,fun _ _=>none,fun _=>False⟩
def MM.lM (M:MM):j9→Option Addr→Nat→Nat→Prop
  | .no,_,_,_=>True
  | .fresh _,_,_,_=>True
  | .tight,_,len,cap=>cap=len
  | .tok t v,a,len,cap=>M.bl t v=some (.slice a len cap)
inductive bo:MM→D→Value→Prop
  |undef {M:MM} (v:Value):bo M .undef v
  |int {M:MM} (k:WO) (n:Int):bo M (.int k n) (.int k n)
  |bool {M:MM} (b:Bool):bo M (.bool b) (.bool b)
  |str {M:MM} (s:ByteArray):bo M (.str s) (.string s)
  |fL {M:MM} :bo M .fL (.pointer none)
  |ptr {M:MM} (dyn:Bool) {id off b:Nat} (h:M.box id=some b):bo M (.ptr dyn id off) (.pointer (some ⟨b,off,none⟩))
  | cT {M : MM} (dyn : Bool) {x : D} {cs : List D} {off b base : Nat} (vs : Nat → Value) (hx : x.cells = some cs)
      (hc:∀(j:Nat) (c:D),cs[j]? =some c→M.cell b (base+j)=some (vs j)) (hr:∀(j:Nat) (c:D),cs[j]? =some c→bo M.bare c (vs j)):
      bo M (.cT dyn x off) (.pointer (some ⟨b,base+off,none⟩))
  |bp {M:MM} {id b:Nat} (h:M.box id=some b):bo M (.bp id) (.map (some b))
  |jx {M:MM} {id b:Nat} (h:M.box id=some b):bo M (.jx id) (.func (.yield b) #[] #[])
  |bR {M:MM} {id sz n b cap:Nat} (h:M.box id=some b) (hh:M.bl id sz=some (.slice (some ⟨b,0,none⟩) n cap)) (hc:n≤cap):bo M (.bR id sz n) (.slice (some ⟨b,0,none⟩) n cap)
  |sub {M:MM} {id off sz n b o2 c:Nat} {cp:Option Nat} (h:M.box id=some b) (hc:n≤c) (hp:∀k,cp=some k→c=k) (ho:n≠0→o2=off):bo M (.sub id off sz n cp) (.slice (some ⟨b,o2,none⟩) n c)
  | aj {M : MM} {o : j9} {sz : Nat} {xs : List D} {a : Option Addr} {len cap : Nat} (b off : Nat) (vs : Nat → Nat → Value)
      (hl:xs.length=len) (OL:len≤cap) (ha:xs≠ []→a=some ⟨b,off,none⟩)
      (OT:∀(i:Nat) (x:D),xs[i]? =some x→∃cs:List D,x.cells=some cs∧cs.length=sz)
      (hc:∀(i:Nat) (x:D) (cs:List D) (j:Nat) (c:D),xs[i]? =some x→x.cells=some cs→cs[j]? =some c→M.cell b (off+i*sz+j)=some (vs i j))
      (hr:∀(i:Nat) (x:D) (cs:List D) (j:Nat) (c:D),xs[i]? =some x→x.cells=some cs→cs[j]? =some c→bo M.bare c (vs i j))
      (OQ:∀(i:Nat) (x:D) (cs:List D) (c:D),xs[i]? =some x→x.cells=some cs→c∈cs→storable c=true)
      (ho:M.lM o a len cap):bo M (.aj o sz xs) (.slice a len cap)
  |av {M:MM} :bo M .av .nilFunc
  | fn {M : MM} {f : Fn} {first cap : List D} {fv cv : Array Value} (h1 : first.length = fv.size) (h2 : cap.length = cv.size)
      (r1:∀(i:Nat) (d:D) (v:Value),first[i]? =some d→fv[i]? =some v→bo M d v) (r2:∀(i:Nat) (d:D) (v:Value),cap[i]? =some d→cv[i]? =some v→bo M d v):
      bo M (.fn f first cap) (.func f fv cv)
  | agg {M : MM} {cs : List D} {vs : Array Value} (h : cs.length = vs.size) (r : ∀ (i : Nat) (d : D) (v : Value), cs[i]? = some d → vs[i]? = some v → bo M d v) :
      bo M (.agg cs) (.agg vs)
  | aM {M : MM} {cs : List D} {vs : Array Value} (h : cs.length = vs.size) (r : ∀ (i : Nat) (d : D) (v : Value), cs[i]? = some d → vs[i]? = some v → bo M d v) :
      bo M (.aM cs) (.tuple vs)
structure MM.Le (M M':MM):Prop where
  cell:∀b o v,M.cell b o=some v→M'.cell b o=some v
  box:∀id b,M.box id=some b→M'.box id=some b
  bl:∀t v x,M.bl t v=some x→M'.bl t v=some x
  dW:∀b,M.dW b→M'.dW b
theorem MM.Le.refl (M:MM):M.Le M:=⟨fun _ _ _ h=>h,fun _ _ h=>h,fun _ _ _ h=>h,fun _ h=>h⟩
theorem MM.Le.trans {A B C:MM} (h:A.Le B) (k:B.Le C):A.Le C:=
 ⟨fun b o v x=>k.cell b o v (h.cell b o v x),fun i b x=>k.box i b (h.box i b x),fun t v x y=>k.bl t v x (h.bl t v x y),fun b x=>k.dW b (h.dW b x)⟩
theorem MM.Le.bare {A B:MM} (h:A.Le B):A.bare.Le B.bare:=⟨h.cell,fun _ _ x=>x,fun _ _ _ x=>x,fun _ x=>x⟩
theorem MM.AN {M M':MM} (h:M.Le M'):∀ {o:j9} {a:Option Addr} {l c:Nat},M.lM o a l c→M'.lM o a l c
 | .no,_,_,_,x=>x
 | .fresh _,_,_,_,x=>x
 | .tight,_,_,_,x=>x
 | .tok _ _,_,_,_,x=>h.bl _ _ _ x
theorem bo.mono {M:MM} {d:D} {v:Value} (h:bo M d v):∀ {M':MM},M.Le M'→bo M' d v:=by
 induction h with
 |undef v=>exact fun _=> .undef v
 |int k n=>exact fun _=> .int k n
 |bool b=>exact fun _=> .bool b
 |str s=>exact fun _=> .str s
 |fL=>exact fun _=> .fL
 |ptr q h=>exact fun le=> .ptr q (le.box _ _ h)
 |cT q vs hx hc hr ih=>exact fun le=> .cT q vs hx (fun j c h=>le.cell _ _ _ (hc j c h)) (fun j c h=>ih j c h le.bare)
 |bp h=>exact fun le=> .bp (le.box _ _ h)
 |jx h=>exact fun le=> .jx (le.box _ _ h)
 |bR h hh hc=>exact fun le=> .bR (le.box _ _ h) (le.bl _ _ _ hh) hc
 |sub h hc hp ho=>exact fun le=> .sub (le.box _ _ h) hc hp ho
 |aj b off vs hl OL ha OT hc hr OQ ho ih=>
  exact fun le=> .aj b off vs hl OL ha OT (fun i x cs j c h1 h2 h3=>le.cell _ _ _ (hc i x cs j c h1 h2 h3)) (fun i x cs j c h1 h2 h3=>ih i x cs j c h1 h2 h3 le.bare) OQ (MM.AN le ho)
 |av=>exact fun _=> .av
 |fn h1 h2 r1 r2 i1 i2=>exact fun le=> .fn h1 h2 (fun i d v a b=>i1 i d v a b le) (fun i d v a b=>i2 i d v a b le)
 |agg h r ih=>exact fun le=> .agg h (fun i d v a b=>ih i d v a b le)
 |aM h r ih=>exact fun le=> .aM h (fun i d v a b=>ih i d v a b le)
def j9.aJ:j9→j9
  | .tight=> .tight
  |_=> .no
mutual
def D.aJ:D→D
  | .aj o sz xs=> .aj o.aJ sz xs
  | .agg cs=> .agg (D.gu cs)
  | .aM cs=> .aM (D.gu cs)
  | .fn f a b=> .fn f (D.gu a) (D.gu b)
  |d=>d
def D.gu:List D→List D
  | []=> []
  |d::r=>d.aJ::D.gu r
end
mutual
def D.clean:D→Bool
  | .undef=>false
  | .ptr _ _ _=>false
  | .cT _ _ _=>false
  | .bp _=>false
  | .jx _=>false
  | .bR _ _ _=>false
  | .sub _ _ _ _ _=>false
  | .agg cs=>D.iZ cs
  | .aM cs=>D.iZ cs
  | .fn _ a b=>D.iZ a&&D.iZ b
  |_=>true
def D.iZ:List D→Bool
  | []=>true
  |d::r=>d.clean&&D.iZ r
end
theorem D.eP (l:List D):D.gu l=l.map D.aJ:=by
 induction l with
 |nil=>simp [D.gu]
 |cons d r ih=>simp [D.gu,ih]
theorem D.ij (l:List D):D.iZ l=l.all D.clean:=by
 induction l with
 |nil=>simp [D.iZ]
 |cons d r ih=>simp [D.iZ,ih]
theorem bo.mS {M:MM} {d:D} {v:Value} (h:bo M d v):d.clean=true→bo M.bare d.aJ v:=by
 induction h with
 |undef v=>intro c;simp [D.clean] at c
 |int k n=>intro _;exact .int k n
 |bool b=>intro _;exact .bool b
 |str s=>intro _;exact .str s
 |fL=>intro _;exact .fL
 |ptr q h=>intro c;simp [D.clean] at c
 |cT q vs hx hc hr ih=>intro c;simp [D.clean] at c
 |bp h=>intro c;simp [D.clean] at c
 |jx h=>intro c;simp [D.clean] at c
 |bR h hh hc=>intro c;simp [D.clean] at c
 |sub h hc hp ho=>intro c;simp [D.clean] at c
 |aj b off vs hl OL ha OT hc hr OQ ho ih=>
  rename_i o _ _ _ _ _
  intro _
  rw [D.aJ]
  refine .aj b off vs hl OL ha OT hc hr OQ ?_
  cases o<;>first|trivial|exact ho
 |av=>intro _;exact .av
 |fn h1 h2 r1 r2 i1 i2=>
  intro c
  rw [D.clean,D.ij,D.ij,Vi,VP,VP] at c
  rw [D.aJ,D.eP,D.eP]
  refine .fn (by simpa using h1) (by simpa using h2) ?_ ?_
  ·intro i d v a b
   rw [VC,Vz] at a
   obtain ⟨d0,h0,rfl⟩:=a
   exact i1 i d0 v h0 b (c.1 _ (VQ h0))
  ·intro i d v a b
   rw [VC,Vz] at a
   obtain ⟨d0,h0,rfl⟩:=a
   exact i2 i d0 v h0 b (c.2 _ (VQ h0))
 |agg h r ih=>
  intro c
  rw [D.clean,D.ij,VP] at c
  rw [D.aJ,D.eP]
  refine .agg (by simpa using h) ?_
  intro i d v a b
  rw [VC,Vz] at a
  obtain ⟨d0,h0,rfl⟩:=a
  exact ih i d0 v h0 b (c _ (VQ h0))
 |aM h r ih=>
  intro c
  rw [D.clean,D.ij,VP] at c
  rw [D.aJ,D.eP]
  refine .aM (by simpa using h) ?_
  intro i d v a b
  rw [VC,Vz] at a
  obtain ⟨d0,h0,rfl⟩:=a
  exact ih i d0 v h0 b (c _ (VQ h0))
theorem bo.Ji {M:MM} {d:D} {v:Value} (h:bo M d v):∀ {f:Nat→Prop},bo { M with dW:=f } d v:=by
 induction h with
 |undef v=>exact fun {f} => .undef v
 |int k n=>exact fun {f} => .int k n
 |bool b=>exact fun {f} => .bool b
 |str s=>exact fun {f} => .str s
 |fL=>exact fun {f} => .fL
 |ptr q h=>exact fun {f} => .ptr q h
 |cT q vs hx hc hr ih=>exact fun {f} => .cT q vs hx hc hr
 |bp h=>exact fun {f} => .bp h
 |jx h=>exact fun {f} => .jx h
 |bR h hh hc=>exact fun {f} => .bR h hh hc
 |sub h hc hp ho=>exact fun {f} => .sub h hc hp ho
 |aj b off vs hl OL ha OT hc hr OQ ho ih=>
  rename_i o _ _ _ _ _
  refine fun {f} => .aj b off vs hl OL ha OT hc hr OQ ?_
  cases o<;>first|trivial|exact ho
 |av=>exact fun {f} => .av
 |fn h1 h2 r1 r2 i1 i2=>exact fun {f} => .fn h1 h2 (fun i d v a b=>i1 i d v a b) (fun i d v a b=>i2 i d v a b)
 |agg h r ih=>exact fun {f} => .agg h (fun i d v a b=>ih i d v a b)
 |aM h r ih=>exact fun {f} => .aM h (fun i d v a b=>ih i d v a b)
theorem MM.jR (M:MM):M.bare.Le M:=⟨fun _ _ _ h=>h,fun _ _ h=>by simp [MM.bare] at h,fun _ _ _ h=>by simp [MM.bare] at h,fun _ h=>h.elim⟩
def j9.low:j9→Bool
  | .no=>true
  | .tight=>true
  |_=>false
mutual
def D.plain:D→Bool
  | .undef=>false
  | .ptr _ _ _=>false
  | .cT _ _ _=>false
  | .bp _=>false
  | .jx _=>false
  | .bR _ _ _=>false
  | .sub _ _ _ _ _=>false
  | .aj o _ _=>o.low
  | .agg cs=>D.iv cs
  | .aM cs=>D.iv cs
  | .fn _ a b=>D.iv a&&D.iv b
  |_=>true
def D.iv:List D→Bool
  | []=>true
  |d::r=>d.plain&&D.iv r
end
theorem D.kN (l:List D):D.iv l=l.all D.plain:=by
 induction l with
 |nil=>simp [D.iv]
 |cons d r ih=>simp [D.iv,ih]
theorem bo.FO {M:MM} {d:D} {v:Value} (h:bo M d v):d.plain=true→bo M.bare d v:=by
 induction h with
 |undef v=>intro c;simp [D.plain] at c
 |int k n=>intro _;exact .int k n
 |bool b=>intro _;exact .bool b
 |str s=>intro _;exact .str s
 |fL=>intro _;exact .fL
 |ptr q h=>intro c;simp [D.plain] at c
 |cT q vs hx hc hr ih=>intro c;simp [D.plain] at c
 |bp h=>intro c;simp [D.plain] at c
 |jx h=>intro c;simp [D.plain] at c
 |bR h hh hc=>intro c;simp [D.plain] at c
 |sub h hc hp ho=>intro c;simp [D.plain] at c
 |aj b off vs hl OL ha OT hc hr OQ ho ih=>
  rename_i o _ _ _ _ _
  intro c
  refine .aj b off vs hl OL ha OT hc hr OQ ?_
  rw [D.plain] at c
  cases o<;>first|exact ho|(simp [j9.low] at c)
 |av=>intro _;exact .av
 |fn h1 h2 r1 r2 i1 i2=>
  intro c
  rw [D.plain,D.kN,D.kN,Vi,VP,VP] at c
  exact .fn h1 h2 (fun i d v a b=>i1 i d v a b (c.1 _ (VQ a))) (fun i d v a b=>i2 i d v a b (c.2 _ (VQ a)))
 |agg h r ih=>
  intro c
  rw [D.plain,D.kN,VP] at c
  exact .agg h (fun i d v a b=>ih i d v a b (c _ (VQ a)))
 |aM h r ih=>
  intro c
  rw [D.plain,D.kN,VP] at c
  exact .aM h (fun i d v a b=>ih i d v a b (c _ (VQ a)))
mutual
theorem mI:∀ {d:D},d.clean=true→d.aJ.plain=true
  | .undef,h=>by simp [D.clean] at h
  | .int _ _,_=>by simp [D.aJ,D.plain]
  | .bool _,_=>by simp [D.aJ,D.plain]
  | .str _,_=>by simp [D.aJ,D.plain]
  | .fL,_=>by simp [D.aJ,D.plain]
  | .ptr _ _ _,h=>by simp [D.clean] at h
  | .cT _ _ _,h=>by simp [D.clean] at h
  | .bp _,h=>by simp [D.clean] at h
  | .jx _,h=>by simp [D.clean] at h
  | .bR _ _ _,h=>by simp [D.clean] at h
  | .sub _ _ _ _ _,h=>by simp [D.clean] at h
  | .aj o _ _,_=>by cases o<;>simp [D.aJ,D.plain,j9.aJ,j9.low]
  | .av,_=>by simp [D.aJ,D.plain]
  | .fn _ a b,h=>by
    simp only [D.clean,Vi] at h
    simp only [D.aJ,D.plain,Vi]
    exact ⟨fN h.1,fN h.2⟩
  | .agg cs,h=>by simp only [D.clean] at h;simp only [D.aJ,D.plain];exact fN h
  | .aM cs,h=>by simp only [D.clean] at h;simp only [D.aJ,D.plain];exact fN h
theorem fN:∀ {l:List D},D.iZ l=true→D.iv (D.gu l)=true
  | [],_=>by simp [D.gu,D.iv]
  |d::r,h=>by
    simp only [D.iZ,Vi] at h
    simp only [D.gu,D.iv,Vi]
    exact ⟨mI h.1,fN h.2⟩
end
theorem bo.flag {M:MM} {o:j9} {sz:Nat} {xs:List D} {a:Option Addr} {len cap:Nat} (h:bo M (.aj o sz xs) (.slice a len cap)) (o':j9) (ho:M.lM o' a len cap):bo M (.aj o' sz xs) (.slice a len cap):=by
 cases h with
 |aj b off vs hl OL ha OT hc hr OQ _=>exact .aj b off vs hl OL ha OT hc hr OQ ho
theorem bo.resize {M:MM} {o:j9} {sz size:Nat} {xs:List D} {v:Value} (h:bo M (.aj o sz xs) v) (hs:sz=size∨xs= []):bo M (.aj o size xs) v:=by
 rcases hs with rfl|rfl
 ·exact h
 ·cases h with
  |aj b off vs hl OL ha OT hc hr OQ ho=>exact .aj b off vs hl OL ha (fun i x hx=>by simp at hx) (fun i x cs j c hx=>by simp at hx) (fun i x cs j c hx=>by simp at hx) OQ ho
def bT (M:MM) (cs:List D) (vs:Array Value):Prop:=cs.length=vs.size∧∀(i:Nat) (d:D) (v:Value),cs[i]? =some d→vs[i]? =some v→bo M d v
theorem bT.mono {M M':MM} {cs:List D} {vs:Array Value} (h:bT M cs vs) (le:M.Le M'):bT M' cs vs:=⟨h.1,fun i d v a b=>(h.2 i d v a b).mono le⟩
theorem bo.cells {M:MM} {x:D} {v:Value} (h:bo M x v) {cs:List D} (hx:x.cells=some cs):bT M cs v.cells:=by
 have one:∀ {d:D} {u:Value},bo M d u→u.cells= #[u]→bT M [d] u.cells:=by
  intro d u r e
  rw [e]
  refine ⟨rfl,fun i d' v' a b=> ?_⟩
  cases i with
  |zero=>simp at a b;subst a b;exact r
  |succ i=>simp at a
 cases h with
 |undef v=>cases hx
 |int k n=>cases hx;exact one (.int _ _) rfl
 |bool b=>cases hx;exact one (.bool _) rfl
 |str t=>cases hx;exact one (.str _) rfl
 |fL=>cases hx;exact one .fL rfl
 |ptr q hb=>cases hx;exact one (.ptr q hb) rfl
 |cT q vs hy hc hr=>cases hx;exact one (.cT q vs hy hc hr) rfl
 |bp h=>cases hx;exact one (.bp h) rfl
 |jx h=>cases hx;exact one (.jx h) rfl
 |bR h hh hc=>cases hx;exact one (.bR h hh hc) rfl
 |sub h hc hp ho=>cases hx;exact one (.sub h hc hp ho) rfl
 |aj b off vs hl OL ha OT hc hr OQ ho=>cases hx;exact one (.aj b off vs hl OL ha OT hc hr OQ ho) rfl
 |av=>cases hx;exact one .av rfl
 |fn h1 h2 r1 r2=>cases hx;exact one (.fn h1 h2 r1 r2) rfl
 |agg hl hr=>cases hx;exact ⟨hl,hr⟩
 |aM hl hr=>cases hx
inductive LK where
  |bool
  |int (k:WO)
  |str
def LK.ky:LK→Value→Prop
  | .bool,.bool _=>True
  | .int k,.int k' _=>k=k'
  | .str,.string _=>True
  |_,_=>False
def cC:List LK→List Value→Prop
  | [],[]=>True
  |k::ks,d::ds=>k.ky d∧cC ks ds
  |_,_=>False
inductive Lk where
  |ready
  |busy
  |ret
  |exit (i:Nat)
def Lk.state:Lk→LoopState
  | .ready=> .ready
  | .busy=> .busy
  |_=> .done
def Lk.Fw:Lk→Option Code
  | .ret=>some .ret
  | .exit i=>some (.exit i)
  |_=>none
inductive Ob where
  |dead
  |box (cs:List D)
  |bz (ver sz:Nat)
  |mp (k:WO) (es:List (Int×D))
  |mf (ks:List LK) (es:List (List D×D))
  |lp (k:Lk) (t:List D) (ps:Array Nat) (ag bd:Code)
def gj:D→Option Value
  | .int k n=>some (.int k n)
  | .bool b=>some (.bool b)
  | .str s=>some (.string s)
  |_=>none
def lD (k:WO):List (Int×D)→List MapEntry→Prop
  | [],[]=>True
  |(n,d)::r,e::s=>e.key= .int k n∧gj d=some e.val∧lD k r s
  |_,_=>False
def gU:List D→Option (List Value)
  | []=>some []
  |d::r=>match gj d,gU r with
    |some v,some l=>some (v::l)
    |_,_=>none
def kz (ks:List LK):List (List D×D)→List MapEntry→Prop
  | [],[]=>True
  |(n,d)::r,e::s=>(∃vs:Array Value,e.key= .agg vs∧gU n=some vs.toList∧cC ks vs.toList)∧gj d=some e.val∧kz ks r s
  |_,_=>False
def jb (l:List MapEntry) (c:Nat):Prop:=c=l.length∧∀(i:Nat) (e:MapEntry),l[i]? =some e→e.born=i
def Ob.Bb:Ob→Option (List MapEntry→Nat→Prop)
  | .mp k es=>some fun l c=>lD k es l∧jb l c
  | .mf ks es=>some fun l c=>kz ks es l∧jb l c
  |_=>none
def dE (σ:Nat→Ob) (id:Nat) (o:Ob):Nat→Ob:=fun i=>if i=id then o else σ i
theorem aV (σ:Nat→Ob) (id:Nat) (o:Ob):dE σ id o id=o:=by simp [dE]
theorem aX {σ:Nat→Ob} {id i:Nat} {o:Ob} (h:i≠id):dE σ id o i=σ i:=by simp [dE,h]
def ka (fz:Nat×Nat) (n:Nat):Prop:= ∀o,o<n→¬(fz.1≤o∧o<fz.2)
structure dm where
  w:World
  C:Nat→Nat→Option Value
  X:Nat→Prop
structure Kept (X:Nat→Prop) (w w':World):Prop where
  os:w'.os=w.os
  tape:w'.tape=w.tape
  output:w'.output=w.output
  size:w.heap.size≤w'.heap.size
  block:∀k,X k→w'.heap[k]? =w.heap[k]?
  lt:∀k,X k→k<w.heap.size
theorem Kept.Jq {X:Nat→Prop} {w w':World} (h:Kept X w w') {k:Nat} (hk:X k):k<w'.heap.size:=Nat.lt_of_lt_of_le (h.lt k hk) h.size
theorem Kept.new {X:Nat→Prop} {w w':World} (h:Kept X w w'):¬X w'.heap.size:=fun k=>Nat.lt_irrefl _ (h.Jq k)
theorem Kept.ext {X:Nat→Prop} {a w w':World} (h:Kept X a w) (k:Below w.heap.size w w'):Kept X a w':=
 ⟨k.os.trans h.os,k.tape.trans h.tape,k.output.trans h.output,Nat.le_trans h.size k.size,fun i hi=>(k.block i (h.Jq hi)).trans (h.block i hi),h.lt⟩
theorem Kept.drew {X:Nat→Prop} {a w:World} (h:Kept X a w):Kept X a w.drew:=⟨h.os,h.tape,h.output,h.size,h.block,h.lt⟩
theorem Kept.alloc {X:Nat→Prop} {a w:World} (h:Kept X a w) (o:Obj):Kept X a (w.alloc o):=h.ext ((Below.refl _ _).alloc (Vq _) o)
theorem Kept.of (w:World):Kept (fun k=>k<w.heap.size) w w:=⟨rfl,rfl,rfl,Vq _,fun _ _=>rfl,fun _ h=>h⟩
theorem Kept.below {w w':World} (h:Kept (fun k=>k<w.heap.size) w w'):Below w.heap.size w w':=⟨h.os,h.tape,h.output,h.size,h.block⟩
structure oh (w0:dm) (M:MM) (own:Nat→Option Nat) (id:Nat) (cs:List D) (w:World) (b:Nat) (vs:Array Value) (ty:TypeId):Prop where
  box:M.box id=some b
  base:¬w0.X b
  own:own b=some id
  none:∀o,M.cell b o=none
  cq:w.heap[b]? =some (.cells vs ty (0,0))
  len:cs.length≤vs.size
  rep:∀(i:Nat) (d:D) (v:Value),cs[i]? =some d→vs[i]? =some v→bo M d v
  room:∀sz a len cap,M.bl id sz=some (.slice a len cap)→cap*sz≤vs.size
structure G1 (w0:dm) (M:MM) (own:Nat→Option Nat) (id:Nat) (F:List MapEntry→Nat→Prop) (w:World) (b:Nat) (OI:Array MapEntry) (clock:Nat):Prop where
  box:M.box id=some b
  base:¬w0.X b
  own:own b=some id
  none:∀o,M.cell b o=none
  cq:w.heap[b]? =some (.map OI clock)
  fits:F OI.toList clock
structure EB (w0:dm) (M:MM) (own:Nat→Option Nat) (id:Nat) (k:Lk) (t:List D) (ps:Array Nat) (ag bd:Code) (w:World) (l:Nat) (r:Loop):Prop where
  box:M.box id=some l
  base:¬w0.X l
  own:own l=some id
  cq:w.heap[l]? =some (.loop r)
  st:r.state=k.state
  pd:k≠ .busy→r.pending=k.Fw
  tm:bT M t r.tmps
  ps:r.params=ps
  ag:r.assign=ag
  bd:r.body=bd
structure qs (w0:dm) (M:MM) (own:Nat→Option Nat) (id sz:Nat) (w:World) (len cap b:Nat) (vs:Array Value) (ty:TypeId) (fz:Nat×Nat):Prop where
  base:¬w0.X b
  own:own b=some id
  cq:w.heap[b]? =some (.cells vs ty fz)
  fz:ka fz vs.size
  cap:cap*sz≤vs.size∧cap≤9223372036854775807
  none:∀o,len*sz≤o→M.cell b o=none
structure J7 (w0:dm) (M:MM) (own:Nat→Option Nat) (id ver sz:Nat) (w:World) (a:Option Addr) (len cap:Nat):Prop where
  bl:M.bl id ver=some (.slice a len cap)
  last:∀v,ver<v→M.bl id v=none
  room:cap=len∨∃b vs ty fz,a=some ⟨b,0,none⟩∧qs w0 M own id sz w len cap b vs ty fz
structure bu (w0:dm) (M:MM) (own:Nat→Option Nat) (σ:Nat→Ob) (w:World):Prop where
  below:Kept w0.X w0.w w
  cells:∀b o v,M.cell b o=some v→w.cell? ⟨b,o,none⟩=some v
  g7:∀b o v,M.cell b o=some v→w0.X b→w0.C b o=some v
  owned:∀b id,own b=some id→b<w.heap.size
  box:∀id cs,σ id= .box cs→∃b vs ty,oh w0 M own id cs w b vs ty
  bz:∀id ver sz,σ id= .bz ver sz→∃a len cap,J7 w0 M own id ver sz w a len cap
  mp:∀id F,(σ id).Bb=some F→∃b OI clock,G1 w0 M own id F w b OI clock
  lp:∀id k t ps ag bd,σ id= .lp k t ps ag bd→∃l r,EB w0 M own id k t ps ag bd w l r
  dW:∀b,M.dW b→¬w0.X b∧w.heap[b]? =some (.deferred (some []))
theorem EB.bn {w0:dm} {M M':MM} {own OH:Nat→Option Nat} {id:Nat} {k:Lk} {t:List D} {ps:Array Nat} {ag bd:Code} {w w':World} {l:Nat} {r:Loop} (h:EB w0 M own id k t ps ag bd w l r) (le:M.Le M') (ho:OH l=some id) (hb:w'.heap[l]? =some (.loop r)):EB w0 M' OH id k t ps ag bd w' l r:=
 ⟨le.box _ _ h.box,h.base,ho,hb,h.st,h.pd,h.tm.mono le,h.ps,h.ag,h.bd⟩
structure Ext (M:MM) (w:World) (M':MM) (w':World):Prop where
  below:Below w.heap.size w w'
  cell:∀b o v,M.cell b o=some v→M'.cell b o=some v
  only:∀b o v,M'.cell b o=some v→b<w.heap.size→M.cell b o=some v
  cells:∀b o v,M'.cell b o=some v→w'.cell? ⟨b,o,none⟩=some v
theorem iz {w w':World} (h:Below w.heap.size w w') {b:Nat} {o:Obj} (hb:w.heap[b]? =some o):w'.heap[b]? =some o:=by
 rw [h.block b ?_,hb]
 rcases VA b w.heap.size with h|h
 ·exact h
 ·simp [Array.getElem?_eq_none h] at hb
theorem dI {w:World} {b:Nat} {o:Obj} (hb:w.heap[b]? =some o):b<w.heap.size:=by
 rcases VA b w.heap.size with h|h
 ·exact h
 ·simp [Array.getElem?_eq_none h] at hb
theorem jH {C C':Nat→Nat→Option Value} {n b o:Nat} (only:∀b o v,C' b o=some v→b<n→C b o=some v) (hb:b<n) (h:C b o=none):C' b o=none:=by
 cases e:C' b o with
 |none=>rfl
 |some v=>rw [only b o v e hb] at h;cases h
theorem bu.ext {w0:dm} {w w':World} {M M':MM} {own:Nat→Option Nat} {σ:Nat→Ob} (h:bu w0 M own σ w) (e:Ext M w M' w')
  (Q2:M'.box=M.box) (PH:M'.bl=M.bl) (QC:M'.dW=M.dW):bu w0 M' own σ w'∧M.Le M':=by
 have le:M.Le M':=⟨e.cell,fun id b h=>by rw [Q2];exact h,fun t v x h=>by rw [PH];exact h,fun b h=>by rw [QC];exact h⟩
 refine ⟨⟨?_,e.cells,?_,?_,?_,?_,?_,?_,?_⟩,le⟩
 ·exact h.below.ext e.below
 ·exact fun b o v k hb=>h.g7 b o v (e.only b o v k (h.below.Jq hb)) hb
 ·exact fun b id k=>Nat.lt_of_lt_of_le (h.owned b id k) e.below.size
 ·intro id cs hs
  obtain ⟨b,vs,ty,k⟩:=h.box id cs hs
  exact ⟨b,vs,ty,by rw [Q2];exact k.box,k.base,k.own,fun o=>jH e.only (dI k.cq) (k.none o),iz e.below k.cq,k.len,fun i d v a b=>(k.rep i d v a b).mono le,fun sz a len cap q=>k.room sz a len cap (PH▸q)⟩
 ·intro id ver sz hs
  obtain ⟨a,len,cap,k⟩:=h.bz id ver sz hs
  refine ⟨a,len,cap,by rw [PH];exact k.bl,by rw [PH];exact k.last,?_⟩
  rcases k.room with r|⟨b,vs,ty,fz,ha,r⟩
  ·exact .inl r
  ·exact .inr ⟨b,vs,ty,fz,ha,r.base,r.own,iz e.below r.cq,r.fz,r.cap,fun o ho=>jH e.only (dI r.cq) (r.none o ho)⟩
 ·intro id F hs
  obtain ⟨b,OI,clock,q⟩:=h.mp id F hs
  exact ⟨b,OI,clock,by rw [Q2];exact q.box,q.base,q.own,fun o=>jH e.only (dI q.cq) (q.none o),iz e.below q.cq,q.fits⟩
 ·intro id k t ps ag bd hs
  obtain ⟨l,r,q⟩:=h.lp id k t ps ag bd hs
  exact ⟨l,r,q.bn le q.own (iz e.below q.cq)⟩
 ·intro b hb
  rw [QC] at hb
  exact ⟨(h.dW b hb).1,iz e.below (h.dW b hb).2⟩
theorem bu.drew {w0:dm} {w:World} {M:MM} {own:Nat→Option Nat} {σ:Nat→Ob} (h:bu w0 M own σ w):bu w0 M own σ w.drew:=
 ⟨h.below.drew,h.cells,h.g7,h.owned,fun id cs e=>let ⟨b,vs,ty,k⟩:=h.box id cs e;⟨b,vs,ty,k.box,k.base,k.own,k.none,k.cq,k.len,k.rep,k.room⟩,
  fun id ver sz e=>let ⟨a,len,cap,k⟩:=h.bz id ver sz e;⟨a,len,cap,k.bl,k.last,k.room.imp (fun x=>x) fun ⟨b,vs,ty,fz,ha,r⟩=>⟨b,vs,ty,fz,ha,r.base,r.own,r.cq,r.fz,r.cap,r.none⟩⟩,
  fun id F e=>let ⟨b,OI,clock,q⟩:=h.mp id F e;⟨b,OI,clock,q.box,q.base,q.own,q.none,q.cq,q.fits⟩,
  fun id k t ps ag bd e=>let ⟨l,r,q⟩:=h.lp id k t ps ag bd e;⟨l,r,q.bn (.refl _) q.own q.cq⟩,fun b hb=>⟨(h.dW b hb).1,(h.dW b hb).2⟩⟩
theorem bu.kill {w0:dm} {w:World} {M:MM} {own:Nat→Option Nat} {σ:Nat→Ob} (h:bu w0 M own σ w) (id:Nat):bu w0 M own (dE σ id .dead) w:=by
 refine ⟨h.below,h.cells,h.g7,h.owned,?_,?_,?_,?_,h.dW⟩
 ·intro i cs hi
  by_cases e:i=id
  ·rw [e,aV] at hi;cases hi
  ·rw [aX e] at hi;exact h.box i cs hi
 ·intro i v sz hi
  by_cases e:i=id
  ·rw [e,aV] at hi;cases hi
  ·rw [aX e] at hi;exact h.bz i v sz hi
 ·intro i F hi
  by_cases e:i=id
  ·rw [e,aV] at hi;cases hi
  ·rw [aX e] at hi;exact h.mp i F hi
 ·intro i k t ps ag bd hi
  by_cases e:i=id
  ·rw [e,aV] at hi;cases hi
  ·rw [aX e] at hi;exact h.lp i k t ps ag bd hi
def MM.bf (M:MM) (id b:Nat):MM:= { M with box:=fun i=>if i=id then some b else M.box i }
def MM.aW (M:MM) (id ver:Nat) (v:Value):MM:= { M with bl:=fun i k=>if i=id∧k=ver then some v else M.bl i k }
def MM.bC (M:MM) (b:Nat) (f:Nat→Option Value):MM:= { M with cell:=fun c o=>if c=b then f o else M.cell c o }
def eu (own:Nat→Option Nat) (b id:Nat):Nat→Option Nat:=fun c=>if c=b then some id else own c
theorem MM.dt {M:MM} {id b:Nat} (h:M.box id=none):M.Le (M.bf id b):=
 ⟨fun _ _ _ h=>h,fun i c k=>by by_cases e:i=id;(· rw [e,h] at k;cases k);(· simp [bf,e,k]),fun _ _ _ h=>h,fun _ h=>h⟩
theorem MM.cA {M:MM} {id ver:Nat} {v:Value} (h:M.bl id ver=none):M.Le (M.aW id ver v):=
 ⟨fun _ _ _ h=>h,fun _ _ h=>h,fun i k x e=>by
  by_cases c:i=id∧k=ver
  ·rw [c.1,c.2,h] at e;cases e
  ·simp only [aW,c,if_false];exact e,fun _ h=>h⟩
theorem cV {w:World} {M:MM} (hc:∀b o v,M.cell b o=some v→w.cell? ⟨b,o,none⟩=some v) {b:Nat} (hb:w.heap.size≤b) (o:Nat):M.cell b o=none:=by
 cases e:M.cell b o with
 |none=>rfl
 |some v=>
  have:=Wt w _ (hc b o v e)
  have:b<w.heap.size:=this
  omega
theorem bu.pt {w0:dm} {w:World} {M:MM} {own:Nat→Option Nat} {σ:Nat→Ob} (h:bu w0 M own σ w) {id:Nat} (O8:M.box id=none) (hh:∀v,M.bl id v=none) {cs:List D} {vs:Array Value} (ty:TypeId)
  (hl:cs.length≤vs.size) (hr:∀(i:Nat) (d:D) (v:Value),cs[i]? =some d→vs[i]? =some v→bo M d v):
  bu w0 (M.bf id w.heap.size) (eu own w.heap.size id) (dE σ id (.box cs)) (w.alloc (.cells vs ty)):=by
 have le:=MM.dt (b:=w.heap.size) O8
 have Pe:∀o,M.cell w.heap.size o=none:=cV h.cells (Vq _)
 have hold:∀ {b:Nat} {o:Obj},w.heap[b]? =some o→(w.alloc (.cells vs ty)).heap[b]? =some o:=fun {b o} hb=>by
  rw [Below.heap_alloc _ _ _ (dI hb),hb]
 have Po:∀ {b i:Nat},own b=some i→eu own w.heap.size id b=some i:=fun {b i} k=>by
  have:=h.owned b i k
  simp [eu,show b≠w.heap.size by omega,k]
 refine ⟨h.below.alloc _,?_,h.g7,?_,?_,?_,?_,?_,?_⟩
 ·intro b o v k
  have k':M.cell b o=some v:=k
  rw [World.cell?_alloc_lt]
  ·exact h.cells b o v k'
  ·exact Wt w _ (h.cells b o v k')
 ·intro b i k
  rw [World.size_alloc]
  by_cases e:b=w.heap.size
  ·omega
  ·simp only [eu,e,if_false] at k
   have:=h.owned b i k
   omega
 ·intro i Ph hi
  by_cases e:i=id
  ·subst e
   rw [aV] at hi
   cases hi
   refine ⟨w.heap.size,vs,ty,by simp [MM.bf],h.below.new,by simp [eu],Pe,?_,hl,fun j d v a b=>(hr j d v a b).mono le,fun sz a len cap q=>by have q':M.bl i sz=_:=q;rw [hh] at q';cases q'⟩
   show (w.heap.push _)[w.heap.size]? =_
   simp
  ·rw [aX e] at hi
   obtain ⟨b,vs',ty',k⟩:=h.box i Ph hi
   exact ⟨b,vs',ty',le.box _ _ k.box,k.base,Po k.own,k.none,hold k.cq,k.len,fun j d v a b=>(k.rep j d v a b).mono le,k.room⟩
 ·intro i ver sz hi
  by_cases e:i=id
  ·rw [e,aV] at hi;cases hi
  ·rw [aX e] at hi
   obtain ⟨a,len,cap,k⟩:=h.bz i ver sz hi
   refine ⟨a,len,cap,k.bl,k.last,?_⟩
   rcases k.room with r|⟨b,vs',ty',fz,ha,r⟩
   ·exact .inl r
   ·exact .inr ⟨b,vs',ty',fz,ha,r.base,Po r.own,hold r.cq,r.fz,r.cap,r.none⟩
 ·intro i F hi
  by_cases e:i=id
  ·rw [e,aV] at hi;cases hi
  ·rw [aX e] at hi
   obtain ⟨b,OI,clock,q⟩:=h.mp i F hi
   exact ⟨b,OI,clock,le.box _ _ q.box,q.base,Po q.own,q.none,hold q.cq,q.fits⟩
 ·intro i k t ps ag bd hi
  by_cases e:i=id
  ·rw [e,aV] at hi;cases hi
  ·rw [aX e] at hi
   obtain ⟨l,r,q⟩:=h.lp i k t ps ag bd hi
   exact ⟨l,r,q.bn le (Po q.own) (hold q.cq)⟩
 ·intro b hb
  exact ⟨(h.dW b hb).1,hold (h.dW b hb).2⟩
theorem bu.Du {w0:dm} {w:World} {M:MM} {own:Nat→Option Nat} {σ:Nat→Ob} (h:bu w0 M own σ w) {id:Nat} (O8:M.box id=none) {o:Ob} {F0:List MapEntry→Nat→Prop} (ho:o.Bb=some F0) (hF:F0 [] 0):
  bu w0 (M.bf id w.heap.size) (eu own w.heap.size id) (dE σ id o) (w.alloc (.map #[] 0)):=by
 have le:=MM.dt (b:=w.heap.size) O8
 have Pe:∀o,M.cell w.heap.size o=none:=cV h.cells (Vq _)
 have hold:∀ {b:Nat} {o:Obj},w.heap[b]? =some o→(w.alloc (.map #[] 0)).heap[b]? =some o:=fun {b o} hb=>by
  rw [Below.heap_alloc _ _ _ (dI hb),hb]
 have Po:∀ {b i:Nat},own b=some i→eu own w.heap.size id b=some i:=fun {b i} k=>by
  have:=h.owned b i k
  simp [eu,show b≠w.heap.size by omega,k]
 refine ⟨h.below.alloc _,?_,h.g7,?_,?_,?_,?_,?_,?_⟩
 ·intro b o v k
  have k':M.cell b o=some v:=k
  rw [World.cell?_alloc_lt]
  ·exact h.cells b o v k'
  ·exact Wt w _ (h.cells b o v k')
 ·intro b i k
  rw [World.size_alloc]
  by_cases e:b=w.heap.size
  ·omega
  ·simp only [eu,e,if_false] at k
   have:=h.owned b i k
   omega
 ·intro i Ph hi
  by_cases e:i=id
  ·rw [e,aV] at hi;rw [hi] at ho;cases ho
  ·rw [aX e] at hi
   obtain ⟨b,vs',ty',k⟩:=h.box i Ph hi
   exact ⟨b,vs',ty',le.box _ _ k.box,k.base,Po k.own,k.none,hold k.cq,k.len,fun j d v a b=>(k.rep j d v a b).mono le,k.room⟩
 ·intro i ver sz hi
  by_cases e:i=id
  ·rw [e,aV] at hi;rw [hi] at ho;cases ho
  ·rw [aX e] at hi
   obtain ⟨a,len,cap,k⟩:=h.bz i ver sz hi
   refine ⟨a,len,cap,k.bl,k.last,?_⟩
   rcases k.room with r|⟨b,vs',ty',fz,ha,r⟩
   ·exact .inl r
   ·exact .inr ⟨b,vs',ty',fz,ha,r.base,Po r.own,hold r.cq,r.fz,r.cap,r.none⟩
 ·intro i F hi
  by_cases e:i=id
  ·subst e
   rw [aV,ho] at hi
   cases hi
   refine ⟨w.heap.size,#[],0,by simp [MM.bf],h.below.new,by simp [eu],Pe,?_,hF⟩
   show (w.heap.push _)[w.heap.size]? =_
   simp
  ·rw [aX e] at hi
   obtain ⟨b,OI,clock,q⟩:=h.mp i F hi
   exact ⟨b,OI,clock,le.box _ _ q.box,q.base,Po q.own,q.none,hold q.cq,q.fits⟩
 ·intro i k' t ps ag bd hi
  by_cases e:i=id
  ·rw [e,aV] at hi;rw [hi] at ho;cases ho
  ·rw [aX e] at hi
   obtain ⟨l,r,q⟩:=h.lp i k' t ps ag bd hi
   exact ⟨l,r,q.bn le (Po q.own) (hold q.cq)⟩
 ·intro b hb
  exact ⟨(h.dW b hb).1,hold (h.dW b hb).2⟩
def bh (w:World) (b:Nat) (o:Obj):World:= { w with heap:=w.heap.setIfInBounds b o }
theorem dy {w:World} {b:Nat} {o p:Obj} (h:w.heap[b]? =some p):(bh w b o).heap[b]? =some o:=by
 have:=dI h
 simp [bh,this]
theorem aO {w:World} {b c:Nat} {o:Obj} (h:c≠b):(bh w b o).heap[c]? =w.heap[c]? :=by
 simp [bh,Array.getElem?_setIfInBounds_ne (Ne.symm h)]
theorem eo (w:World) (b:Nat) (o:Obj):(bh w b o).heap.size=w.heap.size:=by simp [bh]
theorem dk {w:World} {b c o:Nat} {p:Obj} (h:c≠b):(bh w b p).cell? ⟨c,o,none⟩=w.cell? ⟨c,o,none⟩:=by
 simp [Wl,aO h]
theorem eD {X:Nat→Prop} {w0 w:World} (h:Kept X w0 w) {b:Nat} (hb:¬X b) (o:Obj):Kept X w0 (bh w b o):=
 ⟨h.os,h.tape,h.output,by rw [eo];exact h.size,fun k hk=>by rw [aO (show k≠b from fun e=>hb (e▸hk))];exact h.block k hk,h.lt⟩
theorem bu.CH {w0:dm} {w:World} {M:MM} {own:Nat→Option Nat} {σ:Nat→Ob} (h:bu w0 M own σ w) {id b:Nat} {cs Ph:List D} {vs vs':Array Value} {ty:TypeId}
  (k:oh w0 M own id cs w b vs ty) (hl:Ph.length≤vs'.size) (hs:vs'.size=vs.size)
  (hr:∀(i:Nat) (d:D) (v:Value),Ph[i]? =some d→vs'[i]? =some v→bo M d v):
  bu w0 M own (dE σ id (.box Ph)) (bh w b (.cells vs' ty (0,0))):=by
 refine ⟨eD h.below k.base _,?_,h.g7,?_,?_,?_,?_,?_,?_⟩
 ·intro c o v hc
  have:c≠b:=fun e=>by rw [e,k.none o] at hc;cases hc
  rw [dk this]
  exact h.cells c o v hc
 ·intro c i hc;rw [eo];exact h.owned c i hc
 ·intro i QF hi
  by_cases e:i=id
  ·subst e
   rw [aV] at hi
   cases hi
   exact ⟨b,vs',ty,k.box,k.base,k.own,k.none,dy k.cq,hl,hr,fun sz a len cap q=>by rw [hs];exact k.room sz a len cap q⟩
  ·rw [aX e] at hi
   obtain ⟨c,vs2,ty2,k2⟩:=h.box i QF hi
   have:c≠b:=fun ec=>by have h1:=k2.own;rw [ec,k.own] at h1;exact e (Vk h1).symm
   exact ⟨c,vs2,ty2,k2.box,k2.base,k2.own,k2.none,by rw [aO this];exact k2.cq,k2.len,k2.rep,k2.room⟩
 ·intro i ver sz hi
  by_cases e:i=id
  ·rw [e,aV] at hi;cases hi
  ·rw [aX e] at hi
   obtain ⟨a,len,cap,k2⟩:=h.bz i ver sz hi
   refine ⟨a,len,cap,k2.bl,k2.last,?_⟩
   rcases k2.room with r|⟨c,vs2,ty2,fz,ha,r⟩
   ·exact .inl r
   ·have:c≠b:=fun ec=>by have h1:=r.own;rw [ec,k.own] at h1;exact e (Vk h1).symm
    exact .inr ⟨c,vs2,ty2,fz,ha,r.base,r.own,by rw [aO this];exact r.cq,r.fz,r.cap,r.none⟩
 ·intro i F hi
  by_cases e:i=id
  ·rw [e,aV] at hi;cases hi
  ·rw [aX e] at hi
   obtain ⟨c,OI,clock,q⟩:=h.mp i F hi
   have:c≠b:=fun ec=>by have h1:=q.own;rw [ec,k.own] at h1;exact e (Vk h1).symm
   exact ⟨c,OI,clock,q.box,q.base,q.own,q.none,by rw [aO this];exact q.cq,q.fits⟩
 ·intro i k2 t ps ag bd hi
  by_cases e:i=id
  ·rw [e,aV] at hi;cases hi
  ·rw [aX e] at hi
   obtain ⟨l,r,q⟩:=h.lp i k2 t ps ag bd hi
   have:l≠b:=fun ec=>by have h1:=q.own;rw [ec,k.own] at h1;exact e (Vk h1).symm
   exact ⟨l,r,q.bn (.refl _) q.own (by rw [aO this];exact q.cq)⟩
 ·intro c hc
  have:c≠b:=fun ec=>by have h1:=(h.dW c hc).2;rw [ec,k.cq] at h1;cases h1
  exact ⟨(h.dW c hc).1,by rw [aO this];exact (h.dW c hc).2⟩
theorem bu.iW {w0:dm} {w:World} {M:MM} {own:Nat→Option Nat} {σ:Nat→Ob} (h:bu w0 M own σ w) {id b:Nat} {F0 F1:List MapEntry→Nat→Prop} {OI ents':Array MapEntry} {clock:Nat}
  (k:G1 w0 M own id F0 w b OI clock) (QT:Nat) {o':Ob} (ho:o'.Bb=some F1) (hf:F1 ents'.toList QT):
  bu w0 M own (dE σ id o') (bh w b (.map ents' QT)):=by
 refine ⟨eD h.below k.base _,?_,h.g7,?_,?_,?_,?_,?_,?_⟩
 ·intro c o v hc
  have:c≠b:=fun e=>by rw [e,k.none o] at hc;cases hc
  rw [dk this]
  exact h.cells c o v hc
 ·intro c i hc;rw [eo];exact h.owned c i hc
 ·intro i QF hi
  by_cases e:i=id
  ·rw [e,aV] at hi;rw [hi] at ho;cases ho
  ·rw [aX e] at hi
   obtain ⟨c,vs2,ty2,k2⟩:=h.box i QF hi
   have:c≠b:=fun ec=>by have h1:=k2.own;rw [ec,k.own] at h1;exact e (Vk h1).symm
   exact ⟨c,vs2,ty2,k2.box,k2.base,k2.own,k2.none,by rw [aO this];exact k2.cq,k2.len,k2.rep,k2.room⟩
 ·intro i ver sz hi
  by_cases e:i=id
  ·rw [e,aV] at hi;rw [hi] at ho;cases ho
  ·rw [aX e] at hi
   obtain ⟨a,len,cap,k2⟩:=h.bz i ver sz hi
   refine ⟨a,len,cap,k2.bl,k2.last,?_⟩
   rcases k2.room with r|⟨c,vs2,ty2,fz,ha,r⟩
   ·exact .inl r
   ·have:c≠b:=fun ec=>by have h1:=r.own;rw [ec,k.own] at h1;exact e (Vk h1).symm
    exact .inr ⟨c,vs2,ty2,fz,ha,r.base,r.own,by rw [aO this];exact r.cq,r.fz,r.cap,r.none⟩
 ·intro i F hi
  by_cases e:i=id
  ·subst e
   rw [aV,ho] at hi
   cases hi
   exact ⟨b,ents',QT,k.box,k.base,k.own,k.none,dy k.cq,hf⟩
  ·rw [aX e] at hi
   obtain ⟨c,ents2,clock2,q⟩:=h.mp i F hi
   have:c≠b:=fun ec=>by have h1:=q.own;rw [ec,k.own] at h1;exact e (Vk h1).symm
   exact ⟨c,ents2,clock2,q.box,q.base,q.own,q.none,by rw [aO this];exact q.cq,q.fits⟩
 ·intro i k2 t ps ag bd hi
  by_cases e:i=id
  ·rw [e,aV] at hi;rw [hi] at ho;cases ho
  ·rw [aX e] at hi
   obtain ⟨l,r,q⟩:=h.lp i k2 t ps ag bd hi
   have:l≠b:=fun ec=>by have h1:=q.own;rw [ec,k.own] at h1;exact e (Vk h1).symm
   exact ⟨l,r,q.bn (.refl _) q.own (by rw [aO this];exact q.cq)⟩
 ·intro c hc
  have:c≠b:=fun ec=>by have h1:=(h.dW c hc).2;rw [ec,k.cq] at h1;cases h1
  exact ⟨(h.dW c hc).1,by rw [aO this];exact (h.dW c hc).2⟩
theorem bu.lH {w0:dm} {w:World} {M:MM} {own:Nat→Option Nat} {σ:Nat→Ob} (h:bu w0 M own σ w) {id ver:Nat} (O8:∀v,ver≤v→M.bl id v=none) {a:Option Addr} {len cap:Nat} (sz:Nat)
  (Pc:cap=len∨∃b vs ty fz,a=some ⟨b,0,none⟩∧¬w0.X b∧(own b=none∨own b=some id)∧w.heap[b]? =some (.cells vs ty fz)∧ka fz vs.size∧(cap*sz≤vs.size∧cap≤9223372036854775807)∧∀o,len*sz≤o→M.cell b o=none):
  ∃OH,bu w0 (M.aW id ver (.slice a len cap)) OH (dE σ id (.bz ver sz)) w:=by
 have le:=MM.cA (ver:=ver) (v:= .slice a len cap) (O8 ver (Vq _))
 have Tt:∀ {OH:Nat→Option Nat},(∀b i,own b=some i→OH b=some i)→(∀b i,OH b=some i→b<w.heap.size)→
   (cap=len∨∃b vs ty fz,a=some ⟨b,0,none⟩∧qs w0 (M.aW id ver (.slice a len cap)) OH id sz w len cap b vs ty fz)→
   bu w0 (M.aW id ver (.slice a len cap)) OH (dE σ id (.bz ver sz)) w:=by
  intro OH Q5 SB hr
  refine ⟨h.below,h.cells,h.g7,SB,?_,?_,?_,?_,h.dW⟩
  ·intro i cs hi
   by_cases e:i=id
   ·rw [e,aV] at hi;cases hi
   ·rw [aX e] at hi
    obtain ⟨b,vs,ty,k⟩:=h.box i cs hi
    exact ⟨b,vs,ty,k.box,k.base,Q5 _ _ k.own,k.none,k.cq,k.len,fun j d v a b=>(k.rep j d v a b).mono le,fun O1 a' OO O7 q=>k.room O1 a' OO O7 (by simpa [MM.aW,e] using q)⟩
  ·intro i Ri O1 hi
   by_cases e:i=id
   ·subst e
    rw [aV] at hi
    cases hi
    refine ⟨a,len,cap,by simp [MM.aW],?_,hr⟩
    intro v hv
    simp only [MM.aW,show ¬(v=ver) by omega,and_false,if_false]
    exact O8 v (by omega)
   ·rw [aX e] at hi
    obtain ⟨a',OO,O7,k⟩:=h.bz i Ri O1 hi
    refine ⟨a',OO,O7,le.bl _ _ _ k.bl,?_,?_⟩
    ·intro v hv
     simp only [MM.aW,e,false_and,if_false]
     exact k.last v hv
    ·rcases k.room with r|⟨c,vs2,ty2,fz,ha,r⟩
     ·exact .inl r
     ·exact .inr ⟨c,vs2,ty2,fz,ha,r.base,Q5 _ _ r.own,r.cq,r.fz,r.cap,r.none⟩
  ·intro i F hi
   by_cases e:i=id
   ·rw [e,aV] at hi;cases hi
   ·rw [aX e] at hi
    obtain ⟨b,OI,clock,q⟩:=h.mp i F hi
    exact ⟨b,OI,clock,q.box,q.base,Q5 _ _ q.own,q.none,q.cq,q.fits⟩
  ·intro i k t ps ag bd hi
   by_cases e:i=id
   ·rw [e,aV] at hi;cases hi
   ·rw [aX e] at hi
    obtain ⟨l,r,q⟩:=h.lp i k t ps ag bd hi
    exact ⟨l,r,q.bn le (Q5 _ _ q.own) q.cq⟩
 rcases Pc with hc|⟨b,vs,ty,fz,ha,QI,PG,hblk,Sr,OL,PF⟩
 ·exact ⟨own,Tt (fun _ _ x=>x) h.owned (.inl hc)⟩
 ·refine ⟨eu own b id,Tt ?_ ?_ (.inr ⟨b,vs,ty,fz,ha,QI,by simp [eu],hblk,Sr,OL,PF⟩)⟩
  ·intro c i hc
   by_cases e:c=b
   ·subst e
    rcases PG with PG|PG
    ·rw [PG] at hc;cases hc
    ·rw [PG] at hc;simp [eu];exact Vk hc
   ·simp [eu,e,hc]
  ·intro c i hc
   by_cases e:c=b
   ·rw [e];exact dI hblk
   ·simp only [eu,e,if_false] at hc;exact h.owned c i hc
def MM.cG (M:MM) (b n1 n2:Nat) (vs:Array Value):MM:=M.bC b fun o=>if n1≤o∧o<n2 then vs[o]? else M.cell b o
theorem MM.zX {M:MM} {b n1 n2:Nat} {vs:Array Value} (h:∀o,n1≤o→M.cell b o=none):M.Le (M.cG b n1 n2 vs):=by
 refine ⟨fun c o v k=> ?_,fun _ _ k=>k,fun _ _ _ k=>k,fun _ k=>k⟩
 by_cases e:c=b
 ·subst e
  simp only [cG,bC,if_true]
  rw [if_neg]
  ·exact k
  ·intro hh;rw [h o hh.1] at k;cases k
 ·simp only [cG,bC,e,if_false];exact k
theorem bu.Ea {w0:dm} {w:World} {M:MM} {own:Nat→Option Nat} {σ:Nat→Ob} (h:bu w0 M own σ w) {id sz len cap b:Nat} {ver O1:Nat} {vs vs':Array Value} {ty:TypeId} {fz:Nat×Nat} (_hs:σ id= .bz ver O1)
  (r:qs w0 M own id sz w len cap b vs ty fz) (n2:Nat) (TS:vs'.size=vs.size) (Pn:∀o,o<len*sz→vs'[o]? =vs[o]?):
  bu w0 (M.cG b (len*sz) n2 vs') own (dE σ id .dead) (bh w b (.cells vs' ty fz)):=by
 have le:M.Le (M.cG b (len*sz) n2 vs'):=MM.zX r.none
 refine ⟨eD h.below r.base _,?_,?_,?_,?_,?_,?_,?_,?_⟩
 ·intro c o v hc
  by_cases e:c=b
  ·subst e
   simp only [MM.cG,MM.bC,if_true] at hc
   simp only [Wl,dy r.cq]
   split at hc
   ·exact hc
   ·have h1:=h.cells c o v hc
    have h2:o<len*sz:=by
     rcases VA o (len*sz) with q|q
     ·exact q
     ·rw [r.none o q] at hc;cases hc
    simp only [Wl,r.cq] at h1
    rw [← Pn o h2] at h1
    exact h1
  ·simp only [MM.cG,MM.bC,e,if_false] at hc
   rw [dk e]
   exact h.cells c o v hc
 ·intro c o v hc OK
  have e:c≠b:=fun e=>r.base (e▸OK)
  simp only [MM.cG,MM.bC,e,if_false] at hc
  exact h.g7 c o v hc OK
 ·intro c i hc;rw [eo];exact h.owned c i hc
 ·intro i QF hi
  by_cases e:i=id
  ·rw [e,aV] at hi;cases hi
  ·rw [aX e] at hi
   obtain ⟨c,vs2,ty2,k2⟩:=h.box i QF hi
   have:c≠b:=fun ec=>by have h1:=k2.own;rw [ec,r.own] at h1;exact e (Vk h1).symm
   exact ⟨c,vs2,ty2,k2.box,k2.base,k2.own,fun o=>by simp only [MM.cG,MM.bC,this,if_false];exact k2.none o,by rw [aO this];exact k2.cq,k2.len,fun j d v a b=>(k2.rep j d v a b).mono le,k2.room⟩
 ·intro i T1 PC hi
  by_cases e:i=id
  ·rw [e,aV] at hi;cases hi
  ·rw [aX e] at hi
   obtain ⟨a,len2,cap2,k2⟩:=h.bz i T1 PC hi
   refine ⟨a,len2,cap2,k2.bl,k2.last,?_⟩
   rcases k2.room with q|⟨c,vs2,ty2,fz2,ha,q⟩
   ·exact .inl q
   ·have:c≠b:=fun ec=>by have h1:=q.own;rw [ec,r.own] at h1;exact e (Vk h1).symm
    exact .inr ⟨c,vs2,ty2,fz2,ha,q.base,q.own,by rw [aO this];exact q.cq,q.fz,q.cap,fun o ho=>by simp only [MM.cG,MM.bC,this,if_false];exact q.none o ho⟩
 ·intro i F hi
  by_cases e:i=id
  ·rw [e,aV] at hi;cases hi
  ·rw [aX e] at hi
   obtain ⟨c,OI,clock,q⟩:=h.mp i F hi
   have:c≠b:=fun ec=>by have h1:=q.own;rw [ec,r.own] at h1;exact e (Vk h1).symm
   exact ⟨c,OI,clock,q.box,q.base,q.own,fun o=>by simp only [MM.cG,MM.bC,this,if_false];exact q.none o,by rw [aO this];exact q.cq,q.fits⟩
 ·intro i k2 t ps ag bd hi
  by_cases e:i=id
  ·rw [e,aV] at hi;cases hi
  ·rw [aX e] at hi
   obtain ⟨l,r',q⟩:=h.lp i k2 t ps ag bd hi
   have:l≠b:=fun ec=>by have h1:=q.own;rw [ec,r.own] at h1;exact e (Vk h1).symm
   exact ⟨l,r',q.bn le q.own (by rw [aO this];exact q.cq)⟩
 ·intro c hc
  have:c≠b:=fun ec=>by have h1:=(h.dW c hc).2;rw [ec,r.cq] at h1;cases h1
  exact ⟨(h.dW c hc).1,by rw [aO this];exact (h.dW c hc).2⟩
theorem bu.lf {w0:dm} {w:World} {M:MM} {own:Nat→Option Nat} {σ:Nat→Ob} (h:bu w0 M own σ w) {id b:Nat} {cs:List D} {vs:Array Value} {ty:TypeId} (hσ:σ id= .box cs)
  (k:oh w0 M own id cs w b vs ty) {sz len cap:Nat} (hn:M.bl id sz=none) (hc:cap*sz≤vs.size):bu w0 (M.aW id sz (.slice (some ⟨b,0,none⟩) len cap)) own σ w:=by
 have le:=MM.cA (v:= .slice (some ⟨b,0,none⟩) len cap) hn
 refine ⟨h.below,h.cells,h.g7,h.owned,?_,?_,?_,?_,h.dW⟩
 ·intro i Ph hi
  by_cases e:i=id
  ·subst e
   rw [hσ] at hi
   cases hi
   refine ⟨b,vs,ty,k.box,k.base,k.own,k.none,k.cq,k.len,fun j d v a b=>(k.rep j d v a b).mono le,fun O1 a OO O7 q=> ?_⟩
   by_cases es:O1=sz
   ·subst es
    simp only [MM.aW,and_self,if_true,Vs,Value.slice.injEq] at q
    rw [← q.2.2];exact hc
   ·simp only [MM.aW,es,and_false,if_false] at q
    exact k.room O1 a OO O7 q
  ·obtain ⟨b',vs',ty',k'⟩:=h.box i Ph hi
   exact ⟨b',vs',ty',k'.box,k'.base,k'.own,k'.none,k'.cq,k'.len,fun j d v a b=>(k'.rep j d v a b).mono le,fun O1 a OO O7 q=>k'.room O1 a OO O7 (by simpa [MM.aW,e] using q)⟩
 ·intro i ver O1 hi
  by_cases e:i=id
  ·subst e;rw [hσ] at hi;cases hi
  ·obtain ⟨a,OO,O7,k'⟩:=h.bz i ver O1 hi
   refine ⟨a,OO,O7,le.bl _ _ _ k'.bl,?_,?_⟩
   ·intro v hv
    simp only [MM.aW,e,false_and,if_false]
    exact k'.last v hv
   ·rcases k'.room with r|⟨c,vs2,ty2,fz,ha,r⟩
    ·exact .inl r
    ·exact .inr ⟨c,vs2,ty2,fz,ha,r.base,r.own,r.cq,r.fz,r.cap,r.none⟩
 ·intro i F hi
  obtain ⟨b',OI,clock,q⟩:=h.mp i F hi
  exact ⟨b',OI,clock,q.box,q.base,q.own,q.none,q.cq,q.fits⟩
 ·intro i kk t ps ag bd hi
  obtain ⟨l,r,q⟩:=h.lp i kk t ps ag bd hi
  exact ⟨l,r,q.bn le q.own q.cq⟩
theorem bu.zR {w0:dm} {w:World} {M:MM} {own:Nat→Option Nat} {σ:Nat→Ob} (h:bu w0 M own σ w) {id Qq b:Nat} {cs Ph:List D} {vs vs':Array Value} {ty:TypeId}
  (k:oh w0 M own id cs w b vs ty) (O8:M.box Qq=none) (hh:∀v,M.bl Qq v=none) (hl:Ph.length≤vs'.size) (hr:∀(i:Nat) (d:D) (v:Value),Ph[i]? =some d→vs'[i]? =some v→bo M d v):
  bu w0 (M.bf Qq b) (eu own b Qq) (dE (dE σ id .dead) Qq (.box Ph)) (bh w b (.cells vs' ty (0,0))):=by
 have le:=MM.dt (b:=b) O8
 have O0:∀ {i c:Nat},own c=some i→i≠id→c≠b:=fun hi e ec=>by rw [ec,k.own] at hi;exact e (Vk hi).symm
 have Po:∀ {i c:Nat},own c=some i→i≠id→eu own b Qq c=some i:=fun hi e=>by simp [eu,O0 hi e,hi]
 refine ⟨eD h.below k.base _,?_,h.g7,?_,?_,?_,?_,?_,?_⟩
 ·intro c o v hc
  have Qm:M.cell c o=some v:=hc
  have:c≠b:=fun e=>by rw [e,k.none o] at Qm;cases Qm
  rw [dk this]
  exact h.cells c o v Qm
 ·intro c i hc
  rw [eo]
  by_cases e:c=b
  ·rw [e];exact dI k.cq
  ·simp only [eu,e,if_false] at hc;exact h.owned c i hc
 ·intro i QF hi
  by_cases e:i=Qq
  ·subst e
   rw [aV] at hi
   cases hi
   exact ⟨b,vs',ty,by simp [MM.bf],k.base,by simp [eu],k.none,dy k.cq,hl,fun j d v a b=>(hr j d v a b).mono le,fun sz a len cap q=>by have q':M.bl i sz=_:=q;rw [hh] at q';cases q'⟩
  ·rw [aX e] at hi
   by_cases e2:i=id
   ·rw [e2,aV] at hi;cases hi
   ·rw [aX e2] at hi
    obtain ⟨c,vs2,ty2,k2⟩:=h.box i QF hi
    exact ⟨c,vs2,ty2,le.box _ _ k2.box,k2.base,Po k2.own e2,k2.none,by rw [aO (O0 k2.own e2)];exact k2.cq,k2.len,fun j d v a b=>(k2.rep j d v a b).mono le,k2.room⟩
 ·intro i ver sz hi
  by_cases e:i=Qq
  ·rw [e,aV] at hi;cases hi
  ·rw [aX e] at hi
   by_cases e2:i=id
   ·rw [e2,aV] at hi;cases hi
   ·rw [aX e2] at hi
    obtain ⟨a,len,cap,k2⟩:=h.bz i ver sz hi
    refine ⟨a,len,cap,k2.bl,k2.last,?_⟩
    rcases k2.room with r|⟨c,vs2,ty2,fz,ha,r⟩
    ·exact .inl r
    ·exact .inr ⟨c,vs2,ty2,fz,ha,r.base,Po r.own e2,by rw [aO (O0 r.own e2)];exact r.cq,r.fz,r.cap,r.none⟩
 ·intro i F hi
  by_cases e:i=Qq
  ·rw [e,aV] at hi;cases hi
  ·rw [aX e] at hi
   by_cases e2:i=id
   ·rw [e2,aV] at hi;cases hi
   ·rw [aX e2] at hi
    obtain ⟨c,OI,clock,q⟩:=h.mp i F hi
    exact ⟨c,OI,clock,le.box _ _ q.box,q.base,Po q.own e2,q.none,by rw [aO (O0 q.own e2)];exact q.cq,q.fits⟩
 ·intro i k2 t ps ag bd hi
  by_cases e:i=Qq
  ·rw [e,aV] at hi;cases hi
  ·rw [aX e] at hi
   by_cases e2:i=id
   ·rw [e2,aV] at hi;cases hi
   ·rw [aX e2] at hi
    obtain ⟨l,r,q⟩:=h.lp i k2 t ps ag bd hi
    exact ⟨l,r,q.bn le (Po q.own e2) (by rw [aO (O0 q.own e2)];exact q.cq)⟩
 ·intro c hc
  have:c≠b:=fun ec=>by have h1:=(h.dW c hc).2;rw [ec,k.cq] at h1;cases h1
  exact ⟨(h.dW c hc).1,by rw [aO this];exact (h.dW c hc).2⟩
def MM.mR (M:MM) (b:Nat):MM:= { M with dW:=fun c=>M.dW c∨c=b }
theorem MM.rk (M:MM) (b:Nat):M.Le (M.mR b):=⟨fun _ _ _ h=>h,fun _ _ h=>h,fun _ _ _ h=>h,fun _ h=> .inl h⟩
theorem bu.Jj {w0:dm} {w:World} {M:MM} {own:Nat→Option Nat} {σ:Nat→Ob} (h:bu w0 M own σ w):bu w0 (M.mR w.heap.size) own σ (w.alloc (.deferred (some []))):=by
 have le:=M.rk w.heap.size
 have hold:∀ {b:Nat} {o:Obj},w.heap[b]? =some o→(w.alloc (.deferred (some []))).heap[b]? =some o:=fun {b o} hb=>by
  rw [Below.heap_alloc _ _ _ (dI hb),hb]
 refine ⟨h.below.alloc _,?_,h.g7,?_,?_,?_,?_,?_,?_⟩
 ·intro b o v k
  rw [World.cell?_alloc_lt]
  ·exact h.cells b o v k
  ·exact Wt w _ (h.cells b o v k)
 ·intro b i k
  rw [World.size_alloc]
  have:=h.owned b i k
  omega
 ·intro i cs hi
  obtain ⟨b,vs,ty,k⟩:=h.box i cs hi
  exact ⟨b,vs,ty,k.box,k.base,k.own,k.none,hold k.cq,k.len,fun j d v a b=>(k.rep j d v a b).mono le,k.room⟩
 ·intro i ver sz hi
  obtain ⟨a,len,cap,k⟩:=h.bz i ver sz hi
  refine ⟨a,len,cap,k.bl,k.last,?_⟩
  rcases k.room with r|⟨b,vs',ty',fz,ha,r⟩
  ·exact .inl r
  ·exact .inr ⟨b,vs',ty',fz,ha,r.base,r.own,hold r.cq,r.fz,r.cap,r.none⟩
 ·intro i F hi
  obtain ⟨b,OI,clock,q⟩:=h.mp i F hi
  exact ⟨b,OI,clock,q.box,q.base,q.own,q.none,hold q.cq,q.fits⟩
 ·intro i k t ps ag bd hi
  obtain ⟨l,r,q⟩:=h.lp i k t ps ag bd hi
  exact ⟨l,r,q.bn le q.own (hold q.cq)⟩
 ·rintro b (hb|rfl)
  ·exact ⟨(h.dW b hb).1,hold (h.dW b hb).2⟩
  ·refine ⟨h.below.new,?_⟩
   show (w.heap.push _)[w.heap.size]? =_
   simp
theorem bu.Jk {w0:dm} {w:World} {M:MM} {own:Nat→Option Nat} {σ:Nat→Ob} (h:bu w0 M own σ w) {id:Nat} (O8:M.box id=none) (hh:∀v,M.bl id v=none) {k:Lk} {t:List D} {r:Loop}
  (OQ:r.state=k.state) (Us:k≠ .busy→r.pending=k.Fw) (ht:bT M t r.tmps):
  bu w0 (M.bf id w.heap.size) (eu own w.heap.size id) (dE σ id (.lp k t r.params r.assign r.body)) (w.alloc (.loop r)):=by
 have le:=MM.dt (b:=w.heap.size) O8
 have hold:∀ {b:Nat} {o:Obj},w.heap[b]? =some o→(w.alloc (.loop r)).heap[b]? =some o:=fun {b o} hb=>by
  rw [Below.heap_alloc _ _ _ (dI hb),hb]
 have Po:∀ {b i:Nat},own b=some i→eu own w.heap.size id b=some i:=fun {b i} k=>by
  have:=h.owned b i k
  simp [eu,show b≠w.heap.size by omega,k]
 refine ⟨h.below.alloc _,?_,h.g7,?_,?_,?_,?_,?_,?_⟩
 ·intro b o v k
  have k':M.cell b o=some v:=k
  rw [World.cell?_alloc_lt]
  ·exact h.cells b o v k'
  ·exact Wt w _ (h.cells b o v k')
 ·intro b i k
  rw [World.size_alloc]
  by_cases e:b=w.heap.size
  ·omega
  ·simp only [eu,e,if_false] at k
   have:=h.owned b i k
   omega
 ·intro i cs hi
  by_cases e:i=id
  ·rw [e,aV] at hi;cases hi
  ·rw [aX e] at hi
   obtain ⟨b,vs,ty,k⟩:=h.box i cs hi
   exact ⟨b,vs,ty,le.box _ _ k.box,k.base,Po k.own,k.none,hold k.cq,k.len,fun j d v a b=>(k.rep j d v a b).mono le,k.room⟩
 ·intro i ver sz hi
  by_cases e:i=id
  ·rw [e,aV] at hi;cases hi
  ·rw [aX e] at hi
   obtain ⟨a,len,cap,k⟩:=h.bz i ver sz hi
   refine ⟨a,len,cap,k.bl,k.last,?_⟩
   rcases k.room with r|⟨b,vs',ty',fz,ha,r⟩
   ·exact .inl r
   ·exact .inr ⟨b,vs',ty',fz,ha,r.base,Po r.own,hold r.cq,r.fz,r.cap,r.none⟩
 ·intro i F hi
  by_cases e:i=id
  ·rw [e,aV] at hi;cases hi
  ·rw [aX e] at hi
   obtain ⟨b,OI,clock,q⟩:=h.mp i F hi
   exact ⟨b,OI,clock,le.box _ _ q.box,q.base,Po q.own,q.none,hold q.cq,q.fits⟩
 ·intro i k2 t2 ps ag bd hi
  by_cases e:i=id
  ·subst e
   rw [aV] at hi
   cases hi
   refine ⟨w.heap.size,r,by simp [MM.bf],h.below.new,by simp [eu],?_,OQ,Us,ht.mono le,rfl,rfl,rfl⟩
   show (w.heap.push _)[w.heap.size]? =_
   simp
  ·rw [aX e] at hi
   obtain ⟨l,r',q⟩:=h.lp i k2 t2 ps ag bd hi
   exact ⟨l,r',q.bn le (Po q.own) (hold q.cq)⟩
 ·intro b hb
  exact ⟨(h.dW b hb).1,hold (h.dW b hb).2⟩
theorem bu.CG {w0:dm} {w:World} {M:MM} {own:Nat→Option Nat} {σ:Nat→Ob} (h:bu w0 M own σ w) {id l:Nat} {k k':Lk} {t:List D} {ps:Array Nat} {ag bd:Code} {r r':Loop}
  (q:EB w0 M own id k t ps ag bd w l r) (o':Ob) (ho:o'= .dead∨(o'= .lp k' t ps ag bd∧r'.state=k'.state∧(k'≠ .busy→r'.pending=k'.Fw)∧r'.tmps=r.tmps∧r'.params=r.params∧r'.assign=r.assign∧r'.body=r.body)):
  bu w0 M own (dE σ id o') (bh w l (.loop r')):=by
 refine ⟨eD h.below q.base _,?_,h.g7,?_,?_,?_,?_,?_,?_⟩
 ·intro c o v hc
  have:c≠l:=fun e=>by
   have:=h.cells c o v hc
   rw [e] at this
   simp [Wl,q.cq] at this
  rw [dk this]
  exact h.cells c o v hc
 ·intro c i hc;rw [eo];exact h.owned c i hc
 ·intro i QF hi
  by_cases e:i=id
  ·rw [e,aV] at hi;rcases ho with rfl|⟨rfl,_⟩<;>cases hi
  ·rw [aX e] at hi
   obtain ⟨c,vs2,ty2,k2⟩:=h.box i QF hi
   have:c≠l:=fun ec=>by have h1:=k2.own;rw [ec,q.own] at h1;exact e (Vk h1).symm
   exact ⟨c,vs2,ty2,k2.box,k2.base,k2.own,k2.none,by rw [aO this];exact k2.cq,k2.len,k2.rep,k2.room⟩
 ·intro i ver sz hi
  by_cases e:i=id
  ·rw [e,aV] at hi;rcases ho with rfl|⟨rfl,_⟩<;>cases hi
  ·rw [aX e] at hi
   obtain ⟨a,len,cap,k2⟩:=h.bz i ver sz hi
   refine ⟨a,len,cap,k2.bl,k2.last,?_⟩
   rcases k2.room with r|⟨c,vs2,ty2,fz,ha,r⟩
   ·exact .inl r
   ·have:c≠l:=fun ec=>by have h1:=r.own;rw [ec,q.own] at h1;exact e (Vk h1).symm
    exact .inr ⟨c,vs2,ty2,fz,ha,r.base,r.own,by rw [aO this];exact r.cq,r.fz,r.cap,r.none⟩
 ·intro i F hi
  by_cases e:i=id
  ·rw [e,aV] at hi;rcases ho with rfl|⟨rfl,_⟩<;>cases hi
  ·rw [aX e] at hi
   obtain ⟨c,OI,clock,q2⟩:=h.mp i F hi
   have:c≠l:=fun ec=>by have h1:=q2.own;rw [ec,q.own] at h1;exact e (Vk h1).symm
   exact ⟨c,OI,clock,q2.box,q2.base,q2.own,q2.none,by rw [aO this];exact q2.cq,q2.fits⟩
 ·intro i k2 t2 Ud Ub Ua hi
  by_cases e:i=id
  ·subst e
   rw [aV] at hi
   rcases ho with rfl|⟨rfl,OQ,Us,hr⟩
   ·cases hi
   cases hi
   exact ⟨l,r',q.box,q.base,q.own,dy q.cq,OQ,Us,by rw [hr.1];exact q.tm,by rw [hr.2.1];exact q.ps,by rw [hr.2.2.1];exact q.ag,by rw [hr.2.2.2];exact q.bd⟩
  ·rw [aX e] at hi
   obtain ⟨l2,r2,q2⟩:=h.lp i k2 t2 Ud Ub Ua hi
   have:l2≠l:=fun ec=>by have h1:=q2.own;rw [ec,q.own] at h1;exact e (Vk h1).symm
   exact ⟨l2,r2,q2.bn (.refl _) q2.own (by rw [aO this];exact q2.cq)⟩
 ·intro c hc
  have:c≠l:=fun ec=>by have h1:=(h.dW c hc).2;rw [ec,q.cq] at h1;cases h1
  exact ⟨(h.dW c hc).1,by rw [aO this];exact (h.dW c hc).2⟩
def MM.sv (M:MM) (b:Nat):MM:= { M with dW:=fun c=>M.dW c∧c≠b }
theorem bu.sv {w0:dm} {w:World} {M:MM} {own:Nat→Option Nat} {σ:Nat→Ob} (h:bu w0 M own σ w) {b:Nat} (hb:M.dW b):bu w0 (M.sv b) own σ (bh w b (.deferred none)):=by
 obtain ⟨QI,hblk⟩:=h.dW b hb
 have rb:∀ {d:D} {v:Value},bo M d v→bo (M.sv b) d v:=fun {d v} hr=>hr.Ji
 refine ⟨eD h.below QI _,?_,h.g7,?_,?_,?_,?_,?_,?_⟩
 ·intro c o v hc
  have:c≠b:=fun e=>by
   have:=h.cells c o v hc
   rw [e] at this
   simp [Wl,hblk] at this
  rw [dk this]
  exact h.cells c o v hc
 ·intro c i hc;rw [eo];exact h.owned c i hc
 ·intro i QF hi
  obtain ⟨c,vs2,ty2,k2⟩:=h.box i QF hi
  have:c≠b:=fun ec=>by have h1:=k2.cq;rw [ec,hblk] at h1;cases h1
  exact ⟨c,vs2,ty2,k2.box,k2.base,k2.own,k2.none,by rw [aO this];exact k2.cq,k2.len,fun j d v p q=>rb (k2.rep j d v p q),k2.room⟩
 ·intro i ver sz hi
  obtain ⟨a,len,cap,k2⟩:=h.bz i ver sz hi
  refine ⟨a,len,cap,k2.bl,k2.last,?_⟩
  rcases k2.room with r|⟨c,vs2,ty2,fz,ha,r⟩
  ·exact .inl r
  ·have:c≠b:=fun ec=>by have h1:=r.cq;rw [ec,hblk] at h1;cases h1
   exact .inr ⟨c,vs2,ty2,fz,ha,r.base,r.own,by rw [aO this];exact r.cq,r.fz,r.cap,r.none⟩
 ·intro i F hi
  obtain ⟨c,OI,clock,q2⟩:=h.mp i F hi
  have:c≠b:=fun ec=>by have h1:=q2.cq;rw [ec,hblk] at h1;cases h1
  exact ⟨c,OI,clock,q2.box,q2.base,q2.own,q2.none,by rw [aO this];exact q2.cq,q2.fits⟩
 ·intro i k2 t2 Ud Ub Ua hi
  obtain ⟨l2,r2,q2⟩:=h.lp i k2 t2 Ud Ub Ua hi
  have:l2≠b:=fun ec=>by have h1:=q2.cq;rw [ec,hblk] at h1;cases h1
  exact ⟨l2,r2,q2.box,q2.base,q2.own,by rw [aO this];exact q2.cq,q2.st,q2.pd,⟨q2.tm.1,fun i d v p q=>rb (q2.tm.2 i d v p q)⟩,q2.ps,q2.ag,q2.bd⟩
 ·rintro c ⟨hc,O0⟩
  exact ⟨(h.dW c hc).1,by rw [aO O0];exact (h.dW c hc).2⟩
def J8 (P:Program) (f:FuncId):Prop:= ∃fn c,P.funcs[f]? =some fn∧fn.body=some c∧(fn.name== "runtime.NumGoroutine")=false
def ik (B:Nat) (w:World) (C:Nat→Nat→Option Value) (sz:Nat) (a:Option Addr) (len cap:Nat):Prop:=
  cap=len∨∃b vs ty fz,a=some ⟨b,0,none⟩∧B≤b∧w.heap[b]? =some (.cells vs ty fz)∧ka fz vs.size∧(cap*sz≤vs.size∧cap≤9223372036854775807)∧∀o,len*sz≤o→C b o=none
def za (B:Nat) (w:World) (C:Nat→Nat→Option Value) (d:D) (v:Value):Prop:=
  (∀sz O1 xs,d= .aj (.fresh sz) O1 xs→∃a len cap,v= .slice a len cap∧O1=sz∧ik B w C sz a len cap)∧
  ∀ds vs,d= .aM ds→v= .tuple vs→∀(i:Nat) (sz O1:Nat) (xs:List D),ds[i]? =some (.aj (.fresh sz) O1 xs)→∃a len cap,vs[i]? =some (.slice a len cap)∧O1=sz∧ik B w C sz a len cap
structure aZ (P:Program) (f:FuncId) (args:List D) (d:D):Prop where
  Cr:J8 P f
  run:∀(w:World) (C:Nat→Nat→Option Value) (vs:Array Value),(∀b o v,C b o=some v→w.cell? ⟨b,o,none⟩=some v)→bT (ep C) args vs→
    Calls P f vs w fun e w'=> ∃v C',e= .returned v∧Ext (ep C) w (ep C') w'∧bo (ep C') d v∧za w.heap.size w' C' d v
def ez:WO→WO→Bool
  | .i8,.i8| .i16,.i16| .i32,.i32| .i64,.i64| .u8,.u8| .u16,.u16| .u32,.u32| .u64,.u64=>true
  |_,_=>false
def LK.fits:LK→D→Bool
  | .bool,.bool _=>true
  | .int k,.int k' _=>ez k k'
  | .str,.str _=>true
  |_,_=>false
def fm:List LK→List D→Bool
  | [],[]=>true
  |k::ks,d::ds=>k.fits d&&fm ks ds
  |_,_=>false
def ak:D→D→Bool
  | .bool a,.bool b=>a==b
  | .int _ a,.int _ b=>a==b
  | .str a,.str b=>a.toList==b.toList
  |_,_=>false
def ae:List D→List D→Bool
  | [],[]=>true
  |a::x,b::y=>ak a b&&ae x y
  |_,_=>false
def jQ:Value→Value→Bool
  | .bool a,.bool b=>a==b
  | .int _ a,.int _ b=>a==b
  | .string a,.string b=>a.toList==b.toList
  |_,_=>false
def cj:List Value→List Value→Bool
  | [],[]=>true
  |a::x,b::y=>jQ a b&&cj x y
  |_,_=>false
def kA (x:List Value):List MapEntry→Nat→Option (Nat×Value)
  | [],_=>none
  |e::es,i=>match e.key with
    | .agg y=>match cj x y.toList with|true=>some (i,e.val)|false=>kA x es (i+1)
    |_=>none
def lA:List LK→Bool
  | []=>true
  | .str::_=>false
  |_::r=>lA r
structure ia (P:Program) (t:TypeId) (ks:List LK):Prop where
  vx:lA ks=true
  check:∀(w:World) (em:Bool) (xs:Array Value),cC ks xs.toList→(Instr.checkKey em 10000 t (.agg xs)).run P w= .ok () w
  find:∀(w:World) (x:Array Value) (l:List MapEntry),cC ks x.toList→(∀e∈l,∃y:Array Value,e.key= .agg y∧cC ks y.toList)→(Instr.findKey t (.agg x) l).run P w= .ok (kA x.toList l 0) w
structure gF (P:Program) (t:TypeId) (ks:List LK):Prop where
  plain:P.eqGuardType P.depth t=false
  eq:∀(xs ys:Array Value) (w:World),cC ks xs.toList→cC ks ys.toList→(Op.equalIn 10000 t (.agg xs) (.agg ys)).run P w= .ok (cj xs.toList ys.toList) w
inductive Ex where
  |norm
  |exit (id:Nat)
  |ret
def Ex.is:Ex→Exit→Prop
  | .norm,.normal=>True
  | .exit i,.exit j=>i=j
  | .ret,.ret=>True
  |_,_=>False
def bq (s:List Ob):Nat→Ob:=fun i=>s.getD i .dead
def MM.upto (M:MM) (n:Nat):Prop:=(∀id,n≤id→M.box id=none)∧∀id v,n≤id→M.bl id v=none
def FW (r:Option Nat):Fence:= { Fence.wide with round:=r }
def fI (K:Nat→Prop) (M:MM) (ds:List Deferred):Prop:=(∀b,K b→M.dW b)∧∃bs:List Nat,ds=bs.map (fun b=> { target:= .collected b,args:= #[] })∧bs.Nodup∧∀b∈bs,M.dW b∧¬K b
theorem fI.mono {K:Nat→Prop} {M M':MM} {ds:List Deferred} (h:fI K M ds) (le:∀b,M.dW b→M'.dW b):fI K M' ds:=
 let ⟨h0,bs,h1,h2,h3⟩:=h
 ⟨fun b k=>le b (h0 b k),bs,h1,h2,fun b hb=>⟨le b (h3 b hb).1,(h3 b hb).2⟩⟩
structure bc (P:Program) (rd:Bool) (c:Code) (t:List D) (s:List Ob) (ex:Ex) (t':List D) (s':List Ob):Prop where
  run:∀(r:Option Nat),(rd=false→r=none)→∀(K:Nat→Prop) (w0:dm) (M:MM) (own:Nat→Option Nat) (w:World) (a:Act),bu w0 M own (bq s) w→M.upto s.length→bT M t a.tmps→fI K M a.defers→
    c.wpIn (FW r) 0 P (fun e a' w'=>ex.is e∧∃M' OH,bu w0 M' OH (bq s') w'∧M'.upto s'.length∧M.Le M'∧bT M' t' a'.tmps∧fI K M' a'.defers) a w
  len:s.length≤s'.length
abbrev jW (P:Program):=bc P true
theorem bc.any {P:Program} {c:Code} {t:List D} {s:List Ob} {ex:Ex} {t':List D} {s':List Ob} (h:jW P c t s ex t' s') (rd:Bool):bc P rd c t s ex t' s':=
 ⟨fun r _=>h.run r (fun e=>by cases e),h.len⟩
def MM.cut (M:MM) (n:Nat):MM:=⟨M.cell,fun i=>if i<n then M.box i else none,fun i v=>if i<n then M.bl i v else none,M.dW⟩
structure aU (P:Program) (n0:Nat) (c:Code) (t:List D) (s:List Ob) (ex:Ex) (t':List D) (s':List Ob):Prop where
  run:∀(r:Option Nat) (K:Nat→Prop) (w0:dm) (M:MM) (own:Nat→Option Nat) (w:World) (a:Act),bu w0 M own (bq s) w→M.upto s.length→bT M t a.tmps→fI K M a.defers→
    c.wpIn (FW r) 0 P (fun e a' w'=>ex.is e∧∃M' OH,bu w0 M' OH (bq s') w'∧M'.upto s'.length∧(M.cut n0).Le M'∧bT M' t' a'.tmps∧fI K M' a'.defers) a w
  len:n0≤s'.length
structure HS where
  bn:List Nat
  Hq:List Nat
  ll:List (Nat×Nat)
def dR:List (Int×D)→Int→Option D
  | [],_=>none
  |(a,d)::r,n=>match n==a with|true=>some d|false=>dR r n
def fq:List (Int×D)→Int→D→List (Int×D)
  | [],n,v=> [(n,v)]
  |(a,d)::r,n,v=>match n==a with|true=>(n,v)::r|false=>(a,d)::fq r n v
def hB:List (List D×D)→List D→Option D
  | [],_=>none
  |(a,d)::r,n=>match ae n a with|true=>some d|false=>hB r n
def gw:List (List D×D)→List D→D→List (List D×D)
  | [],n,v=> [(n,v)]
  |(a,d)::r,n,v=>match ae n a with|true=>(n,v)::r|false=>(a,d)::gw r n v
def pO:List (Int×D)→Int→Nat
  | [],_=>0
  |(a,_)::r,n=>match n==a with|true=>0|false=>pO r n+1
def pN:List (List D×D)→List D→Nat
  | [],_=>0
  |(a,_)::r,n=>match ae n a with|true=>0|false=>pN r n+1
def wV {α:Type} :List (α×D)→Nat→D→List (α×D)
  | [],_,_=> []
  |(a,_)::r,0,v=>(a,v)::r
  |e::r,i+1,v=>e::wV r i v
def LK.same:LK→LK→Bool
  | .bool,.bool=>true
  | .int k,.int k'=>ez k k'
  | .str,.str=>true
  |_,_=>false
def ko:List LK→List LK→Bool
  | [],[]=>true
  |a::x,b::y=>a.same b&&ko x y
  |_,_=>false
structure cO (P:Program) (f:FuncId) (args:List D) (s:List Ob) (d:D) (s':List Ob):Prop where
  Cr:J8 P f
  len:s.length≤s'.length
  run:∀(w0:dm) (M:MM) (own:Nat→Option Nat) (w:World) (vs:Array Value),bu w0 M own (bq s) w→M.upto s.length→bT M args vs→
    Calls P f vs w fun e w'=> ∃v M' OH,e= .returned v∧bu w0 M' OH (bq s') w'∧M'.upto s'.length∧M.Le M'∧bo M' d v
def eU:List D→Option (List D)
  | []=>some []
  |d::r=>match d.cells,eU r with
    |some c,some cs=>some (c++cs)
    |_,_=>none
inductive Ev (P:Program) where
  |ret (g:FuncId) (as:List D) (d:D) (h:aZ P g as d)
  |inl
  |kB (g:FuncId) (ar:List D) (s:List Ob) (d:D) (s':List Ob) (h:cO P g ar s d s')
  |cH (q v:Bool) (h:q=v)
  |len (n m:Nat) (h:n≤m)
  |get (l:List D) (i:Nat) (d:D) (h:l[i]? =some d)
  |bV (l:List D) (i n:Nat) (l':List D) (h:(l.drop i).take n=l'∧i+n≤l.length)
  |fK (l:List D) (i:Nat) (xs l':List D) (h:l.take i++(xs++l.drop (i+xs.length))=l'∧i+xs.length≤l.length)
  |flat (t:TypeId) (ks:List LK) (h:gF P t ks)
  |bn (l:List (Nat×Ob))
  |GV (cs:List (Nat×Nat×D)) (l:List (Nat×Ob))
  |e9 (es:List (Int×D)) (n:Int) (r:Option D) (h:dR es n=r)
  |ot (t:TypeId) (ks:List LK) (h:ia P t ks)
  |rf (es:List (List D×D)) (n:List D) (r:Option D) (h:hB es n=r)
  |code (c:Code) (t:List D) (s:List Ob) (ex:Ex) (t':List D) (s':List Ob) (h:jW P c t s ex t' s')
  |go (n:Nat)
  |LO (bn:List Nat)
  |raw
  |cl (cs:List D) (h:∀c∈cs,c.clean=true)
  |Ls (ys nc:List D) (h:eU ys=some nc)
  |head (sp:HS) (n0:Nat) (c:Code) (t:List D) (s:List Ob) (ex:Ex) (t':List D) (s':List Ob) (h:aU P n0 c t s ex t' s')
  |cq (sp:HS) (n0:Nat) (c:Code) (t:List D) (s:List Ob) (ex:Ex) (t':List D) (s':List Ob) (h:aU P n0 c t s ex t' s')
structure Z (P:Program) where
  o:List (Ev P)
  c:Prop
section
variable {ρ:Type} {P:Program}
def fU (b:Bool) (k:Option ρ):Option ρ:=match b with|true=>k|false=>none
def ask (z:Z P) (b:Bool) (k:Z P→Option ρ):Option ρ:=
  match z.o with
  | .cH q true _::r=>k ⟨r,(q=b)∧z.c⟩
  |_=>none
def jS (z:Z P) (n:Nat) (m:Nat) (k:Z P→Option ρ):Option ρ:=
  match z.o with
  | .len n' m' _::r=>k ⟨r,(n'=n∧m'=m)∧z.c⟩
  |_=>none
def branch (z:Z P) (b:Bool) (k1 k2:Z P→Option ρ):Option ρ:=
  match z.o with
  | .cH q v _::r=>match v with
    |true=>k1 ⟨r,(q=b)∧z.c⟩
    |false=>k2 ⟨r,(q=b)∧z.c⟩
  |_=>none
def kC (z:Z P) (still:Bool) (b:Bool) (k:Z P→Option ρ):Option ρ:=
  match still with
  |true=>fU b (k z)
  |false=>ask z b k
def pick (z:Z P) (l:List D) (i:Nat) (k:Z P→D→Option ρ):Option ρ:=
  match z.o with
  | .get l' i' d _::r=>k ⟨r,(l'=l∧i'=i)∧z.c⟩ d
  |_=>match l[i]? with
    |some d=>k z d
    |none=>none
def z8 (z:Z P) (ys:List D) (k:Z P→List D→Option ρ):Option ρ:=
  match z.o with
  | .Ls S7 nc _::r=>k ⟨r,(S7=ys)∧z.c⟩ nc
  |_=>match eU ys with
    |some nc=>k z nc
    |none=>none
def D7 (z:Z P) (ys:List D) (k:Z P→List D→Option ρ):Option ρ:=
  match z.o with
  | .Ls S7 nc _::r=>ask ⟨r,(S7=ys)∧z.c⟩ (Wq 0 ys.length) fun z=>k z nc
  |_=>match eU ys with
    |some nc=>fU (!ys.isEmpty) (k z nc)
    |none=>none
def zS (z:Z P) (es:List (Int×D)) (n:Int) (k:Z P→Option D→Option ρ):Option ρ:=
  match z.o with
  | .e9 QL n' r _::rest=>k ⟨rest,(QL=es∧n'=n)∧z.c⟩ r
  |_=>none
def sV (z:Z P) (es:List (List D×D)) (n:List D) (k:Z P→Option D→Option ρ):Option ρ:=
  match z.o with
  | .rf QL n' r _::rest=>k ⟨rest,(QL=es∧n'=n)∧z.c⟩ r
  |_=>none
def qX (z:Z P) (t:TypeId) (k:Z P→List LK→Option ρ):Option ρ:=
  match z.o with
  | .ot t' ks _::r=>fU (VM t' t) (k ⟨r,z.c⟩ ks)
  |_=>none
def qQ:Value→Option D
  | .bool b=>some (.bool b)
  | .int k n=>some (.int k n)
  | .string s=>some (.str s)
  | .pointer none=>some .fL
  | .slice none 0 0=>some (.aj .tight 0 [])
  | .nilFunc=>some .av
  |_=>none
def gz:List Value→Option (List D)
  | []=>some []
  |v::r=>match qQ v,gz r with
    |some d,some l=>some (d::l)
    |_,_=>none
def ua:List Value→List D
  | []=> []
  |v::r=>(match qQ v with|some d=>d|none=> .undef)::ua r
def mb:Value→D
  | .agg cs=> .agg (ua cs.toList)
  |v=>match qQ v with|some d=>d|none=> .undef
def bB (t:List D):Operand→D
  | .tmp i=>t.getD i .undef
  | .const v=>mb v
  | .global _=> .undef
  | .func f=> .fn (.func f) [] []
def isConst:Operand→Bool
  | .const _=>true
  |_=>false
def cF:TypeDesc→Bool
  | .struct _=>true
  | .array _ _=>true
  |_=>false
def known (P:Program) (t:TypeId):Bool:=(P.info? t).isSome
def gg (P:Program) (t:TypeId):Option D:=
  match P.info? t with
  |some i=>match i.zero with|some v=>some (mb v)|none=>none
  |none=>none
def Cs (P:Program) (t:TypeId):Bool:=
  match P.info? t with
  |some i=>match i.zero with|some v=>VM v.cells.size 1|none=>false
  |none=>false
def ej (P:Program) (t:TypeId):Bool:=
  match P.info? t with
  |some i=>match i.zero with|some v=>VM v.cells.size i.size|none=>false
  |none=>false
def qU (P:Program) (z:Z P) (dyn:Bool) (t:TypeId) (cs:List D) (off:Nat) (k:Z P→D→Option ρ):Option ρ:=
  match P.underlying t with
  |none=>none
  |some d=>match cF d with
    |true=>fU (known P t) (match dyn with
      |false=>fU (Wr (off+P.cellsOf t) cs.length) (k z (.agg ((cs.drop off).take (P.cellsOf t))))
      |true=>match z.o with
        | .bV l i n l' _::r=>k ⟨r,(l=cs∧i=off∧n=P.cellsOf t)∧z.c⟩ (.agg l')
        |_=>none)
    |false=>match dyn with
      |false=>match cs[off]? with|some x=>k z x|none=>none
      |true=>pick z cs off k
def gC (cs:List D) (off:Nat) (xs:List D):List D:=cs.take off++(xs++cs.drop (off+xs.length))
def sK (x:D) (k:D→Option ρ):Option ρ:=match x.plain with|true=>k x|false=>fU x.clean (k x.aJ)
def xx (x:D) (k:D→Option ρ):Option ρ:=match x with
  | .ptr _ _ off=>k (.cT false (.agg []) off)
  | .cT q y off=>k (.cT q y off)
  |x=>sK x k
def oB:List D→(List D→Option ρ)→Option ρ
  | [],k=>k []
  |x::r,k=>xx x fun y=>oB r fun l=>k (y::l)
def rE (place:Nat→Option (Nat×Nat)) (cells:List D):List (Nat×D)→Option (List D)
  | []=>some cells
  |(i,v)::rest=>match place i,v.cells with
    |some (off,size),some vc=>match VM vc.length size&&Wr (off+size) cells.length with
      |true=>rE place (gC cells off vc) rest
      |false=>none
    |_,_=>none
def yM (P:Program) (t:TypeId) (parts:List (Nat×D)):Option D:=
  match gg P t with
  |none=>none
  |some z=>match z.cells with
    |none=>none
    |some zero=>match P.underlying t with
      |some (.struct fields)=>match fields.toList.all fun f=>known P f.type with
        |true=>match rE (fun i=>((fields[i]?).map fun f=>(f.offset,P.cellsOf f.type))) zero parts with
          |some cs=>some (.agg cs)
          |none=>none
        |false=>none
      |some (.array _ elem)=>match known P elem with
        |true=>match rE (fun i=>some (i*P.cellsOf elem,P.cellsOf elem)) zero parts with
          |some cs=>some (.agg cs)
          |none=>none
        |false=>none
      |_=>none
def ki (size:Nat) (xs:List D):List (Nat×D)→(List D→Option ρ)→Option ρ
  | [],k=>k xs
  |(i,v)::rest,k=>sK v fun v'=>match v'.cells with
    |some vc=>fU (VM vc.length size&&Wq i xs.length&&vc.all storable) (ki size (xs.set i v') rest k)
    |none=>none
def xY (z:Z P) (still:Bool) (op:BinOp) (k:WO) (a b:Int) (K:Z P→D→Option ρ):Option ρ:=
  match op with
  | .add=>K z (.int k (k.wrap (a+b)))
  | .sub=>K z (.int k (k.wrap (a - b)))
  | .mul=>K z (.int k (k.wrap (a*b)))
  | .quo=>kC z still (decide (b≠0)) fun z=>K z (.int k (k.wrap (a.tdiv b)))
  | .rem=>kC z still (decide (b≠0)) fun z=>K z (.int k (a.tmod b))
  | .and=>K z (.int k (k.wrap (Vh k.bits a&&&Vh k.bits b).toNat))
  | .or=>K z (.int k (k.wrap (Vh k.bits a|||Vh k.bits b).toNat))
  | .xor=>K z (.int k (k.wrap (Vh k.bits a^^^Vh k.bits b).toNat))
  | .andNot=>K z (.int k (k.wrap (Vh k.bits a&&& ~~~Vh k.bits b).toNat))
  | .eql=>K z (.bool (a==b))
  | .neq=>K z (.bool (a !=b))
  | .lss=>K z (.bool (decide (a<b)))
  | .leq=>K z (.bool (decide (a≤b)))
  | .gtr=>K z (.bool (decide (a>b)))
  | .geq=>K z (.bool (decide (a≥b)))
  |_=>none
def Ko (P:Program) (z:Z P) (t:TypeId) (x y:D) (K:Z P→Bool→Option ρ):Option ρ:=
  match x,y with
  | .bool a,.bool b=>match P.underlying t with|some .bool=>K z (a==b)|_=>none
  | .agg xs,.agg ys=>match z.o with
    | .flat t' ks _::r=>fU (VM t' t&&(fm ks xs&&fm ks ys)) (K ⟨r,z.c⟩ (ae xs ys))
    |_=>none
  | .av,.av=>match P.underlying t with|some (.func _ _ _)=>K z true|_=>none
  | .av,.fn _ _ _=>match P.underlying t with|some (.func _ _ _)=>K z false|_=>none
  | .fn _ _ _,.av=>match P.underlying t with|some (.func _ _ _)=>K z false|_=>none
  | .fL,.fL=>match P.underlying t with|some (.pointer _)=>K z true|_=>none
  | .ptr _ _ _,.fL=>match P.underlying t with|some (.pointer _)=>K z false|_=>none
  | .cT _ _ _,.fL=>match P.underlying t with|some (.pointer _)=>K z false|_=>none
  |_,_=>none
def Ie (P:Program) (z:Z P) (still:Bool) (op:BinOp) (t:TypeId) (x y:D) (K:Z P→D→Option ρ):Option ρ:=
  match x,y with
  | .int k a,.int k' b=>match op with
    | .shl=>kC z still (decide (0≤b)) fun z=>K z (.int k (k.wrap (a*2^(min b.toNat k.bits))))
    | .shr=>kC z still (decide (0≤b)) fun z=>K z (.int k (a.fdiv (2^(min b.toNat k.bits))))
    |op=>fU (ez k k') (xY z still op k a b K)
  | .str a,.str b=>match op with
    | .eql=>K z (.bool (a.toList==b.toList))
    | .neq=>K z (.bool (!(a.toList==b.toList)))
    |_=>none
  |x,y=>match op with
    | .eql=>Ko P z t x y fun z b=>K z (.bool b)
    | .neq=>Ko P z t x y fun z b=>K z (.bool (!b))
    |_=>none
def Kr (op:UnOp) (x:D) (K:D→Option ρ):Option ρ:=
  match op,x with
  | .neg,.int k n=>K (.int k (k.wrap (0 - n)))
  | .xor,.int k n=>K (.int k (k.wrap (Vh k.bits (if k.signed then -1 else k.max)^^^Vh k.bits n).toNat))
  | .not,.bool b=>K (.bool !b)
  |_,_=>none
def isByte:D→Bool
  | .int .u8 _=>true
  |_=>false
def wA (b:UInt8):D:= .int .u8 b.toNat
def byteOf:D→UInt8
  | .int _ n=>UInt8.ofNat n.toNat
  |_=>0
def ja (s:ByteArray):List D:=s.data.toList.map wA
def Cz (xs:List D):ByteArray:=⟨(xs.map byteOf).toArray⟩
inductive gZ where
  |pure (d:D)
  |read (id:Nat) (o:Ob) (d:D)
  |gm (id j:Nat) (d:D)
  |dE (id:Nat) (o o':Ob) (d:D)
  |new (o:Ob) (mk:Nat→D)
  |all (s:List Ob) (d:D)
def Ei (P:Program) (z:Z P) (src dst:TypeId) (x:D) (K:Z P→gZ→Option ρ):Option ρ:=
  match P.underlying src,P.underlying dst,x with
  |some _,some (.int k),.int _ n=>K z (.pure (.int k (k.wrap n)))
  |some .string,some .string,.str s=>K z (.pure (.str s))
  |some .string,some (.slice e),.str s=>match P.underlying e with
    |some (.int .u8)=>fU (Wr s.size 1099511627776) (K z (.new (.bz 0 1) fun id=> .aj (.tok id 0) 1 (ja s)))
    |_=>none
  |some (.slice e),some .string,.aj _ _ xs=>match P.underlying e with
    |some (.int .u8)=>ask z (xs.all isByte) fun z=>K z (.pure (.str (Cz xs)))
    |_=>none
  |_,_,_=>none
def idx (x:D) (K:Int→Option ρ):Option ρ:=match x with| .int _ n=>K n|_=>none
def gn (t:List D) (o:Option Operand) (K:Option Int→Option ρ):Option ρ:=
  match o with
  |none=>K none
  |some x=>idx (bB t x) fun n=>K (some n)
def wU (z:Z P) (o:j9) (sz:Nat) (xs:List D) (lo hi mx:Option Int) (K:Z P→D→Option ρ):Option ρ:=
  match lo,hi,mx with
  |none,none,none=>K z (.aj o.aJ sz xs)
  |some l,none,none=>ask z (decide (0≤l∧l≤xs.length)) fun z=>K z (.aj o.aJ sz (xs.drop l.toNat))
  |none,some h,none=>ask z (decide (0≤h∧h≤xs.length)) fun z=>K z (.aj .no sz (xs.take h.toNat))
  |some l,some h,none=>ask z (decide (0≤l∧l≤h∧h≤xs.length)) fun z=>K z (.aj .no sz ((xs.take h.toNat).drop l.toNat))
  |none,some h,some m=>ask z (decide (0≤h∧h≤xs.length∧m=h)) fun z=>K z (.aj .tight sz (xs.take h.toNat))
  |some l,some h,some m=>ask z (decide (0≤l∧l≤h∧h≤xs.length∧m=h)) fun z=>K z (.aj .tight sz ((xs.take h.toNat).drop l.toNat))
  |_,_,_=>none
def Cy (z:Z P) (id off sz n:Nat) (cp:Option Nat) (lo hi mx:Option Int) (K:Z P→D→Option ρ):Option ρ:=
  match lo,hi,mx with
  |none,none,none=>K z (.sub id off sz n cp)
  |some l,none,none=>ask z (decide (0≤l∧l≤n)) fun z=>K z (.sub id (off+l.toNat*sz) sz (n - l.toNat) (cp.map (· - l.toNat)))
  |none,some h,none=>ask z (decide (0≤h∧h≤n)) fun z=>K z (.sub id off sz h.toNat cp)
  |some l,some h,none=>ask z (decide (0≤l∧l≤h∧h≤n)) fun z=>K z (.sub id (off+l.toNat*sz) sz (h.toNat - l.toNat) (cp.map (· - l.toNat)))
  |none,some h,some m=>ask z (decide (0≤h∧h≤m∧m≤n)) fun z=>K z (.sub id off sz h.toNat (some m.toNat))
  |some l,some h,some m=>ask z (decide (0≤l∧l≤h∧h≤m∧m≤n)) fun z=>K z (.sub id (off+l.toNat*sz) sz (h.toNat - l.toNat) (some (m.toNat - l.toNat)))
  |_,_,_=>none
def pM (P:Program) (z:Z P) (still:Bool) (t:TypeId) (x ix:D) (K:Z P→D→Option ρ):Option ρ:=
  match ix with
  | .int _ i=>match P.underlying t,x with
    |some (.array len elem),.ptr dyn id off=>fU (known P elem) (kC z still (decide (0≤i∧i<len)) fun z=>K z (.ptr (dyn|| !still) id (off+i.toNat*P.cellsOf elem)))
    |some (.array len elem),.cT dyn y off=>fU (known P elem) (kC z still (decide (0≤i∧i<len)) fun z=>K z (.cT (dyn|| !still) y (off+i.toNat*P.cellsOf elem)))
    |some (.slice elem),.aj _ sz xs=>fU (known P elem&&VM (P.cellsOf elem) sz) (kC z still (decide (0≤i)) fun z=>pick z xs i.toNat fun z y=>K z (.cT false y 0))
    |some (.slice elem),.bR id sz n=>fU (known P elem&&VM (P.cellsOf elem) sz) (ask z (decide (0≤i∧i<n)) fun z=>K z (.ptr true id (i.toNat*sz)))
    |some (.slice elem),.sub id off sz n _=>fU (known P elem&&VM (P.cellsOf elem) sz) (ask z (decide (0≤i∧i<n)) fun z=>K z (.ptr true id (off+i.toNat*sz)))
    |_,_=>none
  |_=>none
def DS (P:Program) (z:Z P) (still:Bool) (t:TypeId) (x ix:D) (K:Z P→D→Option ρ):Option ρ:=
  match ix with
  | .int _ i=>match P.underlying t,x with
    |some (.array len elem),.agg cs=>fU (known P elem) (kC z still (decide (0≤i∧i<len)) fun z=>qU P z (!still) elem cs (i.toNat*P.cellsOf elem) K)
    |some .string,.str s=>kC z still (decide (0≤i)) fun z=>pick z (ja s) i.toNat K
    |_,_=>none
  |_=>none
def GG (P:Program) (t:TypeId):Bool:=match P.underlying t with
  |some e=> !cF e
  |none=>false
def GU (P:Program) (z:Z P) (t:TypeId) (x:D) (s:List Ob) (K:Z P→gZ→Option ρ):Option ρ:=
  match x with
  | .ptr dyn id off=>match s.getD id .dead with
    | .box cs=>qU P z dyn t cs off fun z d=>K z (match dyn,GG P t with
      |false,true=> .gm id off d
      |_,_=> .read id (.box cs) d)
    |_=>none
  | .cT dyn y off=>match y.cells with
    |some cs=>qU P z dyn t cs off fun z d=>K z (.pure d)
    |none=>none
  |_=>none
def CA (P:Program) (z:Z P) (t:TypeId) (x v:D) (s:List Ob) (K:Z P→gZ→Option ρ):Option ρ:=
  match x with
  | .ptr dyn id off=>match s.getD id .dead with
    | .box cs=>match v.cells with
      |some vc=>fU (known P t&&VM vc.length (P.cellsOf t)&&vc.all storable) (match dyn with
        |false=>fU (Wr (off+vc.length) cs.length) (K z (.dE id (.box cs) (.box (gC cs off vc)) .undef))
        |true=>match z.o with
          | .fK l i xs l' _::r=>K ⟨r,(l=cs∧i=off∧xs=vc)∧z.c⟩ (.dE id (.box cs) (.box l') .undef)
          |_=>none)
      |none=>none
    |_=>none
  |_=>none
def p5 (P:Program) (s:TypeId) (x:D) (f:Nat) (K:D→Option ρ):Option ρ:=
  match P.underlying s with
  |some (.struct fields)=>match fields[f]? with
    |some fd=>fU (known P fd.type&&Wq 0 (P.cellsOf fd.type)) (match x with
      | .ptr dyn id off=>K (.ptr dyn id (off+fd.offset))
      | .cT dyn y off=>K (.cT dyn y (off+fd.offset))
      |_=>none)
    |none=>none
  |_=>none
def cy:Nat:=2147483648
def oq (sz:Nat) (xs:List D) (size:Nat):Bool:=VM sz size||xs.isEmpty
def zh (P:Program) (z:Z P) (elem:TypeId) (id off sz n:Nat) (st:List Ob) (K:Z P→gZ→Option ρ):Option ρ:=
  match st.getD id .dead with
  | .box cs=>fU (ej P elem&&VM sz (P.cellsOf elem)&&Wr (P.bytesOf elem) 65536)
    (jS z n cy fun z=>match z.o with
      | .go _::r=>match VM sz 1 with
        |true=>(match r with
          | .bV l i k nc _::r=>ask ⟨r,(l=cs∧i=off∧k=n*sz)∧z.c⟩ (nc.all isByte) fun z=>K z (.all (st++ [.bz 0 sz]) (.aj (.tok st.length 0) sz nc))
          |_=>none)
        |false=>none
      |_=>branch z (Wq 0 n) (fun z=>match z.o with
        | .bV l i k nc _::r=>K ⟨r,(l=cs∧i=off∧k=n*sz)∧z.c⟩ (.all (st++ [.box nc]) (.bR st.length sz n))
        |_=>none) (fun z=>K z (.pure (.aj .tight sz []))))
  |_=>none
def DP (P:Program) (z:Z P) (elem:TypeId) (id off sz n c RI PN PC n2:Nat) (st:List Ob) (K:Z P→gZ→Option ρ):Option ρ:=
  match st.getD id .dead with
  | .box cs=>fU (ej P elem&&VM id RI&&VM off 0&&VM sz (P.cellsOf elem)&&VM PC (P.cellsOf elem)&&Wr (P.bytesOf elem) 65536)
    (jS z (n+n2) cy fun z=>ask z (VM c n) fun z=>branch z (Wq 0 (n+n2)) (fun z=>match z.o with
      | .bV l i k nc _:: .bV l2 i2 k2 Re _::r=>K ⟨r,(l2=cs∧i2=PN∧k2=n2*sz)∧((l=cs∧i=0∧k=n*sz)∧z.c)⟩ (.all (st.set id .dead++ [.box (nc++Re)]) (.bR st.length sz (n+n2)))
      |_=>none) (fun z=>K z (.pure (.aj .tight sz []))))
  |_=>none
def GY (P:Program) (z:Z P) (elem:TypeId) (id sz n RI PN PC n2:Nat) (st:List Ob) (K:Z P→gZ→Option ρ):Option ρ:=
  match st.getD id .dead,st.getD RI .dead with
  | .box cs,.box QF=>fU (ej P elem&&VM sz (P.cellsOf elem)&&VM PC (P.cellsOf elem)&&Wr (P.bytesOf elem) 65536)
    (jS z (n+n2) cy fun z=>ask z (VM cs.length (n*sz)) fun z=>match z.o with
      | .bV l i k nc _::r=>ask ⟨r,(l=QF∧i=PN∧k=n2*PC)∧z.c⟩ (nc.all storable) fun z=>K z (.all (st.set id .dead++ [.box (cs++nc)]) (.bR st.length sz (n+n2)))
      |_=>none)
  |_,_=>none
def tW (P:Program) (z:Z P) (ts:Array TypeId) (s x:D) (st:List Ob) (K:Z P→gZ→Option ρ):Option ρ:=
  match ts.toList with
  |ty::xt::_=>match P.underlying ty,P.underlying xt with
    |some (.slice elem),some (.slice _)=>match s,x with
      | .aj o sz xs,.aj _ O1 ys=>match z.o with
        | .go 0::r=>match o,xs with
          | .tight,[]=>fU (ej P elem&&oq O1 ys (P.cellsOf elem)&&Wr (P.bytesOf elem) 65536)
            (jS ⟨r,z.c⟩ ys.length cy fun z=>D7 z ys fun z nc=>K z (.new (.box nc) fun id=> .bR id (P.cellsOf elem) ys.length))
          |_,_=>none
        | .go (_+1)::r=>match ys with
          | []=>fU (ej P elem&&oq sz xs (P.cellsOf elem)&&Wr (P.bytesOf elem) 65536)
            (jS ⟨r,z.c⟩ xs.length cy fun z=>K z (.pure (.aj o sz xs)))
          |_=>none
        |_=>fU (known P elem&&ej P elem&&oq sz xs (P.cellsOf elem)&&oq O1 ys (P.cellsOf elem)&&Wr (P.bytesOf elem) 65536)
          (jS z (xs.length+ys.length) cy fun z=>match o with
            | .tight=>K z (.new (.bz 0 (P.cellsOf elem)) fun id=> .aj (.tok id 0) (P.cellsOf elem) (xs++ys))
            | .tok t v=>match st.getD t .dead with
              | .bz v' PC=>fU (VM v' v&&VM PC (P.cellsOf elem)) (K z (.dE t (.bz v' PC) (.bz (v+1) PC) (.aj (.tok t (v+1)) (P.cellsOf elem) (xs++ys))))
              |_=>none
            |_=>none)
      | .bR id sz n,.aj _ O1 ys=>match st.getD id .dead with
        | .box cs => fU (ej P elem && VM sz (P.cellsOf elem) && oq O1 ys (P.cellsOf elem) && Wr (P.bytesOf elem) 65536)
            (jS z (n+ys.length) cy fun z=>ask z (VM cs.length (n*P.cellsOf elem)) fun z=>z8 z ys fun z nc=>K z (.all (st.set id .dead++ [.box (cs++nc)]) (.bR st.length sz (n+ys.length))))
        |_=>none
      | .bR id sz n,.sub RI PN PC n2 _=>GY P z elem id sz n RI PN PC n2 st K
      | .aj .tight _ [],.bR id sz n=>zh P z elem id 0 sz n st K
      | .aj .tight _ [],.sub id off sz n _=>zh P z elem id off sz n st K
      | .sub id off sz n (some c),.sub RI PN PC n2 _=>DP P z elem id off sz n c RI PN PC n2 st K
      |_,_=>none
    |_,_=>none
  |_=>none
def oJ (z:Z P) (st:List Ob) (id off n size:Nat) (K:Z P→List D→Nat→Option ρ):Option ρ:=
  match st.getD id .dead with
  | .box cs=>match z.o with
    | .bV l i k nc _::r=>K ⟨r,(l=cs∧i=off∧k=n*size)∧z.c⟩ nc n
    |_=>none
  |_=>none
def G9 (z:Z P) (st:List Ob) (x:D) (size:Nat) (K:Z P→List D→Nat→Option ρ):Option ρ:=
  match x with
  | .aj _ sz ys=>fU (oq sz ys size) (z8 z ys fun z nc=>K z nc ys.length)
  | .bR id sz n=>fU (VM sz size) (oJ z st id 0 n size K)
  | .sub id off sz n _=>fU (VM sz size) (oJ z st id off n size K)
  |_=>none
def tG (z:Z P) (st:List Ob) (id off n:Nat) (src:D) (K:Z P→gZ→Option ρ):Option ρ:=
  G9 z st src 1 fun z nc m=>ask z (Wr m n) fun z=>ask z (nc.all isByte) fun z=>match st.getD id .dead with
    | .box cs=>match z.o with
      | .fK l i xs l' _::r=>K ⟨r,(l=cs∧i=off∧xs=nc)∧z.c⟩ (.all (st.set id (.box l')) (.int .i64 m))
      |_=>none
    |_=>none
def Eh (P:Program) (z:Z P) (ts:Array TypeId) (dst src:D) (st:List Ob) (K:Z P→gZ→Option ρ):Option ρ:=
  match ts.toList with
  |ty::_=>match P.underlying ty with
    |some (.slice e)=>fU (known P e&&VM (P.cellsOf e) 1) (match dst with
      | .bR id sz n=>fU (VM sz 1) (tG z st id 0 n src K)
      | .sub id off sz n _=>fU (VM sz 1) (tG z st id off n src K)
      |_=>none)
    |_=>none
  |_=>none
def HJ (P:Program) (t:TypeId) (x:D) (K:D→Option ρ):Option ρ:=
  match P.underlying t,x with
  |some .string,.str s=>K (.int .i64 s.size)
  |some (.array n _),_=>K (.int .i64 n)
  |some (.slice _),.aj _ _ xs=>K (.int .i64 xs.length)
  |some (.slice _),.bR _ _ n=>K (.int .i64 n)
  |some (.slice _),.sub _ _ _ n _=>K (.int .i64 n)
  |_,_=>none
def HE (x y:D) (K:D→Option ρ):Option ρ:=
  match x,y with
  | .int k a,.int _ b=>K (.int k (if b<a then b else a))
  |_,_=>none
def HH (x y:D) (K:D→Option ρ):Option ρ:=
  match x,y with
  | .int k a,.int _ b=>K (.int k (if b>a then b else a))
  |_,_=>none
def gD:D→Bool
  | .int _ _=>true
  | .bool _=>true
  | .str _=>true
  |_=>false
def gH (P:Program) (t:TypeId):Option (WO×TypeId):=match P.underlying t with
  |some (.map kt et)=>match P.underlying kt with
    |some (.int k)=>some (k,et)
    |_=>none
  |_=>none
def gI (P:Program) (t:TypeId):Option (TypeId×TypeId):=match P.underlying t with
  |some (.map kt et)=>some (kt,et)
  |_=>none
def oG (P:Program) (z:Z P) (t:TypeId) (K:Z P→gZ→Option ρ):Option ρ:=
  match gH P t with
  |some (k,_)=>K z (.new (.mp k []) fun id=> .bp id)
  |none=>match gI P t with
    |some (kt,_)=>qX z kt fun z ks=>K z (.new (.mf ks []) fun id=> .bp id)
    |none=>none
def oE (P:Program) (z:Z P) (t:TypeId) (m k v:D) (s:List Ob) (K:Z P→gZ→Option ρ):Option ρ:=
  match m,k with
  | .bp id,.int q n=>match s.getD id .dead,gH P t with
    | .mp q' es,some (q2,_)=>fU (ez q q'&&ez q q2&&gD v) (K z (.dE id (.mp q' es) (.mp q' (fq es n v)) .undef))
    |_,_=>none
  | .bp id,.agg cs=>match s.getD id .dead,gI P t with
    | .mf ks es,some (kt,_)=>qX z kt fun z Q7=>fU (ko Q7 ks&&fm ks cs&&gD v) (K z (.dE id (.mf ks es) (.mf ks (gw es cs v)) .undef))
    |_,_=>none
  |_,_=>none
def sX (P:Program) (z:Z P) (t:TypeId) (m k:D) (s:List Ob) (K:Z P→gZ→Option ρ):Option ρ:=
  match m,k with
  | .bp id,.int q n=>match s.getD id .dead,gH P t with
    | .mp q' es,some (q2,et)=>match gg P et with
      |some zd=>fU (ez q q'&&ez q q2&&gD zd) (zS z es n fun z r=>match r with
        |some d=>K z (.dE id (.mp q' es) (.mp q' es) (.aM [d,.int .i64 (pO es n)]))
        |none=>K z (.dE id (.mp q' es) (.mp q' (fq es n zd)) (.aM [zd,.int .i64 (pO es n)])))
      |none=>none
    |_,_=>none
  | .bp id,.agg cs=>match s.getD id .dead,gI P t with
    | .mf ks es,some (kt,et)=>match gg P et with
      |some zd=>qX z kt fun z Q7=>fU (ko Q7 ks&&fm ks cs&&gD zd) (sV z es cs fun z r=>match r with
        |some d=>K z (.dE id (.mf ks es) (.mf ks es) (.aM [d,.int .i64 (pN es cs)]))
        |none=>K z (.dE id (.mf ks es) (.mf ks (gw es cs zd)) (.aM [zd,.int .i64 (pN es cs)])))
      |none=>none
    |_,_=>none
  |_,_=>none
def nC (P:Program) (z:Z P) (m n v:D) (s:List Ob) (K:Z P→gZ→Option ρ):Option ρ:=
  match m,n with
  | .bp id,.int _ j=>match s.getD id .dead with
    | .mp q es=>fU (gD v) (ask z (decide (0≤j)&&Wq j.toNat es.length) fun z=>K z (.dE id (.mp q es) (.mp q (wV es j.toNat v)) .undef))
    | .mf ks es=>fU (gD v) (ask z (decide (0≤j)&&Wq j.toNat es.length) fun z=>K z (.dE id (.mf ks es) (.mf ks (wV es j.toNat v)) .undef))
    |_=>none
  |_,_=>none
def vI (P:Program) (z:Z P) (t:TypeId) (m k:D) (ok:Bool) (s:List Ob) (K:Z P→gZ→Option ρ):Option ρ:=
  match m,k with
  | .bp id,.int q n=>match s.getD id .dead,gH P t with
    | .mp q' es,some (q2,et)=>match gg P et with
      |some zd=>fU (ez q q'&&ez q q2) (zS z es n fun z r=>match r,ok with
        |some d,true=>K z (.read id (.mp q' es) (.aM [d,.bool true]))
        |some d,false=>K z (.read id (.mp q' es) d)
        |none,true=>K z (.read id (.mp q' es) (.aM [zd,.bool false]))
        |none,false=>K z (.read id (.mp q' es) zd))
      |none=>none
    |_,_=>none
  | .bp id,.agg cs=>match s.getD id .dead,gI P t with
    | .mf ks es,some (kt,et)=>match gg P et with
      |some zd=>qX z kt fun z Q7=>fU (ko Q7 ks&&fm ks cs) (sV z es cs fun z r=>match r,ok with
        |some d,true=>K z (.read id (.mf ks es) (.aM [d,.bool true]))
        |some d,false=>K z (.read id (.mf ks es) d)
        |none,true=>K z (.read id (.mf ks es) (.aM [zd,.bool false]))
        |none,false=>K z (.read id (.mf ks es) zd))
      |none=>none
    |_,_=>none
  |_,_=>none
def sI (n:Nat):List D→List D
  | [d]=>Vc n d
  |zc=>(Vc n zc).flatten
def GS (P:Program) (z:Z P) (t:TypeId) (l c:D) (K:Z P→gZ→Option ρ):Option ρ:=
  match P.underlying t,l,c with
  |some (.slice e),.int _ n,.int _ m=>match gg P e with
    |some zd=>match zd.cells with
      |some zc=>match z.o with
        | .go 5::r=>fU (known P e&&VM zc.length (P.cellsOf e)&&Wq 0 zc.length&&Wr (P.bytesOf e) 65536&&zc.all storable)
          (ask ⟨r,z.c⟩ (decide (0≤n∧n=m∧n≤2147483648)) fun z=>K z (.pure (.aj .tight (P.cellsOf e) (Vc n.toNat zd))))
        |_=>fU (known P e&&VM zc.length (P.cellsOf e)&&Wq 0 zc.length&&Wr (P.bytesOf e) 65536)
          (ask z (decide (0≤n∧n=m∧n≤2147483648)) fun z=>K z (.new (.box (sI n.toNat zc)) fun id=> .bR id (P.cellsOf e) n.toNat))
      |none=>none
    |none=>none
  |_,_,_=>none
def gv (id:Nat):List D→Option (List D×Nat)
  | []=>none
  | .aj (.fresh sz) O1 xs::r=>some (.aj (.tok id 0) O1 xs::r.map D.aJ,sz)
  |d::r=>match gv id r with
    |some (l,sz)=>some (d::l,sz)
    |none=>none
def kD (id:Nat) (d:D):D×Ob:=
  match d with
  | .aj (.fresh sz) O1 xs=>(.aj (.tok id 0) O1 xs,.bz 0 sz)
  | .aM ds=>match gv id ds with
    |some (l,sz)=>(.aM l,.bz 0 sz)
    |none=>(.aM ds,.dead)
  |d=>(d,.dead)
mutual
def force:D→(D→Option ρ)→Option ρ
  | .undef,K=>K .undef
  | .int k n,K=>K (.int k n)
  | .bool b,K=>K (.bool b)
  | .str s,K=>K (.str s)
  | .fL,K=>K .fL
  | .ptr dyn id off,K=>K (.ptr dyn id off)
  | .cT dyn x off,K=>K (.cT dyn x off)
  | .bp id,K=>K (.bp id)
  | .jx id,K=>K (.jx id)
  | .bR id sz n,K=>K (.bR id sz n)
  | .sub id off sz n cp,K=>K (.sub id off sz n cp)
  | .aj o sz xs,K=>K (.aj o sz xs)
  | .av,K=>K .av
  | .fn f a b,K=>gq a fun a'=>gq b fun b'=>K (.fn f a' b')
  | .agg cs,K=>gq cs fun l=>K (.agg l)
  | .aM cs,K=>gq cs fun l=>K (.aM l)
def gq:List D→(List D→Option ρ)→Option ρ
  | [],K=>K []
  |d::r,K=>force d fun d'=>gq r fun l=>K (d'::l)
end
def AE:List D→Nat→D→(List D→Option ρ)→Option ρ
  | [],_,_,K=>K []
  |_::r,0,d,K=>K (d::r)
  |a::r,i+1,d,K=>AE r i d fun l=>K (a::l)
def put (t:List D) (dst:Option Nat) (d:D):List D:=match dst with|some i=>t.set i d|none=>t
def lk (t:List D) (dst:Option Nat) (d:D) (K:List D→Option ρ):Option ρ:=match dst with
  |some i=>force d fun d'=>AE t i d' K
  |none=>K t
def iJ:List Ob→Nat→Ob→(List Ob→Option ρ)→Option ρ
  | [],_,_,K=>K []
  |_::r,0,d,K=>K (d::r)
  |a::r,i+1,d,K=>iJ r i d fun l=>K (a::l)
def oH:List (List D×D)→(List (List D×D)→Option ρ)→Option ρ
  | [],K=>K []
  |e::r,K=>gq e.1 fun n=>force e.2 fun d=>oH r fun l=>K ((n,d)::l)
def te:Ob→(Ob→Option ρ)→Option ρ
  | .dead,K=>K .dead
  | .box cs,K=>gq cs fun l=>K (.box l)
  | .bz v sz,K=>K (.bz v sz)
  | .mp k es,K=>K (.mp k es)
  | .mf ks es,K=>oH es fun l=>K (.mf ks l)
  | .lp k t ps ag bd,K=>gq t fun l=>K (.lp k l ps ag bd)
def nk (z:Z P) (o:Ob) (k:Z P→Ob→Option ρ):Option ρ:=match z.o with
  | .raw::r=>k ⟨r,z.c⟩ o
  |_=>te o fun o2=>k z o2
def lL:List Ob→Ob→(List Ob→Option ρ)→Option ρ
  | [],o,K=>K [o]
  |a::r,o,K=>lL r o fun l=>K (a::l)
inductive Tg where
  |fn (f:FuncId)
  |yl (id:Nat)
abbrev Ak (P:Program) (ρ:Type):=Tg→List D→List Ob→Z P→(D→List Ob→Z P→Option ρ)→Option ρ
def HX (z:Z P) (d:D) (s:List Ob) (K:Z P→gZ→Option ρ):Option ρ:=
  match z.o with
  | .go 777777::r=>match d with
    | .bR id sz n=>match s.getD id .dead with
      | .box cs=>fU (VM sz 1) (ask ⟨r,z.c⟩ (VM cs.length n&&cs.all isByte) fun z=>K z (.all (s.set id .dead) (.aj .no 1 cs)))
      |_=>none
    |_=>none
  |_=>K z (.all s d)
def Af (P:Program) (inl:Ak P ρ) (g:FuncId) (args:List D) (s:List Ob) (z:Z P) (K:Z P→gZ→Option ρ):Option ρ:=
  match z.o with
  | .inl::r=>inl (.fn g) args s ⟨r,z.c⟩ fun d s' z=>HX z d s' K
  | .kB g' ar s1 d Sd _::r=>fU (VM g' g) (K ⟨r,(ar=args∧s1=s)∧z.c⟩ (.all Sd d))
  | .ret g' as d _::r=>fU (VM g' g) (oB args fun Th=>K ⟨r,(as=Th)∧z.c⟩ (.new (kD 0 d).2 fun id=>(kD id d).1))
  |_=>none
def It (P:Program) (inl:Ak P ρ) (id:Nat) (args:List D) (s:List Ob) (z:Z P) (K:Z P→gZ→Option ρ):Option ρ:=
  match z.o with
  | .inl::r=>inl (.yl id) args s ⟨r,z.c⟩ fun d s' z=>K z (.all s' d)
  |_=>none
def Ke (P:Program) (inl:Ak P ρ) (o:Oper) (t:List D) (s:List Ob) (z:Z P) (K:Z P→gZ→Option ρ):Option ρ:=
  match o.op with
  | .move x=>K z (.pure (bB t x))
  | .assign x=>K z (.pure (bB t x))
  | .pick c a b=>match bB t c with
    | .bool q=>branch z q (fun z=>K z (.pure (bB t a))) (fun z=>K z (.pure (bB t b)))
    |_=>none
  | .box _ x=>match (bB t x).cells with
    |some cs=>K z (.new (.box cs) fun id=> .ptr false id 0)
    |none=>none
  | .alloc e=>match gg P e with
    |some d=>match d.cells with
      |some cs=>K z (.new (.box cs) fun id=> .ptr false id 0)
      |none=>match Cs P e with
        |true=>K z (.new (.box [.undef]) fun id=> .ptr false id 0)
        |false=>none
    |none=>none
  | .build ty parts=>match yM P ty (parts.toList.map fun p=>(p.1,bB t p.2)) with
    |some d=>K z (.pure d)
    |none=>none
  | .buildSlice ty len parts=>match P.underlying ty with
    |some (.slice e)=>match gg P e with
      |some d=>match d.cells with
        | some zc => fU (known P e && VM zc.length (P.cellsOf e) && Wr (len * P.cellsOf e) 16777216 && d.plain && zc.all storable)
            (ki (P.cellsOf e) (Vc len d) (parts.toList.map fun p=>(p.1,bB t p.2)) fun xs=>K z (.pure (.aj .tight (P.cellsOf e) xs)))
        |none=>none
      |none=>none
    |_=>none
  | .load ty a=>GU P z ty (bB t a) s K
  | .store ty a x=>CA P z ty (bB t a) (bB t x) s K
  | .nilCheck x=>match bB t x with
    | .ptr dyn id off=>K z (.pure (.ptr dyn id off))
    | .cT dyn y off=>K z (.pure (.cT dyn y off))
    | .fn (.func g) a b=>K z (.pure (.fn (.func g) a b))
    |_=>none
  | .binOp op ty x y _=>Ie P z (isConst y) op ty (bB t x) (bB t y) fun z d=>K z (.pure d)
  | .unOp op _ x=>Kr op (bB t x) fun d=>K z (.pure d)
  | .convert src dst x=>Ei P z src dst (bB t x) K
  | .makeFunc f first cap=>K z (.pure (.fn f (first.toList.map (bB t)) (cap.toList.map (bB t))))
  | .slice ty x lo hi mx=>match P.underlying ty,bB t x with
    |some (.slice e),.aj o' sz xs=>fU (known P e&&VM (P.cellsOf e) sz) (gn t lo fun l=>gn t hi fun h=>gn t mx fun m=>wU z o' sz xs l h m fun z d=>K z (.pure d))
    |some (.slice e),.bR id sz n=>fU (known P e&&VM (P.cellsOf e) sz) (gn t lo fun l=>gn t hi fun h=>gn t mx fun m=>Cy z id 0 sz n none l h m fun z d=>K z (.pure d))
    |some (.slice e),.sub id off sz n cp=>fU (known P e&&VM (P.cellsOf e) sz) (gn t lo fun l=>gn t hi fun h=>gn t mx fun m=>Cy z id off sz n cp l h m fun z d=>K z (.pure d))
    |some (.array n e),.ptr _ id off=>fU (known P e) (gn t lo fun l=>gn t hi fun h=>gn t mx fun m=>Cy z id off (P.cellsOf e) n (some n) l h m fun z d=>K z (.pure d))
    |_,_=>none
  | .fieldAddr ty x f=>p5 P ty (bB t x) f fun d=>K z (.pure d)
  | .field ty x f=>match P.underlying ty,bB t x with
    |some (.struct fields),.agg cs=>match fields[f]? with
      |some fd=>qU P z false fd.type cs fd.offset fun z d=>K z (.pure d)
      |none=>none
    |_,_=>none
  | .indexAddr ty x ix=>pM P z (isConst ix) ty (bB t x) (bB t ix) fun z d=>K z (.pure d)
  | .index ty x ix=>DS P z (isConst ix) ty (bB t x) (bB t ix) fun z d=>K z (.pure d)
  | .extract x i=>match bB t x with
    | .aM ds=>match ds[i]? with
      |some d=>K z (.pure d)
      |none=>none
    |_=>none
  | .call c=>match c.callee with
    | .builtin .len=>match c.args.toList,c.argTypes.toList with
      |x::_,ty::_=>HJ P ty (bB t x) fun d=>K z (.pure d)
      |_,_=>none
    | .builtin .append=>match c.args.toList with
      |x::y::_=>tW P z c.argTypes (bB t x) (bB t y) s K
      |_=>none
    | .builtin .min=>match c.args.toList with
      | [x,y]=>HE (bB t x) (bB t y) fun d=>K z (.pure d)
      |_=>none
    | .builtin .max=>match c.args.toList with
      | [x,y]=>HH (bB t x) (bB t y) fun d=>K z (.pure d)
      |_=>none
    | .builtin .copy=>match c.args.toList with
      |x::y::_=>Eh P z c.argTypes (bB t x) (bB t y) s K
      |_=>none
    | .value f=>match bB t f with
      | .fn (.func g) first cap=>Af P inl g (first++(c.args.toList.map (bB t)++cap)) s z K
      | .jx id=>It P inl id (c.args.toList.map (bB t)) s z K
      |_=>none
    |_=>none
  | .makeMap ty r=>match r with
    |none=>oG P z ty K
    |some x=>idx (bB t x) fun _=>oG P z ty K
  | .insert ty m k v=>oE P z ty (bB t m) (bB t k) (bB t v) s K
  | .mapUpdate ty m k v=>oE P z ty (bB t m) (bB t k) (bB t v) s K
  | .lookup ty m k ok=>vI P z ty (bB t m) (bB t k) ok s K
  | .mapEntry ty m k=>sX P z ty (bB t m) (bB t k) s K
  | .entryStore _ m n v=>nC P z (bB t m) (bB t n) (bB t v) s K
  | .makeSlice ty l c=>GS P z ty (bB t l) (bB t c) K
  |_=>none
def iA (ops:Array Oper) (t:List D) (j:Nat):D:=match ops[j]? with
  |some o=>match o.dst with|some i=>t.getD i .undef|none=> .undef
  |none=> .undef
def gW (i:Nat):List Nat→Bool
  | []=>false
  |a::r=>match VM a i with|true=>true|false=>gW i r
inductive FP where
  |Hu
  |rd (id:Nat)
  |qz (id j:Nat)
  |wr (id:Nat)
  |nw (id:Nat)
  |all (l:List Nat) (kc:List (Nat×Nat))
def z4 (s s':List Ob):List (Nat×Ob)→Prop→Prop
  | [],c=>c
  |(i,o)::r,c=>z4 s s' r ((o=s.getD i .dead∧o=s'.getD i .dead)∧c)
def kW:List (Nat×Ob)→List Nat
  | []=> []
  |(i,_)::r=>i::kW r
def eZ:Ob→Nat→Option D
  | .box cs,j=>cs[j]?
  |_,_=>none
def El (s s':List Ob):List (Nat×Nat×D)→Prop→Prop
  | [],c=>c
  |(i,j,d)::r,c=>El s s' r ((some d=eZ (s.getD i .dead) j∧some d=eZ (s'.getD i .dead) j)∧c)
def mL:List (Nat×Nat×D)→List (Nat×Nat)
  | []=> []
  |(i,j,_)::r=>(i,j)::mL r
def xL (i j:Nat):List (Nat×Nat)→Bool
  | []=>false
  |(a,b)::r=>match VM a i,VM b j with|true,true=>true|_,_=>xL i j r
def pJ (n:Nat):List (Nat×Ob)→Bool
  | []=>true
  |(i,_)::r=>match Wq i n with|true=>pJ n r|false=>false
def zY (z:Z P) (s s':List Ob) (k:Z P→List Nat→List (Nat×Nat)→Option ρ):Option ρ:=
  match z.o with
  | .bn l::r=>fU (pJ s.length l) (k ⟨r,z4 s s' l z.c⟩ (kW l) [])
  | .GV cs l::r=>fU (pJ s.length l) (k ⟨r,El s s' cs (z4 s s' l z.c)⟩ (kW l) (mL cs))
  |_=>k z [] []
def kp (P:Program) (inl:Ak P ρ) (ops:Array Oper):List Oper→List D→List Ob→List FP→Z P→(List D→List Ob→List FP→Z P→Option ρ)→Option ρ
  | [],t,s,Qa,z,K=>K t s Qa z
  |o::rest,t,s,Qa,z,K=>
    let run:=fun z=>Ke P inl o t s z fun z e=>match e with
      | .pure d=>lk t o.dst d fun t'=>kp P inl ops rest t' s (.Hu::Qa) z K
      | .read id _ d=>lk t o.dst d fun t'=>kp P inl ops rest t' s (.rd id::Qa) z K
      | .gm id j d=>lk t o.dst d fun t'=>kp P inl ops rest t' s (.qz id j::Qa) z K
      | .dE id _ o' d=>lk t o.dst d fun t'=>nk z o' fun z o2=>iJ s id o2 fun s'=>kp P inl ops rest t' s' (.wr id::Qa) z K
      | .new o' mk=>lk t o.dst (mk s.length) fun t'=>nk z o' fun z o2=>lL s o2 fun s'=>kp P inl ops rest t' s' (.nw s.length::Qa) z K
      | .all s' d=>lk t o.dst d fun t'=>zY z s s' fun z l kc=>kp P inl ops rest t' s' (.all l kc::Qa) z K
    match o.guard with
    |none=>run z
    |some (j,want)=>match iA ops t j with
      | .bool b=>branch z (b==want) run (fun z=>lk t o.dst (.aM []) fun t'=>kp P inl ops rest t' s (.Hu::Qa) z K)
      | .aM []=>lk t o.dst (.aM []) fun t'=>kp P inl ops rest t' s (.Hu::Qa) z K
      |_=>none
def fW:List Oper→List Nat→List Nat
  | [],acc=>acc
  |o::rest,acc=>fW rest (acc++ [o.after.toList.foldl (fun m e=>match Region.binds .any e with|true=>m|||(1<<<e.on)|||acc.getD e.on 0|false=>m) 0])
def fB:FP→FP→Bool
  | .Hu,_=>false
  |_,.Hu=>false
  | .all l _,.rd i=> !gW i l
  | .rd i,.all l _=> !gW i l
  | .all l kc,.qz i j=> !gW i l&& !xL i j kc
  | .qz i j,.all l kc=> !gW i l&& !xL i j kc
  | .all _ _,_=>true
  |_,.all _ _=>true
  | .rd _,.rd _=>false
  | .rd _,.qz _ _=>false
  | .qz _ _,.rd _=>false
  | .qz _ _,.qz _ _=>false
  | .qz i _,.wr j=>VM i j
  | .qz i _,.nw j=>VM i j
  | .wr i,.qz j _=>VM i j
  | .nw i,.qz j _=>VM i j
  | .rd i,.wr j=>VM i j
  | .rd i,.nw j=>VM i j
  | .wr i,.rd j=>VM i j
  | .wr i,.wr j=>VM i j
  | .wr i,.nw j=>VM i j
  | .nw i,.rd j=>VM i j
  | .nw i,.wr j=>VM i j
  | .nw i,.nw j=>VM i j
def Cw (xs:List Operand):List Nat:=xs.filterMap fun x=>match x with| .tmp i=>some i|_=>none
def pF (ops:Array Oper) (o:Oper):List Nat:=
  Cw o.op.operands.toList++(match o.guard with
    |some (j,_)=>match ops[j]? with
      |some q=>q.dst.toList
      |none=> []
    |none=> [])
def share (ops:Array Oper) (x y:Oper):Bool:=
  (match x.dst with|some d=>(pF ops y).contains d||y.dst==some d|none=>false)||(match y.dst with|some d=>(pF ops x).contains d|none=>false)
def l0 (ops:Array Oper) (Qa:List FP):Bool:=
  let l:=ops.toList
  let ah:=fW l []
  let f:=Qa.reverse
  (VM f.length l.length)&&
  (List.range l.length).all fun j=>
    (match l[j]? with
     |some o=>o.after.all fun e=> !Region.binds .any e||Wq e.on j
     |none=>false)&&
    (List.range j).all fun i=>(ah.getD j 0).testBit i||
      (match l[i]?,l[j]? with
       |some x,some y=> !share ops x y
       |_,_=>false)&& !fB (f.getD i (.all [] [])) (f.getD j (.all [] []))
mutual
def lS (n:Nat):D→Bool
  | .ptr _ id _=>Wq id n
  | .bp id=>Wq id n
  | .jx id=>Wq id n
  | .bR id _ _=>Wq id n
  | .sub id _ _ _ _=>Wq id n
  | .aj (.tok id _) _ _=>Wq id n
  | .fn _ a b=>j2 n a&&j2 n b
  | .agg cs=>j2 n cs
  | .aM cs=>j2 n cs
  |_=>true
def j2 (n:Nat):List D→Bool
  | []=>true
  |d::r=>lS n d&&j2 n r
end
def dj:Nat:=1000000
def gA (t:List D) (s:List Ob) (k:Nat):D:=match Wr dj k with
  |false=>t.getD k .undef
  |true=>match s.getD ((k - dj) / 1000) .dead with
    | .box cs=>cs.getD ((k - dj)%1000) .undef
    |_=> .undef
def pT (s:List Ob) (size id:Nat) (d:D):Option (D×Option Nat×Ob):=
  match d with
  | .aj .tight sz xs=>match oq sz xs size with
    |true=>some (.aj (.tok id 0) size xs,none,.bz 0 size)
    |false=>none
  | .aj (.tok i v) sz xs=>match s.getD i .dead with
    | .bz v' PC=>match VM v' v&&(VM PC size&&oq sz xs size) with
      |true=>some (.aj (.tok id 0) size xs,some i,.bz 0 size)
      |false=>none
    |_=>none
  | .bR i sz n=>match s.getD i .dead with
    | .box cs=>match VM sz size with
      |true=>some (.bR id sz n,some i,.box (cs.map D.aJ))
      |false=>none
    |_=>none
  |_=>none
def vQ (t:List D) (s:List Ob):List (Nat×Nat)→Nat→Option (List (Option Nat)×List Ob)
  | [],_=>some ([],[])
  |(k,size)::r,id=>match pT s size id (gA t s k),vQ t s r (id+1) with
    |some (_,o,ob),some (l,Hq)=>some (o::l,ob::Hq)
    |_,_=>none
def findF (i:Nat):List (Nat×Nat)→Nat→Option (Nat×Nat)
  | [],_=>none
  |(k,size)::r,id=>match VM k i with|true=>some (id,size)|false=>findF i r (id+1)
def D8 (i:Nat) (fs:List (Nat×Nat)) (n0:Nat):Option (Nat×Nat):=match Wr dj i with|true=>none|false=>findF i fs n0
def z9 (i j:Nat) (fs:List (Nat×Nat)) (n0:Nat):Option (Nat×Nat):=match Wq j 1000 with|true=>findF (dj+i*1000+j) fs n0|false=>none
def CC (sp:HS) (n0:Nat) (s:List Ob) (i:Nat) (d:D):Option D:=
  match D8 i sp.ll n0 with
  |some (id,size)=>match pT s size id d with|some (d',_)=>some d'|none=>none
  |none=>match gW i sp.bn with
    |true=>match lS n0 d with|true=>some d|false=>none
    |false=>match gW (dj+i) sp.bn with
      |true=>match d with| .agg cs=>some (.agg (cs.map D.aJ))|_=>none
      |false=>some .undef
def o8 (sp:HS) (n0:Nat) (s:List Ob):Nat→List D→Option (List D)
  |_,[]=>some []
  |i,d::r=>match CC sp n0 s i d,o8 sp n0 s (i+1) r with
    |some d',some l=>some (d'::l)
    |_,_=>none
def qF (i:Nat):List (Option Nat)→Bool
  | []=>false
  |none::r=>qF i r
  |some a::r=>match VM a i with|true=>true|false=>qF i r
def rI:List (Option Nat)→Bool
  | []=>true
  |none::r=>rI r
  |some a::r=> !qF a r&&rI r
def nE (sp:HS) (n0:Nat) (s:List Ob) (i:Nat):Nat→List D→Option (List D)
  |_,[]=>some []
  | j, d :: r => match (match z9 i j sp.ll n0 with
      |some (id,size)=>(match pT s size id d with|some (d',_)=>some d'|none=>none)
      |none=>(match lS n0 d with|true=>some d|false=>none)),nE sp n0 s i (j+1) r with
    |some d',some l=>some (d'::l)
    |_,_=>none
def Kf (sp:HS) (n0:Nat) (s:List Ob) (used:List (Option Nat)) (i:Nat) (o:Ob):Option Ob:=
  match gW (dj+i) sp.Hq&& !qF i used with
  |true=>match o with
    | .box cs=>some (.box (cs.map D.aJ))
    |_=>none
  |false=>match gW i sp.Hq&& !qF i used with
    |false=>some .dead
    |true=>match o with
      | .box cs=>match nE sp n0 s i 0 cs with|some Ph=>some (.box Ph)|none=>none
      | .lp k t ps ag bd=>match j2 n0 t with|true=>some (.lp k t ps ag bd)|false=>none
      |o=>some o
def AV (sp:HS) (n0:Nat) (s0:List Ob) (used:List (Option Nat)) (new:List Ob):Nat→Nat→List Ob→Option (List Ob)
  |0,_,_=>some new
  |_+1,_,[]=>none
  |n+1,i,o::r=>match Kf sp n0 s0 used i o,AV sp n0 s0 used new n (i+1) r with
    |some o',some l=>some (o'::l)
    |_,_=>none
def mD (sp:HS) (n0:Nat) (t:List D) (s:List Ob):Option (List D×List Ob):=
  match vQ t s sp.ll n0 with
  |some (used,new)=>match rI used with
    |true=>match o8 sp n0 s 0 t,AV sp n0 s used new n0 0 s with
      |some t',some s'=>some (t',s')
      |_,_=>none
    |false=>none
  |none=>none
def Ag (s:List Ob) (i:Nat):List (List D):=match s.getD i .dead with| .box cs=> [cs]|_=> []
def nh (s:List Ob):List Nat→List (List D)
  | []=> []
  |o::r=>match Wr dj o with
    |true=>Ag s (o - dj)++nh s r
    |false=>nh s r
def td (t:List D) (s:List Ob):List (Nat×Nat)→List (List D)
  | []=> []
  |(k,_)::r=>(match gA t s k with| .bR i _ _=>Ag s i|_=> [])++td t s r
def tc (t:List D):List Nat→List (List D)
  | []=> []
  |o::r=>(match Wr dj o with
    |true=>match t.getD (o - dj) .undef with| .agg cs=> [cs]|_=> []
    |false=> [])++tc t r
def ta (sp:HS) (t:List D) (s:List Ob):List (List D):=nh s sp.Hq++(td t s sp.ll++tc t sp.bn)
def Cd:List (List D)→Z P→(Z P→Option ρ)→Option ρ
  | [],z,k=>k z
  |cs::r,z,k=>match z.o with
    | .cl Ph _::o=>Cd r ⟨o,(Ph=cs)∧z.c⟩ k
    |_=>none
def iter (body:List D→List Ob→Z P→(Ex→List D→List Ob→Z P→Option ρ)→Option ρ):Nat→List D→List Ob→Z P→(Ex→List D→List Ob→Z P→Option ρ)→Option ρ
  |0,_,_,_,_=>none
  |n+1,t,s,z,K=>body t s z fun ex t' s' z=>match ex with
    | .norm=>iter body n t' s' z K
    |e=>K e t' s' z
def iR (bn:List Nat):Nat→List D→List D
  |_,[]=> []
  |i,d::r=>(match gW i bn with|true=>d|false=> .undef)::iR bn (i+1) r
def kh:List D→List (Nat×D)→List D
  |t,[]=>t
  |t,(i,d)::r=>kh (t.set i d) r
def eG (P:Program) (inl:Ak P ρ) (rd:Bool):Code→List D→List Ob→Z P→(Ex→List D→List Ob→Z P→Option ρ)→Option ρ
  | .skip,t,s,z,K=>K .norm t s z
  | .label _,t,s,z,K=>K .norm t s z
  | .region _ ops draw,t,s,z,K=>kp P inl ops ops.toList t s [] z fun t' s' Qa z=>match draw with
    |false=>K .norm t' s' z
    |true=>fU (l0 ops Qa) (K .norm t' s' z)
  | .seq a b,t,s,z,K=>eG P inl rd a t s z fun ex t' s' z=>match ex with
    | .norm=>eG P inl rd b t' s' z K
    |e=>K e t' s' z
  | .cond c a b,t,s,z,K=>match bB t c with
    | .bool q=>branch z q (fun z=>eG P inl rd a t s z K) (fun z=>eG P inl rd b t s z K)
    |_=>none
  | .block id a,t,s,z,K=>match z.o with
    | .cq sp n0 c' t1 s1 ex t2 s2 _::r=>match mD sp n0 t s with
      |some (t',s')=>fU (VM n0 s.length) (Cd (ta sp t s) ⟨r,(c'= .block id a∧t1=t'∧s1=s')∧z.c⟩ fun z=>K ex t2 s2 z)
      |none=>none
    |_=>eG P inl rd a t s z fun ex t' s' z=>match ex with
      | .exit i=>match VM i id with|true=>K .norm t' s' z|false=>K (.exit i) t' s' z
      |e=>K e t' s' z
  | .scope a,t,s,z,K=>eG P inl rd a t s z K
  | .exit id,t,s,z,K=>K (.exit id) t s z
  | .ret,t,s,z,K=>K .ret t s z
  | .loop x,t,s,z,K=>match z.o with
    | .go n::r=>iter (eG P inl rd x) n t s ⟨r,z.c⟩ K
    | .head sp n0 c' t1 s1 ex t2 s2 _::r=>match mD sp n0 t s with
      |some (t',s')=>fU (VM n0 s.length) (Cd (ta sp t s) ⟨r,(c'= .loop x∧t1=t'∧s1=s')∧z.c⟩ fun z=>K ex t2 s2 z)
      |none=>none
    | .code c' t1 s1 ex t2 s2 _::r=>K ex t2 s2 ⟨r,(c'= .loop x∧t1=t∧s1=s)∧z.c⟩
    |_=>none
  | .rangeFunc g ps ag bd,t,s,z,K=>match z.o with
    | .LO bn::r=>match rd,bB t g with
      |false,.fn (.func gf) first cap=>gq (iR bn 0 t) fun t1=>lL s (.lp .ready t1 ps ag bd) fun s1=>
        inl (.fn gf) (first++(.jx s.length::cap)) s1 ⟨r,z.c⟩ fun _ s2 z=>match s2.getD s.length .dead with
          | .lp .ready _ _ _ _=>iJ s2 s.length .dead fun s3=>K .norm t s3 z
          | .lp .ret _ _ _ _=>iJ s2 s.length .dead fun s3=>K .ret t s3 z
          | .lp (.exit i) _ _ _ _=>iJ s2 s.length .dead fun s3=>K (.exit i) t s3 z
          |_=>none
      |_,_=>none
    | .code c' t1 s1 ex t2 s2 _::r=>K ex t2 s2 ⟨r,(c'= .rangeFunc g ps ag bd∧t1=t∧s1=s)∧z.c⟩
    |_=>none
  |c,t,s,z,K=>match z.o with
    | .code c' t1 s1 ex t2 s2 _::r=>K ex t2 s2 ⟨r,(c'=c∧t1=t∧s1=s)∧z.c⟩
    |_=>none
def sG (P:Program) (t:List D) (s:List Ob):ResultVar→Option D
  | .tmp i=>some (t.getD i .undef)
  | .cell a ty=>match t.getD a .undef with
    | .ptr _ id off=>match s.getD id .dead with
      | .box cs=>match P.underlying ty with
        |some d=>match cF d with
          |true=>match known P ty&&Wr (off+P.cellsOf ty) cs.length with
            |true=>some (.agg ((cs.drop off).take (P.cellsOf ty)))
            |false=>none
          |false=>cs[off]?
        |none=>none
      |_=>none
    |_=>none
def xh (P:Program) (t:List D) (s:List Ob):List ResultVar→Option (List D)
  | []=>some []
  |r::rs=>match sG P t s r,xh P t s rs with
    |some d,some l=>some (d::l)
    |_,_=>none
def xi:List D→D
  | [d]=>d
  |l=> .aM l
def rM (P:Program) (inl:Ak P ρ) (fn:Func) (args:List D) (s:List Ob) (z:Z P) (K:D→List Ob→Z P→Option ρ):Option ρ:=
  match fn.body with
  |some c=>fU (Wr args.length fn.ntmps) (gq (args++Vc (fn.ntmps - args.length) .undef) fun t0=>eG P inl false c t0 s z fun ex t' s' z=>match ex with
    | .exit _=>none
    |_=>match xh P t' s' fn.results.toList with
      |some l=>K (xi l) s' z
      |none=>none)
  |none=>none
def xa (P:Program) (inl:Ak P ρ) (id:Nat) (args:List D) (s:List Ob) (z:Z P) (K:D→List Ob→Z P→Option ρ):Option ρ:=
  match s.getD id .dead with
  | .lp .ready t ps ag bd=>fU (VM args.length ps.size) (gq (kh t (ps.toList.zip args)) fun t1=>eG P inl true ag t1 s z fun ex t2 s2 z=>match ex with
    | .norm=>match s2.getD id .dead with
      | .lp .ready t' TL TD Ty=>iJ s2 id (.lp .busy t' TL TD Ty) fun s3=>eG P inl true bd t2 s3 z fun ex _ s4 z=>match s4.getD id .dead with
        | .lp .busy t5 RC Rw Rx=>match ex with
          | .norm=>iJ s4 id (.lp .ready t5 RC Rw Rx) fun s5=>K (.bool true) s5 z
          | .ret=>iJ s4 id (.lp .ret t5 RC Rw Rx) fun s5=>K (.bool false) s5 z
          | .exit i=>iJ s4 id (.lp (.exit i) t5 RC Rw Rx) fun s5=>K (.bool false) s5 z
        |_=>none
      |_=>none
    |_=>none)
  |_=>none
def pL (P:Program):Nat→Ak P ρ
  |0=>fun _ _ _ _ _=>none
  |n+1=>fun g args s z K=>match g with
    | .fn f=>match P.funcs[f]? with
      |some fn=>fU (!(fn.name== "runtime.NumGoroutine")) (rM P (pL P n) fn args s z K)
      |none=>none
    | .yl id=>xa P (pL P n) id args s z K
def iM (s:List Ob):D→D
  | .aj (.tok id v) sz xs=>match s.getD id .dead with
    | .bz v' PC=>match VM v v'&&VM sz PC with|true=> .aj (.fresh sz) sz xs|false=> .aj .no sz xs
    |_=> .aj .no sz xs
  |d=>d.aJ
def AO (s:List Ob):D→D
  | .aM ds=> .aM (ds.map (iM s))
  |d=>iM s d
end
def zZ:List (Nat×Ob)→Prop→Prop
  | [],c=>c
  |(_,o)::r,c=>zZ r ((o=o∧o=o)∧c)
theorem lR:∀(l:List (Nat×Ob)) {c:Prop},c→zZ l c
 | [],_,h=>h
 |(_,o)::r,_,h=>lR r ⟨⟨rfl,rfl⟩,h⟩
def Ek:List (Nat×Nat×D)→Prop→Prop
  | [],c=>c
  |(_,_,d)::r,c=>Ek r ((some d=some d∧some d=some d)∧c)
theorem qh:∀(l:List (Nat×Nat×D)) {c:Prop},c→Ek l c
 | [],_,h=>h
 |(_,_,d)::r,_,h=>qh r ⟨⟨rfl,rfl⟩,h⟩
def Ev.self {P:Program} :Ev P→Prop→Prop
  | .ret _ as _ _,c=>(as=as)∧c
  | .inl,c=>c
  | .kB _ ar s _ _ _,c=>(ar=ar∧s=s)∧c
  | .cH q _ _,c=>(q=q)∧c
  | .len n m _,c=>(n=n∧m=m)∧c
  | .get l i _ _,c=>(l=l∧i=i)∧c
  | .bV l i n _ _,c=>(l=l∧i=i∧n=n)∧c
  | .fK l i xs _ _,c=>(l=l∧i=i∧xs=xs)∧c
  | .flat _ _ _,c=>c
  | .e9 es n _ _,c=>(es=es∧n=n)∧c
  | .ot _ _ _,c=>c
  | .rf es n _ _,c=>(es=es∧n=n)∧c
  | .bn l,c=>zZ l c
  | .GV cs l,c=>Ek cs (zZ l c)
  | .code c' t s _ _ _ _,c=>(c'=c'∧t=t∧s=s)∧c
  | .go _,c=>c
  | .LO _,c=>c
  | .raw,c=>c
  | .cl cs _,c=>(cs=cs)∧c
  | .Ls ys _ _,c=>(ys=ys)∧c
  | .head _ _ c' t s _ _ _ _,c=>(c'=c'∧t=t∧s=s)∧c
  | .cq _ _ c' t s _ _ _ _,c=>(c'=c'∧t=t∧s=s)∧c
def pa {P:Program} :List (Ev P)→Prop→Prop
  | [],c=>c
  |e::r,c=>pa r (e.self c)
theorem jA {P:Program} (l:List (Ev P)):∀ {c:Prop},c→pa l c:=by
 induction l with
 |nil=>exact fun h=>h
 |cons e r ih=>
  intro c h
  refine ih ?_
  cases e<;>simp only [Ev.self,true_and,and_self]<;>first|exact h|exact lR _ h|exact qh _ (lR _ h)
def tA (P:Program) (fn:Func) (args:List D) (o:List (Ev P)):Option (D×Prop):=
  rM P (pL P 20) fn args [] ⟨o,True⟩ fun d s z=>fU d.clean (match z.o with| []=>some (AO s d,z.c)|_=>none)
def rH (P:Program) (c:Code) (sp:HS) (n0:Nat) (t:List D) (s:List Ob) (o:List (Ev P)):Option ((Ex×List D×List Ob)×Prop):=
  eG P (pL P 20) true c t s ⟨o,True⟩ fun ex t' s' z=>match mD sp n0 t' s' with
    |some (t2,s2)=>Cd (ta sp t' s') z fun z=>match z.o with
      | []=>some ((ex,t2,s2),z.c)
      |_=>none
    |none=>none
def evalCode (P:Program) (c:Code) (t:List D) (s:List Ob) (o:List (Ev P)):Option ((Ex×List D×List Ob)×Prop):=
  eG P (pL P 20) true c t s ⟨o,True⟩ fun ex t' s' z=>match z.o with| []=>some ((ex,t',s'),z.c)|_=>none
end Go.Ev
