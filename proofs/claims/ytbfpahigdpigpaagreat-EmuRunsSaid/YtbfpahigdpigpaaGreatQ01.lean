import Derived.Calls
import Derived.Orders
import Derived.Below
import Derived.Laws.World
import Derived.Laws.Sem
import Derived.RangeFuncRecord
import Derived.Laws.StructEq
import Derived.OrdersIn
import Derived.ControlIn
open List renaming replicate→Z7,range→aao,getElem?_map→aau,mem_of_getElem? →aaD,all_eq_true→aaO
open BitVec renaming ofInt→Z8
open Option.some renaming inj→aad,injEq→aak
open Bool renaming and_eq_true→aae
open Nat renaming le_refl→aar,lt_or_ge→aaA,beq→aaM,ble→abq
open Option renaming map_eq_some_iff→aat
open Go.World renaming cell? →abk,block_lt_of_cell? →abm
open Go renaming IntKind→abz
/- Contracts and plain laws that a statement's proof leans on (texts merged:EvC). -/
namespace Go.Ev
theorem cI:type_of% @decide_eq_false_iff_not:= @decide_eq_false_iff_not
theorem bS:type_of% @decide_eq_true_eq:= @decide_eq_true_eq
theorem bF:type_of% @decide_eq_false:= @decide_eq_false
theorem b8:type_of% @decide_eq_true:= @decide_eq_true
theorem fO:type_of%(@beq_eq_false_iff_ne.{0}):=(@beq_eq_false_iff_ne.{0})
theorem cz:type_of%(@beq_iff_eq.{0}):=(@beq_iff_eq.{0})
theorem ki:type_of%(@bne_iff_ne.{0}):=(@bne_iff_ne.{0})
theorem fm:type_of% @true_and:= @true_and
theorem ey:type_of% @and_true:= @and_true
end Go.Ev
set_option linter.unusedVariables false
set_option linter.unusedSimpArgs false
namespace Go.Ev
open Go Go.RowKit
inductive ln where
  |no
  |tight
  |tok (t ver:Nat)
  |fresh (sz:Nat)
inductive D where
  |undef
  |int (k:abz) (n:Int)
  |bool (b:Bool)
  |str (s:ByteArray)
  |fW
  |ptr (dyn:Bool) (id off:Nat)
  |eL (dyn:Bool) (x:D) (off:Nat)
  |gl (id:Nat)
  |jx (id:Nat)
  |dm (id sz n:Nat)
  |sub (id off sz n:Nat) (cap:Option Nat)
  |aY (o:ln) (sz:Nat) (xs:List D)
  |b6
  |fn (f:Fn) (first cap:List D)
  |agg (cs:List D)
  |aL (vs:List D)
def D.cells:D→Option (List D)
  | .agg cs=>some cs
  | .undef=>none
  | .aL _=>none
  |d=>some [d]
def storable:D→Bool
  | .undef=>false
  | .agg _=>false
  | .aL _=>false
  |_=>true
structure MM where
  cell:Nat→Nat→Option Value
  box:Nat→Option Nat
  bX:Nat→Nat→Option Value
  fM:Nat→Prop
def MM.bare (M:MM):MM:=⟨M.cell,fun _=>none,fun _ _=>none,fun _=>False⟩
def gr (C:Nat→Nat→Option Value):MM:=⟨C,fun _=>none,fun _ _=>none,fun _=>False⟩
def MM.pR (M:MM):ln→Option Addr→Nat→Nat→Prop
  | .no,_,_,_=>True
  | .fresh _,_,_,_=>True
  | .tight,_,len,cap=>cap=len
  | .tok t v,a,len,cap=>M.bX t v=some (.slice a len cap)
inductive b7:MM→D→Value→Prop
  |undef {M:MM} (v:Value):b7 M .undef v
  |int {M:MM} (k:abz) (n:Int):b7 M (.int k n) (.int k n)
  |bool {M:MM} (b:Bool):b7 M (.bool b) (.bool b)
  |str {M:MM} (s:ByteArray):b7 M (.str s) (.string s)
  |fW {M:MM} :b7 M .fW (.pointer none)
  |ptr {M:MM} (dyn:Bool) {id off b:Nat} (h:M.box id=some b):b7 M (.ptr dyn id off) (.pointer (some ⟨b,off,none⟩))
  | eL {M : MM} (dyn : Bool) {x : D} {cs : List D} {off b base : Nat} (vs : Nat → Value) (hx : x.cells = some cs)
      (hc:∀(j:Nat) (c:D),cs[j]? =some c→M.cell b (base+j)=some (vs j)) (hr:∀(j:Nat) (c:D),cs[j]? =some c→b7 M.bare c (vs j)):
      b7 M (.eL dyn x off) (.pointer (some ⟨b,base+off,none⟩))
  |gl {M:MM} {id b:Nat} (h:M.box id=some b):b7 M (.gl id) (.map (some b))
  |jx {M:MM} {id b:Nat} (h:M.box id=some b):b7 M (.jx id) (.func (.yield b) #[] #[])
  |dm {M:MM} {id sz n b cap:Nat} (h:M.box id=some b) (hh:M.bX id sz=some (.slice (some ⟨b,0,none⟩) n cap)) (hc:n≤cap):b7 M (.dm id sz n) (.slice (some ⟨b,0,none⟩) n cap)
  |sub {M:MM} {id off sz n b o2 c:Nat} {cp:Option Nat} (h:M.box id=some b) (hc:n≤c) (hp:∀k,cp=some k→c=k) (ho:n≠0→o2=off):b7 M (.sub id off sz n cp) (.slice (some ⟨b,o2,none⟩) n c)
  | aY {M : MM} {o : ln} {sz : Nat} {xs : List D} {a : Option Addr} {len cap : Nat} (b off : Nat) (vs : Nat → Nat → Value)
      (hl:xs.length=len) (TZ:len≤cap) (ha:xs≠ []→a=some ⟨b,off,none⟩)
      (T8:∀(i:Nat) (x:D),xs[i]? =some x→∃cs:List D,x.cells=some cs∧cs.length=sz)
      (hc:∀(i:Nat) (x:D) (cs:List D) (j:Nat) (c:D),xs[i]? =some x→x.cells=some cs→cs[j]? =some c→M.cell b (off+i*sz+j)=some (vs i j))
      (hr:∀(i:Nat) (x:D) (cs:List D) (j:Nat) (c:D),xs[i]? =some x→x.cells=some cs→cs[j]? =some c→b7 M.bare c (vs i j))
      (T5:∀(i:Nat) (x:D) (cs:List D) (c:D),xs[i]? =some x→x.cells=some cs→c∈cs→storable c=true)
      (ho:M.pR o a len cap):b7 M (.aY o sz xs) (.slice a len cap)
  |b6 {M:MM} :b7 M .b6 .nilFunc
  | fn {M : MM} {f : Fn} {first cap : List D} {fv cv : Array Value} (h1 : first.length = fv.size) (h2 : cap.length = cv.size)
      (r1:∀(i:Nat) (d:D) (v:Value),first[i]? =some d→fv[i]? =some v→b7 M d v) (r2:∀(i:Nat) (d:D) (v:Value),cap[i]? =some d→cv[i]? =some v→b7 M d v):
      b7 M (.fn f first cap) (.func f fv cv)
  | agg {M : MM} {cs : List D} {vs : Array Value} (h : cs.length = vs.size) (r : ∀ (i : Nat) (d : D) (v : Value), cs[i]? = some d → vs[i]? = some v → b7 M d v) :
      b7 M (.agg cs) (.agg vs)
  | aL {M : MM} {cs : List D} {vs : Array Value} (h : cs.length = vs.size) (r : ∀ (i : Nat) (d : D) (v : Value), cs[i]? = some d → vs[i]? = some v → b7 M d v) :
      b7 M (.aL cs) (.tuple vs)
structure MM.Le (M M':MM):Prop where
  cell:∀b o v,M.cell b o=some v→M'.cell b o=some v
  box:∀id b,M.box id=some b→M'.box id=some b
  bX:∀t v x,M.bX t v=some x→M'.bX t v=some x
  fM:∀b,M.fM b→M'.fM b
theorem MM.Le.refl (M:MM):M.Le M:=⟨fun _ _ _ h=>h,fun _ _ h=>h,fun _ _ _ h=>h,fun _ h=>h⟩
theorem MM.Le.trans {A B C:MM} (h:A.Le B) (k:B.Le C):A.Le C:=
 ⟨fun b o v x=>k.cell b o v (h.cell b o v x),fun i b x=>k.box i b (h.box i b x),fun t v x y=>k.bX t v x (h.bX t v x y),fun b x=>k.fM b (h.fM b x)⟩
theorem MM.Le.bare {A B:MM} (h:A.Le B):A.bare.Le B.bare:=⟨h.cell,fun _ _ x=>x,fun _ _ _ x=>x,fun _ x=>x⟩
theorem MM.GU {M M':MM} (h:M.Le M'):∀ {o:ln} {a:Option Addr} {l c:Nat},M.pR o a l c→M'.pR o a l c
 | .no,_,_,_,x=>x
 | .fresh _,_,_,_,x=>x
 | .tight,_,_,_,x=>x
 | .tok _ _,_,_,_,x=>h.bX _ _ _ x
theorem b7.mono {M:MM} {d:D} {v:Value} (h:b7 M d v):∀ {M':MM},M.Le M'→b7 M' d v:=by
 induction h with
 |undef v=>exact fun _=> .undef v
 |int k n=>exact fun _=> .int k n
 |bool b=>exact fun _=> .bool b
 |str s=>exact fun _=> .str s
 |fW=>exact fun _=> .fW
 |ptr q h=>exact fun le=> .ptr q (le.box _ _ h)
 |eL q vs hx hc hr ih=>exact fun le=> .eL q vs hx (fun j c h=>le.cell _ _ _ (hc j c h)) (fun j c h=>ih j c h le.bare)
 |gl h=>exact fun le=> .gl (le.box _ _ h)
 |jx h=>exact fun le=> .jx (le.box _ _ h)
 |dm h hh hc=>exact fun le=> .dm (le.box _ _ h) (le.bX _ _ _ hh) hc
 |sub h hc hp ho=>exact fun le=> .sub (le.box _ _ h) hc hp ho
 |aY b off vs hl TZ ha T8 hc hr T5 ho ih=>
  exact fun le=> .aY b off vs hl TZ ha T8 (fun i x cs j c h1 h2 h3=>le.cell _ _ _ (hc i x cs j c h1 h2 h3)) (fun i x cs j c h1 h2 h3=>ih i x cs j c h1 h2 h3 le.bare) T5 (MM.GU le ho)
 |b6=>exact fun _=> .b6
 |fn h1 h2 r1 r2 i1 i2=>exact fun le=> .fn h1 h2 (fun i d v a b=>i1 i d v a b le) (fun i d v a b=>i2 i d v a b le)
 |agg h r ih=>exact fun le=> .agg h (fun i d v a b=>ih i d v a b le)
 |aL h r ih=>exact fun le=> .aL h (fun i d v a b=>ih i d v a b le)
def ln.bg:ln→ln
  | .tight=> .tight
  |_=> .no
mutual
def D.bg:D→D
  | .aY o sz xs=> .aY o.bg sz xs
  | .agg cs=> .agg (D.ja cs)
  | .aL cs=> .aL (D.ja cs)
  | .fn f a b=> .fn f (D.ja a) (D.ja b)
  |d=>d
def D.ja:List D→List D
  | []=> []
  |d::r=>d.bg::D.ja r
end
mutual
def D.clean:D→Bool
  | .undef=>false
  | .ptr _ _ _=>false
  | .eL _ _ _=>false
  | .gl _=>false
  | .jx _=>false
  | .dm _ _ _=>false
  | .sub _ _ _ _ _=>false
  | .agg cs=>D.kM cs
  | .aL cs=>D.kM cs
  | .fn _ a b=>D.kM a&&D.kM b
  |_=>true
def D.kM:List D→Bool
  | []=>true
  |d::r=>d.clean&&D.kM r
end
theorem D.gI (l:List D):D.ja l=l.map D.bg:=by
 induction l with
 |nil=>simp [D.ja]
 |cons d r ih=>simp [D.ja,ih]
theorem D.jT (l:List D):D.kM l=l.all D.clean:=by
 induction l with
 |nil=>simp [D.kM]
 |cons d r ih=>simp [D.kM,ih]
theorem b7.pF {M:MM} {d:D} {v:Value} (h:b7 M d v):d.clean=true→b7 M.bare d.bg v:=by
 induction h with
 |undef v=>intro c;simp [D.clean] at c
 |int k n=>intro _;exact .int k n
 |bool b=>intro _;exact .bool b
 |str s=>intro _;exact .str s
 |fW=>intro _;exact .fW
 |ptr q h=>intro c;simp [D.clean] at c
 |eL q vs hx hc hr ih=>intro c;simp [D.clean] at c
 |gl h=>intro c;simp [D.clean] at c
 |jx h=>intro c;simp [D.clean] at c
 |dm h hh hc=>intro c;simp [D.clean] at c
 |sub h hc hp ho=>intro c;simp [D.clean] at c
 |aY b off vs hl TZ ha T8 hc hr T5 ho ih=>
  rename_i o _ _ _ _ _
  intro _
  rw [D.bg]
  refine .aY b off vs hl TZ ha T8 hc hr T5 ?_
  cases o<;>first|trivial|exact ho
 |b6=>intro _;exact .b6
 |fn h1 h2 r1 r2 i1 i2=>
  intro c
  rw [D.clean,D.jT,D.jT,aae,aaO,aaO] at c
  rw [D.bg,D.gI,D.gI]
  refine .fn (by simpa using h1) (by simpa using h2) ?_ ?_
  ·intro i d v a b
   rw [aau,aat] at a
   obtain ⟨d0,h0,rfl⟩:=a
   exact i1 i d0 v h0 b (c.1 _ (aaD h0))
  ·intro i d v a b
   rw [aau,aat] at a
   obtain ⟨d0,h0,rfl⟩:=a
   exact i2 i d0 v h0 b (c.2 _ (aaD h0))
 |agg h r ih=>
  intro c
  rw [D.clean,D.jT,aaO] at c
  rw [D.bg,D.gI]
  refine .agg (by simpa using h) ?_
  intro i d v a b
  rw [aau,aat] at a
  obtain ⟨d0,h0,rfl⟩:=a
  exact ih i d0 v h0 b (c _ (aaD h0))
 |aL h r ih=>
  intro c
  rw [D.clean,D.jT,aaO] at c
  rw [D.bg,D.gI]
  refine .aL (by simpa using h) ?_
  intro i d v a b
  rw [aau,aat] at a
  obtain ⟨d0,h0,rfl⟩:=a
  exact ih i d0 v h0 b (c _ (aaD h0))
theorem b7.QL {M:MM} {d:D} {v:Value} (h:b7 M d v):∀ {f:Nat→Prop},b7 { M with fM:=f } d v:=by
 induction h with
 |undef v=>exact fun {f} => .undef v
 |int k n=>exact fun {f} => .int k n
 |bool b=>exact fun {f} => .bool b
 |str s=>exact fun {f} => .str s
 |fW=>exact fun {f} => .fW
 |ptr q h=>exact fun {f} => .ptr q h
 |eL q vs hx hc hr ih=>exact fun {f} => .eL q vs hx hc hr
 |gl h=>exact fun {f} => .gl h
 |jx h=>exact fun {f} => .jx h
 |dm h hh hc=>exact fun {f} => .dm h hh hc
 |sub h hc hp ho=>exact fun {f} => .sub h hc hp ho
 |aY b off vs hl TZ ha T8 hc hr T5 ho ih=>
  rename_i o _ _ _ _ _
  refine fun {f} => .aY b off vs hl TZ ha T8 hc hr T5 ?_
  cases o<;>first|trivial|exact ho
 |b6=>exact fun {f} => .b6
 |fn h1 h2 r1 r2 i1 i2=>exact fun {f} => .fn h1 h2 (fun i d v a b=>i1 i d v a b) (fun i d v a b=>i2 i d v a b)
 |agg h r ih=>exact fun {f} => .agg h (fun i d v a b=>ih i d v a b)
 |aL h r ih=>exact fun {f} => .aL h (fun i d v a b=>ih i d v a b)
theorem MM.lV (M:MM):M.bare.Le M:=⟨fun _ _ _ h=>h,fun _ _ h=>by simp [MM.bare] at h,fun _ _ _ h=>by simp [MM.bare] at h,fun _ h=>h.elim⟩
def ln.low:ln→Bool
  | .no=>true
  | .tight=>true
  |_=>false
mutual
def D.plain:D→Bool
  | .undef=>false
  | .ptr _ _ _=>false
  | .eL _ _ _=>false
  | .gl _=>false
  | .jx _=>false
  | .dm _ _ _=>false
  | .sub _ _ _ _ _=>false
  | .aY o _ _=>o.low
  | .agg cs=>D.j3 cs
  | .aL cs=>D.j3 cs
  | .fn _ a b=>D.j3 a&&D.j3 b
  |_=>true
def D.j3:List D→Bool
  | []=>true
  |d::r=>d.plain&&D.j3 r
end
theorem D.ng (l:List D):D.j3 l=l.all D.plain:=by
 induction l with
 |nil=>simp [D.j3]
 |cons d r ih=>simp [D.j3,ih]
theorem b7.MJ {M:MM} {d:D} {v:Value} (h:b7 M d v):d.plain=true→b7 M.bare d v:=by
 induction h with
 |undef v=>intro c;simp [D.plain] at c
 |int k n=>intro _;exact .int k n
 |bool b=>intro _;exact .bool b
 |str s=>intro _;exact .str s
 |fW=>intro _;exact .fW
 |ptr q h=>intro c;simp [D.plain] at c
 |eL q vs hx hc hr ih=>intro c;simp [D.plain] at c
 |gl h=>intro c;simp [D.plain] at c
 |jx h=>intro c;simp [D.plain] at c
 |dm h hh hc=>intro c;simp [D.plain] at c
 |sub h hc hp ho=>intro c;simp [D.plain] at c
 |aY b off vs hl TZ ha T8 hc hr T5 ho ih=>
  rename_i o _ _ _ _ _
  intro c
  refine .aY b off vs hl TZ ha T8 hc hr T5 ?_
  rw [D.plain] at c
  cases o<;>first|exact ho|(simp [ln.low] at c)
 |b6=>intro _;exact .b6
 |fn h1 h2 r1 r2 i1 i2=>
  intro c
  rw [D.plain,D.ng,D.ng,aae,aaO,aaO] at c
  exact .fn h1 h2 (fun i d v a b=>i1 i d v a b (c.1 _ (aaD a))) (fun i d v a b=>i2 i d v a b (c.2 _ (aaD a)))
 |agg h r ih=>
  intro c
  rw [D.plain,D.ng,aaO] at c
  exact .agg h (fun i d v a b=>ih i d v a b (c _ (aaD a)))
 |aL h r ih=>
  intro c
  rw [D.plain,D.ng,aaO] at c
  exact .aL h (fun i d v a b=>ih i d v a b (c _ (aaD a)))
mutual
theorem pw:∀ {d:D},d.clean=true→d.bg.plain=true
  | .undef,h=>by simp [D.clean] at h
  | .int _ _,_=>by simp [D.bg,D.plain]
  | .bool _,_=>by simp [D.bg,D.plain]
  | .str _,_=>by simp [D.bg,D.plain]
  | .fW,_=>by simp [D.bg,D.plain]
  | .ptr _ _ _,h=>by simp [D.clean] at h
  | .eL _ _ _,h=>by simp [D.clean] at h
  | .gl _,h=>by simp [D.clean] at h
  | .jx _,h=>by simp [D.clean] at h
  | .dm _ _ _,h=>by simp [D.clean] at h
  | .sub _ _ _ _ _,h=>by simp [D.clean] at h
  | .aY o _ _,_=>by cases o<;>simp [D.bg,D.plain,ln.bg,ln.low]
  | .b6,_=>by simp [D.bg,D.plain]
  | .fn _ a b,h=>by
    simp only [D.clean,aae] at h
    simp only [D.bg,D.plain,aae]
    exact ⟨iE h.1,iE h.2⟩
  | .agg cs,h=>by simp only [D.clean] at h;simp only [D.bg,D.plain];exact iE h
  | .aL cs,h=>by simp only [D.clean] at h;simp only [D.bg,D.plain];exact iE h
theorem iE:∀ {l:List D},D.kM l=true→D.j3 (D.ja l)=true
  | [],_=>by simp [D.ja,D.j3]
  |d::r,h=>by
    simp only [D.kM,aae] at h
    simp only [D.ja,D.j3,aae]
    exact ⟨pw h.1,iE h.2⟩
end
theorem b7.flag {M:MM} {o:ln} {sz:Nat} {xs:List D} {a:Option Addr} {len cap:Nat} (h:b7 M (.aY o sz xs) (.slice a len cap)) (o':ln) (ho:M.pR o' a len cap):b7 M (.aY o' sz xs) (.slice a len cap):=by
 cases h with
 |aY b off vs hl TZ ha T8 hc hr T5 _=>exact .aY b off vs hl TZ ha T8 hc hr T5 ho
theorem b7.resize {M:MM} {o:ln} {sz size:Nat} {xs:List D} {v:Value} (h:b7 M (.aY o sz xs) v) (hs:sz=size∨xs= []):b7 M (.aY o size xs) v:=by
 rcases hs with rfl|rfl
 ·exact h
 ·cases h with
  |aY b off vs hl TZ ha T8 hc hr T5 ho=>exact .aY b off vs hl TZ ha (fun i x hx=>by simp at hx) (fun i x cs j c hx=>by simp at hx) (fun i x cs j c hx=>by simp at hx) T5 ho
def cy (M:MM) (cs:List D) (vs:Array Value):Prop:=cs.length=vs.size∧∀(i:Nat) (d:D) (v:Value),cs[i]? =some d→vs[i]? =some v→b7 M d v
theorem cy.mono {M M':MM} {cs:List D} {vs:Array Value} (h:cy M cs vs) (le:M.Le M'):cy M' cs vs:=⟨h.1,fun i d v a b=>(h.2 i d v a b).mono le⟩
theorem b7.cells {M:MM} {x:D} {v:Value} (h:b7 M x v) {cs:List D} (hx:x.cells=some cs):cy M cs v.cells:=by
 have one:∀ {d:D} {u:Value},b7 M d u→u.cells= #[u]→cy M [d] u.cells:=by
  intro d u r e
  rw [e]
  refine ⟨rfl,fun i d' v' a b=> ?_⟩
  cases i with
  |zero=>simp at a b;subst a b;exact r
  |succ i=>simp at a
 cases h with
 |undef v=>cases hx
 |int k n=>cases hx;exact one (.int _ _) rfl
 |bool b=>cases hx;exact one (.bool _) rfl
 |str t=>cases hx;exact one (.str _) rfl
 |fW=>cases hx;exact one .fW rfl
 |ptr q hb=>cases hx;exact one (.ptr q hb) rfl
 |eL q vs hy hc hr=>cases hx;exact one (.eL q vs hy hc hr) rfl
 |gl h=>cases hx;exact one (.gl h) rfl
 |jx h=>cases hx;exact one (.jx h) rfl
 |dm h hh hc=>cases hx;exact one (.dm h hh hc) rfl
 |sub h hc hp ho=>cases hx;exact one (.sub h hc hp ho) rfl
 |aY b off vs hl TZ ha T8 hc hr T5 ho=>cases hx;exact one (.aY b off vs hl TZ ha T8 hc hr T5 ho) rfl
 |b6=>cases hx;exact one .b6 rfl
 |fn h1 h2 r1 r2=>cases hx;exact one (.fn h1 h2 r1 r2) rfl
 |agg hl hr=>cases hx;exact ⟨hl,hr⟩
 |aL hl hr=>cases hx
inductive LK where
  |bool
  |int (k:abz)
  |str
def LK.th:LK→Value→Prop
  | .bool,.bool _=>True
  | .int k,.int k' _=>k=k'
  | .str,.string _=>True
  |_,_=>False
def ev:List LK→List Value→Prop
  | [],[]=>True
  |k::ks,d::ds=>k.th d∧ev ks ds
  |_,_=>False
inductive Lk where
  |ready
  |busy
  |ret
  |exit (i:Nat)
def Lk.state:Lk→LoopState
  | .ready=> .ready
  | .busy=> .busy
  |_=> .done
def Lk.MF:Lk→Option Code
  | .ret=>some .ret
  | .exit i=>some (.exit i)
  |_=>none
inductive Ob where
  |dead
  |box (cs:List D)
  |dD (ver sz:Nat)
  |mp (k:abz) (es:List (Int×D))
  |mf (ks:List LK) (es:List (List D×D))
  |lp (k:Lk) (t:List D) (ps:Array Nat) (ag bd:Code)
def oE:D→Option Value
  | .int k n=>some (.int k n)
  | .bool b=>some (.bool b)
  | .str s=>some (.string s)
  |_=>none
def ti (k:abz):List (Int×D)→List MapEntry→Prop
  | [],[]=>True
  |(n,d)::r,e::s=>e.key= .int k n∧oE d=some e.val∧ti k r s
  |_,_=>False
def Jz:List D→Option (List Value)
  | []=>some []
  |d::r=>match oE d,Jz r with
    |some v,some l=>some (v::l)
    |_,_=>none
def N5 (ks:List LK):List (List D×D)→List MapEntry→Prop
  | [],[]=>True
  |(n,d)::r,e::s=>(∃vs:Array Value,e.key= .agg vs∧Jz n=some vs.toList∧ev ks vs.toList)∧oE d=some e.val∧N5 ks r s
  |_,_=>False
def oa (l:List MapEntry) (c:Nat):Prop:=c=l.length∧∀(i:Nat) (e:MapEntry),l[i]? =some e→e.born=i
def Ob.C4:Ob→Option (List MapEntry→Nat→Prop)
  | .mp k es=>some fun l c=>ti k es l∧oa l c
  | .mf ks es=>some fun l c=>N5 ks es l∧oa l c
  |_=>none
def gK (σ:Nat→Ob) (id:Nat) (o:Ob):Nat→Ob:=fun i=>if i=id then o else σ i
theorem bw (σ:Nat→Ob) (id:Nat) (o:Ob):gK σ id o id=o:=by simp [gK]
theorem br {σ:Nat→Ob} {id i:Nat} {o:Ob} (h:i≠id):gK σ id o i=σ i:=by simp [gK,h]
def mq (fz:Nat×Nat) (n:Nat):Prop:= ∀o,o<n→¬(fz.1≤o∧o<fz.2)
structure eJ where
  w:World
  C:Nat→Nat→Option Value
  X:Nat→Prop
structure Kept (X:Nat→Prop) (w w':World):Prop where
  os:w'.os=w.os
  tape:w'.tape=w.tape
  output:w'.output=w.output
  size:w.heap.size≤w'.heap.size
  block:∀k,X k→w'.heap[k]? =w.heap[k]?
  lt:∀k,X k→k<w.heap.size
theorem Kept.PZ {X:Nat→Prop} {w w':World} (h:Kept X w w') {k:Nat} (hk:X k):k<w'.heap.size:=Nat.lt_of_lt_of_le (h.lt k hk) h.size
theorem Kept.new {X:Nat→Prop} {w w':World} (h:Kept X w w'):¬X w'.heap.size:=fun k=>Nat.lt_irrefl _ (h.PZ k)
theorem Kept.ext {X:Nat→Prop} {a w w':World} (h:Kept X a w) (k:Below w.heap.size w w'):Kept X a w':=
 ⟨k.os.trans h.os,k.tape.trans h.tape,k.output.trans h.output,Nat.le_trans h.size k.size,fun i hi=>(k.block i (h.PZ hi)).trans (h.block i hi),h.lt⟩
theorem Kept.drew {X:Nat→Prop} {a w:World} (h:Kept X a w):Kept X a w.drew:=⟨h.os,h.tape,h.output,h.size,h.block,h.lt⟩
theorem Kept.alloc {X:Nat→Prop} {a w:World} (h:Kept X a w) (o:Obj):Kept X a (w.alloc o):=h.ext ((Below.refl _ _).alloc (aar _) o)
theorem Kept.of (w:World):Kept (fun k=>k<w.heap.size) w w:=⟨rfl,rfl,rfl,aar _,fun _ _=>rfl,fun _ h=>h⟩
theorem Kept.below {w w':World} (h:Kept (fun k=>k<w.heap.size) w w'):Below w.heap.size w w':=⟨h.os,h.tape,h.output,h.size,h.block⟩
structure tV (w0:eJ) (M:MM) (own:Nat→Option Nat) (id:Nat) (cs:List D) (w:World) (b:Nat) (vs:Array Value) (ty:TypeId):Prop where
  box:M.box id=some b
  base:¬w0.X b
  own:own b=some id
  none:∀o,M.cell b o=none
  dI:w.heap[b]? =some (.cells vs ty (0,0))
  len:cs.length≤vs.size
  rep:∀(i:Nat) (d:D) (v:Value),cs[i]? =some d→vs[i]? =some v→b7 M d v
  room:∀sz a len cap,M.bX id sz=some (.slice a len cap)→cap*sz≤vs.size
structure N9 (w0:eJ) (M:MM) (own:Nat→Option Nat) (id:Nat) (F:List MapEntry→Nat→Prop) (w:World) (b:Nat) (T3:Array MapEntry) (clock:Nat):Prop where
  box:M.box id=some b
  base:¬w0.X b
  own:own b=some id
  none:∀o,M.cell b o=none
  dI:w.heap[b]? =some (.map T3 clock)
  fits:F T3.toList clock
structure LU (w0:eJ) (M:MM) (own:Nat→Option Nat) (id:Nat) (k:Lk) (t:List D) (ps:Array Nat) (ag bd:Code) (w:World) (l:Nat) (r:Loop):Prop where
  box:M.box id=some l
  base:¬w0.X l
  own:own l=some id
  dI:w.heap[l]? =some (.loop r)
  st:r.state=k.state
  pd:k≠ .busy→r.pending=k.MF
  tm:cy M t r.tmps
  ps:r.params=ps
  ag:r.assign=ag
  bd:r.body=bd
structure tR (w0:eJ) (M:MM) (own:Nat→Option Nat) (id sz:Nat) (w:World) (len cap b:Nat) (vs:Array Value) (ty:TypeId) (fz:Nat×Nat):Prop where
  base:¬w0.X b
  own:own b=some id
  dI:w.heap[b]? =some (.cells vs ty fz)
  fz:mq fz vs.size
  cap:cap*sz≤vs.size∧cap≤9223372036854775807
  none:∀o,len*sz≤o→M.cell b o=none
structure Rf (w0:eJ) (M:MM) (own:Nat→Option Nat) (id ver sz:Nat) (w:World) (a:Option Addr) (len cap:Nat):Prop where
  bX:M.bX id ver=some (.slice a len cap)
  last:∀v,ver<v→M.bX id v=none
  room:cap=len∨∃b vs ty fz,a=some ⟨b,0,none⟩∧tR w0 M own id sz w len cap b vs ty fz
structure ca (w0:eJ) (M:MM) (own:Nat→Option Nat) (σ:Nat→Ob) (w:World):Prop where
  below:Kept w0.X w0.w w
  cells:∀b o v,M.cell b o=some v→w.cell? ⟨b,o,none⟩=some v
  mj:∀b o v,M.cell b o=some v→w0.X b→w0.C b o=some v
  owned:∀b id,own b=some id→b<w.heap.size
  box:∀id cs,σ id= .box cs→∃b vs ty,tV w0 M own id cs w b vs ty
  dD:∀id ver sz,σ id= .dD ver sz→∃a len cap,Rf w0 M own id ver sz w a len cap
  mp:∀id F,(σ id).C4=some F→∃b T3 clock,N9 w0 M own id F w b T3 clock
  lp:∀id k t ps ag bd,σ id= .lp k t ps ag bd→∃l r,LU w0 M own id k t ps ag bd w l r
  fM:∀b,M.fM b→¬w0.X b∧w.heap[b]? =some (.deferred (some []))
theorem LU.aU {w0:eJ} {M M':MM} {own TW:Nat→Option Nat} {id:Nat} {k:Lk} {t:List D} {ps:Array Nat} {ag bd:Code} {w w':World} {l:Nat} {r:Loop} (h:LU w0 M own id k t ps ag bd w l r) (le:M.Le M') (ho:TW l=some id) (hb:w'.heap[l]? =some (.loop r)):LU w0 M' TW id k t ps ag bd w' l r:=
 ⟨le.box _ _ h.box,h.base,ho,hb,h.st,h.pd,h.tm.mono le,h.ps,h.ag,h.bd⟩
structure Ext (M:MM) (w:World) (M':MM) (w':World):Prop where
  below:Below w.heap.size w w'
  cell:∀b o v,M.cell b o=some v→M'.cell b o=some v
  only:∀b o v,M'.cell b o=some v→b<w.heap.size→M.cell b o=some v
  cells:∀b o v,M'.cell b o=some v→w'.cell? ⟨b,o,none⟩=some v
theorem j7 {w w':World} (h:Below w.heap.size w w') {b:Nat} {o:Obj} (hb:w.heap[b]? =some o):w'.heap[b]? =some o:=by
 rw [h.block b ?_,hb]
 rcases aaA b w.heap.size with h|h
 ·exact h
 ·simp [Array.getElem?_eq_none h] at hb
theorem fj {w:World} {b:Nat} {o:Obj} (hb:w.heap[b]? =some o):b<w.heap.size:=by
 rcases aaA b w.heap.size with h|h
 ·exact h
 ·simp [Array.getElem?_eq_none h] at hb
theorem lN {C C':Nat→Nat→Option Value} {n b o:Nat} (only:∀b o v,C' b o=some v→b<n→C b o=some v) (hb:b<n) (h:C b o=none):C' b o=none:=by
 cases e:C' b o with
 |none=>rfl
 |some v=>rw [only b o v e hb] at h;cases h
theorem ca.ext {w0:eJ} {w w':World} {M M':MM} {own:Nat→Option Nat} {σ:Nat→Ob} (h:ca w0 M own σ w) (e:Ext M w M' w')
  (WG:M'.box=M.box) (UN:M'.bX=M.bX) (Wd:M'.fM=M.fM):ca w0 M' own σ w'∧M.Le M':=by
 have le:M.Le M':=⟨e.cell,fun id b h=>by rw [WG];exact h,fun t v x h=>by rw [UN];exact h,fun b h=>by rw [Wd];exact h⟩
 refine ⟨⟨?_,e.cells,?_,?_,?_,?_,?_,?_,?_⟩,le⟩
 ·exact h.below.ext e.below
 ·exact fun b o v k hb=>h.mj b o v (e.only b o v k (h.below.PZ hb)) hb
 ·exact fun b id k=>Nat.lt_of_lt_of_le (h.owned b id k) e.below.size
 ·intro id cs hs
  obtain ⟨b,vs,ty,k⟩:=h.box id cs hs
  exact ⟨b,vs,ty,by rw [WG];exact k.box,k.base,k.own,fun o=>lN e.only (fj k.dI) (k.none o),j7 e.below k.dI,k.len,fun i d v a b=>(k.rep i d v a b).mono le,fun sz a len cap q=>k.room sz a len cap (UN▸q)⟩
 ·intro id ver sz hs
  obtain ⟨a,len,cap,k⟩:=h.dD id ver sz hs
  refine ⟨a,len,cap,by rw [UN];exact k.bX,by rw [UN];exact k.last,?_⟩
  rcases k.room with r|⟨b,vs,ty,fz,ha,r⟩
  ·exact .inl r
  ·exact .inr ⟨b,vs,ty,fz,ha,r.base,r.own,j7 e.below r.dI,r.fz,r.cap,fun o ho=>lN e.only (fj r.dI) (r.none o ho)⟩
 ·intro id F hs
  obtain ⟨b,T3,clock,q⟩:=h.mp id F hs
  exact ⟨b,T3,clock,by rw [WG];exact q.box,q.base,q.own,fun o=>lN e.only (fj q.dI) (q.none o),j7 e.below q.dI,q.fits⟩
 ·intro id k t ps ag bd hs
  obtain ⟨l,r,q⟩:=h.lp id k t ps ag bd hs
  exact ⟨l,r,q.aU le q.own (j7 e.below q.dI)⟩
 ·intro b hb
  rw [Wd] at hb
  exact ⟨(h.fM b hb).1,j7 e.below (h.fM b hb).2⟩
theorem ca.drew {w0:eJ} {w:World} {M:MM} {own:Nat→Option Nat} {σ:Nat→Ob} (h:ca w0 M own σ w):ca w0 M own σ w.drew:=
 ⟨h.below.drew,h.cells,h.mj,h.owned,fun id cs e=>let ⟨b,vs,ty,k⟩:=h.box id cs e;⟨b,vs,ty,k.box,k.base,k.own,k.none,k.dI,k.len,k.rep,k.room⟩,
  fun id ver sz e=>let ⟨a,len,cap,k⟩:=h.dD id ver sz e;⟨a,len,cap,k.bX,k.last,k.room.imp (fun x=>x) fun ⟨b,vs,ty,fz,ha,r⟩=>⟨b,vs,ty,fz,ha,r.base,r.own,r.dI,r.fz,r.cap,r.none⟩⟩,
  fun id F e=>let ⟨b,T3,clock,q⟩:=h.mp id F e;⟨b,T3,clock,q.box,q.base,q.own,q.none,q.dI,q.fits⟩,
  fun id k t ps ag bd e=>let ⟨l,r,q⟩:=h.lp id k t ps ag bd e;⟨l,r,q.aU (.refl _) q.own q.dI⟩,fun b hb=>⟨(h.fM b hb).1,(h.fM b hb).2⟩⟩
theorem ca.kill {w0:eJ} {w:World} {M:MM} {own:Nat→Option Nat} {σ:Nat→Ob} (h:ca w0 M own σ w) (id:Nat):ca w0 M own (gK σ id .dead) w:=by
 refine ⟨h.below,h.cells,h.mj,h.owned,?_,?_,?_,?_,h.fM⟩
 ·intro i cs hi
  by_cases e:i=id
  ·rw [e,bw] at hi;cases hi
  ·rw [br e] at hi;exact h.box i cs hi
 ·intro i v sz hi
  by_cases e:i=id
  ·rw [e,bw] at hi;cases hi
  ·rw [br e] at hi;exact h.dD i v sz hi
 ·intro i F hi
  by_cases e:i=id
  ·rw [e,bw] at hi;cases hi
  ·rw [br e] at hi;exact h.mp i F hi
 ·intro i k t ps ag bd hi
  by_cases e:i=id
  ·rw [e,bw] at hi;cases hi
  ·rw [br e] at hi;exact h.lp i k t ps ag bd hi
def MM.cL (M:MM) (id b:Nat):MM:= { M with box:=fun i=>if i=id then some b else M.box i }
def MM.bM (M:MM) (id ver:Nat) (v:Value):MM:= { M with bX:=fun i k=>if i=id∧k=ver then some v else M.bX i k }
def MM.cn (M:MM) (b:Nat) (f:Nat→Option Value):MM:= { M with cell:=fun c o=>if c=b then f o else M.cell c o }
def gy (own:Nat→Option Nat) (b id:Nat):Nat→Option Nat:=fun c=>if c=b then some id else own c
theorem MM.fX {M:MM} {id b:Nat} (h:M.box id=none):M.Le (M.cL id b):=
 ⟨fun _ _ _ h=>h,fun i c k=>by by_cases e:i=id;(· rw [e,h] at k;cases k);(· simp [cL,e,k]),fun _ _ _ h=>h,fun _ h=>h⟩
theorem MM.eY {M:MM} {id ver:Nat} {v:Value} (h:M.bX id ver=none):M.Le (M.bM id ver v):=
 ⟨fun _ _ _ h=>h,fun _ _ h=>h,fun i k x e=>by
  by_cases c:i=id∧k=ver
  ·rw [c.1,c.2,h] at e;cases e
  ·simp only [bM,c,if_false];exact e,fun _ h=>h⟩
theorem dZ {w:World} {M:MM} (hc:∀b o v,M.cell b o=some v→w.cell? ⟨b,o,none⟩=some v) {b:Nat} (hb:w.heap.size≤b) (o:Nat):M.cell b o=none:=by
 cases e:M.cell b o with
 |none=>rfl
 |some v=>
  have:=abm w _ (hc b o v e)
  have:b<w.heap.size:=this
  omega
theorem ca.CW {w0:eJ} {w:World} {M:MM} {own:Nat→Option Nat} {σ:Nat→Ob} (h:ca w0 M own σ w) {id:Nat} (UB:M.box id=none) (hh:∀v,M.bX id v=none) {cs:List D} {vs:Array Value} (ty:TypeId)
  (hl:cs.length≤vs.size) (hr:∀(i:Nat) (d:D) (v:Value),cs[i]? =some d→vs[i]? =some v→b7 M d v):
  ca w0 (M.cL id w.heap.size) (gy own w.heap.size id) (gK σ id (.box cs)) (w.alloc (.cells vs ty)):=by
 have le:=MM.fX (b:=w.heap.size) UB
 have Uo:∀o,M.cell w.heap.size o=none:=dZ h.cells (aar _)
 have hold:∀ {b:Nat} {o:Obj},w.heap[b]? =some o→(w.alloc (.cells vs ty)).heap[b]? =some o:=fun {b o} hb=>by
  rw [Below.heap_alloc _ _ _ (fj hb),hb]
 have Ur:∀ {b i:Nat},own b=some i→gy own w.heap.size id b=some i:=fun {b i} k=>by
  have:=h.owned b i k
  simp [gy,show b≠w.heap.size by omega,k]
 refine ⟨h.below.alloc _,?_,h.mj,?_,?_,?_,?_,?_,?_⟩
 ·intro b o v k
  have k':M.cell b o=some v:=k
  rw [World.cell?_alloc_lt]
  ·exact h.cells b o v k'
  ·exact abm w _ (h.cells b o v k')
 ·intro b i k
  rw [World.size_alloc]
  by_cases e:b=w.heap.size
  ·omega
  ·simp only [gy,e,if_false] at k
   have:=h.owned b i k
   omega
 ·intro i Us hi
  by_cases e:i=id
  ·subst e
   rw [bw] at hi
   cases hi
   refine ⟨w.heap.size,vs,ty,by simp [MM.cL],h.below.new,by simp [gy],Uo,?_,hl,fun j d v a b=>(hr j d v a b).mono le,fun sz a len cap q=>by have q':M.bX i sz=_:=q;rw [hh] at q';cases q'⟩
   show (w.heap.push _)[w.heap.size]? =_
   simp
  ·rw [br e] at hi
   obtain ⟨b,vs',ty',k⟩:=h.box i Us hi
   exact ⟨b,vs',ty',le.box _ _ k.box,k.base,Ur k.own,k.none,hold k.dI,k.len,fun j d v a b=>(k.rep j d v a b).mono le,k.room⟩
 ·intro i ver sz hi
  by_cases e:i=id
  ·rw [e,bw] at hi;cases hi
  ·rw [br e] at hi
   obtain ⟨a,len,cap,k⟩:=h.dD i ver sz hi
   refine ⟨a,len,cap,k.bX,k.last,?_⟩
   rcases k.room with r|⟨b,vs',ty',fz,ha,r⟩
   ·exact .inl r
   ·exact .inr ⟨b,vs',ty',fz,ha,r.base,Ur r.own,hold r.dI,r.fz,r.cap,r.none⟩
 ·intro i F hi
  by_cases e:i=id
  ·rw [e,bw] at hi;cases hi
  ·rw [br e] at hi
   obtain ⟨b,T3,clock,q⟩:=h.mp i F hi
   exact ⟨b,T3,clock,le.box _ _ q.box,q.base,Ur q.own,q.none,hold q.dI,q.fits⟩
 ·intro i k t ps ag bd hi
  by_cases e:i=id
  ·rw [e,bw] at hi;cases hi
  ·rw [br e] at hi
   obtain ⟨l,r,q⟩:=h.lp i k t ps ag bd hi
   exact ⟨l,r,q.aU le (Ur q.own) (hold q.dI)⟩
 ·intro b hb
  exact ⟨(h.fM b hb).1,hold (h.fM b hb).2⟩
theorem ca.Pa {w0:eJ} {w:World} {M:MM} {own:Nat→Option Nat} {σ:Nat→Ob} (h:ca w0 M own σ w) {id:Nat} (UB:M.box id=none) {o:Ob} {F0:List MapEntry→Nat→Prop} (ho:o.C4=some F0) (hF:F0 [] 0):
  ca w0 (M.cL id w.heap.size) (gy own w.heap.size id) (gK σ id o) (w.alloc (.map #[] 0)):=by
 have le:=MM.fX (b:=w.heap.size) UB
 have Uo:∀o,M.cell w.heap.size o=none:=dZ h.cells (aar _)
 have hold:∀ {b:Nat} {o:Obj},w.heap[b]? =some o→(w.alloc (.map #[] 0)).heap[b]? =some o:=fun {b o} hb=>by
  rw [Below.heap_alloc _ _ _ (fj hb),hb]
 have Ur:∀ {b i:Nat},own b=some i→gy own w.heap.size id b=some i:=fun {b i} k=>by
  have:=h.owned b i k
  simp [gy,show b≠w.heap.size by omega,k]
 refine ⟨h.below.alloc _,?_,h.mj,?_,?_,?_,?_,?_,?_⟩
 ·intro b o v k
  have k':M.cell b o=some v:=k
  rw [World.cell?_alloc_lt]
  ·exact h.cells b o v k'
  ·exact abm w _ (h.cells b o v k')
 ·intro b i k
  rw [World.size_alloc]
  by_cases e:b=w.heap.size
  ·omega
  ·simp only [gy,e,if_false] at k
   have:=h.owned b i k
   omega
 ·intro i Us hi
  by_cases e:i=id
  ·rw [e,bw] at hi;rw [hi] at ho;cases ho
  ·rw [br e] at hi
   obtain ⟨b,vs',ty',k⟩:=h.box i Us hi
   exact ⟨b,vs',ty',le.box _ _ k.box,k.base,Ur k.own,k.none,hold k.dI,k.len,fun j d v a b=>(k.rep j d v a b).mono le,k.room⟩
 ·intro i ver sz hi
  by_cases e:i=id
  ·rw [e,bw] at hi;rw [hi] at ho;cases ho
  ·rw [br e] at hi
   obtain ⟨a,len,cap,k⟩:=h.dD i ver sz hi
   refine ⟨a,len,cap,k.bX,k.last,?_⟩
   rcases k.room with r|⟨b,vs',ty',fz,ha,r⟩
   ·exact .inl r
   ·exact .inr ⟨b,vs',ty',fz,ha,r.base,Ur r.own,hold r.dI,r.fz,r.cap,r.none⟩
 ·intro i F hi
  by_cases e:i=id
  ·subst e
   rw [bw,ho] at hi
   cases hi
   refine ⟨w.heap.size,#[],0,by simp [MM.cL],h.below.new,by simp [gy],Uo,?_,hF⟩
   show (w.heap.push _)[w.heap.size]? =_
   simp
  ·rw [br e] at hi
   obtain ⟨b,T3,clock,q⟩:=h.mp i F hi
   exact ⟨b,T3,clock,le.box _ _ q.box,q.base,Ur q.own,q.none,hold q.dI,q.fits⟩
 ·intro i k' t ps ag bd hi
  by_cases e:i=id
  ·rw [e,bw] at hi;rw [hi] at ho;cases ho
  ·rw [br e] at hi
   obtain ⟨l,r,q⟩:=h.lp i k' t ps ag bd hi
   exact ⟨l,r,q.aU le (Ur q.own) (hold q.dI)⟩
 ·intro b hb
  exact ⟨(h.fM b hb).1,hold (h.fM b hb).2⟩
def cM (w:World) (b:Nat) (o:Obj):World:= { w with heap:=w.heap.setIfInBounds b o }
theorem gV {w:World} {b:Nat} {o p:Obj} (h:w.heap[b]? =some p):(cM w b o).heap[b]? =some o:=by
 have:=fj h
 simp [cM,this]
theorem bp {w:World} {b c:Nat} {o:Obj} (h:c≠b):(cM w b o).heap[c]? =w.heap[c]? :=by
 simp [cM,Array.getElem?_setIfInBounds_ne (Ne.symm h)]
theorem gR (w:World) (b:Nat) (o:Obj):(cM w b o).heap.size=w.heap.size:=by simp [cM]
theorem e8 {w:World} {b c o:Nat} {p:Obj} (h:c≠b):(cM w b p).cell? ⟨c,o,none⟩=w.cell? ⟨c,o,none⟩:=by
 simp [abk,bp h]
theorem ib {X:Nat→Prop} {w0 w:World} (h:Kept X w0 w) {b:Nat} (hb:¬X b) (o:Obj):Kept X w0 (cM w b o):=
 ⟨h.os,h.tape,h.output,by rw [gR];exact h.size,fun k hk=>by rw [bp (show k≠b from fun e=>hb (e▸hk))];exact h.block k hk,h.lt⟩
theorem ca.Jy {w0:eJ} {w:World} {M:MM} {own:Nat→Option Nat} {σ:Nat→Ob} (h:ca w0 M own σ w) {id b:Nat} {cs Us:List D} {vs vs':Array Value} {ty:TypeId}
  (k:tV w0 M own id cs w b vs ty) (hl:Us.length≤vs'.size) (hs:vs'.size=vs.size)
  (hr:∀(i:Nat) (d:D) (v:Value),Us[i]? =some d→vs'[i]? =some v→b7 M d v):
  ca w0 M own (gK σ id (.box Us)) (cM w b (.cells vs' ty (0,0))):=by
 refine ⟨ib h.below k.base _,?_,h.mj,?_,?_,?_,?_,?_,?_⟩
 ·intro c o v hc
  have:c≠b:=fun e=>by rw [e,k.none o] at hc;cases hc
  rw [e8 this]
  exact h.cells c o v hc
 ·intro c i hc;rw [gR];exact h.owned c i hc
 ·intro i Wf hi
  by_cases e:i=id
  ·subst e
   rw [bw] at hi
   cases hi
   exact ⟨b,vs',ty,k.box,k.base,k.own,k.none,gV k.dI,hl,hr,fun sz a len cap q=>by rw [hs];exact k.room sz a len cap q⟩
  ·rw [br e] at hi
   obtain ⟨c,vs2,ty2,k2⟩:=h.box i Wf hi
   have:c≠b:=fun ec=>by have h1:=k2.own;rw [ec,k.own] at h1;exact e (aad h1).symm
   exact ⟨c,vs2,ty2,k2.box,k2.base,k2.own,k2.none,by rw [bp this];exact k2.dI,k2.len,k2.rep,k2.room⟩
 ·intro i ver sz hi
  by_cases e:i=id
  ·rw [e,bw] at hi;cases hi
  ·rw [br e] at hi
   obtain ⟨a,len,cap,k2⟩:=h.dD i ver sz hi
   refine ⟨a,len,cap,k2.bX,k2.last,?_⟩
   rcases k2.room with r|⟨c,vs2,ty2,fz,ha,r⟩
   ·exact .inl r
   ·have:c≠b:=fun ec=>by have h1:=r.own;rw [ec,k.own] at h1;exact e (aad h1).symm
    exact .inr ⟨c,vs2,ty2,fz,ha,r.base,r.own,by rw [bp this];exact r.dI,r.fz,r.cap,r.none⟩
 ·intro i F hi
  by_cases e:i=id
  ·rw [e,bw] at hi;cases hi
  ·rw [br e] at hi
   obtain ⟨c,T3,clock,q⟩:=h.mp i F hi
   have:c≠b:=fun ec=>by have h1:=q.own;rw [ec,k.own] at h1;exact e (aad h1).symm
   exact ⟨c,T3,clock,q.box,q.base,q.own,q.none,by rw [bp this];exact q.dI,q.fits⟩
 ·intro i k2 t ps ag bd hi
  by_cases e:i=id
  ·rw [e,bw] at hi;cases hi
  ·rw [br e] at hi
   obtain ⟨l,r,q⟩:=h.lp i k2 t ps ag bd hi
   have:l≠b:=fun ec=>by have h1:=q.own;rw [ec,k.own] at h1;exact e (aad h1).symm
   exact ⟨l,r,q.aU (.refl _) q.own (by rw [bp this];exact q.dI)⟩
 ·intro c hc
  have:c≠b:=fun ec=>by have h1:=(h.fM c hc).2;rw [ec,k.dI] at h1;cases h1
  exact ⟨(h.fM c hc).1,by rw [bp this];exact (h.fM c hc).2⟩
theorem ca.Jw {w0:eJ} {w:World} {M:MM} {own:Nat→Option Nat} {σ:Nat→Ob} (h:ca w0 M own σ w) {id b:Nat} {F0 F1:List MapEntry→Nat→Prop} {T3 Wp:Array MapEntry} {clock:Nat}
  (k:N9 w0 M own id F0 w b T3 clock) (V1:Nat) {o':Ob} (ho:o'.C4=some F1) (hf:F1 Wp.toList V1):
  ca w0 M own (gK σ id o') (cM w b (.map Wp V1)):=by
 refine ⟨ib h.below k.base _,?_,h.mj,?_,?_,?_,?_,?_,?_⟩
 ·intro c o v hc
  have:c≠b:=fun e=>by rw [e,k.none o] at hc;cases hc
  rw [e8 this]
  exact h.cells c o v hc
 ·intro c i hc;rw [gR];exact h.owned c i hc
 ·intro i Wf hi
  by_cases e:i=id
  ·rw [e,bw] at hi;rw [hi] at ho;cases ho
  ·rw [br e] at hi
   obtain ⟨c,vs2,ty2,k2⟩:=h.box i Wf hi
   have:c≠b:=fun ec=>by have h1:=k2.own;rw [ec,k.own] at h1;exact e (aad h1).symm
   exact ⟨c,vs2,ty2,k2.box,k2.base,k2.own,k2.none,by rw [bp this];exact k2.dI,k2.len,k2.rep,k2.room⟩
 ·intro i ver sz hi
  by_cases e:i=id
  ·rw [e,bw] at hi;rw [hi] at ho;cases ho
  ·rw [br e] at hi
   obtain ⟨a,len,cap,k2⟩:=h.dD i ver sz hi
   refine ⟨a,len,cap,k2.bX,k2.last,?_⟩
   rcases k2.room with r|⟨c,vs2,ty2,fz,ha,r⟩
   ·exact .inl r
   ·have:c≠b:=fun ec=>by have h1:=r.own;rw [ec,k.own] at h1;exact e (aad h1).symm
    exact .inr ⟨c,vs2,ty2,fz,ha,r.base,r.own,by rw [bp this];exact r.dI,r.fz,r.cap,r.none⟩
 ·intro i F hi
  by_cases e:i=id
  ·subst e
   rw [bw,ho] at hi
   cases hi
   exact ⟨b,Wp,V1,k.box,k.base,k.own,k.none,gV k.dI,hf⟩
  ·rw [br e] at hi
   obtain ⟨c,ents2,clock2,q⟩:=h.mp i F hi
   have:c≠b:=fun ec=>by have h1:=q.own;rw [ec,k.own] at h1;exact e (aad h1).symm
   exact ⟨c,ents2,clock2,q.box,q.base,q.own,q.none,by rw [bp this];exact q.dI,q.fits⟩
 ·intro i k2 t ps ag bd hi
  by_cases e:i=id
  ·rw [e,bw] at hi;rw [hi] at ho;cases ho
  ·rw [br e] at hi
   obtain ⟨l,r,q⟩:=h.lp i k2 t ps ag bd hi
   have:l≠b:=fun ec=>by have h1:=q.own;rw [ec,k.own] at h1;exact e (aad h1).symm
   exact ⟨l,r,q.aU (.refl _) q.own (by rw [bp this];exact q.dI)⟩
 ·intro c hc
  have:c≠b:=fun ec=>by have h1:=(h.fM c hc).2;rw [ec,k.dI] at h1;cases h1
  exact ⟨(h.fM c hc).1,by rw [bp this];exact (h.fM c hc).2⟩
theorem ca.si {w0:eJ} {w:World} {M:MM} {own:Nat→Option Nat} {σ:Nat→Ob} (h:ca w0 M own σ w) {id ver:Nat} (UB:∀v,ver≤v→M.bX id v=none) {a:Option Addr} {len cap:Nat} (sz:Nat)
  (UA:cap=len∨∃b vs ty fz,a=some ⟨b,0,none⟩∧¬w0.X b∧(own b=none∨own b=some id)∧w.heap[b]? =some (.cells vs ty fz)∧mq fz vs.size∧(cap*sz≤vs.size∧cap≤9223372036854775807)∧∀o,len*sz≤o→M.cell b o=none):
  ∃TW,ca w0 (M.bM id ver (.slice a len cap)) TW (gK σ id (.dD ver sz)) w:=by
 have le:=MM.eY (ver:=ver) (v:= .slice a len cap) (UB ver (aar _))
 have Ym:∀ {TW:Nat→Option Nat},(∀b i,own b=some i→TW b=some i)→(∀b i,TW b=some i→b<w.heap.size)→
   (cap=len∨∃b vs ty fz,a=some ⟨b,0,none⟩∧tR w0 (M.bM id ver (.slice a len cap)) TW id sz w len cap b vs ty fz)→
   ca w0 (M.bM id ver (.slice a len cap)) TW (gK σ id (.dD ver sz)) w:=by
  intro TW V4 Xw hr
  refine ⟨h.below,h.cells,h.mj,Xw,?_,?_,?_,?_,h.fM⟩
  ·intro i cs hi
   by_cases e:i=id
   ·rw [e,bw] at hi;cases hi
   ·rw [br e] at hi
    obtain ⟨b,vs,ty,k⟩:=h.box i cs hi
    exact ⟨b,vs,ty,k.box,k.base,V4 _ _ k.own,k.none,k.dI,k.len,fun j d v a b=>(k.rep j d v a b).mono le,fun Ug a' T2 Up q=>k.room Ug a' T2 Up (by simpa [MM.bM,e] using q)⟩
  ·intro i Wi Ug hi
   by_cases e:i=id
   ·subst e
    rw [bw] at hi
    cases hi
    refine ⟨a,len,cap,by simp [MM.bM],?_,hr⟩
    intro v hv
    simp only [MM.bM,show ¬(v=ver) by omega,and_false,if_false]
    exact UB v (by omega)
   ·rw [br e] at hi
    obtain ⟨a',T2,Up,k⟩:=h.dD i Wi Ug hi
    refine ⟨a',T2,Up,le.bX _ _ _ k.bX,?_,?_⟩
    ·intro v hv
     simp only [MM.bM,e,false_and,if_false]
     exact k.last v hv
    ·rcases k.room with r|⟨c,vs2,ty2,fz,ha,r⟩
     ·exact .inl r
     ·exact .inr ⟨c,vs2,ty2,fz,ha,r.base,V4 _ _ r.own,r.dI,r.fz,r.cap,r.none⟩
  ·intro i F hi
   by_cases e:i=id
   ·rw [e,bw] at hi;cases hi
   ·rw [br e] at hi
    obtain ⟨b,T3,clock,q⟩:=h.mp i F hi
    exact ⟨b,T3,clock,q.box,q.base,V4 _ _ q.own,q.none,q.dI,q.fits⟩
  ·intro i k t ps ag bd hi
   by_cases e:i=id
   ·rw [e,bw] at hi;cases hi
   ·rw [br e] at hi
    obtain ⟨l,r,q⟩:=h.lp i k t ps ag bd hi
    exact ⟨l,r,q.aU le (V4 _ _ q.own) q.dI⟩
 rcases UA with hc|⟨b,vs,ty,fz,ha,Ul,U9,Vu,Xs,TZ,UL⟩
 ·exact ⟨own,Ym (fun _ _ x=>x) h.owned (.inl hc)⟩
 ·refine ⟨gy own b id,Ym ?_ ?_ (.inr ⟨b,vs,ty,fz,ha,Ul,by simp [gy],Vu,Xs,TZ,UL⟩)⟩
  ·intro c i hc
   by_cases e:c=b
   ·subst e
    rcases U9 with U9|U9
    ·rw [U9] at hc;cases hc
    ·rw [U9] at hc;simp [gy];exact aad hc
   ·simp [gy,e,hc]
  ·intro c i hc
   by_cases e:c=b
   ·rw [e];exact fj Vu
   ·simp only [gy,e,if_false] at hc;exact h.owned c i hc
def MM.iw (M:MM) (b n1 n2:Nat) (vs:Array Value):MM:=M.cn b fun o=>if n1≤o∧o<n2 then vs[o]? else M.cell b o
theorem MM.Fx {M:MM} {b n1 n2:Nat} {vs:Array Value} (h:∀o,n1≤o→M.cell b o=none):M.Le (M.iw b n1 n2 vs):=by
 refine ⟨fun c o v k=> ?_,fun _ _ k=>k,fun _ _ _ k=>k,fun _ k=>k⟩
 by_cases e:c=b
 ·subst e
  simp only [iw,cn,if_true]
  rw [if_neg]
  ·exact k
  ·intro hh;rw [h o hh.1] at k;cases k
 ·simp only [iw,cn,e,if_false];exact k
theorem ca.Lh {w0:eJ} {w:World} {M:MM} {own:Nat→Option Nat} {σ:Nat→Ob} (h:ca w0 M own σ w) {id sz len cap b:Nat} {ver Ug:Nat} {vs vs':Array Value} {ty:TypeId} {fz:Nat×Nat} (_hs:σ id= .dD ver Ug)
  (r:tR w0 M own id sz w len cap b vs ty fz) (n2:Nat) (Zm:vs'.size=vs.size) (Uv:∀o,o<len*sz→vs'[o]? =vs[o]?):
  ca w0 (M.iw b (len*sz) n2 vs') own (gK σ id .dead) (cM w b (.cells vs' ty fz)):=by
 have le:M.Le (M.iw b (len*sz) n2 vs'):=MM.Fx r.none
 refine ⟨ib h.below r.base _,?_,?_,?_,?_,?_,?_,?_,?_⟩
 ·intro c o v hc
  by_cases e:c=b
  ·subst e
   simp only [MM.iw,MM.cn,if_true] at hc
   simp only [abk,gV r.dI]
   split at hc
   ·exact hc
   ·have h1:=h.cells c o v hc
    have h2:o<len*sz:=by
     rcases aaA o (len*sz) with q|q
     ·exact q
     ·rw [r.none o q] at hc;cases hc
    simp only [abk,r.dI] at h1
    rw [← Uv o h2] at h1
    exact h1
  ·simp only [MM.iw,MM.cn,e,if_false] at hc
   rw [e8 e]
   exact h.cells c o v hc
 ·intro c o v hc T1
  have e:c≠b:=fun e=>r.base (e▸T1)
  simp only [MM.iw,MM.cn,e,if_false] at hc
  exact h.mj c o v hc T1
 ·intro c i hc;rw [gR];exact h.owned c i hc
 ·intro i Wf hi
  by_cases e:i=id
  ·rw [e,bw] at hi;cases hi
  ·rw [br e] at hi
   obtain ⟨c,vs2,ty2,k2⟩:=h.box i Wf hi
   have:c≠b:=fun ec=>by have h1:=k2.own;rw [ec,r.own] at h1;exact e (aad h1).symm
   exact ⟨c,vs2,ty2,k2.box,k2.base,k2.own,fun o=>by simp only [MM.iw,MM.cn,this,if_false];exact k2.none o,by rw [bp this];exact k2.dI,k2.len,fun j d v a b=>(k2.rep j d v a b).mono le,k2.room⟩
 ·intro i ZB UX hi
  by_cases e:i=id
  ·rw [e,bw] at hi;cases hi
  ·rw [br e] at hi
   obtain ⟨a,len2,cap2,k2⟩:=h.dD i ZB UX hi
   refine ⟨a,len2,cap2,k2.bX,k2.last,?_⟩
   rcases k2.room with q|⟨c,vs2,ty2,fz2,ha,q⟩
   ·exact .inl q
   ·have:c≠b:=fun ec=>by have h1:=q.own;rw [ec,r.own] at h1;exact e (aad h1).symm
    exact .inr ⟨c,vs2,ty2,fz2,ha,q.base,q.own,by rw [bp this];exact q.dI,q.fz,q.cap,fun o ho=>by simp only [MM.iw,MM.cn,this,if_false];exact q.none o ho⟩
 ·intro i F hi
  by_cases e:i=id
  ·rw [e,bw] at hi;cases hi
  ·rw [br e] at hi
   obtain ⟨c,T3,clock,q⟩:=h.mp i F hi
   have:c≠b:=fun ec=>by have h1:=q.own;rw [ec,r.own] at h1;exact e (aad h1).symm
   exact ⟨c,T3,clock,q.box,q.base,q.own,fun o=>by simp only [MM.iw,MM.cn,this,if_false];exact q.none o,by rw [bp this];exact q.dI,q.fits⟩
 ·intro i k2 t ps ag bd hi
  by_cases e:i=id
  ·rw [e,bw] at hi;cases hi
  ·rw [br e] at hi
   obtain ⟨l,r',q⟩:=h.lp i k2 t ps ag bd hi
   have:l≠b:=fun ec=>by have h1:=q.own;rw [ec,r.own] at h1;exact e (aad h1).symm
   exact ⟨l,r',q.aU le q.own (by rw [bp this];exact q.dI)⟩
 ·intro c hc
  have:c≠b:=fun ec=>by have h1:=(h.fM c hc).2;rw [ec,r.dI] at h1;cases h1
  exact ⟨(h.fM c hc).1,by rw [bp this];exact (h.fM c hc).2⟩
theorem ca.yE {w0:eJ} {w:World} {M:MM} {own:Nat→Option Nat} {σ:Nat→Ob} (h:ca w0 M own σ w) {id b:Nat} {cs:List D} {vs:Array Value} {ty:TypeId} (hσ:σ id= .box cs)
  (k:tV w0 M own id cs w b vs ty) {sz len cap:Nat} (hn:M.bX id sz=none) (hc:cap*sz≤vs.size):ca w0 (M.bM id sz (.slice (some ⟨b,0,none⟩) len cap)) own σ w:=by
 have le:=MM.eY (v:= .slice (some ⟨b,0,none⟩) len cap) hn
 refine ⟨h.below,h.cells,h.mj,h.owned,?_,?_,?_,?_,h.fM⟩
 ·intro i Us hi
  by_cases e:i=id
  ·subst e
   rw [hσ] at hi
   cases hi
   refine ⟨b,vs,ty,k.box,k.base,k.own,k.none,k.dI,k.len,fun j d v a b=>(k.rep j d v a b).mono le,fun Ug a T2 Up q=> ?_⟩
   by_cases es:Ug=sz
   ·subst es
    simp only [MM.bM,and_self,if_true,aak,Value.slice.injEq] at q
    rw [← q.2.2];exact hc
   ·simp only [MM.bM,es,and_false,if_false] at q
    exact k.room Ug a T2 Up q
  ·obtain ⟨b',vs',ty',k'⟩:=h.box i Us hi
   exact ⟨b',vs',ty',k'.box,k'.base,k'.own,k'.none,k'.dI,k'.len,fun j d v a b=>(k'.rep j d v a b).mono le,fun Ug a T2 Up q=>k'.room Ug a T2 Up (by simpa [MM.bM,e] using q)⟩
 ·intro i ver Ug hi
  by_cases e:i=id
  ·subst e;rw [hσ] at hi;cases hi
  ·obtain ⟨a,T2,Up,k'⟩:=h.dD i ver Ug hi
   refine ⟨a,T2,Up,le.bX _ _ _ k'.bX,?_,?_⟩
   ·intro v hv
    simp only [MM.bM,e,false_and,if_false]
    exact k'.last v hv
   ·rcases k'.room with r|⟨c,vs2,ty2,fz,ha,r⟩
    ·exact .inl r
    ·exact .inr ⟨c,vs2,ty2,fz,ha,r.base,r.own,r.dI,r.fz,r.cap,r.none⟩
 ·intro i F hi
  obtain ⟨b',T3,clock,q⟩:=h.mp i F hi
  exact ⟨b',T3,clock,q.box,q.base,q.own,q.none,q.dI,q.fits⟩
 ·intro i kk t ps ag bd hi
  obtain ⟨l,r,q⟩:=h.lp i kk t ps ag bd hi
  exact ⟨l,r,q.aU le q.own q.dI⟩
def MM.pE (M:MM) (b:Nat):MM:= { M with fM:=fun c=>M.fM c∨c=b }
theorem MM.vj (M:MM) (b:Nat):M.Le (M.pE b):=⟨fun _ _ _ h=>h,fun _ _ h=>h,fun _ _ _ h=>h,fun _ h=> .inl h⟩
theorem ca.QM {w0:eJ} {w:World} {M:MM} {own:Nat→Option Nat} {σ:Nat→Ob} (h:ca w0 M own σ w):ca w0 (M.pE w.heap.size) own σ (w.alloc (.deferred (some []))):=by
 have le:=M.vj w.heap.size
 have hold:∀ {b:Nat} {o:Obj},w.heap[b]? =some o→(w.alloc (.deferred (some []))).heap[b]? =some o:=fun {b o} hb=>by
  rw [Below.heap_alloc _ _ _ (fj hb),hb]
 refine ⟨h.below.alloc _,?_,h.mj,?_,?_,?_,?_,?_,?_⟩
 ·intro b o v k
  rw [World.cell?_alloc_lt]
  ·exact h.cells b o v k
  ·exact abm w _ (h.cells b o v k)
 ·intro b i k
  rw [World.size_alloc]
  have:=h.owned b i k
  omega
 ·intro i cs hi
  obtain ⟨b,vs,ty,k⟩:=h.box i cs hi
  exact ⟨b,vs,ty,k.box,k.base,k.own,k.none,hold k.dI,k.len,fun j d v a b=>(k.rep j d v a b).mono le,k.room⟩
 ·intro i ver sz hi
  obtain ⟨a,len,cap,k⟩:=h.dD i ver sz hi
  refine ⟨a,len,cap,k.bX,k.last,?_⟩
  rcases k.room with r|⟨b,vs',ty',fz,ha,r⟩
  ·exact .inl r
  ·exact .inr ⟨b,vs',ty',fz,ha,r.base,r.own,hold r.dI,r.fz,r.cap,r.none⟩
 ·intro i F hi
  obtain ⟨b,T3,clock,q⟩:=h.mp i F hi
  exact ⟨b,T3,clock,q.box,q.base,q.own,q.none,hold q.dI,q.fits⟩
 ·intro i k t ps ag bd hi
  obtain ⟨l,r,q⟩:=h.lp i k t ps ag bd hi
  exact ⟨l,r,q.aU le q.own (hold q.dI)⟩
 ·rintro b (hb|rfl)
  ·exact ⟨(h.fM b hb).1,hold (h.fM b hb).2⟩
  ·refine ⟨h.below.new,?_⟩
   show (w.heap.push _)[w.heap.size]? =_
   simp
theorem ca.QN {w0:eJ} {w:World} {M:MM} {own:Nat→Option Nat} {σ:Nat→Ob} (h:ca w0 M own σ w) {id:Nat} (UB:M.box id=none) (hh:∀v,M.bX id v=none) {k:Lk} {t:List D} {r:Loop}
  (T5:r.state=k.state) (Zj:k≠ .busy→r.pending=k.MF) (ht:cy M t r.tmps):
  ca w0 (M.cL id w.heap.size) (gy own w.heap.size id) (gK σ id (.lp k t r.params r.assign r.body)) (w.alloc (.loop r)):=by
 have le:=MM.fX (b:=w.heap.size) UB
 have hold:∀ {b:Nat} {o:Obj},w.heap[b]? =some o→(w.alloc (.loop r)).heap[b]? =some o:=fun {b o} hb=>by
  rw [Below.heap_alloc _ _ _ (fj hb),hb]
 have Ur:∀ {b i:Nat},own b=some i→gy own w.heap.size id b=some i:=fun {b i} k=>by
  have:=h.owned b i k
  simp [gy,show b≠w.heap.size by omega,k]
 refine ⟨h.below.alloc _,?_,h.mj,?_,?_,?_,?_,?_,?_⟩
 ·intro b o v k
  have k':M.cell b o=some v:=k
  rw [World.cell?_alloc_lt]
  ·exact h.cells b o v k'
  ·exact abm w _ (h.cells b o v k')
 ·intro b i k
  rw [World.size_alloc]
  by_cases e:b=w.heap.size
  ·omega
  ·simp only [gy,e,if_false] at k
   have:=h.owned b i k
   omega
 ·intro i cs hi
  by_cases e:i=id
  ·rw [e,bw] at hi;cases hi
  ·rw [br e] at hi
   obtain ⟨b,vs,ty,k⟩:=h.box i cs hi
   exact ⟨b,vs,ty,le.box _ _ k.box,k.base,Ur k.own,k.none,hold k.dI,k.len,fun j d v a b=>(k.rep j d v a b).mono le,k.room⟩
 ·intro i ver sz hi
  by_cases e:i=id
  ·rw [e,bw] at hi;cases hi
  ·rw [br e] at hi
   obtain ⟨a,len,cap,k⟩:=h.dD i ver sz hi
   refine ⟨a,len,cap,k.bX,k.last,?_⟩
   rcases k.room with r|⟨b,vs',ty',fz,ha,r⟩
   ·exact .inl r
   ·exact .inr ⟨b,vs',ty',fz,ha,r.base,Ur r.own,hold r.dI,r.fz,r.cap,r.none⟩
 ·intro i F hi
  by_cases e:i=id
  ·rw [e,bw] at hi;cases hi
  ·rw [br e] at hi
   obtain ⟨b,T3,clock,q⟩:=h.mp i F hi
   exact ⟨b,T3,clock,le.box _ _ q.box,q.base,Ur q.own,q.none,hold q.dI,q.fits⟩
 ·intro i k2 t2 ps ag bd hi
  by_cases e:i=id
  ·subst e
   rw [bw] at hi
   cases hi
   refine ⟨w.heap.size,r,by simp [MM.cL],h.below.new,by simp [gy],?_,T5,Zj,ht.mono le,rfl,rfl,rfl⟩
   show (w.heap.push _)[w.heap.size]? =_
   simp
  ·rw [br e] at hi
   obtain ⟨l,r',q⟩:=h.lp i k2 t2 ps ag bd hi
   exact ⟨l,r',q.aU le (Ur q.own) (hold q.dI)⟩
 ·intro b hb
  exact ⟨(h.fM b hb).1,hold (h.fM b hb).2⟩
theorem ca.Jx {w0:eJ} {w:World} {M:MM} {own:Nat→Option Nat} {σ:Nat→Ob} (h:ca w0 M own σ w) {id l:Nat} {k k':Lk} {t:List D} {ps:Array Nat} {ag bd:Code} {r r':Loop}
  (q:LU w0 M own id k t ps ag bd w l r) (o':Ob) (ho:o'= .dead∨(o'= .lp k' t ps ag bd∧r'.state=k'.state∧(k'≠ .busy→r'.pending=k'.MF)∧r'.tmps=r.tmps∧r'.params=r.params∧r'.assign=r.assign∧r'.body=r.body)):
  ca w0 M own (gK σ id o') (cM w l (.loop r')):=by
 refine ⟨ib h.below q.base _,?_,h.mj,?_,?_,?_,?_,?_,?_⟩
 ·intro c o v hc
  have:c≠l:=fun e=>by
   have:=h.cells c o v hc
   rw [e] at this
   simp [abk,q.dI] at this
  rw [e8 this]
  exact h.cells c o v hc
 ·intro c i hc;rw [gR];exact h.owned c i hc
 ·intro i Wf hi
  by_cases e:i=id
  ·rw [e,bw] at hi;rcases ho with rfl|⟨rfl,_⟩<;>cases hi
  ·rw [br e] at hi
   obtain ⟨c,vs2,ty2,k2⟩:=h.box i Wf hi
   have:c≠l:=fun ec=>by have h1:=k2.own;rw [ec,q.own] at h1;exact e (aad h1).symm
   exact ⟨c,vs2,ty2,k2.box,k2.base,k2.own,k2.none,by rw [bp this];exact k2.dI,k2.len,k2.rep,k2.room⟩
 ·intro i ver sz hi
  by_cases e:i=id
  ·rw [e,bw] at hi;rcases ho with rfl|⟨rfl,_⟩<;>cases hi
  ·rw [br e] at hi
   obtain ⟨a,len,cap,k2⟩:=h.dD i ver sz hi
   refine ⟨a,len,cap,k2.bX,k2.last,?_⟩
   rcases k2.room with r|⟨c,vs2,ty2,fz,ha,r⟩
   ·exact .inl r
   ·have:c≠l:=fun ec=>by have h1:=r.own;rw [ec,q.own] at h1;exact e (aad h1).symm
    exact .inr ⟨c,vs2,ty2,fz,ha,r.base,r.own,by rw [bp this];exact r.dI,r.fz,r.cap,r.none⟩
 ·intro i F hi
  by_cases e:i=id
  ·rw [e,bw] at hi;rcases ho with rfl|⟨rfl,_⟩<;>cases hi
  ·rw [br e] at hi
   obtain ⟨c,T3,clock,q2⟩:=h.mp i F hi
   have:c≠l:=fun ec=>by have h1:=q2.own;rw [ec,q.own] at h1;exact e (aad h1).symm
   exact ⟨c,T3,clock,q2.box,q2.base,q2.own,q2.none,by rw [bp this];exact q2.dI,q2.fits⟩
 ·intro i k2 t2 Zg Ze Zu hi
  by_cases e:i=id
  ·subst e
   rw [bw] at hi
   rcases ho with rfl|⟨rfl,T5,Zj,hr⟩
   ·cases hi
   cases hi
   exact ⟨l,r',q.box,q.base,q.own,gV q.dI,T5,Zj,by rw [hr.1];exact q.tm,by rw [hr.2.1];exact q.ps,by rw [hr.2.2.1];exact q.ag,by rw [hr.2.2.2];exact q.bd⟩
  ·rw [br e] at hi
   obtain ⟨l2,r2,q2⟩:=h.lp i k2 t2 Zg Ze Zu hi
   have:l2≠l:=fun ec=>by have h1:=q2.own;rw [ec,q.own] at h1;exact e (aad h1).symm
   exact ⟨l2,r2,q2.aU (.refl _) q2.own (by rw [bp this];exact q2.dI)⟩
 ·intro c hc
  have:c≠l:=fun ec=>by have h1:=(h.fM c hc).2;rw [ec,q.dI] at h1;cases h1
  exact ⟨(h.fM c hc).1,by rw [bp this];exact (h.fM c hc).2⟩
def MM.wh (M:MM) (b:Nat):MM:= { M with fM:=fun c=>M.fM c∧c≠b }
theorem ca.wh {w0:eJ} {w:World} {M:MM} {own:Nat→Option Nat} {σ:Nat→Ob} (h:ca w0 M own σ w) {b:Nat} (hb:M.fM b):ca w0 (M.wh b) own σ (cM w b (.deferred none)):=by
 obtain ⟨Ul,Vu⟩:=h.fM b hb
 have rb:∀ {d:D} {v:Value},b7 M d v→b7 (M.wh b) d v:=fun {d v} hr=>hr.QL
 refine ⟨ib h.below Ul _,?_,h.mj,?_,?_,?_,?_,?_,?_⟩
 ·intro c o v hc
  have:c≠b:=fun e=>by
   have:=h.cells c o v hc
   rw [e] at this
   simp [abk,Vu] at this
  rw [e8 this]
  exact h.cells c o v hc
 ·intro c i hc;rw [gR];exact h.owned c i hc
 ·intro i Wf hi
  obtain ⟨c,vs2,ty2,k2⟩:=h.box i Wf hi
  have:c≠b:=fun ec=>by have h1:=k2.dI;rw [ec,Vu] at h1;cases h1
  exact ⟨c,vs2,ty2,k2.box,k2.base,k2.own,k2.none,by rw [bp this];exact k2.dI,k2.len,fun j d v p q=>rb (k2.rep j d v p q),k2.room⟩
 ·intro i ver sz hi
  obtain ⟨a,len,cap,k2⟩:=h.dD i ver sz hi
  refine ⟨a,len,cap,k2.bX,k2.last,?_⟩
  rcases k2.room with r|⟨c,vs2,ty2,fz,ha,r⟩
  ·exact .inl r
  ·have:c≠b:=fun ec=>by have h1:=r.dI;rw [ec,Vu] at h1;cases h1
   exact .inr ⟨c,vs2,ty2,fz,ha,r.base,r.own,by rw [bp this];exact r.dI,r.fz,r.cap,r.none⟩
 ·intro i F hi
  obtain ⟨c,T3,clock,q2⟩:=h.mp i F hi
  have:c≠b:=fun ec=>by have h1:=q2.dI;rw [ec,Vu] at h1;cases h1
  exact ⟨c,T3,clock,q2.box,q2.base,q2.own,q2.none,by rw [bp this];exact q2.dI,q2.fits⟩
 ·intro i k2 t2 Zg Ze Zu hi
  obtain ⟨l2,r2,q2⟩:=h.lp i k2 t2 Zg Ze Zu hi
  have:l2≠b:=fun ec=>by have h1:=q2.dI;rw [ec,Vu] at h1;cases h1
  exact ⟨l2,r2,q2.box,q2.base,q2.own,by rw [bp this];exact q2.dI,q2.st,q2.pd,⟨q2.tm.1,fun i d v p q=>rb (q2.tm.2 i d v p q)⟩,q2.ps,q2.ag,q2.bd⟩
 ·rintro c ⟨hc,Ut⟩
  exact ⟨(h.fM c hc).1,by rw [bp Ut];exact (h.fM c hc).2⟩
def Su (P:Program) (f:FuncId):Prop:= ∃fn c,P.funcs[f]? =some fn∧fn.body=some c∧(fn.name== "runtime.NumGoroutine")=false
def jV (B:Nat) (w:World) (C:Nat→Nat→Option Value) (sz:Nat) (a:Option Addr) (len cap:Nat):Prop:=
  cap=len∨∃b vs ty fz,a=some ⟨b,0,none⟩∧B≤b∧w.heap[b]? =some (.cells vs ty fz)∧mq fz vs.size∧(cap*sz≤vs.size∧cap≤9223372036854775807)∧∀o,len*sz≤o→C b o=none
def Es (B:Nat) (w:World) (C:Nat→Nat→Option Value) (d:D) (v:Value):Prop:=
  (∀sz Ug xs,d= .aY (.fresh sz) Ug xs→∃a len cap,v= .slice a len cap∧Ug=sz∧jV B w C sz a len cap)∧
  ∀ds vs,d= .aL ds→v= .tuple vs→∀(i:Nat) (sz Ug:Nat) (xs:List D),ds[i]? =some (.aY (.fresh sz) Ug xs)→∃a len cap,vs[i]? =some (.slice a len cap)∧Ug=sz∧jV B w C sz a len cap
structure aP (P:Program) (f:FuncId) (args:List D) (d:D):Prop where
  Ij:Su P f
  run:∀(w:World) (C:Nat→Nat→Option Value) (vs:Array Value),(∀b o v,C b o=some v→w.cell? ⟨b,o,none⟩=some v)→cy (gr C) args vs→
    Calls P f vs w fun e w'=> ∃v C',e= .returned v∧Ext (gr C) w (gr C') w'∧b7 (gr C') d v∧Es w.heap.size w' C' d v
def hY:abz→abz→Bool
  | .i8,.i8| .i16,.i16| .i32,.i32| .i64,.i64| .u8,.u8| .u16,.u16| .u32,.u32| .u64,.u64=>true
  |_,_=>false
def LK.fits:LK→D→Bool
  | .bool,.bool _=>true
  | .int k,.int k' _=>hY k k'
  | .str,.str _=>true
  |_,_=>false
def j9:List LK→List D→Bool
  | [],[]=>true
  |k::ks,d::ds=>k.fits d&&j9 ks ds
  |_,_=>false
def kL:D→D→Bool
  | .bool a,.bool b=>a==b
  | .int _ a,.int _ b=>a==b
  | .str a,.str b=>a.toList==b.toList
  |_,_=>false
def bZ:List D→List D→Bool
  | [],[]=>true
  |a::x,b::y=>kL a b&&bZ x y
  |_,_=>false
def rC:Value→Value→Bool
  | .bool a,.bool b=>a==b
  | .int _ a,.int _ b=>a==b
  | .string a,.string b=>a.toList==b.toList
  |_,_=>false
def dT:List Value→List Value→Bool
  | [],[]=>true
  |a::x,b::y=>rC a b&&dT x y
  |_,_=>false
def vv (x:List Value):List MapEntry→Nat→Option (Nat×Value)
  | [],_=>none
  |e::es,i=>match e.key with
    | .agg y=>match dT x y.toList with|true=>some (i,e.val)|false=>vv x es (i+1)
    |_=>none
def KE:List LK→Bool
  | []=>true
  | .str::_=>false
  |_::r=>KE r
structure yR (P:Program) (t:TypeId) (ks:List LK):Prop where
  SL:KE ks=true
  check:∀(w:World) (em:Bool) (xs:Array Value),ev ks xs.toList→(Instr.checkKey em 10000 t (.agg xs)).run P w= .ok () w
  find:∀(w:World) (x:Array Value) (l:List MapEntry),ev ks x.toList→(∀e∈l,∃y:Array Value,e.key= .agg y∧ev ks y.toList)→(Instr.findKey t (.agg x) l).run P w= .ok (vv x.toList l 0) w
structure kl (P:Program) (t:TypeId) (ks:List LK):Prop where
  plain:P.eqGuardType P.depth t=false
  eq:∀(xs ys:Array Value) (w:World),ev ks xs.toList→ev ks ys.toList→(Op.equalIn 10000 t (.agg xs) (.agg ys)).run P w= .ok (dT xs.toList ys.toList) w
inductive Ex where
  |norm
  |exit (id:Nat)
  |ret
def Ex.is:Ex→Exit→Prop
  | .norm,.normal=>True
  | .exit i,.exit j=>i=j
  | .ret,.ret=>True
  |_,_=>False
def bJ (s:List Ob):Nat→Ob:=fun i=>s.getD i .dead
def MM.upto (M:MM) (n:Nat):Prop:=(∀id,n≤id→M.box id=none)∧∀id v,n≤id→M.bX id v=none
def FW (r:Option Nat):Fence:= { Fence.wide with round:=r }
def iz (K:Nat→Prop) (M:MM) (ds:List Deferred):Prop:=(∀b,K b→M.fM b)∧∃bs:List Nat,ds=bs.map (fun b=> { target:= .collected b,args:= #[] })∧bs.Nodup∧∀b∈bs,M.fM b∧¬K b
theorem iz.mono {K:Nat→Prop} {M M':MM} {ds:List Deferred} (h:iz K M ds) (le:∀b,M.fM b→M'.fM b):iz K M' ds:=
 let ⟨h0,bs,h1,h2,h3⟩:=h
 ⟨fun b k=>le b (h0 b k),bs,h1,h2,fun b hb=>⟨le b (h3 b hb).1,(h3 b hb).2⟩⟩
structure bB (P:Program) (rd:Bool) (c:Code) (t:List D) (s:List Ob) (ex:Ex) (t':List D) (s':List Ob):Prop where
  run:∀(r:Option Nat),(rd=false→r=none)→∀(K:Nat→Prop) (w0:eJ) (M:MM) (own:Nat→Option Nat) (w:World) (a:Act),ca w0 M own (bJ s) w→M.upto s.length→cy M t a.tmps→iz K M a.defers→
    c.wpIn (FW r) 0 P (fun e a' w'=>ex.is e∧∃M' TW,ca w0 M' TW (bJ s') w'∧M'.upto s'.length∧M.Le M'∧cy M' t' a'.tmps∧iz K M' a'.defers) a w
  len:s.length≤s'.length
abbrev l4 (P:Program):=bB P true
theorem bB.any {P:Program} {c:Code} {t:List D} {s:List Ob} {ex:Ex} {t':List D} {s':List Ob} (h:l4 P c t s ex t' s') (rd:Bool):bB P rd c t s ex t' s':=
 ⟨fun r _=>h.run r (fun e=>by cases e),h.len⟩
def MM.cut (M:MM) (n:Nat):MM:=⟨M.cell,fun i=>if i<n then M.box i else none,fun i v=>if i<n then M.bX i v else none,M.fM⟩
structure b5 (P:Program) (n0:Nat) (c:Code) (t:List D) (s:List Ob) (ex:Ex) (t':List D) (s':List Ob):Prop where
  run:∀(r:Option Nat) (K:Nat→Prop) (w0:eJ) (M:MM) (own:Nat→Option Nat) (w:World) (a:Act),ca w0 M own (bJ s) w→M.upto s.length→cy M t a.tmps→iz K M a.defers→
    c.wpIn (FW r) 0 P (fun e a' w'=>ex.is e∧∃M' TW,ca w0 M' TW (bJ s') w'∧M'.upto s'.length∧(M.cut n0).Le M'∧cy M' t' a'.tmps∧iz K M' a'.defers) a w
  len:n0≤s'.length
structure HS where
  aU:List Nat
  O7:List Nat
  nE:List (Nat×Nat)
def pg:List (Int×D)→Int→Option D
  | [],_=>none
  |(a,d)::r,n=>match n==a with|true=>some d|false=>pg r n
def nB:List (Int×D)→Int→D→List (Int×D)
  | [],n,v=> [(n,v)]
  |(a,d)::r,n,v=>match n==a with|true=>(n,v)::r|false=>(a,d)::nB r n v
def NZ:List (List D×D)→List D→Option D
  | [],_=>none
  |(a,d)::r,n=>match bZ n a with|true=>some d|false=>NZ r n
def P6:List (List D×D)→List D→D→List (List D×D)
  | [],n,v=> [(n,v)]
  |(a,d)::r,n,v=>match bZ n a with|true=>(n,v)::r|false=>(a,d)::P6 r n v
def HB:List (Int×D)→Int→Nat
  | [],_=>0
  |(a,_)::r,n=>match n==a with|true=>0|false=>HB r n+1
def Sg:List (List D×D)→List D→Nat
  | [],_=>0
  |(a,_)::r,n=>match bZ n a with|true=>0|false=>Sg r n+1
def RE {α:Type} :List (α×D)→Nat→D→List (α×D)
  | [],_,_=> []
  |(a,_)::r,0,v=>(a,v)::r
  |e::r,i+1,v=>e::RE r i v
def LK.same:LK→LK→Bool
  | .bool,.bool=>true
  | .int k,.int k'=>hY k k'
  | .str,.str=>true
  |_,_=>false
def BT:List LK→List LK→Bool
  | [],[]=>true
  |a::x,b::y=>a.same b&&BT x y
  |_,_=>false
structure ak (P:Program) (f:FuncId) (args:List D) (s:List Ob) (d:D) (s':List Ob):Prop where
  Ij:Su P f
  len:s.length≤s'.length
  run:∀(w0:eJ) (M:MM) (own:Nat→Option Nat) (w:World) (vs:Array Value),ca w0 M own (bJ s) w→M.upto s.length→cy M args vs→
    Calls P f vs w fun e w'=> ∃v M' TW,e= .returned v∧ca w0 M' TW (bJ s') w'∧M'.upto s'.length∧M.Le M'∧b7 M' d v
def cO:List D→Option (List D)
  | []=>some []
  |d::r=>match d.cells,cO r with
    |some c,some cs=>some (c++cs)
    |_,_=>none
inductive Ev (P:Program) where
  |ret (g:FuncId) (as:List D) (d:D) (h:aP P g as d)
  |inl
  |aH (g:FuncId) (ar:List D) (s:List Ob) (d:D) (s':List Ob) (h:ak P g ar s d s')
  |LB (g:FuncId) (ar:List D) (n:Nat) (cs:List D) (h:ak P g ar [] (.dm 0 1 n) [.box cs]) (hb:∀d∈cs,∃k:Int,d= .int .u8 k)
  |cX (q v:Bool) (h:q=v)
  |len (n m:Nat) (h:n≤m)
  |get (l:List D) (i:Nat) (d:D) (h:l[i]? =some d)
  |po (l:List D) (i n:Nat) (l':List D) (h:(l.drop i).take n=l'∧i+n≤l.length)
  |ej (l:List D) (i:Nat) (xs l':List D) (h:l.take i++(xs++l.drop (i+xs.length))=l'∧i+xs.length≤l.length)
  |flat (t:TypeId) (ks:List LK) (h:kl P t ks)
  |aU (l:List (Nat×Ob))
  |fJ (cs:List (Nat×Nat×D)) (l:List (Nat×Ob))
  |jM (es:List (Int×D)) (n:Int) (r:Option D) (h:pg es n=r)
  |Sb (t:TypeId) (ks:List LK) (h:yR P t ks)
  |NX (es:List (List D×D)) (n:List D) (r:Option D) (h:NZ es n=r)
  |code (c:Code) (t:List D) (s:List Ob) (ex:Ex) (t':List D) (s':List Ob) (h:l4 P c t s ex t' s')
  |go (n:Nat)
  |NR (aU:List Nat)
  |raw
  |cl (cs:List D) (h:∀c∈cs,c.clean=true)
  |L7 (ys nc:List D) (h:cO ys=some nc)
  |head (sp:HS) (n0:Nat) (c:Code) (t:List D) (s:List Ob) (ex:Ex) (t':List D) (s':List Ob) (h:b5 P n0 c t s ex t' s')
  |dI (sp:HS) (n0:Nat) (c:Code) (t:List D) (s:List Ob) (ex:Ex) (t':List D) (s':List Ob) (h:b5 P n0 c t s ex t' s')
structure Z (P:Program) where
  o:List (Ev P)
  c:Prop
section
variable {ρ:Type} {P:Program}
def jm (b:Bool) (k:Option ρ):Option ρ:=match b with|true=>k|false=>none
def ask (z:Z P) (b:Bool) (k:Z P→Option ρ):Option ρ:=
  match z.o with
  | .cX q true _::r=>k ⟨r,(q=b)∧z.c⟩
  |_=>none
def tJ (z:Z P) (n:Nat) (m:Nat) (k:Z P→Option ρ):Option ρ:=
  match z.o with
  | .len n' m' _::r=>k ⟨r,(n'=n∧m'=m)∧z.c⟩
  |_=>none
def branch (z:Z P) (b:Bool) (k1 k2:Z P→Option ρ):Option ρ:=
  match z.o with
  | .cX q v _::r=>match v with
    |true=>k1 ⟨r,(q=b)∧z.c⟩
    |false=>k2 ⟨r,(q=b)∧z.c⟩
  |_=>none
def mQ (z:Z P) (still:Bool) (b:Bool) (k:Z P→Option ρ):Option ρ:=
  match still with
  |true=>jm b (k z)
  |false=>ask z b k
def pick (z:Z P) (l:List D) (i:Nat) (k:Z P→D→Option ρ):Option ρ:=
  match z.o with
  | .get l' i' d _::r=>k ⟨r,(l'=l∧i'=i)∧z.c⟩ d
  |_=>match l[i]? with
    |some d=>k z d
    |none=>none
def Ld (z:Z P) (ys:List D) (k:Z P→List D→Option ρ):Option ρ:=
  match z.o with
  | .L7 Ye nc _::r=>k ⟨r,(Ye=ys)∧z.c⟩ nc
  |_=>match cO ys with
    |some nc=>k z nc
    |none=>none
def Lc (z:Z P) (ys:List D) (k:Z P→List D→Option ρ):Option ρ:=
  match z.o with
  | .L7 Ye nc _::r=>ask ⟨r,(Ye=ys)∧z.c⟩ (Nat.blt 0 ys.length) fun z=>k z nc
  |_=>match cO ys with
    |some nc=>jm (!ys.isEmpty) (k z nc)
    |none=>none
def KI (z:Z P) (es:List (Int×D)) (n:Int) (k:Z P→Option D→Option ρ):Option ρ:=
  match z.o with
  | .jM YC n' r _::rest=>k ⟨rest,(YC=es∧n'=n)∧z.c⟩ r
  |_=>none
def Pe (z:Z P) (es:List (List D×D)) (n:List D) (k:Z P→Option D→Option ρ):Option ρ:=
  match z.o with
  | .NX YC n' r _::rest=>k ⟨rest,(YC=es∧n'=n)∧z.c⟩ r
  |_=>none
def vd (z:Z P) (t:TypeId) (k:Z P→List LK→Option ρ):Option ρ:=none
def uI:Value→Option D
  | .bool b=>some (.bool b)
  | .int k n=>some (.int k n)
  | .string s=>some (.str s)
  | .pointer none=>some .fW
  | .slice none 0 0=>some (.aY .tight 0 [])
  | .nilFunc=>some .b6
  |_=>none
def jC:List Value→Option (List D)
  | []=>some []
  |v::r=>match uI v,jC r with
    |some d,some l=>some (d::l)
    |_,_=>none
def yV:List Value→List D
  | []=> []
  |v::r=>(match uI v with|some d=>d|none=> .undef)::yV r
def gh:Value→D
  | .agg cs=> .agg (yV cs.toList)
  |v=>match uI v with|some d=>d|none=> .undef
def cJ (t:List D):Operand→D
  | .tmp i=>t.getD i .undef
  | .const v=>gh v
  | .global _=> .undef
  | .func f=> .fn (.func f) [] []
def isConst:Operand→Bool
  | .const _=>true
  |_=>false
def dJ:TypeDesc→Bool
  | .struct _=>true
  | .array _ _=>true
  |_=>false
def known (P:Program) (t:TypeId):Bool:=(P.info? t).isSome
def kq (P:Program) (t:TypeId):Option D:=
  match P.info? t with
  |some i=>match i.zero with|some v=>some (gh v)|none=>none
  |none=>none
def IZ (P:Program) (t:TypeId):Bool:=
  match P.info? t with
  |some i=>match i.zero with|some v=>aaM v.cells.size 1|none=>false
  |none=>false
def jN (P:Program) (t:TypeId):Bool:=
  match P.info? t with
  |some i=>match i.zero with|some v=>aaM v.cells.size i.size|none=>false
  |none=>false
def uU (P:Program) (z:Z P) (dyn:Bool) (t:TypeId) (cs:List D) (off:Nat) (k:Z P→D→Option ρ):Option ρ:=
  match P.underlying t with
  |none=>none
  |some d=>match dJ d with
    |true=>jm (known P t) (match dyn with
      |false=>jm (abq (off+P.cellsOf t) cs.length) (k z (.agg ((cs.drop off).take (P.cellsOf t))))
      |true=>match z.o with
        | .po l i n l' _::r=>k ⟨r,(l=cs∧i=off∧n=P.cellsOf t)∧z.c⟩ (.agg l')
        |_=>none)
    |false=>match dyn with
      |false=>match cs[off]? with|some x=>k z x|none=>none
      |true=>pick z cs off k
def jh (cs:List D) (off:Nat) (xs:List D):List D:=cs.take off++(xs++cs.drop (off+xs.length))
def xK (x:D) (k:D→Option ρ):Option ρ:=match x.plain with|true=>k x|false=>jm x.clean (k x.bg)
def CK (x:D) (k:D→Option ρ):Option ρ:=match x with
  | .ptr _ _ off=>k (.eL false (.agg []) off)
  | .eL q y off=>k (.eL q y off)
  |x=>xK x k
def oV:List D→(List D→Option ρ)→Option ρ
  | [],k=>k []
  |x::r,k=>CK x fun y=>oV r fun l=>k (y::l)
def vw (place:Nat→Option (Nat×Nat)) (cells:List D):List (Nat×D)→Option (List D)
  | []=>some cells
  |(i,v)::rest=>match place i,v.cells with
    |some (off,size),some vc=>match aaM vc.length size&&abq (off+size) cells.length with
      |true=>vw place (jh cells off vc) rest
      |false=>none
    |_,_=>none
def Ef (P:Program) (t:TypeId) (parts:List (Nat×D)):Option D:=
  match kq P t with
  |none=>none
  |some z=>match z.cells with
    |none=>none
    |some zero=>match P.underlying t with
      |some (.struct fields)=>match fields.toList.all fun f=>known P f.type with
        |true=>match vw (fun i=>((fields[i]?).map fun f=>(f.offset,P.cellsOf f.type))) zero parts with
          |some cs=>some (.agg cs)
          |none=>none
        |false=>none
      |some (.array _ elem)=>match known P elem with
        |true=>match vw (fun i=>some (i*P.cellsOf elem,P.cellsOf elem)) zero parts with
          |some cs=>some (.agg cs)
          |none=>none
        |false=>none
      |_=>none
def mz (size:Nat) (xs:List D):List (Nat×D)→(List D→Option ρ)→Option ρ
  | [],k=>k xs
  |(i,v)::rest,k=>xK v fun v'=>match v'.cells with
    |some vc=>jm (aaM vc.length size&&Nat.blt i xs.length&&vc.all storable) (mz size (xs.set i v') rest k)
    |none=>none
def C9 (z:Z P) (still:Bool) (op:BinOp) (k:abz) (a b:Int) (K:Z P→D→Option ρ):Option ρ:=
  match op with
  | .add=>K z (.int k (k.wrap (a+b)))
  | .sub=>K z (.int k (k.wrap (a - b)))
  | .mul=>K z (.int k (k.wrap (a*b)))
  | .quo=>mQ z still (decide (b≠0)) fun z=>K z (.int k (k.wrap (a.tdiv b)))
  | .rem=>mQ z still (decide (b≠0)) fun z=>K z (.int k (a.tmod b))
  | .and=>K z (.int k (k.wrap (Z8 k.bits a&&&Z8 k.bits b).toNat))
  | .or=>K z (.int k (k.wrap (Z8 k.bits a|||Z8 k.bits b).toNat))
  | .xor=>K z (.int k (k.wrap (Z8 k.bits a^^^Z8 k.bits b).toNat))
  | .andNot=>K z (.int k (k.wrap (Z8 k.bits a&&& ~~~Z8 k.bits b).toNat))
  | .eql=>K z (.bool (a==b))
  | .neq=>K z (.bool (a !=b))
  | .lss=>K z (.bool (decide (a<b)))
  | .leq=>K z (.bool (decide (a≤b)))
  | .gtr=>K z (.bool (decide (a>b)))
  | .geq=>K z (.bool (decide (a≥b)))
  |_=>none
def Ry (P:Program) (z:Z P) (t:TypeId) (x y:D) (K:Z P→Bool→Option ρ):Option ρ:=
  match x,y with
  | .bool a,.bool b=>match P.underlying t with|some .bool=>K z (a==b)|_=>none
  | .agg xs,.agg ys=>match z.o with
    | .flat t' ks _::r=>jm (aaM t' t&&(j9 ks xs&&j9 ks ys)) (K ⟨r,z.c⟩ (bZ xs ys))
    |_=>none
  | .b6,.b6=>match P.underlying t with|some (.func _ _ _)=>K z true|_=>none
  | .b6,.fn _ _ _=>match P.underlying t with|some (.func _ _ _)=>K z false|_=>none
  | .fn _ _ _,.b6=>match P.underlying t with|some (.func _ _ _)=>K z false|_=>none
  | .fW,.fW=>match P.underlying t with|some (.pointer _)=>K z true|_=>none
  | .ptr _ _ _,.fW=>match P.underlying t with|some (.pointer _)=>K z false|_=>none
  | .eL _ _ _,.fW=>match P.underlying t with|some (.pointer _)=>K z false|_=>none
  |_,_=>none
def PI (P:Program) (z:Z P) (still:Bool) (op:BinOp) (t:TypeId) (x y:D) (K:Z P→D→Option ρ):Option ρ:=
  match x,y with
  | .int k a,.int k' b=>match op with
    | .shl=>mQ z still (decide (0≤b)) fun z=>K z (.int k (k.wrap (a*2^(min b.toNat k.bits))))
    | .shr=>mQ z still (decide (0≤b)) fun z=>K z (.int k (a.fdiv (2^(min b.toNat k.bits))))
    |op=>jm (hY k k') (C9 z still op k a b K)
  | .str a,.str b=>match op with
    | .eql=>K z (.bool (a.toList==b.toList))
    | .neq=>K z (.bool (!(a.toList==b.toList)))
    |_=>none
  |x,y=>match op with
    | .eql=>Ry P z t x y fun z b=>K z (.bool b)
    | .neq=>Ry P z t x y fun z b=>K z (.bool (!b))
    |_=>none
def RA (op:UnOp) (x:D) (K:D→Option ρ):Option ρ:=
  match op,x with
  | .neg,.int k n=>K (.int k (k.wrap (0 - n)))
  | .xor,.int k n=>K (.int k (k.wrap (Z8 k.bits (if k.signed then -1 else k.max)^^^Z8 k.bits n).toNat))
  | .not,.bool b=>K (.bool !b)
  |_,_=>none
def isByte:D→Bool
  | .int .u8 _=>true
  |_=>false
def Br (b:UInt8):D:= .int .u8 b.toNat
def byteOf:D→UInt8
  | .int _ n=>UInt8.ofNat n.toNat
  |_=>0
def kP (s:ByteArray):List D:=s.data.toList.map Br
def gC (xs:List D):ByteArray:=⟨(xs.map byteOf).toArray⟩
inductive jB where
  |pure (d:D)
  |read (id:Nat) (o:Ob) (d:D)
  |iU (id j:Nat) (d:D)
  |gK (id:Nat) (o o':Ob) (d:D)
  |new (o:Ob) (mk:Nat→D)
  |all (s:List Ob) (d:D)
def Lw (P:Program) (z:Z P) (src dst:TypeId) (x:D) (K:Z P→jB→Option ρ):Option ρ:=
  match P.underlying src,P.underlying dst,x with
  |some _,some (.int k),.int _ n=>K z (.pure (.int k (k.wrap n)))
  |some .string,some .string,.str s=>K z (.pure (.str s))
  |some .string,some (.slice e),.str s=>match P.underlying e with
    |some (.int .u8)=>jm (abq s.size 1099511627776) (K z (.new (.dD 0 1) fun id=> .aY (.tok id 0) 1 (kP s)))
    |_=>none
  |some (.slice e),some .string,.aY _ _ xs=>match P.underlying e with
    |some (.int .u8)=>ask z (xs.all isByte) fun z=>K z (.pure (.str (gC xs)))
    |_=>none
  |_,_,_=>none
def idx (x:D) (K:Int→Option ρ):Option ρ:=match x with| .int _ n=>K n|_=>none
def iW (t:List D) (o:Option Operand) (K:Option Int→Option ρ):Option ρ:=
  match o with
  |none=>K none
  |some x=>idx (cJ t x) fun n=>K (some n)
def BR (z:Z P) (o:ln) (sz:Nat) (xs:List D) (lo hi mx:Option Int) (K:Z P→D→Option ρ):Option ρ:=
  match lo,hi,mx with
  |none,none,none=>K z (.aY o.bg sz xs)
  |some l,none,none=>ask z (decide (0≤l∧l≤xs.length)) fun z=>K z (.aY o.bg sz (xs.drop l.toNat))
  |none,some h,none=>ask z (decide (0≤h∧h≤xs.length)) fun z=>K z (.aY .no sz (xs.take h.toNat))
  |some l,some h,none=>ask z (decide (0≤l∧l≤h∧h≤xs.length)) fun z=>K z (.aY .no sz ((xs.take h.toNat).drop l.toNat))
  |none,some h,some m=>ask z (decide (0≤h∧h≤xs.length∧m=h)) fun z=>K z (.aY .tight sz (xs.take h.toNat))
  |some l,some h,some m=>ask z (decide (0≤l∧l≤h∧h≤xs.length∧m=h)) fun z=>K z (.aY .tight sz ((xs.take h.toNat).drop l.toNat))
  |_,_,_=>none
def Jm (z:Z P) (id off sz n:Nat) (cp:Option Nat) (lo hi mx:Option Int) (K:Z P→D→Option ρ):Option ρ:=
  match lo,hi,mx with
  |none,none,none=>K z (.sub id off sz n cp)
  |some l,none,none=>ask z (decide (0≤l∧l≤n)) fun z=>K z (.sub id (off+l.toNat*sz) sz (n - l.toNat) (cp.map (· - l.toNat)))
  |none,some h,none=>ask z (decide (0≤h∧h≤n)) fun z=>K z (.sub id off sz h.toNat cp)
  |some l,some h,none=>ask z (decide (0≤l∧l≤h∧h≤n)) fun z=>K z (.sub id (off+l.toNat*sz) sz (h.toNat - l.toNat) (cp.map (· - l.toNat)))
  |none,some h,some m=>ask z (decide (0≤h∧h≤m∧m≤n)) fun z=>K z (.sub id off sz h.toNat (some m.toNat))
  |some l,some h,some m=>ask z (decide (0≤l∧l≤h∧h≤m∧m≤n)) fun z=>K z (.sub id (off+l.toNat*sz) sz (h.toNat - l.toNat) (some (m.toNat - l.toNat)))
  |_,_,_=>none
def sU (P:Program) (z:Z P) (still:Bool) (t:TypeId) (x ix:D) (K:Z P→D→Option ρ):Option ρ:=
  match ix with
  | .int _ i=>match P.underlying t,x with
    |some (.array len elem),.ptr dyn id off=>jm (known P elem) (mQ z still (decide (0≤i∧i<len)) fun z=>K z (.ptr (dyn|| !still) id (off+i.toNat*P.cellsOf elem)))
    |some (.array len elem),.eL dyn y off=>jm (known P elem) (mQ z still (decide (0≤i∧i<len)) fun z=>K z (.eL (dyn|| !still) y (off+i.toNat*P.cellsOf elem)))
    |some (.slice elem),.aY _ sz xs=>jm (known P elem&&aaM (P.cellsOf elem) sz) (mQ z still (decide (0≤i)) fun z=>pick z xs i.toNat fun z y=>K z (.eL false y 0))
    |some (.slice elem),.dm id sz n=>jm (known P elem&&aaM (P.cellsOf elem) sz) (ask z (decide (0≤i∧i<n)) fun z=>K z (.ptr true id (i.toNat*sz)))
    |some (.slice elem),.sub id off sz n _=>jm (known P elem&&aaM (P.cellsOf elem) sz) (ask z (decide (0≤i∧i<n)) fun z=>K z (.ptr true id (off+i.toNat*sz)))
    |_,_=>none
  |_=>none
def KU (P:Program) (z:Z P) (still:Bool) (t:TypeId) (x ix:D) (K:Z P→D→Option ρ):Option ρ:=
  match ix with
  | .int _ i=>match P.underlying t,x with
    |some (.array len elem),.agg cs=>jm (known P elem) (mQ z still (decide (0≤i∧i<len)) fun z=>uU P z (!still) elem cs (i.toNat*P.cellsOf elem) K)
    |some .string,.str s=>mQ z still (decide (0≤i)) fun z=>pick z (kP s) i.toNat K
    |_,_=>none
  |_=>none
def NQ (P:Program) (t:TypeId):Bool:=match P.underlying t with
  |some e=> !dJ e
  |none=>false
def N0 (P:Program) (z:Z P) (t:TypeId) (x:D) (s:List Ob) (K:Z P→jB→Option ρ):Option ρ:=
  match x with
  | .ptr dyn id off=>match s.getD id .dead with
    | .box cs=>uU P z dyn t cs off fun z d=>K z (match dyn,NQ P t with
      |false,true=> .iU id off d
      |_,_=> .read id (.box cs) d)
    |_=>none
  | .eL dyn y off=>match y.cells with
    |some cs=>uU P z dyn t cs off fun z d=>K z (.pure d)
    |none=>none
  |_=>none
def Jo (P:Program) (z:Z P) (t:TypeId) (x v:D) (s:List Ob) (K:Z P→jB→Option ρ):Option ρ:=
  match x with
  | .ptr dyn id off=>match s.getD id .dead with
    | .box cs=>match v.cells with
      |some vc=>jm (known P t&&aaM vc.length (P.cellsOf t)&&vc.all storable) (match dyn with
        |false=>jm (abq (off+vc.length) cs.length) (K z (.gK id (.box cs) (.box (jh cs off vc)) .undef))
        |true=>match z.o with
          | .ej l i xs l' _::r=>K ⟨r,(l=cs∧i=off∧xs=vc)∧z.c⟩ (.gK id (.box cs) (.box l') .undef)
          |_=>none)
      |none=>none
    |_=>none
  |_=>none
def tp (P:Program) (s:TypeId) (x:D) (f:Nat) (K:D→Option ρ):Option ρ:=
  match P.underlying s with
  |some (.struct fields)=>match fields[f]? with
    |some fd=>jm (known P fd.type&&Nat.blt 0 (P.cellsOf fd.type)) (match x with
      | .ptr dyn id off=>K (.ptr dyn id (off+fd.offset))
      | .eL dyn y off=>K (.eL dyn y (off+fd.offset))
      |_=>none)
    |none=>none
  |_=>none
def dy:Nat:=2147483648
def ur (sz:Nat) (xs:List D) (size:Nat):Bool:=aaM sz size||xs.isEmpty
def EC (P:Program) (z:Z P) (elem:TypeId) (id off sz n:Nat) (st:List Ob) (K:Z P→jB→Option ρ):Option ρ:=
  match st.getD id .dead with
  | .box cs=>jm (jN P elem&&aaM sz (P.cellsOf elem)&&abq (P.bytesOf elem) 65536)
    (tJ z n dy fun z=>match z.o with
      | .go _::r=>match aaM sz 1 with
        |true=>(match r with
          | .po l i k nc _::r=>ask ⟨r,(l=cs∧i=off∧k=n*sz)∧z.c⟩ (nc.all isByte) fun z=>K z (.all (st++ [.dD 0 sz]) (.aY (.tok st.length 0) sz nc))
          |_=>none)
        |false=>none
      |_=>none)
  |_=>none
def KS (P:Program) (z:Z P) (elem:TypeId) (id off sz n c Xh VB UX n2:Nat) (st:List Ob) (K:Z P→jB→Option ρ):Option ρ:=none
def N4 (P:Program) (z:Z P) (elem:TypeId) (id sz n Xh VB UX n2:Nat) (st:List Ob) (K:Z P→jB→Option ρ):Option ρ:=none
def yI (P:Program) (z:Z P) (ts:Array TypeId) (s x:D) (st:List Ob) (K:Z P→jB→Option ρ):Option ρ:=
  match ts.toList with
  |ty::xt::_=>match P.underlying ty,P.underlying xt with
    |some (.slice elem),some (.slice _)=>match s,x with
      | .aY o sz xs,.aY _ Ug ys=>match z.o with
        | .go 0::r=>match o,xs with
          | .tight,[]=>jm (jN P elem&&ur Ug ys (P.cellsOf elem)&&abq (P.bytesOf elem) 65536)
            (tJ ⟨r,z.c⟩ ys.length dy fun z=>Lc z ys fun z nc=>K z (.new (.box nc) fun id=> .dm id (P.cellsOf elem) ys.length))
          |_,_=>none
        | .go (_+1)::r=>none
        |_=>jm (known P elem&&jN P elem&&ur sz xs (P.cellsOf elem)&&ur Ug ys (P.cellsOf elem)&&abq (P.bytesOf elem) 65536)
          (tJ z (xs.length+ys.length) dy fun z=>match o with
            | .tight=>K z (.new (.dD 0 (P.cellsOf elem)) fun id=> .aY (.tok id 0) (P.cellsOf elem) (xs++ys))
            | .tok t v=>match st.getD t .dead with
              | .dD v' UX=>jm (aaM v' v&&aaM UX (P.cellsOf elem)) (K z (.gK t (.dD v' UX) (.dD (v+1) UX) (.aY (.tok t (v+1)) (P.cellsOf elem) (xs++ys))))
              |_=>none
            |_=>none)
      | .dm id sz n,.aY _ Ug ys=>none
      | .dm id sz n,.sub Xh VB UX n2 _=>N4 P z elem id sz n Xh VB UX n2 st K
      | .aY .tight _ [],.dm id sz n=>EC P z elem id 0 sz n st K
      | .aY .tight _ [],.sub id off sz n _=>EC P z elem id off sz n st K
      | .sub id off sz n (some c),.sub Xh VB UX n2 _=>KS P z elem id off sz n c Xh VB UX n2 st K
      |_,_=>none
    |_,_=>none
  |_=>none
def rF (z:Z P) (st:List Ob) (id off n size:Nat) (K:Z P→List D→Nat→Option ρ):Option ρ:=
  match st.getD id .dead with
  | .box cs=>match z.o with
    | .po l i k nc _::r=>K ⟨r,(l=cs∧i=off∧k=n*size)∧z.c⟩ nc n
    |_=>none
  |_=>none
def Om (z:Z P) (st:List Ob) (x:D) (size:Nat) (K:Z P→List D→Nat→Option ρ):Option ρ:=
  match x with
  | .aY _ sz ys=>jm (ur sz ys size) (Ld z ys fun z nc=>K z nc ys.length)
  | .dm id sz n=>jm (aaM sz size) (rF z st id 0 n size K)
  | .sub id off sz n _=>jm (aaM sz size) (rF z st id off n size K)
  |_=>none
def yt (z:Z P) (st:List Ob) (id off n:Nat) (src:D) (K:Z P→jB→Option ρ):Option ρ:=
  Om z st src 1 fun z nc m=>ask z (abq m n) fun z=>ask z (nc.all isByte) fun z=>match st.getD id .dead with
    | .box cs=>match z.o with
      | .ej l i xs l' _::r=>K ⟨r,(l=cs∧i=off∧xs=nc)∧z.c⟩ (.all (st.set id (.box l')) (.int .i64 m))
      |_=>none
    |_=>none
def Lv (P:Program) (z:Z P) (ts:Array TypeId) (dst src:D) (st:List Ob) (K:Z P→jB→Option ρ):Option ρ:=
  match ts.toList with
  |ty::_=>match P.underlying ty with
    |some (.slice e)=>jm (known P e&&aaM (P.cellsOf e) 1) (match dst with
      | .dm id sz n=>jm (aaM sz 1) (yt z st id 0 n src K)
      | .sub id off sz n _=>jm (aaM sz 1) (yt z st id off n src K)
      |_=>none)
    |_=>none
  |_=>none
def Pp (P:Program) (t:TypeId) (x:D) (K:D→Option ρ):Option ρ:=
  match P.underlying t,x with
  |some .string,.str s=>K (.int .i64 s.size)
  |some (.array n _),_=>K (.int .i64 n)
  |some (.slice _),.aY _ _ xs=>K (.int .i64 xs.length)
  |some (.slice _),.dm _ _ n=>K (.int .i64 n)
  |some (.slice _),.sub _ _ _ n _=>K (.int .i64 n)
  |_,_=>none
def Pc (x y:D) (K:D→Option ρ):Option ρ:=
  match x,y with
  | .int k a,.int _ b=>K (.int k (if b<a then b else a))
  |_,_=>none
def Pg (x y:D) (K:D→Option ρ):Option ρ:=
  match x,y with
  | .int k a,.int _ b=>K (.int k (if b>a then b else a))
  |_,_=>none
def sR:D→Bool
  | .int _ _=>true
  | .bool _=>true
  | .str _=>true
  |_=>false
def kE (P:Program) (t:TypeId):Option (abz×TypeId):=match P.underlying t with
  |some (.map kt et)=>match P.underlying kt with
    |some (.int k)=>some (k,et)
    |_=>none
  |_=>none
def x8 (P:Program) (t:TypeId):Option (TypeId×TypeId):=match P.underlying t with
  |some (.map kt et)=>some (kt,et)
  |_=>none
def rp (P:Program) (z:Z P) (t:TypeId) (K:Z P→jB→Option ρ):Option ρ:=
  match kE P t with
  |some (k,_)=>K z (.new (.mp k []) fun id=> .gl id)
  |none=>match x8 P t with
    |some (kt,_)=>vd z kt fun z ks=>K z (.new (.mf ks []) fun id=> .gl id)
    |none=>none
def rk (P:Program) (z:Z P) (t:TypeId) (m k v:D) (s:List Ob) (K:Z P→jB→Option ρ):Option ρ:=
  match m,k with
  | .gl id,.int q n=>match s.getD id .dead,kE P t with
    | .mp q' es,some (q2,_)=>jm (hY q q'&&hY q q2&&sR v) (K z (.gK id (.mp q' es) (.mp q' (nB es n v)) .undef))
    |_,_=>none
  | .gl id,.agg cs=>match s.getD id .dead,x8 P t with
    | .mf ks es,some (kt,_)=>vd z kt fun z W7=>jm (BT W7 ks&&j9 ks cs&&sR v) (K z (.gK id (.mf ks es) (.mf ks (P6 es cs v)) .undef))
    |_,_=>none
  |_,_=>none
def x9 (P:Program) (z:Z P) (t:TypeId) (m k:D) (s:List Ob) (K:Z P→jB→Option ρ):Option ρ:=none
def qi (P:Program) (z:Z P) (m n v:D) (s:List Ob) (K:Z P→jB→Option ρ):Option ρ:=none
def AR (P:Program) (z:Z P) (t:TypeId) (m k:D) (ok:Bool) (s:List Ob) (K:Z P→jB→Option ρ):Option ρ:=
  match m,k with
  | .gl id,.int q n=>match s.getD id .dead,kE P t with
    | .mp q' es,some (q2,et)=>match kq P et with
      |some zd=>jm (hY q q'&&hY q q2) (KI z es n fun z r=>match r,ok with
        |some d,true=>K z (.read id (.mp q' es) (.aL [d,.bool true]))
        |some d,false=>K z (.read id (.mp q' es) d)
        |none,true=>K z (.read id (.mp q' es) (.aL [zd,.bool false]))
        |none,false=>K z (.read id (.mp q' es) zd))
      |none=>none
    |_,_=>none
  | .gl id,.agg cs=>match s.getD id .dead,x8 P t with
    | .mf ks es,some (kt,et)=>match kq P et with
      |some zd=>vd z kt fun z W7=>jm (BT W7 ks&&j9 ks cs) (Pe z es cs fun z r=>match r,ok with
        |some d,true=>K z (.read id (.mf ks es) (.aL [d,.bool true]))
        |some d,false=>K z (.read id (.mf ks es) d)
        |none,true=>K z (.read id (.mf ks es) (.aL [zd,.bool false]))
        |none,false=>K z (.read id (.mf ks es) zd))
      |none=>none
    |_,_=>none
  |_,_=>none
def Ah (n:Nat):List D→List D
  | [d]=>Z7 n d
  |zc=>(Z7 n zc).flatten
def NY (P:Program) (z:Z P) (t:TypeId) (l c:D) (K:Z P→jB→Option ρ):Option ρ:=
  match P.underlying t,l,c with
  |some (.slice e),.int _ n,.int _ m=>match kq P e with
    |some zd=>match zd.cells with
      |some zc=>match z.o with
        | .go 5::r=>jm (known P e&&aaM zc.length (P.cellsOf e)&&Nat.blt 0 zc.length&&abq (P.bytesOf e) 65536&&zc.all storable)
          (ask ⟨r,z.c⟩ (decide (0≤n∧n=m∧n≤2147483648)) fun z=>K z (.pure (.aY .tight (P.cellsOf e) (Z7 n.toNat zd))))
        |_=>jm (known P e&&aaM zc.length (P.cellsOf e)&&Nat.blt 0 zc.length&&abq (P.bytesOf e) 65536)
          (ask z (decide (0≤n∧n=m∧n≤2147483648)) fun z=>K z (.new (.box (Ah n.toNat zc)) fun id=> .dm id (P.cellsOf e) n.toNat))
      |none=>none
    |none=>none
  |_,_,_=>none
def jb (id:Nat):List D→Option (List D×Nat)
  | []=>none
  | .aY (.fresh sz) Ug xs::r=>some (.aY (.tok id 0) Ug xs::r.map D.bg,sz)
  |d::r=>match jb id r with
    |some (l,sz)=>some (d::l,sz)
    |none=>none
def mU (id:Nat) (d:D):D×Ob:=
  match d with
  | .aY (.fresh sz) Ug xs=>(.aY (.tok id 0) Ug xs,.dD 0 sz)
  | .aL ds=>match jb id ds with
    |some (l,sz)=>(.aL l,.dD 0 sz)
    |none=>(.aL ds,.dead)
  |d=>(d,.dead)
mutual
def force:D→(D→Option ρ)→Option ρ
  | .undef,K=>K .undef
  | .int k n,K=>K (.int k n)
  | .bool b,K=>K (.bool b)
  | .str s,K=>K (.str s)
  | .fW,K=>K .fW
  | .ptr dyn id off,K=>K (.ptr dyn id off)
  | .eL dyn x off,K=>K (.eL dyn x off)
  | .gl id,K=>K (.gl id)
  | .jx id,K=>K (.jx id)
  | .dm id sz n,K=>K (.dm id sz n)
  | .sub id off sz n cp,K=>K (.sub id off sz n cp)
  | .aY o sz xs,K=>K (.aY o sz xs)
  | .b6,K=>K .b6
  | .fn f a b,K=>iY a fun a'=>iY b fun b'=>K (.fn f a' b')
  | .agg cs,K=>iY cs fun l=>K (.agg l)
  | .aL cs,K=>iY cs fun l=>K (.aL l)
def iY:List D→(List D→Option ρ)→Option ρ
  | [],K=>K []
  |d::r,K=>force d fun d'=>iY r fun l=>K (d'::l)
end
def Gk:List D→Nat→D→(List D→Option ρ)→Option ρ
  | [],_,_,K=>K []
  |_::r,0,d,K=>K (d::r)
  |a::r,i+1,d,K=>Gk r i d fun l=>K (a::l)
def put (t:List D) (dst:Option Nat) (d:D):List D:=match dst with|some i=>t.set i d|none=>t
def nC (t:List D) (dst:Option Nat) (d:D) (K:List D→Option ρ):Option ρ:=match dst with
  |some i=>force d fun d'=>Gk t i d' K
  |none=>K t
def ku:List Ob→Nat→Ob→(List Ob→Option ρ)→Option ρ
  | [],_,_,K=>K []
  |_::r,0,d,K=>K (d::r)
  |a::r,i+1,d,K=>ku r i d fun l=>K (a::l)
def rz:List (List D×D)→(List (List D×D)→Option ρ)→Option ρ
  | [],K=>K []
  |e::r,K=>iY e.1 fun n=>force e.2 fun d=>rz r fun l=>K ((n,d)::l)
def yf:Ob→(Ob→Option ρ)→Option ρ
  | .dead,K=>K .dead
  | .box cs,K=>iY cs fun l=>K (.box l)
  | .dD v sz,K=>K (.dD v sz)
  | .mp k es,K=>K (.mp k es)
  | .mf ks es,K=>rz es fun l=>K (.mf ks l)
  | .lp k t ps ag bd,K=>iY t fun l=>K (.lp k l ps ag bd)
def qb (z:Z P) (o:Ob) (k:Z P→Ob→Option ρ):Option ρ:=match z.o with
  | .raw::r=>k ⟨r,z.c⟩ o
  |_=>yf o fun o2=>k z o2
def nQ:List Ob→Ob→(List Ob→Option ρ)→Option ρ
  | [],o,K=>K [o]
  |a::r,o,K=>nQ r o fun l=>K (a::l)
inductive Tg where
  |fn (f:FuncId)
  |yl (id:Nat)
abbrev FZ (P:Program) (ρ:Type):=Tg→List D→List Ob→Z P→(D→List Ob→Z P→Option ρ)→Option ρ
def Pv (z:Z P) (d:D) (s:List Ob) (K:Z P→jB→Option ρ):Option ρ:=
  match z.o with
  | .go 777777::r=>match d with
    | .dm id sz n=>match s.getD id .dead with
      | .box cs=>jm (aaM sz 1) (ask ⟨r,z.c⟩ (aaM cs.length n&&cs.all isByte) fun z=>K z (.all (s.set id .dead) (.aY .no 1 cs)))
      |_=>none
    |_=>none
  |_=>K z (.all s d)
def FO (P:Program) (inl:FZ P ρ) (g:FuncId) (args:List D) (s:List Ob) (z:Z P) (K:Z P→jB→Option ρ):Option ρ:=
  match z.o with
  | .inl::r=>inl (.fn g) args s ⟨r,z.c⟩ fun d s' z=>Pv z d s' K
  | .aH g' ar s1 d W9 _::r=>jm (aaM g' g) (K ⟨r,(ar=args∧s1=s)∧z.c⟩ (.all W9 d))
  | .LB g' as n cs _ _::r=>jm (aaM g' g) (oV args fun as'=>K ⟨r,(as=as')∧z.c⟩ (.new (.box cs) fun id=> .dm id 1 n))
  | .ret g' as d _::r=>jm (aaM g' g) (oV args fun as'=>K ⟨r,(as=as')∧z.c⟩ (.new (mU 0 d).2 fun id=>(mU id d).1))
  |_=>none
def P1 (P:Program) (inl:FZ P ρ) (id:Nat) (args:List D) (s:List Ob) (z:Z P) (K:Z P→jB→Option ρ):Option ρ:=
  match z.o with
  | .inl::r=>inl (.yl id) args s ⟨r,z.c⟩ fun d s' z=>K z (.all s' d)
  |_=>none
def Rs (P:Program) (inl:FZ P ρ) (o:Oper) (t:List D) (s:List Ob) (z:Z P) (K:Z P→jB→Option ρ):Option ρ:=
  match o.op with
  | .move x=>K z (.pure (cJ t x))
  | .assign x=>K z (.pure (cJ t x))
  | .pick c a b=>match cJ t c with
    | .bool q=>branch z q (fun z=>K z (.pure (cJ t a))) (fun z=>K z (.pure (cJ t b)))
    |_=>none
  | .box _ x=>match (cJ t x).cells with
    |some cs=>K z (.new (.box cs) fun id=> .ptr false id 0)
    |none=>none
  | .alloc e=>match kq P e with
    |some d=>match d.cells with
      |some cs=>K z (.new (.box cs) fun id=> .ptr false id 0)
      |none=>match IZ P e with
        |true=>K z (.new (.box [.undef]) fun id=> .ptr false id 0)
        |false=>none
    |none=>none
  | .build ty parts=>match Ef P ty (parts.toList.map fun p=>(p.1,cJ t p.2)) with
    |some d=>K z (.pure d)
    |none=>none
  | .buildSlice ty len parts=>match P.underlying ty with
    |some (.slice e)=>match kq P e with
      |some d=>match d.cells with
        | some zc => jm (known P e && aaM zc.length (P.cellsOf e) && abq (len * P.cellsOf e) 16777216 && d.plain && zc.all storable)
            (mz (P.cellsOf e) (Z7 len d) (parts.toList.map fun p=>(p.1,cJ t p.2)) fun xs=>K z (.pure (.aY .tight (P.cellsOf e) xs)))
        |none=>none
      |none=>none
    |_=>none
  | .load ty a=>N0 P z ty (cJ t a) s K
  | .store ty a x=>Jo P z ty (cJ t a) (cJ t x) s K
  | .nilCheck x=>match cJ t x with
    | .ptr dyn id off=>K z (.pure (.ptr dyn id off))
    | .eL dyn y off=>K z (.pure (.eL dyn y off))
    | .fn (.func g) a b=>K z (.pure (.fn (.func g) a b))
    |_=>none
  | .binOp op ty x y _=>PI P z (isConst y) op ty (cJ t x) (cJ t y) fun z d=>K z (.pure d)
  | .unOp op _ x=>RA op (cJ t x) fun d=>K z (.pure d)
  | .convert src dst x=>Lw P z src dst (cJ t x) K
  | .makeFunc f first cap=>K z (.pure (.fn f (first.toList.map (cJ t)) (cap.toList.map (cJ t))))
  | .slice ty x lo hi mx=>match P.underlying ty,cJ t x with
    |some (.slice e),.aY o' sz xs=>jm (known P e&&aaM (P.cellsOf e) sz) (iW t lo fun l=>iW t hi fun h=>iW t mx fun m=>BR z o' sz xs l h m fun z d=>K z (.pure d))
    |some (.slice e),.dm id sz n=>jm (known P e&&aaM (P.cellsOf e) sz) (iW t lo fun l=>iW t hi fun h=>iW t mx fun m=>Jm z id 0 sz n none l h m fun z d=>K z (.pure d))
    |some (.slice e),.sub id off sz n cp=>jm (known P e&&aaM (P.cellsOf e) sz) (iW t lo fun l=>iW t hi fun h=>iW t mx fun m=>Jm z id off sz n cp l h m fun z d=>K z (.pure d))
    |some (.array n e),.ptr _ id off=>jm (known P e) (iW t lo fun l=>iW t hi fun h=>iW t mx fun m=>Jm z id off (P.cellsOf e) n (some n) l h m fun z d=>K z (.pure d))
    |_,_=>none
  | .fieldAddr ty x f=>tp P ty (cJ t x) f fun d=>K z (.pure d)
  | .field ty x f=>match P.underlying ty,cJ t x with
    |some (.struct fields),.agg cs=>match fields[f]? with
      |some fd=>uU P z false fd.type cs fd.offset fun z d=>K z (.pure d)
      |none=>none
    |_,_=>none
  | .indexAddr ty x ix=>sU P z (isConst ix) ty (cJ t x) (cJ t ix) fun z d=>K z (.pure d)
  | .index ty x ix=>KU P z (isConst ix) ty (cJ t x) (cJ t ix) fun z d=>K z (.pure d)
  | .extract x i=>match cJ t x with
    | .aL ds=>match ds[i]? with
      |some d=>K z (.pure d)
      |none=>none
    |_=>none
  | .call c=>match c.callee with
    | .builtin .len=>match c.args.toList,c.argTypes.toList with
      |x::_,ty::_=>Pp P ty (cJ t x) fun d=>K z (.pure d)
      |_,_=>none
    | .builtin .append=>match c.args.toList with
      |x::y::_=>yI P z c.argTypes (cJ t x) (cJ t y) s K
      |_=>none
    | .builtin .min=>match c.args.toList with
      | [x,y]=>Pc (cJ t x) (cJ t y) fun d=>K z (.pure d)
      |_=>none
    | .builtin .max=>match c.args.toList with
      | [x,y]=>Pg (cJ t x) (cJ t y) fun d=>K z (.pure d)
      |_=>none
    | .builtin .copy=>match c.args.toList with
      |x::y::_=>Lv P z c.argTypes (cJ t x) (cJ t y) s K
      |_=>none
    | .value f=>match cJ t f with
      | .fn (.func g) first cap=>FO P inl g (first++(c.args.toList.map (cJ t)++cap)) s z K
      | .jx id=>P1 P inl id (c.args.toList.map (cJ t)) s z K
      |_=>none
    |_=>none
  | .makeMap ty r=>match r with
    |none=>rp P z ty K
    |some x=>idx (cJ t x) fun _=>rp P z ty K
  | .insert ty m k v=>rk P z ty (cJ t m) (cJ t k) (cJ t v) s K
  | .mapUpdate ty m k v=>rk P z ty (cJ t m) (cJ t k) (cJ t v) s K
  | .lookup ty m k ok=>AR P z ty (cJ t m) (cJ t k) ok s K
  | .mapEntry ty m k=>x9 P z ty (cJ t m) (cJ t k) s K
  | .entryStore _ m n v=>qi P z (cJ t m) (cJ t n) (cJ t v) s K
  | .makeSlice ty l c=>NY P z ty (cJ t l) (cJ t c) K
  |_=>none
def j8 (ops:Array Oper) (t:List D) (j:Nat):D:=match ops[j]? with
  |some o=>match o.dst with|some i=>t.getD i .undef|none=> .undef
  |none=> .undef
def jy (i:Nat):List Nat→Bool
  | []=>false
  |a::r=>match aaM a i with|true=>true|false=>jy i r
inductive FP where
  |O9
  |rd (id:Nat)
  |uj (id j:Nat)
  |wr (id:Nat)
  |nw (id:Nat)
  |all (l:List Nat) (kc:List (Nat×Nat))
def FA (s s':List Ob):List (Nat×Ob)→Prop→Prop
  | [],c=>c
  |(i,o)::r,c=>FA s s' r ((o=s.getD i .dead∧o=s'.getD i .dead)∧c)
def np:List (Nat×Ob)→List Nat
  | []=> []
  |(i,_)::r=>i::np r
def hG:Ob→Nat→Option D
  | .box cs,j=>cs[j]?
  |_,_=>none
def LA (s s':List Ob):List (Nat×Nat×D)→Prop→Prop
  | [],c=>c
  |(i,j,d)::r,c=>LA s s' r ((some d=hG (s.getD i .dead) j∧some d=hG (s'.getD i .dead) j)∧c)
def pA:List (Nat×Nat×D)→List (Nat×Nat)
  | []=> []
  |(i,j,_)::r=>(i,j)::pA r
def C1 (i j:Nat):List (Nat×Nat)→Bool
  | []=>false
  |(a,b)::r=>match aaM a i,aaM b j with|true,true=>true|_,_=>C1 i j r
def sQ (n:Nat):List (Nat×Ob)→Bool
  | []=>true
  |(i,_)::r=>match Nat.blt i n with|true=>sQ n r|false=>false
def Fy (z:Z P) (s s':List Ob) (k:Z P→List Nat→List (Nat×Nat)→Option ρ):Option ρ:=
  match z.o with
  | .aU l::r=>jm (sQ s.length l) (k ⟨r,FA s s' l z.c⟩ (np l) [])
  | .fJ cs l::r=>jm (sQ s.length l) (k ⟨r,LA s s' cs (FA s s' l z.c)⟩ (np l) (pA cs))
  |_=>k z [] []
def mH (P:Program) (inl:FZ P ρ) (ops:Array Oper):List Oper→List D→List Ob→List FP→Z P→(List D→List Ob→List FP→Z P→Option ρ)→Option ρ
  | [],t,s,Ve,z,K=>K t s Ve z
  |o::rest,t,s,Ve,z,K=>
    let run:=fun z=>Rs P inl o t s z fun z e=>match e with
      | .pure d=>nC t o.dst d fun t'=>mH P inl ops rest t' s (.O9::Ve) z K
      | .read id _ d=>nC t o.dst d fun t'=>mH P inl ops rest t' s (.rd id::Ve) z K
      | .iU id j d=>nC t o.dst d fun t'=>mH P inl ops rest t' s (.uj id j::Ve) z K
      | .gK id _ o' d=>nC t o.dst d fun t'=>qb z o' fun z o2=>ku s id o2 fun s'=>mH P inl ops rest t' s' (.wr id::Ve) z K
      | .new o' mk=>nC t o.dst (mk s.length) fun t'=>qb z o' fun z o2=>nQ s o2 fun s'=>mH P inl ops rest t' s' (.nw s.length::Ve) z K
      | .all s' d=>nC t o.dst d fun t'=>Fy z s s' fun z l kc=>mH P inl ops rest t' s' (.all l kc::Ve) z K
    match o.guard with
    |none=>run z
    |some (j,want)=>match j8 ops t j with
      | .bool b=>branch z (b==want) run (fun z=>nC t o.dst (.aL []) fun t'=>mH P inl ops rest t' s (.O9::Ve) z K)
      | .aL []=>nC t o.dst (.aL []) fun t'=>mH P inl ops rest t' s (.O9::Ve) z K
      |_=>none
def iL:List Oper→List Nat→List Nat
  | [],acc=>acc
  |o::rest,acc=>iL rest (acc++ [o.after.toList.foldl (fun m e=>match Region.binds .any e with|true=>m|||(1<<<e.on)|||acc.getD e.on 0|false=>m) 0])
def iq:FP→FP→Bool
  | .O9,_=>false
  |_,.O9=>false
  | .all l _,.rd i=> !jy i l
  | .rd i,.all l _=> !jy i l
  | .all l kc,.uj i j=> !jy i l&& !C1 i j kc
  | .uj i j,.all l kc=> !jy i l&& !C1 i j kc
  | .all _ _,_=>true
  |_,.all _ _=>true
  | .rd _,.rd _=>false
  | .rd _,.uj _ _=>false
  | .uj _ _,.rd _=>false
  | .uj _ _,.uj _ _=>false
  | .uj i _,.wr j=>aaM i j
  | .uj i _,.nw j=>aaM i j
  | .wr i,.uj j _=>aaM i j
  | .nw i,.uj j _=>aaM i j
  | .rd i,.wr j=>aaM i j
  | .rd i,.nw j=>aaM i j
  | .wr i,.rd j=>aaM i j
  | .wr i,.wr j=>aaM i j
  | .wr i,.nw j=>aaM i j
  | .nw i,.rd j=>aaM i j
  | .nw i,.wr j=>aaM i j
  | .nw i,.nw j=>aaM i j
def I9 (xs:List Operand):List Nat:=xs.filterMap fun x=>match x with| .tmp i=>some i|_=>none
def sO (ops:Array Oper) (o:Oper):List Nat:=
  I9 o.op.operands.toList++(match o.guard with
    |some (j,_)=>match ops[j]? with
      |some q=>q.dst.toList
      |none=> []
    |none=> [])
def share (ops:Array Oper) (x y:Oper):Bool:=
  (match x.dst with|some d=>(sO ops y).contains d||y.dst==some d|none=>false)||(match y.dst with|some d=>(sO ops x).contains d|none=>false)
def nW (ops:Array Oper) (Ve:List FP):Bool:=
  let l:=ops.toList
  let ah:=iL l []
  let f:=Ve.reverse
  (aaM f.length l.length)&&
  (aao l.length).all fun j=>
    (match l[j]? with
     |some o=>o.after.all fun e=> !Region.binds .any e||Nat.blt e.on j
     |none=>false)&&
    (aao j).all fun i=>(ah.getD j 0).testBit i||
      (match l[i]?,l[j]? with
       |some x,some y=> !share ops x y
       |_,_=>false)&& !iq (f.getD i (.all [] [])) (f.getD j (.all [] []))
mutual
def nS (n:Nat):D→Bool
  | .ptr _ id _=>Nat.blt id n
  | .gl id=>Nat.blt id n
  | .jx id=>Nat.blt id n
  | .dm id _ _=>Nat.blt id n
  | .sub id _ _ _ _=>Nat.blt id n
  | .aY (.tok id _) _ _=>Nat.blt id n
  | .fn _ a b=>mc n a&&mc n b
  | .agg cs=>mc n cs
  | .aL cs=>mc n cs
  |_=>true
def mc (n:Nat):List D→Bool
  | []=>true
  |d::r=>nS n d&&mc n r
end
def ep:Nat:=1000000
def je (t:List D) (s:List Ob) (k:Nat):D:=match abq ep k with
  |false=>t.getD k .undef
  |true=>match s.getD ((k - ep) / 1000) .dead with
    | .box cs=>cs.getD ((k - ep)%1000) .undef
    |_=> .undef
def sY (s:List Ob) (size id:Nat) (d:D):Option (D×Option Nat×Ob):=
  match d with
  | .aY .tight sz xs=>match ur sz xs size with
    |true=>some (.aY (.tok id 0) size xs,none,.dD 0 size)
    |false=>none
  | .aY (.tok i v) sz xs=>match s.getD i .dead with
    | .dD v' UX=>match aaM v' v&&(aaM UX size&&ur sz xs size) with
      |true=>some (.aY (.tok id 0) size xs,some i,.dD 0 size)
      |false=>none
    |_=>none
  | .dm i sz n=>match s.getD i .dead with
    | .box cs=>match aaM sz size with
      |true=>some (.dm id sz n,some i,.box (cs.map D.bg))
      |false=>none
    |_=>none
  |_=>none
def A0 (t:List D) (s:List Ob):List (Nat×Nat)→Nat→Option (List (Option Nat)×List Ob)
  | [],_=>some ([],[])
  |(k,size)::r,id=>match sY s size id (je t s k),A0 t s r (id+1) with
    |some (_,o,ob),some (l,O7)=>some (o::l,ob::O7)
    |_,_=>none
def findF (i:Nat):List (Nat×Nat)→Nat→Option (Nat×Nat)
  | [],_=>none
  |(k,size)::r,id=>match aaM k i with|true=>some (id,size)|false=>findF i r (id+1)
def Lf (i:Nat) (fs:List (Nat×Nat)) (n0:Nat):Option (Nat×Nat):=match abq ep i with|true=>none|false=>findF i fs n0
def FF (i j:Nat) (fs:List (Nat×Nat)) (n0:Nat):Option (Nat×Nat):=match Nat.blt j 1000 with|true=>findF (ep+i*1000+j) fs n0|false=>none
def Jq (sp:HS) (n0:Nat) (s:List Ob) (i:Nat) (d:D):Option D:=
  match Lf i sp.nE n0 with
  |some (id,size)=>match sY s size id d with|some (d',_)=>some d'|none=>none
  |none=>match jy i sp.aU with
    |true=>match nS n0 d with|true=>some d|false=>none
    |false=>match jy (ep+i) sp.aU with
      |true=>match d with| .agg cs=>some (.agg (cs.map D.bg))|_=>none
      |false=>some .undef
def sf (sp:HS) (n0:Nat) (s:List Ob):Nat→List D→Option (List D)
  |_,[]=>some []
  |i,d::r=>match Jq sp n0 s i d,sf sp n0 s (i+1) r with
    |some d',some l=>some (d'::l)
    |_,_=>none
def uz (i:Nat):List (Option Nat)→Bool
  | []=>false
  |none::r=>uz i r
  |some a::r=>match aaM a i with|true=>true|false=>uz i r
def vz:List (Option Nat)→Bool
  | []=>true
  |none::r=>vz r
  |some a::r=> !uz a r&&vz r
def ql (sp:HS) (n0:Nat) (s:List Ob) (i:Nat):Nat→List D→Option (List D)
  |_,[]=>some []
  | j, d :: r => match (match FF i j sp.nE n0 with
      |some (id,size)=>(match sY s size id d with|some (d',_)=>some d'|none=>none)
      |none=>(match nS n0 d with|true=>some d|false=>none)),ql sp n0 s i (j+1) r with
    |some d',some l=>some (d'::l)
    |_,_=>none
def Rt (sp:HS) (n0:Nat) (s:List Ob) (used:List (Option Nat)) (i:Nat) (o:Ob):Option Ob:=
  match jy (ep+i) sp.O7&& !uz i used with
  |true=>match o with
    | .box cs=>some (.box (cs.map D.bg))
    |_=>none
  |false=>match jy i sp.O7&& !uz i used with
    |false=>some .dead
    |true=>match o with
      | .box cs=>match ql sp n0 s i 0 cs with|some Us=>some (.box Us)|none=>none
      | .lp k t ps ag bd=>match mc n0 t with|true=>some (.lp k t ps ag bd)|false=>none
      |o=>some o
def G1 (sp:HS) (n0:Nat) (s0:List Ob) (used:List (Option Nat)) (new:List Ob):Nat→Nat→List Ob→Option (List Ob)
  |0,_,_=>some new
  |_+1,_,[]=>none
  |n+1,i,o::r=>match Rt sp n0 s0 used i o,G1 sp n0 s0 used new n (i+1) r with
    |some o',some l=>some (o'::l)
    |_,_=>none
def pj (sp:HS) (n0:Nat) (t:List D) (s:List Ob):Option (List D×List Ob):=
  match A0 t s sp.nE n0 with
  |some (used,new)=>match vz used with
    |true=>match sf sp n0 s 0 t,G1 sp n0 s used new n0 0 s with
      |some t',some s'=>some (t',s')
      |_,_=>none
    |false=>none
  |none=>none
def FR (s:List Ob) (i:Nat):List (List D):=match s.getD i .dead with| .box cs=> [cs]|_=> []
def p9 (s:List Ob):List Nat→List (List D)
  | []=> []
  |o::r=>match abq ep o with
    |true=>FR s (o - ep)++p9 s r
    |false=>p9 s r
def yd (t:List D) (s:List Ob):List (Nat×Nat)→List (List D)
  | []=> []
  |(k,_)::r=>(match je t s k with| .dm i _ _=>FR s i|_=> [])++yd t s r
def yc (t:List D):List Nat→List (List D)
  | []=> []
  |o::r=>(match abq ep o with
    |true=>match t.getD (o - ep) .undef with| .agg cs=> [cs]|_=> []
    |false=> [])++yc t r
def yb (sp:HS) (t:List D) (s:List Ob):List (List D):=p9 s sp.O7++(yd t s sp.nE++yc t sp.aU)
def Iy:List (List D)→Z P→(Z P→Option ρ)→Option ρ
  | [],z,k=>k z
  |cs::r,z,k=>match z.o with
    | .cl Us _::o=>Iy r ⟨o,(Us=cs)∧z.c⟩ k
    |_=>none
def iter (body:List D→List Ob→Z P→(Ex→List D→List Ob→Z P→Option ρ)→Option ρ):Nat→List D→List Ob→Z P→(Ex→List D→List Ob→Z P→Option ρ)→Option ρ
  |0,_,_,_,_=>none
  |n+1,t,s,z,K=>body t s z fun ex t' s' z=>match ex with
    | .norm=>iter body n t' s' z K
    |e=>K e t' s' z
def kF (aU:List Nat):Nat→List D→List D
  |_,[]=> []
  |i,d::r=>(match jy i aU with|true=>d|false=> .undef)::kF aU (i+1) r
def my:List D→List (Nat×D)→List D
  |t,[]=>t
  |t,(i,d)::r=>my (t.set i d) r
def gA (P:Program) (inl:FZ P ρ) (rd:Bool):Code→List D→List Ob→Z P→(Ex→List D→List Ob→Z P→Option ρ)→Option ρ
  | .skip,t,s,z,K=>K .norm t s z
  | .label _,t,s,z,K=>K .norm t s z
  | .region _ ops draw,t,s,z,K=>mH P inl ops ops.toList t s [] z fun t' s' Ve z=>match draw with
    |false=>K .norm t' s' z
    |true=>jm (nW ops Ve) (K .norm t' s' z)
  | .seq a b,t,s,z,K=>gA P inl rd a t s z fun ex t' s' z=>match ex with
    | .norm=>gA P inl rd b t' s' z K
    |e=>K e t' s' z
  | .cond c a b,t,s,z,K=>match cJ t c with
    | .bool q=>branch z q (fun z=>gA P inl rd a t s z K) (fun z=>gA P inl rd b t s z K)
    |_=>none
  | .block id a,t,s,z,K=>match z.o with
    | .dI sp n0 c' t1 s1 ex t2 s2 _::r=>match pj sp n0 t s with
      |some (t',s')=>jm (aaM n0 s.length) (Iy (yb sp t s) ⟨r,(c'= .block id a∧t1=t'∧s1=s')∧z.c⟩ fun z=>K ex t2 s2 z)
      |none=>none
    |_=>gA P inl rd a t s z fun ex t' s' z=>match ex with
      | .exit i=>match aaM i id with|true=>K .norm t' s' z|false=>K (.exit i) t' s' z
      |e=>K e t' s' z
  | .scope a,t,s,z,K=>gA P inl rd a t s z K
  | .exit id,t,s,z,K=>K (.exit id) t s z
  | .ret,t,s,z,K=>K .ret t s z
  | .loop x,t,s,z,K=>match z.o with
    | .go n::r=>iter (gA P inl rd x) n t s ⟨r,z.c⟩ K
    | .head sp n0 c' t1 s1 ex t2 s2 _::r=>match pj sp n0 t s with
      |some (t',s')=>jm (aaM n0 s.length) (Iy (yb sp t s) ⟨r,(c'= .loop x∧t1=t'∧s1=s')∧z.c⟩ fun z=>K ex t2 s2 z)
      |none=>none
    | .code c' t1 s1 ex t2 s2 _::r=>K ex t2 s2 ⟨r,(c'= .loop x∧t1=t∧s1=s)∧z.c⟩
    |_=>none
  | .rangeFunc g ps ag bd,t,s,z,K=>match z.o with
    | .NR aU::r=>match rd,cJ t g with
      |false,.fn (.func gf) first cap=>iY (kF aU 0 t) fun t1=>nQ s (.lp .ready t1 ps ag bd) fun s1=>
        inl (.fn gf) (first++(.jx s.length::cap)) s1 ⟨r,z.c⟩ fun _ s2 z=>match s2.getD s.length .dead with
          | .lp .ready _ _ _ _=>ku s2 s.length .dead fun s3=>K .norm t s3 z
          | .lp .ret _ _ _ _=>ku s2 s.length .dead fun s3=>K .ret t s3 z
          | .lp (.exit i) _ _ _ _=>ku s2 s.length .dead fun s3=>K (.exit i) t s3 z
          |_=>none
      |_,_=>none
    | .code c' t1 s1 ex t2 s2 _::r=>K ex t2 s2 ⟨r,(c'= .rangeFunc g ps ag bd∧t1=t∧s1=s)∧z.c⟩
    |_=>none
  |c,t,s,z,K=>match z.o with
    | .code c' t1 s1 ex t2 s2 _::r=>K ex t2 s2 ⟨r,(c'=c∧t1=t∧s1=s)∧z.c⟩
    |_=>none
def xa (P:Program) (t:List D) (s:List Ob):ResultVar→Option D
  | .tmp i=>some (t.getD i .undef)
  | .cell a ty=>match t.getD a .undef with
    | .ptr _ id off=>match s.getD id .dead with
      | .box cs=>match P.underlying ty with
        |some d=>match dJ d with
          |true=>match known P ty&&abq (off+P.cellsOf ty) cs.length with
            |true=>some (.agg ((cs.drop off).take (P.cellsOf ty)))
            |false=>none
          |false=>cs[off]?
        |none=>none
      |_=>none
    |_=>none
def Cs (P:Program) (t:List D) (s:List Ob):List ResultVar→Option (List D)
  | []=>some []
  |r::rs=>match xa P t s r,Cs P t s rs with
    |some d,some l=>some (d::l)
    |_,_=>none
def Ct:List D→D
  | [d]=>d
  |l=> .aL l
def vE (P:Program) (inl:FZ P ρ) (fn:Func) (args:List D) (s:List Ob) (z:Z P) (K:D→List Ob→Z P→Option ρ):Option ρ:=
  match fn.body with
  |some c=>jm (abq args.length fn.ntmps) (iY (args++Z7 (fn.ntmps - args.length) .undef) fun t0=>gA P inl false c t0 s z fun ex t' s' z=>match ex with
    | .exit _=>none
    |_=>match Cs P t' s' fn.results.toList with
      |some l=>K (Ct l) s' z
      |none=>none)
  |none=>none
def B2 (P:Program) (inl:FZ P ρ) (id:Nat) (args:List D) (s:List Ob) (z:Z P) (K:D→List Ob→Z P→Option ρ):Option ρ:=
  match s.getD id .dead with
  | .lp .ready t ps ag bd=>jm (aaM args.length ps.size) (iY (my t (ps.toList.zip args)) fun t1=>gA P inl true ag t1 s z fun ex t2 s2 z=>match ex with
    | .norm=>match s2.getD id .dead with
      | .lp .ready t' YB YN YE=>ku s2 id (.lp .busy t' YB YN YE) fun s3=>gA P inl true bd t2 s3 z fun ex _ s4 z=>match s4.getD id .dead with
        | .lp .busy t5 WQ Wu Wt=>match ex with
          | .norm=>ku s4 id (.lp .ready t5 WQ Wu Wt) fun s5=>K (.bool true) s5 z
          | .ret=>ku s4 id (.lp .ret t5 WQ Wu Wt) fun s5=>K (.bool false) s5 z
          | .exit i=>ku s4 id (.lp (.exit i) t5 WQ Wu Wt) fun s5=>K (.bool false) s5 z
        |_=>none
      |_=>none
    |_=>none)
  |_=>none
def sT (P:Program):Nat→FZ P ρ
  |0=>fun _ _ _ _ _=>none
  |n+1=>fun g args s z K=>match g with
    | .fn f=>match P.funcs[f]? with
      |some fn=>jm (!(fn.name== "runtime.NumGoroutine")) (vE P (sT P n) fn args s z K)
      |none=>none
    | .yl id=>B2 P (sT P n) id args s z K
def kz (s:List Ob):D→D
  | .aY (.tok id v) sz xs=>match s.getD id .dead with
    | .dD v' UX=>match aaM v v'&&aaM sz UX with|true=> .aY (.fresh sz) sz xs|false=> .aY .no sz xs
    |_=> .aY .no sz xs
  |d=>d.bg
def GV (s:List Ob):D→D
  | .aL ds=> .aL (ds.map (kz s))
  |d=>kz s d
end
def Fz:List (Nat×Ob)→Prop→Prop
  | [],c=>c
  |(_,o)::r,c=>Fz r ((o=o∧o=o)∧c)
theorem nR:∀(l:List (Nat×Ob)) {c:Prop},c→Fz l c
 | [],_,h=>h
 |(_,o)::r,_,h=>nR r ⟨⟨rfl,rfl⟩,h⟩
def Lz:List (Nat×Nat×D)→Prop→Prop
  | [],c=>c
  |(_,_,d)::r,c=>Lz r ((some d=some d∧some d=some d)∧c)
theorem tI:∀(l:List (Nat×Nat×D)) {c:Prop},c→Lz l c
 | [],_,h=>h
 |(_,_,d)::r,_,h=>tI r ⟨⟨rfl,rfl⟩,h⟩
def Ev.self {P:Program} :Ev P→Prop→Prop
  | .ret _ as _ _,c=>(as=as)∧c
  | .inl,c=>c
  | .aH _ ar s _ _ _,c=>(ar=ar∧s=s)∧c
  | .LB _ ar _ _ _ _,c=>(ar=ar)∧c
  | .cX q _ _,c=>(q=q)∧c
  | .len n m _,c=>(n=n∧m=m)∧c
  | .get l i _ _,c=>(l=l∧i=i)∧c
  | .po l i n _ _,c=>(l=l∧i=i∧n=n)∧c
  | .ej l i xs _ _,c=>(l=l∧i=i∧xs=xs)∧c
  | .flat _ _ _,c=>c
  | .jM es n _ _,c=>(es=es∧n=n)∧c
  | .Sb _ _ _,c=>c
  | .NX es n _ _,c=>(es=es∧n=n)∧c
  | .aU l,c=>Fz l c
  | .fJ cs l,c=>Lz cs (Fz l c)
  | .code c' t s _ _ _ _,c=>(c'=c'∧t=t∧s=s)∧c
  | .go _,c=>c
  | .NR _,c=>c
  | .raw,c=>c
  | .cl cs _,c=>(cs=cs)∧c
  | .L7 ys _ _,c=>(ys=ys)∧c
  | .head _ _ c' t s _ _ _ _,c=>(c'=c'∧t=t∧s=s)∧c
  | .dI _ _ c' t s _ _ _ _,c=>(c'=c'∧t=t∧s=s)∧c
def sj {P:Program} :List (Ev P)→Prop→Prop
  | [],c=>c
  |e::r,c=>sj r (e.self c)
theorem lC {P:Program} (l:List (Ev P)):∀ {c:Prop},c→sj l c:=by
 induction l with
 |nil=>exact fun h=>h
 |cons e r ih=>
  intro c h
  refine ih ?_
  cases e<;>simp only [Ev.self,fm,and_self]<;>first|exact h|exact nR _ h|exact tI _ (nR _ h)
def ym (P:Program) (fn:Func) (args:List D) (o:List (Ev P)):Option (D×Prop):=
  vE P (sT P 20) fn args [] ⟨o,True⟩ fun d s z=>jm d.clean (match z.o with| []=>some (GV s d,z.c)|_=>none)
def vx (P:Program) (c:Code) (sp:HS) (n0:Nat) (t:List D) (s:List Ob) (o:List (Ev P)):Option ((Ex×List D×List Ob)×Prop):=
  gA P (sT P 20) true c t s ⟨o,True⟩ fun ex t' s' z=>match pj sp n0 t' s' with
    |some (t2,s2)=>Iy (yb sp t' s') z fun z=>match z.o with
      | []=>some ((ex,t2,s2),z.c)
      |_=>none
    |none=>none
def evalCode (P:Program) (c:Code) (t:List D) (s:List Ob) (o:List (Ev P)):Option ((Ex×List D×List Ob)×Prop):=
  gA P (sT P 20) true c t s ⟨o,True⟩ fun ex t' s' z=>match z.o with| []=>some ((ex,t',s'),z.c)|_=>none
end Go.Ev
namespace Go.Ev
open Go
abbrev ao (n:Int):D:= .int .i8 n
abbrev av (n:Int):D:= .int .i64 n
abbrev aC (n:Int):D:= .int .u8 n
abbrev au (n:Int):D:= .int .u64 n
abbrev cF:D:= .undef
abbrev aF:Ob:= .dead
abbrev ay (c:List D):Ob:= .box c
abbrev ax (b:Bool):D:= .bool b
abbrev aO {P:Program} :Ev P:= .inl
abbrev aZ (n:Nat) (l:List D):D:= .aY .no n l
abbrev eA (n:Nat):List D:=Z7 n .undef
abbrev aw {P:Program} {g:FuncId} {as:List D} {d:D} (h:aP P g as d):Ev P:= .ret g as d h
abbrev bH {P:Program} (n:Nat) (h:n≤2147483648:=by decide):Ev P:= .len n 2147483648 h
def cr {P:Program} :Nat→Nat→List (Ev P)
  |0,_=> []
  |n+1,k=>(match k%2 with
    |0=> .cX false false rfl
    |_=> .cX true true rfl)::cr n (k / 2)
end Go.Ev
