import Derived.Calls
import Derived.Orders
import Derived.Below
import Derived.Laws.World
import Derived.Laws.Sem
import Derived.RangeFuncRecord
import Derived.Laws.StructEq
import Derived.OrdersIn
import Derived.ControlIn
open List renaming replicate→Sx,range→SI,getElem?_map→SW,mem_of_getElem? →Tb,all_eq_true→Td
open BitVec renaming ofInt→Sy
open Option.some renaming inj→SE,injEq→SL
open Bool renaming and_eq_true→SG
open Nat renaming le_refl→SP,lt_or_ge→SY,beq→Ta,ble→TN,blt→T6
open Option renaming map_eq_some_iff→SU
open Go.World renaming cell? →TK,block_lt_of_cell? →TM
open Go renaming IntKind→T8
/- Contracts and plain laws that a statement's proof leans on (texts merged:EvC). -/
set_option linter.unusedVariables false
set_option linter.unusedSimpArgs false
namespace Go.Ev
open Go Go.RowKit
inductive jI where
  |no
  |tight
  |tok (t ver:Nat)
  |fresh (sz:Nat)
inductive D where
  |undef
  |int (k:T8) (n:Int)
  |bool (b:Bool)
  |str (s:ByteArray)
  |eL
  |ptr (dyn:Bool) (id off:Nat)
  |dG (dyn:Bool) (x:D) (off:Nat)
  |cB (id:Nat)
  |hE (id:Nat)
  |cS (id sz n:Nat)
  |sub (id off sz n:Nat) (cap:Option Nat)
  |aj (o:jI) (sz:Nat) (xs:List D)
  |aq
  |fn (f:Fn) (first cap:List D)
  |agg (cs:List D)
  |aC (vs:List D)
def D.cells:D→Option (List D)
  | .agg cs=>some cs
  | .undef=>none
  | .aC _=>none
  |d=>some [d]
def storable:D→Bool
  | .undef=>false
  | .agg _=>false
  | .aC _=>false
  |_=>true
structure MM where
  cell:Nat→Nat→Option Value
  box:Nat→Option Nat
  bl:Nat→Nat→Option Value
  eB:Nat→Prop
def MM.bare (M:MM):MM:=⟨M.cell,fun _=>none,fun _ _=>none,fun _=>False⟩
def eY (C:Nat→Nat→Option Value):MM:=⟨C,fun _=>none,fun _ _=>none,fun _=>False⟩
def MM.od (M:MM):jI→Option Addr→Nat→Nat→Prop
  | .no,_,_,_=>True
  | .fresh _,_,_,_=>True
  | .tight,_,len,cap=>cap=len
  | .tok t v,a,len,cap=>M.bl t v=some (.slice a len cap)
inductive bk:MM→D→Value→Prop
  |undef {M:MM} (v:Value):bk M .undef v
  |int {M:MM} (k:T8) (n:Int):bk M (.int k n) (.int k n)
  |bool {M:MM} (b:Bool):bk M (.bool b) (.bool b)
  |str {M:MM} (s:ByteArray):bk M (.str s) (.string s)
  |eL {M:MM} :bk M .eL (.pointer none)
  |ptr {M:MM} (dyn:Bool) {id off b:Nat} (h:M.box id=some b):bk M (.ptr dyn id off) (.pointer (some ⟨b,off,none⟩))
  | dG {M : MM} (dyn : Bool) {x : D} {cs : List D} {off b base : Nat} (vs : Nat → Value) (hx : x.cells = some cs)
      (hc:∀(j:Nat) (c:D),cs[j]? =some c→M.cell b (base+j)=some (vs j)) (hr:∀(j:Nat) (c:D),cs[j]? =some c→bk M.bare c (vs j)):
      bk M (.dG dyn x off) (.pointer (some ⟨b,base+off,none⟩))
  |cB {M:MM} {id b:Nat} (h:M.box id=some b):bk M (.cB id) (.map (some b))
  |hE {M:MM} {id b:Nat} (h:M.box id=some b):bk M (.hE id) (.func (.yield b) #[] #[])
  |cS {M:MM} {id sz n b cap:Nat} (h:M.box id=some b) (hh:M.bl id sz=some (.slice (some ⟨b,0,none⟩) n cap)) (hc:n≤cap):bk M (.cS id sz n) (.slice (some ⟨b,0,none⟩) n cap)
  |sub {M:MM} {id off sz n b o2 c:Nat} {cp:Option Nat} (h:M.box id=some b) (hc:n≤c) (hp:∀k,cp=some k→c=k) (ho:n≠0→o2=off):bk M (.sub id off sz n cp) (.slice (some ⟨b,o2,none⟩) n c)
  | aj {M : MM} {o : jI} {sz : Nat} {xs : List D} {a : Option Addr} {len cap : Nat} (b off : Nat) (vs : Nat → Nat → Value)
      (hl:xs.length=len) (LH:len≤cap) (ha:xs≠ []→a=some ⟨b,off,none⟩)
      (LR:∀(i:Nat) (x:D),xs[i]? =some x→∃cs:List D,x.cells=some cs∧cs.length=sz)
      (hc:∀(i:Nat) (x:D) (cs:List D) (j:Nat) (c:D),xs[i]? =some x→x.cells=some cs→cs[j]? =some c→M.cell b (off+i*sz+j)=some (vs i j))
      (hr:∀(i:Nat) (x:D) (cs:List D) (j:Nat) (c:D),xs[i]? =some x→x.cells=some cs→cs[j]? =some c→bk M.bare c (vs i j))
      (LL:∀(i:Nat) (x:D) (cs:List D) (c:D),xs[i]? =some x→x.cells=some cs→c∈cs→storable c=true)
      (ho:M.od o a len cap):bk M (.aj o sz xs) (.slice a len cap)
  |aq {M:MM} :bk M .aq .nilFunc
  | fn {M : MM} {f : Fn} {first cap : List D} {fv cv : Array Value} (h1 : first.length = fv.size) (h2 : cap.length = cv.size)
      (r1:∀(i:Nat) (d:D) (v:Value),first[i]? =some d→fv[i]? =some v→bk M d v) (r2:∀(i:Nat) (d:D) (v:Value),cap[i]? =some d→cv[i]? =some v→bk M d v):
      bk M (.fn f first cap) (.func f fv cv)
  | agg {M : MM} {cs : List D} {vs : Array Value} (h : cs.length = vs.size) (r : ∀ (i : Nat) (d : D) (v : Value), cs[i]? = some d → vs[i]? = some v → bk M d v) :
      bk M (.agg cs) (.agg vs)
  | aC {M : MM} {cs : List D} {vs : Array Value} (h : cs.length = vs.size) (r : ∀ (i : Nat) (d : D) (v : Value), cs[i]? = some d → vs[i]? = some v → bk M d v) :
      bk M (.aC cs) (.tuple vs)
structure MM.Le (M M':MM):Prop where
  cell:∀b o v,M.cell b o=some v→M'.cell b o=some v
  box:∀id b,M.box id=some b→M'.box id=some b
  bl:∀t v x,M.bl t v=some x→M'.bl t v=some x
  eB:∀b,M.eB b→M'.eB b
theorem MM.Le.refl (M:MM):M.Le M:=⟨fun _ _ _ h=>h,fun _ _ h=>h,fun _ _ _ h=>h,fun _ h=>h⟩
theorem MM.Le.trans {A B C:MM} (h:A.Le B) (k:B.Le C):A.Le C:=
 ⟨fun b o v x=>k.cell b o v (h.cell b o v x),fun i b x=>k.box i b (h.box i b x),fun t v x y=>k.bl t v x (h.bl t v x y),fun b x=>k.eB b (h.eB b x)⟩
theorem MM.Le.bare {A B:MM} (h:A.Le B):A.bare.Le B.bare:=⟨h.cell,fun _ _ x=>x,fun _ _ _ x=>x,fun _ x=>x⟩
theorem MM.Ce {M M':MM} (h:M.Le M'):∀ {o:jI} {a:Option Addr} {l c:Nat},M.od o a l c→M'.od o a l c
 | .no,_,_,_,x=>x
 | .fresh _,_,_,_,x=>x
 | .tight,_,_,_,x=>x
 | .tok _ _,_,_,_,x=>h.bl _ _ _ x
theorem bk.mono {M:MM} {d:D} {v:Value} (h:bk M d v):∀ {M':MM},M.Le M'→bk M' d v:=by
 induction h with
 |undef v=>exact fun _=> .undef v
 |int k n=>exact fun _=> .int k n
 |bool b=>exact fun _=> .bool b
 |str s=>exact fun _=> .str s
 |eL=>exact fun _=> .eL
 |ptr q h=>exact fun le=> .ptr q (le.box _ _ h)
 |dG q vs hx hc hr ih=>exact fun le=> .dG q vs hx (fun j c h=>le.cell _ _ _ (hc j c h)) (fun j c h=>ih j c h le.bare)
 |cB h=>exact fun le=> .cB (le.box _ _ h)
 |hE h=>exact fun le=> .hE (le.box _ _ h)
 |cS h hh hc=>exact fun le=> .cS (le.box _ _ h) (le.bl _ _ _ hh) hc
 |sub h hc hp ho=>exact fun le=> .sub (le.box _ _ h) hc hp ho
 |aj b off vs hl LH ha LR hc hr LL ho ih=>
  exact fun le=> .aj b off vs hl LH ha LR (fun i x cs j c h1 h2 h3=>le.cell _ _ _ (hc i x cs j c h1 h2 h3)) (fun i x cs j c h1 h2 h3=>ih i x cs j c h1 h2 h3 le.bare) LL (MM.Ce le ho)
 |aq=>exact fun _=> .aq
 |fn h1 h2 r1 r2 i1 i2=>exact fun le=> .fn h1 h2 (fun i d v a b=>i1 i d v a b le) (fun i d v a b=>i2 i d v a b le)
 |agg h r ih=>exact fun le=> .agg h (fun i d v a b=>ih i d v a b le)
 |aC h r ih=>exact fun le=> .aC h (fun i d v a b=>ih i d v a b le)
def jI.aR:jI→jI
  | .tight=> .tight
  |_=> .no
mutual
def D.aR:D→D
  | .aj o sz xs=> .aj o.aR sz xs
  | .agg cs=> .agg (D.gZ cs)
  | .aC cs=> .aC (D.gZ cs)
  | .fn f a b=> .fn f (D.gZ a) (D.gZ b)
  |d=>d
def D.gZ:List D→List D
  | []=> []
  |d::r=>d.aR::D.gZ r
end
mutual
def D.clean:D→Bool
  | .undef=>false
  | .ptr _ _ _=>false
  | .dG _ _ _=>false
  | .cB _=>false
  | .hE _=>false
  | .cS _ _ _=>false
  | .sub _ _ _ _ _=>false
  | .agg cs=>D.jD cs
  | .aC cs=>D.jD cs
  | .fn _ a b=>D.jD a&&D.jD b
  |_=>true
def D.jD:List D→Bool
  | []=>true
  |d::r=>d.clean&&D.jD r
end
theorem D.fi (l:List D):D.gZ l=l.map D.aR:=by
 induction l with
 |nil=>simp [D.gZ]
 |cons d r ih=>simp [D.gZ,ih]
theorem D.iT (l:List D):D.jD l=l.all D.clean:=by
 induction l with
 |nil=>simp [D.jD]
 |cons d r ih=>simp [D.jD,ih]
theorem bk.nT {M:MM} {d:D} {v:Value} (h:bk M d v):d.clean=true→bk M.bare d.aR v:=by
 induction h with
 |undef v=>intro c;simp [D.clean] at c
 |int k n=>intro _;exact .int k n
 |bool b=>intro _;exact .bool b
 |str s=>intro _;exact .str s
 |eL=>intro _;exact .eL
 |ptr q h=>intro c;simp [D.clean] at c
 |dG q vs hx hc hr ih=>intro c;simp [D.clean] at c
 |cB h=>intro c;simp [D.clean] at c
 |hE h=>intro c;simp [D.clean] at c
 |cS h hh hc=>intro c;simp [D.clean] at c
 |sub h hc hp ho=>intro c;simp [D.clean] at c
 |aj b off vs hl LH ha LR hc hr LL ho ih=>
  rename_i o _ _ _ _ _
  intro _
  rw [D.aR]
  refine .aj b off vs hl LH ha LR hc hr LL ?_
  cases o<;>first|trivial|exact ho
 |aq=>intro _;exact .aq
 |fn h1 h2 r1 r2 i1 i2=>
  intro c
  rw [D.clean,D.iT,D.iT,SG,Td,Td] at c
  rw [D.aR,D.fi,D.fi]
  refine .fn (by simpa using h1) (by simpa using h2) ?_ ?_
  ·intro i d v a b
   rw [SW,SU] at a
   obtain ⟨d0,h0,rfl⟩:=a
   exact i1 i d0 v h0 b (c.1 _ (Tb h0))
  ·intro i d v a b
   rw [SW,SU] at a
   obtain ⟨d0,h0,rfl⟩:=a
   exact i2 i d0 v h0 b (c.2 _ (Tb h0))
 |agg h r ih=>
  intro c
  rw [D.clean,D.iT,Td] at c
  rw [D.aR,D.fi]
  refine .agg (by simpa using h) ?_
  intro i d v a b
  rw [SW,SU] at a
  obtain ⟨d0,h0,rfl⟩:=a
  exact ih i d0 v h0 b (c _ (Tb h0))
 |aC h r ih=>
  intro c
  rw [D.clean,D.iT,Td] at c
  rw [D.aR,D.fi]
  refine .aC (by simpa using h) ?_
  intro i d v a b
  rw [SW,SU] at a
  obtain ⟨d0,h0,rfl⟩:=a
  exact ih i d0 v h0 b (c _ (Tb h0))
theorem bk.JC {M:MM} {d:D} {v:Value} (h:bk M d v):∀ {f:Nat→Prop},bk { M with eB:=f } d v:=by
 induction h with
 |undef v=>exact fun {f} => .undef v
 |int k n=>exact fun {f} => .int k n
 |bool b=>exact fun {f} => .bool b
 |str s=>exact fun {f} => .str s
 |eL=>exact fun {f} => .eL
 |ptr q h=>exact fun {f} => .ptr q h
 |dG q vs hx hc hr ih=>exact fun {f} => .dG q vs hx hc hr
 |cB h=>exact fun {f} => .cB h
 |hE h=>exact fun {f} => .hE h
 |cS h hh hc=>exact fun {f} => .cS h hh hc
 |sub h hc hp ho=>exact fun {f} => .sub h hc hp ho
 |aj b off vs hl LH ha LR hc hr LL ho ih=>
  rename_i o _ _ _ _ _
  refine fun {f} => .aj b off vs hl LH ha LR hc hr LL ?_
  cases o<;>first|trivial|exact ho
 |aq=>exact fun {f} => .aq
 |fn h1 h2 r1 r2 i1 i2=>exact fun {f} => .fn h1 h2 (fun i d v a b=>i1 i d v a b) (fun i d v a b=>i2 i d v a b)
 |agg h r ih=>exact fun {f} => .agg h (fun i d v a b=>ih i d v a b)
 |aC h r ih=>exact fun {f} => .aC h (fun i d v a b=>ih i d v a b)
theorem MM.kr (M:MM):M.bare.Le M:=⟨fun _ _ _ h=>h,fun _ _ h=>by simp [MM.bare] at h,fun _ _ _ h=>by simp [MM.bare] at h,fun _ h=>h.elim⟩
def jI.low:jI→Bool
  | .no=>true
  | .tight=>true
  |_=>false
mutual
def D.plain:D→Bool
  | .undef=>false
  | .ptr _ _ _=>false
  | .dG _ _ _=>false
  | .cB _=>false
  | .hE _=>false
  | .cS _ _ _=>false
  | .sub _ _ _ _ _=>false
  | .aj o _ _=>o.low
  | .agg cs=>D.iY cs
  | .aC cs=>D.iY cs
  | .fn _ a b=>D.iY a&&D.iY b
  |_=>true
def D.iY:List D→Bool
  | []=>true
  |d::r=>d.plain&&D.iY r
end
theorem D.lN (l:List D):D.iY l=l.all D.plain:=by
 induction l with
 |nil=>simp [D.iY]
 |cons d r ih=>simp [D.iY,ih]
theorem bk.GS {M:MM} {d:D} {v:Value} (h:bk M d v):d.plain=true→bk M.bare d v:=by
 induction h with
 |undef v=>intro c;simp [D.plain] at c
 |int k n=>intro _;exact .int k n
 |bool b=>intro _;exact .bool b
 |str s=>intro _;exact .str s
 |eL=>intro _;exact .eL
 |ptr q h=>intro c;simp [D.plain] at c
 |dG q vs hx hc hr ih=>intro c;simp [D.plain] at c
 |cB h=>intro c;simp [D.plain] at c
 |hE h=>intro c;simp [D.plain] at c
 |cS h hh hc=>intro c;simp [D.plain] at c
 |sub h hc hp ho=>intro c;simp [D.plain] at c
 |aj b off vs hl LH ha LR hc hr LL ho ih=>
  rename_i o _ _ _ _ _
  intro c
  refine .aj b off vs hl LH ha LR hc hr LL ?_
  rw [D.plain] at c
  cases o<;>first|exact ho|(simp [jI.low] at c)
 |aq=>intro _;exact .aq
 |fn h1 h2 r1 r2 i1 i2=>
  intro c
  rw [D.plain,D.lN,D.lN,SG,Td,Td] at c
  exact .fn h1 h2 (fun i d v a b=>i1 i d v a b (c.1 _ (Tb a))) (fun i d v a b=>i2 i d v a b (c.2 _ (Tb a)))
 |agg h r ih=>
  intro c
  rw [D.plain,D.lN,Td] at c
  exact .agg h (fun i d v a b=>ih i d v a b (c _ (Tb a)))
 |aC h r ih=>
  intro c
  rw [D.plain,D.lN,Td] at c
  exact .aC h (fun i d v a b=>ih i d v a b (c _ (Tb a)))
mutual
theorem nC:∀ {d:D},d.clean=true→d.aR.plain=true
  | .undef,h=>by simp [D.clean] at h
  | .int _ _,_=>by simp [D.aR,D.plain]
  | .bool _,_=>by simp [D.aR,D.plain]
  | .str _,_=>by simp [D.aR,D.plain]
  | .eL,_=>by simp [D.aR,D.plain]
  | .ptr _ _ _,h=>by simp [D.clean] at h
  | .dG _ _ _,h=>by simp [D.clean] at h
  | .cB _,h=>by simp [D.clean] at h
  | .hE _,h=>by simp [D.clean] at h
  | .cS _ _ _,h=>by simp [D.clean] at h
  | .sub _ _ _ _ _,h=>by simp [D.clean] at h
  | .aj o _ _,_=>by cases o<;>simp [D.aR,D.plain,jI.aR,jI.low]
  | .aq,_=>by simp [D.aR,D.plain]
  | .fn _ a b,h=>by
    simp only [D.clean,SG] at h
    simp only [D.aR,D.plain,SG]
    exact ⟨gq h.1,gq h.2⟩
  | .agg cs,h=>by simp only [D.clean] at h;simp only [D.aR,D.plain];exact gq h
  | .aC cs,h=>by simp only [D.clean] at h;simp only [D.aR,D.plain];exact gq h
theorem gq:∀ {l:List D},D.jD l=true→D.iY (D.gZ l)=true
  | [],_=>by simp [D.gZ,D.iY]
  |d::r,h=>by
    simp only [D.jD,SG] at h
    simp only [D.gZ,D.iY,SG]
    exact ⟨nC h.1,gq h.2⟩
end
theorem bk.flag {M:MM} {o:jI} {sz:Nat} {xs:List D} {a:Option Addr} {len cap:Nat} (h:bk M (.aj o sz xs) (.slice a len cap)) (o':jI) (ho:M.od o' a len cap):bk M (.aj o' sz xs) (.slice a len cap):=by
 cases h with
 |aj b off vs hl LH ha LR hc hr LL _=>exact .aj b off vs hl LH ha LR hc hr LL ho
theorem bk.resize {M:MM} {o:jI} {sz size:Nat} {xs:List D} {v:Value} (h:bk M (.aj o sz xs) v) (hs:sz=size∨xs= []):bk M (.aj o size xs) v:=by
 rcases hs with rfl|rfl
 ·exact h
 ·cases h with
  |aj b off vs hl LH ha LR hc hr LL ho=>exact .aj b off vs hl LH ha (fun i x hx=>by simp at hx) (fun i x cs j c hx=>by simp at hx) (fun i x cs j c hx=>by simp at hx) LL ho
def bS (M:MM) (cs:List D) (vs:Array Value):Prop:=cs.length=vs.size∧∀(i:Nat) (d:D) (v:Value),cs[i]? =some d→vs[i]? =some v→bk M d v
theorem bS.mono {M M':MM} {cs:List D} {vs:Array Value} (h:bS M cs vs) (le:M.Le M'):bS M' cs vs:=⟨h.1,fun i d v a b=>(h.2 i d v a b).mono le⟩
theorem bk.cells {M:MM} {x:D} {v:Value} (h:bk M x v) {cs:List D} (hx:x.cells=some cs):bS M cs v.cells:=by
 have one:∀ {d:D} {u:Value},bk M d u→u.cells= #[u]→bS M [d] u.cells:=by
  intro d u r e
  rw [e]
  refine ⟨rfl,fun i d' v' a b=> ?_⟩
  cases i with
  |zero=>simp at a b;subst a b;exact r
  |succ i=>simp at a
 cases h with
 |undef v=>cases hx
 |int k n=>cases hx;exact one (.int _ _) rfl
 |bool b=>cases hx;exact one (.bool _) rfl
 |str t=>cases hx;exact one (.str _) rfl
 |eL=>cases hx;exact one .eL rfl
 |ptr q hb=>cases hx;exact one (.ptr q hb) rfl
 |dG q vs hy hc hr=>cases hx;exact one (.dG q vs hy hc hr) rfl
 |cB h=>cases hx;exact one (.cB h) rfl
 |hE h=>cases hx;exact one (.hE h) rfl
 |cS h hh hc=>cases hx;exact one (.cS h hh hc) rfl
 |sub h hc hp ho=>cases hx;exact one (.sub h hc hp ho) rfl
 |aj b off vs hl LH ha LR hc hr LL ho=>cases hx;exact one (.aj b off vs hl LH ha LR hc hr LL ho) rfl
 |aq=>cases hx;exact one .aq rfl
 |fn h1 h2 r1 r2=>cases hx;exact one (.fn h1 h2 r1 r2) rfl
 |agg hl hr=>cases hx;exact ⟨hl,hr⟩
 |aC hl hr=>cases hx
inductive LK where
  |bool
  |int (k:T8)
  |str
def LK.lg:LK→Value→Prop
  | .bool,.bool _=>True
  | .int k,.int k' _=>k=k'
  | .str,.string _=>True
  |_,_=>False
def cJ:List LK→List Value→Prop
  | [],[]=>True
  |k::ks,d::ds=>k.lg d∧cJ ks ds
  |_,_=>False
inductive Lk where
  |ready
  |busy
  |ret
  |exit (i:Nat)
def Lk.state:Lk→LoopState
  | .ready=> .ready
  | .busy=> .busy
  |_=> .done
def Lk.GD:Lk→Option Code
  | .ret=>some .ret
  | .exit i=>some (.exit i)
  |_=>none
inductive Ob where
  |dead
  |box (cs:List D)
  |bO (ver sz:Nat)
  |mp (k:T8) (es:List (Int×D))
  |mf (ks:List LK) (es:List (List D×D))
  |lp (k:Lk) (t:List D) (ps:Array Nat) (ag bd:Code)
def gO:D→Option Value
  | .int k n=>some (.int k n)
  | .bool b=>some (.bool b)
  | .str s=>some (.string s)
  |_=>none
def mw (k:T8):List (Int×D)→List MapEntry→Prop
  | [],[]=>True
  |(n,d)::r,e::s=>e.key= .int k n∧gO d=some e.val∧mw k r s
  |_,_=>False
def iA:List D→Option (List Value)
  | []=>some []
  |d::r=>match gO d,iA r with
    |some v,some l=>some (v::l)
    |_,_=>none
def lh (ks:List LK):List (List D×D)→List MapEntry→Prop
  | [],[]=>True
  |(n,d)::r,e::s=>(∃vs:Array Value,e.key= .agg vs∧iA n=some vs.toList∧cJ ks vs.toList)∧gO d=some e.val∧lh ks r s
  |_,_=>False
def jF (l:List MapEntry) (c:Nat):Prop:=c=l.length∧∀(i:Nat) (e:MapEntry),l[i]? =some e→e.born=i
def Ob.CF:Ob→Option (List MapEntry→Nat→Prop)
  | .mp k es=>some fun l c=>mw k es l∧jF l c
  | .mf ks es=>some fun l c=>lh ks es l∧jF l c
  |_=>none
def dW (σ:Nat→Ob) (id:Nat) (o:Ob):Nat→Ob:=fun i=>if i=id then o else σ i
theorem aU (σ:Nat→Ob) (id:Nat) (o:Ob):dW σ id o id=o:=by simp [dW]
theorem aW {σ:Nat→Ob} {id i:Nat} {o:Ob} (h:i≠id):dW σ id o i=σ i:=by simp [dW,h]
def kL (fz:Nat×Nat) (n:Nat):Prop:= ∀o,o<n→¬(fz.1≤o∧o<fz.2)
structure dq where
  w:World
  C:Nat→Nat→Option Value
  X:Nat→Prop
structure Kept (X:Nat→Prop) (w w':World):Prop where
  os:w'.os=w.os
  tape:w'.tape=w.tape
  output:w'.output=w.output
  size:w.heap.size≤w'.heap.size
  block:∀k,X k→w'.heap[k]? =w.heap[k]?
  lt:∀k,X k→k<w.heap.size
theorem Kept.JH {X:Nat→Prop} {w w':World} (h:Kept X w w') {k:Nat} (hk:X k):k<w'.heap.size:=Nat.lt_of_lt_of_le (h.lt k hk) h.size
theorem Kept.new {X:Nat→Prop} {w w':World} (h:Kept X w w'):¬X w'.heap.size:=fun k=>Nat.lt_irrefl _ (h.JH k)
theorem Kept.ext {X:Nat→Prop} {a w w':World} (h:Kept X a w) (k:Below w.heap.size w w'):Kept X a w':=
 ⟨k.os.trans h.os,k.tape.trans h.tape,k.output.trans h.output,Nat.le_trans h.size k.size,fun i hi=>(k.block i (h.JH hi)).trans (h.block i hi),h.lt⟩
theorem Kept.drew {X:Nat→Prop} {a w:World} (h:Kept X a w):Kept X a w.drew:=⟨h.os,h.tape,h.output,h.size,h.block,h.lt⟩
theorem Kept.alloc {X:Nat→Prop} {a w:World} (h:Kept X a w) (o:Obj):Kept X a (w.alloc o):=h.ext ((Below.refl _ _).alloc (SP _) o)
theorem Kept.of (w:World):Kept (fun k=>k<w.heap.size) w w:=⟨rfl,rfl,rfl,SP _,fun _ _=>rfl,fun _ h=>h⟩
theorem Kept.below {w w':World} (h:Kept (fun k=>k<w.heap.size) w w'):Below w.heap.size w w':=⟨h.os,h.tape,h.output,h.size,h.block⟩
structure pf (w0:dq) (M:MM) (own:Nat→Option Nat) (id:Nat) (cs:List D) (w:World) (b:Nat) (vs:Array Value) (ty:TypeId):Prop where
  box:M.box id=some b
  base:¬w0.X b
  own:own b=some id
  none:∀o,M.cell b o=none
  cy:w.heap[b]? =some (.cells vs ty (0,0))
  len:cs.length≤vs.size
  rep:∀(i:Nat) (d:D) (v:Value),cs[i]? =some d→vs[i]? =some v→bk M d v
  room:∀sz a len cap,M.bl id sz=some (.slice a len cap)→cap*sz≤vs.size
structure HL (w0:dq) (M:MM) (own:Nat→Option Nat) (id:Nat) (F:List MapEntry→Nat→Prop) (w:World) (b:Nat) (LF:Array MapEntry) (clock:Nat):Prop where
  box:M.box id=some b
  base:¬w0.X b
  own:own b=some id
  none:∀o,M.cell b o=none
  cy:w.heap[b]? =some (.map LF clock)
  fits:F LF.toList clock
structure FZ (w0:dq) (M:MM) (own:Nat→Option Nat) (id:Nat) (k:Lk) (t:List D) (ps:Array Nat) (ag bd:Code) (w:World) (l:Nat) (r:Loop):Prop where
  box:M.box id=some l
  base:¬w0.X l
  own:own l=some id
  cy:w.heap[l]? =some (.loop r)
  st:r.state=k.state
  pd:k≠ .busy→r.pending=k.GD
  tm:bS M t r.tmps
  ps:r.params=ps
  ag:r.assign=ag
  bd:r.body=bd
structure rW (w0:dq) (M:MM) (own:Nat→Option Nat) (id sz:Nat) (w:World) (len cap b:Nat) (vs:Array Value) (ty:TypeId) (fz:Nat×Nat):Prop where
  base:¬w0.X b
  own:own b=some id
  cy:w.heap[b]? =some (.cells vs ty fz)
  fz:kL fz vs.size
  cap:cap*sz≤vs.size
  none:∀o,len*sz≤o→M.cell b o=none
structure J6 (w0:dq) (M:MM) (own:Nat→Option Nat) (id ver sz:Nat) (w:World) (a:Option Addr) (len cap:Nat):Prop where
  bl:M.bl id ver=some (.slice a len cap)
  last:∀v,ver<v→M.bl id v=none
  room:cap=len∨∃b vs ty fz,a=some ⟨b,0,none⟩∧rW w0 M own id sz w len cap b vs ty fz
structure bw (w0:dq) (M:MM) (own:Nat→Option Nat) (σ:Nat→Ob) (w:World):Prop where
  below:Kept w0.X w0.w w
  cells:∀b o v,M.cell b o=some v→w.cell? ⟨b,o,none⟩=some v
  iJ:∀b o v,M.cell b o=some v→w0.X b→w0.C b o=some v
  owned:∀b id,own b=some id→b<w.heap.size
  box:∀id cs,σ id= .box cs→∃b vs ty,pf w0 M own id cs w b vs ty
  bO:∀id ver sz,σ id= .bO ver sz→∃a len cap,J6 w0 M own id ver sz w a len cap
  mp:∀id F,(σ id).CF=some F→∃b LF clock,HL w0 M own id F w b LF clock
  lp:∀id k t ps ag bd,σ id= .lp k t ps ag bd→∃l r,FZ w0 M own id k t ps ag bd w l r
  eB:∀b,M.eB b→¬w0.X b∧w.heap[b]? =some (.deferred (some []))
theorem FZ.aD {w0:dq} {M M':MM} {own LB:Nat→Option Nat} {id:Nat} {k:Lk} {t:List D} {ps:Array Nat} {ag bd:Code} {w w':World} {l:Nat} {r:Loop} (h:FZ w0 M own id k t ps ag bd w l r) (le:M.Le M') (ho:LB l=some id) (hb:w'.heap[l]? =some (.loop r)):FZ w0 M' LB id k t ps ag bd w' l r:=
 ⟨le.box _ _ h.box,h.base,ho,hb,h.st,h.pd,h.tm.mono le,h.ps,h.ag,h.bd⟩
structure Ext (M:MM) (w:World) (M':MM) (w':World):Prop where
  below:Below w.heap.size w w'
  cell:∀b o v,M.cell b o=some v→M'.cell b o=some v
  only:∀b o v,M'.cell b o=some v→b<w.heap.size→M.cell b o=some v
  cells:∀b o v,M'.cell b o=some v→w'.cell? ⟨b,o,none⟩=some v
theorem je {w w':World} (h:Below w.heap.size w w') {b:Nat} {o:Obj} (hb:w.heap[b]? =some o):w'.heap[b]? =some o:=by
 rw [h.block b ?_,hb]
 rcases SY b w.heap.size with h|h
 ·exact h
 ·simp [Array.getElem?_eq_none h] at hb
theorem dV {w:World} {b:Nat} {o:Obj} (hb:w.heap[b]? =some o):b<w.heap.size:=by
 rcases SY b w.heap.size with h|h
 ·exact h
 ·simp [Array.getElem?_eq_none h] at hb
theorem ke {C C':Nat→Nat→Option Value} {n b o:Nat} (only:∀b o v,C' b o=some v→b<n→C b o=some v) (hb:b<n) (h:C b o=none):C' b o=none:=by
 cases e:C' b o with
 |none=>rfl
 |some v=>rw [only b o v e hb] at h;cases h
theorem bw.ext {w0:dq} {w w':World} {M M':MM} {own:Nat→Option Nat} {σ:Nat→Ob} (h:bw w0 M own σ w) (e:Ext M w M' w')
  (Oz:M'.box=M.box) (MZ:M'.bl=M.bl) (Nx:M'.eB=M.eB):bw w0 M' own σ w'∧M.Le M':=by
 have le:M.Le M':=⟨e.cell,fun id b h=>by rw [Oz];exact h,fun t v x h=>by rw [MZ];exact h,fun b h=>by rw [Nx];exact h⟩
 refine ⟨⟨?_,e.cells,?_,?_,?_,?_,?_,?_,?_⟩,le⟩
 ·exact h.below.ext e.below
 ·exact fun b o v k hb=>h.iJ b o v (e.only b o v k (h.below.JH hb)) hb
 ·exact fun b id k=>Nat.lt_of_lt_of_le (h.owned b id k) e.below.size
 ·intro id cs hs
  obtain ⟨b,vs,ty,k⟩:=h.box id cs hs
  exact ⟨b,vs,ty,by rw [Oz];exact k.box,k.base,k.own,fun o=>ke e.only (dV k.cy) (k.none o),je e.below k.cy,k.len,fun i d v a b=>(k.rep i d v a b).mono le,fun sz a len cap q=>k.room sz a len cap (MZ▸q)⟩
 ·intro id ver sz hs
  obtain ⟨a,len,cap,k⟩:=h.bO id ver sz hs
  refine ⟨a,len,cap,by rw [MZ];exact k.bl,by rw [MZ];exact k.last,?_⟩
  rcases k.room with r|⟨b,vs,ty,fz,ha,r⟩
  ·exact .inl r
  ·exact .inr ⟨b,vs,ty,fz,ha,r.base,r.own,je e.below r.cy,r.fz,r.cap,fun o ho=>ke e.only (dV r.cy) (r.none o ho)⟩
 ·intro id F hs
  obtain ⟨b,LF,clock,q⟩:=h.mp id F hs
  exact ⟨b,LF,clock,by rw [Oz];exact q.box,q.base,q.own,fun o=>ke e.only (dV q.cy) (q.none o),je e.below q.cy,q.fits⟩
 ·intro id k t ps ag bd hs
  obtain ⟨l,r,q⟩:=h.lp id k t ps ag bd hs
  exact ⟨l,r,q.aD le q.own (je e.below q.cy)⟩
 ·intro b hb
  rw [Nx] at hb
  exact ⟨(h.eB b hb).1,je e.below (h.eB b hb).2⟩
theorem bw.drew {w0:dq} {w:World} {M:MM} {own:Nat→Option Nat} {σ:Nat→Ob} (h:bw w0 M own σ w):bw w0 M own σ w.drew:=
 ⟨h.below.drew,h.cells,h.iJ,h.owned,fun id cs e=>let ⟨b,vs,ty,k⟩:=h.box id cs e;⟨b,vs,ty,k.box,k.base,k.own,k.none,k.cy,k.len,k.rep,k.room⟩,
  fun id ver sz e=>let ⟨a,len,cap,k⟩:=h.bO id ver sz e;⟨a,len,cap,k.bl,k.last,k.room.imp (fun x=>x) fun ⟨b,vs,ty,fz,ha,r⟩=>⟨b,vs,ty,fz,ha,r.base,r.own,r.cy,r.fz,r.cap,r.none⟩⟩,
  fun id F e=>let ⟨b,LF,clock,q⟩:=h.mp id F e;⟨b,LF,clock,q.box,q.base,q.own,q.none,q.cy,q.fits⟩,
  fun id k t ps ag bd e=>let ⟨l,r,q⟩:=h.lp id k t ps ag bd e;⟨l,r,q.aD (.refl _) q.own q.cy⟩,fun b hb=>⟨(h.eB b hb).1,(h.eB b hb).2⟩⟩
theorem bw.kill {w0:dq} {w:World} {M:MM} {own:Nat→Option Nat} {σ:Nat→Ob} (h:bw w0 M own σ w) (id:Nat):bw w0 M own (dW σ id .dead) w:=by
 refine ⟨h.below,h.cells,h.iJ,h.owned,?_,?_,?_,?_,h.eB⟩
 ·intro i cs hi
  by_cases e:i=id
  ·rw [e,aU] at hi;cases hi
  ·rw [aW e] at hi;exact h.box i cs hi
 ·intro i v sz hi
  by_cases e:i=id
  ·rw [e,aU] at hi;cases hi
  ·rw [aW e] at hi;exact h.bO i v sz hi
 ·intro i F hi
  by_cases e:i=id
  ·rw [e,aU] at hi;cases hi
  ·rw [aW e] at hi;exact h.mp i F hi
 ·intro i k t ps ag bd hi
  by_cases e:i=id
  ·rw [e,aU] at hi;cases hi
  ·rw [aW e] at hi;exact h.lp i k t ps ag bd hi
def MM.bc (M:MM) (id b:Nat):MM:= { M with box:=fun i=>if i=id then some b else M.box i }
def MM.aX (M:MM) (id ver:Nat) (v:Value):MM:= { M with bl:=fun i k=>if i=id∧k=ver then some v else M.bl i k }
def MM.bK (M:MM) (b:Nat) (f:Nat→Option Value):MM:= { M with cell:=fun c o=>if c=b then f o else M.cell c o }
def eP (own:Nat→Option Nat) (b id:Nat):Nat→Option Nat:=fun c=>if c=b then some id else own c
theorem MM.dw {M:MM} {id b:Nat} (h:M.box id=none):M.Le (M.bc id b):=
 ⟨fun _ _ _ h=>h,fun i c k=>by by_cases e:i=id;(· rw [e,h] at k;cases k);(· simp [bc,e,k]),fun _ _ _ h=>h,fun _ h=>h⟩
theorem MM.cY {M:MM} {id ver:Nat} {v:Value} (h:M.bl id ver=none):M.Le (M.aX id ver v):=
 ⟨fun _ _ _ h=>h,fun _ _ h=>h,fun i k x e=>by
  by_cases c:i=id∧k=ver
  ·rw [c.1,c.2,h] at e;cases e
  ·simp only [aX,c,if_false];exact e,fun _ h=>h⟩
theorem dy {w:World} {M:MM} (hc:∀b o v,M.cell b o=some v→w.cell? ⟨b,o,none⟩=some v) {b:Nat} (hb:w.heap.size≤b) (o:Nat):M.cell b o=none:=by
 cases e:M.cell b o with
 |none=>rfl
 |some v=>
  have:=TM w _ (hc b o v e)
  have:b<w.heap.size:=this
  omega
theorem bw.qF {w0:dq} {w:World} {M:MM} {own:Nat→Option Nat} {σ:Nat→Ob} (h:bw w0 M own σ w) {id:Nat} (L9:M.box id=none) (hh:∀v,M.bl id v=none) {cs:List D} {vs:Array Value} (ty:TypeId)
  (hl:cs.length≤vs.size) (hr:∀(i:Nat) (d:D) (v:Value),cs[i]? =some d→vs[i]? =some v→bk M d v):
  bw w0 (M.bc id w.heap.size) (eP own w.heap.size id) (dW σ id (.box cs)) (w.alloc (.cells vs ty)):=by
 have le:=MM.dw (b:=w.heap.size) L9
 have Mq:∀o,M.cell w.heap.size o=none:=dy h.cells (SP _)
 have hold:∀ {b:Nat} {o:Obj},w.heap[b]? =some o→(w.alloc (.cells vs ty)).heap[b]? =some o:=fun {b o} hb=>by
  rw [Below.heap_alloc _ _ _ (dV hb),hb]
 have MJ:∀ {b i:Nat},own b=some i→eP own w.heap.size id b=some i:=fun {b i} k=>by
  have:=h.owned b i k
  simp [eP,show b≠w.heap.size by omega,k]
 refine ⟨h.below.alloc _,?_,h.iJ,?_,?_,?_,?_,?_,?_⟩
 ·intro b o v k
  have k':M.cell b o=some v:=k
  rw [World.cell?_alloc_lt]
  ·exact h.cells b o v k'
  ·exact TM w _ (h.cells b o v k')
 ·intro b i k
  rw [World.size_alloc]
  by_cases e:b=w.heap.size
  ·omega
  ·simp only [eP,e,if_false] at k
   have:=h.owned b i k
   omega
 ·intro i My hi
  by_cases e:i=id
  ·subst e
   rw [aU] at hi
   cases hi
   refine ⟨w.heap.size,vs,ty,by simp [MM.bc],h.below.new,by simp [eP],Mq,?_,hl,fun j d v a b=>(hr j d v a b).mono le,fun sz a len cap q=>by have q':M.bl i sz=_:=q;rw [hh] at q';cases q'⟩
   show (w.heap.push _)[w.heap.size]? =_
   simp
  ·rw [aW e] at hi
   obtain ⟨b,vs',ty',k⟩:=h.box i My hi
   exact ⟨b,vs',ty',le.box _ _ k.box,k.base,MJ k.own,k.none,hold k.cy,k.len,fun j d v a b=>(k.rep j d v a b).mono le,k.room⟩
 ·intro i ver sz hi
  by_cases e:i=id
  ·rw [e,aU] at hi;cases hi
  ·rw [aW e] at hi
   obtain ⟨a,len,cap,k⟩:=h.bO i ver sz hi
   refine ⟨a,len,cap,k.bl,k.last,?_⟩
   rcases k.room with r|⟨b,vs',ty',fz,ha,r⟩
   ·exact .inl r
   ·exact .inr ⟨b,vs',ty',fz,ha,r.base,MJ r.own,hold r.cy,r.fz,r.cap,r.none⟩
 ·intro i F hi
  by_cases e:i=id
  ·rw [e,aU] at hi;cases hi
  ·rw [aW e] at hi
   obtain ⟨b,LF,clock,q⟩:=h.mp i F hi
   exact ⟨b,LF,clock,le.box _ _ q.box,q.base,MJ q.own,q.none,hold q.cy,q.fits⟩
 ·intro i k t ps ag bd hi
  by_cases e:i=id
  ·rw [e,aU] at hi;cases hi
  ·rw [aW e] at hi
   obtain ⟨l,r,q⟩:=h.lp i k t ps ag bd hi
   exact ⟨l,r,q.aD le (MJ q.own) (hold q.cy)⟩
 ·intro b hb
  exact ⟨(h.eB b hb).1,hold (h.eB b hb).2⟩
theorem bw.EV {w0:dq} {w:World} {M:MM} {own:Nat→Option Nat} {σ:Nat→Ob} (h:bw w0 M own σ w) {id:Nat} (L9:M.box id=none) {o:Ob} {F0:List MapEntry→Nat→Prop} (ho:o.CF=some F0) (hF:F0 [] 0):
  bw w0 (M.bc id w.heap.size) (eP own w.heap.size id) (dW σ id o) (w.alloc (.map #[] 0)):=by
 have le:=MM.dw (b:=w.heap.size) L9
 have Mq:∀o,M.cell w.heap.size o=none:=dy h.cells (SP _)
 have hold:∀ {b:Nat} {o:Obj},w.heap[b]? =some o→(w.alloc (.map #[] 0)).heap[b]? =some o:=fun {b o} hb=>by
  rw [Below.heap_alloc _ _ _ (dV hb),hb]
 have MJ:∀ {b i:Nat},own b=some i→eP own w.heap.size id b=some i:=fun {b i} k=>by
  have:=h.owned b i k
  simp [eP,show b≠w.heap.size by omega,k]
 refine ⟨h.below.alloc _,?_,h.iJ,?_,?_,?_,?_,?_,?_⟩
 ·intro b o v k
  have k':M.cell b o=some v:=k
  rw [World.cell?_alloc_lt]
  ·exact h.cells b o v k'
  ·exact TM w _ (h.cells b o v k')
 ·intro b i k
  rw [World.size_alloc]
  by_cases e:b=w.heap.size
  ·omega
  ·simp only [eP,e,if_false] at k
   have:=h.owned b i k
   omega
 ·intro i My hi
  by_cases e:i=id
  ·rw [e,aU] at hi;rw [hi] at ho;cases ho
  ·rw [aW e] at hi
   obtain ⟨b,vs',ty',k⟩:=h.box i My hi
   exact ⟨b,vs',ty',le.box _ _ k.box,k.base,MJ k.own,k.none,hold k.cy,k.len,fun j d v a b=>(k.rep j d v a b).mono le,k.room⟩
 ·intro i ver sz hi
  by_cases e:i=id
  ·rw [e,aU] at hi;rw [hi] at ho;cases ho
  ·rw [aW e] at hi
   obtain ⟨a,len,cap,k⟩:=h.bO i ver sz hi
   refine ⟨a,len,cap,k.bl,k.last,?_⟩
   rcases k.room with r|⟨b,vs',ty',fz,ha,r⟩
   ·exact .inl r
   ·exact .inr ⟨b,vs',ty',fz,ha,r.base,MJ r.own,hold r.cy,r.fz,r.cap,r.none⟩
 ·intro i F hi
  by_cases e:i=id
  ·subst e
   rw [aU,ho] at hi
   cases hi
   refine ⟨w.heap.size,#[],0,by simp [MM.bc],h.below.new,by simp [eP],Mq,?_,hF⟩
   show (w.heap.push _)[w.heap.size]? =_
   simp
  ·rw [aW e] at hi
   obtain ⟨b,LF,clock,q⟩:=h.mp i F hi
   exact ⟨b,LF,clock,le.box _ _ q.box,q.base,MJ q.own,q.none,hold q.cy,q.fits⟩
 ·intro i k' t ps ag bd hi
  by_cases e:i=id
  ·rw [e,aU] at hi;rw [hi] at ho;cases ho
  ·rw [aW e] at hi
   obtain ⟨l,r,q⟩:=h.lp i k' t ps ag bd hi
   exact ⟨l,r,q.aD le (MJ q.own) (hold q.cy)⟩
 ·intro b hb
  exact ⟨(h.eB b hb).1,hold (h.eB b hb).2⟩
def bh (w:World) (b:Nat) (o:Obj):World:= { w with heap:=w.heap.setIfInBounds b o }
theorem dI {w:World} {b:Nat} {o p:Obj} (h:w.heap[b]? =some p):(bh w b o).heap[b]? =some o:=by
 have:=dV h
 simp [bh,this]
theorem aQ {w:World} {b c:Nat} {o:Obj} (h:c≠b):(bh w b o).heap[c]? =w.heap[c]? :=by
 simp [bh,Array.getElem?_setIfInBounds_ne (Ne.symm h)]
theorem eN (w:World) (b:Nat) (o:Obj):(bh w b o).heap.size=w.heap.size:=by simp [bh]
theorem dm {w:World} {b c o:Nat} {p:Obj} (h:c≠b):(bh w b p).cell? ⟨c,o,none⟩=w.cell? ⟨c,o,none⟩:=by
 simp [TK,aQ h]
theorem eX {X:Nat→Prop} {w0 w:World} (h:Kept X w0 w) {b:Nat} (hb:¬X b) (o:Obj):Kept X w0 (bh w b o):=
 ⟨h.os,h.tape,h.output,by rw [eN];exact h.size,fun k hk=>by rw [aQ (show k≠b from fun e=>hb (e▸hk))];exact h.block k hk,h.lt⟩
theorem bw.DT {w0:dq} {w:World} {M:MM} {own:Nat→Option Nat} {σ:Nat→Ob} (h:bw w0 M own σ w) {id b:Nat} {cs My:List D} {vs vs':Array Value} {ty:TypeId}
  (k:pf w0 M own id cs w b vs ty) (hl:My.length≤vs'.size) (hs:vs'.size=vs.size)
  (hr:∀(i:Nat) (d:D) (v:Value),My[i]? =some d→vs'[i]? =some v→bk M d v):
  bw w0 M own (dW σ id (.box My)) (bh w b (.cells vs' ty (0,0))):=by
 refine ⟨eX h.below k.base _,?_,h.iJ,?_,?_,?_,?_,?_,?_⟩
 ·intro c o v hc
  have:c≠b:=fun e=>by rw [e,k.none o] at hc;cases hc
  rw [dm this]
  exact h.cells c o v hc
 ·intro c i hc;rw [eN];exact h.owned c i hc
 ·intro i Ov hi
  by_cases e:i=id
  ·subst e
   rw [aU] at hi
   cases hi
   exact ⟨b,vs',ty,k.box,k.base,k.own,k.none,dI k.cy,hl,hr,fun sz a len cap q=>by rw [hs];exact k.room sz a len cap q⟩
  ·rw [aW e] at hi
   obtain ⟨c,vs2,ty2,k2⟩:=h.box i Ov hi
   have:c≠b:=fun ec=>by have h1:=k2.own;rw [ec,k.own] at h1;exact e (SE h1).symm
   exact ⟨c,vs2,ty2,k2.box,k2.base,k2.own,k2.none,by rw [aQ this];exact k2.cy,k2.len,k2.rep,k2.room⟩
 ·intro i ver sz hi
  by_cases e:i=id
  ·rw [e,aU] at hi;cases hi
  ·rw [aW e] at hi
   obtain ⟨a,len,cap,k2⟩:=h.bO i ver sz hi
   refine ⟨a,len,cap,k2.bl,k2.last,?_⟩
   rcases k2.room with r|⟨c,vs2,ty2,fz,ha,r⟩
   ·exact .inl r
   ·have:c≠b:=fun ec=>by have h1:=r.own;rw [ec,k.own] at h1;exact e (SE h1).symm
    exact .inr ⟨c,vs2,ty2,fz,ha,r.base,r.own,by rw [aQ this];exact r.cy,r.fz,r.cap,r.none⟩
 ·intro i F hi
  by_cases e:i=id
  ·rw [e,aU] at hi;cases hi
  ·rw [aW e] at hi
   obtain ⟨c,LF,clock,q⟩:=h.mp i F hi
   have:c≠b:=fun ec=>by have h1:=q.own;rw [ec,k.own] at h1;exact e (SE h1).symm
   exact ⟨c,LF,clock,q.box,q.base,q.own,q.none,by rw [aQ this];exact q.cy,q.fits⟩
 ·intro i k2 t ps ag bd hi
  by_cases e:i=id
  ·rw [e,aU] at hi;cases hi
  ·rw [aW e] at hi
   obtain ⟨l,r,q⟩:=h.lp i k2 t ps ag bd hi
   have:l≠b:=fun ec=>by have h1:=q.own;rw [ec,k.own] at h1;exact e (SE h1).symm
   exact ⟨l,r,q.aD (.refl _) q.own (by rw [aQ this];exact q.cy)⟩
 ·intro c hc
  have:c≠b:=fun ec=>by have h1:=(h.eB c hc).2;rw [ec,k.cy] at h1;cases h1
  exact ⟨(h.eB c hc).1,by rw [aQ this];exact (h.eB c hc).2⟩
theorem bw.jB {w0:dq} {w:World} {M:MM} {own:Nat→Option Nat} {σ:Nat→Ob} (h:bw w0 M own σ w) {id b:Nat} {F0 F1:List MapEntry→Nat→Prop} {LF ents':Array MapEntry} {clock:Nat}
  (k:HL w0 M own id F0 w b LF clock) (Ou:Nat) {o':Ob} (ho:o'.CF=some F1) (hf:F1 ents'.toList Ou):
  bw w0 M own (dW σ id o') (bh w b (.map ents' Ou)):=by
 refine ⟨eX h.below k.base _,?_,h.iJ,?_,?_,?_,?_,?_,?_⟩
 ·intro c o v hc
  have:c≠b:=fun e=>by rw [e,k.none o] at hc;cases hc
  rw [dm this]
  exact h.cells c o v hc
 ·intro c i hc;rw [eN];exact h.owned c i hc
 ·intro i Ov hi
  by_cases e:i=id
  ·rw [e,aU] at hi;rw [hi] at ho;cases ho
  ·rw [aW e] at hi
   obtain ⟨c,vs2,ty2,k2⟩:=h.box i Ov hi
   have:c≠b:=fun ec=>by have h1:=k2.own;rw [ec,k.own] at h1;exact e (SE h1).symm
   exact ⟨c,vs2,ty2,k2.box,k2.base,k2.own,k2.none,by rw [aQ this];exact k2.cy,k2.len,k2.rep,k2.room⟩
 ·intro i ver sz hi
  by_cases e:i=id
  ·rw [e,aU] at hi;rw [hi] at ho;cases ho
  ·rw [aW e] at hi
   obtain ⟨a,len,cap,k2⟩:=h.bO i ver sz hi
   refine ⟨a,len,cap,k2.bl,k2.last,?_⟩
   rcases k2.room with r|⟨c,vs2,ty2,fz,ha,r⟩
   ·exact .inl r
   ·have:c≠b:=fun ec=>by have h1:=r.own;rw [ec,k.own] at h1;exact e (SE h1).symm
    exact .inr ⟨c,vs2,ty2,fz,ha,r.base,r.own,by rw [aQ this];exact r.cy,r.fz,r.cap,r.none⟩
 ·intro i F hi
  by_cases e:i=id
  ·subst e
   rw [aU,ho] at hi
   cases hi
   exact ⟨b,ents',Ou,k.box,k.base,k.own,k.none,dI k.cy,hf⟩
  ·rw [aW e] at hi
   obtain ⟨c,ents2,clock2,q⟩:=h.mp i F hi
   have:c≠b:=fun ec=>by have h1:=q.own;rw [ec,k.own] at h1;exact e (SE h1).symm
   exact ⟨c,ents2,clock2,q.box,q.base,q.own,q.none,by rw [aQ this];exact q.cy,q.fits⟩
 ·intro i k2 t ps ag bd hi
  by_cases e:i=id
  ·rw [e,aU] at hi;rw [hi] at ho;cases ho
  ·rw [aW e] at hi
   obtain ⟨l,r,q⟩:=h.lp i k2 t ps ag bd hi
   have:l≠b:=fun ec=>by have h1:=q.own;rw [ec,k.own] at h1;exact e (SE h1).symm
   exact ⟨l,r,q.aD (.refl _) q.own (by rw [aQ this];exact q.cy)⟩
 ·intro c hc
  have:c≠b:=fun ec=>by have h1:=(h.eB c hc).2;rw [ec,k.cy] at h1;cases h1
  exact ⟨(h.eB c hc).1,by rw [aQ this];exact (h.eB c hc).2⟩
theorem bw.qm {w0:dq} {w:World} {M:MM} {own:Nat→Option Nat} {σ:Nat→Ob} (h:bw w0 M own σ w) {id ver:Nat} (L9:∀v,ver≤v→M.bl id v=none) {a:Option Addr} {len cap:Nat} (sz:Nat)
  (Ml:cap=len∨∃b vs ty fz,a=some ⟨b,0,none⟩∧¬w0.X b∧(own b=none∨own b=some id)∧w.heap[b]? =some (.cells vs ty fz)∧kL fz vs.size∧cap*sz≤vs.size∧∀o,len*sz≤o→M.cell b o=none):
  ∃LB,bw w0 (M.aX id ver (.slice a len cap)) LB (dW σ id (.bO ver sz)) w:=by
 have le:=MM.cY (ver:=ver) (v:= .slice a len cap) (L9 ver (SP _))
 have QI:∀ {LB:Nat→Option Nat},(∀b i,own b=some i→LB b=some i)→(∀b i,LB b=some i→b<w.heap.size)→
   (cap=len∨∃b vs ty fz,a=some ⟨b,0,none⟩∧rW w0 (M.aX id ver (.slice a len cap)) LB id sz w len cap b vs ty fz)→
   bw w0 (M.aX id ver (.slice a len cap)) LB (dW σ id (.bO ver sz)) w:=by
  intro LB OI P4 hr
  refine ⟨h.below,h.cells,h.iJ,P4,?_,?_,?_,?_,h.eB⟩
  ·intro i cs hi
   by_cases e:i=id
   ·rw [e,aU] at hi;cases hi
   ·rw [aW e] at hi
    obtain ⟨b,vs,ty,k⟩:=h.box i cs hi
    exact ⟨b,vs,ty,k.box,k.base,OI _ _ k.own,k.none,k.cy,k.len,fun j d v a b=>(k.rep j d v a b).mono le,fun L4 a' LJ Mb q=>k.room L4 a' LJ Mb (by simpa [MM.aX,e] using q)⟩
  ·intro i OL L4 hi
   by_cases e:i=id
   ·subst e
    rw [aU] at hi
    cases hi
    refine ⟨a,len,cap,by simp [MM.aX],?_,hr⟩
    intro v hv
    simp only [MM.aX,show ¬(v=ver) by omega,and_false,if_false]
    exact L9 v (by omega)
   ·rw [aW e] at hi
    obtain ⟨a',LJ,Mb,k⟩:=h.bO i OL L4 hi
    refine ⟨a',LJ,Mb,le.bl _ _ _ k.bl,?_,?_⟩
    ·intro v hv
     simp only [MM.aX,e,false_and,if_false]
     exact k.last v hv
    ·rcases k.room with r|⟨c,vs2,ty2,fz,ha,r⟩
     ·exact .inl r
     ·exact .inr ⟨c,vs2,ty2,fz,ha,r.base,OI _ _ r.own,r.cy,r.fz,r.cap,r.none⟩
  ·intro i F hi
   by_cases e:i=id
   ·rw [e,aU] at hi;cases hi
   ·rw [aW e] at hi
    obtain ⟨b,LF,clock,q⟩:=h.mp i F hi
    exact ⟨b,LF,clock,q.box,q.base,OI _ _ q.own,q.none,q.cy,q.fits⟩
  ·intro i k t ps ag bd hi
   by_cases e:i=id
   ·rw [e,aU] at hi;cases hi
   ·rw [aW e] at hi
    obtain ⟨l,r,q⟩:=h.lp i k t ps ag bd hi
    exact ⟨l,r,q.aD le (OI _ _ q.own) q.cy⟩
 rcases Ml with hc|⟨b,vs,ty,fz,ha,Oh,Nm,hblk,P3,LH,MY⟩
 ·exact ⟨own,QI (fun _ _ x=>x) h.owned (.inl hc)⟩
 ·refine ⟨eP own b id,QI ?_ ?_ (.inr ⟨b,vs,ty,fz,ha,Oh,by simp [eP],hblk,P3,LH,MY⟩)⟩
  ·intro c i hc
   by_cases e:c=b
   ·subst e
    rcases Nm with Nm|Nm
    ·rw [Nm] at hc;cases hc
    ·rw [Nm] at hc;simp [eP];exact SE hc
   ·simp [eP,e,hc]
  ·intro c i hc
   by_cases e:c=b
   ·rw [e];exact dV hblk
   ·simp only [eP,e,if_false] at hc;exact h.owned c i hc
def MM.gz (M:MM) (b n1 n2:Nat) (vs:Array Value):MM:=M.bK b fun o=>if n1≤o∧o<n2 then vs[o]? else M.cell b o
theorem MM.AK {M:MM} {b n1 n2:Nat} {vs:Array Value} (h:∀o,n1≤o→M.cell b o=none):M.Le (M.gz b n1 n2 vs):=by
 refine ⟨fun c o v k=> ?_,fun _ _ k=>k,fun _ _ _ k=>k,fun _ k=>k⟩
 by_cases e:c=b
 ·subst e
  simp only [gz,bK,if_true]
  rw [if_neg]
  ·exact k
  ·intro hh;rw [h o hh.1] at k;cases k
 ·simp only [gz,bK,e,if_false];exact k
theorem bw.Fy {w0:dq} {w:World} {M:MM} {own:Nat→Option Nat} {σ:Nat→Ob} (h:bw w0 M own σ w) {id sz len cap b:Nat} {ver L4:Nat} {vs vs':Array Value} {ty:TypeId} {fz:Nat×Nat} (_hs:σ id= .bO ver L4)
  (r:rW w0 M own id sz w len cap b vs ty fz) (n2:Nat) (RR:vs'.size=vs.size) (MD:∀o,o<len*sz→vs'[o]? =vs[o]?):
  bw w0 (M.gz b (len*sz) n2 vs') own (dW σ id .dead) (bh w b (.cells vs' ty fz)):=by
 have le:M.Le (M.gz b (len*sz) n2 vs'):=MM.AK r.none
 refine ⟨eX h.below r.base _,?_,?_,?_,?_,?_,?_,?_,?_⟩
 ·intro c o v hc
  by_cases e:c=b
  ·subst e
   simp only [MM.gz,MM.bK,if_true] at hc
   simp only [TK,dI r.cy]
   split at hc
   ·exact hc
   ·have h1:=h.cells c o v hc
    have h2:o<len*sz:=by
     rcases SY o (len*sz) with q|q
     ·exact q
     ·rw [r.none o q] at hc;cases hc
    simp only [TK,r.cy] at h1
    rw [← MD o h2] at h1
    exact h1
  ·simp only [MM.gz,MM.bK,e,if_false] at hc
   rw [dm e]
   exact h.cells c o v hc
 ·intro c o v hc LN
  have e:c≠b:=fun e=>r.base (e▸LN)
  simp only [MM.gz,MM.bK,e,if_false] at hc
  exact h.iJ c o v hc LN
 ·intro c i hc;rw [eN];exact h.owned c i hc
 ·intro i Ov hi
  by_cases e:i=id
  ·rw [e,aU] at hi;cases hi
  ·rw [aW e] at hi
   obtain ⟨c,vs2,ty2,k2⟩:=h.box i Ov hi
   have:c≠b:=fun ec=>by have h1:=k2.own;rw [ec,r.own] at h1;exact e (SE h1).symm
   exact ⟨c,vs2,ty2,k2.box,k2.base,k2.own,fun o=>by simp only [MM.gz,MM.bK,this,if_false];exact k2.none o,by rw [aQ this];exact k2.cy,k2.len,fun j d v a b=>(k2.rep j d v a b).mono le,k2.room⟩
 ·intro i Rv Ng hi
  by_cases e:i=id
  ·rw [e,aU] at hi;cases hi
  ·rw [aW e] at hi
   obtain ⟨a,len2,cap2,k2⟩:=h.bO i Rv Ng hi
   refine ⟨a,len2,cap2,k2.bl,k2.last,?_⟩
   rcases k2.room with q|⟨c,vs2,ty2,fz2,ha,q⟩
   ·exact .inl q
   ·have:c≠b:=fun ec=>by have h1:=q.own;rw [ec,r.own] at h1;exact e (SE h1).symm
    exact .inr ⟨c,vs2,ty2,fz2,ha,q.base,q.own,by rw [aQ this];exact q.cy,q.fz,q.cap,fun o ho=>by simp only [MM.gz,MM.bK,this,if_false];exact q.none o ho⟩
 ·intro i F hi
  by_cases e:i=id
  ·rw [e,aU] at hi;cases hi
  ·rw [aW e] at hi
   obtain ⟨c,LF,clock,q⟩:=h.mp i F hi
   have:c≠b:=fun ec=>by have h1:=q.own;rw [ec,r.own] at h1;exact e (SE h1).symm
   exact ⟨c,LF,clock,q.box,q.base,q.own,fun o=>by simp only [MM.gz,MM.bK,this,if_false];exact q.none o,by rw [aQ this];exact q.cy,q.fits⟩
 ·intro i k2 t ps ag bd hi
  by_cases e:i=id
  ·rw [e,aU] at hi;cases hi
  ·rw [aW e] at hi
   obtain ⟨l,r',q⟩:=h.lp i k2 t ps ag bd hi
   have:l≠b:=fun ec=>by have h1:=q.own;rw [ec,r.own] at h1;exact e (SE h1).symm
   exact ⟨l,r',q.aD le q.own (by rw [aQ this];exact q.cy)⟩
 ·intro c hc
  have:c≠b:=fun ec=>by have h1:=(h.eB c hc).2;rw [ec,r.cy] at h1;cases h1
  exact ⟨(h.eB c hc).1,by rw [aQ this];exact (h.eB c hc).2⟩
theorem bw.l3 {w0:dq} {w:World} {M:MM} {own:Nat→Option Nat} {σ:Nat→Ob} (h:bw w0 M own σ w) {id b:Nat} {cs:List D} {vs:Array Value} {ty:TypeId} (hσ:σ id= .box cs)
  (k:pf w0 M own id cs w b vs ty) {sz len cap:Nat} (hn:M.bl id sz=none) (hc:cap*sz≤vs.size):bw w0 (M.aX id sz (.slice (some ⟨b,0,none⟩) len cap)) own σ w:=by
 have le:=MM.cY (v:= .slice (some ⟨b,0,none⟩) len cap) hn
 refine ⟨h.below,h.cells,h.iJ,h.owned,?_,?_,?_,?_,h.eB⟩
 ·intro i My hi
  by_cases e:i=id
  ·subst e
   rw [hσ] at hi
   cases hi
   refine ⟨b,vs,ty,k.box,k.base,k.own,k.none,k.cy,k.len,fun j d v a b=>(k.rep j d v a b).mono le,fun L4 a LJ Mb q=> ?_⟩
   by_cases es:L4=sz
   ·subst es
    simp only [MM.aX,and_self,if_true,SL,Value.slice.injEq] at q
    rw [← q.2.2];exact hc
   ·simp only [MM.aX,es,and_false,if_false] at q
    exact k.room L4 a LJ Mb q
  ·obtain ⟨b',vs',ty',k'⟩:=h.box i My hi
   exact ⟨b',vs',ty',k'.box,k'.base,k'.own,k'.none,k'.cy,k'.len,fun j d v a b=>(k'.rep j d v a b).mono le,fun L4 a LJ Mb q=>k'.room L4 a LJ Mb (by simpa [MM.aX,e] using q)⟩
 ·intro i ver L4 hi
  by_cases e:i=id
  ·subst e;rw [hσ] at hi;cases hi
  ·obtain ⟨a,LJ,Mb,k'⟩:=h.bO i ver L4 hi
   refine ⟨a,LJ,Mb,le.bl _ _ _ k'.bl,?_,?_⟩
   ·intro v hv
    simp only [MM.aX,e,false_and,if_false]
    exact k'.last v hv
   ·rcases k'.room with r|⟨c,vs2,ty2,fz,ha,r⟩
    ·exact .inl r
    ·exact .inr ⟨c,vs2,ty2,fz,ha,r.base,r.own,r.cy,r.fz,r.cap,r.none⟩
 ·intro i F hi
  obtain ⟨b',LF,clock,q⟩:=h.mp i F hi
  exact ⟨b',LF,clock,q.box,q.base,q.own,q.none,q.cy,q.fits⟩
 ·intro i kk t ps ag bd hi
  obtain ⟨l,r,q⟩:=h.lp i kk t ps ag bd hi
  exact ⟨l,r,q.aD le q.own q.cy⟩
theorem bw.AF {w0:dq} {w:World} {M:MM} {own:Nat→Option Nat} {σ:Nat→Ob} (h:bw w0 M own σ w) {id NW b:Nat} {cs My:List D} {vs vs':Array Value} {ty:TypeId}
  (k:pf w0 M own id cs w b vs ty) (L9:M.box NW=none) (hh:∀v,M.bl NW v=none) (hl:My.length≤vs'.size) (hr:∀(i:Nat) (d:D) (v:Value),My[i]? =some d→vs'[i]? =some v→bk M d v):
  bw w0 (M.bc NW b) (eP own b NW) (dW (dW σ id .dead) NW (.box My)) (bh w b (.cells vs' ty (0,0))):=by
 have le:=MM.dw (b:=b) L9
 have ME:∀ {i c:Nat},own c=some i→i≠id→c≠b:=fun hi e ec=>by rw [ec,k.own] at hi;exact e (SE hi).symm
 have MJ:∀ {i c:Nat},own c=some i→i≠id→eP own b NW c=some i:=fun hi e=>by simp [eP,ME hi e,hi]
 refine ⟨eX h.below k.base _,?_,h.iJ,?_,?_,?_,?_,?_,?_⟩
 ·intro c o v hc
  have NL:M.cell c o=some v:=hc
  have:c≠b:=fun e=>by rw [e,k.none o] at NL;cases NL
  rw [dm this]
  exact h.cells c o v NL
 ·intro c i hc
  rw [eN]
  by_cases e:c=b
  ·rw [e];exact dV k.cy
  ·simp only [eP,e,if_false] at hc;exact h.owned c i hc
 ·intro i Ov hi
  by_cases e:i=NW
  ·subst e
   rw [aU] at hi
   cases hi
   exact ⟨b,vs',ty,by simp [MM.bc],k.base,by simp [eP],k.none,dI k.cy,hl,fun j d v a b=>(hr j d v a b).mono le,fun sz a len cap q=>by have q':M.bl i sz=_:=q;rw [hh] at q';cases q'⟩
  ·rw [aW e] at hi
   by_cases e2:i=id
   ·rw [e2,aU] at hi;cases hi
   ·rw [aW e2] at hi
    obtain ⟨c,vs2,ty2,k2⟩:=h.box i Ov hi
    exact ⟨c,vs2,ty2,le.box _ _ k2.box,k2.base,MJ k2.own e2,k2.none,by rw [aQ (ME k2.own e2)];exact k2.cy,k2.len,fun j d v a b=>(k2.rep j d v a b).mono le,k2.room⟩
 ·intro i ver sz hi
  by_cases e:i=NW
  ·rw [e,aU] at hi;cases hi
  ·rw [aW e] at hi
   by_cases e2:i=id
   ·rw [e2,aU] at hi;cases hi
   ·rw [aW e2] at hi
    obtain ⟨a,len,cap,k2⟩:=h.bO i ver sz hi
    refine ⟨a,len,cap,k2.bl,k2.last,?_⟩
    rcases k2.room with r|⟨c,vs2,ty2,fz,ha,r⟩
    ·exact .inl r
    ·exact .inr ⟨c,vs2,ty2,fz,ha,r.base,MJ r.own e2,by rw [aQ (ME r.own e2)];exact r.cy,r.fz,r.cap,r.none⟩
 ·intro i F hi
  by_cases e:i=NW
  ·rw [e,aU] at hi;cases hi
  ·rw [aW e] at hi
   by_cases e2:i=id
   ·rw [e2,aU] at hi;cases hi
   ·rw [aW e2] at hi
    obtain ⟨c,LF,clock,q⟩:=h.mp i F hi
    exact ⟨c,LF,clock,le.box _ _ q.box,q.base,MJ q.own e2,q.none,by rw [aQ (ME q.own e2)];exact q.cy,q.fits⟩
 ·intro i k2 t ps ag bd hi
  by_cases e:i=NW
  ·rw [e,aU] at hi;cases hi
  ·rw [aW e] at hi
   by_cases e2:i=id
   ·rw [e2,aU] at hi;cases hi
   ·rw [aW e2] at hi
    obtain ⟨l,r,q⟩:=h.lp i k2 t ps ag bd hi
    exact ⟨l,r,q.aD le (MJ q.own e2) (by rw [aQ (ME q.own e2)];exact q.cy)⟩
 ·intro c hc
  have:c≠b:=fun ec=>by have h1:=(h.eB c hc).2;rw [ec,k.cy] at h1;cases h1
  exact ⟨(h.eB c hc).1,by rw [aQ this];exact (h.eB c hc).2⟩
def MM.nS (M:MM) (b:Nat):MM:= { M with eB:=fun c=>M.eB c∨c=b }
theorem MM.sW (M:MM) (b:Nat):M.Le (M.nS b):=⟨fun _ _ _ h=>h,fun _ _ h=>h,fun _ _ _ h=>h,fun _ h=> .inl h⟩
theorem bw.JD {w0:dq} {w:World} {M:MM} {own:Nat→Option Nat} {σ:Nat→Ob} (h:bw w0 M own σ w):bw w0 (M.nS w.heap.size) own σ (w.alloc (.deferred (some []))):=by
 have le:=M.sW w.heap.size
 have hold:∀ {b:Nat} {o:Obj},w.heap[b]? =some o→(w.alloc (.deferred (some []))).heap[b]? =some o:=fun {b o} hb=>by
  rw [Below.heap_alloc _ _ _ (dV hb),hb]
 refine ⟨h.below.alloc _,?_,h.iJ,?_,?_,?_,?_,?_,?_⟩
 ·intro b o v k
  rw [World.cell?_alloc_lt]
  ·exact h.cells b o v k
  ·exact TM w _ (h.cells b o v k)
 ·intro b i k
  rw [World.size_alloc]
  have:=h.owned b i k
  omega
 ·intro i cs hi
  obtain ⟨b,vs,ty,k⟩:=h.box i cs hi
  exact ⟨b,vs,ty,k.box,k.base,k.own,k.none,hold k.cy,k.len,fun j d v a b=>(k.rep j d v a b).mono le,k.room⟩
 ·intro i ver sz hi
  obtain ⟨a,len,cap,k⟩:=h.bO i ver sz hi
  refine ⟨a,len,cap,k.bl,k.last,?_⟩
  rcases k.room with r|⟨b,vs',ty',fz,ha,r⟩
  ·exact .inl r
  ·exact .inr ⟨b,vs',ty',fz,ha,r.base,r.own,hold r.cy,r.fz,r.cap,r.none⟩
 ·intro i F hi
  obtain ⟨b,LF,clock,q⟩:=h.mp i F hi
  exact ⟨b,LF,clock,q.box,q.base,q.own,q.none,hold q.cy,q.fits⟩
 ·intro i k t ps ag bd hi
  obtain ⟨l,r,q⟩:=h.lp i k t ps ag bd hi
  exact ⟨l,r,q.aD le q.own (hold q.cy)⟩
 ·rintro b (hb|rfl)
  ·exact ⟨(h.eB b hb).1,hold (h.eB b hb).2⟩
  ·refine ⟨h.below.new,?_⟩
   show (w.heap.push _)[w.heap.size]? =_
   simp
theorem bw.JE {w0:dq} {w:World} {M:MM} {own:Nat→Option Nat} {σ:Nat→Ob} (h:bw w0 M own σ w) {id:Nat} (L9:M.box id=none) (hh:∀v,M.bl id v=none) {k:Lk} {t:List D} {r:Loop}
  (LL:r.state=k.state) (R2:k≠ .busy→r.pending=k.GD) (ht:bS M t r.tmps):
  bw w0 (M.bc id w.heap.size) (eP own w.heap.size id) (dW σ id (.lp k t r.params r.assign r.body)) (w.alloc (.loop r)):=by
 have le:=MM.dw (b:=w.heap.size) L9
 have hold:∀ {b:Nat} {o:Obj},w.heap[b]? =some o→(w.alloc (.loop r)).heap[b]? =some o:=fun {b o} hb=>by
  rw [Below.heap_alloc _ _ _ (dV hb),hb]
 have MJ:∀ {b i:Nat},own b=some i→eP own w.heap.size id b=some i:=fun {b i} k=>by
  have:=h.owned b i k
  simp [eP,show b≠w.heap.size by omega,k]
 refine ⟨h.below.alloc _,?_,h.iJ,?_,?_,?_,?_,?_,?_⟩
 ·intro b o v k
  have k':M.cell b o=some v:=k
  rw [World.cell?_alloc_lt]
  ·exact h.cells b o v k'
  ·exact TM w _ (h.cells b o v k')
 ·intro b i k
  rw [World.size_alloc]
  by_cases e:b=w.heap.size
  ·omega
  ·simp only [eP,e,if_false] at k
   have:=h.owned b i k
   omega
 ·intro i cs hi
  by_cases e:i=id
  ·rw [e,aU] at hi;cases hi
  ·rw [aW e] at hi
   obtain ⟨b,vs,ty,k⟩:=h.box i cs hi
   exact ⟨b,vs,ty,le.box _ _ k.box,k.base,MJ k.own,k.none,hold k.cy,k.len,fun j d v a b=>(k.rep j d v a b).mono le,k.room⟩
 ·intro i ver sz hi
  by_cases e:i=id
  ·rw [e,aU] at hi;cases hi
  ·rw [aW e] at hi
   obtain ⟨a,len,cap,k⟩:=h.bO i ver sz hi
   refine ⟨a,len,cap,k.bl,k.last,?_⟩
   rcases k.room with r|⟨b,vs',ty',fz,ha,r⟩
   ·exact .inl r
   ·exact .inr ⟨b,vs',ty',fz,ha,r.base,MJ r.own,hold r.cy,r.fz,r.cap,r.none⟩
 ·intro i F hi
  by_cases e:i=id
  ·rw [e,aU] at hi;cases hi
  ·rw [aW e] at hi
   obtain ⟨b,LF,clock,q⟩:=h.mp i F hi
   exact ⟨b,LF,clock,le.box _ _ q.box,q.base,MJ q.own,q.none,hold q.cy,q.fits⟩
 ·intro i k2 t2 ps ag bd hi
  by_cases e:i=id
  ·subst e
   rw [aU] at hi
   cases hi
   refine ⟨w.heap.size,r,by simp [MM.bc],h.below.new,by simp [eP],?_,LL,R2,ht.mono le,rfl,rfl,rfl⟩
   show (w.heap.push _)[w.heap.size]? =_
   simp
  ·rw [aW e] at hi
   obtain ⟨l,r',q⟩:=h.lp i k2 t2 ps ag bd hi
   exact ⟨l,r',q.aD le (MJ q.own) (hold q.cy)⟩
 ·intro b hb
  exact ⟨(h.eB b hb).1,hold (h.eB b hb).2⟩
theorem bw.DS {w0:dq} {w:World} {M:MM} {own:Nat→Option Nat} {σ:Nat→Ob} (h:bw w0 M own σ w) {id l:Nat} {k k':Lk} {t:List D} {ps:Array Nat} {ag bd:Code} {r r':Loop}
  (q:FZ w0 M own id k t ps ag bd w l r) (o':Ob) (ho:o'= .dead∨(o'= .lp k' t ps ag bd∧r'.state=k'.state∧(k'≠ .busy→r'.pending=k'.GD)∧r'.tmps=r.tmps∧r'.params=r.params∧r'.assign=r.assign∧r'.body=r.body)):
  bw w0 M own (dW σ id o') (bh w l (.loop r')):=by
 refine ⟨eX h.below q.base _,?_,h.iJ,?_,?_,?_,?_,?_,?_⟩
 ·intro c o v hc
  have:c≠l:=fun e=>by
   have:=h.cells c o v hc
   rw [e] at this
   simp [TK,q.cy] at this
  rw [dm this]
  exact h.cells c o v hc
 ·intro c i hc;rw [eN];exact h.owned c i hc
 ·intro i Ov hi
  by_cases e:i=id
  ·rw [e,aU] at hi;rcases ho with rfl|⟨rfl,_⟩<;>cases hi
  ·rw [aW e] at hi
   obtain ⟨c,vs2,ty2,k2⟩:=h.box i Ov hi
   have:c≠l:=fun ec=>by have h1:=k2.own;rw [ec,q.own] at h1;exact e (SE h1).symm
   exact ⟨c,vs2,ty2,k2.box,k2.base,k2.own,k2.none,by rw [aQ this];exact k2.cy,k2.len,k2.rep,k2.room⟩
 ·intro i ver sz hi
  by_cases e:i=id
  ·rw [e,aU] at hi;rcases ho with rfl|⟨rfl,_⟩<;>cases hi
  ·rw [aW e] at hi
   obtain ⟨a,len,cap,k2⟩:=h.bO i ver sz hi
   refine ⟨a,len,cap,k2.bl,k2.last,?_⟩
   rcases k2.room with r|⟨c,vs2,ty2,fz,ha,r⟩
   ·exact .inl r
   ·have:c≠l:=fun ec=>by have h1:=r.own;rw [ec,q.own] at h1;exact e (SE h1).symm
    exact .inr ⟨c,vs2,ty2,fz,ha,r.base,r.own,by rw [aQ this];exact r.cy,r.fz,r.cap,r.none⟩
 ·intro i F hi
  by_cases e:i=id
  ·rw [e,aU] at hi;rcases ho with rfl|⟨rfl,_⟩<;>cases hi
  ·rw [aW e] at hi
   obtain ⟨c,LF,clock,q2⟩:=h.mp i F hi
   have:c≠l:=fun ec=>by have h1:=q2.own;rw [ec,q.own] at h1;exact e (SE h1).symm
   exact ⟨c,LF,clock,q2.box,q2.base,q2.own,q2.none,by rw [aQ this];exact q2.cy,q2.fits⟩
 ·intro i k2 t2 RV RF Rq hi
  by_cases e:i=id
  ·subst e
   rw [aU] at hi
   rcases ho with rfl|⟨rfl,LL,R2,hr⟩
   ·cases hi
   cases hi
   exact ⟨l,r',q.box,q.base,q.own,dI q.cy,LL,R2,by rw [hr.1];exact q.tm,by rw [hr.2.1];exact q.ps,by rw [hr.2.2.1];exact q.ag,by rw [hr.2.2.2];exact q.bd⟩
  ·rw [aW e] at hi
   obtain ⟨l2,r2,q2⟩:=h.lp i k2 t2 RV RF Rq hi
   have:l2≠l:=fun ec=>by have h1:=q2.own;rw [ec,q.own] at h1;exact e (SE h1).symm
   exact ⟨l2,r2,q2.aD (.refl _) q2.own (by rw [aQ this];exact q2.cy)⟩
 ·intro c hc
  have:c≠l:=fun ec=>by have h1:=(h.eB c hc).2;rw [ec,q.cy] at h1;cases h1
  exact ⟨(h.eB c hc).1,by rw [aQ this];exact (h.eB c hc).2⟩
def MM.uh (M:MM) (b:Nat):MM:= { M with eB:=fun c=>M.eB c∧c≠b }
theorem bw.uh {w0:dq} {w:World} {M:MM} {own:Nat→Option Nat} {σ:Nat→Ob} (h:bw w0 M own σ w) {b:Nat} (hb:M.eB b):bw w0 (M.uh b) own σ (bh w b (.deferred none)):=by
 obtain ⟨Oh,hblk⟩:=h.eB b hb
 have rb:∀ {d:D} {v:Value},bk M d v→bk (M.uh b) d v:=fun {d v} hr=>hr.JC
 refine ⟨eX h.below Oh _,?_,h.iJ,?_,?_,?_,?_,?_,?_⟩
 ·intro c o v hc
  have:c≠b:=fun e=>by
   have:=h.cells c o v hc
   rw [e] at this
   simp [TK,hblk] at this
  rw [dm this]
  exact h.cells c o v hc
 ·intro c i hc;rw [eN];exact h.owned c i hc
 ·intro i Ov hi
  obtain ⟨c,vs2,ty2,k2⟩:=h.box i Ov hi
  have:c≠b:=fun ec=>by have h1:=k2.cy;rw [ec,hblk] at h1;cases h1
  exact ⟨c,vs2,ty2,k2.box,k2.base,k2.own,k2.none,by rw [aQ this];exact k2.cy,k2.len,fun j d v p q=>rb (k2.rep j d v p q),k2.room⟩
 ·intro i ver sz hi
  obtain ⟨a,len,cap,k2⟩:=h.bO i ver sz hi
  refine ⟨a,len,cap,k2.bl,k2.last,?_⟩
  rcases k2.room with r|⟨c,vs2,ty2,fz,ha,r⟩
  ·exact .inl r
  ·have:c≠b:=fun ec=>by have h1:=r.cy;rw [ec,hblk] at h1;cases h1
   exact .inr ⟨c,vs2,ty2,fz,ha,r.base,r.own,by rw [aQ this];exact r.cy,r.fz,r.cap,r.none⟩
 ·intro i F hi
  obtain ⟨c,LF,clock,q2⟩:=h.mp i F hi
  have:c≠b:=fun ec=>by have h1:=q2.cy;rw [ec,hblk] at h1;cases h1
  exact ⟨c,LF,clock,q2.box,q2.base,q2.own,q2.none,by rw [aQ this];exact q2.cy,q2.fits⟩
 ·intro i k2 t2 RV RF Rq hi
  obtain ⟨l2,r2,q2⟩:=h.lp i k2 t2 RV RF Rq hi
  have:l2≠b:=fun ec=>by have h1:=q2.cy;rw [ec,hblk] at h1;cases h1
  exact ⟨l2,r2,q2.box,q2.base,q2.own,by rw [aQ this];exact q2.cy,q2.st,q2.pd,⟨q2.tm.1,fun i d v p q=>rb (q2.tm.2 i d v p q)⟩,q2.ps,q2.ag,q2.bd⟩
 ·rintro c ⟨hc,ME⟩
  exact ⟨(h.eB c hc).1,by rw [aQ ME];exact (h.eB c hc).2⟩
def KQ (P:Program) (f:FuncId):Prop:= ∃fn c,P.funcs[f]? =some fn∧fn.body=some c∧(fn.name== "runtime.NumGoroutine")=false
def iU (B:Nat) (w:World) (C:Nat→Nat→Option Value) (sz:Nat) (a:Option Addr) (len cap:Nat):Prop:=
  cap=len∨∃b vs ty fz,a=some ⟨b,0,none⟩∧B≤b∧w.heap[b]? =some (.cells vs ty fz)∧kL fz vs.size∧cap*sz≤vs.size∧∀o,len*sz≤o→C b o=none
def zY (B:Nat) (w:World) (C:Nat→Nat→Option Value) (d:D) (v:Value):Prop:=
  (∀sz L4 xs,d= .aj (.fresh sz) L4 xs→∃a len cap,v= .slice a len cap∧L4=sz∧iU B w C sz a len cap)∧
  ∀ds vs,d= .aC ds→v= .tuple vs→∀(i:Nat) (sz L4:Nat) (xs:List D),ds[i]? =some (.aj (.fresh sz) L4 xs)→∃a len cap,vs[i]? =some (.slice a len cap)∧L4=sz∧iU B w C sz a len cap
structure aF (P:Program) (f:FuncId) (args:List D) (d:D):Prop where
  FB:KQ P f
  run:∀(w:World) (C:Nat→Nat→Option Value) (vs:Array Value),(∀b o v,C b o=some v→w.cell? ⟨b,o,none⟩=some v)→bS (eY C) args vs→
    Calls P f vs w fun e w'=> ∃v C',e= .returned v∧Ext (eY C) w (eY C') w'∧bk (eY C') d v∧zY w.heap.size w' C' d v
def eR:T8→T8→Bool
  | .i8,.i8| .i16,.i16| .i32,.i32| .i64,.i64| .u8,.u8| .u16,.u16| .u32,.u32| .u64,.u64=>true
  |_,_=>false
def LK.fits:LK→D→Bool
  | .bool,.bool _=>true
  | .int k,.int k' _=>eR k k'
  | .str,.str _=>true
  |_,_=>false
def fQ:List LK→List D→Bool
  | [],[]=>true
  |k::ks,d::ds=>k.fits d&&fQ ks ds
  |_,_=>false
def ak:D→D→Bool
  | .bool a,.bool b=>a==b
  | .int _ a,.int _ b=>a==b
  | .str a,.str b=>a.toList==b.toList
  |_,_=>false
def ae:List D→List D→Bool
  | [],[]=>true
  |a::x,b::y=>ak a b&&ae x y
  |_,_=>false
def kp:Value→Value→Bool
  | .bool a,.bool b=>a==b
  | .int _ a,.int _ b=>a==b
  | .string a,.string b=>a.toList==b.toList
  |_,_=>false
def cm:List Value→List Value→Bool
  | [],[]=>true
  |a::x,b::y=>kp a b&&cm x y
  |_,_=>false
def lj (x:List Value):List MapEntry→Nat→Option (Nat×Value)
  | [],_=>none
  |e::es,i=>match e.key with
    | .agg y=>match cm x y.toList with|true=>some (i,e.val)|false=>lj x es (i+1)
    |_=>none
def mu:List LK→Bool
  | []=>true
  | .str::_=>false
  |_::r=>mu r
structure ky (P:Program) (t:TypeId) (ks:List LK):Prop where
  wP:mu ks=true
  check:∀(w:World) (em:Bool) (xs:Array Value),cJ ks xs.toList→(Instr.checkKey em 10000 t (.agg xs)).run P w= .ok () w
  find:∀(w:World) (x:Array Value) (l:List MapEntry),cJ ks x.toList→(∀e∈l,∃y:Array Value,e.key= .agg y∧cJ ks y.toList)→(Instr.findKey t (.agg x) l).run P w= .ok (lj x.toList l 0) w
structure jl (P:Program) (t:TypeId) (ks:List LK):Prop where
  plain:P.eqGuardType P.depth t=false
  eq:∀(xs ys:Array Value) (w:World),cJ ks xs.toList→cJ ks ys.toList→(Op.equalIn 10000 t (.agg xs) (.agg ys)).run P w= .ok (cm xs.toList ys.toList) w
inductive Ex where
  |norm
  |exit (id:Nat)
  |ret
def Ex.is:Ex→Exit→Prop
  | .norm,.normal=>True
  | .exit i,.exit j=>i=j
  | .ret,.ret=>True
  |_,_=>False
def bo (s:List Ob):Nat→Ob:=fun i=>s.getD i .dead
def MM.upto (M:MM) (n:Nat):Prop:=(∀id,n≤id→M.box id=none)∧∀id v,n≤id→M.bl id v=none
def FW (r:Option Nat):Fence:= { Fence.wide with round:=r }
def gk (K:Nat→Prop) (M:MM) (ds:List Deferred):Prop:=(∀b,K b→M.eB b)∧∃bs:List Nat,ds=bs.map (fun b=> { target:= .collected b,args:= #[] })∧bs.Nodup∧∀b∈bs,M.eB b∧¬K b
theorem gk.mono {K:Nat→Prop} {M M':MM} {ds:List Deferred} (h:gk K M ds) (le:∀b,M.eB b→M'.eB b):gk K M' ds:=
 let ⟨h0,bs,h1,h2,h3⟩:=h
 ⟨fun b k=>le b (h0 b k),bs,h1,h2,fun b hb=>⟨le b (h3 b hb).1,(h3 b hb).2⟩⟩
structure ba (P:Program) (rd:Bool) (c:Code) (t:List D) (s:List Ob) (ex:Ex) (t':List D) (s':List Ob):Prop where
  run:∀(r:Option Nat),(rd=false→r=none)→∀(K:Nat→Prop) (w0:dq) (M:MM) (own:Nat→Option Nat) (w:World) (a:Act),bw w0 M own (bo s) w→M.upto s.length→bS M t a.tmps→gk K M a.defers→
    c.wpIn (FW r) 0 P (fun e a' w'=>ex.is e∧∃M' LB,bw w0 M' LB (bo s') w'∧M'.upto s'.length∧M.Le M'∧bS M' t' a'.tmps∧gk K M' a'.defers) a w
  len:s.length≤s'.length
abbrev kz (P:Program):=ba P true
theorem ba.any {P:Program} {c:Code} {t:List D} {s:List Ob} {ex:Ex} {t':List D} {s':List Ob} (h:kz P c t s ex t' s') (rd:Bool):ba P rd c t s ex t' s':=
 ⟨fun r _=>h.run r (fun e=>by cases e),h.len⟩
def MM.cut (M:MM) (n:Nat):MM:=⟨M.cell,fun i=>if i<n then M.box i else none,fun i v=>if i<n then M.bl i v else none,M.eB⟩
structure cO (P:Program) (n0:Nat) (c:Code) (t:List D) (s:List Ob) (ex:Ex) (t':List D) (s':List Ob):Prop where
  run:∀(r:Option Nat) (K:Nat→Prop) (w0:dq) (M:MM) (own:Nat→Option Nat) (w:World) (a:Act),bw w0 M own (bo s) w→M.upto s.length→bS M t a.tmps→gk K M a.defers→
    c.wpIn (FW r) 0 P (fun e a' w'=>ex.is e∧∃M' LB,bw w0 M' LB (bo s') w'∧M'.upto s'.length∧(M.cut n0).Le M'∧bS M' t' a'.tmps∧gk K M' a'.defers) a w
  len:n0≤s'.length
structure HS where
  aD:List Nat
  Im:List Nat
  mj:List (Nat×Nat)
def dv:List (Int×D)→Int→Option D
  | [],_=>none
  |(a,d)::r,n=>match n==a with|true=>some d|false=>dv r n
def dK:List (Int×D)→Int→D→List (Int×D)
  | [],n,v=> [(n,v)]
  |(a,d)::r,n,v=>match n==a with|true=>(n,v)::r|false=>(a,d)::dK r n v
def kF:List (List D×D)→List D→Option D
  | [],_=>none
  |(a,d)::r,n=>match ae n a with|true=>some d|false=>kF r n
def me:List (List D×D)→List D→D→List (List D×D)
  | [],n,v=> [(n,v)]
  |(a,d)::r,n,v=>match ae n a with|true=>(n,v)::r|false=>(a,d)::me r n v
def qS:List (Int×D)→Int→Nat
  | [],_=>0
  |(a,_)::r,n=>match n==a with|true=>0|false=>qS r n+1
def qR:List (List D×D)→List D→Nat
  | [],_=>0
  |(a,_)::r,n=>match ae n a with|true=>0|false=>qR r n+1
def xS {α:Type} :List (α×D)→Nat→D→List (α×D)
  | [],_,_=> []
  |(a,_)::r,0,v=>(a,v)::r
  |e::r,i+1,v=>e::xS r i v
def LK.same:LK→LK→Bool
  | .bool,.bool=>true
  | .int k,.int k'=>eR k k'
  | .str,.str=>true
  |_,_=>false
def kW:List LK→List LK→Bool
  | [],[]=>true
  |a::x,b::y=>a.same b&&kW x y
  |_,_=>false
structure af (P:Program) (f:FuncId) (args:List D) (s:List Ob) (d:D) (s':List Ob):Prop where
  FB:KQ P f
  len:s.length≤s'.length
  run:∀(w0:dq) (M:MM) (own:Nat→Option Nat) (w:World) (vs:Array Value),bw w0 M own (bo s) w→M.upto s.length→bS M args vs→
    Calls P f vs w fun e w'=> ∃v M' LB,e= .returned v∧bw w0 M' LB (bo s') w'∧M'.upto s'.length∧M.Le M'∧bk M' d v
def aL:List D→Option (List D)
  | []=>some []
  |d::r=>match d.cells,aL r with
    |some c,some cs=>some (c++cs)
    |_,_=>none
inductive Ev (P:Program) where
  |ret (g:FuncId) (as:List D) (d:D) (h:aF P g as d)
  |inl
  |ay (g:FuncId) (ar:List D) (s:List Ob) (d:D) (s':List Ob) (h:af P g ar s d s')
  |cQ (q v:Bool) (h:q=v)
  |len (n m:Nat) (h:n≤m)
  |get (l:List D) (i:Nat) (d:D) (h:l[i]? =some d)
  |ep (l:List D) (i n:Nat) (l':List D) (h:(l.drop i).take n=l'∧i+n≤l.length)
  |cg (l:List D) (i:Nat) (xs l':List D) (h:l.take i++(xs++l.drop (i+xs.length))=l'∧i+xs.length≤l.length)
  |flat (t:TypeId) (ks:List LK) (h:jl P t ks)
  |aD (l:List (Nat×Ob))
  |HJ (cs:List (Nat×Nat×D)) (l:List (Nat×Ob))
  |gn (es:List (Int×D)) (n:Int) (r:Option D) (h:dv es n=r)
  |JF (t:TypeId) (ks:List LK) (h:ky P t ks)
  |HG (es:List (List D×D)) (n:List D) (r:Option D) (h:kF es n=r)
  |code (c:Code) (t:List D) (s:List Ob) (ex:Ex) (t':List D) (s':List Ob) (h:kz P c t s ex t' s')
  |go (n:Nat)
  |xJ (aD:List Nat)
  |raw
  |cl (cs:List D) (h:∀c∈cs,c.clean=true)
  |zB (ys nc:List D) (h:aL ys=some nc)
  |head (sp:HS) (n0:Nat) (c:Code) (t:List D) (s:List Ob) (ex:Ex) (t':List D) (s':List Ob) (h:cO P n0 c t s ex t' s')
  |cy (sp:HS) (n0:Nat) (c:Code) (t:List D) (s:List Ob) (ex:Ex) (t':List D) (s':List Ob) (h:cO P n0 c t s ex t' s')
structure Z (P:Program) where
  o:List (Ev P)
  c:Prop
section
variable {ρ:Type} {P:Program}
def gJ (b:Bool) (k:Option ρ):Option ρ:=match b with|true=>k|false=>none
def ask (z:Z P) (b:Bool) (k:Z P→Option ρ):Option ρ:=
  match z.o with
  | .cQ q true _::r=>k ⟨r,(q=b)∧z.c⟩
  |_=>none
def lu (z:Z P) (n:Nat) (m:Nat) (k:Z P→Option ρ):Option ρ:=
  match z.o with
  | .len n' m' _::r=>k ⟨r,(n'=n∧m'=m)∧z.c⟩
  |_=>none
def branch (z:Z P) (b:Bool) (k1 k2:Z P→Option ρ):Option ρ:=
  match z.o with
  | .cQ q v _::r=>match v with
    |true=>k1 ⟨r,(q=b)∧z.c⟩
    |false=>k2 ⟨r,(q=b)∧z.c⟩
  |_=>none
def lz (z:Z P) (still:Bool) (b:Bool) (k:Z P→Option ρ):Option ρ:=
  match still with
  |true=>gJ b (k z)
  |false=>ask z b k
def pick (z:Z P) (l:List D) (i:Nat) (k:Z P→D→Option ρ):Option ρ:=
  match z.o with
  | .get l' i' d _::r=>k ⟨r,(l'=l∧i'=i)∧z.c⟩ d
  |_=>none
def AQ (z:Z P) (ys:List D) (k:Z P→List D→Option ρ):Option ρ:=
  match z.o with
  | .zB QH nc _::r=>k ⟨r,(QH=ys)∧z.c⟩ nc
  |_=>match aL ys with
    |some nc=>k z nc
    |none=>none
def Fv (z:Z P) (ys:List D) (k:Z P→List D→Option ρ):Option ρ:=
  match z.o with
  | .zB QH nc _::r=>ask ⟨r,(QH=ys)∧z.c⟩ (T6 0 ys.length) fun z=>k z nc
  |_=>match aL ys with
    |some nc=>gJ (!ys.isEmpty) (k z nc)
    |none=>none
def AG (z:Z P) (es:List (Int×D)) (n:Int) (k:Z P→Option D→Option ρ):Option ρ:=
  match z.o with
  | .gn Og n' r _::rest=>k ⟨rest,(Og=es∧n'=n)∧z.c⟩ r
  |_=>none
def uY (z:Z P) (es:List (List D×D)) (n:List D) (k:Z P→Option D→Option ρ):Option ρ:=
  match z.o with
  | .HG Og n' r _::rest=>k ⟨rest,(Og=es∧n'=n)∧z.c⟩ r
  |_=>none
def sP (z:Z P) (t:TypeId) (k:Z P→List LK→Option ρ):Option ρ:=
  match z.o with
  | .JF t' ks _::r=>gJ (Ta t' t) (k ⟨r,z.c⟩ ks)
  |_=>none
def sD:Value→Option D
  | .bool b=>some (.bool b)
  | .int k n=>some (.int k n)
  | .string s=>some (.str s)
  | .pointer none=>some .eL
  | .slice none 0 0=>some (.aj .tight 0 [])
  | .nilFunc=>some .aq
  |_=>none
def iI:List Value→Option (List D)
  | []=>some []
  |v::r=>match sD v,iI r with
    |some d,some l=>some (d::l)
    |_,_=>none
def vU:List Value→List D
  | []=> []
  |v::r=>(match sD v with|some d=>d|none=> .undef)::vU r
def cK:Value→D
  | .agg cs=> .agg (vU cs.toList)
  |v=>match sD v with|some d=>d|none=> .undef
def bR (t:List D):Operand→D
  | .tmp i=>t.getD i .undef
  | .const v=>cK v
  | .global _=> .undef
  | .func f=> .fn (.func f) [] []
def isConst:Operand→Bool
  | .const _=>true
  |_=>false
def cN:TypeDesc→Bool
  | .struct _=>true
  | .array _ _=>true
  |_=>false
def known (P:Program) (t:TypeId):Bool:=(P.info? t).isSome
def gL (P:Program) (t:TypeId):Option D:=
  match P.info? t with
  |some i=>match i.zero with|some v=>some (cK v)|none=>none
  |none=>none
def Dx (P:Program) (t:TypeId):Bool:=
  match P.info? t with
  |some i=>match i.zero with|some v=>Ta v.cells.size 1|none=>false
  |none=>false
def fg (P:Program) (t:TypeId):Bool:=
  match P.info? t with
  |some i=>match i.zero with|some v=>Ta v.cells.size i.size|none=>false
  |none=>false
def sG (P:Program) (z:Z P) (dyn:Bool) (t:TypeId) (cs:List D) (off:Nat) (k:Z P→D→Option ρ):Option ρ:=
  match P.underlying t with
  |none=>none
  |some d=>match cN d with
    |true=>gJ (known P t) (match dyn with
      |false=>gJ (TN (off+P.cellsOf t) cs.length) (k z (.agg ((cs.drop off).take (P.cellsOf t))))
      |true=>match z.o with
        | .ep l i n l' _::r=>k ⟨r,(l=cs∧i=off∧n=P.cellsOf t)∧z.c⟩ (.agg l')
        |_=>none)
    |false=>match dyn with
      |false=>match cs[off]? with|some x=>k z x|none=>none
      |true=>pick z cs off k
def hO (cs:List D) (off:Nat) (xs:List D):List D:=cs.take off++(xs++cs.drop (off+xs.length))
def uK (x:D) (k:D→Option ρ):Option ρ:=match x.plain with|true=>k x|false=>gJ x.clean (k x.aR)
def yd (x:D) (k:D→Option ρ):Option ρ:=match x with
  | .ptr _ _ off=>k (.dG false (.agg []) off)
  | .dG q y off=>k (.dG q y off)
  |x=>uK x k
def pD:List D→(List D→Option ρ)→Option ρ
  | [],k=>k []
  |x::r,k=>yd x fun y=>pD r fun l=>k (y::l)
def th (place:Nat→Option (Nat×Nat)) (cells:List D):List (Nat×D)→Option (List D)
  | []=>some cells
  |(i,v)::rest=>match place i,v.cells with
    |some (off,size),some vc=>match Ta vc.length size&&TN (off+size) cells.length with
      |true=>th place (hO cells off vc) rest
      |false=>none
    |_,_=>none
def zK (P:Program) (t:TypeId) (parts:List (Nat×D)):Option D:=
  match gL P t with
  |none=>none
  |some z=>match z.cells with
    |none=>none
    |some zero=>match P.underlying t with
      |some (.struct fields)=>match fields.toList.all fun f=>known P f.type with
        |true=>match th (fun i=>((fields[i]?).map fun f=>(f.offset,P.cellsOf f.type))) zero parts with
          |some cs=>some (.agg cs)
          |none=>none
        |false=>none
      |some (.array _ elem)=>match known P elem with
        |true=>match th (fun i=>some (i*P.cellsOf elem,P.cellsOf elem)) zero parts with
          |some cs=>some (.agg cs)
          |none=>none
        |false=>none
      |_=>none
def kR (size:Nat) (xs:List D):List (Nat×D)→(List D→Option ρ)→Option ρ
  | [],k=>k xs
  |(i,v)::rest,k=>uK v fun v'=>match v'.cells with
    |some vc=>gJ (Ta vc.length size&&T6 i xs.length&&vc.all storable) (kR size (xs.set i v') rest k)
    |none=>none
def yJ (z:Z P) (still:Bool) (op:BinOp) (k:T8) (a b:Int) (K:Z P→D→Option ρ):Option ρ:=
  match op with
  | .add=>K z (.int k (k.wrap (a+b)))
  | .sub=>K z (.int k (k.wrap (a - b)))
  | .mul=>K z (.int k (k.wrap (a*b)))
  | .quo=>lz z still (decide (b≠0)) fun z=>K z (.int k (k.wrap (a.tdiv b)))
  | .rem=>lz z still (decide (b≠0)) fun z=>K z (.int k (a.tmod b))
  | .and=>K z (.int k (k.wrap (Sy k.bits a&&&Sy k.bits b).toNat))
  | .or=>K z (.int k (k.wrap (Sy k.bits a|||Sy k.bits b).toNat))
  | .xor=>K z (.int k (k.wrap (Sy k.bits a^^^Sy k.bits b).toNat))
  | .andNot=>K z (.int k (k.wrap (Sy k.bits a&&& ~~~Sy k.bits b).toNat))
  | .eql=>K z (.bool (a==b))
  | .neq=>K z (.bool (a !=b))
  | .lss=>K z (.bool (decide (a<b)))
  | .leq=>K z (.bool (decide (a≤b)))
  | .gtr=>K z (.bool (decide (a>b)))
  | .geq=>K z (.bool (decide (a≥b)))
  |_=>none
def Kc (P:Program) (z:Z P) (t:TypeId) (x y:D) (K:Z P→Bool→Option ρ):Option ρ:=
  match x,y with
  | .bool a,.bool b=>match P.underlying t with|some .bool=>K z (a==b)|_=>none
  | .agg xs,.agg ys=>match z.o with
    | .flat t' ks _::r=>gJ (Ta t' t&&(fQ ks xs&&fQ ks ys)) (K ⟨r,z.c⟩ (ae xs ys))
    |_=>none
  | .aq,.aq=>match P.underlying t with|some (.func _ _ _)=>K z true|_=>none
  | .aq,.fn _ _ _=>match P.underlying t with|some (.func _ _ _)=>K z false|_=>none
  | .fn _ _ _,.aq=>match P.underlying t with|some (.func _ _ _)=>K z false|_=>none
  | .eL,.eL=>match P.underlying t with|some (.pointer _)=>K z true|_=>none
  | .ptr _ _ _,.eL=>match P.underlying t with|some (.pointer _)=>K z false|_=>none
  | .dG _ _ _,.eL=>match P.underlying t with|some (.pointer _)=>K z false|_=>none
  |_,_=>none
def I0 (P:Program) (z:Z P) (still:Bool) (op:BinOp) (t:TypeId) (x y:D) (K:Z P→D→Option ρ):Option ρ:=
  match x,y with
  | .int k a,.int k' b=>match op with
    | .shl=>lz z still (decide (0≤b)) fun z=>K z (.int k (k.wrap (a*2^(min b.toNat k.bits))))
    | .shr=>lz z still (decide (0≤b)) fun z=>K z (.int k (a.fdiv (2^(min b.toNat k.bits))))
    |op=>gJ (eR k k') (yJ z still op k a b K)
  | .str a,.str b=>match op with
    | .eql=>K z (.bool (a.toList==b.toList))
    | .neq=>K z (.bool (!(a.toList==b.toList)))
    |_=>none
  |x,y=>match op with
    | .eql=>Kc P z t x y fun z b=>K z (.bool b)
    | .neq=>Kc P z t x y fun z b=>K z (.bool (!b))
    |_=>none
def Kk (op:UnOp) (x:D) (K:D→Option ρ):Option ρ:=
  match op,x with
  | .neg,.int k n=>K (.int k (k.wrap (0 - n)))
  | .xor,.int k n=>K (.int k (k.wrap (Sy k.bits (if k.signed then -1 else k.max)^^^Sy k.bits n).toNat))
  | .not,.bool b=>K (.bool !b)
  |_,_=>none
def isByte:D→Bool
  | .int .u8 _=>true
  |_=>false
def xw (b:UInt8):D:= .int .u8 b.toNat
def byteOf:D→UInt8
  | .int _ n=>UInt8.ofNat n.toNat
  |_=>0
def jE (s:ByteArray):List D:=s.data.toList.map xw
def jZ (xs:List D):ByteArray:=⟨(xs.map byteOf).toArray⟩
inductive iM where
  |pure (d:D)
  |read (id:Nat) (o:Ob) (d:D)
  |gQ (id j:Nat) (d:D)
  |dW (id:Nat) (o o':Ob) (d:D)
  |new (o:Ob) (mk:Nat→D)
  |all (s:List Ob) (d:D)
def FG (P:Program) (z:Z P) (src dst:TypeId) (x:D) (K:Z P→iM→Option ρ):Option ρ:=
  match P.underlying src,P.underlying dst,x with
  |some _,some (.int k),.int _ n=>K z (.pure (.int k (k.wrap n)))
  |some .string,some .string,.str s=>K z (.pure (.str s))
  |some .string,some (.slice e),.str s=>match P.underlying e with
    |some (.int .u8)=>K z (.new (.bO 0 1) fun id=> .aj (.tok id 0) 1 (jE s))
    |_=>none
  |some (.slice e),some .string,.aj _ _ xs=>match P.underlying e with
    |some (.int .u8)=>ask z (xs.all isByte) fun z=>K z (.pure (.str (jZ xs)))
    |_=>none
  |_,_,_=>none
def idx (x:D) (K:Int→Option ρ):Option ρ:=match x with| .int _ n=>K n|_=>none
def gR (t:List D) (o:Option Operand) (K:Option Int→Option ρ):Option ρ:=
  match o with
  |none=>K none
  |some x=>idx (bR t x) fun n=>K (some n)
def xQ (z:Z P) (o:jI) (sz:Nat) (xs:List D) (lo hi mx:Option Int) (K:Z P→D→Option ρ):Option ρ:=
  match lo,hi,mx with
  |none,none,none=>K z (.aj o.aR sz xs)
  |some l,none,none=>ask z (decide (0≤l∧l≤xs.length)) fun z=>K z (.aj o.aR sz (xs.drop l.toNat))
  |none,some h,none=>ask z (decide (0≤h∧h≤xs.length)) fun z=>K z (.aj .no sz (xs.take h.toNat))
  |some l,some h,none=>ask z (decide (0≤l∧l≤h∧h≤xs.length)) fun z=>K z (.aj .no sz ((xs.take h.toNat).drop l.toNat))
  |none,some h,some m=>ask z (decide (0≤h∧h≤xs.length∧m=h)) fun z=>K z (.aj .tight sz (xs.take h.toNat))
  |some l,some h,some m=>ask z (decide (0≤l∧l≤h∧h≤xs.length∧m=h)) fun z=>K z (.aj .tight sz ((xs.take h.toNat).drop l.toNat))
  |_,_,_=>none
def DM (z:Z P) (id off sz n:Nat) (cp:Option Nat) (lo hi mx:Option Int) (K:Z P→D→Option ρ):Option ρ:=
  match lo,hi,mx with
  |none,none,none=>K z (.sub id off sz n cp)
  |some l,none,none=>ask z (decide (0≤l∧l≤n)) fun z=>K z (.sub id (off+l.toNat*sz) sz (n - l.toNat) (cp.map (· - l.toNat)))
  |none,some h,none=>ask z (decide (0≤h∧h≤n)) fun z=>K z (.sub id off sz h.toNat cp)
  |some l,some h,none=>ask z (decide (0≤l∧l≤h∧h≤n)) fun z=>K z (.sub id (off+l.toNat*sz) sz (h.toNat - l.toNat) (cp.map (· - l.toNat)))
  |none,some h,some m=>ask z (decide (0≤h∧h≤m∧m≤n)) fun z=>K z (.sub id off sz h.toNat (some m.toNat))
  |some l,some h,some m=>ask z (decide (0≤l∧l≤h∧h≤m∧m≤n)) fun z=>K z (.sub id (off+l.toNat*sz) sz (h.toNat - l.toNat) (some (m.toNat - l.toNat)))
  |_,_,_=>none
def qQ (P:Program) (z:Z P) (still:Bool) (t:TypeId) (x ix:D) (K:Z P→D→Option ρ):Option ρ:=
  match ix with
  | .int _ i=>match P.underlying t,x with
    |some (.array len elem),.ptr dyn id off=>gJ (known P elem) (lz z still (decide (0≤i∧i<len)) fun z=>K z (.ptr (dyn|| !still) id (off+i.toNat*P.cellsOf elem)))
    |some (.array len elem),.dG dyn y off=>gJ (known P elem) (lz z still (decide (0≤i∧i<len)) fun z=>K z (.dG (dyn|| !still) y (off+i.toNat*P.cellsOf elem)))
    |some (.slice elem),.aj _ sz xs=>gJ (known P elem&&Ta (P.cellsOf elem) sz) (lz z still (decide (0≤i)) fun z=>pick z xs i.toNat fun z y=>K z (.dG false y 0))
    |some (.slice elem),.cS id sz n=>gJ (known P elem&&Ta (P.cellsOf elem) sz) (ask z (decide (0≤i∧i<n)) fun z=>K z (.ptr true id (i.toNat*sz)))
    |some (.slice elem),.sub id off sz n _=>gJ (known P elem&&Ta (P.cellsOf elem) sz) (ask z (decide (0≤i∧i<n)) fun z=>K z (.ptr true id (off+i.toNat*sz)))
    |_,_=>none
  |_=>none
def Fj (P:Program) (z:Z P) (still:Bool) (t:TypeId) (x ix:D) (K:Z P→D→Option ρ):Option ρ:=
  match ix with
  | .int _ i=>match P.underlying t,x with
    |some (.array len elem),.agg cs=>gJ (known P elem) (lz z still (decide (0≤i∧i<len)) fun z=>sG P z (!still) elem cs (i.toNat*P.cellsOf elem) K)
    |some .string,.str s=>lz z still (decide (0≤i)) fun z=>pick z (jE s) i.toNat K
    |_,_=>none
  |_=>none
def HA (P:Program) (t:TypeId):Bool:=match P.underlying t with
  |some e=> !cN e
  |none=>false
def HI (P:Program) (z:Z P) (t:TypeId) (x:D) (s:List Ob) (K:Z P→iM→Option ρ):Option ρ:=
  match x with
  | .ptr dyn id off=>match s.getD id .dead with
    | .box cs=>sG P z dyn t cs off fun z d=>K z (match dyn,HA P t with
      |false,true=> .gQ id off d
      |_,_=> .read id (.box cs) d)
    |_=>none
  | .dG dyn y off=>match y.cells with
    |some cs=>sG P z dyn t cs off fun z d=>K z (.pure d)
    |none=>none
  |_=>none
def DN (P:Program) (z:Z P) (t:TypeId) (x v:D) (s:List Ob) (K:Z P→iM→Option ρ):Option ρ:=
  match x with
  | .ptr dyn id off=>match s.getD id .dead with
    | .box cs=>match v.cells with
      |some vc=>gJ (known P t&&Ta vc.length (P.cellsOf t)&&vc.all storable) (match dyn with
        |false=>gJ (TN (off+vc.length) cs.length) (K z (.dW id (.box cs) (.box (hO cs off vc)) .undef))
        |true=>match z.o with
          | .cg l i xs l' _::r=>K ⟨r,(l=cs∧i=off∧xs=vc)∧z.c⟩ (.dW id (.box cs) (.box l') .undef)
          |_=>none)
      |none=>none
    |_=>none
  |_=>none
def rz (P:Program) (s:TypeId) (x:D) (f:Nat) (K:D→Option ρ):Option ρ:=
  match P.underlying s with
  |some (.struct fields)=>match fields[f]? with
    |some fd=>gJ (known P fd.type&&T6 0 (P.cellsOf fd.type)) (match x with
      | .ptr dyn id off=>K (.ptr dyn id (off+fd.offset))
      | .dG dyn y off=>K (.dG dyn y (off+fd.offset))
      |_=>none)
    |none=>none
  |_=>none
def cA:Nat:=2147483648
def pk (sz:Nat) (xs:List D) (size:Nat):Bool:=Ta sz size||xs.isEmpty
def Ac (P:Program) (z:Z P) (elem:TypeId) (id off sz n:Nat) (st:List Ob) (K:Z P→iM→Option ρ):Option ρ:=
  match st.getD id .dead with
  | .box cs=>gJ (fg P elem&&Ta sz (P.cellsOf elem)&&TN (P.bytesOf elem) 65536)
    (lu z n cA fun z=>match z.o with
      | .go _::r=>match Ta sz 1 with
        |true=>(match r with
          | .ep l i k nc _::r=>ask ⟨r,(l=cs∧i=off∧k=n*sz)∧z.c⟩ (nc.all isByte) fun z=>K z (.all (st++ [.bO 0 sz]) (.aj (.tok st.length 0) sz nc))
          |_=>none)
        |false=>none
      |_=>ask z (T6 0 n) fun z=>match z.o with
        | .ep l i k nc _::r=>K ⟨r,(l=cs∧i=off∧k=n*sz)∧z.c⟩ (.all (st++ [.box nc]) (.cS st.length sz n))
        |_=>none)
  |_=>none
def Fh (P:Program) (z:Z P) (elem:TypeId) (id off sz n c Qo NJ Ng n2:Nat) (st:List Ob) (K:Z P→iM→Option ρ):Option ρ:=
  match st.getD id .dead with
  | .box cs=>gJ (fg P elem&&Ta id Qo&&Ta off 0&&Ta sz (P.cellsOf elem)&&Ta Ng (P.cellsOf elem)&&TN (P.bytesOf elem) 65536)
    (lu z (n+n2) cA fun z=>ask z (Ta c n) fun z=>branch z (T6 0 (n+n2)) (fun z=>match z.o with
      | .ep l i k nc _:: .ep l2 i2 k2 OM _::r=>K ⟨r,(l2=cs∧i2=NJ∧k2=n2*sz)∧((l=cs∧i=0∧k=n*sz)∧z.c)⟩ (.all (st.set id .dead++ [.box (nc++OM)]) (.cS st.length sz (n+n2)))
      |_=>none) (fun z=>K z (.pure (.aj .tight sz []))))
  |_=>none
def vN (P:Program) (z:Z P) (ts:Array TypeId) (s x:D) (st:List Ob) (K:Z P→iM→Option ρ):Option ρ:=
  match ts.toList with
  |ty::xt::_=>match P.underlying ty,P.underlying xt with
    |some (.slice elem),some (.slice _)=>match s,x with
      | .aj o sz xs,.aj _ L4 ys=>match z.o with
        | .go 0::r=>match o,xs with
          | .tight,[]=>gJ (fg P elem&&pk L4 ys (P.cellsOf elem)&&TN (P.bytesOf elem) 65536)
            (lu ⟨r,z.c⟩ ys.length cA fun z=>Fv z ys fun z nc=>K z (.new (.box nc) fun id=> .cS id (P.cellsOf elem) ys.length))
          |_,_=>none
        | .go (_+1)::r=>match ys with
          | []=>gJ (fg P elem&&pk sz xs (P.cellsOf elem)&&TN (P.bytesOf elem) 65536)
            (lu ⟨r,z.c⟩ xs.length cA fun z=>K z (.pure (.aj o sz xs)))
          |_=>none
        |_=>gJ (known P elem&&fg P elem&&pk sz xs (P.cellsOf elem)&&pk L4 ys (P.cellsOf elem)&&TN (P.bytesOf elem) 65536)
          (lu z (xs.length+ys.length) cA fun z=>match o with
            | .tight=>K z (.new (.bO 0 (P.cellsOf elem)) fun id=> .aj (.tok id 0) (P.cellsOf elem) (xs++ys))
            | .tok t v=>match st.getD t .dead with
              | .bO v' Ng=>gJ (Ta v' v&&Ta Ng (P.cellsOf elem)) (K z (.dW t (.bO v' Ng) (.bO (v+1) Ng) (.aj (.tok t (v+1)) (P.cellsOf elem) (xs++ys))))
              |_=>none
            |_=>none)
      | .cS id sz n,.aj _ L4 ys=>match st.getD id .dead with
        | .box cs => gJ (fg P elem && Ta sz (P.cellsOf elem) && pk L4 ys (P.cellsOf elem) && TN (P.bytesOf elem) 65536)
            (lu z (n+ys.length) cA fun z=>ask z (Ta cs.length (n*P.cellsOf elem)) fun z=>AQ z ys fun z nc=>K z (.all (st.set id .dead++ [.box (cs++nc)]) (.cS st.length sz (n+ys.length))))
        |_=>none
      | .aj .tight _ [],.cS id sz n=>Ac P z elem id 0 sz n st K
      | .aj .tight _ [],.sub id off sz n _=>Ac P z elem id off sz n st K
      | .sub id off sz n (some c),.sub Qo NJ Ng n2 _=>Fh P z elem id off sz n c Qo NJ Ng n2 st K
      |_,_=>none
    |_,_=>none
  |_=>none
def pN (z:Z P) (st:List Ob) (id off n size:Nat) (K:Z P→List D→Nat→Option ρ):Option ρ:=
  match st.getD id .dead with
  | .box cs=>match z.o with
    | .ep l i k nc _::r=>K ⟨r,(l=cs∧i=off∧k=n*size)∧z.c⟩ nc n
    |_=>none
  |_=>none
def HR (z:Z P) (st:List Ob) (x:D) (size:Nat) (K:Z P→List D→Nat→Option ρ):Option ρ:=
  match x with
  | .aj _ sz ys=>gJ (pk sz ys size) (AQ z ys fun z nc=>K z nc ys.length)
  | .cS id sz n=>gJ (Ta sz size) (pN z st id 0 n size K)
  | .sub id off sz n _=>gJ (Ta sz size) (pN z st id off n size K)
  |_=>none
def vB (z:Z P) (st:List Ob) (id off n:Nat) (src:D) (K:Z P→iM→Option ρ):Option ρ:=
  HR z st src 1 fun z nc m=>ask z (TN m n) fun z=>ask z (nc.all isByte) fun z=>match st.getD id .dead with
    | .box cs=>match z.o with
      | .cg l i xs l' _::r=>K ⟨r,(l=cs∧i=off∧xs=nc)∧z.c⟩ (.all (st.set id (.box l')) (.int .i64 m))
      |_=>none
    |_=>none
def FF (P:Program) (z:Z P) (ts:Array TypeId) (dst src:D) (st:List Ob) (K:Z P→iM→Option ρ):Option ρ:=
  match ts.toList with
  |ty::_=>match P.underlying ty with
    |some (.slice e)=>gJ (known P e&&Ta (P.cellsOf e) 1) (match dst with
      | .cS id sz n=>gJ (Ta sz 1) (vB z st id 0 n src K)
      | .sub id off sz n _=>gJ (Ta sz 1) (vB z st id off n src K)
      |_=>none)
    |_=>none
  |_=>none
def ID (P:Program) (t:TypeId) (x:D) (K:D→Option ρ):Option ρ:=
  match P.underlying t,x with
  |some .string,.str s=>K (.int .i64 s.size)
  |some (.array n _),_=>K (.int .i64 n)
  |some (.slice _),.aj _ _ xs=>K (.int .i64 xs.length)
  |some (.slice _),.cS _ _ n=>K (.int .i64 n)
  |some (.slice _),.sub _ _ _ n _=>K (.int .i64 n)
  |_,_=>none
def Iq (x y:D) (K:D→Option ρ):Option ρ:=
  match x,y with
  | .int k a,.int _ b=>K (.int k (if b<a then b else a))
  |_,_=>none
def Iv (x y:D) (K:D→Option ρ):Option ρ:=
  match x,y with
  | .int k a,.int _ b=>K (.int k (if b>a then b else a))
  |_,_=>none
def hY:D→Bool
  | .int _ _=>true
  | .bool _=>true
  | .str _=>true
  |_=>false
def ig (P:Program) (t:TypeId):Option (T8×TypeId):=match P.underlying t with
  |some (.map kt et)=>match P.underlying kt with
    |some (.int k)=>some (k,et)
    |_=>none
  |_=>none
def ij (P:Program) (t:TypeId):Option (TypeId×TypeId):=match P.underlying t with
  |some (.map kt et)=>some (kt,et)
  |_=>none
def pI (P:Program) (z:Z P) (t:TypeId) (K:Z P→iM→Option ρ):Option ρ:=
  match ig P t with
  |some (k,_)=>K z (.new (.mp k []) fun id=> .cB id)
  |none=>match ij P t with
    |some (kt,_)=>sP z kt fun z ks=>K z (.new (.mf ks []) fun id=> .cB id)
    |none=>none
def pH (P:Program) (z:Z P) (t:TypeId) (m k v:D) (s:List Ob) (K:Z P→iM→Option ρ):Option ρ:=
  match m,k with
  | .cB id,.int q n=>match s.getD id .dead,ig P t with
    | .mp q' es,some (q2,_)=>gJ (eR q q'&&eR q q2&&hY v) (K z (.dW id (.mp q' es) (.mp q' (dK es n v)) .undef))
    |_,_=>none
  | .cB id,.agg cs=>match s.getD id .dead,ij P t with
    | .mf ks es,some (kt,_)=>sP z kt fun z OB=>gJ (kW OB ks&&fQ ks cs&&hY v) (K z (.dW id (.mf ks es) (.mf ks (me es cs v)) .undef))
    |_,_=>none
  |_,_=>none
def u6 (P:Program) (z:Z P) (t:TypeId) (m k:D) (s:List Ob) (K:Z P→iM→Option ρ):Option ρ:=
  match m,k with
  | .cB id,.int q n=>match s.getD id .dead,ig P t with
    | .mp q' es,some (q2,et)=>match gL P et with
      |some zd=>gJ (eR q q'&&eR q q2&&hY zd) (AG z es n fun z r=>match r with
        |some d=>K z (.dW id (.mp q' es) (.mp q' es) (.aC [d,.int .i64 (qS es n)]))
        |none=>K z (.dW id (.mp q' es) (.mp q' (dK es n zd)) (.aC [zd,.int .i64 (qS es n)])))
      |none=>none
    |_,_=>none
  | .cB id,.agg cs=>match s.getD id .dead,ij P t with
    | .mf ks es,some (kt,et)=>match gL P et with
      |some zd=>sP z kt fun z OB=>gJ (kW OB ks&&fQ ks cs&&hY zd) (uY z es cs fun z r=>match r with
        |some d=>K z (.dW id (.mf ks es) (.mf ks es) (.aC [d,.int .i64 (qR es cs)]))
        |none=>K z (.dW id (.mf ks es) (.mf ks (me es cs zd)) (.aC [zd,.int .i64 (qR es cs)])))
      |none=>none
    |_,_=>none
  |_,_=>none
def oG (P:Program) (z:Z P) (m n v:D) (s:List Ob) (K:Z P→iM→Option ρ):Option ρ:=
  match m,n with
  | .cB id,.int _ j=>match s.getD id .dead with
    | .mp q es=>gJ (hY v) (ask z (decide (0≤j)&&T6 j.toNat es.length) fun z=>K z (.dW id (.mp q es) (.mp q (xS es j.toNat v)) .undef))
    | .mf ks es=>gJ (hY v) (ask z (decide (0≤j)&&T6 j.toNat es.length) fun z=>K z (.dW id (.mf ks es) (.mf ks (xS es j.toNat v)) .undef))
    |_=>none
  |_,_=>none
def wW (P:Program) (z:Z P) (t:TypeId) (m k:D) (ok:Bool) (s:List Ob) (K:Z P→iM→Option ρ):Option ρ:=
  match m,k with
  | .cB id,.int q n=>match s.getD id .dead,ig P t with
    | .mp q' es,some (q2,et)=>match gL P et with
      |some zd=>gJ (eR q q'&&eR q q2) (AG z es n fun z r=>match r,ok with
        |some d,true=>K z (.read id (.mp q' es) (.aC [d,.bool true]))
        |some d,false=>K z (.read id (.mp q' es) d)
        |none,true=>K z (.read id (.mp q' es) (.aC [zd,.bool false]))
        |none,false=>K z (.read id (.mp q' es) zd))
      |none=>none
    |_,_=>none
  | .cB id,.agg cs=>match s.getD id .dead,ij P t with
    | .mf ks es,some (kt,et)=>match gL P et with
      |some zd=>sP z kt fun z OB=>gJ (kW OB ks&&fQ ks cs) (uY z es cs fun z r=>match r,ok with
        |some d,true=>K z (.read id (.mf ks es) (.aC [d,.bool true]))
        |some d,false=>K z (.read id (.mf ks es) d)
        |none,true=>K z (.read id (.mf ks es) (.aC [zd,.bool false]))
        |none,false=>K z (.read id (.mf ks es) zd))
      |none=>none
    |_,_=>none
  |_,_=>none
def wA (n:Nat):List D→List D
  | [d]=>Sx n d
  |zc=>(Sx n zc).flatten
def HH (P:Program) (z:Z P) (t:TypeId) (l c:D) (K:Z P→iM→Option ρ):Option ρ:=
  match P.underlying t,l,c with
  |some (.slice e),.int _ n,.int _ m=>match gL P e with
    |some zd=>match zd.cells with
      |some zc=>match z.o with
        | .go 5::r=>gJ (known P e&&Ta zc.length (P.cellsOf e)&&T6 0 zc.length&&TN (P.bytesOf e) 65536&&zc.all storable)
          (ask ⟨r,z.c⟩ (decide (0≤n∧n=m∧n≤2147483648)) fun z=>K z (.pure (.aj .tight (P.cellsOf e) (Sx n.toNat zd))))
        |_=>gJ (known P e&&Ta zc.length (P.cellsOf e)&&T6 0 zc.length&&TN (P.bytesOf e) 65536)
          (ask z (decide (0≤n∧n=m∧n≤2147483648)) fun z=>K z (.new (.box (wA n.toNat zc)) fun id=> .cS id (P.cellsOf e) n.toNat))
      |none=>none
    |none=>none
  |_,_,_=>none
def g7 (id:Nat):List D→Option (List D×Nat)
  | []=>none
  | .aj (.fresh sz) L4 xs::r=>some (.aj (.tok id 0) L4 xs::r.map D.aR,sz)
  |d::r=>match g7 id r with
    |some (l,sz)=>some (d::l,sz)
    |none=>none
def lB (id:Nat) (d:D):D×Ob:=
  match d with
  | .aj (.fresh sz) L4 xs=>(.aj (.tok id 0) L4 xs,.bO 0 sz)
  | .aC ds=>match g7 id ds with
    |some (l,sz)=>(.aC l,.bO 0 sz)
    |none=>(.aC ds,.dead)
  |d=>(d,.dead)
mutual
def force:D→(D→Option ρ)→Option ρ
  | .undef,K=>K .undef
  | .int k n,K=>K (.int k n)
  | .bool b,K=>K (.bool b)
  | .str s,K=>K (.str s)
  | .eL,K=>K .eL
  | .ptr dyn id off,K=>K (.ptr dyn id off)
  | .dG dyn x off,K=>K (.dG dyn x off)
  | .cB id,K=>K (.cB id)
  | .hE id,K=>K (.hE id)
  | .cS id sz n,K=>K (.cS id sz n)
  | .sub id off sz n cp,K=>K (.sub id off sz n cp)
  | .aj o sz xs,K=>K (.aj o sz xs)
  | .aq,K=>K .aq
  | .fn f a b,K=>gX a fun a'=>gX b fun b'=>K (.fn f a' b')
  | .agg cs,K=>gX cs fun l=>K (.agg l)
  | .aC cs,K=>gX cs fun l=>K (.aC l)
def gX:List D→(List D→Option ρ)→Option ρ
  | [],K=>K []
  |d::r,K=>force d fun d'=>gX r fun l=>K (d'::l)
end
def Br:List D→Nat→D→(List D→Option ρ)→Option ρ
  | [],_,_,K=>K []
  |_::r,0,d,K=>K (d::r)
  |a::r,i+1,d,K=>Br r i d fun l=>K (a::l)
def put (t:List D) (dst:Option Nat) (d:D):List D:=match dst with|some i=>t.set i d|none=>t
def mh (t:List D) (dst:Option Nat) (d:D) (K:List D→Option ρ):Option ρ:=match dst with
  |some i=>force d fun d'=>Br t i d' K
  |none=>K t
def jo:List Ob→Nat→Ob→(List Ob→Option ρ)→Option ρ
  | [],_,_,K=>K []
  |_::r,0,d,K=>K (d::r)
  |a::r,i+1,d,K=>jo r i d fun l=>K (a::l)
def pK:List (List D×D)→(List (List D×D)→Option ρ)→Option ρ
  | [],K=>K []
  |e::r,K=>gX e.1 fun n=>force e.2 fun d=>pK r fun l=>K ((n,d)::l)
def vh:Ob→(Ob→Option ρ)→Option ρ
  | .dead,K=>K .dead
  | .box cs,K=>gX cs fun l=>K (.box l)
  | .bO v sz,K=>K (.bO v sz)
  | .mp k es,K=>K (.mp k es)
  | .mf ks es,K=>pK es fun l=>K (.mf ks l)
  | .lp k t ps ag bd,K=>gX t fun l=>K (.lp k l ps ag bd)
def ov (z:Z P) (o:Ob) (k:Z P→Ob→Option ρ):Option ρ:=match z.o with
  | .raw::r=>k ⟨r,z.c⟩ o
  |_=>vh o fun o2=>k z o2
def mB:List Ob→Ob→(List Ob→Option ρ)→Option ρ
  | [],o,K=>K [o]
  |a::r,o,K=>mB r o fun l=>K (a::l)
inductive Tg where
  |fn (f:FuncId)
  |yl (id:Nat)
abbrev A3 (P:Program) (ρ:Type):=Tg→List D→List Ob→Z P→(D→List Ob→Z P→Option ρ)→Option ρ
def IQ (z:Z P) (d:D) (s:List Ob) (K:Z P→iM→Option ρ):Option ρ:=
  match z.o with
  | .go 777777::r=>match d with
    | .cS id sz n=>match s.getD id .dead with
      | .box cs=>gJ (Ta sz 1) (ask ⟨r,z.c⟩ (Ta cs.length n&&cs.all isByte) fun z=>K z (.all (s.set id .dead) (.aj .no 1 cs)))
      |_=>none
    |_=>none
  |_=>K z (.all s d)
def AY (P:Program) (inl:A3 P ρ) (g:FuncId) (args:List D) (s:List Ob) (z:Z P) (K:Z P→iM→Option ρ):Option ρ:=
  match z.o with
  | .inl::r=>inl (.fn g) args s ⟨r,z.c⟩ fun d s' z=>IQ z d s' K
  | .ay g' ar s1 d PS _::r=>gJ (Ta g' g) (K ⟨r,(ar=args∧s1=s)∧z.c⟩ (.all PS d))
  | .ret g' as d _::r=>gJ (Ta g' g) (pD args fun as'=>K ⟨r,(as=as')∧z.c⟩ (.new (lB 0 d).2 fun id=>(lB id d).1))
  |_=>none
def Je (P:Program) (inl:A3 P ρ) (id:Nat) (args:List D) (s:List Ob) (z:Z P) (K:Z P→iM→Option ρ):Option ρ:=
  match z.o with
  | .inl::r=>inl (.yl id) args s ⟨r,z.c⟩ fun d s' z=>K z (.all s' d)
  |_=>none
def Ka (P:Program) (inl:A3 P ρ) (o:Oper) (t:List D) (s:List Ob) (z:Z P) (K:Z P→iM→Option ρ):Option ρ:=
  match o.op with
  | .move x=>K z (.pure (bR t x))
  | .assign x=>K z (.pure (bR t x))
  | .pick c a b=>match bR t c with
    | .bool q=>branch z q (fun z=>K z (.pure (bR t a))) (fun z=>K z (.pure (bR t b)))
    |_=>none
  | .box _ x=>match (bR t x).cells with
    |some cs=>K z (.new (.box cs) fun id=> .ptr false id 0)
    |none=>none
  | .alloc e=>match gL P e with
    |some d=>match d.cells with
      |some cs=>K z (.new (.box cs) fun id=> .ptr false id 0)
      |none=>match Dx P e with
        |true=>K z (.new (.box [.undef]) fun id=> .ptr false id 0)
        |false=>none
    |none=>none
  | .build ty parts=>match zK P ty (parts.toList.map fun p=>(p.1,bR t p.2)) with
    |some d=>K z (.pure d)
    |none=>none
  | .buildSlice ty len parts=>match P.underlying ty with
    |some (.slice e)=>match gL P e with
      |some d=>match d.cells with
        | some zc => gJ (known P e && Ta zc.length (P.cellsOf e) && TN (len * P.cellsOf e) 16777216 && d.plain && zc.all storable)
            (kR (P.cellsOf e) (Sx len d) (parts.toList.map fun p=>(p.1,bR t p.2)) fun xs=>K z (.pure (.aj .tight (P.cellsOf e) xs)))
        |none=>none
      |none=>none
    |_=>none
  | .load ty a=>HI P z ty (bR t a) s K
  | .store ty a x=>DN P z ty (bR t a) (bR t x) s K
  | .nilCheck x=>match bR t x with
    | .ptr dyn id off=>K z (.pure (.ptr dyn id off))
    | .dG dyn y off=>K z (.pure (.dG dyn y off))
    | .fn (.func g) a b=>K z (.pure (.fn (.func g) a b))
    |_=>none
  | .binOp op ty x y _=>I0 P z (isConst y) op ty (bR t x) (bR t y) fun z d=>K z (.pure d)
  | .unOp op _ x=>Kk op (bR t x) fun d=>K z (.pure d)
  | .convert src dst x=>FG P z src dst (bR t x) K
  | .makeFunc f first cap=>K z (.pure (.fn f (first.toList.map (bR t)) (cap.toList.map (bR t))))
  | .slice ty x lo hi mx=>match P.underlying ty,bR t x with
    |some (.slice e),.aj o' sz xs=>gJ (known P e&&Ta (P.cellsOf e) sz) (gR t lo fun l=>gR t hi fun h=>gR t mx fun m=>xQ z o' sz xs l h m fun z d=>K z (.pure d))
    |some (.slice e),.cS id sz n=>gJ (known P e&&Ta (P.cellsOf e) sz) (gR t lo fun l=>gR t hi fun h=>gR t mx fun m=>DM z id 0 sz n none l h m fun z d=>K z (.pure d))
    |some (.slice e),.sub id off sz n cp=>gJ (known P e&&Ta (P.cellsOf e) sz) (gR t lo fun l=>gR t hi fun h=>gR t mx fun m=>DM z id off sz n cp l h m fun z d=>K z (.pure d))
    |some (.array n e),.ptr _ id off=>gJ (known P e) (gR t lo fun l=>gR t hi fun h=>gR t mx fun m=>DM z id off (P.cellsOf e) n (some n) l h m fun z d=>K z (.pure d))
    |_,_=>none
  | .fieldAddr ty x f=>rz P ty (bR t x) f fun d=>K z (.pure d)
  | .field ty x f=>match P.underlying ty,bR t x with
    |some (.struct fields),.agg cs=>match fields[f]? with
      |some fd=>sG P z false fd.type cs fd.offset fun z d=>K z (.pure d)
      |none=>none
    |_,_=>none
  | .indexAddr ty x ix=>qQ P z (isConst ix) ty (bR t x) (bR t ix) fun z d=>K z (.pure d)
  | .index ty x ix=>Fj P z (isConst ix) ty (bR t x) (bR t ix) fun z d=>K z (.pure d)
  | .extract x i=>match bR t x with
    | .aC ds=>match ds[i]? with
      |some d=>K z (.pure d)
      |none=>none
    |_=>none
  | .call c=>match c.callee with
    | .builtin .len=>match c.args.toList,c.argTypes.toList with
      |x::_,ty::_=>ID P ty (bR t x) fun d=>K z (.pure d)
      |_,_=>none
    | .builtin .append=>match c.args.toList with
      |x::y::_=>vN P z c.argTypes (bR t x) (bR t y) s K
      |_=>none
    | .builtin .min=>match c.args.toList with
      | [x,y]=>Iq (bR t x) (bR t y) fun d=>K z (.pure d)
      |_=>none
    | .builtin .max=>match c.args.toList with
      | [x,y]=>Iv (bR t x) (bR t y) fun d=>K z (.pure d)
      |_=>none
    | .builtin .copy=>match c.args.toList with
      |x::y::_=>FF P z c.argTypes (bR t x) (bR t y) s K
      |_=>none
    | .value f=>match bR t f with
      | .fn (.func g) first cap=>AY P inl g (first++(c.args.toList.map (bR t)++cap)) s z K
      | .hE id=>Je P inl id (c.args.toList.map (bR t)) s z K
      |_=>none
    |_=>none
  | .makeMap ty r=>match r with
    |none=>pI P z ty K
    |some x=>idx (bR t x) fun _=>pI P z ty K
  | .insert ty m k v=>pH P z ty (bR t m) (bR t k) (bR t v) s K
  | .mapUpdate ty m k v=>pH P z ty (bR t m) (bR t k) (bR t v) s K
  | .lookup ty m k ok=>wW P z ty (bR t m) (bR t k) ok s K
  | .mapEntry ty m k=>u6 P z ty (bR t m) (bR t k) s K
  | .entryStore _ m n v=>oG P z (bR t m) (bR t n) (bR t v) s K
  | .makeSlice ty l c=>HH P z ty (bR t l) (bR t c) K
  |_=>none
def jf (ops:Array Oper) (t:List D) (j:Nat):D:=match ops[j]? with
  |some o=>match o.dst with|some i=>t.getD i .undef|none=> .undef
  |none=> .undef
def iE (i:Nat):List Nat→Bool
  | []=>false
  |a::r=>match Ta a i with|true=>true|false=>iE i r
inductive FP where
  |Ip
  |rd (id:Nat)
  |se (id j:Nat)
  |wr (id:Nat)
  |nw (id:Nat)
  |all (l:List Nat) (kc:List (Nat×Nat))
def AN (s s':List Ob):List (Nat×Ob)→Prop→Prop
  | [],c=>c
  |(i,o)::r,c=>AN s s' r ((o=s.getD i .dead∧o=s'.getD i .dead)∧c)
def lV:List (Nat×Ob)→List Nat
  | []=> []
  |(i,_)::r=>i::lV r
def fC:Ob→Nat→Option D
  | .box cs,j=>cs[j]?
  |_,_=>none
def FJ (s s':List Ob):List (Nat×Nat×D)→Prop→Prop
  | [],c=>c
  |(i,j,d)::r,c=>FJ s s' r ((some d=fC (s.getD i .dead) j∧some d=fC (s'.getD i .dead) j)∧c)
def nF:List (Nat×Nat×D)→List (Nat×Nat)
  | []=> []
  |(i,j,_)::r=>(i,j)::nF r
def yB (i j:Nat):List (Nat×Nat)→Bool
  | []=>false
  |(a,b)::r=>match Ta a i,Ta b j with|true,true=>true|_,_=>yB i j r
def qN (n:Nat):List (Nat×Ob)→Bool
  | []=>true
  |(i,_)::r=>match T6 i n with|true=>qN n r|false=>false
def AL (z:Z P) (s s':List Ob) (k:Z P→List Nat→List (Nat×Nat)→Option ρ):Option ρ:=
  match z.o with
  | .aD l::r=>gJ (qN s.length l) (k ⟨r,AN s s' l z.c⟩ (lV l) [])
  | .HJ cs l::r=>gJ (qN s.length l) (k ⟨r,FJ s s' cs (AN s s' l z.c)⟩ (lV l) (nF cs))
  |_=>k z [] []
def k8 (P:Program) (inl:A3 P ρ) (ops:Array Oper):List Oper→List D→List Ob→List FP→Z P→(List D→List Ob→List FP→Z P→Option ρ)→Option ρ
  | [],t,s,NA,z,K=>K t s NA z
  |o::rest,t,s,NA,z,K=>
    let run:=fun z=>Ka P inl o t s z fun z e=>match e with
      | .pure d=>mh t o.dst d fun t'=>k8 P inl ops rest t' s (.Ip::NA) z K
      | .read id _ d=>mh t o.dst d fun t'=>k8 P inl ops rest t' s (.rd id::NA) z K
      | .gQ id j d=>mh t o.dst d fun t'=>k8 P inl ops rest t' s (.se id j::NA) z K
      | .dW id _ o' d=>mh t o.dst d fun t'=>ov z o' fun z o2=>jo s id o2 fun s'=>k8 P inl ops rest t' s' (.wr id::NA) z K
      | .new o' mk=>mh t o.dst (mk s.length) fun t'=>ov z o' fun z o2=>mB s o2 fun s'=>k8 P inl ops rest t' s' (.nw s.length::NA) z K
      | .all s' d=>mh t o.dst d fun t'=>AL z s s' fun z l kc=>k8 P inl ops rest t' s' (.all l kc::NA) z K
    match o.guard with
    |none=>run z
    |some (j,want)=>match jf ops t j with
      | .bool b=>branch z (b==want) run (fun z=>mh t o.dst (.aC []) fun t'=>k8 P inl ops rest t' s (.Ip::NA) z K)
      | .aC []=>mh t o.dst (.aC []) fun t'=>k8 P inl ops rest t' s (.Ip::NA) z K
      |_=>none
def gA:List Oper→List Nat→List Nat
  | [],acc=>acc
  |o::rest,acc=>gA rest (acc++ [o.after.toList.foldl (fun m e=>match Region.binds .any e with|true=>m|||(1<<<e.on)|||acc.getD e.on 0|false=>m) 0])
def gg:FP→FP→Bool
  | .Ip,_=>false
  |_,.Ip=>false
  | .all l _,.rd i=> !iE i l
  | .rd i,.all l _=> !iE i l
  | .all l kc,.se i j=> !iE i l&& !yB i j kc
  | .se i j,.all l kc=> !iE i l&& !yB i j kc
  | .all _ _,_=>true
  |_,.all _ _=>true
  | .rd _,.rd _=>false
  | .rd _,.se _ _=>false
  | .se _ _,.rd _=>false
  | .se _ _,.se _ _=>false
  | .se i _,.wr j=>Ta i j
  | .se i _,.nw j=>Ta i j
  | .wr i,.se j _=>Ta i j
  | .nw i,.se j _=>Ta i j
  | .rd i,.wr j=>Ta i j
  | .rd i,.nw j=>Ta i j
  | .wr i,.rd j=>Ta i j
  | .wr i,.wr j=>Ta i j
  | .wr i,.nw j=>Ta i j
  | .nw i,.rd j=>Ta i j
  | .nw i,.wr j=>Ta i j
  | .nw i,.nw j=>Ta i j
def DD (xs:List Operand):List Nat:=xs.filterMap fun x=>match x with| .tmp i=>some i|_=>none
def qL (ops:Array Oper) (o:Oper):List Nat:=
  DD o.op.operands.toList++(match o.guard with
    |some (j,_)=>match ops[j]? with
      |some q=>q.dst.toList
      |none=> []
    |none=> [])
def share (ops:Array Oper) (x y:Oper):Bool:=
  (match x.dst with|some d=>(qL ops y).contains d||y.dst==some d|none=>false)||(match y.dst with|some d=>(qL ops x).contains d|none=>false)
def mL (ops:Array Oper) (NA:List FP):Bool:=
  let l:=ops.toList
  let ah:=gA l []
  let f:=NA.reverse
  (Ta f.length l.length)&&
  (SI l.length).all fun j=>
    (match l[j]? with
     |some o=>o.after.all fun e=> !Region.binds .any e||T6 e.on j
     |none=>false)&&
    (SI j).all fun i=>(ah.getD j 0).testBit i||
      (match l[i]?,l[j]? with
       |some x,some y=> !share ops x y
       |_,_=>false)&& !gg (f.getD i (.all [] [])) (f.getD j (.all [] []))
mutual
def mH (n:Nat):D→Bool
  | .ptr _ id _=>T6 id n
  | .cB id=>T6 id n
  | .hE id=>T6 id n
  | .cS id _ _=>T6 id n
  | .sub id _ _ _ _=>T6 id n
  | .aj (.tok id _) _ _=>T6 id n
  | .fn _ a b=>kG n a&&kG n b
  | .agg cs=>kG n cs
  | .aC cs=>kG n cs
  |_=>true
def kG (n:Nat):List D→Bool
  | []=>true
  |d::r=>mH n d&&kG n r
end
def dk:Nat:=1000000
def hI (t:List D) (s:List Ob) (k:Nat):D:=match TN dk k with
  |false=>t.getD k .undef
  |true=>match s.getD ((k - dk) / 1000) .dead with
    | .box cs=>cs.getD ((k - dk)%1000) .undef
    |_=> .undef
def qW (s:List Ob) (size id:Nat) (d:D):Option (D×Option Nat×Ob):=
  match d with
  | .aj .tight sz xs=>match pk sz xs size with
    |true=>some (.aj (.tok id 0) size xs,none,.bO 0 size)
    |false=>none
  | .aj (.tok i v) sz xs=>match s.getD i .dead with
    | .bO v' Ng=>match Ta v' v&&(Ta Ng size&&pk sz xs size) with
      |true=>some (.aj (.tok id 0) size xs,some i,.bO 0 size)
      |false=>none
    |_=>none
  | .cS i sz n=>match s.getD i .dead with
    | .box cs=>match Ta sz size with
      |true=>some (.cS id sz n,some i,.box (cs.map D.aR))
      |false=>none
    |_=>none
  |_=>none
def w7 (t:List D) (s:List Ob):List (Nat×Nat)→Nat→Option (List (Option Nat)×List Ob)
  | [],_=>some ([],[])
  |(k,size)::r,id=>match qW s size id (hI t s k),w7 t s r (id+1) with
    |some (_,o,ob),some (l,Im)=>some (o::l,ob::Im)
    |_,_=>none
def findF (i:Nat):List (Nat×Nat)→Nat→Option (Nat×Nat)
  | [],_=>none
  |(k,size)::r,id=>match Ta k i with|true=>some (id,size)|false=>findF i r (id+1)
def Fw (i:Nat) (fs:List (Nat×Nat)) (n0:Nat):Option (Nat×Nat):=match TN dk i with|true=>none|false=>findF i fs n0
def AV (i j:Nat) (fs:List (Nat×Nat)) (n0:Nat):Option (Nat×Nat):=match T6 j 1000 with|true=>findF (dk+i*1000+j) fs n0|false=>none
def DQ (sp:HS) (n0:Nat) (s:List Ob) (i:Nat) (d:D):Option D:=
  match Fw i sp.mj n0 with
  |some (id,size)=>match qW s size id d with|some (d',_)=>some d'|none=>none
  |none=>match iE i sp.aD with
    |true=>match mH n0 d with|true=>some d|false=>none
    |false=>match iE (dk+i) sp.aD with
      |true=>match d with| .agg cs=>some (.agg (cs.map D.aR))|_=>none
      |false=>some .undef
def qi (sp:HS) (n0:Nat) (s:List Ob):Nat→List D→Option (List D)
  |_,[]=>some []
  |i,d::r=>match DQ sp n0 s i d,qi sp n0 s (i+1) r with
    |some d',some l=>some (d'::l)
    |_,_=>none
def sm (i:Nat):List (Option Nat)→Bool
  | []=>false
  |none::r=>sm i r
  |some a::r=>match Ta a i with|true=>true|false=>sm i r
def tp:List (Option Nat)→Bool
  | []=>true
  |none::r=>tp r
  |some a::r=> !sm a r&&tp r
def oJ (sp:HS) (n0:Nat) (s:List Ob) (i:Nat):Nat→List D→Option (List D)
  |_,[]=>some []
  | j, d :: r => match (match AV i j sp.mj n0 with
      |some (id,size)=>(match qW s size id d with|some (d',_)=>some d'|none=>none)
      |none=>(match mH n0 d with|true=>some d|false=>none)),oJ sp n0 s i (j+1) r with
    |some d',some l=>some (d'::l)
    |_,_=>none
def Kb (sp:HS) (n0:Nat) (s:List Ob) (used:List (Option Nat)) (i:Nat) (o:Ob):Option Ob:=
  match iE (dk+i) sp.Im&& !sm i used with
  |true=>match o with
    | .box cs=>some (.box (cs.map D.aR))
    |_=>none
  |false=>match iE i sp.Im&& !sm i used with
    |false=>some .dead
    |true=>match o with
      | .box cs=>match oJ sp n0 s i 0 cs with|some My=>some (.box My)|none=>none
      | .lp k t ps ag bd=>match kG n0 t with|true=>some (.lp k t ps ag bd)|false=>none
      |o=>some o
def Cm (sp:HS) (n0:Nat) (s0:List Ob) (used:List (Option Nat)) (new:List Ob):Nat→Nat→List Ob→Option (List Ob)
  |0,_,_=>some new
  |_+1,_,[]=>none
  |n+1,i,o::r=>match Kb sp n0 s0 used i o,Cm sp n0 s0 used new n (i+1) r with
    |some o',some l=>some (o'::l)
    |_,_=>none
def nr (sp:HS) (n0:Nat) (t:List D) (s:List Ob):Option (List D×List Ob):=
  match w7 t s sp.mj n0 with
  |some (used,new)=>match tp used with
    |true=>match qi sp n0 s 0 t,Cm sp n0 s used new n0 0 s with
      |some t',some s'=>some (t',s')
      |_,_=>none
    |false=>none
  |none=>none
def AZ (s:List Ob) (i:Nat):List (List D):=match s.getD i .dead with| .box cs=> [cs]|_=> []
def ot (s:List Ob):List Nat→List (List D)
  | []=> []
  |o::r=>match TN dk o with
    |true=>AZ s (o - dk)++ot s r
    |false=>ot s r
def vg (t:List D) (s:List Ob):List (Nat×Nat)→List (List D)
  | []=> []
  |(k,_)::r=>(match hI t s k with| .cS i _ _=>AZ s i|_=> [])++vg t s r
def vf (t:List D):List Nat→List (List D)
  | []=> []
  |o::r=>(match TN dk o with
    |true=>match t.getD (o - dk) .undef with| .agg cs=> [cs]|_=> []
    |false=> [])++vf t r
def ve (sp:HS) (t:List D) (s:List Ob):List (List D):=ot s sp.Im++(vg t s sp.mj++vf t sp.aD)
def Dh:List (List D)→Z P→(Z P→Option ρ)→Option ρ
  | [],z,k=>k z
  |cs::r,z,k=>match z.o with
    | .cl My _::o=>Dh r ⟨o,(My=cs)∧z.c⟩ k
    |_=>none
def iter (body:List D→List Ob→Z P→(Ex→List D→List Ob→Z P→Option ρ)→Option ρ):Nat→List D→List Ob→Z P→(Ex→List D→List Ob→Z P→Option ρ)→Option ρ
  |0,_,_,_,_=>none
  |n+1,t,s,z,K=>body t s z fun ex t' s' z=>match ex with
    | .norm=>iter body n t' s' z K
    |e=>K e t' s' z
def jx (aD:List Nat):Nat→List D→List D
  |_,[]=> []
  |i,d::r=>(match iE i aD with|true=>d|false=> .undef)::jx aD (i+1) r
def kQ:List D→List (Nat×D)→List D
  |t,[]=>t
  |t,(i,d)::r=>kQ (t.set i d) r
def e8 (P:Program) (inl:A3 P ρ) (rd:Bool):Code→List D→List Ob→Z P→(Ex→List D→List Ob→Z P→Option ρ)→Option ρ
  | .skip,t,s,z,K=>K .norm t s z
  | .label _,t,s,z,K=>K .norm t s z
  | .region _ ops draw,t,s,z,K=>k8 P inl ops ops.toList t s [] z fun t' s' NA z=>match draw with
    |false=>K .norm t' s' z
    |true=>gJ (mL ops NA) (K .norm t' s' z)
  | .seq a b,t,s,z,K=>e8 P inl rd a t s z fun ex t' s' z=>match ex with
    | .norm=>e8 P inl rd b t' s' z K
    |e=>K e t' s' z
  | .cond c a b,t,s,z,K=>match bR t c with
    | .bool q=>branch z q (fun z=>e8 P inl rd a t s z K) (fun z=>e8 P inl rd b t s z K)
    |_=>none
  | .block id a,t,s,z,K=>match z.o with
    | .cy sp n0 c' t1 s1 ex t2 s2 _::r=>match nr sp n0 t s with
      |some (t',s')=>gJ (Ta n0 s.length) (Dh (ve sp t s) ⟨r,(c'= .block id a∧t1=t'∧s1=s')∧z.c⟩ fun z=>K ex t2 s2 z)
      |none=>none
    |_=>e8 P inl rd a t s z fun ex t' s' z=>match ex with
      | .exit i=>match Ta i id with|true=>K .norm t' s' z|false=>K (.exit i) t' s' z
      |e=>K e t' s' z
  | .scope a,t,s,z,K=>e8 P inl rd a t s z K
  | .exit id,t,s,z,K=>K (.exit id) t s z
  | .ret,t,s,z,K=>K .ret t s z
  | .loop x,t,s,z,K=>match z.o with
    | .go n::r=>iter (e8 P inl rd x) n t s ⟨r,z.c⟩ K
    | .head sp n0 c' t1 s1 ex t2 s2 _::r=>match nr sp n0 t s with
      |some (t',s')=>gJ (Ta n0 s.length) (Dh (ve sp t s) ⟨r,(c'= .loop x∧t1=t'∧s1=s')∧z.c⟩ fun z=>K ex t2 s2 z)
      |none=>none
    | .code c' t1 s1 ex t2 s2 _::r=>K ex t2 s2 ⟨r,(c'= .loop x∧t1=t∧s1=s)∧z.c⟩
    |_=>none
  | .rangeFunc g ps ag bd,t,s,z,K=>match z.o with
    | .xJ aD::r=>match rd,bR t g with
      |false,.fn (.func gf) first cap=>gX (jx aD 0 t) fun t1=>mB s (.lp .ready t1 ps ag bd) fun s1=>
        inl (.fn gf) (first++(.hE s.length::cap)) s1 ⟨r,z.c⟩ fun _ s2 z=>match s2.getD s.length .dead with
          | .lp .ready _ _ _ _=>jo s2 s.length .dead fun s3=>K .norm t s3 z
          | .lp .ret _ _ _ _=>jo s2 s.length .dead fun s3=>K .ret t s3 z
          | .lp (.exit i) _ _ _ _=>jo s2 s.length .dead fun s3=>K (.exit i) t s3 z
          |_=>none
      |_,_=>none
    | .code c' t1 s1 ex t2 s2 _::r=>K ex t2 s2 ⟨r,(c'= .rangeFunc g ps ag bd∧t1=t∧s1=s)∧z.c⟩
    |_=>none
  |c,t,s,z,K=>match z.o with
    | .code c' t1 s1 ex t2 s2 _::r=>K ex t2 s2 ⟨r,(c'=c∧t1=t∧s1=s)∧z.c⟩
    |_=>none
def uE (P:Program) (t:List D) (s:List Ob):ResultVar→Option D
  | .tmp i=>some (t.getD i .undef)
  | .cell a ty=>match t.getD a .undef with
    | .ptr _ id off=>match s.getD id .dead with
      | .box cs=>match P.underlying ty with
        |some d=>match cN d with
          |true=>match known P ty&&TN (off+P.cellsOf ty) cs.length with
            |true=>some (.agg ((cs.drop off).take (P.cellsOf ty)))
            |false=>none
          |false=>cs[off]?
        |none=>none
      |_=>none
    |_=>none
def x9 (P:Program) (t:List D) (s:List Ob):List ResultVar→Option (List D)
  | []=>some []
  |r::rs=>match uE P t s r,x9 P t s rs with
    |some d,some l=>some (d::l)
    |_,_=>none
def ya:List D→D
  | [d]=>d
  |l=> .aC l
def tB (P:Program) (inl:A3 P ρ) (fn:Func) (args:List D) (s:List Ob) (z:Z P) (K:D→List Ob→Z P→Option ρ):Option ρ:=
  match fn.body with
  |some c=>gJ (TN args.length fn.ntmps) (gX (args++Sx (fn.ntmps - args.length) .undef) fun t0=>e8 P inl false c t0 s z fun ex t' s' z=>match ex with
    | .exit _=>none
    |_=>match x9 P t' s' fn.results.toList with
      |some l=>K (ya l) s' z
      |none=>none)
  |none=>none
def xZ (P:Program) (inl:A3 P ρ) (id:Nat) (args:List D) (s:List Ob) (z:Z P) (K:D→List Ob→Z P→Option ρ):Option ρ:=
  match s.getD id .dead with
  | .lp .ready t ps ag bd=>gJ (Ta args.length ps.size) (gX (kQ t (ps.toList.zip args)) fun t1=>e8 P inl true ag t1 s z fun ex t2 s2 z=>match ex with
    | .norm=>match s2.getD id .dead with
      | .lp .ready t' Q9 Ri Ra=>jo s2 id (.lp .busy t' Q9 Ri Ra) fun s3=>e8 P inl true bd t2 s3 z fun ex _ s4 z=>match s4.getD id .dead with
        | .lp .busy t5 Ph O4 O8=>match ex with
          | .norm=>jo s4 id (.lp .ready t5 Ph O4 O8) fun s5=>K (.bool true) s5 z
          | .ret=>jo s4 id (.lp .ret t5 Ph O4 O8) fun s5=>K (.bool false) s5 z
          | .exit i=>jo s4 id (.lp (.exit i) t5 Ph O4 O8) fun s5=>K (.bool false) s5 z
        |_=>none
      |_=>none
    |_=>none)
  |_=>none
def qP (P:Program):Nat→A3 P ρ
  |0=>fun _ _ _ _ _=>none
  |n+1=>fun g args s z K=>match g with
    | .fn f=>match P.funcs[f]? with
      |some fn=>gJ (!(fn.name== "runtime.NumGoroutine")) (tB P (qP P n) fn args s z K)
      |none=>none
    | .yl id=>xZ P (qP P n) id args s z K
def jr (s:List Ob):D→D
  | .aj (.tok id v) sz xs=>match s.getD id .dead with
    | .bO v' Ng=>match Ta v v'&&Ta sz Ng with|true=> .aj (.fresh sz) sz xs|false=> .aj .no sz xs
    |_=> .aj .no sz xs
  |d=>d.aR
def Cf (s:List Ob):D→D
  | .aC ds=> .aC (ds.map (jr s))
  |d=>jr s d
end
def AM:List (Nat×Ob)→Prop→Prop
  | [],c=>c
  |(_,o)::r,c=>AM r ((o=o∧o=o)∧c)
theorem mG:∀(l:List (Nat×Ob)) {c:Prop},c→AM l c
 | [],_,h=>h
 |(_,o)::r,_,h=>mG r ⟨⟨rfl,rfl⟩,h⟩
def FI:List (Nat×Nat×D)→Prop→Prop
  | [],c=>c
  |(_,_,d)::r,c=>FI r ((some d=some d∧some d=some d)∧c)
theorem rM:∀(l:List (Nat×Nat×D)) {c:Prop},c→FI l c
 | [],_,h=>h
 |(_,_,d)::r,_,h=>rM r ⟨⟨rfl,rfl⟩,h⟩
def Ev.self {P:Program} :Ev P→Prop→Prop
  | .ret _ as _ _,c=>(as=as)∧c
  | .inl,c=>c
  | .ay _ ar s _ _ _,c=>(ar=ar∧s=s)∧c
  | .cQ q _ _,c=>(q=q)∧c
  | .len n m _,c=>(n=n∧m=m)∧c
  | .get l i _ _,c=>(l=l∧i=i)∧c
  | .ep l i n _ _,c=>(l=l∧i=i∧n=n)∧c
  | .cg l i xs _ _,c=>(l=l∧i=i∧xs=xs)∧c
  | .flat _ _ _,c=>c
  | .gn es n _ _,c=>(es=es∧n=n)∧c
  | .JF _ _ _,c=>c
  | .HG es n _ _,c=>(es=es∧n=n)∧c
  | .aD l,c=>AM l c
  | .HJ cs l,c=>FI cs (AM l c)
  | .code c' t s _ _ _ _,c=>(c'=c'∧t=t∧s=s)∧c
  | .go _,c=>c
  | .xJ _,c=>c
  | .raw,c=>c
  | .cl cs _,c=>(cs=cs)∧c
  | .zB ys _ _,c=>(ys=ys)∧c
  | .head _ _ c' t s _ _ _ _,c=>(c'=c'∧t=t∧s=s)∧c
  | .cy _ _ c' t s _ _ _ _,c=>(c'=c'∧t=t∧s=s)∧c
def qn {P:Program} :List (Ev P)→Prop→Prop
  | [],c=>c
  |e::r,c=>qn r (e.self c)
theorem j4 {P:Program} (l:List (Ev P)):∀ {c:Prop},c→qn l c:=by
 induction l with
 |nil=>exact fun h=>h
 |cons e r ih=>
  intro c h
  refine ih ?_
  cases e<;>simp only [Ev.self,true_and,and_self]<;>first|exact h|exact mG _ h|exact rM _ (mG _ h)
def vv (P:Program) (fn:Func) (args:List D) (o:List (Ev P)):Option (D×Prop):=
  tB P (qP P 20) fn args [] ⟨o,True⟩ fun d s z=>gJ d.clean (match z.o with| []=>some (Cf s d,z.c)|_=>none)
def tk (P:Program) (c:Code) (sp:HS) (n0:Nat) (t:List D) (s:List Ob) (o:List (Ev P)):Option ((Ex×List D×List Ob)×Prop):=
  e8 P (qP P 20) true c t s ⟨o,True⟩ fun ex t' s' z=>match nr sp n0 t' s' with
    |some (t2,s2)=>Dh (ve sp t' s') z fun z=>match z.o with
      | []=>some ((ex,t2,s2),z.c)
      |_=>none
    |none=>none
def evalCode (P:Program) (c:Code) (t:List D) (s:List Ob) (o:List (Ev P)):Option ((Ex×List D×List Ob)×Prop):=
  e8 P (qP P 20) true c t s ⟨o,True⟩ fun ex t' s' z=>match z.o with| []=>some ((ex,t',s'),z.c)|_=>none
end Go.Ev
