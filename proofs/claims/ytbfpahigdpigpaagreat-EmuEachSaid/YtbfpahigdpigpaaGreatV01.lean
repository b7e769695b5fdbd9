import Derived.Calls
import Derived.Orders
import Derived.Below
import Derived.Laws.World
import Derived.Laws.Sem
import Derived.RangeFuncRecord
import Derived.Laws.StructEq
import Derived.OrdersIn
import Derived.ControlIn
open BitVec renaming ofInt→Zw
open List renaming replicate→Zx,range→ZL,getElem?_map→ZU,mem_of_getElem? →Z1,all_eq_true→aab
open Bool renaming and_eq_true→ZD
open Option.some renaming inj→ZE,injEq→ZK
open Nat renaming le_refl→ZP,lt_or_ge→ZY,beq→aaa,ble→aaP
open Option renaming map_eq_some_iff→ZS
open Go.World renaming cell? →aaI,block_lt_of_cell? →aaK
open Go renaming IntKind→aaY
/- Contracts and plain laws that a statement's proof leans on (texts merged:EvC). -/
namespace Go.Ev
theorem cJ:type_of% @decide_eq_false_iff_not:= @decide_eq_false_iff_not
theorem bX:type_of% @decide_eq_true_eq:= @decide_eq_true_eq
theorem bM:type_of% @decide_eq_false:= @decide_eq_false
theorem cq:type_of% @decide_eq_true:= @decide_eq_true
theorem gp:type_of%(@beq_eq_false_iff_ne.{0}):=(@beq_eq_false_iff_ne.{0})
theorem cF:type_of%(@beq_iff_eq.{0}):=(@beq_iff_eq.{0})
theorem lO:type_of%(@bne_iff_ne.{0}):=(@bne_iff_ne.{0})
theorem ee:type_of% @true_and:= @true_and
theorem eJ:type_of% @and_true:= @and_true
end Go.Ev
set_option linter.unusedVariables false
set_option linter.unusedSimpArgs false
namespace Go.Ev
open Go Go.RowKit
inductive lP where
  |no
  |tight
  |tok (t ver:Nat)
  |fresh (sz:Nat)
inductive D where
  |undef
  |int (k:aaY) (n:Int)
  |bool (b:Bool)
  |str (s:ByteArray)
  |gA
  |ptr (dyn:Bool) (id off:Nat)
  |eY (dyn:Bool) (x:D) (off:Nat)
  |gw (id:Nat)
  |jM (id:Nat)
  |dz (id sz n:Nat)
  |sub (id off sz n:Nat) (cap:Option Nat)
  |bc (o:lP) (sz:Nat) (xs:List D)
  |cg
  |fn (f:Fn) (first cap:List D)
  |agg (cs:List D)
  |aL (vs:List D)
def D.cells:D→Option (List D)
  | .agg cs=>some cs
  | .undef=>none
  | .aL _=>none
  |d=>some [d]
def storable:D→Bool
  | .undef=>false
  | .agg _=>false
  | .aL _=>false
  |_=>true
structure MM where
  cell:Nat→Nat→Option Value
  box:Nat→Option Nat
  b9:Nat→Nat→Option Value
  fW:Nat→Prop
def MM.bare (M:MM):MM:=⟨M.cell,fun _=>none,fun _ _=>none,fun _=>False⟩
def gk (C:Nat→Nat→Option Value):MM:=⟨C,fun _=>none,fun _ _=>none,fun _=>False⟩
def MM.pX (M:MM):lP→Option Addr→Nat→Nat→Prop
  | .no,_,_,_=>True
  | .fresh _,_,_,_=>True
  | .tight,_,len,cap=>cap=len
  | .tok t v,a,len,cap=>M.b9 t v=some (.slice a len cap)
inductive cj:MM→D→Value→Prop
  |undef {M:MM} (v:Value):cj M .undef v
  |int {M:MM} (k:aaY) (n:Int):cj M (.int k n) (.int k n)
  |bool {M:MM} (b:Bool):cj M (.bool b) (.bool b)
  |str {M:MM} (s:ByteArray):cj M (.str s) (.string s)
  |gA {M:MM} :cj M .gA (.pointer none)
  |ptr {M:MM} (dyn:Bool) {id off b:Nat} (h:M.box id=some b):cj M (.ptr dyn id off) (.pointer (some ⟨b,off,none⟩))
  | eY {M : MM} (dyn : Bool) {x : D} {cs : List D} {off b base : Nat} (vs : Nat → Value) (hx : x.cells = some cs)
      (hc:∀(j:Nat) (c:D),cs[j]? =some c→M.cell b (base+j)=some (vs j)) (hr:∀(j:Nat) (c:D),cs[j]? =some c→cj M.bare c (vs j)):
      cj M (.eY dyn x off) (.pointer (some ⟨b,base+off,none⟩))
  |gw {M:MM} {id b:Nat} (h:M.box id=some b):cj M (.gw id) (.map (some b))
  |jM {M:MM} {id b:Nat} (h:M.box id=some b):cj M (.jM id) (.func (.yield b) #[] #[])
  |dz {M:MM} {id sz n b cap:Nat} (h:M.box id=some b) (hh:M.b9 id sz=some (.slice (some ⟨b,0,none⟩) n cap)) (hc:n≤cap):cj M (.dz id sz n) (.slice (some ⟨b,0,none⟩) n cap)
  |sub {M:MM} {id off sz n b o2 c:Nat} {cp:Option Nat} (h:M.box id=some b) (hc:n≤c) (hp:∀k,cp=some k→c=k) (ho:n≠0→o2=off):cj M (.sub id off sz n cp) (.slice (some ⟨b,o2,none⟩) n c)
  | bc {M : MM} {o : lP} {sz : Nat} {xs : List D} {a : Option Addr} {len cap : Nat} (b off : Nat) (vs : Nat → Nat → Value)
      (hl:xs.length=len) (Tm:len≤cap) (ha:xs≠ []→a=some ⟨b,off,none⟩)
      (Tw:∀(i:Nat) (x:D),xs[i]? =some x→∃cs:List D,x.cells=some cs∧cs.length=sz)
      (hc:∀(i:Nat) (x:D) (cs:List D) (j:Nat) (c:D),xs[i]? =some x→x.cells=some cs→cs[j]? =some c→M.cell b (off+i*sz+j)=some (vs i j))
      (hr:∀(i:Nat) (x:D) (cs:List D) (j:Nat) (c:D),xs[i]? =some x→x.cells=some cs→cs[j]? =some c→cj M.bare c (vs i j))
      (Ty:∀(i:Nat) (x:D) (cs:List D) (c:D),xs[i]? =some x→x.cells=some cs→c∈cs→storable c=true)
      (ho:M.pX o a len cap):cj M (.bc o sz xs) (.slice a len cap)
  |cg {M:MM} :cj M .cg .nilFunc
  | fn {M : MM} {f : Fn} {first cap : List D} {fv cv : Array Value} (h1 : first.length = fv.size) (h2 : cap.length = cv.size)
      (r1:∀(i:Nat) (d:D) (v:Value),first[i]? =some d→fv[i]? =some v→cj M d v) (r2:∀(i:Nat) (d:D) (v:Value),cap[i]? =some d→cv[i]? =some v→cj M d v):
      cj M (.fn f first cap) (.func f fv cv)
  | agg {M : MM} {cs : List D} {vs : Array Value} (h : cs.length = vs.size) (r : ∀ (i : Nat) (d : D) (v : Value), cs[i]? = some d → vs[i]? = some v → cj M d v) :
      cj M (.agg cs) (.agg vs)
  | aL {M : MM} {cs : List D} {vs : Array Value} (h : cs.length = vs.size) (r : ∀ (i : Nat) (d : D) (v : Value), cs[i]? = some d → vs[i]? = some v → cj M d v) :
      cj M (.aL cs) (.tuple vs)
structure MM.Le (M M':MM):Prop where
  cell:∀b o v,M.cell b o=some v→M'.cell b o=some v
  box:∀id b,M.box id=some b→M'.box id=some b
  b9:∀t v x,M.b9 t v=some x→M'.b9 t v=some x
  fW:∀b,M.fW b→M'.fW b
theorem MM.Le.refl (M:MM):M.Le M:=⟨fun _ _ _ h=>h,fun _ _ h=>h,fun _ _ _ h=>h,fun _ h=>h⟩
theorem MM.Le.trans {A B C:MM} (h:A.Le B) (k:B.Le C):A.Le C:=
 ⟨fun b o v x=>k.cell b o v (h.cell b o v x),fun i b x=>k.box i b (h.box i b x),fun t v x y=>k.b9 t v x (h.b9 t v x y),fun b x=>k.fW b (h.fW b x)⟩
theorem MM.Le.bare {A B:MM} (h:A.Le B):A.bare.Le B.bare:=⟨h.cell,fun _ _ x=>x,fun _ _ _ x=>x,fun _ x=>x⟩
theorem MM.GW {M M':MM} (h:M.Le M'):∀ {o:lP} {a:Option Addr} {l c:Nat},M.pX o a l c→M'.pX o a l c
 | .no,_,_,_,x=>x
 | .fresh _,_,_,_,x=>x
 | .tight,_,_,_,x=>x
 | .tok _ _,_,_,_,x=>h.b9 _ _ _ x
theorem cj.mono {M:MM} {d:D} {v:Value} (h:cj M d v):∀ {M':MM},M.Le M'→cj M' d v:=by
 induction h with
 |undef v=>exact fun _=> .undef v
 |int k n=>exact fun _=> .int k n
 |bool b=>exact fun _=> .bool b
 |str s=>exact fun _=> .str s
 |gA=>exact fun _=> .gA
 |ptr q h=>exact fun le=> .ptr q (le.box _ _ h)
 |eY q vs hx hc hr ih=>exact fun le=> .eY q vs hx (fun j c h=>le.cell _ _ _ (hc j c h)) (fun j c h=>ih j c h le.bare)
 |gw h=>exact fun le=> .gw (le.box _ _ h)
 |jM h=>exact fun le=> .jM (le.box _ _ h)
 |dz h hh hc=>exact fun le=> .dz (le.box _ _ h) (le.b9 _ _ _ hh) hc
 |sub h hc hp ho=>exact fun le=> .sub (le.box _ _ h) hc hp ho
 |bc b off vs hl Tm ha Tw hc hr Ty ho ih=>
  exact fun le=> .bc b off vs hl Tm ha Tw (fun i x cs j c h1 h2 h3=>le.cell _ _ _ (hc i x cs j c h1 h2 h3)) (fun i x cs j c h1 h2 h3=>ih i x cs j c h1 h2 h3 le.bare) Ty (MM.GW le ho)
 |cg=>exact fun _=> .cg
 |fn h1 h2 r1 r2 i1 i2=>exact fun le=> .fn h1 h2 (fun i d v a b=>i1 i d v a b le) (fun i d v a b=>i2 i d v a b le)
 |agg h r ih=>exact fun le=> .agg h (fun i d v a b=>ih i d v a b le)
 |aL h r ih=>exact fun le=> .aL h (fun i d v a b=>ih i d v a b le)
def lP.bn:lP→lP
  | .tight=> .tight
  |_=> .no
mutual
def D.bn:D→D
  | .bc o sz xs=> .bc o.bn sz xs
  | .agg cs=> .agg (D.jq cs)
  | .aL cs=> .aL (D.jq cs)
  | .fn f a b=> .fn f (D.jq a) (D.jq b)
  |d=>d
def D.jq:List D→List D
  | []=> []
  |d::r=>d.bn::D.jq r
end
mutual
def D.clean:D→Bool
  | .undef=>false
  | .ptr _ _ _=>false
  | .eY _ _ _=>false
  | .gw _=>false
  | .jM _=>false
  | .dz _ _ _=>false
  | .sub _ _ _ _ _=>false
  | .agg cs=>D.lb cs
  | .aL cs=>D.lb cs
  | .fn _ a b=>D.lb a&&D.lb b
  |_=>true
def D.lb:List D→Bool
  | []=>true
  |d::r=>d.clean&&D.lb r
end
theorem D.gO (l:List D):D.jq l=l.map D.bn:=by
 induction l with
 |nil=>simp [D.jq]
 |cons d r ih=>simp [D.jq,ih]
theorem D.kg (l:List D):D.lb l=l.all D.clean:=by
 induction l with
 |nil=>simp [D.lb]
 |cons d r ih=>simp [D.lb,ih]
theorem cj.pQ {M:MM} {d:D} {v:Value} (h:cj M d v):d.clean=true→cj M.bare d.bn v:=by
 induction h with
 |undef v=>intro c;simp [D.clean] at c
 |int k n=>intro _;exact .int k n
 |bool b=>intro _;exact .bool b
 |str s=>intro _;exact .str s
 |gA=>intro _;exact .gA
 |ptr q h=>intro c;simp [D.clean] at c
 |eY q vs hx hc hr ih=>intro c;simp [D.clean] at c
 |gw h=>intro c;simp [D.clean] at c
 |jM h=>intro c;simp [D.clean] at c
 |dz h hh hc=>intro c;simp [D.clean] at c
 |sub h hc hp ho=>intro c;simp [D.clean] at c
 |bc b off vs hl Tm ha Tw hc hr Ty ho ih=>
  rename_i o _ _ _ _ _
  intro _
  rw [D.bn]
  refine .bc b off vs hl Tm ha Tw hc hr Ty ?_
  cases o<;>first|trivial|exact ho
 |cg=>intro _;exact .cg
 |fn h1 h2 r1 r2 i1 i2=>
  intro c
  rw [D.clean,D.kg,D.kg,ZD,aab,aab] at c
  rw [D.bn,D.gO,D.gO]
  refine .fn (by simpa using h1) (by simpa using h2) ?_ ?_
  ·intro i d v a b
   rw [ZU,ZS] at a
   obtain ⟨d0,h0,rfl⟩:=a
   exact i1 i d0 v h0 b (c.1 _ (Z1 h0))
  ·intro i d v a b
   rw [ZU,ZS] at a
   obtain ⟨d0,h0,rfl⟩:=a
   exact i2 i d0 v h0 b (c.2 _ (Z1 h0))
 |agg h r ih=>
  intro c
  rw [D.clean,D.kg,aab] at c
  rw [D.bn,D.gO]
  refine .agg (by simpa using h) ?_
  intro i d v a b
  rw [ZU,ZS] at a
  obtain ⟨d0,h0,rfl⟩:=a
  exact ih i d0 v h0 b (c _ (Z1 h0))
 |aL h r ih=>
  intro c
  rw [D.clean,D.kg,aab] at c
  rw [D.bn,D.gO]
  refine .aL (by simpa using h) ?_
  intro i d v a b
  rw [ZU,ZS] at a
  obtain ⟨d0,h0,rfl⟩:=a
  exact ih i d0 v h0 b (c _ (Z1 h0))
theorem cj.Qu {M:MM} {d:D} {v:Value} (h:cj M d v):∀ {f:Nat→Prop},cj { M with fW:=f } d v:=by
 induction h with
 |undef v=>exact fun {f} => .undef v
 |int k n=>exact fun {f} => .int k n
 |bool b=>exact fun {f} => .bool b
 |str s=>exact fun {f} => .str s
 |gA=>exact fun {f} => .gA
 |ptr q h=>exact fun {f} => .ptr q h
 |eY q vs hx hc hr ih=>exact fun {f} => .eY q vs hx hc hr
 |gw h=>exact fun {f} => .gw h
 |jM h=>exact fun {f} => .jM h
 |dz h hh hc=>exact fun {f} => .dz h hh hc
 |sub h hc hp ho=>exact fun {f} => .sub h hc hp ho
 |bc b off vs hl Tm ha Tw hc hr Ty ho ih=>
  rename_i o _ _ _ _ _
  refine fun {f} => .bc b off vs hl Tm ha Tw hc hr Ty ?_
  cases o<;>first|trivial|exact ho
 |cg=>exact fun {f} => .cg
 |fn h1 h2 r1 r2 i1 i2=>exact fun {f} => .fn h1 h2 (fun i d v a b=>i1 i d v a b) (fun i d v a b=>i2 i d v a b)
 |agg h r ih=>exact fun {f} => .agg h (fun i d v a b=>ih i d v a b)
 |aL h r ih=>exact fun {f} => .aL h (fun i d v a b=>ih i d v a b)
theorem MM.mj (M:MM):M.bare.Le M:=⟨fun _ _ _ h=>h,fun _ _ h=>by simp [MM.bare] at h,fun _ _ _ h=>by simp [MM.bare] at h,fun _ h=>h.elim⟩
def lP.low:lP→Bool
  | .no=>true
  | .tight=>true
  |_=>false
mutual
def D.plain:D→Bool
  | .undef=>false
  | .ptr _ _ _=>false
  | .eY _ _ _=>false
  | .gw _=>false
  | .jM _=>false
  | .dz _ _ _=>false
  | .sub _ _ _ _ _=>false
  | .bc o _ _=>o.low
  | .agg cs=>D.kr cs
  | .aL cs=>D.kr cs
  | .fn _ a b=>D.kr a&&D.kr b
  |_=>true
def D.kr:List D→Bool
  | []=>true
  |d::r=>d.plain&&D.kr r
end
theorem D.nA (l:List D):D.kr l=l.all D.plain:=by
 induction l with
 |nil=>simp [D.kr]
 |cons d r ih=>simp [D.kr,ih]
theorem cj.MW {M:MM} {d:D} {v:Value} (h:cj M d v):d.plain=true→cj M.bare d v:=by
 induction h with
 |undef v=>intro c;simp [D.plain] at c
 |int k n=>intro _;exact .int k n
 |bool b=>intro _;exact .bool b
 |str s=>intro _;exact .str s
 |gA=>intro _;exact .gA
 |ptr q h=>intro c;simp [D.plain] at c
 |eY q vs hx hc hr ih=>intro c;simp [D.plain] at c
 |gw h=>intro c;simp [D.plain] at c
 |jM h=>intro c;simp [D.plain] at c
 |dz h hh hc=>intro c;simp [D.plain] at c
 |sub h hc hp ho=>intro c;simp [D.plain] at c
 |bc b off vs hl Tm ha Tw hc hr Ty ho ih=>
  rename_i o _ _ _ _ _
  intro c
  refine .bc b off vs hl Tm ha Tw hc hr Ty ?_
  rw [D.plain] at c
  cases o<;>first|exact ho|(simp [lP.low] at c)
 |cg=>intro _;exact .cg
 |fn h1 h2 r1 r2 i1 i2=>
  intro c
  rw [D.plain,D.nA,D.nA,ZD,aab,aab] at c
  exact .fn h1 h2 (fun i d v a b=>i1 i d v a b (c.1 _ (Z1 a))) (fun i d v a b=>i2 i d v a b (c.2 _ (Z1 a)))
 |agg h r ih=>
  intro c
  rw [D.plain,D.nA,aab] at c
  exact .agg h (fun i d v a b=>ih i d v a b (c _ (Z1 a)))
 |aL h r ih=>
  intro c
  rw [D.plain,D.nA,aab] at c
  exact .aL h (fun i d v a b=>ih i d v a b (c _ (Z1 a)))
mutual
theorem pG:∀ {d:D},d.clean=true→d.bn.plain=true
  | .undef,h=>by simp [D.clean] at h
  | .int _ _,_=>by simp [D.bn,D.plain]
  | .bool _,_=>by simp [D.bn,D.plain]
  | .str _,_=>by simp [D.bn,D.plain]
  | .gA,_=>by simp [D.bn,D.plain]
  | .ptr _ _ _,h=>by simp [D.clean] at h
  | .eY _ _ _,h=>by simp [D.clean] at h
  | .gw _,h=>by simp [D.clean] at h
  | .jM _,h=>by simp [D.clean] at h
  | .dz _ _ _,h=>by simp [D.clean] at h
  | .sub _ _ _ _ _,h=>by simp [D.clean] at h
  | .bc o _ _,_=>by cases o<;>simp [D.bn,D.plain,lP.bn,lP.low]
  | .cg,_=>by simp [D.bn,D.plain]
  | .fn _ a b,h=>by
    simp only [D.clean,ZD] at h
    simp only [D.bn,D.plain,ZD]
    exact ⟨iQ h.1,iQ h.2⟩
  | .agg cs,h=>by simp only [D.clean] at h;simp only [D.bn,D.plain];exact iQ h
  | .aL cs,h=>by simp only [D.clean] at h;simp only [D.bn,D.plain];exact iQ h
theorem iQ:∀ {l:List D},D.lb l=true→D.kr (D.jq l)=true
  | [],_=>by simp [D.jq,D.kr]
  |d::r,h=>by
    simp only [D.lb,ZD] at h
    simp only [D.jq,D.kr,ZD]
    exact ⟨pG h.1,iQ h.2⟩
end
theorem cj.flag {M:MM} {o:lP} {sz:Nat} {xs:List D} {a:Option Addr} {len cap:Nat} (h:cj M (.bc o sz xs) (.slice a len cap)) (o':lP) (ho:M.pX o' a len cap):cj M (.bc o' sz xs) (.slice a len cap):=by
 cases h with
 |bc b off vs hl Tm ha Tw hc hr Ty _=>exact .bc b off vs hl Tm ha Tw hc hr Ty ho
theorem cj.resize {M:MM} {o:lP} {sz size:Nat} {xs:List D} {v:Value} (h:cj M (.bc o sz xs) v) (hs:sz=size∨xs= []):cj M (.bc o size xs) v:=by
 rcases hs with rfl|rfl
 ·exact h
 ·cases h with
  |bc b off vs hl Tm ha Tw hc hr Ty ho=>exact .bc b off vs hl Tm ha (fun i x hx=>by simp at hx) (fun i x cs j c hx=>by simp at hx) (fun i x cs j c hx=>by simp at hx) Ty ho
def cA (M:MM) (cs:List D) (vs:Array Value):Prop:=cs.length=vs.size∧∀(i:Nat) (d:D) (v:Value),cs[i]? =some d→vs[i]? =some v→cj M d v
theorem cA.mono {M M':MM} {cs:List D} {vs:Array Value} (h:cA M cs vs) (le:M.Le M'):cA M' cs vs:=⟨h.1,fun i d v a b=>(h.2 i d v a b).mono le⟩
theorem cj.cells {M:MM} {x:D} {v:Value} (h:cj M x v) {cs:List D} (hx:x.cells=some cs):cA M cs v.cells:=by
 have one:∀ {d:D} {u:Value},cj M d u→u.cells= #[u]→cA M [d] u.cells:=by
  intro d u r e
  rw [e]
  refine ⟨rfl,fun i d' v' a b=> ?_⟩
  cases i with
  |zero=>simp at a b;subst a b;exact r
  |succ i=>simp at a
 cases h with
 |undef v=>cases hx
 |int k n=>cases hx;exact one (.int _ _) rfl
 |bool b=>cases hx;exact one (.bool _) rfl
 |str t=>cases hx;exact one (.str _) rfl
 |gA=>cases hx;exact one .gA rfl
 |ptr q hb=>cases hx;exact one (.ptr q hb) rfl
 |eY q vs hy hc hr=>cases hx;exact one (.eY q vs hy hc hr) rfl
 |gw h=>cases hx;exact one (.gw h) rfl
 |jM h=>cases hx;exact one (.jM h) rfl
 |dz h hh hc=>cases hx;exact one (.dz h hh hc) rfl
 |sub h hc hp ho=>cases hx;exact one (.sub h hc hp ho) rfl
 |bc b off vs hl Tm ha Tw hc hr Ty ho=>cases hx;exact one (.bc b off vs hl Tm ha Tw hc hr Ty ho) rfl
 |cg=>cases hx;exact one .cg rfl
 |fn h1 h2 r1 r2=>cases hx;exact one (.fn h1 h2 r1 r2) rfl
 |agg hl hr=>cases hx;exact ⟨hl,hr⟩
 |aL hl hr=>cases hx
inductive LK where
  |bool
  |int (k:aaY)
  |str
def LK.tk:LK→Value→Prop
  | .bool,.bool _=>True
  | .int k,.int k' _=>k=k'
  | .str,.string _=>True
  |_,_=>False
def eM:List LK→List Value→Prop
  | [],[]=>True
  |k::ks,d::ds=>k.tk d∧eM ks ds
  |_,_=>False
inductive Lk where
  |ready
  |busy
  |ret
  |exit (i:Nat)
def Lk.state:Lk→LoopState
  | .ready=> .ready
  | .busy=> .busy
  |_=> .done
def Lk.MH:Lk→Option Code
  | .ret=>some .ret
  | .exit i=>some (.exit i)
  |_=>none
inductive Ob where
  |dead
  |box (cs:List D)
  |ey (ver sz:Nat)
  |mp (k:aaY) (es:List (Int×D))
  |mf (ks:List LK) (es:List (List D×D))
  |lp (k:Lk) (t:List D) (ps:Array Nat) (ag bd:Code)
def oT:D→Option Value
  | .int k n=>some (.int k n)
  | .bool b=>some (.bool b)
  | .str s=>some (.string s)
  |_=>none
def tp (k:aaY):List (Int×D)→List MapEntry→Prop
  | [],[]=>True
  |(n,d)::r,e::s=>e.key= .int k n∧oT d=some e.val∧tp k r s
  |_,_=>False
def Jv:List D→Option (List Value)
  | []=>some []
  |d::r=>match oT d,Jv r with
    |some v,some l=>some (v::l)
    |_,_=>none
def Oa (ks:List LK):List (List D×D)→List MapEntry→Prop
  | [],[]=>True
  |(n,d)::r,e::s=>(∃vs:Array Value,e.key= .agg vs∧Jv n=some vs.toList∧eM ks vs.toList)∧oT d=some e.val∧Oa ks r s
  |_,_=>False
def ot (l:List MapEntry) (c:Nat):Prop:=c=l.length∧∀(i:Nat) (e:MapEntry),l[i]? =some e→e.born=i
def Ob.CN:Ob→Option (List MapEntry→Nat→Prop)
  | .mp k es=>some fun l c=>tp k es l∧ot l c
  | .mf ks es=>some fun l c=>Oa ks es l∧ot l c
  |_=>none
def gQ (σ:Nat→Ob) (id:Nat) (o:Ob):Nat→Ob:=fun i=>if i=id then o else σ i
theorem bG (σ:Nat→Ob) (id:Nat) (o:Ob):gQ σ id o id=o:=by simp [gQ]
theorem bC {σ:Nat→Ob} {id i:Nat} {o:Ob} (h:i≠id):gQ σ id o i=σ i:=by simp [gQ,h]
def mJ (fz:Nat×Nat) (n:Nat):Prop:= ∀o,o<n→¬(fz.1≤o∧o<fz.2)
structure eW where
  w:World
  C:Nat→Nat→Option Value
  X:Nat→Prop
structure Kept (X:Nat→Prop) (w w':World):Prop where
  os:w'.os=w.os
  tape:w'.tape=w.tape
  output:w'.output=w.output
  size:w.heap.size≤w'.heap.size
  block:∀k,X k→w'.heap[k]? =w.heap[k]?
  lt:∀k,X k→k<w.heap.size
theorem Kept.PS {X:Nat→Prop} {w w':World} (h:Kept X w w') {k:Nat} (hk:X k):k<w'.heap.size:=Nat.lt_of_lt_of_le (h.lt k hk) h.size
theorem Kept.new {X:Nat→Prop} {w w':World} (h:Kept X w w'):¬X w'.heap.size:=fun k=>Nat.lt_irrefl _ (h.PS k)
theorem Kept.ext {X:Nat→Prop} {a w w':World} (h:Kept X a w) (k:Below w.heap.size w w'):Kept X a w':=
 ⟨k.os.trans h.os,k.tape.trans h.tape,k.output.trans h.output,Nat.le_trans h.size k.size,fun i hi=>(k.block i (h.PS hi)).trans (h.block i hi),h.lt⟩
theorem Kept.drew {X:Nat→Prop} {a w:World} (h:Kept X a w):Kept X a w.drew:=⟨h.os,h.tape,h.output,h.size,h.block,h.lt⟩
theorem Kept.alloc {X:Nat→Prop} {a w:World} (h:Kept X a w) (o:Obj):Kept X a (w.alloc o):=h.ext ((Below.refl _ _).alloc (ZP _) o)
theorem Kept.of (w:World):Kept (fun k=>k<w.heap.size) w w:=⟨rfl,rfl,rfl,ZP _,fun _ _=>rfl,fun _ h=>h⟩
theorem Kept.below {w w':World} (h:Kept (fun k=>k<w.heap.size) w w'):Below w.heap.size w w':=⟨h.os,h.tape,h.output,h.size,h.block⟩
structure tY (w0:eW) (M:MM) (own:Nat→Option Nat) (id:Nat) (cs:List D) (w:World) (b:Nat) (vs:Array Value) (ty:TypeId):Prop where
  box:M.box id=some b
  base:¬w0.X b
  own:own b=some id
  none:∀o,M.cell b o=none
  dQ:w.heap[b]? =some (.cells vs ty (0,0))
  len:cs.length≤vs.size
  rep:∀(i:Nat) (d:D) (v:Value),cs[i]? =some d→vs[i]? =some v→cj M d v
  room:∀sz a len cap,M.b9 id sz=some (.slice a len cap)→cap*sz≤vs.size
structure Oh (w0:eW) (M:MM) (own:Nat→Option Nat) (id:Nat) (F:List MapEntry→Nat→Prop) (w:World) (b:Nat) (Tt:Array MapEntry) (clock:Nat):Prop where
  box:M.box id=some b
  base:¬w0.X b
  own:own b=some id
  none:∀o,M.cell b o=none
  dQ:w.heap[b]? =some (.map Tt clock)
  fits:F Tt.toList clock
structure LY (w0:eW) (M:MM) (own:Nat→Option Nat) (id:Nat) (k:Lk) (t:List D) (ps:Array Nat) (ag bd:Code) (w:World) (l:Nat) (r:Loop):Prop where
  box:M.box id=some l
  base:¬w0.X l
  own:own l=some id
  dQ:w.heap[l]? =some (.loop r)
  st:r.state=k.state
  pd:k≠ .busy→r.pending=k.MH
  tm:cA M t r.tmps
  ps:r.params=ps
  ag:r.assign=ag
  bd:r.body=bd
structure tX (w0:eW) (M:MM) (own:Nat→Option Nat) (id sz:Nat) (w:World) (len cap b:Nat) (vs:Array Value) (ty:TypeId) (fz:Nat×Nat):Prop where
  base:¬w0.X b
  own:own b=some id
  dQ:w.heap[b]? =some (.cells vs ty fz)
  fz:mJ fz vs.size
  cap:cap*sz≤vs.size∧cap≤9223372036854775807
  none:∀o,len*sz≤o→M.cell b o=none
structure QV (w0:eW) (M:MM) (own:Nat→Option Nat) (id ver sz:Nat) (w:World) (a:Option Addr) (len cap:Nat):Prop where
  b9:M.b9 id ver=some (.slice a len cap)
  last:∀v,ver<v→M.b9 id v=none
  room:cap=len∨∃b vs ty fz,a=some ⟨b,0,none⟩∧tX w0 M own id sz w len cap b vs ty fz
structure cn (w0:eW) (M:MM) (own:Nat→Option Nat) (σ:Nat→Ob) (w:World):Prop where
  below:Kept w0.X w0.w w
  cells:∀b o v,M.cell b o=some v→w.cell? ⟨b,o,none⟩=some v
  mI:∀b o v,M.cell b o=some v→w0.X b→w0.C b o=some v
  owned:∀b id,own b=some id→b<w.heap.size
  box:∀id cs,σ id= .box cs→∃b vs ty,tY w0 M own id cs w b vs ty
  ey:∀id ver sz,σ id= .ey ver sz→∃a len cap,QV w0 M own id ver sz w a len cap
  mp:∀id F,(σ id).CN=some F→∃b Tt clock,Oh w0 M own id F w b Tt clock
  lp:∀id k t ps ag bd,σ id= .lp k t ps ag bd→∃l r,LY w0 M own id k t ps ag bd w l r
  fW:∀b,M.fW b→¬w0.X b∧w.heap[b]? =some (.deferred (some []))
theorem LY.aV {w0:eW} {M M':MM} {own Tj:Nat→Option Nat} {id:Nat} {k:Lk} {t:List D} {ps:Array Nat} {ag bd:Code} {w w':World} {l:Nat} {r:Loop} (h:LY w0 M own id k t ps ag bd w l r) (le:M.Le M') (ho:Tj l=some id) (hb:w'.heap[l]? =some (.loop r)):LY w0 M' Tj id k t ps ag bd w' l r:=
 ⟨le.box _ _ h.box,h.base,ho,hb,h.st,h.pd,h.tm.mono le,h.ps,h.ag,h.bd⟩
structure Ext (M:MM) (w:World) (M':MM) (w':World):Prop where
  below:Below w.heap.size w w'
  cell:∀b o v,M.cell b o=some v→M'.cell b o=some v
  only:∀b o v,M'.cell b o=some v→b<w.heap.size→M.cell b o=some v
  cells:∀b o v,M'.cell b o=some v→w'.cell? ⟨b,o,none⟩=some v
theorem kz {w w':World} (h:Below w.heap.size w w') {b:Nat} {o:Obj} (hb:w.heap[b]? =some o):w'.heap[b]? =some o:=by
 rw [h.block b ?_,hb]
 rcases ZY b w.heap.size with h|h
 ·exact h
 ·simp [Array.getElem?_eq_none h] at hb
theorem fx {w:World} {b:Nat} {o:Obj} (hb:w.heap[b]? =some o):b<w.heap.size:=by
 rcases ZY b w.heap.size with h|h
 ·exact h
 ·simp [Array.getElem?_eq_none h] at hb
theorem mb {C C':Nat→Nat→Option Value} {n b o:Nat} (only:∀b o v,C' b o=some v→b<n→C b o=some v) (hb:b<n) (h:C b o=none):C' b o=none:=by
 cases e:C' b o with
 |none=>rfl
 |some v=>rw [only b o v e hb] at h;cases h
theorem cn.ext {w0:eW} {w w':World} {M M':MM} {own:Nat→Option Nat} {σ:Nat→Ob} (h:cn w0 M own σ w) (e:Ext M w M' w')
  (VZ:M'.box=M.box) (Uc:M'.b9=M.b9) (VG:M'.fW=M.fW):cn w0 M' own σ w'∧M.Le M':=by
 have le:M.Le M':=⟨e.cell,fun id b h=>by rw [VZ];exact h,fun t v x h=>by rw [Uc];exact h,fun b h=>by rw [VG];exact h⟩
 refine ⟨⟨?_,e.cells,?_,?_,?_,?_,?_,?_,?_⟩,le⟩
 ·exact h.below.ext e.below
 ·exact fun b o v k hb=>h.mI b o v (e.only b o v k (h.below.PS hb)) hb
 ·exact fun b id k=>Nat.lt_of_lt_of_le (h.owned b id k) e.below.size
 ·intro id cs hs
  obtain ⟨b,vs,ty,k⟩:=h.box id cs hs
  exact ⟨b,vs,ty,by rw [VZ];exact k.box,k.base,k.own,fun o=>mb e.only (fx k.dQ) (k.none o),kz e.below k.dQ,k.len,fun i d v a b=>(k.rep i d v a b).mono le,fun sz a len cap q=>k.room sz a len cap (Uc▸q)⟩
 ·intro id ver sz hs
  obtain ⟨a,len,cap,k⟩:=h.ey id ver sz hs
  refine ⟨a,len,cap,by rw [Uc];exact k.b9,by rw [Uc];exact k.last,?_⟩
  rcases k.room with r|⟨b,vs,ty,fz,ha,r⟩
  ·exact .inl r
  ·exact .inr ⟨b,vs,ty,fz,ha,r.base,r.own,kz e.below r.dQ,r.fz,r.cap,fun o ho=>mb e.only (fx r.dQ) (r.none o ho)⟩
 ·intro id F hs
  obtain ⟨b,Tt,clock,q⟩:=h.mp id F hs
  exact ⟨b,Tt,clock,by rw [VZ];exact q.box,q.base,q.own,fun o=>mb e.only (fx q.dQ) (q.none o),kz e.below q.dQ,q.fits⟩
 ·intro id k t ps ag bd hs
  obtain ⟨l,r,q⟩:=h.lp id k t ps ag bd hs
  exact ⟨l,r,q.aV le q.own (kz e.below q.dQ)⟩
 ·intro b hb
  rw [VG] at hb
  exact ⟨(h.fW b hb).1,kz e.below (h.fW b hb).2⟩
theorem cn.drew {w0:eW} {w:World} {M:MM} {own:Nat→Option Nat} {σ:Nat→Ob} (h:cn w0 M own σ w):cn w0 M own σ w.drew:=
 ⟨h.below.drew,h.cells,h.mI,h.owned,fun id cs e=>let ⟨b,vs,ty,k⟩:=h.box id cs e;⟨b,vs,ty,k.box,k.base,k.own,k.none,k.dQ,k.len,k.rep,k.room⟩,
  fun id ver sz e=>let ⟨a,len,cap,k⟩:=h.ey id ver sz e;⟨a,len,cap,k.b9,k.last,k.room.imp (fun x=>x) fun ⟨b,vs,ty,fz,ha,r⟩=>⟨b,vs,ty,fz,ha,r.base,r.own,r.dQ,r.fz,r.cap,r.none⟩⟩,
  fun id F e=>let ⟨b,Tt,clock,q⟩:=h.mp id F e;⟨b,Tt,clock,q.box,q.base,q.own,q.none,q.dQ,q.fits⟩,
  fun id k t ps ag bd e=>let ⟨l,r,q⟩:=h.lp id k t ps ag bd e;⟨l,r,q.aV (.refl _) q.own q.dQ⟩,fun b hb=>⟨(h.fW b hb).1,(h.fW b hb).2⟩⟩
theorem cn.kill {w0:eW} {w:World} {M:MM} {own:Nat→Option Nat} {σ:Nat→Ob} (h:cn w0 M own σ w) (id:Nat):cn w0 M own (gQ σ id .dead) w:=by
 refine ⟨h.below,h.cells,h.mI,h.owned,?_,?_,?_,?_,h.fW⟩
 ·intro i cs hi
  by_cases e:i=id
  ·rw [e,bG] at hi;cases hi
  ·rw [bC e] at hi;exact h.box i cs hi
 ·intro i v sz hi
  by_cases e:i=id
  ·rw [e,bG] at hi;cases hi
  ·rw [bC e] at hi;exact h.ey i v sz hi
 ·intro i F hi
  by_cases e:i=id
  ·rw [e,bG] at hi;cases hi
  ·rw [bC e] at hi;exact h.mp i F hi
 ·intro i k t ps ag bd hi
  by_cases e:i=id
  ·rw [e,bG] at hi;cases hi
  ·rw [bC e] at hi;exact h.lp i k t ps ag bd hi
def MM.cQ (M:MM) (id b:Nat):MM:= { M with box:=fun i=>if i=id then some b else M.box i }
def MM.bU (M:MM) (id ver:Nat) (v:Value):MM:= { M with b9:=fun i k=>if i=id∧k=ver then some v else M.b9 i k }
def MM.cy (M:MM) (b:Nat) (f:Nat→Option Value):MM:= { M with cell:=fun c o=>if c=b then f o else M.cell c o }
def gI (own:Nat→Option Nat) (b id:Nat):Nat→Option Nat:=fun c=>if c=b then some id else own c
theorem MM.gh {M:MM} {id b:Nat} (h:M.box id=none):M.Le (M.cQ id b):=
 ⟨fun _ _ _ h=>h,fun i c k=>by by_cases e:i=id;(· rw [e,h] at k;cases k);(· simp [cQ,e,k]),fun _ _ _ h=>h,fun _ h=>h⟩
theorem MM.fh {M:MM} {id ver:Nat} {v:Value} (h:M.b9 id ver=none):M.Le (M.bU id ver v):=
 ⟨fun _ _ _ h=>h,fun _ _ h=>h,fun i k x e=>by
  by_cases c:i=id∧k=ver
  ·rw [c.1,c.2,h] at e;cases e
  ·simp only [bU,c,if_false];exact e,fun _ h=>h⟩
theorem ev {w:World} {M:MM} (hc:∀b o v,M.cell b o=some v→w.cell? ⟨b,o,none⟩=some v) {b:Nat} (hb:w.heap.size≤b) (o:Nat):M.cell b o=none:=by
 cases e:M.cell b o with
 |none=>rfl
 |some v=>
  have:=aaK w _ (hc b o v e)
  have:b<w.heap.size:=this
  omega
theorem cn.CF {w0:eW} {w:World} {M:MM} {own:Nat→Option Nat} {σ:Nat→Ob} (h:cn w0 M own σ w) {id:Nat} (T1:M.box id=none) (hh:∀v,M.b9 id v=none) {cs:List D} {vs:Array Value} (ty:TypeId)
  (hl:cs.length≤vs.size) (hr:∀(i:Nat) (d:D) (v:Value),cs[i]? =some d→vs[i]? =some v→cj M d v):
  cn w0 (M.cQ id w.heap.size) (gI own w.heap.size id) (gQ σ id (.box cs)) (w.alloc (.cells vs ty)):=by
 have le:=MM.gh (b:=w.heap.size) T1
 have TP:∀o,M.cell w.heap.size o=none:=ev h.cells (ZP _)
 have hold:∀ {b:Nat} {o:Obj},w.heap[b]? =some o→(w.alloc (.cells vs ty)).heap[b]? =some o:=fun {b o} hb=>by
  rw [Below.heap_alloc _ _ _ (fx hb),hb]
 have TS:∀ {b i:Nat},own b=some i→gI own w.heap.size id b=some i:=fun {b i} k=>by
  have:=h.owned b i k
  simp [gI,show b≠w.heap.size by omega,k]
 refine ⟨h.below.alloc _,?_,h.mI,?_,?_,?_,?_,?_,?_⟩
 ·intro b o v k
  have k':M.cell b o=some v:=k
  rw [World.cell?_alloc_lt]
  ·exact h.cells b o v k'
  ·exact aaK w _ (h.cells b o v k')
 ·intro b i k
  rw [World.size_alloc]
  by_cases e:b=w.heap.size
  ·omega
  ·simp only [gI,e,if_false] at k
   have:=h.owned b i k
   omega
 ·intro i TT hi
  by_cases e:i=id
  ·subst e
   rw [bG] at hi
   cases hi
   refine ⟨w.heap.size,vs,ty,by simp [MM.cQ],h.below.new,by simp [gI],TP,?_,hl,fun j d v a b=>(hr j d v a b).mono le,fun sz a len cap q=>by have q':M.b9 i sz=_:=q;rw [hh] at q';cases q'⟩
   show (w.heap.push _)[w.heap.size]? =_
   simp
  ·rw [bC e] at hi
   obtain ⟨b,vs',ty',k⟩:=h.box i TT hi
   exact ⟨b,vs',ty',le.box _ _ k.box,k.base,TS k.own,k.none,hold k.dQ,k.len,fun j d v a b=>(k.rep j d v a b).mono le,k.room⟩
 ·intro i ver sz hi
  by_cases e:i=id
  ·rw [e,bG] at hi;cases hi
  ·rw [bC e] at hi
   obtain ⟨a,len,cap,k⟩:=h.ey i ver sz hi
   refine ⟨a,len,cap,k.b9,k.last,?_⟩
   rcases k.room with r|⟨b,vs',ty',fz,ha,r⟩
   ·exact .inl r
   ·exact .inr ⟨b,vs',ty',fz,ha,r.base,TS r.own,hold r.dQ,r.fz,r.cap,r.none⟩
 ·intro i F hi
  by_cases e:i=id
  ·rw [e,bG] at hi;cases hi
  ·rw [bC e] at hi
   obtain ⟨b,Tt,clock,q⟩:=h.mp i F hi
   exact ⟨b,Tt,clock,le.box _ _ q.box,q.base,TS q.own,q.none,hold q.dQ,q.fits⟩
 ·intro i k t ps ag bd hi
  by_cases e:i=id
  ·rw [e,bG] at hi;cases hi
  ·rw [bC e] at hi
   obtain ⟨l,r,q⟩:=h.lp i k t ps ag bd hi
   exact ⟨l,r,q.aV le (TS q.own) (hold q.dQ)⟩
 ·intro b hb
  exact ⟨(h.fW b hb).1,hold (h.fW b hb).2⟩
theorem cn.O6 {w0:eW} {w:World} {M:MM} {own:Nat→Option Nat} {σ:Nat→Ob} (h:cn w0 M own σ w) {id:Nat} (T1:M.box id=none) {o:Ob} {F0:List MapEntry→Nat→Prop} (ho:o.CN=some F0) (hF:F0 [] 0):
  cn w0 (M.cQ id w.heap.size) (gI own w.heap.size id) (gQ σ id o) (w.alloc (.map #[] 0)):=by
 have le:=MM.gh (b:=w.heap.size) T1
 have TP:∀o,M.cell w.heap.size o=none:=ev h.cells (ZP _)
 have hold:∀ {b:Nat} {o:Obj},w.heap[b]? =some o→(w.alloc (.map #[] 0)).heap[b]? =some o:=fun {b o} hb=>by
  rw [Below.heap_alloc _ _ _ (fx hb),hb]
 have TS:∀ {b i:Nat},own b=some i→gI own w.heap.size id b=some i:=fun {b i} k=>by
  have:=h.owned b i k
  simp [gI,show b≠w.heap.size by omega,k]
 refine ⟨h.below.alloc _,?_,h.mI,?_,?_,?_,?_,?_,?_⟩
 ·intro b o v k
  have k':M.cell b o=some v:=k
  rw [World.cell?_alloc_lt]
  ·exact h.cells b o v k'
  ·exact aaK w _ (h.cells b o v k')
 ·intro b i k
  rw [World.size_alloc]
  by_cases e:b=w.heap.size
  ·omega
  ·simp only [gI,e,if_false] at k
   have:=h.owned b i k
   omega
 ·intro i TT hi
  by_cases e:i=id
  ·rw [e,bG] at hi;rw [hi] at ho;cases ho
  ·rw [bC e] at hi
   obtain ⟨b,vs',ty',k⟩:=h.box i TT hi
   exact ⟨b,vs',ty',le.box _ _ k.box,k.base,TS k.own,k.none,hold k.dQ,k.len,fun j d v a b=>(k.rep j d v a b).mono le,k.room⟩
 ·intro i ver sz hi
  by_cases e:i=id
  ·rw [e,bG] at hi;rw [hi] at ho;cases ho
  ·rw [bC e] at hi
   obtain ⟨a,len,cap,k⟩:=h.ey i ver sz hi
   refine ⟨a,len,cap,k.b9,k.last,?_⟩
   rcases k.room with r|⟨b,vs',ty',fz,ha,r⟩
   ·exact .inl r
   ·exact .inr ⟨b,vs',ty',fz,ha,r.base,TS r.own,hold r.dQ,r.fz,r.cap,r.none⟩
 ·intro i F hi
  by_cases e:i=id
  ·subst e
   rw [bG,ho] at hi
   cases hi
   refine ⟨w.heap.size,#[],0,by simp [MM.cQ],h.below.new,by simp [gI],TP,?_,hF⟩
   show (w.heap.push _)[w.heap.size]? =_
   simp
  ·rw [bC e] at hi
   obtain ⟨b,Tt,clock,q⟩:=h.mp i F hi
   exact ⟨b,Tt,clock,le.box _ _ q.box,q.base,TS q.own,q.none,hold q.dQ,q.fits⟩
 ·intro i k' t ps ag bd hi
  by_cases e:i=id
  ·rw [e,bG] at hi;rw [hi] at ho;cases ho
  ·rw [bC e] at hi
   obtain ⟨l,r,q⟩:=h.lp i k' t ps ag bd hi
   exact ⟨l,r,q.aV le (TS q.own) (hold q.dQ)⟩
 ·intro b hb
  exact ⟨(h.fW b hb).1,hold (h.fW b hb).2⟩
def cR (w:World) (b:Nat) (o:Obj):World:= { w with heap:=w.heap.setIfInBounds b o }
theorem hH {w:World} {b:Nat} {o p:Obj} (h:w.heap[b]? =some p):(cR w b o).heap[b]? =some o:=by
 have:=fx h
 simp [cR,this]
theorem bz {w:World} {b c:Nat} {o:Obj} (h:c≠b):(cR w b o).heap[c]? =w.heap[c]? :=by
 simp [cR,Array.getElem?_setIfInBounds_ne (Ne.symm h)]
theorem hG (w:World) (b:Nat) (o:Obj):(cR w b o).heap.size=w.heap.size:=by simp [cR]
theorem fi {w:World} {b c o:Nat} {p:Obj} (h:c≠b):(cR w b p).cell? ⟨c,o,none⟩=w.cell? ⟨c,o,none⟩:=by
 simp [aaI,bz h]
theorem im {X:Nat→Prop} {w0 w:World} (h:Kept X w0 w) {b:Nat} (hb:¬X b) (o:Obj):Kept X w0 (cR w b o):=
 ⟨h.os,h.tape,h.output,by rw [hG];exact h.size,fun k hk=>by rw [bz (show k≠b from fun e=>hb (e▸hk))];exact h.block k hk,h.lt⟩
theorem cn.Ju {w0:eW} {w:World} {M:MM} {own:Nat→Option Nat} {σ:Nat→Ob} (h:cn w0 M own σ w) {id b:Nat} {cs TT:List D} {vs vs':Array Value} {ty:TypeId}
  (k:tY w0 M own id cs w b vs ty) (hl:TT.length≤vs'.size) (hs:vs'.size=vs.size)
  (hr:∀(i:Nat) (d:D) (v:Value),TT[i]? =some d→vs'[i]? =some v→cj M d v):
  cn w0 M own (gQ σ id (.box TT)) (cR w b (.cells vs' ty (0,0))):=by
 refine ⟨im h.below k.base _,?_,h.mI,?_,?_,?_,?_,?_,?_⟩
 ·intro c o v hc
  have:c≠b:=fun e=>by rw [e,k.none o] at hc;cases hc
  rw [fi this]
  exact h.cells c o v hc
 ·intro c i hc;rw [hG];exact h.owned c i hc
 ·intro i VD hi
  by_cases e:i=id
  ·subst e
   rw [bG] at hi
   cases hi
   exact ⟨b,vs',ty,k.box,k.base,k.own,k.none,hH k.dQ,hl,hr,fun sz a len cap q=>by rw [hs];exact k.room sz a len cap q⟩
  ·rw [bC e] at hi
   obtain ⟨c,vs2,ty2,k2⟩:=h.box i VD hi
   have:c≠b:=fun ec=>by have h1:=k2.own;rw [ec,k.own] at h1;exact e (ZE h1).symm
   exact ⟨c,vs2,ty2,k2.box,k2.base,k2.own,k2.none,by rw [bz this];exact k2.dQ,k2.len,k2.rep,k2.room⟩
 ·intro i ver sz hi
  by_cases e:i=id
  ·rw [e,bG] at hi;cases hi
  ·rw [bC e] at hi
   obtain ⟨a,len,cap,k2⟩:=h.ey i ver sz hi
   refine ⟨a,len,cap,k2.b9,k2.last,?_⟩
   rcases k2.room with r|⟨c,vs2,ty2,fz,ha,r⟩
   ·exact .inl r
   ·have:c≠b:=fun ec=>by have h1:=r.own;rw [ec,k.own] at h1;exact e (ZE h1).symm
    exact .inr ⟨c,vs2,ty2,fz,ha,r.base,r.own,by rw [bz this];exact r.dQ,r.fz,r.cap,r.none⟩
 ·intro i F hi
  by_cases e:i=id
  ·rw [e,bG] at hi;cases hi
  ·rw [bC e] at hi
   obtain ⟨c,Tt,clock,q⟩:=h.mp i F hi
   have:c≠b:=fun ec=>by have h1:=q.own;rw [ec,k.own] at h1;exact e (ZE h1).symm
   exact ⟨c,Tt,clock,q.box,q.base,q.own,q.none,by rw [bz this];exact q.dQ,q.fits⟩
 ·intro i k2 t ps ag bd hi
  by_cases e:i=id
  ·rw [e,bG] at hi;cases hi
  ·rw [bC e] at hi
   obtain ⟨l,r,q⟩:=h.lp i k2 t ps ag bd hi
   have:l≠b:=fun ec=>by have h1:=q.own;rw [ec,k.own] at h1;exact e (ZE h1).symm
   exact ⟨l,r,q.aV (.refl _) q.own (by rw [bz this];exact q.dQ)⟩
 ·intro c hc
  have:c≠b:=fun ec=>by have h1:=(h.fW c hc).2;rw [ec,k.dQ] at h1;cases h1
  exact ⟨(h.fW c hc).1,by rw [bz this];exact (h.fW c hc).2⟩
theorem cn.Js {w0:eW} {w:World} {M:MM} {own:Nat→Option Nat} {σ:Nat→Ob} (h:cn w0 M own σ w) {id b:Nat} {F0 F1:List MapEntry→Nat→Prop} {Tt V9:Array MapEntry} {clock:Nat}
  (k:Oh w0 M own id F0 w b Tt clock) (Vr:Nat) {o':Ob} (ho:o'.CN=some F1) (hf:F1 V9.toList Vr):
  cn w0 M own (gQ σ id o') (cR w b (.map V9 Vr)):=by
 refine ⟨im h.below k.base _,?_,h.mI,?_,?_,?_,?_,?_,?_⟩
 ·intro c o v hc
  have:c≠b:=fun e=>by rw [e,k.none o] at hc;cases hc
  rw [fi this]
  exact h.cells c o v hc
 ·intro c i hc;rw [hG];exact h.owned c i hc
 ·intro i VD hi
  by_cases e:i=id
  ·rw [e,bG] at hi;rw [hi] at ho;cases ho
  ·rw [bC e] at hi
   obtain ⟨c,vs2,ty2,k2⟩:=h.box i VD hi
   have:c≠b:=fun ec=>by have h1:=k2.own;rw [ec,k.own] at h1;exact e (ZE h1).symm
   exact ⟨c,vs2,ty2,k2.box,k2.base,k2.own,k2.none,by rw [bz this];exact k2.dQ,k2.len,k2.rep,k2.room⟩
 ·intro i ver sz hi
  by_cases e:i=id
  ·rw [e,bG] at hi;rw [hi] at ho;cases ho
  ·rw [bC e] at hi
   obtain ⟨a,len,cap,k2⟩:=h.ey i ver sz hi
   refine ⟨a,len,cap,k2.b9,k2.last,?_⟩
   rcases k2.room with r|⟨c,vs2,ty2,fz,ha,r⟩
   ·exact .inl r
   ·have:c≠b:=fun ec=>by have h1:=r.own;rw [ec,k.own] at h1;exact e (ZE h1).symm
    exact .inr ⟨c,vs2,ty2,fz,ha,r.base,r.own,by rw [bz this];exact r.dQ,r.fz,r.cap,r.none⟩
 ·intro i F hi
  by_cases e:i=id
  ·subst e
   rw [bG,ho] at hi
   cases hi
   exact ⟨b,V9,Vr,k.box,k.base,k.own,k.none,hH k.dQ,hf⟩
  ·rw [bC e] at hi
   obtain ⟨c,ents2,clock2,q⟩:=h.mp i F hi
   have:c≠b:=fun ec=>by have h1:=q.own;rw [ec,k.own] at h1;exact e (ZE h1).symm
   exact ⟨c,ents2,clock2,q.box,q.base,q.own,q.none,by rw [bz this];exact q.dQ,q.fits⟩
 ·intro i k2 t ps ag bd hi
  by_cases e:i=id
  ·rw [e,bG] at hi;rw [hi] at ho;cases ho
  ·rw [bC e] at hi
   obtain ⟨l,r,q⟩:=h.lp i k2 t ps ag bd hi
   have:l≠b:=fun ec=>by have h1:=q.own;rw [ec,k.own] at h1;exact e (ZE h1).symm
   exact ⟨l,r,q.aV (.refl _) q.own (by rw [bz this];exact q.dQ)⟩
 ·intro c hc
  have:c≠b:=fun ec=>by have h1:=(h.fW c hc).2;rw [ec,k.dQ] at h1;cases h1
  exact ⟨(h.fW c hc).1,by rw [bz this];exact (h.fW c hc).2⟩
theorem cn.si {w0:eW} {w:World} {M:MM} {own:Nat→Option Nat} {σ:Nat→Ob} (h:cn w0 M own σ w) {id ver:Nat} (T1:∀v,ver≤v→M.b9 id v=none) {a:Option Addr} {len cap:Nat} (sz:Nat)
  (TZ:cap=len∨∃b vs ty fz,a=some ⟨b,0,none⟩∧¬w0.X b∧(own b=none∨own b=some id)∧w.heap[b]? =some (.cells vs ty fz)∧mJ fz vs.size∧(cap*sz≤vs.size∧cap≤9223372036854775807)∧∀o,len*sz≤o→M.cell b o=none):
  ∃Tj,cn w0 (M.bU id ver (.slice a len cap)) Tj (gQ σ id (.ey ver sz)) w:=by
 have le:=MM.fh (ver:=ver) (v:= .slice a len cap) (T1 ver (ZP _))
 have Xs:∀ {Tj:Nat→Option Nat},(∀b i,own b=some i→Tj b=some i)→(∀b i,Tj b=some i→b<w.heap.size)→
   (cap=len∨∃b vs ty fz,a=some ⟨b,0,none⟩∧tX w0 (M.bU id ver (.slice a len cap)) Tj id sz w len cap b vs ty fz)→
   cn w0 (M.bU id ver (.slice a len cap)) Tj (gQ σ id (.ey ver sz)) w:=by
  intro Tj Vu W5 hr
  refine ⟨h.below,h.cells,h.mI,W5,?_,?_,?_,?_,h.fW⟩
  ·intro i cs hi
   by_cases e:i=id
   ·rw [e,bG] at hi;cases hi
   ·rw [bC e] at hi
    obtain ⟨b,vs,ty,k⟩:=h.box i cs hi
    exact ⟨b,vs,ty,k.box,k.base,Vu _ _ k.own,k.none,k.dQ,k.len,fun j d v a b=>(k.rep j d v a b).mono le,fun TH a' Ts TQ q=>k.room TH a' Ts TQ (by simpa [MM.bU,e] using q)⟩
  ·intro i VF TH hi
   by_cases e:i=id
   ·subst e
    rw [bG] at hi
    cases hi
    refine ⟨a,len,cap,by simp [MM.bU],?_,hr⟩
    intro v hv
    simp only [MM.bU,show ¬(v=ver) by omega,and_false,if_false]
    exact T1 v (by omega)
   ·rw [bC e] at hi
    obtain ⟨a',Ts,TQ,k⟩:=h.ey i VF TH hi
    refine ⟨a',Ts,TQ,le.b9 _ _ _ k.b9,?_,?_⟩
    ·intro v hv
     simp only [MM.bU,e,false_and,if_false]
     exact k.last v hv
    ·rcases k.room with r|⟨c,vs2,ty2,fz,ha,r⟩
     ·exact .inl r
     ·exact .inr ⟨c,vs2,ty2,fz,ha,r.base,Vu _ _ r.own,r.dQ,r.fz,r.cap,r.none⟩
  ·intro i F hi
   by_cases e:i=id
   ·rw [e,bG] at hi;cases hi
   ·rw [bC e] at hi
    obtain ⟨b,Tt,clock,q⟩:=h.mp i F hi
    exact ⟨b,Tt,clock,q.box,q.base,Vu _ _ q.own,q.none,q.dQ,q.fits⟩
  ·intro i k t ps ag bd hi
   by_cases e:i=id
   ·rw [e,bG] at hi;cases hi
   ·rw [bC e] at hi
    obtain ⟨l,r,q⟩:=h.lp i k t ps ag bd hi
    exact ⟨l,r,q.aV le (Vu _ _ q.own) q.dQ⟩
 rcases TZ with hc|⟨b,vs,ty,fz,ha,TL,Uu,UK,Xa,Tm,Ue⟩
 ·exact ⟨own,Xs (fun _ _ x=>x) h.owned (.inl hc)⟩
 ·refine ⟨gI own b id,Xs ?_ ?_ (.inr ⟨b,vs,ty,fz,ha,TL,by simp [gI],UK,Xa,Tm,Ue⟩)⟩
  ·intro c i hc
   by_cases e:c=b
   ·subst e
    rcases Uu with Uu|Uu
    ·rw [Uu] at hc;cases hc
    ·rw [Uu] at hc;simp [gI];exact ZE hc
   ·simp [gI,e,hc]
  ·intro c i hc
   by_cases e:c=b
   ·rw [e];exact fx UK
   ·simp only [gI,e,if_false] at hc;exact h.owned c i hc
def MM.j4 (M:MM) (b n1 n2:Nat) (vs:Array Value):MM:=M.cy b fun o=>if n1≤o∧o<n2 then vs[o]? else M.cell b o
theorem MM.Fl {M:MM} {b n1 n2:Nat} {vs:Array Value} (h:∀o,n1≤o→M.cell b o=none):M.Le (M.j4 b n1 n2 vs):=by
 refine ⟨fun c o v k=> ?_,fun _ _ k=>k,fun _ _ _ k=>k,fun _ k=>k⟩
 by_cases e:c=b
 ·subst e
  simp only [j4,cy,if_true]
  rw [if_neg]
  ·exact k
  ·intro hh;rw [h o hh.1] at k;cases k
 ·simp only [j4,cy,e,if_false];exact k
theorem cn.Lm {w0:eW} {w:World} {M:MM} {own:Nat→Option Nat} {σ:Nat→Ob} (h:cn w0 M own σ w) {id sz len cap b:Nat} {ver TH:Nat} {vs vs':Array Value} {ty:TypeId} {fz:Nat×Nat} (_hs:σ id= .ey ver TH)
  (r:tX w0 M own id sz w len cap b vs ty fz) (n2:Nat) (Yq:vs'.size=vs.size) (TW:∀o,o<len*sz→vs'[o]? =vs[o]?):
  cn w0 (M.j4 b (len*sz) n2 vs') own (gQ σ id .dead) (cR w b (.cells vs' ty fz)):=by
 have le:M.Le (M.j4 b (len*sz) n2 vs'):=MM.Fl r.none
 refine ⟨im h.below r.base _,?_,?_,?_,?_,?_,?_,?_,?_⟩
 ·intro c o v hc
  by_cases e:c=b
  ·subst e
   simp only [MM.j4,MM.cy,if_true] at hc
   simp only [aaI,hH r.dQ]
   split at hc
   ·exact hc
   ·have h1:=h.cells c o v hc
    have h2:o<len*sz:=by
     rcases ZY o (len*sz) with q|q
     ·exact q
     ·rw [r.none o q] at hc;cases hc
    simp only [aaI,r.dQ] at h1
    rw [← TW o h2] at h1
    exact h1
  ·simp only [MM.j4,MM.cy,e,if_false] at hc
   rw [fi e]
   exact h.cells c o v hc
 ·intro c o v hc Tq
  have e:c≠b:=fun e=>r.base (e▸Tq)
  simp only [MM.j4,MM.cy,e,if_false] at hc
  exact h.mI c o v hc Tq
 ·intro c i hc;rw [hG];exact h.owned c i hc
 ·intro i VD hi
  by_cases e:i=id
  ·rw [e,bG] at hi;cases hi
  ·rw [bC e] at hi
   obtain ⟨c,vs2,ty2,k2⟩:=h.box i VD hi
   have:c≠b:=fun ec=>by have h1:=k2.own;rw [ec,r.own] at h1;exact e (ZE h1).symm
   exact ⟨c,vs2,ty2,k2.box,k2.base,k2.own,fun o=>by simp only [MM.j4,MM.cy,this,if_false];exact k2.none o,by rw [bz this];exact k2.dQ,k2.len,fun j d v a b=>(k2.rep j d v a b).mono le,k2.room⟩
 ·intro i YH Un hi
  by_cases e:i=id
  ·rw [e,bG] at hi;cases hi
  ·rw [bC e] at hi
   obtain ⟨a,len2,cap2,k2⟩:=h.ey i YH Un hi
   refine ⟨a,len2,cap2,k2.b9,k2.last,?_⟩
   rcases k2.room with q|⟨c,vs2,ty2,fz2,ha,q⟩
   ·exact .inl q
   ·have:c≠b:=fun ec=>by have h1:=q.own;rw [ec,r.own] at h1;exact e (ZE h1).symm
    exact .inr ⟨c,vs2,ty2,fz2,ha,q.base,q.own,by rw [bz this];exact q.dQ,q.fz,q.cap,fun o ho=>by simp only [MM.j4,MM.cy,this,if_false];exact q.none o ho⟩
 ·intro i F hi
  by_cases e:i=id
  ·rw [e,bG] at hi;cases hi
  ·rw [bC e] at hi
   obtain ⟨c,Tt,clock,q⟩:=h.mp i F hi
   have:c≠b:=fun ec=>by have h1:=q.own;rw [ec,r.own] at h1;exact e (ZE h1).symm
   exact ⟨c,Tt,clock,q.box,q.base,q.own,fun o=>by simp only [MM.j4,MM.cy,this,if_false];exact q.none o,by rw [bz this];exact q.dQ,q.fits⟩
 ·intro i k2 t ps ag bd hi
  by_cases e:i=id
  ·rw [e,bG] at hi;cases hi
  ·rw [bC e] at hi
   obtain ⟨l,r',q⟩:=h.lp i k2 t ps ag bd hi
   have:l≠b:=fun ec=>by have h1:=q.own;rw [ec,r.own] at h1;exact e (ZE h1).symm
   exact ⟨l,r',q.aV le q.own (by rw [bz this];exact q.dQ)⟩
 ·intro c hc
  have:c≠b:=fun ec=>by have h1:=(h.fW c hc).2;rw [ec,r.dQ] at h1;cases h1
  exact ⟨(h.fW c hc).1,by rw [bz this];exact (h.fW c hc).2⟩
theorem cn.yt {w0:eW} {w:World} {M:MM} {own:Nat→Option Nat} {σ:Nat→Ob} (h:cn w0 M own σ w) {id b:Nat} {cs:List D} {vs:Array Value} {ty:TypeId} (hσ:σ id= .box cs)
  (k:tY w0 M own id cs w b vs ty) {sz len cap:Nat} (hn:M.b9 id sz=none) (hc:cap*sz≤vs.size):cn w0 (M.bU id sz (.slice (some ⟨b,0,none⟩) len cap)) own σ w:=by
 have le:=MM.fh (v:= .slice (some ⟨b,0,none⟩) len cap) hn
 refine ⟨h.below,h.cells,h.mI,h.owned,?_,?_,?_,?_,h.fW⟩
 ·intro i TT hi
  by_cases e:i=id
  ·subst e
   rw [hσ] at hi
   cases hi
   refine ⟨b,vs,ty,k.box,k.base,k.own,k.none,k.dQ,k.len,fun j d v a b=>(k.rep j d v a b).mono le,fun TH a Ts TQ q=> ?_⟩
   by_cases es:TH=sz
   ·subst es
    simp only [MM.bU,and_self,if_true,ZK,Value.slice.injEq] at q
    rw [← q.2.2];exact hc
   ·simp only [MM.bU,es,and_false,if_false] at q
    exact k.room TH a Ts TQ q
  ·obtain ⟨b',vs',ty',k'⟩:=h.box i TT hi
   exact ⟨b',vs',ty',k'.box,k'.base,k'.own,k'.none,k'.dQ,k'.len,fun j d v a b=>(k'.rep j d v a b).mono le,fun TH a Ts TQ q=>k'.room TH a Ts TQ (by simpa [MM.bU,e] using q)⟩
 ·intro i ver TH hi
  by_cases e:i=id
  ·subst e;rw [hσ] at hi;cases hi
  ·obtain ⟨a,Ts,TQ,k'⟩:=h.ey i ver TH hi
   refine ⟨a,Ts,TQ,le.b9 _ _ _ k'.b9,?_,?_⟩
   ·intro v hv
    simp only [MM.bU,e,false_and,if_false]
    exact k'.last v hv
   ·rcases k'.room with r|⟨c,vs2,ty2,fz,ha,r⟩
    ·exact .inl r
    ·exact .inr ⟨c,vs2,ty2,fz,ha,r.base,r.own,r.dQ,r.fz,r.cap,r.none⟩
 ·intro i F hi
  obtain ⟨b',Tt,clock,q⟩:=h.mp i F hi
  exact ⟨b',Tt,clock,q.box,q.base,q.own,q.none,q.dQ,q.fits⟩
 ·intro i kk t ps ag bd hi
  obtain ⟨l,r,q⟩:=h.lp i kk t ps ag bd hi
  exact ⟨l,r,q.aV le q.own q.dQ⟩
def MM.pO (M:MM) (b:Nat):MM:= { M with fW:=fun c=>M.fW c∨c=b }
theorem MM.u7 (M:MM) (b:Nat):M.Le (M.pO b):=⟨fun _ _ _ h=>h,fun _ _ h=>h,fun _ _ _ h=>h,fun _ h=> .inl h⟩
theorem cn.Qv {w0:eW} {w:World} {M:MM} {own:Nat→Option Nat} {σ:Nat→Ob} (h:cn w0 M own σ w):cn w0 (M.pO w.heap.size) own σ (w.alloc (.deferred (some []))):=by
 have le:=M.u7 w.heap.size
 have hold:∀ {b:Nat} {o:Obj},w.heap[b]? =some o→(w.alloc (.deferred (some []))).heap[b]? =some o:=fun {b o} hb=>by
  rw [Below.heap_alloc _ _ _ (fx hb),hb]
 refine ⟨h.below.alloc _,?_,h.mI,?_,?_,?_,?_,?_,?_⟩
 ·intro b o v k
  rw [World.cell?_alloc_lt]
  ·exact h.cells b o v k
  ·exact aaK w _ (h.cells b o v k)
 ·intro b i k
  rw [World.size_alloc]
  have:=h.owned b i k
  omega
 ·intro i cs hi
  obtain ⟨b,vs,ty,k⟩:=h.box i cs hi
  exact ⟨b,vs,ty,k.box,k.base,k.own,k.none,hold k.dQ,k.len,fun j d v a b=>(k.rep j d v a b).mono le,k.room⟩
 ·intro i ver sz hi
  obtain ⟨a,len,cap,k⟩:=h.ey i ver sz hi
  refine ⟨a,len,cap,k.b9,k.last,?_⟩
  rcases k.room with r|⟨b,vs',ty',fz,ha,r⟩
  ·exact .inl r
  ·exact .inr ⟨b,vs',ty',fz,ha,r.base,r.own,hold r.dQ,r.fz,r.cap,r.none⟩
 ·intro i F hi
  obtain ⟨b,Tt,clock,q⟩:=h.mp i F hi
  exact ⟨b,Tt,clock,q.box,q.base,q.own,q.none,hold q.dQ,q.fits⟩
 ·intro i k t ps ag bd hi
  obtain ⟨l,r,q⟩:=h.lp i k t ps ag bd hi
  exact ⟨l,r,q.aV le q.own (hold q.dQ)⟩
 ·rintro b (hb|rfl)
  ·exact ⟨(h.fW b hb).1,hold (h.fW b hb).2⟩
  ·refine ⟨h.below.new,?_⟩
   show (w.heap.push _)[w.heap.size]? =_
   simp
theorem cn.Qw {w0:eW} {w:World} {M:MM} {own:Nat→Option Nat} {σ:Nat→Ob} (h:cn w0 M own σ w) {id:Nat} (T1:M.box id=none) (hh:∀v,M.b9 id v=none) {k:Lk} {t:List D} {r:Loop}
  (Ty:r.state=k.state) (Ym:k≠ .busy→r.pending=k.MH) (ht:cA M t r.tmps):
  cn w0 (M.cQ id w.heap.size) (gI own w.heap.size id) (gQ σ id (.lp k t r.params r.assign r.body)) (w.alloc (.loop r)):=by
 have le:=MM.gh (b:=w.heap.size) T1
 have hold:∀ {b:Nat} {o:Obj},w.heap[b]? =some o→(w.alloc (.loop r)).heap[b]? =some o:=fun {b o} hb=>by
  rw [Below.heap_alloc _ _ _ (fx hb),hb]
 have TS:∀ {b i:Nat},own b=some i→gI own w.heap.size id b=some i:=fun {b i} k=>by
  have:=h.owned b i k
  simp [gI,show b≠w.heap.size by omega,k]
 refine ⟨h.below.alloc _,?_,h.mI,?_,?_,?_,?_,?_,?_⟩
 ·intro b o v k
  have k':M.cell b o=some v:=k
  rw [World.cell?_alloc_lt]
  ·exact h.cells b o v k'
  ·exact aaK w _ (h.cells b o v k')
 ·intro b i k
  rw [World.size_alloc]
  by_cases e:b=w.heap.size
  ·omega
  ·simp only [gI,e,if_false] at k
   have:=h.owned b i k
   omega
 ·intro i cs hi
  by_cases e:i=id
  ·rw [e,bG] at hi;cases hi
  ·rw [bC e] at hi
   obtain ⟨b,vs,ty,k⟩:=h.box i cs hi
   exact ⟨b,vs,ty,le.box _ _ k.box,k.base,TS k.own,k.none,hold k.dQ,k.len,fun j d v a b=>(k.rep j d v a b).mono le,k.room⟩
 ·intro i ver sz hi
  by_cases e:i=id
  ·rw [e,bG] at hi;cases hi
  ·rw [bC e] at hi
   obtain ⟨a,len,cap,k⟩:=h.ey i ver sz hi
   refine ⟨a,len,cap,k.b9,k.last,?_⟩
   rcases k.room with r|⟨b,vs',ty',fz,ha,r⟩
   ·exact .inl r
   ·exact .inr ⟨b,vs',ty',fz,ha,r.base,TS r.own,hold r.dQ,r.fz,r.cap,r.none⟩
 ·intro i F hi
  by_cases e:i=id
  ·rw [e,bG] at hi;cases hi
  ·rw [bC e] at hi
   obtain ⟨b,Tt,clock,q⟩:=h.mp i F hi
   exact ⟨b,Tt,clock,le.box _ _ q.box,q.base,TS q.own,q.none,hold q.dQ,q.fits⟩
 ·intro i k2 t2 ps ag bd hi
  by_cases e:i=id
  ·subst e
   rw [bG] at hi
   cases hi
   refine ⟨w.heap.size,r,by simp [MM.cQ],h.below.new,by simp [gI],?_,Ty,Ym,ht.mono le,rfl,rfl,rfl⟩
   show (w.heap.push _)[w.heap.size]? =_
   simp
  ·rw [bC e] at hi
   obtain ⟨l,r',q⟩:=h.lp i k2 t2 ps ag bd hi
   exact ⟨l,r',q.aV le (TS q.own) (hold q.dQ)⟩
 ·intro b hb
  exact ⟨(h.fW b hb).1,hold (h.fW b hb).2⟩
theorem cn.Jt {w0:eW} {w:World} {M:MM} {own:Nat→Option Nat} {σ:Nat→Ob} (h:cn w0 M own σ w) {id l:Nat} {k k':Lk} {t:List D} {ps:Array Nat} {ag bd:Code} {r r':Loop}
  (q:LY w0 M own id k t ps ag bd w l r) (o':Ob) (ho:o'= .dead∨(o'= .lp k' t ps ag bd∧r'.state=k'.state∧(k'≠ .busy→r'.pending=k'.MH)∧r'.tmps=r.tmps∧r'.params=r.params∧r'.assign=r.assign∧r'.body=r.body)):
  cn w0 M own (gQ σ id o') (cR w l (.loop r')):=by
 refine ⟨im h.below q.base _,?_,h.mI,?_,?_,?_,?_,?_,?_⟩
 ·intro c o v hc
  have:c≠l:=fun e=>by
   have:=h.cells c o v hc
   rw [e] at this
   simp [aaI,q.dQ] at this
  rw [fi this]
  exact h.cells c o v hc
 ·intro c i hc;rw [hG];exact h.owned c i hc
 ·intro i VD hi
  by_cases e:i=id
  ·rw [e,bG] at hi;rcases ho with rfl|⟨rfl,_⟩<;>cases hi
  ·rw [bC e] at hi
   obtain ⟨c,vs2,ty2,k2⟩:=h.box i VD hi
   have:c≠l:=fun ec=>by have h1:=k2.own;rw [ec,q.own] at h1;exact e (ZE h1).symm
   exact ⟨c,vs2,ty2,k2.box,k2.base,k2.own,k2.none,by rw [bz this];exact k2.dQ,k2.len,k2.rep,k2.room⟩
 ·intro i ver sz hi
  by_cases e:i=id
  ·rw [e,bG] at hi;rcases ho with rfl|⟨rfl,_⟩<;>cases hi
  ·rw [bC e] at hi
   obtain ⟨a,len,cap,k2⟩:=h.ey i ver sz hi
   refine ⟨a,len,cap,k2.b9,k2.last,?_⟩
   rcases k2.room with r|⟨c,vs2,ty2,fz,ha,r⟩
   ·exact .inl r
   ·have:c≠l:=fun ec=>by have h1:=r.own;rw [ec,q.own] at h1;exact e (ZE h1).symm
    exact .inr ⟨c,vs2,ty2,fz,ha,r.base,r.own,by rw [bz this];exact r.dQ,r.fz,r.cap,r.none⟩
 ·intro i F hi
  by_cases e:i=id
  ·rw [e,bG] at hi;rcases ho with rfl|⟨rfl,_⟩<;>cases hi
  ·rw [bC e] at hi
   obtain ⟨c,Tt,clock,q2⟩:=h.mp i F hi
   have:c≠l:=fun ec=>by have h1:=q2.own;rw [ec,q.own] at h1;exact e (ZE h1).symm
   exact ⟨c,Tt,clock,q2.box,q2.base,q2.own,q2.none,by rw [bz this];exact q2.dQ,q2.fits⟩
 ·intro i k2 t2 Y4 Yu Yx hi
  by_cases e:i=id
  ·subst e
   rw [bG] at hi
   rcases ho with rfl|⟨rfl,Ty,Ym,hr⟩
   ·cases hi
   cases hi
   exact ⟨l,r',q.box,q.base,q.own,hH q.dQ,Ty,Ym,by rw [hr.1];exact q.tm,by rw [hr.2.1];exact q.ps,by rw [hr.2.2.1];exact q.ag,by rw [hr.2.2.2];exact q.bd⟩
  ·rw [bC e] at hi
   obtain ⟨l2,r2,q2⟩:=h.lp i k2 t2 Y4 Yu Yx hi
   have:l2≠l:=fun ec=>by have h1:=q2.own;rw [ec,q.own] at h1;exact e (ZE h1).symm
   exact ⟨l2,r2,q2.aV (.refl _) q2.own (by rw [bz this];exact q2.dQ)⟩
 ·intro c hc
  have:c≠l:=fun ec=>by have h1:=(h.fW c hc).2;rw [ec,q.dQ] at h1;cases h1
  exact ⟨(h.fW c hc).1,by rw [bz this];exact (h.fW c hc).2⟩
def MM.wa (M:MM) (b:Nat):MM:= { M with fW:=fun c=>M.fW c∧c≠b }
theorem cn.wa {w0:eW} {w:World} {M:MM} {own:Nat→Option Nat} {σ:Nat→Ob} (h:cn w0 M own σ w) {b:Nat} (hb:M.fW b):cn w0 (M.wa b) own σ (cR w b (.deferred none)):=by
 obtain ⟨TL,UK⟩:=h.fW b hb
 have rb:∀ {d:D} {v:Value},cj M d v→cj (M.wa b) d v:=fun {d v} hr=>hr.Qu
 refine ⟨im h.below TL _,?_,h.mI,?_,?_,?_,?_,?_,?_⟩
 ·intro c o v hc
  have:c≠b:=fun e=>by
   have:=h.cells c o v hc
   rw [e] at this
   simp [aaI,UK] at this
  rw [fi this]
  exact h.cells c o v hc
 ·intro c i hc;rw [hG];exact h.owned c i hc
 ·intro i VD hi
  obtain ⟨c,vs2,ty2,k2⟩:=h.box i VD hi
  have:c≠b:=fun ec=>by have h1:=k2.dQ;rw [ec,UK] at h1;cases h1
  exact ⟨c,vs2,ty2,k2.box,k2.base,k2.own,k2.none,by rw [bz this];exact k2.dQ,k2.len,fun j d v p q=>rb (k2.rep j d v p q),k2.room⟩
 ·intro i ver sz hi
  obtain ⟨a,len,cap,k2⟩:=h.ey i ver sz hi
  refine ⟨a,len,cap,k2.b9,k2.last,?_⟩
  rcases k2.room with r|⟨c,vs2,ty2,fz,ha,r⟩
  ·exact .inl r
  ·have:c≠b:=fun ec=>by have h1:=r.dQ;rw [ec,UK] at h1;cases h1
   exact .inr ⟨c,vs2,ty2,fz,ha,r.base,r.own,by rw [bz this];exact r.dQ,r.fz,r.cap,r.none⟩
 ·intro i F hi
  obtain ⟨c,Tt,clock,q2⟩:=h.mp i F hi
  have:c≠b:=fun ec=>by have h1:=q2.dQ;rw [ec,UK] at h1;cases h1
  exact ⟨c,Tt,clock,q2.box,q2.base,q2.own,q2.none,by rw [bz this];exact q2.dQ,q2.fits⟩
 ·intro i k2 t2 Y4 Yu Yx hi
  obtain ⟨l2,r2,q2⟩:=h.lp i k2 t2 Y4 Yu Yx hi
  have:l2≠b:=fun ec=>by have h1:=q2.dQ;rw [ec,UK] at h1;cases h1
  exact ⟨l2,r2,q2.box,q2.base,q2.own,by rw [bz this];exact q2.dQ,q2.st,q2.pd,⟨q2.tm.1,fun i d v p q=>rb (q2.tm.2 i d v p q)⟩,q2.ps,q2.ag,q2.bd⟩
 ·rintro c ⟨hc,TU⟩
  exact ⟨(h.fW c hc).1,by rw [bz TU];exact (h.fW c hc).2⟩
def R1 (P:Program) (f:FuncId):Prop:= ∃fn c,P.funcs[f]? =some fn∧fn.body=some c∧(fn.name== "runtime.NumGoroutine")=false
def ki (B:Nat) (w:World) (C:Nat→Nat→Option Value) (sz:Nat) (a:Option Addr) (len cap:Nat):Prop:=
  cap=len∨∃b vs ty fz,a=some ⟨b,0,none⟩∧B≤b∧w.heap[b]? =some (.cells vs ty fz)∧mJ fz vs.size∧(cap*sz≤vs.size∧cap≤9223372036854775807)∧∀o,len*sz≤o→C b o=none
def Ej (B:Nat) (w:World) (C:Nat→Nat→Option Value) (d:D) (v:Value):Prop:=
  (∀sz TH xs,d= .bc (.fresh sz) TH xs→∃a len cap,v= .slice a len cap∧TH=sz∧ki B w C sz a len cap)∧
  ∀ds vs,d= .aL ds→v= .tuple vs→∀(i:Nat) (sz TH:Nat) (xs:List D),ds[i]? =some (.bc (.fresh sz) TH xs)→∃a len cap,vs[i]? =some (.slice a len cap)∧TH=sz∧ki B w C sz a len cap
structure aQ (P:Program) (f:FuncId) (args:List D) (d:D):Prop where
  Ij:R1 P f
  run:∀(w:World) (C:Nat→Nat→Option Value) (vs:Array Value),(∀b o v,C b o=some v→w.cell? ⟨b,o,none⟩=some v)→cA (gk C) args vs→
    Calls P f vs w fun e w'=> ∃v C',e= .returned v∧Ext (gk C) w (gk C') w'∧cj (gk C') d v∧Ej w.heap.size w' C' d v
def ij:aaY→aaY→Bool
  | .i8,.i8| .i16,.i16| .i32,.i32| .i64,.i64| .u8,.u8| .u16,.u16| .u32,.u32| .u64,.u64=>true
  |_,_=>false
def LK.fits:LK→D→Bool
  | .bool,.bool _=>true
  | .int k,.int k' _=>ij k k'
  | .str,.str _=>true
  |_,_=>false
def kC:List LK→List D→Bool
  | [],[]=>true
  |k::ks,d::ds=>k.fits d&&kC ks ds
  |_,_=>false
def mg:D→D→Bool
  | .bool a,.bool b=>a==b
  | .int _ a,.int _ b=>a==b
  | .str a,.str b=>a.toList==b.toList
  |_,_=>false
def br:List D→List D→Bool
  | [],[]=>true
  |a::x,b::y=>mg a b&&br x y
  |_,_=>false
def rC:Value→Value→Bool
  | .bool a,.bool b=>a==b
  | .int _ a,.int _ b=>a==b
  | .string a,.string b=>a.toList==b.toList
  |_,_=>false
def ea:List Value→List Value→Bool
  | [],[]=>true
  |a::x,b::y=>rC a b&&ea x y
  |_,_=>false
def vn (x:List Value):List MapEntry→Nat→Option (Nat×Value)
  | [],_=>none
  |e::es,i=>match e.key with
    | .agg y=>match ea x y.toList with|true=>some (i,e.val)|false=>vn x es (i+1)
    |_=>none
def KJ:List LK→Bool
  | []=>true
  | .str::_=>false
  |_::r=>KJ r
structure yF (P:Program) (t:TypeId) (ks:List LK):Prop where
  Sk:KJ ks=true
  check:∀(w:World) (em:Bool) (xs:Array Value),eM ks xs.toList→(Instr.checkKey em 10000 t (.agg xs)).run P w= .ok () w
  find:∀(w:World) (x:Array Value) (l:List MapEntry),eM ks x.toList→(∀e∈l,∃y:Array Value,e.key= .agg y∧eM ks y.toList)→(Instr.findKey t (.agg x) l).run P w= .ok (vn x.toList l 0) w
structure kI (P:Program) (t:TypeId) (ks:List LK):Prop where
  plain:P.eqGuardType P.depth t=false
  eq:∀(xs ys:Array Value) (w:World),eM ks xs.toList→eM ks ys.toList→(Op.equalIn 10000 t (.agg xs) (.agg ys)).run P w= .ok (ea xs.toList ys.toList) w
inductive Ex where
  |norm
  |exit (id:Nat)
  |ret
def Ex.is:Ex→Exit→Prop
  | .norm,.normal=>True
  | .exit i,.exit j=>i=j
  | .ret,.ret=>True
  |_,_=>False
def bP (s:List Ob):Nat→Ob:=fun i=>s.getD i .dead
def MM.upto (M:MM) (n:Nat):Prop:=(∀id,n≤id→M.box id=none)∧∀id v,n≤id→M.b9 id v=none
def FW (r:Option Nat):Fence:= { Fence.wide with round:=r }
def iL (K:Nat→Prop) (M:MM) (ds:List Deferred):Prop:=(∀b,K b→M.fW b)∧∃bs:List Nat,ds=bs.map (fun b=> { target:= .collected b,args:= #[] })∧bs.Nodup∧∀b∈bs,M.fW b∧¬K b
theorem iL.mono {K:Nat→Prop} {M M':MM} {ds:List Deferred} (h:iL K M ds) (le:∀b,M.fW b→M'.fW b):iL K M' ds:=
 let ⟨h0,bs,h1,h2,h3⟩:=h
 ⟨fun b k=>le b (h0 b k),bs,h1,h2,fun b hb=>⟨le b (h3 b hb).1,(h3 b hb).2⟩⟩
structure bJ (P:Program) (rd:Bool) (c:Code) (t:List D) (s:List Ob) (ex:Ex) (t':List D) (s':List Ob):Prop where
  run:∀(r:Option Nat),(rd=false→r=none)→∀(K:Nat→Prop) (w0:eW) (M:MM) (own:Nat→Option Nat) (w:World) (a:Act),cn w0 M own (bP s) w→M.upto s.length→cA M t a.tmps→iL K M a.defers→
    c.wpIn (FW r) 0 P (fun e a' w'=>ex.is e∧∃M' Tj,cn w0 M' Tj (bP s') w'∧M'.upto s'.length∧M.Le M'∧cA M' t' a'.tmps∧iL K M' a'.defers) a w
  len:s.length≤s'.length
abbrev mw (P:Program):=bJ P true
theorem bJ.any {P:Program} {c:Code} {t:List D} {s:List Ob} {ex:Ex} {t':List D} {s':List Ob} (h:mw P c t s ex t' s') (rd:Bool):bJ P rd c t s ex t' s':=
 ⟨fun r _=>h.run r (fun e=>by cases e),h.len⟩
def MM.cut (M:MM) (n:Nat):MM:=⟨M.cell,fun i=>if i<n then M.box i else none,fun i v=>if i<n then M.b9 i v else none,M.fW⟩
structure cS (P:Program) (n0:Nat) (c:Code) (t:List D) (s:List Ob) (ex:Ex) (t':List D) (s':List Ob):Prop where
  run:∀(r:Option Nat) (K:Nat→Prop) (w0:eW) (M:MM) (own:Nat→Option Nat) (w:World) (a:Act),cn w0 M own (bP s) w→M.upto s.length→cA M t a.tmps→iL K M a.defers→
    c.wpIn (FW r) 0 P (fun e a' w'=>ex.is e∧∃M' Tj,cn w0 M' Tj (bP s') w'∧M'.upto s'.length∧(M.cut n0).Le M'∧cA M' t' a'.tmps∧iL K M' a'.defers) a w
  len:n0≤s'.length
structure HS where
  aV:List Nat
  O3:List Nat
  nR:List (Nat×Nat)
def pv:List (Int×D)→Int→Option D
  | [],_=>none
  |(a,d)::r,n=>match n==a with|true=>some d|false=>pv r n
def nM:List (Int×D)→Int→D→List (Int×D)
  | [],n,v=> [(n,v)]
  |(a,d)::r,n,v=>match n==a with|true=>(n,v)::r|false=>(a,d)::nM r n v
def N4:List (List D×D)→List D→Option D
  | [],_=>none
  |(a,d)::r,n=>match br n a with|true=>some d|false=>N4 r n
def PY:List (List D×D)→List D→D→List (List D×D)
  | [],n,v=> [(n,v)]
  |(a,d)::r,n,v=>match br n a with|true=>(n,v)::r|false=>(a,d)::PY r n v
def HB:List (Int×D)→Int→Nat
  | [],_=>0
  |(a,_)::r,n=>match n==a with|true=>0|false=>HB r n+1
def RI:List (List D×D)→List D→Nat
  | [],_=>0
  |(a,_)::r,n=>match br n a with|true=>0|false=>RI r n+1
def Ri {α:Type} :List (α×D)→Nat→D→List (α×D)
  | [],_,_=> []
  |(a,_)::r,0,v=>(a,v)::r
  |e::r,i+1,v=>e::Ri r i v
def LK.same:LK→LK→Bool
  | .bool,.bool=>true
  | .int k,.int k'=>ij k k'
  | .str,.str=>true
  |_,_=>false
def BE:List LK→List LK→Bool
  | [],[]=>true
  |a::x,b::y=>a.same b&&BE x y
  |_,_=>false
structure ao (P:Program) (f:FuncId) (args:List D) (s:List Ob) (d:D) (s':List Ob):Prop where
  Ij:R1 P f
  len:s.length≤s'.length
  run:∀(w0:eW) (M:MM) (own:Nat→Option Nat) (w:World) (vs:Array Value),cn w0 M own (bP s) w→M.upto s.length→cA M args vs→
    Calls P f vs w fun e w'=> ∃v M' Tj,e= .returned v∧cn w0 M' Tj (bP s') w'∧M'.upto s'.length∧M.Le M'∧cj M' d v
def db:List D→Option (List D)
  | []=>some []
  |d::r=>match d.cells,db r with
    |some c,some cs=>some (c++cs)
    |_,_=>none
inductive Ev (P:Program) where
  |ret (g:FuncId) (as:List D) (d:D) (h:aQ P g as d)
  |inl
  |aI (g:FuncId) (ar:List D) (s:List Ob) (d:D) (s':List Ob) (h:ao P g ar s d s')
  |LG (g:FuncId) (ar:List D) (n:Nat) (cs:List D) (h:ao P g ar [] (.dz 0 1 n) [.box cs]) (hb:∀d∈cs,∃k:Int,d= .int .u8 k)
  |cM (q v:Bool) (h:q=v)
  |len (n m:Nat) (h:n≤m)
  |get (l:List D) (i:Nat) (d:D) (h:l[i]? =some d)
  |fU (l:List D) (i n:Nat) (l':List D) (h:(l.drop i).take n=l'∧i+n≤l.length)
  |eU (l:List D) (i:Nat) (xs l':List D) (h:l.take i++(xs++l.drop (i+xs.length))=l'∧i+xs.length≤l.length)
  |flat (t:TypeId) (ks:List LK) (h:kI P t ks)
  |aV (l:List (Nat×Ob))
  |fR (cs:List (Nat×Nat×D)) (l:List (Nat×Ob))
  |j5 (es:List (Int×D)) (n:Int) (r:Option D) (h:pv es n=r)
  |Rz (t:TypeId) (ks:List LK) (h:yF P t ks)
  |N2 (es:List (List D×D)) (n:List D) (r:Option D) (h:N4 es n=r)
  |code (c:Code) (t:List D) (s:List Ob) (ex:Ex) (t':List D) (s':List Ob) (h:mw P c t s ex t' s')
  |go (n:Nat)
  |Mp (aV:List Nat)
  |raw
  |cl (cs:List D) (h:∀c∈cs,c.clean=true)
  |L9 (ys nc:List D) (h:db ys=some nc)
  |head (sp:HS) (n0:Nat) (c:Code) (t:List D) (s:List Ob) (ex:Ex) (t':List D) (s':List Ob) (h:cS P n0 c t s ex t' s')
  |dQ (sp:HS) (n0:Nat) (c:Code) (t:List D) (s:List Ob) (ex:Ex) (t':List D) (s':List Ob) (h:cS P n0 c t s ex t' s')
structure Z (P:Program) where
  o:List (Ev P)
  c:Prop
section
variable {ρ:Type} {P:Program}
def jC (b:Bool) (k:Option ρ):Option ρ:=match b with|true=>k|false=>none
def ask (z:Z P) (b:Bool) (k:Z P→Option ρ):Option ρ:=
  match z.o with
  | .cM q true _::r=>k ⟨r,(q=b)∧z.c⟩
  |_=>none
def tM (z:Z P) (n:Nat) (m:Nat) (k:Z P→Option ρ):Option ρ:=
  match z.o with
  | .len n' m' _::r=>k ⟨r,(n'=n∧m'=m)∧z.c⟩
  |_=>none
def branch (z:Z P) (b:Bool) (k1 k2:Z P→Option ρ):Option ρ:=
  match z.o with
  | .cM q v _::r=>match v with
    |true=>k1 ⟨r,(q=b)∧z.c⟩
    |false=>k2 ⟨r,(q=b)∧z.c⟩
  |_=>none
def na (z:Z P) (still:Bool) (b:Bool) (k:Z P→Option ρ):Option ρ:=
  match still with
  |true=>jC b (k z)
  |false=>ask z b k
def pick (z:Z P) (l:List D) (i:Nat) (k:Z P→D→Option ρ):Option ρ:=
  match z.o with
  | .get l' i' d _::r=>k ⟨r,(l'=l∧i'=i)∧z.c⟩ d
  |_=>match l[i]? with
    |some d=>k z d
    |none=>none
def Li (z:Z P) (ys:List D) (k:Z P→List D→Option ρ):Option ρ:=
  match z.o with
  | .L9 XT nc _::r=>k ⟨r,(XT=ys)∧z.c⟩ nc
  |_=>match db ys with
    |some nc=>k z nc
    |none=>none
def Lh (z:Z P) (ys:List D) (k:Z P→List D→Option ρ):Option ρ:=
  match z.o with
  | .L9 XT nc _::r=>ask ⟨r,(XT=ys)∧z.c⟩ (Nat.blt 0 ys.length) fun z=>k z nc
  |_=>match db ys with
    |some nc=>jC (!ys.isEmpty) (k z nc)
    |none=>none
def KN (z:Z P) (es:List (Int×D)) (n:Int) (k:Z P→Option D→Option ρ):Option ρ:=
  match z.o with
  | .j5 Yk n' r _::rest=>k ⟨rest,(Yk=es∧n'=n)∧z.c⟩ r
  |_=>none
def O9 (z:Z P) (es:List (List D×D)) (n:List D) (k:Z P→Option D→Option ρ):Option ρ:=
  match z.o with
  | .N2 Yk n' r _::rest=>k ⟨rest,(Yk=es∧n'=n)∧z.c⟩ r
  |_=>none
def uU (z:Z P) (t:TypeId) (k:Z P→List LK→Option ρ):Option ρ:=none
def uH:Value→Option D
  | .bool b=>some (.bool b)
  | .int k n=>some (.int k n)
  | .string s=>some (.str s)
  | .pointer none=>some .gA
  | .slice none 0 0=>some (.bc .tight 0 [])
  | .nilFunc=>some .cg
  |_=>none
def jU:List Value→Option (List D)
  | []=>some []
  |v::r=>match uH v,jU r with
    |some d,some l=>some (d::l)
    |_,_=>none
def yI:List Value→List D
  | []=> []
  |v::r=>(match uH v with|some d=>d|none=> .undef)::yI r
def hP:Value→D
  | .agg cs=> .agg (yI cs.toList)
  |v=>match uH v with|some d=>d|none=> .undef
def cP (t:List D):Operand→D
  | .tmp i=>t.getD i .undef
  | .const v=>hP v
  | .global _=> .undef
  | .func f=> .fn (.func f) [] []
def isConst:Operand→Bool
  | .const _=>true
  |_=>false
def dR:TypeDesc→Bool
  | .struct _=>true
  | .array _ _=>true
  |_=>false
def known (P:Program) (t:TypeId):Bool:=(P.info? t).isSome
def kM (P:Program) (t:TypeId):Option D:=
  match P.info? t with
  |some i=>match i.zero with|some v=>some (hP v)|none=>none
  |none=>none
def IY (P:Program) (t:TypeId):Bool:=
  match P.info? t with
  |some i=>match i.zero with|some v=>aaa v.cells.size 1|none=>false
  |none=>false
def j6 (P:Program) (t:TypeId):Bool:=
  match P.info? t with
  |some i=>match i.zero with|some v=>aaa v.cells.size i.size|none=>false
  |none=>false
def uN (P:Program) (z:Z P) (dyn:Bool) (t:TypeId) (cs:List D) (off:Nat) (k:Z P→D→Option ρ):Option ρ:=
  match P.underlying t with
  |none=>none
  |some d=>match dR d with
    |true=>jC (known P t) (match dyn with
      |false=>jC (aaP (off+P.cellsOf t) cs.length) (k z (.agg ((cs.drop off).take (P.cellsOf t))))
      |true=>match z.o with
        | .fU l i n l' _::r=>k ⟨r,(l=cs∧i=off∧n=P.cellsOf t)∧z.c⟩ (.agg l')
        |_=>none)
    |false=>match dyn with
      |false=>match cs[off]? with|some x=>k z x|none=>none
      |true=>pick z cs off k
def jx (cs:List D) (off:Nat) (xs:List D):List D:=cs.take off++(xs++cs.drop (off+xs.length))
def xw (x:D) (k:D→Option ρ):Option ρ:=match x.plain with|true=>k x|false=>jC x.clean (k x.bn)
def Cu (x:D) (k:D→Option ρ):Option ρ:=match x with
  | .ptr _ _ off=>k (.eY false (.agg []) off)
  | .eY q y off=>k (.eY q y off)
  |x=>xw x k
def pg:List D→(List D→Option ρ)→Option ρ
  | [],k=>k []
  |x::r,k=>Cu x fun y=>pg r fun l=>k (y::l)
def vo (place:Nat→Option (Nat×Nat)) (cells:List D):List (Nat×D)→Option (List D)
  | []=>some cells
  |(i,v)::rest=>match place i,v.cells with
    |some (off,size),some vc=>match aaa vc.length size&&aaP (off+size) cells.length with
      |true=>vo place (jx cells off vc) rest
      |false=>none
    |_,_=>none
def DY (P:Program) (t:TypeId) (parts:List (Nat×D)):Option D:=
  match kM P t with
  |none=>none
  |some z=>match z.cells with
    |none=>none
    |some zero=>match P.underlying t with
      |some (.struct fields)=>match fields.toList.all fun f=>known P f.type with
        |true=>match vo (fun i=>((fields[i]?).map fun f=>(f.offset,P.cellsOf f.type))) zero parts with
          |some cs=>some (.agg cs)
          |none=>none
        |false=>none
      |some (.array _ elem)=>match known P elem with
        |true=>match vo (fun i=>some (i*P.cellsOf elem,P.cellsOf elem)) zero parts with
          |some cs=>some (.agg cs)
          |none=>none
        |false=>none
      |_=>none
def mO (size:Nat) (xs:List D):List (Nat×D)→(List D→Option ρ)→Option ρ
  | [],k=>k xs
  |(i,v)::rest,k=>xw v fun v'=>match v'.cells with
    |some vc=>jC (aaa vc.length size&&Nat.blt i xs.length&&vc.all storable) (mO size (xs.set i v') rest k)
    |none=>none
def CS (z:Z P) (still:Bool) (op:BinOp) (k:aaY) (a b:Int) (K:Z P→D→Option ρ):Option ρ:=
  match op with
  | .add=>K z (.int k (k.wrap (a+b)))
  | .sub=>K z (.int k (k.wrap (a - b)))
  | .mul=>K z (.int k (k.wrap (a*b)))
  | .quo=>na z still (decide (b≠0)) fun z=>K z (.int k (k.wrap (a.tdiv b)))
  | .rem=>na z still (decide (b≠0)) fun z=>K z (.int k (a.tmod b))
  | .and=>K z (.int k (k.wrap (Zw k.bits a&&&Zw k.bits b).toNat))
  | .or=>K z (.int k (k.wrap (Zw k.bits a|||Zw k.bits b).toNat))
  | .xor=>K z (.int k (k.wrap (Zw k.bits a^^^Zw k.bits b).toNat))
  | .andNot=>K z (.int k (k.wrap (Zw k.bits a&&& ~~~Zw k.bits b).toNat))
  | .eql=>K z (.bool (a==b))
  | .neq=>K z (.bool (a !=b))
  | .lss=>K z (.bool (decide (a<b)))
  | .leq=>K z (.bool (decide (a≤b)))
  | .gtr=>K z (.bool (decide (a>b)))
  | .geq=>K z (.bool (decide (a≥b)))
  |_=>none
def Rd (P:Program) (z:Z P) (t:TypeId) (x y:D) (K:Z P→Bool→Option ρ):Option ρ:=
  match x,y with
  | .bool a,.bool b=>match P.underlying t with|some .bool=>K z (a==b)|_=>none
  | .agg xs,.agg ys=>match z.o with
    | .flat t' ks _::r=>jC (aaa t' t&&(kC ks xs&&kC ks ys)) (K ⟨r,z.c⟩ (br xs ys))
    |_=>none
  | .cg,.cg=>match P.underlying t with|some (.func _ _ _)=>K z true|_=>none
  | .cg,.fn _ _ _=>match P.underlying t with|some (.func _ _ _)=>K z false|_=>none
  | .fn _ _ _,.cg=>match P.underlying t with|some (.func _ _ _)=>K z false|_=>none
  | .gA,.gA=>match P.underlying t with|some (.pointer _)=>K z true|_=>none
  | .ptr _ _ _,.gA=>match P.underlying t with|some (.pointer _)=>K z false|_=>none
  | .eY _ _ _,.gA=>match P.underlying t with|some (.pointer _)=>K z false|_=>none
  |_,_=>none
def PE (P:Program) (z:Z P) (still:Bool) (op:BinOp) (t:TypeId) (x y:D) (K:Z P→D→Option ρ):Option ρ:=
  match x,y with
  | .int k a,.int k' b=>match op with
    | .shl=>na z still (decide (0≤b)) fun z=>K z (.int k (k.wrap (a*2^(min b.toNat k.bits))))
    | .shr=>na z still (decide (0≤b)) fun z=>K z (.int k (a.fdiv (2^(min b.toNat k.bits))))
    |op=>jC (ij k k') (CS z still op k a b K)
  | .str a,.str b=>match op with
    | .eql=>K z (.bool (a.toList==b.toList))
    | .neq=>K z (.bool (!(a.toList==b.toList)))
    |_=>none
  |x,y=>match op with
    | .eql=>Rd P z t x y fun z b=>K z (.bool b)
    | .neq=>Rd P z t x y fun z b=>K z (.bool (!b))
    |_=>none
def Re (op:UnOp) (x:D) (K:D→Option ρ):Option ρ:=
  match op,x with
  | .neg,.int k n=>K (.int k (k.wrap (0 - n)))
  | .xor,.int k n=>K (.int k (k.wrap (Zw k.bits (if k.signed then -1 else k.max)^^^Zw k.bits n).toNat))
  | .not,.bool b=>K (.bool !b)
  |_,_=>none
def isByte:D→Bool
  | .int .u8 _=>true
  |_=>false
def Be (b:UInt8):D:= .int .u8 b.toNat
def byteOf:D→UInt8
  | .int _ n=>UInt8.ofNat n.toNat
  |_=>0
def lg (s:ByteArray):List D:=s.data.toList.map Be
def iG (xs:List D):ByteArray:=⟨(xs.map byteOf).toArray⟩
inductive jT where
  |pure (d:D)
  |read (id:Nat) (o:Ob) (d:D)
  |ji (id j:Nat) (d:D)
  |gQ (id:Nat) (o o':Ob) (d:D)
  |new (o:Ob) (mk:Nat→D)
  |all (s:List Ob) (d:D)
def LA (P:Program) (z:Z P) (src dst:TypeId) (x:D) (K:Z P→jT→Option ρ):Option ρ:=
  match P.underlying src,P.underlying dst,x with
  |some _,some (.int k),.int _ n=>K z (.pure (.int k (k.wrap n)))
  |some .string,some .string,.str s=>K z (.pure (.str s))
  |some .string,some (.slice e),.str s=>match P.underlying e with
    |some (.int .u8)=>jC (aaP s.size 1099511627776) (K z (.new (.ey 0 1) fun id=> .bc (.tok id 0) 1 (lg s)))
    |_=>none
  |some (.slice e),some .string,.bc _ _ xs=>match P.underlying e with
    |some (.int .u8)=>ask z (xs.all isByte) fun z=>K z (.pure (.str (iG xs)))
    |_=>none
  |_,_,_=>none
def idx (x:D) (K:Int→Option ρ):Option ρ:=match x with| .int _ n=>K n|_=>none
def jl (t:List D) (o:Option Operand) (K:Option Int→Option ρ):Option ρ:=
  match o with
  |none=>K none
  |some x=>idx (cP t x) fun n=>K (some n)
def BC (z:Z P) (o:lP) (sz:Nat) (xs:List D) (lo hi mx:Option Int) (K:Z P→D→Option ρ):Option ρ:=
  match lo,hi,mx with
  |none,none,none=>K z (.bc o.bn sz xs)
  |some l,none,none=>ask z (decide (0≤l∧l≤xs.length)) fun z=>K z (.bc o.bn sz (xs.drop l.toNat))
  |none,some h,none=>ask z (decide (0≤h∧h≤xs.length)) fun z=>K z (.bc .no sz (xs.take h.toNat))
  |some l,some h,none=>ask z (decide (0≤l∧l≤h∧h≤xs.length)) fun z=>K z (.bc .no sz ((xs.take h.toNat).drop l.toNat))
  |none,some h,some m=>ask z (decide (0≤h∧h≤xs.length∧m=h)) fun z=>K z (.bc .tight sz (xs.take h.toNat))
  |some l,some h,some m=>ask z (decide (0≤l∧l≤h∧h≤xs.length∧m=h)) fun z=>K z (.bc .tight sz ((xs.take h.toNat).drop l.toNat))
  |_,_,_=>none
def Ji (z:Z P) (id off sz n:Nat) (cp:Option Nat) (lo hi mx:Option Int) (K:Z P→D→Option ρ):Option ρ:=
  match lo,hi,mx with
  |none,none,none=>K z (.sub id off sz n cp)
  |some l,none,none=>ask z (decide (0≤l∧l≤n)) fun z=>K z (.sub id (off+l.toNat*sz) sz (n - l.toNat) (cp.map (· - l.toNat)))
  |none,some h,none=>ask z (decide (0≤h∧h≤n)) fun z=>K z (.sub id off sz h.toNat cp)
  |some l,some h,none=>ask z (decide (0≤l∧l≤h∧h≤n)) fun z=>K z (.sub id (off+l.toNat*sz) sz (h.toNat - l.toNat) (cp.map (· - l.toNat)))
  |none,some h,some m=>ask z (decide (0≤h∧h≤m∧m≤n)) fun z=>K z (.sub id off sz h.toNat (some m.toNat))
  |some l,some h,some m=>ask z (decide (0≤l∧l≤h∧h≤m∧m≤n)) fun z=>K z (.sub id (off+l.toNat*sz) sz (h.toNat - l.toNat) (some (m.toNat - l.toNat)))
  |_,_,_=>none
def sX (P:Program) (z:Z P) (still:Bool) (t:TypeId) (x ix:D) (K:Z P→D→Option ρ):Option ρ:=
  match ix with
  | .int _ i=>match P.underlying t,x with
    |some (.array len elem),.ptr dyn id off=>jC (known P elem) (na z still (decide (0≤i∧i<len)) fun z=>K z (.ptr (dyn|| !still) id (off+i.toNat*P.cellsOf elem)))
    |some (.array len elem),.eY dyn y off=>jC (known P elem) (na z still (decide (0≤i∧i<len)) fun z=>K z (.eY (dyn|| !still) y (off+i.toNat*P.cellsOf elem)))
    |some (.slice elem),.bc _ sz xs=>jC (known P elem&&aaa (P.cellsOf elem) sz) (na z still (decide (0≤i)) fun z=>pick z xs i.toNat fun z y=>K z (.eY false y 0))
    |some (.slice elem),.dz id sz n=>jC (known P elem&&aaa (P.cellsOf elem) sz) (ask z (decide (0≤i∧i<n)) fun z=>K z (.ptr true id (i.toNat*sz)))
    |some (.slice elem),.sub id off sz n _=>jC (known P elem&&aaa (P.cellsOf elem) sz) (ask z (decide (0≤i∧i<n)) fun z=>K z (.ptr true id (off+i.toNat*sz)))
    |_,_=>none
  |_=>none
def K0 (P:Program) (z:Z P) (still:Bool) (t:TypeId) (x ix:D) (K:Z P→D→Option ρ):Option ρ:=
  match ix with
  | .int _ i=>match P.underlying t,x with
    |some (.array len elem),.agg cs=>jC (known P elem) (na z still (decide (0≤i∧i<len)) fun z=>uN P z (!still) elem cs (i.toNat*P.cellsOf elem) K)
    |some .string,.str s=>na z still (decide (0≤i)) fun z=>pick z (lg s) i.toNat K
    |_,_=>none
  |_=>none
def NW (P:Program) (t:TypeId):Bool:=match P.underlying t with
  |some e=> !dR e
  |none=>false
def N5 (P:Program) (z:Z P) (t:TypeId) (x:D) (s:List Ob) (K:Z P→jT→Option ρ):Option ρ:=
  match x with
  | .ptr dyn id off=>match s.getD id .dead with
    | .box cs=>uN P z dyn t cs off fun z d=>K z (match dyn,NW P t with
      |false,true=> .ji id off d
      |_,_=> .read id (.box cs) d)
    |_=>none
  | .eY dyn y off=>match y.cells with
    |some cs=>uN P z dyn t cs off fun z d=>K z (.pure d)
    |none=>none
  |_=>none
def Jk (P:Program) (z:Z P) (t:TypeId) (x v:D) (s:List Ob) (K:Z P→jT→Option ρ):Option ρ:=
  match x with
  | .ptr dyn id off=>match s.getD id .dead with
    | .box cs=>match v.cells with
      |some vc=>jC (known P t&&aaa vc.length (P.cellsOf t)&&vc.all storable) (match dyn with
        |false=>jC (aaP (off+vc.length) cs.length) (K z (.gQ id (.box cs) (.box (jx cs off vc)) .undef))
        |true=>match z.o with
          | .eU l i xs l' _::r=>K ⟨r,(l=cs∧i=off∧xs=vc)∧z.c⟩ (.gQ id (.box cs) (.box l') .undef)
          |_=>none)
      |none=>none
    |_=>none
  |_=>none
def tw (P:Program) (s:TypeId) (x:D) (f:Nat) (K:D→Option ρ):Option ρ:=
  match P.underlying s with
  |some (.struct fields)=>match fields[f]? with
    |some fd=>jC (known P fd.type&&Nat.blt 0 (P.cellsOf fd.type)) (match x with
      | .ptr dyn id off=>K (.ptr dyn id (off+fd.offset))
      | .eY dyn y off=>K (.eY dyn y (off+fd.offset))
      |_=>none)
    |none=>none
  |_=>none
def dK:Nat:=2147483648
def uw (sz:Nat) (xs:List D) (size:Nat):Bool:=aaa sz size||xs.isEmpty
def Ep (P:Program) (z:Z P) (elem:TypeId) (id off sz n:Nat) (st:List Ob) (K:Z P→jT→Option ρ):Option ρ:=
  match st.getD id .dead with
  | .box cs=>jC (j6 P elem&&aaa sz (P.cellsOf elem)&&aaP (P.bytesOf elem) 65536)
    (tM z n dK fun z=>match z.o with
      | .go _::r=>match aaa sz 1 with
        |true=>(match r with
          | .fU l i k nc _::r=>ask ⟨r,(l=cs∧i=off∧k=n*sz)∧z.c⟩ (nc.all isByte) fun z=>K z (.all (st++ [.ey 0 sz]) (.bc (.tok st.length 0) sz nc))
          |_=>none)
        |false=>none
      |_=>none)
  |_=>none
def KY (P:Program) (z:Z P) (elem:TypeId) (id off sz n c WO UT Un n2:Nat) (st:List Ob) (K:Z P→jT→Option ρ):Option ρ:=none
def N9 (P:Program) (z:Z P) (elem:TypeId) (id sz n WO UT Un n2:Nat) (st:List Ob) (K:Z P→jT→Option ρ):Option ρ:=none
def yx (P:Program) (z:Z P) (ts:Array TypeId) (s x:D) (st:List Ob) (K:Z P→jT→Option ρ):Option ρ:=
  match ts.toList with
  |ty::xt::_=>match P.underlying ty,P.underlying xt with
    |some (.slice elem),some (.slice _)=>match s,x with
      | .bc o sz xs,.bc _ TH ys=>match z.o with
        | .go 0::r=>match o,xs with
          | .tight,[]=>jC (j6 P elem&&uw TH ys (P.cellsOf elem)&&aaP (P.bytesOf elem) 65536)
            (tM ⟨r,z.c⟩ ys.length dK fun z=>Lh z ys fun z nc=>K z (.new (.box nc) fun id=> .dz id (P.cellsOf elem) ys.length))
          |_,_=>none
        | .go (_+1)::r=>none
        |_=>jC (known P elem&&j6 P elem&&uw sz xs (P.cellsOf elem)&&uw TH ys (P.cellsOf elem)&&aaP (P.bytesOf elem) 65536)
          (tM z (xs.length+ys.length) dK fun z=>match o with
            | .tight=>K z (.new (.ey 0 (P.cellsOf elem)) fun id=> .bc (.tok id 0) (P.cellsOf elem) (xs++ys))
            | .tok t v=>match st.getD t .dead with
              | .ey v' Un=>jC (aaa v' v&&aaa Un (P.cellsOf elem)) (K z (.gQ t (.ey v' Un) (.ey (v+1) Un) (.bc (.tok t (v+1)) (P.cellsOf elem) (xs++ys))))
              |_=>none
            |_=>none)
      | .dz id sz n,.bc _ TH ys=>none
      | .dz id sz n,.sub WO UT Un n2 _=>N9 P z elem id sz n WO UT Un n2 st K
      | .bc .tight _ [],.dz id sz n=>Ep P z elem id 0 sz n st K
      | .bc .tight _ [],.sub id off sz n _=>Ep P z elem id off sz n st K
      | .sub id off sz n (some c),.sub WO UT Un n2 _=>KY P z elem id off sz n c WO UT Un n2 st K
      |_,_=>none
    |_,_=>none
  |_=>none
def rF (z:Z P) (st:List Ob) (id off n size:Nat) (K:Z P→List D→Nat→Option ρ):Option ρ:=
  match st.getD id .dead with
  | .box cs=>match z.o with
    | .fU l i k nc _::r=>K ⟨r,(l=cs∧i=off∧k=n*size)∧z.c⟩ nc n
    |_=>none
  |_=>none
def Ot (z:Z P) (st:List Ob) (x:D) (size:Nat) (K:Z P→List D→Nat→Option ρ):Option ρ:=
  match x with
  | .bc _ sz ys=>jC (uw sz ys size) (Li z ys fun z nc=>K z nc ys.length)
  | .dz id sz n=>jC (aaa sz size) (rF z st id 0 n size K)
  | .sub id off sz n _=>jC (aaa sz size) (rF z st id off n size K)
  |_=>none
def yf (z:Z P) (st:List Ob) (id off n:Nat) (src:D) (K:Z P→jT→Option ρ):Option ρ:=
  Ot z st src 1 fun z nc m=>ask z (aaP m n) fun z=>ask z (nc.all isByte) fun z=>match st.getD id .dead with
    | .box cs=>match z.o with
      | .eU l i xs l' _::r=>K ⟨r,(l=cs∧i=off∧xs=nc)∧z.c⟩ (.all (st.set id (.box l')) (.int .i64 m))
      |_=>none
    |_=>none
def Lz (P:Program) (z:Z P) (ts:Array TypeId) (dst src:D) (st:List Ob) (K:Z P→jT→Option ρ):Option ρ:=
  match ts.toList with
  |ty::_=>match P.underlying ty with
    |some (.slice e)=>jC (known P e&&aaa (P.cellsOf e) 1) (match dst with
      | .dz id sz n=>jC (aaa sz 1) (yf z st id 0 n src K)
      | .sub id off sz n _=>jC (aaa sz 1) (yf z st id off n src K)
      |_=>none)
    |_=>none
  |_=>none
def Pk (P:Program) (t:TypeId) (x:D) (K:D→Option ρ):Option ρ:=
  match P.underlying t,x with
  |some .string,.str s=>K (.int .i64 s.size)
  |some (.array n _),_=>K (.int .i64 n)
  |some (.slice _),.bc _ _ xs=>K (.int .i64 xs.length)
  |some (.slice _),.dz _ _ n=>K (.int .i64 n)
  |some (.slice _),.sub _ _ _ n _=>K (.int .i64 n)
  |_,_=>none
def O7 (x y:D) (K:D→Option ρ):Option ρ:=
  match x,y with
  | .int k a,.int _ b=>K (.int k (if b<a then b else a))
  |_,_=>none
def Pc (x y:D) (K:D→Option ρ):Option ρ:=
  match x,y with
  | .int k a,.int _ b=>K (.int k (if b>a then b else a))
  |_,_=>none
def sU:D→Bool
  | .int _ _=>true
  | .bool _=>true
  | .str _=>true
  |_=>false
def kX (P:Program) (t:TypeId):Option (aaY×TypeId):=match P.underlying t with
  |some (.map kt et)=>match P.underlying kt with
    |some (.int k)=>some (k,et)
    |_=>none
  |_=>none
def xQ (P:Program) (t:TypeId):Option (TypeId×TypeId):=match P.underlying t with
  |some (.map kt et)=>some (kt,et)
  |_=>none
def rq (P:Program) (z:Z P) (t:TypeId) (K:Z P→jT→Option ρ):Option ρ:=
  match kX P t with
  |some (k,_)=>K z (.new (.mp k []) fun id=> .gw id)
  |none=>match xQ P t with
    |some (kt,_)=>uU z kt fun z ks=>K z (.new (.mf ks []) fun id=> .gw id)
    |none=>none
def rp (P:Program) (z:Z P) (t:TypeId) (m k v:D) (s:List Ob) (K:Z P→jT→Option ρ):Option ρ:=
  match m,k with
  | .gw id,.int q n=>match s.getD id .dead,kX P t with
    | .mp q' es,some (q2,_)=>jC (ij q q'&&ij q q2&&sU v) (K z (.gQ id (.mp q' es) (.mp q' (nM es n v)) .undef))
    |_,_=>none
  | .gw id,.agg cs=>match s.getD id .dead,xQ P t with
    | .mf ks es,some (kt,_)=>uU z kt fun z Wu=>jC (BE Wu ks&&kC ks cs&&sU v) (K z (.gQ id (.mf ks es) (.mf ks (PY es cs v)) .undef))
    |_,_=>none
  |_,_=>none
def xR (P:Program) (z:Z P) (t:TypeId) (m k:D) (s:List Ob) (K:Z P→jT→Option ρ):Option ρ:=none
def qj (P:Program) (z:Z P) (m n v:D) (s:List Ob) (K:Z P→jT→Option ρ):Option ρ:=none
def AE (P:Program) (z:Z P) (t:TypeId) (m k:D) (ok:Bool) (s:List Ob) (K:Z P→jT→Option ρ):Option ρ:=
  match m,k with
  | .gw id,.int q n=>match s.getD id .dead,kX P t with
    | .mp q' es,some (q2,et)=>match kM P et with
      |some zd=>jC (ij q q'&&ij q q2) (KN z es n fun z r=>match r,ok with
        |some d,true=>K z (.read id (.mp q' es) (.aL [d,.bool true]))
        |some d,false=>K z (.read id (.mp q' es) d)
        |none,true=>K z (.read id (.mp q' es) (.aL [zd,.bool false]))
        |none,false=>K z (.read id (.mp q' es) zd))
      |none=>none
    |_,_=>none
  | .gw id,.agg cs=>match s.getD id .dead,xQ P t with
    | .mf ks es,some (kt,et)=>match kM P et with
      |some zd=>uU z kt fun z Wu=>jC (BE Wu ks&&kC ks cs) (O9 z es cs fun z r=>match r,ok with
        |some d,true=>K z (.read id (.mf ks es) (.aL [d,.bool true]))
        |some d,false=>K z (.read id (.mf ks es) d)
        |none,true=>K z (.read id (.mf ks es) (.aL [zd,.bool false]))
        |none,false=>K z (.read id (.mf ks es) zd))
      |none=>none
    |_,_=>none
  |_,_=>none
def zW (n:Nat):List D→List D
  | [d]=>Zx n d
  |zc=>(Zx n zc).flatten
def N3 (P:Program) (z:Z P) (t:TypeId) (l c:D) (K:Z P→jT→Option ρ):Option ρ:=
  match P.underlying t,l,c with
  |some (.slice e),.int _ n,.int _ m=>match kM P e with
    |some zd=>match zd.cells with
      |some zc=>match z.o with
        | .go 5::r=>jC (known P e&&aaa zc.length (P.cellsOf e)&&Nat.blt 0 zc.length&&aaP (P.bytesOf e) 65536&&zc.all storable)
          (ask ⟨r,z.c⟩ (decide (0≤n∧n=m∧n≤2147483648)) fun z=>K z (.pure (.bc .tight (P.cellsOf e) (Zx n.toNat zd))))
        |_=>jC (known P e&&aaa zc.length (P.cellsOf e)&&Nat.blt 0 zc.length&&aaP (P.bytesOf e) 65536)
          (ask z (decide (0≤n∧n=m∧n≤2147483648)) fun z=>K z (.new (.box (zW n.toNat zc)) fun id=> .dz id (P.cellsOf e) n.toNat))
      |none=>none
    |none=>none
  |_,_,_=>none
def jr (id:Nat):List D→Option (List D×Nat)
  | []=>none
  | .bc (.fresh sz) TH xs::r=>some (.bc (.tok id 0) TH xs::r.map D.bn,sz)
  |d::r=>match jr id r with
    |some (l,sz)=>some (d::l,sz)
    |none=>none
def ni (id:Nat) (d:D):D×Ob:=
  match d with
  | .bc (.fresh sz) TH xs=>(.bc (.tok id 0) TH xs,.ey 0 sz)
  | .aL ds=>match jr id ds with
    |some (l,sz)=>(.aL l,.ey 0 sz)
    |none=>(.aL ds,.dead)
  |d=>(d,.dead)
mutual
def force:D→(D→Option ρ)→Option ρ
  | .undef,K=>K .undef
  | .int k n,K=>K (.int k n)
  | .bool b,K=>K (.bool b)
  | .str s,K=>K (.str s)
  | .gA,K=>K .gA
  | .ptr dyn id off,K=>K (.ptr dyn id off)
  | .eY dyn x off,K=>K (.eY dyn x off)
  | .gw id,K=>K (.gw id)
  | .jM id,K=>K (.jM id)
  | .dz id sz n,K=>K (.dz id sz n)
  | .sub id off sz n cp,K=>K (.sub id off sz n cp)
  | .bc o sz xs,K=>K (.bc o sz xs)
  | .cg,K=>K .cg
  | .fn f a b,K=>jn a fun a'=>jn b fun b'=>K (.fn f a' b')
  | .agg cs,K=>jn cs fun l=>K (.agg l)
  | .aL cs,K=>jn cs fun l=>K (.aL l)
def jn:List D→(List D→Option ρ)→Option ρ
  | [],K=>K []
  |d::r,K=>force d fun d'=>jn r fun l=>K (d'::l)
end
def F8:List D→Nat→D→(List D→Option ρ)→Option ρ
  | [],_,_,K=>K []
  |_::r,0,d,K=>K (d::r)
  |a::r,i+1,d,K=>F8 r i d fun l=>K (a::l)
def put (t:List D) (dst:Option Nat) (d:D):List D:=match dst with|some i=>t.set i d|none=>t
def nN (t:List D) (dst:Option Nat) (d:D) (K:List D→Option ρ):Option ρ:=match dst with
  |some i=>force d fun d'=>F8 t i d' K
  |none=>K t
def kP:List Ob→Nat→Ob→(List Ob→Option ρ)→Option ρ
  | [],_,_,K=>K []
  |_::r,0,d,K=>K (d::r)
  |a::r,i+1,d,K=>kP r i d fun l=>K (a::l)
def rz:List (List D×D)→(List (List D×D)→Option ρ)→Option ρ
  | [],K=>K []
  |e::r,K=>jn e.1 fun n=>force e.2 fun d=>rz r fun l=>K ((n,d)::l)
def xY:Ob→(Ob→Option ρ)→Option ρ
  | .dead,K=>K .dead
  | .box cs,K=>jn cs fun l=>K (.box l)
  | .ey v sz,K=>K (.ey v sz)
  | .mp k es,K=>K (.mp k es)
  | .mf ks es,K=>rz es fun l=>K (.mf ks l)
  | .lp k t ps ag bd,K=>jn t fun l=>K (.lp k l ps ag bd)
def qc (z:Z P) (o:Ob) (k:Z P→Ob→Option ρ):Option ρ:=match z.o with
  | .raw::r=>k ⟨r,z.c⟩ o
  |_=>xY o fun o2=>k z o2
def oc:List Ob→Ob→(List Ob→Option ρ)→Option ρ
  | [],o,K=>K [o]
  |a::r,o,K=>oc r o fun l=>K (a::l)
inductive Tg where
  |fn (f:FuncId)
  |yl (id:Nat)
abbrev FL (P:Program) (ρ:Type):=Tg→List D→List Ob→Z P→(D→List Ob→Z P→Option ρ)→Option ρ
def Pt (z:Z P) (d:D) (s:List Ob) (K:Z P→jT→Option ρ):Option ρ:=
  match z.o with
  | .go 777777::r=>match d with
    | .dz id sz n=>match s.getD id .dead with
      | .box cs=>jC (aaa sz 1) (ask ⟨r,z.c⟩ (aaa cs.length n&&cs.all isByte) fun z=>K z (.all (s.set id .dead) (.bc .no 1 cs)))
      |_=>none
    |_=>none
  |_=>K z (.all s d)
def FD (P:Program) (inl:FL P ρ) (g:FuncId) (args:List D) (s:List Ob) (z:Z P) (K:Z P→jT→Option ρ):Option ρ:=
  match z.o with
  | .inl::r=>inl (.fn g) args s ⟨r,z.c⟩ fun d s' z=>Pt z d s' K
  | .aI g' ar s1 d WG _::r=>jC (aaa g' g) (K ⟨r,(ar=args∧s1=s)∧z.c⟩ (.all WG d))
  | .LG g' as n cs _ _::r=>jC (aaa g' g) (pg args fun as'=>K ⟨r,(as=as')∧z.c⟩ (.new (.box cs) fun id=> .dz id 1 n))
  | .ret g' as d _::r=>jC (aaa g' g) (pg args fun as'=>K ⟨r,(as=as')∧z.c⟩ (.new (ni 0 d).2 fun id=>(ni id d).1))
  |_=>none
def PU (P:Program) (inl:FL P ρ) (id:Nat) (args:List D) (s:List Ob) (z:Z P) (K:Z P→jT→Option ρ):Option ρ:=
  match z.o with
  | .inl::r=>inl (.yl id) args s ⟨r,z.c⟩ fun d s' z=>K z (.all s' d)
  |_=>none
def Q5 (P:Program) (inl:FL P ρ) (o:Oper) (t:List D) (s:List Ob) (z:Z P) (K:Z P→jT→Option ρ):Option ρ:=
  match o.op with
  | .move x=>K z (.pure (cP t x))
  | .assign x=>K z (.pure (cP t x))
  | .pick c a b=>match cP t c with
    | .bool q=>branch z q (fun z=>K z (.pure (cP t a))) (fun z=>K z (.pure (cP t b)))
    |_=>none
  | .box _ x=>match (cP t x).cells with
    |some cs=>K z (.new (.box cs) fun id=> .ptr false id 0)
    |none=>none
  | .alloc e=>match kM P e with
    |some d=>match d.cells with
      |some cs=>K z (.new (.box cs) fun id=> .ptr false id 0)
      |none=>match IY P e with
        |true=>K z (.new (.box [.undef]) fun id=> .ptr false id 0)
        |false=>none
    |none=>none
  | .build ty parts=>match DY P ty (parts.toList.map fun p=>(p.1,cP t p.2)) with
    |some d=>K z (.pure d)
    |none=>none
  | .buildSlice ty len parts=>match P.underlying ty with
    |some (.slice e)=>match kM P e with
      |some d=>match d.cells with
        | some zc => jC (known P e && aaa zc.length (P.cellsOf e) && aaP (len * P.cellsOf e) 16777216 && d.plain && zc.all storable)
            (mO (P.cellsOf e) (Zx len d) (parts.toList.map fun p=>(p.1,cP t p.2)) fun xs=>K z (.pure (.bc .tight (P.cellsOf e) xs)))
        |none=>none
      |none=>none
    |_=>none
  | .load ty a=>N5 P z ty (cP t a) s K
  | .store ty a x=>Jk P z ty (cP t a) (cP t x) s K
  | .nilCheck x=>match cP t x with
    | .ptr dyn id off=>K z (.pure (.ptr dyn id off))
    | .eY dyn y off=>K z (.pure (.eY dyn y off))
    | .fn (.func g) a b=>K z (.pure (.fn (.func g) a b))
    |_=>none
  | .binOp op ty x y _=>PE P z (isConst y) op ty (cP t x) (cP t y) fun z d=>K z (.pure d)
  | .unOp op _ x=>Re op (cP t x) fun d=>K z (.pure d)
  | .convert src dst x=>LA P z src dst (cP t x) K
  | .makeFunc f first cap=>K z (.pure (.fn f (first.toList.map (cP t)) (cap.toList.map (cP t))))
  | .slice ty x lo hi mx=>match P.underlying ty,cP t x with
    |some (.slice e),.bc o' sz xs=>jC (known P e&&aaa (P.cellsOf e) sz) (jl t lo fun l=>jl t hi fun h=>jl t mx fun m=>BC z o' sz xs l h m fun z d=>K z (.pure d))
    |some (.slice e),.dz id sz n=>jC (known P e&&aaa (P.cellsOf e) sz) (jl t lo fun l=>jl t hi fun h=>jl t mx fun m=>Ji z id 0 sz n none l h m fun z d=>K z (.pure d))
    |some (.slice e),.sub id off sz n cp=>jC (known P e&&aaa (P.cellsOf e) sz) (jl t lo fun l=>jl t hi fun h=>jl t mx fun m=>Ji z id off sz n cp l h m fun z d=>K z (.pure d))
    |some (.array n e),.ptr _ id off=>jC (known P e) (jl t lo fun l=>jl t hi fun h=>jl t mx fun m=>Ji z id off (P.cellsOf e) n (some n) l h m fun z d=>K z (.pure d))
    |_,_=>none
  | .fieldAddr ty x f=>tw P ty (cP t x) f fun d=>K z (.pure d)
  | .field ty x f=>match P.underlying ty,cP t x with
    |some (.struct fields),.agg cs=>match fields[f]? with
      |some fd=>uN P z false fd.type cs fd.offset fun z d=>K z (.pure d)
      |none=>none
    |_,_=>none
  | .indexAddr ty x ix=>sX P z (isConst ix) ty (cP t x) (cP t ix) fun z d=>K z (.pure d)
  | .index ty x ix=>K0 P z (isConst ix) ty (cP t x) (cP t ix) fun z d=>K z (.pure d)
  | .extract x i=>match cP t x with
    | .aL ds=>match ds[i]? with
      |some d=>K z (.pure d)
      |none=>none
    |_=>none
  | .call c=>match c.callee with
    | .builtin .len=>match c.args.toList,c.argTypes.toList with
      |x::_,ty::_=>Pk P ty (cP t x) fun d=>K z (.pure d)
      |_,_=>none
    | .builtin .append=>match c.args.toList with
      |x::y::_=>yx P z c.argTypes (cP t x) (cP t y) s K
      |_=>none
    | .builtin .min=>match c.args.toList with
      | [x,y]=>O7 (cP t x) (cP t y) fun d=>K z (.pure d)
      |_=>none
    | .builtin .max=>match c.args.toList with
      | [x,y]=>Pc (cP t x) (cP t y) fun d=>K z (.pure d)
      |_=>none
    | .builtin .copy=>match c.args.toList with
      |x::y::_=>Lz P z c.argTypes (cP t x) (cP t y) s K
      |_=>none
    | .value f=>match cP t f with
      | .fn (.func g) first cap=>FD P inl g (first++(c.args.toList.map (cP t)++cap)) s z K
      | .jM id=>PU P inl id (c.args.toList.map (cP t)) s z K
      |_=>none
    |_=>none
  | .makeMap ty r=>match r with
    |none=>rq P z ty K
    |some x=>idx (cP t x) fun _=>rq P z ty K
  | .insert ty m k v=>rp P z ty (cP t m) (cP t k) (cP t v) s K
  | .mapUpdate ty m k v=>rp P z ty (cP t m) (cP t k) (cP t v) s K
  | .lookup ty m k ok=>AE P z ty (cP t m) (cP t k) ok s K
  | .mapEntry ty m k=>xR P z ty (cP t m) (cP t k) s K
  | .entryStore _ m n v=>qj P z (cP t m) (cP t n) (cP t v) s K
  | .makeSlice ty l c=>N3 P z ty (cP t l) (cP t c) K
  |_=>none
def kA (ops:Array Oper) (t:List D) (j:Nat):D:=match ops[j]? with
  |some o=>match o.dst with|some i=>t.getD i .undef|none=> .undef
  |none=> .undef
def jQ (i:Nat):List Nat→Bool
  | []=>false
  |a::r=>match aaa a i with|true=>true|false=>jQ i r
inductive FP where
  |O5
  |rd (id:Nat)
  |um (id j:Nat)
  |wr (id:Nat)
  |nw (id:Nat)
  |all (l:List Nat) (kc:List (Nat×Nat))
def Fp (s s':List Ob):List (Nat×Ob)→Prop→Prop
  | [],c=>c
  |(i,o)::r,c=>Fp s s' r ((o=s.getD i .dead∧o=s'.getD i .dead)∧c)
def nG:List (Nat×Ob)→List Nat
  | []=> []
  |(i,_)::r=>i::nG r
def hY:Ob→Nat→Option D
  | .box cs,j=>cs[j]?
  |_,_=>none
def LF (s s':List Ob):List (Nat×Nat×D)→Prop→Prop
  | [],c=>c
  |(i,j,d)::r,c=>LF s s' r ((some d=hY (s.getD i .dead) j∧some d=hY (s'.getD i .dead) j)∧c)
def pI:List (Nat×Nat×D)→List (Nat×Nat)
  | []=> []
  |(i,j,_)::r=>(i,j)::pI r
def CK (i j:Nat):List (Nat×Nat)→Bool
  | []=>false
  |(a,b)::r=>match aaa a i,aaa b j with|true,true=>true|_,_=>CK i j r
def sT (n:Nat):List (Nat×Ob)→Bool
  | []=>true
  |(i,_)::r=>match Nat.blt i n with|true=>sT n r|false=>false
def Fm (z:Z P) (s s':List Ob) (k:Z P→List Nat→List (Nat×Nat)→Option ρ):Option ρ:=
  match z.o with
  | .aV l::r=>jC (sT s.length l) (k ⟨r,Fp s s' l z.c⟩ (nG l) [])
  | .fR cs l::r=>jC (sT s.length l) (k ⟨r,LF s s' cs (Fp s s' l z.c)⟩ (nG l) (pI cs))
  |_=>k z [] []
def mX (P:Program) (inl:FL P ρ) (ops:Array Oper):List Oper→List D→List Ob→List FP→Z P→(List D→List Ob→List FP→Z P→Option ρ)→Option ρ
  | [],t,s,UC,z,K=>K t s UC z
  |o::rest,t,s,UC,z,K=>
    let run:=fun z=>Q5 P inl o t s z fun z e=>match e with
      | .pure d=>nN t o.dst d fun t'=>mX P inl ops rest t' s (.O5::UC) z K
      | .read id _ d=>nN t o.dst d fun t'=>mX P inl ops rest t' s (.rd id::UC) z K
      | .ji id j d=>nN t o.dst d fun t'=>mX P inl ops rest t' s (.um id j::UC) z K
      | .gQ id _ o' d=>nN t o.dst d fun t'=>qc z o' fun z o2=>kP s id o2 fun s'=>mX P inl ops rest t' s' (.wr id::UC) z K
      | .new o' mk=>nN t o.dst (mk s.length) fun t'=>qc z o' fun z o2=>oc s o2 fun s'=>mX P inl ops rest t' s' (.nw s.length::UC) z K
      | .all s' d=>nN t o.dst d fun t'=>Fm z s s' fun z l kc=>mX P inl ops rest t' s' (.all l kc::UC) z K
    match o.guard with
    |none=>run z
    |some (j,want)=>match kA ops t j with
      | .bool b=>branch z (b==want) run (fun z=>nN t o.dst (.aL []) fun t'=>mX P inl ops rest t' s (.O5::UC) z K)
      | .aL []=>nN t o.dst (.aL []) fun t'=>mX P inl ops rest t' s (.O5::UC) z K
      |_=>none
def ja:List Oper→List Nat→List Nat
  | [],acc=>acc
  |o::rest,acc=>ja rest (acc++ [o.after.toList.foldl (fun m e=>match Region.binds .any e with|true=>m|||(1<<<e.on)|||acc.getD e.on 0|false=>m) 0])
def iE:FP→FP→Bool
  | .O5,_=>false
  |_,.O5=>false
  | .all l _,.rd i=> !jQ i l
  | .rd i,.all l _=> !jQ i l
  | .all l kc,.um i j=> !jQ i l&& !CK i j kc
  | .um i j,.all l kc=> !jQ i l&& !CK i j kc
  | .all _ _,_=>true
  |_,.all _ _=>true
  | .rd _,.rd _=>false
  | .rd _,.um _ _=>false
  | .um _ _,.rd _=>false
  | .um _ _,.um _ _=>false
  | .um i _,.wr j=>aaa i j
  | .um i _,.nw j=>aaa i j
  | .wr i,.um j _=>aaa i j
  | .nw i,.um j _=>aaa i j
  | .rd i,.wr j=>aaa i j
  | .rd i,.nw j=>aaa i j
  | .wr i,.rd j=>aaa i j
  | .wr i,.wr j=>aaa i j
  | .wr i,.nw j=>aaa i j
  | .nw i,.rd j=>aaa i j
  | .nw i,.wr j=>aaa i j
  | .nw i,.nw j=>aaa i j
def I6 (xs:List Operand):List Nat:=xs.filterMap fun x=>match x with| .tmp i=>some i|_=>none
def sQ (ops:Array Oper) (o:Oper):List Nat:=
  I6 o.op.operands.toList++(match o.guard with
    |some (j,_)=>match ops[j]? with
      |some q=>q.dst.toList
      |none=> []
    |none=> [])
def share (ops:Array Oper) (x y:Oper):Bool:=
  (match x.dst with|some d=>(sQ ops y).contains d||y.dst==some d|none=>false)||(match y.dst with|some d=>(sQ ops x).contains d|none=>false)
def oj (ops:Array Oper) (UC:List FP):Bool:=
  let l:=ops.toList
  let ah:=ja l []
  let f:=UC.reverse
  (aaa f.length l.length)&&
  (ZL l.length).all fun j=>
    (match l[j]? with
     |some o=>o.after.all fun e=> !Region.binds .any e||Nat.blt e.on j
     |none=>false)&&
    (ZL j).all fun i=>(ah.getD j 0).testBit i||
      (match l[i]?,l[j]? with
       |some x,some y=> !share ops x y
       |_,_=>false)&& !iE (f.getD i (.all [] [])) (f.getD j (.all [] []))
mutual
def oe (n:Nat):D→Bool
  | .ptr _ id _=>Nat.blt id n
  | .gw id=>Nat.blt id n
  | .jM id=>Nat.blt id n
  | .dz id _ _=>Nat.blt id n
  | .sub id _ _ _ _=>Nat.blt id n
  | .bc (.tok id _) _ _=>Nat.blt id n
  | .fn _ a b=>mD n a&&mD n b
  | .agg cs=>mD n cs
  | .aL cs=>mD n cs
  |_=>true
def mD (n:Nat):List D→Bool
  | []=>true
  |d::r=>oe n d&&mD n r
end
def eI:Nat:=1000000
def ju (t:List D) (s:List Ob) (k:Nat):D:=match aaP eI k with
  |false=>t.getD k .undef
  |true=>match s.getD ((k - eI) / 1000) .dead with
    | .box cs=>cs.getD ((k - eI)%1000) .undef
    |_=> .undef
def s7 (s:List Ob) (size id:Nat) (d:D):Option (D×Option Nat×Ob):=
  match d with
  | .bc .tight sz xs=>match uw sz xs size with
    |true=>some (.bc (.tok id 0) size xs,none,.ey 0 size)
    |false=>none
  | .bc (.tok i v) sz xs=>match s.getD i .dead with
    | .ey v' Un=>match aaa v' v&&(aaa Un size&&uw sz xs size) with
      |true=>some (.bc (.tok id 0) size xs,some i,.ey 0 size)
      |false=>none
    |_=>none
  | .dz i sz n=>match s.getD i .dead with
    | .box cs=>match aaa sz size with
      |true=>some (.dz id sz n,some i,.box (cs.map D.bn))
      |false=>none
    |_=>none
  |_=>none
def AL (t:List D) (s:List Ob):List (Nat×Nat)→Nat→Option (List (Option Nat)×List Ob)
  | [],_=>some ([],[])
  |(k,size)::r,id=>match s7 s size id (ju t s k),AL t s r (id+1) with
    |some (_,o,ob),some (l,O3)=>some (o::l,ob::O3)
    |_,_=>none
def findF (i:Nat):List (Nat×Nat)→Nat→Option (Nat×Nat)
  | [],_=>none
  |(k,size)::r,id=>match aaa k i with|true=>some (id,size)|false=>findF i r (id+1)
def Lj (i:Nat) (fs:List (Nat×Nat)) (n0:Nat):Option (Nat×Nat):=match aaP eI i with|true=>none|false=>findF i fs n0
def Fv (i j:Nat) (fs:List (Nat×Nat)) (n0:Nat):Option (Nat×Nat):=match Nat.blt j 1000 with|true=>findF (eI+i*1000+j) fs n0|false=>none
def Jm (sp:HS) (n0:Nat) (s:List Ob) (i:Nat) (d:D):Option D:=
  match Lj i sp.nR n0 with
  |some (id,size)=>match s7 s size id d with|some (d',_)=>some d'|none=>none
  |none=>match jQ i sp.aV with
    |true=>match oe n0 d with|true=>some d|false=>none
    |false=>match jQ (eI+i) sp.aV with
      |true=>match d with| .agg cs=>some (.agg (cs.map D.bn))|_=>none
      |false=>some .undef
def sf (sp:HS) (n0:Nat) (s:List Ob):Nat→List D→Option (List D)
  |_,[]=>some []
  |i,d::r=>match Jm sp n0 s i d,sf sp n0 s (i+1) r with
    |some d',some l=>some (d'::l)
    |_,_=>none
def uA (i:Nat):List (Option Nat)→Bool
  | []=>false
  |none::r=>uA i r
  |some a::r=>match aaa a i with|true=>true|false=>uA i r
def vr:List (Option Nat)→Bool
  | []=>true
  |none::r=>vr r
  |some a::r=> !uA a r&&vr r
def ql (sp:HS) (n0:Nat) (s:List Ob) (i:Nat):Nat→List D→Option (List D)
  |_,[]=>some []
  | j, d :: r => match (match Fv i j sp.nR n0 with
      |some (id,size)=>(match s7 s size id d with|some (d',_)=>some d'|none=>none)
      |none=>(match oe n0 d with|true=>some d|false=>none)),ql sp n0 s i (j+1) r with
    |some d',some l=>some (d'::l)
    |_,_=>none
def Q6 (sp:HS) (n0:Nat) (s:List Ob) (used:List (Option Nat)) (i:Nat) (o:Ob):Option Ob:=
  match jQ (eI+i) sp.O3&& !uA i used with
  |true=>match o with
    | .box cs=>some (.box (cs.map D.bn))
    |_=>none
  |false=>match jQ i sp.O3&& !uA i used with
    |false=>some .dead
    |true=>match o with
      | .box cs=>match ql sp n0 s i 0 cs with|some TT=>some (.box TT)|none=>none
      | .lp k t ps ag bd=>match mD n0 t with|true=>some (.lp k t ps ag bd)|false=>none
      |o=>some o
def G4 (sp:HS) (n0:Nat) (s0:List Ob) (used:List (Option Nat)) (new:List Ob):Nat→Nat→List Ob→Option (List Ob)
  |0,_,_=>some new
  |_+1,_,[]=>none
  |n+1,i,o::r=>match Q6 sp n0 s0 used i o,G4 sp n0 s0 used new n (i+1) r with
    |some o',some l=>some (o'::l)
    |_,_=>none
def pz (sp:HS) (n0:Nat) (t:List D) (s:List Ob):Option (List D×List Ob):=
  match AL t s sp.nR n0 with
  |some (used,new)=>match vr used with
    |true=>match sf sp n0 s 0 t,G4 sp n0 s used new n0 0 s with
      |some t',some s'=>some (t',s')
      |_,_=>none
    |false=>none
  |none=>none
def FF (s:List Ob) (i:Nat):List (List D):=match s.getD i .dead with| .box cs=> [cs]|_=> []
def qa (s:List Ob):List Nat→List (List D)
  | []=> []
  |o::r=>match aaP eI o with
    |true=>FF s (o - eI)++qa s r
    |false=>qa s r
def xW (t:List D) (s:List Ob):List (Nat×Nat)→List (List D)
  | []=> []
  |(k,_)::r=>(match ju t s k with| .dz i _ _=>FF s i|_=> [])++xW t s r
def xV (t:List D):List Nat→List (List D)
  | []=> []
  |o::r=>(match aaP eI o with
    |true=>match t.getD (o - eI) .undef with| .agg cs=> [cs]|_=> []
    |false=> [])++xV t r
def xU (sp:HS) (t:List D) (s:List Ob):List (List D):=qa s sp.O3++(xW t s sp.nR++xV t sp.aV)
def Iy:List (List D)→Z P→(Z P→Option ρ)→Option ρ
  | [],z,k=>k z
  |cs::r,z,k=>match z.o with
    | .cl TT _::o=>Iy r ⟨o,(TT=cs)∧z.c⟩ k
    |_=>none
def iter (body:List D→List Ob→Z P→(Ex→List D→List Ob→Z P→Option ρ)→Option ρ):Nat→List D→List Ob→Z P→(Ex→List D→List Ob→Z P→Option ρ)→Option ρ
  |0,_,_,_,_=>none
  |n+1,t,s,z,K=>body t s z fun ex t' s' z=>match ex with
    | .norm=>iter body n t' s' z K
    |e=>K e t' s' z
def kY (aV:List Nat):Nat→List D→List D
  |_,[]=> []
  |i,d::r=>(match jQ i aV with|true=>d|false=> .undef)::kY aV (i+1) r
def mN:List D→List (Nat×D)→List D
  |t,[]=>t
  |t,(i,d)::r=>mN (t.set i d) r
def gK (P:Program) (inl:FL P ρ) (rd:Bool):Code→List D→List Ob→Z P→(Ex→List D→List Ob→Z P→Option ρ)→Option ρ
  | .skip,t,s,z,K=>K .norm t s z
  | .label _,t,s,z,K=>K .norm t s z
  | .region _ ops draw,t,s,z,K=>mX P inl ops ops.toList t s [] z fun t' s' UC z=>match draw with
    |false=>K .norm t' s' z
    |true=>jC (oj ops UC) (K .norm t' s' z)
  | .seq a b,t,s,z,K=>gK P inl rd a t s z fun ex t' s' z=>match ex with
    | .norm=>gK P inl rd b t' s' z K
    |e=>K e t' s' z
  | .cond c a b,t,s,z,K=>match cP t c with
    | .bool q=>branch z q (fun z=>gK P inl rd a t s z K) (fun z=>gK P inl rd b t s z K)
    |_=>none
  | .block id a,t,s,z,K=>match z.o with
    | .dQ sp n0 c' t1 s1 ex t2 s2 _::r=>match pz sp n0 t s with
      |some (t',s')=>jC (aaa n0 s.length) (Iy (xU sp t s) ⟨r,(c'= .block id a∧t1=t'∧s1=s')∧z.c⟩ fun z=>K ex t2 s2 z)
      |none=>none
    |_=>gK P inl rd a t s z fun ex t' s' z=>match ex with
      | .exit i=>match aaa i id with|true=>K .norm t' s' z|false=>K (.exit i) t' s' z
      |e=>K e t' s' z
  | .scope a,t,s,z,K=>gK P inl rd a t s z K
  | .exit id,t,s,z,K=>K (.exit id) t s z
  | .ret,t,s,z,K=>K .ret t s z
  | .loop x,t,s,z,K=>match z.o with
    | .go n::r=>iter (gK P inl rd x) n t s ⟨r,z.c⟩ K
    | .head sp n0 c' t1 s1 ex t2 s2 _::r=>match pz sp n0 t s with
      |some (t',s')=>jC (aaa n0 s.length) (Iy (xU sp t s) ⟨r,(c'= .loop x∧t1=t'∧s1=s')∧z.c⟩ fun z=>K ex t2 s2 z)
      |none=>none
    | .code c' t1 s1 ex t2 s2 _::r=>K ex t2 s2 ⟨r,(c'= .loop x∧t1=t∧s1=s)∧z.c⟩
    |_=>none
  | .rangeFunc g ps ag bd,t,s,z,K=>match z.o with
    | .Mp aV::r=>match rd,cP t g with
      |false,.fn (.func gf) first cap=>jn (kY aV 0 t) fun t1=>oc s (.lp .ready t1 ps ag bd) fun s1=>
        inl (.fn gf) (first++(.jM s.length::cap)) s1 ⟨r,z.c⟩ fun _ s2 z=>match s2.getD s.length .dead with
          | .lp .ready _ _ _ _=>kP s2 s.length .dead fun s3=>K .norm t s3 z
          | .lp .ret _ _ _ _=>kP s2 s.length .dead fun s3=>K .ret t s3 z
          | .lp (.exit i) _ _ _ _=>kP s2 s.length .dead fun s3=>K (.exit i) t s3 z
          |_=>none
      |_,_=>none
    | .code c' t1 s1 ex t2 s2 _::r=>K ex t2 s2 ⟨r,(c'= .rangeFunc g ps ag bd∧t1=t∧s1=s)∧z.c⟩
    |_=>none
  |c,t,s,z,K=>match z.o with
    | .code c' t1 s1 ex t2 s2 _::r=>K ex t2 s2 ⟨r,(c'=c∧t1=t∧s1=s)∧z.c⟩
    |_=>none
def wV (P:Program) (t:List D) (s:List Ob):ResultVar→Option D
  | .tmp i=>some (t.getD i .undef)
  | .cell a ty=>match t.getD a .undef with
    | .ptr _ id off=>match s.getD id .dead with
      | .box cs=>match P.underlying ty with
        |some d=>match dR d with
          |true=>match known P ty&&aaP (off+P.cellsOf ty) cs.length with
            |true=>some (.agg ((cs.drop off).take (P.cellsOf ty)))
            |false=>none
          |false=>cs[off]?
        |none=>none
      |_=>none
    |_=>none
def Cc (P:Program) (t:List D) (s:List Ob):List ResultVar→Option (List D)
  | []=>some []
  |r::rs=>match wV P t s r,Cc P t s rs with
    |some d,some l=>some (d::l)
    |_,_=>none
def Cd:List D→D
  | [d]=>d
  |l=> .aL l
def vx (P:Program) (inl:FL P ρ) (fn:Func) (args:List D) (s:List Ob) (z:Z P) (K:D→List Ob→Z P→Option ρ):Option ρ:=
  match fn.body with
  |some c=>jC (aaP args.length fn.ntmps) (jn (args++Zx (fn.ntmps - args.length) .undef) fun t0=>gK P inl false c t0 s z fun ex t' s' z=>match ex with
    | .exit _=>none
    |_=>match Cc P t' s' fn.results.toList with
      |some l=>K (Cd l) s' z
      |none=>none)
  |none=>none
def BL (P:Program) (inl:FL P ρ) (id:Nat) (args:List D) (s:List Ob) (z:Z P) (K:D→List Ob→Z P→Option ρ):Option ρ:=
  match s.getD id .dead with
  | .lp .ready t ps ag bd=>jC (aaa args.length ps.size) (jn (mN t (ps.toList.zip args)) fun t1=>gK P inl true ag t1 s z fun ex t2 s2 z=>match ex with
    | .norm=>match s2.getD id .dead with
      | .lp .ready t' Ya X5 X6=>kP s2 id (.lp .busy t' Ya X5 X6) fun s3=>gK P inl true bd t2 s3 z fun ex _ s4 z=>match s4.getD id .dead with
        | .lp .busy t5 V6 Wc V0=>match ex with
          | .norm=>kP s4 id (.lp .ready t5 V6 Wc V0) fun s5=>K (.bool true) s5 z
          | .ret=>kP s4 id (.lp .ret t5 V6 Wc V0) fun s5=>K (.bool false) s5 z
          | .exit i=>kP s4 id (.lp (.exit i) t5 V6 Wc V0) fun s5=>K (.bool false) s5 z
        |_=>none
      |_=>none
    |_=>none)
  |_=>none
def sW (P:Program):Nat→FL P ρ
  |0=>fun _ _ _ _ _=>none
  |n+1=>fun g args s z K=>match g with
    | .fn f=>match P.funcs[f]? with
      |some fn=>jC (!(fn.name== "runtime.NumGoroutine")) (vx P (sW P n) fn args s z K)
      |none=>none
    | .yl id=>BL P (sW P n) id args s z K
def kS (s:List Ob):D→D
  | .bc (.tok id v) sz xs=>match s.getD id .dead with
    | .ey v' Un=>match aaa v v'&&aaa sz Un with|true=> .bc (.fresh sz) sz xs|false=> .bc .no sz xs
    |_=> .bc .no sz xs
  |d=>d.bn
def GX (s:List Ob):D→D
  | .aL ds=> .aL (ds.map (kS s))
  |d=>kS s d
end
def Fo:List (Nat×Ob)→Prop→Prop
  | [],c=>c
  |(_,o)::r,c=>Fo r ((o=o∧o=o)∧c)
theorem od:∀(l:List (Nat×Ob)) {c:Prop},c→Fo l c
 | [],_,h=>h
 |(_,o)::r,_,h=>od r ⟨⟨rfl,rfl⟩,h⟩
def LD:List (Nat×Nat×D)→Prop→Prop
  | [],c=>c
  |(_,_,d)::r,c=>LD r ((some d=some d∧some d=some d)∧c)
theorem tL:∀(l:List (Nat×Nat×D)) {c:Prop},c→LD l c
 | [],_,h=>h
 |(_,_,d)::r,_,h=>tL r ⟨⟨rfl,rfl⟩,h⟩
def Ev.self {P:Program} :Ev P→Prop→Prop
  | .ret _ as _ _,c=>(as=as)∧c
  | .inl,c=>c
  | .aI _ ar s _ _ _,c=>(ar=ar∧s=s)∧c
  | .LG _ ar _ _ _ _,c=>(ar=ar)∧c
  | .cM q _ _,c=>(q=q)∧c
  | .len n m _,c=>(n=n∧m=m)∧c
  | .get l i _ _,c=>(l=l∧i=i)∧c
  | .fU l i n _ _,c=>(l=l∧i=i∧n=n)∧c
  | .eU l i xs _ _,c=>(l=l∧i=i∧xs=xs)∧c
  | .flat _ _ _,c=>c
  | .j5 es n _ _,c=>(es=es∧n=n)∧c
  | .Rz _ _ _,c=>c
  | .N2 es n _ _,c=>(es=es∧n=n)∧c
  | .aV l,c=>Fo l c
  | .fR cs l,c=>LD cs (Fo l c)
  | .code c' t s _ _ _ _,c=>(c'=c'∧t=t∧s=s)∧c
  | .go _,c=>c
  | .Mp _,c=>c
  | .raw,c=>c
  | .cl cs _,c=>(cs=cs)∧c
  | .L9 ys _ _,c=>(ys=ys)∧c
  | .head _ _ c' t s _ _ _ _,c=>(c'=c'∧t=t∧s=s)∧c
  | .dQ _ _ c' t s _ _ _ _,c=>(c'=c'∧t=t∧s=s)∧c
def sj {P:Program} :List (Ev P)→Prop→Prop
  | [],c=>c
  |e::r,c=>sj r (e.self c)
theorem lW {P:Program} (l:List (Ev P)):∀ {c:Prop},c→sj l c:=by
 induction l with
 |nil=>exact fun h=>h
 |cons e r ih=>
  intro c h
  refine ih ?_
  cases e<;>simp only [Ev.self,ee,and_self]<;>first|exact h|exact od _ h|exact tL _ (od _ h)
def yb (P:Program) (fn:Func) (args:List D) (o:List (Ev P)):Option (D×Prop):=
  vx P (sW P 20) fn args [] ⟨o,True⟩ fun d s z=>jC d.clean (match z.o with| []=>some (GX s d,z.c)|_=>none)
def vp (P:Program) (c:Code) (sp:HS) (n0:Nat) (t:List D) (s:List Ob) (o:List (Ev P)):Option ((Ex×List D×List Ob)×Prop):=
  gK P (sW P 20) true c t s ⟨o,True⟩ fun ex t' s' z=>match pz sp n0 t' s' with
    |some (t2,s2)=>Iy (xU sp t' s') z fun z=>match z.o with
      | []=>some ((ex,t2,s2),z.c)
      |_=>none
    |none=>none
def evalCode (P:Program) (c:Code) (t:List D) (s:List Ob) (o:List (Ev P)):Option ((Ex×List D×List Ob)×Prop):=
  gK P (sW P 20) true c t s ⟨o,True⟩ fun ex t' s' z=>match z.o with| []=>some ((ex,t',s'),z.c)|_=>none
end Go.Ev
namespace Go.Ev
open Go
abbrev ak (n:Int):D:= .int .i8 n
abbrev aq (n:Int):D:= .int .i64 n
abbrev ay (n:Int):D:= .int .u8 n
abbrev av (n:Int):D:= .int .u64 n
abbrev mH:D:= .undef
abbrev aY:Ob:= .dead
abbrev aA (c:List D):Ob:= .box c
abbrev ax (b:Bool):D:= .bool b
abbrev aO {P:Program} :Ev P:= .inl
abbrev bj (n:Nat) (l:List D):D:= .bc .no n l
abbrev ke (n:Nat):List D:=Zx n .undef
abbrev aw {P:Program} {g:FuncId} {as:List D} {d:D} (h:aQ P g as d):Ev P:= .ret g as d h
abbrev bN {P:Program} (n:Nat) (h:n≤2147483648:=by decide):Ev P:= .len n 2147483648 h
def cr {P:Program} :Nat→Nat→List (Ev P)
  |0,_=> []
  |n+1,k=>(match k%2 with
    |0=> .cM false false rfl
    |_=> .cM true true rfl)::cr n (k / 2)
end Go.Ev
