import Derived.Calls
import Derived.Orders
import Derived.Below
import Derived.Laws.World
import Derived.Laws.Sem
import Derived.RangeFuncRecord
import Derived.Laws.StructEq
import Derived.OrdersIn
import Derived.ControlIn
open List renaming replicate→Vt,getElem?_map→VW,all_eq_true→V3,mem_of_getElem? →V5
open Option.some renaming inj→VA,injEq→VI
open BitVec renaming ofInt→VB
open Nat renaming le_refl→VF,lt_or_ge→VS,beq→V2,blt→Wx,ble→WI
open Bool renaming and_eq_true→VG
open Option renaming map_eq_some_iff→VU
open Go.World renaming cell? →WE,block_lt_of_cell? →WZ
open Go renaming IntKind→W3
/- Contracts and plain laws that a statement's proof leans on (texts merged:EvC). -/
set_option linter.unusedVariables false
set_option linter.unusedSimpArgs false
namespace Go.Ev
open Go Go.RowKit
inductive jn where
  |no
  |tight
  |tok (t ver:Nat)
  |fresh (sz:Nat)
inductive D where
  |undef
  |int (k:W3) (n:Int)
  |bool (b:Bool)
  |str (s:ByteArray)
  |eW
  |ptr (dyn:Bool) (id off:Nat)
  |cN (dyn:Bool) (x:D) (off:Nat)
  |bA (id:Nat)
  |iD (id:Nat)
  |bP (id sz n:Nat)
  |sub (id off sz n:Nat) (cap:Option Nat)
  |aq (o:jn) (sz:Nat) (xs:List D)
  |bw
  |fn (f:Fn) (first cap:List D)
  |agg (cs:List D)
  |aQ (vs:List D)
def D.cells:D→Option (List D)
  | .agg cs=>some cs
  | .undef=>none
  | .aQ _=>none
  |d=>some [d]
def storable:D→Bool
  | .undef=>false
  | .agg _=>false
  | .aQ _=>false
  |_=>true
structure MM where
  cell:Nat→Nat→Option Value
  box:Nat→Option Nat
  br:Nat→Nat→Option Value
  dE:Nat→Prop
def MM.bare (M:MM):MM:=⟨M.cell,fun _=>none,fun _ _=>none,fun _=>False⟩
def ek (C:Nat→Nat→Option Value):MM:=⟨C,fun _=>none,fun _ _=>none,fun _=>False⟩
def MM.kA (M:MM):jn→Option Addr→Nat→Nat→Prop
  | .no,_,_,_=>True
  | .fresh _,_,_,_=>True
  | .tight,_,len,cap=>cap=len
  | .tok t v,a,len,cap=>M.br t v=some (.slice a len cap)
inductive bz:MM→D→Value→Prop
  |undef {M:MM} (v:Value):bz M .undef v
  |int {M:MM} (k:W3) (n:Int):bz M (.int k n) (.int k n)
  |bool {M:MM} (b:Bool):bz M (.bool b) (.bool b)
  |str {M:MM} (s:ByteArray):bz M (.str s) (.string s)
  |eW {M:MM} :bz M .eW (.pointer none)
  |ptr {M:MM} (dyn:Bool) {id off b:Nat} (h:M.box id=some b):bz M (.ptr dyn id off) (.pointer (some ⟨b,off,none⟩))
  | cN {M : MM} (dyn : Bool) {x : D} {cs : List D} {off b base : Nat} (vs : Nat → Value) (hx : x.cells = some cs)
      (hc:∀(j:Nat) (c:D),cs[j]? =some c→M.cell b (base+j)=some (vs j)) (hr:∀(j:Nat) (c:D),cs[j]? =some c→bz M.bare c (vs j)):
      bz M (.cN dyn x off) (.pointer (some ⟨b,base+off,none⟩))
  |bA {M:MM} {id b:Nat} (h:M.box id=some b):bz M (.bA id) (.map (some b))
  |iD {M:MM} {id b:Nat} (h:M.box id=some b):bz M (.iD id) (.func (.yield b) #[] #[])
  |bP {M:MM} {id sz n b cap:Nat} (h:M.box id=some b) (hh:M.br id sz=some (.slice (some ⟨b,0,none⟩) n cap)) (hc:n≤cap):bz M (.bP id sz n) (.slice (some ⟨b,0,none⟩) n cap)
  |sub {M:MM} {id off sz n b o2 c:Nat} {cp:Option Nat} (h:M.box id=some b) (hc:n≤c) (hp:∀k,cp=some k→c=k) (ho:n≠0→o2=off):bz M (.sub id off sz n cp) (.slice (some ⟨b,o2,none⟩) n c)
  | aq {M : MM} {o : jn} {sz : Nat} {xs : List D} {a : Option Addr} {len cap : Nat} (b off : Nat) (vs : Nat → Nat → Value)
      (hl:xs.length=len) (Ph:len≤cap) (ha:xs≠ []→a=some ⟨b,off,none⟩)
      (Po:∀(i:Nat) (x:D),xs[i]? =some x→∃cs:List D,x.cells=some cs∧cs.length=sz)
      (hc:∀(i:Nat) (x:D) (cs:List D) (j:Nat) (c:D),xs[i]? =some x→x.cells=some cs→cs[j]? =some c→M.cell b (off+i*sz+j)=some (vs i j))
      (hr:∀(i:Nat) (x:D) (cs:List D) (j:Nat) (c:D),xs[i]? =some x→x.cells=some cs→cs[j]? =some c→bz M.bare c (vs i j))
      (Pr:∀(i:Nat) (x:D) (cs:List D) (c:D),xs[i]? =some x→x.cells=some cs→c∈cs→storable c=true)
      (ho:M.kA o a len cap):bz M (.aq o sz xs) (.slice a len cap)
  |bw {M:MM} :bz M .bw .nilFunc
  | fn {M : MM} {f : Fn} {first cap : List D} {fv cv : Array Value} (h1 : first.length = fv.size) (h2 : cap.length = cv.size)
      (r1:∀(i:Nat) (d:D) (v:Value),first[i]? =some d→fv[i]? =some v→bz M d v) (r2:∀(i:Nat) (d:D) (v:Value),cap[i]? =some d→cv[i]? =some v→bz M d v):
      bz M (.fn f first cap) (.func f fv cv)
  | agg {M : MM} {cs : List D} {vs : Array Value} (h : cs.length = vs.size) (r : ∀ (i : Nat) (d : D) (v : Value), cs[i]? = some d → vs[i]? = some v → bz M d v) :
      bz M (.agg cs) (.agg vs)
  | aQ {M : MM} {cs : List D} {vs : Array Value} (h : cs.length = vs.size) (r : ∀ (i : Nat) (d : D) (v : Value), cs[i]? = some d → vs[i]? = some v → bz M d v) :
      bz M (.aQ cs) (.tuple vs)
structure MM.Le (M M':MM):Prop where
  cell:∀b o v,M.cell b o=some v→M'.cell b o=some v
  box:∀id b,M.box id=some b→M'.box id=some b
  br:∀t v x,M.br t v=some x→M'.br t v=some x
  dE:∀b,M.dE b→M'.dE b
theorem MM.Le.refl (M:MM):M.Le M:=⟨fun _ _ _ h=>h,fun _ _ h=>h,fun _ _ _ h=>h,fun _ h=>h⟩
theorem MM.Le.trans {A B C:MM} (h:A.Le B) (k:B.Le C):A.Le C:=
 ⟨fun b o v x=>k.cell b o v (h.cell b o v x),fun i b x=>k.box i b (h.box i b x),fun t v x y=>k.br t v x (h.br t v x y),fun b x=>k.dE b (h.dE b x)⟩
theorem MM.Le.bare {A B:MM} (h:A.Le B):A.bare.Le B.bare:=⟨h.cell,fun _ _ x=>x,fun _ _ _ x=>x,fun _ x=>x⟩
theorem MM.Bh {M M':MM} (h:M.Le M'):∀ {o:jn} {a:Option Addr} {l c:Nat},M.kA o a l c→M'.kA o a l c
 | .no,_,_,_,x=>x
 | .fresh _,_,_,_,x=>x
 | .tight,_,_,_,x=>x
 | .tok _ _,_,_,_,x=>h.br _ _ _ x
theorem bz.mono {M:MM} {d:D} {v:Value} (h:bz M d v):∀ {M':MM},M.Le M'→bz M' d v:=by
 induction h with
 |undef v=>exact fun _=> .undef v
 |int k n=>exact fun _=> .int k n
 |bool b=>exact fun _=> .bool b
 |str s=>exact fun _=> .str s
 |eW=>exact fun _=> .eW
 |ptr q h=>exact fun le=> .ptr q (le.box _ _ h)
 |cN q vs hx hc hr ih=>exact fun le=> .cN q vs hx (fun j c h=>le.cell _ _ _ (hc j c h)) (fun j c h=>ih j c h le.bare)
 |bA h=>exact fun le=> .bA (le.box _ _ h)
 |iD h=>exact fun le=> .iD (le.box _ _ h)
 |bP h hh hc=>exact fun le=> .bP (le.box _ _ h) (le.br _ _ _ hh) hc
 |sub h hc hp ho=>exact fun le=> .sub (le.box _ _ h) hc hp ho
 |aq b off vs hl Ph ha Po hc hr Pr ho ih=>
  exact fun le=> .aq b off vs hl Ph ha Po (fun i x cs j c h1 h2 h3=>le.cell _ _ _ (hc i x cs j c h1 h2 h3)) (fun i x cs j c h1 h2 h3=>ih i x cs j c h1 h2 h3 le.bare) Pr (MM.Bh le ho)
 |bw=>exact fun _=> .bw
 |fn h1 h2 r1 r2 i1 i2=>exact fun le=> .fn h1 h2 (fun i d v a b=>i1 i d v a b le) (fun i d v a b=>i2 i d v a b le)
 |agg h r ih=>exact fun le=> .agg h (fun i d v a b=>ih i d v a b le)
 |aQ h r ih=>exact fun le=> .aQ h (fun i d v a b=>ih i d v a b le)
def jn.aG:jn→jn
  | .tight=> .tight
  |_=> .no
mutual
def D.aG:D→D
  | .aq o sz xs=> .aq o.aG sz xs
  | .agg cs=> .agg (D.fK cs)
  | .aQ cs=> .aQ (D.fK cs)
  | .fn f a b=> .fn f (D.fK a) (D.fK b)
  |d=>d
def D.fK:List D→List D
  | []=> []
  |d::r=>d.aG::D.fK r
end
mutual
def D.clean:D→Bool
  | .undef=>false
  | .ptr _ _ _=>false
  | .cN _ _ _=>false
  | .bA _=>false
  | .iD _=>false
  | .bP _ _ _=>false
  | .sub _ _ _ _ _=>false
  | .agg cs=>D.hJ cs
  | .aQ cs=>D.hJ cs
  | .fn _ a b=>D.hJ a&&D.hJ b
  |_=>true
def D.hJ:List D→Bool
  | []=>true
  |d::r=>d.clean&&D.hJ r
end
theorem D.ej (l:List D):D.fK l=l.map D.aG:=by
 induction l with
 |nil=>simp [D.fK]
 |cons d r ih=>simp [D.fK,ih]
theorem D.gB (l:List D):D.hJ l=l.all D.clean:=by
 induction l with
 |nil=>simp [D.hJ]
 |cons d r ih=>simp [D.hJ,ih]
theorem bz.lQ {M:MM} {d:D} {v:Value} (h:bz M d v):d.clean=true→bz M.bare d.aG v:=by
 induction h with
 |undef v=>intro c;simp [D.clean] at c
 |int k n=>intro _;exact .int k n
 |bool b=>intro _;exact .bool b
 |str s=>intro _;exact .str s
 |eW=>intro _;exact .eW
 |ptr q h=>intro c;simp [D.clean] at c
 |cN q vs hx hc hr ih=>intro c;simp [D.clean] at c
 |bA h=>intro c;simp [D.clean] at c
 |iD h=>intro c;simp [D.clean] at c
 |bP h hh hc=>intro c;simp [D.clean] at c
 |sub h hc hp ho=>intro c;simp [D.clean] at c
 |aq b off vs hl Ph ha Po hc hr Pr ho ih=>
  rename_i o _ _ _ _ _
  intro _
  rw [D.aG]
  refine .aq b off vs hl Ph ha Po hc hr Pr ?_
  cases o<;>first|trivial|exact ho
 |bw=>intro _;exact .bw
 |fn h1 h2 r1 r2 i1 i2=>
  intro c
  rw [D.clean,D.gB,D.gB,VG,V3,V3] at c
  rw [D.aG,D.ej,D.ej]
  refine .fn (by simpa using h1) (by simpa using h2) ?_ ?_
  ·intro i d v a b
   rw [VW,VU] at a
   obtain ⟨d0,h0,rfl⟩:=a
   exact i1 i d0 v h0 b (c.1 _ (V5 h0))
  ·intro i d v a b
   rw [VW,VU] at a
   obtain ⟨d0,h0,rfl⟩:=a
   exact i2 i d0 v h0 b (c.2 _ (V5 h0))
 |agg h r ih=>
  intro c
  rw [D.clean,D.gB,V3] at c
  rw [D.aG,D.ej]
  refine .agg (by simpa using h) ?_
  intro i d v a b
  rw [VW,VU] at a
  obtain ⟨d0,h0,rfl⟩:=a
  exact ih i d0 v h0 b (c _ (V5 h0))
 |aQ h r ih=>
  intro c
  rw [D.clean,D.gB,V3] at c
  rw [D.aG,D.ej]
  refine .aQ (by simpa using h) ?_
  intro i d v a b
  rw [VW,VU] at a
  obtain ⟨d0,h0,rfl⟩:=a
  exact ih i d0 v h0 b (c _ (V5 h0))
theorem bz.J3 {M:MM} {d:D} {v:Value} (h:bz M d v):∀ {f:Nat→Prop},bz { M with dE:=f } d v:=by
 induction h with
 |undef v=>exact fun {f} => .undef v
 |int k n=>exact fun {f} => .int k n
 |bool b=>exact fun {f} => .bool b
 |str s=>exact fun {f} => .str s
 |eW=>exact fun {f} => .eW
 |ptr q h=>exact fun {f} => .ptr q h
 |cN q vs hx hc hr ih=>exact fun {f} => .cN q vs hx hc hr
 |bA h=>exact fun {f} => .bA h
 |iD h=>exact fun {f} => .iD h
 |bP h hh hc=>exact fun {f} => .bP h hh hc
 |sub h hc hp ho=>exact fun {f} => .sub h hc hp ho
 |aq b off vs hl Ph ha Po hc hr Pr ho ih=>
  rename_i o _ _ _ _ _
  refine fun {f} => .aq b off vs hl Ph ha Po hc hr Pr ?_
  cases o<;>first|trivial|exact ho
 |bw=>exact fun {f} => .bw
 |fn h1 h2 r1 r2 i1 i2=>exact fun {f} => .fn h1 h2 (fun i d v a b=>i1 i d v a b) (fun i d v a b=>i2 i d v a b)
 |agg h r ih=>exact fun {f} => .agg h (fun i d v a b=>ih i d v a b)
 |aQ h r ih=>exact fun {f} => .aQ h (fun i d v a b=>ih i d v a b)
theorem MM.iU (M:MM):M.bare.Le M:=⟨fun _ _ _ h=>h,fun _ _ h=>by simp [MM.bare] at h,fun _ _ _ h=>by simp [MM.bare] at h,fun _ h=>h.elim⟩
def jn.low:jn→Bool
  | .no=>true
  | .tight=>true
  |_=>false
mutual
def D.plain:D→Bool
  | .undef=>false
  | .ptr _ _ _=>false
  | .cN _ _ _=>false
  | .bA _=>false
  | .iD _=>false
  | .bP _ _ _=>false
  | .sub _ _ _ _ _=>false
  | .aq o _ _=>o.low
  | .agg cs=>D.gH cs
  | .aQ cs=>D.gH cs
  | .fn _ a b=>D.gH a&&D.gH b
  |_=>true
def D.gH:List D→Bool
  | []=>true
  |d::r=>d.plain&&D.gH r
end
theorem D.jN (l:List D):D.gH l=l.all D.plain:=by
 induction l with
 |nil=>simp [D.gH]
 |cons d r ih=>simp [D.gH,ih]
theorem bz.Gr {M:MM} {d:D} {v:Value} (h:bz M d v):d.plain=true→bz M.bare d v:=by
 induction h with
 |undef v=>intro c;simp [D.plain] at c
 |int k n=>intro _;exact .int k n
 |bool b=>intro _;exact .bool b
 |str s=>intro _;exact .str s
 |eW=>intro _;exact .eW
 |ptr q h=>intro c;simp [D.plain] at c
 |cN q vs hx hc hr ih=>intro c;simp [D.plain] at c
 |bA h=>intro c;simp [D.plain] at c
 |iD h=>intro c;simp [D.plain] at c
 |bP h hh hc=>intro c;simp [D.plain] at c
 |sub h hc hp ho=>intro c;simp [D.plain] at c
 |aq b off vs hl Ph ha Po hc hr Pr ho ih=>
  rename_i o _ _ _ _ _
  intro c
  refine .aq b off vs hl Ph ha Po hc hr Pr ?_
  rw [D.plain] at c
  cases o<;>first|exact ho|(simp [jn.low] at c)
 |bw=>intro _;exact .bw
 |fn h1 h2 r1 r2 i1 i2=>
  intro c
  rw [D.plain,D.jN,D.jN,VG,V3,V3] at c
  exact .fn h1 h2 (fun i d v a b=>i1 i d v a b (c.1 _ (V5 a))) (fun i d v a b=>i2 i d v a b (c.2 _ (V5 a)))
 |agg h r ih=>
  intro c
  rw [D.plain,D.jN,V3] at c
  exact .agg h (fun i d v a b=>ih i d v a b (c _ (V5 a)))
 |aQ h r ih=>
  intro c
  rw [D.plain,D.jN,V3] at c
  exact .aQ h (fun i d v a b=>ih i d v a b (c _ (V5 a)))
mutual
theorem lH:∀ {d:D},d.clean=true→d.aG.plain=true
  | .undef,h=>by simp [D.clean] at h
  | .int _ _,_=>by simp [D.aG,D.plain]
  | .bool _,_=>by simp [D.aG,D.plain]
  | .str _,_=>by simp [D.aG,D.plain]
  | .eW,_=>by simp [D.aG,D.plain]
  | .ptr _ _ _,h=>by simp [D.clean] at h
  | .cN _ _ _,h=>by simp [D.clean] at h
  | .bA _,h=>by simp [D.clean] at h
  | .iD _,h=>by simp [D.clean] at h
  | .bP _ _ _,h=>by simp [D.clean] at h
  | .sub _ _ _ _ _,h=>by simp [D.clean] at h
  | .aq o _ _,_=>by cases o<;>simp [D.aG,D.plain,jn.aG,jn.low]
  | .bw,_=>by simp [D.aG,D.plain]
  | .fn _ a b,h=>by
    simp only [D.clean,VG] at h
    simp only [D.aG,D.plain,VG]
    exact ⟨e7 h.1,e7 h.2⟩
  | .agg cs,h=>by simp only [D.clean] at h;simp only [D.aG,D.plain];exact e7 h
  | .aQ cs,h=>by simp only [D.clean] at h;simp only [D.aG,D.plain];exact e7 h
theorem e7:∀ {l:List D},D.hJ l=true→D.gH (D.fK l)=true
  | [],_=>by simp [D.fK,D.gH]
  |d::r,h=>by
    simp only [D.hJ,VG] at h
    simp only [D.fK,D.gH,VG]
    exact ⟨lH h.1,e7 h.2⟩
end
theorem bz.flag {M:MM} {o:jn} {sz:Nat} {xs:List D} {a:Option Addr} {len cap:Nat} (h:bz M (.aq o sz xs) (.slice a len cap)) (o':jn) (ho:M.kA o' a len cap):bz M (.aq o' sz xs) (.slice a len cap):=by
 cases h with
 |aq b off vs hl Ph ha Po hc hr Pr _=>exact .aq b off vs hl Ph ha Po hc hr Pr ho
theorem bz.resize {M:MM} {o:jn} {sz size:Nat} {xs:List D} {v:Value} (h:bz M (.aq o sz xs) v) (hs:sz=size∨xs= []):bz M (.aq o size xs) v:=by
 rcases hs with rfl|rfl
 ·exact h
 ·cases h with
  |aq b off vs hl Ph ha Po hc hr Pr ho=>exact .aq b off vs hl Ph ha (fun i x hx=>by simp at hx) (fun i x cs j c hx=>by simp at hx) (fun i x cs j c hx=>by simp at hx) Pr ho
def bV (M:MM) (cs:List D) (vs:Array Value):Prop:=cs.length=vs.size∧∀(i:Nat) (d:D) (v:Value),cs[i]? =some d→vs[i]? =some v→bz M d v
theorem bV.mono {M M':MM} {cs:List D} {vs:Array Value} (h:bV M cs vs) (le:M.Le M'):bV M' cs vs:=⟨h.1,fun i d v a b=>(h.2 i d v a b).mono le⟩
theorem bz.cells {M:MM} {x:D} {v:Value} (h:bz M x v) {cs:List D} (hx:x.cells=some cs):bV M cs v.cells:=by
 have one:∀ {d:D} {u:Value},bz M d u→u.cells= #[u]→bV M [d] u.cells:=by
  intro d u r e
  rw [e]
  refine ⟨rfl,fun i d' v' a b=> ?_⟩
  cases i with
  |zero=>simp at a b;subst a b;exact r
  |succ i=>simp at a
 cases h with
 |undef v=>cases hx
 |int k n=>cases hx;exact one (.int _ _) rfl
 |bool b=>cases hx;exact one (.bool _) rfl
 |str t=>cases hx;exact one (.str _) rfl
 |eW=>cases hx;exact one .eW rfl
 |ptr q hb=>cases hx;exact one (.ptr q hb) rfl
 |cN q vs hy hc hr=>cases hx;exact one (.cN q vs hy hc hr) rfl
 |bA h=>cases hx;exact one (.bA h) rfl
 |iD h=>cases hx;exact one (.iD h) rfl
 |bP h hh hc=>cases hx;exact one (.bP h hh hc) rfl
 |sub h hc hp ho=>cases hx;exact one (.sub h hc hp ho) rfl
 |aq b off vs hl Ph ha Po hc hr Pr ho=>cases hx;exact one (.aq b off vs hl Ph ha Po hc hr Pr ho) rfl
 |bw=>cases hx;exact one .bw rfl
 |fn h1 h2 r1 r2=>cases hx;exact one (.fn h1 h2 r1 r2) rfl
 |agg hl hr=>cases hx;exact ⟨hl,hr⟩
 |aQ hl hr=>cases hx
inductive LK where
  |bool
  |int (k:W3)
  |str
def LK.jA:LK→Value→Prop
  | .bool,.bool _=>True
  | .int k,.int k' _=>k=k'
  | .str,.string _=>True
  |_,_=>False
def cB:List LK→List Value→Prop
  | [],[]=>True
  |k::ks,d::ds=>k.jA d∧cB ks ds
  |_,_=>False
inductive Lk where
  |ready
  |busy
  |ret
  |exit (i:Nat)
def Lk.state:Lk→LoopState
  | .ready=> .ready
  | .busy=> .busy
  |_=> .done
def Lk.F9:Lk→Option Code
  | .ret=>some .ret
  | .exit i=>some (.exit i)
  |_=>none
inductive Ob where
  |dead
  |box (cs:List D)
  |bg (ver sz:Nat)
  |mp (k:W3) (es:List (Int×D))
  |mf (ks:List LK) (es:List (List D×D))
  |lp (k:Lk) (t:List D) (ps:Array Nat) (ag bd:Code)
def fC:D→Option Value
  | .int k n=>some (.int k n)
  | .bool b=>some (.bool b)
  | .str s=>some (.string s)
  |_=>none
def km (k:W3):List (Int×D)→List MapEntry→Prop
  | [],[]=>True
  |(n,d)::r,e::s=>e.key= .int k n∧fC d=some e.val∧km k r s
  |_,_=>False
def gm:List D→Option (List Value)
  | []=>some []
  |d::r=>match fC d,gm r with
    |some v,some l=>some (v::l)
    |_,_=>none
def jB (ks:List LK):List (List D×D)→List MapEntry→Prop
  | [],[]=>True
  |(n,d)::r,e::s=>(∃vs:Array Value,e.key= .agg vs∧gm n=some vs.toList∧cB ks vs.toList)∧fC d=some e.val∧jB ks r s
  |_,_=>False
def hP (l:List MapEntry) (c:Nat):Prop:=c=l.length∧∀(i:Nat) (e:MapEntry),l[i]? =some e→e.born=i
def Ob.BA:Ob→Option (List MapEntry→Nat→Prop)
  | .mp k es=>some fun l c=>km k es l∧hP l c
  | .mf ks es=>some fun l c=>jB ks es l∧hP l c
  |_=>none
def dv (σ:Nat→Ob) (id:Nat) (o:Ob):Nat→Ob:=fun i=>if i=id then o else σ i
theorem aR (σ:Nat→Ob) (id:Nat) (o:Ob):dv σ id o id=o:=by simp [dv]
theorem aX {σ:Nat→Ob} {id i:Nat} {o:Ob} (h:i≠id):dv σ id o i=σ i:=by simp [dv,h]
def jo (fz:Nat×Nat) (n:Nat):Prop:= ∀o,o<n→¬(fz.1≤o∧o<fz.2)
structure de where
  w:World
  C:Nat→Nat→Option Value
  X:Nat→Prop
structure Kept (X:Nat→Prop) (w w':World):Prop where
  os:w'.os=w.os
  tape:w'.tape=w.tape
  output:w'.output=w.output
  size:w.heap.size≤w'.heap.size
  block:∀k,X k→w'.heap[k]? =w.heap[k]?
  lt:∀k,X k→k<w.heap.size
theorem Kept.Kc {X:Nat→Prop} {w w':World} (h:Kept X w w') {k:Nat} (hk:X k):k<w'.heap.size:=Nat.lt_of_lt_of_le (h.lt k hk) h.size
theorem Kept.new {X:Nat→Prop} {w w':World} (h:Kept X w w'):¬X w'.heap.size:=fun k=>Nat.lt_irrefl _ (h.Kc k)
theorem Kept.ext {X:Nat→Prop} {a w w':World} (h:Kept X a w) (k:Below w.heap.size w w'):Kept X a w':=
 ⟨k.os.trans h.os,k.tape.trans h.tape,k.output.trans h.output,Nat.le_trans h.size k.size,fun i hi=>(k.block i (h.Kc hi)).trans (h.block i hi),h.lt⟩
theorem Kept.drew {X:Nat→Prop} {a w:World} (h:Kept X a w):Kept X a w.drew:=⟨h.os,h.tape,h.output,h.size,h.block,h.lt⟩
theorem Kept.alloc {X:Nat→Prop} {a w:World} (h:Kept X a w) (o:Obj):Kept X a (w.alloc o):=h.ext ((Below.refl _ _).alloc (VF _) o)
theorem Kept.of (w:World):Kept (fun k=>k<w.heap.size) w w:=⟨rfl,rfl,rfl,VF _,fun _ _=>rfl,fun _ h=>h⟩
theorem Kept.below {w w':World} (h:Kept (fun k=>k<w.heap.size) w w'):Below w.heap.size w w':=⟨h.os,h.tape,h.output,h.size,h.block⟩
structure mP (w0:de) (M:MM) (own:Nat→Option Nat) (id:Nat) (cs:List D) (w:World) (b:Nat) (vs:Array Value) (ty:TypeId):Prop where
  box:M.box id=some b
  base:¬w0.X b
  own:own b=some id
  none:∀o,M.cell b o=none
  cq:w.heap[b]? =some (.cells vs ty (0,0))
  len:cs.length≤vs.size
  rep:∀(i:Nat) (d:D) (v:Value),cs[i]? =some d→vs[i]? =some v→bz M d v
  room:∀sz a len cap,M.br id sz=some (.slice a len cap)→cap*sz≤vs.size
structure Hr (w0:de) (M:MM) (own:Nat→Option Nat) (id:Nat) (F:List MapEntry→Nat→Prop) (w:World) (b:Nat) (Pf:Array MapEntry) (clock:Nat):Prop where
  box:M.box id=some b
  base:¬w0.X b
  own:own b=some id
  none:∀o,M.cell b o=none
  cq:w.heap[b]? =some (.map Pf clock)
  fits:F Pf.toList clock
structure EV (w0:de) (M:MM) (own:Nat→Option Nat) (id:Nat) (k:Lk) (t:List D) (ps:Array Nat) (ag bd:Code) (w:World) (l:Nat) (r:Loop):Prop where
  box:M.box id=some l
  base:¬w0.X l
  own:own l=some id
  cq:w.heap[l]? =some (.loop r)
  st:r.state=k.state
  pd:k≠ .busy→r.pending=k.F9
  tm:bV M t r.tmps
  ps:r.params=ps
  ag:r.assign=ag
  bd:r.body=bd
structure o8 (w0:de) (M:MM) (own:Nat→Option Nat) (id sz:Nat) (w:World) (len cap b:Nat) (vs:Array Value) (ty:TypeId) (fz:Nat×Nat):Prop where
  base:¬w0.X b
  own:own b=some id
  cq:w.heap[b]? =some (.cells vs ty fz)
  fz:jo fz vs.size
  cap:cap*sz≤vs.size∧cap≤9223372036854775807
  none:∀o,len*sz≤o→M.cell b o=none
structure Kv (w0:de) (M:MM) (own:Nat→Option Nat) (id ver sz:Nat) (w:World) (a:Option Addr) (len cap:Nat):Prop where
  br:M.br id ver=some (.slice a len cap)
  last:∀v,ver<v→M.br id v=none
  room:cap=len∨∃b vs ty fz,a=some ⟨b,0,none⟩∧o8 w0 M own id sz w len cap b vs ty fz
structure bH (w0:de) (M:MM) (own:Nat→Option Nat) (σ:Nat→Ob) (w:World):Prop where
  below:Kept w0.X w0.w w
  cells:∀b o v,M.cell b o=some v→w.cell? ⟨b,o,none⟩=some v
  gq:∀b o v,M.cell b o=some v→w0.X b→w0.C b o=some v
  owned:∀b id,own b=some id→b<w.heap.size
  box:∀id cs,σ id= .box cs→∃b vs ty,mP w0 M own id cs w b vs ty
  bg:∀id ver sz,σ id= .bg ver sz→∃a len cap,Kv w0 M own id ver sz w a len cap
  mp:∀id F,(σ id).BA=some F→∃b Pf clock,Hr w0 M own id F w b Pf clock
  lp:∀id k t ps ag bd,σ id= .lp k t ps ag bd→∃l r,EV w0 M own id k t ps ag bd w l r
  dE:∀b,M.dE b→¬w0.X b∧w.heap[b]? =some (.deferred (some []))
theorem EV.bO {w0:de} {M M':MM} {own Pc:Nat→Option Nat} {id:Nat} {k:Lk} {t:List D} {ps:Array Nat} {ag bd:Code} {w w':World} {l:Nat} {r:Loop} (h:EV w0 M own id k t ps ag bd w l r) (le:M.Le M') (ho:Pc l=some id) (hb:w'.heap[l]? =some (.loop r)):EV w0 M' Pc id k t ps ag bd w' l r:=
 ⟨le.box _ _ h.box,h.base,ho,hb,h.st,h.pd,h.tm.mono le,h.ps,h.ag,h.bd⟩
structure Ext (M:MM) (w:World) (M':MM) (w':World):Prop where
  below:Below w.heap.size w w'
  cell:∀b o v,M.cell b o=some v→M'.cell b o=some v
  only:∀b o v,M'.cell b o=some v→b<w.heap.size→M.cell b o=some v
  cells:∀b o v,M'.cell b o=some v→w'.cell? ⟨b,o,none⟩=some v
theorem gL {w w':World} (h:Below w.heap.size w w') {b:Nat} {o:Obj} (hb:w.heap[b]? =some o):w'.heap[b]? =some o:=by
 rw [h.block b ?_,hb]
 rcases VS b w.heap.size with h|h
 ·exact h
 ·simp [Array.getElem?_eq_none h] at hb
theorem dy {w:World} {b:Nat} {o:Obj} (hb:w.heap[b]? =some o):b<w.heap.size:=by
 rcases VS b w.heap.size with h|h
 ·exact h
 ·simp [Array.getElem?_eq_none h] at hb
theorem iK {C C':Nat→Nat→Option Value} {n b o:Nat} (only:∀b o v,C' b o=some v→b<n→C b o=some v) (hb:b<n) (h:C b o=none):C' b o=none:=by
 cases e:C' b o with
 |none=>rfl
 |some v=>rw [only b o v e hb] at h;cases h
theorem bH.ext {w0:de} {w w':World} {M M':MM} {own:Nat→Option Nat} {σ:Nat→Ob} (h:bH w0 M own σ w) (e:Ext M w M' w')
  (Ri:M'.box=M.box) (Qa:M'.br=M.br) (Q6:M'.dE=M.dE):bH w0 M' own σ w'∧M.Le M':=by
 have le:M.Le M':=⟨e.cell,fun id b h=>by rw [Ri];exact h,fun t v x h=>by rw [Qa];exact h,fun b h=>by rw [Q6];exact h⟩
 refine ⟨⟨?_,e.cells,?_,?_,?_,?_,?_,?_,?_⟩,le⟩
 ·exact h.below.ext e.below
 ·exact fun b o v k hb=>h.gq b o v (e.only b o v k (h.below.Kc hb)) hb
 ·exact fun b id k=>Nat.lt_of_lt_of_le (h.owned b id k) e.below.size
 ·intro id cs hs
  obtain ⟨b,vs,ty,k⟩:=h.box id cs hs
  exact ⟨b,vs,ty,by rw [Ri];exact k.box,k.base,k.own,fun o=>iK e.only (dy k.cq) (k.none o),gL e.below k.cq,k.len,fun i d v a b=>(k.rep i d v a b).mono le,fun sz a len cap q=>k.room sz a len cap (Qa▸q)⟩
 ·intro id ver sz hs
  obtain ⟨a,len,cap,k⟩:=h.bg id ver sz hs
  refine ⟨a,len,cap,by rw [Qa];exact k.br,by rw [Qa];exact k.last,?_⟩
  rcases k.room with r|⟨b,vs,ty,fz,ha,r⟩
  ·exact .inl r
  ·exact .inr ⟨b,vs,ty,fz,ha,r.base,r.own,gL e.below r.cq,r.fz,r.cap,fun o ho=>iK e.only (dy r.cq) (r.none o ho)⟩
 ·intro id F hs
  obtain ⟨b,Pf,clock,q⟩:=h.mp id F hs
  exact ⟨b,Pf,clock,by rw [Ri];exact q.box,q.base,q.own,fun o=>iK e.only (dy q.cq) (q.none o),gL e.below q.cq,q.fits⟩
 ·intro id k t ps ag bd hs
  obtain ⟨l,r,q⟩:=h.lp id k t ps ag bd hs
  exact ⟨l,r,q.bO le q.own (gL e.below q.cq)⟩
 ·intro b hb
  rw [Q6] at hb
  exact ⟨(h.dE b hb).1,gL e.below (h.dE b hb).2⟩
theorem bH.drew {w0:de} {w:World} {M:MM} {own:Nat→Option Nat} {σ:Nat→Ob} (h:bH w0 M own σ w):bH w0 M own σ w.drew:=
 ⟨h.below.drew,h.cells,h.gq,h.owned,fun id cs e=>let ⟨b,vs,ty,k⟩:=h.box id cs e;⟨b,vs,ty,k.box,k.base,k.own,k.none,k.cq,k.len,k.rep,k.room⟩,
  fun id ver sz e=>let ⟨a,len,cap,k⟩:=h.bg id ver sz e;⟨a,len,cap,k.br,k.last,k.room.imp (fun x=>x) fun ⟨b,vs,ty,fz,ha,r⟩=>⟨b,vs,ty,fz,ha,r.base,r.own,r.cq,r.fz,r.cap,r.none⟩⟩,
  fun id F e=>let ⟨b,Pf,clock,q⟩:=h.mp id F e;⟨b,Pf,clock,q.box,q.base,q.own,q.none,q.cq,q.fits⟩,
  fun id k t ps ag bd e=>let ⟨l,r,q⟩:=h.lp id k t ps ag bd e;⟨l,r,q.bO (.refl _) q.own q.cq⟩,fun b hb=>⟨(h.dE b hb).1,(h.dE b hb).2⟩⟩
theorem bH.kill {w0:de} {w:World} {M:MM} {own:Nat→Option Nat} {σ:Nat→Ob} (h:bH w0 M own σ w) (id:Nat):bH w0 M own (dv σ id .dead) w:=by
 refine ⟨h.below,h.cells,h.gq,h.owned,?_,?_,?_,?_,h.dE⟩
 ·intro i cs hi
  by_cases e:i=id
  ·rw [e,aR] at hi;cases hi
  ·rw [aX e] at hi;exact h.box i cs hi
 ·intro i v sz hi
  by_cases e:i=id
  ·rw [e,aR] at hi;cases hi
  ·rw [aX e] at hi;exact h.bg i v sz hi
 ·intro i F hi
  by_cases e:i=id
  ·rw [e,aR] at hi;cases hi
  ·rw [aX e] at hi;exact h.mp i F hi
 ·intro i k t ps ag bd hi
  by_cases e:i=id
  ·rw [e,aR] at hi;cases hi
  ·rw [aX e] at hi;exact h.lp i k t ps ag bd hi
def MM.bk (M:MM) (id b:Nat):MM:= { M with box:=fun i=>if i=id then some b else M.box i }
def MM.aV (M:MM) (id ver:Nat) (v:Value):MM:= { M with br:=fun i k=>if i=id∧k=ver then some v else M.br i k }
def MM.bK (M:MM) (b:Nat) (f:Nat→Option Value):MM:= { M with cell:=fun c o=>if c=b then f o else M.cell c o }
def dN (own:Nat→Option Nat) (b id:Nat):Nat→Option Nat:=fun c=>if c=b then some id else own c
theorem MM.dh {M:MM} {id b:Nat} (h:M.box id=none):M.Le (M.bk id b):=
 ⟨fun _ _ _ h=>h,fun i c k=>by by_cases e:i=id;(· rw [e,h] at k;cases k);(· simp [bk,e,k]),fun _ _ _ h=>h,fun _ h=>h⟩
theorem MM.cA {M:MM} {id ver:Nat} {v:Value} (h:M.br id ver=none):M.Le (M.aV id ver v):=
 ⟨fun _ _ _ h=>h,fun _ _ h=>h,fun i k x e=>by
  by_cases c:i=id∧k=ver
  ·rw [c.1,c.2,h] at e;cases e
  ·simp only [aV,c,if_false];exact e,fun _ h=>h⟩
theorem cR {w:World} {M:MM} (hc:∀b o v,M.cell b o=some v→w.cell? ⟨b,o,none⟩=some v) {b:Nat} (hb:w.heap.size≤b) (o:Nat):M.cell b o=none:=by
 cases e:M.cell b o with
 |none=>rfl
 |some v=>
  have:=WZ w _ (hc b o v e)
  have:b<w.heap.size:=this
  omega
theorem bH.nR {w0:de} {w:World} {M:MM} {own:Nat→Option Nat} {σ:Nat→Ob} (h:bH w0 M own σ w) {id:Nat} (PD:M.box id=none) (hh:∀v,M.br id v=none) {cs:List D} {vs:Array Value} (ty:TypeId)
  (hl:cs.length≤vs.size) (hr:∀(i:Nat) (d:D) (v:Value),cs[i]? =some d→vs[i]? =some v→bz M d v):
  bH w0 (M.bk id w.heap.size) (dN own w.heap.size id) (dv σ id (.box cs)) (w.alloc (.cells vs ty)):=by
 have le:=MM.dh (b:=w.heap.size) PD
 have PK:∀o,M.cell w.heap.size o=none:=cR h.cells (VF _)
 have hold:∀ {b:Nat} {o:Obj},w.heap[b]? =some o→(w.alloc (.cells vs ty)).heap[b]? =some o:=fun {b o} hb=>by
  rw [Below.heap_alloc _ _ _ (dy hb),hb]
 have PY:∀ {b i:Nat},own b=some i→dN own w.heap.size id b=some i:=fun {b i} k=>by
  have:=h.owned b i k
  simp [dN,show b≠w.heap.size by omega,k]
 refine ⟨h.below.alloc _,?_,h.gq,?_,?_,?_,?_,?_,?_⟩
 ·intro b o v k
  have k':M.cell b o=some v:=k
  rw [World.cell?_alloc_lt]
  ·exact h.cells b o v k'
  ·exact WZ w _ (h.cells b o v k')
 ·intro b i k
  rw [World.size_alloc]
  by_cases e:b=w.heap.size
  ·omega
  ·simp only [dN,e,if_false] at k
   have:=h.owned b i k
   omega
 ·intro i PM hi
  by_cases e:i=id
  ·subst e
   rw [aR] at hi
   cases hi
   refine ⟨w.heap.size,vs,ty,by simp [MM.bk],h.below.new,by simp [dN],PK,?_,hl,fun j d v a b=>(hr j d v a b).mono le,fun sz a len cap q=>by have q':M.br i sz=_:=q;rw [hh] at q';cases q'⟩
   show (w.heap.push _)[w.heap.size]? =_
   simp
  ·rw [aX e] at hi
   obtain ⟨b,vs',ty',k⟩:=h.box i PM hi
   exact ⟨b,vs',ty',le.box _ _ k.box,k.base,PY k.own,k.none,hold k.cq,k.len,fun j d v a b=>(k.rep j d v a b).mono le,k.room⟩
 ·intro i ver sz hi
  by_cases e:i=id
  ·rw [e,aR] at hi;cases hi
  ·rw [aX e] at hi
   obtain ⟨a,len,cap,k⟩:=h.bg i ver sz hi
   refine ⟨a,len,cap,k.br,k.last,?_⟩
   rcases k.room with r|⟨b,vs',ty',fz,ha,r⟩
   ·exact .inl r
   ·exact .inr ⟨b,vs',ty',fz,ha,r.base,PY r.own,hold r.cq,r.fz,r.cap,r.none⟩
 ·intro i F hi
  by_cases e:i=id
  ·rw [e,aR] at hi;cases hi
  ·rw [aX e] at hi
   obtain ⟨b,Pf,clock,q⟩:=h.mp i F hi
   exact ⟨b,Pf,clock,le.box _ _ q.box,q.base,PY q.own,q.none,hold q.cq,q.fits⟩
 ·intro i k t ps ag bd hi
  by_cases e:i=id
  ·rw [e,aR] at hi;cases hi
  ·rw [aX e] at hi
   obtain ⟨l,r,q⟩:=h.lp i k t ps ag bd hi
   exact ⟨l,r,q.bO le (PY q.own) (hold q.cq)⟩
 ·intro b hb
  exact ⟨(h.dE b hb).1,hold (h.dE b hb).2⟩
theorem bH.D5 {w0:de} {w:World} {M:MM} {own:Nat→Option Nat} {σ:Nat→Ob} (h:bH w0 M own σ w) {id:Nat} (PD:M.box id=none) {o:Ob} {F0:List MapEntry→Nat→Prop} (ho:o.BA=some F0) (hF:F0 [] 0):
  bH w0 (M.bk id w.heap.size) (dN own w.heap.size id) (dv σ id o) (w.alloc (.map #[] 0)):=by
 have le:=MM.dh (b:=w.heap.size) PD
 have PK:∀o,M.cell w.heap.size o=none:=cR h.cells (VF _)
 have hold:∀ {b:Nat} {o:Obj},w.heap[b]? =some o→(w.alloc (.map #[] 0)).heap[b]? =some o:=fun {b o} hb=>by
  rw [Below.heap_alloc _ _ _ (dy hb),hb]
 have PY:∀ {b i:Nat},own b=some i→dN own w.heap.size id b=some i:=fun {b i} k=>by
  have:=h.owned b i k
  simp [dN,show b≠w.heap.size by omega,k]
 refine ⟨h.below.alloc _,?_,h.gq,?_,?_,?_,?_,?_,?_⟩
 ·intro b o v k
  have k':M.cell b o=some v:=k
  rw [World.cell?_alloc_lt]
  ·exact h.cells b o v k'
  ·exact WZ w _ (h.cells b o v k')
 ·intro b i k
  rw [World.size_alloc]
  by_cases e:b=w.heap.size
  ·omega
  ·simp only [dN,e,if_false] at k
   have:=h.owned b i k
   omega
 ·intro i PM hi
  by_cases e:i=id
  ·rw [e,aR] at hi;rw [hi] at ho;cases ho
  ·rw [aX e] at hi
   obtain ⟨b,vs',ty',k⟩:=h.box i PM hi
   exact ⟨b,vs',ty',le.box _ _ k.box,k.base,PY k.own,k.none,hold k.cq,k.len,fun j d v a b=>(k.rep j d v a b).mono le,k.room⟩
 ·intro i ver sz hi
  by_cases e:i=id
  ·rw [e,aR] at hi;rw [hi] at ho;cases ho
  ·rw [aX e] at hi
   obtain ⟨a,len,cap,k⟩:=h.bg i ver sz hi
   refine ⟨a,len,cap,k.br,k.last,?_⟩
   rcases k.room with r|⟨b,vs',ty',fz,ha,r⟩
   ·exact .inl r
   ·exact .inr ⟨b,vs',ty',fz,ha,r.base,PY r.own,hold r.cq,r.fz,r.cap,r.none⟩
 ·intro i F hi
  by_cases e:i=id
  ·subst e
   rw [aR,ho] at hi
   cases hi
   refine ⟨w.heap.size,#[],0,by simp [MM.bk],h.below.new,by simp [dN],PK,?_,hF⟩
   show (w.heap.push _)[w.heap.size]? =_
   simp
  ·rw [aX e] at hi
   obtain ⟨b,Pf,clock,q⟩:=h.mp i F hi
   exact ⟨b,Pf,clock,le.box _ _ q.box,q.base,PY q.own,q.none,hold q.cq,q.fits⟩
 ·intro i k' t ps ag bd hi
  by_cases e:i=id
  ·rw [e,aR] at hi;rw [hi] at ho;cases ho
  ·rw [aX e] at hi
   obtain ⟨l,r,q⟩:=h.lp i k' t ps ag bd hi
   exact ⟨l,r,q.bO le (PY q.own) (hold q.cq)⟩
 ·intro b hb
  exact ⟨(h.dE b hb).1,hold (h.dE b hb).2⟩
def bo (w:World) (b:Nat) (o:Obj):World:= { w with heap:=w.heap.setIfInBounds b o }
theorem dq {w:World} {b:Nat} {o p:Obj} (h:w.heap[b]? =some p):(bo w b o).heap[b]? =some o:=by
 have:=dy h
 simp [bo,this]
theorem aN {w:World} {b c:Nat} {o:Obj} (h:c≠b):(bo w b o).heap[c]? =w.heap[c]? :=by
 simp [bo,Array.getElem?_setIfInBounds_ne (Ne.symm h)]
theorem dL (w:World) (b:Nat) (o:Obj):(bo w b o).heap.size=w.heap.size:=by simp [bo]
theorem dd {w:World} {b c o:Nat} {p:Obj} (h:c≠b):(bo w b p).cell? ⟨c,o,none⟩=w.cell? ⟨c,o,none⟩:=by
 simp [WE,aN h]
theorem dW {X:Nat→Prop} {w0 w:World} (h:Kept X w0 w) {b:Nat} (hb:¬X b) (o:Obj):Kept X w0 (bo w b o):=
 ⟨h.os,h.tape,h.output,by rw [dL];exact h.size,fun k hk=>by rw [aN (show k≠b from fun e=>hb (e▸hk))];exact h.block k hk,h.lt⟩
theorem bH.C2 {w0:de} {w:World} {M:MM} {own:Nat→Option Nat} {σ:Nat→Ob} (h:bH w0 M own σ w) {id b:Nat} {cs PM:List D} {vs vs':Array Value} {ty:TypeId}
  (k:mP w0 M own id cs w b vs ty) (hl:PM.length≤vs'.size) (hs:vs'.size=vs.size)
  (hr:∀(i:Nat) (d:D) (v:Value),PM[i]? =some d→vs'[i]? =some v→bz M d v):
  bH w0 M own (dv σ id (.box PM)) (bo w b (.cells vs' ty (0,0))):=by
 refine ⟨dW h.below k.base _,?_,h.gq,?_,?_,?_,?_,?_,?_⟩
 ·intro c o v hc
  have:c≠b:=fun e=>by rw [e,k.none o] at hc;cases hc
  rw [dd this]
  exact h.cells c o v hc
 ·intro c i hc;rw [dL];exact h.owned c i hc
 ·intro i Q5 hi
  by_cases e:i=id
  ·subst e
   rw [aR] at hi
   cases hi
   exact ⟨b,vs',ty,k.box,k.base,k.own,k.none,dq k.cq,hl,hr,fun sz a len cap q=>by rw [hs];exact k.room sz a len cap q⟩
  ·rw [aX e] at hi
   obtain ⟨c,vs2,ty2,k2⟩:=h.box i Q5 hi
   have:c≠b:=fun ec=>by have h1:=k2.own;rw [ec,k.own] at h1;exact e (VA h1).symm
   exact ⟨c,vs2,ty2,k2.box,k2.base,k2.own,k2.none,by rw [aN this];exact k2.cq,k2.len,k2.rep,k2.room⟩
 ·intro i ver sz hi
  by_cases e:i=id
  ·rw [e,aR] at hi;cases hi
  ·rw [aX e] at hi
   obtain ⟨a,len,cap,k2⟩:=h.bg i ver sz hi
   refine ⟨a,len,cap,k2.br,k2.last,?_⟩
   rcases k2.room with r|⟨c,vs2,ty2,fz,ha,r⟩
   ·exact .inl r
   ·have:c≠b:=fun ec=>by have h1:=r.own;rw [ec,k.own] at h1;exact e (VA h1).symm
    exact .inr ⟨c,vs2,ty2,fz,ha,r.base,r.own,by rw [aN this];exact r.cq,r.fz,r.cap,r.none⟩
 ·intro i F hi
  by_cases e:i=id
  ·rw [e,aR] at hi;cases hi
  ·rw [aX e] at hi
   obtain ⟨c,Pf,clock,q⟩:=h.mp i F hi
   have:c≠b:=fun ec=>by have h1:=q.own;rw [ec,k.own] at h1;exact e (VA h1).symm
   exact ⟨c,Pf,clock,q.box,q.base,q.own,q.none,by rw [aN this];exact q.cq,q.fits⟩
 ·intro i k2 t ps ag bd hi
  by_cases e:i=id
  ·rw [e,aR] at hi;cases hi
  ·rw [aX e] at hi
   obtain ⟨l,r,q⟩:=h.lp i k2 t ps ag bd hi
   have:l≠b:=fun ec=>by have h1:=q.own;rw [ec,k.own] at h1;exact e (VA h1).symm
   exact ⟨l,r,q.bO (.refl _) q.own (by rw [aN this];exact q.cq)⟩
 ·intro c hc
  have:c≠b:=fun ec=>by have h1:=(h.dE c hc).2;rw [ec,k.cq] at h1;cases h1
  exact ⟨(h.dE c hc).1,by rw [aN this];exact (h.dE c hc).2⟩
theorem bH.hG {w0:de} {w:World} {M:MM} {own:Nat→Option Nat} {σ:Nat→Ob} (h:bH w0 M own σ w) {id b:Nat} {F0 F1:List MapEntry→Nat→Prop} {Pf ents':Array MapEntry} {clock:Nat}
  (k:Hr w0 M own id F0 w b Pf clock) (Rj:Nat) {o':Ob} (ho:o'.BA=some F1) (hf:F1 ents'.toList Rj):
  bH w0 M own (dv σ id o') (bo w b (.map ents' Rj)):=by
 refine ⟨dW h.below k.base _,?_,h.gq,?_,?_,?_,?_,?_,?_⟩
 ·intro c o v hc
  have:c≠b:=fun e=>by rw [e,k.none o] at hc;cases hc
  rw [dd this]
  exact h.cells c o v hc
 ·intro c i hc;rw [dL];exact h.owned c i hc
 ·intro i Q5 hi
  by_cases e:i=id
  ·rw [e,aR] at hi;rw [hi] at ho;cases ho
  ·rw [aX e] at hi
   obtain ⟨c,vs2,ty2,k2⟩:=h.box i Q5 hi
   have:c≠b:=fun ec=>by have h1:=k2.own;rw [ec,k.own] at h1;exact e (VA h1).symm
   exact ⟨c,vs2,ty2,k2.box,k2.base,k2.own,k2.none,by rw [aN this];exact k2.cq,k2.len,k2.rep,k2.room⟩
 ·intro i ver sz hi
  by_cases e:i=id
  ·rw [e,aR] at hi;rw [hi] at ho;cases ho
  ·rw [aX e] at hi
   obtain ⟨a,len,cap,k2⟩:=h.bg i ver sz hi
   refine ⟨a,len,cap,k2.br,k2.last,?_⟩
   rcases k2.room with r|⟨c,vs2,ty2,fz,ha,r⟩
   ·exact .inl r
   ·have:c≠b:=fun ec=>by have h1:=r.own;rw [ec,k.own] at h1;exact e (VA h1).symm
    exact .inr ⟨c,vs2,ty2,fz,ha,r.base,r.own,by rw [aN this];exact r.cq,r.fz,r.cap,r.none⟩
 ·intro i F hi
  by_cases e:i=id
  ·subst e
   rw [aR,ho] at hi
   cases hi
   exact ⟨b,ents',Rj,k.box,k.base,k.own,k.none,dq k.cq,hf⟩
  ·rw [aX e] at hi
   obtain ⟨c,ents2,clock2,q⟩:=h.mp i F hi
   have:c≠b:=fun ec=>by have h1:=q.own;rw [ec,k.own] at h1;exact e (VA h1).symm
   exact ⟨c,ents2,clock2,q.box,q.base,q.own,q.none,by rw [aN this];exact q.cq,q.fits⟩
 ·intro i k2 t ps ag bd hi
  by_cases e:i=id
  ·rw [e,aR] at hi;rw [hi] at ho;cases ho
  ·rw [aX e] at hi
   obtain ⟨l,r,q⟩:=h.lp i k2 t ps ag bd hi
   have:l≠b:=fun ec=>by have h1:=q.own;rw [ec,k.own] at h1;exact e (VA h1).symm
   exact ⟨l,r,q.bO (.refl _) q.own (by rw [aN this];exact q.cq)⟩
 ·intro c hc
  have:c≠b:=fun ec=>by have h1:=(h.dE c hc).2;rw [ec,k.cq] at h1;cases h1
  exact ⟨(h.dE c hc).1,by rw [aN this];exact (h.dE c hc).2⟩
theorem bH.kq {w0:de} {w:World} {M:MM} {own:Nat→Option Nat} {σ:Nat→Ob} (h:bH w0 M own σ w) {id ver:Nat} (PD:∀v,ver≤v→M.br id v=none) {a:Option Addr} {len cap:Nat} (sz:Nat)
  (PI:cap=len∨∃b vs ty fz,a=some ⟨b,0,none⟩∧¬w0.X b∧(own b=none∨own b=some id)∧w.heap[b]? =some (.cells vs ty fz)∧jo fz vs.size∧(cap*sz≤vs.size∧cap≤9223372036854775807)∧∀o,len*sz≤o→M.cell b o=none):
  ∃Pc,bH w0 (M.aV id ver (.slice a len cap)) Pc (dv σ id (.bg ver sz)) w:=by
 have le:=MM.cA (ver:=ver) (v:= .slice a len cap) (PD ver (VF _))
 have Ta:∀ {Pc:Nat→Option Nat},(∀b i,own b=some i→Pc b=some i)→(∀b i,Pc b=some i→b<w.heap.size)→
   (cap=len∨∃b vs ty fz,a=some ⟨b,0,none⟩∧o8 w0 (M.aV id ver (.slice a len cap)) Pc id sz w len cap b vs ty fz)→
   bH w0 (M.aV id ver (.slice a len cap)) Pc (dv σ id (.bg ver sz)) w:=by
  intro Pc Rt SI hr
  refine ⟨h.below,h.cells,h.gq,SI,?_,?_,?_,?_,h.dE⟩
  ·intro i cs hi
   by_cases e:i=id
   ·rw [e,aR] at hi;cases hi
   ·rw [aX e] at hi
    obtain ⟨b,vs,ty,k⟩:=h.box i cs hi
    exact ⟨b,vs,ty,k.box,k.base,Rt _ _ k.own,k.none,k.cq,k.len,fun j d v a b=>(k.rep j d v a b).mono le,fun Py a' Pk PC q=>k.room Py a' Pk PC (by simpa [MM.aV,e] using q)⟩
  ·intro i RH Py hi
   by_cases e:i=id
   ·subst e
    rw [aR] at hi
    cases hi
    refine ⟨a,len,cap,by simp [MM.aV],?_,hr⟩
    intro v hv
    simp only [MM.aV,show ¬(v=ver) by omega,and_false,if_false]
    exact PD v (by omega)
   ·rw [aX e] at hi
    obtain ⟨a',Pk,PC,k⟩:=h.bg i RH Py hi
    refine ⟨a',Pk,PC,le.br _ _ _ k.br,?_,?_⟩
    ·intro v hv
     simp only [MM.aV,e,false_and,if_false]
     exact k.last v hv
    ·rcases k.room with r|⟨c,vs2,ty2,fz,ha,r⟩
     ·exact .inl r
     ·exact .inr ⟨c,vs2,ty2,fz,ha,r.base,Rt _ _ r.own,r.cq,r.fz,r.cap,r.none⟩
  ·intro i F hi
   by_cases e:i=id
   ·rw [e,aR] at hi;cases hi
   ·rw [aX e] at hi
    obtain ⟨b,Pf,clock,q⟩:=h.mp i F hi
    exact ⟨b,Pf,clock,q.box,q.base,Rt _ _ q.own,q.none,q.cq,q.fits⟩
  ·intro i k t ps ag bd hi
   by_cases e:i=id
   ·rw [e,aR] at hi;cases hi
   ·rw [aX e] at hi
    obtain ⟨l,r,q⟩:=h.lp i k t ps ag bd hi
    exact ⟨l,r,q.bO le (Rt _ _ q.own) q.cq⟩
 rcases PI with hc|⟨b,vs,ty,fz,ha,Q9,P9,hblk,SG,Ph,P7⟩
 ·exact ⟨own,Ta (fun _ _ x=>x) h.owned (.inl hc)⟩
 ·refine ⟨dN own b id,Ta ?_ ?_ (.inr ⟨b,vs,ty,fz,ha,Q9,by simp [dN],hblk,SG,Ph,P7⟩)⟩
  ·intro c i hc
   by_cases e:c=b
   ·subst e
    rcases P9 with P9|P9
    ·rw [P9] at hc;cases hc
    ·rw [P9] at hc;simp [dN];exact VA hc
   ·simp [dN,e,hc]
  ·intro c i hc
   by_cases e:c=b
   ·rw [e];exact dy hblk
   ·simp only [dN,e,if_false] at hc;exact h.owned c i hc
def MM.bZ (M:MM) (b n1 n2:Nat) (vs:Array Value):MM:=M.bK b fun o=>if n1≤o∧o<n2 then vs[o]? else M.cell b o
theorem MM.An {M:MM} {b n1 n2:Nat} {vs:Array Value} (h:∀o,n1≤o→M.cell b o=none):M.Le (M.bZ b n1 n2 vs):=by
 refine ⟨fun c o v k=> ?_,fun _ _ k=>k,fun _ _ _ k=>k,fun _ k=>k⟩
 by_cases e:c=b
 ·subst e
  simp only [bZ,bK,if_true]
  rw [if_neg]
  ·exact k
  ·intro hh;rw [h o hh.1] at k;cases k
 ·simp only [bZ,bK,e,if_false];exact k
theorem bH.EB {w0:de} {w:World} {M:MM} {own:Nat→Option Nat} {σ:Nat→Ob} (h:bH w0 M own σ w) {id sz len cap b:Nat} {ver Py:Nat} {vs vs':Array Value} {ty:TypeId} {fz:Nat×Nat} (_hs:σ id= .bg ver Py)
  (r:o8 w0 M own id sz w len cap b vs ty fz) (n2:Nat) (Uj:vs'.size=vs.size) (PR:∀o,o<len*sz→vs'[o]? =vs[o]?):
  bH w0 (M.bZ b (len*sz) n2 vs') own (dv σ id .dead) (bo w b (.cells vs' ty fz)):=by
 have le:M.Le (M.bZ b (len*sz) n2 vs'):=MM.An r.none
 refine ⟨dW h.below r.base _,?_,?_,?_,?_,?_,?_,?_,?_⟩
 ·intro c o v hc
  by_cases e:c=b
  ·subst e
   simp only [MM.bZ,MM.bK,if_true] at hc
   simp only [WE,dq r.cq]
   split at hc
   ·exact hc
   ·have h1:=h.cells c o v hc
    have h2:o<len*sz:=by
     rcases VS o (len*sz) with q|q
     ·exact q
     ·rw [r.none o q] at hc;cases hc
    simp only [WE,r.cq] at h1
    rw [← PR o h2] at h1
    exact h1
  ·simp only [MM.bZ,MM.bK,e,if_false] at hc
   rw [dd e]
   exact h.cells c o v hc
 ·intro c o v hc Pd
  have e:c≠b:=fun e=>r.base (e▸Pd)
  simp only [MM.bZ,MM.bK,e,if_false] at hc
  exact h.gq c o v hc Pd
 ·intro c i hc;rw [dL];exact h.owned c i hc
 ·intro i Q5 hi
  by_cases e:i=id
  ·rw [e,aR] at hi;cases hi
  ·rw [aX e] at hi
   obtain ⟨c,vs2,ty2,k2⟩:=h.box i Q5 hi
   have:c≠b:=fun ec=>by have h1:=k2.own;rw [ec,r.own] at h1;exact e (VA h1).symm
   exact ⟨c,vs2,ty2,k2.box,k2.base,k2.own,fun o=>by simp only [MM.bZ,MM.bK,this,if_false];exact k2.none o,by rw [aN this];exact k2.cq,k2.len,fun j d v a b=>(k2.rep j d v a b).mono le,k2.room⟩
 ·intro i Ud P4 hi
  by_cases e:i=id
  ·rw [e,aR] at hi;cases hi
  ·rw [aX e] at hi
   obtain ⟨a,len2,cap2,k2⟩:=h.bg i Ud P4 hi
   refine ⟨a,len2,cap2,k2.br,k2.last,?_⟩
   rcases k2.room with q|⟨c,vs2,ty2,fz2,ha,q⟩
   ·exact .inl q
   ·have:c≠b:=fun ec=>by have h1:=q.own;rw [ec,r.own] at h1;exact e (VA h1).symm
    exact .inr ⟨c,vs2,ty2,fz2,ha,q.base,q.own,by rw [aN this];exact q.cq,q.fz,q.cap,fun o ho=>by simp only [MM.bZ,MM.bK,this,if_false];exact q.none o ho⟩
 ·intro i F hi
  by_cases e:i=id
  ·rw [e,aR] at hi;cases hi
  ·rw [aX e] at hi
   obtain ⟨c,Pf,clock,q⟩:=h.mp i F hi
   have:c≠b:=fun ec=>by have h1:=q.own;rw [ec,r.own] at h1;exact e (VA h1).symm
   exact ⟨c,Pf,clock,q.box,q.base,q.own,fun o=>by simp only [MM.bZ,MM.bK,this,if_false];exact q.none o,by rw [aN this];exact q.cq,q.fits⟩
 ·intro i k2 t ps ag bd hi
  by_cases e:i=id
  ·rw [e,aR] at hi;cases hi
  ·rw [aX e] at hi
   obtain ⟨l,r',q⟩:=h.lp i k2 t ps ag bd hi
   have:l≠b:=fun ec=>by have h1:=q.own;rw [ec,r.own] at h1;exact e (VA h1).symm
   exact ⟨l,r',q.bO le q.own (by rw [aN this];exact q.cq)⟩
 ·intro c hc
  have:c≠b:=fun ec=>by have h1:=(h.dE c hc).2;rw [ec,r.cq] at h1;cases h1
  exact ⟨(h.dE c hc).1,by rw [aN this];exact (h.dE c hc).2⟩
theorem bH.jZ {w0:de} {w:World} {M:MM} {own:Nat→Option Nat} {σ:Nat→Ob} (h:bH w0 M own σ w) {id b:Nat} {cs:List D} {vs:Array Value} {ty:TypeId} (hσ:σ id= .box cs)
  (k:mP w0 M own id cs w b vs ty) {sz len cap:Nat} (hn:M.br id sz=none) (hc:cap*sz≤vs.size):bH w0 (M.aV id sz (.slice (some ⟨b,0,none⟩) len cap)) own σ w:=by
 have le:=MM.cA (v:= .slice (some ⟨b,0,none⟩) len cap) hn
 refine ⟨h.below,h.cells,h.gq,h.owned,?_,?_,?_,?_,h.dE⟩
 ·intro i PM hi
  by_cases e:i=id
  ·subst e
   rw [hσ] at hi
   cases hi
   refine ⟨b,vs,ty,k.box,k.base,k.own,k.none,k.cq,k.len,fun j d v a b=>(k.rep j d v a b).mono le,fun Py a Pk PC q=> ?_⟩
   by_cases es:Py=sz
   ·subst es
    simp only [MM.aV,and_self,if_true,VI,Value.slice.injEq] at q
    rw [← q.2.2];exact hc
   ·simp only [MM.aV,es,and_false,if_false] at q
    exact k.room Py a Pk PC q
  ·obtain ⟨b',vs',ty',k'⟩:=h.box i PM hi
   exact ⟨b',vs',ty',k'.box,k'.base,k'.own,k'.none,k'.cq,k'.len,fun j d v a b=>(k'.rep j d v a b).mono le,fun Py a Pk PC q=>k'.room Py a Pk PC (by simpa [MM.aV,e] using q)⟩
 ·intro i ver Py hi
  by_cases e:i=id
  ·subst e;rw [hσ] at hi;cases hi
  ·obtain ⟨a,Pk,PC,k'⟩:=h.bg i ver Py hi
   refine ⟨a,Pk,PC,le.br _ _ _ k'.br,?_,?_⟩
   ·intro v hv
    simp only [MM.aV,e,false_and,if_false]
    exact k'.last v hv
   ·rcases k'.room with r|⟨c,vs2,ty2,fz,ha,r⟩
    ·exact .inl r
    ·exact .inr ⟨c,vs2,ty2,fz,ha,r.base,r.own,r.cq,r.fz,r.cap,r.none⟩
 ·intro i F hi
  obtain ⟨b',Pf,clock,q⟩:=h.mp i F hi
  exact ⟨b',Pf,clock,q.box,q.base,q.own,q.none,q.cq,q.fits⟩
 ·intro i kk t ps ag bd hi
  obtain ⟨l,r,q⟩:=h.lp i kk t ps ag bd hi
  exact ⟨l,r,q.bO le q.own q.cq⟩
theorem bH.Ak {w0:de} {w:World} {M:MM} {own:Nat→Option Nat} {σ:Nat→Ob} (h:bH w0 M own σ w) {id QR b:Nat} {cs PM:List D} {vs vs':Array Value} {ty:TypeId}
  (k:mP w0 M own id cs w b vs ty) (PD:M.box QR=none) (hh:∀v,M.br QR v=none) (hl:PM.length≤vs'.size) (hr:∀(i:Nat) (d:D) (v:Value),PM[i]? =some d→vs'[i]? =some v→bz M d v):
  bH w0 (M.bk QR b) (dN own b QR) (dv (dv σ id .dead) QR (.box PM)) (bo w b (.cells vs' ty (0,0))):=by
 have le:=MM.dh (b:=b) PD
 have Px:∀ {i c:Nat},own c=some i→i≠id→c≠b:=fun hi e ec=>by rw [ec,k.own] at hi;exact e (VA hi).symm
 have PY:∀ {i c:Nat},own c=some i→i≠id→dN own b QR c=some i:=fun hi e=>by simp [dN,Px hi e,hi]
 refine ⟨dW h.below k.base _,?_,h.gq,?_,?_,?_,?_,?_,?_⟩
 ·intro c o v hc
  have QL:M.cell c o=some v:=hc
  have:c≠b:=fun e=>by rw [e,k.none o] at QL;cases QL
  rw [dd this]
  exact h.cells c o v QL
 ·intro c i hc
  rw [dL]
  by_cases e:c=b
  ·rw [e];exact dy k.cq
  ·simp only [dN,e,if_false] at hc;exact h.owned c i hc
 ·intro i Q5 hi
  by_cases e:i=QR
  ·subst e
   rw [aR] at hi
   cases hi
   exact ⟨b,vs',ty,by simp [MM.bk],k.base,by simp [dN],k.none,dq k.cq,hl,fun j d v a b=>(hr j d v a b).mono le,fun sz a len cap q=>by have q':M.br i sz=_:=q;rw [hh] at q';cases q'⟩
  ·rw [aX e] at hi
   by_cases e2:i=id
   ·rw [e2,aR] at hi;cases hi
   ·rw [aX e2] at hi
    obtain ⟨c,vs2,ty2,k2⟩:=h.box i Q5 hi
    exact ⟨c,vs2,ty2,le.box _ _ k2.box,k2.base,PY k2.own e2,k2.none,by rw [aN (Px k2.own e2)];exact k2.cq,k2.len,fun j d v a b=>(k2.rep j d v a b).mono le,k2.room⟩
 ·intro i ver sz hi
  by_cases e:i=QR
  ·rw [e,aR] at hi;cases hi
  ·rw [aX e] at hi
   by_cases e2:i=id
   ·rw [e2,aR] at hi;cases hi
   ·rw [aX e2] at hi
    obtain ⟨a,len,cap,k2⟩:=h.bg i ver sz hi
    refine ⟨a,len,cap,k2.br,k2.last,?_⟩
    rcases k2.room with r|⟨c,vs2,ty2,fz,ha,r⟩
    ·exact .inl r
    ·exact .inr ⟨c,vs2,ty2,fz,ha,r.base,PY r.own e2,by rw [aN (Px r.own e2)];exact r.cq,r.fz,r.cap,r.none⟩
 ·intro i F hi
  by_cases e:i=QR
  ·rw [e,aR] at hi;cases hi
  ·rw [aX e] at hi
   by_cases e2:i=id
   ·rw [e2,aR] at hi;cases hi
   ·rw [aX e2] at hi
    obtain ⟨c,Pf,clock,q⟩:=h.mp i F hi
    exact ⟨c,Pf,clock,le.box _ _ q.box,q.base,PY q.own e2,q.none,by rw [aN (Px q.own e2)];exact q.cq,q.fits⟩
 ·intro i k2 t ps ag bd hi
  by_cases e:i=QR
  ·rw [e,aR] at hi;cases hi
  ·rw [aX e] at hi
   by_cases e2:i=id
   ·rw [e2,aR] at hi;cases hi
   ·rw [aX e2] at hi
    obtain ⟨l,r,q⟩:=h.lp i k2 t ps ag bd hi
    exact ⟨l,r,q.bO le (PY q.own e2) (by rw [aN (Px q.own e2)];exact q.cq)⟩
 ·intro c hc
  have:c≠b:=fun ec=>by have h1:=(h.dE c hc).2;rw [ec,k.cq] at h1;cases h1
  exact ⟨(h.dE c hc).1,by rw [aN this];exact (h.dE c hc).2⟩
def MM.lP (M:MM) (b:Nat):MM:= { M with dE:=fun c=>M.dE c∨c=b }
theorem MM.qg (M:MM) (b:Nat):M.Le (M.lP b):=⟨fun _ _ _ h=>h,fun _ _ h=>h,fun _ _ _ h=>h,fun _ h=> .inl h⟩
theorem bH.J5 {w0:de} {w:World} {M:MM} {own:Nat→Option Nat} {σ:Nat→Ob} (h:bH w0 M own σ w):bH w0 (M.lP w.heap.size) own σ (w.alloc (.deferred (some []))):=by
 have le:=M.qg w.heap.size
 have hold:∀ {b:Nat} {o:Obj},w.heap[b]? =some o→(w.alloc (.deferred (some []))).heap[b]? =some o:=fun {b o} hb=>by
  rw [Below.heap_alloc _ _ _ (dy hb),hb]
 refine ⟨h.below.alloc _,?_,h.gq,?_,?_,?_,?_,?_,?_⟩
 ·intro b o v k
  rw [World.cell?_alloc_lt]
  ·exact h.cells b o v k
  ·exact WZ w _ (h.cells b o v k)
 ·intro b i k
  rw [World.size_alloc]
  have:=h.owned b i k
  omega
 ·intro i cs hi
  obtain ⟨b,vs,ty,k⟩:=h.box i cs hi
  exact ⟨b,vs,ty,k.box,k.base,k.own,k.none,hold k.cq,k.len,fun j d v a b=>(k.rep j d v a b).mono le,k.room⟩
 ·intro i ver sz hi
  obtain ⟨a,len,cap,k⟩:=h.bg i ver sz hi
  refine ⟨a,len,cap,k.br,k.last,?_⟩
  rcases k.room with r|⟨b,vs',ty',fz,ha,r⟩
  ·exact .inl r
  ·exact .inr ⟨b,vs',ty',fz,ha,r.base,r.own,hold r.cq,r.fz,r.cap,r.none⟩
 ·intro i F hi
  obtain ⟨b,Pf,clock,q⟩:=h.mp i F hi
  exact ⟨b,Pf,clock,q.box,q.base,q.own,q.none,hold q.cq,q.fits⟩
 ·intro i k t ps ag bd hi
  obtain ⟨l,r,q⟩:=h.lp i k t ps ag bd hi
  exact ⟨l,r,q.bO le q.own (hold q.cq)⟩
 ·rintro b (hb|rfl)
  ·exact ⟨(h.dE b hb).1,hold (h.dE b hb).2⟩
  ·refine ⟨h.below.new,?_⟩
   show (w.heap.push _)[w.heap.size]? =_
   simp
theorem bH.J6 {w0:de} {w:World} {M:MM} {own:Nat→Option Nat} {σ:Nat→Ob} (h:bH w0 M own σ w) {id:Nat} (PD:M.box id=none) (hh:∀v,M.br id v=none) {k:Lk} {t:List D} {r:Loop}
  (Pr:r.state=k.state) (Us:k≠ .busy→r.pending=k.F9) (ht:bV M t r.tmps):
  bH w0 (M.bk id w.heap.size) (dN own w.heap.size id) (dv σ id (.lp k t r.params r.assign r.body)) (w.alloc (.loop r)):=by
 have le:=MM.dh (b:=w.heap.size) PD
 have hold:∀ {b:Nat} {o:Obj},w.heap[b]? =some o→(w.alloc (.loop r)).heap[b]? =some o:=fun {b o} hb=>by
  rw [Below.heap_alloc _ _ _ (dy hb),hb]
 have PY:∀ {b i:Nat},own b=some i→dN own w.heap.size id b=some i:=fun {b i} k=>by
  have:=h.owned b i k
  simp [dN,show b≠w.heap.size by omega,k]
 refine ⟨h.below.alloc _,?_,h.gq,?_,?_,?_,?_,?_,?_⟩
 ·intro b o v k
  have k':M.cell b o=some v:=k
  rw [World.cell?_alloc_lt]
  ·exact h.cells b o v k'
  ·exact WZ w _ (h.cells b o v k')
 ·intro b i k
  rw [World.size_alloc]
  by_cases e:b=w.heap.size
  ·omega
  ·simp only [dN,e,if_false] at k
   have:=h.owned b i k
   omega
 ·intro i cs hi
  by_cases e:i=id
  ·rw [e,aR] at hi;cases hi
  ·rw [aX e] at hi
   obtain ⟨b,vs,ty,k⟩:=h.box i cs hi
   exact ⟨b,vs,ty,le.box _ _ k.box,k.base,PY k.own,k.none,hold k.cq,k.len,fun j d v a b=>(k.rep j d v a b).mono le,k.room⟩
 ·intro i ver sz hi
  by_cases e:i=id
  ·rw [e,aR] at hi;cases hi
  ·rw [aX e] at hi
   obtain ⟨a,len,cap,k⟩:=h.bg i ver sz hi
   refine ⟨a,len,cap,k.br,k.last,?_⟩
   rcases k.room with r|⟨b,vs',ty',fz,ha,r⟩
   ·exact .inl r
   ·exact .inr ⟨b,vs',ty',fz,ha,r.base,PY r.own,hold r.cq,r.fz,r.cap,r.none⟩
 ·intro i F hi
  by_cases e:i=id
  ·rw [e,aR] at hi;cases hi
  ·rw [aX e] at hi
   obtain ⟨b,Pf,clock,q⟩:=h.mp i F hi
   exact ⟨b,Pf,clock,le.box _ _ q.box,q.base,PY q.own,q.none,hold q.cq,q.fits⟩
 ·intro i k2 t2 ps ag bd hi
  by_cases e:i=id
  ·subst e
   rw [aR] at hi
   cases hi
   refine ⟨w.heap.size,r,by simp [MM.bk],h.below.new,by simp [dN],?_,Pr,Us,ht.mono le,rfl,rfl,rfl⟩
   show (w.heap.push _)[w.heap.size]? =_
   simp
  ·rw [aX e] at hi
   obtain ⟨l,r',q⟩:=h.lp i k2 t2 ps ag bd hi
   exact ⟨l,r',q.bO le (PY q.own) (hold q.cq)⟩
 ·intro b hb
  exact ⟨(h.dE b hb).1,hold (h.dE b hb).2⟩
theorem bH.C1 {w0:de} {w:World} {M:MM} {own:Nat→Option Nat} {σ:Nat→Ob} (h:bH w0 M own σ w) {id l:Nat} {k k':Lk} {t:List D} {ps:Array Nat} {ag bd:Code} {r r':Loop}
  (q:EV w0 M own id k t ps ag bd w l r) (o':Ob) (ho:o'= .dead∨(o'= .lp k' t ps ag bd∧r'.state=k'.state∧(k'≠ .busy→r'.pending=k'.F9)∧r'.tmps=r.tmps∧r'.params=r.params∧r'.assign=r.assign∧r'.body=r.body)):
  bH w0 M own (dv σ id o') (bo w l (.loop r')):=by
 refine ⟨dW h.below q.base _,?_,h.gq,?_,?_,?_,?_,?_,?_⟩
 ·intro c o v hc
  have:c≠l:=fun e=>by
   have:=h.cells c o v hc
   rw [e] at this
   simp [WE,q.cq] at this
  rw [dd this]
  exact h.cells c o v hc
 ·intro c i hc;rw [dL];exact h.owned c i hc
 ·intro i Q5 hi
  by_cases e:i=id
  ·rw [e,aR] at hi;rcases ho with rfl|⟨rfl,_⟩<;>cases hi
  ·rw [aX e] at hi
   obtain ⟨c,vs2,ty2,k2⟩:=h.box i Q5 hi
   have:c≠l:=fun ec=>by have h1:=k2.own;rw [ec,q.own] at h1;exact e (VA h1).symm
   exact ⟨c,vs2,ty2,k2.box,k2.base,k2.own,k2.none,by rw [aN this];exact k2.cq,k2.len,k2.rep,k2.room⟩
 ·intro i ver sz hi
  by_cases e:i=id
  ·rw [e,aR] at hi;rcases ho with rfl|⟨rfl,_⟩<;>cases hi
  ·rw [aX e] at hi
   obtain ⟨a,len,cap,k2⟩:=h.bg i ver sz hi
   refine ⟨a,len,cap,k2.br,k2.last,?_⟩
   rcases k2.room with r|⟨c,vs2,ty2,fz,ha,r⟩
   ·exact .inl r
   ·have:c≠l:=fun ec=>by have h1:=r.own;rw [ec,q.own] at h1;exact e (VA h1).symm
    exact .inr ⟨c,vs2,ty2,fz,ha,r.base,r.own,by rw [aN this];exact r.cq,r.fz,r.cap,r.none⟩
 ·intro i F hi
  by_cases e:i=id
  ·rw [e,aR] at hi;rcases ho with rfl|⟨rfl,_⟩<;>cases hi
  ·rw [aX e] at hi
   obtain ⟨c,Pf,clock,q2⟩:=h.mp i F hi
   have:c≠l:=fun ec=>by have h1:=q2.own;rw [ec,q.own] at h1;exact e (VA h1).symm
   exact ⟨c,Pf,clock,q2.box,q2.base,q2.own,q2.none,by rw [aN this];exact q2.cq,q2.fits⟩
 ·intro i k2 t2 Ui UN US hi
  by_cases e:i=id
  ·subst e
   rw [aR] at hi
   rcases ho with rfl|⟨rfl,Pr,Us,hr⟩
   ·cases hi
   cases hi
   exact ⟨l,r',q.box,q.base,q.own,dq q.cq,Pr,Us,by rw [hr.1];exact q.tm,by rw [hr.2.1];exact q.ps,by rw [hr.2.2.1];exact q.ag,by rw [hr.2.2.2];exact q.bd⟩
  ·rw [aX e] at hi
   obtain ⟨l2,r2,q2⟩:=h.lp i k2 t2 Ui UN US hi
   have:l2≠l:=fun ec=>by have h1:=q2.own;rw [ec,q.own] at h1;exact e (VA h1).symm
   exact ⟨l2,r2,q2.bO (.refl _) q2.own (by rw [aN this];exact q2.cq)⟩
 ·intro c hc
  have:c≠l:=fun ec=>by have h1:=(h.dE c hc).2;rw [ec,q.cq] at h1;cases h1
  exact ⟨(h.dE c hc).1,by rw [aN this];exact (h.dE c hc).2⟩
def MM.rf (M:MM) (b:Nat):MM:= { M with dE:=fun c=>M.dE c∧c≠b }
theorem bH.rf {w0:de} {w:World} {M:MM} {own:Nat→Option Nat} {σ:Nat→Ob} (h:bH w0 M own σ w) {b:Nat} (hb:M.dE b):bH w0 (M.rf b) own σ (bo w b (.deferred none)):=by
 obtain ⟨Q9,hblk⟩:=h.dE b hb
 have rb:∀ {d:D} {v:Value},bz M d v→bz (M.rf b) d v:=fun {d v} hr=>hr.J3
 refine ⟨dW h.below Q9 _,?_,h.gq,?_,?_,?_,?_,?_,?_⟩
 ·intro c o v hc
  have:c≠b:=fun e=>by
   have:=h.cells c o v hc
   rw [e] at this
   simp [WE,hblk] at this
  rw [dd this]
  exact h.cells c o v hc
 ·intro c i hc;rw [dL];exact h.owned c i hc
 ·intro i Q5 hi
  obtain ⟨c,vs2,ty2,k2⟩:=h.box i Q5 hi
  have:c≠b:=fun ec=>by have h1:=k2.cq;rw [ec,hblk] at h1;cases h1
  exact ⟨c,vs2,ty2,k2.box,k2.base,k2.own,k2.none,by rw [aN this];exact k2.cq,k2.len,fun j d v p q=>rb (k2.rep j d v p q),k2.room⟩
 ·intro i ver sz hi
  obtain ⟨a,len,cap,k2⟩:=h.bg i ver sz hi
  refine ⟨a,len,cap,k2.br,k2.last,?_⟩
  rcases k2.room with r|⟨c,vs2,ty2,fz,ha,r⟩
  ·exact .inl r
  ·have:c≠b:=fun ec=>by have h1:=r.cq;rw [ec,hblk] at h1;cases h1
   exact .inr ⟨c,vs2,ty2,fz,ha,r.base,r.own,by rw [aN this];exact r.cq,r.fz,r.cap,r.none⟩
 ·intro i F hi
  obtain ⟨c,Pf,clock,q2⟩:=h.mp i F hi
  have:c≠b:=fun ec=>by have h1:=q2.cq;rw [ec,hblk] at h1;cases h1
  exact ⟨c,Pf,clock,q2.box,q2.base,q2.own,q2.none,by rw [aN this];exact q2.cq,q2.fits⟩
 ·intro i k2 t2 Ui UN US hi
  obtain ⟨l2,r2,q2⟩:=h.lp i k2 t2 Ui UN US hi
  have:l2≠b:=fun ec=>by have h1:=q2.cq;rw [ec,hblk] at h1;cases h1
  exact ⟨l2,r2,q2.box,q2.base,q2.own,by rw [aN this];exact q2.cq,q2.st,q2.pd,⟨q2.tm.1,fun i d v p q=>rb (q2.tm.2 i d v p q)⟩,q2.ps,q2.ag,q2.bd⟩
 ·rintro c ⟨hc,Px⟩
  exact ⟨(h.dE c hc).1,by rw [aN Px];exact (h.dE c hc).2⟩
def Kw (P:Program) (f:FuncId):Prop:= ∃fn c,P.funcs[f]? =some fn∧fn.body=some c∧(fn.name== "runtime.NumGoroutine")=false
def gC (B:Nat) (w:World) (C:Nat→Nat→Option Value) (sz:Nat) (a:Option Addr) (len cap:Nat):Prop:=
  cap=len∨∃b vs ty fz,a=some ⟨b,0,none⟩∧B≤b∧w.heap[b]? =some (.cells vs ty fz)∧jo fz vs.size∧(cap*sz≤vs.size∧cap≤9223372036854775807)∧∀o,len*sz≤o→C b o=none
def zJ (B:Nat) (w:World) (C:Nat→Nat→Option Value) (d:D) (v:Value):Prop:=
  (∀sz Py xs,d= .aq (.fresh sz) Py xs→∃a len cap,v= .slice a len cap∧Py=sz∧gC B w C sz a len cap)∧
  ∀ds vs,d= .aQ ds→v= .tuple vs→∀(i:Nat) (sz Py:Nat) (xs:List D),ds[i]? =some (.aq (.fresh sz) Py xs)→∃a len cap,vs[i]? =some (.slice a len cap)∧Py=sz∧gC B w C sz a len cap
structure aJ (P:Program) (f:FuncId) (args:List D) (d:D):Prop where
  CF:Kw P f
  run:∀(w:World) (C:Nat→Nat→Option Value) (vs:Array Value),(∀b o v,C b o=some v→w.cell? ⟨b,o,none⟩=some v)→bV (ek C) args vs→
    Calls P f vs w fun e w'=> ∃v C',e= .returned v∧Ext (ek C) w (ek C') w'∧bz (ek C') d v∧zJ w.heap.size w' C' d v
def dT:W3→W3→Bool
  | .i8,.i8| .i16,.i16| .i32,.i32| .i64,.i64| .u8,.u8| .u16,.u16| .u32,.u32| .u64,.u64=>true
  |_,_=>false
def LK.fits:LK→D→Bool
  | .bool,.bool _=>true
  | .int k,.int k' _=>dT k k'
  | .str,.str _=>true
  |_,_=>false
def eC:List LK→List D→Bool
  | [],[]=>true
  |k::ks,d::ds=>k.fits d&&eC ks ds
  |_,_=>false
def ab:D→D→Bool
  | .bool a,.bool b=>a==b
  | .int _ a,.int _ b=>a==b
  | .str a,.str b=>a.toList==b.toList
  |_,_=>false
def aa:List D→List D→Bool
  | [],[]=>true
  |a::x,b::y=>ab a b&&aa x y
  |_,_=>false
def iT:Value→Value→Bool
  | .bool a,.bool b=>a==b
  | .int _ a,.int _ b=>a==b
  | .string a,.string b=>a.toList==b.toList
  |_,_=>false
def cg:List Value→List Value→Bool
  | [],[]=>true
  |a::x,b::y=>iT a b&&cg x y
  |_,_=>false
def jC (x:List Value):List MapEntry→Nat→Option (Nat×Value)
  | [],_=>none
  |e::es,i=>match e.key with
    | .agg y=>match cg x y.toList with|true=>some (i,e.val)|false=>jC x es (i+1)
    |_=>none
def kh:List LK→Bool
  | []=>true
  | .str::_=>false
  |_::r=>kh r
structure gy (P:Program) (t:TypeId) (ks:List LK):Prop where
  vX:kh ks=true
  check:∀(w:World) (em:Bool) (xs:Array Value),cB ks xs.toList→(Instr.checkKey em 10000 t (.agg xs)).run P w= .ok () w
  find:∀(w:World) (x:Array Value) (l:List MapEntry),cB ks x.toList→(∀e∈l,∃y:Array Value,e.key= .agg y∧cB ks y.toList)→(Instr.findKey t (.agg x) l).run P w= .ok (jC x.toList l 0) w
structure gS (P:Program) (t:TypeId) (ks:List LK):Prop where
  plain:P.eqGuardType P.depth t=false
  eq:∀(xs ys:Array Value) (w:World),cB ks xs.toList→cB ks ys.toList→(Op.equalIn 10000 t (.agg xs) (.agg ys)).run P w= .ok (cg xs.toList ys.toList) w
inductive Ex where
  |norm
  |exit (id:Nat)
  |ret
def Ex.is:Ex→Exit→Prop
  | .norm,.normal=>True
  | .exit i,.exit j=>i=j
  | .ret,.ret=>True
  |_,_=>False
def bE (s:List Ob):Nat→Ob:=fun i=>s.getD i .dead
def MM.upto (M:MM) (n:Nat):Prop:=(∀id,n≤id→M.box id=none)∧∀id v,n≤id→M.br id v=none
def FW (r:Option Nat):Fence:= { Fence.wide with round:=r }
def eU (K:Nat→Prop) (M:MM) (ds:List Deferred):Prop:=(∀b,K b→M.dE b)∧∃bs:List Nat,ds=bs.map (fun b=> { target:= .collected b,args:= #[] })∧bs.Nodup∧∀b∈bs,M.dE b∧¬K b
theorem eU.mono {K:Nat→Prop} {M M':MM} {ds:List Deferred} (h:eU K M ds) (le:∀b,M.dE b→M'.dE b):eU K M' ds:=
 let ⟨h0,bs,h1,h2,h3⟩:=h
 ⟨fun b k=>le b (h0 b k),bs,h1,h2,fun b hb=>⟨le b (h3 b hb).1,(h3 b hb).2⟩⟩
structure bj (P:Program) (rd:Bool) (c:Code) (t:List D) (s:List Ob) (ex:Ex) (t':List D) (s':List Ob):Prop where
  run:∀(r:Option Nat),(rd=false→r=none)→∀(K:Nat→Prop) (w0:de) (M:MM) (own:Nat→Option Nat) (w:World) (a:Act),bH w0 M own (bE s) w→M.upto s.length→bV M t a.tmps→eU K M a.defers→
    c.wpIn (FW r) 0 P (fun e a' w'=>ex.is e∧∃M' Pc,bH w0 M' Pc (bE s') w'∧M'.upto s'.length∧M.Le M'∧bV M' t' a'.tmps∧eU K M' a'.defers) a w
  len:s.length≤s'.length
abbrev iZ (P:Program):=bj P true
theorem bj.any {P:Program} {c:Code} {t:List D} {s:List Ob} {ex:Ex} {t':List D} {s':List Ob} (h:iZ P c t s ex t' s') (rd:Bool):bj P rd c t s ex t' s':=
 ⟨fun r _=>h.run r (fun e=>by cases e),h.len⟩
def MM.cut (M:MM) (n:Nat):MM:=⟨M.cell,fun i=>if i<n then M.box i else none,fun i v=>if i<n then M.br i v else none,M.dE⟩
structure aI (P:Program) (n0:Nat) (c:Code) (t:List D) (s:List Ob) (ex:Ex) (t':List D) (s':List Ob):Prop where
  run:∀(r:Option Nat) (K:Nat→Prop) (w0:de) (M:MM) (own:Nat→Option Nat) (w:World) (a:Act),bH w0 M own (bE s) w→M.upto s.length→bV M t a.tmps→eU K M a.defers→
    c.wpIn (FW r) 0 P (fun e a' w'=>ex.is e∧∃M' Pc,bH w0 M' Pc (bE s') w'∧M'.upto s'.length∧(M.cut n0).Le M'∧bV M' t' a'.tmps∧eU K M' a'.defers) a w
  len:n0≤s'.length
structure HS where
  bO:List Nat
  Ic:List Nat
  j7:List (Nat×Nat)
def dC:List (Int×D)→Int→Option D
  | [],_=>none
  |(a,d)::r,n=>match n==a with|true=>some d|false=>dC r n
def eH:List (Int×D)→Int→D→List (Int×D)
  | [],n,v=> [(n,v)]
  |(a,d)::r,n,v=>match n==a with|true=>(n,v)::r|false=>(a,d)::eH r n v
def gr:List (List D×D)→List D→Option D
  | [],_=>none
  |(a,d)::r,n=>match aa n a with|true=>some d|false=>gr r n
def fN:List (List D×D)→List D→D→List (List D×D)
  | [],n,v=> [(n,v)]
  |(a,d)::r,n,v=>match aa n a with|true=>(n,v)::r|false=>(a,d)::fN r n v
def oj:List (Int×D)→Int→Nat
  | [],_=>0
  |(a,_)::r,n=>match n==a with|true=>0|false=>oj r n+1
def oi:List (List D×D)→List D→Nat
  | [],_=>0
  |(a,_)::r,n=>match aa n a with|true=>0|false=>oi r n+1
def xe {α:Type} :List (α×D)→Nat→D→List (α×D)
  | [],_,_=> []
  |(a,_)::r,0,v=>(a,v)::r
  |e::r,i+1,v=>e::xe r i v
def LK.same:LK→LK→Bool
  | .bool,.bool=>true
  | .int k,.int k'=>dT k k'
  | .str,.str=>true
  |_,_=>false
def ju:List LK→List LK→Bool
  | [],[]=>true
  |a::x,b::y=>a.same b&&ju x y
  |_,_=>false
structure bW (P:Program) (f:FuncId) (args:List D) (s:List Ob) (d:D) (s':List Ob):Prop where
  CF:Kw P f
  len:s.length≤s'.length
  run:∀(w0:de) (M:MM) (own:Nat→Option Nat) (w:World) (vs:Array Value),bH w0 M own (bE s) w→M.upto s.length→bV M args vs→
    Calls P f vs w fun e w'=> ∃v M' Pc,e= .returned v∧bH w0 M' Pc (bE s') w'∧M'.upto s'.length∧M.Le M'∧bz M' d v
def eo:List D→Option (List D)
  | []=>some []
  |d::r=>match d.cells,eo r with
    |some c,some cs=>some (c++cs)
    |_,_=>none
inductive Ev (P:Program) where
  |ret (g:FuncId) (as:List D) (d:D) (h:aJ P g as d)
  |inl
  |gP (g:FuncId) (ar:List D) (s:List Ob) (d:D) (s':List Ob) (h:bW P g ar s d s')
  |dM (q v:Bool) (h:q=v)
  |len (n m:Nat) (h:n≤m)
  |get (l:List D) (i:Nat) (d:D) (h:l[i]? =some d)
  |bc (l:List D) (i n:Nat) (l':List D) (h:(l.drop i).take n=l'∧i+n≤l.length)
  |Dv (l:List D) (i:Nat) (xs l':List D) (h:l.take i++(xs++l.drop (i+xs.length))=l'∧i+xs.length≤l.length)
  |flat (t:TypeId) (ks:List LK) (h:gS P t ks)
  |bO (l:List (Nat×Ob))
  |Hh (cs:List (Nat×Nat×D)) (l:List (Nat×Ob))
  |lr (es:List (Int×D)) (n:Int) (r:Option D) (h:dC es n=r)
  |mU (t:TypeId) (ks:List LK) (h:gy P t ks)
  |qe (es:List (List D×D)) (n:List D) (r:Option D) (h:gr es n=r)
  |code (c:Code) (t:List D) (s:List Ob) (ex:Ex) (t':List D) (s':List Ob) (h:iZ P c t s ex t' s')
  |go (n:Nat)
  |MU (bO:List Nat)
  |raw
  |cl (cs:List D) (h:∀c∈cs,c.clean=true)
  |Ma (ys nc:List D) (h:eo ys=some nc)
  |head (sp:HS) (n0:Nat) (c:Code) (t:List D) (s:List Ob) (ex:Ex) (t':List D) (s':List Ob) (h:aI P n0 c t s ex t' s')
  |cq (sp:HS) (n0:Nat) (c:Code) (t:List D) (s:List Ob) (ex:Ex) (t':List D) (s':List Ob) (h:aI P n0 c t s ex t' s')
structure Z (P:Program) where
  o:List (Ev P)
  c:Prop
section
variable {ρ:Type} {P:Program}
def fj (b:Bool) (k:Option ρ):Option ρ:=match b with|true=>k|false=>none
def ask (z:Z P) (b:Bool) (k:Z P→Option ρ):Option ρ:=
  match z.o with
  | .dM q true _::r=>k ⟨r,(q=b)∧z.c⟩
  |_=>none
def iW (z:Z P) (n:Nat) (m:Nat) (k:Z P→Option ρ):Option ρ:=
  match z.o with
  | .len n' m' _::r=>k ⟨r,(n'=n∧m'=m)∧z.c⟩
  |_=>none
def branch (z:Z P) (b:Bool) (k1 k2:Z P→Option ρ):Option ρ:=
  match z.o with
  | .dM q v _::r=>match v with
    |true=>k1 ⟨r,(q=b)∧z.c⟩
    |false=>k2 ⟨r,(q=b)∧z.c⟩
  |_=>none
def jD (z:Z P) (still:Bool) (b:Bool) (k:Z P→Option ρ):Option ρ:=
  match still with
  |true=>fj b (k z)
  |false=>ask z b k
def pick (z:Z P) (l:List D) (i:Nat) (k:Z P→D→Option ρ):Option ρ:=
  match z.o with
  | .get l' i' d _::r=>k ⟨r,(l'=l∧i'=i)∧z.c⟩ d
  |_=>match l[i]? with
    |some d=>k z d
    |none=>none
def Ax (z:Z P) (ys:List D) (k:Z P→List D→Option ρ):Option ρ:=
  match z.o with
  | .Ma Tw nc _::r=>k ⟨r,(Tw=ys)∧z.c⟩ nc
  |_=>match eo ys with
    |some nc=>k z nc
    |none=>none
def Ey (z:Z P) (ys:List D) (k:Z P→List D→Option ρ):Option ρ:=
  match z.o with
  | .Ma Tw nc _::r=>ask ⟨r,(Tw=ys)∧z.c⟩ (Wx 0 ys.length) fun z=>k z nc
  |_=>match eo ys with
    |some nc=>fj (!ys.isEmpty) (k z nc)
    |none=>none
def Al (z:Z P) (es:List (Int×D)) (n:Int) (k:Z P→Option D→Option ρ):Option ρ:=
  match z.o with
  | .lr Rb n' r _::rest=>k ⟨rest,(Rb=es∧n'=n)∧z.c⟩ r
  |_=>none
def sN (z:Z P) (es:List (List D×D)) (n:List D) (k:Z P→Option D→Option ρ):Option ρ:=
  match z.o with
  | .qe Rb n' r _::rest=>k ⟨rest,(Rb=es∧n'=n)∧z.c⟩ r
  |_=>none
def qc (z:Z P) (t:TypeId) (k:Z P→List LK→Option ρ):Option ρ:=
  match z.o with
  | .mU t' ks _::r=>fj (V2 t' t) (k ⟨r,z.c⟩ ks)
  |_=>none
def pZ:Value→Option D
  | .bool b=>some (.bool b)
  | .int k n=>some (.int k n)
  | .string s=>some (.str s)
  | .pointer none=>some .eW
  | .slice none 0 0=>some (.aq .tight 0 [])
  | .nilFunc=>some .bw
  |_=>none
def fP:List Value→Option (List D)
  | []=>some []
  |v::r=>match pZ v,fP r with
    |some d,some l=>some (d::l)
    |_,_=>none
def tj:List Value→List D
  | []=> []
  |v::r=>(match pZ v with|some d=>d|none=> .undef)::tj r
def kQ:Value→D
  | .agg cs=> .agg (tj cs.toList)
  |v=>match pZ v with|some d=>d|none=> .undef
def bJ (t:List D):Operand→D
  | .tmp i=>t.getD i .undef
  | .const v=>kQ v
  | .global _=> .undef
  | .func f=> .fn (.func f) [] []
def isConst:Operand→Bool
  | .const _=>true
  |_=>false
def cC:TypeDesc→Bool
  | .struct _=>true
  | .array _ _=>true
  |_=>false
def known (P:Program) (t:TypeId):Bool:=(P.info? t).isSome
def fu (P:Program) (t:TypeId):Option D:=
  match P.info? t with
  |some i=>match i.zero with|some v=>some (kQ v)|none=>none
  |none=>none
def CG (P:Program) (t:TypeId):Bool:=
  match P.info? t with
  |some i=>match i.zero with|some v=>V2 v.cells.size 1|none=>false
  |none=>false
def dJ (P:Program) (t:TypeId):Bool:=
  match P.info? t with
  |some i=>match i.zero with|some v=>V2 v.cells.size i.size|none=>false
  |none=>false
def p8 (P:Program) (z:Z P) (dyn:Bool) (t:TypeId) (cs:List D) (off:Nat) (k:Z P→D→Option ρ):Option ρ:=
  match P.underlying t with
  |none=>none
  |some d=>match cC d with
    |true=>fj (known P t) (match dyn with
      |false=>fj (WI (off+P.cellsOf t) cs.length) (k z (.agg ((cs.drop off).take (P.cellsOf t))))
      |true=>match z.o with
        | .bc l i n l' _::r=>k ⟨r,(l=cs∧i=off∧n=P.cellsOf t)∧z.c⟩ (.agg l')
        |_=>none)
    |false=>match dyn with
      |false=>match cs[off]? with|some x=>k z x|none=>none
      |true=>pick z cs off k
def fR (cs:List D) (off:Nat) (xs:List D):List D:=cs.take off++(xs++cs.drop (off+xs.length))
def sC (x:D) (k:D→Option ρ):Option ρ:=match x.plain with|true=>k x|false=>fj x.clean (k x.aG)
def yz (x:D) (k:D→Option ρ):Option ρ:=match x with
  | .ptr _ _ off=>k (.cN false (.agg []) off)
  | .cN q y off=>k (.cN q y off)
  |x=>sC x k
def m5:List D→(List D→Option ρ)→Option ρ
  | [],k=>k []
  |x::r,k=>yz x fun y=>m5 r fun l=>k (y::l)
def qp (place:Nat→Option (Nat×Nat)) (cells:List D):List (Nat×D)→Option (List D)
  | []=>some cells
  |(i,v)::rest=>match place i,v.cells with
    |some (off,size),some vc=>match V2 vc.length size&&WI (off+size) cells.length with
      |true=>qp place (fR cells off vc) rest
      |false=>none
    |_,_=>none
def zt (P:Program) (t:TypeId) (parts:List (Nat×D)):Option D:=
  match fu P t with
  |none=>none
  |some z=>match z.cells with
    |none=>none
    |some zero=>match P.underlying t with
      |some (.struct fields)=>match fields.toList.all fun f=>known P f.type with
        |true=>match qp (fun i=>((fields[i]?).map fun f=>(f.offset,P.cellsOf f.type))) zero parts with
          |some cs=>some (.agg cs)
          |none=>none
        |false=>none
      |some (.array _ elem)=>match known P elem with
        |true=>match qp (fun i=>some (i*P.cellsOf elem,P.cellsOf elem)) zero parts with
          |some cs=>some (.agg cs)
          |none=>none
        |false=>none
      |_=>none
def js (size:Nat) (xs:List D):List (Nat×D)→(List D→Option ρ)→Option ρ
  | [],k=>k xs
  |(i,v)::rest,k=>sC v fun v'=>match v'.cells with
    |some vc=>fj (V2 vc.length size&&Wx i xs.length&&vc.all storable) (js size (xs.set i v') rest k)
    |none=>none
def yU (z:Z P) (still:Bool) (op:BinOp) (k:W3) (a b:Int) (K:Z P→D→Option ρ):Option ρ:=
  match op with
  | .add=>K z (.int k (k.wrap (a+b)))
  | .sub=>K z (.int k (k.wrap (a - b)))
  | .mul=>K z (.int k (k.wrap (a*b)))
  | .quo=>jD z still (decide (b≠0)) fun z=>K z (.int k (k.wrap (a.tdiv b)))
  | .rem=>jD z still (decide (b≠0)) fun z=>K z (.int k (a.tmod b))
  | .and=>K z (.int k (k.wrap (VB k.bits a&&&VB k.bits b).toNat))
  | .or=>K z (.int k (k.wrap (VB k.bits a|||VB k.bits b).toNat))
  | .xor=>K z (.int k (k.wrap (VB k.bits a^^^VB k.bits b).toNat))
  | .andNot=>K z (.int k (k.wrap (VB k.bits a&&& ~~~VB k.bits b).toNat))
  | .eql=>K z (.bool (a==b))
  | .neq=>K z (.bool (a !=b))
  | .lss=>K z (.bool (decide (a<b)))
  | .leq=>K z (.bool (decide (a≤b)))
  | .gtr=>K z (.bool (decide (a>b)))
  | .geq=>K z (.bool (decide (a≥b)))
  |_=>none
def KU (P:Program) (z:Z P) (t:TypeId) (x y:D) (K:Z P→Bool→Option ρ):Option ρ:=
  match x,y with
  | .bool a,.bool b=>match P.underlying t with|some .bool=>K z (a==b)|_=>none
  | .agg xs,.agg ys=>match z.o with
    | .flat t' ks _::r=>fj (V2 t' t&&(eC ks xs&&eC ks ys)) (K ⟨r,z.c⟩ (aa xs ys))
    |_=>none
  | .bw,.bw=>match P.underlying t with|some (.func _ _ _)=>K z true|_=>none
  | .bw,.fn _ _ _=>match P.underlying t with|some (.func _ _ _)=>K z false|_=>none
  | .fn _ _ _,.bw=>match P.underlying t with|some (.func _ _ _)=>K z false|_=>none
  | .eW,.eW=>match P.underlying t with|some (.pointer _)=>K z true|_=>none
  | .ptr _ _ _,.eW=>match P.underlying t with|some (.pointer _)=>K z false|_=>none
  | .cN _ _ _,.eW=>match P.underlying t with|some (.pointer _)=>K z false|_=>none
  |_,_=>none
def IW (P:Program) (z:Z P) (still:Bool) (op:BinOp) (t:TypeId) (x y:D) (K:Z P→D→Option ρ):Option ρ:=
  match x,y with
  | .int k a,.int k' b=>match op with
    | .shl=>jD z still (decide (0≤b)) fun z=>K z (.int k (k.wrap (a*2^(min b.toNat k.bits))))
    | .shr=>jD z still (decide (0≤b)) fun z=>K z (.int k (a.fdiv (2^(min b.toNat k.bits))))
    |op=>fj (dT k k') (yU z still op k a b K)
  | .str a,.str b=>match op with
    | .eql=>K z (.bool (a.toList==b.toList))
    | .neq=>K z (.bool (!(a.toList==b.toList)))
    |_=>none
  |x,y=>match op with
    | .eql=>KU P z t x y fun z b=>K z (.bool b)
    | .neq=>KU P z t x y fun z b=>K z (.bool (!b))
    |_=>none
def Lc (op:UnOp) (x:D) (K:D→Option ρ):Option ρ:=
  match op,x with
  | .neg,.int k n=>K (.int k (k.wrap (0 - n)))
  | .xor,.int k n=>K (.int k (k.wrap (VB k.bits (if k.signed then -1 else k.max)^^^VB k.bits n).toNat))
  | .not,.bool b=>K (.bool !b)
  |_,_=>none
def isByte:D→Bool
  | .int .u8 _=>true
  |_=>false
def wM (b:UInt8):D:= .int .u8 b.toNat
def byteOf:D→UInt8
  | .int _ n=>UInt8.ofNat n.toNat
  |_=>0
def hO (s:ByteArray):List D:=s.data.toList.map wM
def CW (xs:List D):ByteArray:=⟨(xs.map byteOf).toArray⟩
inductive gp where
  |pure (d:D)
  |read (id:Nat) (o:Ob) (d:D)
  |fG (id j:Nat) (d:D)
  |dv (id:Nat) (o o':Ob) (d:D)
  |new (o:Ob) (mk:Nat→D)
  |all (s:List Ob) (d:D)
def EF (P:Program) (z:Z P) (src dst:TypeId) (x:D) (K:Z P→gp→Option ρ):Option ρ:=
  match P.underlying src,P.underlying dst,x with
  |some _,some (.int k),.int _ n=>K z (.pure (.int k (k.wrap n)))
  |some .string,some .string,.str s=>K z (.pure (.str s))
  |some .string,some (.slice e),.str s=>match P.underlying e with
    |some (.int .u8)=>fj (WI s.size 1099511627776) (K z (.new (.bg 0 1) fun id=> .aq (.tok id 0) 1 (hO s)))
    |_=>none
  |some (.slice e),some .string,.aq _ _ xs=>match P.underlying e with
    |some (.int .u8)=>ask z (xs.all isByte) fun z=>K z (.pure (.str (CW xs)))
    |_=>none
  |_,_,_=>none
def idx (x:D) (K:Int→Option ρ):Option ρ:=match x with| .int _ n=>K n|_=>none
def fH (t:List D) (o:Option Operand) (K:Option Int→Option ρ):Option ρ:=
  match o with
  |none=>K none
  |some x=>idx (bJ t x) fun n=>K (some n)
def xd (z:Z P) (o:jn) (sz:Nat) (xs:List D) (lo hi mx:Option Int) (K:Z P→D→Option ρ):Option ρ:=
  match lo,hi,mx with
  |none,none,none=>K z (.aq o.aG sz xs)
  |some l,none,none=>ask z (decide (0≤l∧l≤xs.length)) fun z=>K z (.aq o.aG sz (xs.drop l.toNat))
  |none,some h,none=>ask z (decide (0≤h∧h≤xs.length)) fun z=>K z (.aq .no sz (xs.take h.toNat))
  |some l,some h,none=>ask z (decide (0≤l∧l≤h∧h≤xs.length)) fun z=>K z (.aq .no sz ((xs.take h.toNat).drop l.toNat))
  |none,some h,some m=>ask z (decide (0≤h∧h≤xs.length∧m=h)) fun z=>K z (.aq .tight sz (xs.take h.toNat))
  |some l,some h,some m=>ask z (decide (0≤l∧l≤h∧h≤xs.length∧m=h)) fun z=>K z (.aq .tight sz ((xs.take h.toNat).drop l.toNat))
  |_,_,_=>none
def CV (z:Z P) (id off sz n:Nat) (cp:Option Nat) (lo hi mx:Option Int) (K:Z P→D→Option ρ):Option ρ:=
  match lo,hi,mx with
  |none,none,none=>K z (.sub id off sz n cp)
  |some l,none,none=>ask z (decide (0≤l∧l≤n)) fun z=>K z (.sub id (off+l.toNat*sz) sz (n - l.toNat) (cp.map (· - l.toNat)))
  |none,some h,none=>ask z (decide (0≤h∧h≤n)) fun z=>K z (.sub id off sz h.toNat cp)
  |some l,some h,none=>ask z (decide (0≤l∧l≤h∧h≤n)) fun z=>K z (.sub id (off+l.toNat*sz) sz (h.toNat - l.toNat) (cp.map (· - l.toNat)))
  |none,some h,some m=>ask z (decide (0≤h∧h≤m∧m≤n)) fun z=>K z (.sub id off sz h.toNat (some m.toNat))
  |some l,some h,some m=>ask z (decide (0≤l∧l≤h∧h≤m∧m≤n)) fun z=>K z (.sub id (off+l.toNat*sz) sz (h.toNat - l.toNat) (some (m.toNat - l.toNat)))
  |_,_,_=>none
def oh (P:Program) (z:Z P) (still:Bool) (t:TypeId) (x ix:D) (K:Z P→D→Option ρ):Option ρ:=
  match ix with
  | .int _ i=>match P.underlying t,x with
    |some (.array len elem),.ptr dyn id off=>fj (known P elem) (jD z still (decide (0≤i∧i<len)) fun z=>K z (.ptr (dyn|| !still) id (off+i.toNat*P.cellsOf elem)))
    |some (.array len elem),.cN dyn y off=>fj (known P elem) (jD z still (decide (0≤i∧i<len)) fun z=>K z (.cN (dyn|| !still) y (off+i.toNat*P.cellsOf elem)))
    |some (.slice elem),.aq _ sz xs=>fj (known P elem&&V2 (P.cellsOf elem) sz) (jD z still (decide (0≤i)) fun z=>pick z xs i.toNat fun z y=>K z (.cN false y 0))
    |some (.slice elem),.bP id sz n=>fj (known P elem&&V2 (P.cellsOf elem) sz) (ask z (decide (0≤i∧i<n)) fun z=>K z (.ptr true id (i.toNat*sz)))
    |some (.slice elem),.sub id off sz n _=>fj (known P elem&&V2 (P.cellsOf elem) sz) (ask z (decide (0≤i∧i<n)) fun z=>K z (.ptr true id (off+i.toNat*sz)))
    |_,_=>none
  |_=>none
def Ek (P:Program) (z:Z P) (still:Bool) (t:TypeId) (x ix:D) (K:Z P→D→Option ρ):Option ρ:=
  match ix with
  | .int _ i=>match P.underlying t,x with
    |some (.array len elem),.agg cs=>fj (known P elem) (jD z still (decide (0≤i∧i<len)) fun z=>p8 P z (!still) elem cs (i.toNat*P.cellsOf elem) K)
    |some .string,.str s=>jD z still (decide (0≤i)) fun z=>pick z (hO s) i.toNat K
    |_,_=>none
  |_=>none
def G1 (P:Program) (t:TypeId):Bool:=match P.underlying t with
  |some e=> !cC e
  |none=>false
def Hg (P:Program) (z:Z P) (t:TypeId) (x:D) (s:List Ob) (K:Z P→gp→Option ρ):Option ρ:=
  match x with
  | .ptr dyn id off=>match s.getD id .dead with
    | .box cs=>p8 P z dyn t cs off fun z d=>K z (match dyn,G1 P t with
      |false,true=> .fG id off d
      |_,_=> .read id (.box cs) d)
    |_=>none
  | .cN dyn y off=>match y.cells with
    |some cs=>p8 P z dyn t cs off fun z d=>K z (.pure d)
    |none=>none
  |_=>none
def CX (P:Program) (z:Z P) (t:TypeId) (x v:D) (s:List Ob) (K:Z P→gp→Option ρ):Option ρ:=
  match x with
  | .ptr dyn id off=>match s.getD id .dead with
    | .box cs=>match v.cells with
      |some vc=>fj (known P t&&V2 vc.length (P.cellsOf t)&&vc.all storable) (match dyn with
        |false=>fj (WI (off+vc.length) cs.length) (K z (.dv id (.box cs) (.box (fR cs off vc)) .undef))
        |true=>match z.o with
          | .Dv l i xs l' _::r=>K ⟨r,(l=cs∧i=off∧xs=vc)∧z.c⟩ (.dv id (.box cs) (.box l') .undef)
          |_=>none)
      |none=>none
    |_=>none
  |_=>none
def oI (P:Program) (s:TypeId) (x:D) (f:Nat) (K:D→Option ρ):Option ρ:=
  match P.underlying s with
  |some (.struct fields)=>match fields[f]? with
    |some fd=>fj (known P fd.type&&Wx 0 (P.cellsOf fd.type)) (match x with
      | .ptr dyn id off=>K (.ptr dyn id (off+fd.offset))
      | .cN dyn y off=>K (.cN dyn y (off+fd.offset))
      |_=>none)
    |none=>none
  |_=>none
def bn:Nat:=2147483648
def mT (sz:Nat) (xs:List D) (size:Nat):Bool:=V2 sz size||xs.isEmpty
def zO (P:Program) (z:Z P) (elem:TypeId) (id off sz n:Nat) (st:List Ob) (K:Z P→gp→Option ρ):Option ρ:=
  match st.getD id .dead with
  | .box cs=>fj (dJ P elem&&V2 sz (P.cellsOf elem)&&WI (P.bytesOf elem) 65536)
    (iW z n bn fun z=>match z.o with
      | .go _::r=>match V2 sz 1 with
        |true=>(match r with
          | .bc l i k nc _::r=>ask ⟨r,(l=cs∧i=off∧k=n*sz)∧z.c⟩ (nc.all isByte) fun z=>K z (.all (st++ [.bg 0 sz]) (.aq (.tok st.length 0) sz nc))
          |_=>none)
        |false=>none
      |_=>branch z (Wx 0 n) (fun z=>match z.o with
        | .bc l i k nc _::r=>K ⟨r,(l=cs∧i=off∧k=n*sz)∧z.c⟩ (.all (st++ [.box nc]) (.bP st.length sz n))
        |_=>none) (fun z=>K z (.pure (.aq .tight sz []))))
  |_=>none
def Ei (P:Program) (z:Z P) (elem:TypeId) (id off sz n c R6 Qi P4 n2:Nat) (st:List Ob) (K:Z P→gp→Option ρ):Option ρ:=
  match st.getD id .dead with
  | .box cs=>fj (dJ P elem&&V2 id R6&&V2 off 0&&V2 sz (P.cellsOf elem)&&V2 P4 (P.cellsOf elem)&&WI (P.bytesOf elem) 65536)
    (iW z (n+n2) bn fun z=>ask z (V2 c n) fun z=>branch z (Wx 0 (n+n2)) (fun z=>match z.o with
      | .bc l i k nc _:: .bc l2 i2 k2 RD _::r=>K ⟨r,(l2=cs∧i2=Qi∧k2=n2*sz)∧((l=cs∧i=0∧k=n*sz)∧z.c)⟩ (.all (st.set id .dead++ [.box (nc++RD)]) (.bP st.length sz (n+n2)))
      |_=>none) (fun z=>K z (.pure (.aq .tight sz []))))
  |_=>none
def Hk (P:Program) (z:Z P) (elem:TypeId) (id sz n R6 Qi P4 n2:Nat) (st:List Ob) (K:Z P→gp→Option ρ):Option ρ:=
  match st.getD id .dead,st.getD R6 .dead with
  | .box cs,.box Q5=>fj (dJ P elem&&V2 sz (P.cellsOf elem)&&V2 P4 (P.cellsOf elem)&&WI (P.bytesOf elem) 65536)
    (iW z (n+n2) bn fun z=>ask z (V2 cs.length (n*sz)) fun z=>match z.o with
      | .bc l i k nc _::r=>ask ⟨r,(l=Q5∧i=Qi∧k=n2*P4)∧z.c⟩ (nc.all storable) fun z=>K z (.all (st.set id .dead++ [.box (cs++nc)]) (.bP st.length sz (n+n2)))
      |_=>none)
  |_,_=>none
def tf (P:Program) (z:Z P) (ts:Array TypeId) (s x:D) (st:List Ob) (K:Z P→gp→Option ρ):Option ρ:=
  match ts.toList with
  |ty::xt::_=>match P.underlying ty,P.underlying xt with
    |some (.slice elem),some (.slice _)=>match s,x with
      | .aq o sz xs,.aq _ Py ys=>match z.o with
        | .go 0::r=>match o,xs with
          | .tight,[]=>fj (dJ P elem&&mT Py ys (P.cellsOf elem)&&WI (P.bytesOf elem) 65536)
            (iW ⟨r,z.c⟩ ys.length bn fun z=>Ey z ys fun z nc=>K z (.new (.box nc) fun id=> .bP id (P.cellsOf elem) ys.length))
          |_,_=>none
        | .go (_+1)::r=>match ys with
          | []=>fj (dJ P elem&&mT sz xs (P.cellsOf elem)&&WI (P.bytesOf elem) 65536)
            (iW ⟨r,z.c⟩ xs.length bn fun z=>K z (.pure (.aq o sz xs)))
          |_=>none
        |_=>fj (known P elem&&dJ P elem&&mT sz xs (P.cellsOf elem)&&mT Py ys (P.cellsOf elem)&&WI (P.bytesOf elem) 65536)
          (iW z (xs.length+ys.length) bn fun z=>match o with
            | .tight=>K z (.new (.bg 0 (P.cellsOf elem)) fun id=> .aq (.tok id 0) (P.cellsOf elem) (xs++ys))
            | .tok t v=>match st.getD t .dead with
              | .bg v' P4=>fj (V2 v' v&&V2 P4 (P.cellsOf elem)) (K z (.dv t (.bg v' P4) (.bg (v+1) P4) (.aq (.tok t (v+1)) (P.cellsOf elem) (xs++ys))))
              |_=>none
            |_=>none)
      | .bP id sz n,.aq _ Py ys=>match st.getD id .dead with
        | .box cs => fj (dJ P elem && V2 sz (P.cellsOf elem) && mT Py ys (P.cellsOf elem) && WI (P.bytesOf elem) 65536)
            (iW z (n+ys.length) bn fun z=>ask z (V2 cs.length (n*P.cellsOf elem)) fun z=>Ax z ys fun z nc=>K z (.all (st.set id .dead++ [.box (cs++nc)]) (.bP st.length sz (n+ys.length))))
        |_=>none
      | .bP id sz n,.sub R6 Qi P4 n2 _=>Hk P z elem id sz n R6 Qi P4 n2 st K
      | .aq .tight _ [],.bP id sz n=>zO P z elem id 0 sz n st K
      | .aq .tight _ [],.sub id off sz n _=>zO P z elem id off sz n st K
      | .sub id off sz n (some c),.sub R6 Qi P4 n2 _=>Ei P z elem id off sz n c R6 Qi P4 n2 st K
      |_,_=>none
    |_,_=>none
  |_=>none
def nj (z:Z P) (st:List Ob) (id off n size:Nat) (K:Z P→List D→Nat→Option ρ):Option ρ:=
  match st.getD id .dead with
  | .box cs=>match z.o with
    | .bc l i k nc _::r=>K ⟨r,(l=cs∧i=off∧k=n*size)∧z.c⟩ nc n
    |_=>none
  |_=>none
def HT (z:Z P) (st:List Ob) (x:D) (size:Nat) (K:Z P→List D→Nat→Option ρ):Option ρ:=
  match x with
  | .aq _ sz ys=>fj (mT sz ys size) (Ax z ys fun z nc=>K z nc ys.length)
  | .bP id sz n=>fj (V2 sz size) (nj z st id 0 n size K)
  | .sub id off sz n _=>fj (V2 sz size) (nj z st id off n size K)
  |_=>none
def td (z:Z P) (st:List Ob) (id off n:Nat) (src:D) (K:Z P→gp→Option ρ):Option ρ:=
  HT z st src 1 fun z nc m=>ask z (WI m n) fun z=>ask z (nc.all isByte) fun z=>match st.getD id .dead with
    | .box cs=>match z.o with
      | .Dv l i xs l' _::r=>K ⟨r,(l=cs∧i=off∧xs=nc)∧z.c⟩ (.all (st.set id (.box l')) (.int .i64 m))
      |_=>none
    |_=>none
def EE (P:Program) (z:Z P) (ts:Array TypeId) (dst src:D) (st:List Ob) (K:Z P→gp→Option ρ):Option ρ:=
  match ts.toList with
  |ty::_=>match P.underlying ty with
    |some (.slice e)=>fj (known P e&&V2 (P.cellsOf e) 1) (match dst with
      | .bP id sz n=>fj (V2 sz 1) (td z st id 0 n src K)
      | .sub id off sz n _=>fj (V2 sz 1) (td z st id off n src K)
      |_=>none)
    |_=>none
  |_=>none
def Iy (P:Program) (t:TypeId) (x:D) (K:D→Option ρ):Option ρ:=
  match P.underlying t,x with
  |some .string,.str s=>K (.int .i64 s.size)
  |some (.array n _),_=>K (.int .i64 n)
  |some (.slice _),.aq _ _ xs=>K (.int .i64 xs.length)
  |some (.slice _),.bP _ _ n=>K (.int .i64 n)
  |some (.slice _),.sub _ _ _ n _=>K (.int .i64 n)
  |_,_=>none
def Iv (x y:D) (K:D→Option ρ):Option ρ:=
  match x,y with
  | .int k a,.int _ b=>K (.int k (if b<a then b else a))
  |_,_=>none
def Iw (x y:D) (K:D→Option ρ):Option ρ:=
  match x,y with
  | .int k a,.int _ b=>K (.int k (if b>a then b else a))
  |_,_=>none
def fV:D→Bool
  | .int _ _=>true
  | .bool _=>true
  | .str _=>true
  |_=>false
def fZ (P:Program) (t:TypeId):Option (W3×TypeId):=match P.underlying t with
  |some (.map kt et)=>match P.underlying kt with
    |some (.int k)=>some (k,et)
    |_=>none
  |_=>none
def gd (P:Program) (t:TypeId):Option (TypeId×TypeId):=match P.underlying t with
  |some (.map kt et)=>some (kt,et)
  |_=>none
def na (P:Program) (z:Z P) (t:TypeId) (K:Z P→gp→Option ρ):Option ρ:=
  match fZ P t with
  |some (k,_)=>K z (.new (.mp k []) fun id=> .bA id)
  |none=>match gd P t with
    |some (kt,_)=>qc z kt fun z ks=>K z (.new (.mf ks []) fun id=> .bA id)
    |none=>none
def m9 (P:Program) (z:Z P) (t:TypeId) (m k v:D) (s:List Ob) (K:Z P→gp→Option ρ):Option ρ:=
  match m,k with
  | .bA id,.int q n=>match s.getD id .dead,fZ P t with
    | .mp q' es,some (q2,_)=>fj (dT q q'&&dT q q2&&fV v) (K z (.dv id (.mp q' es) (.mp q' (eH es n v)) .undef))
    |_,_=>none
  | .bA id,.agg cs=>match s.getD id .dead,gd P t with
    | .mf ks es,some (kt,_)=>qc z kt fun z Ry=>fj (ju Ry ks&&eC ks cs&&fV v) (K z (.dv id (.mf ks es) (.mf ks (fN es cs v)) .undef))
    |_,_=>none
  |_,_=>none
def sQ (P:Program) (z:Z P) (t:TypeId) (m k:D) (s:List Ob) (K:Z P→gp→Option ρ):Option ρ:=
  match m,k with
  | .bA id,.int q n=>match s.getD id .dead,fZ P t with
    | .mp q' es,some (q2,et)=>match fu P et with
      |some zd=>fj (dT q q'&&dT q q2&&fV zd) (Al z es n fun z r=>match r with
        |some d=>K z (.dv id (.mp q' es) (.mp q' es) (.aQ [d,.int .i64 (oj es n)]))
        |none=>K z (.dv id (.mp q' es) (.mp q' (eH es n zd)) (.aQ [zd,.int .i64 (oj es n)])))
      |none=>none
    |_,_=>none
  | .bA id,.agg cs=>match s.getD id .dead,gd P t with
    | .mf ks es,some (kt,et)=>match fu P et with
      |some zd=>qc z kt fun z Ry=>fj (ju Ry ks&&eC ks cs&&fV zd) (sN z es cs fun z r=>match r with
        |some d=>K z (.dv id (.mf ks es) (.mf ks es) (.aQ [d,.int .i64 (oi es cs)]))
        |none=>K z (.dv id (.mf ks es) (.mf ks (fN es cs zd)) (.aQ [zd,.int .i64 (oi es cs)])))
      |none=>none
    |_,_=>none
  |_,_=>none
def me (P:Program) (z:Z P) (m n v:D) (s:List Ob) (K:Z P→gp→Option ρ):Option ρ:=
  match m,n with
  | .bA id,.int _ j=>match s.getD id .dead with
    | .mp q es=>fj (fV v) (ask z (decide (0≤j)&&Wx j.toNat es.length) fun z=>K z (.dv id (.mp q es) (.mp q (xe es j.toNat v)) .undef))
    | .mf ks es=>fj (fV v) (ask z (decide (0≤j)&&Wx j.toNat es.length) fun z=>K z (.dv id (.mf ks es) (.mf ks (xe es j.toNat v)) .undef))
    |_=>none
  |_,_=>none
def wg (P:Program) (z:Z P) (t:TypeId) (m k:D) (ok:Bool) (s:List Ob) (K:Z P→gp→Option ρ):Option ρ:=
  match m,k with
  | .bA id,.int q n=>match s.getD id .dead,fZ P t with
    | .mp q' es,some (q2,et)=>match fu P et with
      |some zd=>fj (dT q q'&&dT q q2) (Al z es n fun z r=>match r,ok with
        |some d,true=>K z (.read id (.mp q' es) (.aQ [d,.bool true]))
        |some d,false=>K z (.read id (.mp q' es) d)
        |none,true=>K z (.read id (.mp q' es) (.aQ [zd,.bool false]))
        |none,false=>K z (.read id (.mp q' es) zd))
      |none=>none
    |_,_=>none
  | .bA id,.agg cs=>match s.getD id .dead,gd P t with
    | .mf ks es,some (kt,et)=>match fu P et with
      |some zd=>qc z kt fun z Ry=>fj (ju Ry ks&&eC ks cs) (sN z es cs fun z r=>match r,ok with
        |some d,true=>K z (.read id (.mf ks es) (.aQ [d,.bool true]))
        |some d,false=>K z (.read id (.mf ks es) d)
        |none,true=>K z (.read id (.mf ks es) (.aQ [zd,.bool false]))
        |none,false=>K z (.read id (.mf ks es) zd))
      |none=>none
    |_,_=>none
  |_,_=>none
def sA (n:Nat):List D→List D
  | [d]=>Vt n d
  |zc=>(Vt n zc).flatten
def Hf (P:Program) (z:Z P) (t:TypeId) (l c:D) (K:Z P→gp→Option ρ):Option ρ:=
  match P.underlying t,l,c with
  |some (.slice e),.int _ n,.int _ m=>match fu P e with
    |some zd=>match zd.cells with
      |some zc=>match z.o with
        | .go 5::r=>fj (known P e&&V2 zc.length (P.cellsOf e)&&Wx 0 zc.length&&WI (P.bytesOf e) 65536&&zc.all storable)
          (ask ⟨r,z.c⟩ (decide (0≤n∧n=m∧n≤2147483648)) fun z=>K z (.pure (.aq .tight (P.cellsOf e) (Vt n.toNat zd))))
        |_=>fj (known P e&&V2 zc.length (P.cellsOf e)&&Wx 0 zc.length&&WI (P.bytesOf e) 65536)
          (ask z (decide (0≤n∧n=m∧n≤2147483648)) fun z=>K z (.new (.box (sA n.toNat zc)) fun id=> .bP id (P.cellsOf e) n.toNat))
      |none=>none
    |none=>none
  |_,_,_=>none
def fM (id:Nat):List D→Option (List D×Nat)
  | []=>none
  | .aq (.fresh sz) Py xs::r=>some (.aq (.tok id 0) Py xs::r.map D.aG,sz)
  |d::r=>match fM id r with
    |some (l,sz)=>some (d::l,sz)
    |none=>none
def jF (id:Nat) (d:D):D×Ob:=
  match d with
  | .aq (.fresh sz) Py xs=>(.aq (.tok id 0) Py xs,.bg 0 sz)
  | .aQ ds=>match fM id ds with
    |some (l,sz)=>(.aQ l,.bg 0 sz)
    |none=>(.aQ ds,.dead)
  |d=>(d,.dead)
mutual
def force:D→(D→Option ρ)→Option ρ
  | .undef,K=>K .undef
  | .int k n,K=>K (.int k n)
  | .bool b,K=>K (.bool b)
  | .str s,K=>K (.str s)
  | .eW,K=>K .eW
  | .ptr dyn id off,K=>K (.ptr dyn id off)
  | .cN dyn x off,K=>K (.cN dyn x off)
  | .bA id,K=>K (.bA id)
  | .iD id,K=>K (.iD id)
  | .bP id sz n,K=>K (.bP id sz n)
  | .sub id off sz n cp,K=>K (.sub id off sz n cp)
  | .aq o sz xs,K=>K (.aq o sz xs)
  | .bw,K=>K .bw
  | .fn f a b,K=>fJ a fun a'=>fJ b fun b'=>K (.fn f a' b')
  | .agg cs,K=>fJ cs fun l=>K (.agg l)
  | .aQ cs,K=>fJ cs fun l=>K (.aQ l)
def fJ:List D→(List D→Option ρ)→Option ρ
  | [],K=>K []
  |d::r,K=>force d fun d'=>fJ r fun l=>K (d'::l)
end
def A5:List D→Nat→D→(List D→Option ρ)→Option ρ
  | [],_,_,K=>K []
  |_::r,0,d,K=>K (d::r)
  |a::r,i+1,d,K=>A5 r i d fun l=>K (a::l)
def put (t:List D) (dst:Option Nat) (d:D):List D:=match dst with|some i=>t.set i d|none=>t
def j2 (t:List D) (dst:Option Nat) (d:D) (K:List D→Option ρ):Option ρ:=match dst with
  |some i=>force d fun d'=>A5 t i d' K
  |none=>K t
def gU:List Ob→Nat→Ob→(List Ob→Option ρ)→Option ρ
  | [],_,_,K=>K []
  |_::r,0,d,K=>K (d::r)
  |a::r,i+1,d,K=>gU r i d fun l=>K (a::l)
def ng:List (List D×D)→(List (List D×D)→Option ρ)→Option ρ
  | [],K=>K []
  |e::r,K=>fJ e.1 fun n=>force e.2 fun d=>ng r fun l=>K ((n,d)::l)
def s6:Ob→(Ob→Option ρ)→Option ρ
  | .dead,K=>K .dead
  | .box cs,K=>fJ cs fun l=>K (.box l)
  | .bg v sz,K=>K (.bg v sz)
  | .mp k es,K=>K (.mp k es)
  | .mf ks es,K=>ng es fun l=>K (.mf ks l)
  | .lp k t ps ag bd,K=>fJ t fun l=>K (.lp k l ps ag bd)
def l8 (z:Z P) (o:Ob) (k:Z P→Ob→Option ρ):Option ρ:=match z.o with
  | .raw::r=>k ⟨r,z.c⟩ o
  |_=>s6 o fun o2=>k z o2
def ky:List Ob→Ob→(List Ob→Option ρ)→Option ρ
  | [],o,K=>K [o]
  |a::r,o,K=>ky r o fun l=>K (a::l)
inductive Tg where
  |fn (f:FuncId)
  |yl (id:Nat)
abbrev AJ (P:Program) (ρ:Type):=Tg→List D→List Ob→Z P→(D→List Ob→Z P→Option ρ)→Option ρ
def II (z:Z P) (d:D) (s:List Ob) (K:Z P→gp→Option ρ):Option ρ:=
  match z.o with
  | .go 777777::r=>match d with
    | .bP id sz n=>match s.getD id .dead with
      | .box cs=>fj (V2 sz 1) (ask ⟨r,z.c⟩ (V2 cs.length n&&cs.all isByte) fun z=>K z (.all (s.set id .dead) (.aq .no 1 cs)))
      |_=>none
    |_=>none
  |_=>K z (.all s d)
def AE (P:Program) (inl:AJ P ρ) (g:FuncId) (args:List D) (s:List Ob) (z:Z P) (K:Z P→gp→Option ρ):Option ρ:=
  match z.o with
  | .inl::r=>inl (.fn g) args s ⟨r,z.c⟩ fun d s' z=>II z d s' K
  | .gP g' ar s1 d Su _::r=>fj (V2 g' g) (K ⟨r,(ar=args∧s1=s)∧z.c⟩ (.all Su d))
  | .ret g' as d _::r=>fj (V2 g' g) (m5 args fun Th=>K ⟨r,(as=Th)∧z.c⟩ (.new (jF 0 d).2 fun id=>(jF id d).1))
  |_=>none
def I5 (P:Program) (inl:AJ P ρ) (id:Nat) (args:List D) (s:List Ob) (z:Z P) (K:Z P→gp→Option ρ):Option ρ:=
  match z.o with
  | .inl::r=>inl (.yl id) args s ⟨r,z.c⟩ fun d s' z=>K z (.all s' d)
  |_=>none
def KE (P:Program) (inl:AJ P ρ) (o:Oper) (t:List D) (s:List Ob) (z:Z P) (K:Z P→gp→Option ρ):Option ρ:=
  match o.op with
  | .move x=>K z (.pure (bJ t x))
  | .assign x=>K z (.pure (bJ t x))
  | .pick c a b=>match bJ t c with
    | .bool q=>branch z q (fun z=>K z (.pure (bJ t a))) (fun z=>K z (.pure (bJ t b)))
    |_=>none
  | .box _ x=>match (bJ t x).cells with
    |some cs=>K z (.new (.box cs) fun id=> .ptr false id 0)
    |none=>none
  | .alloc e=>match fu P e with
    |some d=>match d.cells with
      |some cs=>K z (.new (.box cs) fun id=> .ptr false id 0)
      |none=>match CG P e with
        |true=>K z (.new (.box [.undef]) fun id=> .ptr false id 0)
        |false=>none
    |none=>none
  | .build ty parts=>match zt P ty (parts.toList.map fun p=>(p.1,bJ t p.2)) with
    |some d=>K z (.pure d)
    |none=>none
  | .buildSlice ty len parts=>match P.underlying ty with
    |some (.slice e)=>match fu P e with
      |some d=>match d.cells with
        | some zc => fj (known P e && V2 zc.length (P.cellsOf e) && WI (len * P.cellsOf e) 16777216 && d.plain && zc.all storable)
            (js (P.cellsOf e) (Vt len d) (parts.toList.map fun p=>(p.1,bJ t p.2)) fun xs=>K z (.pure (.aq .tight (P.cellsOf e) xs)))
        |none=>none
      |none=>none
    |_=>none
  | .load ty a=>Hg P z ty (bJ t a) s K
  | .store ty a x=>CX P z ty (bJ t a) (bJ t x) s K
  | .nilCheck x=>match bJ t x with
    | .ptr dyn id off=>K z (.pure (.ptr dyn id off))
    | .cN dyn y off=>K z (.pure (.cN dyn y off))
    | .fn (.func g) a b=>K z (.pure (.fn (.func g) a b))
    |_=>none
  | .binOp op ty x y _=>IW P z (isConst y) op ty (bJ t x) (bJ t y) fun z d=>K z (.pure d)
  | .unOp op _ x=>Lc op (bJ t x) fun d=>K z (.pure d)
  | .convert src dst x=>EF P z src dst (bJ t x) K
  | .makeFunc f first cap=>K z (.pure (.fn f (first.toList.map (bJ t)) (cap.toList.map (bJ t))))
  | .slice ty x lo hi mx=>match P.underlying ty,bJ t x with
    |some (.slice e),.aq o' sz xs=>fj (known P e&&V2 (P.cellsOf e) sz) (fH t lo fun l=>fH t hi fun h=>fH t mx fun m=>xd z o' sz xs l h m fun z d=>K z (.pure d))
    |some (.slice e),.bP id sz n=>fj (known P e&&V2 (P.cellsOf e) sz) (fH t lo fun l=>fH t hi fun h=>fH t mx fun m=>CV z id 0 sz n none l h m fun z d=>K z (.pure d))
    |some (.slice e),.sub id off sz n cp=>fj (known P e&&V2 (P.cellsOf e) sz) (fH t lo fun l=>fH t hi fun h=>fH t mx fun m=>CV z id off sz n cp l h m fun z d=>K z (.pure d))
    |some (.array n e),.ptr _ id off=>fj (known P e) (fH t lo fun l=>fH t hi fun h=>fH t mx fun m=>CV z id off (P.cellsOf e) n (some n) l h m fun z d=>K z (.pure d))
    |_,_=>none
  | .fieldAddr ty x f=>oI P ty (bJ t x) f fun d=>K z (.pure d)
  | .field ty x f=>match P.underlying ty,bJ t x with
    |some (.struct fields),.agg cs=>match fields[f]? with
      |some fd=>p8 P z false fd.type cs fd.offset fun z d=>K z (.pure d)
      |none=>none
    |_,_=>none
  | .indexAddr ty x ix=>oh P z (isConst ix) ty (bJ t x) (bJ t ix) fun z d=>K z (.pure d)
  | .index ty x ix=>Ek P z (isConst ix) ty (bJ t x) (bJ t ix) fun z d=>K z (.pure d)
  | .extract x i=>match bJ t x with
    | .aQ ds=>match ds[i]? with
      |some d=>K z (.pure d)
      |none=>none
    |_=>none
  | .call c=>match c.callee with
    | .builtin .len=>match c.args.toList,c.argTypes.toList with
      |x::_,ty::_=>Iy P ty (bJ t x) fun d=>K z (.pure d)
      |_,_=>none
    | .builtin .append=>match c.args.toList with
      |x::y::_=>tf P z c.argTypes (bJ t x) (bJ t y) s K
      |_=>none
    | .builtin .min=>match c.args.toList with
      | [x,y]=>Iv (bJ t x) (bJ t y) fun d=>K z (.pure d)
      |_=>none
    | .builtin .max=>match c.args.toList with
      | [x,y]=>Iw (bJ t x) (bJ t y) fun d=>K z (.pure d)
      |_=>none
    | .builtin .copy=>match c.args.toList with
      |x::y::_=>EE P z c.argTypes (bJ t x) (bJ t y) s K
      |_=>none
    | .value f=>match bJ t f with
      | .fn (.func g) first cap=>AE P inl g (first++(c.args.toList.map (bJ t)++cap)) s z K
      | .iD id=>I5 P inl id (c.args.toList.map (bJ t)) s z K
      |_=>none
    |_=>none
  | .makeMap ty r=>match r with
    |none=>na P z ty K
    |some x=>idx (bJ t x) fun _=>na P z ty K
  | .insert ty m k v=>m9 P z ty (bJ t m) (bJ t k) (bJ t v) s K
  | .mapUpdate ty m k v=>m9 P z ty (bJ t m) (bJ t k) (bJ t v) s K
  | .lookup ty m k ok=>wg P z ty (bJ t m) (bJ t k) ok s K
  | .mapEntry ty m k=>sQ P z ty (bJ t m) (bJ t k) s K
  | .entryStore _ m n v=>me P z (bJ t m) (bJ t n) (bJ t v) s K
  | .makeSlice ty l c=>Hf P z ty (bJ t l) (bJ t c) K
  |_=>none
def gM (ops:Array Oper) (t:List D) (j:Nat):D:=match ops[j]? with
  |some o=>match o.dst with|some i=>t.getD i .undef|none=> .undef
  |none=> .undef
def gn (i:Nat):List Nat→Bool
  | []=>false
  |a::r=>match V2 a i with|true=>true|false=>gn i r
inductive FP where
  |Il
  |rd (id:Nat)
  |pL (id j:Nat)
  |wr (id:Nat)
  |nw (id:Nat)
  |all (l:List Nat) (kc:List (Nat×Nat))
def Aq (s s':List Ob):List (Nat×Ob)→Prop→Prop
  | [],c=>c
  |(i,o)::r,c=>Aq s s' r ((o=s.getD i .dead∧o=s'.getD i .dead)∧c)
def jV:List (Nat×Ob)→List Nat
  | []=> []
  |(i,_)::r=>i::jV r
def eu:Ob→Nat→Option D
  | .box cs,j=>cs[j]?
  |_,_=>none
def EJ (s s':List Ob):List (Nat×Nat×D)→Prop→Prop
  | [],c=>c
  |(i,j,d)::r,c=>EJ s s' r ((some d=eu (s.getD i .dead) j∧some d=eu (s'.getD i .dead) j)∧c)
def lL:List (Nat×Nat×D)→List (Nat×Nat)
  | []=> []
  |(i,j,_)::r=>(i,j)::lL r
def yL (i j:Nat):List (Nat×Nat)→Bool
  | []=>false
  |(a,b)::r=>match V2 a i,V2 b j with|true,true=>true|_,_=>yL i j r
def od (n:Nat):List (Nat×Ob)→Bool
  | []=>true
  |(i,_)::r=>match Wx i n with|true=>od n r|false=>false
def Ao (z:Z P) (s s':List Ob) (k:Z P→List Nat→List (Nat×Nat)→Option ρ):Option ρ:=
  match z.o with
  | .bO l::r=>fj (od s.length l) (k ⟨r,Aq s s' l z.c⟩ (jV l) [])
  | .Hh cs l::r=>fj (od s.length l) (k ⟨r,EJ s s' cs (Aq s s' l z.c)⟩ (jV l) (lL cs))
  |_=>k z [] []
def jw (P:Program) (inl:AJ P ρ) (ops:Array Oper):List Oper→List D→List Ob→List FP→Z P→(List D→List Ob→List FP→Z P→Option ρ)→Option ρ
  | [],t,s,QD,z,K=>K t s QD z
  |o::rest,t,s,QD,z,K=>
    let run:=fun z=>KE P inl o t s z fun z e=>match e with
      | .pure d=>j2 t o.dst d fun t'=>jw P inl ops rest t' s (.Il::QD) z K
      | .read id _ d=>j2 t o.dst d fun t'=>jw P inl ops rest t' s (.rd id::QD) z K
      | .fG id j d=>j2 t o.dst d fun t'=>jw P inl ops rest t' s (.pL id j::QD) z K
      | .dv id _ o' d=>j2 t o.dst d fun t'=>l8 z o' fun z o2=>gU s id o2 fun s'=>jw P inl ops rest t' s' (.wr id::QD) z K
      | .new o' mk=>j2 t o.dst (mk s.length) fun t'=>l8 z o' fun z o2=>ky s o2 fun s'=>jw P inl ops rest t' s' (.nw s.length::QD) z K
      | .all s' d=>j2 t o.dst d fun t'=>Ao z s s' fun z l kc=>jw P inl ops rest t' s' (.all l kc::QD) z K
    match o.guard with
    |none=>run z
    |some (j,want)=>match gM ops t j with
      | .bool b=>branch z (b==want) run (fun z=>j2 t o.dst (.aQ []) fun t'=>jw P inl ops rest t' s (.Il::QD) z K)
      | .aQ []=>j2 t o.dst (.aQ []) fun t'=>jw P inl ops rest t' s (.Il::QD) z K
      |_=>none
def fq:List Oper→List Nat→List Nat
  | [],acc=>acc
  |o::rest,acc=>fq rest (acc++ [o.after.toList.foldl (fun m e=>match Region.binds .any e with|true=>m|||(1<<<e.on)|||acc.getD e.on 0|false=>m) 0])
def eN:FP→FP→Bool
  | .Il,_=>false
  |_,.Il=>false
  | .all l _,.rd i=> !gn i l
  | .rd i,.all l _=> !gn i l
  | .all l kc,.pL i j=> !gn i l&& !yL i j kc
  | .pL i j,.all l kc=> !gn i l&& !yL i j kc
  | .all _ _,_=>true
  |_,.all _ _=>true
  | .rd _,.rd _=>false
  | .rd _,.pL _ _=>false
  | .pL _ _,.rd _=>false
  | .pL _ _,.pL _ _=>false
  | .pL i _,.wr j=>V2 i j
  | .pL i _,.nw j=>V2 i j
  | .wr i,.pL j _=>V2 i j
  | .nw i,.pL j _=>V2 i j
  | .rd i,.wr j=>V2 i j
  | .rd i,.nw j=>V2 i j
  | .wr i,.rd j=>V2 i j
  | .wr i,.wr j=>V2 i j
  | .wr i,.nw j=>V2 i j
  | .nw i,.rd j=>V2 i j
  | .nw i,.wr j=>V2 i j
  | .nw i,.nw j=>V2 i j
def CT (xs:List Operand):List Nat:=xs.filterMap fun x=>match x with| .tmp i=>some i|_=>none
def nZ (ops:Array Oper) (o:Oper):List Nat:=
  CT o.op.operands.toList++(match o.guard with
    |some (j,_)=>match ops[j]? with
      |some q=>q.dst.toList
      |none=> []
    |none=> [])
def share (ops:Array Oper) (x y:Oper):Bool:=
  (match x.dst with|some d=>(nZ ops y).contains d||y.dst==some d|none=>false)||(match y.dst with|some d=>(nZ ops x).contains d|none=>false)
def kK (ops:Array Oper) (QD:List FP):Bool:=
  let l:=ops.toList
  let ah:=fq l []
  let f:=QD.reverse
  (V2 f.length l.length)&&
  (List.range l.length).all fun j=>
    (match l[j]? with
     |some o=>o.after.all fun e=> !Region.binds .any e||Wx e.on j
     |none=>false)&&
    (List.range j).all fun i=>(ah.getD j 0).testBit i||
      (match l[i]?,l[j]? with
       |some x,some y=> !share ops x y
       |_,_=>false)&& !eN (f.getD i (.all [] [])) (f.getD j (.all [] []))
mutual
def kG (n:Nat):D→Bool
  | .ptr _ id _=>Wx id n
  | .bA id=>Wx id n
  | .iD id=>Wx id n
  | .bP id _ _=>Wx id n
  | .sub id _ _ _ _=>Wx id n
  | .aq (.tok id _) _ _=>Wx id n
  | .fn _ a b=>je n a&&je n b
  | .agg cs=>je n cs
  | .aQ cs=>je n cs
  |_=>true
def je (n:Nat):List D→Bool
  | []=>true
  |d::r=>kG n d&&je n r
end
def dc:Nat:=1000000
def fQ (t:List D) (s:List Ob) (k:Nat):D:=match WI dc k with
  |false=>t.getD k .undef
  |true=>match s.getD ((k - dc) / 1000) .dead with
    | .box cs=>cs.getD ((k - dc)%1000) .undef
    |_=> .undef
def ou (s:List Ob) (size id:Nat) (d:D):Option (D×Option Nat×Ob):=
  match d with
  | .aq .tight sz xs=>match mT sz xs size with
    |true=>some (.aq (.tok id 0) size xs,none,.bg 0 size)
    |false=>none
  | .aq (.tok i v) sz xs=>match s.getD i .dead with
    | .bg v' P4=>match V2 v' v&&(V2 P4 size&&mT sz xs size) with
      |true=>some (.aq (.tok id 0) size xs,some i,.bg 0 size)
      |false=>none
    |_=>none
  | .bP i sz n=>match s.getD i .dead with
    | .box cs=>match V2 sz size with
      |true=>some (.bP id sz n,some i,.box (cs.map D.aG))
      |false=>none
    |_=>none
  |_=>none
def wq (t:List D) (s:List Ob):List (Nat×Nat)→Nat→Option (List (Option Nat)×List Ob)
  | [],_=>some ([],[])
  |(k,size)::r,id=>match ou s size id (fQ t s k),wq t s r (id+1) with
    |some (_,o,ob),some (l,Ic)=>some (o::l,ob::Ic)
    |_,_=>none
def findF (i:Nat):List (Nat×Nat)→Nat→Option (Nat×Nat)
  | [],_=>none
  |(k,size)::r,id=>match V2 k i with|true=>some (id,size)|false=>findF i r (id+1)
def Ez (i:Nat) (fs:List (Nat×Nat)) (n0:Nat):Option (Nat×Nat):=match WI dc i with|true=>none|false=>findF i fs n0
def Ay (i j:Nat) (fs:List (Nat×Nat)) (n0:Nat):Option (Nat×Nat):=match Wx j 1000 with|true=>findF (dc+i*1000+j) fs n0|false=>none
def CZ (sp:HS) (n0:Nat) (s:List Ob) (i:Nat) (d:D):Option D:=
  match Ez i sp.j7 n0 with
  |some (id,size)=>match ou s size id d with|some (d',_)=>some d'|none=>none
  |none=>match gn i sp.bO with
    |true=>match kG n0 d with|true=>some d|false=>none
    |false=>match gn (dc+i) sp.bO with
      |true=>match d with| .agg cs=>some (.agg (cs.map D.aG))|_=>none
      |false=>some .undef
def nA (sp:HS) (n0:Nat) (s:List Ob):Nat→List D→Option (List D)
  |_,[]=>some []
  |i,d::r=>match CZ sp n0 s i d,nA sp n0 s (i+1) r with
    |some d',some l=>some (d'::l)
    |_,_=>none
def pQ (i:Nat):List (Option Nat)→Bool
  | []=>false
  |none::r=>pQ i r
  |some a::r=>match V2 a i with|true=>true|false=>pQ i r
def qt:List (Option Nat)→Bool
  | []=>true
  |none::r=>qt r
  |some a::r=> !pQ a r&&qt r
def mh (sp:HS) (n0:Nat) (s:List Ob) (i:Nat):Nat→List D→Option (List D)
  |_,[]=>some []
  | j, d :: r => match (match Ay i j sp.j7 n0 with
      |some (id,size)=>(match ou s size id d with|some (d',_)=>some d'|none=>none)
      |none=>(match kG n0 d with|true=>some d|false=>none)),mh sp n0 s i (j+1) r with
    |some d',some l=>some (d'::l)
    |_,_=>none
def KF (sp:HS) (n0:Nat) (s:List Ob) (used:List (Option Nat)) (i:Nat) (o:Ob):Option Ob:=
  match gn (dc+i) sp.Ic&& !pQ i used with
  |true=>match o with
    | .box cs=>some (.box (cs.map D.aG))
    |_=>none
  |false=>match gn i sp.Ic&& !pQ i used with
    |false=>some .dead
    |true=>match o with
      | .box cs=>match mh sp n0 s i 0 cs with|some PM=>some (.box PM)|none=>none
      | .lp k t ps ag bd=>match je n0 t with|true=>some (.lp k t ps ag bd)|false=>none
      |o=>some o
def Bn (sp:HS) (n0:Nat) (s0:List Ob) (used:List (Option Nat)) (new:List Ob):Nat→Nat→List Ob→Option (List Ob)
  |0,_,_=>some new
  |_+1,_,[]=>none
  |n+1,i,o::r=>match KF sp n0 s0 used i o,Bn sp n0 s0 used new n (i+1) r with
    |some o',some l=>some (o'::l)
    |_,_=>none
def lB (sp:HS) (n0:Nat) (t:List D) (s:List Ob):Option (List D×List Ob):=
  match wq t s sp.j7 n0 with
  |some (used,new)=>match qt used with
    |true=>match nA sp n0 s 0 t,Bn sp n0 s used new n0 0 s with
      |some t',some s'=>some (t',s')
      |_,_=>none
    |false=>none
  |none=>none
def AF (s:List Ob) (i:Nat):List (List D):=match s.getD i .dead with| .box cs=> [cs]|_=> []
def l6 (s:List Ob):List Nat→List (List D)
  | []=> []
  |o::r=>match WI dc o with
    |true=>AF s (o - dc)++l6 s r
    |false=>l6 s r
def sY (t:List D) (s:List Ob):List (Nat×Nat)→List (List D)
  | []=> []
  |(k,_)::r=>(match fQ t s k with| .bP i _ _=>AF s i|_=> [])++sY t s r
def sX (t:List D):List Nat→List (List D)
  | []=> []
  |o::r=>(match WI dc o with
    |true=>match t.getD (o - dc) .undef with| .agg cs=> [cs]|_=> []
    |false=> [])++sX t r
def sW (sp:HS) (t:List D) (s:List Ob):List (List D):=l6 s sp.Ic++(sY t s sp.j7++sX t sp.bO)
def Cr:List (List D)→Z P→(Z P→Option ρ)→Option ρ
  | [],z,k=>k z
  |cs::r,z,k=>match z.o with
    | .cl PM _::o=>Cr r ⟨o,(PM=cs)∧z.c⟩ k
    |_=>none
def iter (body:List D→List Ob→Z P→(Ex→List D→List Ob→Z P→Option ρ)→Option ρ):Nat→List D→List Ob→Z P→(Ex→List D→List Ob→Z P→Option ρ)→Option ρ
  |0,_,_,_,_=>none
  |n+1,t,s,z,K=>body t s z fun ex t' s' z=>match ex with
    | .norm=>iter body n t' s' z K
    |e=>K e t' s' z
def g6 (bO:List Nat):Nat→List D→List D
  |_,[]=> []
  |i,d::r=>(match gn i bO with|true=>d|false=> .undef)::g6 bO (i+1) r
def jr:List D→List (Nat×D)→List D
  |t,[]=>t
  |t,(i,d)::r=>jr (t.set i d) r
def dZ (P:Program) (inl:AJ P ρ) (rd:Bool):Code→List D→List Ob→Z P→(Ex→List D→List Ob→Z P→Option ρ)→Option ρ
  | .skip,t,s,z,K=>K .norm t s z
  | .label _,t,s,z,K=>K .norm t s z
  | .region _ ops draw,t,s,z,K=>jw P inl ops ops.toList t s [] z fun t' s' QD z=>match draw with
    |false=>K .norm t' s' z
    |true=>fj (kK ops QD) (K .norm t' s' z)
  | .seq a b,t,s,z,K=>dZ P inl rd a t s z fun ex t' s' z=>match ex with
    | .norm=>dZ P inl rd b t' s' z K
    |e=>K e t' s' z
  | .cond c a b,t,s,z,K=>match bJ t c with
    | .bool q=>branch z q (fun z=>dZ P inl rd a t s z K) (fun z=>dZ P inl rd b t s z K)
    |_=>none
  | .block id a,t,s,z,K=>match z.o with
    | .cq sp n0 c' t1 s1 ex t2 s2 _::r=>match lB sp n0 t s with
      |some (t',s')=>fj (V2 n0 s.length) (Cr (sW sp t s) ⟨r,(c'= .block id a∧t1=t'∧s1=s')∧z.c⟩ fun z=>K ex t2 s2 z)
      |none=>none
    |_=>dZ P inl rd a t s z fun ex t' s' z=>match ex with
      | .exit i=>match V2 i id with|true=>K .norm t' s' z|false=>K (.exit i) t' s' z
      |e=>K e t' s' z
  | .scope a,t,s,z,K=>dZ P inl rd a t s z K
  | .exit id,t,s,z,K=>K (.exit id) t s z
  | .ret,t,s,z,K=>K .ret t s z
  | .loop x,t,s,z,K=>match z.o with
    | .go n::r=>iter (dZ P inl rd x) n t s ⟨r,z.c⟩ K
    | .head sp n0 c' t1 s1 ex t2 s2 _::r=>match lB sp n0 t s with
      |some (t',s')=>fj (V2 n0 s.length) (Cr (sW sp t s) ⟨r,(c'= .loop x∧t1=t'∧s1=s')∧z.c⟩ fun z=>K ex t2 s2 z)
      |none=>none
    | .code c' t1 s1 ex t2 s2 _::r=>K ex t2 s2 ⟨r,(c'= .loop x∧t1=t∧s1=s)∧z.c⟩
    |_=>none
  | .rangeFunc g ps ag bd,t,s,z,K=>match z.o with
    | .MU bO::r=>match rd,bJ t g with
      |false,.fn (.func gf) first cap=>fJ (g6 bO 0 t) fun t1=>ky s (.lp .ready t1 ps ag bd) fun s1=>
        inl (.fn gf) (first++(.iD s.length::cap)) s1 ⟨r,z.c⟩ fun _ s2 z=>match s2.getD s.length .dead with
          | .lp .ready _ _ _ _=>gU s2 s.length .dead fun s3=>K .norm t s3 z
          | .lp .ret _ _ _ _=>gU s2 s.length .dead fun s3=>K .ret t s3 z
          | .lp (.exit i) _ _ _ _=>gU s2 s.length .dead fun s3=>K (.exit i) t s3 z
          |_=>none
      |_,_=>none
    | .code c' t1 s1 ex t2 s2 _::r=>K ex t2 s2 ⟨r,(c'= .rangeFunc g ps ag bd∧t1=t∧s1=s)∧z.c⟩
    |_=>none
  |c,t,s,z,K=>match z.o with
    | .code c' t1 s1 ex t2 s2 _::r=>K ex t2 s2 ⟨r,(c'=c∧t1=t∧s1=s)∧z.c⟩
    |_=>none
def sy (P:Program) (t:List D) (s:List Ob):ResultVar→Option D
  | .tmp i=>some (t.getD i .undef)
  | .cell a ty=>match t.getD a .undef with
    | .ptr _ id off=>match s.getD id .dead with
      | .box cs=>match P.underlying ty with
        |some d=>match cC d with
          |true=>match known P ty&&WI (off+P.cellsOf ty) cs.length with
            |true=>some (.agg ((cs.drop off).take (P.cellsOf ty)))
            |false=>none
          |false=>cs[off]?
        |none=>none
      |_=>none
    |_=>none
def xU (P:Program) (t:List D) (s:List Ob):List ResultVar→Option (List D)
  | []=>some []
  |r::rs=>match sy P t s r,xU P t s rs with
    |some d,some l=>some (d::l)
    |_,_=>none
def xV:List D→D
  | [d]=>d
  |l=> .aQ l
def qz (P:Program) (inl:AJ P ρ) (fn:Func) (args:List D) (s:List Ob) (z:Z P) (K:D→List Ob→Z P→Option ρ):Option ρ:=
  match fn.body with
  |some c=>fj (WI args.length fn.ntmps) (fJ (args++Vt (fn.ntmps - args.length) .undef) fun t0=>dZ P inl false c t0 s z fun ex t' s' z=>match ex with
    | .exit _=>none
    |_=>match xU P t' s' fn.results.toList with
      |some l=>K (xV l) s' z
      |none=>none)
  |none=>none
def xm (P:Program) (inl:AJ P ρ) (id:Nat) (args:List D) (s:List Ob) (z:Z P) (K:D→List Ob→Z P→Option ρ):Option ρ:=
  match s.getD id .dead with
  | .lp .ready t ps ag bd=>fj (V2 args.length ps.size) (fJ (jr t (ps.toList.zip args)) fun t1=>dZ P inl true ag t1 s z fun ex t2 s2 z=>match ex with
    | .norm=>match s2.getD id .dead with
      | .lp .ready t' TQ TN TP=>gU s2 id (.lp .busy t' TQ TN TP) fun s3=>dZ P inl true bd t2 s3 z fun ex _ s4 z=>match s4.getD id .dead with
        | .lp .busy t5 R1 RW RU=>match ex with
          | .norm=>gU s4 id (.lp .ready t5 R1 RW RU) fun s5=>K (.bool true) s5 z
          | .ret=>gU s4 id (.lp .ret t5 R1 RW RU) fun s5=>K (.bool false) s5 z
          | .exit i=>gU s4 id (.lp (.exit i) t5 R1 RW RU) fun s5=>K (.bool false) s5 z
        |_=>none
      |_=>none
    |_=>none)
  |_=>none
def og (P:Program):Nat→AJ P ρ
  |0=>fun _ _ _ _ _=>none
  |n+1=>fun g args s z K=>match g with
    | .fn f=>match P.funcs[f]? with
      |some fn=>fj (!(fn.name== "runtime.NumGoroutine")) (qz P (og P n) fn args s z K)
      |none=>none
    | .yl id=>xm P (og P n) id args s z K
def gW (s:List Ob):D→D
  | .aq (.tok id v) sz xs=>match s.getD id .dead with
    | .bg v' P4=>match V2 v v'&&V2 sz P4 with|true=> .aq (.fresh sz) sz xs|false=> .aq .no sz xs
    |_=> .aq .no sz xs
  |d=>d.aG
def Bi (s:List Ob):D→D
  | .aQ ds=> .aQ (ds.map (gW s))
  |d=>gW s d
end
def Ap:List (Nat×Ob)→Prop→Prop
  | [],c=>c
  |(_,o)::r,c=>Ap r ((o=o∧o=o)∧c)
theorem kF:∀(l:List (Nat×Ob)) {c:Prop},c→Ap l c
 | [],_,h=>h
 |(_,o)::r,_,h=>kF r ⟨⟨rfl,rfl⟩,h⟩
def EI:List (Nat×Nat×D)→Prop→Prop
  | [],c=>c
  |(_,_,d)::r,c=>EI r ((some d=some d∧some d=some d)∧c)
theorem oW:∀(l:List (Nat×Nat×D)) {c:Prop},c→EI l c
 | [],_,h=>h
 |(_,_,d)::r,_,h=>oW r ⟨⟨rfl,rfl⟩,h⟩
def Ev.self {P:Program} :Ev P→Prop→Prop
  | .ret _ as _ _,c=>(as=as)∧c
  | .inl,c=>c
  | .gP _ ar s _ _ _,c=>(ar=ar∧s=s)∧c
  | .dM q _ _,c=>(q=q)∧c
  | .len n m _,c=>(n=n∧m=m)∧c
  | .get l i _ _,c=>(l=l∧i=i)∧c
  | .bc l i n _ _,c=>(l=l∧i=i∧n=n)∧c
  | .Dv l i xs _ _,c=>(l=l∧i=i∧xs=xs)∧c
  | .flat _ _ _,c=>c
  | .lr es n _ _,c=>(es=es∧n=n)∧c
  | .mU _ _ _,c=>c
  | .qe es n _ _,c=>(es=es∧n=n)∧c
  | .bO l,c=>Ap l c
  | .Hh cs l,c=>EI cs (Ap l c)
  | .code c' t s _ _ _ _,c=>(c'=c'∧t=t∧s=s)∧c
  | .go _,c=>c
  | .MU _,c=>c
  | .raw,c=>c
  | .cl cs _,c=>(cs=cs)∧c
  | .Ma ys _ _,c=>(ys=ys)∧c
  | .head _ _ c' t s _ _ _ _,c=>(c'=c'∧t=t∧s=s)∧c
  | .cq _ _ c' t s _ _ _ _,c=>(c'=c'∧t=t∧s=s)∧c
def nB {P:Program} :List (Ev P)→Prop→Prop
  | [],c=>c
  |e::r,c=>nB r (e.self c)
theorem iG {P:Program} (l:List (Ev P)):∀ {c:Prop},c→nB l c:=by
 induction l with
 |nil=>exact fun h=>h
 |cons e r ih=>
  intro c h
  refine ih ?_
  cases e<;>simp only [Ev.self,true_and,and_self]<;>first|exact h|exact kF _ h|exact oW _ (kF _ h)
def s8 (P:Program) (fn:Func) (args:List D) (o:List (Ev P)):Option (D×Prop):=
  qz P (og P 20) fn args [] ⟨o,True⟩ fun d s z=>fj d.clean (match z.o with| []=>some (Bi s d,z.c)|_=>none)
def qs (P:Program) (c:Code) (sp:HS) (n0:Nat) (t:List D) (s:List Ob) (o:List (Ev P)):Option ((Ex×List D×List Ob)×Prop):=
  dZ P (og P 20) true c t s ⟨o,True⟩ fun ex t' s' z=>match lB sp n0 t' s' with
    |some (t2,s2)=>Cr (sW sp t' s') z fun z=>match z.o with
      | []=>some ((ex,t2,s2),z.c)
      |_=>none
    |none=>none
def evalCode (P:Program) (c:Code) (t:List D) (s:List Ob) (o:List (Ev P)):Option ((Ex×List D×List Ob)×Prop):=
  dZ P (og P 20) true c t s ⟨o,True⟩ fun ex t' s' z=>match z.o with| []=>some ((ex,t',s'),z.c)|_=>none
end Go.Ev
