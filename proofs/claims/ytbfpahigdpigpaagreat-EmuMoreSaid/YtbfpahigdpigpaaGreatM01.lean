import Derived.Calls
import Derived.Orders
import Derived.Below
import Derived.Laws.World
import Derived.Laws.Sem
import Derived.RangeFuncRecord
import Derived.Laws.StructEq
import Derived.OrdersIn
import Derived.ControlIn
/- Contracts and plain laws that a statement's proof leans on (texts merged:EvC). -/
set_option linter.unusedVariables false
set_option linter.unusedSimpArgs false
namespace Go.Ev
open Go Go.RowKit
inductive jW where
  |no
  |tight
  |tok (t ver:Nat)
  |fresh (sz:Nat)
inductive D where
  |undef
  |int (k:IntKind) (n:Int)
  |bool (b:Bool)
  |str (s:ByteArray)
  |gD
  |ptr (dyn:Bool) (id off:Nat)
  |dN (dyn:Bool) (x:D) (off:Nat)
  |dM (id:Nat)
  |iq (id:Nat)
  |dn (id sz n:Nat)
  |sub (id off sz n:Nat) (cap:Option Nat)
  |aj (o:jW) (sz:Nat) (xs:List D)
  |aq
  |fn (f:Fn) (first cap:List D)
  |agg (cs:List D)
  |aA (vs:List D)
def D.cells:D→Option (List D)
  | .agg cs=>some cs
  | .undef=>none
  | .aA _=>none
  |d=>some [d]
def storable:D→Bool
  | .undef=>false
  | .agg _=>false
  | .aA _=>false
  |_=>true
structure MM where
  cell:Nat→Nat→Option Value
  box:Nat→Option Nat
  bG:Nat→Nat→Option Value
  eL:Nat→Prop
def MM.bare (M:MM):MM:=⟨M.cell,fun _=>none,fun _ _=>none,fun _=>False⟩
def eB (C:Nat→Nat→Option Value):MM:=⟨C,fun _=>none,fun _ _=>none,fun _=>False⟩
def MM.m5 (M:MM):jW→Option Addr→Nat→Nat→Prop
  | .no,_,_,_=>True
  | .fresh _,_,_,_=>True
  | .tight,_,len,cap=>cap=len
  | .tok t v,a,len,cap=>M.bG t v=some (.slice a len cap)
inductive bk:MM→D→Value→Prop
  |undef {M:MM} (v:Value):bk M .undef v
  |int {M:MM} (k:IntKind) (n:Int):bk M (.int k n) (.int k n)
  |bool {M:MM} (b:Bool):bk M (.bool b) (.bool b)
  |str {M:MM} (s:ByteArray):bk M (.str s) (.string s)
  |gD {M:MM} :bk M .gD (.pointer none)
  |ptr {M:MM} (dyn:Bool) {id off b:Nat} (h:M.box id=some b):bk M (.ptr dyn id off) (.pointer (some ⟨b,off,none⟩))
  | dN {M : MM} (dyn : Bool) {x : D} {cs : List D} {off b base : Nat} (vs : Nat → Value) (hx : x.cells = some cs)
      (hc:∀(j:Nat) (c:D),cs[j]? =some c→M.cell b (base+j)=some (vs j)) (hr:∀(j:Nat) (c:D),cs[j]? =some c→bk M.bare c (vs j)):
      bk M (.dN dyn x off) (.pointer (some ⟨b,base+off,none⟩))
  |dM {M:MM} {id b:Nat} (h:M.box id=some b):bk M (.dM id) (.map (some b))
  |iq {M:MM} {id b:Nat} (h:M.box id=some b):bk M (.iq id) (.func (.yield b) #[] #[])
  |dn {M:MM} {id sz n b cap:Nat} (h:M.box id=some b) (hh:M.bG id sz=some (.slice (some ⟨b,0,none⟩) n cap)) (hc:n≤cap):bk M (.dn id sz n) (.slice (some ⟨b,0,none⟩) n cap)
  |sub {M:MM} {id off sz n b o2 c:Nat} {cp:Option Nat} (h:M.box id=some b) (hc:n≤c) (hp:∀k,cp=some k→c=k) (ho:n≠0→o2=off):bk M (.sub id off sz n cp) (.slice (some ⟨b,o2,none⟩) n c)
  | aj {M : MM} {o : jW} {sz : Nat} {xs : List D} {a : Option Addr} {len cap : Nat} (b off : Nat) (vs : Nat → Nat → Value)
      (hl:xs.length=len) (hcap:len≤cap) (ha:xs≠ []→a=some ⟨b,off,none⟩)
      (hsz:∀(i:Nat) (x:D),xs[i]? =some x→∃cs:List D,x.cells=some cs∧cs.length=sz)
      (hc:∀(i:Nat) (x:D) (cs:List D) (j:Nat) (c:D),xs[i]? =some x→x.cells=some cs→cs[j]? =some c→M.cell b (off+i*sz+j)=some (vs i j))
      (hr:∀(i:Nat) (x:D) (cs:List D) (j:Nat) (c:D),xs[i]? =some x→x.cells=some cs→cs[j]? =some c→bk M.bare c (vs i j))
      (hst:∀(i:Nat) (x:D) (cs:List D) (c:D),xs[i]? =some x→x.cells=some cs→c∈cs→storable c=true)
      (ho:M.m5 o a len cap):bk M (.aj o sz xs) (.slice a len cap)
  |aq {M:MM} :bk M .aq .nilFunc
  | fn {M : MM} {f : Fn} {first cap : List D} {fv cv : Array Value} (h1 : first.length = fv.size) (h2 : cap.length = cv.size)
      (r1:∀(i:Nat) (d:D) (v:Value),first[i]? =some d→fv[i]? =some v→bk M d v) (r2:∀(i:Nat) (d:D) (v:Value),cap[i]? =some d→cv[i]? =some v→bk M d v):
      bk M (.fn f first cap) (.func f fv cv)
  | agg {M : MM} {cs : List D} {vs : Array Value} (h : cs.length = vs.size) (r : ∀ (i : Nat) (d : D) (v : Value), cs[i]? = some d → vs[i]? = some v → bk M d v) :
      bk M (.agg cs) (.agg vs)
  | aA {M : MM} {cs : List D} {vs : Array Value} (h : cs.length = vs.size) (r : ∀ (i : Nat) (d : D) (v : Value), cs[i]? = some d → vs[i]? = some v → bk M d v) :
      bk M (.aA cs) (.tuple vs)
structure MM.Le (M M':MM):Prop where
  cell:∀b o v,M.cell b o=some v→M'.cell b o=some v
  box:∀id b,M.box id=some b→M'.box id=some b
  bG:∀t v x,M.bG t v=some x→M'.bG t v=some x
  eL:∀b,M.eL b→M'.eL b
theorem MM.Le.refl (M:MM):M.Le M:=⟨fun _ _ _ h=>h,fun _ _ h=>h,fun _ _ _ h=>h,fun _ h=>h⟩
theorem MM.Le.trans {A B C:MM} (h:A.Le B) (k:B.Le C):A.Le C:=
 ⟨fun b o v x=>k.cell b o v (h.cell b o v x),fun i b x=>k.box i b (h.box i b x),fun t v x y=>k.bG t v x (h.bG t v x y),fun b x=>k.eL b (h.eL b x)⟩
theorem MM.Le.bare {A B:MM} (h:A.Le B):A.bare.Le B.bare:=⟨h.cell,fun _ _ x=>x,fun _ _ _ x=>x,fun _ x=>x⟩
theorem MM.Ac {M M':MM} (h:M.Le M'):∀ {o:jW} {a:Option Addr} {l c:Nat},M.m5 o a l c→M'.m5 o a l c
 | .no,_,_,_,x=>x
 | .fresh _,_,_,_,x=>x
 | .tight,_,_,_,x=>x
 | .tok _ _,_,_,_,x=>h.bG _ _ _ x
theorem bk.mono {M:MM} {d:D} {v:Value} (h:bk M d v):∀ {M':MM},M.Le M'→bk M' d v:=by
 induction h with
 |undef v=>exact fun _=> .undef v
 |int k n=>exact fun _=> .int k n
 |bool b=>exact fun _=> .bool b
 |str s=>exact fun _=> .str s
 |gD=>exact fun _=> .gD
 |ptr q h=>exact fun le=> .ptr q (le.box _ _ h)
 |dN q vs hx hc hr ih=>exact fun le=> .dN q vs hx (fun j c h=>le.cell _ _ _ (hc j c h)) (fun j c h=>ih j c h le.bare)
 |dM h=>exact fun le=> .dM (le.box _ _ h)
 |iq h=>exact fun le=> .iq (le.box _ _ h)
 |dn h hh hc=>exact fun le=> .dn (le.box _ _ h) (le.bG _ _ _ hh) hc
 |sub h hc hp ho=>exact fun le=> .sub (le.box _ _ h) hc hp ho
 |aj b off vs hl hcap ha hsz hc hr hst ho ih=>
  exact fun le=> .aj b off vs hl hcap ha hsz (fun i x cs j c h1 h2 h3=>le.cell _ _ _ (hc i x cs j c h1 h2 h3)) (fun i x cs j c h1 h2 h3=>ih i x cs j c h1 h2 h3 le.bare) hst (MM.Ac le ho)
 |aq=>exact fun _=> .aq
 |fn h1 h2 r1 r2 i1 i2=>exact fun le=> .fn h1 h2 (fun i d v a b=>i1 i d v a b le) (fun i d v a b=>i2 i d v a b le)
 |agg h r ih=>exact fun le=> .agg h (fun i d v a b=>ih i d v a b le)
 |aA h r ih=>exact fun le=> .aA h (fun i d v a b=>ih i d v a b le)
def jW.aX:jW→jW
  | .tight=> .tight
  |_=> .no
mutual
def D.aX:D→D
  | .aj o sz xs=> .aj o.aX sz xs
  | .agg cs=> .agg (D.gz cs)
  | .aA cs=> .aA (D.gz cs)
  | .fn f a b=> .fn f (D.gz a) (D.gz b)
  |d=>d
def D.gz:List D→List D
  | []=> []
  |d::r=>d.aX::D.gz r
end
mutual
def D.clean:D→Bool
  | .undef=>false
  | .ptr _ _ _=>false
  | .dN _ _ _=>false
  | .dM _=>false
  | .iq _=>false
  | .dn _ _ _=>false
  | .sub _ _ _ _ _=>false
  | .agg cs=>D.jh cs
  | .aA cs=>D.jh cs
  | .fn _ a b=>D.jh a&&D.jh b
  |_=>true
def D.jh:List D→Bool
  | []=>true
  |d::r=>d.clean&&D.jh r
end
theorem D.fA (l:List D):D.gz l=l.map D.aX:=by
 induction l with
 |nil=>simp [D.gz]
 |cons d r ih=>simp [D.gz,ih]
theorem D.jA (l:List D):D.jh l=l.all D.clean:=by
 induction l with
 |nil=>simp [D.jh]
 |cons d r ih=>simp [D.jh,ih]
theorem bk.oJ {M:MM} {d:D} {v:Value} (h:bk M d v):d.clean=true→bk M.bare d.aX v:=by
 induction h with
 |undef v=>intro c;simp [D.clean] at c
 |int k n=>intro _;exact .int k n
 |bool b=>intro _;exact .bool b
 |str s=>intro _;exact .str s
 |gD=>intro _;exact .gD
 |ptr q h=>intro c;simp [D.clean] at c
 |dN q vs hx hc hr ih=>intro c;simp [D.clean] at c
 |dM h=>intro c;simp [D.clean] at c
 |iq h=>intro c;simp [D.clean] at c
 |dn h hh hc=>intro c;simp [D.clean] at c
 |sub h hc hp ho=>intro c;simp [D.clean] at c
 |aj b off vs hl hcap ha hsz hc hr hst ho ih=>
  rename_i o _ _ _ _ _
  intro _
  rw [D.aX]
  refine .aj b off vs hl hcap ha hsz hc hr hst ?_
  cases o<;>first|trivial|exact ho
 |aq=>intro _;exact .aq
 |fn h1 h2 r1 r2 i1 i2=>
  intro c
  rw [D.clean,D.jA,D.jA,Bool.and_eq_true,List.all_eq_true,List.all_eq_true] at c
  rw [D.aX,D.fA,D.fA]
  refine .fn (by simpa using h1) (by simpa using h2) ?_ ?_
  ·intro i d v a b
   rw [List.getElem?_map,Option.map_eq_some_iff] at a
   obtain ⟨d0,h0,rfl⟩:=a
   exact i1 i d0 v h0 b (c.1 _ (List.mem_of_getElem? h0))
  ·intro i d v a b
   rw [List.getElem?_map,Option.map_eq_some_iff] at a
   obtain ⟨d0,h0,rfl⟩:=a
   exact i2 i d0 v h0 b (c.2 _ (List.mem_of_getElem? h0))
 |agg h r ih=>
  intro c
  rw [D.clean,D.jA,List.all_eq_true] at c
  rw [D.aX,D.fA]
  refine .agg (by simpa using h) ?_
  intro i d v a b
  rw [List.getElem?_map,Option.map_eq_some_iff] at a
  obtain ⟨d0,h0,rfl⟩:=a
  exact ih i d0 v h0 b (c _ (List.mem_of_getElem? h0))
 |aA h r ih=>
  intro c
  rw [D.clean,D.jA,List.all_eq_true] at c
  rw [D.aX,D.fA]
  refine .aA (by simpa using h) ?_
  intro i d v a b
  rw [List.getElem?_map,Option.map_eq_some_iff] at a
  obtain ⟨d0,h0,rfl⟩:=a
  exact ih i d0 v h0 b (c _ (List.mem_of_getElem? h0))
theorem bk.G1 {M:MM} {d:D} {v:Value} (h:bk M d v):∀ {f:Nat→Prop},bk { M with eL:=f } d v:=by
 induction h with
 |undef v=>exact fun {f} => .undef v
 |int k n=>exact fun {f} => .int k n
 |bool b=>exact fun {f} => .bool b
 |str s=>exact fun {f} => .str s
 |gD=>exact fun {f} => .gD
 |ptr q h=>exact fun {f} => .ptr q h
 |dN q vs hx hc hr ih=>exact fun {f} => .dN q vs hx hc hr
 |dM h=>exact fun {f} => .dM h
 |iq h=>exact fun {f} => .iq h
 |dn h hh hc=>exact fun {f} => .dn h hh hc
 |sub h hc hp ho=>exact fun {f} => .sub h hc hp ho
 |aj b off vs hl hcap ha hsz hc hr hst ho ih=>
  rename_i o _ _ _ _ _
  refine fun {f} => .aj b off vs hl hcap ha hsz hc hr hst ?_
  cases o<;>first|trivial|exact ho
 |aq=>exact fun {f} => .aq
 |fn h1 h2 r1 r2 i1 i2=>exact fun {f} => .fn h1 h2 (fun i d v a b=>i1 i d v a b) (fun i d v a b=>i2 i d v a b)
 |agg h r ih=>exact fun {f} => .agg h (fun i d v a b=>ih i d v a b)
 |aA h r ih=>exact fun {f} => .aA h (fun i d v a b=>ih i d v a b)
theorem MM.lb (M:MM):M.bare.Le M:=⟨fun _ _ _ h=>h,fun _ _ h=>by simp [MM.bare] at h,fun _ _ _ h=>by simp [MM.bare] at h,fun _ h=>h.elim⟩
def jW.low:jW→Bool
  | .no=>true
  | .tight=>true
  |_=>false
mutual
def D.plain:D→Bool
  | .undef=>false
  | .ptr _ _ _=>false
  | .dN _ _ _=>false
  | .dM _=>false
  | .iq _=>false
  | .dn _ _ _=>false
  | .sub _ _ _ _ _=>false
  | .aj o _ _=>o.low
  | .agg cs=>D.iy cs
  | .aA cs=>D.iy cs
  | .fn _ a b=>D.iy a&&D.iy b
  |_=>true
def D.iy:List D→Bool
  | []=>true
  |d::r=>d.plain&&D.iy r
end
theorem D.kR (l:List D):D.iy l=l.all D.plain:=by
 induction l with
 |nil=>simp [D.iy]
 |cons d r ih=>simp [D.iy,ih]
theorem bk.Ef {M:MM} {d:D} {v:Value} (h:bk M d v):d.plain=true→bk M.bare d v:=by
 induction h with
 |undef v=>intro c;simp [D.plain] at c
 |int k n=>intro _;exact .int k n
 |bool b=>intro _;exact .bool b
 |str s=>intro _;exact .str s
 |gD=>intro _;exact .gD
 |ptr q h=>intro c;simp [D.plain] at c
 |dN q vs hx hc hr ih=>intro c;simp [D.plain] at c
 |dM h=>intro c;simp [D.plain] at c
 |iq h=>intro c;simp [D.plain] at c
 |dn h hh hc=>intro c;simp [D.plain] at c
 |sub h hc hp ho=>intro c;simp [D.plain] at c
 |aj b off vs hl hcap ha hsz hc hr hst ho ih=>
  rename_i o _ _ _ _ _
  intro c
  refine .aj b off vs hl hcap ha hsz hc hr hst ?_
  rw [D.plain] at c
  cases o<;>first|exact ho|(simp [jW.low] at c)
 |aq=>intro _;exact .aq
 |fn h1 h2 r1 r2 i1 i2=>
  intro c
  rw [D.plain,D.kR,D.kR,Bool.and_eq_true,List.all_eq_true,List.all_eq_true] at c
  exact .fn h1 h2 (fun i d v a b=>i1 i d v a b (c.1 _ (List.mem_of_getElem? a))) (fun i d v a b=>i2 i d v a b (c.2 _ (List.mem_of_getElem? a)))
 |agg h r ih=>
  intro c
  rw [D.plain,D.kR,List.all_eq_true] at c
  exact .agg h (fun i d v a b=>ih i d v a b (c _ (List.mem_of_getElem? a)))
 |aA h r ih=>
  intro c
  rw [D.plain,D.kR,List.all_eq_true] at c
  exact .aA h (fun i d v a b=>ih i d v a b (c _ (List.mem_of_getElem? a)))
mutual
theorem mG:∀ {d:D},d.clean=true→d.aX.plain=true
  | .undef,h=>by simp [D.clean] at h
  | .int _ _,_=>by simp [D.aX,D.plain]
  | .bool _,_=>by simp [D.aX,D.plain]
  | .str _,_=>by simp [D.aX,D.plain]
  | .gD,_=>by simp [D.aX,D.plain]
  | .ptr _ _ _,h=>by simp [D.clean] at h
  | .dN _ _ _,h=>by simp [D.clean] at h
  | .dM _,h=>by simp [D.clean] at h
  | .iq _,h=>by simp [D.clean] at h
  | .dn _ _ _,h=>by simp [D.clean] at h
  | .sub _ _ _ _ _,h=>by simp [D.clean] at h
  | .aj o _ _,_=>by cases o<;>simp [D.aX,D.plain,jW.aX,jW.low]
  | .aq,_=>by simp [D.aX,D.plain]
  | .fn _ a b,h=>by
    simp only [D.clean,Bool.and_eq_true] at h
    simp only [D.aX,D.plain,Bool.and_eq_true]
    exact ⟨fP h.1,fP h.2⟩
  | .agg cs,h=>by simp only [D.clean] at h;simp only [D.aX,D.plain];exact fP h
  | .aA cs,h=>by simp only [D.clean] at h;simp only [D.aX,D.plain];exact fP h
theorem fP:∀ {l:List D},D.jh l=true→D.iy (D.gz l)=true
  | [],_=>by simp [D.gz,D.iy]
  |d::r,h=>by
    simp only [D.jh,Bool.and_eq_true] at h
    simp only [D.gz,D.iy,Bool.and_eq_true]
    exact ⟨mG h.1,fP h.2⟩
end
theorem bk.flag {M:MM} {o:jW} {sz:Nat} {xs:List D} {a:Option Addr} {len cap:Nat} (h:bk M (.aj o sz xs) (.slice a len cap)) (o':jW) (ho:M.m5 o' a len cap):bk M (.aj o' sz xs) (.slice a len cap):=by
 cases h with
 |aj b off vs hl hcap ha hsz hc hr hst _=>exact .aj b off vs hl hcap ha hsz hc hr hst ho
theorem bk.resize {M:MM} {o:jW} {sz size:Nat} {xs:List D} {v:Value} (h:bk M (.aj o sz xs) v) (hs:sz=size∨xs= []):bk M (.aj o size xs) v:=by
 rcases hs with rfl|rfl
 ·exact h
 ·cases h with
  |aj b off vs hl hcap ha hsz hc hr hst ho=>exact .aj b off vs hl hcap ha (fun i x hx=>by simp at hx) (fun i x cs j c hx=>by simp at hx) (fun i x cs j c hx=>by simp at hx) hst ho
def bS (M:MM) (cs:List D) (vs:Array Value):Prop:=cs.length=vs.size∧∀(i:Nat) (d:D) (v:Value),cs[i]? =some d→vs[i]? =some v→bk M d v
theorem bS.mono {M M':MM} {cs:List D} {vs:Array Value} (h:bS M cs vs) (le:M.Le M'):bS M' cs vs:=⟨h.1,fun i d v a b=>(h.2 i d v a b).mono le⟩
theorem bk.cells {M:MM} {x:D} {v:Value} (h:bk M x v) {cs:List D} (hx:x.cells=some cs):bS M cs v.cells:=by
 have one:∀ {d:D} {u:Value},bk M d u→u.cells= #[u]→bS M [d] u.cells:=by
  intro d u r e
  rw [e]
  refine ⟨rfl,fun i d' v' a b=> ?_⟩
  cases i with
  |zero=>simp at a b;subst a b;exact r
  |succ i=>simp at a
 cases h with
 |undef v=>cases hx
 |int k n=>cases hx;exact one (.int _ _) rfl
 |bool b=>cases hx;exact one (.bool _) rfl
 |str t=>cases hx;exact one (.str _) rfl
 |gD=>cases hx;exact one .gD rfl
 |ptr q hb=>cases hx;exact one (.ptr q hb) rfl
 |dN q vs hy hc hr=>cases hx;exact one (.dN q vs hy hc hr) rfl
 |dM h=>cases hx;exact one (.dM h) rfl
 |iq h=>cases hx;exact one (.iq h) rfl
 |dn h hh hc=>cases hx;exact one (.dn h hh hc) rfl
 |sub h hc hp ho=>cases hx;exact one (.sub h hc hp ho) rfl
 |aj b off vs hl hcap ha hsz hc hr hst ho=>cases hx;exact one (.aj b off vs hl hcap ha hsz hc hr hst ho) rfl
 |aq=>cases hx;exact one .aq rfl
 |fn h1 h2 r1 r2=>cases hx;exact one (.fn h1 h2 r1 r2) rfl
 |agg hl hr=>cases hx;exact ⟨hl,hr⟩
 |aA hl hr=>cases hx
inductive LK where
  |bool
  |int (k:IntKind)
  |str
def LK.kz:LK→Value→Prop
  | .bool,.bool _=>True
  | .int k,.int k' _=>k=k'
  | .str,.string _=>True
  |_,_=>False
def cr:List LK→List Value→Prop
  | [],[]=>True
  |k::ks,d::ds=>k.kz d∧cr ks ds
  |_,_=>False
inductive Lk where
  |ready
  |busy
  |ret
  |exit (i:Nat)
def Lk.state:Lk→LoopState
  | .ready=> .ready
  | .busy=> .busy
  |_=> .done
def Lk.D1:Lk→Option Code
  | .ret=>some .ret
  | .exit i=>some (.exit i)
  |_=>none
inductive Ob where
  |dead
  |box (cs:List D)
  |bX (ver sz:Nat)
  |mp (k:IntKind) (es:List (Int×D))
  |mf (ks:List LK) (es:List (List D×D))
  |lp (k:Lk) (t:List D) (ps:Array Nat) (ag bd:Code)
def gp:D→Option Value
  | .int k n=>some (.int k n)
  | .bool b=>some (.bool b)
  | .str s=>some (.string s)
  |_=>none
def lM (k:IntKind):List (Int×D)→List MapEntry→Prop
  | [],[]=>True
  |(n,d)::r,e::s=>e.key= .int k n∧gp d=some e.val∧lM k r s
  |_,_=>False
def hU:List D→Option (List Value)
  | []=>some []
  |d::r=>match gp d,hU r with
    |some v,some l=>some (v::l)
    |_,_=>none
def kA (ks:List LK):List (List D×D)→List MapEntry→Prop
  | [],[]=>True
  |(n,d)::r,e::s=>(∃vs:Array Value,e.key= .agg vs∧hU n=some vs.toList∧cr ks vs.toList)∧gp d=some e.val∧kA ks r s
  |_,_=>False
def jk (l:List MapEntry) (c:Nat):Prop:=c=l.length∧∀(i:Nat) (e:MapEntry),l[i]? =some e→e.born=i
def Ob.Em:Ob→Option (List MapEntry→Nat→Prop)
  | .mp k es=>some fun l c=>lM k es l∧jk l c
  | .mf ks es=>some fun l c=>kA ks es l∧jk l c
  |_=>none
def dJ (σ:Nat→Ob) (id:Nat) (o:Ob):Nat→Ob:=fun i=>if i=id then o else σ i
theorem aO (σ:Nat→Ob) (id:Nat) (o:Ob):dJ σ id o id=o:=by simp [dJ]
theorem aQ {σ:Nat→Ob} {id i:Nat} {o:Ob} (h:i≠id):dJ σ id o i=σ i:=by simp [dJ,h]
def kf (fz:Nat×Nat) (n:Nat):Prop:= ∀o,o<n→¬(fz.1≤o∧o<fz.2)
structure di where
  w:World
  C:Nat→Nat→Option Value
  X:Nat→Prop
structure Kept (X:Nat→Prop) (w w':World):Prop where
  os:w'.os=w.os
  tape:w'.tape=w.tape
  output:w'.output=w.output
  size:w.heap.size≤w'.heap.size
  block:∀k,X k→w'.heap[k]? =w.heap[k]?
  lt:∀k,X k→k<w.heap.size
theorem Kept.Ht {X:Nat→Prop} {w w':World} (h:Kept X w w') {k:Nat} (hk:X k):k<w'.heap.size:=Nat.lt_of_lt_of_le (h.lt k hk) h.size
theorem Kept.new {X:Nat→Prop} {w w':World} (h:Kept X w w'):¬X w'.heap.size:=fun k=>Nat.lt_irrefl _ (h.Ht k)
theorem Kept.ext {X:Nat→Prop} {a w w':World} (h:Kept X a w) (k:Below w.heap.size w w'):Kept X a w':=
 ⟨k.os.trans h.os,k.tape.trans h.tape,k.output.trans h.output,Nat.le_trans h.size k.size,fun i hi=>(k.block i (h.Ht hi)).trans (h.block i hi),h.lt⟩
theorem Kept.drew {X:Nat→Prop} {a w:World} (h:Kept X a w):Kept X a w.drew:=⟨h.os,h.tape,h.output,h.size,h.block,h.lt⟩
theorem Kept.alloc {X:Nat→Prop} {a w:World} (h:Kept X a w) (o:Obj):Kept X a (w.alloc o):=h.ext ((Below.refl _ _).alloc (Nat.le_refl _) o)
theorem Kept.of (w:World):Kept (fun k=>k<w.heap.size) w w:=⟨rfl,rfl,rfl,Nat.le_refl _,fun _ _=>rfl,fun _ h=>h⟩
theorem Kept.below {w w':World} (h:Kept (fun k=>k<w.heap.size) w w'):Below w.heap.size w w':=⟨h.os,h.tape,h.output,h.size,h.block⟩
structure nV (w0:di) (M:MM) (own:Nat→Option Nat) (id:Nat) (cs:List D) (w:World) (b:Nat) (vs:Array Value) (ty:TypeId):Prop where
  box:M.box id=some b
  base:¬w0.X b
  own:own b=some id
  none:∀o,M.cell b o=none
  cy:w.heap[b]? =some (.cells vs ty (0,0))
  len:cs.length≤vs.size
  rep:∀(i:Nat) (d:D) (v:Value),cs[i]? =some d→vs[i]? =some v→bk M d v
  room:∀sz a len cap,M.bG id sz=some (.slice a len cap)→cap*sz≤vs.size
structure Fw (w0:di) (M:MM) (own:Nat→Option Nat) (id:Nat) (F:List MapEntry→Nat→Prop) (w:World) (b:Nat) (ents:Array MapEntry) (clock:Nat):Prop where
  box:M.box id=some b
  base:¬w0.X b
  own:own b=some id
  none:∀o,M.cell b o=none
  cy:w.heap[b]? =some (.map ents clock)
  fits:F ents.toList clock
structure DC (w0:di) (M:MM) (own:Nat→Option Nat) (id:Nat) (k:Lk) (t:List D) (ps:Array Nat) (ag bd:Code) (w:World) (l:Nat) (r:Loop):Prop where
  box:M.box id=some l
  base:¬w0.X l
  own:own l=some id
  cy:w.heap[l]? =some (.loop r)
  st:r.state=k.state
  pd:k≠ .busy→r.pending=k.D1
  tm:bS M t r.tmps
  ps:r.params=ps
  ag:r.assign=ag
  bd:r.body=bd
structure ql (w0:di) (M:MM) (own:Nat→Option Nat) (id sz:Nat) (w:World) (len cap b:Nat) (vs:Array Value) (ty:TypeId) (fz:Nat×Nat):Prop where
  base:¬w0.X b
  own:own b=some id
  cy:w.heap[b]? =some (.cells vs ty fz)
  fz:kf fz vs.size
  cap:cap*sz≤vs.size
  none:∀o,len*sz≤o→M.cell b o=none
structure Hn (w0:di) (M:MM) (own:Nat→Option Nat) (id ver sz:Nat) (w:World) (a:Option Addr) (len cap:Nat):Prop where
  bG:M.bG id ver=some (.slice a len cap)
  last:∀v,ver<v→M.bG id v=none
  room:cap=len∨∃b vs ty fz,a=some ⟨b,0,none⟩∧ql w0 M own id sz w len cap b vs ty fz
structure bj (w0:di) (M:MM) (own:Nat→Option Nat) (σ:Nat→Ob) (w:World):Prop where
  below:Kept w0.X w0.w w
  cells:∀b o v,M.cell b o=some v→w.cell? ⟨b,o,none⟩=some v
  iz:∀b o v,M.cell b o=some v→w0.X b→w0.C b o=some v
  owned:∀b id,own b=some id→b<w.heap.size
  box:∀id cs,σ id= .box cs→∃b vs ty,nV w0 M own id cs w b vs ty
  bX:∀id ver sz,σ id= .bX ver sz→∃a len cap,Hn w0 M own id ver sz w a len cap
  mp:∀id F,(σ id).Em=some F→∃b ents clock,Fw w0 M own id F w b ents clock
  lp:∀id k t ps ag bd,σ id= .lp k t ps ag bd→∃l r,DC w0 M own id k t ps ag bd w l r
  eL:∀b,M.eL b→¬w0.X b∧w.heap[b]? =some (.deferred (some []))
theorem DC.aB {w0:di} {M M':MM} {own own':Nat→Option Nat} {id:Nat} {k:Lk} {t:List D} {ps:Array Nat} {ag bd:Code} {w w':World} {l:Nat} {r:Loop} (h:DC w0 M own id k t ps ag bd w l r) (le:M.Le M') (ho:own' l=some id) (hb:w'.heap[l]? =some (.loop r)):DC w0 M' own' id k t ps ag bd w' l r:=
 ⟨le.box _ _ h.box,h.base,ho,hb,h.st,h.pd,h.tm.mono le,h.ps,h.ag,h.bd⟩
structure Ext (M:MM) (w:World) (M':MM) (w':World):Prop where
  below:Below w.heap.size w w'
  cell:∀b o v,M.cell b o=some v→M'.cell b o=some v
  only:∀b o v,M'.cell b o=some v→b<w.heap.size→M.cell b o=some v
  cells:∀b o v,M'.cell b o=some v→w'.cell? ⟨b,o,none⟩=some v
theorem iE {w w':World} (h:Below w.heap.size w w') {b:Nat} {o:Obj} (hb:w.heap[b]? =some o):w'.heap[b]? =some o:=by
 rw [h.block b ?_,hb]
 rcases Nat.lt_or_ge b w.heap.size with h|h
 ·exact h
 ·simp [Array.getElem?_eq_none h] at hb
theorem dI {w:World} {b:Nat} {o:Obj} (hb:w.heap[b]? =some o):b<w.heap.size:=by
 rcases Nat.lt_or_ge b w.heap.size with h|h
 ·exact h
 ·simp [Array.getElem?_eq_none h] at hb
theorem jL {C C':Nat→Nat→Option Value} {n b o:Nat} (only:∀b o v,C' b o=some v→b<n→C b o=some v) (hb:b<n) (h:C b o=none):C' b o=none:=by
 cases e:C' b o with
 |none=>rfl
 |some v=>rw [only b o v e hb] at h;cases h
theorem bj.ext {w0:di} {w w':World} {M M':MM} {own:Nat→Option Nat} {σ:Nat→Ob} (h:bj w0 M own σ w) (e:Ext M w M' w')
  (hbox:M'.box=M.box) (hhist:M'.bG=M.bG) (hmk:M'.eL=M.eL):bj w0 M' own σ w'∧M.Le M':=by
 have le:M.Le M':=⟨e.cell,fun id b h=>by rw [hbox];exact h,fun t v x h=>by rw [hhist];exact h,fun b h=>by rw [hmk];exact h⟩
 refine ⟨⟨?_,e.cells,?_,?_,?_,?_,?_,?_,?_⟩,le⟩
 ·exact h.below.ext e.below
 ·exact fun b o v k hb=>h.iz b o v (e.only b o v k (h.below.Ht hb)) hb
 ·exact fun b id k=>Nat.lt_of_lt_of_le (h.owned b id k) e.below.size
 ·intro id cs hs
  obtain ⟨b,vs,ty,k⟩:=h.box id cs hs
  exact ⟨b,vs,ty,by rw [hbox];exact k.box,k.base,k.own,fun o=>jL e.only (dI k.cy) (k.none o),iE e.below k.cy,k.len,fun i d v a b=>(k.rep i d v a b).mono le,fun sz a len cap q=>k.room sz a len cap (hhist▸q)⟩
 ·intro id ver sz hs
  obtain ⟨a,len,cap,k⟩:=h.bX id ver sz hs
  refine ⟨a,len,cap,by rw [hhist];exact k.bG,by rw [hhist];exact k.last,?_⟩
  rcases k.room with r|⟨b,vs,ty,fz,ha,r⟩
  ·exact .inl r
  ·exact .inr ⟨b,vs,ty,fz,ha,r.base,r.own,iE e.below r.cy,r.fz,r.cap,fun o ho=>jL e.only (dI r.cy) (r.none o ho)⟩
 ·intro id F hs
  obtain ⟨b,ents,clock,q⟩:=h.mp id F hs
  exact ⟨b,ents,clock,by rw [hbox];exact q.box,q.base,q.own,fun o=>jL e.only (dI q.cy) (q.none o),iE e.below q.cy,q.fits⟩
 ·intro id k t ps ag bd hs
  obtain ⟨l,r,q⟩:=h.lp id k t ps ag bd hs
  exact ⟨l,r,q.aB le q.own (iE e.below q.cy)⟩
 ·intro b hb
  rw [hmk] at hb
  exact ⟨(h.eL b hb).1,iE e.below (h.eL b hb).2⟩
theorem bj.drew {w0:di} {w:World} {M:MM} {own:Nat→Option Nat} {σ:Nat→Ob} (h:bj w0 M own σ w):bj w0 M own σ w.drew:=
 ⟨h.below.drew,h.cells,h.iz,h.owned,fun id cs e=>let ⟨b,vs,ty,k⟩:=h.box id cs e;⟨b,vs,ty,k.box,k.base,k.own,k.none,k.cy,k.len,k.rep,k.room⟩,
  fun id ver sz e=>let ⟨a,len,cap,k⟩:=h.bX id ver sz e;⟨a,len,cap,k.bG,k.last,k.room.imp (fun x=>x) fun ⟨b,vs,ty,fz,ha,r⟩=>⟨b,vs,ty,fz,ha,r.base,r.own,r.cy,r.fz,r.cap,r.none⟩⟩,
  fun id F e=>let ⟨b,ents,clock,q⟩:=h.mp id F e;⟨b,ents,clock,q.box,q.base,q.own,q.none,q.cy,q.fits⟩,
  fun id k t ps ag bd e=>let ⟨l,r,q⟩:=h.lp id k t ps ag bd e;⟨l,r,q.aB (.refl _) q.own q.cy⟩,fun b hb=>⟨(h.eL b hb).1,(h.eL b hb).2⟩⟩
theorem bj.kill {w0:di} {w:World} {M:MM} {own:Nat→Option Nat} {σ:Nat→Ob} (h:bj w0 M own σ w) (id:Nat):bj w0 M own (dJ σ id .dead) w:=by
 refine ⟨h.below,h.cells,h.iz,h.owned,?_,?_,?_,?_,h.eL⟩
 ·intro i cs hi
  by_cases e:i=id
  ·rw [e,aO] at hi;cases hi
  ·rw [aQ e] at hi;exact h.box i cs hi
 ·intro i v sz hi
  by_cases e:i=id
  ·rw [e,aO] at hi;cases hi
  ·rw [aQ e] at hi;exact h.bX i v sz hi
 ·intro i F hi
  by_cases e:i=id
  ·rw [e,aO] at hi;cases hi
  ·rw [aQ e] at hi;exact h.mp i F hi
 ·intro i k t ps ag bd hi
  by_cases e:i=id
  ·rw [e,aO] at hi;cases hi
  ·rw [aQ e] at hi;exact h.lp i k t ps ag bd hi
def MM.aW (M:MM) (id b:Nat):MM:= { M with box:=fun i=>if i=id then some b else M.box i }
def MM.aR (M:MM) (id ver:Nat) (v:Value):MM:= { M with bG:=fun i k=>if i=id∧k=ver then some v else M.bG i k }
def MM.bw (M:MM) (b:Nat) (f:Nat→Option Value):MM:= { M with cell:=fun c o=>if c=b then f o else M.cell c o }
def eC (own:Nat→Option Nat) (b id:Nat):Nat→Option Nat:=fun c=>if c=b then some id else own c
theorem MM.dc {M:MM} {id b:Nat} (h:M.box id=none):M.Le (M.aW id b):=
 ⟨fun _ _ _ h=>h,fun i c k=>by by_cases e:i=id;(· rw [e,h] at k;cases k);(· simp [aW,e,k]),fun _ _ _ h=>h,fun _ h=>h⟩
theorem MM.cL {M:MM} {id ver:Nat} {v:Value} (h:M.bG id ver=none):M.Le (M.aR id ver v):=
 ⟨fun _ _ _ h=>h,fun _ _ h=>h,fun i k x e=>by
  by_cases c:i=id∧k=ver
  ·rw [c.1,c.2,h] at e;cases e
  ·simp only [aR,c,if_false];exact e,fun _ h=>h⟩
theorem dg {w:World} {M:MM} (hc:∀b o v,M.cell b o=some v→w.cell? ⟨b,o,none⟩=some v) {b:Nat} (hb:w.heap.size≤b) (o:Nat):M.cell b o=none:=by
 cases e:M.cell b o with
 |none=>rfl
 |some v=>
  have:=World.block_lt_of_cell? w _ (hc b o v e)
  have:b<w.heap.size:=this
  omega
theorem bj.pt {w0:di} {w:World} {M:MM} {own:Nat→Option Nat} {σ:Nat→Ob} (h:bj w0 M own σ w) {id:Nat} (hid:M.box id=none) (hh:∀v,M.bG id v=none) {cs:List D} {vs:Array Value} (ty:TypeId)
  (hl:cs.length≤vs.size) (hr:∀(i:Nat) (d:D) (v:Value),cs[i]? =some d→vs[i]? =some v→bk M d v):
  bj w0 (M.aW id w.heap.size) (eC own w.heap.size id) (dJ σ id (.box cs)) (w.alloc (.cells vs ty)):=by
 have le:=MM.dc (b:=w.heap.size) hid
 have hnew:∀o,M.cell w.heap.size o=none:=dg h.cells (Nat.le_refl _)
 have hold:∀ {b:Nat} {o:Obj},w.heap[b]? =some o→(w.alloc (.cells vs ty)).heap[b]? =some o:=fun {b o} hb=>by
  rw [Below.heap_alloc _ _ _ (dI hb),hb]
 have hown:∀ {b i:Nat},own b=some i→eC own w.heap.size id b=some i:=fun {b i} k=>by
  have:=h.owned b i k
  simp [eC,show b≠w.heap.size by omega,k]
 refine ⟨h.below.alloc _,?_,h.iz,?_,?_,?_,?_,?_,?_⟩
 ·intro b o v k
  have k':M.cell b o=some v:=k
  rw [World.cell?_alloc_lt]
  ·exact h.cells b o v k'
  ·exact World.block_lt_of_cell? w _ (h.cells b o v k')
 ·intro b i k
  rw [World.size_alloc]
  by_cases e:b=w.heap.size
  ·omega
  ·simp only [eC,e,if_false] at k
   have:=h.owned b i k
   omega
 ·intro i cs' hi
  by_cases e:i=id
  ·subst e
   rw [aO] at hi
   cases hi
   refine ⟨w.heap.size,vs,ty,by simp [MM.aW],h.below.new,by simp [eC],hnew,?_,hl,fun j d v a b=>(hr j d v a b).mono le,fun sz a len cap q=>by have q':M.bG i sz=_:=q;rw [hh] at q';cases q'⟩
   show (w.heap.push _)[w.heap.size]? =_
   simp
  ·rw [aQ e] at hi
   obtain ⟨b,vs',ty',k⟩:=h.box i cs' hi
   exact ⟨b,vs',ty',le.box _ _ k.box,k.base,hown k.own,k.none,hold k.cy,k.len,fun j d v a b=>(k.rep j d v a b).mono le,k.room⟩
 ·intro i ver sz hi
  by_cases e:i=id
  ·rw [e,aO] at hi;cases hi
  ·rw [aQ e] at hi
   obtain ⟨a,len,cap,k⟩:=h.bX i ver sz hi
   refine ⟨a,len,cap,k.bG,k.last,?_⟩
   rcases k.room with r|⟨b,vs',ty',fz,ha,r⟩
   ·exact .inl r
   ·exact .inr ⟨b,vs',ty',fz,ha,r.base,hown r.own,hold r.cy,r.fz,r.cap,r.none⟩
 ·intro i F hi
  by_cases e:i=id
  ·rw [e,aO] at hi;cases hi
  ·rw [aQ e] at hi
   obtain ⟨b,ents,clock,q⟩:=h.mp i F hi
   exact ⟨b,ents,clock,le.box _ _ q.box,q.base,hown q.own,q.none,hold q.cy,q.fits⟩
 ·intro i k t ps ag bd hi
  by_cases e:i=id
  ·rw [e,aO] at hi;cases hi
  ·rw [aQ e] at hi
   obtain ⟨l,r,q⟩:=h.lp i k t ps ag bd hi
   exact ⟨l,r,q.aB le (hown q.own) (hold q.cy)⟩
 ·intro b hb
  exact ⟨(h.eL b hb).1,hold (h.eL b hb).2⟩
theorem bj.CO {w0:di} {w:World} {M:MM} {own:Nat→Option Nat} {σ:Nat→Ob} (h:bj w0 M own σ w) {id:Nat} (hid:M.box id=none) {o:Ob} {F0:List MapEntry→Nat→Prop} (ho:o.Em=some F0) (hF:F0 [] 0):
  bj w0 (M.aW id w.heap.size) (eC own w.heap.size id) (dJ σ id o) (w.alloc (.map #[] 0)):=by
 have le:=MM.dc (b:=w.heap.size) hid
 have hnew:∀o,M.cell w.heap.size o=none:=dg h.cells (Nat.le_refl _)
 have hold:∀ {b:Nat} {o:Obj},w.heap[b]? =some o→(w.alloc (.map #[] 0)).heap[b]? =some o:=fun {b o} hb=>by
  rw [Below.heap_alloc _ _ _ (dI hb),hb]
 have hown:∀ {b i:Nat},own b=some i→eC own w.heap.size id b=some i:=fun {b i} k=>by
  have:=h.owned b i k
  simp [eC,show b≠w.heap.size by omega,k]
 refine ⟨h.below.alloc _,?_,h.iz,?_,?_,?_,?_,?_,?_⟩
 ·intro b o v k
  have k':M.cell b o=some v:=k
  rw [World.cell?_alloc_lt]
  ·exact h.cells b o v k'
  ·exact World.block_lt_of_cell? w _ (h.cells b o v k')
 ·intro b i k
  rw [World.size_alloc]
  by_cases e:b=w.heap.size
  ·omega
  ·simp only [eC,e,if_false] at k
   have:=h.owned b i k
   omega
 ·intro i cs' hi
  by_cases e:i=id
  ·rw [e,aO] at hi;rw [hi] at ho;cases ho
  ·rw [aQ e] at hi
   obtain ⟨b,vs',ty',k⟩:=h.box i cs' hi
   exact ⟨b,vs',ty',le.box _ _ k.box,k.base,hown k.own,k.none,hold k.cy,k.len,fun j d v a b=>(k.rep j d v a b).mono le,k.room⟩
 ·intro i ver sz hi
  by_cases e:i=id
  ·rw [e,aO] at hi;rw [hi] at ho;cases ho
  ·rw [aQ e] at hi
   obtain ⟨a,len,cap,k⟩:=h.bX i ver sz hi
   refine ⟨a,len,cap,k.bG,k.last,?_⟩
   rcases k.room with r|⟨b,vs',ty',fz,ha,r⟩
   ·exact .inl r
   ·exact .inr ⟨b,vs',ty',fz,ha,r.base,hown r.own,hold r.cy,r.fz,r.cap,r.none⟩
 ·intro i F hi
  by_cases e:i=id
  ·subst e
   rw [aO,ho] at hi
   cases hi
   refine ⟨w.heap.size,#[],0,by simp [MM.aW],h.below.new,by simp [eC],hnew,?_,hF⟩
   show (w.heap.push _)[w.heap.size]? =_
   simp
  ·rw [aQ e] at hi
   obtain ⟨b,ents,clock,q⟩:=h.mp i F hi
   exact ⟨b,ents,clock,le.box _ _ q.box,q.base,hown q.own,q.none,hold q.cy,q.fits⟩
 ·intro i k' t ps ag bd hi
  by_cases e:i=id
  ·rw [e,aO] at hi;rw [hi] at ho;cases ho
  ·rw [aQ e] at hi
   obtain ⟨l,r,q⟩:=h.lp i k' t ps ag bd hi
   exact ⟨l,r,q.aB le (hown q.own) (hold q.cy)⟩
 ·intro b hb
  exact ⟨(h.eL b hb).1,hold (h.eL b hb).2⟩
def aZ (w:World) (b:Nat) (o:Obj):World:= { w with heap:=w.heap.setIfInBounds b o }
theorem dy {w:World} {b:Nat} {o p:Obj} (h:w.heap[b]? =some p):(aZ w b o).heap[b]? =some o:=by
 have:=dI h
 simp [aZ,this]
theorem aL {w:World} {b c:Nat} {o:Obj} (h:c≠b):(aZ w b o).heap[c]? =w.heap[c]? :=by
 simp [aZ,Array.getElem?_setIfInBounds_ne (Ne.symm h)]
theorem ez (w:World) (b:Nat) (o:Obj):(aZ w b o).heap.size=w.heap.size:=by simp [aZ]
theorem cX {w:World} {b c o:Nat} {p:Obj} (h:c≠b):(aZ w b p).cell? ⟨c,o,none⟩=w.cell? ⟨c,o,none⟩:=by
 simp [World.cell?,aL h]
theorem eK {X:Nat→Prop} {w0 w:World} (h:Kept X w0 w) {b:Nat} (hb:¬X b) (o:Obj):Kept X w0 (aZ w b o):=
 ⟨h.os,h.tape,h.output,by rw [ez];exact h.size,fun k hk=>by rw [aL (show k≠b from fun e=>hb (e▸hk))];exact h.block k hk,h.lt⟩
theorem bj.BU {w0:di} {w:World} {M:MM} {own:Nat→Option Nat} {σ:Nat→Ob} (h:bj w0 M own σ w) {id b:Nat} {cs cs':List D} {vs vs':Array Value} {ty:TypeId}
  (k:nV w0 M own id cs w b vs ty) (hl:cs'.length≤vs'.size) (hs:vs'.size=vs.size)
  (hr:∀(i:Nat) (d:D) (v:Value),cs'[i]? =some d→vs'[i]? =some v→bk M d v):
  bj w0 M own (dJ σ id (.box cs')) (aZ w b (.cells vs' ty (0,0))):=by
 refine ⟨eK h.below k.base _,?_,h.iz,?_,?_,?_,?_,?_,?_⟩
 ·intro c o v hc
  have:c≠b:=fun e=>by rw [e,k.none o] at hc;cases hc
  rw [cX this]
  exact h.cells c o v hc
 ·intro c i hc;rw [ez];exact h.owned c i hc
 ·intro i cs2 hi
  by_cases e:i=id
  ·subst e
   rw [aO] at hi
   cases hi
   exact ⟨b,vs',ty,k.box,k.base,k.own,k.none,dy k.cy,hl,hr,fun sz a len cap q=>by rw [hs];exact k.room sz a len cap q⟩
  ·rw [aQ e] at hi
   obtain ⟨c,vs2,ty2,k2⟩:=h.box i cs2 hi
   have:c≠b:=fun ec=>by have h1:=k2.own;rw [ec,k.own] at h1;exact e (Option.some.inj h1).symm
   exact ⟨c,vs2,ty2,k2.box,k2.base,k2.own,k2.none,by rw [aL this];exact k2.cy,k2.len,k2.rep,k2.room⟩
 ·intro i ver sz hi
  by_cases e:i=id
  ·rw [e,aO] at hi;cases hi
  ·rw [aQ e] at hi
   obtain ⟨a,len,cap,k2⟩:=h.bX i ver sz hi
   refine ⟨a,len,cap,k2.bG,k2.last,?_⟩
   rcases k2.room with r|⟨c,vs2,ty2,fz,ha,r⟩
   ·exact .inl r
   ·have:c≠b:=fun ec=>by have h1:=r.own;rw [ec,k.own] at h1;exact e (Option.some.inj h1).symm
    exact .inr ⟨c,vs2,ty2,fz,ha,r.base,r.own,by rw [aL this];exact r.cy,r.fz,r.cap,r.none⟩
 ·intro i F hi
  by_cases e:i=id
  ·rw [e,aO] at hi;cases hi
  ·rw [aQ e] at hi
   obtain ⟨c,ents,clock,q⟩:=h.mp i F hi
   have:c≠b:=fun ec=>by have h1:=q.own;rw [ec,k.own] at h1;exact e (Option.some.inj h1).symm
   exact ⟨c,ents,clock,q.box,q.base,q.own,q.none,by rw [aL this];exact q.cy,q.fits⟩
 ·intro i k2 t ps ag bd hi
  by_cases e:i=id
  ·rw [e,aO] at hi;cases hi
  ·rw [aQ e] at hi
   obtain ⟨l,r,q⟩:=h.lp i k2 t ps ag bd hi
   have:l≠b:=fun ec=>by have h1:=q.own;rw [ec,k.own] at h1;exact e (Option.some.inj h1).symm
   exact ⟨l,r,q.aB (.refl _) q.own (by rw [aL this];exact q.cy)⟩
 ·intro c hc
  have:c≠b:=fun ec=>by have h1:=(h.eL c hc).2;rw [ec,k.cy] at h1;cases h1
  exact ⟨(h.eL c hc).1,by rw [aL this];exact (h.eL c hc).2⟩
theorem bj.jf {w0:di} {w:World} {M:MM} {own:Nat→Option Nat} {σ:Nat→Ob} (h:bj w0 M own σ w) {id b:Nat} {F0 F1:List MapEntry→Nat→Prop} {ents ents':Array MapEntry} {clock:Nat}
  (k:Fw w0 M own id F0 w b ents clock) (clock':Nat) {o':Ob} (ho:o'.Em=some F1) (hf:F1 ents'.toList clock'):
  bj w0 M own (dJ σ id o') (aZ w b (.map ents' clock')):=by
 refine ⟨eK h.below k.base _,?_,h.iz,?_,?_,?_,?_,?_,?_⟩
 ·intro c o v hc
  have:c≠b:=fun e=>by rw [e,k.none o] at hc;cases hc
  rw [cX this]
  exact h.cells c o v hc
 ·intro c i hc;rw [ez];exact h.owned c i hc
 ·intro i cs2 hi
  by_cases e:i=id
  ·rw [e,aO] at hi;rw [hi] at ho;cases ho
  ·rw [aQ e] at hi
   obtain ⟨c,vs2,ty2,k2⟩:=h.box i cs2 hi
   have:c≠b:=fun ec=>by have h1:=k2.own;rw [ec,k.own] at h1;exact e (Option.some.inj h1).symm
   exact ⟨c,vs2,ty2,k2.box,k2.base,k2.own,k2.none,by rw [aL this];exact k2.cy,k2.len,k2.rep,k2.room⟩
 ·intro i ver sz hi
  by_cases e:i=id
  ·rw [e,aO] at hi;rw [hi] at ho;cases ho
  ·rw [aQ e] at hi
   obtain ⟨a,len,cap,k2⟩:=h.bX i ver sz hi
   refine ⟨a,len,cap,k2.bG,k2.last,?_⟩
   rcases k2.room with r|⟨c,vs2,ty2,fz,ha,r⟩
   ·exact .inl r
   ·have:c≠b:=fun ec=>by have h1:=r.own;rw [ec,k.own] at h1;exact e (Option.some.inj h1).symm
    exact .inr ⟨c,vs2,ty2,fz,ha,r.base,r.own,by rw [aL this];exact r.cy,r.fz,r.cap,r.none⟩
 ·intro i F hi
  by_cases e:i=id
  ·subst e
   rw [aO,ho] at hi
   cases hi
   exact ⟨b,ents',clock',k.box,k.base,k.own,k.none,dy k.cy,hf⟩
  ·rw [aQ e] at hi
   obtain ⟨c,ents2,clock2,q⟩:=h.mp i F hi
   have:c≠b:=fun ec=>by have h1:=q.own;rw [ec,k.own] at h1;exact e (Option.some.inj h1).symm
   exact ⟨c,ents2,clock2,q.box,q.base,q.own,q.none,by rw [aL this];exact q.cy,q.fits⟩
 ·intro i k2 t ps ag bd hi
  by_cases e:i=id
  ·rw [e,aO] at hi;rw [hi] at ho;cases ho
  ·rw [aQ e] at hi
   obtain ⟨l,r,q⟩:=h.lp i k2 t ps ag bd hi
   have:l≠b:=fun ec=>by have h1:=q.own;rw [ec,k.own] at h1;exact e (Option.some.inj h1).symm
   exact ⟨l,r,q.aB (.refl _) q.own (by rw [aL this];exact q.cy)⟩
 ·intro c hc
  have:c≠b:=fun ec=>by have h1:=(h.eL c hc).2;rw [ec,k.cy] at h1;cases h1
  exact ⟨(h.eL c hc).1,by rw [aL this];exact (h.eL c hc).2⟩
theorem bj.o6 {w0:di} {w:World} {M:MM} {own:Nat→Option Nat} {σ:Nat→Ob} (h:bj w0 M own σ w) {id ver:Nat} (hid:∀v,ver≤v→M.bG id v=none) {a:Option Addr} {len cap:Nat} (sz:Nat)
  (hroom:cap=len∨∃b vs ty fz,a=some ⟨b,0,none⟩∧¬w0.X b∧(own b=none∨own b=some id)∧w.heap[b]? =some (.cells vs ty fz)∧kf fz vs.size∧cap*sz≤vs.size∧∀o,len*sz≤o→M.cell b o=none):
  ∃own',bj w0 (M.aR id ver (.slice a len cap)) own' (dJ σ id (.bX ver sz)) w:=by
 have le:=MM.cL (ver:=ver) (v:= .slice a len cap) (hid ver (Nat.le_refl _))
 have mine:∀ {own':Nat→Option Nat},(∀b i,own b=some i→own' b=some i)→(∀b i,own' b=some i→b<w.heap.size)→
   (cap=len∨∃b vs ty fz,a=some ⟨b,0,none⟩∧ql w0 (M.aR id ver (.slice a len cap)) own' id sz w len cap b vs ty fz)→
   bj w0 (M.aR id ver (.slice a len cap)) own' (dJ σ id (.bX ver sz)) w:=by
  intro own' hkeep howned hr
  refine ⟨h.below,h.cells,h.iz,howned,?_,?_,?_,?_,h.eL⟩
  ·intro i cs hi
   by_cases e:i=id
   ·rw [e,aO] at hi;cases hi
   ·rw [aQ e] at hi
    obtain ⟨b,vs,ty,k⟩:=h.box i cs hi
    exact ⟨b,vs,ty,k.box,k.base,hkeep _ _ k.own,k.none,k.cy,k.len,fun j d v a b=>(k.rep j d v a b).mono le,fun sz' a' len' cap' q=>k.room sz' a' len' cap' (by simpa [MM.aR,e] using q)⟩
  ·intro i ver' sz' hi
   by_cases e:i=id
   ·subst e
    rw [aO] at hi
    cases hi
    refine ⟨a,len,cap,by simp [MM.aR],?_,hr⟩
    intro v hv
    simp only [MM.aR,show ¬(v=ver) by omega,and_false,if_false]
    exact hid v (by omega)
   ·rw [aQ e] at hi
    obtain ⟨a',len',cap',k⟩:=h.bX i ver' sz' hi
    refine ⟨a',len',cap',le.bG _ _ _ k.bG,?_,?_⟩
    ·intro v hv
     simp only [MM.aR,e,false_and,if_false]
     exact k.last v hv
    ·rcases k.room with r|⟨c,vs2,ty2,fz,ha,r⟩
     ·exact .inl r
     ·exact .inr ⟨c,vs2,ty2,fz,ha,r.base,hkeep _ _ r.own,r.cy,r.fz,r.cap,r.none⟩
  ·intro i F hi
   by_cases e:i=id
   ·rw [e,aO] at hi;cases hi
   ·rw [aQ e] at hi
    obtain ⟨b,ents,clock,q⟩:=h.mp i F hi
    exact ⟨b,ents,clock,q.box,q.base,hkeep _ _ q.own,q.none,q.cy,q.fits⟩
  ·intro i k t ps ag bd hi
   by_cases e:i=id
   ·rw [e,aO] at hi;cases hi
   ·rw [aQ e] at hi
    obtain ⟨l,r,q⟩:=h.lp i k t ps ag bd hi
    exact ⟨l,r,q.aB le (hkeep _ _ q.own) q.cy⟩
 rcases hroom with hc|⟨b,vs,ty,fz,ha,hbase,hfree,hblk,hfz,hcap,hnone⟩
 ·exact ⟨own,mine (fun _ _ x=>x) h.owned (.inl hc)⟩
 ·refine ⟨eC own b id,mine ?_ ?_ (.inr ⟨b,vs,ty,fz,ha,hbase,by simp [eC],hblk,hfz,hcap,hnone⟩)⟩
  ·intro c i hc
   by_cases e:c=b
   ·subst e
    rcases hfree with hfree|hfree
    ·rw [hfree] at hc;cases hc
    ·rw [hfree] at hc;simp [eC];exact Option.some.inj hc
   ·simp [eC,e,hc]
  ·intro c i hc
   by_cases e:c=b
   ·rw [e];exact dI hblk
   ·simp only [eC,e,if_false] at hc;exact h.owned c i hc
def MM.iM (M:MM) (b n1 n2:Nat) (vs:Array Value):MM:=M.bw b fun o=>if n1≤o∧o<n2 then vs[o]? else M.cell b o
theorem MM.yy {M:MM} {b n1 n2:Nat} {vs:Array Value} (h:∀o,n1≤o→M.cell b o=none):M.Le (M.iM b n1 n2 vs):=by
 refine ⟨fun c o v k=> ?_,fun _ _ k=>k,fun _ _ _ k=>k,fun _ k=>k⟩
 by_cases e:c=b
 ·subst e
  simp only [iM,bw,if_true]
  rw [if_neg]
  ·exact k
  ·intro hh;rw [h o hh.1] at k;cases k
 ·simp only [iM,bw,e,if_false];exact k
theorem bj.Dd {w0:di} {w:World} {M:MM} {own:Nat→Option Nat} {σ:Nat→Ob} (h:bj w0 M own σ w) {id sz len cap b:Nat} {ver sz':Nat} {vs vs':Array Value} {ty:TypeId} {fz:Nat×Nat} (_hs:σ id= .bX ver sz')
  (r:ql w0 M own id sz w len cap b vs ty fz) (n2:Nat) (_hsize:vs'.size=vs.size) (hsame:∀o,o<len*sz→vs'[o]? =vs[o]?):
  bj w0 (M.iM b (len*sz) n2 vs') own (dJ σ id .dead) (aZ w b (.cells vs' ty fz)):=by
 have le:M.Le (M.iM b (len*sz) n2 vs'):=MM.yy r.none
 refine ⟨eK h.below r.base _,?_,?_,?_,?_,?_,?_,?_,?_⟩
 ·intro c o v hc
  by_cases e:c=b
  ·subst e
   simp only [MM.iM,MM.bw,if_true] at hc
   simp only [World.cell?,dy r.cy]
   split at hc
   ·exact hc
   ·have h1:=h.cells c o v hc
    have h2:o<len*sz:=by
     rcases Nat.lt_or_ge o (len*sz) with q|q
     ·exact q
     ·rw [r.none o q] at hc;cases hc
    simp only [World.cell?,r.cy] at h1
    rw [← hsame o h2] at h1
    exact h1
  ·simp only [MM.iM,MM.bw,e,if_false] at hc
   rw [cX e]
   exact h.cells c o v hc
 ·intro c o v hc hlt
  have e:c≠b:=fun e=>r.base (e▸hlt)
  simp only [MM.iM,MM.bw,e,if_false] at hc
  exact h.iz c o v hc hlt
 ·intro c i hc;rw [ez];exact h.owned c i hc
 ·intro i cs2 hi
  by_cases e:i=id
  ·rw [e,aO] at hi;cases hi
  ·rw [aQ e] at hi
   obtain ⟨c,vs2,ty2,k2⟩:=h.box i cs2 hi
   have:c≠b:=fun ec=>by have h1:=k2.own;rw [ec,r.own] at h1;exact e (Option.some.inj h1).symm
   exact ⟨c,vs2,ty2,k2.box,k2.base,k2.own,fun o=>by simp only [MM.iM,MM.bw,this,if_false];exact k2.none o,by rw [aL this];exact k2.cy,k2.len,fun j d v a b=>(k2.rep j d v a b).mono le,k2.room⟩
 ·intro i ver2 sz2 hi
  by_cases e:i=id
  ·rw [e,aO] at hi;cases hi
  ·rw [aQ e] at hi
   obtain ⟨a,len2,cap2,k2⟩:=h.bX i ver2 sz2 hi
   refine ⟨a,len2,cap2,k2.bG,k2.last,?_⟩
   rcases k2.room with q|⟨c,vs2,ty2,fz2,ha,q⟩
   ·exact .inl q
   ·have:c≠b:=fun ec=>by have h1:=q.own;rw [ec,r.own] at h1;exact e (Option.some.inj h1).symm
    exact .inr ⟨c,vs2,ty2,fz2,ha,q.base,q.own,by rw [aL this];exact q.cy,q.fz,q.cap,fun o ho=>by simp only [MM.iM,MM.bw,this,if_false];exact q.none o ho⟩
 ·intro i F hi
  by_cases e:i=id
  ·rw [e,aO] at hi;cases hi
  ·rw [aQ e] at hi
   obtain ⟨c,ents,clock,q⟩:=h.mp i F hi
   have:c≠b:=fun ec=>by have h1:=q.own;rw [ec,r.own] at h1;exact e (Option.some.inj h1).symm
   exact ⟨c,ents,clock,q.box,q.base,q.own,fun o=>by simp only [MM.iM,MM.bw,this,if_false];exact q.none o,by rw [aL this];exact q.cy,q.fits⟩
 ·intro i k2 t ps ag bd hi
  by_cases e:i=id
  ·rw [e,aO] at hi;cases hi
  ·rw [aQ e] at hi
   obtain ⟨l,r',q⟩:=h.lp i k2 t ps ag bd hi
   have:l≠b:=fun ec=>by have h1:=q.own;rw [ec,r.own] at h1;exact e (Option.some.inj h1).symm
   exact ⟨l,r',q.aB le q.own (by rw [aL this];exact q.cy)⟩
 ·intro c hc
  have:c≠b:=fun ec=>by have h1:=(h.eL c hc).2;rw [ec,r.cy] at h1;cases h1
  exact ⟨(h.eL c hc).1,by rw [aL this];exact (h.eL c hc).2⟩
theorem bj.la {w0:di} {w:World} {M:MM} {own:Nat→Option Nat} {σ:Nat→Ob} (h:bj w0 M own σ w) {id b:Nat} {cs:List D} {vs:Array Value} {ty:TypeId} (hσ:σ id= .box cs)
  (k:nV w0 M own id cs w b vs ty) {sz len cap:Nat} (hn:M.bG id sz=none) (hc:cap*sz≤vs.size):bj w0 (M.aR id sz (.slice (some ⟨b,0,none⟩) len cap)) own σ w:=by
 have le:=MM.cL (v:= .slice (some ⟨b,0,none⟩) len cap) hn
 refine ⟨h.below,h.cells,h.iz,h.owned,?_,?_,?_,?_,h.eL⟩
 ·intro i cs' hi
  by_cases e:i=id
  ·subst e
   rw [hσ] at hi
   cases hi
   refine ⟨b,vs,ty,k.box,k.base,k.own,k.none,k.cy,k.len,fun j d v a b=>(k.rep j d v a b).mono le,fun sz' a len' cap' q=> ?_⟩
   by_cases es:sz'=sz
   ·subst es
    simp only [MM.aR,and_self,if_true,Option.some.injEq,Value.slice.injEq] at q
    rw [← q.2.2];exact hc
   ·simp only [MM.aR,es,and_false,if_false] at q
    exact k.room sz' a len' cap' q
  ·obtain ⟨b',vs',ty',k'⟩:=h.box i cs' hi
   exact ⟨b',vs',ty',k'.box,k'.base,k'.own,k'.none,k'.cy,k'.len,fun j d v a b=>(k'.rep j d v a b).mono le,fun sz' a len' cap' q=>k'.room sz' a len' cap' (by simpa [MM.aR,e] using q)⟩
 ·intro i ver sz' hi
  by_cases e:i=id
  ·subst e;rw [hσ] at hi;cases hi
  ·obtain ⟨a,len',cap',k'⟩:=h.bX i ver sz' hi
   refine ⟨a,len',cap',le.bG _ _ _ k'.bG,?_,?_⟩
   ·intro v hv
    simp only [MM.aR,e,false_and,if_false]
    exact k'.last v hv
   ·rcases k'.room with r|⟨c,vs2,ty2,fz,ha,r⟩
    ·exact .inl r
    ·exact .inr ⟨c,vs2,ty2,fz,ha,r.base,r.own,r.cy,r.fz,r.cap,r.none⟩
 ·intro i F hi
  obtain ⟨b',ents,clock,q⟩:=h.mp i F hi
  exact ⟨b',ents,clock,q.box,q.base,q.own,q.none,q.cy,q.fits⟩
 ·intro i kk t ps ag bd hi
  obtain ⟨l,r,q⟩:=h.lp i kk t ps ag bd hi
  exact ⟨l,r,q.aB le q.own q.cy⟩
theorem bj.yt {w0:di} {w:World} {M:MM} {own:Nat→Option Nat} {σ:Nat→Ob} (h:bj w0 M own σ w) {id id' b:Nat} {cs cs':List D} {vs vs':Array Value} {ty:TypeId}
  (k:nV w0 M own id cs w b vs ty) (hid:M.box id'=none) (hh:∀v,M.bG id' v=none) (hl:cs'.length≤vs'.size) (hr:∀(i:Nat) (d:D) (v:Value),cs'[i]? =some d→vs'[i]? =some v→bk M d v):
  bj w0 (M.aW id' b) (eC own b id') (dJ (dJ σ id .dead) id' (.box cs')) (aZ w b (.cells vs' ty (0,0))):=by
 have le:=MM.dc (b:=b) hid
 have hne:∀ {i c:Nat},own c=some i→i≠id→c≠b:=fun hi e ec=>by rw [ec,k.own] at hi;exact e (Option.some.inj hi).symm
 have hown:∀ {i c:Nat},own c=some i→i≠id→eC own b id' c=some i:=fun hi e=>by simp [eC,hne hi e,hi]
 refine ⟨eK h.below k.base _,?_,h.iz,?_,?_,?_,?_,?_,?_⟩
 ·intro c o v hc
  have hc':M.cell c o=some v:=hc
  have:c≠b:=fun e=>by rw [e,k.none o] at hc';cases hc'
  rw [cX this]
  exact h.cells c o v hc'
 ·intro c i hc
  rw [ez]
  by_cases e:c=b
  ·rw [e];exact dI k.cy
  ·simp only [eC,e,if_false] at hc;exact h.owned c i hc
 ·intro i cs2 hi
  by_cases e:i=id'
  ·subst e
   rw [aO] at hi
   cases hi
   exact ⟨b,vs',ty,by simp [MM.aW],k.base,by simp [eC],k.none,dy k.cy,hl,fun j d v a b=>(hr j d v a b).mono le,fun sz a len cap q=>by have q':M.bG i sz=_:=q;rw [hh] at q';cases q'⟩
  ·rw [aQ e] at hi
   by_cases e2:i=id
   ·rw [e2,aO] at hi;cases hi
   ·rw [aQ e2] at hi
    obtain ⟨c,vs2,ty2,k2⟩:=h.box i cs2 hi
    exact ⟨c,vs2,ty2,le.box _ _ k2.box,k2.base,hown k2.own e2,k2.none,by rw [aL (hne k2.own e2)];exact k2.cy,k2.len,fun j d v a b=>(k2.rep j d v a b).mono le,k2.room⟩
 ·intro i ver sz hi
  by_cases e:i=id'
  ·rw [e,aO] at hi;cases hi
  ·rw [aQ e] at hi
   by_cases e2:i=id
   ·rw [e2,aO] at hi;cases hi
   ·rw [aQ e2] at hi
    obtain ⟨a,len,cap,k2⟩:=h.bX i ver sz hi
    refine ⟨a,len,cap,k2.bG,k2.last,?_⟩
    rcases k2.room with r|⟨c,vs2,ty2,fz,ha,r⟩
    ·exact .inl r
    ·exact .inr ⟨c,vs2,ty2,fz,ha,r.base,hown r.own e2,by rw [aL (hne r.own e2)];exact r.cy,r.fz,r.cap,r.none⟩
 ·intro i F hi
  by_cases e:i=id'
  ·rw [e,aO] at hi;cases hi
  ·rw [aQ e] at hi
   by_cases e2:i=id
   ·rw [e2,aO] at hi;cases hi
   ·rw [aQ e2] at hi
    obtain ⟨c,ents,clock,q⟩:=h.mp i F hi
    exact ⟨c,ents,clock,le.box _ _ q.box,q.base,hown q.own e2,q.none,by rw [aL (hne q.own e2)];exact q.cy,q.fits⟩
 ·intro i k2 t ps ag bd hi
  by_cases e:i=id'
  ·rw [e,aO] at hi;cases hi
  ·rw [aQ e] at hi
   by_cases e2:i=id
   ·rw [e2,aO] at hi;cases hi
   ·rw [aQ e2] at hi
    obtain ⟨l,r,q⟩:=h.lp i k2 t ps ag bd hi
    exact ⟨l,r,q.aB le (hown q.own e2) (by rw [aL (hne q.own e2)];exact q.cy)⟩
 ·intro c hc
  have:c≠b:=fun ec=>by have h1:=(h.eL c hc).2;rw [ec,k.cy] at h1;cases h1
  exact ⟨(h.eL c hc).1,by rw [aL this];exact (h.eL c hc).2⟩
def MM.mU (M:MM) (b:Nat):MM:= { M with eL:=fun c=>M.eL c∨c=b }
theorem MM.qT (M:MM) (b:Nat):M.Le (M.mU b):=⟨fun _ _ _ h=>h,fun _ _ h=>h,fun _ _ _ h=>h,fun _ h=> .inl h⟩
theorem bj.G2 {w0:di} {w:World} {M:MM} {own:Nat→Option Nat} {σ:Nat→Ob} (h:bj w0 M own σ w):bj w0 (M.mU w.heap.size) own σ (w.alloc (.deferred (some []))):=by
 have le:=M.qT w.heap.size
 have hold:∀ {b:Nat} {o:Obj},w.heap[b]? =some o→(w.alloc (.deferred (some []))).heap[b]? =some o:=fun {b o} hb=>by
  rw [Below.heap_alloc _ _ _ (dI hb),hb]
 refine ⟨h.below.alloc _,?_,h.iz,?_,?_,?_,?_,?_,?_⟩
 ·intro b o v k
  rw [World.cell?_alloc_lt]
  ·exact h.cells b o v k
  ·exact World.block_lt_of_cell? w _ (h.cells b o v k)
 ·intro b i k
  rw [World.size_alloc]
  have:=h.owned b i k
  omega
 ·intro i cs hi
  obtain ⟨b,vs,ty,k⟩:=h.box i cs hi
  exact ⟨b,vs,ty,k.box,k.base,k.own,k.none,hold k.cy,k.len,fun j d v a b=>(k.rep j d v a b).mono le,k.room⟩
 ·intro i ver sz hi
  obtain ⟨a,len,cap,k⟩:=h.bX i ver sz hi
  refine ⟨a,len,cap,k.bG,k.last,?_⟩
  rcases k.room with r|⟨b,vs',ty',fz,ha,r⟩
  ·exact .inl r
  ·exact .inr ⟨b,vs',ty',fz,ha,r.base,r.own,hold r.cy,r.fz,r.cap,r.none⟩
 ·intro i F hi
  obtain ⟨b,ents,clock,q⟩:=h.mp i F hi
  exact ⟨b,ents,clock,q.box,q.base,q.own,q.none,hold q.cy,q.fits⟩
 ·intro i k t ps ag bd hi
  obtain ⟨l,r,q⟩:=h.lp i k t ps ag bd hi
  exact ⟨l,r,q.aB le q.own (hold q.cy)⟩
 ·rintro b (hb|rfl)
  ·exact ⟨(h.eL b hb).1,hold (h.eL b hb).2⟩
  ·refine ⟨h.below.new,?_⟩
   show (w.heap.push _)[w.heap.size]? =_
   simp
theorem bj.G3 {w0:di} {w:World} {M:MM} {own:Nat→Option Nat} {σ:Nat→Ob} (h:bj w0 M own σ w) {id:Nat} (hid:M.box id=none) (hh:∀v,M.bG id v=none) {k:Lk} {t:List D} {r:Loop}
  (hst:r.state=k.state) (hpd:k≠ .busy→r.pending=k.D1) (ht:bS M t r.tmps):
  bj w0 (M.aW id w.heap.size) (eC own w.heap.size id) (dJ σ id (.lp k t r.params r.assign r.body)) (w.alloc (.loop r)):=by
 have le:=MM.dc (b:=w.heap.size) hid
 have hold:∀ {b:Nat} {o:Obj},w.heap[b]? =some o→(w.alloc (.loop r)).heap[b]? =some o:=fun {b o} hb=>by
  rw [Below.heap_alloc _ _ _ (dI hb),hb]
 have hown:∀ {b i:Nat},own b=some i→eC own w.heap.size id b=some i:=fun {b i} k=>by
  have:=h.owned b i k
  simp [eC,show b≠w.heap.size by omega,k]
 refine ⟨h.below.alloc _,?_,h.iz,?_,?_,?_,?_,?_,?_⟩
 ·intro b o v k
  have k':M.cell b o=some v:=k
  rw [World.cell?_alloc_lt]
  ·exact h.cells b o v k'
  ·exact World.block_lt_of_cell? w _ (h.cells b o v k')
 ·intro b i k
  rw [World.size_alloc]
  by_cases e:b=w.heap.size
  ·omega
  ·simp only [eC,e,if_false] at k
   have:=h.owned b i k
   omega
 ·intro i cs hi
  by_cases e:i=id
  ·rw [e,aO] at hi;cases hi
  ·rw [aQ e] at hi
   obtain ⟨b,vs,ty,k⟩:=h.box i cs hi
   exact ⟨b,vs,ty,le.box _ _ k.box,k.base,hown k.own,k.none,hold k.cy,k.len,fun j d v a b=>(k.rep j d v a b).mono le,k.room⟩
 ·intro i ver sz hi
  by_cases e:i=id
  ·rw [e,aO] at hi;cases hi
  ·rw [aQ e] at hi
   obtain ⟨a,len,cap,k⟩:=h.bX i ver sz hi
   refine ⟨a,len,cap,k.bG,k.last,?_⟩
   rcases k.room with r|⟨b,vs',ty',fz,ha,r⟩
   ·exact .inl r
   ·exact .inr ⟨b,vs',ty',fz,ha,r.base,hown r.own,hold r.cy,r.fz,r.cap,r.none⟩
 ·intro i F hi
  by_cases e:i=id
  ·rw [e,aO] at hi;cases hi
  ·rw [aQ e] at hi
   obtain ⟨b,ents,clock,q⟩:=h.mp i F hi
   exact ⟨b,ents,clock,le.box _ _ q.box,q.base,hown q.own,q.none,hold q.cy,q.fits⟩
 ·intro i k2 t2 ps ag bd hi
  by_cases e:i=id
  ·subst e
   rw [aO] at hi
   cases hi
   refine ⟨w.heap.size,r,by simp [MM.aW],h.below.new,by simp [eC],?_,hst,hpd,ht.mono le,rfl,rfl,rfl⟩
   show (w.heap.push _)[w.heap.size]? =_
   simp
  ·rw [aQ e] at hi
   obtain ⟨l,r',q⟩:=h.lp i k2 t2 ps ag bd hi
   exact ⟨l,r',q.aB le (hown q.own) (hold q.cy)⟩
 ·intro b hb
  exact ⟨(h.eL b hb).1,hold (h.eL b hb).2⟩
theorem bj.BT {w0:di} {w:World} {M:MM} {own:Nat→Option Nat} {σ:Nat→Ob} (h:bj w0 M own σ w) {id l:Nat} {k k':Lk} {t:List D} {ps:Array Nat} {ag bd:Code} {r r':Loop}
  (q:DC w0 M own id k t ps ag bd w l r) (o':Ob) (ho:o'= .dead∨(o'= .lp k' t ps ag bd∧r'.state=k'.state∧(k'≠ .busy→r'.pending=k'.D1)∧r'.tmps=r.tmps∧r'.params=r.params∧r'.assign=r.assign∧r'.body=r.body)):
  bj w0 M own (dJ σ id o') (aZ w l (.loop r')):=by
 refine ⟨eK h.below q.base _,?_,h.iz,?_,?_,?_,?_,?_,?_⟩
 ·intro c o v hc
  have:c≠l:=fun e=>by
   have:=h.cells c o v hc
   rw [e] at this
   simp [World.cell?,q.cy] at this
  rw [cX this]
  exact h.cells c o v hc
 ·intro c i hc;rw [ez];exact h.owned c i hc
 ·intro i cs2 hi
  by_cases e:i=id
  ·rw [e,aO] at hi;rcases ho with rfl|⟨rfl,_⟩<;>cases hi
  ·rw [aQ e] at hi
   obtain ⟨c,vs2,ty2,k2⟩:=h.box i cs2 hi
   have:c≠l:=fun ec=>by have h1:=k2.own;rw [ec,q.own] at h1;exact e (Option.some.inj h1).symm
   exact ⟨c,vs2,ty2,k2.box,k2.base,k2.own,k2.none,by rw [aL this];exact k2.cy,k2.len,k2.rep,k2.room⟩
 ·intro i ver sz hi
  by_cases e:i=id
  ·rw [e,aO] at hi;rcases ho with rfl|⟨rfl,_⟩<;>cases hi
  ·rw [aQ e] at hi
   obtain ⟨a,len,cap,k2⟩:=h.bX i ver sz hi
   refine ⟨a,len,cap,k2.bG,k2.last,?_⟩
   rcases k2.room with r|⟨c,vs2,ty2,fz,ha,r⟩
   ·exact .inl r
   ·have:c≠l:=fun ec=>by have h1:=r.own;rw [ec,q.own] at h1;exact e (Option.some.inj h1).symm
    exact .inr ⟨c,vs2,ty2,fz,ha,r.base,r.own,by rw [aL this];exact r.cy,r.fz,r.cap,r.none⟩
 ·intro i F hi
  by_cases e:i=id
  ·rw [e,aO] at hi;rcases ho with rfl|⟨rfl,_⟩<;>cases hi
  ·rw [aQ e] at hi
   obtain ⟨c,ents,clock,q2⟩:=h.mp i F hi
   have:c≠l:=fun ec=>by have h1:=q2.own;rw [ec,q.own] at h1;exact e (Option.some.inj h1).symm
   exact ⟨c,ents,clock,q2.box,q2.base,q2.own,q2.none,by rw [aL this];exact q2.cy,q2.fits⟩
 ·intro i k2 t2 ps2 ag2 bd2 hi
  by_cases e:i=id
  ·subst e
   rw [aO] at hi
   rcases ho with rfl|⟨rfl,hst,hpd,hr⟩
   ·cases hi
   cases hi
   exact ⟨l,r',q.box,q.base,q.own,dy q.cy,hst,hpd,by rw [hr.1];exact q.tm,by rw [hr.2.1];exact q.ps,by rw [hr.2.2.1];exact q.ag,by rw [hr.2.2.2];exact q.bd⟩
  ·rw [aQ e] at hi
   obtain ⟨l2,r2,q2⟩:=h.lp i k2 t2 ps2 ag2 bd2 hi
   have:l2≠l:=fun ec=>by have h1:=q2.own;rw [ec,q.own] at h1;exact e (Option.some.inj h1).symm
   exact ⟨l2,r2,q2.aB (.refl _) q2.own (by rw [aL this];exact q2.cy)⟩
 ·intro c hc
  have:c≠l:=fun ec=>by have h1:=(h.eL c hc).2;rw [ec,q.cy] at h1;cases h1
  exact ⟨(h.eL c hc).1,by rw [aL this];exact (h.eL c hc).2⟩
def MM.sm (M:MM) (b:Nat):MM:= { M with eL:=fun c=>M.eL c∧c≠b }
theorem bj.sm {w0:di} {w:World} {M:MM} {own:Nat→Option Nat} {σ:Nat→Ob} (h:bj w0 M own σ w) {b:Nat} (hb:M.eL b):bj w0 (M.sm b) own σ (aZ w b (.deferred none)):=by
 obtain ⟨hbase,hblk⟩:=h.eL b hb
 have rb:∀ {d:D} {v:Value},bk M d v→bk (M.sm b) d v:=fun {d v} hr=>hr.G1
 refine ⟨eK h.below hbase _,?_,h.iz,?_,?_,?_,?_,?_,?_⟩
 ·intro c o v hc
  have:c≠b:=fun e=>by
   have:=h.cells c o v hc
   rw [e] at this
   simp [World.cell?,hblk] at this
  rw [cX this]
  exact h.cells c o v hc
 ·intro c i hc;rw [ez];exact h.owned c i hc
 ·intro i cs2 hi
  obtain ⟨c,vs2,ty2,k2⟩:=h.box i cs2 hi
  have:c≠b:=fun ec=>by have h1:=k2.cy;rw [ec,hblk] at h1;cases h1
  exact ⟨c,vs2,ty2,k2.box,k2.base,k2.own,k2.none,by rw [aL this];exact k2.cy,k2.len,fun j d v p q=>rb (k2.rep j d v p q),k2.room⟩
 ·intro i ver sz hi
  obtain ⟨a,len,cap,k2⟩:=h.bX i ver sz hi
  refine ⟨a,len,cap,k2.bG,k2.last,?_⟩
  rcases k2.room with r|⟨c,vs2,ty2,fz,ha,r⟩
  ·exact .inl r
  ·have:c≠b:=fun ec=>by have h1:=r.cy;rw [ec,hblk] at h1;cases h1
   exact .inr ⟨c,vs2,ty2,fz,ha,r.base,r.own,by rw [aL this];exact r.cy,r.fz,r.cap,r.none⟩
 ·intro i F hi
  obtain ⟨c,ents,clock,q2⟩:=h.mp i F hi
  have:c≠b:=fun ec=>by have h1:=q2.cy;rw [ec,hblk] at h1;cases h1
  exact ⟨c,ents,clock,q2.box,q2.base,q2.own,q2.none,by rw [aL this];exact q2.cy,q2.fits⟩
 ·intro i k2 t2 ps2 ag2 bd2 hi
  obtain ⟨l2,r2,q2⟩:=h.lp i k2 t2 ps2 ag2 bd2 hi
  have:l2≠b:=fun ec=>by have h1:=q2.cy;rw [ec,hblk] at h1;cases h1
  exact ⟨l2,r2,q2.box,q2.base,q2.own,by rw [aL this];exact q2.cy,q2.st,q2.pd,⟨q2.tm.1,fun i d v p q=>rb (q2.tm.2 i d v p q)⟩,q2.ps,q2.ag,q2.bd⟩
 ·rintro c ⟨hc,hne⟩
  exact ⟨(h.eL c hc).1,by rw [aL hne];exact (h.eL c hc).2⟩
def H0 (P:Program) (f:FuncId):Prop:= ∃fn c,P.funcs[f]? =some fn∧fn.body=some c∧(fn.name== "runtime.NumGoroutine")=false
def iu (B:Nat) (w:World) (C:Nat→Nat→Option Value) (sz:Nat) (a:Option Addr) (len cap:Nat):Prop:=
  cap=len∨∃b vs ty fz,a=some ⟨b,0,none⟩∧B≤b∧w.heap[b]? =some (.cells vs ty fz)∧kf fz vs.size∧cap*sz≤vs.size∧∀o,len*sz≤o→C b o=none
def xW (B:Nat) (w:World) (C:Nat→Nat→Option Value) (d:D) (v:Value):Prop:=
  (∀sz sz' xs,d= .aj (.fresh sz) sz' xs→∃a len cap,v= .slice a len cap∧sz'=sz∧iu B w C sz a len cap)∧
  ∀ds vs,d= .aA ds→v= .tuple vs→∀(i:Nat) (sz sz':Nat) (xs:List D),ds[i]? =some (.aj (.fresh sz) sz' xs)→∃a len cap,vs[i]? =some (.slice a len cap)∧sz'=sz∧iu B w C sz a len cap
structure aE (P:Program) (f:FuncId) (args:List D) (d:D):Prop where
  ED:H0 P f
  run:∀(w:World) (C:Nat→Nat→Option Value) (vs:Array Value),(∀b o v,C b o=some v→w.cell? ⟨b,o,none⟩=some v)→bS (eB C) args vs→
    Calls P f vs w fun e w'=> ∃v C',e= .returned v∧Ext (eB C) w (eB C') w'∧bk (eB C') d v∧xW w.heap.size w' C' d v
def eG:IntKind→IntKind→Bool
  | .i8,.i8| .i16,.i16| .i32,.i32| .i64,.i64| .u8,.u8| .u16,.u16| .u32,.u32| .u64,.u64=>true
  |_,_=>false
def LK.fits:LK→D→Bool
  | .bool,.bool _=>true
  | .int k,.int k' _=>eG k k'
  | .str,.str _=>true
  |_,_=>false
def fu:List LK→List D→Bool
  | [],[]=>true
  |k::ks,d::ds=>k.fits d&&fu ks ds
  |_,_=>false
def ak:D→D→Bool
  | .bool a,.bool b=>a==b
  | .int _ a,.int _ b=>a==b
  | .str a,.str b=>a.toList==b.toList
  |_,_=>false
def ab:List D→List D→Bool
  | [],[]=>true
  |a::x,b::y=>ak a b&&ab x y
  |_,_=>false
def jS:Value→Value→Bool
  | .bool a,.bool b=>a==b
  | .int _ a,.int _ b=>a==b
  | .string a,.string b=>a.toList==b.toList
  |_,_=>false
def b9:List Value→List Value→Bool
  | [],[]=>true
  |a::x,b::y=>jS a b&&b9 x y
  |_,_=>false
def kB (x:List Value):List MapEntry→Nat→Option (Nat×Value)
  | [],_=>none
  |e::es,i=>match e.key with
    | .agg y=>match b9 x y.toList with|true=>some (i,e.val)|false=>kB x es (i+1)
    |_=>none
def lL:List LK→Bool
  | []=>true
  | .str::_=>false
  |_::r=>lL r
structure jX (P:Program) (t:TypeId) (ks:List LK):Prop where
  uR:lL ks=true
  check:∀(w:World) (em:Bool) (xs:Array Value),cr ks xs.toList→(Instr.checkKey em 10000 t (.agg xs)).run P w= .ok () w
  find:∀(w:World) (x:Array Value) (l:List MapEntry),cr ks x.toList→(∀e∈l,∃y:Array Value,e.key= .agg y∧cr ks y.toList)→(Instr.findKey t (.agg x) l).run P w= .ok (kB x.toList l 0) w
structure jY (P:Program) (t:TypeId) (ks:List LK):Prop where
  plain:P.eqGuardType P.depth t=false
  eq:∀(xs ys:Array Value) (w:World),cr ks xs.toList→cr ks ys.toList→(Op.equalIn 10000 t (.agg xs) (.agg ys)).run P w= .ok (b9 xs.toList ys.toList) w
inductive Ex where
  |norm
  |exit (id:Nat)
  |ret
def Ex.is:Ex→Exit→Prop
  | .norm,.normal=>True
  | .exit i,.exit j=>i=j
  | .ret,.ret=>True
  |_,_=>False
def bm (s:List Ob):Nat→Ob:=fun i=>s.getD i .dead
def MM.upto (M:MM) (n:Nat):Prop:=(∀id,n≤id→M.box id=none)∧∀id v,n≤id→M.bG id v=none
def FW (r:Option Nat):Fence:= { Fence.wide with round:=r }
def fL (K:Nat→Prop) (M:MM) (ds:List Deferred):Prop:=(∀b,K b→M.eL b)∧∃bs:List Nat,ds=bs.map (fun b=> { target:= .collected b,args:= #[] })∧bs.Nodup∧∀b∈bs,M.eL b∧¬K b
theorem fL.mono {K:Nat→Prop} {M M':MM} {ds:List Deferred} (h:fL K M ds) (le:∀b,M.eL b→M'.eL b):fL K M' ds:=
 let ⟨h0,bs,h1,h2,h3⟩:=h
 ⟨fun b k=>le b (h0 b k),bs,h1,h2,fun b hb=>⟨le b (h3 b hb).1,(h3 b hb).2⟩⟩
structure aV (P:Program) (rd:Bool) (c:Code) (t:List D) (s:List Ob) (ex:Ex) (t':List D) (s':List Ob):Prop where
  run:∀(r:Option Nat),(rd=false→r=none)→∀(K:Nat→Prop) (w0:di) (M:MM) (own:Nat→Option Nat) (w:World) (a:Act),bj w0 M own (bm s) w→M.upto s.length→bS M t a.tmps→fL K M a.defers→
    c.wpIn (FW r) 0 P (fun e a' w'=>ex.is e∧∃M' own',bj w0 M' own' (bm s') w'∧M'.upto s'.length∧M.Le M'∧bS M' t' a'.tmps∧fL K M' a'.defers) a w
  len:s.length≤s'.length
abbrev jZ (P:Program):=aV P true
theorem aV.any {P:Program} {c:Code} {t:List D} {s:List Ob} {ex:Ex} {t':List D} {s':List Ob} (h:jZ P c t s ex t' s') (rd:Bool):aV P rd c t s ex t' s':=
 ⟨fun r _=>h.run r (fun e=>by cases e),h.len⟩
def MM.cut (M:MM) (n:Nat):MM:=⟨M.cell,fun i=>if i<n then M.box i else none,fun i v=>if i<n then M.bG i v else none,M.eL⟩
structure ea (P:Program) (n0:Nat) (c:Code) (t:List D) (s:List Ob) (ex:Ex) (t':List D) (s':List Ob):Prop where
  run:∀(r:Option Nat) (K:Nat→Prop) (w0:di) (M:MM) (own:Nat→Option Nat) (w:World) (a:Act),bj w0 M own (bm s) w→M.upto s.length→bS M t a.tmps→fL K M a.defers→
    c.wpIn (FW r) 0 P (fun e a' w'=>ex.is e∧∃M' own',bj w0 M' own' (bm s') w'∧M'.upto s'.length∧(M.cut n0).Le M'∧bS M' t' a'.tmps∧fL K M' a'.defers) a w
  len:n0≤s'.length
structure HS where
  aB:List Nat
  FT:List Nat
  lD:List (Nat×Nat)
def j6:List (Int×D)→Int→Option D
  | [],_=>none
  |(a,d)::r,n=>match n==a with|true=>some d|false=>j6 r n
def jC:List (Int×D)→Int→D→List (Int×D)
  | [],n,v=> [(n,v)]
  |(a,d)::r,n,v=>match n==a with|true=>(n,v)::r|false=>(a,d)::jC r n v
def j5:List (List D×D)→List D→Option D
  | [],_=>none
  |(a,d)::r,n=>match ab n a with|true=>some d|false=>j5 r n
def lA:List (List D×D)→List D→D→List (List D×D)
  | [],n,v=> [(n,v)]
  |(a,d)::r,n,v=>match ab n a with|true=>(n,v)::r|false=>(a,d)::lA r n v
def pJ:List (Int×D)→Int→Nat
  | [],_=>0
  |(a,_)::r,n=>match n==a with|true=>0|false=>pJ r n+1
def pI:List (List D×D)→List D→Nat
  | [],_=>0
  |(a,_)::r,n=>match ab n a with|true=>0|false=>pI r n+1
def vX {α:Type} :List (α×D)→Nat→D→List (α×D)
  | [],_,_=> []
  |(a,_)::r,0,v=>(a,v)::r
  |e::r,i+1,v=>e::vX r i v
def LK.same:LK→LK→Bool
  | .bool,.bool=>true
  | .int k,.int k'=>eG k k'
  | .str,.str=>true
  |_,_=>false
def ko:List LK→List LK→Bool
  | [],[]=>true
  |a::x,b::y=>a.same b&&ko x y
  |_,_=>false
structure ai (P:Program) (f:FuncId) (args:List D) (s:List Ob) (d:D) (s':List Ob):Prop where
  ED:H0 P f
  len:s.length≤s'.length
  run:∀(w0:di) (M:MM) (own:Nat→Option Nat) (w:World) (vs:Array Value),bj w0 M own (bm s) w→M.upto s.length→bS M args vs→
    Calls P f vs w fun e w'=> ∃v M' own',e= .returned v∧bj w0 M' own' (bm s') w'∧M'.upto s'.length∧M.Le M'∧bk M' d v
def bA:List D→Option (List D)
  | []=>some []
  |d::r=>match d.cells,bA r with
    |some c,some cs=>some (c++cs)
    |_,_=>none
inductive Ev (P:Program) where
  |ret (g:FuncId) (as:List D) (d:D) (h:aE P g as d)
  |inl
  |aC (g:FuncId) (ar:List D) (s:List Ob) (d:D) (s':List Ob) (h:ai P g ar s d s')
  |cU (q v:Bool) (h:q=v)
  |len (n m:Nat) (h:n≤m)
  |get (l:List D) (i:Nat) (d:D) (h:l[i]? =some d)
  |dX (l:List D) (i n:Nat) (l':List D) (h:(l.drop i).take n=l'∧i+n≤l.length)
  |cm (l:List D) (i:Nat) (xs l':List D) (h:l.take i++(xs++l.drop (i+xs.length))=l'∧i+xs.length≤l.length)
  |flat (t:TypeId) (ks:List LK) (h:jY P t ks)
  |aB (l:List (Nat×Ob))
  |Ft (cs:List (Nat×Nat×D)) (l:List (Nat×Ob))
  |ik (es:List (Int×D)) (n:Int) (r:Option D) (h:j6 es n=r)
  |G4 (t:TypeId) (ks:List LK) (h:jX P t ks)
  |Fp (es:List (List D×D)) (n:List D) (r:Option D) (h:j5 es n=r)
  |code (c:Code) (t:List D) (s:List Ob) (ex:Ex) (t':List D) (s':List Ob) (h:jZ P c t s ex t' s')
  |go (n:Nat)
  |Fi (aB:List Nat)
  |raw
  |cl (cs:List D) (h:∀c∈cs,c.clean=true)
  |EH (ys nc:List D) (h:bA ys=some nc)
  |head (sp:HS) (n0:Nat) (c:Code) (t:List D) (s:List Ob) (ex:Ex) (t':List D) (s':List Ob) (h:ea P n0 c t s ex t' s')
  |cy (sp:HS) (n0:Nat) (c:Code) (t:List D) (s:List Ob) (ex:Ex) (t':List D) (s':List Ob) (h:ea P n0 c t s ex t' s')
structure Z (P:Program) where
  o:List (Ev P)
  c:Prop
section
variable {ρ:Type} {P:Program}
def gk (b:Bool) (k:Option ρ):Option ρ:=match b with|true=>k|false=>none
def ask (z:Z P) (b:Bool) (k:Z P→Option ρ):Option ρ:=
  match z.o with
  | .cU q true _::r=>k ⟨r,(q=b)∧z.c⟩
  |_=>none
def kF (z:Z P) (n:Nat) (m:Nat) (k:Z P→Option ρ):Option ρ:=
  match z.o with
  | .len n' m' _::r=>k ⟨r,(n'=n∧m'=m)∧z.c⟩
  |_=>none
def branch (z:Z P) (b:Bool) (k1 k2:Z P→Option ρ):Option ρ:=
  match z.o with
  | .cU q v _::r=>match v with
    |true=>k1 ⟨r,(q=b)∧z.c⟩
    |false=>k2 ⟨r,(q=b)∧z.c⟩
  |_=>none
def kG (z:Z P) (still:Bool) (b:Bool) (k:Z P→Option ρ):Option ρ:=
  match still with
  |true=>gk b (k z)
  |false=>ask z b k
def pick (z:Z P) (l:List D) (i:Nat) (k:Z P→D→Option ρ):Option ρ:=
  match z.o with
  | .get l' i' d _::r=>k ⟨r,(l'=l∧i'=i)∧z.c⟩ d
  |_=>none
def yE (z:Z P) (ys:List D) (k:Z P→List D→Option ρ):Option ρ:=
  match z.o with
  | .EH ys' nc _::r=>k ⟨r,(ys'=ys)∧z.c⟩ nc
  |_=>match bA ys with
    |some nc=>k z nc
    |none=>none
def Da (z:Z P) (ys:List D) (k:Z P→List D→Option ρ):Option ρ:=
  match z.o with
  | .EH ys' nc _::r=>ask ⟨r,(ys'=ys)∧z.c⟩ (Nat.blt 0 ys.length) fun z=>k z nc
  |_=>match bA ys with
    |some nc=>gk (!ys.isEmpty) (k z nc)
    |none=>none
def yu (z:Z P) (es:List (Int×D)) (n:Int) (k:Z P→Option D→Option ρ):Option ρ:=
  match z.o with
  | .ik es' n' r _::rest=>k ⟨rest,(es'=es∧n'=n)∧z.c⟩ r
  |_=>none
def sT (z:Z P) (es:List (List D×D)) (n:List D) (k:Z P→Option D→Option ρ):Option ρ:=
  match z.o with
  | .Fp es' n' r _::rest=>k ⟨rest,(es'=es∧n'=n)∧z.c⟩ r
  |_=>none
def qN (z:Z P) (t:TypeId) (k:Z P→List LK→Option ρ):Option ρ:=
  match z.o with
  | .G4 t' ks _::r=>gk (Nat.beq t' t) (k ⟨r,z.c⟩ ks)
  |_=>none
def qF:Value→Option D
  | .bool b=>some (.bool b)
  | .int k n=>some (.int k n)
  | .string s=>some (.str s)
  | .pointer none=>some .gD
  | .slice none 0 0=>some (.aj .tight 0 [])
  | .nilFunc=>some .aq
  |_=>none
def ib:List Value→Option (List D)
  | []=>some []
  |v::r=>match qF v,ib r with
    |some d,some l=>some (d::l)
    |_,_=>none
def tW:List Value→List D
  | []=> []
  |v::r=>(match qF v with|some d=>d|none=> .undef)::tW r
def fN:Value→D
  | .agg cs=> .agg (tW cs.toList)
  |v=>match qF v with|some d=>d|none=> .undef
def bI (t:List D):Operand→D
  | .tmp i=>t.getD i .undef
  | .const v=>fN v
  | .global _=> .undef
  | .func f=> .fn (.func f) [] []
def isConst:Operand→Bool
  | .const _=>true
  |_=>false
def cA:TypeDesc→Bool
  | .struct _=>true
  | .array _ _=>true
  |_=>false
def known (P:Program) (t:TypeId):Bool:=(P.info? t).isSome
def gE (P:Program) (t:TypeId):Option D:=
  match P.info? t with
  |some i=>match i.zero with|some v=>some (fN v)|none=>none
  |none=>none
def eU (P:Program) (t:TypeId):Bool:=
  match P.info? t with
  |some i=>match i.zero with|some v=>Nat.beq v.cells.size i.size|none=>false
  |none=>false
def qH (P:Program) (z:Z P) (dyn:Bool) (t:TypeId) (cs:List D) (off:Nat) (k:Z P→D→Option ρ):Option ρ:=
  match P.underlying t with
  |none=>none
  |some d=>match cA d with
    |true=>gk (known P t) (match dyn with
      |false=>gk (Nat.ble (off+P.cellsOf t) cs.length) (k z (.agg ((cs.drop off).take (P.cellsOf t))))
      |true=>match z.o with
        | .dX l i n l' _::r=>k ⟨r,(l=cs∧i=off∧n=P.cellsOf t)∧z.c⟩ (.agg l')
        |_=>none)
    |false=>match dyn with
      |false=>match cs[off]? with|some x=>k z x|none=>none
      |true=>pick z cs off k
def gJ (cs:List D) (off:Nat) (xs:List D):List D:=cs.take off++(xs++cs.drop (off+xs.length))
def sE (x:D) (k:D→Option ρ):Option ρ:=match x.plain with|true=>k x|false=>gk x.clean (k x.aX)
def wj (x:D) (k:D→Option ρ):Option ρ:=match x with
  | .ptr _ _ off=>k (.dN false (.agg []) off)
  | .dN q y off=>k (.dN q y off)
  |x=>sE x k
def oo:List D→(List D→Option ρ)→Option ρ
  | [],k=>k []
  |x::r,k=>wj x fun y=>oo r fun l=>k (y::l)
def rp (place:Nat→Option (Nat×Nat)) (cells:List D):List (Nat×D)→Option (List D)
  | []=>some cells
  |(i,v)::rest=>match place i,v.cells with
    |some (off,size),some vc=>match Nat.beq vc.length size&&Nat.ble (off+size) cells.length with
      |true=>rp place (gJ cells off vc) rest
      |false=>none
    |_,_=>none
def xH (P:Program) (t:TypeId) (parts:List (Nat×D)):Option D:=
  match gE P t with
  |none=>none
  |some z=>match z.cells with
    |none=>none
    |some zero=>match P.underlying t with
      |some (.struct fields)=>match fields.toList.all fun f=>known P f.type with
        |true=>match rp (fun i=>((fields[i]?).map fun f=>(f.offset,P.cellsOf f.type))) zero parts with
          |some cs=>some (.agg cs)
          |none=>none
        |false=>none
      |some (.array _ elem)=>match known P elem with
        |true=>match rp (fun i=>some (i*P.cellsOf elem,P.cellsOf elem)) zero parts with
          |some cs=>some (.agg cs)
          |none=>none
        |false=>none
      |_=>none
def kj (size:Nat) (xs:List D):List (Nat×D)→(List D→Option ρ)→Option ρ
  | [],k=>k xs
  |(i,v)::rest,k=>sE v fun v'=>match v'.cells with
    |some vc=>gk (Nat.beq vc.length size&&Nat.blt i xs.length&&vc.all storable) (kj size (xs.set i v') rest k)
    |none=>none
def wP (z:Z P) (still:Bool) (op:BinOp) (k:IntKind) (a b:Int) (K:Z P→D→Option ρ):Option ρ:=
  match op with
  | .add=>K z (.int k (k.wrap (a+b)))
  | .sub=>K z (.int k (k.wrap (a - b)))
  | .mul=>K z (.int k (k.wrap (a*b)))
  | .quo=>kG z still (decide (b≠0)) fun z=>K z (.int k (k.wrap (a.tdiv b)))
  | .rem=>kG z still (decide (b≠0)) fun z=>K z (.int k (a.tmod b))
  | .and=>K z (.int k (k.wrap (BitVec.ofInt k.bits a&&&BitVec.ofInt k.bits b).toNat))
  | .or=>K z (.int k (k.wrap (BitVec.ofInt k.bits a|||BitVec.ofInt k.bits b).toNat))
  | .xor=>K z (.int k (k.wrap (BitVec.ofInt k.bits a^^^BitVec.ofInt k.bits b).toNat))
  | .andNot=>K z (.int k (k.wrap (BitVec.ofInt k.bits a&&& ~~~BitVec.ofInt k.bits b).toNat))
  | .eql=>K z (.bool (a==b))
  | .neq=>K z (.bool (a !=b))
  | .lss=>K z (.bool (decide (a<b)))
  | .leq=>K z (.bool (decide (a≤b)))
  | .gtr=>K z (.bool (decide (a>b)))
  | .geq=>K z (.bool (decide (a≥b)))
  |_=>none
def Hu (P:Program) (z:Z P) (t:TypeId) (x y:D) (K:Z P→Bool→Option ρ):Option ρ:=
  match x,y with
  | .bool a,.bool b=>match P.underlying t with|some .bool=>K z (a==b)|_=>none
  | .agg xs,.agg ys=>match z.o with
    | .flat t' ks _::r=>gk (Nat.beq t' t&&(fu ks xs&&fu ks ys)) (K ⟨r,z.c⟩ (ab xs ys))
    |_=>none
  | .aq,.aq=>match P.underlying t with|some (.func _ _ _)=>K z true|_=>none
  | .aq,.fn _ _ _=>match P.underlying t with|some (.func _ _ _)=>K z false|_=>none
  | .fn _ _ _,.aq=>match P.underlying t with|some (.func _ _ _)=>K z false|_=>none
  | .gD,.gD=>match P.underlying t with|some (.pointer _)=>K z true|_=>none
  | .ptr _ _ _,.gD=>match P.underlying t with|some (.pointer _)=>K z false|_=>none
  | .dN _ _ _,.gD=>match P.underlying t with|some (.pointer _)=>K z false|_=>none
  |_,_=>none
def Gr (P:Program) (z:Z P) (still:Bool) (op:BinOp) (t:TypeId) (x y:D) (K:Z P→D→Option ρ):Option ρ:=
  match x,y with
  | .int k a,.int k' b=>match op with
    | .shl=>kG z still (decide (0≤b)) fun z=>K z (.int k (k.wrap (a*2^(min b.toNat k.bits))))
    | .shr=>kG z still (decide (0≤b)) fun z=>K z (.int k (a.fdiv (2^(min b.toNat k.bits))))
    |op=>gk (eG k k') (wP z still op k a b K)
  | .str a,.str b=>match op with
    | .eql=>K z (.bool (a.toList==b.toList))
    | .neq=>K z (.bool (!(a.toList==b.toList)))
    |_=>none
  |x,y=>match op with
    | .eql=>Hu P z t x y fun z b=>K z (.bool b)
    | .neq=>Hu P z t x y fun z b=>K z (.bool (!b))
    |_=>none
def Hz (op:UnOp) (x:D) (K:D→Option ρ):Option ρ:=
  match op,x with
  | .neg,.int k n=>K (.int k (k.wrap (0 - n)))
  | .xor,.int k n=>K (.int k (k.wrap (BitVec.ofInt k.bits (if k.signed then -1 else k.max)^^^BitVec.ofInt k.bits n).toNat))
  | .not,.bool b=>K (.bool !b)
  |_,_=>none
def isByte:D→Bool
  | .int .u8 _=>true
  |_=>false
def vF (b:UInt8):D:= .int .u8 b.toNat
def byteOf:D→UInt8
  | .int _ n=>UInt8.ofNat n.toNat
  |_=>0
def ji (s:ByteArray):List D:=s.data.toList.map vF
def je (xs:List D):ByteArray:=⟨(xs.map byteOf).toArray⟩
inductive ig where
  |pure (d:D)
  |read (id:Nat) (o:Ob) (d:D)
  |gr (id j:Nat) (d:D)
  |dJ (id:Nat) (o o':Ob) (d:D)
  |new (o:Ob) (mk:Nat→D)
  |all (s:List Ob) (d:D)
def Dk (P:Program) (z:Z P) (src dst:TypeId) (x:D) (K:Z P→ig→Option ρ):Option ρ:=
  match P.underlying src,P.underlying dst,x with
  |some _,some (.int k),.int _ n=>K z (.pure (.int k (k.wrap n)))
  |some .string,some .string,.str s=>K z (.pure (.str s))
  |some .string,some (.slice e),.str s=>match P.underlying e with
    |some (.int .u8)=>K z (.new (.bX 0 1) fun id=> .aj (.tok id 0) 1 (ji s))
    |_=>none
  |some (.slice e),some .string,.aj _ _ xs=>match P.underlying e with
    |some (.int .u8)=>ask z (xs.all isByte) fun z=>K z (.pure (.str (je xs)))
    |_=>none
  |_,_,_=>none
def idx (x:D) (K:Int→Option ρ):Option ρ:=match x with| .int _ n=>K n|_=>none
def gu (t:List D) (o:Option Operand) (K:Option Int→Option ρ):Option ρ:=
  match o with
  |none=>K none
  |some x=>idx (bI t x) fun n=>K (some n)
def vV (z:Z P) (o:jW) (sz:Nat) (xs:List D) (lo hi mx:Option Int) (K:Z P→D→Option ρ):Option ρ:=
  match lo,hi,mx with
  |none,none,none=>K z (.aj o.aX sz xs)
  |some l,none,none=>ask z (decide (0≤l∧l≤xs.length)) fun z=>K z (.aj o.aX sz (xs.drop l.toNat))
  |none,some h,none=>ask z (decide (0≤h∧h≤xs.length)) fun z=>K z (.aj .no sz (xs.take h.toNat))
  |some l,some h,none=>ask z (decide (0≤l∧l≤h∧h≤xs.length)) fun z=>K z (.aj .no sz ((xs.take h.toNat).drop l.toNat))
  |none,some h,some m=>ask z (decide (0≤h∧h≤xs.length∧m=h)) fun z=>K z (.aj .tight sz (xs.take h.toNat))
  |some l,some h,some m=>ask z (decide (0≤l∧l≤h∧h≤xs.length∧m=h)) fun z=>K z (.aj .tight sz ((xs.take h.toNat).drop l.toNat))
  |_,_,_=>none
def BN (z:Z P) (id off sz n:Nat) (cp:Option Nat) (lo hi mx:Option Int) (K:Z P→D→Option ρ):Option ρ:=
  match lo,hi,mx with
  |none,none,none=>K z (.sub id off sz n cp)
  |some l,none,none=>ask z (decide (0≤l∧l≤n)) fun z=>K z (.sub id (off+l.toNat*sz) sz (n - l.toNat) (cp.map (· - l.toNat)))
  |none,some h,none=>ask z (decide (0≤h∧h≤n)) fun z=>K z (.sub id off sz h.toNat cp)
  |some l,some h,none=>ask z (decide (0≤l∧l≤h∧h≤n)) fun z=>K z (.sub id (off+l.toNat*sz) sz (h.toNat - l.toNat) (cp.map (· - l.toNat)))
  |none,some h,some m=>ask z (decide (0≤h∧h≤m∧m≤n)) fun z=>K z (.sub id off sz h.toNat (some m.toNat))
  |some l,some h,some m=>ask z (decide (0≤l∧l≤h∧h≤m∧m≤n)) fun z=>K z (.sub id (off+l.toNat*sz) sz (h.toNat - l.toNat) (some (m.toNat - l.toNat)))
  |_,_,_=>none
def pH (P:Program) (z:Z P) (still:Bool) (t:TypeId) (x ix:D) (K:Z P→D→Option ρ):Option ρ:=
  match ix with
  | .int _ i=>match P.underlying t,x with
    |some (.array len elem),.ptr dyn id off=>gk (known P elem) (kG z still (decide (0≤i∧i<len)) fun z=>K z (.ptr (dyn|| !still) id (off+i.toNat*P.cellsOf elem)))
    |some (.array len elem),.dN dyn y off=>gk (known P elem) (kG z still (decide (0≤i∧i<len)) fun z=>K z (.dN (dyn|| !still) y (off+i.toNat*P.cellsOf elem)))
    |some (.slice elem),.aj _ sz xs=>gk (known P elem&&Nat.beq (P.cellsOf elem) sz) (kG z still (decide (0≤i)) fun z=>pick z xs i.toNat fun z y=>K z (.dN false y 0))
    |some (.slice elem),.dn id sz n=>gk (known P elem&&Nat.beq (P.cellsOf elem) sz) (ask z (decide (0≤i∧i<n)) fun z=>K z (.ptr true id (i.toNat*sz)))
    |some (.slice elem),.sub id off sz n _=>gk (known P elem&&Nat.beq (P.cellsOf elem) sz) (ask z (decide (0≤i∧i<n)) fun z=>K z (.ptr true id (off+i.toNat*sz)))
    |_,_=>none
  |_=>none
def C0 (P:Program) (z:Z P) (still:Bool) (t:TypeId) (x ix:D) (K:Z P→D→Option ρ):Option ρ:=
  match ix with
  | .int _ i=>match P.underlying t,x with
    |some (.array len elem),.agg cs=>gk (known P elem) (kG z still (decide (0≤i∧i<len)) fun z=>qH P z (!still) elem cs (i.toNat*P.cellsOf elem) K)
    |some .string,.str s=>kG z still (decide (0≤i)) fun z=>pick z (ji s) i.toNat K
    |_,_=>none
  |_=>none
def Fg (P:Program) (t:TypeId):Bool:=match P.underlying t with
  |some e=> !cA e
  |none=>false
def Fs (P:Program) (z:Z P) (t:TypeId) (x:D) (s:List Ob) (K:Z P→ig→Option ρ):Option ρ:=
  match x with
  | .ptr dyn id off=>match s.getD id .dead with
    | .box cs=>qH P z dyn t cs off fun z d=>K z (match dyn,Fg P t with
      |false,true=> .gr id off d
      |_,_=> .read id (.box cs) d)
    |_=>none
  | .dN dyn y off=>match y.cells with
    |some cs=>qH P z dyn t cs off fun z d=>K z (.pure d)
    |none=>none
  |_=>none
def BO (P:Program) (z:Z P) (t:TypeId) (x v:D) (s:List Ob) (K:Z P→ig→Option ρ):Option ρ:=
  match x with
  | .ptr dyn id off=>match s.getD id .dead with
    | .box cs=>match v.cells with
      |some vc=>gk (known P t&&Nat.beq vc.length (P.cellsOf t)&&vc.all storable) (match dyn with
        |false=>gk (Nat.ble (off+vc.length) cs.length) (K z (.dJ id (.box cs) (.box (gJ cs off vc)) .undef))
        |true=>match z.o with
          | .cm l i xs l' _::r=>K ⟨r,(l=cs∧i=off∧xs=vc)∧z.c⟩ (.dJ id (.box cs) (.box l') .undef)
          |_=>none)
      |none=>none
    |_=>none
  |_=>none
def pY (P:Program) (s:TypeId) (x:D) (f:Nat) (K:D→Option ρ):Option ρ:=
  match P.underlying s with
  |some (.struct fields)=>match fields[f]? with
    |some fd=>gk (known P fd.type&&Nat.blt 0 (P.cellsOf fd.type)) (match x with
      | .ptr dyn id off=>K (.ptr dyn id (off+fd.offset))
      | .dN dyn y off=>K (.dN dyn y (off+fd.offset))
      |_=>none)
    |none=>none
  |_=>none
def dZ:Nat:=2147483648
def nZ (sz:Nat) (xs:List D) (size:Nat):Bool:=Nat.beq sz size||xs.isEmpty
def x6 (P:Program) (z:Z P) (elem:TypeId) (id off sz n:Nat) (st:List Ob) (K:Z P→ig→Option ρ):Option ρ:=
  match st.getD id .dead with
  | .box cs=>gk (eU P elem&&Nat.beq sz (P.cellsOf elem)&&Nat.ble (P.bytesOf elem) 65536)
    (kF z n dZ fun z=>match z.o with
      | .go _::r=>match Nat.beq sz 1 with
        |true=>(match r with
          | .dX l i k nc _::r=>ask ⟨r,(l=cs∧i=off∧k=n*sz)∧z.c⟩ (nc.all isByte) fun z=>K z (.all (st++ [.bX 0 sz]) (.aj (.tok st.length 0) sz nc))
          |_=>none)
        |false=>none
      |_=>ask z (Nat.blt 0 n) fun z=>match z.o with
        | .dX l i k nc _::r=>K ⟨r,(l=cs∧i=off∧k=n*sz)∧z.c⟩ (.all (st++ [.box nc]) (.dn st.length sz n))
        |_=>none)
  |_=>none
def CY (P:Program) (z:Z P) (elem:TypeId) (id off sz n c id2 off2 sz2 n2:Nat) (st:List Ob) (K:Z P→ig→Option ρ):Option ρ:=
  match st.getD id .dead with
  | .box cs=>gk (eU P elem&&Nat.beq id id2&&Nat.beq off 0&&Nat.beq sz (P.cellsOf elem)&&Nat.beq sz2 (P.cellsOf elem)&&Nat.ble (P.bytesOf elem) 65536)
    (kF z (n+n2) dZ fun z=>ask z (Nat.beq c n) fun z=>branch z (Nat.blt 0 (n+n2)) (fun z=>match z.o with
      | .dX l i k nc _:: .dX l2 i2 k2 nc2 _::r=>K ⟨r,(l2=cs∧i2=off2∧k2=n2*sz)∧((l=cs∧i=0∧k=n*sz)∧z.c)⟩ (.all (st.set id .dead++ [.box (nc++nc2)]) (.dn st.length sz (n+n2)))
      |_=>none) (fun z=>K z (.pure (.aj .tight sz []))))
  |_=>none
def tM (P:Program) (z:Z P) (ts:Array TypeId) (s x:D) (st:List Ob) (K:Z P→ig→Option ρ):Option ρ:=
  match ts.toList with
  |ty::xt::_=>match P.underlying ty,P.underlying xt with
    |some (.slice elem),some (.slice _)=>match s,x with
      | .aj o sz xs,.aj _ sz' ys=>match z.o with
        | .go 0::r=>match o,xs with
          | .tight,[]=>gk (eU P elem&&nZ sz' ys (P.cellsOf elem)&&Nat.ble (P.bytesOf elem) 65536)
            (kF ⟨r,z.c⟩ ys.length dZ fun z=>Da z ys fun z nc=>K z (.new (.box nc) fun id=> .dn id (P.cellsOf elem) ys.length))
          |_,_=>none
        | .go (_+1)::r=>match ys with
          | []=>gk (eU P elem&&nZ sz xs (P.cellsOf elem)&&Nat.ble (P.bytesOf elem) 65536)
            (kF ⟨r,z.c⟩ xs.length dZ fun z=>K z (.pure (.aj o sz xs)))
          |_=>none
        |_=>gk (known P elem&&eU P elem&&nZ sz xs (P.cellsOf elem)&&nZ sz' ys (P.cellsOf elem)&&Nat.ble (P.bytesOf elem) 65536)
          (kF z (xs.length+ys.length) dZ fun z=>match o with
            | .tight=>K z (.new (.bX 0 (P.cellsOf elem)) fun id=> .aj (.tok id 0) (P.cellsOf elem) (xs++ys))
            | .tok t v=>match st.getD t .dead with
              | .bX v' sz2=>gk (Nat.beq v' v&&Nat.beq sz2 (P.cellsOf elem)) (K z (.dJ t (.bX v' sz2) (.bX (v+1) sz2) (.aj (.tok t (v+1)) (P.cellsOf elem) (xs++ys))))
              |_=>none
            |_=>none)
      | .dn id sz n,.aj _ sz' ys=>match st.getD id .dead with
        | .box cs => gk (eU P elem && Nat.beq sz (P.cellsOf elem) && nZ sz' ys (P.cellsOf elem) && Nat.ble (P.bytesOf elem) 65536)
            (kF z (n+ys.length) dZ fun z=>ask z (Nat.beq cs.length (n*P.cellsOf elem)) fun z=>yE z ys fun z nc=>K z (.all (st.set id .dead++ [.box (cs++nc)]) (.dn st.length sz (n+ys.length))))
        |_=>none
      | .aj .tight _ [],.dn id sz n=>x6 P z elem id 0 sz n st K
      | .aj .tight _ [],.sub id off sz n _=>x6 P z elem id off sz n st K
      | .sub id off sz n (some c),.sub id2 off2 sz2 n2 _=>CY P z elem id off sz n c id2 off2 sz2 n2 st K
      |_,_=>none
    |_,_=>none
  |_=>none
def oE (z:Z P) (st:List Ob) (id off n size:Nat) (K:Z P→List D→Nat→Option ρ):Option ρ:=
  match st.getD id .dead with
  | .box cs=>match z.o with
    | .dX l i k nc _::r=>K ⟨r,(l=cs∧i=off∧k=n*size)∧z.c⟩ nc n
    |_=>none
  |_=>none
def FD (z:Z P) (st:List Ob) (x:D) (size:Nat) (K:Z P→List D→Nat→Option ρ):Option ρ:=
  match x with
  | .aj _ sz ys=>gk (nZ sz ys size) (yE z ys fun z nc=>K z nc ys.length)
  | .dn id sz n=>gk (Nat.beq sz size) (oE z st id 0 n size K)
  | .sub id off sz n _=>gk (Nat.beq sz size) (oE z st id off n size K)
  |_=>none
def tw (z:Z P) (st:List Ob) (id off n:Nat) (src:D) (K:Z P→ig→Option ρ):Option ρ:=
  FD z st src 1 fun z nc m=>ask z (Nat.ble m n) fun z=>ask z (nc.all isByte) fun z=>match st.getD id .dead with
    | .box cs=>match z.o with
      | .cm l i xs l' _::r=>K ⟨r,(l=cs∧i=off∧xs=nc)∧z.c⟩ (.all (st.set id (.box l')) (.int .i64 m))
      |_=>none
    |_=>none
def Dj (P:Program) (z:Z P) (ts:Array TypeId) (dst src:D) (st:List Ob) (K:Z P→ig→Option ρ):Option ρ:=
  match ts.toList with
  |ty::_=>match P.underlying ty with
    |some (.slice e)=>gk (known P e&&Nat.beq (P.cellsOf e) 1) (match dst with
      | .dn id sz n=>gk (Nat.beq sz 1) (tw z st id 0 n src K)
      | .sub id off sz n _=>gk (Nat.beq sz 1) (tw z st id off n src K)
      |_=>none)
    |_=>none
  |_=>none
def Gg (P:Program) (t:TypeId) (x:D) (K:D→Option ρ):Option ρ:=
  match P.underlying t,x with
  |some .string,.str s=>K (.int .i64 s.size)
  |some (.array n _),_=>K (.int .i64 n)
  |some (.slice _),.aj _ _ xs=>K (.int .i64 xs.length)
  |some (.slice _),.dn _ _ n=>K (.int .i64 n)
  |some (.slice _),.sub _ _ _ n _=>K (.int .i64 n)
  |_,_=>none
def FY (x y:D) (K:D→Option ρ):Option ρ:=
  match x,y with
  | .int k a,.int _ b=>K (.int k (if b<a then b else a))
  |_,_=>none
def F6 (x y:D) (K:D→Option ρ):Option ρ:=
  match x,y with
  | .int k a,.int _ b=>K (.int k (if b>a then b else a))
  |_,_=>none
def gP:D→Bool
  | .int _ _=>true
  | .bool _=>true
  | .str _=>true
  |_=>false
def gY (P:Program) (t:TypeId):Option (IntKind×TypeId):=match P.underlying t with
  |some (.map kt et)=>match P.underlying kt with
    |some (.int k)=>some (k,et)
    |_=>none
  |_=>none
def gZ (P:Program) (t:TypeId):Option (TypeId×TypeId):=match P.underlying t with
  |some (.map kt et)=>some (kt,et)
  |_=>none
def oz (P:Program) (z:Z P) (t:TypeId) (K:Z P→ig→Option ρ):Option ρ:=
  match gY P t with
  |some (k,_)=>K z (.new (.mp k []) fun id=> .dM id)
  |none=>match gZ P t with
    |some (kt,_)=>qN z kt fun z ks=>K z (.new (.mf ks []) fun id=> .dM id)
    |none=>none
def ov (P:Program) (z:Z P) (t:TypeId) (m k v:D) (s:List Ob) (K:Z P→ig→Option ρ):Option ρ:=
  match m,k with
  | .dM id,.int q n=>match s.getD id .dead,gY P t with
    | .mp q' es,some (q2,_)=>gk (eG q q'&&eG q q2&&gP v) (K z (.dJ id (.mp q' es) (.mp q' (jC es n v)) .undef))
    |_,_=>none
  | .dM id,.agg cs=>match s.getD id .dead,gZ P t with
    | .mf ks es,some (kt,_)=>qN z kt fun z ks'=>gk (ko ks' ks&&fu ks cs&&gP v) (K z (.dJ id (.mf ks es) (.mf ks (lA es cs v)) .undef))
    |_,_=>none
  |_,_=>none
def sU (P:Program) (z:Z P) (t:TypeId) (m k:D) (s:List Ob) (K:Z P→ig→Option ρ):Option ρ:=
  match m,k with
  | .dM id,.int q n=>match s.getD id .dead,gY P t with
    | .mp q' es,some (q2,et)=>match gE P et with
      |some zd=>gk (eG q q'&&eG q q2&&gP zd) (yu z es n fun z r=>match r with
        |some d=>K z (.dJ id (.mp q' es) (.mp q' es) (.aA [d,.int .i64 (pJ es n)]))
        |none=>K z (.dJ id (.mp q' es) (.mp q' (jC es n zd)) (.aA [zd,.int .i64 (pJ es n)])))
      |none=>none
    |_,_=>none
  | .dM id,.agg cs=>match s.getD id .dead,gZ P t with
    | .mf ks es,some (kt,et)=>match gE P et with
      |some zd=>qN z kt fun z ks'=>gk (ko ks' ks&&fu ks cs&&gP zd) (sT z es cs fun z r=>match r with
        |some d=>K z (.dJ id (.mf ks es) (.mf ks es) (.aA [d,.int .i64 (pI es cs)]))
        |none=>K z (.dJ id (.mf ks es) (.mf ks (lA es cs zd)) (.aA [zd,.int .i64 (pI es cs)])))
      |none=>none
    |_,_=>none
  |_,_=>none
def nz (P:Program) (z:Z P) (m n v:D) (s:List Ob) (K:Z P→ig→Option ρ):Option ρ:=
  match m,n with
  | .dM id,.int _ j=>match s.getD id .dead with
    | .mp q es=>gk (gP v) (ask z (decide (0≤j)&&Nat.blt j.toNat es.length) fun z=>K z (.dJ id (.mp q es) (.mp q (vX es j.toNat v)) .undef))
    | .mf ks es=>gk (gP v) (ask z (decide (0≤j)&&Nat.blt j.toNat es.length) fun z=>K z (.dJ id (.mf ks es) (.mf ks (vX es j.toNat v)) .undef))
    |_=>none
  |_,_=>none
def uX (P:Program) (z:Z P) (t:TypeId) (m k:D) (ok:Bool) (s:List Ob) (K:Z P→ig→Option ρ):Option ρ:=
  match m,k with
  | .dM id,.int q n=>match s.getD id .dead,gY P t with
    | .mp q' es,some (q2,et)=>match gE P et with
      |some zd=>gk (eG q q'&&eG q q2) (yu z es n fun z r=>match r,ok with
        |some d,true=>K z (.read id (.mp q' es) (.aA [d,.bool true]))
        |some d,false=>K z (.read id (.mp q' es) d)
        |none,true=>K z (.read id (.mp q' es) (.aA [zd,.bool false]))
        |none,false=>K z (.read id (.mp q' es) zd))
      |none=>none
    |_,_=>none
  | .dM id,.agg cs=>match s.getD id .dead,gZ P t with
    | .mf ks es,some (kt,et)=>match gE P et with
      |some zd=>qN z kt fun z ks'=>gk (ko ks' ks&&fu ks cs) (sT z es cs fun z r=>match r,ok with
        |some d,true=>K z (.read id (.mf ks es) (.aA [d,.bool true]))
        |some d,false=>K z (.read id (.mf ks es) d)
        |none,true=>K z (.read id (.mf ks es) (.aA [zd,.bool false]))
        |none,false=>K z (.read id (.mf ks es) zd))
      |none=>none
    |_,_=>none
  |_,_=>none
def uF (n:Nat):List D→List D
  | [d]=>List.replicate n d
  |zc=>(List.replicate n zc).flatten
def Fq (P:Program) (z:Z P) (t:TypeId) (l c:D) (K:Z P→ig→Option ρ):Option ρ:=
  match P.underlying t,l,c with
  |some (.slice e),.int _ n,.int _ m=>match gE P e with
    |some zd=>match zd.cells with
      |some zc=>match z.o with
        | .go 5::r=>gk (known P e&&Nat.beq zc.length (P.cellsOf e)&&Nat.blt 0 zc.length&&Nat.ble (P.bytesOf e) 65536&&zc.all storable)
          (ask ⟨r,z.c⟩ (decide (0≤n∧n=m∧n≤2147483648)) fun z=>K z (.pure (.aj .tight (P.cellsOf e) (List.replicate n.toNat zd))))
        |_=>gk (known P e&&Nat.beq zc.length (P.cellsOf e)&&Nat.blt 0 zc.length&&Nat.ble (P.bytesOf e) 65536)
          (ask z (decide (0≤n∧n=m∧n≤2147483648)) fun z=>K z (.new (.box (uF n.toNat zc)) fun id=> .dn id (P.cellsOf e) n.toNat))
      |none=>none
    |none=>none
  |_,_,_=>none
def gA (id:Nat):List D→Option (List D×Nat)
  | []=>none
  | .aj (.fresh sz) sz' xs::r=>some (.aj (.tok id 0) sz' xs::r.map D.aX,sz)
  |d::r=>match gA id r with
    |some (l,sz)=>some (d::l,sz)
    |none=>none
def kI (id:Nat) (d:D):D×Ob:=
  match d with
  | .aj (.fresh sz) sz' xs=>(.aj (.tok id 0) sz' xs,.bX 0 sz)
  | .aA ds=>match gA id ds with
    |some (l,sz)=>(.aA l,.bX 0 sz)
    |none=>(.aA ds,.dead)
  |d=>(d,.dead)
mutual
def force:D→(D→Option ρ)→Option ρ
  | .undef,K=>K .undef
  | .int k n,K=>K (.int k n)
  | .bool b,K=>K (.bool b)
  | .str s,K=>K (.str s)
  | .gD,K=>K .gD
  | .ptr dyn id off,K=>K (.ptr dyn id off)
  | .dN dyn x off,K=>K (.dN dyn x off)
  | .dM id,K=>K (.dM id)
  | .iq id,K=>K (.iq id)
  | .dn id sz n,K=>K (.dn id sz n)
  | .sub id off sz n cp,K=>K (.sub id off sz n cp)
  | .aj o sz xs,K=>K (.aj o sz xs)
  | .aq,K=>K .aq
  | .fn f a b,K=>gx a fun a'=>gx b fun b'=>K (.fn f a' b')
  | .agg cs,K=>gx cs fun l=>K (.agg l)
  | .aA cs,K=>gx cs fun l=>K (.aA l)
def gx:List D→(List D→Option ρ)→Option ρ
  | [],K=>K []
  |d::r,K=>force d fun d'=>gx r fun l=>K (d'::l)
end
def zh:List D→Nat→D→(List D→Option ρ)→Option ρ
  | [],_,_,K=>K []
  |_::r,0,d,K=>K (d::r)
  |a::r,i+1,d,K=>zh r i d fun l=>K (a::l)
def put (t:List D) (dst:Option Nat) (d:D):List D:=match dst with|some i=>t.set i d|none=>t
def lB (t:List D) (dst:Option Nat) (d:D) (K:List D→Option ρ):Option ρ:=match dst with
  |some i=>force d fun d'=>zh t i d' K
  |none=>K t
def iP:List Ob→Nat→Ob→(List Ob→Option ρ)→Option ρ
  | [],_,_,K=>K []
  |_::r,0,d,K=>K (d::r)
  |a::r,i+1,d,K=>iP r i d fun l=>K (a::l)
def oB:List (List D×D)→(List (List D×D)→Option ρ)→Option ρ
  | [],K=>K []
  |e::r,K=>gx e.1 fun n=>force e.2 fun d=>oB r fun l=>K ((n,d)::l)
def sZ:Ob→(Ob→Option ρ)→Option ρ
  | .dead,K=>K .dead
  | .box cs,K=>gx cs fun l=>K (.box l)
  | .bX v sz,K=>K (.bX v sz)
  | .mp k es,K=>K (.mp k es)
  | .mf ks es,K=>oB es fun l=>K (.mf ks l)
  | .lp k t ps ag bd,K=>gx t fun l=>K (.lp k l ps ag bd)
def nk (z:Z P) (o:Ob) (k:Z P→Ob→Option ρ):Option ρ:=match z.o with
  | .raw::r=>k ⟨r,z.c⟩ o
  |_=>sZ o fun o2=>k z o2
def lR:List Ob→Ob→(List Ob→Option ρ)→Option ρ
  | [],o,K=>K [o]
  |a::r,o,K=>lR r o fun l=>K (a::l)
inductive Tg where
  |fn (f:FuncId)
  |yl (id:Nat)
abbrev yN (P:Program) (ρ:Type):=Tg→List D→List Ob→Z P→(D→List Ob→Z P→Option ρ)→Option ρ
def Gm (z:Z P) (d:D) (s:List Ob) (K:Z P→ig→Option ρ):Option ρ:=
  match z.o with
  | .go 777777::r=>match d with
    | .dn id sz n=>match s.getD id .dead with
      | .box cs=>gk (Nat.beq sz 1) (ask ⟨r,z.c⟩ (Nat.beq cs.length n&&cs.all isByte) fun z=>K z (.all (s.set id .dead) (.aj .no 1 cs)))
      |_=>none
    |_=>none
  |_=>K z (.all s d)
def yI (P:Program) (inl:yN P ρ) (g:FuncId) (args:List D) (s:List Ob) (z:Z P) (K:Z P→ig→Option ρ):Option ρ:=
  match z.o with
  | .inl::r=>inl (.fn g) args s ⟨r,z.c⟩ fun d s' z=>Gm z d s' K
  | .aC g' ar s1 d s1' _::r=>gk (Nat.beq g' g) (K ⟨r,(ar=args∧s1=s)∧z.c⟩ (.all s1' d))
  | .ret g' as d _::r=>gk (Nat.beq g' g) (oo args fun as'=>K ⟨r,(as=as')∧z.c⟩ (.new (kI 0 d).2 fun id=>(kI id d).1))
  |_=>none
def GH (P:Program) (inl:yN P ρ) (id:Nat) (args:List D) (s:List Ob) (z:Z P) (K:Z P→ig→Option ρ):Option ρ:=
  match z.o with
  | .inl::r=>inl (.yl id) args s ⟨r,z.c⟩ fun d s' z=>K z (.all s' d)
  |_=>none
def Hr (P:Program) (inl:yN P ρ) (o:Oper) (t:List D) (s:List Ob) (z:Z P) (K:Z P→ig→Option ρ):Option ρ:=
  match o.op with
  | .move x=>K z (.pure (bI t x))
  | .assign x=>K z (.pure (bI t x))
  | .pick c a b=>match bI t c with
    | .bool q=>branch z q (fun z=>K z (.pure (bI t a))) (fun z=>K z (.pure (bI t b)))
    |_=>none
  | .box _ x=>match (bI t x).cells with
    |some cs=>K z (.new (.box cs) fun id=> .ptr false id 0)
    |none=>none
  | .alloc e=>match gE P e with
    |some d=>match d.cells with
      |some cs=>K z (.new (.box cs) fun id=> .ptr false id 0)
      |none=>none
    |none=>none
  | .build ty parts=>match xH P ty (parts.toList.map fun p=>(p.1,bI t p.2)) with
    |some d=>K z (.pure d)
    |none=>none
  | .buildSlice ty len parts=>match P.underlying ty with
    |some (.slice e)=>match gE P e with
      |some d=>match d.cells with
        | some zc => gk (known P e && Nat.beq zc.length (P.cellsOf e) && Nat.ble (len * P.cellsOf e) 16777216 && d.plain && zc.all storable)
            (kj (P.cellsOf e) (List.replicate len d) (parts.toList.map fun p=>(p.1,bI t p.2)) fun xs=>K z (.pure (.aj .tight (P.cellsOf e) xs)))
        |none=>none
      |none=>none
    |_=>none
  | .load ty a=>Fs P z ty (bI t a) s K
  | .store ty a x=>BO P z ty (bI t a) (bI t x) s K
  | .nilCheck x=>match bI t x with
    | .ptr dyn id off=>K z (.pure (.ptr dyn id off))
    | .dN dyn y off=>K z (.pure (.dN dyn y off))
    | .fn (.func g) a b=>K z (.pure (.fn (.func g) a b))
    |_=>none
  | .binOp op ty x y _=>Gr P z (isConst y) op ty (bI t x) (bI t y) fun z d=>K z (.pure d)
  | .unOp op _ x=>Hz op (bI t x) fun d=>K z (.pure d)
  | .convert src dst x=>Dk P z src dst (bI t x) K
  | .makeFunc f first cap=>K z (.pure (.fn f (first.toList.map (bI t)) (cap.toList.map (bI t))))
  | .slice ty x lo hi mx=>match P.underlying ty,bI t x with
    |some (.slice e),.aj o' sz xs=>gk (known P e&&Nat.beq (P.cellsOf e) sz) (gu t lo fun l=>gu t hi fun h=>gu t mx fun m=>vV z o' sz xs l h m fun z d=>K z (.pure d))
    |some (.slice e),.dn id sz n=>gk (known P e&&Nat.beq (P.cellsOf e) sz) (gu t lo fun l=>gu t hi fun h=>gu t mx fun m=>BN z id 0 sz n none l h m fun z d=>K z (.pure d))
    |some (.slice e),.sub id off sz n cp=>gk (known P e&&Nat.beq (P.cellsOf e) sz) (gu t lo fun l=>gu t hi fun h=>gu t mx fun m=>BN z id off sz n cp l h m fun z d=>K z (.pure d))
    |some (.array n e),.ptr _ id off=>gk (known P e) (gu t lo fun l=>gu t hi fun h=>gu t mx fun m=>BN z id off (P.cellsOf e) n (some n) l h m fun z d=>K z (.pure d))
    |_,_=>none
  | .fieldAddr ty x f=>pY P ty (bI t x) f fun d=>K z (.pure d)
  | .field ty x f=>match P.underlying ty,bI t x with
    |some (.struct fields),.agg cs=>match fields[f]? with
      |some fd=>qH P z false fd.type cs fd.offset fun z d=>K z (.pure d)
      |none=>none
    |_,_=>none
  | .indexAddr ty x ix=>pH P z (isConst ix) ty (bI t x) (bI t ix) fun z d=>K z (.pure d)
  | .index ty x ix=>C0 P z (isConst ix) ty (bI t x) (bI t ix) fun z d=>K z (.pure d)
  | .extract x i=>match bI t x with
    | .aA ds=>match ds[i]? with
      |some d=>K z (.pure d)
      |none=>none
    |_=>none
  | .call c=>match c.callee with
    | .builtin .len=>match c.args.toList,c.argTypes.toList with
      |x::_,ty::_=>Gg P ty (bI t x) fun d=>K z (.pure d)
      |_,_=>none
    | .builtin .append=>match c.args.toList with
      |x::y::_=>tM P z c.argTypes (bI t x) (bI t y) s K
      |_=>none
    | .builtin .min=>match c.args.toList with
      | [x,y]=>FY (bI t x) (bI t y) fun d=>K z (.pure d)
      |_=>none
    | .builtin .max=>match c.args.toList with
      | [x,y]=>F6 (bI t x) (bI t y) fun d=>K z (.pure d)
      |_=>none
    | .builtin .copy=>match c.args.toList with
      |x::y::_=>Dj P z c.argTypes (bI t x) (bI t y) s K
      |_=>none
    | .value f=>match bI t f with
      | .fn (.func g) first cap=>yI P inl g (first++(c.args.toList.map (bI t)++cap)) s z K
      | .iq id=>GH P inl id (c.args.toList.map (bI t)) s z K
      |_=>none
    |_=>none
  | .makeMap ty r=>match r with
    |none=>oz P z ty K
    |some x=>idx (bI t x) fun _=>oz P z ty K
  | .insert ty m k v=>ov P z ty (bI t m) (bI t k) (bI t v) s K
  | .mapUpdate ty m k v=>ov P z ty (bI t m) (bI t k) (bI t v) s K
  | .lookup ty m k ok=>uX P z ty (bI t m) (bI t k) ok s K
  | .mapEntry ty m k=>sU P z ty (bI t m) (bI t k) s K
  | .entryStore _ m n v=>nz P z (bI t m) (bI t n) (bI t v) s K
  | .makeSlice ty l c=>Fq P z ty (bI t l) (bI t c) K
  |_=>none
def iG (ops:Array Oper) (t:List D) (j:Nat):D:=match ops[j]? with
  |some o=>match o.dst with|some i=>t.getD i .undef|none=> .undef
  |none=> .undef
def iC (i:Nat):List Nat→Bool
  | []=>false
  |a::r=>match Nat.beq a i with|true=>true|false=>iC i r
inductive FP where
  |FV
  |rd (id:Nat)
  |qq (id j:Nat)
  |wr (id:Nat)
  |nw (id:Nat)
  |all (l:List Nat) (kc:List (Nat×Nat))
def yB (s s':List Ob):List (Nat×Ob)→Prop→Prop
  | [],c=>c
  |(i,o)::r,c=>yB s s' r ((o=s.getD i .dead∧o=s'.getD i .dead)∧c)
def kY:List (Nat×Ob)→List Nat
  | []=> []
  |(i,_)::r=>i::kY r
def fe:Ob→Nat→Option D
  | .box cs,j=>cs[j]?
  |_,_=>none
def Dn (s s':List Ob):List (Nat×Nat×D)→Prop→Prop
  | [],c=>c
  |(i,j,d)::r,c=>Dn s s' r ((some d=fe (s.getD i .dead) j∧some d=fe (s'.getD i .dead) j)∧c)
def mJ:List (Nat×Nat×D)→List (Nat×Nat)
  | []=> []
  |(i,j,_)::r=>(i,j)::mJ r
def wG (i j:Nat):List (Nat×Nat)→Bool
  | []=>false
  |(a,b)::r=>match Nat.beq a i,Nat.beq b j with|true,true=>true|_,_=>wG i j r
def pE (n:Nat):List (Nat×Ob)→Bool
  | []=>true
  |(i,_)::r=>match Nat.blt i n with|true=>pE n r|false=>false
def yz (z:Z P) (s s':List Ob) (k:Z P→List Nat→List (Nat×Nat)→Option ρ):Option ρ:=
  match z.o with
  | .aB l::r=>gk (pE s.length l) (k ⟨r,yB s s' l z.c⟩ (kY l) [])
  | .Ft cs l::r=>gk (pE s.length l) (k ⟨r,Dn s s' cs (yB s s' l z.c)⟩ (kY l) (mJ cs))
  |_=>k z [] []
def kr (P:Program) (inl:yN P ρ) (ops:Array Oper):List Oper→List D→List Ob→List FP→Z P→(List D→List Ob→List FP→Z P→Option ρ)→Option ρ
  | [],t,s,fps,z,K=>K t s fps z
  |o::rest,t,s,fps,z,K=>
    let run:=fun z=>Hr P inl o t s z fun z e=>match e with
      | .pure d=>lB t o.dst d fun t'=>kr P inl ops rest t' s (.FV::fps) z K
      | .read id _ d=>lB t o.dst d fun t'=>kr P inl ops rest t' s (.rd id::fps) z K
      | .gr id j d=>lB t o.dst d fun t'=>kr P inl ops rest t' s (.qq id j::fps) z K
      | .dJ id _ o' d=>lB t o.dst d fun t'=>nk z o' fun z o2=>iP s id o2 fun s'=>kr P inl ops rest t' s' (.wr id::fps) z K
      | .new o' mk=>lB t o.dst (mk s.length) fun t'=>nk z o' fun z o2=>lR s o2 fun s'=>kr P inl ops rest t' s' (.nw s.length::fps) z K
      | .all s' d=>lB t o.dst d fun t'=>yz z s s' fun z l kc=>kr P inl ops rest t' s' (.all l kc::fps) z K
    match o.guard with
    |none=>run z
    |some (j,want)=>match iG ops t j with
      | .bool b=>branch z (b==want) run (fun z=>lB t o.dst (.aA []) fun t'=>kr P inl ops rest t' s (.FV::fps) z K)
      | .aA []=>lB t o.dst (.aA []) fun t'=>kr P inl ops rest t' s (.FV::fps) z K
      |_=>none
def fY:List Oper→List Nat→List Nat
  | [],acc=>acc
  |o::rest,acc=>fY rest (acc++ [o.after.toList.foldl (fun m e=>match Region.binds .any e with|true=>m|||(1<<<e.on)|||acc.getD e.on 0|false=>m) 0])
def fJ:FP→FP→Bool
  | .FV,_=>false
  |_,.FV=>false
  | .all l _,.rd i=> !iC i l
  | .rd i,.all l _=> !iC i l
  | .all l kc,.qq i j=> !iC i l&& !wG i j kc
  | .qq i j,.all l kc=> !iC i l&& !wG i j kc
  | .all _ _,_=>true
  |_,.all _ _=>true
  | .rd _,.rd _=>false
  | .rd _,.qq _ _=>false
  | .qq _ _,.rd _=>false
  | .qq _ _,.qq _ _=>false
  | .qq i _,.wr j=>Nat.beq i j
  | .qq i _,.nw j=>Nat.beq i j
  | .wr i,.qq j _=>Nat.beq i j
  | .nw i,.qq j _=>Nat.beq i j
  | .rd i,.wr j=>Nat.beq i j
  | .rd i,.nw j=>Nat.beq i j
  | .wr i,.rd j=>Nat.beq i j
  | .wr i,.wr j=>Nat.beq i j
  | .wr i,.nw j=>Nat.beq i j
  | .nw i,.rd j=>Nat.beq i j
  | .nw i,.wr j=>Nat.beq i j
  | .nw i,.nw j=>Nat.beq i j
def BF (xs:List Operand):List Nat:=xs.filterMap fun x=>match x with| .tmp i=>some i|_=>none
def pC (ops:Array Oper) (o:Oper):List Nat:=
  BF o.op.operands.toList++(match o.guard with
    |some (j,_)=>match ops[j]? with
      |some q=>q.dst.toList
      |none=> []
    |none=> [])
def share (ops:Array Oper) (x y:Oper):Bool:=
  (match x.dst with|some d=>(pC ops y).contains d||y.dst==some d|none=>false)||(match y.dst with|some d=>(pC ops x).contains d|none=>false)
def lY (ops:Array Oper) (fps:List FP):Bool:=
  let l:=ops.toList
  let ah:=fY l []
  let f:=fps.reverse
  (Nat.beq f.length l.length)&&
  (List.range l.length).all fun j=>
    (match l[j]? with
     |some o=>o.after.all fun e=> !Region.binds .any e||Nat.blt e.on j
     |none=>false)&&
    (List.range j).all fun i=>(ah.getD j 0).testBit i||
      (match l[i]?,l[j]? with
       |some x,some y=> !share ops x y
       |_,_=>false)&& !fJ (f.getD i (.all [] [])) (f.getD j (.all [] []))
mutual
def lU (n:Nat):D→Bool
  | .ptr _ id _=>Nat.blt id n
  | .dM id=>Nat.blt id n
  | .iq id=>Nat.blt id n
  | .dn id _ _=>Nat.blt id n
  | .sub id _ _ _ _=>Nat.blt id n
  | .aj (.tok id _) _ _=>Nat.blt id n
  | .fn _ a b=>j7 n a&&j7 n b
  | .agg cs=>j7 n cs
  | .aA cs=>j7 n cs
  |_=>true
def j7 (n:Nat):List D→Bool
  | []=>true
  |d::r=>lU n d&&j7 n r
end
def dP:Nat:=1000000
def gG (t:List D) (s:List Ob) (k:Nat):D:=match Nat.ble dP k with
  |false=>t.getD k .undef
  |true=>match s.getD ((k - dP) / 1000) .dead with
    | .box cs=>cs.getD ((k - dP)%1000) .undef
    |_=> .undef
def pM (s:List Ob) (size id:Nat) (d:D):Option (D×Option Nat×Ob):=
  match d with
  | .aj .tight sz xs=>match nZ sz xs size with
    |true=>some (.aj (.tok id 0) size xs,none,.bX 0 size)
    |false=>none
  | .aj (.tok i v) sz xs=>match s.getD i .dead with
    | .bX v' sz2=>match Nat.beq v' v&&(Nat.beq sz2 size&&nZ sz xs size) with
      |true=>some (.aj (.tok id 0) size xs,some i,.bX 0 size)
      |false=>none
    |_=>none
  | .dn i sz n=>match s.getD i .dead with
    | .box cs=>match Nat.beq sz size with
      |true=>some (.dn id sz n,some i,.box (cs.map D.aX))
      |false=>none
    |_=>none
  |_=>none
def vd (t:List D) (s:List Ob):List (Nat×Nat)→Nat→Option (List (Option Nat)×List Ob)
  | [],_=>some ([],[])
  |(k,size)::r,id=>match pM s size id (gG t s k),vd t s r (id+1) with
    |some (_,o,ob),some (l,FT)=>some (o::l,ob::FT)
    |_,_=>none
def findF (i:Nat):List (Nat×Nat)→Nat→Option (Nat×Nat)
  | [],_=>none
  |(k,size)::r,id=>match Nat.beq k i with|true=>some (id,size)|false=>findF i r (id+1)
def Db (i:Nat) (fs:List (Nat×Nat)) (n0:Nat):Option (Nat×Nat):=match Nat.ble dP i with|true=>none|false=>findF i fs n0
def yF (i j:Nat) (fs:List (Nat×Nat)) (n0:Nat):Option (Nat×Nat):=match Nat.blt j 1000 with|true=>findF (dP+i*1000+j) fs n0|false=>none
def BR (sp:HS) (n0:Nat) (s:List Ob) (i:Nat) (d:D):Option D:=
  match Db i sp.lD n0 with
  |some (id,size)=>match pM s size id d with|some (d',_)=>some d'|none=>none
  |none=>match iC i sp.aB with
    |true=>match lU n0 d with|true=>some d|false=>none
    |false=>some .undef
def oX (sp:HS) (n0:Nat) (s:List Ob):Nat→List D→Option (List D)
  |_,[]=>some []
  |i,d::r=>match BR sp n0 s i d,oX sp n0 s (i+1) r with
    |some d',some l=>some (d'::l)
    |_,_=>none
def qw (i:Nat):List (Option Nat)→Bool
  | []=>false
  |none::r=>qw i r
  |some a::r=>match Nat.beq a i with|true=>true|false=>qw i r
def rA:List (Option Nat)→Bool
  | []=>true
  |none::r=>rA r
  |some a::r=> !qw a r&&rA r
def nB (sp:HS) (n0:Nat) (s:List Ob) (i:Nat):Nat→List D→Option (List D)
  |_,[]=>some []
  | j, d :: r => match (match yF i j sp.lD n0 with
      |some (id,size)=>(match pM s size id d with|some (d',_)=>some d'|none=>none)
      |none=>(match lU n0 d with|true=>some d|false=>none)),nB sp n0 s i (j+1) r with
    |some d',some l=>some (d'::l)
    |_,_=>none
def Hs (sp:HS) (n0:Nat) (s:List Ob) (used:List (Option Nat)) (i:Nat) (o:Ob):Option Ob:=
  match iC (dP+i) sp.FT&& !qw i used with
  |true=>match o with
    | .box cs=>some (.box (cs.map D.aX))
    |_=>none
  |false=>match iC i sp.FT&& !qw i used with
    |false=>some .dead
    |true=>match o with
      | .box cs=>match nB sp n0 s i 0 cs with|some cs'=>some (.box cs')|none=>none
      | .lp k t ps ag bd=>match j7 n0 t with|true=>some (.lp k t ps ag bd)|false=>none
      |o=>some o
def Ai (sp:HS) (n0:Nat) (s0:List Ob) (used:List (Option Nat)) (new:List Ob):Nat→Nat→List Ob→Option (List Ob)
  |0,_,_=>some new
  |_+1,_,[]=>none
  |n+1,i,o::r=>match Hs sp n0 s0 used i o,Ai sp n0 s0 used new n (i+1) r with
    |some o',some l=>some (o'::l)
    |_,_=>none
def mz (sp:HS) (n0:Nat) (t:List D) (s:List Ob):Option (List D×List Ob):=
  match vd t s sp.lD n0 with
  |some (used,new)=>match rA used with
    |true=>match oX sp n0 s 0 t,Ai sp n0 s used new n0 0 s with
      |some t',some s'=>some (t',s')
      |_,_=>none
    |false=>none
  |none=>none
def yJ (s:List Ob) (i:Nat):List (List D):=match s.getD i .dead with| .box cs=> [cs]|_=> []
def ni (s:List Ob):List Nat→List (List D)
  | []=> []
  |o::r=>match Nat.ble dP o with
    |true=>yJ s (o - dP)++ni s r
    |false=>ni s r
def sY (t:List D) (s:List Ob):List (Nat×Nat)→List (List D)
  | []=> []
  |(k,_)::r=>(match gG t s k with| .dn i _ _=>yJ s i|_=> [])++sY t s r
def sX (sp:HS) (t:List D) (s:List Ob):List (List D):=ni s sp.FT++sY t s sp.lD
def Bi:List (List D)→Z P→(Z P→Option ρ)→Option ρ
  | [],z,k=>k z
  |cs::r,z,k=>match z.o with
    | .cl cs' _::o=>Bi r ⟨o,(cs'=cs)∧z.c⟩ k
    |_=>none
def iter (body:List D→List Ob→Z P→(Ex→List D→List Ob→Z P→Option ρ)→Option ρ):Nat→List D→List Ob→Z P→(Ex→List D→List Ob→Z P→Option ρ)→Option ρ
  |0,_,_,_,_=>none
  |n+1,t,s,z,K=>body t s z fun ex t' s' z=>match ex with
    | .norm=>iter body n t' s' z K
    |e=>K e t' s' z
def iY (aB:List Nat):Nat→List D→List D
  |_,[]=> []
  |i,d::r=>(match iC i aB with|true=>d|false=> .undef)::iY aB (i+1) r
def ki:List D→List (Nat×D)→List D
  |t,[]=>t
  |t,(i,d)::r=>ki (t.set i d) r
def eO (P:Program) (inl:yN P ρ) (rd:Bool):Code→List D→List Ob→Z P→(Ex→List D→List Ob→Z P→Option ρ)→Option ρ
  | .skip,t,s,z,K=>K .norm t s z
  | .label _,t,s,z,K=>K .norm t s z
  | .region _ ops draw,t,s,z,K=>kr P inl ops ops.toList t s [] z fun t' s' fps z=>match draw with
    |false=>K .norm t' s' z
    |true=>gk (lY ops fps) (K .norm t' s' z)
  | .seq a b,t,s,z,K=>eO P inl rd a t s z fun ex t' s' z=>match ex with
    | .norm=>eO P inl rd b t' s' z K
    |e=>K e t' s' z
  | .cond c a b,t,s,z,K=>match bI t c with
    | .bool q=>branch z q (fun z=>eO P inl rd a t s z K) (fun z=>eO P inl rd b t s z K)
    |_=>none
  | .block id a,t,s,z,K=>match z.o with
    | .cy sp n0 c' t1 s1 ex t2 s2 _::r=>match mz sp n0 t s with
      |some (t',s')=>gk (Nat.beq n0 s.length) (Bi (sX sp t s) ⟨r,(c'= .block id a∧t1=t'∧s1=s')∧z.c⟩ fun z=>K ex t2 s2 z)
      |none=>none
    |_=>eO P inl rd a t s z fun ex t' s' z=>match ex with
      | .exit i=>match Nat.beq i id with|true=>K .norm t' s' z|false=>K (.exit i) t' s' z
      |e=>K e t' s' z
  | .scope a,t,s,z,K=>eO P inl rd a t s z K
  | .exit id,t,s,z,K=>K (.exit id) t s z
  | .ret,t,s,z,K=>K .ret t s z
  | .loop x,t,s,z,K=>match z.o with
    | .go n::r=>iter (eO P inl rd x) n t s ⟨r,z.c⟩ K
    | .head sp n0 c' t1 s1 ex t2 s2 _::r=>match mz sp n0 t s with
      |some (t',s')=>gk (Nat.beq n0 s.length) (Bi (sX sp t s) ⟨r,(c'= .loop x∧t1=t'∧s1=s')∧z.c⟩ fun z=>K ex t2 s2 z)
      |none=>none
    | .code c' t1 s1 ex t2 s2 _::r=>K ex t2 s2 ⟨r,(c'= .loop x∧t1=t∧s1=s)∧z.c⟩
    |_=>none
  | .rangeFunc g ps ag bd,t,s,z,K=>match z.o with
    | .Fi aB::r=>match rd,bI t g with
      |false,.fn (.func gf) first cap=>gx (iY aB 0 t) fun t1=>lR s (.lp .ready t1 ps ag bd) fun s1=>
        inl (.fn gf) (first++(.iq s.length::cap)) s1 ⟨r,z.c⟩ fun _ s2 z=>match s2.getD s.length .dead with
          | .lp .ready _ _ _ _=>iP s2 s.length .dead fun s3=>K .norm t s3 z
          | .lp .ret _ _ _ _=>iP s2 s.length .dead fun s3=>K .ret t s3 z
          | .lp (.exit i) _ _ _ _=>iP s2 s.length .dead fun s3=>K (.exit i) t s3 z
          |_=>none
      |_,_=>none
    | .code c' t1 s1 ex t2 s2 _::r=>K ex t2 s2 ⟨r,(c'= .rangeFunc g ps ag bd∧t1=t∧s1=s)∧z.c⟩
    |_=>none
  |c,t,s,z,K=>match z.o with
    | .code c' t1 s1 ex t2 s2 _::r=>K ex t2 s2 ⟨r,(c'=c∧t1=t∧s1=s)∧z.c⟩
    |_=>none
def sB (P:Program) (t:List D) (s:List Ob):ResultVar→Option D
  | .tmp i=>some (t.getD i .undef)
  | .cell a ty=>match t.getD a .undef with
    | .ptr _ id off=>match s.getD id .dead with
      | .box cs=>match P.underlying ty with
        |some d=>match cA d with
          |true=>match known P ty&&Nat.ble (off+P.cellsOf ty) cs.length with
            |true=>some (.agg ((cs.drop off).take (P.cellsOf ty)))
            |false=>none
          |false=>cs[off]?
        |none=>none
      |_=>none
    |_=>none
def we (P:Program) (t:List D) (s:List Ob):List ResultVar→Option (List D)
  | []=>some []
  |r::rs=>match sB P t s r,we P t s rs with
    |some d,some l=>some (d::l)
    |_,_=>none
def wg:List D→D
  | [d]=>d
  |l=> .aA l
def rF (P:Program) (inl:yN P ρ) (fn:Func) (args:List D) (s:List Ob) (z:Z P) (K:D→List Ob→Z P→Option ρ):Option ρ:=
  match fn.body with
  |some c=>gk (Nat.ble args.length fn.ntmps) (gx (args++List.replicate (fn.ntmps - args.length) .undef) fun t0=>eO P inl false c t0 s z fun ex t' s' z=>match ex with
    | .exit _=>none
    |_=>match we P t' s' fn.results.toList with
      |some l=>K (wg l) s' z
      |none=>none)
  |none=>none
def v9 (P:Program) (inl:yN P ρ) (id:Nat) (args:List D) (s:List Ob) (z:Z P) (K:D→List Ob→Z P→Option ρ):Option ρ:=
  match s.getD id .dead with
  | .lp .ready t ps ag bd=>gk (Nat.beq args.length ps.size) (gx (ki t (ps.toList.zip args)) fun t1=>eO P inl true ag t1 s z fun ex t2 s2 z=>match ex with
    | .norm=>match s2.getD id .dead with
      | .lp .ready t' ps' ag' bd'=>iP s2 id (.lp .busy t' ps' ag' bd') fun s3=>eO P inl true bd t2 s3 z fun ex _ s4 z=>match s4.getD id .dead with
        | .lp .busy t5 ps5 ag5 bd5=>match ex with
          | .norm=>iP s4 id (.lp .ready t5 ps5 ag5 bd5) fun s5=>K (.bool true) s5 z
          | .ret=>iP s4 id (.lp .ret t5 ps5 ag5 bd5) fun s5=>K (.bool false) s5 z
          | .exit i=>iP s4 id (.lp (.exit i) t5 ps5 ag5 bd5) fun s5=>K (.bool false) s5 z
        |_=>none
      |_=>none
    |_=>none)
  |_=>none
def pG (P:Program):Nat→yN P ρ
  |0=>fun _ _ _ _ _=>none
  |n+1=>fun g args s z K=>match g with
    | .fn f=>match P.funcs[f]? with
      |some fn=>gk (!(fn.name== "runtime.NumGoroutine")) (rF P (pG P n) fn args s z K)
      |none=>none
    | .yl id=>v9 P (pG P n) id args s z K
def iR (s:List Ob):D→D
  | .aj (.tok id v) sz xs=>match s.getD id .dead with
    | .bX v' sz2=>match Nat.beq v v'&&Nat.beq sz sz2 with|true=> .aj (.fresh sz) sz xs|false=> .aj .no sz xs
    |_=> .aj .no sz xs
  |d=>d.aX
def Ad (s:List Ob):D→D
  | .aA ds=> .aA (ds.map (iR s))
  |d=>iR s d
end
def yA:List (Nat×Ob)→Prop→Prop
  | [],c=>c
  |(_,o)::r,c=>yA r ((o=o∧o=o)∧c)
theorem lT:∀(l:List (Nat×Ob)) {c:Prop},c→yA l c
 | [],_,h=>h
 |(_,o)::r,_,h=>lT r ⟨⟨rfl,rfl⟩,h⟩
def Dm:List (Nat×Nat×D)→Prop→Prop
  | [],c=>c
  |(_,_,d)::r,c=>Dm r ((some d=some d∧some d=some d)∧c)
theorem qc:∀(l:List (Nat×Nat×D)) {c:Prop},c→Dm l c
 | [],_,h=>h
 |(_,_,d)::r,_,h=>qc r ⟨⟨rfl,rfl⟩,h⟩
def Ev.self {P:Program} :Ev P→Prop→Prop
  | .ret _ as _ _,c=>(as=as)∧c
  | .inl,c=>c
  | .aC _ ar s _ _ _,c=>(ar=ar∧s=s)∧c
  | .cU q _ _,c=>(q=q)∧c
  | .len n m _,c=>(n=n∧m=m)∧c
  | .get l i _ _,c=>(l=l∧i=i)∧c
  | .dX l i n _ _,c=>(l=l∧i=i∧n=n)∧c
  | .cm l i xs _ _,c=>(l=l∧i=i∧xs=xs)∧c
  | .flat _ _ _,c=>c
  | .ik es n _ _,c=>(es=es∧n=n)∧c
  | .G4 _ _ _,c=>c
  | .Fp es n _ _,c=>(es=es∧n=n)∧c
  | .aB l,c=>yA l c
  | .Ft cs l,c=>Dm cs (yA l c)
  | .code c' t s _ _ _ _,c=>(c'=c'∧t=t∧s=s)∧c
  | .go _,c=>c
  | .Fi _,c=>c
  | .raw,c=>c
  | .cl cs _,c=>(cs=cs)∧c
  | .EH ys _ _,c=>(ys=ys)∧c
  | .head _ _ c' t s _ _ _ _,c=>(c'=c'∧t=t∧s=s)∧c
  | .cy _ _ c' t s _ _ _ _,c=>(c'=c'∧t=t∧s=s)∧c
def o7 {P:Program} :List (Ev P)→Prop→Prop
  | [],c=>c
  |e::r,c=>o7 r (e.self c)
theorem jF {P:Program} (l:List (Ev P)):∀ {c:Prop},c→o7 l c:=by
 induction l with
 |nil=>exact fun h=>h
 |cons e r ih=>
  intro c h
  refine ih ?_
  cases e<;>simp only [Ev.self,true_and,and_self]<;>first|exact h|exact lT _ h|exact qc _ (lT _ h)
def ti (P:Program) (fn:Func) (args:List D) (o:List (Ev P)):Option (D×Prop):=
  rF P (pG P 20) fn args [] ⟨o,True⟩ fun d s z=>gk d.clean (match z.o with| []=>some (Ad s d,z.c)|_=>none)
def rz (P:Program) (c:Code) (sp:HS) (n0:Nat) (t:List D) (s:List Ob) (o:List (Ev P)):Option ((Ex×List D×List Ob)×Prop):=
  eO P (pG P 20) true c t s ⟨o,True⟩ fun ex t' s' z=>match mz sp n0 t' s' with
    |some (t2,s2)=>Bi (sX sp t' s') z fun z=>match z.o with
      | []=>some ((ex,t2,s2),z.c)
      |_=>none
    |none=>none
def evalCode (P:Program) (c:Code) (t:List D) (s:List Ob) (o:List (Ev P)):Option ((Ex×List D×List Ob)×Prop):=
  eO P (pG P 20) true c t s ⟨o,True⟩ fun ex t' s' z=>match z.o with| []=>some ((ex,t',s'),z.c)|_=>none
end Go.Ev
