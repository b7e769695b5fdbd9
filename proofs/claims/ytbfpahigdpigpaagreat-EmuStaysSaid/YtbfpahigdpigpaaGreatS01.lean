import Derived.Calls
import Derived.Orders
import Derived.Below
import Derived.Laws.World
import Derived.Laws.Sem
import Derived.RangeFuncRecord
import Derived.Laws.StructEq
import Derived.OrdersIn
import Derived.ControlIn
open BitVec renaming ofInt→Xf
open List renaming replicate→Xg,range→Xt,getElem?_map→XH,mem_of_getElem? →XP,all_eq_true→XZ
open Option.some renaming inj→Xo,injEq→Xv
open Bool renaming and_eq_true→Xp
open Nat renaming le_refl→XC,lt_or_ge→XL,beq→XX,ble→YH
open Option renaming map_eq_some_iff→XF
open Go.World renaming cell? →YA,block_lt_of_cell? →YD
open Go renaming IntKind→YO
/- Contracts and plain laws that a statement's proof leans on (texts merged:EvC). -/
namespace Go.Ev
theorem cq:type_of% @decide_eq_false_iff_not:= @decide_eq_false_iff_not
theorem bP:type_of% @decide_eq_true_eq:= @decide_eq_true_eq
theorem bg:type_of% @decide_eq_false:= @decide_eq_false
theorem bT:type_of% @decide_eq_true:= @decide_eq_true
theorem eI:type_of%(@beq_eq_false_iff_ne.{0}):=(@beq_eq_false_iff_ne.{0})
theorem ck:type_of%(@beq_iff_eq.{0}):=(@beq_iff_eq.{0})
theorem gu:type_of%(@bne_iff_ne.{0}):=(@bne_iff_ne.{0})
theorem ev:type_of% @true_and:= @true_and
theorem fS:type_of% @and_true:= @and_true
end Go.Ev
set_option linter.unusedVariables false
set_option linter.unusedSimpArgs false
namespace Go.Ev
open Go Go.RowKit
inductive kp where
  |no
  |tight
  |tok (t ver:Nat)
  |fresh (sz:Nat)
inductive D where
  |undef
  |int (k:YO) (n:Int)
  |bool (b:Bool)
  |str (s:ByteArray)
  |ik
  |ptr (dyn:Bool) (id off:Nat)
  |eV (dyn:Bool) (x:D) (off:Nat)
  |gj (id:Nat)
  |je (id:Nat)
  |ez (id sz n:Nat)
  |sub (id off sz n:Nat) (cap:Option Nat)
  |bc (o:kp) (sz:Nat) (xs:List D)
  |cm
  |fn (f:Fn) (first cap:List D)
  |agg (cs:List D)
  |aQ (vs:List D)
def D.cells:D→Option (List D)
  | .agg cs=>some cs
  | .undef=>none
  | .aQ _=>none
  |d=>some [d]
def storable:D→Bool
  | .undef=>false
  | .agg _=>false
  | .aQ _=>false
  |_=>true
structure MM where
  cell:Nat→Nat→Option Value
  box:Nat→Option Nat
  cu:Nat→Nat→Option Value
  fV:Nat→Prop
def MM.bare (M:MM):MM:=⟨M.cell,fun _=>none,fun _ _=>none,fun _=>False⟩
def gn (C:Nat→Nat→Option Value):MM:=⟨C,fun _=>none,fun _ _=>none,fun _=>False⟩
def MM.o6 (M:MM):kp→Option Addr→Nat→Nat→Prop
  | .no,_,_,_=>True
  | .fresh _,_,_,_=>True
  | .tight,_,len,cap=>cap=len
  | .tok t v,a,len,cap=>M.cu t v=some (.slice a len cap)
inductive cz:MM→D→Value→Prop
  |undef {M:MM} (v:Value):cz M .undef v
  |int {M:MM} (k:YO) (n:Int):cz M (.int k n) (.int k n)
  |bool {M:MM} (b:Bool):cz M (.bool b) (.bool b)
  |str {M:MM} (s:ByteArray):cz M (.str s) (.string s)
  |ik {M:MM} :cz M .ik (.pointer none)
  |ptr {M:MM} (dyn:Bool) {id off b:Nat} (h:M.box id=some b):cz M (.ptr dyn id off) (.pointer (some ⟨b,off,none⟩))
  | eV {M : MM} (dyn : Bool) {x : D} {cs : List D} {off b base : Nat} (vs : Nat → Value) (hx : x.cells = some cs)
      (hc:∀(j:Nat) (c:D),cs[j]? =some c→M.cell b (base+j)=some (vs j)) (hr:∀(j:Nat) (c:D),cs[j]? =some c→cz M.bare c (vs j)):
      cz M (.eV dyn x off) (.pointer (some ⟨b,base+off,none⟩))
  |gj {M:MM} {id b:Nat} (h:M.box id=some b):cz M (.gj id) (.map (some b))
  |je {M:MM} {id b:Nat} (h:M.box id=some b):cz M (.je id) (.func (.yield b) #[] #[])
  |ez {M:MM} {id sz n b cap:Nat} (h:M.box id=some b) (hh:M.cu id sz=some (.slice (some ⟨b,0,none⟩) n cap)) (hc:n≤cap):cz M (.ez id sz n) (.slice (some ⟨b,0,none⟩) n cap)
  |sub {M:MM} {id off sz n b o2 c:Nat} {cp:Option Nat} (h:M.box id=some b) (hc:n≤c) (hp:∀k,cp=some k→c=k) (ho:n≠0→o2=off):cz M (.sub id off sz n cp) (.slice (some ⟨b,o2,none⟩) n c)
  | bc {M : MM} {o : kp} {sz : Nat} {xs : List D} {a : Option Addr} {len cap : Nat} (b off : Nat) (vs : Nat → Nat → Value)
      (hl:xs.length=len) (QP:len≤cap) (ha:xs≠ []→a=some ⟨b,off,none⟩)
      (QX:∀(i:Nat) (x:D),xs[i]? =some x→∃cs:List D,x.cells=some cs∧cs.length=sz)
      (hc:∀(i:Nat) (x:D) (cs:List D) (j:Nat) (c:D),xs[i]? =some x→x.cells=some cs→cs[j]? =some c→M.cell b (off+i*sz+j)=some (vs i j))
      (hr:∀(i:Nat) (x:D) (cs:List D) (j:Nat) (c:D),xs[i]? =some x→x.cells=some cs→cs[j]? =some c→cz M.bare c (vs i j))
      (QT:∀(i:Nat) (x:D) (cs:List D) (c:D),xs[i]? =some x→x.cells=some cs→c∈cs→storable c=true)
      (ho:M.o6 o a len cap):cz M (.bc o sz xs) (.slice a len cap)
  |cm {M:MM} :cz M .cm .nilFunc
  | fn {M : MM} {f : Fn} {first cap : List D} {fv cv : Array Value} (h1 : first.length = fv.size) (h2 : cap.length = cv.size)
      (r1:∀(i:Nat) (d:D) (v:Value),first[i]? =some d→fv[i]? =some v→cz M d v) (r2:∀(i:Nat) (d:D) (v:Value),cap[i]? =some d→cv[i]? =some v→cz M d v):
      cz M (.fn f first cap) (.func f fv cv)
  | agg {M : MM} {cs : List D} {vs : Array Value} (h : cs.length = vs.size) (r : ∀ (i : Nat) (d : D) (v : Value), cs[i]? = some d → vs[i]? = some v → cz M d v) :
      cz M (.agg cs) (.agg vs)
  | aQ {M : MM} {cs : List D} {vs : Array Value} (h : cs.length = vs.size) (r : ∀ (i : Nat) (d : D) (v : Value), cs[i]? = some d → vs[i]? = some v → cz M d v) :
      cz M (.aQ cs) (.tuple vs)
structure MM.Le (M M':MM):Prop where
  cell:∀b o v,M.cell b o=some v→M'.cell b o=some v
  box:∀id b,M.box id=some b→M'.box id=some b
  cu:∀t v x,M.cu t v=some x→M'.cu t v=some x
  fV:∀b,M.fV b→M'.fV b
theorem MM.Le.refl (M:MM):M.Le M:=⟨fun _ _ _ h=>h,fun _ _ h=>h,fun _ _ _ h=>h,fun _ h=>h⟩
theorem MM.Le.trans {A B C:MM} (h:A.Le B) (k:B.Le C):A.Le C:=
 ⟨fun b o v x=>k.cell b o v (h.cell b o v x),fun i b x=>k.box i b (h.box i b x),fun t v x y=>k.cu t v x (h.cu t v x y),fun b x=>k.fV b (h.fV b x)⟩
theorem MM.Le.bare {A B:MM} (h:A.Le B):A.bare.Le B.bare:=⟨h.cell,fun _ _ x=>x,fun _ _ _ x=>x,fun _ x=>x⟩
theorem MM.En {M M':MM} (h:M.Le M'):∀ {o:kp} {a:Option Addr} {l c:Nat},M.o6 o a l c→M'.o6 o a l c
 | .no,_,_,_,x=>x
 | .fresh _,_,_,_,x=>x
 | .tight,_,_,_,x=>x
 | .tok _ _,_,_,_,x=>h.cu _ _ _ x
theorem cz.mono {M:MM} {d:D} {v:Value} (h:cz M d v):∀ {M':MM},M.Le M'→cz M' d v:=by
 induction h with
 |undef v=>exact fun _=> .undef v
 |int k n=>exact fun _=> .int k n
 |bool b=>exact fun _=> .bool b
 |str s=>exact fun _=> .str s
 |ik=>exact fun _=> .ik
 |ptr q h=>exact fun le=> .ptr q (le.box _ _ h)
 |eV q vs hx hc hr ih=>exact fun le=> .eV q vs hx (fun j c h=>le.cell _ _ _ (hc j c h)) (fun j c h=>ih j c h le.bare)
 |gj h=>exact fun le=> .gj (le.box _ _ h)
 |je h=>exact fun le=> .je (le.box _ _ h)
 |ez h hh hc=>exact fun le=> .ez (le.box _ _ h) (le.cu _ _ _ hh) hc
 |sub h hc hp ho=>exact fun le=> .sub (le.box _ _ h) hc hp ho
 |bc b off vs hl QP ha QX hc hr QT ho ih=>
  exact fun le=> .bc b off vs hl QP ha QX (fun i x cs j c h1 h2 h3=>le.cell _ _ _ (hc i x cs j c h1 h2 h3)) (fun i x cs j c h1 h2 h3=>ih i x cs j c h1 h2 h3 le.bare) QT (MM.En le ho)
 |cm=>exact fun _=> .cm
 |fn h1 h2 r1 r2 i1 i2=>exact fun le=> .fn h1 h2 (fun i d v a b=>i1 i d v a b le) (fun i d v a b=>i2 i d v a b le)
 |agg h r ih=>exact fun le=> .agg h (fun i d v a b=>ih i d v a b le)
 |aQ h r ih=>exact fun le=> .aQ h (fun i d v a b=>ih i d v a b le)
def kp.bu:kp→kp
  | .tight=> .tight
  |_=> .no
mutual
def D.bu:D→D
  | .bc o sz xs=> .bc o.bu sz xs
  | .agg cs=> .agg (D.iZ cs)
  | .aQ cs=> .aQ (D.iZ cs)
  | .fn f a b=> .fn f (D.iZ a) (D.iZ b)
  |d=>d
def D.iZ:List D→List D
  | []=> []
  |d::r=>d.bu::D.iZ r
end
mutual
def D.clean:D→Bool
  | .undef=>false
  | .ptr _ _ _=>false
  | .eV _ _ _=>false
  | .gj _=>false
  | .je _=>false
  | .ez _ _ _=>false
  | .sub _ _ _ _ _=>false
  | .agg cs=>D.kM cs
  | .aQ cs=>D.kM cs
  | .fn _ a b=>D.kM a&&D.kM b
  |_=>true
def D.kM:List D→Bool
  | []=>true
  |d::r=>d.clean&&D.kM r
end
theorem D.gy (l:List D):D.iZ l=l.map D.bu:=by
 induction l with
 |nil=>simp [D.iZ]
 |cons d r ih=>simp [D.iZ,ih]
theorem D.jW (l:List D):D.kM l=l.all D.clean:=by
 induction l with
 |nil=>simp [D.kM]
 |cons d r ih=>simp [D.kM,ih]
theorem cz.oS {M:MM} {d:D} {v:Value} (h:cz M d v):d.clean=true→cz M.bare d.bu v:=by
 induction h with
 |undef v=>intro c;simp [D.clean] at c
 |int k n=>intro _;exact .int k n
 |bool b=>intro _;exact .bool b
 |str s=>intro _;exact .str s
 |ik=>intro _;exact .ik
 |ptr q h=>intro c;simp [D.clean] at c
 |eV q vs hx hc hr ih=>intro c;simp [D.clean] at c
 |gj h=>intro c;simp [D.clean] at c
 |je h=>intro c;simp [D.clean] at c
 |ez h hh hc=>intro c;simp [D.clean] at c
 |sub h hc hp ho=>intro c;simp [D.clean] at c
 |bc b off vs hl QP ha QX hc hr QT ho ih=>
  rename_i o _ _ _ _ _
  intro _
  rw [D.bu]
  refine .bc b off vs hl QP ha QX hc hr QT ?_
  cases o<;>first|trivial|exact ho
 |cm=>intro _;exact .cm
 |fn h1 h2 r1 r2 i1 i2=>
  intro c
  rw [D.clean,D.jW,D.jW,Xp,XZ,XZ] at c
  rw [D.bu,D.gy,D.gy]
  refine .fn (by simpa using h1) (by simpa using h2) ?_ ?_
  ·intro i d v a b
   rw [XH,XF] at a
   obtain ⟨d0,h0,rfl⟩:=a
   exact i1 i d0 v h0 b (c.1 _ (XP h0))
  ·intro i d v a b
   rw [XH,XF] at a
   obtain ⟨d0,h0,rfl⟩:=a
   exact i2 i d0 v h0 b (c.2 _ (XP h0))
 |agg h r ih=>
  intro c
  rw [D.clean,D.jW,XZ] at c
  rw [D.bu,D.gy]
  refine .agg (by simpa using h) ?_
  intro i d v a b
  rw [XH,XF] at a
  obtain ⟨d0,h0,rfl⟩:=a
  exact ih i d0 v h0 b (c _ (XP h0))
 |aQ h r ih=>
  intro c
  rw [D.clean,D.jW,XZ] at c
  rw [D.bu,D.gy]
  refine .aQ (by simpa using h) ?_
  intro i d v a b
  rw [XH,XF] at a
  obtain ⟨d0,h0,rfl⟩:=a
  exact ih i d0 v h0 b (c _ (XP h0))
theorem cz.Od {M:MM} {d:D} {v:Value} (h:cz M d v):∀ {f:Nat→Prop},cz { M with fV:=f } d v:=by
 induction h with
 |undef v=>exact fun {f} => .undef v
 |int k n=>exact fun {f} => .int k n
 |bool b=>exact fun {f} => .bool b
 |str s=>exact fun {f} => .str s
 |ik=>exact fun {f} => .ik
 |ptr q h=>exact fun {f} => .ptr q h
 |eV q vs hx hc hr ih=>exact fun {f} => .eV q vs hx hc hr
 |gj h=>exact fun {f} => .gj h
 |je h=>exact fun {f} => .je h
 |ez h hh hc=>exact fun {f} => .ez h hh hc
 |sub h hc hp ho=>exact fun {f} => .sub h hc hp ho
 |bc b off vs hl QP ha QX hc hr QT ho ih=>
  rename_i o _ _ _ _ _
  refine fun {f} => .bc b off vs hl QP ha QX hc hr QT ?_
  cases o<;>first|trivial|exact ho
 |cm=>exact fun {f} => .cm
 |fn h1 h2 r1 r2 i1 i2=>exact fun {f} => .fn h1 h2 (fun i d v a b=>i1 i d v a b) (fun i d v a b=>i2 i d v a b)
 |agg h r ih=>exact fun {f} => .agg h (fun i d v a b=>ih i d v a b)
 |aQ h r ih=>exact fun {f} => .aQ h (fun i d v a b=>ih i d v a b)
theorem MM.lG (M:MM):M.bare.Le M:=⟨fun _ _ _ h=>h,fun _ _ h=>by simp [MM.bare] at h,fun _ _ _ h=>by simp [MM.bare] at h,fun _ h=>h.elim⟩
def kp.low:kp→Bool
  | .no=>true
  | .tight=>true
  |_=>false
mutual
def D.plain:D→Bool
  | .undef=>false
  | .ptr _ _ _=>false
  | .eV _ _ _=>false
  | .gj _=>false
  | .je _=>false
  | .ez _ _ _=>false
  | .sub _ _ _ _ _=>false
  | .bc o _ _=>o.low
  | .agg cs=>D.j6 cs
  | .aQ cs=>D.j6 cs
  | .fn _ a b=>D.j6 a&&D.j6 b
  |_=>true
def D.j6:List D→Bool
  | []=>true
  |d::r=>d.plain&&D.j6 r
end
theorem D.mH (l:List D):D.j6 l=l.all D.plain:=by
 induction l with
 |nil=>simp [D.j6]
 |cons d r ih=>simp [D.j6,ih]
theorem cz.KS {M:MM} {d:D} {v:Value} (h:cz M d v):d.plain=true→cz M.bare d v:=by
 induction h with
 |undef v=>intro c;simp [D.plain] at c
 |int k n=>intro _;exact .int k n
 |bool b=>intro _;exact .bool b
 |str s=>intro _;exact .str s
 |ik=>intro _;exact .ik
 |ptr q h=>intro c;simp [D.plain] at c
 |eV q vs hx hc hr ih=>intro c;simp [D.plain] at c
 |gj h=>intro c;simp [D.plain] at c
 |je h=>intro c;simp [D.plain] at c
 |ez h hh hc=>intro c;simp [D.plain] at c
 |sub h hc hp ho=>intro c;simp [D.plain] at c
 |bc b off vs hl QP ha QX hc hr QT ho ih=>
  rename_i o _ _ _ _ _
  intro c
  refine .bc b off vs hl QP ha QX hc hr QT ?_
  rw [D.plain] at c
  cases o<;>first|exact ho|(simp [kp.low] at c)
 |cm=>intro _;exact .cm
 |fn h1 h2 r1 r2 i1 i2=>
  intro c
  rw [D.plain,D.mH,D.mH,Xp,XZ,XZ] at c
  exact .fn h1 h2 (fun i d v a b=>i1 i d v a b (c.1 _ (XP a))) (fun i d v a b=>i2 i d v a b (c.2 _ (XP a)))
 |agg h r ih=>
  intro c
  rw [D.plain,D.mH,XZ] at c
  exact .agg h (fun i d v a b=>ih i d v a b (c _ (XP a)))
 |aQ h r ih=>
  intro c
  rw [D.plain,D.mH,XZ] at c
  exact .aQ h (fun i d v a b=>ih i d v a b (c _ (XP a)))
mutual
theorem oA:∀ {d:D},d.clean=true→d.bu.plain=true
  | .undef,h=>by simp [D.clean] at h
  | .int _ _,_=>by simp [D.bu,D.plain]
  | .bool _,_=>by simp [D.bu,D.plain]
  | .str _,_=>by simp [D.bu,D.plain]
  | .ik,_=>by simp [D.bu,D.plain]
  | .ptr _ _ _,h=>by simp [D.clean] at h
  | .eV _ _ _,h=>by simp [D.clean] at h
  | .gj _,h=>by simp [D.clean] at h
  | .je _,h=>by simp [D.clean] at h
  | .ez _ _ _,h=>by simp [D.clean] at h
  | .sub _ _ _ _ _,h=>by simp [D.clean] at h
  | .bc o _ _,_=>by cases o<;>simp [D.bu,D.plain,kp.bu,kp.low]
  | .cm,_=>by simp [D.bu,D.plain]
  | .fn _ a b,h=>by
    simp only [D.clean,Xp] at h
    simp only [D.bu,D.plain,Xp]
    exact ⟨im h.1,im h.2⟩
  | .agg cs,h=>by simp only [D.clean] at h;simp only [D.bu,D.plain];exact im h
  | .aQ cs,h=>by simp only [D.clean] at h;simp only [D.bu,D.plain];exact im h
theorem im:∀ {l:List D},D.kM l=true→D.j6 (D.iZ l)=true
  | [],_=>by simp [D.iZ,D.j6]
  |d::r,h=>by
    simp only [D.kM,Xp] at h
    simp only [D.iZ,D.j6,Xp]
    exact ⟨oA h.1,im h.2⟩
end
theorem cz.flag {M:MM} {o:kp} {sz:Nat} {xs:List D} {a:Option Addr} {len cap:Nat} (h:cz M (.bc o sz xs) (.slice a len cap)) (o':kp) (ho:M.o6 o' a len cap):cz M (.bc o' sz xs) (.slice a len cap):=by
 cases h with
 |bc b off vs hl QP ha QX hc hr QT _=>exact .bc b off vs hl QP ha QX hc hr QT ho
theorem cz.resize {M:MM} {o:kp} {sz size:Nat} {xs:List D} {v:Value} (h:cz M (.bc o sz xs) v) (hs:sz=size∨xs= []):cz M (.bc o size xs) v:=by
 rcases hs with rfl|rfl
 ·exact h
 ·cases h with
  |bc b off vs hl QP ha QX hc hr QT ho=>exact .bc b off vs hl QP ha (fun i x hx=>by simp at hx) (fun i x cs j c hx=>by simp at hx) (fun i x cs j c hx=>by simp at hx) QT ho
def cN (M:MM) (cs:List D) (vs:Array Value):Prop:=cs.length=vs.size∧∀(i:Nat) (d:D) (v:Value),cs[i]? =some d→vs[i]? =some v→cz M d v
theorem cN.mono {M M':MM} {cs:List D} {vs:Array Value} (h:cN M cs vs) (le:M.Le M'):cN M' cs vs:=⟨h.1,fun i d v a b=>(h.2 i d v a b).mono le⟩
theorem cz.cells {M:MM} {x:D} {v:Value} (h:cz M x v) {cs:List D} (hx:x.cells=some cs):cN M cs v.cells:=by
 have one:∀ {d:D} {u:Value},cz M d u→u.cells= #[u]→cN M [d] u.cells:=by
  intro d u r e
  rw [e]
  refine ⟨rfl,fun i d' v' a b=> ?_⟩
  cases i with
  |zero=>simp at a b;subst a b;exact r
  |succ i=>simp at a
 cases h with
 |undef v=>cases hx
 |int k n=>cases hx;exact one (.int _ _) rfl
 |bool b=>cases hx;exact one (.bool _) rfl
 |str t=>cases hx;exact one (.str _) rfl
 |ik=>cases hx;exact one .ik rfl
 |ptr q hb=>cases hx;exact one (.ptr q hb) rfl
 |eV q vs hy hc hr=>cases hx;exact one (.eV q vs hy hc hr) rfl
 |gj h=>cases hx;exact one (.gj h) rfl
 |je h=>cases hx;exact one (.je h) rfl
 |ez h hh hc=>cases hx;exact one (.ez h hh hc) rfl
 |sub h hc hp ho=>cases hx;exact one (.sub h hc hp ho) rfl
 |bc b off vs hl QP ha QX hc hr QT ho=>cases hx;exact one (.bc b off vs hl QP ha QX hc hr QT ho) rfl
 |cm=>cases hx;exact one .cm rfl
 |fn h1 h2 r1 r2=>cases hx;exact one (.fn h1 h2 r1 r2) rfl
 |agg hl hr=>cases hx;exact ⟨hl,hr⟩
 |aQ hl hr=>cases hx
inductive LK where
  |bool
  |int (k:YO)
  |str
def LK.rZ:LK→Value→Prop
  | .bool,.bool _=>True
  | .int k,.int k' _=>k=k'
  | .str,.string _=>True
  |_,_=>False
def eG:List LK→List Value→Prop
  | [],[]=>True
  |k::ks,d::ds=>k.rZ d∧eG ks ds
  |_,_=>False
inductive Lk where
  |ready
  |busy
  |ret
  |exit (i:Nat)
def Lk.state:Lk→LoopState
  | .ready=> .ready
  | .busy=> .busy
  |_=> .done
def Lk.KE:Lk→Option Code
  | .ret=>some .ret
  | .exit i=>some (.exit i)
  |_=>none
inductive Ob where
  |dead
  |box (cs:List D)
  |cM (ver sz:Nat)
  |mp (k:YO) (es:List (Int×D))
  |mf (ks:List LK) (es:List (List D×D))
  |lp (k:Lk) (t:List D) (ps:Array Nat) (ag bd:Code)
def nS:D→Option Value
  | .int k n=>some (.int k n)
  | .bool b=>some (.bool b)
  | .str s=>some (.string s)
  |_=>none
def sb (k:YO):List (Int×D)→List MapEntry→Prop
  | [],[]=>True
  |(n,d)::r,e::s=>e.key= .int k n∧nS d=some e.val∧sb k r s
  |_,_=>False
def Hb:List D→Option (List Value)
  | []=>some []
  |d::r=>match nS d,Hb r with
    |some v,some l=>some (v::l)
    |_,_=>none
def L5 (ks:List LK):List (List D×D)→List MapEntry→Prop
  | [],[]=>True
  |(n,d)::r,e::s=>(∃vs:Array Value,e.key= .agg vs∧Hb n=some vs.toList∧eG ks vs.toList)∧nS d=some e.val∧L5 ks r s
  |_,_=>False
def nF (l:List MapEntry) (c:Nat):Prop:=c=l.length∧∀(i:Nat) (e:MapEntry),l[i]? =some e→e.born=i
def Ob.Fe:Ob→Option (List MapEntry→Nat→Prop)
  | .mp k es=>some fun l c=>sb k es l∧nF l c
  | .mf ks es=>some fun l c=>L5 ks es l∧nF l c
  |_=>none
def gN (σ:Nat→Ob) (id:Nat) (o:Ob):Nat→Ob:=fun i=>if i=id then o else σ i
theorem bS (σ:Nat→Ob) (id:Nat) (o:Ob):gN σ id o id=o:=by simp [gN]
theorem bN {σ:Nat→Ob} {id i:Nat} {o:Ob} (h:i≠id):gN σ id o i=σ i:=by simp [gN,h]
def lW (fz:Nat×Nat) (n:Nat):Prop:= ∀o,o<n→¬(fz.1≤o∧o<fz.2)
structure fg where
  w:World
  C:Nat→Nat→Option Value
  X:Nat→Prop
structure Kept (X:Nat→Prop) (w w':World):Prop where
  os:w'.os=w.os
  tape:w'.tape=w.tape
  output:w'.output=w.output
  size:w.heap.size≤w'.heap.size
  block:∀k,X k→w'.heap[k]? =w.heap[k]?
  lt:∀k,X k→k<w.heap.size
theorem Kept.Oj {X:Nat→Prop} {w w':World} (h:Kept X w w') {k:Nat} (hk:X k):k<w'.heap.size:=Nat.lt_of_lt_of_le (h.lt k hk) h.size
theorem Kept.new {X:Nat→Prop} {w w':World} (h:Kept X w w'):¬X w'.heap.size:=fun k=>Nat.lt_irrefl _ (h.Oj k)
theorem Kept.ext {X:Nat→Prop} {a w w':World} (h:Kept X a w) (k:Below w.heap.size w w'):Kept X a w':=
 ⟨k.os.trans h.os,k.tape.trans h.tape,k.output.trans h.output,Nat.le_trans h.size k.size,fun i hi=>(k.block i (h.Oj hi)).trans (h.block i hi),h.lt⟩
theorem Kept.drew {X:Nat→Prop} {a w:World} (h:Kept X a w):Kept X a w.drew:=⟨h.os,h.tape,h.output,h.size,h.block,h.lt⟩
theorem Kept.alloc {X:Nat→Prop} {a w:World} (h:Kept X a w) (o:Obj):Kept X a (w.alloc o):=h.ext ((Below.refl _ _).alloc (XC _) o)
theorem Kept.of (w:World):Kept (fun k=>k<w.heap.size) w w:=⟨rfl,rfl,rfl,XC _,fun _ _=>rfl,fun _ h=>h⟩
theorem Kept.below {w w':World} (h:Kept (fun k=>k<w.heap.size) w w'):Below w.heap.size w w':=⟨h.os,h.tape,h.output,h.size,h.block⟩
structure sF (w0:fg) (M:MM) (own:Nat→Option Nat) (id:Nat) (cs:List D) (w:World) (b:Nat) (vs:Array Value) (ty:TypeId):Prop where
  box:M.box id=some b
  base:¬w0.X b
  own:own b=some id
  none:∀o,M.cell b o=none
  dZ:w.heap[b]? =some (.cells vs ty (0,0))
  len:cs.length≤vs.size
  rep:∀(i:Nat) (d:D) (v:Value),cs[i]? =some d→vs[i]? =some v→cz M d v
  room:∀sz a len cap,M.cu id sz=some (.slice a len cap)→cap*sz≤vs.size
structure L7 (w0:fg) (M:MM) (own:Nat→Option Nat) (id:Nat) (F:List MapEntry→Nat→Prop) (w:World) (b:Nat) (QV:Array MapEntry) (clock:Nat):Prop where
  box:M.box id=some b
  base:¬w0.X b
  own:own b=some id
  none:∀o,M.cell b o=none
  dZ:w.heap[b]? =some (.map QV clock)
  fits:F QV.toList clock
structure JM (w0:fg) (M:MM) (own:Nat→Option Nat) (id:Nat) (k:Lk) (t:List D) (ps:Array Nat) (ag bd:Code) (w:World) (l:Nat) (r:Loop):Prop where
  box:M.box id=some l
  base:¬w0.X l
  own:own l=some id
  dZ:w.heap[l]? =some (.loop r)
  st:r.state=k.state
  pd:k≠ .busy→r.pending=k.KE
  tm:cN M t r.tmps
  ps:r.params=ps
  ag:r.assign=ag
  bd:r.body=bd
structure sE (w0:fg) (M:MM) (own:Nat→Option Nat) (id sz:Nat) (w:World) (len cap b:Nat) (vs:Array Value) (ty:TypeId) (fz:Nat×Nat):Prop where
  base:¬w0.X b
  own:own b=some id
  dZ:w.heap[b]? =some (.cells vs ty fz)
  fz:lW fz vs.size
  cap:cap*sz≤vs.size∧cap≤9223372036854775807
  none:∀o,len*sz≤o→M.cell b o=none
structure OO (w0:fg) (M:MM) (own:Nat→Option Nat) (id ver sz:Nat) (w:World) (a:Option Addr) (len cap:Nat):Prop where
  cu:M.cu id ver=some (.slice a len cap)
  last:∀v,ver<v→M.cu id v=none
  room:cap=len∨∃b vs ty fz,a=some ⟨b,0,none⟩∧sE w0 M own id sz w len cap b vs ty fz
structure cJ (w0:fg) (M:MM) (own:Nat→Option Nat) (σ:Nat→Ob) (w:World):Prop where
  below:Kept w0.X w0.w w
  cells:∀b o v,M.cell b o=some v→w.cell? ⟨b,o,none⟩=some v
  ng:∀b o v,M.cell b o=some v→w0.X b→w0.C b o=some v
  owned:∀b id,own b=some id→b<w.heap.size
  box:∀id cs,σ id= .box cs→∃b vs ty,sF w0 M own id cs w b vs ty
  cM:∀id ver sz,σ id= .cM ver sz→∃a len cap,OO w0 M own id ver sz w a len cap
  mp:∀id F,(σ id).Fe=some F→∃b QV clock,L7 w0 M own id F w b QV clock
  lp:∀id k t ps ag bd,σ id= .lp k t ps ag bd→∃l r,JM w0 M own id k t ps ag bd w l r
  fV:∀b,M.fV b→¬w0.X b∧w.heap[b]? =some (.deferred (some []))
theorem JM.aV {w0:fg} {M M':MM} {own QK:Nat→Option Nat} {id:Nat} {k:Lk} {t:List D} {ps:Array Nat} {ag bd:Code} {w w':World} {l:Nat} {r:Loop} (h:JM w0 M own id k t ps ag bd w l r) (le:M.Le M') (ho:QK l=some id) (hb:w'.heap[l]? =some (.loop r)):JM w0 M' QK id k t ps ag bd w' l r:=
 ⟨le.box _ _ h.box,h.base,ho,hb,h.st,h.pd,h.tm.mono le,h.ps,h.ag,h.bd⟩
structure Ext (M:MM) (w:World) (M':MM) (w':World):Prop where
  below:Below w.heap.size w w'
  cell:∀b o v,M.cell b o=some v→M'.cell b o=some v
  only:∀b o v,M'.cell b o=some v→b<w.heap.size→M.cell b o=some v
  cells:∀b o v,M'.cell b o=some v→w'.cell? ⟨b,o,none⟩=some v
theorem ka {w w':World} (h:Below w.heap.size w w') {b:Nat} {o:Obj} (hb:w.heap[b]? =some o):w'.heap[b]? =some o:=by
 rw [h.block b ?_,hb]
 rcases XL b w.heap.size with h|h
 ·exact h
 ·simp [Array.getElem?_eq_none h] at hb
theorem fG {w:World} {b:Nat} {o:Obj} (hb:w.heap[b]? =some o):b<w.heap.size:=by
 rcases XL b w.heap.size with h|h
 ·exact h
 ·simp [Array.getElem?_eq_none h] at hb
theorem lz {C C':Nat→Nat→Option Value} {n b o:Nat} (only:∀b o v,C' b o=some v→b<n→C b o=some v) (hb:b<n) (h:C b o=none):C' b o=none:=by
 cases e:C' b o with
 |none=>rfl
 |some v=>rw [only b o v e hb] at h;cases h
theorem cJ.ext {w0:fg} {w w':World} {M M':MM} {own:Nat→Option Nat} {σ:Nat→Ob} (h:cJ w0 M own σ w) (e:Ext M w M' w')
  (T3:M'.box=M.box) (Sf:M'.cu=M.cu) (Tz:M'.fV=M.fV):cJ w0 M' own σ w'∧M.Le M':=by
 have le:M.Le M':=⟨e.cell,fun id b h=>by rw [T3];exact h,fun t v x h=>by rw [Sf];exact h,fun b h=>by rw [Tz];exact h⟩
 refine ⟨⟨?_,e.cells,?_,?_,?_,?_,?_,?_,?_⟩,le⟩
 ·exact h.below.ext e.below
 ·exact fun b o v k hb=>h.ng b o v (e.only b o v k (h.below.Oj hb)) hb
 ·exact fun b id k=>Nat.lt_of_lt_of_le (h.owned b id k) e.below.size
 ·intro id cs hs
  obtain ⟨b,vs,ty,k⟩:=h.box id cs hs
  exact ⟨b,vs,ty,by rw [T3];exact k.box,k.base,k.own,fun o=>lz e.only (fG k.dZ) (k.none o),ka e.below k.dZ,k.len,fun i d v a b=>(k.rep i d v a b).mono le,fun sz a len cap q=>k.room sz a len cap (Sf▸q)⟩
 ·intro id ver sz hs
  obtain ⟨a,len,cap,k⟩:=h.cM id ver sz hs
  refine ⟨a,len,cap,by rw [Sf];exact k.cu,by rw [Sf];exact k.last,?_⟩
  rcases k.room with r|⟨b,vs,ty,fz,ha,r⟩
  ·exact .inl r
  ·exact .inr ⟨b,vs,ty,fz,ha,r.base,r.own,ka e.below r.dZ,r.fz,r.cap,fun o ho=>lz e.only (fG r.dZ) (r.none o ho)⟩
 ·intro id F hs
  obtain ⟨b,QV,clock,q⟩:=h.mp id F hs
  exact ⟨b,QV,clock,by rw [T3];exact q.box,q.base,q.own,fun o=>lz e.only (fG q.dZ) (q.none o),ka e.below q.dZ,q.fits⟩
 ·intro id k t ps ag bd hs
  obtain ⟨l,r,q⟩:=h.lp id k t ps ag bd hs
  exact ⟨l,r,q.aV le q.own (ka e.below q.dZ)⟩
 ·intro b hb
  rw [Tz] at hb
  exact ⟨(h.fV b hb).1,ka e.below (h.fV b hb).2⟩
theorem cJ.drew {w0:fg} {w:World} {M:MM} {own:Nat→Option Nat} {σ:Nat→Ob} (h:cJ w0 M own σ w):cJ w0 M own σ w.drew:=
 ⟨h.below.drew,h.cells,h.ng,h.owned,fun id cs e=>let ⟨b,vs,ty,k⟩:=h.box id cs e;⟨b,vs,ty,k.box,k.base,k.own,k.none,k.dZ,k.len,k.rep,k.room⟩,
  fun id ver sz e=>let ⟨a,len,cap,k⟩:=h.cM id ver sz e;⟨a,len,cap,k.cu,k.last,k.room.imp (fun x=>x) fun ⟨b,vs,ty,fz,ha,r⟩=>⟨b,vs,ty,fz,ha,r.base,r.own,r.dZ,r.fz,r.cap,r.none⟩⟩,
  fun id F e=>let ⟨b,QV,clock,q⟩:=h.mp id F e;⟨b,QV,clock,q.box,q.base,q.own,q.none,q.dZ,q.fits⟩,
  fun id k t ps ag bd e=>let ⟨l,r,q⟩:=h.lp id k t ps ag bd e;⟨l,r,q.aV (.refl _) q.own q.dZ⟩,fun b hb=>⟨(h.fV b hb).1,(h.fV b hb).2⟩⟩
theorem cJ.kill {w0:fg} {w:World} {M:MM} {own:Nat→Option Nat} {σ:Nat→Ob} (h:cJ w0 M own σ w) (id:Nat):cJ w0 M own (gN σ id .dead) w:=by
 refine ⟨h.below,h.cells,h.ng,h.owned,?_,?_,?_,?_,h.fV⟩
 ·intro i cs hi
  by_cases e:i=id
  ·rw [e,bS] at hi;cases hi
  ·rw [bN e] at hi;exact h.box i cs hi
 ·intro i v sz hi
  by_cases e:i=id
  ·rw [e,bS] at hi;cases hi
  ·rw [bN e] at hi;exact h.cM i v sz hi
 ·intro i F hi
  by_cases e:i=id
  ·rw [e,bS] at hi;cases hi
  ·rw [bN e] at hi;exact h.mp i F hi
 ·intro i k t ps ag bd hi
  by_cases e:i=id
  ·rw [e,bS] at hi;cases hi
  ·rw [bN e] at hi;exact h.lp i k t ps ag bd hi
def MM.eK (M:MM) (id b:Nat):MM:= { M with box:=fun i=>if i=id then some b else M.box i }
def MM.cR (M:MM) (id ver:Nat) (v:Value):MM:= { M with cu:=fun i k=>if i=id∧k=ver then some v else M.cu i k }
def MM.cD (M:MM) (b:Nat) (f:Nat→Option Value):MM:= { M with cell:=fun c o=>if c=b then f o else M.cell c o }
def iJ (own:Nat→Option Nat) (b id:Nat):Nat→Option Nat:=fun c=>if c=b then some id else own c
theorem MM.iB {M:MM} {id b:Nat} (h:M.box id=none):M.Le (M.eK id b):=
 ⟨fun _ _ _ h=>h,fun i c k=>by by_cases e:i=id;(· rw [e,h] at k;cases k);(· simp [eK,e,k]),fun _ _ _ h=>h,fun _ h=>h⟩
theorem MM.fW {M:MM} {id ver:Nat} {v:Value} (h:M.cu id ver=none):M.Le (M.cR id ver v):=
 ⟨fun _ _ _ h=>h,fun _ _ h=>h,fun i k x e=>by
  by_cases c:i=id∧k=ver
  ·rw [c.1,c.2,h] at e;cases e
  ·simp only [cR,c,if_false];exact e,fun _ h=>h⟩
theorem eN {w:World} {M:MM} (hc:∀b o v,M.cell b o=some v→w.cell? ⟨b,o,none⟩=some v) {b:Nat} (hb:w.heap.size≤b) (o:Nat):M.cell b o=none:=by
 cases e:M.cell b o with
 |none=>rfl
 |some v=>
  have:=YD w _ (hc b o v e)
  have:b<w.heap.size:=this
  omega
theorem cJ.IA {w0:fg} {w:World} {M:MM} {own:Nat→Option Nat} {σ:Nat→Ob} (h:cJ w0 M own σ w) {id:Nat} (RU:M.box id=none) (hh:∀v,M.cu id v=none) {cs:List D} {vs:Array Value} (ty:TypeId)
  (hl:cs.length≤vs.size) (hr:∀(i:Nat) (d:D) (v:Value),cs[i]? =some d→vs[i]? =some v→cz M d v):
  cJ w0 (M.eK id w.heap.size) (iJ own w.heap.size id) (gN σ id (.box cs)) (w.alloc (.cells vs ty)):=by
 have le:=MM.iB (b:=w.heap.size) RU
 have Rt:∀o,M.cell w.heap.size o=none:=eN h.cells (XC _)
 have hold:∀ {b:Nat} {o:Obj},w.heap[b]? =some o→(w.alloc (.cells vs ty)).heap[b]? =some o:=fun {b o} hb=>by
  rw [Below.heap_alloc _ _ _ (fG hb),hb]
 have Rz:∀ {b i:Nat},own b=some i→iJ own w.heap.size id b=some i:=fun {b i} k=>by
  have:=h.owned b i k
  simp [iJ,show b≠w.heap.size by omega,k]
 refine ⟨h.below.alloc _,?_,h.ng,?_,?_,?_,?_,?_,?_⟩
 ·intro b o v k
  have k':M.cell b o=some v:=k
  rw [World.cell?_alloc_lt]
  ·exact h.cells b o v k'
  ·exact YD w _ (h.cells b o v k')
 ·intro b i k
  rw [World.size_alloc]
  by_cases e:b=w.heap.size
  ·omega
  ·simp only [iJ,e,if_false] at k
   have:=h.owned b i k
   omega
 ·intro i Ru hi
  by_cases e:i=id
  ·subst e
   rw [bS] at hi
   cases hi
   refine ⟨w.heap.size,vs,ty,by simp [MM.eK],h.below.new,by simp [iJ],Rt,?_,hl,fun j d v a b=>(hr j d v a b).mono le,fun sz a len cap q=>by have q':M.cu i sz=_:=q;rw [hh] at q';cases q'⟩
   show (w.heap.push _)[w.heap.size]? =_
   simp
  ·rw [bN e] at hi
   obtain ⟨b,vs',ty',k⟩:=h.box i Ru hi
   exact ⟨b,vs',ty',le.box _ _ k.box,k.base,Rz k.own,k.none,hold k.dZ,k.len,fun j d v a b=>(k.rep j d v a b).mono le,k.room⟩
 ·intro i ver sz hi
  by_cases e:i=id
  ·rw [e,bS] at hi;cases hi
  ·rw [bN e] at hi
   obtain ⟨a,len,cap,k⟩:=h.cM i ver sz hi
   refine ⟨a,len,cap,k.cu,k.last,?_⟩
   rcases k.room with r|⟨b,vs',ty',fz,ha,r⟩
   ·exact .inl r
   ·exact .inr ⟨b,vs',ty',fz,ha,r.base,Rz r.own,hold r.dZ,r.fz,r.cap,r.none⟩
 ·intro i F hi
  by_cases e:i=id
  ·rw [e,bS] at hi;cases hi
  ·rw [bN e] at hi
   obtain ⟨b,QV,clock,q⟩:=h.mp i F hi
   exact ⟨b,QV,clock,le.box _ _ q.box,q.base,Rz q.own,q.none,hold q.dZ,q.fits⟩
 ·intro i k t ps ag bd hi
  by_cases e:i=id
  ·rw [e,bS] at hi;cases hi
  ·rw [bN e] at hi
   obtain ⟨l,r,q⟩:=h.lp i k t ps ag bd hi
   exact ⟨l,r,q.aV le (Rz q.own) (hold q.dZ)⟩
 ·intro b hb
  exact ⟨(h.fV b hb).1,hold (h.fV b hb).2⟩
theorem cJ.MT {w0:fg} {w:World} {M:MM} {own:Nat→Option Nat} {σ:Nat→Ob} (h:cJ w0 M own σ w) {id:Nat} (RU:M.box id=none) {o:Ob} {F0:List MapEntry→Nat→Prop} (ho:o.Fe=some F0) (hF:F0 [] 0):
  cJ w0 (M.eK id w.heap.size) (iJ own w.heap.size id) (gN σ id o) (w.alloc (.map #[] 0)):=by
 have le:=MM.iB (b:=w.heap.size) RU
 have Rt:∀o,M.cell w.heap.size o=none:=eN h.cells (XC _)
 have hold:∀ {b:Nat} {o:Obj},w.heap[b]? =some o→(w.alloc (.map #[] 0)).heap[b]? =some o:=fun {b o} hb=>by
  rw [Below.heap_alloc _ _ _ (fG hb),hb]
 have Rz:∀ {b i:Nat},own b=some i→iJ own w.heap.size id b=some i:=fun {b i} k=>by
  have:=h.owned b i k
  simp [iJ,show b≠w.heap.size by omega,k]
 refine ⟨h.below.alloc _,?_,h.ng,?_,?_,?_,?_,?_,?_⟩
 ·intro b o v k
  have k':M.cell b o=some v:=k
  rw [World.cell?_alloc_lt]
  ·exact h.cells b o v k'
  ·exact YD w _ (h.cells b o v k')
 ·intro b i k
  rw [World.size_alloc]
  by_cases e:b=w.heap.size
  ·omega
  ·simp only [iJ,e,if_false] at k
   have:=h.owned b i k
   omega
 ·intro i Ru hi
  by_cases e:i=id
  ·rw [e,bS] at hi;rw [hi] at ho;cases ho
  ·rw [bN e] at hi
   obtain ⟨b,vs',ty',k⟩:=h.box i Ru hi
   exact ⟨b,vs',ty',le.box _ _ k.box,k.base,Rz k.own,k.none,hold k.dZ,k.len,fun j d v a b=>(k.rep j d v a b).mono le,k.room⟩
 ·intro i ver sz hi
  by_cases e:i=id
  ·rw [e,bS] at hi;rw [hi] at ho;cases ho
  ·rw [bN e] at hi
   obtain ⟨a,len,cap,k⟩:=h.cM i ver sz hi
   refine ⟨a,len,cap,k.cu,k.last,?_⟩
   rcases k.room with r|⟨b,vs',ty',fz,ha,r⟩
   ·exact .inl r
   ·exact .inr ⟨b,vs',ty',fz,ha,r.base,Rz r.own,hold r.dZ,r.fz,r.cap,r.none⟩
 ·intro i F hi
  by_cases e:i=id
  ·subst e
   rw [bS,ho] at hi
   cases hi
   refine ⟨w.heap.size,#[],0,by simp [MM.eK],h.below.new,by simp [iJ],Rt,?_,hF⟩
   show (w.heap.push _)[w.heap.size]? =_
   simp
  ·rw [bN e] at hi
   obtain ⟨b,QV,clock,q⟩:=h.mp i F hi
   exact ⟨b,QV,clock,le.box _ _ q.box,q.base,Rz q.own,q.none,hold q.dZ,q.fits⟩
 ·intro i k' t ps ag bd hi
  by_cases e:i=id
  ·rw [e,bS] at hi;rw [hi] at ho;cases ho
  ·rw [bN e] at hi
   obtain ⟨l,r,q⟩:=h.lp i k' t ps ag bd hi
   exact ⟨l,r,q.aV le (Rz q.own) (hold q.dZ)⟩
 ·intro b hb
  exact ⟨(h.fV b hb).1,hold (h.fV b hb).2⟩
def cW (w:World) (b:Nat) (o:Obj):World:= { w with heap:=w.heap.setIfInBounds b o }
theorem gH {w:World} {b:Nat} {o p:Obj} (h:w.heap[b]? =some p):(cW w b o).heap[b]? =some o:=by
 have:=fG h
 simp [cW,this]
theorem bG {w:World} {b c:Nat} {o:Obj} (h:c≠b):(cW w b o).heap[c]? =w.heap[c]? :=by
 simp [cW,Array.getElem?_setIfInBounds_ne (Ne.symm h)]
theorem gG (w:World) (b:Nat) (o:Obj):(cW w b o).heap.size=w.heap.size:=by simp [cW]
theorem ff {w:World} {b c o:Nat} {p:Obj} (h:c≠b):(cW w b p).cell? ⟨c,o,none⟩=w.cell? ⟨c,o,none⟩:=by
 simp [YA,bG h]
theorem hI {X:Nat→Prop} {w0 w:World} (h:Kept X w0 w) {b:Nat} (hb:¬X b) (o:Obj):Kept X w0 (cW w b o):=
 ⟨h.os,h.tape,h.output,by rw [gG];exact h.size,fun k hk=>by rw [bG (show k≠b from fun e=>hb (e▸hk))];exact h.block k hk,h.lt⟩
theorem cJ.Ha {w0:fg} {w:World} {M:MM} {own:Nat→Option Nat} {σ:Nat→Ob} (h:cJ w0 M own σ w) {id b:Nat} {cs Ru:List D} {vs vs':Array Value} {ty:TypeId}
  (k:sF w0 M own id cs w b vs ty) (hl:Ru.length≤vs'.size) (hs:vs'.size=vs.size)
  (hr:∀(i:Nat) (d:D) (v:Value),Ru[i]? =some d→vs'[i]? =some v→cz M d v):
  cJ w0 M own (gN σ id (.box Ru)) (cW w b (.cells vs' ty (0,0))):=by
 refine ⟨hI h.below k.base _,?_,h.ng,?_,?_,?_,?_,?_,?_⟩
 ·intro c o v hc
  have:c≠b:=fun e=>by rw [e,k.none o] at hc;cases hc
  rw [ff this]
  exact h.cells c o v hc
 ·intro c i hc;rw [gG];exact h.owned c i hc
 ·intro i TE hi
  by_cases e:i=id
  ·subst e
   rw [bS] at hi
   cases hi
   exact ⟨b,vs',ty,k.box,k.base,k.own,k.none,gH k.dZ,hl,hr,fun sz a len cap q=>by rw [hs];exact k.room sz a len cap q⟩
  ·rw [bN e] at hi
   obtain ⟨c,vs2,ty2,k2⟩:=h.box i TE hi
   have:c≠b:=fun ec=>by have h1:=k2.own;rw [ec,k.own] at h1;exact e (Xo h1).symm
   exact ⟨c,vs2,ty2,k2.box,k2.base,k2.own,k2.none,by rw [bG this];exact k2.dZ,k2.len,k2.rep,k2.room⟩
 ·intro i ver sz hi
  by_cases e:i=id
  ·rw [e,bS] at hi;cases hi
  ·rw [bN e] at hi
   obtain ⟨a,len,cap,k2⟩:=h.cM i ver sz hi
   refine ⟨a,len,cap,k2.cu,k2.last,?_⟩
   rcases k2.room with r|⟨c,vs2,ty2,fz,ha,r⟩
   ·exact .inl r
   ·have:c≠b:=fun ec=>by have h1:=r.own;rw [ec,k.own] at h1;exact e (Xo h1).symm
    exact .inr ⟨c,vs2,ty2,fz,ha,r.base,r.own,by rw [bG this];exact r.dZ,r.fz,r.cap,r.none⟩
 ·intro i F hi
  by_cases e:i=id
  ·rw [e,bS] at hi;cases hi
  ·rw [bN e] at hi
   obtain ⟨c,QV,clock,q⟩:=h.mp i F hi
   have:c≠b:=fun ec=>by have h1:=q.own;rw [ec,k.own] at h1;exact e (Xo h1).symm
   exact ⟨c,QV,clock,q.box,q.base,q.own,q.none,by rw [bG this];exact q.dZ,q.fits⟩
 ·intro i k2 t ps ag bd hi
  by_cases e:i=id
  ·rw [e,bS] at hi;cases hi
  ·rw [bN e] at hi
   obtain ⟨l,r,q⟩:=h.lp i k2 t ps ag bd hi
   have:l≠b:=fun ec=>by have h1:=q.own;rw [ec,k.own] at h1;exact e (Xo h1).symm
   exact ⟨l,r,q.aV (.refl _) q.own (by rw [bG this];exact q.dZ)⟩
 ·intro c hc
  have:c≠b:=fun ec=>by have h1:=(h.fV c hc).2;rw [ec,k.dZ] at h1;cases h1
  exact ⟨(h.fV c hc).1,by rw [bG this];exact (h.fV c hc).2⟩
theorem cJ.G8 {w0:fg} {w:World} {M:MM} {own:Nat→Option Nat} {σ:Nat→Ob} (h:cJ w0 M own σ w) {id b:Nat} {F0 F1:List MapEntry→Nat→Prop} {QV T0:Array MapEntry} {clock:Nat}
  (k:L7 w0 M own id F0 w b QV clock) (Td:Nat) {o':Ob} (ho:o'.Fe=some F1) (hf:F1 T0.toList Td):
  cJ w0 M own (gN σ id o') (cW w b (.map T0 Td)):=by
 refine ⟨hI h.below k.base _,?_,h.ng,?_,?_,?_,?_,?_,?_⟩
 ·intro c o v hc
  have:c≠b:=fun e=>by rw [e,k.none o] at hc;cases hc
  rw [ff this]
  exact h.cells c o v hc
 ·intro c i hc;rw [gG];exact h.owned c i hc
 ·intro i TE hi
  by_cases e:i=id
  ·rw [e,bS] at hi;rw [hi] at ho;cases ho
  ·rw [bN e] at hi
   obtain ⟨c,vs2,ty2,k2⟩:=h.box i TE hi
   have:c≠b:=fun ec=>by have h1:=k2.own;rw [ec,k.own] at h1;exact e (Xo h1).symm
   exact ⟨c,vs2,ty2,k2.box,k2.base,k2.own,k2.none,by rw [bG this];exact k2.dZ,k2.len,k2.rep,k2.room⟩
 ·intro i ver sz hi
  by_cases e:i=id
  ·rw [e,bS] at hi;rw [hi] at ho;cases ho
  ·rw [bN e] at hi
   obtain ⟨a,len,cap,k2⟩:=h.cM i ver sz hi
   refine ⟨a,len,cap,k2.cu,k2.last,?_⟩
   rcases k2.room with r|⟨c,vs2,ty2,fz,ha,r⟩
   ·exact .inl r
   ·have:c≠b:=fun ec=>by have h1:=r.own;rw [ec,k.own] at h1;exact e (Xo h1).symm
    exact .inr ⟨c,vs2,ty2,fz,ha,r.base,r.own,by rw [bG this];exact r.dZ,r.fz,r.cap,r.none⟩
 ·intro i F hi
  by_cases e:i=id
  ·subst e
   rw [bS,ho] at hi
   cases hi
   exact ⟨b,T0,Td,k.box,k.base,k.own,k.none,gH k.dZ,hf⟩
  ·rw [bN e] at hi
   obtain ⟨c,ents2,clock2,q⟩:=h.mp i F hi
   have:c≠b:=fun ec=>by have h1:=q.own;rw [ec,k.own] at h1;exact e (Xo h1).symm
   exact ⟨c,ents2,clock2,q.box,q.base,q.own,q.none,by rw [bG this];exact q.dZ,q.fits⟩
 ·intro i k2 t ps ag bd hi
  by_cases e:i=id
  ·rw [e,bS] at hi;rw [hi] at ho;cases ho
  ·rw [bN e] at hi
   obtain ⟨l,r,q⟩:=h.lp i k2 t ps ag bd hi
   have:l≠b:=fun ec=>by have h1:=q.own;rw [ec,k.own] at h1;exact e (Xo h1).symm
   exact ⟨l,r,q.aV (.refl _) q.own (by rw [bG this];exact q.dZ)⟩
 ·intro c hc
  have:c≠b:=fun ec=>by have h1:=(h.fV c hc).2;rw [ec,k.dZ] at h1;cases h1
  exact ⟨(h.fV c hc).1,by rw [bG this];exact (h.fV c hc).2⟩
theorem cJ.qP {w0:fg} {w:World} {M:MM} {own:Nat→Option Nat} {σ:Nat→Ob} (h:cJ w0 M own σ w) {id ver:Nat} (RU:∀v,ver≤v→M.cu id v=none) {a:Option Addr} {len cap:Nat} (sz:Nat)
  (RA:cap=len∨∃b vs ty fz,a=some ⟨b,0,none⟩∧¬w0.X b∧(own b=none∨own b=some id)∧w.heap[b]? =some (.cells vs ty fz)∧lW fz vs.size∧(cap*sz≤vs.size∧cap≤9223372036854775807)∧∀o,len*sz≤o→M.cell b o=none):
  ∃QK,cJ w0 (M.cR id ver (.slice a len cap)) QK (gN σ id (.cM ver sz)) w:=by
 have le:=MM.fW (ver:=ver) (v:= .slice a len cap) (RU ver (XC _))
 have Vd:∀ {QK:Nat→Option Nat},(∀b i,own b=some i→QK b=some i)→(∀b i,QK b=some i→b<w.heap.size)→
   (cap=len∨∃b vs ty fz,a=some ⟨b,0,none⟩∧sE w0 (M.cR id ver (.slice a len cap)) QK id sz w len cap b vs ty fz)→
   cJ w0 (M.cR id ver (.slice a len cap)) QK (gN σ id (.cM ver sz)) w:=by
  intro QK Tt UD hr
  refine ⟨h.below,h.cells,h.ng,UD,?_,?_,?_,?_,h.fV⟩
  ·intro i cs hi
   by_cases e:i=id
   ·rw [e,bS] at hi;cases hi
   ·rw [bN e] at hi
    obtain ⟨b,vs,ty,k⟩:=h.box i cs hi
    exact ⟨b,vs,ty,k.box,k.base,Tt _ _ k.own,k.none,k.dZ,k.len,fun j d v a b=>(k.rep j d v a b).mono le,fun Ra a' QU RE q=>k.room Ra a' QU RE (by simpa [MM.cR,e] using q)⟩
  ·intro i TD Ra hi
   by_cases e:i=id
   ·subst e
    rw [bS] at hi
    cases hi
    refine ⟨a,len,cap,by simp [MM.cR],?_,hr⟩
    intro v hv
    simp only [MM.cR,show ¬(v=ver) by omega,and_false,if_false]
    exact RU v (by omega)
   ·rw [bN e] at hi
    obtain ⟨a',QU,RE,k⟩:=h.cM i TD Ra hi
    refine ⟨a',QU,RE,le.cu _ _ _ k.cu,?_,?_⟩
    ·intro v hv
     simp only [MM.cR,e,false_and,if_false]
     exact k.last v hv
    ·rcases k.room with r|⟨c,vs2,ty2,fz,ha,r⟩
     ·exact .inl r
     ·exact .inr ⟨c,vs2,ty2,fz,ha,r.base,Tt _ _ r.own,r.dZ,r.fz,r.cap,r.none⟩
  ·intro i F hi
   by_cases e:i=id
   ·rw [e,bS] at hi;cases hi
   ·rw [bN e] at hi
    obtain ⟨b,QV,clock,q⟩:=h.mp i F hi
    exact ⟨b,QV,clock,q.box,q.base,Tt _ _ q.own,q.none,q.dZ,q.fits⟩
  ·intro i k t ps ag bd hi
   by_cases e:i=id
   ·rw [e,bS] at hi;cases hi
   ·rw [bN e] at hi
    obtain ⟨l,r,q⟩:=h.lp i k t ps ag bd hi
    exact ⟨l,r,q.aV le (Tt _ _ q.own) q.dZ⟩
 rcases RA with hc|⟨b,vs,ty,fz,ha,Rd,Sb,hblk,UK,QP,RT⟩
 ·exact ⟨own,Vd (fun _ _ x=>x) h.owned (.inl hc)⟩
 ·refine ⟨iJ own b id,Vd ?_ ?_ (.inr ⟨b,vs,ty,fz,ha,Rd,by simp [iJ],hblk,UK,QP,RT⟩)⟩
  ·intro c i hc
   by_cases e:c=b
   ·subst e
    rcases Sb with Sb|Sb
    ·rw [Sb] at hc;cases hc
    ·rw [Sb] at hc;simp [iJ];exact Xo hc
   ·simp [iJ,e,hc]
  ·intro c i hc
   by_cases e:c=b
   ·rw [e];exact fG hblk
   ·simp only [iJ,e,if_false] at hc;exact h.owned c i hc
def MM.ic (M:MM) (b n1 n2:Nat) (vs:Array Value):MM:=M.cD b fun o=>if n1≤o∧o<n2 then vs[o]? else M.cell b o
theorem MM.CP {M:MM} {b n1 n2:Nat} {vs:Array Value} (h:∀o,n1≤o→M.cell b o=none):M.Le (M.ic b n1 n2 vs):=by
 refine ⟨fun c o v k=> ?_,fun _ _ k=>k,fun _ _ _ k=>k,fun _ k=>k⟩
 by_cases e:c=b
 ·subst e
  simp only [ic,cD,if_true]
  rw [if_neg]
  ·exact k
  ·intro hh;rw [h o hh.1] at k;cases k
 ·simp only [ic,cD,e,if_false];exact k
theorem cJ.Je {w0:fg} {w:World} {M:MM} {own:Nat→Option Nat} {σ:Nat→Ob} (h:cJ w0 M own σ w) {id sz len cap b:Nat} {ver Ra:Nat} {vs vs':Array Value} {ty:TypeId} {fz:Nat×Nat} (_hs:σ id= .cM ver Ra)
  (r:sE w0 M own id sz w len cap b vs ty fz) (n2:Nat) (WL:vs'.size=vs.size) (Rv:∀o,o<len*sz→vs'[o]? =vs[o]?):
  cJ w0 (M.ic b (len*sz) n2 vs') own (gN σ id .dead) (cW w b (.cells vs' ty fz)):=by
 have le:M.Le (M.ic b (len*sz) n2 vs'):=MM.CP r.none
 refine ⟨hI h.below r.base _,?_,?_,?_,?_,?_,?_,?_,?_⟩
 ·intro c o v hc
  by_cases e:c=b
  ·subst e
   simp only [MM.ic,MM.cD,if_true] at hc
   simp only [YA,gH r.dZ]
   split at hc
   ·exact hc
   ·have h1:=h.cells c o v hc
    have h2:o<len*sz:=by
     rcases XL o (len*sz) with q|q
     ·exact q
     ·rw [r.none o q] at hc;cases hc
    simp only [YA,r.dZ] at h1
    rw [← Rv o h2] at h1
    exact h1
  ·simp only [MM.ic,MM.cD,e,if_false] at hc
   rw [ff e]
   exact h.cells c o v hc
 ·intro c o v hc QQ
  have e:c≠b:=fun e=>r.base (e▸QQ)
  simp only [MM.ic,MM.cD,e,if_false] at hc
  exact h.ng c o v hc QQ
 ·intro c i hc;rw [gG];exact h.owned c i hc
 ·intro i TE hi
  by_cases e:i=id
  ·rw [e,bS] at hi;cases hi
  ·rw [bN e] at hi
   obtain ⟨c,vs2,ty2,k2⟩:=h.box i TE hi
   have:c≠b:=fun ec=>by have h1:=k2.own;rw [ec,r.own] at h1;exact e (Xo h1).symm
   exact ⟨c,vs2,ty2,k2.box,k2.base,k2.own,fun o=>by simp only [MM.ic,MM.cD,this,if_false];exact k2.none o,by rw [bG this];exact k2.dZ,k2.len,fun j d v a b=>(k2.rep j d v a b).mono le,k2.room⟩
 ·intro i V5 RX hi
  by_cases e:i=id
  ·rw [e,bS] at hi;cases hi
  ·rw [bN e] at hi
   obtain ⟨a,len2,cap2,k2⟩:=h.cM i V5 RX hi
   refine ⟨a,len2,cap2,k2.cu,k2.last,?_⟩
   rcases k2.room with q|⟨c,vs2,ty2,fz2,ha,q⟩
   ·exact .inl q
   ·have:c≠b:=fun ec=>by have h1:=q.own;rw [ec,r.own] at h1;exact e (Xo h1).symm
    exact .inr ⟨c,vs2,ty2,fz2,ha,q.base,q.own,by rw [bG this];exact q.dZ,q.fz,q.cap,fun o ho=>by simp only [MM.ic,MM.cD,this,if_false];exact q.none o ho⟩
 ·intro i F hi
  by_cases e:i=id
  ·rw [e,bS] at hi;cases hi
  ·rw [bN e] at hi
   obtain ⟨c,QV,clock,q⟩:=h.mp i F hi
   have:c≠b:=fun ec=>by have h1:=q.own;rw [ec,r.own] at h1;exact e (Xo h1).symm
   exact ⟨c,QV,clock,q.box,q.base,q.own,fun o=>by simp only [MM.ic,MM.cD,this,if_false];exact q.none o,by rw [bG this];exact q.dZ,q.fits⟩
 ·intro i k2 t ps ag bd hi
  by_cases e:i=id
  ·rw [e,bS] at hi;cases hi
  ·rw [bN e] at hi
   obtain ⟨l,r',q⟩:=h.lp i k2 t ps ag bd hi
   have:l≠b:=fun ec=>by have h1:=q.own;rw [ec,r.own] at h1;exact e (Xo h1).symm
   exact ⟨l,r',q.aV le q.own (by rw [bG this];exact q.dZ)⟩
 ·intro c hc
  have:c≠b:=fun ec=>by have h1:=(h.fV c hc).2;rw [ec,r.dZ] at h1;cases h1
  exact ⟨(h.fV c hc).1,by rw [bG this];exact (h.fV c hc).2⟩
theorem cJ.Lp {w0:fg} {w:World} {M:MM} {own:Nat→Option Nat} {σ:Nat→Ob} (h:cJ w0 M own σ w) {id b:Nat} {cs:List D} {vs:Array Value} {ty:TypeId} (hσ:σ id= .box cs)
  (k:sF w0 M own id cs w b vs ty) {sz len cap:Nat} (hn:M.cu id sz=none) (hc:cap*sz≤vs.size):cJ w0 (M.cR id sz (.slice (some ⟨b,0,none⟩) len cap)) own σ w:=by
 have le:=MM.fW (v:= .slice (some ⟨b,0,none⟩) len cap) hn
 refine ⟨h.below,h.cells,h.ng,h.owned,?_,?_,?_,?_,h.fV⟩
 ·intro i Ru hi
  by_cases e:i=id
  ·subst e
   rw [hσ] at hi
   cases hi
   refine ⟨b,vs,ty,k.box,k.base,k.own,k.none,k.dZ,k.len,fun j d v a b=>(k.rep j d v a b).mono le,fun Ra a QU RE q=> ?_⟩
   by_cases es:Ra=sz
   ·subst es
    simp only [MM.cR,and_self,if_true,Xv,Value.slice.injEq] at q
    rw [← q.2.2];exact hc
   ·simp only [MM.cR,es,and_false,if_false] at q
    exact k.room Ra a QU RE q
  ·obtain ⟨b',vs',ty',k'⟩:=h.box i Ru hi
   exact ⟨b',vs',ty',k'.box,k'.base,k'.own,k'.none,k'.dZ,k'.len,fun j d v a b=>(k'.rep j d v a b).mono le,fun Ra a QU RE q=>k'.room Ra a QU RE (by simpa [MM.cR,e] using q)⟩
 ·intro i ver Ra hi
  by_cases e:i=id
  ·subst e;rw [hσ] at hi;cases hi
  ·obtain ⟨a,QU,RE,k'⟩:=h.cM i ver Ra hi
   refine ⟨a,QU,RE,le.cu _ _ _ k'.cu,?_,?_⟩
   ·intro v hv
    simp only [MM.cR,e,false_and,if_false]
    exact k'.last v hv
   ·rcases k'.room with r|⟨c,vs2,ty2,fz,ha,r⟩
    ·exact .inl r
    ·exact .inr ⟨c,vs2,ty2,fz,ha,r.base,r.own,r.dZ,r.fz,r.cap,r.none⟩
 ·intro i F hi
  obtain ⟨b',QV,clock,q⟩:=h.mp i F hi
  exact ⟨b',QV,clock,q.box,q.base,q.own,q.none,q.dZ,q.fits⟩
 ·intro i kk t ps ag bd hi
  obtain ⟨l,r,q⟩:=h.lp i kk t ps ag bd hi
  exact ⟨l,r,q.aV le q.own q.dZ⟩
def MM.oQ (M:MM) (b:Nat):MM:= { M with fV:=fun c=>M.fV c∨c=b }
theorem MM.tL (M:MM) (b:Nat):M.Le (M.oQ b):=⟨fun _ _ _ h=>h,fun _ _ h=>h,fun _ _ _ h=>h,fun _ h=> .inl h⟩
theorem cJ.Oe {w0:fg} {w:World} {M:MM} {own:Nat→Option Nat} {σ:Nat→Ob} (h:cJ w0 M own σ w):cJ w0 (M.oQ w.heap.size) own σ (w.alloc (.deferred (some []))):=by
 have le:=M.tL w.heap.size
 have hold:∀ {b:Nat} {o:Obj},w.heap[b]? =some o→(w.alloc (.deferred (some []))).heap[b]? =some o:=fun {b o} hb=>by
  rw [Below.heap_alloc _ _ _ (fG hb),hb]
 refine ⟨h.below.alloc _,?_,h.ng,?_,?_,?_,?_,?_,?_⟩
 ·intro b o v k
  rw [World.cell?_alloc_lt]
  ·exact h.cells b o v k
  ·exact YD w _ (h.cells b o v k)
 ·intro b i k
  rw [World.size_alloc]
  have:=h.owned b i k
  omega
 ·intro i cs hi
  obtain ⟨b,vs,ty,k⟩:=h.box i cs hi
  exact ⟨b,vs,ty,k.box,k.base,k.own,k.none,hold k.dZ,k.len,fun j d v a b=>(k.rep j d v a b).mono le,k.room⟩
 ·intro i ver sz hi
  obtain ⟨a,len,cap,k⟩:=h.cM i ver sz hi
  refine ⟨a,len,cap,k.cu,k.last,?_⟩
  rcases k.room with r|⟨b,vs',ty',fz,ha,r⟩
  ·exact .inl r
  ·exact .inr ⟨b,vs',ty',fz,ha,r.base,r.own,hold r.dZ,r.fz,r.cap,r.none⟩
 ·intro i F hi
  obtain ⟨b,QV,clock,q⟩:=h.mp i F hi
  exact ⟨b,QV,clock,q.box,q.base,q.own,q.none,hold q.dZ,q.fits⟩
 ·intro i k t ps ag bd hi
  obtain ⟨l,r,q⟩:=h.lp i k t ps ag bd hi
  exact ⟨l,r,q.aV le q.own (hold q.dZ)⟩
 ·rintro b (hb|rfl)
  ·exact ⟨(h.fV b hb).1,hold (h.fV b hb).2⟩
  ·refine ⟨h.below.new,?_⟩
   show (w.heap.push _)[w.heap.size]? =_
   simp
theorem cJ.Og {w0:fg} {w:World} {M:MM} {own:Nat→Option Nat} {σ:Nat→Ob} (h:cJ w0 M own σ w) {id:Nat} (RU:M.box id=none) (hh:∀v,M.cu id v=none) {k:Lk} {t:List D} {r:Loop}
  (QT:r.state=k.state) (Wk:k≠ .busy→r.pending=k.KE) (ht:cN M t r.tmps):
  cJ w0 (M.eK id w.heap.size) (iJ own w.heap.size id) (gN σ id (.lp k t r.params r.assign r.body)) (w.alloc (.loop r)):=by
 have le:=MM.iB (b:=w.heap.size) RU
 have hold:∀ {b:Nat} {o:Obj},w.heap[b]? =some o→(w.alloc (.loop r)).heap[b]? =some o:=fun {b o} hb=>by
  rw [Below.heap_alloc _ _ _ (fG hb),hb]
 have Rz:∀ {b i:Nat},own b=some i→iJ own w.heap.size id b=some i:=fun {b i} k=>by
  have:=h.owned b i k
  simp [iJ,show b≠w.heap.size by omega,k]
 refine ⟨h.below.alloc _,?_,h.ng,?_,?_,?_,?_,?_,?_⟩
 ·intro b o v k
  have k':M.cell b o=some v:=k
  rw [World.cell?_alloc_lt]
  ·exact h.cells b o v k'
  ·exact YD w _ (h.cells b o v k')
 ·intro b i k
  rw [World.size_alloc]
  by_cases e:b=w.heap.size
  ·omega
  ·simp only [iJ,e,if_false] at k
   have:=h.owned b i k
   omega
 ·intro i cs hi
  by_cases e:i=id
  ·rw [e,bS] at hi;cases hi
  ·rw [bN e] at hi
   obtain ⟨b,vs,ty,k⟩:=h.box i cs hi
   exact ⟨b,vs,ty,le.box _ _ k.box,k.base,Rz k.own,k.none,hold k.dZ,k.len,fun j d v a b=>(k.rep j d v a b).mono le,k.room⟩
 ·intro i ver sz hi
  by_cases e:i=id
  ·rw [e,bS] at hi;cases hi
  ·rw [bN e] at hi
   obtain ⟨a,len,cap,k⟩:=h.cM i ver sz hi
   refine ⟨a,len,cap,k.cu,k.last,?_⟩
   rcases k.room with r|⟨b,vs',ty',fz,ha,r⟩
   ·exact .inl r
   ·exact .inr ⟨b,vs',ty',fz,ha,r.base,Rz r.own,hold r.dZ,r.fz,r.cap,r.none⟩
 ·intro i F hi
  by_cases e:i=id
  ·rw [e,bS] at hi;cases hi
  ·rw [bN e] at hi
   obtain ⟨b,QV,clock,q⟩:=h.mp i F hi
   exact ⟨b,QV,clock,le.box _ _ q.box,q.base,Rz q.own,q.none,hold q.dZ,q.fits⟩
 ·intro i k2 t2 ps ag bd hi
  by_cases e:i=id
  ·subst e
   rw [bS] at hi
   cases hi
   refine ⟨w.heap.size,r,by simp [MM.eK],h.below.new,by simp [iJ],?_,QT,Wk,ht.mono le,rfl,rfl,rfl⟩
   show (w.heap.push _)[w.heap.size]? =_
   simp
  ·rw [bN e] at hi
   obtain ⟨l,r',q⟩:=h.lp i k2 t2 ps ag bd hi
   exact ⟨l,r',q.aV le (Rz q.own) (hold q.dZ)⟩
 ·intro b hb
  exact ⟨(h.fV b hb).1,hold (h.fV b hb).2⟩
theorem cJ.G9 {w0:fg} {w:World} {M:MM} {own:Nat→Option Nat} {σ:Nat→Ob} (h:cJ w0 M own σ w) {id l:Nat} {k k':Lk} {t:List D} {ps:Array Nat} {ag bd:Code} {r r':Loop}
  (q:JM w0 M own id k t ps ag bd w l r) (o':Ob) (ho:o'= .dead∨(o'= .lp k' t ps ag bd∧r'.state=k'.state∧(k'≠ .busy→r'.pending=k'.KE)∧r'.tmps=r.tmps∧r'.params=r.params∧r'.assign=r.assign∧r'.body=r.body)):
  cJ w0 M own (gN σ id o') (cW w l (.loop r')):=by
 refine ⟨hI h.below q.base _,?_,h.ng,?_,?_,?_,?_,?_,?_⟩
 ·intro c o v hc
  have:c≠l:=fun e=>by
   have:=h.cells c o v hc
   rw [e] at this
   simp [YA,q.dZ] at this
  rw [ff this]
  exact h.cells c o v hc
 ·intro c i hc;rw [gG];exact h.owned c i hc
 ·intro i TE hi
  by_cases e:i=id
  ·rw [e,bS] at hi;rcases ho with rfl|⟨rfl,_⟩<;>cases hi
  ·rw [bN e] at hi
   obtain ⟨c,vs2,ty2,k2⟩:=h.box i TE hi
   have:c≠l:=fun ec=>by have h1:=k2.own;rw [ec,q.own] at h1;exact e (Xo h1).symm
   exact ⟨c,vs2,ty2,k2.box,k2.base,k2.own,k2.none,by rw [bG this];exact k2.dZ,k2.len,k2.rep,k2.room⟩
 ·intro i ver sz hi
  by_cases e:i=id
  ·rw [e,bS] at hi;rcases ho with rfl|⟨rfl,_⟩<;>cases hi
  ·rw [bN e] at hi
   obtain ⟨a,len,cap,k2⟩:=h.cM i ver sz hi
   refine ⟨a,len,cap,k2.cu,k2.last,?_⟩
   rcases k2.room with r|⟨c,vs2,ty2,fz,ha,r⟩
   ·exact .inl r
   ·have:c≠l:=fun ec=>by have h1:=r.own;rw [ec,q.own] at h1;exact e (Xo h1).symm
    exact .inr ⟨c,vs2,ty2,fz,ha,r.base,r.own,by rw [bG this];exact r.dZ,r.fz,r.cap,r.none⟩
 ·intro i F hi
  by_cases e:i=id
  ·rw [e,bS] at hi;rcases ho with rfl|⟨rfl,_⟩<;>cases hi
  ·rw [bN e] at hi
   obtain ⟨c,QV,clock,q2⟩:=h.mp i F hi
   have:c≠l:=fun ec=>by have h1:=q2.own;rw [ec,q.own] at h1;exact e (Xo h1).symm
   exact ⟨c,QV,clock,q2.box,q2.base,q2.own,q2.none,by rw [bG this];exact q2.dZ,q2.fits⟩
 ·intro i k2 t2 V6 WE Wf hi
  by_cases e:i=id
  ·subst e
   rw [bS] at hi
   rcases ho with rfl|⟨rfl,QT,Wk,hr⟩
   ·cases hi
   cases hi
   exact ⟨l,r',q.box,q.base,q.own,gH q.dZ,QT,Wk,by rw [hr.1];exact q.tm,by rw [hr.2.1];exact q.ps,by rw [hr.2.2.1];exact q.ag,by rw [hr.2.2.2];exact q.bd⟩
  ·rw [bN e] at hi
   obtain ⟨l2,r2,q2⟩:=h.lp i k2 t2 V6 WE Wf hi
   have:l2≠l:=fun ec=>by have h1:=q2.own;rw [ec,q.own] at h1;exact e (Xo h1).symm
   exact ⟨l2,r2,q2.aV (.refl _) q2.own (by rw [bG this];exact q2.dZ)⟩
 ·intro c hc
  have:c≠l:=fun ec=>by have h1:=(h.fV c hc).2;rw [ec,q.dZ] at h1;cases h1
  exact ⟨(h.fV c hc).1,by rw [bG this];exact (h.fV c hc).2⟩
def MM.uU (M:MM) (b:Nat):MM:= { M with fV:=fun c=>M.fV c∧c≠b }
theorem cJ.uU {w0:fg} {w:World} {M:MM} {own:Nat→Option Nat} {σ:Nat→Ob} (h:cJ w0 M own σ w) {b:Nat} (hb:M.fV b):cJ w0 (M.uU b) own σ (cW w b (.deferred none)):=by
 obtain ⟨Rd,hblk⟩:=h.fV b hb
 have rb:∀ {d:D} {v:Value},cz M d v→cz (M.uU b) d v:=fun {d v} hr=>hr.Od
 refine ⟨hI h.below Rd _,?_,h.ng,?_,?_,?_,?_,?_,?_⟩
 ·intro c o v hc
  have:c≠b:=fun e=>by
   have:=h.cells c o v hc
   rw [e] at this
   simp [YA,hblk] at this
  rw [ff this]
  exact h.cells c o v hc
 ·intro c i hc;rw [gG];exact h.owned c i hc
 ·intro i TE hi
  obtain ⟨c,vs2,ty2,k2⟩:=h.box i TE hi
  have:c≠b:=fun ec=>by have h1:=k2.dZ;rw [ec,hblk] at h1;cases h1
  exact ⟨c,vs2,ty2,k2.box,k2.base,k2.own,k2.none,by rw [bG this];exact k2.dZ,k2.len,fun j d v p q=>rb (k2.rep j d v p q),k2.room⟩
 ·intro i ver sz hi
  obtain ⟨a,len,cap,k2⟩:=h.cM i ver sz hi
  refine ⟨a,len,cap,k2.cu,k2.last,?_⟩
  rcases k2.room with r|⟨c,vs2,ty2,fz,ha,r⟩
  ·exact .inl r
  ·have:c≠b:=fun ec=>by have h1:=r.dZ;rw [ec,hblk] at h1;cases h1
   exact .inr ⟨c,vs2,ty2,fz,ha,r.base,r.own,by rw [bG this];exact r.dZ,r.fz,r.cap,r.none⟩
 ·intro i F hi
  obtain ⟨c,QV,clock,q2⟩:=h.mp i F hi
  have:c≠b:=fun ec=>by have h1:=q2.dZ;rw [ec,hblk] at h1;cases h1
  exact ⟨c,QV,clock,q2.box,q2.base,q2.own,q2.none,by rw [bG this];exact q2.dZ,q2.fits⟩
 ·intro i k2 t2 V6 WE Wf hi
  obtain ⟨l2,r2,q2⟩:=h.lp i k2 t2 V6 WE Wf hi
  have:l2≠b:=fun ec=>by have h1:=q2.dZ;rw [ec,hblk] at h1;cases h1
  exact ⟨l2,r2,q2.box,q2.base,q2.own,by rw [bG this];exact q2.dZ,q2.st,q2.pd,⟨q2.tm.1,fun i d v p q=>rb (q2.tm.2 i d v p q)⟩,q2.ps,q2.ag,q2.bd⟩
 ·rintro c ⟨hc,RR⟩
  exact ⟨(h.fV c hc).1,by rw [bG RR];exact (h.fV c hc).2⟩
def PH (P:Program) (f:FuncId):Prop:= ∃fn c,P.funcs[f]? =some fn∧fn.body=some c∧(fn.name== "runtime.NumGoroutine")=false
def jY (B:Nat) (w:World) (C:Nat→Nat→Option Value) (sz:Nat) (a:Option Addr) (len cap:Nat):Prop:=
  cap=len∨∃b vs ty fz,a=some ⟨b,0,none⟩∧B≤b∧w.heap[b]? =some (.cells vs ty fz)∧lW fz vs.size∧(cap*sz≤vs.size∧cap≤9223372036854775807)∧∀o,len*sz≤o→C b o=none
def B5 (B:Nat) (w:World) (C:Nat→Nat→Option Value) (d:D) (v:Value):Prop:=
  (∀sz Ra xs,d= .bc (.fresh sz) Ra xs→∃a len cap,v= .slice a len cap∧Ra=sz∧jY B w C sz a len cap)∧
  ∀ds vs,d= .aQ ds→v= .tuple vs→∀(i:Nat) (sz Ra:Nat) (xs:List D),ds[i]? =some (.bc (.fresh sz) Ra xs)→∃a len cap,vs[i]? =some (.slice a len cap)∧Ra=sz∧jY B w C sz a len cap
structure aY (P:Program) (f:FuncId) (args:List D) (d:D):Prop where
  JV:PH P f
  run:∀(w:World) (C:Nat→Nat→Option Value) (vs:Array Value),(∀b o v,C b o=some v→w.cell? ⟨b,o,none⟩=some v)→cN (gn C) args vs→
    Calls P f vs w fun e w'=> ∃v C',e= .returned v∧Ext (gn C) w (gn C') w'∧cz (gn C') d v∧B5 w.heap.size w' C' d v
def gY:YO→YO→Bool
  | .i8,.i8| .i16,.i16| .i32,.i32| .i64,.i64| .u8,.u8| .u16,.u16| .u32,.u32| .u64,.u64=>true
  |_,_=>false
def LK.fits:LK→D→Bool
  | .bool,.bool _=>true
  | .int k,.int k' _=>gY k k'
  | .str,.str _=>true
  |_,_=>false
def ki:List LK→List D→Bool
  | [],[]=>true
  |k::ks,d::ds=>k.fits d&&ki ks ds
  |_,_=>false
def lD:D→D→Bool
  | .bool a,.bool b=>a==b
  | .int _ a,.int _ b=>a==b
  | .str a,.str b=>a.toList==b.toList
  |_,_=>false
def bA:List D→List D→Bool
  | [],[]=>true
  |a::x,b::y=>lD a b&&bA x y
  |_,_=>false
def qv:Value→Value→Bool
  | .bool a,.bool b=>a==b
  | .int _ a,.int _ b=>a==b
  | .string a,.string b=>a.toList==b.toList
  |_,_=>false
def dY:List Value→List Value→Bool
  | [],[]=>true
  |a::x,b::y=>qv a b&&dY x y
  |_,_=>false
def ua (x:List Value):List MapEntry→Nat→Option (Nat×Value)
  | [],_=>none
  |e::es,i=>match e.key with
    | .agg y=>match dY x y.toList with|true=>some (i,e.val)|false=>ua x es (i+1)
    |_=>none
def Iz:List LK→Bool
  | []=>true
  | .str::_=>false
  |_::r=>Iz r
structure xn (P:Program) (t:TypeId) (ks:List LK):Prop where
  PY:Iz ks=true
  check:∀(w:World) (em:Bool) (xs:Array Value),eG ks xs.toList→(Instr.checkKey em 10000 t (.agg xs)).run P w= .ok () w
  find:∀(w:World) (x:Array Value) (l:List MapEntry),eG ks x.toList→(∀e∈l,∃y:Array Value,e.key= .agg y∧eG ks y.toList)→(Instr.findKey t (.agg x) l).run P w= .ok (ua x.toList l 0) w
structure lJ (P:Program) (t:TypeId) (ks:List LK):Prop where
  plain:P.eqGuardType P.depth t=false
  eq:∀(xs ys:Array Value) (w:World),eG ks xs.toList→eG ks ys.toList→(Op.equalIn 10000 t (.agg xs) (.agg ys)).run P w= .ok (dY xs.toList ys.toList) w
inductive Ex where
  |norm
  |exit (id:Nat)
  |ret
def Ex.is:Ex→Exit→Prop
  | .norm,.normal=>True
  | .exit i,.exit j=>i=j
  | .ret,.ret=>True
  |_,_=>False
def ca (s:List Ob):Nat→Ob:=fun i=>s.getD i .dead
def MM.upto (M:MM) (n:Nat):Prop:=(∀id,n≤id→M.box id=none)∧∀id v,n≤id→M.cu id v=none
def FW (r:Option Nat):Fence:= { Fence.wide with round:=r }
def ie (K:Nat→Prop) (M:MM) (ds:List Deferred):Prop:=(∀b,K b→M.fV b)∧∃bs:List Nat,ds=bs.map (fun b=> { target:= .collected b,args:= #[] })∧bs.Nodup∧∀b∈bs,M.fV b∧¬K b
theorem ie.mono {K:Nat→Prop} {M M':MM} {ds:List Deferred} (h:ie K M ds) (le:∀b,M.fV b→M'.fV b):ie K M' ds:=
 let ⟨h0,bs,h1,h2,h3⟩:=h
 ⟨fun b k=>le b (h0 b k),bs,h1,h2,fun b hb=>⟨le b (h3 b hb).1,(h3 b hb).2⟩⟩
structure bM (P:Program) (rd:Bool) (c:Code) (t:List D) (s:List Ob) (ex:Ex) (t':List D) (s':List Ob):Prop where
  run:∀(r:Option Nat),(rd=false→r=none)→∀(K:Nat→Prop) (w0:fg) (M:MM) (own:Nat→Option Nat) (w:World) (a:Act),cJ w0 M own (ca s) w→M.upto s.length→cN M t a.tmps→ie K M a.defers→
    c.wpIn (FW r) 0 P (fun e a' w'=>ex.is e∧∃M' QK,cJ w0 M' QK (ca s') w'∧M'.upto s'.length∧M.Le M'∧cN M' t' a'.tmps∧ie K M' a'.defers) a w
  len:s.length≤s'.length
abbrev lK (P:Program):=bM P true
theorem bM.any {P:Program} {c:Code} {t:List D} {s:List Ob} {ex:Ex} {t':List D} {s':List Ob} (h:lK P c t s ex t' s') (rd:Bool):bM P rd c t s ex t' s':=
 ⟨fun r _=>h.run r (fun e=>by cases e),h.len⟩
def MM.cut (M:MM) (n:Nat):MM:=⟨M.cell,fun i=>if i<n then M.box i else none,fun i v=>if i<n then M.cu i v else none,M.fV⟩
structure cB (P:Program) (n0:Nat) (c:Code) (t:List D) (s:List Ob) (ex:Ex) (t':List D) (s':List Ob):Prop where
  run:∀(r:Option Nat) (K:Nat→Prop) (w0:fg) (M:MM) (own:Nat→Option Nat) (w:World) (a:Act),cJ w0 M own (ca s) w→M.upto s.length→cN M t a.tmps→ie K M a.defers→
    c.wpIn (FW r) 0 P (fun e a' w'=>ex.is e∧∃M' QK,cJ w0 M' QK (ca s') w'∧M'.upto s'.length∧(M.cut n0).Le M'∧cN M' t' a'.tmps∧ie K M' a'.defers) a w
  len:n0≤s'.length
structure HS where
  aV:List Nat
  MQ:List Nat
  ni:List (Nat×Nat)
def oj:List (Int×D)→Int→Option D
  | [],_=>none
  |(a,d)::r,n=>match n==a with|true=>some d|false=>oj r n
def m7:List (Int×D)→Int→D→List (Int×D)
  | [],n,v=> [(n,v)]
  |(a,d)::r,n,v=>match n==a with|true=>(n,v)::r|false=>(a,d)::m7 r n v
def LZ:List (List D×D)→List D→Option D
  | [],_=>none
  |(a,d)::r,n=>match bA n a with|true=>some d|false=>LZ r n
def NH:List (List D×D)→List D→D→List (List D×D)
  | [],n,v=> [(n,v)]
  |(a,d)::r,n,v=>match bA n a with|true=>(n,v)::r|false=>(a,d)::NH r n v
def Fj:List (Int×D)→Int→Nat
  | [],_=>0
  |(a,_)::r,n=>match n==a with|true=>0|false=>Fj r n+1
def Pv:List (List D×D)→List D→Nat
  | [],_=>0
  |(a,_)::r,n=>match bA n a with|true=>0|false=>Pv r n+1
def Pb {α:Type} :List (α×D)→Nat→D→List (α×D)
  | [],_,_=> []
  |(a,_)::r,0,v=>(a,v)::r
  |e::r,i+1,v=>e::Pb r i v
def LK.same:LK→LK→Bool
  | .bool,.bool=>true
  | .int k,.int k'=>gY k k'
  | .str,.str=>true
  |_,_=>false
def zx:List LK→List LK→Bool
  | [],[]=>true
  |a::x,b::y=>a.same b&&zx x y
  |_,_=>false
structure ak (P:Program) (f:FuncId) (args:List D) (s:List Ob) (d:D) (s':List Ob):Prop where
  JV:PH P f
  len:s.length≤s'.length
  run:∀(w0:fg) (M:MM) (own:Nat→Option Nat) (w:World) (vs:Array Value),cJ w0 M own (ca s) w→M.upto s.length→cN M args vs→
    Calls P f vs w fun e w'=> ∃v M' QK,e= .returned v∧cJ w0 M' QK (ca s') w'∧M'.upto s'.length∧M.Le M'∧cz M' d v
def bZ:List D→Option (List D)
  | []=>some []
  |d::r=>match d.cells,bZ r with
    |some c,some cs=>some (c++cs)
    |_,_=>none
inductive Ev (P:Program) where
  |ret (g:FuncId) (as:List D) (d:D) (h:aY P g as d)
  |inl
  |aD (g:FuncId) (ar:List D) (s:List Ob) (d:D) (s':List Ob) (h:ak P g ar s d s')
  |dP (q v:Bool) (h:q=v)
  |len (n m:Nat) (h:n≤m)
  |get (l:List D) (i:Nat) (d:D) (h:l[i]? =some d)
  |fX (l:List D) (i n:Nat) (l':List D) (h:(l.drop i).take n=l'∧i+n≤l.length)
  |dA (l:List D) (i:Nat) (xs l':List D) (h:l.take i++(xs++l.drop (i+xs.length))=l'∧i+xs.length≤l.length)
  |flat (t:TypeId) (ks:List LK) (h:lJ P t ks)
  |aV (l:List (Nat×Ob))
  |fL (cs:List (Nat×Nat×D)) (l:List (Nat×Ob))
  |jQ (es:List (Int×D)) (n:Int) (r:Option D) (h:oj es n=r)
  |Pq (t:TypeId) (ks:List LK) (h:xn P t ks)
  |LX (es:List (List D×D)) (n:List D) (r:Option D) (h:LZ es n=r)
  |code (c:Code) (t:List D) (s:List Ob) (ex:Ex) (t':List D) (s':List Ob) (h:lK P c t s ex t' s')
  |go (n:Nat)
  |JQ (aV:List Nat)
  |raw
  |cl (cs:List D) (h:∀c∈cs,c.clean=true)
  |Jt (ys nc:List D) (h:bZ ys=some nc)
  |head (sp:HS) (n0:Nat) (c:Code) (t:List D) (s:List Ob) (ex:Ex) (t':List D) (s':List Ob) (h:cB P n0 c t s ex t' s')
  |dZ (sp:HS) (n0:Nat) (c:Code) (t:List D) (s:List Ob) (ex:Ex) (t':List D) (s':List Ob) (h:cB P n0 c t s ex t' s')
structure Z (P:Program) where
  o:List (Ev P)
  c:Prop
section
variable {ρ:Type} {P:Program}
def jA (b:Bool) (k:Option ρ):Option ρ:=match b with|true=>k|false=>none
def ask (z:Z P) (b:Bool) (k:Z P→Option ρ):Option ρ:=
  match z.o with
  | .dP q true _::r=>k ⟨r,(q=b)∧z.c⟩
  |_=>none
def xd (z:Z P) (n:Nat) (m:Nat) (k:Z P→Option ρ):Option ρ:=
  match z.o with
  | .len n' m' _::r=>k ⟨r,(n'=n∧m'=m)∧z.c⟩
  |_=>none
def branch (z:Z P) (b:Bool) (k1 k2:Z P→Option ρ):Option ρ:=
  match z.o with
  | .dP q v _::r=>match v with
    |true=>k1 ⟨r,(q=b)∧z.c⟩
    |false=>k2 ⟨r,(q=b)∧z.c⟩
  |_=>none
def mr (z:Z P) (still:Bool) (b:Bool) (k:Z P→Option ρ):Option ρ:=
  match still with
  |true=>jA b (k z)
  |false=>ask z b k
def pick (z:Z P) (l:List D) (i:Nat) (k:Z P→D→Option ρ):Option ρ:=
  match z.o with
  | .get l' i' d _::r=>k ⟨r,(l'=l∧i'=i)∧z.c⟩ d
  |_=>match l[i]? with
    |some d=>k z d
    |none=>none
def Jb (z:Z P) (ys:List D) (k:Z P→List D→Option ρ):Option ρ:=
  match z.o with
  | .Jt VH nc _::r=>k ⟨r,(VH=ys)∧z.c⟩ nc
  |_=>match bZ ys with
    |some nc=>k z nc
    |none=>none
def P3 (z:Z P) (ys:List D) (k:Z P→List D→Option ρ):Option ρ:=
  match z.o with
  | .Jt VH nc _::r=>ask ⟨r,(VH=ys)∧z.c⟩ (Nat.blt 0 ys.length) fun z=>k z nc
  |_=>match bZ ys with
    |some nc=>jA (!ys.isEmpty) (k z nc)
    |none=>none
def IC (z:Z P) (es:List (Int×D)) (n:Int) (k:Z P→Option D→Option ρ):Option ρ:=
  match z.o with
  | .jQ VC n' r _::rest=>k ⟨rest,(VC=es∧n'=n)∧z.c⟩ r
  |_=>none
def MW (z:Z P) (es:List (List D×D)) (n:List D) (k:Z P→Option D→Option ρ):Option ρ:=
  match z.o with
  | .LX VC n' r _::rest=>k ⟨rest,(VC=es∧n'=n)∧z.c⟩ r
  |_=>none
def tG (z:Z P) (t:TypeId) (k:Z P→List LK→Option ρ):Option ρ:=none
def tk:Value→Option D
  | .bool b=>some (.bool b)
  | .int k n=>some (.int k n)
  | .string s=>some (.str s)
  | .pointer none=>some .ik
  | .slice none 0 0=>some (.bc .tight 0 [])
  | .nilFunc=>some .cm
  |_=>none
def jJ:List Value→Option (List D)
  | []=>some []
  |v::r=>match tk v,jJ r with
    |some d,some l=>some (d::l)
    |_,_=>none
def xr:List Value→List D
  | []=> []
  |v::r=>(match tk v with|some d=>d|none=> .undef)::xr r
def fh:Value→D
  | .agg cs=> .agg (xr cs.toList)
  |v=>match tk v with|some d=>d|none=> .undef
def cU (t:List D):Operand→D
  | .tmp i=>t.getD i .undef
  | .const v=>fh v
  | .global _=> .undef
  | .func f=> .fn (.func f) [] []
def isConst:Operand→Bool
  | .const _=>true
  |_=>false
def dR:TypeDesc→Bool
  | .struct _=>true
  | .array _ _=>true
  |_=>false
def known (P:Program) (t:TypeId):Bool:=(P.info? t).isSome
def kv (P:Program) (t:TypeId):Option D:=
  match P.info? t with
  |some i=>match i.zero with|some v=>some (fh v)|none=>none
  |none=>none
def GF (P:Program) (t:TypeId):Bool:=
  match P.info? t with
  |some i=>match i.zero with|some v=>XX v.cells.size 1|none=>false
  |none=>false
def mP (P:Program) (t:TypeId):Bool:=
  match P.info? t with
  |some i=>match i.zero with|some v=>XX v.cells.size i.size|none=>false
  |none=>false
def tw (P:Program) (z:Z P) (dyn:Bool) (t:TypeId) (cs:List D) (off:Nat) (k:Z P→D→Option ρ):Option ρ:=
  match P.underlying t with
  |none=>none
  |some d=>match dR d with
    |true=>jA (known P t) (match dyn with
      |false=>jA (YH (off+P.cellsOf t) cs.length) (k z (.agg ((cs.drop off).take (P.cellsOf t))))
      |true=>match z.o with
        | .fX l i n l' _::r=>k ⟨r,(l=cs∧i=off∧n=P.cellsOf t)∧z.c⟩ (.agg l')
        |_=>none)
    |false=>match dyn with
      |false=>match cs[off]? with|some x=>k z x|none=>none
      |true=>pick z cs off k
def jl (cs:List D) (off:Nat) (xs:List D):List D:=cs.take off++(xs++cs.drop (off+xs.length))
def vX (x:D) (k:D→Option ρ):Option ρ:=match x.plain with|true=>k x|false=>jA x.clean (k x.bu)
def Ag (x:D) (k:D→Option ρ):Option ρ:=match x with
  | .ptr _ _ off=>k (.eV false (.agg []) off)
  | .eV q y off=>k (.eV q y off)
  |x=>vX x k
def qk:List D→(List D→Option ρ)→Option ρ
  | [],k=>k []
  |x::r,k=>Ag x fun y=>qk r fun l=>k (y::l)
def ub (place:Nat→Option (Nat×Nat)) (cells:List D):List (Nat×D)→Option (List D)
  | []=>some cells
  |(i,v)::rest=>match place i,v.cells with
    |some (off,size),some vc=>match XX vc.length size&&YH (off+size) cells.length with
      |true=>ub place (jl cells off vc) rest
      |false=>none
    |_,_=>none
def BJ (P:Program) (t:TypeId) (parts:List (Nat×D)):Option D:=
  match kv P t with
  |none=>none
  |some z=>match z.cells with
    |none=>none
    |some zero=>match P.underlying t with
      |some (.struct fields)=>match fields.toList.all fun f=>known P f.type with
        |true=>match ub (fun i=>((fields[i]?).map fun f=>(f.offset,P.cellsOf f.type))) zero parts with
          |some cs=>some (.agg cs)
          |none=>none
        |false=>none
      |some (.array _ elem)=>match known P elem with
        |true=>match ub (fun i=>some (i*P.cellsOf elem,P.cellsOf elem)) zero parts with
          |some cs=>some (.agg cs)
          |none=>none
        |false=>none
      |_=>none
def l3 (size:Nat) (xs:List D):List (Nat×D)→(List D→Option ρ)→Option ρ
  | [],k=>k xs
  |(i,v)::rest,k=>vX v fun v'=>match v'.cells with
    |some vc=>jA (XX vc.length size&&Nat.blt i xs.length&&vc.all storable) (l3 size (xs.set i v') rest k)
    |none=>none
def AB (z:Z P) (still:Bool) (op:BinOp) (k:YO) (a b:Int) (K:Z P→D→Option ρ):Option ρ:=
  match op with
  | .add=>K z (.int k (k.wrap (a+b)))
  | .sub=>K z (.int k (k.wrap (a - b)))
  | .mul=>K z (.int k (k.wrap (a*b)))
  | .quo=>mr z still (decide (b≠0)) fun z=>K z (.int k (k.wrap (a.tdiv b)))
  | .rem=>mr z still (decide (b≠0)) fun z=>K z (.int k (a.tmod b))
  | .and=>K z (.int k (k.wrap (Xf k.bits a&&&Xf k.bits b).toNat))
  | .or=>K z (.int k (k.wrap (Xf k.bits a|||Xf k.bits b).toNat))
  | .xor=>K z (.int k (k.wrap (Xf k.bits a^^^Xf k.bits b).toNat))
  | .andNot=>K z (.int k (k.wrap (Xf k.bits a&&& ~~~Xf k.bits b).toNat))
  | .eql=>K z (.bool (a==b))
  | .neq=>K z (.bool (a !=b))
  | .lss=>K z (.bool (decide (a<b)))
  | .leq=>K z (.bool (decide (a≤b)))
  | .gtr=>K z (.bool (decide (a>b)))
  | .geq=>K z (.bool (decide (a≥b)))
  |_=>none
def O3 (P:Program) (z:Z P) (t:TypeId) (x y:D) (K:Z P→Bool→Option ρ):Option ρ:=
  match x,y with
  | .bool a,.bool b=>match P.underlying t with|some .bool=>K z (a==b)|_=>none
  | .agg xs,.agg ys=>match z.o with
    | .flat t' ks _::r=>jA (XX t' t&&(ki ks xs&&ki ks ys)) (K ⟨r,z.c⟩ (bA xs ys))
    |_=>none
  | .cm,.cm=>match P.underlying t with|some (.func _ _ _)=>K z true|_=>none
  | .cm,.fn _ _ _=>match P.underlying t with|some (.func _ _ _)=>K z false|_=>none
  | .fn _ _ _,.cm=>match P.underlying t with|some (.func _ _ _)=>K z false|_=>none
  | .ik,.ik=>match P.underlying t with|some (.pointer _)=>K z true|_=>none
  | .ptr _ _ _,.ik=>match P.underlying t with|some (.pointer _)=>K z false|_=>none
  | .eV _ _ _,.ik=>match P.underlying t with|some (.pointer _)=>K z false|_=>none
  |_,_=>none
def Nq (P:Program) (z:Z P) (still:Bool) (op:BinOp) (t:TypeId) (x y:D) (K:Z P→D→Option ρ):Option ρ:=
  match x,y with
  | .int k a,.int k' b=>match op with
    | .shl=>mr z still (decide (0≤b)) fun z=>K z (.int k (k.wrap (a*2^(min b.toNat k.bits))))
    | .shr=>mr z still (decide (0≤b)) fun z=>K z (.int k (a.fdiv (2^(min b.toNat k.bits))))
    |op=>jA (gY k k') (AB z still op k a b K)
  | .str a,.str b=>match op with
    | .eql=>K z (.bool (a.toList==b.toList))
    | .neq=>K z (.bool (!(a.toList==b.toList)))
    |_=>none
  |x,y=>match op with
    | .eql=>O3 P z t x y fun z b=>K z (.bool b)
    | .neq=>O3 P z t x y fun z b=>K z (.bool (!b))
    |_=>none
def O8 (op:UnOp) (x:D) (K:D→Option ρ):Option ρ:=
  match op,x with
  | .neg,.int k n=>K (.int k (k.wrap (0 - n)))
  | .xor,.int k n=>K (.int k (k.wrap (Xf k.bits (if k.signed then -1 else k.max)^^^Xf k.bits n).toNat))
  | .not,.bool b=>K (.bool !b)
  |_,_=>none
def isByte:D→Bool
  | .int .u8 _=>true
  |_=>false
def y9 (b:UInt8):D:= .int .u8 b.toNat
def byteOf:D→UInt8
  | .int _ n=>UInt8.ofNat n.toNat
  |_=>0
def kN (s:ByteArray):List D:=s.data.toList.map y9
def gk (xs:List D):ByteArray:=⟨(xs.map byteOf).toArray⟩
inductive jI where
  |pure (d:D)
  |read (id:Nat) (o:Ob) (d:D)
  |iR (id j:Nat) (d:D)
  |gN (id:Nat) (o o':Ob) (d:D)
  |new (o:Ob) (mk:Nat→D)
  |all (s:List Ob) (d:D)
def Jp (P:Program) (z:Z P) (src dst:TypeId) (x:D) (K:Z P→jI→Option ρ):Option ρ:=
  match P.underlying src,P.underlying dst,x with
  |some _,some (.int k),.int _ n=>K z (.pure (.int k (k.wrap n)))
  |some .string,some .string,.str s=>K z (.pure (.str s))
  |some .string,some (.slice e),.str s=>match P.underlying e with
    |some (.int .u8)=>jA (YH s.size 1099511627776) (K z (.new (.cM 0 1) fun id=> .bc (.tok id 0) 1 (kN s)))
    |_=>none
  |some (.slice e),some .string,.bc _ _ xs=>match P.underlying e with
    |some (.int .u8)=>ask z (xs.all isByte) fun z=>K z (.pure (.str (gk xs)))
    |_=>none
  |_,_,_=>none
def idx (x:D) (K:Int→Option ρ):Option ρ:=match x with| .int _ n=>K n|_=>none
def iV (t:List D) (o:Option Operand) (K:Option Int→Option ρ):Option ρ:=
  match o with
  |none=>K none
  |some x=>idx (cU t x) fun n=>K (some n)
def zu (z:Z P) (o:kp) (sz:Nat) (xs:List D) (lo hi mx:Option Int) (K:Z P→D→Option ρ):Option ρ:=
  match lo,hi,mx with
  |none,none,none=>K z (.bc o.bu sz xs)
  |some l,none,none=>ask z (decide (0≤l∧l≤xs.length)) fun z=>K z (.bc o.bu sz (xs.drop l.toNat))
  |none,some h,none=>ask z (decide (0≤h∧h≤xs.length)) fun z=>K z (.bc .no sz (xs.take h.toNat))
  |some l,some h,none=>ask z (decide (0≤l∧l≤h∧h≤xs.length)) fun z=>K z (.bc .no sz ((xs.take h.toNat).drop l.toNat))
  |none,some h,some m=>ask z (decide (0≤h∧h≤xs.length∧m=h)) fun z=>K z (.bc .tight sz (xs.take h.toNat))
  |some l,some h,some m=>ask z (decide (0≤l∧l≤h∧h≤xs.length∧m=h)) fun z=>K z (.bc .tight sz ((xs.take h.toNat).drop l.toNat))
  |_,_,_=>none
def GY (z:Z P) (id off sz n:Nat) (cp:Option Nat) (lo hi mx:Option Int) (K:Z P→D→Option ρ):Option ρ:=
  match lo,hi,mx with
  |none,none,none=>K z (.sub id off sz n cp)
  |some l,none,none=>ask z (decide (0≤l∧l≤n)) fun z=>K z (.sub id (off+l.toNat*sz) sz (n - l.toNat) (cp.map (· - l.toNat)))
  |none,some h,none=>ask z (decide (0≤h∧h≤n)) fun z=>K z (.sub id off sz h.toNat cp)
  |some l,some h,none=>ask z (decide (0≤l∧l≤h∧h≤n)) fun z=>K z (.sub id (off+l.toNat*sz) sz (h.toNat - l.toNat) (cp.map (· - l.toNat)))
  |none,some h,some m=>ask z (decide (0≤h∧h≤m∧m≤n)) fun z=>K z (.sub id off sz h.toNat (some m.toNat))
  |some l,some h,some m=>ask z (decide (0≤l∧l≤h∧h≤m∧m≤n)) fun z=>K z (.sub id (off+l.toNat*sz) sz (h.toNat - l.toNat) (some (m.toNat - l.toNat)))
  |_,_,_=>none
def rI (P:Program) (z:Z P) (still:Bool) (t:TypeId) (x ix:D) (K:Z P→D→Option ρ):Option ρ:=
  match ix with
  | .int _ i=>match P.underlying t,x with
    |some (.array len elem),.ptr dyn id off=>jA (known P elem) (mr z still (decide (0≤i∧i<len)) fun z=>K z (.ptr (dyn|| !still) id (off+i.toNat*P.cellsOf elem)))
    |some (.array len elem),.eV dyn y off=>jA (known P elem) (mr z still (decide (0≤i∧i<len)) fun z=>K z (.eV (dyn|| !still) y (off+i.toNat*P.cellsOf elem)))
    |some (.slice elem),.bc _ sz xs=>jA (known P elem&&XX (P.cellsOf elem) sz) (mr z still (decide (0≤i)) fun z=>pick z xs i.toNat fun z y=>K z (.eV false y 0))
    |some (.slice elem),.ez id sz n=>jA (known P elem&&XX (P.cellsOf elem) sz) (ask z (decide (0≤i∧i<n)) fun z=>K z (.ptr true id (i.toNat*sz)))
    |some (.slice elem),.sub id off sz n _=>jA (known P elem&&XX (P.cellsOf elem) sz) (ask z (decide (0≤i∧i<n)) fun z=>K z (.ptr true id (off+i.toNat*sz)))
    |_,_=>none
  |_=>none
def IU (P:Program) (z:Z P) (still:Bool) (t:TypeId) (x ix:D) (K:Z P→D→Option ρ):Option ρ:=
  match ix with
  | .int _ i=>match P.underlying t,x with
    |some (.array len elem),.agg cs=>jA (known P elem) (mr z still (decide (0≤i∧i<len)) fun z=>tw P z (!still) elem cs (i.toNat*P.cellsOf elem) K)
    |some .string,.str s=>mr z still (decide (0≤i)) fun z=>pick z (kN s) i.toNat K
    |_,_=>none
  |_=>none
def LN (P:Program) (t:TypeId):Bool:=match P.underlying t with
  |some e=> !dR e
  |none=>false
def L0 (P:Program) (z:Z P) (t:TypeId) (x:D) (s:List Ob) (K:Z P→jI→Option ρ):Option ρ:=
  match x with
  | .ptr dyn id off=>match s.getD id .dead with
    | .box cs=>tw P z dyn t cs off fun z d=>K z (match dyn,LN P t with
      |false,true=> .iR id off d
      |_,_=> .read id (.box cs) d)
    |_=>none
  | .eV dyn y off=>match y.cells with
    |some cs=>tw P z dyn t cs off fun z d=>K z (.pure d)
    |none=>none
  |_=>none
def G0 (P:Program) (z:Z P) (t:TypeId) (x v:D) (s:List Ob) (K:Z P→jI→Option ρ):Option ρ:=
  match x with
  | .ptr dyn id off=>match s.getD id .dead with
    | .box cs=>match v.cells with
      |some vc=>jA (known P t&&XX vc.length (P.cellsOf t)&&vc.all storable) (match dyn with
        |false=>jA (YH (off+vc.length) cs.length) (K z (.gN id (.box cs) (.box (jl cs off vc)) .undef))
        |true=>match z.o with
          | .dA l i xs l' _::r=>K ⟨r,(l=cs∧i=off∧xs=vc)∧z.c⟩ (.gN id (.box cs) (.box l') .undef)
          |_=>none)
      |none=>none
    |_=>none
  |_=>none
def sf (P:Program) (s:TypeId) (x:D) (f:Nat) (K:D→Option ρ):Option ρ:=
  match P.underlying s with
  |some (.struct fields)=>match fields[f]? with
    |some fd=>jA (known P fd.type&&Nat.blt 0 (P.cellsOf fd.type)) (match x with
      | .ptr dyn id off=>K (.ptr dyn id (off+fd.offset))
      | .eV dyn y off=>K (.eV dyn y (off+fd.offset))
      |_=>none)
    |none=>none
  |_=>none
def cV:Nat:=2147483648
def wc (sz:Nat) (xs:List D) (size:Nat):Bool:=XX sz size||xs.isEmpty
def Cb (P:Program) (z:Z P) (elem:TypeId) (id off sz n:Nat) (st:List Ob) (K:Z P→jI→Option ρ):Option ρ:=
  match st.getD id .dead with
  | .box cs=>jA (mP P elem&&XX sz (P.cellsOf elem)&&YH (P.bytesOf elem) 65536)
    (xd z n cV fun z=>match z.o with
      | .go _::r=>match XX sz 1 with
        |true=>(match r with
          | .fX l i k nc _::r=>ask ⟨r,(l=cs∧i=off∧k=n*sz)∧z.c⟩ (nc.all isByte) fun z=>K z (.all (st++ [.cM 0 sz]) (.bc (.tok st.length 0) sz nc))
          |_=>none)
        |false=>none
      |_=>none)
  |_=>none
def IQ (P:Program) (z:Z P) (elem:TypeId) (id off sz n c Ux SG RX n2:Nat) (st:List Ob) (K:Z P→jI→Option ρ):Option ρ:=none
def L3 (P:Program) (z:Z P) (elem:TypeId) (id sz n Ux SG RX n2:Nat) (st:List Ob) (K:Z P→jI→Option ρ):Option ρ:=none
def xe (P:Program) (z:Z P) (ts:Array TypeId) (s x:D) (st:List Ob) (K:Z P→jI→Option ρ):Option ρ:=
  match ts.toList with
  |ty::xt::_=>match P.underlying ty,P.underlying xt with
    |some (.slice elem),some (.slice _)=>match s,x with
      | .bc o sz xs,.bc _ Ra ys=>match z.o with
        | .go 0::r=>none
        | .go (_+1)::r=>none
        |_=>jA (known P elem&&mP P elem&&wc sz xs (P.cellsOf elem)&&wc Ra ys (P.cellsOf elem)&&YH (P.bytesOf elem) 65536)
          (xd z (xs.length+ys.length) cV fun z=>match o with
            | .tight=>K z (.new (.cM 0 (P.cellsOf elem)) fun id=> .bc (.tok id 0) (P.cellsOf elem) (xs++ys))
            | .tok t v=>match st.getD t .dead with
              | .cM v' RX=>jA (XX v' v&&XX RX (P.cellsOf elem)) (K z (.gN t (.cM v' RX) (.cM (v+1) RX) (.bc (.tok t (v+1)) (P.cellsOf elem) (xs++ys))))
              |_=>none
            |_=>none)
      | .ez id sz n,.bc _ Ra ys=>none
      | .ez id sz n,.sub Ux SG RX n2 _=>L3 P z elem id sz n Ux SG RX n2 st K
      | .bc .tight _ [],.ez id sz n=>Cb P z elem id 0 sz n st K
      | .bc .tight _ [],.sub id off sz n _=>Cb P z elem id off sz n st K
      | .sub id off sz n (some c),.sub Ux SG RX n2 _=>IQ P z elem id off sz n c Ux SG RX n2 st K
      |_,_=>none
    |_,_=>none
  |_=>none
def qx (z:Z P) (st:List Ob) (id off n size:Nat) (K:Z P→List D→Nat→Option ρ):Option ρ:=
  match st.getD id .dead with
  | .box cs=>match z.o with
    | .fX l i k nc _::r=>K ⟨r,(l=cs∧i=off∧k=n*size)∧z.c⟩ nc n
    |_=>none
  |_=>none
def Mg (z:Z P) (st:List Ob) (x:D) (size:Nat) (K:Z P→List D→Nat→Option ρ):Option ρ:=
  match x with
  | .bc _ sz ys=>jA (wc sz ys size) (Jb z ys fun z nc=>K z nc ys.length)
  | .ez id sz n=>jA (XX sz size) (qx z st id 0 n size K)
  | .sub id off sz n _=>jA (XX sz size) (qx z st id off n size K)
  |_=>none
def wV (z:Z P) (st:List Ob) (id off n:Nat) (src:D) (K:Z P→jI→Option ρ):Option ρ:=
  Mg z st src 1 fun z nc m=>ask z (YH m n) fun z=>ask z (nc.all isByte) fun z=>match st.getD id .dead with
    | .box cs=>match z.o with
      | .dA l i xs l' _::r=>K ⟨r,(l=cs∧i=off∧xs=nc)∧z.c⟩ (.all (st.set id (.box l')) (.int .i64 m))
      |_=>none
    |_=>none
def Jo (P:Program) (z:Z P) (ts:Array TypeId) (dst src:D) (st:List Ob) (K:Z P→jI→Option ρ):Option ρ:=
  match ts.toList with
  |ty::_=>match P.underlying ty with
    |some (.slice e)=>jA (known P e&&XX (P.cellsOf e) 1) (match dst with
      | .ez id sz n=>jA (XX sz 1) (wV z st id 0 n src K)
      | .sub id off sz n _=>jA (XX sz 1) (wV z st id off n src K)
      |_=>none)
    |_=>none
  |_=>none
def M7 (P:Program) (t:TypeId) (x:D) (K:D→Option ρ):Option ρ:=
  match P.underlying t,x with
  |some .string,.str s=>K (.int .i64 s.size)
  |some (.array n _),_=>K (.int .i64 n)
  |some (.slice _),.bc _ _ xs=>K (.int .i64 xs.length)
  |some (.slice _),.ez _ _ n=>K (.int .i64 n)
  |some (.slice _),.sub _ _ _ n _=>K (.int .i64 n)
  |_,_=>none
def MU (x y:D) (K:D→Option ρ):Option ρ:=
  match x,y with
  | .int k a,.int _ b=>K (.int k (if b<a then b else a))
  |_,_=>none
def MY (x y:D) (K:D→Option ρ):Option ρ:=
  match x,y with
  | .int k a,.int _ b=>K (.int k (if b>a then b else a))
  |_,_=>none
def rF:D→Bool
  | .int _ _=>true
  | .bool _=>true
  | .str _=>true
  |_=>false
def kG (P:Program) (t:TypeId):Option (YO×TypeId):=match P.underlying t with
  |some (.map kt et)=>match P.underlying kt with
    |some (.int k)=>some (k,et)
    |_=>none
  |_=>none
def wm (P:Program) (t:TypeId):Option (TypeId×TypeId):=match P.underlying t with
  |some (.map kt et)=>some (kt,et)
  |_=>none
def qq (P:Program) (z:Z P) (t:TypeId) (K:Z P→jI→Option ρ):Option ρ:=
  match kG P t with
  |some (k,_)=>K z (.new (.mp k []) fun id=> .gj id)
  |none=>match wm P t with
    |some (kt,_)=>tG z kt fun z ks=>K z (.new (.mf ks []) fun id=> .gj id)
    |none=>none
def qp (P:Program) (z:Z P) (t:TypeId) (m k v:D) (s:List Ob) (K:Z P→jI→Option ρ):Option ρ:=
  match m,k with
  | .gj id,.int q n=>match s.getD id .dead,kG P t with
    | .mp q' es,some (q2,_)=>jA (gY q q'&&gY q q2&&rF v) (K z (.gN id (.mp q' es) (.mp q' (m7 es n v)) .undef))
    |_,_=>none
  | .gj id,.agg cs=>match s.getD id .dead,wm P t with
    | .mf ks es,some (kt,_)=>tG z kt fun z Uj=>jA (zx Uj ks&&ki ks cs&&rF v) (K z (.gN id (.mf ks es) (.mf ks (NH es cs v)) .undef))
    |_,_=>none
  |_,_=>none
def wo (P:Program) (z:Z P) (t:TypeId) (m k:D) (s:List Ob) (K:Z P→jI→Option ρ):Option ρ:=none
def pw (P:Program) (z:Z P) (m n v:D) (s:List Ob) (K:Z P→jI→Option ρ):Option ρ:=none
def yy (P:Program) (z:Z P) (t:TypeId) (m k:D) (ok:Bool) (s:List Ob) (K:Z P→jI→Option ρ):Option ρ:=
  match m,k with
  | .gj id,.int q n=>match s.getD id .dead,kG P t with
    | .mp q' es,some (q2,et)=>match kv P et with
      |some zd=>jA (gY q q'&&gY q q2) (IC z es n fun z r=>match r,ok with
        |some d,true=>K z (.read id (.mp q' es) (.aQ [d,.bool true]))
        |some d,false=>K z (.read id (.mp q' es) d)
        |none,true=>K z (.read id (.mp q' es) (.aQ [zd,.bool false]))
        |none,false=>K z (.read id (.mp q' es) zd))
      |none=>none
    |_,_=>none
  | .gj id,.agg cs=>match s.getD id .dead,wm P t with
    | .mf ks es,some (kt,et)=>match kv P et with
      |some zd=>tG z kt fun z Uj=>jA (zx Uj ks&&ki ks cs) (MW z es cs fun z r=>match r,ok with
        |some d,true=>K z (.read id (.mf ks es) (.aQ [d,.bool true]))
        |some d,false=>K z (.read id (.mf ks es) d)
        |none,true=>K z (.read id (.mf ks es) (.aQ [zd,.bool false]))
        |none,false=>K z (.read id (.mf ks es) zd))
      |none=>none
    |_,_=>none
  |_,_=>none
def xZ (n:Nat):List D→List D
  | [d]=>Xg n d
  |zc=>(Xg n zc).flatten
def LY (P:Program) (z:Z P) (t:TypeId) (l c:D) (K:Z P→jI→Option ρ):Option ρ:=
  match P.underlying t,l,c with
  |some (.slice e),.int _ n,.int _ m=>match kv P e with
    |some zd=>match zd.cells with
      |some zc=>match z.o with
        | .go 5::r=>jA (known P e&&XX zc.length (P.cellsOf e)&&Nat.blt 0 zc.length&&YH (P.bytesOf e) 65536&&zc.all storable)
          (ask ⟨r,z.c⟩ (decide (0≤n∧n=m∧n≤2147483648)) fun z=>K z (.pure (.bc .tight (P.cellsOf e) (Xg n.toNat zd))))
        |_=>jA (known P e&&XX zc.length (P.cellsOf e)&&Nat.blt 0 zc.length&&YH (P.bytesOf e) 65536)
          (ask z (decide (0≤n∧n=m∧n≤2147483648)) fun z=>K z (.new (.box (xZ n.toNat zc)) fun id=> .ez id (P.cellsOf e) n.toNat))
      |none=>none
    |none=>none
  |_,_,_=>none
def ja (id:Nat):List D→Option (List D×Nat)
  | []=>none
  | .bc (.fresh sz) Ra xs::r=>some (.bc (.tok id 0) Ra xs::r.map D.bu,sz)
  |d::r=>match ja id r with
    |some (l,sz)=>some (d::l,sz)
    |none=>none
def mw (id:Nat) (d:D):D×Ob:=
  match d with
  | .bc (.fresh sz) Ra xs=>(.bc (.tok id 0) Ra xs,.cM 0 sz)
  | .aQ ds=>match ja id ds with
    |some (l,sz)=>(.aQ l,.cM 0 sz)
    |none=>(.aQ ds,.dead)
  |d=>(d,.dead)
mutual
def force:D→(D→Option ρ)→Option ρ
  | .undef,K=>K .undef
  | .int k n,K=>K (.int k n)
  | .bool b,K=>K (.bool b)
  | .str s,K=>K (.str s)
  | .ik,K=>K .ik
  | .ptr dyn id off,K=>K (.ptr dyn id off)
  | .eV dyn x off,K=>K (.eV dyn x off)
  | .gj id,K=>K (.gj id)
  | .je id,K=>K (.je id)
  | .ez id sz n,K=>K (.ez id sz n)
  | .sub id off sz n cp,K=>K (.sub id off sz n cp)
  | .bc o sz xs,K=>K (.bc o sz xs)
  | .cm,K=>K .cm
  | .fn f a b,K=>iY a fun a'=>iY b fun b'=>K (.fn f a' b')
  | .agg cs,K=>iY cs fun l=>K (.agg l)
  | .aQ cs,K=>iY cs fun l=>K (.aQ l)
def iY:List D→(List D→Option ρ)→Option ρ
  | [],K=>K []
  |d::r,K=>force d fun d'=>iY r fun l=>K (d'::l)
end
def Du:List D→Nat→D→(List D→Option ρ)→Option ρ
  | [],_,_,K=>K []
  |_::r,0,d,K=>K (d::r)
  |a::r,i+1,d,K=>Du r i d fun l=>K (a::l)
def put (t:List D) (dst:Option Nat) (d:D):List D:=match dst with|some i=>t.set i d|none=>t
def m9 (t:List D) (dst:Option Nat) (d:D) (K:List D→Option ρ):Option ρ:=match dst with
  |some i=>force d fun d'=>Du t i d' K
  |none=>K t
def kz:List Ob→Nat→Ob→(List Ob→Option ρ)→Option ρ
  | [],_,_,K=>K []
  |_::r,0,d,K=>K (d::r)
  |a::r,i+1,d,K=>kz r i d fun l=>K (a::l)
def qt:List (List D×D)→(List (List D×D)→Option ρ)→Option ρ
  | [],K=>K []
  |e::r,K=>iY e.1 fun n=>force e.2 fun d=>qt r fun l=>K ((n,d)::l)
def wz:Ob→(Ob→Option ρ)→Option ρ
  | .dead,K=>K .dead
  | .box cs,K=>iY cs fun l=>K (.box l)
  | .cM v sz,K=>K (.cM v sz)
  | .mp k es,K=>K (.mp k es)
  | .mf ks es,K=>qt es fun l=>K (.mf ks l)
  | .lp k t ps ag bd,K=>iY t fun l=>K (.lp k l ps ag bd)
def pn (z:Z P) (o:Ob) (k:Z P→Ob→Option ρ):Option ρ:=match z.o with
  | .raw::r=>k ⟨r,z.c⟩ o
  |_=>wz o fun o2=>k z o2
def nq:List Ob→Ob→(List Ob→Option ρ)→Option ρ
  | [],o,K=>K [o]
  |a::r,o,K=>nq r o fun l=>K (a::l)
inductive Tg where
  |fn (f:FuncId)
  |yl (id:Nat)
abbrev C7 (P:Program) (ρ:Type):=Tg→List D→List Ob→Z P→(D→List Ob→Z P→Option ρ)→Option ρ
def Nh (z:Z P) (d:D) (s:List Ob) (K:Z P→jI→Option ρ):Option ρ:=
  match z.o with
  | .go 777777::r=>match d with
    | .ez id sz n=>match s.getD id .dead with
      | .box cs=>jA (XX sz 1) (ask ⟨r,z.c⟩ (XX cs.length n&&cs.all isByte) fun z=>K z (.all (s.set id .dead) (.bc .no 1 cs)))
      |_=>none
    |_=>none
  |_=>K z (.all s d)
def C1 (P:Program) (inl:C7 P ρ) (g:FuncId) (args:List D) (s:List Ob) (z:Z P) (K:Z P→jI→Option ρ):Option ρ:=
  match z.o with
  | .inl::r=>inl (.fn g) args s ⟨r,z.c⟩ fun d s' z=>Nh z d s' K
  | .aD g' ar s1 d Um _::r=>jA (XX g' g) (K ⟨r,(ar=args∧s1=s)∧z.c⟩ (.all Um d))
  | .ret g' as d _::r=>jA (XX g' g) (qk args fun as'=>K ⟨r,(as=as')∧z.c⟩ (.new (mw 0 d).2 fun id=>(mw id d).1))
  |_=>none
def NC (P:Program) (inl:C7 P ρ) (id:Nat) (args:List D) (s:List Ob) (z:Z P) (K:Z P→jI→Option ρ):Option ρ:=
  match z.o with
  | .inl::r=>inl (.yl id) args s ⟨r,z.c⟩ fun d s' z=>K z (.all s' d)
  |_=>none
def OW (P:Program) (inl:C7 P ρ) (o:Oper) (t:List D) (s:List Ob) (z:Z P) (K:Z P→jI→Option ρ):Option ρ:=
  match o.op with
  | .move x=>K z (.pure (cU t x))
  | .assign x=>K z (.pure (cU t x))
  | .pick c a b=>match cU t c with
    | .bool q=>branch z q (fun z=>K z (.pure (cU t a))) (fun z=>K z (.pure (cU t b)))
    |_=>none
  | .box _ x=>match (cU t x).cells with
    |some cs=>K z (.new (.box cs) fun id=> .ptr false id 0)
    |none=>none
  | .alloc e=>match kv P e with
    |some d=>match d.cells with
      |some cs=>K z (.new (.box cs) fun id=> .ptr false id 0)
      |none=>match GF P e with
        |true=>K z (.new (.box [.undef]) fun id=> .ptr false id 0)
        |false=>none
    |none=>none
  | .build ty parts=>match BJ P ty (parts.toList.map fun p=>(p.1,cU t p.2)) with
    |some d=>K z (.pure d)
    |none=>none
  | .buildSlice ty len parts=>match P.underlying ty with
    |some (.slice e)=>match kv P e with
      |some d=>match d.cells with
        | some zc => jA (known P e && XX zc.length (P.cellsOf e) && YH (len * P.cellsOf e) 16777216 && d.plain && zc.all storable)
            (l3 (P.cellsOf e) (Xg len d) (parts.toList.map fun p=>(p.1,cU t p.2)) fun xs=>K z (.pure (.bc .tight (P.cellsOf e) xs)))
        |none=>none
      |none=>none
    |_=>none
  | .load ty a=>L0 P z ty (cU t a) s K
  | .store ty a x=>G0 P z ty (cU t a) (cU t x) s K
  | .nilCheck x=>match cU t x with
    | .ptr dyn id off=>K z (.pure (.ptr dyn id off))
    | .eV dyn y off=>K z (.pure (.eV dyn y off))
    | .fn (.func g) a b=>K z (.pure (.fn (.func g) a b))
    |_=>none
  | .binOp op ty x y _=>Nq P z (isConst y) op ty (cU t x) (cU t y) fun z d=>K z (.pure d)
  | .unOp op _ x=>O8 op (cU t x) fun d=>K z (.pure d)
  | .convert src dst x=>Jp P z src dst (cU t x) K
  | .makeFunc f first cap=>K z (.pure (.fn f (first.toList.map (cU t)) (cap.toList.map (cU t))))
  | .slice ty x lo hi mx=>match P.underlying ty,cU t x with
    |some (.slice e),.bc o' sz xs=>jA (known P e&&XX (P.cellsOf e) sz) (iV t lo fun l=>iV t hi fun h=>iV t mx fun m=>zu z o' sz xs l h m fun z d=>K z (.pure d))
    |some (.slice e),.ez id sz n=>jA (known P e&&XX (P.cellsOf e) sz) (iV t lo fun l=>iV t hi fun h=>iV t mx fun m=>GY z id 0 sz n none l h m fun z d=>K z (.pure d))
    |some (.slice e),.sub id off sz n cp=>jA (known P e&&XX (P.cellsOf e) sz) (iV t lo fun l=>iV t hi fun h=>iV t mx fun m=>GY z id off sz n cp l h m fun z d=>K z (.pure d))
    |some (.array n e),.ptr _ id off=>jA (known P e) (iV t lo fun l=>iV t hi fun h=>iV t mx fun m=>GY z id off (P.cellsOf e) n (some n) l h m fun z d=>K z (.pure d))
    |_,_=>none
  | .fieldAddr ty x f=>sf P ty (cU t x) f fun d=>K z (.pure d)
  | .field ty x f=>match P.underlying ty,cU t x with
    |some (.struct fields),.agg cs=>match fields[f]? with
      |some fd=>tw P z false fd.type cs fd.offset fun z d=>K z (.pure d)
      |none=>none
    |_,_=>none
  | .indexAddr ty x ix=>rI P z (isConst ix) ty (cU t x) (cU t ix) fun z d=>K z (.pure d)
  | .index ty x ix=>IU P z (isConst ix) ty (cU t x) (cU t ix) fun z d=>K z (.pure d)
  | .extract x i=>match cU t x with
    | .aQ ds=>match ds[i]? with
      |some d=>K z (.pure d)
      |none=>none
    |_=>none
  | .call c=>match c.callee with
    | .builtin .len=>match c.args.toList,c.argTypes.toList with
      |x::_,ty::_=>M7 P ty (cU t x) fun d=>K z (.pure d)
      |_,_=>none
    | .builtin .append=>match c.args.toList with
      |x::y::_=>xe P z c.argTypes (cU t x) (cU t y) s K
      |_=>none
    | .builtin .min=>match c.args.toList with
      | [x,y]=>MU (cU t x) (cU t y) fun d=>K z (.pure d)
      |_=>none
    | .builtin .max=>match c.args.toList with
      | [x,y]=>MY (cU t x) (cU t y) fun d=>K z (.pure d)
      |_=>none
    | .builtin .copy=>match c.args.toList with
      |x::y::_=>Jo P z c.argTypes (cU t x) (cU t y) s K
      |_=>none
    | .value f=>match cU t f with
      | .fn (.func g) first cap=>C1 P inl g (first++(c.args.toList.map (cU t)++cap)) s z K
      | .je id=>NC P inl id (c.args.toList.map (cU t)) s z K
      |_=>none
    |_=>none
  | .makeMap ty r=>match r with
    |none=>qq P z ty K
    |some x=>idx (cU t x) fun _=>qq P z ty K
  | .insert ty m k v=>qp P z ty (cU t m) (cU t k) (cU t v) s K
  | .mapUpdate ty m k v=>qp P z ty (cU t m) (cU t k) (cU t v) s K
  | .lookup ty m k ok=>yy P z ty (cU t m) (cU t k) ok s K
  | .mapEntry ty m k=>wo P z ty (cU t m) (cU t k) s K
  | .entryStore _ m n v=>pw P z (cU t m) (cU t n) (cU t v) s K
  | .makeSlice ty l c=>LY P z ty (cU t l) (cU t c) K
  |_=>none
def ke (ops:Array Oper) (t:List D) (j:Nat):D:=match ops[j]? with
  |some o=>match o.dst with|some i=>t.getD i .undef|none=> .undef
  |none=> .undef
def jG (i:Nat):List Nat→Bool
  | []=>false
  |a::r=>match XX a i with|true=>true|false=>jG i r
inductive FP where
  |MS
  |rd (id:Nat)
  |sO (id j:Nat)
  |wr (id:Nat)
  |nw (id:Nat)
  |all (l:List Nat) (kc:List (Nat×Nat))
def CS (s s':List Ob):List (Nat×Ob)→Prop→Prop
  | [],c=>c
  |(i,o)::r,c=>CS s s' r ((o=s.getD i .dead∧o=s'.getD i .dead)∧c)
def mN:List (Nat×Ob)→List Nat
  | []=> []
  |(i,_)::r=>i::mN r
def gM:Ob→Nat→Option D
  | .box cs,j=>cs[j]?
  |_,_=>none
def Js (s s':List Ob):List (Nat×Nat×D)→Prop→Prop
  | [],c=>c
  |(i,j,d)::r,c=>Js s s' r ((some d=gM (s.getD i .dead) j∧some d=gM (s'.getD i .dead) j)∧c)
def oC:List (Nat×Nat×D)→List (Nat×Nat)
  | []=> []
  |(i,j,_)::r=>(i,j)::oC r
def Ar (i j:Nat):List (Nat×Nat)→Bool
  | []=>false
  |(a,b)::r=>match XX a i,XX b j with|true,true=>true|_,_=>Ar i j r
def rE (n:Nat):List (Nat×Ob)→Bool
  | []=>true
  |(i,_)::r=>match Nat.blt i n with|true=>rE n r|false=>false
def CQ (z:Z P) (s s':List Ob) (k:Z P→List Nat→List (Nat×Nat)→Option ρ):Option ρ:=
  match z.o with
  | .aV l::r=>jA (rE s.length l) (k ⟨r,CS s s' l z.c⟩ (mN l) [])
  | .fL cs l::r=>jA (rE s.length l) (k ⟨r,Js s s' cs (CS s s' l z.c)⟩ (mN l) (oC cs))
  |_=>k z [] []
def ma (P:Program) (inl:C7 P ρ) (ops:Array Oper):List Oper→List D→List Ob→List FP→Z P→(List D→List Ob→List FP→Z P→Option ρ)→Option ρ
  | [],t,s,Sp,z,K=>K t s Sp z
  |o::rest,t,s,Sp,z,K=>
    let run:=fun z=>OW P inl o t s z fun z e=>match e with
      | .pure d=>m9 t o.dst d fun t'=>ma P inl ops rest t' s (.MS::Sp) z K
      | .read id _ d=>m9 t o.dst d fun t'=>ma P inl ops rest t' s (.rd id::Sp) z K
      | .iR id j d=>m9 t o.dst d fun t'=>ma P inl ops rest t' s (.sO id j::Sp) z K
      | .gN id _ o' d=>m9 t o.dst d fun t'=>pn z o' fun z o2=>kz s id o2 fun s'=>ma P inl ops rest t' s' (.wr id::Sp) z K
      | .new o' mk=>m9 t o.dst (mk s.length) fun t'=>pn z o' fun z o2=>nq s o2 fun s'=>ma P inl ops rest t' s' (.nw s.length::Sp) z K
      | .all s' d=>m9 t o.dst d fun t'=>CQ z s s' fun z l kc=>ma P inl ops rest t' s' (.all l kc::Sp) z K
    match o.guard with
    |none=>run z
    |some (j,want)=>match ke ops t j with
      | .bool b=>branch z (b==want) run (fun z=>m9 t o.dst (.aQ []) fun t'=>ma P inl ops rest t' s (.MS::Sp) z K)
      | .aQ []=>m9 t o.dst (.aQ []) fun t'=>ma P inl ops rest t' s (.MS::Sp) z K
      |_=>none
def iC:List Oper→List Nat→List Nat
  | [],acc=>acc
  |o::rest,acc=>iC rest (acc++ [o.after.toList.foldl (fun m e=>match Region.binds .any e with|true=>m|||(1<<<e.on)|||acc.getD e.on 0|false=>m) 0])
def hZ:FP→FP→Bool
  | .MS,_=>false
  |_,.MS=>false
  | .all l _,.rd i=> !jG i l
  | .rd i,.all l _=> !jG i l
  | .all l kc,.sO i j=> !jG i l&& !Ar i j kc
  | .sO i j,.all l kc=> !jG i l&& !Ar i j kc
  | .all _ _,_=>true
  |_,.all _ _=>true
  | .rd _,.rd _=>false
  | .rd _,.sO _ _=>false
  | .sO _ _,.rd _=>false
  | .sO _ _,.sO _ _=>false
  | .sO i _,.wr j=>XX i j
  | .sO i _,.nw j=>XX i j
  | .wr i,.sO j _=>XX i j
  | .nw i,.sO j _=>XX i j
  | .rd i,.wr j=>XX i j
  | .rd i,.nw j=>XX i j
  | .wr i,.rd j=>XX i j
  | .wr i,.wr j=>XX i j
  | .wr i,.nw j=>XX i j
  | .nw i,.rd j=>XX i j
  | .nw i,.wr j=>XX i j
  | .nw i,.nw j=>XX i j
def GO (xs:List Operand):List Nat:=xs.filterMap fun x=>match x with| .tmp i=>some i|_=>none
def rA (ops:Array Oper) (o:Oper):List Nat:=
  GO o.op.operands.toList++(match o.guard with
    |some (j,_)=>match ops[j]? with
      |some q=>q.dst.toList
      |none=> []
    |none=> [])
def share (ops:Array Oper) (x y:Oper):Bool:=
  (match x.dst with|some d=>(rA ops y).contains d||y.dst==some d|none=>false)||(match y.dst with|some d=>(rA ops x).contains d|none=>false)
def nC (ops:Array Oper) (Sp:List FP):Bool:=
  let l:=ops.toList
  let ah:=iC l []
  let f:=Sp.reverse
  (XX f.length l.length)&&
  (Xt l.length).all fun j=>
    (match l[j]? with
     |some o=>o.after.all fun e=> !Region.binds .any e||Nat.blt e.on j
     |none=>false)&&
    (Xt j).all fun i=>(ah.getD j 0).testBit i||
      (match l[i]?,l[j]? with
       |some x,some y=> !share ops x y
       |_,_=>false)&& !hZ (f.getD i (.all [] [])) (f.getD j (.all [] []))
mutual
def ny (n:Nat):D→Bool
  | .ptr _ id _=>Nat.blt id n
  | .gj id=>Nat.blt id n
  | .je id=>Nat.blt id n
  | .ez id _ _=>Nat.blt id n
  | .sub id _ _ _ _=>Nat.blt id n
  | .bc (.tok id _) _ _=>Nat.blt id n
  | .fn _ a b=>lT n a&&lT n b
  | .agg cs=>lT n cs
  | .aQ cs=>lT n cs
  |_=>true
def lT (n:Nat):List D→Bool
  | []=>true
  |d::r=>ny n d&&lT n r
end
def eC:Nat:=1000000
def jg (t:List D) (s:List Ob) (k:Nat):D:=match YH eC k with
  |false=>t.getD k .undef
  |true=>match s.getD ((k - eC) / 1000) .dead with
    | .box cs=>cs.getD ((k - eC)%1000) .undef
    |_=> .undef
def rM (s:List Ob) (size id:Nat) (d:D):Option (D×Option Nat×Ob):=
  match d with
  | .bc .tight sz xs=>match wc sz xs size with
    |true=>some (.bc (.tok id 0) size xs,none,.cM 0 size)
    |false=>none
  | .bc (.tok i v) sz xs=>match s.getD i .dead with
    | .cM v' RX=>match XX v' v&&(XX RX size&&wc sz xs size) with
      |true=>some (.bc (.tok id 0) size xs,some i,.cM 0 size)
      |false=>none
    |_=>none
  | .ez i sz n=>match s.getD i .dead with
    | .box cs=>match XX sz size with
      |true=>some (.ez id sz n,some i,.box (cs.map D.bu))
      |false=>none
    |_=>none
  |_=>none
def yG (t:List D) (s:List Ob):List (Nat×Nat)→Nat→Option (List (Option Nat)×List Ob)
  | [],_=>some ([],[])
  |(k,size)::r,id=>match rM s size id (jg t s k),yG t s r (id+1) with
    |some (_,o,ob),some (l,MQ)=>some (o::l,ob::MQ)
    |_,_=>none
def findF (i:Nat):List (Nat×Nat)→Nat→Option (Nat×Nat)
  | [],_=>none
  |(k,size)::r,id=>match XX k i with|true=>some (id,size)|false=>findF i r (id+1)
def Jc (i:Nat) (fs:List (Nat×Nat)) (n0:Nat):Option (Nat×Nat):=match YH eC i with|true=>none|false=>findF i fs n0
def CV (i j:Nat) (fs:List (Nat×Nat)) (n0:Nat):Option (Nat×Nat):=match Nat.blt j 1000 with|true=>findF (eC+i*1000+j) fs n0|false=>none
def G3 (sp:HS) (n0:Nat) (s:List Ob) (i:Nat) (d:D):Option D:=
  match Jc i sp.ni n0 with
  |some (id,size)=>match rM s size id d with|some (d',_)=>some d'|none=>none
  |none=>match jG i sp.aV with
    |true=>match ny n0 d with|true=>some d|false=>none
    |false=>match jG (eC+i) sp.aV with
      |true=>match d with| .agg cs=>some (.agg (cs.map D.bu))|_=>none
      |false=>some .undef
def qL (sp:HS) (n0:Nat) (s:List Ob):Nat→List D→Option (List D)
  |_,[]=>some []
  |i,d::r=>match G3 sp n0 s i d,qL sp n0 s (i+1) r with
    |some d',some l=>some (d'::l)
    |_,_=>none
def sZ (i:Nat):List (Option Nat)→Bool
  | []=>false
  |none::r=>sZ i r
  |some a::r=>match XX a i with|true=>true|false=>sZ i r
def uf:List (Option Nat)→Bool
  | []=>true
  |none::r=>uf r
  |some a::r=> !sZ a r&&uf r
def pA (sp:HS) (n0:Nat) (s:List Ob) (i:Nat):Nat→List D→Option (List D)
  |_,[]=>some []
  | j, d :: r => match (match CV i j sp.ni n0 with
      |some (id,size)=>(match rM s size id d with|some (d',_)=>some d'|none=>none)
      |none=>(match ny n0 d with|true=>some d|false=>none)),pA sp n0 s i (j+1) r with
    |some d',some l=>some (d'::l)
    |_,_=>none
def OY (sp:HS) (n0:Nat) (s:List Ob) (used:List (Option Nat)) (i:Nat) (o:Ob):Option Ob:=
  match jG (eC+i) sp.MQ&& !sZ i used with
  |true=>match o with
    | .box cs=>some (.box (cs.map D.bu))
    |_=>none
  |false=>match jG i sp.MQ&& !sZ i used with
    |false=>some .dead
    |true=>match o with
      | .box cs=>match pA sp n0 s i 0 cs with|some Ru=>some (.box Ru)|none=>none
      | .lp k t ps ag bd=>match lT n0 t with|true=>some (.lp k t ps ag bd)|false=>none
      |o=>some o
def Ew (sp:HS) (n0:Nat) (s0:List Ob) (used:List (Option Nat)) (new:List Ob):Nat→Nat→List Ob→Option (List Ob)
  |0,_,_=>some new
  |_+1,_,[]=>none
  |n+1,i,o::r=>match OY sp n0 s0 used i o,Ew sp n0 s0 used new n (i+1) r with
    |some o',some l=>some (o'::l)
    |_,_=>none
def oo (sp:HS) (n0:Nat) (t:List D) (s:List Ob):Option (List D×List Ob):=
  match yG t s sp.ni n0 with
  |some (used,new)=>match uf used with
    |true=>match qL sp n0 s 0 t,Ew sp n0 s used new n0 0 s with
      |some t',some s'=>some (t',s')
      |_,_=>none
    |false=>none
  |none=>none
def C3 (s:List Ob) (i:Nat):List (List D):=match s.getD i .dead with| .box cs=> [cs]|_=> []
def pj (s:List Ob):List Nat→List (List D)
  | []=> []
  |o::r=>match YH eC o with
    |true=>C3 s (o - eC)++pj s r
    |false=>pj s r
def wy (t:List D) (s:List Ob):List (Nat×Nat)→List (List D)
  | []=> []
  |(k,_)::r=>(match jg t s k with| .ez i _ _=>C3 s i|_=> [])++wy t s r
def wx (t:List D):List Nat→List (List D)
  | []=> []
  |o::r=>(match YH eC o with
    |true=>match t.getD (o - eC) .undef with| .agg cs=> [cs]|_=> []
    |false=> [])++wx t r
def wv (sp:HS) (t:List D) (s:List Ob):List (List D):=pj s sp.MQ++(wy t s sp.ni++wx t sp.aV)
def Gg:List (List D)→Z P→(Z P→Option ρ)→Option ρ
  | [],z,k=>k z
  |cs::r,z,k=>match z.o with
    | .cl Ru _::o=>Gg r ⟨o,(Ru=cs)∧z.c⟩ k
    |_=>none
def iter (body:List D→List Ob→Z P→(Ex→List D→List Ob→Z P→Option ρ)→Option ρ):Nat→List D→List Ob→Z P→(Ex→List D→List Ob→Z P→Option ρ)→Option ρ
  |0,_,_,_,_=>none
  |n+1,t,s,z,K=>body t s z fun ex t' s' z=>match ex with
    | .norm=>iter body n t' s' z K
    |e=>K e t' s' z
def kH (aV:List Nat):Nat→List D→List D
  |_,[]=> []
  |i,d::r=>(match jG i aV with|true=>d|false=> .undef)::kH aV (i+1) r
def lZ:List D→List (Nat×D)→List D
  |t,[]=>t
  |t,(i,d)::r=>lZ (t.set i d) r
def gr (P:Program) (inl:C7 P ρ) (rd:Bool):Code→List D→List Ob→Z P→(Ex→List D→List Ob→Z P→Option ρ)→Option ρ
  | .skip,t,s,z,K=>K .norm t s z
  | .label _,t,s,z,K=>K .norm t s z
  | .region _ ops draw,t,s,z,K=>ma P inl ops ops.toList t s [] z fun t' s' Sp z=>match draw with
    |false=>K .norm t' s' z
    |true=>jA (nC ops Sp) (K .norm t' s' z)
  | .seq a b,t,s,z,K=>gr P inl rd a t s z fun ex t' s' z=>match ex with
    | .norm=>gr P inl rd b t' s' z K
    |e=>K e t' s' z
  | .cond c a b,t,s,z,K=>match cU t c with
    | .bool q=>branch z q (fun z=>gr P inl rd a t s z K) (fun z=>gr P inl rd b t s z K)
    |_=>none
  | .block id a,t,s,z,K=>match z.o with
    | .dZ sp n0 c' t1 s1 ex t2 s2 _::r=>match oo sp n0 t s with
      |some (t',s')=>jA (XX n0 s.length) (Gg (wv sp t s) ⟨r,(c'= .block id a∧t1=t'∧s1=s')∧z.c⟩ fun z=>K ex t2 s2 z)
      |none=>none
    |_=>gr P inl rd a t s z fun ex t' s' z=>match ex with
      | .exit i=>match XX i id with|true=>K .norm t' s' z|false=>K (.exit i) t' s' z
      |e=>K e t' s' z
  | .scope a,t,s,z,K=>gr P inl rd a t s z K
  | .exit id,t,s,z,K=>K (.exit id) t s z
  | .ret,t,s,z,K=>K .ret t s z
  | .loop x,t,s,z,K=>match z.o with
    | .go n::r=>iter (gr P inl rd x) n t s ⟨r,z.c⟩ K
    | .head sp n0 c' t1 s1 ex t2 s2 _::r=>match oo sp n0 t s with
      |some (t',s')=>jA (XX n0 s.length) (Gg (wv sp t s) ⟨r,(c'= .loop x∧t1=t'∧s1=s')∧z.c⟩ fun z=>K ex t2 s2 z)
      |none=>none
    | .code c' t1 s1 ex t2 s2 _::r=>K ex t2 s2 ⟨r,(c'= .loop x∧t1=t∧s1=s)∧z.c⟩
    |_=>none
  | .rangeFunc g ps ag bd,t,s,z,K=>match z.o with
    | .JQ aV::r=>match rd,cU t g with
      |false,.fn (.func gf) first cap=>iY (kH aV 0 t) fun t1=>nq s (.lp .ready t1 ps ag bd) fun s1=>
        inl (.fn gf) (first++(.je s.length::cap)) s1 ⟨r,z.c⟩ fun _ s2 z=>match s2.getD s.length .dead with
          | .lp .ready _ _ _ _=>kz s2 s.length .dead fun s3=>K .norm t s3 z
          | .lp .ret _ _ _ _=>kz s2 s.length .dead fun s3=>K .ret t s3 z
          | .lp (.exit i) _ _ _ _=>kz s2 s.length .dead fun s3=>K (.exit i) t s3 z
          |_=>none
      |_,_=>none
    | .code c' t1 s1 ex t2 s2 _::r=>K ex t2 s2 ⟨r,(c'= .rangeFunc g ps ag bd∧t1=t∧s1=s)∧z.c⟩
    |_=>none
  |c,t,s,z,K=>match z.o with
    | .code c' t1 s1 ex t2 s2 _::r=>K ex t2 s2 ⟨r,(c'=c∧t1=t∧s1=s)∧z.c⟩
    |_=>none
def vu (P:Program) (t:List D) (s:List Ob):ResultVar→Option D
  | .tmp i=>some (t.getD i .undef)
  | .cell a ty=>match t.getD a .undef with
    | .ptr _ id off=>match s.getD id .dead with
      | .box cs=>match P.underlying ty with
        |some d=>match dR d with
          |true=>match known P ty&&YH (off+P.cellsOf ty) cs.length with
            |true=>some (.agg ((cs.drop off).take (P.cellsOf ty)))
            |false=>none
          |false=>cs[off]?
        |none=>none
      |_=>none
    |_=>none
def zU (P:Program) (t:List D) (s:List Ob):List ResultVar→Option (List D)
  | []=>some []
  |r::rs=>match vu P t s r,zU P t s rs with
    |some d,some l=>some (d::l)
    |_,_=>none
def zV:List D→D
  | [d]=>d
  |l=> .aQ l
def uj (P:Program) (inl:C7 P ρ) (fn:Func) (args:List D) (s:List Ob) (z:Z P) (K:D→List Ob→Z P→Option ρ):Option ρ:=
  match fn.body with
  |some c=>jA (YH args.length fn.ntmps) (iY (args++Xg (fn.ntmps - args.length) .undef) fun t0=>gr P inl false c t0 s z fun ex t' s' z=>match ex with
    | .exit _=>none
    |_=>match zU P t' s' fn.results.toList with
      |some l=>K (zV l) s' z
      |none=>none)
  |none=>none
def zG (P:Program) (inl:C7 P ρ) (id:Nat) (args:List D) (s:List Ob) (z:Z P) (K:D→List Ob→Z P→Option ρ):Option ρ:=
  match s.getD id .dead with
  | .lp .ready t ps ag bd=>jA (XX args.length ps.size) (iY (lZ t (ps.toList.zip args)) fun t1=>gr P inl true ag t1 s z fun ex t2 s2 z=>match ex with
    | .norm=>match s2.getD id .dead with
      | .lp .ready t' V1 VJ VI=>kz s2 id (.lp .busy t' V1 VJ VI) fun s3=>gr P inl true bd t2 s3 z fun ex _ s4 z=>match s4.getD id .dead with
        | .lp .busy t5 TW T2 TN=>match ex with
          | .norm=>kz s4 id (.lp .ready t5 TW T2 TN) fun s5=>K (.bool true) s5 z
          | .ret=>kz s4 id (.lp .ret t5 TW T2 TN) fun s5=>K (.bool false) s5 z
          | .exit i=>kz s4 id (.lp (.exit i) t5 TW T2 TN) fun s5=>K (.bool false) s5 z
        |_=>none
      |_=>none
    |_=>none)
  |_=>none
def rH (P:Program):Nat→C7 P ρ
  |0=>fun _ _ _ _ _=>none
  |n+1=>fun g args s z K=>match g with
    | .fn f=>match P.funcs[f]? with
      |some fn=>jA (!(fn.name== "runtime.NumGoroutine")) (uj P (rH P n) fn args s z K)
      |none=>none
    | .yl id=>zG P (rH P n) id args s z K
def kC (s:List Ob):D→D
  | .bc (.tok id v) sz xs=>match s.getD id .dead with
    | .cM v' RX=>match XX v v'&&XX sz RX with|true=> .bc (.fresh sz) sz xs|false=> .bc .no sz xs
    |_=> .bc .no sz xs
  |d=>d.bu
def Eo (s:List Ob):D→D
  | .aQ ds=> .aQ (ds.map (kC s))
  |d=>kC s d
end
def CR:List (Nat×Ob)→Prop→Prop
  | [],c=>c
  |(_,o)::r,c=>CR r ((o=o∧o=o)∧c)
theorem nv:∀(l:List (Nat×Ob)) {c:Prop},c→CR l c
 | [],_,h=>h
 |(_,o)::r,_,h=>nv r ⟨⟨rfl,rfl⟩,h⟩
def Jr:List (Nat×Nat×D)→Prop→Prop
  | [],c=>c
  |(_,_,d)::r,c=>Jr r ((some d=some d∧some d=some d)∧c)
theorem sv:∀(l:List (Nat×Nat×D)) {c:Prop},c→Jr l c
 | [],_,h=>h
 |(_,_,d)::r,_,h=>sv r ⟨⟨rfl,rfl⟩,h⟩
def Ev.self {P:Program} :Ev P→Prop→Prop
  | .ret _ as _ _,c=>(as=as)∧c
  | .inl,c=>c
  | .aD _ ar s _ _ _,c=>(ar=ar∧s=s)∧c
  | .dP q _ _,c=>(q=q)∧c
  | .len n m _,c=>(n=n∧m=m)∧c
  | .get l i _ _,c=>(l=l∧i=i)∧c
  | .fX l i n _ _,c=>(l=l∧i=i∧n=n)∧c
  | .dA l i xs _ _,c=>(l=l∧i=i∧xs=xs)∧c
  | .flat _ _ _,c=>c
  | .jQ es n _ _,c=>(es=es∧n=n)∧c
  | .Pq _ _ _,c=>c
  | .LX es n _ _,c=>(es=es∧n=n)∧c
  | .aV l,c=>CR l c
  | .fL cs l,c=>Jr cs (CR l c)
  | .code c' t s _ _ _ _,c=>(c'=c'∧t=t∧s=s)∧c
  | .go _,c=>c
  | .JQ _,c=>c
  | .raw,c=>c
  | .cl cs _,c=>(cs=cs)∧c
  | .Jt ys _ _,c=>(ys=ys)∧c
  | .head _ _ c' t s _ _ _ _,c=>(c'=c'∧t=t∧s=s)∧c
  | .dZ _ _ c' t s _ _ _ _,c=>(c'=c'∧t=t∧s=s)∧c
def qQ {P:Program} :List (Ev P)→Prop→Prop
  | [],c=>c
  |e::r,c=>qQ r (e.self c)
theorem lh {P:Program} (l:List (Ev P)):∀ {c:Prop},c→qQ l c:=by
 induction l with
 |nil=>exact fun h=>h
 |cons e r ih=>
  intro c h
  refine ih ?_
  cases e<;>simp only [Ev.self,ev,and_self]<;>first|exact h|exact nv _ h|exact sv _ (nv _ h)
def wM (P:Program) (fn:Func) (args:List D) (o:List (Ev P)):Option (D×Prop):=
  uj P (rH P 20) fn args [] ⟨o,True⟩ fun d s z=>jA d.clean (match z.o with| []=>some (Eo s d,z.c)|_=>none)
def ue (P:Program) (c:Code) (sp:HS) (n0:Nat) (t:List D) (s:List Ob) (o:List (Ev P)):Option ((Ex×List D×List Ob)×Prop):=
  gr P (rH P 20) true c t s ⟨o,True⟩ fun ex t' s' z=>match oo sp n0 t' s' with
    |some (t2,s2)=>Gg (wv sp t' s') z fun z=>match z.o with
      | []=>some ((ex,t2,s2),z.c)
      |_=>none
    |none=>none
def evalCode (P:Program) (c:Code) (t:List D) (s:List Ob) (o:List (Ev P)):Option ((Ex×List D×List Ob)×Prop):=
  gr P (rH P 20) true c t s ⟨o,True⟩ fun ex t' s' z=>match z.o with| []=>some ((ex,t',s'),z.c)|_=>none
end Go.Ev
namespace Go.Ev
open Go
abbrev aj (n:Int):D:= .int .i8 n
abbrev ao (n:Int):D:= .int .i64 n
abbrev av (n:Int):D:= .int .u8 n
abbrev aB (n:Int):D:= .int .u64 n
abbrev cX:D:= .undef
abbrev aA:Ob:= .dead
abbrev au (c:List D):Ob:= .box c
abbrev ax (b:Bool):D:= .bool b
abbrev aW {P:Program} :Ev P:= .inl
abbrev aZ (n:Nat) (l:List D):D:= .bc .no n l
abbrev e8 (n:Nat):List D:=Xg n .undef
abbrev aw {P:Program} {g:FuncId} {as:List D} {d:D} (h:aY P g as d):Ev P:= .ret g as d h
abbrev bQ {P:Program} (n:Nat) (h:n≤2147483648:=by decide):Ev P:= .len n 2147483648 h
def bK {P:Program} :Nat→Nat→List (Ev P)
  |0,_=> []
  |n+1,k=>(match k%2 with
    |0=> .dP false false rfl
    |_=> .dP true true rfl)::bK n (k / 2)
end Go.Ev
