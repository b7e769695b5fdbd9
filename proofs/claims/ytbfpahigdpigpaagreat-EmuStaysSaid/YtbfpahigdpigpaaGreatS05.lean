import Derived.ChangeKeysEq
import Derived.KernelRfl
import Derived.Test.YtbfpahigdpigpaaGreatProg
import Derived.Laws.Strings
import Derived.Test.YtbfpahigdpigpaaGreatS01
import Derived.Test.YtbfpahigdpigpaaGreatS02
import Derived.Test.YtbfpahigdpigpaaGreatS04
open BitVec renaming ofInt→Xf
open Option.some renaming inj→Xo,injEq→Xv
open Bool renaming and_eq_true→Xp,or_eq_true→XM,not_eq_true'→X8,false_eq_true→Yb
open List renaming getD_eq_getElem?_getD→Xr,cons_append→Xs,length_append→Xu,getElem?_eq_none→Xy,append_assoc→XA,nil_append→XJ,drop_zero→Yn
open And renaming intro→Xw
open Go.Result renaming andThen_ok→Xz
open Go.Sem renaming run_bind→XK,run_pure→XQ
open Nat renaming beq_eq→XR,beq→XX
open Int renaming fdiv_eq_ediv_of_nonneg→Yd
open Go renaming IntKind→YO
/- Contracts and plain laws that a statement's proof leans on (texts merged:EvU,MdC,fg,MdZ,MdP1,MdP2). -/
set_option linter.unusedVariables false
set_option linter.unusedSimpArgs false
namespace Go.Ev
open Go Go.RowKit
def tZ (P:Program) (one:TypeId→Option (List LK)):List Field→Nat→Option (List LK)
  | [],_=>some []
  |f::r,off=>match !(f.name== "_")&&XX f.offset off with
    |true=>match one f.type with
      |some ks=>match XX ks.length (P.cellsOf f.type)&&Nat.blt 0 ks.length with
        |true=>match tZ P one r (off+ks.length) with
          |some l=>some (ks++l)
          |none=>none
        |false=>none
      |none=>none
    |false=>none
def rz:Nat→List LK→List LK
  |0,_=> []
  |n+1,l=>l++rz n l
def jK (P:Program):Nat→TypeId→Option (List LK)
  |0,_=>none
  |d+1,t=>match P.underlying t with
    |some .bool=>some [.bool]
    |some (.int k)=>some [.int k]
    |some .string=>some [.str]
    |some (.struct fs)=>match P.stoodInHeld t with
      |false=>tZ P (jK P d) fs.toList 0
      |true=>none
    |some (.array n e)=>match jK P d e,P.info? e with
      |some ks,some _=>match XX ks.length (P.cellsOf e)&&Nat.blt 0 ks.length with|true=>some (rz n ks)|false=>none
      |_,_=>none
    |_=>none
def Aq (P:Program) (t:TypeId) (l:List Value):Value:=match P.underlying t with
  |some e=>match dR e with
    |true=> .agg l.toArray
    |false=>l.headD .nilFunc
  |none=> .nilFunc
theorem cS:∀ {ks:List LK} {l:List Value},eG ks l→l.length=ks.length
 | [],[],_=>rfl
 |_::_,[],h=>h.elim
 | [],_::_,h=>h.elim
 |k::ks,v::l,h=>by simp [cS h.2]
theorem gx:∀ {ks Uj:List LK} {l:List Value},eG (ks++Uj) l→eG ks (l.take ks.length)∧eG Uj (l.drop ks.length)
 | [],Uj,l,h=>⟨by simp [eG],by simpa using h⟩
 |k::ks,Uj,[],h=>h.elim
 |k::ks,Uj,v::l,h=>by
  obtain ⟨h1,h2⟩:=h
  obtain ⟨a,b⟩:=gx h2
  exact ⟨⟨h1,a⟩,b⟩
theorem kj:∀(n:Nat) (l m:List Value),n≤l.length→n≤m.length→dY l m=(dY (l.take n) (m.take n)&&dY (l.drop n) (m.drop n))
 |0,l,m,_,_=>by simp [dY]
 |n+1,[],m,h,_=>by simp at h
 |n+1,_::_,[],_,h=>by simp at h
 |n+1,a::l,b::m,h,k=>by
  simp only [List.take_succ_cons,List.drop_succ_cons,dY]
  rw [kj n l m (by simpa using h) (by simpa using k),Bool.and_assoc]
section
variable {P:Program}
def Ny (P:Program) (d:Nat) (t:TypeId) (ks:List LK):Prop:=
  ∀(n:Nat) (l m:List Value) (w:World),eG ks l→eG ks m→(Op.equalIn (n+d) t (Aq P t l) (Aq P t m)).run P w= .ok (dY l m) w
theorem kY {t:TypeId} {e:TypeDesc} (hu:P.underlying t=some e) {xs:Array Value} {off:Nat} {n:Nat} (hn:n=P.cellsOf t) (RW:dR e=false→n=1) (hl:off+n≤xs.size) (w:World):
  (part t xs off).run P w= .ok (Aq P t ((xs.toList.drop off).take n)) w:=by
 simp only [Aq,hu]
 cases ha:dR e with
 |true=>
  simp only
  rw [nU hu ha xs off w]
  congr 2
  subst hn
  apply Array.ext'
  simp [Array.toList_extract,List.extract_eq_take_drop]
 |false=>
  simp only
  have h1:=RW ha
  subst h1
  have QQ:off<xs.size:=by omega
  rw [nT hu ha (v:=xs[off]) (by simp [QQ]) w]
  congr 1
  rw [List.headD_eq_head?_getD,List.head?_take]
  simp [QQ]
theorem mS {d:Nat} {t:TypeId} {ks:List LK} (h:jK P d t=some ks):∃e,P.underlying t=some e∧(dR e=false→ks.length=1):=by
 cases d with
 |zero=>simp [jK] at h
 |succ d=>
  unfold jK at h
  split at h
  ·rename_i hu;exact ⟨_,hu,fun _=>by cases h;rfl⟩
  ·rename_i hu;exact ⟨_,hu,fun _=>by cases h;rfl⟩
  ·rename_i hu;exact ⟨_,hu,fun _=>by cases h;rfl⟩
  ·rename_i hu;exact ⟨_,hu,fun q=>by cases q⟩
  ·rename_i hu;exact ⟨_,hu,fun q=>by cases q⟩
  ·cases h
theorem pQ {d:Nat} (ih:∀ {t:TypeId} {ks:List LK},jK P d t=some ks→Ny P d t ks) (n:Nat) (xs ys:Array Value) (w:World):∀(fs:List Field) (off:Nat) (ks:List LK),tZ P (jK P d) fs off=some ks→
  eG ks (xs.toList.drop off)→eG ks (ys.toList.drop off)→(Op.eqFields (n+d) xs ys fs).run P w= .ok (dY (xs.toList.drop off) (ys.toList.drop off)) w
 | [],off,ks,h,hx,hy=>by
  simp only [tZ,Xv] at h
  subst h
  have e1:=List.length_eq_zero_iff.1 (cS hx)
  have e2:=List.length_eq_zero_iff.1 (cS hy)
  rw [e1,e2]
  simp [Op.eqFields,dY]
 |f::fs,off,ks,h,hx,hy=>by
  simp only [tZ] at h
  split at h
  ·rename_i hf
   simp only [Xp,X8,eI,XR] at hf
   obtain ⟨hname,hoff⟩:=hf
   split at h
   ·rename_i k1 h1
    split at h
    ·rename_i hl
     rw [Xp,XR,Nat.blt_eq] at hl
     obtain ⟨hl,RF⟩:=hl
     split at h
     ·rename_i k2 h2
      obtain rfl:=Xo h
      obtain ⟨a1,a2⟩:=gx hx
      obtain ⟨b1,b2⟩:=gx hy
      rw [List.drop_drop] at a2 b2
      have lx:off+k1.length≤xs.size:=by
       have:=cS hx
       simp at this
       omega
      have ly:off+k1.length≤ys.size:=by
       have:=cS hy
       simp at this
       omega
      obtain ⟨e,hu,RW⟩:=mS h1
      have UN:=ih h1 n _ _ w a1 b1
      have rest:=pQ ih n xs ys w fs (off+k1.length) k2 h2 a2 b2
      unfold Op.eqFields
      rw [if_pos hname,hoff]
      simp only [XK,kY hu hl RW lx w,kY hu hl RW ly w,Xz,UN]
      have hs:=kj k1.length (xs.toList.drop off) (ys.toList.drop off) (by simp;omega) (by simp;omega)
      rw [List.drop_drop,List.drop_drop] at hs
      rw [hs]
      cases dY ((xs.toList.drop off).take k1.length) ((ys.toList.drop off).take k1.length) with
      |true=>simpa using rest
      |false=>simp
     ·cases h
    ·cases h
   ·cases h
  ·cases h
theorem si {d:Nat} {e:TypeId} {ks:List LK} (W9:jK P d e=some ks) (hl:ks.length=P.cellsOf e) (RF:0<ks.length) (ih:Ny P d e ks) (n:Nat) (xs ys:Array Value) (w:World):∀(c i:Nat),
  eG (rz c ks) (xs.toList.drop (i*ks.length))→eG (rz c ks) (ys.toList.drop (i*ks.length))→(Op.eqItems (n+d) e (P.cellsOf e) xs ys (List.range' i c)).run P w= .ok (dY (xs.toList.drop (i*ks.length)) (ys.toList.drop (i*ks.length))) w
 |0,i,hx,hy=>by
  have e1:=List.length_eq_zero_iff.1 (cS hx)
  have e2:=List.length_eq_zero_iff.1 (cS hy)
  rw [e1,e2]
  simp [Op.eqItems,dY]
 |c+1,i,hx,hy=>by
  simp only [rz] at hx hy
  obtain ⟨a1,a2⟩:=gx hx
  obtain ⟨b1,b2⟩:=gx hy
  have hm:i*ks.length+ks.length=(i+1)*ks.length:=by rw [Nat.add_mul,Nat.one_mul]
  rw [List.drop_drop,hm] at a2 b2
  have lx:i*ks.length+ks.length≤xs.size:=by
   have:=cS hx
   simp only [Xu,List.length_drop,Array.length_toList] at this
   omega
  have ly:i*ks.length+ks.length≤ys.size:=by
   have:=cS hy
   simp at this
   omega
  obtain ⟨e',hu,RW⟩:=mS W9
  have UN:=ih n _ _ w a1 b1
  have rest:=si W9 hl RF ih n xs ys w c (i+1) a2 b2
  rw [List.range'_succ]
  unfold Op.eqItems
  rw [← hl] at rest ⊢
  simp only [XK,kY hu hl RW lx w,kY hu hl RW ly w,Xz,UN]
  have hs:=kj ks.length (xs.toList.drop (i*ks.length)) (ys.toList.drop (i*ks.length)) (by simp;omega) (by simp;omega)
  rw [List.drop_drop,List.drop_drop,hm] at hs
  rw [hs]
  cases dY ((xs.toList.drop (i*ks.length)).take ks.length) ((ys.toList.drop (i*ks.length)).take ks.length) with
  |true=>simpa using rest
  |false=>simp
theorem rW:∀ {d:Nat} {t:TypeId} {ks:List LK},jK P d t=some ks→Ny P d t ks
 |0,t,ks,h=>by simp [jK] at h
 |d+1,t,ks,h=>by
  intro n l m w hl hm
  unfold jK at h
  split at h
  ·rename_i hu
   obtain rfl:=Xo h
   have e1:=cS hl
   have e2:=cS hm
   match l,m,e1,e2 with
   | [a],[b],_,_=>
    cases a<;>simp only [eG,LK.rZ,fS,false_and,ev] at hl
    cases b<;>simp only [eG,LK.rZ,fS,false_and,ev] at hm
    simp only [Aq,hu,dR,List.headD_cons,dY,qv,Bool.and_true]
    exact run_equalIn_bool' w (n+d) t _ _ hu
  ·rename_i k hu
   obtain rfl:=Xo h
   have e1:=cS hl
   have e2:=cS hm
   match l,m,e1,e2 with
   | [a],[b],_,_=>
    cases a<;>simp only [eG,LK.rZ,fS,false_and,ev] at hl
    cases b<;>simp only [eG,LK.rZ,fS,false_and,ev] at hm
    subst hl
    subst hm
    simp only [Aq,hu,dR,List.headD_cons,dY,qv,Bool.and_true]
    exact run_equalIn_int w (n+d) t _ _ _ _ hu
  ·rename_i hu
   obtain rfl:=Xo h
   have e1:=cS hl
   have e2:=cS hm
   match l,m,e1,e2 with
   | [a],[b],_,_=>
    cases a<;>simp only [eG,LK.rZ,fS,false_and,ev] at hl
    cases b<;>simp only [eG,LK.rZ,fS,false_and,ev] at hm
    simp only [Aq,hu,dR,List.headD_cons,dY,qv,Bool.and_true]
    exact run_equalIn_string w (n+d) t _ _ hu
  ·rename_i fs hu
   split at h
   ·rename_i QT
    have hf:P.fieldsOf t=fs:=by simp [Program.fieldsOf,hu]
    simp only [Aq,hu,dR]
    rw [show n+(d+1)=(n+d)+1 by omega,run_equalIn_struct w (n+d) t _ _ (by rw [hf];exact hu) QT,hf]
    have:=pQ (fun h=>rW h) n l.toArray m.toArray w fs.toList 0 ks h (by simpa using hl) (by simpa using hm)
    simpa using this
   ·cases h
  ·rename_i c e hu
   split at h
   ·rename_i k1 i h1 hi
    split at h
    ·rename_i hlen
     rw [Xp,XR,Nat.blt_eq] at hlen
     obtain ⟨hlen,RF⟩:=hlen
     obtain rfl:=Xo h
     simp only [Aq,hu,dR]
     rw [show n+(d+1)=(n+d)+1 by omega,run_equalIn_array w (n+d) _ _ hu hi,List.range_eq_range']
     have:=si h1 hlen RF (rW h1) n l.toArray m.toArray w c 0 (by simpa using hl) (by simpa using hm)
     simpa using this
    ·cases h
   ·cases h
  ·cases h
theorem lJ.of_flat {d:Nat} {t:TypeId} {ks:List LK} (hd:Nat.ble d 10000=true) (hg:P.eqGuardType P.depth t=false) (ha:(match P.underlying t with|some e=>dR e|none=>false)=true) (h:jK P d t=some ks):lJ P t ks:=by
 refine ⟨hg,fun xs ys w hx hy=> ?_⟩
 have:=rW h (10000 - d) xs.toList ys.toList w hx hy
 rw [Nat.sub_add_cancel (by simpa using hd)] at this
 unfold Aq at this
 split at ha
 ·rename_i e he
  simp only [he,ha] at this
  simpa using this
 ·cases ha
def OM (P:Program) (d:Nat) (t:TypeId) (ks:List LK):Prop:=
  ∀(em:Bool) (n:Nat) (l:List Value) (w:World),eG ks l→(Instr.checkKey em (n+d) t (Aq P t l)).run P w= .ok () w
theorem pq:∀ {d:Nat} {t:TypeId} {ks:List LK},jK P d t=some ks→OM P d t ks
 |0,t,ks,h=>by simp [jK] at h
 |d+1,t,ks,h=>by
  intro em n l w hl
  have plain:∀ {e:TypeDesc},P.underlying t=some e→(match e with| .bool| .int _| .string=>true|_=>false)=true→(Instr.checkKey em (n+(d+1)) t (Aq P t l)).run P w= .ok () w:=by
   intro e hu he
   rw [show n+(d+1)=(n+d)+1 from rfl,Instr.checkKey]
   simp only [XK,run_underlying hu,Xz]
   cases e<;>simp only [Yb] at he<;>simp
  unfold jK at h
  split at h
  ·rename_i hu;exact plain hu rfl
  ·rename_i hu;exact plain hu rfl
  ·rename_i hu;exact plain hu rfl
  ·rename_i fs hu
   split at h
   ·rename_i QT
    rw [show n+(d+1)=(n+d)+1 from rfl,Instr.checkKey]
    simp only [Aq,hu,dR,XK,run_underlying hu,Xz]
    rw [← Array.forIn_toList]
    have Sg:eG ks (l.toArray.toList.drop 0):=by simpa using hl
    generalize l.toArray=xs at Sg ⊢
    generalize fs.toList=L at h ⊢
    generalize 0=off at h Sg
    clear hl hu QT
    induction L generalizing off ks with
    |nil=>simp
    |cons f L ihL=>
     simp only [tZ] at h
     split at h
     ·rename_i hf
      simp only [Xp,X8,eI,XR] at hf
      obtain ⟨hname,hoff⟩:=hf
      split at h
      ·rename_i k1 h1
       split at h
       ·rename_i hlen
        rw [Xp,XR,Nat.blt_eq] at hlen
        obtain ⟨hlen,RF⟩:=hlen
        split at h
        ·rename_i k2 h2
         obtain rfl:=Xo h
         obtain ⟨a1,a2⟩:=gx Sg
         rw [List.drop_drop] at a2
         have lx:off+k1.length≤xs.size:=by
          have:=cS Sg
          simp at this
          omega
         obtain ⟨e,hu,RW⟩:=mS h1
         have UN:=pq h1 em n _ w a1
         have rest:=ihL _ _ h2 a2
         simp only [List.forIn_cons,XK,hname,ne_eq,not_false_eq_true,if_true,Xz,hoff,kY hu hlen RW lx w,UN,XQ]
         exact rest
        ·cases h
       ·cases h
      ·cases h
     ·cases h
   ·cases h
  ·rename_i c e hu
   split at h
   ·rename_i k1 i h1 hi
    split at h
    ·rename_i hlen
     rw [Xp,XR,Nat.blt_eq] at hlen
     obtain ⟨hlen,RF⟩:=hlen
     obtain rfl:=Xo h
     rw [show n+(d+1)=(n+d)+1 from rfl,Instr.checkKey]
     simp only [Aq,hu,dR,XK,run_underlying hu,Xz]
     simp only [Std.Legacy.Range.forIn_eq_forIn_range',Std.Legacy.Range.size,Nat.sub_zero,Nat.add_one_sub_one,Nat.div_one]
     have Sg:eG (rz c k1) (l.toArray.toList.drop (0*k1.length)):=by simpa using hl
     generalize l.toArray=xs at Sg ⊢
     generalize 0=j at Sg ⊢
     clear hl hu
     have IH:=pq h1 em n
     induction c generalizing j with
     |zero=>simp
     |succ c ihc=>
      simp only [rz] at Sg
      obtain ⟨a1,a2⟩:=gx Sg
      have hm:j*k1.length+k1.length=(j+1)*k1.length:=by rw [Nat.add_mul,Nat.one_mul]
      rw [List.drop_drop,hm] at a2
      have lx:j*k1.length+k1.length≤xs.size:=by
       have:=cS Sg
       simp only [Xu,List.length_drop,Array.length_toList] at this
       omega
      obtain ⟨e',WA,RW⟩:=mS h1
      have UN:=IH _ w a1
      rw [List.range'_succ]
      have rest:=ihc rfl _ a2
      simp only [List.forIn_cons,XK,run_sizeOf w hi,Xz,← hlen,kY WA hlen RW lx w,UN,XQ]
      exact rest
    ·cases h
   ·cases h
  ·cases h
theorem yK {kd:TypeDesc} (hk:dR kd=true) (x:Array Value) (e:MapEntry) (l:List MapEntry) (i:Nat):Instr.findNow kd (.agg x) (e::l) i=none:=by
 cases kd<;>simp [dR] at hk<;>simp [Instr.findNow,Instr.sameNow]
theorem lU {t:TypeId} {ks:List LK} (hq:lJ P t ks) (x:Array Value) (hx:eG ks x.toList) (w:World):∀(l:List MapEntry) (i:Nat),(∀e∈l,∃y:Array Value,e.key= .agg y∧eG ks y.toList)→
  (Instr.findAsking t (.agg x) l i).run P w= .ok (ua x.toList l i) w
 | [],i,_=>by simp [Instr.findAsking,ua]
 |e::l,i,h=>by
  obtain ⟨y,hy,fy⟩:=h e (by simp)
  have ih:=lU hq x hx w l (i+1) fun e' he=>h e' (by simp [he])
  have he:(Op.equal t (.agg x) e.key).run P w= .ok (dY x.toList y.toList) w:=by
   rw [hy];exact hq.eq x y w hx fy
  simp only [Instr.findAsking,XK,he,Xz]
  simp only [ua,hy]
  cases dY x.toList y.toList with
  |true=>simp
  |false=>simpa using ih
theorem xn.of_flat {d:Nat} {t:TypeId} {ks:List LK} (hd:Nat.ble d 10000=true) (hg:P.eqGuardType P.depth t=false) (ha:(match P.underlying t with|some e=>dR e|none=>false)=true) (h:jK P d t=some ks) (hs:Iz ks=true):xn P t ks:=by
 have hq:=lJ.of_flat hd hg ha h
 refine ⟨hs,fun w em xs hx=> ?_,fun w x l hx hl=> ?_⟩
 ·have:=pq h em (10000 - d) xs.toList w hx
  rw [Nat.sub_add_cancel (by simpa using hd)] at this
  unfold Aq at this
  split at ha
  ·rename_i e he
   simp only [he,ha] at this
   simpa using this
  ·cases ha
 ·split at ha
  ·rename_i e he
   cases l with
   |nil=>simp [Instr.findKey,run_underlying he,Instr.findNow,ua]
   |cons e0 l=>
    simp only [Instr.findKey,XK,run_underlying he,Xz,yK ha]
    exact lU hq x hx w _ 0 hl
  ·cases ha
end
theorem dB {x y:Bool} (h:x=false):(x&&y)=false:=by simp [h]
theorem a7 {x y v:Bool} (h:x=true) (k:y=v):(x&&y)=v:=by simp [h,k]
theorem Pt {x c c':Int} {v:Bool} (h:decide (x<c')=v) (hc:c'=c+1):decide (x≤c)=v:=by
 subst hc;rw [← h];exact decide_eq_decide.2 (by omega)
theorem Oi {y c c':Int} {v:Bool} (h:decide (y<c')=v) (hc:c'=c+1):decide (c<y)= !v:=by
 subst hc;rw [← h,← decide_not];exact decide_eq_decide.2 (by omega)
theorem Om {y c c':Int} {v:Bool} (h:decide (y<c')=v) (hc:c'=c):decide (c≤y)= !v:=by
 subst hc;rw [← h,← decide_not];exact decide_eq_decide.2 (by omega)
theorem Ps {x d c:Int} (h:decide (x<d)=true) (hc:d≤c):decide (x<c)=true:=by
 simp only [bP] at h ⊢;omega
theorem MZ {x d c:Int} (h:decide (x<d)=false) (hc:c≤d):decide (x<c)=false:=by
 simp only [cq] at h ⊢;omega
theorem Nk {x d c:Int} (h:decide (x<d)=true) (hc:d≤c):(x==c)=false:=by
 simp only [bP] at h;simp only [eI];omega
theorem Nl {x d c:Int} (h:decide (x<d)=false) (hc:c<d):(x==c)=false:=by
 simp only [cq] at h;simp only [eI];omega
theorem aH {x c:Int} (h:¬x=c):(x==c)=false:=by simp [h]
theorem PC {x c d:Int} {v:Bool} (h:x=c) (hv:(c==d)=v):(x==d)=v:=by rw [h,hv]
def tT {P:Program} :Ev P:= .dP true true rfl
def tF {P:Program} :Ev P:= .dP false false rfl
def tC {P:Program} {q v:Bool} (h:q=v):Ev P:= .dP q v h
theorem eT {b v:Bool} (h:b=v):(b==true)=(v==true):=by rw [h]
theorem eF {b v:Bool} (h:b=v):(b==false)=(v==false):=by rw [h]
theorem nt {b v:Bool} (h:b=v):(!b)= !v:=by rw [h]
theorem eB {x c':Int} {v:Bool} (c:Int) (h:decide (x<c')=v) (hc:c'=c+1:=by decide):decide (x≤c)=v:=Pt h hc
theorem bJ {y c':Int} {v:Bool} (c:Int) (h:decide (y<c')=v) (hc:c'=c+1:=by decide):decide (c<y)= !v:=Oi h hc
theorem bO {y c':Int} {v:Bool} (c:Int) (h:decide (y<c')=v) (hc:c'=c:=by decide):decide (c≤y)= !v:=Om h hc
theorem sG {x d:Int} (c:Int) (h:decide (x<d)=true) (hc:d≤c:=by decide):decide (x<c)=true:=Ps h hc
theorem lR {x d:Int} (c:Int) (h:decide (x<d)=false) (hc:c≤d:=by decide):decide (x<c)=false:=MZ h hc
theorem oz {x d:Int} (c:Int) (h:decide (x<d)=true) (hc:d≤c:=by decide):(x==c)=false:=Nk h hc
theorem ta {x d:Int} (c:Int) (h:decide (x<d)=false) (hc:c<d:=by decide):(x==c)=false:=Nl h hc
theorem cP {x c:Int} (d:Int) (v:Bool) (h:x=c) (hv:(c==d)=v:=by decide):(x==d)=v:=PC h hv
def cT:kp→kp→Nat→Prop
  |_,.no,_=>True
  | .tight,.tight,_=>True
  | .tight,.fresh n,sz=>n=sz
  | .fresh a,.fresh b,_=>a=b
  |_,_,_=>False
mutual
def wk:D→D→Prop
  | .bc o sz xs,.bc o' Ra ys=>xs=ys∧(sz=Ra∨xs= [])∧cT o o' Ra∧(o= .tight∨sz=Ra)
  | .agg l,.agg m=>jC l m
  | .aQ l,.aQ m=>jC l m
  |a,b=>a=b
def jC:List D→List D→Prop
  | [],[]=>True
  |a::l,b::m=>wk a b∧jC l m
  |_,_=>False
end
theorem aC:type_of%(Xw @wk.eq_1 (Xw @wk.eq_2 (Xw @wk.eq_3 (Xw @wk.eq_4 (Xw @jC.eq_1 (Xw @jC.eq_2 (Xw @jC.eq_3 (Xw @cT.eq_1 (Xw @cT.eq_2 (Xw @cT.eq_3 (Xw @cT.eq_4 (Xw @cT.eq_5 (Xw @bA.eq_1 (Xw @bA.eq_2 (Xw @bA.eq_3 (Xw @lD.eq_1 (Xw @lD.eq_2 (Xw @lD.eq_3 (@lD.eq_4))))))))))))))))))):=Xw @wk.eq_1 (Xw @wk.eq_2 (Xw @wk.eq_3 (Xw @wk.eq_4 (Xw @jC.eq_1 (Xw @jC.eq_2 (Xw @jC.eq_3 (Xw @cT.eq_1 (Xw @cT.eq_2 (Xw @cT.eq_3 (Xw @cT.eq_4 (Xw @cT.eq_5 (Xw @bA.eq_1 (Xw @bA.eq_2 (Xw @bA.eq_3 (Xw @lD.eq_1 (Xw @lD.eq_2 (Xw @lD.eq_3 (@lD.eq_4))))))))))))))))))
theorem aI:type_of%(Xw @wk.eq_1 (Xw @wk.eq_2 (Xw @wk.eq_3 (Xw @wk.eq_4 (Xw @jC.eq_1 (Xw @jC.eq_2 (@jC.eq_3))))))):=Xw @wk.eq_1 (Xw @wk.eq_2 (Xw @wk.eq_3 (Xw @wk.eq_4 (Xw @jC.eq_1 (Xw @jC.eq_2 (@jC.eq_3))))))
theorem nL:∀ {l m:List D},jC l m→l.length=m.length∧∀(i:Nat) (a b:D),l[i]? =some a→m[i]? =some b→wk a b
 | [],[],_=>⟨rfl,fun i a b h=>by simp at h⟩
 | [],_::_,h=>by simp [jC] at h
 |_::_,[],h=>by simp [jC] at h
 |a::l,b::m,h=>by
  rw [jC] at h
  obtain ⟨h1,h2⟩:=nL h.2
  refine ⟨by simp [h1],fun i x y p q=> ?_⟩
  cases i with
  |zero=>simp at p q;subst p q;exact h.1
  |succ i=>simp at p q;exact h2 i x y p q
theorem cz.wk {C:Nat→Nat→Option Value} {M:MM} (hM:M=gn C) {d:D} {v:Value} (h:cz M d v):∀ {d':D},wk d d'→cz M d' v:=by
 induction h with
 |bc b off vs hl QP ha QX hc hr QT ho ih=>
  intro d' w
  rename_i M o sz xs _ _ _
  cases d'<;>simp only [Ev.wk,reduceCtorEq] at w
  obtain ⟨rfl,w2,w3,_⟩:=w
  rename_i o' _ _
  refine cz.resize (sz:=sz) (.bc b off vs hl QP ha QX hc hr QT ?_) w2
  cases o<;>cases o'<;>first|trivial|exact ho|(simp only [cT] at w3)
 |agg h r ih=>
  intro d' w
  cases d'<;>simp only [Ev.wk,reduceCtorEq] at w
  rename_i _ cs vs _
  obtain ⟨h1,h2⟩:=nL w
  refine .agg (h1▸h) fun i d v a b=> ?_
  have QQ:i<cs.length:=by
   rw [h]
   exact (Array.getElem?_eq_some_iff.1 b).1
  exact ih i cs[i] v (by simp [QQ]) b hM (h2 i _ _ (by simp [QQ]) a)
 |aQ h r ih=>
  intro d' w
  cases d'<;>simp only [Ev.wk,reduceCtorEq] at w
  rename_i _ cs vs _
  obtain ⟨h1,h2⟩:=nL w
  refine .aQ (h1▸h) fun i d v a b=> ?_
  have QQ:i<cs.length:=by
   rw [h]
   exact (Array.getElem?_eq_some_iff.1 b).1
  exact ih i cs[i] v (by simp [QQ]) b hM (h2 i _ _ (by simp [QQ]) a)
 |undef v=>intro d' w;cases d'<;>simp only [Ev.wk,reduceCtorEq] at w;exact .undef v
 |int k n=>intro d' w;cases d'<;>simp only [Ev.wk,reduceCtorEq] at w;rw [← w];exact .int k n
 |bool b=>intro d' w;cases d'<;>simp only [Ev.wk,reduceCtorEq] at w;rw [← w];exact .bool b
 |str s=>intro d' w;cases d'<;>simp only [Ev.wk,reduceCtorEq] at w;rw [← w];exact .str s
 |ik=>intro d' w;cases d'<;>simp only [Ev.wk,reduceCtorEq] at w;exact .ik
 |cm=>intro d' w;cases d'<;>simp only [Ev.wk,reduceCtorEq] at w;exact .cm
 |ptr q h=>intro d' w;cases d'<;>simp only [Ev.wk,reduceCtorEq] at w;rw [← w];exact .ptr q h
 |eV q vs hx hc hr ih=>intro d' w;cases d'<;>simp only [Ev.wk,reduceCtorEq] at w;rw [← w];exact .eV q vs hx hc hr
 |gj h=>intro d' w;cases d'<;>simp only [Ev.wk,reduceCtorEq] at w;rw [← w];exact .gj h
 |je h=>intro d' w;cases d'<;>simp only [Ev.wk,reduceCtorEq] at w;rw [← w];exact .je h
 |ez h hh hc=>intro d' w;cases d'<;>simp only [Ev.wk,reduceCtorEq] at w;rw [← w];exact .ez h hh hc
 |sub h hc hp ho=>intro d' w;cases d'<;>simp only [Ev.wk,reduceCtorEq] at w;rw [← w];exact .sub h hc hp ho
 |fn h1 h2 r1 r2 i1 i2=>intro d' w;cases d'<;>simp only [Ev.wk,reduceCtorEq] at w;rw [← w];exact .fn h1 h2 r1 r2
theorem yH {B:Nat} {w:World} {C:Nat→Nat→Option Value} {d d':D} {v:Value} (hr:cz (gn C) d v) (hf:∀sz Ra xs,d= .bc (.fresh sz) Ra xs→∃a len cap,v= .slice a len cap∧Ra=sz∧jY B w C sz a len cap) (hw:wk d d'):
  ∀sz Ra xs,d'= .bc (.fresh sz) Ra xs→∃a len cap,v= .slice a len cap∧Ra=sz∧jY B w C sz a len cap:=by
 rintro sz Ra xs rfl
 cases d<;>simp only [wk,reduceCtorEq] at hw
 rename_i o WQ WS
 obtain ⟨rfl,w2,w3,w4⟩:=hw
 cases o with
 |no=>simp only [cT] at w3
 |tok a b=>simp only [cT] at w3
 |tight=>
  simp only [cT] at w3
  subst w3
  cases hr with
  |bc b off vs hl QP ha QX hc hr QT ho=>exact ⟨_,_,_,rfl,rfl,.inl ho⟩
 |fresh k=>
  simp only [cT] at w3
  subst w3
  rcases w4 with w4|rfl
  ·cases w4
  ·exact hf _ _ _ rfl
theorem aY.to {P:Program} {f:FuncId} {args:List D} {d d':D} (h:aY P f args d) (hw:wk d d'):aY P f args d':=by
 refine ⟨h.JV,fun w C vs hC ha=>Calls.mono (h.run w C vs hC ha) ?_⟩
 rintro e w' ⟨v,C',rfl,hext,QR,U4,Ut⟩
 refine ⟨v,C',rfl,hext,QR.wk rfl hw,yH QR U4 hw,?_⟩
 rintro ds vs rfl rfl i sz Ra xs hi
 cases d<;>simp only [wk,reduceCtorEq] at hw
 rename_i Vv
 obtain ⟨h1,h2⟩:=nL hw
 have QQ:i<Vv.length:=by
  rw [h1]
  rcases Nat.lt_or_ge i ds.length with q|q
  ·exact q
  ·rw [Xy q] at hi;cases hi
 cases QR with
 |aQ hl hr=>
  have Wa:i<vs.size:=hl▸QQ
  have:=yH (d:=Vv[i]) (d':= .bc (.fresh sz) Ra xs) (v:=vs[i]) (hr i _ _ (by simp [QQ]) (by simp [Wa])) (fun s1 s2 x e=>by
   obtain ⟨a,len,cap,k1,k2⟩:=Ut Vv vs rfl rfl i s1 s2 x (by simp [QQ,e])
   exact ⟨a,len,cap,by simpa [Wa] using k1,k2⟩) (h2 i _ _ (by simp [QQ]) hi) sz Ra xs rfl
  obtain ⟨a,len,cap,k1,k2,k3⟩:=this
  exact ⟨a,len,cap,by simp [Wa,k1],k2,k3⟩
def jt:Code→List Code
  | .seq a b=>jt a++jt b
  | .cond _ a b=>jt a++jt b
  | .block _ a=>jt a
  | .scope a=>jt a
  | .loop a=>a::jt a
  | .rangeFunc _ _ a b=>jt a++jt b
  |_=> []
def db (fn:Func) (i:Nat):Code:=match fn.body with
  |some c=>(jt c).getD i .skip
  |none=> .skip
def ij:Code→List (Code×Code)
  | .seq a b=>ij a++ij b
  | .cond _ a b=>ij a++ij b
  | .block _ a=>ij a
  | .scope a=>ij a
  | .loop a=>ij a
  | .rangeFunc _ _ a b=>(a,b)::ij b
  |_=> []
def dg (fn:Func) (i:Nat):Code:=match fn.body with
  |some c=>((ij c).getD i (.skip,.skip)).1
  |none=> .skip
def de (fn:Func) (i:Nat):Code:=match fn.body with
  |some c=>((ij c).getD i (.skip,.skip)).2
  |none=> .skip
def ir:Code→List Code
  | .seq a b=>ir a++ir b
  | .cond _ a b=>ir a++ir b
  | .block i a=> .block i a::ir a
  | .scope a=>ir a
  | .loop a=>ir a
  | .rangeFunc _ _ a b=>ir a++ir b
  |_=> []
def dD (fn:Func) (i:Nat):Code:=match fn.body with
  |some c=>(ir c).getD i .skip
  |none=> .skip
section
variable {P:Program}
theorem eH {cs:List D} (h:cs.all D.clean=true):∀c∈cs,c.clean=true:=List.all_eq_true.1 h
theorem cA.cast {c:Code} {n0:Nat} {t t1:List D} {s s1:List Ob} {ex VS:Ex} {t' Vq:List D} {s' Um:List Ob} (h:cA P c n0 t s ex t' s') (h1:t=t1) (h2:s=s1) (h3:ex=VS) (h4:t'=Vq) (h5:s'=Um):cA P c n0 t1 s1 VS Vq Um:=by
 subst h1 h2 h3 h4 h5;exact h
theorem cA.from {c:Code} {n0:Nat} {t t1:List D} {s s1:List Ob} {ex:Ex} {t':List D} {s':List Ob} (h:cA P c n0 t s ex t' s') (h1:t=t1) (h2:s=s1):cA P c n0 t1 s1 ex t' s':=by
 subst h1 h2;exact h
theorem J1 {C:Nat→Nat→Option Value} {l m:List D} {vs:Array Value} (h:cN (gn C) l vs) (hw:jC l m):cN (gn C) m vs:=by
 obtain ⟨h1,h2⟩:=nL hw
 refine ⟨by rw [← h1];exact h.1,fun i d v p q=> ?_⟩
 have QQ:i<l.length:=by rw [h.1];exact (Array.getElem?_eq_some_iff.1 q).1
 exact (h.2 i l[i] v (by simp [QQ]) q).wk rfl (h2 i _ _ (by simp [QQ]) p)
theorem aY.args {f:FuncId} {az as':List D} {d:D} (h:aY P f az d) (hw:jC as' az):aY P f as' d:=
 ⟨h.JV,fun w C vs hC ha=>h.run w C vs hC (J1 ha hw)⟩
theorem aJ.cast {c:Code} {sp:HS} {n0:Nat} {t:List D} {s:List Ob} {ex:Ex} {t' Vq:List D} {s' Um:List Ob} (h:aJ P c sp n0 t s ex t' s') (h4:t'=Vq) (h5:s'=Um):aJ P c sp n0 t s ex Vq Um:=by
 subst h4 h5;exact h
end
open Go
abbrev Oq (kind op width size:Int) (fI:Bool) (dst src off aq:Int):D:=
  .agg [aj kind,aj op,aj width,aj size,ax fI,aj dst,aj src,ao off,ao aq]
def II (dst src off aq:Int):Bool:=decide (0≤dst∧dst≤10∧0≤src∧src≤10∧ -32768≤off∧off≤32767∧ -2147483648≤aq∧aq≤2147483647)
def G4 (n:Int):Bool:=decide (n=1∨n=2∨n=4∨n=8)
def KW (kind op width size:Int) (fI:Bool) (dst src off aq:Int):Bool:=
  if kind=0 then decide (0≤op∧op≤12∧(width=32∨width=64)∧dst<10∧size=0∧off=0)&&(if fI then decide (op≠8∧aq=0) else decide (src=0∧(op=8→aq=0)))
  else if kind=1 then G4 size&&decide (dst<10∧op=0∧width=0∧aq=0)&& !fI
  else if kind=2 then G4 size&&decide (op=0∧width=0∧aq=0)&& !fI
  else if kind=3 then decide (0≤op∧op≤10∧width=0∧size=0)&&(if fI then decide (aq=0) else decide (src=0))
  else if kind=4 then decide (op=0∧width=0∧size=0∧dst=0∧src=0∧aq=0)&& !fI
  else if kind=5 then decide (op=0∧width=0∧size=0∧dst=0∧src=0∧off=0∧0≤aq∧aq≤15)&& !fI
  else if kind=6 then decide (op=0∧width=0∧size=0∧dst=0∧src=0∧off=0∧aq=0)&& !fI
  else false
def Pr (kind op width size:Int) (fI:Bool) (dst src off aq:Int):Bool:=II dst src off aq&&KW kind op width size fI dst src off aq
def QI (kind op:Int):Int:=if kind=0∨kind=3 then op else 0
def Pz (kind width:Int):Int:=if kind=0 then width else 0
def P6 (kind size:Int):Int:=if kind=1∨kind=2 then size else 0
def PA (kind op:Int) (fI:Bool):Bool:=if kind=0 then fI&&decide (op≠8) else if kind=3 then fI else false
def Qw (kind dst:Int):Int:=if kind=0∨kind=1∨kind=2∨kind=3 then dst else 0
def Qt (kind op:Int) (fI:Bool) (src:Int):Int:=if kind=0 then (if fI&&decide (op≠8) then src else 0) else if kind=1∨kind=2 then src else if kind=3 then (if fI then src else 0) else 0
def Qu (kind off:Int):Int:=if kind=1∨kind=2∨kind=3∨kind=4 then off else 0
def Qv (kind op:Int) (fI:Bool) (aq:Int):Int:=if kind=0 then (if fI||decide (op=8) then 0 else aq) else if kind=3 then (if fI then 0 else aq) else if kind=5 then aq else 0
abbrev xD (op w dst src base af aq cc:Int):D:=
  .agg [aj op,aj w,aj dst,aj src,aj base,ao af,ao aq,aj cc]
abbrev JU (kind op w dst src base af aq cc vv vY num to:Int):D:=
  .agg [aj kind,aj op,aj w,aj dst,aj src,aj base,ao af,ao aq,aj cc,aj vv,aj vY,ao num,ao to]
abbrev hY (vY vv:Int):D:=JU 1 0 0 0 0 0 0 0 0 vv vY 0 0
abbrev hG (vv vY:Int):D:=JU 2 0 0 0 0 0 0 0 0 vv vY 0 0
abbrev two (op w dst src:Int):D:=JU 0 op w dst src 0 0 0 0 0 0 0 0
abbrev num (op w dst n:Int):D:=JU 0 op w dst 0 0 0 n 0 0 0 0 0
abbrev Nn (w dst:Int):D:=JU 0 25 w dst 11 0 0 0 4 0 0 0 0
def JW (width aq:Int):Bool:=if width=32 then decide (aq%4294967296=0) else decide (aq=0)
def LP (op:Int):Int:=if op=0 then 2 else if op=1 then 5 else if op=4 then 3 else if op=5 then 4 else if op=10 then 6 else if op=6 then 20 else if op=7 then 21 else 22
def L1 (op:Int):Int:=if op=0 then 9 else if op=1 then 12 else if op=4 then 10 else if op=5 then 11 else if op=10 then 13 else if op=6 then 17 else if op=7 then 18 else 19
def PF (op width:Int) (fI:Bool) (dst src aq:Int):List D:=
  if op=3∨op=9 then
    (if fI then
      [hY 0 dst,hY 1 src,num 1 32 2 0,num 1 32 11 1,two 8 width 1 1,Nn width 1,two 24 width 1 0,hY 1 src]++
        (if op=3 then [num 1 32 11 0,two 8 width 1 1,Nn width 0,hG dst 0] else [hY 11 dst,two 8 width 1 1,Nn width 2,hG dst 2])
    else if JW width aq then
      (if op=3 then [num 1 width 0 0,hG dst 0] else if width=32 then [hY 0 dst,two 0 32 0 0,hG dst 0] else [hY 0 dst,hG dst 0])
    else [hY 0 dst,num 1 width 1 aq,num 1 32 2 0,two 24 width 1 0,hG dst (if op=3 then 0 else 2)])
  else if op=2 then (if fI then [hY 0 dst,hY 1 src,two 16 width 0 1,hG dst 0] else [hY 0 dst,num 1 width 1 aq,two 16 width 0 1,hG dst 0])
  else if op=8 then [hY 0 dst,two 23 width 0 0,hG dst 0]
  else if op=11 then (if fI then (if width=32 then [hY 0 src,two 0 32 0 0,hG dst 0] else [hY 0 src,hG dst 0]) else [num 1 width 0 aq,hG dst 0])
  else if op=6∨op=7∨op=12 then (if fI then [hY 0 dst,hY 1 src,two (LP op) width 0 0,hG dst 0] else [hY 0 dst,num (L1 op) width 0 (aq%width),hG dst 0])
  else (if fI then [hY 0 dst,hY 1 src,two (LP op) width 0 1,hG dst 0] else [hY 0 dst,num (L1 op) width 0 aq,hG dst 0])
def O9 (kind op width size:Int) (fI:Bool) (dst src off aq:Int):List D:=
  if kind=0 then PF op width fI dst src aq
  else if kind=1 then [hY 1 src,JU 0 26 (8*size) 0 0 1 off 0 0 0 0 0 0,hG dst 0]
  else if kind=2 then [hY 1 dst,hY 0 src,JU 0 27 (8*size) 0 0 1 off 0 0 0 0 0 0]
  else if kind=5 then [JU 3 0 0 0 0 0 0 0 0 0 0 aq 0,hG 0 0,num 1 32 1 0,hG 1 1,hG 2 1,hG 3 1,hG 4 1,hG 5 1]
  else if kind=6 then [JU 6 0 0 0 0 0 0 0 0 0 0 0 0]
  else []
theorem bF (n:Int):YO.u8.wrap n=n%256:=by simp [YO.wrap,YO.bits,YO.signed]
theorem B8 (n:Int):YO.u16.wrap n=n%65536:=by simp [YO.wrap,YO.bits,YO.signed]
theorem B7 (n:Int):YO.u32.wrap n=n%4294967296:=by simp [YO.wrap,YO.bits,YO.signed]
theorem dt (n:Int):YO.u64.wrap n=n%18446744073709551616:=by simp [YO.wrap,YO.bits,YO.signed]
theorem dJ (n:Int):YO.i8.wrap n=(n+128)%256 - 128:=by simp only [YO.wrap,YO.bits,YO.signed];simp;split<;>omega
theorem NG (n:Int):YO.i16.wrap n=(n+32768)%65536 - 32768:=by simp only [YO.wrap,YO.bits,YO.signed];simp;split<;>omega
theorem nM (n:Int):YO.i32.wrap n=(n+2147483648)%4294967296 - 2147483648:=by simp only [YO.wrap,YO.bits,YO.signed];simp;split<;>omega
theorem aU (n:Int):YO.i64.wrap n=(n+9223372036854775808)%18446744073709551616 - 9223372036854775808:=by simp only [YO.wrap,YO.bits,YO.signed];simp;split<;>omega
theorem toNat_ofInt (w:Nat) (a:Int):(Xf w a).toNat=(a%(2^w:Nat)).toNat:=by simp [BitVec.toNat_ofInt]
theorem and_ones (w k:Nat) (hk:k≤w) (a:Int):((Xf w a&&&Xf w ((2^k - 1:Nat):Int)).toNat:Int)=a%(2^k:Nat):=by
 have hp:0<2^k:=Nat.two_pow_pos k
 have hle:2^k≤2^w:=Nat.pow_le_pow_right (by omega) hk
 have e2:(((2^k - 1:Nat):Int)%((2^w:Nat):Int)).toNat=2^k - 1:=by
  rw [Int.emod_eq_of_lt (by omega) (by omega)]
  omega
 rw [BitVec.toNat_and,toNat_ofInt,toNat_ofInt,e2,Nat.and_two_pow_sub_one_eq_mod]
 have h0:0≤a%((2^w:Nat):Int):=Int.emod_nonneg _ (by omega)
 have h1:((a%((2^w:Nat):Int)).toNat:Int)=a%((2^w:Nat):Int):=Int.toNat_of_nonneg h0
 rw [Int.natCast_emod,h1]
 have hd:((2^k:Nat):Int)∣((2^w:Nat):Int):=by
  rw [Int.natCast_dvd_natCast];exact Nat.pow_dvd_pow 2 hk
 exact Int.emod_emod_of_dvd a hd
theorem OK (a:Int):((Xf 64 a&&&Xf 64 4294967295).toNat:Int)=a%4294967296:=by have:=and_ones 64 32 (by omega) a;exact this
structure XS where
  op:Int
  w:Int
  ab:Int
  ae:Int
  aa:Int
  af:Int
  aq:Int
  cc:Int
deriving DecidableEq
def XS.d (x:XS):D:=xD x.op x.w x.ab x.ae x.aa x.af x.aq x.cc
structure Qf where
  kind:Int
  op:Int
  w:Int
  ab:Int
  ae:Int
  aa:Int
  af:Int
  aq:Int
  cc:Int
  vv:Int
  vY:Int
  num:Int
  to:Int
deriving DecidableEq
def Qf.d (x:Qf):D:=JU x.kind x.op x.w x.ab x.ae x.aa x.af x.aq x.cc x.vv x.vY x.num x.to
structure kn where
  kind:Int
  op:Int
  width:Int
  size:Int
  fI:Bool
  ab:Int
  ae:Int
  off:Int
  aq:Int
deriving DecidableEq
def kn.d (x:kn):D:=Oq x.kind x.op x.width x.size x.fI x.ab x.ae x.off x.aq
abbrev QG (kind op w dst src base af aq cc vv vY num to:Int):List D:=
  [aj kind,aj op,aj w,aj dst,aj src,aj base,ao af,ao aq,aj cc,aj vv,aj vY,ao num,ao to]
def QD (n:Int):Int:=YO.i64.wrap (1*2^(min (YO.u64.wrap n).toNat YO.i64.bits))
def lg (n:Int):Int:=YO.i64.wrap (1*2^(min n.toNat YO.i64.bits))
def Ep (a b:Int):Int:=YO.i64.wrap ((Xf YO.i64.bits a|||Xf YO.i64.bits b).toNat:Int)
def OI (a b:Int):Int:=YO.i64.wrap ((Xf YO.i64.bits a&&& ~~~Xf YO.i64.bits b).toNat:Int)
end Go.Ev
namespace Go.Proofs.YtbfpahigdpigpaaGreat
open Go Go.Ev
theorem mixed:Tryz.prog.follows .mixedOrders=true:=by kernel_rfl
theorem eh:lJ Tryz.prog 53 [.int .i8,.int .i8,.int .i8,.int .i8,.int .i8,.int .i64,.int .i64,.int .i8]:=lJ.of_flat (d:=5) (by kernel_rfl) (by kernel_rfl) (by kernel_rfl) (by kernel_rfl)
theorem ba:lJ Tryz.prog 46 [.bool,.bool,.bool,.bool,.bool]:=lJ.of_flat (d:=5) (by kernel_rfl) (by kernel_rfl) (by kernel_rfl) (by kernel_rfl)
end Go.Proofs.YtbfpahigdpigpaaGreat
namespace Go.Ev
open Go
def aF (op:Int):Int:=
  if op=0∨(2≤op∧op≤8) then 1
  else if op=16 then 2
  else if op=1∨(9≤op∧op≤15) then 3
  else if 17≤op∧op≤19 then 4
  else if 20≤op∧op≤24 then 5
  else if op=25 then 6
  else if op=26 then 7
  else if op=27 then 8
  else if op=28 then 9
  else if op=29 then 10
  else if op=30∨op=31 then 11
  else 0
def bq (op:Int):Int:=
  if op=0 then 0x89 else if op=1 then 0xC7 else if op=2 then 0x01 else if op=3 then 0x09 else if op=4 then 0x21 else if op=5 then 0x29 else if op=6 then 0x31 else if op=7 then 0x39 else if op=8 then 0x85
  else if 9≤op∧op≤14 then 0x81 else if op=15 then 0xF7 else if op=16 then 0xAF else if 17≤op∧op≤19 then 0xC1 else if 20≤op∧op≤22 then 0xD3 else if op=23∨op=24 then 0xF7
  else if op=25 then 0x40 else if op=26 then 0x8B else if op=27 then 0x89 else if op=28 then 0xE9 else if op=29 then 0x80 else if op=30 then 0xC3 else if op=31 then 0x05 else 0
def bW (op:Int):Int:=
  if op=10 then 1 else if op=11∨op=17∨op=20 then 4 else if op=12∨op=18∨op=21 then 5 else if op=13∨op=24 then 6 else if op=14∨op=19∨op=22 then 7 else if op=23 then 3 else 0
def bz (op:Int):Int:=
  if aF op=1∨aF op=2 then 1 else if aF op=0 then 0 else aF op - 1
def aL (n:Int):Bool:=decide (0≤n∧n≤15)
def bB (n:Int):Bool:=decide ((2≤n∧n≤7)∨(12≤n∧n≤15))
def aE (w:Int):Bool:=decide (w=32∨w=64)
def ay (w:Int):Bool:=decide (w=8∨w=16∨w=32∨w=64)
def a9 (w aq:Int):Bool:=decide (w=32∨(w=8∧ -128≤aq∧aq≤127))
def br (sh w dst src base af aq cc:Int):Bool:=
  if sh=1∨sh=2 then aE w&&decide (base=0∧af=0∧aq=0∧cc=0)
  else if sh=3 then aE w&&decide (src=0∧base=0∧af=0∧cc=0)
  else if sh=4 then aE w&&decide (src=0∧base=0∧af=0∧cc=0∧0≤aq∧aq<w)
  else if sh=5 then aE w&&decide (src=0∧base=0∧af=0∧aq=0∧cc=0)
  else if sh=6 then aE w&&decide (base=0∧af=0∧aq=0)&&bB cc
  else if sh=7 then ay w&&decide (src=0∧aq=0∧cc=0)
  else if sh=8 then ay w&&decide (dst=0∧aq=0∧cc=0)
  else if sh=9 then a9 w aq&&decide (dst=0∧src=0∧base=0∧af=0∧cc=0)
  else if sh=10 then a9 w aq&&decide (dst=0∧src=0∧base=0∧af=0)&&bB cc
  else if sh=11 then decide (w=0∧dst=0∧src=0∧base=0∧af=0∧aq=0∧cc=0)
  else false
def a8 (op w dst src base af aq cc:Int):Bool:=
  aL dst&&aL src&&aL base&&decide (-2147483648≤af∧af≤2147483647)&&decide (-2147483648≤aq∧aq≤2147483647)&&br (aF op) w dst src base af aq cc
def bf (n:Int):List Int:= [n%256,n / 256%256,n / 65536%256,n / 16777216%256]
def dm (wide:Bool) (r m:Int):Int:=64+(if wide then 8 else 0)+4*(r / 8)+m / 8
def bX (wide:Bool) (r m:Int) (always:Bool):Bool:=wide||always||decide (8≤r∨8≤m)
def bw (wide:Bool) (r m:Int) (always:Bool):List Int:=if bX wide r m always then [dm wide r m] else []
def bC (r m:Int):Int:=192+8*(r%8)+m%8
def bI (r b af:Int):List Int:=if b%8=4 then (128+8*(r%8)+b%8)::36::bf af else (128+8*(r%8)+b%8)::bf af
def aN (op w dst src base af aq cc:Int):List Int:=
  let sh:=aF op
  let wide:=decide (w=64)
  if sh=1 then bw wide src dst false++ [bq op,bC src dst]
  else if sh=2 then bw wide dst src false++ [15,bq op,bC dst src]
  else if sh=6 then bw wide dst src false++ [15,64+cc,bC dst src]
  else if sh=3 then (if op=1∧w=32 then bw false 0 dst false++((184+dst%8)::bf aq) else bw wide 0 dst false++(bq op::bC (bW op) dst::bf aq))
  else if sh=4 then bw wide 0 dst false++ [bq op,bC (bW op) dst,aq%256]
  else if sh=5 then bw wide 0 dst false++ [bq op,bC (bW op) dst]
  else if sh=7 then bw wide dst base false++((if w=8 then [15,182] else if w=16 then [15,183] else [139])++bI dst base af)
  else if sh=8 then (if w=16 then [102] else [])++(bw wide src base (decide (w=8))++((if w=8 then [136] else [137])++bI src base af))
  else if sh=9 then (if w=8 then [235,aq%256] else 233::bf aq)
  else if sh=10 then (if w=8 then [112+cc,aq%256] else 15::(128+cc)::bf aq)
  else if op=31 then [15,5]
  else [195]
def bD (l:List Int):List D:=l.map fun n=> .int .u8 n
def mo (op w dst src base af aq cc:Int):List D:=if a8 op w dst src base af aq cc then bD (aN op w dst src base af aq cc) else []
def pB (op w dst src base af aq cc:Int):Int:=if a8 op w dst src base af aq cc then 0 else 2
def fU (a b c d:Int):Int:=(a+256*b+65536*c+16777216*d+2147483648)%4294967296 - 2147483648
def eW (a:Int):Int:=(a+128)%256 - 128
theorem FA {n:Int} (h0: -2147483648≤n) (h1:n≤2147483647):fU (n%256) (n / 256%256) (n / 65536%256) (n / 16777216%256)=n:=by
 simp only [fU]
 omega
theorem od {n:Int} (h0: -128≤n) (h1:n≤127):eW (n%256)=n:=by
 simp only [eW]
 omega
theorem ef {op w dst src base af aq cc:Int} (h:a8 op w dst src base af aq cc=true):
  (0≤dst∧dst≤15∧0≤src∧src≤15∧0≤base∧base≤15∧ -2147483648≤af∧af≤2147483647∧ -2147483648≤aq∧aq≤2147483647)∧br (aF op) w dst src base af aq cc=true:=by
 simp only [a8,aL,Xp,bP] at h
 exact ⟨by omega,h.2⟩
theorem iG {op:Int} (h:aF op≠0):op=0∨op=1∨op=2∨op=3∨op=4∨op=5∨op=6∨op=7∨op=8∨op=9∨op=10∨op=11∨op=12∨op=13∨op=14∨op=15∨op=16∨op=17∨op=18∨op=19∨op=20∨op=21∨op=22∨op=23∨op=24∨op=25∨op=26∨op=27∨op=28∨op=29∨op=30∨op=31:=by
 by_cases h2:0≤op∧op≤31
 ·omega
 ·refine absurd ?_ h
  unfold aF
  repeat (rw [if_neg (by omega)])
def zo:List Int→Int
  |a::b::c::d::_=>fU a b c d
  |_=>0
def hd (l:List Int):Int:=l.headD 0
def gR:List Int:= [0,1,2,3,4,5,6,7,8,9,10,11,12,13,14,15,16,17,18,19,20,21,22,23,24,25,26,27,28,29,30,31]
def Jd (p:Int→Bool):Int:=(gR.find? p).getD (-1)
def oc (c:Int):Int:=Jd fun o=>decide (aF o=1∧bq o=c)
def Cz (c k:Int):Int:=Jd fun o=>decide ((aF o=3∨aF o=4∨aF o=5)∧bq o=c∧bW o=k)
def D5:List Int→Bool×Int×Int×List Int
  |h::t=>if 64≤h∧h≤79 then (decide (72≤h),(h - 64) / 4%2,(h - 64)%2,t) else (false,0,0,h::t)
  | []=>(false,0,0,[])
def BN (t:List Int):List Int:=if hd t%8=4 then t.drop 2 else t.drop 1
def Gd (wide:Bool) (r m c:Int) (t:List Int):XS:=
  let w:=if wide then 64 else 32
  let vv:=hd t / 8%8+8*r
  let rm:=hd t%8+8*m
  if c=175 then ⟨16,w,vv,rm,0,0,0,0⟩
  else if 64≤c∧c≤79 then ⟨25,w,vv,rm,0,0,0,c - 64⟩
  else if 128≤c∧c≤143 then ⟨29,32,0,0,0,0,zo t,c - 128⟩
  else if c=182 then ⟨26,8,vv,0,rm,zo (BN t),0,0⟩
  else if c=183 then ⟨26,16,vv,0,rm,zo (BN t),0,0⟩
  else ⟨31,0,0,0,0,0,0,0⟩
def km (half wide:Bool) (r m c:Int) (t:List Int):XS:=
  let w:=if wide then 64 else 32
  let vv:=hd t / 8%8+8*r
  let rm:=hd t%8+8*m
  if c=15 then Gd wide r m (hd t) (t.drop 1)
  else if 184≤c∧c≤191 then ⟨1,32,c - 184+8*m,0,0,0,zo t,0⟩
  else if 112≤c∧c≤127 then ⟨29,8,0,0,0,0,eW (hd t),c - 112⟩
  else if c=235 then ⟨28,8,0,0,0,0,eW (hd t),0⟩
  else if c=233 then ⟨28,32,0,0,0,0,zo t,0⟩
  else if c=195 then ⟨30,0,0,0,0,0,0,0⟩
  else if c=139 then ⟨26,w,vv,0,rm,zo (BN t),0,0⟩
  else if c=136 then ⟨27,8,0,vv,rm,zo (BN t),0,0⟩
  else if c=137∧hd t<192 then ⟨27,if half then 16 else w,0,vv,rm,zo (BN t),0,0⟩
  else if oc c≠ -1 then ⟨oc c,w,rm,vv,0,0,0,0⟩
  else
    let o:=Cz c (hd t / 8%8)
    if aF o=3 then ⟨o,w,rm,0,0,0,zo (t.drop 1),0⟩
    else if aF o=4 then ⟨o,w,rm,0,0,0,hd (t.drop 1),0⟩
    else ⟨o,w,rm,0,0,0,0,0⟩
def OD (half:Bool) (p:Bool×Int×Int×List Int):XS:=km half p.1 p.2.1 p.2.2.1 (hd p.2.2.2) (p.2.2.2.drop 1)
def td (l:List Int):XS:=if hd l=102 then OD true (D5 (l.drop 1)) else OD false (D5 l)
theorem Cs {wide al:Bool} {r m c:Int} {t:List Int} (r0:0≤r) (r1:r≤15) (m0:0≤m) (m1:m≤15) (hc:¬(64≤c∧c≤79)):D5 (bw wide r m al++c::t)=(wide,r / 8,m / 8,c::t):=by
 unfold bw
 split
 ·simp only [Xs,XJ,D5,dm]
  cases wide
  ·simp only [Yb,if_false]
   rw [if_pos (by omega)]
   refine Prod.ext ?_ (Prod.ext ?_ (Prod.ext ?_ rfl))<;>simp<;>omega
  ·simp only [if_true]
   rw [if_pos (by omega)]
   refine Prod.ext ?_ (Prod.ext ?_ (Prod.ext ?_ rfl))<;>simp<;>omega
 ·rename_i h
  simp only [bX,XM,bP,not_or,Bool.not_eq_true] at h
  simp only [XJ,D5,if_neg hc]
  rw [h.1.1]
  refine Prod.ext rfl (Prod.ext ?_ (Prod.ext ?_ rfl))<;>simp<;>omega
theorem AD {wide al:Bool} {r m c:Int} {t:List Int} (r0:0≤r) (r1:r≤15) (m0:0≤m) (m1:m≤15) (hc:c≠102):hd (bw wide r m al++c::t)≠102:=by
 unfold bw
 split
 ·simp only [Xs,hd,List.headD_cons,dm]
  cases wide<;>simp<;>omega
 ·simpa [hd] using hc
theorem gV {wide al:Bool} {r m c:Int} {t:List Int} (r0:0≤r) (r1:r≤15) (m0:0≤m) (m1:m≤15) (hc:¬(64≤c∧c≤79)) (h2:c≠102):td (bw wide r m al++c::t)=km false wide (r / 8) (m / 8) c t:=by
 unfold td
 rw [if_neg (AD r0 r1 m0 m1 h2),Cs r0 r1 m0 m1 hc]
 rfl
theorem Jm {wide al:Bool} {r m c:Int} {t:List Int} (r0:0≤r) (r1:r≤15) (m0:0≤m) (m1:m≤15) (hc:¬(64≤c∧c≤79)):td (102::(bw wide r m al++c::t))=km true wide (r / 8) (m / 8) c t:=by
 unfold td
 rw [if_pos (show hd (102::(bw wide r m al++c::t))=102 from rfl),List.drop_one,List.tail_cons,Cs r0 r1 m0 m1 hc]
 rfl
theorem la {c:Int} {t:List Int} (hc:¬(64≤c∧c≤79)) (h2:c≠102):td (c::t)=km false false 0 0 c t:=by
 unfold td
 rw [if_neg (by simpa [hd] using h2),D5,if_neg hc]
 rfl
theorem qY {r m:Int} (r0:0≤r) (r1:r≤15) (m0:0≤m) (m1:m≤15):bC r m / 8%8+8*(r / 8)=r:=by unfold bC;omega
theorem mG {r m:Int} (r0:0≤r) (r1:r≤15) (m0:0≤m) (m1:m≤15):bC r m%8+8*(m / 8)=m:=by unfold bC;omega
theorem re {r m:Int} (r0:0≤r) (r1:r≤7) (m0:0≤m) (m1:m≤15):bC r m / 8%8=r:=by unfold bC;omega
theorem Km {r m:Int} (r0:0≤r) (m0:0≤m):¬bC r m<192:=by unfold bC;omega
theorem j8 {r b af:Int} {t:List Int} :hd (bI r b af++t)=128+8*(r%8)+b%8:=by unfold bI;split<;>simp [hd]
theorem kF {r b af:Int} {t:List Int} :BN (bI r b af++t)=bf af++t:=by
 unfold BN
 rw [j8]
 unfold bI
 split<;>rename_i h<;>split<;>rename_i h2<;>first|(exfalso;omega)|simp
theorem fu {n:Int} {t:List Int} (h0: -2147483648≤n) (h1:n≤2147483647):zo (bf n++t)=n:=by
 simp only [bf,Xs,zo]
 exact FA h0 h1
theorem kE {r b:Int} (r0:0≤r) (r1:r≤15):(128+8*(r%8)+b%8) / 8%8+8*(r / 8)=r:=by omega
theorem md {r b:Int} (b0:0≤b) (b1:b≤15):(128+8*(r%8)+b%8)%8+8*(b / 8)=b:=by omega
theorem MX {r b:Int} :128+8*(r%8)+b%8<192:=by omega
theorem v5:∀n:Fin 32,aF (n.val:Int)=1→oc (bq (n.val:Int))=n.val:=by decide+kernel
theorem lr:∀n:Fin 32,aF (n.val:Int)=3∨aF (n.val:Int)=4∨aF (n.val:Int)=5→Cz (bq (n.val:Int)) (bW (n.val:Int))=n.val:=by decide+kernel
theorem sq:∀n:Fin 32,aF (n.val:Int)=1→(let c:=bq (n.val:Int);c≠15∧¬(64≤c∧c≤79)∧c≠102∧¬(184≤c∧c≤191)∧¬(112≤c∧c≤127)∧c≠235∧c≠233∧c≠195∧c≠139∧c≠136∧oc c≠ -1):=by decide+kernel
theorem jr:∀n:Fin 32,aF (n.val:Int)=3∨aF (n.val:Int)=4∨aF (n.val:Int)=5→(let c:=bq (n.val:Int);c≠15∧¬(64≤c∧c≤79)∧c≠102∧¬(184≤c∧c≤191)∧¬(112≤c∧c≤127)∧c≠235∧c≠233∧c≠195∧c≠139∧c≠136∧c≠137∧oc c= -1∧0≤bW (n.val:Int)∧bW (n.val:Int)≤7):=by decide+kernel
theorem vZ {op:Int} (h:aF op≠0):∃n:Fin 32,op=n.val:=by
 have:=iG h
 exact ⟨⟨op.toNat,by omega⟩,by simp;omega⟩
theorem jo {w:Int} (h:aE w=true):w=32∨w=64:=by simpa [aE] using h
theorem kK {w:Int} (h:aE w=true):(if decide (w=64)=true then 64 else 32)=w:=by rcases jo h with rfl|rfl<;>rfl
theorem vd:∀n:Fin 32,aF (n.val:Int)=6→(n.val:Int)=25:=by decide+kernel
theorem u9:∀n:Fin 32,aF (n.val:Int)=7→(n.val:Int)=26:=by decide+kernel
theorem u7:∀n:Fin 32,aF (n.val:Int)=8→(n.val:Int)=27:=by decide+kernel
theorem u6:∀n:Fin 32,aF (n.val:Int)=9→(n.val:Int)=28:=by decide+kernel
theorem qO:∀n:Fin 32,aF (n.val:Int)=10→(n.val:Int)=29:=by decide+kernel
theorem qN:∀n:Fin 32,aF (n.val:Int)=11→(n.val:Int)=30∨(n.val:Int)=31:=by decide+kernel
theorem gX {w:Int} (h:ay w=true):w=8∨w=16∨w=32∨w=64:=by simpa [ay] using h
theorem Jn {op w dst src base af aq cc:Int} (h:a8 op w dst src base af aq cc=true) (t:List Int):td (aN op w dst src base af aq cc++t)=⟨op,w,dst,src,base,af,aq,cc⟩:=by
 obtain ⟨⟨d0,d1,s0,s1,b0,b1,p0,p1,i0,i1⟩,hs⟩:=ef h
 have Tf:aF op≠0:=by
  intro e
  rw [e] at hs
  simp [br] at hs
 obtain ⟨k,rfl⟩:=vZ Tf
 unfold br at hs
 split at hs
 ·rename_i Uh
  simp only [Xp,bP] at hs
  obtain ⟨hw,rfl,rfl,rfl,rfl⟩:=hs
  have ew:=kK hw
  rcases Uh with h1|h1
  ·
   obtain ⟨c1,c2,c3,c4,c5,c6,c7,c8,c9,QS,Rc⟩:=sq k h1
   have e:aN (k.val:Int) w dst src 0 0 0 0=bw (decide (w=64)) src dst false++ [bq (k.val:Int),bC src dst]:=by simp only [aN,h1,if_true]
   rw [e,XA,Xs,Xs,XJ,gV s0 s1 d0 d1 c2 c3]
   simp only [km,if_neg c1,if_neg c4,if_neg c5,if_neg c6,if_neg c7,if_neg c8,if_neg c9,if_neg QS]
   have g:hd (bC src dst::t)=bC src dst:=rfl
   rw [g,if_neg (by have:=Km (m:=dst) s0 d0;omega),if_pos Rc,v5 k h1,qY s0 s1 d0 d1,mG s0 s1 d0 d1,ew]
  ·
   have hk:(k.val:Int)=16:=by
    have:=iG (op:=(k.val:Int)) (by omega)
    revert h1
    rcases this with e|e|e|e|e|e|e|e|e|e|e|e|e|e|e|e|e|e|e|e|e|e|e|e|e|e|e|e|e|e|e|e<;>rw [e]<;>decide
   rw [hk]
   have e:aN 16 w dst src 0 0 0 0=bw (decide (w=64)) dst src false++ [15,175,bC dst src]:=by
    simp only [aN,show aF 16=2 from rfl,show bq 16=175 from rfl,if_true,show ¬(2:Int)=1 by decide,if_false]
   rw [e,XA,Xs,Xs,Xs,XJ,gV d0 d1 s0 s1 (by decide) (by decide)]
   simp only [km,if_true,Gd,hd,List.headD_cons,List.drop_succ_cons,Yn]
   rw [qY d0 d1 s0 s1,mG d0 d1 s0 s1,ew]
 ·rename_i Vu
  have n1:¬aF (k.val:Int)=1:=fun e=>Vu (.inl e)
  have n2:¬aF (k.val:Int)=2:=fun e=>Vu (.inr e)
  split at hs
  ·
   rename_i h3
   simp only [Xp,bP] at hs
   obtain ⟨hw,rfl,rfl,rfl,rfl⟩:=hs
   have ew:=kK hw
   by_cases hm:(k.val:Int)=1∧w=32
   ·obtain ⟨hm,rfl⟩:=hm
    have e:aN (k.val:Int) 32 dst 0 0 0 aq 0=bw false 0 dst false++((184+dst%8)::bf aq):=by
     rw [hm]
     simp [aN,show aF 1=3 from rfl]
    rw [e,XA,Xs,gV (by omega) (by omega) d0 d1 (by omega) (by omega)]
    have c1:¬184+dst%8=15:=by omega
    simp only [km,if_neg c1]
    rw [if_pos (by omega),fu i0 i1,hm]
    congr 1
    omega
   ·obtain ⟨c1,c2,c3,c4,c5,c6,c7,c8,c9,QS,Rc,Q0,u0,u1⟩:=jr k (.inl h3)
    have e:aN (k.val:Int) w dst 0 0 0 aq 0=bw (decide (w=64)) 0 dst false++(bq (k.val:Int)::bC (bW (k.val:Int)) dst::bf aq):=by
     simp only [aN,h3,if_neg hm,show ¬(3:Int)=1 by decide,show ¬(3:Int)=2 by decide,show ¬(3:Int)=6 by decide,if_false,if_true]
    rw [e,XA,Xs,Xs,gV (by omega) (by omega) d0 d1 c2 c3]
    simp only [km,if_neg c1,if_neg c4,if_neg c5,if_neg c6,if_neg c7,if_neg c8,if_neg c9,if_neg QS]
    have g:hd (bC (bW (k.val:Int)) dst::(bf aq++t))=bC (bW (k.val:Int)) dst:=rfl
    rw [g,if_neg (by omega),if_neg (by simp [Q0]),re u0 u1 d0 d1,lr k (.inl h3),if_pos h3,List.drop_one,List.tail_cons,fu i0 i1,mG u0 (by omega) d0 d1,ew]
  ·rename_i n3
   split at hs
   ·
    rename_i h4
    simp only [Xp,bP] at hs
    obtain ⟨hw,rfl,rfl,rfl,rfl,j0,j1⟩:=hs
    have ew:=kK hw
    have R4:=jo hw
    obtain ⟨c1,c2,c3,c4,c5,c6,c7,c8,c9,QS,Rc,Q0,u0,u1⟩:=jr k (.inr (.inl h4))
    have e:aN (k.val:Int) w dst 0 0 0 aq 0=bw (decide (w=64)) 0 dst false++ [bq (k.val:Int),bC (bW (k.val:Int)) dst,aq%256]:=by
     simp only [aN,h4,show ¬(4:Int)=1 by decide,show ¬(4:Int)=2 by decide,show ¬(4:Int)=6 by decide,show ¬(4:Int)=3 by decide,if_false,if_true]
    rw [e,XA,Xs,Xs,Xs,XJ,gV (by omega) (by omega) d0 d1 c2 c3]
    simp only [km,if_neg c1,if_neg c4,if_neg c5,if_neg c6,if_neg c7,if_neg c8,if_neg c9,if_neg QS]
    have g:hd (bC (bW (k.val:Int)) dst::aq%256::t)=bC (bW (k.val:Int)) dst:=rfl
    rw [g,if_neg (by omega),if_neg (by simp [Q0]),re u0 u1 d0 d1,lr k (.inr (.inl h4)),if_neg (by omega),if_pos h4,List.drop_one,List.tail_cons,mG u0 (by omega) d0 d1,ew]
    have:hd (aq%256::t)=aq:=by simp only [hd,List.headD_cons];omega
    rw [this]
   ·rename_i n4
    split at hs
    ·
     rename_i h5
     simp only [Xp,bP] at hs
     obtain ⟨hw,rfl,rfl,rfl,rfl,rfl⟩:=hs
     have ew:=kK hw
     obtain ⟨c1,c2,c3,c4,c5,c6,c7,c8,c9,QS,Rc,Q0,u0,u1⟩:=jr k (.inr (.inr h5))
     have e:aN (k.val:Int) w dst 0 0 0 0 0=bw (decide (w=64)) 0 dst false++ [bq (k.val:Int),bC (bW (k.val:Int)) dst]:=by
      simp only [aN,h5,show ¬(5:Int)=1 by decide,show ¬(5:Int)=2 by decide,show ¬(5:Int)=6 by decide,show ¬(5:Int)=3 by decide,show ¬(5:Int)=4 by decide,if_false,if_true]
     rw [e,XA,Xs,Xs,XJ,gV (by omega) (by omega) d0 d1 c2 c3]
     simp only [km,if_neg c1,if_neg c4,if_neg c5,if_neg c6,if_neg c7,if_neg c8,if_neg c9,if_neg QS]
     have g:hd (bC (bW (k.val:Int)) dst::t)=bC (bW (k.val:Int)) dst:=rfl
     rw [g,if_neg (by omega),if_neg (by simp [Q0]),re u0 u1 d0 d1,lr k (.inr (.inr h5)),if_neg (by omega),if_neg (by omega),mG u0 (by omega) d0 d1,ew]
    ·rename_i n5
     split at hs
     ·
      rename_i h6
      have hk:=vd k h6
      rw [hk] at h6 ⊢
      simp only [Xp,bP] at hs
      obtain ⟨⟨hw,rfl,rfl,rfl⟩,hc⟩:=hs
      have ew:=kK hw
      simp only [bB,bP] at hc
      have e:aN 25 w dst src 0 0 0 cc=bw (decide (w=64)) dst src false++ [15,64+cc,bC dst src]:=by
       simp [aN,show aF 25=6 from rfl]
      rw [e,XA,Xs,Xs,Xs,XJ,gV d0 d1 s0 s1 (by decide) (by decide)]
      have c1:¬64+cc=175:=by omega
      have c2:64≤64+cc∧64+cc≤79:=by omega
      simp only [km,if_true,Gd,hd,List.headD_cons,List.drop_succ_cons,Yn,if_neg c1,if_pos c2]
      rw [qY d0 d1 s0 s1,mG d0 d1 s0 s1,ew]
      congr 1
      omega
     ·rename_i n6
      split at hs
      ·
       rename_i h7
       have hk:=u9 k h7
       rw [hk] at h7 ⊢
       simp only [Xp,bP] at hs
       obtain ⟨hw,rfl,rfl,rfl⟩:=hs
       have e:aN 26 w dst 0 base af 0 0=bw (decide (w=64)) dst base false++((if w=8 then [15,182] else if w=16 then [15,183] else [139])++bI dst base af):=by
        simp [aN,show aF 26=7 from rfl]
       rw [e]
       rcases gX hw with rfl|rfl|rfl|rfl
       ·rw [if_pos rfl,XA,XA,Xs,gV d0 d1 b0 b1 (by decide) (by decide)]
        simp only [km,if_true,Gd,Xs,XJ]
        have g:hd (182::(bI dst base af++t))=182:=rfl
        simp only [g,List.drop_one,List.tail_cons,j8,kF,fu p0 p1,kE d0 d1,md b0 b1]
        rfl
       ·rw [if_neg (by decide),if_pos rfl,XA,XA,Xs,gV d0 d1 b0 b1 (by decide) (by decide)]
        simp only [km,if_true,Gd,Xs,XJ]
        have g:hd (183::(bI dst base af++t))=183:=rfl
        simp only [g,List.drop_one,List.tail_cons,j8,kF,fu p0 p1,kE d0 d1,md b0 b1]
        rfl
       ·rw [if_neg (by decide),if_neg (by decide),XA,XA,Xs,XJ,gV d0 d1 b0 b1 (by decide) (by decide)]
        simp only [km,j8,kF,fu p0 p1,kE d0 d1,md b0 b1]
        rfl
       ·rw [if_neg (by decide),if_neg (by decide),XA,XA,Xs,XJ,gV d0 d1 b0 b1 (by decide) (by decide)]
        simp only [km,j8,kF,fu p0 p1,kE d0 d1,md b0 b1]
        rfl
      ·rename_i n7
       split at hs
       ·
        rename_i h8
        have hk:=u7 k h8
        rw [hk] at h8 ⊢
        simp only [Xp,bP] at hs
        obtain ⟨hw,rfl,rfl,rfl⟩:=hs
        have e:aN 27 w 0 src base af 0 0=(if w=16 then [102] else [])++(bw (decide (w=64)) src base (decide (w=8))++((if w=8 then [136] else [137])++bI src base af)):=by
         simp [aN,show aF 27=8 from rfl]
        rw [e]
        have ml:= @MX src base
        rcases gX hw with rfl|rfl|rfl|rfl
        ·rw [if_neg (by decide),if_pos rfl,XJ,XA,XA,Xs,XJ,gV s0 s1 b0 b1 (by decide) (by decide)]
         simp only [km,j8,kF,fu p0 p1,kE s0 s1,md b0 b1]
         rfl
        ·rw [if_pos rfl,if_neg (by decide),XA,XA,XA,Xs,Xs,XJ,XJ,Jm s0 s1 b0 b1 (by decide)]
         simp only [km,j8,kF,fu p0 p1,kE s0 s1,md b0 b1,ml,fS]
         rfl
        ·rw [if_neg (by decide),if_neg (by decide),XJ,XA,XA,Xs,XJ,gV s0 s1 b0 b1 (by decide) (by decide)]
         simp only [km,j8,kF,fu p0 p1,kE s0 s1,md b0 b1,ml,fS]
         rfl
        ·rw [if_neg (by decide),if_neg (by decide),XJ,XA,XA,Xs,XJ,gV s0 s1 b0 b1 (by decide) (by decide)]
         simp only [km,j8,kF,fu p0 p1,kE s0 s1,md b0 b1,ml,fS]
         rfl
       ·rename_i n8
        split at hs
        ·
         rename_i h9
         have hk:=u6 k h9
         rw [hk] at h9 ⊢
         simp only [Xp,bP,a9] at hs
         obtain ⟨hw,rfl,rfl,rfl,rfl,rfl⟩:=hs
         have e:aN 28 w 0 0 0 0 aq 0=if w=8 then [235,aq%256] else 233::bf aq:=by
          simp [aN,show aF 28=9 from rfl]
         rw [e]
         rcases hw with rfl|⟨rfl,j0,j1⟩
         ·rw [if_neg (by decide),Xs,la (by decide) (by decide)]
          simp only [km,fu i0 i1]
          rfl
         ·rw [if_pos rfl,Xs,la (by decide) (by decide)]
          have g:hd ([aq%256]++t)=aq%256:=rfl
          simp only [km,g,od j0 j1]
          rfl
        ·rename_i n9
         split at hs
         ·
          rename_i Sz
          have hk:=qO k Sz
          rw [hk] at Sz ⊢
          simp only [Xp,bP,a9] at hs
          obtain ⟨⟨hw,rfl,rfl,rfl,rfl⟩,hc⟩:=hs
          simp only [bB,bP] at hc
          have e:aN 29 w 0 0 0 0 aq cc=if w=8 then [112+cc,aq%256] else 15::(128+cc)::bf aq:=by
           simp [aN,show aF 29=10 from rfl]
          rw [e]
          rcases hw with rfl|⟨rfl,j0,j1⟩
          ·rw [if_neg (by decide),Xs,Xs,la (by decide) (by decide)]
           have g:hd ((128+cc)::(bf aq++t))=128+cc:=rfl
           simp only [km,if_true,Gd,g,List.drop_one,List.tail_cons,fu i0 i1]
           rw [if_neg (by omega),if_neg (by omega),if_pos (by omega)]
           congr 1
           omega
          ·rw [if_pos rfl,Xs,la (by omega) (by omega)]
           have g:hd ([aq%256]++t)=aq%256:=rfl
           simp only [km,g,od j0 j1]
           rw [if_neg (by omega),if_neg (by omega),if_pos (by omega)]
           congr 1
           omega
         ·rename_i n10
          split at hs
          ·rename_i Tx
           simp only [bP] at hs
           obtain ⟨rfl,rfl,rfl,rfl,rfl,rfl,rfl⟩:=hs
           rcases qN k Tx with hk|hk<;>rw [hk]
           ·have e:aN 30 0 0 0 0 0 0 0= [195]:=rfl
            rw [e,Xs,la (by decide) (by decide)]
            rfl
           ·have e:aN 31 0 0 0 0 0 0 0= [15,5]:=rfl
            rw [e,Xs,la (by decide) (by decide)]
            rfl
          ·cases hs
theorem il {d:Int} (h0:0≤d) (h1:d≤15):∃n:Fin 16,d=(n.val:Int):=⟨⟨d.toNat,by omega⟩,by simp;omega⟩
theorem CF {r m:Int} (r0:0≤r) (r1:r≤15) (m0:0≤m) (m1:m≤15):(YO.i8.wrap ((Xf 8 (YO.i8.wrap ((Xf 8 r|||Xf 8 m).toNat:Int))&&&Xf 8 8).toNat:Int) !=0)=decide (8≤r∨8≤m):=by
 obtain ⟨n,rfl⟩:=il r0 r1
 obtain ⟨k,rfl⟩:=il m0 m1
 clear r0 r1 m0 m1
 revert n k
 decide+kernel
theorem gO {r:Int} (r0:0≤r) (r1:r≤15):aL r=true:=by simp [aL,r0,r1]
theorem Hr {r m:Int} (r0:0≤r) (r1:r≤15) (m0:0≤m) (m1:m≤15):YO.u8.wrap ((Xf 8 (YO.u8.wrap ((Xf 8 64|||Xf 8 (4*(r / 8))).toNat:Int))|||Xf 8 (m / 8)).toNat:Int)=dm false r m:=by
 obtain ⟨n,rfl⟩:=il r0 r1
 obtain ⟨k,rfl⟩:=il m0 m1
 clear r0 r1 m0 m1
 revert n k
 decide+kernel
theorem Hq {r m:Int} (r0:0≤r) (r1:r≤15) (m0:0≤m) (m1:m≤15):YO.u8.wrap ((Xf 8 (YO.u8.wrap ((Xf 8 (YO.u8.wrap ((Xf 8 64|||Xf 8 (4*(r / 8))).toNat:Int))|||Xf 8 (m / 8)).toNat:Int))|||Xf 8 8).toNat:Int)=dm true r m:=by
 obtain ⟨n,rfl⟩:=il r0 r1
 obtain ⟨k,rfl⟩:=il m0 m1
 clear r0 r1 m0 m1
 revert n k
 decide+kernel
theorem gp (a:Int):((Xf 8 a&&&Xf 8 7).toNat:Int)=a%8:=by have:=and_ones 8 3 (by omega) a;exact this
theorem LL {b:Int} (h:decide (b%8=4)=true):(YO.i8.wrap ((Xf 8 b&&&Xf 8 7).toNat:Int)==4)=true:=by
 rw [gp,dJ];simp at h ⊢;omega
theorem LM {b:Int} (h:decide (b%8=4)=false):(YO.i8.wrap ((Xf 8 b&&&Xf 8 7).toNat:Int)==4)=false:=by
 rw [gp,dJ];simp at h ⊢;omega
theorem P5 (a:Int):a.fdiv 1=a:=by rw [Yd _ (by decide)];omega
theorem L6 (a:Int):a.fdiv 256=a / 256:=Yd _ (by decide)
theorem CW (a:Int):a.fdiv 65536=a / 65536:=Yd _ (by decide)
theorem sg (a:Int):a.fdiv 16777216=a / 16777216:=Yd _ (by decide)
theorem oa {r:Int} (r0:0≤r) (r1:r≤15):YO.u8.wrap ((Xf 8 184|||Xf 8 (YO.u8.wrap (YO.i8.wrap ((Xf 8 r&&&Xf 8 7).toNat:Int)))).toNat:Int)=184+r%8:=by
 obtain ⟨n,rfl⟩:=il r0 r1
 clear r0 r1
 revert n
 decide+kernel
theorem aX (a b:Int):(a==b)=decide (a=b):=by
 rw [Bool.eq_iff_iff];simp
def eY (op w dst src base af aq cc:Int):Int:=((mo op w dst src base af aq cc).length:Nat)
theorem so:∀n:Fin 32,(0≤bq (n.val:Int)∧bq (n.val:Int)≤255)∧0≤bW (n.val:Int)∧bW (n.val:Int)≤7:=by decide+kernel
theorem BB {op:Int} (h:aF op≠0):(0≤bq op∧bq op≤255)∧0≤bW op∧bW op≤7:=by
 obtain ⟨n,rfl⟩:=vZ h
 exact so n
theorem CN {sh w dst src base af aq cc:Int} (hs:br sh w dst src base af aq cc=true):0≤cc∧cc≤15:=by
 unfold br at hs
 repeat' split at hs
 all_goals first|(cases hs;done)|(simp only [bB,Xp,bP] at hs;omega)
def kQ (l:List Int):Prop:= ∀b∈l,0≤b∧b≤255
theorem kQ.nil:kQ []:=by intro b hb;cases hb
theorem kQ.cons {x:Int} {l:List Int} (h0:0≤x) (h1:x≤255) (h:kQ l):kQ (x::l):=by
 intro b hb
 rcases List.mem_cons.1 hb with e|hb
 ·subst e;exact ⟨h0,h1⟩
 ·exact h b hb
theorem kQ.app {a b:List Int} (h:kQ a) (k:kQ b):kQ (a++b):=fun x hx=>(List.mem_append.1 hx).elim (h x) (k x)
theorem kQ.ite {c:Prop} [Decidable c] {a b:List Int} (h:c→kQ a) (k:¬c→kQ b):kQ (if c then a else b):=by
 split
 ·exact h ‹_›
 ·exact k ‹_›
theorem kQ.four (n:Int):kQ (bf n):=by
 unfold bf
 exact .cons (by omega) (by omega) (.cons (by omega) (by omega) (.cons (by omega) (by omega) (.cons (by omega) (by omega) .nil)))
theorem kQ.zR {wd al:Bool} {r m:Int} (h1:0≤r) (h2:r≤15) (h3:0≤m) (h4:m≤15):kQ (bw wd r m al):=by
 unfold bw
 refine .ite (fun _=> ?_) (fun _=> .nil)
 unfold dm
 cases wd
 ·exact .cons (by simp;omega) (by simp;omega) .nil
 ·exact .cons (by simp;omega) (by simp;omega) .nil
theorem qZ (r m:Int):0≤bC r m∧bC r m≤255:=by unfold bC;omega
theorem kQ.mem (r b n:Int):kQ (bI r b n):=by
 unfold bI
 exact .ite (fun _=> .cons (by omega) (by omega) (.cons (by omega) (by omega) (.four n))) (fun _=> .cons (by omega) (by omega) (.four n))
theorem xa {op w dst src base af aq cc:Int} (h:a8 op w dst src base af aq cc=true):kQ (aN op w dst src base af aq cc):=by
 obtain ⟨⟨d0,d1,s0,s1,b0,b1,p0,p1,i0,i1⟩,hs⟩:=ef h
 have Tf:aF op≠0:=by
  intro e
  rw [e] at hs
  simp [br] at hs
 obtain ⟨⟨c0,c1⟩,n0,n1⟩:=BB Tf
 obtain ⟨k0,k1⟩:=CN hs
 have rg:=fun r m=>(qZ r m).1
 have UU:=fun r m=>(qZ r m).2
 unfold aN
 refine .ite (fun _=> .app (.zR s0 s1 d0 d1) (.cons c0 c1 (.cons (rg _ _) (UU _ _) .nil))) fun _=> ?_
 refine .ite (fun _=> .app (.zR d0 d1 s0 s1) (.cons (by omega) (by omega) (.cons c0 c1 (.cons (rg _ _) (UU _ _) .nil)))) fun _=> ?_
 refine .ite (fun _=> .app (.zR d0 d1 s0 s1) (.cons (by omega) (by omega) (.cons (by omega) (by omega) (.cons (rg _ _) (UU _ _) .nil)))) fun _=> ?_
 refine .ite (fun _=> .ite (fun _=> .app (.zR (by omega) (by omega) d0 d1) (.cons (by omega) (by omega) (.four _))) (fun _=> .app (.zR (by omega) (by omega) d0 d1) (.cons c0 c1 (.cons (rg _ _) (UU _ _) (.four _))))) fun _=> ?_
 refine .ite (fun _=> .app (.zR (by omega) (by omega) d0 d1) (.cons c0 c1 (.cons (rg _ _) (UU _ _) (.cons (by omega) (by omega) .nil)))) fun _=> ?_
 refine .ite (fun _=> .app (.zR (by omega) (by omega) d0 d1) (.cons c0 c1 (.cons (rg _ _) (UU _ _) .nil))) fun _=> ?_
 refine .ite (fun _=> .app (.zR d0 d1 b0 b1) (.app (.ite (fun _=> .cons (by omega) (by omega) (.cons (by omega) (by omega) .nil)) fun _=> .ite (fun _=> .cons (by omega) (by omega) (.cons (by omega) (by omega) .nil)) fun _=> .cons (by omega) (by omega) .nil) (.mem _ _ _))) fun _=> ?_
 refine .ite (fun _=> .app (.ite (fun _=> .cons (by omega) (by omega) .nil) fun _=> .nil) (.app (.zR s0 s1 b0 b1) (.app (.ite (fun _=> .cons (by omega) (by omega) .nil) fun _=> .cons (by omega) (by omega) .nil) (.mem _ _ _)))) fun _=> ?_
 refine .ite (fun _=> .ite (fun _=> .cons (by omega) (by omega) (.cons (by omega) (by omega) .nil)) fun _=> .cons (by omega) (by omega) (.four _)) fun _=> ?_
 refine .ite (fun _=> .ite (fun _=> .cons (by omega) (by omega) (.cons (by omega) (by omega) .nil)) fun _=> .cons (by omega) (by omega) (.cons (by omega) (by omega) (.four _))) fun _=> ?_
 exact .ite (fun _=> .cons (by omega) (by omega) (.cons (by omega) (by omega) .nil)) fun _=> .cons (by omega) (by omega) .nil
theorem JB:∀ {a b:List Int},(∀x∈a,0≤x∧x≤255)→(∀x∈b,0≤x∧x≤255)→(gk (bD a)).toList=(gk (bD b)).toList→a=b:=by
 intro a b ha hb h
 have e:∀l:List Int,(gk (bD l)).toList=l.map fun n=>UInt8.ofNat n.toNat:=by
  intro l
  unfold gk
  rw [ByteArray.toList_eq]
  simp [bD,byteOf,Function.comp_def]
 rw [e,e] at h
 clear e
 induction a generalizing b with
 |nil=>cases b with
  |nil=>rfl
  |cons y b=>simp at h
 |cons x a ih=>cases b with
  |nil=>simp at h
  |cons y b=>
   simp only [List.map_cons,List.cons.injEq] at h
   have h1:=ha x (by simp)
   have h2:=hb y (by simp)
   have:x=y:=by
    have:=congrArg UInt8.toNat h.1
    simp at this
    omega
   rw [this,ih (fun z hz=>ha z (by simp [hz])) (fun z hz=>hb z (by simp [hz])) h.2]
structure aM where
  w:Int
  fw:Bool
  code:Int
  r:Int
  m:Int
  af:Int
  aq:Int
  small:Int
  gi:Int
  gL:Int
  high:Int
def gP (b:List Int) (i:Nat):Int:=b.getD i 0
def ig (b:List Int) (i:Nat):Int:=if b.length<i+4 then 0 else zo (b.drop i)
def hJ (b:List Int):Nat:=
  match b with
  | []=>0
  |a::t=>
    if a / 64=3 then 1
    else if a / 64=2 then
      if a%8=4 then (if 5≤t.length∧hd t=36 then 6 else 0) else (if 4≤t.length then 5 else 0)
    else 0
def jE (b:List Int):Int:=if hJ b=0 then 0 else hd b / 8%8
def jF (b:List Int):Int:=if hJ b=0 then 0 else hd b%8
def kR (b:List Int):Int:=if hJ b≤1 then 0 else zo (b.drop (hJ b - 4))
def jy (b:List Int):Int:=if hJ b=0 then 30 else 0
def bH (w TK high:Int) (fw:Bool) (code:Int) (v:List Int):aM:=
  ⟨w,fw,code,jE v+TK,jF v+high,kR v,ig v (hJ v),gP v (hJ v),ig v 0,eW (gP v 0),high⟩
def hO (w TK high:Int):List Int→Option aM
  | []=>none
  |c::v=>if c=15 then (match v with| []=>some (bH w TK high false 15 [])|d::z=>some (bH w TK high true d z)) else some (bH w TK high false c v)
def kr (h:Int):Bool:=decide (h / 16=4∧h / 2%2=0)
def gK (w:Int):List Int→Option aM
  | []=>none
  |h::u=>if kr h then hO (if h / 8%2=1 then 64 else w) (h / 4%2*8) (h%2*8) u else hO w 0 0 (h::u)
def k7 (b:List Int):Option aM:=if hd b=102 then gK 16 (b.drop 1) else gK 32 b
def mu (s:aM) (op sh:Int):XS:=
  if sh=1 then ⟨op,s.w,s.m,s.r,0,0,0,0⟩
  else if sh=2 then ⟨op,s.w,s.r,s.m,0,0,0,0⟩
  else if sh=3 then (if op=1∧184≤s.code∧s.code<192 then ⟨op,s.w,s.code%8+s.high,0,0,0,s.gi,0⟩ else ⟨op,s.w,s.m,0,0,0,s.aq,0⟩)
  else if sh=4 then ⟨op,s.w,s.m,0,0,0,s.small,0⟩
  else if sh=5 then ⟨op,s.w,s.m,0,0,0,0,0⟩
  else if sh=6 then ⟨op,s.w,s.r,s.m,0,0,0,eW (s.code - bq op)⟩
  else if sh=7 then ⟨op,if s.fw then (if s.code%2=1 then 16 else 8) else s.w,s.r,0,s.m,s.af,0,0⟩
  else if sh=8 then ⟨op,if s.code=136 then 8 else s.w,0,s.r,s.m,s.af,0,0⟩
  else if sh=9∨sh=10 then
    (if s.fw=false∧s.code≠233 then ⟨op,8,0,0,0,0,s.gL,if sh=10 then s.code%16 else 0⟩ else ⟨op,32,0,0,0,0,s.gi,if sh=10 then s.code%16 else 0⟩)
  else if sh=11 then ⟨op,0,0,0,0,0,0,0⟩
  else ⟨op,s.w,0,0,0,0,0,0⟩
def fM (s:aM) (op:Int):XS:=mu s op (aF op)
theorem rj {wide al:Bool} {r m c w:Int} {t:List Int} (r0:0≤r) (r1:r≤15) (m0:0≤m) (m1:m≤15) (hc:¬(64≤c∧c≤79)):gK w (bw wide r m al++c::t)=hO (if wide then 64 else w) (8*(r / 8)) (8*(m / 8)) (c::t):=by
 unfold bw
 split
 ·simp only [Xs,XJ,gK]
  have hq:kr (dm wide r m)=true:=by
   simp only [kr,dm,bP]
   cases wide<;>simp<;>omega
  rw [if_pos hq]
  have h1:dm wide r m / 4%2*8=8*(r / 8):=by simp only [dm];cases wide<;>simp<;>omega
  have h2:dm wide r m%2*8=8*(m / 8):=by simp only [dm];cases wide<;>simp<;>omega
  have h3:(if dm wide r m / 8%2=1 then (64:Int) else w)=if wide then 64 else w:=by
   have h4:dm wide r m / 8%2=if wide then 1 else 0:=by simp only [dm];cases wide<;>simp<;>omega
   rw [h4]
   cases wide<;>simp
  rw [h1,h2,h3]
 ·rename_i h
  simp only [bX,XM,bP,not_or,Bool.not_eq_true] at h
  have hq:¬kr c=true:=by simp only [kr,bP];omega
  have h1:r / 8=0:=by omega
  have h2:m / 8=0:=by omega
  simp only [XJ,gK,if_neg hq,h1,h2,h.1.1]
  simp
theorem gQ {wide al:Bool} {r m c:Int} {t:List Int} (r0:0≤r) (r1:r≤15) (m0:0≤m) (m1:m≤15) (hc:¬(64≤c∧c≤79)) (h2:c≠102):k7 (bw wide r m al++c::t)=hO (if wide then 64 else 32) (8*(r / 8)) (8*(m / 8)) (c::t):=by
 unfold k7
 rw [if_neg (AD r0 r1 m0 m1 h2),rj r0 r1 m0 m1 hc]
theorem HT {wide al:Bool} {r m c:Int} {t:List Int} (r0:0≤r) (r1:r≤15) (m0:0≤m) (m1:m≤15) (hc:¬(64≤c∧c≤79)):k7 (102::(bw wide r m al++c::t))=hO (if wide then 64 else 16) (8*(r / 8)) (8*(m / 8)) (c::t):=by
 unfold k7
 rw [if_pos (show hd (102::(bw wide r m al++c::t))=102 from rfl),List.drop_one,List.tail_cons,rj r0 r1 m0 m1 hc]
theorem kZ {c:Int} {t:List Int} (hc:¬(64≤c∧c≤79)) (h2:c≠102):k7 (c::t)=hO 32 0 0 (c::t):=by
 unfold k7
 have hq:¬kr c=true:=by simp only [kr,bP];omega
 rw [if_neg (by simpa [hd] using h2)]
 simp only [gK,if_neg hq]
theorem dQ {w R M c:Int} {v:List Int} (hc:c≠15):hO w R M (c::v)=some (bH w R M false c v):=by
 simp only [hO,if_neg hc]
theorem iw {w R M d:Int} {z:List Int} :hO w R M (15::d::z)=some (bH w R M true d z):=rfl
theorem qo {r m:Int} {t:List Int} (r0:0≤r) (m0:0≤m):hJ (bC r m::t)=1:=by
 simp only [hJ]
 rw [if_pos (by simp only [bC];omega)]
theorem wh {r m:Int} {t:List Int} (r0:0≤r) (m0:0≤m):jE (bC r m::t)=r%8:=by
 simp only [jE,qo r0 m0]
 rw [if_neg (by decide)]
 simp only [hd,List.headD_cons,bC]
 omega
theorem mL {r m:Int} {t:List Int} (r0:0≤r) (m0:0≤m):jF (bC r m::t)=m%8:=by
 simp only [jF,qo r0 m0]
 rw [if_neg (by decide)]
 simp only [hd,List.headD_cons,bC]
 omega
theorem wi {r b af:Int} {t:List Int} :hJ (bI r b af++t)=if b%8=4 then 6 else 5:=by
 unfold bI
 split
 ·rename_i h
  simp only [Xs,hJ]
  rw [if_neg (by omega),if_pos (by omega),if_pos (by omega),if_pos (by simp [bf,hd])]
 ·rename_i h
  simp only [Xs,hJ]
  rw [if_neg (by omega),if_pos (by omega),if_neg (by omega),if_pos (by simp [bf])]
theorem CG {r b af:Int} {t:List Int} :jE (bI r b af++t)=r%8:=by
 simp only [jE,wi,j8]
 rw [if_neg (by split<;>decide)]
 omega
theorem CI {r b af:Int} {t:List Int} :jF (bI r b af++t)=b%8:=by
 simp only [jF,wi,j8]
 rw [if_neg (by split<;>decide)]
 omega
theorem CH {r b af:Int} {t:List Int} (h0: -2147483648≤af) (h1:af≤2147483647):kR (bI r b af++t)=af:=by
 simp only [kR,wi]
 rw [if_neg (by split<;>decide)]
 unfold bI
 split
 ·simp only [Xs,List.drop_succ_cons,Yn]
  exact fu h0 h1
 ·simp only [Xs,List.drop_succ_cons,Yn]
  exact fu h0 h1
theorem uT {n:Int} {t:List Int} (h0: -2147483648≤n) (h1:n≤2147483647):ig (bf n++t) 0=n:=by
 simp only [ig,Yn]
 rw [if_neg (by simp [bf]),fu h0 h1]
theorem GP {x n:Int} {t:List Int} (h0: -2147483648≤n) (h1:n≤2147483647):ig (x::(bf n++t)) 1=n:=by
 simp only [ig,List.drop_succ_cons,Yn]
 rw [if_neg (by simp [bf]),fu h0 h1]
theorem Fk {r:Int} (r0:0≤r) (r1:r≤15):r%8+8*(r / 8)=r:=by omega
theorem HU {op w dst src base af aq cc:Int} (h:a8 op w dst src base af aq cc=true) (t:List Int):∃s,k7 (aN op w dst src base af aq cc++t)=some s∧fM s op=⟨op,w,dst,src,base,af,aq,cc⟩:=by
 obtain ⟨⟨d0,d1,s0,s1,b0,b1,p0,p1,i0,i1⟩,hs⟩:=ef h
 have Tf:aF op≠0:=by
  intro e
  rw [e] at hs
  simp [br] at hs
 obtain ⟨k,rfl⟩:=vZ Tf
 unfold br at hs
 split at hs
 ·rename_i Uh
  simp only [Xp,bP] at hs
  obtain ⟨hw,rfl,rfl,rfl,rfl⟩:=hs
  have ew:=kK hw
  rcases Uh with h1|h1
  ·
   obtain ⟨c1,c2,c3,c4,c5,c6,c7,c8,c9,QS,Rc⟩:=sq k h1
   have e:aN (k.val:Int) w dst src 0 0 0 0=bw (decide (w=64)) src dst false++ [bq (k.val:Int),bC src dst]:=by simp only [aN,h1,if_true]
   rw [e,XA,Xs,Xs,XJ,gQ s0 s1 d0 d1 c2 c3,dQ c1]
   refine ⟨_,rfl,?_⟩
   simp only [fM,h1,mu,if_true,bH,wh s0 d0,mL s0 d0,Fk s0 s1,Fk d0 d1,ew]
  ·
   have hk:(k.val:Int)=16:=by
    have:=iG (op:=(k.val:Int)) (by omega)
    revert h1
    rcases this with e|e|e|e|e|e|e|e|e|e|e|e|e|e|e|e|e|e|e|e|e|e|e|e|e|e|e|e|e|e|e|e<;>rw [e]<;>decide
   rw [hk]
   have e:aN 16 w dst src 0 0 0 0=bw (decide (w=64)) dst src false++ [15,175,bC dst src]:=by
    simp only [aN,show aF 16=2 from rfl,show bq 16=175 from rfl,if_true,show ¬(2:Int)=1 by decide,if_false]
   rw [e,XA,Xs,Xs,Xs,XJ,gQ d0 d1 s0 s1 (by decide) (by decide),iw]
   refine ⟨_,rfl,?_⟩
   simp only [fM,show aF 16=2 from rfl,mu,if_true,show ¬(2:Int)=1 by decide,if_false,bH,wh d0 s0,mL d0 s0,Fk s0 s1,Fk d0 d1,ew]
 ·rename_i Vu
  have n1:¬aF (k.val:Int)=1:=fun e=>Vu (.inl e)
  have n2:¬aF (k.val:Int)=2:=fun e=>Vu (.inr e)
  split at hs
  ·
   rename_i h3
   simp only [Xp,bP] at hs
   obtain ⟨hw,rfl,rfl,rfl,rfl⟩:=hs
   have ew:=kK hw
   by_cases hm:(k.val:Int)=1∧w=32
   ·obtain ⟨hm,rfl⟩:=hm
    have e:aN (k.val:Int) 32 dst 0 0 0 aq 0=bw false 0 dst false++((184+dst%8)::bf aq):=by
     rw [hm]
     simp [aN,show aF 1=3 from rfl]
    rw [e,XA,Xs,gQ (by omega) (by omega) d0 d1 (by omega) (by omega),dQ (by omega)]
    refine ⟨_,rfl,?_⟩
    rw [hm]
    simp only [fM,show aF 1=3 from rfl,mu,show ¬(3:Int)=1 by decide,show ¬(3:Int)=2 by decide,if_false,if_true,bH,uT i0 i1,ev,Yb]
    rw [if_pos (by omega)]
    congr 1
    omega
   ·obtain ⟨c1,c2,c3,c4,c5,c6,c7,c8,c9,QS,Rc,Q0,u0,u1⟩:=jr k (.inl h3)
    have e:aN (k.val:Int) w dst 0 0 0 aq 0=bw (decide (w=64)) 0 dst false++(bq (k.val:Int)::bC (bW (k.val:Int)) dst::bf aq):=by
     simp only [aN,h3,if_neg hm,show ¬(3:Int)=1 by decide,show ¬(3:Int)=2 by decide,show ¬(3:Int)=6 by decide,if_false,if_true]
    rw [e,XA,Xs,Xs,gQ (by omega) (by omega) d0 d1 c2 c3,dQ c1]
    refine ⟨_,rfl,?_⟩
    have c4':¬((k.val:Int)=1∧184≤bq (k.val:Int)∧bq (k.val:Int)<192):=by omega
    simp only [fM,h3,mu,show ¬(3:Int)=1 by decide,show ¬(3:Int)=2 by decide,if_false,if_true,bH,if_neg c4',qo u0 d0,mL u0 d0,GP i0 i1,Fk d0 d1,ew]
  ·rename_i n3
   split at hs
   ·
    rename_i h4
    simp only [Xp,bP] at hs
    obtain ⟨hw,rfl,rfl,rfl,rfl,j0,j1⟩:=hs
    have ew:=kK hw
    have R4:=jo hw
    obtain ⟨c1,c2,c3,c4,c5,c6,c7,c8,c9,QS,Rc,Q0,u0,u1⟩:=jr k (.inr (.inl h4))
    have e:aN (k.val:Int) w dst 0 0 0 aq 0=bw (decide (w=64)) 0 dst false++ [bq (k.val:Int),bC (bW (k.val:Int)) dst,aq%256]:=by
     simp only [aN,h4,show ¬(4:Int)=1 by decide,show ¬(4:Int)=2 by decide,show ¬(4:Int)=6 by decide,show ¬(4:Int)=3 by decide,if_false,if_true]
    rw [e,XA,Xs,Xs,Xs,XJ,gQ (by omega) (by omega) d0 d1 c2 c3,dQ c1]
    refine ⟨_,rfl,?_⟩
    have g:gP (bC (bW (k.val:Int)) dst::aq%256::t) 1=aq:=by
     show aq%256=aq
     omega
    simp only [fM,h4,mu,show ¬(4:Int)=1 by decide,show ¬(4:Int)=2 by decide,show ¬(4:Int)=3 by decide,if_false,if_true,bH,qo u0 d0,mL u0 d0,g,Fk d0 d1,ew]
   ·rename_i n4
    split at hs
    ·
     rename_i h5
     simp only [Xp,bP] at hs
     obtain ⟨hw,rfl,rfl,rfl,rfl,rfl⟩:=hs
     have ew:=kK hw
     obtain ⟨c1,c2,c3,c4,c5,c6,c7,c8,c9,QS,Rc,Q0,u0,u1⟩:=jr k (.inr (.inr h5))
     have e:aN (k.val:Int) w dst 0 0 0 0 0=bw (decide (w=64)) 0 dst false++ [bq (k.val:Int),bC (bW (k.val:Int)) dst]:=by
      simp only [aN,h5,show ¬(5:Int)=1 by decide,show ¬(5:Int)=2 by decide,show ¬(5:Int)=6 by decide,show ¬(5:Int)=3 by decide,show ¬(5:Int)=4 by decide,if_false,if_true]
     rw [e,XA,Xs,Xs,XJ,gQ (by omega) (by omega) d0 d1 c2 c3,dQ c1]
     refine ⟨_,rfl,?_⟩
     simp only [fM,h5,mu,show ¬(5:Int)=1 by decide,show ¬(5:Int)=2 by decide,show ¬(5:Int)=3 by decide,show ¬(5:Int)=4 by decide,if_false,if_true,bH,mL u0 d0,Fk d0 d1,ew]
    ·rename_i n5
     split at hs
     ·
      rename_i h6
      have hk:=vd k h6
      rw [hk] at h6 ⊢
      simp only [Xp,bP] at hs
      obtain ⟨⟨hw,rfl,rfl,rfl⟩,hc⟩:=hs
      have ew:=kK hw
      simp only [bB,bP] at hc
      have e:aN 25 w dst src 0 0 0 cc=bw (decide (w=64)) dst src false++ [15,64+cc,bC dst src]:=by
       simp [aN,show aF 25=6 from rfl]
      rw [e,XA,Xs,Xs,Xs,XJ,gQ d0 d1 s0 s1 (by decide) (by decide),iw]
      refine ⟨_,rfl,?_⟩
      have g:eW (64+cc - bq 25)=cc:=by
       show eW (64+cc - 64)=cc
       simp only [eW]
       omega
      simp only [fM,show aF 25=6 from rfl,mu,show ¬(6:Int)=1 by decide,show ¬(6:Int)=2 by decide,show ¬(6:Int)=3 by decide,show ¬(6:Int)=4 by decide,show ¬(6:Int)=5 by decide,if_false,if_true,bH,wh d0 s0,mL d0 s0,g,Fk s0 s1,Fk d0 d1,ew]
     ·rename_i n6
      split at hs
      ·
       rename_i h7
       have hk:=u9 k h7
       rw [hk] at h7 ⊢
       simp only [Xp,bP] at hs
       obtain ⟨hw,rfl,rfl,rfl⟩:=hs
       have e:aN 26 w dst 0 base af 0 0=bw (decide (w=64)) dst base false++((if w=8 then [15,182] else if w=16 then [15,183] else [139])++bI dst base af):=by
        simp [aN,show aF 26=7 from rfl]
       rw [e]
       have Ui:∀(lw R:Int) (fw:Bool) (code:Int),(if fw then (if code%2=1 then (16:Int) else 8) else R)=lw→fM (bH R (8*(dst / 8)) (8*(base / 8)) fw code (bI dst base af++t)) 26=⟨26,lw,dst,0,base,af,0,0⟩:=by
        intro lw R fw code hl
        simp only [fM,show aF 26=7 from rfl,mu,show ¬(7:Int)=1 by decide,show ¬(7:Int)=2 by decide,show ¬(7:Int)=3 by decide,show ¬(7:Int)=4 by decide,show ¬(7:Int)=5 by decide,show ¬(7:Int)=6 by decide,if_false,if_true,bH,CG,CI,CH p0 p1,Fk d0 d1,Fk b0 b1,hl]
       rcases gX hw with rfl|rfl|rfl|rfl
       ·rw [if_pos rfl,XA,XA,Xs,gQ d0 d1 b0 b1 (by decide) (by decide),Xs,XJ,iw]
        exact ⟨_,rfl,Ui _ _ _ _ (by decide)⟩
       ·rw [if_neg (by decide),if_pos rfl,XA,XA,Xs,gQ d0 d1 b0 b1 (by decide) (by decide),Xs,XJ,iw]
        exact ⟨_,rfl,Ui _ _ _ _ (by decide)⟩
       ·rw [if_neg (by decide),if_neg (by decide),XA,XA,Xs,XJ,gQ d0 d1 b0 b1 (by decide) (by decide),dQ (by decide)]
        exact ⟨_,rfl,Ui _ _ _ _ (by decide)⟩
       ·rw [if_neg (by decide),if_neg (by decide),XA,XA,Xs,XJ,gQ d0 d1 b0 b1 (by decide) (by decide),dQ (by decide)]
        exact ⟨_,rfl,Ui _ _ _ _ (by decide)⟩
      ·rename_i n7
       split at hs
       ·
        rename_i h8
        have hk:=u7 k h8
        rw [hk] at h8 ⊢
        simp only [Xp,bP] at hs
        obtain ⟨hw,rfl,rfl,rfl⟩:=hs
        have e:aN 27 w 0 src base af 0 0=(if w=16 then [102] else [])++(bw (decide (w=64)) src base (decide (w=8))++((if w=8 then [136] else [137])++bI src base af)):=by
         simp [aN,show aF 27=8 from rfl]
        rw [e]
        have FG:∀(lw R:Int) (code:Int),(if code=136 then (8:Int) else R)=lw→fM (bH R (8*(src / 8)) (8*(base / 8)) false code (bI src base af++t)) 27=⟨27,lw,0,src,base,af,0,0⟩:=by
         intro lw R code hl
         simp only [fM,show aF 27=8 from rfl,mu,show ¬(8:Int)=1 by decide,show ¬(8:Int)=2 by decide,show ¬(8:Int)=3 by decide,show ¬(8:Int)=4 by decide,show ¬(8:Int)=5 by decide,show ¬(8:Int)=6 by decide,show ¬(8:Int)=7 by decide,if_false,if_true,bH,CG,CI,CH p0 p1,Fk s0 s1,Fk b0 b1,hl]
        rcases gX hw with rfl|rfl|rfl|rfl
        ·rw [if_neg (by decide),if_pos rfl,XJ,XA,XA,Xs,XJ,gQ s0 s1 b0 b1 (by decide) (by decide),dQ (by decide)]
         exact ⟨_,rfl,FG _ _ _ (by decide)⟩
        ·rw [if_pos rfl,if_neg (by decide),XA,XA,XA,Xs,Xs,XJ,XJ,HT s0 s1 b0 b1 (by decide),dQ (by decide)]
         exact ⟨_,rfl,FG _ _ _ (by decide)⟩
        ·rw [if_neg (by decide),if_neg (by decide),XJ,XA,XA,Xs,XJ,gQ s0 s1 b0 b1 (by decide) (by decide),dQ (by decide)]
         exact ⟨_,rfl,FG _ _ _ (by decide)⟩
        ·rw [if_neg (by decide),if_neg (by decide),XJ,XA,XA,Xs,XJ,gQ s0 s1 b0 b1 (by decide) (by decide),dQ (by decide)]
         exact ⟨_,rfl,FG _ _ _ (by decide)⟩
       ·rename_i n8
        have k1:∀ {n:Int},9≤n→¬n=1:=fun h=>by omega
        split at hs
        ·
         rename_i h9
         have hk:=u6 k h9
         rw [hk] at h9 ⊢
         simp only [Xp,bP,a9] at hs
         obtain ⟨hw,rfl,rfl,rfl,rfl,rfl⟩:=hs
         have e:aN 28 w 0 0 0 0 aq 0=if w=8 then [235,aq%256] else 233::bf aq:=by
          simp [aN,show aF 28=9 from rfl]
         rw [e]
         rcases hw with rfl|⟨rfl,j0,j1⟩
         ·rw [if_neg (by decide),Xs,kZ (by decide) (by decide),dQ (by decide)]
          refine ⟨_,rfl,?_⟩
          simp [fM,show aF 28=9 from rfl,mu,bH,uT i0 i1]
         ·rw [if_pos rfl,Xs,kZ (by decide) (by decide),dQ (by decide)]
          refine ⟨_,rfl,?_⟩
          have g:eW (gP ([aq%256]++t) 0)=aq:=od j0 j1
          simp [fM,show aF 28=9 from rfl,mu,bH]
          exact g
        ·rename_i n9
         split at hs
         ·
          rename_i Sz
          have hk:=qO k Sz
          rw [hk] at Sz ⊢
          simp only [Xp,bP,a9] at hs
          obtain ⟨⟨hw,rfl,rfl,rfl,rfl⟩,hc⟩:=hs
          simp only [bB,bP] at hc
          have e:aN 29 w 0 0 0 0 aq cc=if w=8 then [112+cc,aq%256] else 15::(128+cc)::bf aq:=by
           simp [aN,show aF 29=10 from rfl]
          rw [e]
          rcases hw with rfl|⟨rfl,j0,j1⟩
          ·rw [if_neg (by decide),Xs,Xs,kZ (by decide) (by decide),iw]
           refine ⟨_,rfl,?_⟩
           simp [fM,show aF 29=10 from rfl,mu,bH,uT i0 i1]
           omega
          ·rw [if_pos rfl,Xs,kZ (by omega) (by omega),dQ (by omega)]
           refine ⟨_,rfl,?_⟩
           have g:eW (gP ([aq%256]++t) 0)=aq:=od j0 j1
           have g2:¬112+cc=233:=by omega
           simp only [fM,show aF 29=10 from rfl,mu,bH,g]
           simp [g2]
           omega
         ·rename_i n10
          split at hs
          ·rename_i Tx
           simp only [bP] at hs
           obtain ⟨rfl,rfl,rfl,rfl,rfl,rfl,rfl⟩:=hs
           rcases qN k Tx with hk|hk<;>rw [hk]
           ·have e:aN 30 0 0 0 0 0 0 0= [195]:=rfl
            rw [e,Xs,kZ (by decide) (by decide),dQ (by decide)]
            exact ⟨_,rfl,rfl⟩
           ·have e:aN 31 0 0 0 0 0 0 0= [15,5]:=rfl
            rw [e,Xs,Xs,kZ (by decide) (by decide),iw]
            exact ⟨_,rfl,rfl⟩
          ·cases hs
theorem mg {d:Int} (h0:0≤d) (h1:d≤255):∃n:Fin 256,d=(n.val:Int):=⟨⟨d.toNat,by omega⟩,by simp;omega⟩
theorem FG {d:Int} (h0:0≤d) (h1:d≤7):∃n:Fin 8,d=(n.val:Int):=⟨⟨d.toNat,by omega⟩,by simp;omega⟩
theorem MJ (x y:Nat) (h:y<256):(x*256)|||y=x*256+y:=by
 rw [show x*256=x<<<8 by rw [Nat.shiftLeft_eq]]
 exact (Nat.shiftLeft_add_eq_or_of_lt (i:=8) h x).symm
theorem LS {x y:Int} (x0: -36028797018963968≤x) (x1:x<36028797018963968) (y0:0≤y) (y1:y<256):((Xf 64 (x*256)|||Xf 64 y).toNat:Int)=(x*256+y)%18446744073709551616:=by
 rw [BitVec.toNat_or,BitVec.toNat_ofInt,BitVec.toNat_ofInt]
 have hy:(y%((2^64:Nat):Int)).toNat=y.toNat:=by congr 1;omega
 have hx:((x*256)%((2^64:Nat):Int)).toNat=(x%72057594037927936).toNat*256:=by omega
 rw [hx,hy,MJ _ _ (by omega)]
 omega
theorem Cy {x y:Int} (x0:0≤x) (x1:x<36028797018963968) (y0:0≤y) (y1:y<256):YO.u64.wrap ((Xf 64 (YO.u64.wrap (x*256))|||Xf 64 (YO.u64.wrap y)).toNat:Int)=x*256+y:=by
 have e1:YO.u64.wrap (x*256)=x*256:=by rw [dt];omega
 have e2:YO.u64.wrap y=y:=by rw [dt];omega
 rw [e1,e2,LS (by omega) x1 y0 y1,dt]
 omega
theorem Ah {x y:Int} (x0: -36028797018963968≤x) (x1:x<36028797018963968) (y0:0≤y) (y1:y<256):YO.i64.wrap ((Xf 64 (YO.i64.wrap (x*256))|||Xf 64 (YO.i64.wrap y)).toNat:Int)=x*256+y:=by
 have e1:YO.i64.wrap (x*256)=x*256:=by rw [aU];omega
 have e2:YO.i64.wrap y=y:=by rw [aU];omega
 rw [e1,e2,LS x0 x1 y0 y1,aU]
 omega
theorem MI {y:Int} (y0:0≤y) (y1:y<256):YO.u64.wrap ((Xf 64 0|||Xf 64 (YO.u64.wrap y)).toNat:Int)=y:=by
 have:=Cy (x:=0) (y:=y) (by omega) (by omega) y0 y1
 simpa [dt] using this
theorem Pk {x y:Int} (x0:0≤x) (x1:x≤7) (hy:y=0∨y=8):YO.i8.wrap ((Xf 8 x|||Xf 8 y).toNat:Int)=x+y:=by
 obtain ⟨n,rfl⟩:=FG x0 x1
 clear x0 x1
 rcases hy with rfl|rfl<;>(revert n;decide+kernel)
def du (l:List Int):Prop:= ∀x∈l,0≤x∧x≤255
theorem iA:du []:=fun _ h=>by cases h
theorem fH {a:Int} {l:List Int} :du (a::l)↔(0≤a∧a≤255)∧du l:=by simp [du]
theorem aK (l:List Int):(bD l).length=l.length:=by simp [bD]
theorem Ng {b:List Int} {i:Int} (h0:0≤i) (h1:i<((bD b).length:Int)):(bD b)[i.toNat]? =some (av (gP b i.toNat)):=by
 rw [aK] at h1
 simp only [bD,List.getElem?_map,gP,Xr]
 have:i.toNat<b.length:=by omega
 simp [this]
theorem yk {b:List Int} {i:Int} (h:((bD b).length:Int)≤i):gP b i.toNat=0:=by
 rw [aK] at h
 simp only [gP,Xr]
 rw [Xy (by omega)]
 rfl
theorem Jf (a:Int):a.fdiv 64=a / 64:=Yd _ (by decide)
theorem L8 {v:Int} (h:v / 64=3):(v.fdiv 64==3)=true:=by rw [Jf,h];rfl
theorem qC {v:Int} (h:v / 64=2):(v.fdiv 64==3)=false:=by rw [Jf,h];rfl
theorem J3 {v:Int} (h:v / 64<2):(v.fdiv 64==3)=false:=by rw [Jf,eI];omega
theorem qD {v:Int} (h:v / 64=2):(v.fdiv 64==2)=true:=by rw [Jf,h];rfl
theorem L9 {v:Int} (h:v / 64<2):(v.fdiv 64==2)=false:=by rw [Jf,eI];omega
theorem yz (v:Int):YO.i8.wrap (YO.u8.wrap ((Xf 8 v&&&Xf 8 7).toNat:Int))=v%8:=by
 rw [BitVec.toNat_and,BitVec.toNat_ofInt,BitVec.toNat_ofInt]
 have e:(v%((2^8:Nat):Int)).toNat&&&(7%((2^8:Nat):Int)).toNat=(v%256).toNat%8:=by
  have:(7%((2^8:Nat):Int)).toNat=2^3 - 1:=by decide
  rw [this,Nat.and_two_pow_sub_one_eq_mod]
  rfl
 rw [e,bF,dJ]
 omega
theorem MV {v:Int} (v0:0≤v) (v1:v≤255):YO.i8.wrap (YO.u8.wrap ((Xf 8 (v.fdiv 8)&&&Xf 8 7).toNat:Int))=v / 8%8:=by
 rw [yz,Yd _ (by decide)]
theorem Ax {v:Int} (h:v%8=4):(YO.i8.wrap (YO.u8.wrap ((Xf 8 v&&&Xf 8 7).toNat:Int))==4)=true:=by rw [yz,h];rfl
theorem IL {v:Int} (h:¬v%8=4):(YO.i8.wrap (YO.u8.wrap ((Xf 8 v&&&Xf 8 7).toNat:Int))==4)=false:=by rw [yz,eI];exact h
def ei (s:aM):D:= .agg [aj s.w,ax s.fw,av s.code,aj s.r,aj s.m,ao s.af,ao s.aq,ao s.small,ao s.gi,ao s.gL,aj s.high]
theorem HQ {v:List Int} (hv:du v) (i:Nat):0≤gP v i∧gP v i≤255:=by
 simp only [gP,Xr]
 cases e:v[i]? with
 |none=>simp
 |some x=>exact hv x (List.mem_of_getElem? e)
theorem yE {v:List Int} (hv:du v):0≤hd v∧hd v≤255:=by
 cases v with
 |nil=>simp [hd]
 |cons a t=>exact hv a (by simp)
theorem tD {v:List Int} (hv:du v):0≤jE v∧jE v≤7:=by
 have:=yE hv
 unfold jE
 split<;>omega
theorem tE {v:List Int} (hv:du v):0≤jF v∧jF v≤7:=by
 have:=yE hv
 unfold jF
 split<;>omega
theorem iy {v:List Int} (hv:du v) {y:Int} (hy:y=0∨y=8):YO.i8.wrap ((Xf 8 (jE v)|||Xf 8 y).toNat:Int)=jE v+y:=Pk (tD hv).1 (tD hv).2 hy
theorem iz {v:List Int} (hv:du v) {y:Int} (hy:y=0∨y=8):YO.i8.wrap ((Xf 8 (jF v)|||Xf 8 y).toNat:Int)=jF v+y:=Pk (tE hv).1 (tE hv).2 hy
theorem fJ {v:List Int} (hv:du v) {h:Int} :YO.i8.wrap ((Xf 8 (jE v)|||Xf 8 (h / 4%2*8)).toNat:Int)=jE v+h / 4%2*8:=iy hv (by omega)
theorem fK {v:List Int} (hv:du v) {h:Int} :YO.i8.wrap ((Xf 8 (jF v)|||Xf 8 (h%2*8)).toNat:Int)=jF v+h%2*8:=iz hv (by omega)
theorem eE {v:List Int} (h:¬jy v=0):hJ v=0:=by
 unfold jy at h
 split at h
 ·assumption
 ·simp at h
theorem dE {v:List Int} (hv:du v) (i:Nat):YO.i64.wrap (gP v i)=gP v i:=by
 have:=HQ hv i
 rw [aU];omega
theorem eD {v:List Int} (i:Nat):YO.i64.wrap (YO.i8.wrap (gP v i))=eW (gP v i):=by
 rw [aU,dJ,eW];omega
def na (w high:Int):aM:=⟨w,false,0,0,0,0,0,0,0,0,high⟩
theorem M6 {c h:Int} (c0:0≤c) (c1:c≤255) (hh:h=0∨h=8):YO.i8.wrap ((Xf 8 (YO.i8.wrap (YO.u8.wrap ((Xf 8 c&&&Xf 8 7).toNat:Int)))|||Xf 8 h).toNat:Int)=c%8+h:=by
 rw [yz]
 exact Pk (by omega) (by omega) hh
theorem CO {c:Int} (c0:0≤c) (c1:c≤255):YO.i8.wrap (YO.u8.wrap ((Xf 8 c&&&Xf 8 15).toNat:Int))=c%16:=by
 obtain ⟨n,rfl⟩:=mg c0 c1
 clear c0 c1
 revert n
 decide+kernel
theorem J5 {c:Int} (c0:0≤c) (c1:c≤255):YO.i8.wrap (8*2^(min (YO.u8.wrap ((Xf 8 c&&&Xf 8 1).toNat:Int)).toNat 8))=if c%2=1 then 16 else 8:=by
 obtain ⟨n,rfl⟩:=mg c0 c1
 clear c0 c1
 revert n
 decide+kernel
end Go.Ev
