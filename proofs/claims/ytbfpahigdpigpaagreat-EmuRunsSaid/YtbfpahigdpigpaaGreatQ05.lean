import Derived.ChangeKeysEq
import Derived.KernelRfl
import Derived.Laws.Strings
import Derived.Test.YtbfpahigdpigpaaGreatQ01
import Derived.Test.YtbfpahigdpigpaaGreatQ02
import Derived.Test.YtbfpahigdpigpaaGreatQ04
open BitVec renaming ofInt→Z8
open Option.some renaming inj→aad,injEq→aak
open Bool renaming and_eq_true→aae,or_eq_true→aax,not_eq_true'→aaK,false_eq_true→aaT
open List renaming getD_eq_getElem?_getD→aaf,cons_append→aag,getElem?_eq_none→aam,append_assoc→aan,length_append→aap,nil_append→aav,drop_zero→aa0
open And renaming intro→aaj
open Go.Result renaming andThen_ok→aaq
open Go.Sem renaming run_bind→aay,run_pure→aaH
open Int renaming fdiv_eq_ediv_of_nonneg→aaL
open Go renaming IntKind→abz
/- Contracts and plain laws that a statement's proof leans on (texts merged:EvU,MdC,MdZ,MdP1,MdP2). -/
set_option linter.unusedVariables false
set_option linter.unusedSimpArgs false
namespace Go.Ev
open Go Go.RowKit
def vu (P:Program) (one:TypeId→Option (List LK)):List Field→Nat→Option (List LK)
  | [],_=>some []
  |f::r,off=>match !(f.name== "_")&&Nat.beq f.offset off with
    |true=>match one f.type with
      |some ks=>match Nat.beq ks.length (P.cellsOf f.type)&&Nat.blt 0 ks.length with
        |true=>match vu P one r (off+ks.length) with
          |some l=>some (ks++l)
          |none=>none
        |false=>none
      |none=>none
    |false=>none
def sN:Nat→List LK→List LK
  |0,_=> []
  |n+1,l=>l++sN n l
def jF (P:Program):Nat→TypeId→Option (List LK)
  |0,_=>none
  |d+1,t=>match P.underlying t with
    |some .bool=>some [.bool]
    |some (.int k)=>some [.int k]
    |some .string=>some [.str]
    |some (.struct fs)=>match P.stoodInHeld t with
      |false=>vu P (jF P d) fs.toList 0
      |true=>none
    |some (.array n e)=>match jF P d e,P.info? e with
      |some ks,some _=>match Nat.beq ks.length (P.cellsOf e)&&Nat.blt 0 ks.length with|true=>some (sN n ks)|false=>none
      |_,_=>none
    |_=>none
def C0 (P:Program) (t:TypeId) (l:List Value):Value:=match P.underlying t with
  |some e=>match dJ e with
    |true=> .agg l.toArray
    |false=>l.headD .nilFunc
  |none=> .nilFunc
theorem cG:∀ {ks:List LK} {l:List Value},ev ks l→l.length=ks.length
 | [],[],_=>rfl
 |_::_,[],h=>h.elim
 | [],_::_,h=>h.elim
 |k::ks,v::l,h=>by simp [cG h.2]
theorem gH:∀ {ks W7:List LK} {l:List Value},ev (ks++W7) l→ev ks (l.take ks.length)∧ev W7 (l.drop ks.length)
 | [],W7,l,h=>⟨by simp [ev],by simpa using h⟩
 |k::ks,W7,[],h=>h.elim
 |k::ks,W7,v::l,h=>by
  obtain ⟨h1,h2⟩:=h
  obtain ⟨a,b⟩:=gH h2
  exact ⟨⟨h1,a⟩,b⟩
theorem ka:∀(n:Nat) (l m:List Value),n≤l.length→n≤m.length→dT l m=(dT (l.take n) (m.take n)&&dT (l.drop n) (m.drop n))
 |0,l,m,_,_=>by simp [dT]
 |n+1,[],m,h,_=>by simp at h
 |n+1,_::_,[],_,h=>by simp at h
 |n+1,a::l,b::m,h,k=>by
  simp only [List.take_succ_cons,List.drop_succ_cons,dT]
  rw [ka n l m (by simpa using h) (by simpa using k),Bool.and_assoc]
section
variable {P:Program}
def PV (P:Program) (d:Nat) (t:TypeId) (ks:List LK):Prop:=
  ∀(n:Nat) (l m:List Value) (w:World),ev ks l→ev ks m→(Op.equalIn (n+d) t (C0 P t l) (C0 P t m)).run P w= .ok (dT l m) w
theorem k9 {t:TypeId} {e:TypeDesc} (hu:P.underlying t=some e) {xs:Array Value} {off:Nat} {n:Nat} (hn:n=P.cellsOf t) (UU:dJ e=false→n=1) (hl:off+n≤xs.size) (w:World):
  (part t xs off).run P w= .ok (C0 P t ((xs.toList.drop off).take n)) w:=by
 simp only [C0,hu]
 cases ha:dJ e with
 |true=>
  simp only
  rw [oH hu ha xs off w]
  congr 2
  subst hn
  apply Array.ext'
  simp [Array.toList_extract,List.extract_eq_take_drop]
 |false=>
  simp only
  have h1:=UU ha
  subst h1
  have T1:off<xs.size:=by omega
  rw [oG hu ha (v:=xs[off]) (by simp [T1]) w]
  congr 1
  rw [List.headD_eq_head?_getD,List.head?_take]
  simp [T1]
theorem nv {d:Nat} {t:TypeId} {ks:List LK} (h:jF P d t=some ks):∃e,P.underlying t=some e∧(dJ e=false→ks.length=1):=by
 cases d with
 |zero=>simp [jF] at h
 |succ d=>
  unfold jF at h
  split at h
  ·rename_i hu;exact ⟨_,hu,fun _=>by cases h;rfl⟩
  ·rename_i hu;exact ⟨_,hu,fun _=>by cases h;rfl⟩
  ·rename_i hu;exact ⟨_,hu,fun _=>by cases h;rfl⟩
  ·rename_i hu;exact ⟨_,hu,fun q=>by cases q⟩
  ·rename_i hu;exact ⟨_,hu,fun q=>by cases q⟩
  ·cases h
theorem qE {d:Nat} (ih:∀ {t:TypeId} {ks:List LK},jF P d t=some ks→PV P d t ks) (n:Nat) (xs ys:Array Value) (w:World):∀(fs:List Field) (off:Nat) (ks:List LK),vu P (jF P d) fs off=some ks→
  ev ks (xs.toList.drop off)→ev ks (ys.toList.drop off)→(Op.eqFields (n+d) xs ys fs).run P w= .ok (dT (xs.toList.drop off) (ys.toList.drop off)) w
 | [],off,ks,h,hx,hy=>by
  simp only [vu,aak] at h
  subst h
  have e1:=List.length_eq_zero_iff.1 (cG hx)
  have e2:=List.length_eq_zero_iff.1 (cG hy)
  rw [e1,e2]
  simp [Op.eqFields,dT]
 |f::fs,off,ks,h,hx,hy=>by
  simp only [vu] at h
  split at h
  ·rename_i hf
   simp only [aae,aaK,fO,Nat.beq_eq] at hf
   obtain ⟨hname,hoff⟩:=hf
   split at h
   ·rename_i k1 h1
    split at h
    ·rename_i hl
     rw [aae,Nat.beq_eq,Nat.blt_eq] at hl
     obtain ⟨hl,Ux⟩:=hl
     split at h
     ·rename_i k2 h2
      obtain rfl:=aad h
      obtain ⟨a1,a2⟩:=gH hx
      obtain ⟨b1,b2⟩:=gH hy
      rw [List.drop_drop] at a2 b2
      have lx:off+k1.length≤xs.size:=by
       have:=cG hx
       simp at this
       omega
      have ly:off+k1.length≤ys.size:=by
       have:=cG hy
       simp at this
       omega
      obtain ⟨e,hu,UU⟩:=nv h1
      have Xu:=ih h1 n _ _ w a1 b1
      have rest:=qE ih n xs ys w fs (off+k1.length) k2 h2 a2 b2
      unfold Op.eqFields
      rw [if_pos hname,hoff]
      simp only [aay,k9 hu hl UU lx w,k9 hu hl UU ly w,aaq,Xu]
      have hs:=ka k1.length (xs.toList.drop off) (ys.toList.drop off) (by simp;omega) (by simp;omega)
      rw [List.drop_drop,List.drop_drop] at hs
      rw [hs]
      cases dT ((xs.toList.drop off).take k1.length) ((ys.toList.drop off).take k1.length) with
      |true=>simpa using rest
      |false=>simp
     ·cases h
    ·cases h
   ·cases h
  ·cases h
theorem tu {d:Nat} {e:TypeId} {ks:List LK} (ZZ:jF P d e=some ks) (hl:ks.length=P.cellsOf e) (Ux:0<ks.length) (ih:PV P d e ks) (n:Nat) (xs ys:Array Value) (w:World):∀(c i:Nat),
  ev (sN c ks) (xs.toList.drop (i*ks.length))→ev (sN c ks) (ys.toList.drop (i*ks.length))→(Op.eqItems (n+d) e (P.cellsOf e) xs ys (List.range' i c)).run P w= .ok (dT (xs.toList.drop (i*ks.length)) (ys.toList.drop (i*ks.length))) w
 |0,i,hx,hy=>by
  have e1:=List.length_eq_zero_iff.1 (cG hx)
  have e2:=List.length_eq_zero_iff.1 (cG hy)
  rw [e1,e2]
  simp [Op.eqItems,dT]
 |c+1,i,hx,hy=>by
  simp only [sN] at hx hy
  obtain ⟨a1,a2⟩:=gH hx
  obtain ⟨b1,b2⟩:=gH hy
  have hm:i*ks.length+ks.length=(i+1)*ks.length:=by rw [Nat.add_mul,Nat.one_mul]
  rw [List.drop_drop,hm] at a2 b2
  have lx:i*ks.length+ks.length≤xs.size:=by
   have:=cG hx
   simp only [aap,List.length_drop,Array.length_toList] at this
   omega
  have ly:i*ks.length+ks.length≤ys.size:=by
   have:=cG hy
   simp at this
   omega
  obtain ⟨e',hu,UU⟩:=nv ZZ
  have Xu:=ih n _ _ w a1 b1
  have rest:=tu ZZ hl Ux ih n xs ys w c (i+1) a2 b2
  rw [List.range'_succ]
  unfold Op.eqItems
  rw [← hl] at rest ⊢
  simp only [aay,k9 hu hl UU lx w,k9 hu hl UU ly w,aaq,Xu]
  have hs:=ka ks.length (xs.toList.drop (i*ks.length)) (ys.toList.drop (i*ks.length)) (by simp;omega) (by simp;omega)
  rw [List.drop_drop,List.drop_drop,hm] at hs
  rw [hs]
  cases dT ((xs.toList.drop (i*ks.length)).take ks.length) ((ys.toList.drop (i*ks.length)).take ks.length) with
  |true=>simpa using rest
  |false=>simp
theorem te:∀ {d:Nat} {t:TypeId} {ks:List LK},jF P d t=some ks→PV P d t ks
 |0,t,ks,h=>by simp [jF] at h
 |d+1,t,ks,h=>by
  intro n l m w hl hm
  unfold jF at h
  split at h
  ·rename_i hu
   obtain rfl:=aad h
   have e1:=cG hl
   have e2:=cG hm
   match l,m,e1,e2 with
   | [a],[b],_,_=>
    cases a<;>simp only [ev,LK.th,ey,false_and,fm] at hl
    cases b<;>simp only [ev,LK.th,ey,false_and,fm] at hm
    simp only [C0,hu,dJ,List.headD_cons,dT,rC,Bool.and_true]
    exact run_equalIn_bool' w (n+d) t _ _ hu
  ·rename_i k hu
   obtain rfl:=aad h
   have e1:=cG hl
   have e2:=cG hm
   match l,m,e1,e2 with
   | [a],[b],_,_=>
    cases a<;>simp only [ev,LK.th,ey,false_and,fm] at hl
    cases b<;>simp only [ev,LK.th,ey,false_and,fm] at hm
    subst hl
    subst hm
    simp only [C0,hu,dJ,List.headD_cons,dT,rC,Bool.and_true]
    exact run_equalIn_int w (n+d) t _ _ _ _ hu
  ·rename_i hu
   obtain rfl:=aad h
   have e1:=cG hl
   have e2:=cG hm
   match l,m,e1,e2 with
   | [a],[b],_,_=>
    cases a<;>simp only [ev,LK.th,ey,false_and,fm] at hl
    cases b<;>simp only [ev,LK.th,ey,false_and,fm] at hm
    simp only [C0,hu,dJ,List.headD_cons,dT,rC,Bool.and_true]
    exact run_equalIn_string w (n+d) t _ _ hu
  ·rename_i fs hu
   split at h
   ·rename_i T5
    have hf:P.fieldsOf t=fs:=by simp [Program.fieldsOf,hu]
    simp only [C0,hu,dJ]
    rw [show n+(d+1)=(n+d)+1 by omega,run_equalIn_struct w (n+d) t _ _ (by rw [hf];exact hu) T5,hf]
    have:=qE (fun h=>te h) n l.toArray m.toArray w fs.toList 0 ks h (by simpa using hl) (by simpa using hm)
    simpa using this
   ·cases h
  ·rename_i c e hu
   split at h
   ·rename_i k1 i h1 hi
    split at h
    ·rename_i hlen
     rw [aae,Nat.beq_eq,Nat.blt_eq] at hlen
     obtain ⟨hlen,Ux⟩:=hlen
     obtain rfl:=aad h
     simp only [C0,hu,dJ]
     rw [show n+(d+1)=(n+d)+1 by omega,run_equalIn_array w (n+d) _ _ hu hi,List.range_eq_range']
     have:=tu h1 hlen Ux (te h1) n l.toArray m.toArray w c 0 (by simpa using hl) (by simpa using hm)
     simpa using this
    ·cases h
   ·cases h
  ·cases h
theorem kl.of_flat {d:Nat} {t:TypeId} {ks:List LK} (hd:Nat.ble d 10000=true) (hg:P.eqGuardType P.depth t=false) (ha:(match P.underlying t with|some e=>dJ e|none=>false)=true) (h:jF P d t=some ks):kl P t ks:=by
 refine ⟨hg,fun xs ys w hx hy=> ?_⟩
 have:=te h (10000 - d) xs.toList ys.toList w hx hy
 rw [Nat.sub_add_cancel (by simpa using hd)] at this
 unfold C0 at this
 split at ha
 ·rename_i e he
  simp only [he,ha] at this
  simpa using this
 ·cases ha
def Re (P:Program) (d:Nat) (t:TypeId) (ks:List LK):Prop:=
  ∀(em:Bool) (n:Nat) (l:List Value) (w:World),ev ks l→(Instr.checkKey em (n+d) t (C0 P t l)).run P w= .ok () w
theorem qd:∀ {d:Nat} {t:TypeId} {ks:List LK},jF P d t=some ks→Re P d t ks
 |0,t,ks,h=>by simp [jF] at h
 |d+1,t,ks,h=>by
  intro em n l w hl
  have plain:∀ {e:TypeDesc},P.underlying t=some e→(match e with| .bool| .int _| .string=>true|_=>false)=true→(Instr.checkKey em (n+(d+1)) t (C0 P t l)).run P w= .ok () w:=by
   intro e hu he
   rw [show n+(d+1)=(n+d)+1 from rfl,Instr.checkKey]
   simp only [aay,run_underlying hu,aaq]
   cases e<;>simp only [aaT] at he<;>simp
  unfold jF at h
  split at h
  ·rename_i hu;exact plain hu rfl
  ·rename_i hu;exact plain hu rfl
  ·rename_i hu;exact plain hu rfl
  ·rename_i fs hu
   split at h
   ·rename_i T5
    rw [show n+(d+1)=(n+d)+1 from rfl,Instr.checkKey]
    simp only [C0,hu,dJ,aay,run_underlying hu,aaq]
    rw [← Array.forIn_toList]
    have U2:ev ks (l.toArray.toList.drop 0):=by simpa using hl
    generalize l.toArray=xs at U2 ⊢
    generalize fs.toList=L at h ⊢
    generalize 0=off at h U2
    clear hl hu T5
    induction L generalizing off ks with
    |nil=>simp
    |cons f L ihL=>
     simp only [vu] at h
     split at h
     ·rename_i hf
      simp only [aae,aaK,fO,Nat.beq_eq] at hf
      obtain ⟨hname,hoff⟩:=hf
      split at h
      ·rename_i k1 h1
       split at h
       ·rename_i hlen
        rw [aae,Nat.beq_eq,Nat.blt_eq] at hlen
        obtain ⟨hlen,Ux⟩:=hlen
        split at h
        ·rename_i k2 h2
         obtain rfl:=aad h
         obtain ⟨a1,a2⟩:=gH U2
         rw [List.drop_drop] at a2
         have lx:off+k1.length≤xs.size:=by
          have:=cG U2
          simp at this
          omega
         obtain ⟨e,hu,UU⟩:=nv h1
         have Xu:=qd h1 em n _ w a1
         have rest:=ihL _ _ h2 a2
         simp only [List.forIn_cons,aay,hname,ne_eq,not_false_eq_true,if_true,aaq,hoff,k9 hu hlen UU lx w,Xu,aaH]
         exact rest
        ·cases h
       ·cases h
      ·cases h
     ·cases h
   ·cases h
  ·rename_i c e hu
   split at h
   ·rename_i k1 i h1 hi
    split at h
    ·rename_i hlen
     rw [aae,Nat.beq_eq,Nat.blt_eq] at hlen
     obtain ⟨hlen,Ux⟩:=hlen
     obtain rfl:=aad h
     rw [show n+(d+1)=(n+d)+1 from rfl,Instr.checkKey]
     simp only [C0,hu,dJ,aay,run_underlying hu,aaq]
     simp only [Std.Legacy.Range.forIn_eq_forIn_range',Std.Legacy.Range.size,Nat.sub_zero,Nat.add_one_sub_one,Nat.div_one]
     have U2:ev (sN c k1) (l.toArray.toList.drop (0*k1.length)):=by simpa using hl
     generalize l.toArray=xs at U2 ⊢
     generalize 0=j at U2 ⊢
     clear hl hu
     have IH:=qd h1 em n
     induction c generalizing j with
     |zero=>simp
     |succ c ihc=>
      simp only [sN] at U2
      obtain ⟨a1,a2⟩:=gH U2
      have hm:j*k1.length+k1.length=(j+1)*k1.length:=by rw [Nat.add_mul,Nat.one_mul]
      rw [List.drop_drop,hm] at a2
      have lx:j*k1.length+k1.length≤xs.size:=by
       have:=cG U2
       simp only [aap,List.length_drop,Array.length_toList] at this
       omega
      obtain ⟨e',Yf,UU⟩:=nv h1
      have Xu:=IH _ w a1
      rw [List.range'_succ]
      have rest:=ihc rfl _ a2
      simp only [List.forIn_cons,aay,run_sizeOf w hi,aaq,← hlen,k9 Yf hlen UU lx w,Xu,aaH]
      exact rest
    ·cases h
   ·cases h
  ·cases h
theorem A5 {kd:TypeDesc} (hk:dJ kd=true) (x:Array Value) (e:MapEntry) (l:List MapEntry) (i:Nat):Instr.findNow kd (.agg x) (e::l) i=none:=by
 cases kd<;>simp [dJ] at hk<;>simp [Instr.findNow,Instr.sameNow]
theorem md {t:TypeId} {ks:List LK} (hq:kl P t ks) (x:Array Value) (hx:ev ks x.toList) (w:World):∀(l:List MapEntry) (i:Nat),(∀e∈l,∃y:Array Value,e.key= .agg y∧ev ks y.toList)→
  (Instr.findAsking t (.agg x) l i).run P w= .ok (vv x.toList l i) w
 | [],i,_=>by simp [Instr.findAsking,vv]
 |e::l,i,h=>by
  obtain ⟨y,hy,fy⟩:=h e (by simp)
  have ih:=md hq x hx w l (i+1) fun e' he=>h e' (by simp [he])
  have he:(Op.equal t (.agg x) e.key).run P w= .ok (dT x.toList y.toList) w:=by
   rw [hy];exact hq.eq x y w hx fy
  simp only [Instr.findAsking,aay,he,aaq]
  simp only [vv,hy]
  cases dT x.toList y.toList with
  |true=>simp
  |false=>simpa using ih
theorem yR.of_flat {d:Nat} {t:TypeId} {ks:List LK} (hd:Nat.ble d 10000=true) (hg:P.eqGuardType P.depth t=false) (ha:(match P.underlying t with|some e=>dJ e|none=>false)=true) (h:jF P d t=some ks) (hs:KE ks=true):yR P t ks:=by
 have hq:=kl.of_flat hd hg ha h
 refine ⟨hs,fun w em xs hx=> ?_,fun w x l hx hl=> ?_⟩
 ·have:=qd h em (10000 - d) xs.toList w hx
  rw [Nat.sub_add_cancel (by simpa using hd)] at this
  unfold C0 at this
  split at ha
  ·rename_i e he
   simp only [he,ha] at this
   simpa using this
  ·cases ha
 ·split at ha
  ·rename_i e he
   cases l with
   |nil=>simp [Instr.findKey,run_underlying he,Instr.findNow,vv]
   |cons e0 l=>
    simp only [Instr.findKey,aay,run_underlying he,aaq,A5 ha]
    exact md hq x hx w _ 0 hl
  ·cases ha
end
theorem ic {x y:Bool} (h:x=false):(x&&y)=false:=by simp [h]
theorem dt {x y v:Bool} (h:x=true) (k:y=v):(x&&y)=v:=by simp [h,k]
theorem Se {x c c':Int} {v:Bool} (h:decide (x<c')=v) (hc:c'=c+1):decide (x≤c)=v:=by
 subst hc;rw [← h];exact decide_eq_decide.2 (by omega)
theorem QR {y c c':Int} {v:Bool} (h:decide (y<c')=v) (hc:c'=c+1):decide (c<y)= !v:=by
 subst hc;rw [← h,← decide_not];exact decide_eq_decide.2 (by omega)
theorem QU {y c c':Int} {v:Bool} (h:decide (y<c')=v) (hc:c'=c):decide (c≤y)= !v:=by
 subst hc;rw [← h,← decide_not];exact decide_eq_decide.2 (by omega)
theorem Sd {x d c:Int} (h:decide (x<d)=true) (hc:d≤c):decide (x<c)=true:=by
 simp only [bS] at h ⊢;omega
theorem Ph {x d c:Int} (h:decide (x<d)=false) (hc:c≤d):decide (x<c)=false:=by
 simp only [cI] at h ⊢;omega
theorem Py {x d c:Int} (h:decide (x<d)=true) (hc:d≤c):(x==c)=false:=by
 simp only [bS] at h;simp only [fO];omega
theorem Pz {x d c:Int} (h:decide (x<d)=false) (hc:c<d):(x==c)=false:=by
 simp only [cI] at h;simp only [fO];omega
theorem bc {x c:Int} (h:¬x=c):(x==c)=false:=by simp [h]
theorem Sm {x c d:Int} {v:Bool} (h:x=c) (hv:(c==d)=v):(x==d)=v:=by rw [h,hv]
def tT {P:Program} :Ev P:= .cX true true rfl
def tF {P:Program} :Ev P:= .cX false false rfl
def tC {P:Program} {q v:Bool} (h:q=v):Ev P:= .cX q v h
theorem eT {b v:Bool} (h:b=v):(b==true)=(v==true):=by rw [h]
theorem eF {b v:Bool} (h:b=v):(b==false)=(v==false):=by rw [h]
theorem nt {b v:Bool} (h:b=v):(!b)= !v:=by rw [h]
theorem eH {x c':Int} {v:Bool} (c:Int) (h:decide (x<c')=v) (hc:c'=c+1:=by decide):decide (x≤c)=v:=Se h hc
theorem dg {y c':Int} {v:Bool} (c:Int) (h:decide (y<c')=v) (hc:c'=c+1:=by decide):decide (c<y)= !v:=QR h hc
theorem bQ {y c':Int} {v:Bool} (c:Int) (h:decide (y<c')=v) (hc:c'=c:=by decide):decide (c≤y)= !v:=QU h hc
theorem BG {x d:Int} (c:Int) (h:decide (x<d)=true) (hc:d≤c:=by decide):decide (x<c)=true:=Sd h hc
theorem lu {x d:Int} (c:Int) (h:decide (x<d)=false) (hc:c≤d:=by decide):decide (x<c)=false:=Ph h hc
theorem pv {x d:Int} (c:Int) (h:decide (x<d)=true) (hc:d≤c:=by decide):(x==c)=false:=Py h hc
theorem uA {x d:Int} (c:Int) (h:decide (x<d)=false) (hc:c<d:=by decide):(x==c)=false:=Pz h hc
theorem cK {x c:Int} (d:Int) (v:Bool) (h:x=c) (hv:(c==d)=v:=by decide):(x==d)=v:=Sm h hv
def cB:ln→ln→Nat→Prop
  |_,.no,_=>True
  | .tight,.tight,_=>True
  | .tight,.fresh n,sz=>n=sz
  | .fresh a,.fresh b,_=>a=b
  |_,_,_=>False
mutual
def wk:D→D→Prop
  | .aY o sz xs,.aY o' Ug ys=>xs=ys∧(sz=Ug∨xs= [])∧cB o o' Ug∧(o= .tight∨sz=Ug)
  | .agg l,.agg m=>bf l m
  | .aL l,.aL m=>bf l m
  |a,b=>a=b
def bf:List D→List D→Prop
  | [],[]=>True
  |a::l,b::m=>wk a b∧bf l m
  |_,_=>False
end
theorem aE:type_of%(aaj @wk.eq_1 (aaj @wk.eq_2 (aaj @wk.eq_3 (aaj @wk.eq_4 (aaj @bf.eq_1 (aaj @bf.eq_2 (aaj @bf.eq_3 (aaj @cB.eq_1 (aaj @cB.eq_2 (aaj @cB.eq_3 (aaj @cB.eq_4 (aaj @cB.eq_5 (aaj @bZ.eq_1 (aaj @bZ.eq_2 (aaj @bZ.eq_3 (aaj @kL.eq_1 (aaj @kL.eq_2 (aaj @kL.eq_3 (@kL.eq_4))))))))))))))))))):=aaj @wk.eq_1 (aaj @wk.eq_2 (aaj @wk.eq_3 (aaj @wk.eq_4 (aaj @bf.eq_1 (aaj @bf.eq_2 (aaj @bf.eq_3 (aaj @cB.eq_1 (aaj @cB.eq_2 (aaj @cB.eq_3 (aaj @cB.eq_4 (aaj @cB.eq_5 (aaj @bZ.eq_1 (aaj @bZ.eq_2 (aaj @bZ.eq_3 (aaj @kL.eq_1 (aaj @kL.eq_2 (aaj @kL.eq_3 (@kL.eq_4))))))))))))))))))
theorem Td:type_of%(aaj @wk.eq_1 (aaj @wk.eq_2 (aaj @wk.eq_3 (aaj @wk.eq_4 (aaj @bf.eq_1 (aaj @bf.eq_2 (@bf.eq_3))))))):=aaj @wk.eq_1 (aaj @wk.eq_2 (aaj @wk.eq_3 (aaj @wk.eq_4 (aaj @bf.eq_1 (aaj @bf.eq_2 (@bf.eq_3))))))
theorem ot:∀ {l m:List D},bf l m→l.length=m.length∧∀(i:Nat) (a b:D),l[i]? =some a→m[i]? =some b→wk a b
 | [],[],_=>⟨rfl,fun i a b h=>by simp at h⟩
 | [],_::_,h=>by simp [bf] at h
 |_::_,[],h=>by simp [bf] at h
 |a::l,b::m,h=>by
  rw [bf] at h
  obtain ⟨h1,h2⟩:=ot h.2
  refine ⟨by simp [h1],fun i x y p q=> ?_⟩
  cases i with
  |zero=>simp at p q;subst p q;exact h.1
  |succ i=>simp at p q;exact h2 i x y p q
theorem b7.wk {C:Nat→Nat→Option Value} {M:MM} (hM:M=gr C) {d:D} {v:Value} (h:b7 M d v):∀ {d':D},wk d d'→b7 M d' v:=by
 induction h with
 |aY b off vs hl TZ ha T8 hc hr T5 ho ih=>
  intro d' w
  rename_i M o sz xs _ _ _
  cases d'<;>simp only [Ev.wk,reduceCtorEq] at w
  obtain ⟨rfl,w2,w3,_⟩:=w
  rename_i o' _ _
  refine b7.resize (sz:=sz) (.aY b off vs hl TZ ha T8 hc hr T5 ?_) w2
  cases o<;>cases o'<;>first|trivial|exact ho|(simp only [cB] at w3)
 |agg h r ih=>
  intro d' w
  cases d'<;>simp only [Ev.wk,reduceCtorEq] at w
  rename_i _ cs vs _
  obtain ⟨h1,h2⟩:=ot w
  refine .agg (h1▸h) fun i d v a b=> ?_
  have T1:i<cs.length:=by
   rw [h]
   exact (Array.getElem?_eq_some_iff.1 b).1
  exact ih i cs[i] v (by simp [T1]) b hM (h2 i _ _ (by simp [T1]) a)
 |aL h r ih=>
  intro d' w
  cases d'<;>simp only [Ev.wk,reduceCtorEq] at w
  rename_i _ cs vs _
  obtain ⟨h1,h2⟩:=ot w
  refine .aL (h1▸h) fun i d v a b=> ?_
  have T1:i<cs.length:=by
   rw [h]
   exact (Array.getElem?_eq_some_iff.1 b).1
  exact ih i cs[i] v (by simp [T1]) b hM (h2 i _ _ (by simp [T1]) a)
 |undef v=>intro d' w;cases d'<;>simp only [Ev.wk,reduceCtorEq] at w;exact .undef v
 |int k n=>intro d' w;cases d'<;>simp only [Ev.wk,reduceCtorEq] at w;rw [← w];exact .int k n
 |bool b=>intro d' w;cases d'<;>simp only [Ev.wk,reduceCtorEq] at w;rw [← w];exact .bool b
 |str s=>intro d' w;cases d'<;>simp only [Ev.wk,reduceCtorEq] at w;rw [← w];exact .str s
 |fW=>intro d' w;cases d'<;>simp only [Ev.wk,reduceCtorEq] at w;exact .fW
 |b6=>intro d' w;cases d'<;>simp only [Ev.wk,reduceCtorEq] at w;exact .b6
 |ptr q h=>intro d' w;cases d'<;>simp only [Ev.wk,reduceCtorEq] at w;rw [← w];exact .ptr q h
 |eL q vs hx hc hr ih=>intro d' w;cases d'<;>simp only [Ev.wk,reduceCtorEq] at w;rw [← w];exact .eL q vs hx hc hr
 |gl h=>intro d' w;cases d'<;>simp only [Ev.wk,reduceCtorEq] at w;rw [← w];exact .gl h
 |jx h=>intro d' w;cases d'<;>simp only [Ev.wk,reduceCtorEq] at w;rw [← w];exact .jx h
 |dm h hh hc=>intro d' w;cases d'<;>simp only [Ev.wk,reduceCtorEq] at w;rw [← w];exact .dm h hh hc
 |sub h hc hp ho=>intro d' w;cases d'<;>simp only [Ev.wk,reduceCtorEq] at w;rw [← w];exact .sub h hc hp ho
 |fn h1 h2 r1 r2 i1 i2=>intro d' w;cases d'<;>simp only [Ev.wk,reduceCtorEq] at w;rw [← w];exact .fn h1 h2 r1 r2
theorem A2 {B:Nat} {w:World} {C:Nat→Nat→Option Value} {d d':D} {v:Value} (hr:b7 (gr C) d v) (hf:∀sz Ug xs,d= .aY (.fresh sz) Ug xs→∃a len cap,v= .slice a len cap∧Ug=sz∧jV B w C sz a len cap) (hw:wk d d'):
  ∀sz Ug xs,d'= .aY (.fresh sz) Ug xs→∃a len cap,v= .slice a len cap∧Ug=sz∧jV B w C sz a len cap:=by
 rintro sz Ug xs rfl
 cases d<;>simp only [wk,reduceCtorEq] at hw
 rename_i o Zl Y9
 obtain ⟨rfl,w2,w3,w4⟩:=hw
 cases o with
 |no=>simp only [cB] at w3
 |tok a b=>simp only [cB] at w3
 |tight=>
  simp only [cB] at w3
  subst w3
  cases hr with
  |aY b off vs hl TZ ha T8 hc hr T5 ho=>exact ⟨_,_,_,rfl,rfl,.inl ho⟩
 |fresh k=>
  simp only [cB] at w3
  subst w3
  rcases w4 with w4|rfl
  ·cases w4
  ·exact hf _ _ _ rfl
theorem aP.to {P:Program} {f:FuncId} {args:List D} {d d':D} (h:aP P f args d) (hw:wk d d'):aP P f args d':=by
 refine ⟨h.Ij,fun w C vs hC ha=>Calls.mono (h.run w C vs hC ha) ?_⟩
 rintro e w' ⟨v,C',rfl,hext,T0,XQ,W8⟩
 refine ⟨v,C',rfl,hext,T0.wk rfl hw,A2 T0 XQ hw,?_⟩
 rintro ds vs rfl rfl i sz Ug xs hi
 cases d<;>simp only [wk,reduceCtorEq] at hw
 rename_i Yh
 obtain ⟨h1,h2⟩:=ot hw
 have T1:i<Yh.length:=by
  rw [h1]
  rcases Nat.lt_or_ge i ds.length with q|q
  ·exact q
  ·rw [aam q] at hi;cases hi
 cases T0 with
 |aL hl hr=>
  have Zn:i<vs.size:=hl▸T1
  have:=A2 (d:=Yh[i]) (d':= .aY (.fresh sz) Ug xs) (v:=vs[i]) (hr i _ _ (by simp [T1]) (by simp [Zn])) (fun s1 s2 x e=>by
   obtain ⟨a,len,cap,k1,k2⟩:=W8 Yh vs rfl rfl i s1 s2 x (by simp [T1,e])
   exact ⟨a,len,cap,by simpa [Zn] using k1,k2⟩) (h2 i _ _ (by simp [T1]) hi) sz Ug xs rfl
  obtain ⟨a,len,cap,k1,k2,k3⟩:=this
  exact ⟨a,len,cap,by simp [Zn,k1],k2,k3⟩
def jo:Code→List Code
  | .seq a b=>jo a++jo b
  | .cond _ a b=>jo a++jo b
  | .block _ a=>jo a
  | .scope a=>jo a
  | .loop a=>a::jo a
  | .rangeFunc _ _ a b=>jo a++jo b
  |_=> []
def cq (fn:Func) (i:Nat):Code:=match fn.body with
  |some c=>(jo c).getD i .skip
  |none=> .skip
def iB:Code→List (Code×Code)
  | .seq a b=>iB a++iB b
  | .cond _ a b=>iB a++iB b
  | .block _ a=>iB a
  | .scope a=>iB a
  | .loop a=>iB a
  | .rangeFunc _ _ a b=>(a,b)::iB b
  |_=> []
def dv (fn:Func) (i:Nat):Code:=match fn.body with
  |some c=>((iB c).getD i (.skip,.skip)).1
  |none=> .skip
def du (fn:Func) (i:Nat):Code:=match fn.body with
  |some c=>((iB c).getD i (.skip,.skip)).2
  |none=> .skip
def iH:Code→List Code
  | .seq a b=>iH a++iH b
  | .cond _ a b=>iH a++iH b
  | .block i a=> .block i a::iH a
  | .scope a=>iH a
  | .loop a=>iH a
  | .rangeFunc _ _ a b=>iH a++iH b
  |_=> []
def dx (fn:Func) (i:Nat):Code:=match fn.body with
  |some c=>(iH c).getD i .skip
  |none=> .skip
section
variable {P:Program}
theorem bL.cast {c:Code} {n0:Nat} {t t1:List D} {s s1:List Ob} {ex YL:Ex} {t' Yt:List D} {s' W9:List Ob} (h:bL P c n0 t s ex t' s') (h1:t=t1) (h2:s=s1) (h3:ex=YL) (h4:t'=Yt) (h5:s'=W9):bL P c n0 t1 s1 YL Yt W9:=by
 subst h1 h2 h3 h4 h5;exact h
theorem bL.from {c:Code} {n0:Nat} {t t1:List D} {s s1:List Ob} {ex:Ex} {t':List D} {s':List Ob} (h:bL P c n0 t s ex t' s') (h1:t=t1) (h2:s=s1):bL P c n0 t1 s1 ex t' s':=by
 subst h1 h2;exact h
theorem Mc {C:Nat→Nat→Option Value} {l m:List D} {vs:Array Value} (h:cy (gr C) l vs) (hw:bf l m):cy (gr C) m vs:=by
 obtain ⟨h1,h2⟩:=ot hw
 refine ⟨by rw [← h1];exact h.1,fun i d v p q=> ?_⟩
 have T1:i<l.length:=by rw [h.1];exact (Array.getElem?_eq_some_iff.1 q).1
 exact (h.2 i l[i] v (by simp [T1]) q).wk rfl (h2 i _ _ (by simp [T1]) p)
theorem aP.args {f:FuncId} {az as':List D} {d:D} (h:aP P f az d) (hw:bf as' az):aP P f as' d:=
 ⟨h.Ij,fun w C vs hC ha=>h.run w C vs hC (Mc ha hw)⟩
theorem aB.cast {c:Code} {sp:HS} {n0:Nat} {t:List D} {s:List Ob} {ex:Ex} {t' Yt:List D} {s' W9:List Ob} (h:aB P c sp n0 t s ex t' s') (h4:t'=Yt) (h5:s'=W9):aB P c sp n0 t s ex Yt W9:=by
 subst h4 h5;exact h
end
open Go
abbrev QW (kind op width size:Int) (fI:Bool) (dst src off aj:Int):D:=
  .agg [ao kind,ao op,ao width,ao size,ax fI,ao dst,ao src,av off,av aj]
def KK (dst src off aj:Int):Bool:=decide (0≤dst∧dst≤10∧0≤src∧src≤10∧ -32768≤off∧off≤32767∧ -2147483648≤aj∧aj≤2147483647)
def Jr (n:Int):Bool:=decide (n=1∨n=2∨n=4∨n=8)
def MO (kind op width size:Int) (fI:Bool) (dst src off aj:Int):Bool:=
  if kind=0 then decide (0≤op∧op≤12∧(width=32∨width=64)∧dst<10∧size=0∧off=0)&&(if fI then decide (op≠8∧aj=0) else decide (src=0∧(op=8→aj=0)))
  else if kind=1 then Jr size&&decide (dst<10∧op=0∧width=0∧aj=0)&& !fI
  else if kind=2 then Jr size&&decide (op=0∧width=0∧aj=0)&& !fI
  else if kind=3 then decide (0≤op∧op≤10∧width=0∧size=0)&&(if fI then decide (aj=0) else decide (src=0))
  else if kind=4 then decide (op=0∧width=0∧size=0∧dst=0∧src=0∧aj=0)&& !fI
  else if kind=5 then decide (op=0∧width=0∧size=0∧dst=0∧src=0∧off=0∧0≤aj∧aj≤15)&& !fI
  else if kind=6 then decide (op=0∧width=0∧size=0∧dst=0∧src=0∧off=0∧aj=0)&& !fI
  else false
def Sc (kind op width size:Int) (fI:Bool) (dst src off aj:Int):Bool:=KK dst src off aj&&MO kind op width size fI dst src off aj
def TU (kind op:Int):Int:=if kind=0∨kind=3 then op else 0
def Sk (kind width:Int):Int:=if kind=0 then width else 0
def SV (kind size:Int):Int:=if kind=1∨kind=2 then size else 0
def Sl (kind op:Int) (fI:Bool):Bool:=if kind=0 then fI&&decide (op≠8) else if kind=3 then fI else false
def TF (kind dst:Int):Int:=if kind=0∨kind=1∨kind=2∨kind=3 then dst else 0
def TC (kind op:Int) (fI:Bool) (src:Int):Int:=if kind=0 then (if fI&&decide (op≠8) then src else 0) else if kind=1∨kind=2 then src else if kind=3 then (if fI then src else 0) else 0
def TD (kind off:Int):Int:=if kind=1∨kind=2∨kind=3∨kind=4 then off else 0
def TE (kind op:Int) (fI:Bool) (aj:Int):Int:=if kind=0 then (if fI||decide (op=8) then 0 else aj) else if kind=3 then (if fI then 0 else aj) else if kind=5 then aj else 0
abbrev xD (op w dst src base af aj cc:Int):D:=
  .agg [ao op,ao w,ao dst,ao src,ao base,av af,av aj,ao cc]
abbrev L5 (kind op w dst src base af aj cc xc xL num to:Int):D:=
  .agg [ao kind,ao op,ao w,ao dst,ao src,ao base,av af,av aj,ao cc,ao xc,ao xL,av num,av to]
abbrev il (xL xc:Int):D:=L5 1 0 0 0 0 0 0 0 0 xc xL 0 0
abbrev ia (xc xL:Int):D:=L5 2 0 0 0 0 0 0 0 0 xc xL 0 0
abbrev two (op w dst src:Int):D:=L5 0 op w dst src 0 0 0 0 0 0 0 0
abbrev num (op w dst n:Int):D:=L5 0 op w dst 0 0 0 n 0 0 0 0 0
abbrev PG (w dst:Int):D:=L5 0 25 w dst 11 0 0 0 4 0 0 0 0
def L8 (width aj:Int):Bool:=if width=32 then decide (aj%4294967296=0) else decide (aj=0)
def NS (op:Int):Int:=if op=0 then 2 else if op=1 then 5 else if op=4 then 3 else if op=5 then 4 else if op=10 then 6 else if op=6 then 20 else if op=7 then 21 else 22
def N2 (op:Int):Int:=if op=0 then 9 else if op=1 then 12 else if op=4 then 10 else if op=5 then 11 else if op=10 then 13 else if op=6 then 17 else if op=7 then 18 else 19
def Ss (op width:Int) (fI:Bool) (dst src aj:Int):List D:=
  if op=3∨op=9 then
    (if fI then
      [il 0 dst,il 1 src,num 1 32 2 0,num 1 32 11 1,two 8 width 1 1,PG width 1,two 24 width 1 0,il 1 src]++
        (if op=3 then [num 1 32 11 0,two 8 width 1 1,PG width 0,ia dst 0] else [il 11 dst,two 8 width 1 1,PG width 2,ia dst 2])
    else if L8 width aj then
      (if op=3 then [num 1 width 0 0,ia dst 0] else if width=32 then [il 0 dst,two 0 32 0 0,ia dst 0] else [il 0 dst,ia dst 0])
    else [il 0 dst,num 1 width 1 aj,num 1 32 2 0,two 24 width 1 0,ia dst (if op=3 then 0 else 2)])
  else if op=2 then (if fI then [il 0 dst,il 1 src,two 16 width 0 1,ia dst 0] else [il 0 dst,num 1 width 1 aj,two 16 width 0 1,ia dst 0])
  else if op=8 then [il 0 dst,two 23 width 0 0,ia dst 0]
  else if op=11 then (if fI then (if width=32 then [il 0 src,two 0 32 0 0,ia dst 0] else [il 0 src,ia dst 0]) else [num 1 width 0 aj,ia dst 0])
  else if op=6∨op=7∨op=12 then (if fI then [il 0 dst,il 1 src,two (NS op) width 0 0,ia dst 0] else [il 0 dst,num (N2 op) width 0 (aj%width),ia dst 0])
  else (if fI then [il 0 dst,il 1 src,two (NS op) width 0 1,ia dst 0] else [il 0 dst,num (N2 op) width 0 aj,ia dst 0])
def RB (kind op width size:Int) (fI:Bool) (dst src off aj:Int):List D:=
  if kind=0 then Ss op width fI dst src aj
  else if kind=1 then [il 1 src,L5 0 26 (8*size) 0 0 1 off 0 0 0 0 0 0,ia dst 0]
  else if kind=2 then [il 1 dst,il 0 src,L5 0 27 (8*size) 0 0 1 off 0 0 0 0 0 0]
  else if kind=5 then [L5 3 0 0 0 0 0 0 0 0 0 0 aj 0,ia 0 0,num 1 32 1 0,ia 1 1,ia 2 1,ia 3 1,ia 4 1,ia 5 1]
  else if kind=6 then [L5 6 0 0 0 0 0 0 0 0 0 0 0 0]
  else []
theorem bo (n:Int):abz.u8.wrap n=n%256:=by simp [abz.wrap,abz.bits,abz.signed]
theorem Ez (n:Int):abz.u16.wrap n=n%65536:=by simp [abz.wrap,abz.bits,abz.signed]
theorem Ey (n:Int):abz.u32.wrap n=n%4294967296:=by simp [abz.wrap,abz.bits,abz.signed]
theorem bN (n:Int):abz.u64.wrap n=n%18446744073709551616:=by simp [abz.wrap,abz.bits,abz.signed]
theorem dk (n:Int):abz.i8.wrap n=(n+128)%256 - 128:=by simp only [abz.wrap,abz.bits,abz.signed];simp;split<;>omega
theorem P5 (n:Int):abz.i16.wrap n=(n+32768)%65536 - 32768:=by simp only [abz.wrap,abz.bits,abz.signed];simp;split<;>omega
theorem nF (n:Int):abz.i32.wrap n=(n+2147483648)%4294967296 - 2147483648:=by simp only [abz.wrap,abz.bits,abz.signed];simp;split<;>omega
theorem aN (n:Int):abz.i64.wrap n=(n+9223372036854775808)%18446744073709551616 - 9223372036854775808:=by simp only [abz.wrap,abz.bits,abz.signed];simp;split<;>omega
theorem toNat_ofInt (w:Nat) (a:Int):(Z8 w a).toNat=(a%(2^w:Nat)).toNat:=by simp [BitVec.toNat_ofInt]
theorem and_ones (w k:Nat) (hk:k≤w) (a:Int):((Z8 w a&&&Z8 w ((2^k - 1:Nat):Int)).toNat:Int)=a%(2^k:Nat):=by
 have hp:0<2^k:=Nat.two_pow_pos k
 have hle:2^k≤2^w:=Nat.pow_le_pow_right (by omega) hk
 have e2:(((2^k - 1:Nat):Int)%((2^w:Nat):Int)).toNat=2^k - 1:=by
  rw [Int.emod_eq_of_lt (by omega) (by omega)]
  omega
 rw [BitVec.toNat_and,toNat_ofInt,toNat_ofInt,e2,Nat.and_two_pow_sub_one_eq_mod]
 have h0:0≤a%((2^w:Nat):Int):=Int.emod_nonneg _ (by omega)
 have h1:((a%((2^w:Nat):Int)).toNat:Int)=a%((2^w:Nat):Int):=Int.toNat_of_nonneg h0
 rw [Int.natCast_emod,h1]
 have hd:((2^k:Nat):Int)∣((2^w:Nat):Int):=by
  rw [Int.natCast_dvd_natCast];exact Nat.pow_dvd_pow 2 hk
 exact Int.emod_emod_of_dvd a hd
theorem Rc (a:Int):((Z8 64 a&&&Z8 64 4294967295).toNat:Int)=a%4294967296:=by have:=and_ones 64 32 (by omega) a;exact this
structure XS where
  op:Int
  w:Int
  ab:Int
  ae:Int
  aa:Int
  af:Int
  aj:Int
  cc:Int
deriving DecidableEq
def XS.d (x:XS):D:=xD x.op x.w x.ab x.ae x.aa x.af x.aj x.cc
structure Tc where
  kind:Int
  op:Int
  w:Int
  ab:Int
  ae:Int
  aa:Int
  af:Int
  aj:Int
  cc:Int
  xc:Int
  xL:Int
  num:Int
  to:Int
deriving DecidableEq
def Tc.d (x:Tc):D:=L5 x.kind x.op x.w x.ab x.ae x.aa x.af x.aj x.cc x.xc x.xL x.num x.to
structure kj where
  kind:Int
  op:Int
  width:Int
  size:Int
  fI:Bool
  ab:Int
  ae:Int
  off:Int
  aj:Int
deriving DecidableEq
def kj.d (x:kj):D:=QW x.kind x.op x.width x.size x.fI x.ab x.ae x.off x.aj
abbrev TS (kind op w dst src base af aj cc xc xL num to:Int):List D:=
  [ao kind,ao op,ao w,ao dst,ao src,ao base,av af,av aj,ao cc,ao xc,ao xL,av num,av to]
theorem get_map {α:Type} {f:α→D} {l:List α} {k:Nat} {x:α} (h:l[k]? =some x):(l.map f)[k]? =some (f x):=by simp [h]
def TP (n:Int):Int:=abz.i64.wrap (1*2^(min (abz.u64.wrap n).toNat abz.i64.bits))
def lB (n:Int):Int:=abz.i64.wrap (1*2^(min n.toNat abz.i64.bits))
def GW (a b:Int):Int:=abz.i64.wrap ((Z8 abz.i64.bits a|||Z8 abz.i64.bits b).toNat:Int)
def Ra (a b:Int):Int:=abz.i64.wrap ((Z8 abz.i64.bits a&&& ~~~Z8 abz.i64.bits b).toNat:Int)
def aA (op:Int):Int:=
  if op=0∨(2≤op∧op≤8) then 1
  else if op=16 then 2
  else if op=1∨(9≤op∧op≤15) then 3
  else if 17≤op∧op≤19 then 4
  else if 20≤op∧op≤24 then 5
  else if op=25 then 6
  else if op=26 then 7
  else if op=27 then 8
  else if op=28 then 9
  else if op=29 then 10
  else if op=30∨op=31 then 11
  else 0
def ba (op:Int):Int:=
  if op=0 then 0x89 else if op=1 then 0xC7 else if op=2 then 0x01 else if op=3 then 0x09 else if op=4 then 0x21 else if op=5 then 0x29 else if op=6 then 0x31 else if op=7 then 0x39 else if op=8 then 0x85
  else if 9≤op∧op≤14 then 0x81 else if op=15 then 0xF7 else if op=16 then 0xAF else if 17≤op∧op≤19 then 0xC1 else if 20≤op∧op≤22 then 0xD3 else if op=23∨op=24 then 0xF7
  else if op=25 then 0x40 else if op=26 then 0x8B else if op=27 then 0x89 else if op=28 then 0xE9 else if op=29 then 0x80 else if op=30 then 0xC3 else if op=31 then 0x05 else 0
def bI (op:Int):Int:=
  if op=10 then 1 else if op=11∨op=17∨op=20 then 4 else if op=12∨op=18∨op=21 then 5 else if op=13∨op=24 then 6 else if op=14∨op=19∨op=22 then 7 else if op=23 then 3 else 0
def bm (op:Int):Int:=
  if aA op=1∨aA op=2 then 1 else if aA op=0 then 0 else aA op - 1
def cg (n:Int):Bool:=decide (0≤n∧n≤15)
def kO (n:Int):Bool:=decide ((2≤n∧n≤7)∨(12≤n∧n≤15))
def bG (w:Int):Bool:=decide (w=32∨w=64)
def fS (w:Int):Bool:=decide (w=8∨w=16∨w=32∨w=64)
def mb (w aj:Int):Bool:=decide (w=32∨(w=8∧ -128≤aj∧aj≤127))
def iy (sh w dst src base af aj cc:Int):Bool:=
  if sh=1∨sh=2 then bG w&&decide (base=0∧af=0∧aj=0∧cc=0)
  else if sh=3 then bG w&&decide (src=0∧base=0∧af=0∧cc=0)
  else if sh=4 then bG w&&decide (src=0∧base=0∧af=0∧cc=0∧0≤aj∧aj<w)
  else if sh=5 then bG w&&decide (src=0∧base=0∧af=0∧aj=0∧cc=0)
  else if sh=6 then bG w&&decide (base=0∧af=0∧aj=0)&&kO cc
  else if sh=7 then fS w&&decide (src=0∧aj=0∧cc=0)
  else if sh=8 then fS w&&decide (dst=0∧aj=0∧cc=0)
  else if sh=9 then mb w aj&&decide (dst=0∧src=0∧base=0∧af=0∧cc=0)
  else if sh=10 then mb w aj&&decide (dst=0∧src=0∧base=0∧af=0)&&kO cc
  else if sh=11 then decide (w=0∧dst=0∧src=0∧base=0∧af=0∧aj=0∧cc=0)
  else false
def bC (op w dst src base af aj cc:Int):Bool:=
  cg dst&&cg src&&cg base&&decide (-2147483648≤af∧af≤2147483647)&&decide (-2147483648≤aj∧aj≤2147483647)&&iy (aA op) w dst src base af aj cc
def aW (n:Int):List Int:= [n%256,n / 256%256,n / 65536%256,n / 16777216%256]
def cV (wide:Bool) (r m:Int):Int:=64+(if wide then 8 else 0)+4*(r / 8)+m / 8
def bP (wide:Bool) (r m:Int) (always:Bool):Bool:=wide||always||decide (8≤r∨8≤m)
def bl (wide:Bool) (r m:Int) (always:Bool):List Int:=if bP wide r m always then [cV wide r m] else []
def bk (r m:Int):Int:=192+8*(r%8)+m%8
def bq (r b af:Int):List Int:=if b%8=4 then (128+8*(r%8)+b%8)::36::aW af else (128+8*(r%8)+b%8)::aW af
def aD (op w dst src base af aj cc:Int):List Int:=
  let sh:=aA op
  let wide:=decide (w=64)
  if sh=1 then bl wide src dst false++ [ba op,bk src dst]
  else if sh=2 then bl wide dst src false++ [15,ba op,bk dst src]
  else if sh=6 then bl wide dst src false++ [15,64+cc,bk dst src]
  else if sh=3 then (if op=1∧w=32 then bl false 0 dst false++((184+dst%8)::aW aj) else bl wide 0 dst false++(ba op::bk (bI op) dst::aW aj))
  else if sh=4 then bl wide 0 dst false++ [ba op,bk (bI op) dst,aj%256]
  else if sh=5 then bl wide 0 dst false++ [ba op,bk (bI op) dst]
  else if sh=7 then bl wide dst base false++((if w=8 then [15,182] else if w=16 then [15,183] else [139])++bq dst base af)
  else if sh=8 then (if w=16 then [102] else [])++(bl wide src base (decide (w=8))++((if w=8 then [136] else [137])++bq src base af))
  else if sh=9 then (if w=8 then [235,aj%256] else 233::aW aj)
  else if sh=10 then (if w=8 then [112+cc,aj%256] else 15::(128+cc)::aW aj)
  else if op=31 then [15,5]
  else [195]
def bD (l:List Int):List D:=l.map fun n=> .int .u8 n
def lU (op w dst src base af aj cc:Int):List D:=if bC op w dst src base af aj cc then bD (aD op w dst src base af aj cc) else []
def qm (op w dst src base af aj cc:Int):Int:=if bC op w dst src base af aj cc then 0 else 2
def fP (a b c d:Int):Int:=(a+256*b+65536*c+16777216*d+2147483648)%4294967296 - 2147483648
def gD (a:Int):Int:=(a+128)%256 - 128
theorem HQ {n:Int} (h0: -2147483648≤n) (h1:n≤2147483647):fP (n%256) (n / 256%256) (n / 65536%256) (n / 16777216%256)=n:=by
 simp only [fP]
 omega
theorem o6 {n:Int} (h0: -128≤n) (h1:n≤127):gD (n%256)=n:=by
 simp only [gD]
 omega
theorem dw {op w dst src base af aj cc:Int} (h:bC op w dst src base af aj cc=true):
  (0≤dst∧dst≤15∧0≤src∧src≤15∧0≤base∧base≤15∧ -2147483648≤af∧af≤2147483647∧ -2147483648≤aj∧aj≤2147483647)∧iy (aA op) w dst src base af aj cc=true:=by
 simp only [bC,cg,aae,bS] at h
 exact ⟨by omega,h.2⟩
theorem gQ {op:Int} (h:aA op≠0):op=0∨op=1∨op=2∨op=3∨op=4∨op=5∨op=6∨op=7∨op=8∨op=9∨op=10∨op=11∨op=12∨op=13∨op=14∨op=15∨op=16∨op=17∨op=18∨op=19∨op=20∨op=21∨op=22∨op=23∨op=24∨op=25∨op=26∨op=27∨op=28∨op=29∨op=30∨op=31:=by
 by_cases h2:0≤op∧op≤31
 ·omega
 ·refine absurd ?_ h
  unfold aA
  repeat (rw [if_neg (by omega)])
def BE:List Int→Int
  |a::b::c::d::_=>fP a b c d
  |_=>0
def hd (l:List Int):Int:=l.headD 0
def hQ:List Int:= [0,1,2,3,4,5,6,7,8,9,10,11,12,13,14,15,16,17,18,19,20,21,22,23,24,25,26,27,28,29,30,31]
def Lg (p:Int→Bool):Int:=(hQ.find? p).getD (-1)
def oZ (c:Int):Int:=Lg fun o=>decide (aA o=1∧ba o=c)
def Fh (c k:Int):Int:=Lg fun o=>decide ((aA o=3∨aA o=4∨aA o=5)∧ba o=c∧bI o=k)
def GR:List Int→Bool×Int×Int×List Int
  |h::t=>if 64≤h∧h≤79 then (decide (72≤h),(h - 64) / 4%2,(h - 64)%2,t) else (false,0,0,h::t)
  | []=>(false,0,0,[])
def Ej (t:List Int):List Int:=if hd t%8=4 then t.drop 2 else t.drop 1
def Iv (wide:Bool) (r m c:Int) (t:List Int):XS:=
  let w:=if wide then 64 else 32
  let xc:=hd t / 8%8+8*r
  let rm:=hd t%8+8*m
  if c=175 then ⟨16,w,xc,rm,0,0,0,0⟩
  else if 64≤c∧c≤79 then ⟨25,w,xc,rm,0,0,0,c - 64⟩
  else if 128≤c∧c≤143 then ⟨29,32,0,0,0,0,BE t,c - 128⟩
  else if c=182 then ⟨26,8,xc,0,rm,BE (Ej t),0,0⟩
  else if c=183 then ⟨26,16,xc,0,rm,BE (Ej t),0,0⟩
  else ⟨31,0,0,0,0,0,0,0⟩
def kg (half wide:Bool) (r m c:Int) (t:List Int):XS:=
  let w:=if wide then 64 else 32
  let xc:=hd t / 8%8+8*r
  let rm:=hd t%8+8*m
  if c=15 then Iv wide r m (hd t) (t.drop 1)
  else if 184≤c∧c≤191 then ⟨1,32,c - 184+8*m,0,0,0,BE t,0⟩
  else if 112≤c∧c≤127 then ⟨29,8,0,0,0,0,gD (hd t),c - 112⟩
  else if c=235 then ⟨28,8,0,0,0,0,gD (hd t),0⟩
  else if c=233 then ⟨28,32,0,0,0,0,BE t,0⟩
  else if c=195 then ⟨30,0,0,0,0,0,0,0⟩
  else if c=139 then ⟨26,w,xc,0,rm,BE (Ej t),0,0⟩
  else if c=136 then ⟨27,8,0,xc,rm,BE (Ej t),0,0⟩
  else if c=137∧hd t<192 then ⟨27,if half then 16 else w,0,xc,rm,BE (Ej t),0,0⟩
  else if oZ c≠ -1 then ⟨oZ c,w,rm,xc,0,0,0,0⟩
  else
    let o:=Fh c (hd t / 8%8)
    if aA o=3 then ⟨o,w,rm,0,0,0,BE (t.drop 1),0⟩
    else if aA o=4 then ⟨o,w,rm,0,0,0,hd (t.drop 1),0⟩
    else ⟨o,w,rm,0,0,0,0,0⟩
def Q5 (half:Bool) (p:Bool×Int×Int×List Int):XS:=kg half p.1 p.2.1 p.2.2.1 (hd p.2.2.2) (p.2.2.2.drop 1)
def ju (l:List Int):XS:=if hd l=102 then Q5 true (GR (l.drop 1)) else Q5 false (GR l)
theorem EY {wide al:Bool} {r m c:Int} {t:List Int} (r0:0≤r) (r1:r≤15) (m0:0≤m) (m1:m≤15) (hc:¬(64≤c∧c≤79)):GR (bl wide r m al++c::t)=(wide,r / 8,m / 8,c::t):=by
 unfold bl
 split
 ·simp only [aag,aav,GR,cV]
  cases wide
  ·simp only [aaT,if_false]
   rw [if_pos (by omega)]
   refine Prod.ext ?_ (Prod.ext ?_ (Prod.ext ?_ rfl))<;>simp<;>omega
  ·simp only [if_true]
   rw [if_pos (by omega)]
   refine Prod.ext ?_ (Prod.ext ?_ (Prod.ext ?_ rfl))<;>simp<;>omega
 ·rename_i h
  simp only [bP,aax,bS,not_or,Bool.not_eq_true] at h
  simp only [aav,GR,if_neg hc]
  rw [h.1.1]
  refine Prod.ext rfl (Prod.ext ?_ (Prod.ext ?_ rfl))<;>simp<;>omega
theorem Da {wide al:Bool} {r m c:Int} {t:List Int} (r0:0≤r) (r1:r≤15) (m0:0≤m) (m1:m≤15) (hc:c≠102):hd (bl wide r m al++c::t)≠102:=by
 unfold bl
 split
 ·simp only [aag,hd,List.headD_cons,cV]
  cases wide<;>simp<;>omega
 ·simpa [hd] using hc
theorem hU {wide al:Bool} {r m c:Int} {t:List Int} (r0:0≤r) (r1:r≤15) (m0:0≤m) (m1:m≤15) (hc:¬(64≤c∧c≤79)) (h2:c≠102):ju (bl wide r m al++c::t)=kg false wide (r / 8) (m / 8) c t:=by
 unfold ju
 rw [if_neg (Da r0 r1 m0 m1 h2),EY r0 r1 m0 m1 hc]
 rfl
theorem Lu {wide al:Bool} {r m c:Int} {t:List Int} (r0:0≤r) (r1:r≤15) (m0:0≤m) (m1:m≤15) (hc:¬(64≤c∧c≤79)):ju (102::(bl wide r m al++c::t))=kg true wide (r / 8) (m / 8) c t:=by
 unfold ju
 rw [if_pos (show hd (102::(bl wide r m al++c::t))=102 from rfl),List.drop_one,List.tail_cons,EY r0 r1 m0 m1 hc]
 rfl
theorem lj {c:Int} {t:List Int} (hc:¬(64≤c∧c≤79)) (h2:c≠102):ju (c::t)=kg false false 0 0 c t:=by
 unfold ju
 rw [if_neg (by simpa [hd] using h2),GR,if_neg hc]
 rfl
theorem oQ {r m:Int} (r0:0≤r) (r1:r≤15) (m0:0≤m) (m1:m≤15):bk r m / 8%8+8*(r / 8)=r:=by unfold bk;omega
theorem lF {r m:Int} (r0:0≤r) (r1:r≤15) (m0:0≤m) (m1:m≤15):bk r m%8+8*(m / 8)=m:=by unfold bk;omega
theorem sv {r m:Int} (r0:0≤r) (r1:r≤7) (m0:0≤m) (m1:m≤15):bk r m / 8%8=r:=by unfold bk;omega
theorem ER {r m:Int} (r0:0≤r) (m0:0≤m):¬bk r m<192:=by unfold bk;omega
theorem j5 {r b af:Int} {t:List Int} :hd (bq r b af++t)=128+8*(r%8)+b%8:=by unfold bq;split<;>simp [hd]
theorem kD {r b af:Int} {t:List Int} :Ej (bq r b af++t)=aW af++t:=by
 unfold Ej
 rw [j5]
 unfold bq
 split<;>rename_i h<;>split<;>rename_i h2<;>first|(exfalso;omega)|simp
theorem fq {n:Int} {t:List Int} (h0: -2147483648≤n) (h1:n≤2147483647):BE (aW n++t)=n:=by
 simp only [aW,aag,BE]
 exact HQ h0 h1
theorem kC {r b:Int} (r0:0≤r) (r1:r≤15):(128+8*(r%8)+b%8) / 8%8+8*(r / 8)=r:=by omega
theorem mJ {r b:Int} (b0:0≤b) (b1:b≤15):(128+8*(r%8)+b%8)%8+8*(b / 8)=b:=by omega
theorem Pf {r b:Int} :128+8*(r%8)+b%8<192:=by omega
theorem xN:∀n:Fin 32,aA (n.val:Int)=1→oZ (ba (n.val:Int))=n.val:=by decide+kernel
theorem lK:∀n:Fin 32,aA (n.val:Int)=3∨aA (n.val:Int)=4∨aA (n.val:Int)=5→Fh (ba (n.val:Int)) (bI (n.val:Int))=n.val:=by decide+kernel
theorem nY:∀n:Fin 32,aA (n.val:Int)=1→(let c:=ba (n.val:Int);c≠15∧¬(64≤c∧c≤79)∧c≠102∧¬(184≤c∧c≤191)∧¬(112≤c∧c≤127)∧c≠235∧c≠233∧c≠195∧c≠139∧c≠136∧oZ c≠ -1):=by decide+kernel
theorem gJ:∀n:Fin 32,aA (n.val:Int)=3∨aA (n.val:Int)=4∨aA (n.val:Int)=5→(let c:=ba (n.val:Int);c≠15∧¬(64≤c∧c≤79)∧c≠102∧¬(184≤c∧c≤191)∧¬(112≤c∧c≤127)∧c≠235∧c≠233∧c≠195∧c≠139∧c≠136∧c≠137∧oZ c= -1∧0≤bI (n.val:Int)∧bI (n.val:Int)≤7):=by decide+kernel
theorem sH {op:Int} (h:aA op≠0):∃n:Fin 32,op=n.val:=by
 have:=gQ h
 exact ⟨⟨op.toNat,by omega⟩,by simp;omega⟩
theorem dW {w:Int} (h:bG w=true):w=32∨w=64:=by simpa [bG] using h
theorem iJ {w:Int} (h:bG w=true):(if decide (w=64)=true then 64 else 32)=w:=by rcases dW h with rfl|rfl<;>rfl
theorem qU:∀n:Fin 32,aA (n.val:Int)=6→(n.val:Int)=25:=by decide+kernel
theorem qT:∀n:Fin 32,aA (n.val:Int)=7→(n.val:Int)=26:=by decide+kernel
theorem qS:∀n:Fin 32,aA (n.val:Int)=8→(n.val:Int)=27:=by decide+kernel
theorem qR:∀n:Fin 32,aA (n.val:Int)=9→(n.val:Int)=28:=by decide+kernel
theorem oC:∀n:Fin 32,aA (n.val:Int)=10→(n.val:Int)=29:=by decide+kernel
theorem oB:∀n:Fin 32,aA (n.val:Int)=11→(n.val:Int)=30∨(n.val:Int)=31:=by decide+kernel
theorem eU {w:Int} (h:fS w=true):w=8∨w=16∨w=32∨w=64:=by simpa [fS] using h
theorem Bn {op w dst src base af aj cc:Int} (h:bC op w dst src base af aj cc=true) (t:List Int):ju (aD op w dst src base af aj cc++t)=⟨op,w,dst,src,base,af,aj,cc⟩:=by
 obtain ⟨⟨d0,d1,s0,s1,b0,b1,p0,p1,i0,i1⟩,hs⟩:=dw h
 have VO:aA op≠0:=by
  intro e
  rw [e] at hs
  simp [iy] at hs
 obtain ⟨k,rfl⟩:=sH VO
 unfold iy at hs
 split at hs
 ·rename_i Xa
  simp only [aae,bS] at hs
  obtain ⟨hw,rfl,rfl,rfl,rfl⟩:=hs
  have ew:=iJ hw
  rcases Xa with h1|h1
  ·
   obtain ⟨c1,c2,c3,c4,c5,c6,c7,c8,c9,T7,Uz⟩:=nY k h1
   have e:aD (k.val:Int) w dst src 0 0 0 0=bl (decide (w=64)) src dst false++ [ba (k.val:Int),bk src dst]:=by simp only [aD,h1,if_true]
   rw [e,aan,aag,aag,aav,hU s0 s1 d0 d1 c2 c3]
   simp only [kg,if_neg c1,if_neg c4,if_neg c5,if_neg c6,if_neg c7,if_neg c8,if_neg c9,if_neg T7]
   have g:hd (bk src dst::t)=bk src dst:=rfl
   rw [g,if_neg (by have:=ER (m:=dst) s0 d0;omega),if_pos Uz,xN k h1,oQ s0 s1 d0 d1,lF s0 s1 d0 d1,ew]
  ·
   have hk:(k.val:Int)=16:=by
    have:=gQ (op:=(k.val:Int)) (by omega)
    revert h1
    rcases this with e|e|e|e|e|e|e|e|e|e|e|e|e|e|e|e|e|e|e|e|e|e|e|e|e|e|e|e|e|e|e|e<;>rw [e]<;>decide
   rw [hk]
   have e:aD 16 w dst src 0 0 0 0=bl (decide (w=64)) dst src false++ [15,175,bk dst src]:=by
    simp only [aD,show aA 16=2 from rfl,show ba 16=175 from rfl,if_true,show ¬(2:Int)=1 by decide,if_false]
   rw [e,aan,aag,aag,aag,aav,hU d0 d1 s0 s1 (by decide) (by decide)]
   simp only [kg,if_true,Iv,hd,List.headD_cons,List.drop_succ_cons,aa0]
   rw [oQ d0 d1 s0 s1,lF d0 d1 s0 s1,ew]
 ·rename_i Xk
  have n1:¬aA (k.val:Int)=1:=fun e=>Xk (.inl e)
  have n2:¬aA (k.val:Int)=2:=fun e=>Xk (.inr e)
  split at hs
  ·
   rename_i h3
   simp only [aae,bS] at hs
   obtain ⟨hw,rfl,rfl,rfl,rfl⟩:=hs
   have ew:=iJ hw
   by_cases hm:(k.val:Int)=1∧w=32
   ·obtain ⟨hm,rfl⟩:=hm
    have e:aD (k.val:Int) 32 dst 0 0 0 aj 0=bl false 0 dst false++((184+dst%8)::aW aj):=by
     rw [hm]
     simp [aD,show aA 1=3 from rfl]
    rw [e,aan,aag,hU (by omega) (by omega) d0 d1 (by omega) (by omega)]
    have c1:¬184+dst%8=15:=by omega
    simp only [kg,if_neg c1]
    rw [if_pos (by omega),fq i0 i1,hm]
    congr 1
    omega
   ·obtain ⟨c1,c2,c3,c4,c5,c6,c7,c8,c9,T7,Uz,Uc,u0,u1⟩:=gJ k (.inl h3)
    have e:aD (k.val:Int) w dst 0 0 0 aj 0=bl (decide (w=64)) 0 dst false++(ba (k.val:Int)::bk (bI (k.val:Int)) dst::aW aj):=by
     simp only [aD,h3,if_neg hm,show ¬(3:Int)=1 by decide,show ¬(3:Int)=2 by decide,show ¬(3:Int)=6 by decide,if_false,if_true]
    rw [e,aan,aag,aag,hU (by omega) (by omega) d0 d1 c2 c3]
    simp only [kg,if_neg c1,if_neg c4,if_neg c5,if_neg c6,if_neg c7,if_neg c8,if_neg c9,if_neg T7]
    have g:hd (bk (bI (k.val:Int)) dst::(aW aj++t))=bk (bI (k.val:Int)) dst:=rfl
    rw [g,if_neg (by omega),if_neg (by simp [Uc]),sv u0 u1 d0 d1,lK k (.inl h3),if_pos h3,List.drop_one,List.tail_cons,fq i0 i1,lF u0 (by omega) d0 d1,ew]
  ·rename_i n3
   split at hs
   ·
    rename_i h4
    simp only [aae,bS] at hs
    obtain ⟨hw,rfl,rfl,rfl,rfl,j0,j1⟩:=hs
    have ew:=iJ hw
    have UY:=dW hw
    obtain ⟨c1,c2,c3,c4,c5,c6,c7,c8,c9,T7,Uz,Uc,u0,u1⟩:=gJ k (.inr (.inl h4))
    have e:aD (k.val:Int) w dst 0 0 0 aj 0=bl (decide (w=64)) 0 dst false++ [ba (k.val:Int),bk (bI (k.val:Int)) dst,aj%256]:=by
     simp only [aD,h4,show ¬(4:Int)=1 by decide,show ¬(4:Int)=2 by decide,show ¬(4:Int)=6 by decide,show ¬(4:Int)=3 by decide,if_false,if_true]
    rw [e,aan,aag,aag,aag,aav,hU (by omega) (by omega) d0 d1 c2 c3]
    simp only [kg,if_neg c1,if_neg c4,if_neg c5,if_neg c6,if_neg c7,if_neg c8,if_neg c9,if_neg T7]
    have g:hd (bk (bI (k.val:Int)) dst::aj%256::t)=bk (bI (k.val:Int)) dst:=rfl
    rw [g,if_neg (by omega),if_neg (by simp [Uc]),sv u0 u1 d0 d1,lK k (.inr (.inl h4)),if_neg (by omega),if_pos h4,List.drop_one,List.tail_cons,lF u0 (by omega) d0 d1,ew]
    have:hd (aj%256::t)=aj:=by simp only [hd,List.headD_cons];omega
    rw [this]
   ·rename_i n4
    split at hs
    ·
     rename_i h5
     simp only [aae,bS] at hs
     obtain ⟨hw,rfl,rfl,rfl,rfl,rfl⟩:=hs
     have ew:=iJ hw
     obtain ⟨c1,c2,c3,c4,c5,c6,c7,c8,c9,T7,Uz,Uc,u0,u1⟩:=gJ k (.inr (.inr h5))
     have e:aD (k.val:Int) w dst 0 0 0 0 0=bl (decide (w=64)) 0 dst false++ [ba (k.val:Int),bk (bI (k.val:Int)) dst]:=by
      simp only [aD,h5,show ¬(5:Int)=1 by decide,show ¬(5:Int)=2 by decide,show ¬(5:Int)=6 by decide,show ¬(5:Int)=3 by decide,show ¬(5:Int)=4 by decide,if_false,if_true]
     rw [e,aan,aag,aag,aav,hU (by omega) (by omega) d0 d1 c2 c3]
     simp only [kg,if_neg c1,if_neg c4,if_neg c5,if_neg c6,if_neg c7,if_neg c8,if_neg c9,if_neg T7]
     have g:hd (bk (bI (k.val:Int)) dst::t)=bk (bI (k.val:Int)) dst:=rfl
     rw [g,if_neg (by omega),if_neg (by simp [Uc]),sv u0 u1 d0 d1,lK k (.inr (.inr h5)),if_neg (by omega),if_neg (by omega),lF u0 (by omega) d0 d1,ew]
    ·rename_i n5
     split at hs
     ·
      rename_i h6
      have hk:=qU k h6
      rw [hk] at h6 ⊢
      simp only [aae,bS] at hs
      obtain ⟨⟨hw,rfl,rfl,rfl⟩,hc⟩:=hs
      have ew:=iJ hw
      simp only [kO,bS] at hc
      have e:aD 25 w dst src 0 0 0 cc=bl (decide (w=64)) dst src false++ [15,64+cc,bk dst src]:=by
       simp [aD,show aA 25=6 from rfl]
      rw [e,aan,aag,aag,aag,aav,hU d0 d1 s0 s1 (by decide) (by decide)]
      have c1:¬64+cc=175:=by omega
      have c2:64≤64+cc∧64+cc≤79:=by omega
      simp only [kg,if_true,Iv,hd,List.headD_cons,List.drop_succ_cons,aa0,if_neg c1,if_pos c2]
      rw [oQ d0 d1 s0 s1,lF d0 d1 s0 s1,ew]
      congr 1
      omega
     ·rename_i n6
      split at hs
      ·
       rename_i h7
       have hk:=qT k h7
       rw [hk] at h7 ⊢
       simp only [aae,bS] at hs
       obtain ⟨hw,rfl,rfl,rfl⟩:=hs
       have e:aD 26 w dst 0 base af 0 0=bl (decide (w=64)) dst base false++((if w=8 then [15,182] else if w=16 then [15,183] else [139])++bq dst base af):=by
        simp [aD,show aA 26=7 from rfl]
       rw [e]
       rcases eU hw with rfl|rfl|rfl|rfl
       ·rw [if_pos rfl,aan,aan,aag,hU d0 d1 b0 b1 (by decide) (by decide)]
        simp only [kg,if_true,Iv,aag,aav]
        have g:hd (182::(bq dst base af++t))=182:=rfl
        simp only [g,List.drop_one,List.tail_cons,j5,kD,fq p0 p1,kC d0 d1,mJ b0 b1]
        rfl
       ·rw [if_neg (by decide),if_pos rfl,aan,aan,aag,hU d0 d1 b0 b1 (by decide) (by decide)]
        simp only [kg,if_true,Iv,aag,aav]
        have g:hd (183::(bq dst base af++t))=183:=rfl
        simp only [g,List.drop_one,List.tail_cons,j5,kD,fq p0 p1,kC d0 d1,mJ b0 b1]
        rfl
       ·rw [if_neg (by decide),if_neg (by decide),aan,aan,aag,aav,hU d0 d1 b0 b1 (by decide) (by decide)]
        simp only [kg,j5,kD,fq p0 p1,kC d0 d1,mJ b0 b1]
        rfl
       ·rw [if_neg (by decide),if_neg (by decide),aan,aan,aag,aav,hU d0 d1 b0 b1 (by decide) (by decide)]
        simp only [kg,j5,kD,fq p0 p1,kC d0 d1,mJ b0 b1]
        rfl
      ·rename_i n7
       split at hs
       ·
        rename_i h8
        have hk:=qS k h8
        rw [hk] at h8 ⊢
        simp only [aae,bS] at hs
        obtain ⟨hw,rfl,rfl,rfl⟩:=hs
        have e:aD 27 w 0 src base af 0 0=(if w=16 then [102] else [])++(bl (decide (w=64)) src base (decide (w=8))++((if w=8 then [136] else [137])++bq src base af)):=by
         simp [aD,show aA 27=8 from rfl]
        rw [e]
        have ml:= @Pf src base
        rcases eU hw with rfl|rfl|rfl|rfl
        ·rw [if_neg (by decide),if_pos rfl,aav,aan,aan,aag,aav,hU s0 s1 b0 b1 (by decide) (by decide)]
         simp only [kg,j5,kD,fq p0 p1,kC s0 s1,mJ b0 b1]
         rfl
        ·rw [if_pos rfl,if_neg (by decide),aan,aan,aan,aag,aag,aav,aav,Lu s0 s1 b0 b1 (by decide)]
         simp only [kg,j5,kD,fq p0 p1,kC s0 s1,mJ b0 b1,ml,ey]
         rfl
        ·rw [if_neg (by decide),if_neg (by decide),aav,aan,aan,aag,aav,hU s0 s1 b0 b1 (by decide) (by decide)]
         simp only [kg,j5,kD,fq p0 p1,kC s0 s1,mJ b0 b1,ml,ey]
         rfl
        ·rw [if_neg (by decide),if_neg (by decide),aav,aan,aan,aag,aav,hU s0 s1 b0 b1 (by decide) (by decide)]
         simp only [kg,j5,kD,fq p0 p1,kC s0 s1,mJ b0 b1,ml,ey]
         rfl
       ·rename_i n8
        split at hs
        ·
         rename_i h9
         have hk:=qR k h9
         rw [hk] at h9 ⊢
         simp only [aae,bS,mb] at hs
         obtain ⟨hw,rfl,rfl,rfl,rfl,rfl⟩:=hs
         have e:aD 28 w 0 0 0 0 aj 0=if w=8 then [235,aj%256] else 233::aW aj:=by
          simp [aD,show aA 28=9 from rfl]
         rw [e]
         rcases hw with rfl|⟨rfl,j0,j1⟩
         ·rw [if_neg (by decide),aag,lj (by decide) (by decide)]
          simp only [kg,fq i0 i1]
          rfl
         ·rw [if_pos rfl,aag,lj (by decide) (by decide)]
          have g:hd ([aj%256]++t)=aj%256:=rfl
          simp only [kg,g,o6 j0 j1]
          rfl
        ·rename_i n9
         split at hs
         ·
          rename_i Vo
          have hk:=oC k Vo
          rw [hk] at Vo ⊢
          simp only [aae,bS,mb] at hs
          obtain ⟨⟨hw,rfl,rfl,rfl,rfl⟩,hc⟩:=hs
          simp only [kO,bS] at hc
          have e:aD 29 w 0 0 0 0 aj cc=if w=8 then [112+cc,aj%256] else 15::(128+cc)::aW aj:=by
           simp [aD,show aA 29=10 from rfl]
          rw [e]
          rcases hw with rfl|⟨rfl,j0,j1⟩
          ·rw [if_neg (by decide),aag,aag,lj (by decide) (by decide)]
           have g:hd ((128+cc)::(aW aj++t))=128+cc:=rfl
           simp only [kg,if_true,Iv,g,List.drop_one,List.tail_cons,fq i0 i1]
           rw [if_neg (by omega),if_neg (by omega),if_pos (by omega)]
           congr 1
           omega
          ·rw [if_pos rfl,aag,lj (by omega) (by omega)]
           have g:hd ([aj%256]++t)=aj%256:=rfl
           simp only [kg,g,o6 j0 j1]
           rw [if_neg (by omega),if_neg (by omega),if_pos (by omega)]
           congr 1
           omega
         ·rename_i ZR
          split at hs
          ·rename_i Wm
           simp only [bS] at hs
           obtain ⟨rfl,rfl,rfl,rfl,rfl,rfl,rfl⟩:=hs
           rcases oB k Wm with hk|hk<;>rw [hk]
           ·have e:aD 30 0 0 0 0 0 0 0= [195]:=rfl
            rw [e,aag,lj (by decide) (by decide)]
            rfl
           ·have e:aD 31 0 0 0 0 0 0 0= [15,5]:=rfl
            rw [e,aag,lj (by decide) (by decide)]
            rfl
          ·cases hs
theorem iC {d:Int} (h0:0≤d) (h1:d≤15):∃n:Fin 16,d=(n.val:Int):=⟨⟨d.toNat,by omega⟩,by simp;omega⟩
theorem Fo {r m:Int} (r0:0≤r) (r1:r≤15) (m0:0≤m) (m1:m≤15):(abz.i8.wrap ((Z8 8 (abz.i8.wrap ((Z8 8 r|||Z8 8 m).toNat:Int))&&&Z8 8 8).toNat:Int) !=0)=decide (8≤r∨8≤m):=by
 obtain ⟨n,rfl⟩:=iC r0 r1
 obtain ⟨k,rfl⟩:=iC m0 m1
 clear r0 r1 m0 m1
 revert n k
 decide+kernel
theorem hH {r:Int} (r0:0≤r) (r1:r≤15):cg r=true:=by simp [cg,r0,r1]
theorem JS {r m:Int} (r0:0≤r) (r1:r≤15) (m0:0≤m) (m1:m≤15):abz.u8.wrap ((Z8 8 (abz.u8.wrap ((Z8 8 64|||Z8 8 (4*(r / 8))).toNat:Int))|||Z8 8 (m / 8)).toNat:Int)=cV false r m:=by
 obtain ⟨n,rfl⟩:=iC r0 r1
 obtain ⟨k,rfl⟩:=iC m0 m1
 clear r0 r1 m0 m1
 revert n k
 decide+kernel
theorem JR {r m:Int} (r0:0≤r) (r1:r≤15) (m0:0≤m) (m1:m≤15):abz.u8.wrap ((Z8 8 (abz.u8.wrap ((Z8 8 (abz.u8.wrap ((Z8 8 64|||Z8 8 (4*(r / 8))).toNat:Int))|||Z8 8 (m / 8)).toNat:Int))|||Z8 8 8).toNat:Int)=cV true r m:=by
 obtain ⟨n,rfl⟩:=iC r0 r1
 obtain ⟨k,rfl⟩:=iC m0 m1
 clear r0 r1 m0 m1
 revert n k
 decide+kernel
theorem gv (a:Int):((Z8 8 a&&&Z8 8 7).toNat:Int)=a%8:=by have:=and_ones 8 3 (by omega) a;exact this
theorem NM {b:Int} (h:decide (b%8=4)=true):(abz.i8.wrap ((Z8 8 b&&&Z8 8 7).toNat:Int)==4)=true:=by
 rw [gv,dk];simp at h ⊢;omega
theorem NN {b:Int} (h:decide (b%8=4)=false):(abz.i8.wrap ((Z8 8 b&&&Z8 8 7).toNat:Int)==4)=false:=by
 rw [gv,dk];simp at h ⊢;omega
theorem SU (a:Int):a.fdiv 1=a:=by rw [aaL _ (by decide)];omega
theorem N6 (a:Int):a.fdiv 256=a / 256:=aaL _ (by decide)
theorem FG (a:Int):a.fdiv 65536=a / 65536:=aaL _ (by decide)
theorem tq (a:Int):a.fdiv 16777216=a / 16777216:=aaL _ (by decide)
theorem oY {r:Int} (r0:0≤r) (r1:r≤15):abz.u8.wrap ((Z8 8 184|||Z8 8 (abz.u8.wrap (abz.i8.wrap ((Z8 8 r&&&Z8 8 7).toNat:Int)))).toNat:Int)=184+r%8:=by
 obtain ⟨n,rfl⟩:=iC r0 r1
 clear r0 r1
 revert n
 decide+kernel
theorem aV (a b:Int):(a==b)=decide (a=b):=by
 rw [Bool.eq_iff_iff];simp
def ck (op w dst src base af aj cc:Int):Int:=((lU op w dst src base af aj cc).length:Nat)
theorem tE:∀n:Fin 32,(0≤ba (n.val:Int)∧ba (n.val:Int)≤255)∧0≤bI (n.val:Int)∧bI (n.val:Int)≤7:=by decide+kernel
theorem D7 {op:Int} (h:aA op≠0):(0≤ba op∧ba op≤255)∧0≤bI op∧bI op≤7:=by
 obtain ⟨n,rfl⟩:=sH h
 exact tE n
theorem Fv {sh w dst src base af aj cc:Int} (hs:iy sh w dst src base af aj cc=true):0≤cc∧cc≤15:=by
 unfold iy at hs
 repeat' split at hs
 all_goals first|(cases hs;done)|(simp only [kO,aae,bS] at hs;omega)
def kT (l:List Int):Prop:= ∀b∈l,0≤b∧b≤255
theorem kT.nil:kT []:=by intro b hb;cases hb
theorem kT.cons {x:Int} {l:List Int} (h0:0≤x) (h1:x≤255) (h:kT l):kT (x::l):=by
 intro b hb
 rcases List.mem_cons.1 hb with e|hb
 ·subst e;exact ⟨h0,h1⟩
 ·exact h b hb
theorem kT.app {a b:List Int} (h:kT a) (k:kT b):kT (a++b):=fun x hx=>(List.mem_append.1 hx).elim (h x) (k x)
theorem kT.ite {c:Prop} [Decidable c] {a b:List Int} (h:c→kT a) (k:¬c→kT b):kT (if c then a else b):=by
 split
 ·exact h ‹_›
 ·exact k ‹_›
theorem kT.four (n:Int):kT (aW n):=by
 unfold aW
 exact .cons (by omega) (by omega) (.cons (by omega) (by omega) (.cons (by omega) (by omega) (.cons (by omega) (by omega) .nil)))
theorem kT.Cp {wd al:Bool} {r m:Int} (h1:0≤r) (h2:r≤15) (h3:0≤m) (h4:m≤15):kT (bl wd r m al):=by
 unfold bl
 refine .ite (fun _=> ?_) (fun _=> .nil)
 unfold cV
 cases wd
 ·exact .cons (by simp;omega) (by simp;omega) .nil
 ·exact .cons (by simp;omega) (by simp;omega) .nil
theorem su (r m:Int):0≤bk r m∧bk r m≤255:=by unfold bk;omega
theorem kT.mem (r b n:Int):kT (bq r b n):=by
 unfold bq
 exact .ite (fun _=> .cons (by omega) (by omega) (.cons (by omega) (by omega) (.four n))) (fun _=> .cons (by omega) (by omega) (.four n))
theorem yD {op w dst src base af aj cc:Int} (h:bC op w dst src base af aj cc=true):kT (aD op w dst src base af aj cc):=by
 obtain ⟨⟨d0,d1,s0,s1,b0,b1,p0,p1,i0,i1⟩,hs⟩:=dw h
 have VO:aA op≠0:=by
  intro e
  rw [e] at hs
  simp [iy] at hs
 obtain ⟨⟨c0,c1⟩,n0,n1⟩:=D7 VO
 obtain ⟨k0,k1⟩:=Fv hs
 have rg:=fun r m=>(su r m).1
 have XN:=fun r m=>(su r m).2
 unfold aD
 refine .ite (fun _=> .app (.Cp s0 s1 d0 d1) (.cons c0 c1 (.cons (rg _ _) (XN _ _) .nil))) fun _=> ?_
 refine .ite (fun _=> .app (.Cp d0 d1 s0 s1) (.cons (by omega) (by omega) (.cons c0 c1 (.cons (rg _ _) (XN _ _) .nil)))) fun _=> ?_
 refine .ite (fun _=> .app (.Cp d0 d1 s0 s1) (.cons (by omega) (by omega) (.cons (by omega) (by omega) (.cons (rg _ _) (XN _ _) .nil)))) fun _=> ?_
 refine .ite (fun _=> .ite (fun _=> .app (.Cp (by omega) (by omega) d0 d1) (.cons (by omega) (by omega) (.four _))) (fun _=> .app (.Cp (by omega) (by omega) d0 d1) (.cons c0 c1 (.cons (rg _ _) (XN _ _) (.four _))))) fun _=> ?_
 refine .ite (fun _=> .app (.Cp (by omega) (by omega) d0 d1) (.cons c0 c1 (.cons (rg _ _) (XN _ _) (.cons (by omega) (by omega) .nil)))) fun _=> ?_
 refine .ite (fun _=> .app (.Cp (by omega) (by omega) d0 d1) (.cons c0 c1 (.cons (rg _ _) (XN _ _) .nil))) fun _=> ?_
 refine .ite (fun _=> .app (.Cp d0 d1 b0 b1) (.app (.ite (fun _=> .cons (by omega) (by omega) (.cons (by omega) (by omega) .nil)) fun _=> .ite (fun _=> .cons (by omega) (by omega) (.cons (by omega) (by omega) .nil)) fun _=> .cons (by omega) (by omega) .nil) (.mem _ _ _))) fun _=> ?_
 refine .ite (fun _=> .app (.ite (fun _=> .cons (by omega) (by omega) .nil) fun _=> .nil) (.app (.Cp s0 s1 b0 b1) (.app (.ite (fun _=> .cons (by omega) (by omega) .nil) fun _=> .cons (by omega) (by omega) .nil) (.mem _ _ _)))) fun _=> ?_
 refine .ite (fun _=> .ite (fun _=> .cons (by omega) (by omega) (.cons (by omega) (by omega) .nil)) fun _=> .cons (by omega) (by omega) (.four _)) fun _=> ?_
 refine .ite (fun _=> .ite (fun _=> .cons (by omega) (by omega) (.cons (by omega) (by omega) .nil)) fun _=> .cons (by omega) (by omega) (.cons (by omega) (by omega) (.four _))) fun _=> ?_
 exact .ite (fun _=> .cons (by omega) (by omega) (.cons (by omega) (by omega) .nil)) fun _=> .cons (by omega) (by omega) .nil
theorem LL:∀ {a b:List Int},(∀x∈a,0≤x∧x≤255)→(∀x∈b,0≤x∧x≤255)→(gC (bD a)).toList=(gC (bD b)).toList→a=b:=by
 intro a b ha hb h
 have e:∀l:List Int,(gC (bD l)).toList=l.map fun n=>UInt8.ofNat n.toNat:=by
  intro l
  unfold gC
  rw [ByteArray.toList_eq]
  simp [bD,byteOf,Function.comp_def]
 rw [e,e] at h
 clear e
 induction a generalizing b with
 |nil=>cases b with
  |nil=>rfl
  |cons y b=>simp at h
 |cons x a ih=>cases b with
  |nil=>simp at h
  |cons y b=>
   simp only [List.map_cons,List.cons.injEq] at h
   have h1:=ha x (by simp)
   have h2:=hb y (by simp)
   have:x=y:=by
    have:=congrArg UInt8.toNat h.1
    simp at this
    omega
   rw [this,ih (fun z hz=>ha z (by simp [hz])) (fun z hz=>hb z (by simp [hz])) h.2]
structure aJ where
  w:Int
  eO:Bool
  code:Int
  r:Int
  m:Int
  af:Int
  aj:Int
  small:Int
  gk:Int
  gY:Int
  high:Int
def tW (b:List Int) (i:Nat):Int:=b.getD i 0
def EB (b:List Int) (i:Nat):Int:=if b.length<i+4 then 0 else BE (b.drop i)
def kJ (b:List Int):Nat:=
  match b with
  | []=>0
  |a::t=>
    if a / 64=3 then 1
    else if a / 64=2 then
      if a%8=4 then (if 5≤t.length∧hd t=36 then 6 else 0) else (if 4≤t.length then 5 else 0)
    else 0
def u6 (b:List Int):Int:=if kJ b=0 then 0 else hd b / 8%8
def u9 (b:List Int):Int:=if kJ b=0 then 0 else hd b%8
def Hb (b:List Int):Int:=if kJ b≤1 then 0 else BE (b.drop (kJ b - 4))
def uv (b:List Int):Int:=if kJ b=0 then 30 else 0
def dz (w WD high:Int) (eO:Bool) (code:Int) (v:List Int):aJ:=
  ⟨w,eO,code,u6 v+WD,u9 v+high,Hb v,EB v (kJ v),tW v (kJ v),EB v 0,gD (tW v 0),high⟩
def hP (w WD high:Int):List Int→Option aJ
  | []=>none
  |c::v=>if c=15 then (match v with| []=>some (dz w WD high false 15 [])|d::z=>some (dz w WD high true d z)) else some (dz w WD high false c v)
def mg (h:Int):Bool:=decide (h / 16=4∧h / 2%2=0)
def gX (w:Int):List Int→Option aJ
  | []=>none
  |h::u=>if mg h then hP (if h / 8%2=1 then 64 else w) (h / 4%2*8) (h%2*8) u else hP w 0 0 (h::u)
def mh (b:List Int):Option aJ:=if hd b=102 then gX 16 (b.drop 1) else gX 32 b
def mR (s:aJ) (op sh:Int):XS:=
  if sh=1 then ⟨op,s.w,s.m,s.r,0,0,0,0⟩
  else if sh=2 then ⟨op,s.w,s.r,s.m,0,0,0,0⟩
  else if sh=3 then (if op=1∧184≤s.code∧s.code<192 then ⟨op,s.w,s.code%8+s.high,0,0,0,s.gk,0⟩ else ⟨op,s.w,s.m,0,0,0,s.aj,0⟩)
  else if sh=4 then ⟨op,s.w,s.m,0,0,0,s.small,0⟩
  else if sh=5 then ⟨op,s.w,s.m,0,0,0,0,0⟩
  else if sh=6 then ⟨op,s.w,s.r,s.m,0,0,0,gD (s.code - ba op)⟩
  else if sh=7 then ⟨op,if s.eO then (if s.code%2=1 then 16 else 8) else s.w,s.r,0,s.m,s.af,0,0⟩
  else if sh=8 then ⟨op,if s.code=136 then 8 else s.w,0,s.r,s.m,s.af,0,0⟩
  else if sh=9∨sh=10 then
    (if s.eO=false∧s.code≠233 then ⟨op,8,0,0,0,0,s.gY,if sh=10 then s.code%16 else 0⟩ else ⟨op,32,0,0,0,0,s.gk,if sh=10 then s.code%16 else 0⟩)
  else if sh=11 then ⟨op,0,0,0,0,0,0,0⟩
  else ⟨op,s.w,0,0,0,0,0,0⟩
def fK (s:aJ) (op:Int):XS:=mR s op (aA op)
theorem sG {wide al:Bool} {r m c w:Int} {t:List Int} (r0:0≤r) (r1:r≤15) (m0:0≤m) (m1:m≤15) (hc:¬(64≤c∧c≤79)):gX w (bl wide r m al++c::t)=hP (if wide then 64 else w) (8*(r / 8)) (8*(m / 8)) (c::t):=by
 unfold bl
 split
 ·simp only [aag,aav,gX]
  have hq:mg (cV wide r m)=true:=by
   simp only [mg,cV,bS]
   cases wide<;>simp<;>omega
  rw [if_pos hq]
  have h1:cV wide r m / 4%2*8=8*(r / 8):=by simp only [cV];cases wide<;>simp<;>omega
  have h2:cV wide r m%2*8=8*(m / 8):=by simp only [cV];cases wide<;>simp<;>omega
  have h3:(if cV wide r m / 8%2=1 then (64:Int) else w)=if wide then 64 else w:=by
   have h4:cV wide r m / 8%2=if wide then 1 else 0:=by simp only [cV];cases wide<;>simp<;>omega
   rw [h4]
   cases wide<;>simp
  rw [h1,h2,h3]
 ·rename_i h
  simp only [bP,aax,bS,not_or,Bool.not_eq_true] at h
  have hq:¬mg c=true:=by simp only [mg,bS];omega
  have h1:r / 8=0:=by omega
  have h2:m / 8=0:=by omega
  simp only [aav,gX,if_neg hq,h1,h2,h.1.1]
  simp
theorem hJ {wide al:Bool} {r m c:Int} {t:List Int} (r0:0≤r) (r1:r≤15) (m0:0≤m) (m1:m≤15) (hc:¬(64≤c∧c≤79)) (h2:c≠102):mh (bl wide r m al++c::t)=hP (if wide then 64 else 32) (8*(r / 8)) (8*(m / 8)) (c::t):=by
 unfold mh
 rw [if_neg (Da r0 r1 m0 m1 h2),sG r0 r1 m0 m1 hc]
theorem Kk {wide al:Bool} {r m c:Int} {t:List Int} (r0:0≤r) (r1:r≤15) (m0:0≤m) (m1:m≤15) (hc:¬(64≤c∧c≤79)):mh (102::(bl wide r m al++c::t))=hP (if wide then 64 else 16) (8*(r / 8)) (8*(m / 8)) (c::t):=by
 unfold mh
 rw [if_pos (show hd (102::(bl wide r m al++c::t))=102 from rfl),List.drop_one,List.tail_cons,sG r0 r1 m0 m1 hc]
theorem lb {c:Int} {t:List Int} (hc:¬(64≤c∧c≤79)) (h2:c≠102):mh (c::t)=hP 32 0 0 (c::t):=by
 unfold mh
 have hq:¬mg c=true:=by simp only [mg,bS];omega
 rw [if_neg (by simpa [hd] using h2)]
 simp only [gX,if_neg hq]
theorem eo {w R M c:Int} {v:List Int} (hc:c≠15):hP w R M (c::v)=some (dz w R M false c v):=by
 simp only [hP,if_neg hc]
theorem iK {w R M d:Int} {z:List Int} :hP w R M (15::d::z)=some (dz w R M true d z):=rfl
theorem rh {r m:Int} {t:List Int} (r0:0≤r) (m0:0≤m):kJ (bk r m::t)=1:=by
 simp only [kJ]
 rw [if_pos (by simp only [bk];omega)]
theorem xY {r m:Int} {t:List Int} (r0:0≤r) (m0:0≤m):u6 (bk r m::t)=r%8:=by
 simp only [u6,rh r0 m0]
 rw [if_neg (by decide)]
 simp only [hd,List.headD_cons,bk]
 omega
theorem nk {r m:Int} {t:List Int} (r0:0≤r) (m0:0≤m):u9 (bk r m::t)=m%8:=by
 simp only [u9,rh r0 m0]
 rw [if_neg (by decide)]
 simp only [hd,List.headD_cons,bk]
 omega
theorem xZ {r b af:Int} {t:List Int} :kJ (bq r b af++t)=if b%8=4 then 6 else 5:=by
 unfold bq
 split
 ·rename_i h
  simp only [aag,kJ]
  rw [if_neg (by omega),if_pos (by omega),if_pos (by omega),if_pos (by simp [aW,hd])]
 ·rename_i h
  simp only [aag,kJ]
  rw [if_neg (by omega),if_pos (by omega),if_neg (by omega),if_pos (by simp [aW])]
theorem Fp {r b af:Int} {t:List Int} :u6 (bq r b af++t)=r%8:=by
 simp only [u6,xZ,j5]
 rw [if_neg (by split<;>decide)]
 omega
theorem Fs {r b af:Int} {t:List Int} :u9 (bq r b af++t)=b%8:=by
 simp only [u9,xZ,j5]
 rw [if_neg (by split<;>decide)]
 omega
theorem Fq {r b af:Int} {t:List Int} (h0: -2147483648≤af) (h1:af≤2147483647):Hb (bq r b af++t)=af:=by
 simp only [Hb,xZ]
 rw [if_neg (by split<;>decide)]
 unfold bq
 split
 ·simp only [aag,List.drop_succ_cons,aa0]
  exact fq h0 h1
 ·simp only [aag,List.drop_succ_cons,aa0]
  exact fq h0 h1
theorem wg {n:Int} {t:List Int} (h0: -2147483648≤n) (h1:n≤2147483647):EB (aW n++t) 0=n:=by
 simp only [EB,aa0]
 rw [if_neg (by simp [aW]),fq h0 h1]
theorem Ja {x n:Int} {t:List Int} (h0: -2147483648≤n) (h1:n≤2147483647):EB (x::(aW n++t)) 1=n:=by
 simp only [EB,List.drop_succ_cons,aa0]
 rw [if_neg (by simp [aW]),fq h0 h1]
theorem HC {r:Int} (r0:0≤r) (r1:r≤15):r%8+8*(r / 8)=r:=by omega
theorem Kl {op w dst src base af aj cc:Int} (h:bC op w dst src base af aj cc=true) (t:List Int):∃s,mh (aD op w dst src base af aj cc++t)=some s∧fK s op=⟨op,w,dst,src,base,af,aj,cc⟩:=by
 obtain ⟨⟨d0,d1,s0,s1,b0,b1,p0,p1,i0,i1⟩,hs⟩:=dw h
 have VO:aA op≠0:=by
  intro e
  rw [e] at hs
  simp [iy] at hs
 obtain ⟨k,rfl⟩:=sH VO
 unfold iy at hs
 split at hs
 ·rename_i Xa
  simp only [aae,bS] at hs
  obtain ⟨hw,rfl,rfl,rfl,rfl⟩:=hs
  have ew:=iJ hw
  rcases Xa with h1|h1
  ·
   obtain ⟨c1,c2,c3,c4,c5,c6,c7,c8,c9,T7,Uz⟩:=nY k h1
   have e:aD (k.val:Int) w dst src 0 0 0 0=bl (decide (w=64)) src dst false++ [ba (k.val:Int),bk src dst]:=by simp only [aD,h1,if_true]
   rw [e,aan,aag,aag,aav,hJ s0 s1 d0 d1 c2 c3,eo c1]
   refine ⟨_,rfl,?_⟩
   simp only [fK,h1,mR,if_true,dz,xY s0 d0,nk s0 d0,HC s0 s1,HC d0 d1,ew]
  ·
   have hk:(k.val:Int)=16:=by
    have:=gQ (op:=(k.val:Int)) (by omega)
    revert h1
    rcases this with e|e|e|e|e|e|e|e|e|e|e|e|e|e|e|e|e|e|e|e|e|e|e|e|e|e|e|e|e|e|e|e<;>rw [e]<;>decide
   rw [hk]
   have e:aD 16 w dst src 0 0 0 0=bl (decide (w=64)) dst src false++ [15,175,bk dst src]:=by
    simp only [aD,show aA 16=2 from rfl,show ba 16=175 from rfl,if_true,show ¬(2:Int)=1 by decide,if_false]
   rw [e,aan,aag,aag,aag,aav,hJ d0 d1 s0 s1 (by decide) (by decide),iK]
   refine ⟨_,rfl,?_⟩
   simp only [fK,show aA 16=2 from rfl,mR,if_true,show ¬(2:Int)=1 by decide,if_false,dz,xY d0 s0,nk d0 s0,HC s0 s1,HC d0 d1,ew]
 ·rename_i Xk
  have n1:¬aA (k.val:Int)=1:=fun e=>Xk (.inl e)
  have n2:¬aA (k.val:Int)=2:=fun e=>Xk (.inr e)
  split at hs
  ·
   rename_i h3
   simp only [aae,bS] at hs
   obtain ⟨hw,rfl,rfl,rfl,rfl⟩:=hs
   have ew:=iJ hw
   by_cases hm:(k.val:Int)=1∧w=32
   ·obtain ⟨hm,rfl⟩:=hm
    have e:aD (k.val:Int) 32 dst 0 0 0 aj 0=bl false 0 dst false++((184+dst%8)::aW aj):=by
     rw [hm]
     simp [aD,show aA 1=3 from rfl]
    rw [e,aan,aag,hJ (by omega) (by omega) d0 d1 (by omega) (by omega),eo (by omega)]
    refine ⟨_,rfl,?_⟩
    rw [hm]
    simp only [fK,show aA 1=3 from rfl,mR,show ¬(3:Int)=1 by decide,show ¬(3:Int)=2 by decide,if_false,if_true,dz,wg i0 i1,fm,aaT]
    rw [if_pos (by omega)]
    congr 1
    omega
   ·obtain ⟨c1,c2,c3,c4,c5,c6,c7,c8,c9,T7,Uz,Uc,u0,u1⟩:=gJ k (.inl h3)
    have e:aD (k.val:Int) w dst 0 0 0 aj 0=bl (decide (w=64)) 0 dst false++(ba (k.val:Int)::bk (bI (k.val:Int)) dst::aW aj):=by
     simp only [aD,h3,if_neg hm,show ¬(3:Int)=1 by decide,show ¬(3:Int)=2 by decide,show ¬(3:Int)=6 by decide,if_false,if_true]
    rw [e,aan,aag,aag,hJ (by omega) (by omega) d0 d1 c2 c3,eo c1]
    refine ⟨_,rfl,?_⟩
    have c4':¬((k.val:Int)=1∧184≤ba (k.val:Int)∧ba (k.val:Int)<192):=by omega
    simp only [fK,h3,mR,show ¬(3:Int)=1 by decide,show ¬(3:Int)=2 by decide,if_false,if_true,dz,if_neg c4',rh u0 d0,nk u0 d0,Ja i0 i1,HC d0 d1,ew]
  ·rename_i n3
   split at hs
   ·
    rename_i h4
    simp only [aae,bS] at hs
    obtain ⟨hw,rfl,rfl,rfl,rfl,j0,j1⟩:=hs
    have ew:=iJ hw
    have UY:=dW hw
    obtain ⟨c1,c2,c3,c4,c5,c6,c7,c8,c9,T7,Uz,Uc,u0,u1⟩:=gJ k (.inr (.inl h4))
    have e:aD (k.val:Int) w dst 0 0 0 aj 0=bl (decide (w=64)) 0 dst false++ [ba (k.val:Int),bk (bI (k.val:Int)) dst,aj%256]:=by
     simp only [aD,h4,show ¬(4:Int)=1 by decide,show ¬(4:Int)=2 by decide,show ¬(4:Int)=6 by decide,show ¬(4:Int)=3 by decide,if_false,if_true]
    rw [e,aan,aag,aag,aag,aav,hJ (by omega) (by omega) d0 d1 c2 c3,eo c1]
    refine ⟨_,rfl,?_⟩
    have g:tW (bk (bI (k.val:Int)) dst::aj%256::t) 1=aj:=by
     show aj%256=aj
     omega
    simp only [fK,h4,mR,show ¬(4:Int)=1 by decide,show ¬(4:Int)=2 by decide,show ¬(4:Int)=3 by decide,if_false,if_true,dz,rh u0 d0,nk u0 d0,g,HC d0 d1,ew]
   ·rename_i n4
    split at hs
    ·
     rename_i h5
     simp only [aae,bS] at hs
     obtain ⟨hw,rfl,rfl,rfl,rfl,rfl⟩:=hs
     have ew:=iJ hw
     obtain ⟨c1,c2,c3,c4,c5,c6,c7,c8,c9,T7,Uz,Uc,u0,u1⟩:=gJ k (.inr (.inr h5))
     have e:aD (k.val:Int) w dst 0 0 0 0 0=bl (decide (w=64)) 0 dst false++ [ba (k.val:Int),bk (bI (k.val:Int)) dst]:=by
      simp only [aD,h5,show ¬(5:Int)=1 by decide,show ¬(5:Int)=2 by decide,show ¬(5:Int)=6 by decide,show ¬(5:Int)=3 by decide,show ¬(5:Int)=4 by decide,if_false,if_true]
     rw [e,aan,aag,aag,aav,hJ (by omega) (by omega) d0 d1 c2 c3,eo c1]
     refine ⟨_,rfl,?_⟩
     simp only [fK,h5,mR,show ¬(5:Int)=1 by decide,show ¬(5:Int)=2 by decide,show ¬(5:Int)=3 by decide,show ¬(5:Int)=4 by decide,if_false,if_true,dz,nk u0 d0,HC d0 d1,ew]
    ·rename_i n5
     split at hs
     ·
      rename_i h6
      have hk:=qU k h6
      rw [hk] at h6 ⊢
      simp only [aae,bS] at hs
      obtain ⟨⟨hw,rfl,rfl,rfl⟩,hc⟩:=hs
      have ew:=iJ hw
      simp only [kO,bS] at hc
      have e:aD 25 w dst src 0 0 0 cc=bl (decide (w=64)) dst src false++ [15,64+cc,bk dst src]:=by
       simp [aD,show aA 25=6 from rfl]
      rw [e,aan,aag,aag,aag,aav,hJ d0 d1 s0 s1 (by decide) (by decide),iK]
      refine ⟨_,rfl,?_⟩
      have g:gD (64+cc - ba 25)=cc:=by
       show gD (64+cc - 64)=cc
       simp only [gD]
       omega
      simp only [fK,show aA 25=6 from rfl,mR,show ¬(6:Int)=1 by decide,show ¬(6:Int)=2 by decide,show ¬(6:Int)=3 by decide,show ¬(6:Int)=4 by decide,show ¬(6:Int)=5 by decide,if_false,if_true,dz,xY d0 s0,nk d0 s0,g,HC s0 s1,HC d0 d1,ew]
     ·rename_i n6
      split at hs
      ·
       rename_i h7
       have hk:=qT k h7
       rw [hk] at h7 ⊢
       simp only [aae,bS] at hs
       obtain ⟨hw,rfl,rfl,rfl⟩:=hs
       have e:aD 26 w dst 0 base af 0 0=bl (decide (w=64)) dst base false++((if w=8 then [15,182] else if w=16 then [15,183] else [139])++bq dst base af):=by
        simp [aD,show aA 26=7 from rfl]
       rw [e]
       have W5:∀(lw R:Int) (eO:Bool) (code:Int),(if eO then (if code%2=1 then (16:Int) else 8) else R)=lw→fK (dz R (8*(dst / 8)) (8*(base / 8)) eO code (bq dst base af++t)) 26=⟨26,lw,dst,0,base,af,0,0⟩:=by
        intro lw R eO code hl
        simp only [fK,show aA 26=7 from rfl,mR,show ¬(7:Int)=1 by decide,show ¬(7:Int)=2 by decide,show ¬(7:Int)=3 by decide,show ¬(7:Int)=4 by decide,show ¬(7:Int)=5 by decide,show ¬(7:Int)=6 by decide,if_false,if_true,dz,Fp,Fs,Fq p0 p1,HC d0 d1,HC b0 b1,hl]
       rcases eU hw with rfl|rfl|rfl|rfl
       ·rw [if_pos rfl,aan,aan,aag,hJ d0 d1 b0 b1 (by decide) (by decide),aag,aav,iK]
        exact ⟨_,rfl,W5 _ _ _ _ (by decide)⟩
       ·rw [if_neg (by decide),if_pos rfl,aan,aan,aag,hJ d0 d1 b0 b1 (by decide) (by decide),aag,aav,iK]
        exact ⟨_,rfl,W5 _ _ _ _ (by decide)⟩
       ·rw [if_neg (by decide),if_neg (by decide),aan,aan,aag,aav,hJ d0 d1 b0 b1 (by decide) (by decide),eo (by decide)]
        exact ⟨_,rfl,W5 _ _ _ _ (by decide)⟩
       ·rw [if_neg (by decide),if_neg (by decide),aan,aan,aag,aav,hJ d0 d1 b0 b1 (by decide) (by decide),eo (by decide)]
        exact ⟨_,rfl,W5 _ _ _ _ (by decide)⟩
      ·rename_i n7
       split at hs
       ·
        rename_i h8
        have hk:=qS k h8
        rw [hk] at h8 ⊢
        simp only [aae,bS] at hs
        obtain ⟨hw,rfl,rfl,rfl⟩:=hs
        have e:aD 27 w 0 src base af 0 0=(if w=16 then [102] else [])++(bl (decide (w=64)) src base (decide (w=8))++((if w=8 then [136] else [137])++bq src base af)):=by
         simp [aD,show aA 27=8 from rfl]
        rw [e]
        have HY:∀(lw R:Int) (code:Int),(if code=136 then (8:Int) else R)=lw→fK (dz R (8*(src / 8)) (8*(base / 8)) false code (bq src base af++t)) 27=⟨27,lw,0,src,base,af,0,0⟩:=by
         intro lw R code hl
         simp only [fK,show aA 27=8 from rfl,mR,show ¬(8:Int)=1 by decide,show ¬(8:Int)=2 by decide,show ¬(8:Int)=3 by decide,show ¬(8:Int)=4 by decide,show ¬(8:Int)=5 by decide,show ¬(8:Int)=6 by decide,show ¬(8:Int)=7 by decide,if_false,if_true,dz,Fp,Fs,Fq p0 p1,HC s0 s1,HC b0 b1,hl]
        rcases eU hw with rfl|rfl|rfl|rfl
        ·rw [if_neg (by decide),if_pos rfl,aav,aan,aan,aag,aav,hJ s0 s1 b0 b1 (by decide) (by decide),eo (by decide)]
         exact ⟨_,rfl,HY _ _ _ (by decide)⟩
        ·rw [if_pos rfl,if_neg (by decide),aan,aan,aan,aag,aag,aav,aav,Kk s0 s1 b0 b1 (by decide),eo (by decide)]
         exact ⟨_,rfl,HY _ _ _ (by decide)⟩
        ·rw [if_neg (by decide),if_neg (by decide),aav,aan,aan,aag,aav,hJ s0 s1 b0 b1 (by decide) (by decide),eo (by decide)]
         exact ⟨_,rfl,HY _ _ _ (by decide)⟩
        ·rw [if_neg (by decide),if_neg (by decide),aav,aan,aan,aag,aav,hJ s0 s1 b0 b1 (by decide) (by decide),eo (by decide)]
         exact ⟨_,rfl,HY _ _ _ (by decide)⟩
       ·rename_i n8
        have k1:∀ {n:Int},9≤n→¬n=1:=fun h=>by omega
        split at hs
        ·
         rename_i h9
         have hk:=qR k h9
         rw [hk] at h9 ⊢
         simp only [aae,bS,mb] at hs
         obtain ⟨hw,rfl,rfl,rfl,rfl,rfl⟩:=hs
         have e:aD 28 w 0 0 0 0 aj 0=if w=8 then [235,aj%256] else 233::aW aj:=by
          simp [aD,show aA 28=9 from rfl]
         rw [e]
         rcases hw with rfl|⟨rfl,j0,j1⟩
         ·rw [if_neg (by decide),aag,lb (by decide) (by decide),eo (by decide)]
          refine ⟨_,rfl,?_⟩
          simp [fK,show aA 28=9 from rfl,mR,dz,wg i0 i1]
         ·rw [if_pos rfl,aag,lb (by decide) (by decide),eo (by decide)]
          refine ⟨_,rfl,?_⟩
          have g:gD (tW ([aj%256]++t) 0)=aj:=o6 j0 j1
          simp [fK,show aA 28=9 from rfl,mR,dz]
          exact g
        ·rename_i n9
         split at hs
         ·
          rename_i Vo
          have hk:=oC k Vo
          rw [hk] at Vo ⊢
          simp only [aae,bS,mb] at hs
          obtain ⟨⟨hw,rfl,rfl,rfl,rfl⟩,hc⟩:=hs
          simp only [kO,bS] at hc
          have e:aD 29 w 0 0 0 0 aj cc=if w=8 then [112+cc,aj%256] else 15::(128+cc)::aW aj:=by
           simp [aD,show aA 29=10 from rfl]
          rw [e]
          rcases hw with rfl|⟨rfl,j0,j1⟩
          ·rw [if_neg (by decide),aag,aag,lb (by decide) (by decide),iK]
           refine ⟨_,rfl,?_⟩
           simp [fK,show aA 29=10 from rfl,mR,dz,wg i0 i1]
           omega
          ·rw [if_pos rfl,aag,lb (by omega) (by omega),eo (by omega)]
           refine ⟨_,rfl,?_⟩
           have g:gD (tW ([aj%256]++t) 0)=aj:=o6 j0 j1
           have g2:¬112+cc=233:=by omega
           simp only [fK,show aA 29=10 from rfl,mR,dz,g]
           simp [g2]
           omega
         ·rename_i ZR
          split at hs
          ·rename_i Wm
           simp only [bS] at hs
           obtain ⟨rfl,rfl,rfl,rfl,rfl,rfl,rfl⟩:=hs
           rcases oB k Wm with hk|hk<;>rw [hk]
           ·have e:aD 30 0 0 0 0 0 0 0= [195]:=rfl
            rw [e,aag,lb (by decide) (by decide),eo (by decide)]
            exact ⟨_,rfl,rfl⟩
           ·have e:aD 31 0 0 0 0 0 0 0= [15,5]:=rfl
            rw [e,aag,aag,lb (by decide) (by decide),iK]
            exact ⟨_,rfl,rfl⟩
          ·cases hs
theorem mL {d:Int} (h0:0≤d) (h1:d≤255):∃n:Fin 256,d=(n.val:Int):=⟨⟨d.toNat,by omega⟩,by simp;omega⟩
theorem HY {d:Int} (h0:0≤d) (h1:d≤7):∃n:Fin 8,d=(n.val:Int):=⟨⟨d.toNat,by omega⟩,by simp;omega⟩
theorem O1 (x y:Nat) (h:y<256):(x*256)|||y=x*256+y:=by
 rw [show x*256=x<<<8 by rw [Nat.shiftLeft_eq]]
 exact (Nat.shiftLeft_add_eq_or_of_lt (i:=8) h x).symm
theorem NU {x y:Int} (x0: -36028797018963968≤x) (x1:x<36028797018963968) (y0:0≤y) (y1:y<256):((Z8 64 (x*256)|||Z8 64 y).toNat:Int)=(x*256+y)%18446744073709551616:=by
 rw [BitVec.toNat_or,BitVec.toNat_ofInt,BitVec.toNat_ofInt]
 have hy:(y%((2^64:Nat):Int)).toNat=y.toNat:=by congr 1;omega
 have hx:((x*256)%((2^64:Nat):Int)).toNat=(x%72057594037927936).toNat*256:=by omega
 rw [hx,hy,O1 _ _ (by omega)]
 omega
theorem Fe {x y:Int} (x0:0≤x) (x1:x<36028797018963968) (y0:0≤y) (y1:y<256):abz.u64.wrap ((Z8 64 (abz.u64.wrap (x*256))|||Z8 64 (abz.u64.wrap y)).toNat:Int)=x*256+y:=by
 have e1:abz.u64.wrap (x*256)=x*256:=by rw [bN];omega
 have e2:abz.u64.wrap y=y:=by rw [bN];omega
 rw [e1,e2,NU (by omega) x1 y0 y1,bN]
 omega
theorem CM {x y:Int} (x0: -36028797018963968≤x) (x1:x<36028797018963968) (y0:0≤y) (y1:y<256):abz.i64.wrap ((Z8 64 (abz.i64.wrap (x*256))|||Z8 64 (abz.i64.wrap y)).toNat:Int)=x*256+y:=by
 have e1:abz.i64.wrap (x*256)=x*256:=by rw [aN];omega
 have e2:abz.i64.wrap y=y:=by rw [aN];omega
 rw [e1,e2,NU x0 x1 y0 y1,aN]
 omega
theorem O0 {y:Int} (y0:0≤y) (y1:y<256):abz.u64.wrap ((Z8 64 0|||Z8 64 (abz.u64.wrap y)).toNat:Int)=y:=by
 have:=Fe (x:=0) (y:=y) (by omega) (by omega) y0 y1
 simpa [bN] using this
theorem RX {x y:Int} (x0:0≤x) (x1:x≤7) (hy:y=0∨y=8):abz.i8.wrap ((Z8 8 x|||Z8 8 y).toNat:Int)=x+y:=by
 obtain ⟨n,rfl⟩:=HY x0 x1
 clear x0 x1
 rcases hy with rfl|rfl<;>(revert n;decide+kernel)
def dr (l:List Int):Prop:= ∀x∈l,0≤x∧x≤255
theorem Sa:dr []:=fun _ h=>by cases h
theorem fH {a:Int} {l:List Int} :dr (a::l)↔(0≤a∧a≤255)∧dr l:=by simp [dr]
theorem aQ (l:List Int):(bD l).length=l.length:=by simp [bD]
theorem Pu {b:List Int} {i:Int} (h0:0≤i) (h1:i<((bD b).length:Int)):(bD b)[i.toNat]? =some (aC (tW b i.toNat)):=by
 rw [aQ] at h1
 simp only [bD,List.getElem?_map,tW,aaf]
 have:i.toNat<b.length:=by omega
 simp [this]
theorem AF {b:List Int} {i:Int} (h:((bD b).length:Int)≤i):tW b i.toNat=0:=by
 rw [aQ] at h
 simp only [tW,aaf]
 rw [aam (by omega)]
 rfl
theorem Lj (a:Int):a.fdiv 64=a / 64:=aaL _ (by decide)
theorem Oe {v:Int} (h:v / 64=3):(v.fdiv 64==3)=true:=by rw [Lj,h];rfl
theorem rQ {v:Int} (h:v / 64=2):(v.fdiv 64==3)=false:=by rw [Lj,h];rfl
theorem Mf {v:Int} (h:v / 64<2):(v.fdiv 64==3)=false:=by rw [Lj,fO];omega
theorem rR {v:Int} (h:v / 64=2):(v.fdiv 64==2)=true:=by rw [Lj,h];rfl
theorem Og {v:Int} (h:v / 64<2):(v.fdiv 64==2)=false:=by rw [Lj,fO];omega
theorem AU (v:Int):abz.i8.wrap (abz.u8.wrap ((Z8 8 v&&&Z8 8 7).toNat:Int))=v%8:=by
 rw [BitVec.toNat_and,BitVec.toNat_ofInt,BitVec.toNat_ofInt]
 have e:(v%((2^8:Nat):Int)).toNat&&&(7%((2^8:Nat):Int)).toNat=(v%256).toNat%8:=by
  have:(7%((2^8:Nat):Int)).toNat=2^3 - 1:=by decide
  rw [this,Nat.and_two_pow_sub_one_eq_mod]
  rfl
 rw [e,bo,dk]
 omega
theorem Pd {v:Int} (v0:0≤v) (v1:v≤255):abz.i8.wrap (abz.u8.wrap ((Z8 8 (v.fdiv 8)&&&Z8 8 7).toNat:Int))=v / 8%8:=by
 rw [AU,aaL _ (by decide)]
theorem C6 {v:Int} (h:v%8=4):(abz.i8.wrap (abz.u8.wrap ((Z8 8 v&&&Z8 8 7).toNat:Int))==4)=true:=by rw [AU,h];rfl
theorem KN {v:Int} (h:¬v%8=4):(abz.i8.wrap (abz.u8.wrap ((Z8 8 v&&&Z8 8 7).toNat:Int))==4)=false:=by rw [AU,fO];exact h
def nP (s:aJ):D:= .agg [ao s.w,ax s.eO,aC s.code,ao s.r,ao s.m,av s.af,av s.aj,av s.small,av s.gk,av s.gY,ao s.high]
theorem Ki {v:List Int} (hv:dr v) (i:Nat):0≤tW v i∧tW v i≤255:=by
 simp only [tW,aaf]
 cases e:v[i]? with
 |none=>simp
 |some x=>exact hv x (List.mem_of_getElem? e)
theorem AZ {v:List Int} (hv:dr v):0≤hd v∧hd v≤255:=by
 cases v with
 |nil=>simp [hd]
 |cons a t=>exact hv a (by simp)
theorem uY {v:List Int} (hv:dr v):0≤u6 v∧u6 v≤7:=by
 have:=AZ hv
 unfold u6
 split<;>omega
theorem u7 {v:List Int} (hv:dr v):0≤u9 v∧u9 v≤7:=by
 have:=AZ hv
 unfold u9
 split<;>omega
theorem RV {v:List Int} (hv:dr v) {y:Int} (hy:y=0∨y=8):abz.i8.wrap ((Z8 8 (u6 v)|||Z8 8 y).toNat:Int)=u6 v+y:=RX (uY hv).1 (uY hv).2 hy
theorem RW {v:List Int} (hv:dr v) {y:Int} (hy:y=0∨y=8):abz.i8.wrap ((Z8 8 (u9 v)|||Z8 8 y).toNat:Int)=u9 v+y:=RX (u7 hv).1 (u7 hv).2 hy
theorem Pb {v:List Int} (h:¬uv v=0):kJ v=0:=by
 unfold uv at h
 split at h
 ·assumption
 ·simp at h
theorem Md {v:List Int} (hv:dr v) (i:Nat):abz.i64.wrap (tW v i)=tW v i:=by
 have:=Ki hv i
 rw [aN];omega
theorem Oc {v:List Int} (i:Nat):abz.i64.wrap (abz.i8.wrap (tW v i))=gD (tW v i):=by
 rw [aN,dk,gD];omega
def Qy (w high:Int):aJ:=⟨w,false,0,0,0,0,0,0,0,0,high⟩
theorem Pn {c h:Int} (c0:0≤c) (c1:c≤255) (hh:h=0∨h=8):abz.i8.wrap ((Z8 8 (abz.i8.wrap (abz.u8.wrap ((Z8 8 c&&&Z8 8 7).toNat:Int)))|||Z8 8 h).toNat:Int)=c%8+h:=by
 rw [AU]
 exact RX (by omega) (by omega) hh
theorem Fw {c:Int} (c0:0≤c) (c1:c≤255):abz.i8.wrap (abz.u8.wrap ((Z8 8 c&&&Z8 8 15).toNat:Int))=c%16:=by
 obtain ⟨n,rfl⟩:=mL c0 c1
 clear c0 c1
 revert n
 decide+kernel
theorem Mk {c:Int} (c0:0≤c) (c1:c≤255):abz.i8.wrap (8*2^(min (abz.u8.wrap ((Z8 8 c&&&Z8 8 1).toNat:Int)).toNat 8))=if c%2=1 then 16 else 8:=by
 obtain ⟨n,rfl⟩:=mL c0 c1
 clear c0 c1
 revert n
 decide+kernel
end Go.Ev
