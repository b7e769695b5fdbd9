import Derived.ChangeKeysEq
import Derived.KernelRfl
import Derived.Laws.Strings
import Derived.Test.YtbfpahigdpigpaaGreatV01
import Derived.Test.YtbfpahigdpigpaaGreatV02
import Derived.Test.YtbfpahigdpigpaaGreatV04
open BitVec renaming ofInt→Zw
open Bool renaming and_eq_true→ZD,or_eq_true→ZV,not_eq_true'→Z8,false_eq_true→aah
open Option.some renaming inj→ZE,injEq→ZK
open List renaming getD_eq_getElem?_getD→ZF,cons_append→ZG,append_assoc→ZM,getElem?_eq_none→ZN,length_append→ZR,nil_append→ZT,drop_zero→aaD,drop_drop→aaM
open And renaming intro→ZI
open Go.Result renaming andThen_ok→ZO
open Go.Sem renaming run_bind→ZW,run_pure→Z4
open Int renaming fdiv_eq_ediv_of_nonneg→Z9
open Go renaming IntKind→aaY
/- Contracts and plain laws that a statement's proof leans on (texts merged:EvU,MdC,MdZ,MdP1,MdP2). -/
set_option linter.unusedVariables false
set_option linter.unusedSimpArgs false
namespace Go.Ev
open Go Go.RowKit
def vm (P:Program) (one:TypeId→Option (List LK)):List Field→Nat→Option (List LK)
  | [],_=>some []
  |f::r,off=>match !(f.name== "_")&&Nat.beq f.offset off with
    |true=>match one f.type with
      |some ks=>match Nat.beq ks.length (P.cellsOf f.type)&&Nat.blt 0 ks.length with
        |true=>match vm P one r (off+ks.length) with
          |some l=>some (ks++l)
          |none=>none
        |false=>none
      |none=>none
    |false=>none
def sO:Nat→List LK→List LK
  |0,_=> []
  |n+1,l=>l++sO n l
def jX (P:Program):Nat→TypeId→Option (List LK)
  |0,_=>none
  |d+1,t=>match P.underlying t with
    |some .bool=>some [.bool]
    |some (.int k)=>some [.int k]
    |some .string=>some [.str]
    |some (.struct fs)=>match P.stoodInHeld t with
      |false=>vm P (jX P d) fs.toList 0
      |true=>none
    |some (.array n e)=>match jX P d e,P.info? e with
      |some ks,some _=>match Nat.beq ks.length (P.cellsOf e)&&Nat.blt 0 ks.length with|true=>some (sO n ks)|false=>none
      |_,_=>none
    |_=>none
def CJ (P:Program) (t:TypeId) (l:List Value):Value:=match P.underlying t with
  |some e=>match dR e with
    |true=> .agg l.toArray
    |false=>l.headD .nilFunc
  |none=> .nilFunc
theorem cK:∀ {ks:List LK} {l:List Value},eM ks l→l.length=ks.length
 | [],[],_=>rfl
 |_::_,[],h=>h.elim
 | [],_::_,h=>h.elim
 |k::ks,v::l,h=>by simp [cK h.2]
theorem gN:∀ {ks Wu:List LK} {l:List Value},eM (ks++Wu) l→eM ks (l.take ks.length)∧eM Wu (l.drop ks.length)
 | [],Wu,l,h=>⟨by simp [eM],by simpa using h⟩
 |k::ks,Wu,[],h=>h.elim
 |k::ks,Wu,v::l,h=>by
  obtain ⟨h1,h2⟩:=h
  obtain ⟨a,b⟩:=gN h2
  exact ⟨⟨h1,a⟩,b⟩
theorem kD:∀(n:Nat) (l m:List Value),n≤l.length→n≤m.length→ea l m=(ea (l.take n) (m.take n)&&ea (l.drop n) (m.drop n))
 |0,l,m,_,_=>by simp [ea]
 |n+1,[],m,h,_=>by simp at h
 |n+1,_::_,[],_,h=>by simp at h
 |n+1,a::l,b::m,h,k=>by
  simp only [List.take_succ_cons,List.drop_succ_cons,ea]
  rw [kD n l m (by simpa using h) (by simpa using k),Bool.and_assoc]
section
variable {P:Program}
def PQ (P:Program) (d:Nat) (t:TypeId) (ks:List LK):Prop:=
  ∀(n:Nat) (l m:List Value) (w:World),eM ks l→eM ks m→(Op.equalIn (n+d) t (CJ P t l) (CJ P t m)).run P w= .ok (ea l m) w
theorem lH {t:TypeId} {e:TypeDesc} (hu:P.underlying t=some e) {xs:Array Value} {off:Nat} {n:Nat} (hn:n=P.cellsOf t) (Ui:dR e=false→n=1) (hl:off+n≤xs.size) (w:World):
  (part t xs off).run P w= .ok (CJ P t ((xs.toList.drop off).take n)) w:=by
 simp only [CJ,hu]
 cases ha:dR e with
 |true=>
  simp only
  rw [oV hu ha xs off w]
  congr 2
  subst hn
  apply Array.ext'
  simp [Array.toList_extract,List.extract_eq_take_drop]
 |false=>
  simp only
  have h1:=Ui ha
  subst h1
  have Tq:off<xs.size:=by omega
  rw [oU hu ha (v:=xs[off]) (by simp [Tq]) w]
  congr 1
  rw [List.headD_eq_head?_getD,List.head?_take]
  simp [Tq]
theorem nJ {d:Nat} {t:TypeId} {ks:List LK} (h:jX P d t=some ks):∃e,P.underlying t=some e∧(dR e=false→ks.length=1):=by
 cases d with
 |zero=>simp [jX] at h
 |succ d=>
  unfold jX at h
  split at h
  ·rename_i hu;exact ⟨_,hu,fun _=>by cases h;rfl⟩
  ·rename_i hu;exact ⟨_,hu,fun _=>by cases h;rfl⟩
  ·rename_i hu;exact ⟨_,hu,fun _=>by cases h;rfl⟩
  ·rename_i hu;exact ⟨_,hu,fun q=>by cases q⟩
  ·rename_i hu;exact ⟨_,hu,fun q=>by cases q⟩
  ·cases h
theorem qE {d:Nat} (ih:∀ {t:TypeId} {ks:List LK},jX P d t=some ks→PQ P d t ks) (n:Nat) (xs ys:Array Value) (w:World):∀(fs:List Field) (off:Nat) (ks:List LK),vm P (jX P d) fs off=some ks→
  eM ks (xs.toList.drop off)→eM ks (ys.toList.drop off)→(Op.eqFields (n+d) xs ys fs).run P w= .ok (ea (xs.toList.drop off) (ys.toList.drop off)) w
 | [],off,ks,h,hx,hy=>by
  simp only [vm,ZK] at h
  subst h
  have e1:=List.length_eq_zero_iff.1 (cK hx)
  have e2:=List.length_eq_zero_iff.1 (cK hy)
  rw [e1,e2]
  simp [Op.eqFields,ea]
 |f::fs,off,ks,h,hx,hy=>by
  simp only [vm] at h
  split at h
  ·rename_i hf
   simp only [ZD,Z8,gp,Nat.beq_eq] at hf
   obtain ⟨hname,hoff⟩:=hf
   split at h
   ·rename_i k1 h1
    split at h
    ·rename_i hl
     rw [ZD,Nat.beq_eq,Nat.blt_eq] at hl
     obtain ⟨hl,TX⟩:=hl
     split at h
     ·rename_i k2 h2
      obtain rfl:=ZE h
      obtain ⟨a1,a2⟩:=gN hx
      obtain ⟨b1,b2⟩:=gN hy
      rw [aaM] at a2 b2
      have lx:off+k1.length≤xs.size:=by
       have:=cK hx
       simp at this
       omega
      have ly:off+k1.length≤ys.size:=by
       have:=cK hy
       simp at this
       omega
      obtain ⟨e,hu,Ui⟩:=nJ h1
      have WX:=ih h1 n _ _ w a1 b1
      have rest:=qE ih n xs ys w fs (off+k1.length) k2 h2 a2 b2
      unfold Op.eqFields
      rw [if_pos hname,hoff]
      simp only [ZW,lH hu hl Ui lx w,lH hu hl Ui ly w,ZO,WX]
      have hs:=kD k1.length (xs.toList.drop off) (ys.toList.drop off) (by simp;omega) (by simp;omega)
      rw [aaM,aaM] at hs
      rw [hs]
      cases ea ((xs.toList.drop off).take k1.length) ((ys.toList.drop off).take k1.length) with
      |true=>simpa using rest
      |false=>simp
     ·cases h
    ·cases h
   ·cases h
  ·cases h
theorem tB {d:Nat} {e:TypeId} {ks:List LK} (Ze:jX P d e=some ks) (hl:ks.length=P.cellsOf e) (TX:0<ks.length) (ih:PQ P d e ks) (n:Nat) (xs ys:Array Value) (w:World):∀(c i:Nat),
  eM (sO c ks) (xs.toList.drop (i*ks.length))→eM (sO c ks) (ys.toList.drop (i*ks.length))→(Op.eqItems (n+d) e (P.cellsOf e) xs ys (List.range' i c)).run P w= .ok (ea (xs.toList.drop (i*ks.length)) (ys.toList.drop (i*ks.length))) w
 |0,i,hx,hy=>by
  have e1:=List.length_eq_zero_iff.1 (cK hx)
  have e2:=List.length_eq_zero_iff.1 (cK hy)
  rw [e1,e2]
  simp [Op.eqItems,ea]
 |c+1,i,hx,hy=>by
  simp only [sO] at hx hy
  obtain ⟨a1,a2⟩:=gN hx
  obtain ⟨b1,b2⟩:=gN hy
  have hm:i*ks.length+ks.length=(i+1)*ks.length:=by rw [Nat.add_mul,Nat.one_mul]
  rw [aaM,hm] at a2 b2
  have lx:i*ks.length+ks.length≤xs.size:=by
   have:=cK hx
   simp only [ZR,List.length_drop,Array.length_toList] at this
   omega
  have ly:i*ks.length+ks.length≤ys.size:=by
   have:=cK hy
   simp at this
   omega
  obtain ⟨e',hu,Ui⟩:=nJ Ze
  have WX:=ih n _ _ w a1 b1
  have rest:=tB Ze hl TX ih n xs ys w c (i+1) a2 b2
  rw [List.range'_succ]
  unfold Op.eqItems
  rw [← hl] at rest ⊢
  simp only [ZW,lH hu hl Ui lx w,lH hu hl Ui ly w,ZO,WX]
  have hs:=kD ks.length (xs.toList.drop (i*ks.length)) (ys.toList.drop (i*ks.length)) (by simp;omega) (by simp;omega)
  rw [aaM,aaM,hm] at hs
  rw [hs]
  cases ea ((xs.toList.drop (i*ks.length)).take ks.length) ((ys.toList.drop (i*ks.length)).take ks.length) with
  |true=>simpa using rest
  |false=>simp
theorem th:∀ {d:Nat} {t:TypeId} {ks:List LK},jX P d t=some ks→PQ P d t ks
 |0,t,ks,h=>by simp [jX] at h
 |d+1,t,ks,h=>by
  intro n l m w hl hm
  unfold jX at h
  split at h
  ·rename_i hu
   obtain rfl:=ZE h
   have e1:=cK hl
   have e2:=cK hm
   match l,m,e1,e2 with
   | [a],[b],_,_=>
    cases a<;>simp only [eM,LK.tk,eJ,false_and,ee] at hl
    cases b<;>simp only [eM,LK.tk,eJ,false_and,ee] at hm
    simp only [CJ,hu,dR,List.headD_cons,ea,rC,Bool.and_true]
    exact run_equalIn_bool' w (n+d) t _ _ hu
  ·rename_i k hu
   obtain rfl:=ZE h
   have e1:=cK hl
   have e2:=cK hm
   match l,m,e1,e2 with
   | [a],[b],_,_=>
    cases a<;>simp only [eM,LK.tk,eJ,false_and,ee] at hl
    cases b<;>simp only [eM,LK.tk,eJ,false_and,ee] at hm
    subst hl
    subst hm
    simp only [CJ,hu,dR,List.headD_cons,ea,rC,Bool.and_true]
    exact run_equalIn_int w (n+d) t _ _ _ _ hu
  ·rename_i hu
   obtain rfl:=ZE h
   have e1:=cK hl
   have e2:=cK hm
   match l,m,e1,e2 with
   | [a],[b],_,_=>
    cases a<;>simp only [eM,LK.tk,eJ,false_and,ee] at hl
    cases b<;>simp only [eM,LK.tk,eJ,false_and,ee] at hm
    simp only [CJ,hu,dR,List.headD_cons,ea,rC,Bool.and_true]
    exact run_equalIn_string w (n+d) t _ _ hu
  ·rename_i fs hu
   split at h
   ·rename_i Ty
    have hf:P.fieldsOf t=fs:=by simp [Program.fieldsOf,hu]
    simp only [CJ,hu,dR]
    rw [show n+(d+1)=(n+d)+1 by omega,run_equalIn_struct w (n+d) t _ _ (by rw [hf];exact hu) Ty,hf]
    have:=qE (fun h=>th h) n l.toArray m.toArray w fs.toList 0 ks h (by simpa using hl) (by simpa using hm)
    simpa using this
   ·cases h
  ·rename_i c e hu
   split at h
   ·rename_i k1 i h1 hi
    split at h
    ·rename_i hlen
     rw [ZD,Nat.beq_eq,Nat.blt_eq] at hlen
     obtain ⟨hlen,TX⟩:=hlen
     obtain rfl:=ZE h
     simp only [CJ,hu,dR]
     rw [show n+(d+1)=(n+d)+1 by omega,run_equalIn_array w (n+d) _ _ hu hi,List.range_eq_range']
     have:=tB h1 hlen TX (th h1) n l.toArray m.toArray w c 0 (by simpa using hl) (by simpa using hm)
     simpa using this
    ·cases h
   ·cases h
  ·cases h
theorem kI.of_flat {d:Nat} {t:TypeId} {ks:List LK} (hd:Nat.ble d 10000=true) (hg:P.eqGuardType P.depth t=false) (ha:(match P.underlying t with|some e=>dR e|none=>false)=true) (h:jX P d t=some ks):kI P t ks:=by
 refine ⟨hg,fun xs ys w hx hy=> ?_⟩
 have:=th h (10000 - d) xs.toList ys.toList w hx hy
 rw [Nat.sub_add_cancel (by simpa using hd)] at this
 unfold CJ at this
 split at ha
 ·rename_i e he
  simp only [he,ha] at this
  simpa using this
 ·cases ha
def QU (P:Program) (d:Nat) (t:TypeId) (ks:List LK):Prop:=
  ∀(em:Bool) (n:Nat) (l:List Value) (w:World),eM ks l→(Instr.checkKey em (n+d) t (CJ P t l)).run P w= .ok () w
theorem qe:∀ {d:Nat} {t:TypeId} {ks:List LK},jX P d t=some ks→QU P d t ks
 |0,t,ks,h=>by simp [jX] at h
 |d+1,t,ks,h=>by
  intro em n l w hl
  have plain:∀ {e:TypeDesc},P.underlying t=some e→(match e with| .bool| .int _| .string=>true|_=>false)=true→(Instr.checkKey em (n+(d+1)) t (CJ P t l)).run P w= .ok () w:=by
   intro e hu he
   rw [show n+(d+1)=(n+d)+1 from rfl,Instr.checkKey]
   simp only [ZW,run_underlying hu,ZO]
   cases e<;>simp only [aah] at he<;>simp
  unfold jX at h
  split at h
  ·rename_i hu;exact plain hu rfl
  ·rename_i hu;exact plain hu rfl
  ·rename_i hu;exact plain hu rfl
  ·rename_i fs hu
   split at h
   ·rename_i Ty
    rw [show n+(d+1)=(n+d)+1 from rfl,Instr.checkKey]
    simp only [CJ,hu,dR,ZW,run_underlying hu,ZO]
    rw [← Array.forIn_toList]
    have Us:eM ks (l.toArray.toList.drop 0):=by simpa using hl
    generalize l.toArray=xs at Us ⊢
    generalize fs.toList=L at h ⊢
    generalize 0=off at h Us
    clear hl hu Ty
    induction L generalizing off ks with
    |nil=>simp
    |cons f L ihL=>
     simp only [vm] at h
     split at h
     ·rename_i hf
      simp only [ZD,Z8,gp,Nat.beq_eq] at hf
      obtain ⟨hname,hoff⟩:=hf
      split at h
      ·rename_i k1 h1
       split at h
       ·rename_i hlen
        rw [ZD,Nat.beq_eq,Nat.blt_eq] at hlen
        obtain ⟨hlen,TX⟩:=hlen
        split at h
        ·rename_i k2 h2
         obtain rfl:=ZE h
         obtain ⟨a1,a2⟩:=gN Us
         rw [aaM] at a2
         have lx:off+k1.length≤xs.size:=by
          have:=cK Us
          simp at this
          omega
         obtain ⟨e,hu,Ui⟩:=nJ h1
         have WX:=qe h1 em n _ w a1
         have rest:=ihL _ _ h2 a2
         simp only [List.forIn_cons,ZW,hname,ne_eq,not_false_eq_true,if_true,ZO,hoff,lH hu hlen Ui lx w,WX,Z4]
         exact rest
        ·cases h
       ·cases h
      ·cases h
     ·cases h
   ·cases h
  ·rename_i c e hu
   split at h
   ·rename_i k1 i h1 hi
    split at h
    ·rename_i hlen
     rw [ZD,Nat.beq_eq,Nat.blt_eq] at hlen
     obtain ⟨hlen,TX⟩:=hlen
     obtain rfl:=ZE h
     rw [show n+(d+1)=(n+d)+1 from rfl,Instr.checkKey]
     simp only [CJ,hu,dR,ZW,run_underlying hu,ZO]
     simp only [Std.Legacy.Range.forIn_eq_forIn_range',Std.Legacy.Range.size,Nat.sub_zero,Nat.add_one_sub_one,Nat.div_one]
     have Us:eM (sO c k1) (l.toArray.toList.drop (0*k1.length)):=by simpa using hl
     generalize l.toArray=xs at Us ⊢
     generalize 0=j at Us ⊢
     clear hl hu
     have IH:=qe h1 em n
     induction c generalizing j with
     |zero=>simp
     |succ c ihc=>
      simp only [sO] at Us
      obtain ⟨a1,a2⟩:=gN Us
      have hm:j*k1.length+k1.length=(j+1)*k1.length:=by rw [Nat.add_mul,Nat.one_mul]
      rw [aaM,hm] at a2
      have lx:j*k1.length+k1.length≤xs.size:=by
       have:=cK Us
       simp only [ZR,List.length_drop,Array.length_toList] at this
       omega
      obtain ⟨e',XH,Ui⟩:=nJ h1
      have WX:=IH _ w a1
      rw [List.range'_succ]
      have rest:=ihc rfl _ a2
      simp only [List.forIn_cons,ZW,run_sizeOf w hi,ZO,← hlen,lH XH hlen Ui lx w,WX,Z4]
      exact rest
    ·cases h
   ·cases h
  ·cases h
theorem AQ {kd:TypeDesc} (hk:dR kd=true) (x:Array Value) (e:MapEntry) (l:List MapEntry) (i:Nat):Instr.findNow kd (.agg x) (e::l) i=none:=by
 cases kd<;>simp [dR] at hk<;>simp [Instr.findNow,Instr.sameNow]
theorem mE {t:TypeId} {ks:List LK} (hq:kI P t ks) (x:Array Value) (hx:eM ks x.toList) (w:World):∀(l:List MapEntry) (i:Nat),(∀e∈l,∃y:Array Value,e.key= .agg y∧eM ks y.toList)→
  (Instr.findAsking t (.agg x) l i).run P w= .ok (vn x.toList l i) w
 | [],i,_=>by simp [Instr.findAsking,vn]
 |e::l,i,h=>by
  obtain ⟨y,hy,fy⟩:=h e (by simp)
  have ih:=mE hq x hx w l (i+1) fun e' he=>h e' (by simp [he])
  have he:(Op.equal t (.agg x) e.key).run P w= .ok (ea x.toList y.toList) w:=by
   rw [hy];exact hq.eq x y w hx fy
  simp only [Instr.findAsking,ZW,he,ZO]
  simp only [vn,hy]
  cases ea x.toList y.toList with
  |true=>simp
  |false=>simpa using ih
theorem yF.of_flat {d:Nat} {t:TypeId} {ks:List LK} (hd:Nat.ble d 10000=true) (hg:P.eqGuardType P.depth t=false) (ha:(match P.underlying t with|some e=>dR e|none=>false)=true) (h:jX P d t=some ks) (hs:KJ ks=true):yF P t ks:=by
 have hq:=kI.of_flat hd hg ha h
 refine ⟨hs,fun w em xs hx=> ?_,fun w x l hx hl=> ?_⟩
 ·have:=qe h em (10000 - d) xs.toList w hx
  rw [Nat.sub_add_cancel (by simpa using hd)] at this
  unfold CJ at this
  split at ha
  ·rename_i e he
   simp only [he,ha] at this
   simpa using this
  ·cases ha
 ·split at ha
  ·rename_i e he
   cases l with
   |nil=>simp [Instr.findKey,run_underlying he,Instr.findNow,vn]
   |cons e0 l=>
    simp only [Instr.findKey,ZW,run_underlying he,ZO,AQ ha]
    exact mE hq x hx w _ 0 hl
  ·cases ha
end
theorem dy {x y:Bool} (h:x=false):(x&&y)=false:=by simp [h]
theorem aZ {x y v:Bool} (h:x=true) (k:y=v):(x&&y)=v:=by simp [h,k]
theorem RF {x c c':Int} {v:Bool} (h:decide (x<c')=v) (hc:c'=c+1):decide (x≤c)=v:=by
 subst hc;rw [← h];exact decide_eq_decide.2 (by omega)
theorem Qy {y c c':Int} {v:Bool} (h:decide (y<c')=v) (hc:c'=c+1):decide (c<y)= !v:=by
 subst hc;rw [← h,← decide_not];exact decide_eq_decide.2 (by omega)
theorem QB {y c c':Int} {v:Bool} (h:decide (y<c')=v) (hc:c'=c):decide (c≤y)= !v:=by
 subst hc;rw [← h,← decide_not];exact decide_eq_decide.2 (by omega)
theorem RB {x d c:Int} (h:decide (x<d)=true) (hc:d≤c):decide (x<c)=true:=by
 simp only [bX] at h ⊢;omega
theorem Pd {x d c:Int} (h:decide (x<d)=false) (hc:c≤d):decide (x<c)=false:=by
 simp only [cJ] at h ⊢;omega
theorem Pw {x d c:Int} (h:decide (x<d)=true) (hc:d≤c):(x==c)=false:=by
 simp only [bX] at h;simp only [gp];omega
theorem Px {x d c:Int} (h:decide (x<d)=false) (hc:c<d):(x==c)=false:=by
 simp only [cJ] at h;simp only [gp];omega
theorem aR {x c:Int} (h:¬x=c):(x==c)=false:=by simp [h]
theorem RR {x c d:Int} {v:Bool} (h:x=c) (hv:(c==d)=v):(x==d)=v:=by rw [h,hv]
def tT {P:Program} :Ev P:= .cM true true rfl
def tF {P:Program} :Ev P:= .cM false false rfl
def tC {P:Program} {q v:Bool} (h:q=v):Ev P:= .cM q v h
theorem eT {b v:Bool} (h:b=v):(b==true)=(v==true):=by rw [h]
theorem eF {b v:Bool} (h:b=v):(b==false)=(v==false):=by rw [h]
theorem nt {b v:Bool} (h:b=v):(!b)= !v:=by rw [h]
theorem eH {x c':Int} {v:Bool} (c:Int) (h:decide (x<c')=v) (hc:c'=c+1:=by decide):decide (x≤c)=v:=RF h hc
theorem dj {y c':Int} {v:Bool} (c:Int) (h:decide (y<c')=v) (hc:c'=c+1:=by decide):decide (c<y)= !v:=Qy h hc
theorem bK {y c':Int} {v:Bool} (c:Int) (h:decide (y<c')=v) (hc:c'=c:=by decide):decide (c≤y)= !v:=QB h hc
theorem ub {x d:Int} (c:Int) (h:decide (x<d)=true) (hc:d≤c:=by decide):decide (x<c)=true:=RB h hc
theorem lz {x d:Int} (c:Int) (h:decide (x<d)=false) (hc:c≤d:=by decide):decide (x<c)=false:=Pd h hc
theorem pF {x d:Int} (c:Int) (h:decide (x<d)=true) (hc:d≤c:=by decide):(x==c)=false:=Pw h hc
theorem uB {x d:Int} (c:Int) (h:decide (x<d)=false) (hc:c<d:=by decide):(x==c)=false:=Px h hc
theorem cD {x c:Int} (d:Int) (v:Bool) (h:x=c) (hv:(c==d)=v:=by decide):(x==d)=v:=RR h hv
def cH:lP→lP→Nat→Prop
  |_,.no,_=>True
  | .tight,.tight,_=>True
  | .tight,.fresh n,sz=>n=sz
  | .fresh a,.fresh b,_=>a=b
  |_,_,_=>False
mutual
def wk:D→D→Prop
  | .bc o sz xs,.bc o' TH ys=>xs=ys∧(sz=TH∨xs= [])∧cH o o' TH∧(o= .tight∨sz=TH)
  | .agg l,.agg m=>a7 l m
  | .aL l,.aL m=>a7 l m
  |a,b=>a=b
def a7:List D→List D→Prop
  | [],[]=>True
  |a::l,b::m=>wk a b∧a7 l m
  |_,_=>False
end
theorem aB:type_of%(ZI @wk.eq_1 (ZI @wk.eq_2 (ZI @wk.eq_3 (ZI @wk.eq_4 (ZI @a7.eq_1 (ZI @a7.eq_2 (ZI @a7.eq_3 (ZI @cH.eq_1 (ZI @cH.eq_2 (ZI @cH.eq_3 (ZI @cH.eq_4 (ZI @cH.eq_5 (ZI @br.eq_1 (ZI @br.eq_2 (ZI @br.eq_3 (ZI @mg.eq_1 (ZI @mg.eq_2 (ZI @mg.eq_3 (@mg.eq_4))))))))))))))))))):=ZI @wk.eq_1 (ZI @wk.eq_2 (ZI @wk.eq_3 (ZI @wk.eq_4 (ZI @a7.eq_1 (ZI @a7.eq_2 (ZI @a7.eq_3 (ZI @cH.eq_1 (ZI @cH.eq_2 (ZI @cH.eq_3 (ZI @cH.eq_4 (ZI @cH.eq_5 (ZI @br.eq_1 (ZI @br.eq_2 (ZI @br.eq_3 (ZI @mg.eq_1 (ZI @mg.eq_2 (ZI @mg.eq_3 (@mg.eq_4))))))))))))))))))
theorem SD:type_of%(ZI @wk.eq_1 (ZI @wk.eq_2 (ZI @wk.eq_3 (ZI @wk.eq_4 (ZI @a7.eq_1 (ZI @a7.eq_2 (@a7.eq_3))))))):=ZI @wk.eq_1 (ZI @wk.eq_2 (ZI @wk.eq_3 (ZI @wk.eq_4 (ZI @a7.eq_1 (ZI @a7.eq_2 (@a7.eq_3))))))
theorem oJ:∀ {l m:List D},a7 l m→l.length=m.length∧∀(i:Nat) (a b:D),l[i]? =some a→m[i]? =some b→wk a b
 | [],[],_=>⟨rfl,fun i a b h=>by simp at h⟩
 | [],_::_,h=>by simp [a7] at h
 |_::_,[],h=>by simp [a7] at h
 |a::l,b::m,h=>by
  rw [a7] at h
  obtain ⟨h1,h2⟩:=oJ h.2
  refine ⟨by simp [h1],fun i x y p q=> ?_⟩
  cases i with
  |zero=>simp at p q;subst p q;exact h.1
  |succ i=>simp at p q;exact h2 i x y p q
theorem cj.wk {C:Nat→Nat→Option Value} {M:MM} (hM:M=gk C) {d:D} {v:Value} (h:cj M d v):∀ {d':D},wk d d'→cj M d' v:=by
 induction h with
 |bc b off vs hl Tm ha Tw hc hr Ty ho ih=>
  intro d' w
  rename_i M o sz xs _ _ _
  cases d'<;>simp only [Ev.wk,reduceCtorEq] at w
  obtain ⟨rfl,w2,w3,_⟩:=w
  rename_i o' _ _
  refine cj.resize (sz:=sz) (.bc b off vs hl Tm ha Tw hc hr Ty ?_) w2
  cases o<;>cases o'<;>first|trivial|exact ho|(simp only [cH] at w3)
 |agg h r ih=>
  intro d' w
  cases d'<;>simp only [Ev.wk,reduceCtorEq] at w
  rename_i _ cs vs _
  obtain ⟨h1,h2⟩:=oJ w
  refine .agg (h1▸h) fun i d v a b=> ?_
  have Tq:i<cs.length:=by
   rw [h]
   exact (Array.getElem?_eq_some_iff.1 b).1
  exact ih i cs[i] v (by simp [Tq]) b hM (h2 i _ _ (by simp [Tq]) a)
 |aL h r ih=>
  intro d' w
  cases d'<;>simp only [Ev.wk,reduceCtorEq] at w
  rename_i _ cs vs _
  obtain ⟨h1,h2⟩:=oJ w
  refine .aL (h1▸h) fun i d v a b=> ?_
  have Tq:i<cs.length:=by
   rw [h]
   exact (Array.getElem?_eq_some_iff.1 b).1
  exact ih i cs[i] v (by simp [Tq]) b hM (h2 i _ _ (by simp [Tq]) a)
 |undef v=>intro d' w;cases d'<;>simp only [Ev.wk,reduceCtorEq] at w;exact .undef v
 |int k n=>intro d' w;cases d'<;>simp only [Ev.wk,reduceCtorEq] at w;rw [← w];exact .int k n
 |bool b=>intro d' w;cases d'<;>simp only [Ev.wk,reduceCtorEq] at w;rw [← w];exact .bool b
 |str s=>intro d' w;cases d'<;>simp only [Ev.wk,reduceCtorEq] at w;rw [← w];exact .str s
 |gA=>intro d' w;cases d'<;>simp only [Ev.wk,reduceCtorEq] at w;exact .gA
 |cg=>intro d' w;cases d'<;>simp only [Ev.wk,reduceCtorEq] at w;exact .cg
 |ptr q h=>intro d' w;cases d'<;>simp only [Ev.wk,reduceCtorEq] at w;rw [← w];exact .ptr q h
 |eY q vs hx hc hr ih=>intro d' w;cases d'<;>simp only [Ev.wk,reduceCtorEq] at w;rw [← w];exact .eY q vs hx hc hr
 |gw h=>intro d' w;cases d'<;>simp only [Ev.wk,reduceCtorEq] at w;rw [← w];exact .gw h
 |jM h=>intro d' w;cases d'<;>simp only [Ev.wk,reduceCtorEq] at w;rw [← w];exact .jM h
 |dz h hh hc=>intro d' w;cases d'<;>simp only [Ev.wk,reduceCtorEq] at w;rw [← w];exact .dz h hh hc
 |sub h hc hp ho=>intro d' w;cases d'<;>simp only [Ev.wk,reduceCtorEq] at w;rw [← w];exact .sub h hc hp ho
 |fn h1 h2 r1 r2 i1 i2=>intro d' w;cases d'<;>simp only [Ev.wk,reduceCtorEq] at w;rw [← w];exact .fn h1 h2 r1 r2
theorem AN {B:Nat} {w:World} {C:Nat→Nat→Option Value} {d d':D} {v:Value} (hr:cj (gk C) d v) (hf:∀sz TH xs,d= .bc (.fresh sz) TH xs→∃a len cap,v= .slice a len cap∧TH=sz∧ki B w C sz a len cap) (hw:wk d d'):
  ∀sz TH xs,d'= .bc (.fresh sz) TH xs→∃a len cap,v= .slice a len cap∧TH=sz∧ki B w C sz a len cap:=by
 rintro sz TH xs rfl
 cases d<;>simp only [wk,reduceCtorEq] at hw
 rename_i o YI YM
 obtain ⟨rfl,w2,w3,w4⟩:=hw
 cases o with
 |no=>simp only [cH] at w3
 |tok a b=>simp only [cH] at w3
 |tight=>
  simp only [cH] at w3
  subst w3
  cases hr with
  |bc b off vs hl Tm ha Tw hc hr Ty ho=>exact ⟨_,_,_,rfl,rfl,.inl ho⟩
 |fresh k=>
  simp only [cH] at w3
  subst w3
  rcases w4 with w4|rfl
  ·cases w4
  ·exact hf _ _ _ rfl
theorem aQ.to {P:Program} {f:FuncId} {args:List D} {d d':D} (h:aQ P f args d) (hw:wk d d'):aQ P f args d':=by
 refine ⟨h.Ij,fun w C vs hC ha=>Calls.mono (h.run w C vs hC ha) ?_⟩
 rintro e w' ⟨v,C',rfl,hext,Tn,Xm,WM⟩
 refine ⟨v,C',rfl,hext,Tn.wk rfl hw,AN Tn Xm hw,?_⟩
 rintro ds vs rfl rfl i sz TH xs hi
 cases d<;>simp only [wk,reduceCtorEq] at hw
 rename_i Xz
 obtain ⟨h1,h2⟩:=oJ hw
 have Tq:i<Xz.length:=by
  rw [h1]
  rcases Nat.lt_or_ge i ds.length with q|q
  ·exact q
  ·rw [ZN q] at hi;cases hi
 cases Tn with
 |aL hl hr=>
  have Yt:i<vs.size:=hl▸Tq
  have:=AN (d:=Xz[i]) (d':= .bc (.fresh sz) TH xs) (v:=vs[i]) (hr i _ _ (by simp [Tq]) (by simp [Yt])) (fun s1 s2 x e=>by
   obtain ⟨a,len,cap,k1,k2⟩:=WM Xz vs rfl rfl i s1 s2 x (by simp [Tq,e])
   exact ⟨a,len,cap,by simpa [Yt] using k1,k2⟩) (h2 i _ _ (by simp [Tq]) hi) sz TH xs rfl
  obtain ⟨a,len,cap,k1,k2,k3⟩:=this
  exact ⟨a,len,cap,by simp [Yt,k1],k2,k3⟩
def jE:Code→List Code
  | .seq a b=>jE a++jE b
  | .cond _ a b=>jE a++jE b
  | .block _ a=>jE a
  | .scope a=>jE a
  | .loop a=>a::jE a
  | .rangeFunc _ _ a b=>jE a++jE b
  |_=> []
def dT (fn:Func) (i:Nat):Code:=match fn.body with
  |some c=>(jE c).getD i .skip
  |none=> .skip
def iO:Code→List (Code×Code)
  | .seq a b=>iO a++iO b
  | .cond _ a b=>iO a++iO b
  | .block _ a=>iO a
  | .scope a=>iO a
  | .loop a=>iO a
  | .rangeFunc _ _ a b=>(a,b)::iO b
  |_=> []
def dP (fn:Func) (i:Nat):Code:=match fn.body with
  |some c=>((iO c).getD i (.skip,.skip)).1
  |none=> .skip
def dN (fn:Func) (i:Nat):Code:=match fn.body with
  |some c=>((iO c).getD i (.skip,.skip)).2
  |none=> .skip
def iT:Code→List Code
  | .seq a b=>iT a++iT b
  | .cond _ a b=>iT a++iT b
  | .block i a=> .block i a::iT a
  | .scope a=>iT a
  | .loop a=>iT a
  | .rangeFunc _ _ a b=>iT a++iT b
  |_=> []
def dB (fn:Func) (i:Nat):Code:=match fn.body with
  |some c=>(iT c).getD i .skip
  |none=> .skip
section
variable {P:Program}
theorem cX.cast {c:Code} {n0:Nat} {t t1:List D} {s s1:List Ob} {ex XX:Ex} {t' XO:List D} {s' WG:List Ob} (h:cX P c n0 t s ex t' s') (h1:t=t1) (h2:s=s1) (h3:ex=XX) (h4:t'=XO) (h5:s'=WG):cX P c n0 t1 s1 XX XO WG:=by
 subst h1 h2 h3 h4 h5;exact h
theorem cX.from {c:Code} {n0:Nat} {t t1:List D} {s s1:List Ob} {ex:Ex} {t':List D} {s':List Ob} (h:cX P c n0 t s ex t' s') (h1:t=t1) (h2:s=s1):cX P c n0 t1 s1 ex t' s':=by
 subst h1 h2;exact h
theorem Me {C:Nat→Nat→Option Value} {l m:List D} {vs:Array Value} (h:cA (gk C) l vs) (hw:a7 l m):cA (gk C) m vs:=by
 obtain ⟨h1,h2⟩:=oJ hw
 refine ⟨by rw [← h1];exact h.1,fun i d v p q=> ?_⟩
 have Tq:i<l.length:=by rw [h.1];exact (Array.getElem?_eq_some_iff.1 q).1
 exact (h.2 i l[i] v (by simp [Tq]) q).wk rfl (h2 i _ _ (by simp [Tq]) p)
theorem aQ.args {f:FuncId} {az as':List D} {d:D} (h:aQ P f az d) (hw:a7 as' az):aQ P f as' d:=
 ⟨h.Ij,fun w C vs hC ha=>h.run w C vs hC (Me ha hw)⟩
theorem aF.cast {c:Code} {sp:HS} {n0:Nat} {t:List D} {s:List Ob} {ex:Ex} {t' XO:List D} {s' WG:List Ob} (h:aF P c sp n0 t s ex t' s') (h4:t'=XO) (h5:s'=WG):aF P c sp n0 t s ex XO WG:=by
 subst h4 h5;exact h
end
open Go
abbrev QD (kind op width size:Int) (fN:Bool) (dst src off ai:Int):D:=
  .agg [ak kind,ak op,ak width,ak size,ax fN,ak dst,ak src,aq off,aq ai]
def KP (dst src off ai:Int):Bool:=decide (0≤dst∧dst≤10∧0≤src∧src≤10∧ -32768≤off∧off≤32767∧ -2147483648≤ai∧ai≤2147483647)
def Jn (n:Int):Bool:=decide (n=1∨n=2∨n=4∨n=8)
def M3 (kind op width size:Int) (fN:Bool) (dst src off ai:Int):Bool:=
  if kind=0 then decide (0≤op∧op≤12∧(width=32∨width=64)∧dst<10∧size=0∧off=0)&&(if fN then decide (op≠8∧ai=0) else decide (src=0∧(op=8→ai=0)))
  else if kind=1 then Jn size&&decide (dst<10∧op=0∧width=0∧ai=0)&& !fN
  else if kind=2 then Jn size&&decide (op=0∧width=0∧ai=0)&& !fN
  else if kind=3 then decide (0≤op∧op≤10∧width=0∧size=0)&&(if fN then decide (ai=0) else decide (src=0))
  else if kind=4 then decide (op=0∧width=0∧size=0∧dst=0∧src=0∧ai=0)&& !fN
  else if kind=5 then decide (op=0∧width=0∧size=0∧dst=0∧src=0∧off=0∧0≤ai∧ai≤15)&& !fN
  else if kind=6 then decide (op=0∧width=0∧size=0∧dst=0∧src=0∧off=0∧ai=0)&& !fN
  else false
def RA (kind op width size:Int) (fN:Bool) (dst src off ai:Int):Bool:=KP dst src off ai&&M3 kind op width size fN dst src off ai
def Th (kind op:Int):Int:=if kind=0∨kind=3 then op else 0
def RO (kind width:Int):Int:=if kind=0 then width else 0
def Sp (kind size:Int):Int:=if kind=1∨kind=2 then size else 0
def RP (kind op:Int) (fN:Bool):Bool:=if kind=0 then fN&&decide (op≠8) else if kind=3 then fN else false
def SX (kind dst:Int):Int:=if kind=0∨kind=1∨kind=2∨kind=3 then dst else 0
def SU (kind op:Int) (fN:Bool) (src:Int):Int:=if kind=0 then (if fN&&decide (op≠8) then src else 0) else if kind=1∨kind=2 then src else if kind=3 then (if fN then src else 0) else 0
def SV (kind off:Int):Int:=if kind=1∨kind=2∨kind=3∨kind=4 then off else 0
def SW (kind op:Int) (fN:Bool) (ai:Int):Int:=if kind=0 then (if fN||decide (op=8) then 0 else ai) else if kind=3 then (if fN then 0 else ai) else if kind=5 then ai else 0
abbrev xD (op w dst src base af ai cc:Int):D:=
  .agg [ak op,ak w,ak dst,ak src,ak base,aq af,aq ai,ak cc]
abbrev L7 (kind op w dst src base af ai cc wW xx num to:Int):D:=
  .agg [ak kind,ak op,ak w,ak dst,ak src,ak base,aq af,aq ai,ak cc,ak wW,ak xx,aq num,aq to]
abbrev iB (xx wW:Int):D:=L7 1 0 0 0 0 0 0 0 0 wW xx 0 0
abbrev il (wW xx:Int):D:=L7 2 0 0 0 0 0 0 0 0 wW xx 0 0
abbrev two (op w dst src:Int):D:=L7 0 op w dst src 0 0 0 0 0 0 0 0
abbrev num (op w dst n:Int):D:=L7 0 op w dst 0 0 0 n 0 0 0 0 0
abbrev PC (w dst:Int):D:=L7 0 25 w dst 11 0 0 0 4 0 0 0 0
def Ma (width ai:Int):Bool:=if width=32 then decide (ai%4294967296=0) else decide (ai=0)
def NX (op:Int):Int:=if op=0 then 2 else if op=1 then 5 else if op=4 then 3 else if op=5 then 4 else if op=10 then 6 else if op=6 then 20 else if op=7 then 21 else 22
def N7 (op:Int):Int:=if op=0 then 9 else if op=1 then 12 else if op=4 then 10 else if op=5 then 11 else if op=10 then 13 else if op=6 then 17 else if op=7 then 18 else 19
def RZ (op width:Int) (fN:Bool) (dst src ai:Int):List D:=
  if op=3∨op=9 then
    (if fN then
      [iB 0 dst,iB 1 src,num 1 32 2 0,num 1 32 11 1,two 8 width 1 1,PC width 1,two 24 width 1 0,iB 1 src]++
        (if op=3 then [num 1 32 11 0,two 8 width 1 1,PC width 0,il dst 0] else [iB 11 dst,two 8 width 1 1,PC width 2,il dst 2])
    else if Ma width ai then
      (if op=3 then [num 1 width 0 0,il dst 0] else if width=32 then [iB 0 dst,two 0 32 0 0,il dst 0] else [iB 0 dst,il dst 0])
    else [iB 0 dst,num 1 width 1 ai,num 1 32 2 0,two 24 width 1 0,il dst (if op=3 then 0 else 2)])
  else if op=2 then (if fN then [iB 0 dst,iB 1 src,two 16 width 0 1,il dst 0] else [iB 0 dst,num 1 width 1 ai,two 16 width 0 1,il dst 0])
  else if op=8 then [iB 0 dst,two 23 width 0 0,il dst 0]
  else if op=11 then (if fN then (if width=32 then [iB 0 src,two 0 32 0 0,il dst 0] else [iB 0 src,il dst 0]) else [num 1 width 0 ai,il dst 0])
  else if op=6∨op=7∨op=12 then (if fN then [iB 0 dst,iB 1 src,two (NX op) width 0 0,il dst 0] else [iB 0 dst,num (N7 op) width 0 (ai%width),il dst 0])
  else (if fN then [iB 0 dst,iB 1 src,two (NX op) width 0 1,il dst 0] else [iB 0 dst,num (N7 op) width 0 ai,il dst 0])
def Rf (kind op width size:Int) (fN:Bool) (dst src off ai:Int):List D:=
  if kind=0 then RZ op width fN dst src ai
  else if kind=1 then [iB 1 src,L7 0 26 (8*size) 0 0 1 off 0 0 0 0 0 0,il dst 0]
  else if kind=2 then [iB 1 dst,iB 0 src,L7 0 27 (8*size) 0 0 1 off 0 0 0 0 0 0]
  else if kind=5 then [L7 3 0 0 0 0 0 0 0 0 0 0 ai 0,il 0 0,num 1 32 1 0,il 1 1,il 2 1,il 3 1,il 4 1,il 5 1]
  else if kind=6 then [L7 6 0 0 0 0 0 0 0 0 0 0 0 0]
  else []
theorem bw (n:Int):aaY.u8.wrap n=n%256:=by simp [aaY.wrap,aaY.bits,aaY.signed]
theorem En (n:Int):aaY.u16.wrap n=n%65536:=by simp [aaY.wrap,aaY.bits,aaY.signed]
theorem Em (n:Int):aaY.u32.wrap n=n%4294967296:=by simp [aaY.wrap,aaY.bits,aaY.signed]
theorem bZ (n:Int):aaY.u64.wrap n=n%18446744073709551616:=by simp [aaY.wrap,aaY.bits,aaY.signed]
theorem dh (n:Int):aaY.i8.wrap n=(n+128)%256 - 128:=by simp only [aaY.wrap,aaY.bits,aaY.signed];simp;split<;>omega
theorem PX (n:Int):aaY.i16.wrap n=(n+32768)%65536 - 32768:=by simp only [aaY.wrap,aaY.bits,aaY.signed];simp;split<;>omega
theorem nS (n:Int):aaY.i32.wrap n=(n+2147483648)%4294967296 - 2147483648:=by simp only [aaY.wrap,aaY.bits,aaY.signed];simp;split<;>omega
theorem aX (n:Int):aaY.i64.wrap n=(n+9223372036854775808)%18446744073709551616 - 9223372036854775808:=by simp only [aaY.wrap,aaY.bits,aaY.signed];simp;split<;>omega
theorem toNat_ofInt (w:Nat) (a:Int):(Zw w a).toNat=(a%(2^w:Nat)).toNat:=by simp [BitVec.toNat_ofInt]
theorem and_ones (w k:Nat) (hk:k≤w) (a:Int):((Zw w a&&&Zw w ((2^k - 1:Nat):Int)).toNat:Int)=a%(2^k:Nat):=by
 have hp:0<2^k:=Nat.two_pow_pos k
 have hle:2^k≤2^w:=Nat.pow_le_pow_right (by omega) hk
 have e2:(((2^k - 1:Nat):Int)%((2^w:Nat):Int)).toNat=2^k - 1:=by
  rw [Int.emod_eq_of_lt (by omega) (by omega)]
  omega
 rw [BitVec.toNat_and,toNat_ofInt,toNat_ofInt,e2,Nat.and_two_pow_sub_one_eq_mod]
 have h0:0≤a%((2^w:Nat):Int):=Int.emod_nonneg _ (by omega)
 have h1:((a%((2^w:Nat):Int)).toNat:Int)=a%((2^w:Nat):Int):=Int.toNat_of_nonneg h0
 rw [Int.natCast_emod,h1]
 have hd:((2^k:Nat):Int)∣((2^w:Nat):Int):=by
  rw [Int.natCast_dvd_natCast];exact Nat.pow_dvd_pow 2 hk
 exact Int.emod_emod_of_dvd a hd
theorem QS (a:Int):((Zw 64 a&&&Zw 64 4294967295).toNat:Int)=a%4294967296:=by have:=and_ones 64 32 (by omega) a;exact this
structure XS where
  op:Int
  w:Int
  ab:Int
  ae:Int
  aa:Int
  af:Int
  ai:Int
  cc:Int
deriving DecidableEq
def XS.d (x:XS):D:=xD x.op x.w x.ab x.ae x.aa x.af x.ai x.cc
structure SC where
  kind:Int
  op:Int
  w:Int
  ab:Int
  ae:Int
  aa:Int
  af:Int
  ai:Int
  cc:Int
  wW:Int
  xx:Int
  num:Int
  to:Int
deriving DecidableEq
def SC.d (x:SC):D:=L7 x.kind x.op x.w x.ab x.ae x.aa x.af x.ai x.cc x.wW x.xx x.num x.to
structure kH where
  kind:Int
  op:Int
  width:Int
  size:Int
  fN:Bool
  ab:Int
  ae:Int
  off:Int
  ai:Int
deriving DecidableEq
def kH.d (x:kH):D:=QD x.kind x.op x.width x.size x.fN x.ab x.ae x.off x.ai
abbrev Te (kind op w dst src base af ai cc wW xx num to:Int):List D:=
  [ak kind,ak op,ak w,ak dst,ak src,ak base,aq af,aq ai,ak cc,ak wW,ak xx,aq num,aq to]
def S9 (n:Int):Int:=aaY.i64.wrap (1*2^(min (aaY.u64.wrap n).toNat aaY.i64.bits))
def lV (n:Int):Int:=aaY.i64.wrap (1*2^(min n.toNat aaY.i64.bits))
def GY (a b:Int):Int:=aaY.i64.wrap ((Zw aaY.i64.bits a|||Zw aaY.i64.bits b).toNat:Int)
def QQ (a b:Int):Int:=aaY.i64.wrap ((Zw aaY.i64.bits a&&& ~~~Zw aaY.i64.bits b).toNat:Int)
def aC (op:Int):Int:=
  if op=0∨(2≤op∧op≤8) then 1
  else if op=16 then 2
  else if op=1∨(9≤op∧op≤15) then 3
  else if 17≤op∧op≤19 then 4
  else if 20≤op∧op≤24 then 5
  else if op=25 then 6
  else if op=26 then 7
  else if op=27 then 8
  else if op=28 then 9
  else if op=29 then 10
  else if op=30∨op=31 then 11
  else 0
def bh (op:Int):Int:=
  if op=0 then 0x89 else if op=1 then 0xC7 else if op=2 then 0x01 else if op=3 then 0x09 else if op=4 then 0x21 else if op=5 then 0x29 else if op=6 then 0x31 else if op=7 then 0x39 else if op=8 then 0x85
  else if 9≤op∧op≤14 then 0x81 else if op=15 then 0xF7 else if op=16 then 0xAF else if 17≤op∧op≤19 then 0xC1 else if 20≤op∧op≤22 then 0xD3 else if op=23∨op=24 then 0xF7
  else if op=25 then 0x40 else if op=26 then 0x8B else if op=27 then 0x89 else if op=28 then 0xE9 else if op=29 then 0x80 else if op=30 then 0xC3 else if op=31 then 0x05 else 0
def bO (op:Int):Int:=
  if op=10 then 1 else if op=11∨op=17∨op=20 then 4 else if op=12∨op=18∨op=21 then 5 else if op=13∨op=24 then 6 else if op=14∨op=19∨op=22 then 7 else if op=23 then 3 else 0
def bq (op:Int):Int:=
  if aC op=1∨aC op=2 then 1 else if aC op=0 then 0 else aC op - 1
def ba (n:Int):Bool:=decide (0≤n∧n≤15)
def cT (n:Int):Bool:=decide ((2≤n∧n≤7)∨(12≤n∧n≤15))
def aP (w:Int):Bool:=decide (w=32∨w=64)
def aU (w:Int):Bool:=decide (w=8∨w=16∨w=32∨w=64)
def mC (w ai:Int):Bool:=decide (w=32∨(w=8∧ -128≤ai∧ai≤127))
def iK (sh w dst src base af ai cc:Int):Bool:=
  if sh=1∨sh=2 then aP w&&decide (base=0∧af=0∧ai=0∧cc=0)
  else if sh=3 then aP w&&decide (src=0∧base=0∧af=0∧cc=0)
  else if sh=4 then aP w&&decide (src=0∧base=0∧af=0∧cc=0∧0≤ai∧ai<w)
  else if sh=5 then aP w&&decide (src=0∧base=0∧af=0∧ai=0∧cc=0)
  else if sh=6 then aP w&&decide (base=0∧af=0∧ai=0)&&cT cc
  else if sh=7 then aU w&&decide (src=0∧ai=0∧cc=0)
  else if sh=8 then aU w&&decide (dst=0∧ai=0∧cc=0)
  else if sh=9 then mC w ai&&decide (dst=0∧src=0∧base=0∧af=0∧cc=0)
  else if sh=10 then mC w ai&&decide (dst=0∧src=0∧base=0∧af=0)&&cT cc
  else if sh=11 then decide (w=0∧dst=0∧src=0∧base=0∧af=0∧ai=0∧cc=0)
  else false
def bL (op w dst src base af ai cc:Int):Bool:=
  ba dst&&ba src&&ba base&&decide (-2147483648≤af∧af≤2147483647)&&decide (-2147483648≤ai∧ai≤2147483647)&&iK (aC op) w dst src base af ai cc
def a8 (n:Int):List Int:= [n%256,n / 256%256,n / 65536%256,n / 16777216%256]
def da (wide:Bool) (r m:Int):Int:=64+(if wide then 8 else 0)+4*(r / 8)+m / 8
def bW (wide:Bool) (r m:Int) (always:Bool):Bool:=wide||always||decide (8≤r∨8≤m)
def bp (wide:Bool) (r m:Int) (always:Bool):List Int:=if bW wide r m always then [da wide r m] else []
def bm (r m:Int):Int:=192+8*(r%8)+m%8
def bA (r b af:Int):List Int:=if b%8=4 then (128+8*(r%8)+b%8)::36::a8 af else (128+8*(r%8)+b%8)::a8 af
def aD (op w dst src base af ai cc:Int):List Int:=
  let sh:=aC op
  let wide:=decide (w=64)
  if sh=1 then bp wide src dst false++ [bh op,bm src dst]
  else if sh=2 then bp wide dst src false++ [15,bh op,bm dst src]
  else if sh=6 then bp wide dst src false++ [15,64+cc,bm dst src]
  else if sh=3 then (if op=1∧w=32 then bp false 0 dst false++((184+dst%8)::a8 ai) else bp wide 0 dst false++(bh op::bm (bO op) dst::a8 ai))
  else if sh=4 then bp wide 0 dst false++ [bh op,bm (bO op) dst,ai%256]
  else if sh=5 then bp wide 0 dst false++ [bh op,bm (bO op) dst]
  else if sh=7 then bp wide dst base false++((if w=8 then [15,182] else if w=16 then [15,183] else [139])++bA dst base af)
  else if sh=8 then (if w=16 then [102] else [])++(bp wide src base (decide (w=8))++((if w=8 then [136] else [137])++bA src base af))
  else if sh=9 then (if w=8 then [235,ai%256] else 233::a8 ai)
  else if sh=10 then (if w=8 then [112+cc,ai%256] else 15::(128+cc)::a8 ai)
  else if op=31 then [15,5]
  else [195]
def bD (l:List Int):List D:=l.map fun n=> .int .u8 n
def mi (op w dst src base af ai cc:Int):List D:=if bL op w dst src base af ai cc then bD (aD op w dst src base af ai cc) else []
def qm (op w dst src base af ai cc:Int):Int:=if bL op w dst src base af ai cc then 0 else 2
def fY (a b c d:Int):Int:=(a+256*b+65536*c+16777216*d+2147483648)%4294967296 - 2147483648
def e8 (a:Int):Int:=(a+128)%256 - 128
theorem HQ {n:Int} (h0: -2147483648≤n) (h1:n≤2147483647):fY (n%256) (n / 256%256) (n / 65536%256) (n / 16777216%256)=n:=by
 simp only [fY]
 omega
theorem pn {n:Int} (h0: -128≤n) (h1:n≤127):e8 (n%256)=n:=by
 simp only [e8]
 omega
theorem dA {op w dst src base af ai cc:Int} (h:bL op w dst src base af ai cc=true):
  (0≤dst∧dst≤15∧0≤src∧src≤15∧0≤base∧base≤15∧ -2147483648≤af∧af≤2147483647∧ -2147483648≤ai∧ai≤2147483647)∧iK (aC op) w dst src base af ai cc=true:=by
 simp only [bL,ba,ZD,bX] at h
 exact ⟨by omega,h.2⟩
theorem gY {op:Int} (h:aC op≠0):op=0∨op=1∨op=2∨op=3∨op=4∨op=5∨op=6∨op=7∨op=8∨op=9∨op=10∨op=11∨op=12∨op=13∨op=14∨op=15∨op=16∨op=17∨op=18∨op=19∨op=20∨op=21∨op=22∨op=23∨op=24∨op=25∨op=26∨op=27∨op=28∨op=29∨op=30∨op=31:=by
 by_cases h2:0≤op∧op≤31
 ·omega
 ·refine absurd ?_ h
  unfold aC
  repeat (rw [if_neg (by omega)])
def Br:List Int→Int
  |a::b::c::d::_=>fY a b c d
  |_=>0
def hd (l:List Int):Int:=l.headD 0
def ic:List Int:= [0,1,2,3,4,5,6,7,8,9,10,11,12,13,14,15,16,17,18,19,20,21,22,23,24,25,26,27,28,29,30,31]
def Ll (p:Int→Bool):Int:=(ic.find? p).getD (-1)
def pk (c:Int):Int:=Ll fun o=>decide (aC o=1∧bh o=c)
def EV (c k:Int):Int:=Ll fun o=>decide ((aC o=3∨aC o=4∨aC o=5)∧bh o=c∧bO o=k)
def GC:List Int→Bool×Int×Int×List Int
  |h::t=>if 64≤h∧h≤79 then (decide (72≤h),(h - 64) / 4%2,(h - 64)%2,t) else (false,0,0,h::t)
  | []=>(false,0,0,[])
def D2 (t:List Int):List Int:=if hd t%8=4 then t.drop 2 else t.drop 1
def Iv (wide:Bool) (r m c:Int) (t:List Int):XS:=
  let w:=if wide then 64 else 32
  let wW:=hd t / 8%8+8*r
  let rm:=hd t%8+8*m
  if c=175 then ⟨16,w,wW,rm,0,0,0,0⟩
  else if 64≤c∧c≤79 then ⟨25,w,wW,rm,0,0,0,c - 64⟩
  else if 128≤c∧c≤143 then ⟨29,32,0,0,0,0,Br t,c - 128⟩
  else if c=182 then ⟨26,8,wW,0,rm,Br (D2 t),0,0⟩
  else if c=183 then ⟨26,16,wW,0,rm,Br (D2 t),0,0⟩
  else ⟨31,0,0,0,0,0,0,0⟩
def kF (half wide:Bool) (r m c:Int) (t:List Int):XS:=
  let w:=if wide then 64 else 32
  let wW:=hd t / 8%8+8*r
  let rm:=hd t%8+8*m
  if c=15 then Iv wide r m (hd t) (t.drop 1)
  else if 184≤c∧c≤191 then ⟨1,32,c - 184+8*m,0,0,0,Br t,0⟩
  else if 112≤c∧c≤127 then ⟨29,8,0,0,0,0,e8 (hd t),c - 112⟩
  else if c=235 then ⟨28,8,0,0,0,0,e8 (hd t),0⟩
  else if c=233 then ⟨28,32,0,0,0,0,Br t,0⟩
  else if c=195 then ⟨30,0,0,0,0,0,0,0⟩
  else if c=139 then ⟨26,w,wW,0,rm,Br (D2 t),0,0⟩
  else if c=136 then ⟨27,8,0,wW,rm,Br (D2 t),0,0⟩
  else if c=137∧hd t<192 then ⟨27,if half then 16 else w,0,wW,rm,Br (D2 t),0,0⟩
  else if pk c≠ -1 then ⟨pk c,w,rm,wW,0,0,0,0⟩
  else
    let o:=EV c (hd t / 8%8)
    if aC o=3 then ⟨o,w,rm,0,0,0,Br (t.drop 1),0⟩
    else if aC o=4 then ⟨o,w,rm,0,0,0,hd (t.drop 1),0⟩
    else ⟨o,w,rm,0,0,0,0,0⟩
def QM (half:Bool) (p:Bool×Int×Int×List Int):XS:=kF half p.1 p.2.1 p.2.2.1 (hd p.2.2.2) (p.2.2.2.drop 1)
def jK (l:List Int):XS:=if hd l=102 then QM true (GC (l.drop 1)) else QM false (GC l)
theorem EN {wide al:Bool} {r m c:Int} {t:List Int} (r0:0≤r) (r1:r≤15) (m0:0≤m) (m1:m≤15) (hc:¬(64≤c∧c≤79)):GC (bp wide r m al++c::t)=(wide,r / 8,m / 8,c::t):=by
 unfold bp
 split
 ·simp only [ZG,ZT,GC,da]
  cases wide
  ·simp only [aah,if_false]
   rw [if_pos (by omega)]
   refine Prod.ext ?_ (Prod.ext ?_ (Prod.ext ?_ rfl))<;>simp<;>omega
  ·simp only [if_true]
   rw [if_pos (by omega)]
   refine Prod.ext ?_ (Prod.ext ?_ (Prod.ext ?_ rfl))<;>simp<;>omega
 ·rename_i h
  simp only [bW,ZV,bX,not_or,Bool.not_eq_true] at h
  simp only [ZT,GC,if_neg hc]
  rw [h.1.1]
  refine Prod.ext rfl (Prod.ext ?_ (Prod.ext ?_ rfl))<;>simp<;>omega
theorem CT {wide al:Bool} {r m c:Int} {t:List Int} (r0:0≤r) (r1:r≤15) (m0:0≤m) (m1:m≤15) (hc:c≠102):hd (bp wide r m al++c::t)≠102:=by
 unfold bp
 split
 ·simp only [ZG,hd,List.headD_cons,da]
  cases wide<;>simp<;>omega
 ·simpa [hd] using hc
theorem ie {wide al:Bool} {r m c:Int} {t:List Int} (r0:0≤r) (r1:r≤15) (m0:0≤m) (m1:m≤15) (hc:¬(64≤c∧c≤79)) (h2:c≠102):jK (bp wide r m al++c::t)=kF false wide (r / 8) (m / 8) c t:=by
 unfold jK
 rw [if_neg (CT r0 r1 m0 m1 h2),EN r0 r1 m0 m1 hc]
 rfl
theorem Ly {wide al:Bool} {r m c:Int} {t:List Int} (r0:0≤r) (r1:r≤15) (m0:0≤m) (m1:m≤15) (hc:¬(64≤c∧c≤79)):jK (102::(bp wide r m al++c::t))=kF true wide (r / 8) (m / 8) c t:=by
 unfold jK
 rw [if_pos (show hd (102::(bp wide r m al++c::t))=102 from rfl),List.drop_one,List.tail_cons,EN r0 r1 m0 m1 hc]
 rfl
theorem lM {c:Int} {t:List Int} (hc:¬(64≤c∧c≤79)) (h2:c≠102):jK (c::t)=kF false false 0 0 c t:=by
 unfold jK
 rw [if_neg (by simpa [hd] using h2),GC,if_neg hc]
 rfl
theorem pa {r m:Int} (r0:0≤r) (r1:r≤15) (m0:0≤m) (m1:m≤15):bm r m / 8%8+8*(r / 8)=r:=by unfold bm;omega
theorem lY {r m:Int} (r0:0≤r) (r1:r≤15) (m0:0≤m) (m1:m≤15):bm r m%8+8*(m / 8)=m:=by unfold bm;omega
theorem sv {r m:Int} (r0:0≤r) (r1:r≤7) (m0:0≤m) (m1:m≤15):bm r m / 8%8=r:=by unfold bm;omega
theorem EE {r m:Int} (r0:0≤r) (m0:0≤m):¬bm r m<192:=by unfold bm;omega
theorem kv {r b af:Int} {t:List Int} :hd (bA r b af++t)=128+8*(r%8)+b%8:=by unfold bA;split<;>simp [hd]
theorem kW {r b af:Int} {t:List Int} :D2 (bA r b af++t)=a8 af++t:=by
 unfold D2
 rw [kv]
 unfold bA
 split<;>rename_i h<;>split<;>rename_i h2<;>first|(exfalso;omega)|simp
theorem fA {n:Int} {t:List Int} (h0: -2147483648≤n) (h1:n≤2147483647):Br (a8 n++t)=n:=by
 simp only [a8,ZG,Br]
 exact HQ h0 h1
theorem kV {r b:Int} (r0:0≤r) (r1:r≤15):(128+8*(r%8)+b%8) / 8%8+8*(r / 8)=r:=by omega
theorem mZ {r b:Int} (b0:0≤b) (b1:b≤15):(128+8*(r%8)+b%8)%8+8*(b / 8)=b:=by omega
theorem Pa {r b:Int} :128+8*(r%8)+b%8<192:=by omega
theorem xz:∀n:Fin 32,aC (n.val:Int)=1→pk (bh (n.val:Int))=n.val:=by decide+kernel
theorem l5:∀n:Fin 32,aC (n.val:Int)=3∨aC (n.val:Int)=4∨aC (n.val:Int)=5→EV (bh (n.val:Int)) (bO (n.val:Int))=n.val:=by decide+kernel
theorem oo:∀n:Fin 32,aC (n.val:Int)=1→(let c:=bh (n.val:Int);c≠15∧¬(64≤c∧c≤79)∧c≠102∧¬(184≤c∧c≤191)∧¬(112≤c∧c≤127)∧c≠235∧c≠233∧c≠195∧c≠139∧c≠136∧pk c≠ -1):=by decide+kernel
theorem gP:∀n:Fin 32,aC (n.val:Int)=3∨aC (n.val:Int)=4∨aC (n.val:Int)=5→(let c:=bh (n.val:Int);c≠15∧¬(64≤c∧c≤79)∧c≠102∧¬(184≤c∧c≤191)∧¬(112≤c∧c≤127)∧c≠235∧c≠233∧c≠195∧c≠139∧c≠136∧c≠137∧pk c= -1∧0≤bO (n.val:Int)∧bO (n.val:Int)≤7):=by decide+kernel
theorem sH {op:Int} (h:aC op≠0):∃n:Fin 32,op=n.val:=by
 have:=gY h
 exact ⟨⟨op.toNat,by omega⟩,by simp;omega⟩
theorem ej {w:Int} (h:aP w=true):w=32∨w=64:=by simpa [aP] using h
theorem iV {w:Int} (h:aP w=true):(if decide (w=64)=true then 64 else 32)=w:=by rcases ej h with rfl|rfl<;>rfl
theorem qV:∀n:Fin 32,aC (n.val:Int)=6→(n.val:Int)=25:=by decide+kernel
theorem qU:∀n:Fin 32,aC (n.val:Int)=7→(n.val:Int)=26:=by decide+kernel
theorem qT:∀n:Fin 32,aC (n.val:Int)=8→(n.val:Int)=27:=by decide+kernel
theorem qS:∀n:Fin 32,aC (n.val:Int)=9→(n.val:Int)=28:=by decide+kernel
theorem oQ:∀n:Fin 32,aC (n.val:Int)=10→(n.val:Int)=29:=by decide+kernel
theorem oP:∀n:Fin 32,aC (n.val:Int)=11→(n.val:Int)=30∨(n.val:Int)=31:=by decide+kernel
theorem ff {w:Int} (h:aU w=true):w=8∨w=16∨w=32∨w=64:=by simpa [aU] using h
theorem Ba {op w dst src base af ai cc:Int} (h:bL op w dst src base af ai cc=true) (t:List Int):jK (aD op w dst src base af ai cc++t)=⟨op,w,dst,src,base,af,ai,cc⟩:=by
 obtain ⟨⟨d0,d1,s0,s1,b0,b1,p0,p1,i0,i1⟩,hs⟩:=dA h
 have U3:aC op≠0:=by
  intro e
  rw [e] at hs
  simp [iK] at hs
 obtain ⟨k,rfl⟩:=sH U3
 unfold iK at hs
 split at hs
 ·rename_i Wk
  simp only [ZD,bX] at hs
  obtain ⟨hw,rfl,rfl,rfl,rfl⟩:=hs
  have ew:=iV hw
  rcases Wk with h1|h1
  ·
   obtain ⟨c1,c2,c3,c4,c5,c6,c7,c8,c9,Tp,TJ⟩:=oo k h1
   have e:aD (k.val:Int) w dst src 0 0 0 0=bp (decide (w=64)) src dst false++ [bh (k.val:Int),bm src dst]:=by simp only [aD,h1,if_true]
   rw [e,ZM,ZG,ZG,ZT,ie s0 s1 d0 d1 c2 c3]
   simp only [kF,if_neg c1,if_neg c4,if_neg c5,if_neg c6,if_neg c7,if_neg c8,if_neg c9,if_neg Tp]
   have g:hd (bm src dst::t)=bm src dst:=rfl
   rw [g,if_neg (by have:=EE (m:=dst) s0 d0;omega),if_pos TJ,xz k h1,pa s0 s1 d0 d1,lY s0 s1 d0 d1,ew]
  ·
   have hk:(k.val:Int)=16:=by
    have:=gY (op:=(k.val:Int)) (by omega)
    revert h1
    rcases this with e|e|e|e|e|e|e|e|e|e|e|e|e|e|e|e|e|e|e|e|e|e|e|e|e|e|e|e|e|e|e|e<;>rw [e]<;>decide
   rw [hk]
   have e:aD 16 w dst src 0 0 0 0=bp (decide (w=64)) dst src false++ [15,175,bm dst src]:=by
    simp only [aD,show aC 16=2 from rfl,show bh 16=175 from rfl,if_true,show ¬(2:Int)=1 by decide,if_false]
   rw [e,ZM,ZG,ZG,ZG,ZT,ie d0 d1 s0 s1 (by decide) (by decide)]
   simp only [kF,if_true,Iv,hd,List.headD_cons,List.drop_succ_cons,aaD]
   rw [pa d0 d1 s0 s1,lY d0 d1 s0 s1,ew]
 ·rename_i WN
  have n1:¬aC (k.val:Int)=1:=fun e=>WN (.inl e)
  have n2:¬aC (k.val:Int)=2:=fun e=>WN (.inr e)
  split at hs
  ·
   rename_i h3
   simp only [ZD,bX] at hs
   obtain ⟨hw,rfl,rfl,rfl,rfl⟩:=hs
   have ew:=iV hw
   by_cases hm:(k.val:Int)=1∧w=32
   ·obtain ⟨hm,rfl⟩:=hm
    have e:aD (k.val:Int) 32 dst 0 0 0 ai 0=bp false 0 dst false++((184+dst%8)::a8 ai):=by
     rw [hm]
     simp [aD,show aC 1=3 from rfl]
    rw [e,ZM,ZG,ie (by omega) (by omega) d0 d1 (by omega) (by omega)]
    have c1:¬184+dst%8=15:=by omega
    simp only [kF,if_neg c1]
    rw [if_pos (by omega),fA i0 i1,hm]
    congr 1
    omega
   ·obtain ⟨c1,c2,c3,c4,c5,c6,c7,c8,c9,Tp,TJ,Tx,u0,u1⟩:=gP k (.inl h3)
    have e:aD (k.val:Int) w dst 0 0 0 ai 0=bp (decide (w=64)) 0 dst false++(bh (k.val:Int)::bm (bO (k.val:Int)) dst::a8 ai):=by
     simp only [aD,h3,if_neg hm,show ¬(3:Int)=1 by decide,show ¬(3:Int)=2 by decide,show ¬(3:Int)=6 by decide,if_false,if_true]
    rw [e,ZM,ZG,ZG,ie (by omega) (by omega) d0 d1 c2 c3]
    simp only [kF,if_neg c1,if_neg c4,if_neg c5,if_neg c6,if_neg c7,if_neg c8,if_neg c9,if_neg Tp]
    have g:hd (bm (bO (k.val:Int)) dst::(a8 ai++t))=bm (bO (k.val:Int)) dst:=rfl
    rw [g,if_neg (by omega),if_neg (by simp [Tx]),sv u0 u1 d0 d1,l5 k (.inl h3),if_pos h3,List.drop_one,List.tail_cons,fA i0 i1,lY u0 (by omega) d0 d1,ew]
  ·rename_i n3
   split at hs
   ·
    rename_i h4
    simp only [ZD,bX] at hs
    obtain ⟨hw,rfl,rfl,rfl,rfl,j0,j1⟩:=hs
    have ew:=iV hw
    have Uo:=ej hw
    obtain ⟨c1,c2,c3,c4,c5,c6,c7,c8,c9,Tp,TJ,Tx,u0,u1⟩:=gP k (.inr (.inl h4))
    have e:aD (k.val:Int) w dst 0 0 0 ai 0=bp (decide (w=64)) 0 dst false++ [bh (k.val:Int),bm (bO (k.val:Int)) dst,ai%256]:=by
     simp only [aD,h4,show ¬(4:Int)=1 by decide,show ¬(4:Int)=2 by decide,show ¬(4:Int)=6 by decide,show ¬(4:Int)=3 by decide,if_false,if_true]
    rw [e,ZM,ZG,ZG,ZG,ZT,ie (by omega) (by omega) d0 d1 c2 c3]
    simp only [kF,if_neg c1,if_neg c4,if_neg c5,if_neg c6,if_neg c7,if_neg c8,if_neg c9,if_neg Tp]
    have g:hd (bm (bO (k.val:Int)) dst::ai%256::t)=bm (bO (k.val:Int)) dst:=rfl
    rw [g,if_neg (by omega),if_neg (by simp [Tx]),sv u0 u1 d0 d1,l5 k (.inr (.inl h4)),if_neg (by omega),if_pos h4,List.drop_one,List.tail_cons,lY u0 (by omega) d0 d1,ew]
    have:hd (ai%256::t)=ai:=by simp only [hd,List.headD_cons];omega
    rw [this]
   ·rename_i n4
    split at hs
    ·
     rename_i h5
     simp only [ZD,bX] at hs
     obtain ⟨hw,rfl,rfl,rfl,rfl,rfl⟩:=hs
     have ew:=iV hw
     obtain ⟨c1,c2,c3,c4,c5,c6,c7,c8,c9,Tp,TJ,Tx,u0,u1⟩:=gP k (.inr (.inr h5))
     have e:aD (k.val:Int) w dst 0 0 0 0 0=bp (decide (w=64)) 0 dst false++ [bh (k.val:Int),bm (bO (k.val:Int)) dst]:=by
      simp only [aD,h5,show ¬(5:Int)=1 by decide,show ¬(5:Int)=2 by decide,show ¬(5:Int)=6 by decide,show ¬(5:Int)=3 by decide,show ¬(5:Int)=4 by decide,if_false,if_true]
     rw [e,ZM,ZG,ZG,ZT,ie (by omega) (by omega) d0 d1 c2 c3]
     simp only [kF,if_neg c1,if_neg c4,if_neg c5,if_neg c6,if_neg c7,if_neg c8,if_neg c9,if_neg Tp]
     have g:hd (bm (bO (k.val:Int)) dst::t)=bm (bO (k.val:Int)) dst:=rfl
     rw [g,if_neg (by omega),if_neg (by simp [Tx]),sv u0 u1 d0 d1,l5 k (.inr (.inr h5)),if_neg (by omega),if_neg (by omega),lY u0 (by omega) d0 d1,ew]
    ·rename_i n5
     split at hs
     ·
      rename_i h6
      have hk:=qV k h6
      rw [hk] at h6 ⊢
      simp only [ZD,bX] at hs
      obtain ⟨⟨hw,rfl,rfl,rfl⟩,hc⟩:=hs
      have ew:=iV hw
      simp only [cT,bX] at hc
      have e:aD 25 w dst src 0 0 0 cc=bp (decide (w=64)) dst src false++ [15,64+cc,bm dst src]:=by
       simp [aD,show aC 25=6 from rfl]
      rw [e,ZM,ZG,ZG,ZG,ZT,ie d0 d1 s0 s1 (by decide) (by decide)]
      have c1:¬64+cc=175:=by omega
      have c2:64≤64+cc∧64+cc≤79:=by omega
      simp only [kF,if_true,Iv,hd,List.headD_cons,List.drop_succ_cons,aaD,if_neg c1,if_pos c2]
      rw [pa d0 d1 s0 s1,lY d0 d1 s0 s1,ew]
      congr 1
      omega
     ·rename_i n6
      split at hs
      ·
       rename_i h7
       have hk:=qU k h7
       rw [hk] at h7 ⊢
       simp only [ZD,bX] at hs
       obtain ⟨hw,rfl,rfl,rfl⟩:=hs
       have e:aD 26 w dst 0 base af 0 0=bp (decide (w=64)) dst base false++((if w=8 then [15,182] else if w=16 then [15,183] else [139])++bA dst base af):=by
        simp [aD,show aC 26=7 from rfl]
       rw [e]
       rcases ff hw with rfl|rfl|rfl|rfl
       ·rw [if_pos rfl,ZM,ZM,ZG,ie d0 d1 b0 b1 (by decide) (by decide)]
        simp only [kF,if_true,Iv,ZG,ZT]
        have g:hd (182::(bA dst base af++t))=182:=rfl
        simp only [g,List.drop_one,List.tail_cons,kv,kW,fA p0 p1,kV d0 d1,mZ b0 b1]
        rfl
       ·rw [if_neg (by decide),if_pos rfl,ZM,ZM,ZG,ie d0 d1 b0 b1 (by decide) (by decide)]
        simp only [kF,if_true,Iv,ZG,ZT]
        have g:hd (183::(bA dst base af++t))=183:=rfl
        simp only [g,List.drop_one,List.tail_cons,kv,kW,fA p0 p1,kV d0 d1,mZ b0 b1]
        rfl
       ·rw [if_neg (by decide),if_neg (by decide),ZM,ZM,ZG,ZT,ie d0 d1 b0 b1 (by decide) (by decide)]
        simp only [kF,kv,kW,fA p0 p1,kV d0 d1,mZ b0 b1]
        rfl
       ·rw [if_neg (by decide),if_neg (by decide),ZM,ZM,ZG,ZT,ie d0 d1 b0 b1 (by decide) (by decide)]
        simp only [kF,kv,kW,fA p0 p1,kV d0 d1,mZ b0 b1]
        rfl
      ·rename_i n7
       split at hs
       ·
        rename_i h8
        have hk:=qT k h8
        rw [hk] at h8 ⊢
        simp only [ZD,bX] at hs
        obtain ⟨hw,rfl,rfl,rfl⟩:=hs
        have e:aD 27 w 0 src base af 0 0=(if w=16 then [102] else [])++(bp (decide (w=64)) src base (decide (w=8))++((if w=8 then [136] else [137])++bA src base af)):=by
         simp [aD,show aC 27=8 from rfl]
        rw [e]
        have ml:= @Pa src base
        rcases ff hw with rfl|rfl|rfl|rfl
        ·rw [if_neg (by decide),if_pos rfl,ZT,ZM,ZM,ZG,ZT,ie s0 s1 b0 b1 (by decide) (by decide)]
         simp only [kF,kv,kW,fA p0 p1,kV s0 s1,mZ b0 b1]
         rfl
        ·rw [if_pos rfl,if_neg (by decide),ZM,ZM,ZM,ZG,ZG,ZT,ZT,Ly s0 s1 b0 b1 (by decide)]
         simp only [kF,kv,kW,fA p0 p1,kV s0 s1,mZ b0 b1,ml,eJ]
         rfl
        ·rw [if_neg (by decide),if_neg (by decide),ZT,ZM,ZM,ZG,ZT,ie s0 s1 b0 b1 (by decide) (by decide)]
         simp only [kF,kv,kW,fA p0 p1,kV s0 s1,mZ b0 b1,ml,eJ]
         rfl
        ·rw [if_neg (by decide),if_neg (by decide),ZT,ZM,ZM,ZG,ZT,ie s0 s1 b0 b1 (by decide) (by decide)]
         simp only [kF,kv,kW,fA p0 p1,kV s0 s1,mZ b0 b1,ml,eJ]
         rfl
       ·rename_i n8
        split at hs
        ·
         rename_i h9
         have hk:=qS k h9
         rw [hk] at h9 ⊢
         simp only [ZD,bX,mC] at hs
         obtain ⟨hw,rfl,rfl,rfl,rfl,rfl⟩:=hs
         have e:aD 28 w 0 0 0 0 ai 0=if w=8 then [235,ai%256] else 233::a8 ai:=by
          simp [aD,show aC 28=9 from rfl]
         rw [e]
         rcases hw with rfl|⟨rfl,j0,j1⟩
         ·rw [if_neg (by decide),ZG,lM (by decide) (by decide)]
          simp only [kF,fA i0 i1]
          rfl
         ·rw [if_pos rfl,ZG,lM (by decide) (by decide)]
          have g:hd ([ai%256]++t)=ai%256:=rfl
          simp only [kF,g,pn j0 j1]
          rfl
        ·rename_i n9
         split at hs
         ·
          rename_i UE
          have hk:=oQ k UE
          rw [hk] at UE ⊢
          simp only [ZD,bX,mC] at hs
          obtain ⟨⟨hw,rfl,rfl,rfl,rfl⟩,hc⟩:=hs
          simp only [cT,bX] at hc
          have e:aD 29 w 0 0 0 0 ai cc=if w=8 then [112+cc,ai%256] else 15::(128+cc)::a8 ai:=by
           simp [aD,show aC 29=10 from rfl]
          rw [e]
          rcases hw with rfl|⟨rfl,j0,j1⟩
          ·rw [if_neg (by decide),ZG,ZG,lM (by decide) (by decide)]
           have g:hd ((128+cc)::(a8 ai++t))=128+cc:=rfl
           simp only [kF,if_true,Iv,g,List.drop_one,List.tail_cons,fA i0 i1]
           rw [if_neg (by omega),if_neg (by omega),if_pos (by omega)]
           congr 1
           omega
          ·rw [if_pos rfl,ZG,lM (by omega) (by omega)]
           have g:hd ([ai%256]++t)=ai%256:=rfl
           simp only [kF,g,pn j0 j1]
           rw [if_neg (by omega),if_neg (by omega),if_pos (by omega)]
           congr 1
           omega
         ·rename_i Zi
          split at hs
          ·rename_i Vn
           simp only [bX] at hs
           obtain ⟨rfl,rfl,rfl,rfl,rfl,rfl,rfl⟩:=hs
           rcases oP k Vn with hk|hk<;>rw [hk]
           ·have e:aD 30 0 0 0 0 0 0 0= [195]:=rfl
            rw [e,ZG,lM (by decide) (by decide)]
            rfl
           ·have e:aD 31 0 0 0 0 0 0 0= [15,5]:=rfl
            rw [e,ZG,lM (by decide) (by decide)]
            rfl
          ·cases hs
theorem iP {d:Int} (h0:0≤d) (h1:d≤15):∃n:Fin 16,d=(n.val:Int):=⟨⟨d.toNat,by omega⟩,by simp;omega⟩
theorem Fb {r m:Int} (r0:0≤r) (r1:r≤15) (m0:0≤m) (m1:m≤15):(aaY.i8.wrap ((Zw 8 (aaY.i8.wrap ((Zw 8 r|||Zw 8 m).toNat:Int))&&&Zw 8 8).toNat:Int) !=0)=decide (8≤r∨8≤m):=by
 obtain ⟨n,rfl⟩:=iP r0 r1
 obtain ⟨k,rfl⟩:=iP m0 m1
 clear r0 r1 m0 m1
 revert n k
 decide+kernel
theorem hZ {r:Int} (r0:0≤r) (r1:r≤15):ba r=true:=by simp [ba,r0,r1]
theorem JL {r m:Int} (r0:0≤r) (r1:r≤15) (m0:0≤m) (m1:m≤15):aaY.u8.wrap ((Zw 8 (aaY.u8.wrap ((Zw 8 64|||Zw 8 (4*(r / 8))).toNat:Int))|||Zw 8 (m / 8)).toNat:Int)=da false r m:=by
 obtain ⟨n,rfl⟩:=iP r0 r1
 obtain ⟨k,rfl⟩:=iP m0 m1
 clear r0 r1 m0 m1
 revert n k
 decide+kernel
theorem JK {r m:Int} (r0:0≤r) (r1:r≤15) (m0:0≤m) (m1:m≤15):aaY.u8.wrap ((Zw 8 (aaY.u8.wrap ((Zw 8 (aaY.u8.wrap ((Zw 8 64|||Zw 8 (4*(r / 8))).toNat:Int))|||Zw 8 (m / 8)).toNat:Int))|||Zw 8 8).toNat:Int)=da true r m:=by
 obtain ⟨n,rfl⟩:=iP r0 r1
 obtain ⟨k,rfl⟩:=iP m0 m1
 clear r0 r1 m0 m1
 revert n k
 decide+kernel
theorem gG (a:Int):((Zw 8 a&&&Zw 8 7).toNat:Int)=a%8:=by have:=and_ones 8 3 (by omega) a;exact this
theorem NT {b:Int} (h:decide (b%8=4)=true):(aaY.i8.wrap ((Zw 8 b&&&Zw 8 7).toNat:Int)==4)=true:=by
 rw [gG,dh];simp at h ⊢;omega
theorem NU {b:Int} (h:decide (b%8=4)=false):(aaY.i8.wrap ((Zw 8 b&&&Zw 8 7).toNat:Int)==4)=false:=by
 rw [gG,dh];simp at h ⊢;omega
theorem So (a:Int):a.fdiv 1=a:=by rw [Z9 _ (by decide)];omega
theorem Oc (a:Int):a.fdiv 256=a / 256:=Z9 _ (by decide)
theorem Fw (a:Int):a.fdiv 65536=a / 65536:=Z9 _ (by decide)
theorem tx (a:Int):a.fdiv 16777216=a / 16777216:=Z9 _ (by decide)
theorem pj {r:Int} (r0:0≤r) (r1:r≤15):aaY.u8.wrap ((Zw 8 184|||Zw 8 (aaY.u8.wrap (aaY.i8.wrap ((Zw 8 r&&&Zw 8 7).toNat:Int)))).toNat:Int)=184+r%8:=by
 obtain ⟨n,rfl⟩:=iP r0 r1
 clear r0 r1
 revert n
 decide+kernel
theorem aW (a b:Int):(a==b)=decide (a=b):=by
 rw [Bool.eq_iff_iff];simp
def ct (op w dst src base af ai cc:Int):Int:=((mi op w dst src base af ai cc).length:Nat)
theorem tI:∀n:Fin 32,(0≤bh (n.val:Int)∧bh (n.val:Int)≤255)∧0≤bO (n.val:Int)∧bO (n.val:Int)≤7:=by decide+kernel
theorem DQ {op:Int} (h:aC op≠0):(0≤bh op∧bh op≤255)∧0≤bO op∧bO op≤7:=by
 obtain ⟨n,rfl⟩:=sH h
 exact tI n
theorem Fj {sh w dst src base af ai cc:Int} (hs:iK sh w dst src base af ai cc=true):0≤cc∧cc≤15:=by
 unfold iK at hs
 repeat' split at hs
 all_goals first|(cases hs;done)|(simp only [cT,ZD,bX] at hs;omega)
def lq (l:List Int):Prop:= ∀b∈l,0≤b∧b≤255
theorem lq.nil:lq []:=by intro b hb;cases hb
theorem lq.cons {x:Int} {l:List Int} (h0:0≤x) (h1:x≤255) (h:lq l):lq (x::l):=by
 intro b hb
 rcases List.mem_cons.1 hb with e|hb
 ·subst e;exact ⟨h0,h1⟩
 ·exact h b hb
theorem lq.app {a b:List Int} (h:lq a) (k:lq b):lq (a++b):=fun x hx=>(List.mem_append.1 hx).elim (h x) (k x)
theorem lq.ite {c:Prop} [Decidable c] {a b:List Int} (h:c→lq a) (k:¬c→lq b):lq (if c then a else b):=by
 split
 ·exact h ‹_›
 ·exact k ‹_›
theorem lq.four (n:Int):lq (a8 n):=by
 unfold a8
 exact .cons (by omega) (by omega) (.cons (by omega) (by omega) (.cons (by omega) (by omega) (.cons (by omega) (by omega) .nil)))
theorem lq.B9 {wd al:Bool} {r m:Int} (h1:0≤r) (h2:r≤15) (h3:0≤m) (h4:m≤15):lq (bp wd r m al):=by
 unfold bp
 refine .ite (fun _=> ?_) (fun _=> .nil)
 unfold da
 cases wd
 ·exact .cons (by simp;omega) (by simp;omega) .nil
 ·exact .cons (by simp;omega) (by simp;omega) .nil
theorem su (r m:Int):0≤bm r m∧bm r m≤255:=by unfold bm;omega
theorem lq.mem (r b n:Int):lq (bA r b n):=by
 unfold bA
 exact .ite (fun _=> .cons (by omega) (by omega) (.cons (by omega) (by omega) (.four n))) (fun _=> .cons (by omega) (by omega) (.four n))
theorem yr {op w dst src base af ai cc:Int} (h:bL op w dst src base af ai cc=true):lq (aD op w dst src base af ai cc):=by
 obtain ⟨⟨d0,d1,s0,s1,b0,b1,p0,p1,i0,i1⟩,hs⟩:=dA h
 have U3:aC op≠0:=by
  intro e
  rw [e] at hs
  simp [iK] at hs
 obtain ⟨⟨c0,c1⟩,n0,n1⟩:=DQ U3
 obtain ⟨k0,k1⟩:=Fj hs
 have rg:=fun r m=>(su r m).1
 have Xh:=fun r m=>(su r m).2
 unfold aD
 refine .ite (fun _=> .app (.B9 s0 s1 d0 d1) (.cons c0 c1 (.cons (rg _ _) (Xh _ _) .nil))) fun _=> ?_
 refine .ite (fun _=> .app (.B9 d0 d1 s0 s1) (.cons (by omega) (by omega) (.cons c0 c1 (.cons (rg _ _) (Xh _ _) .nil)))) fun _=> ?_
 refine .ite (fun _=> .app (.B9 d0 d1 s0 s1) (.cons (by omega) (by omega) (.cons (by omega) (by omega) (.cons (rg _ _) (Xh _ _) .nil)))) fun _=> ?_
 refine .ite (fun _=> .ite (fun _=> .app (.B9 (by omega) (by omega) d0 d1) (.cons (by omega) (by omega) (.four _))) (fun _=> .app (.B9 (by omega) (by omega) d0 d1) (.cons c0 c1 (.cons (rg _ _) (Xh _ _) (.four _))))) fun _=> ?_
 refine .ite (fun _=> .app (.B9 (by omega) (by omega) d0 d1) (.cons c0 c1 (.cons (rg _ _) (Xh _ _) (.cons (by omega) (by omega) .nil)))) fun _=> ?_
 refine .ite (fun _=> .app (.B9 (by omega) (by omega) d0 d1) (.cons c0 c1 (.cons (rg _ _) (Xh _ _) .nil))) fun _=> ?_
 refine .ite (fun _=> .app (.B9 d0 d1 b0 b1) (.app (.ite (fun _=> .cons (by omega) (by omega) (.cons (by omega) (by omega) .nil)) fun _=> .ite (fun _=> .cons (by omega) (by omega) (.cons (by omega) (by omega) .nil)) fun _=> .cons (by omega) (by omega) .nil) (.mem _ _ _))) fun _=> ?_
 refine .ite (fun _=> .app (.ite (fun _=> .cons (by omega) (by omega) .nil) fun _=> .nil) (.app (.B9 s0 s1 b0 b1) (.app (.ite (fun _=> .cons (by omega) (by omega) .nil) fun _=> .cons (by omega) (by omega) .nil) (.mem _ _ _)))) fun _=> ?_
 refine .ite (fun _=> .ite (fun _=> .cons (by omega) (by omega) (.cons (by omega) (by omega) .nil)) fun _=> .cons (by omega) (by omega) (.four _)) fun _=> ?_
 refine .ite (fun _=> .ite (fun _=> .cons (by omega) (by omega) (.cons (by omega) (by omega) .nil)) fun _=> .cons (by omega) (by omega) (.cons (by omega) (by omega) (.four _))) fun _=> ?_
 exact .ite (fun _=> .cons (by omega) (by omega) (.cons (by omega) (by omega) .nil)) fun _=> .cons (by omega) (by omega) .nil
theorem LP:∀ {a b:List Int},(∀x∈a,0≤x∧x≤255)→(∀x∈b,0≤x∧x≤255)→(iG (bD a)).toList=(iG (bD b)).toList→a=b:=by
 intro a b ha hb h
 have e:∀l:List Int,(iG (bD l)).toList=l.map fun n=>UInt8.ofNat n.toNat:=by
  intro l
  unfold iG
  rw [ByteArray.toList_eq]
  simp [bD,byteOf,Function.comp_def]
 rw [e,e] at h
 clear e
 induction a generalizing b with
 |nil=>cases b with
  |nil=>rfl
  |cons y b=>simp at h
 |cons x a ih=>cases b with
  |nil=>simp at h
  |cons y b=>
   simp only [List.map_cons,List.cons.injEq] at h
   have h1:=ha x (by simp)
   have h2:=hb y (by simp)
   have:x=y:=by
    have:=congrArg UInt8.toNat h.1
    simp at this
    omega
   rw [this,ih (fun z hz=>ha z (by simp [hz])) (fun z hz=>hb z (by simp [hz])) h.2]
structure aK where
  w:Int
  fH:Bool
  code:Int
  r:Int
  m:Int
  af:Int
  ai:Int
  small:Int
  gu:Int
  hU:Int
  high:Int
def ia (b:List Int) (i:Nat):Int:=b.getD i 0
def iM (b:List Int) (i:Nat):Int:=if b.length<i+4 then 0 else Br (b.drop i)
def ir (b:List Int):Nat:=
  match b with
  | []=>0
  |a::t=>
    if a / 64=3 then 1
    else if a / 64=2 then
      if a%8=4 then (if 5≤t.length∧hd t=36 then 6 else 0) else (if 4≤t.length then 5 else 0)
    else 0
def jO (b:List Int):Int:=if ir b=0 then 0 else hd b / 8%8
def jP (b:List Int):Int:=if ir b=0 then 0 else hd b%8
def lu (b:List Int):Int:=if ir b≤1 then 0 else Br (b.drop (ir b - 4))
def jI (b:List Int):Int:=if ir b=0 then 30 else 0
def bB (w VR high:Int) (fH:Bool) (code:Int) (v:List Int):aK:=
  ⟨w,fH,code,jO v+VR,jP v+high,lu v,iM v (ir v),ia v (ir v),iM v 0,e8 (ia v 0),high⟩
def iw (w VR high:Int):List Int→Option aK
  | []=>none
  |c::v=>if c=15 then (match v with| []=>some (bB w VR high false 15 [])|d::z=>some (bB w VR high true d z)) else some (bB w VR high false c v)
def kJ (h:Int):Bool:=decide (h / 16=4∧h / 2%2=0)
def hQ (w:Int):List Int→Option aK
  | []=>none
  |h::u=>if kJ h then iw (if h / 8%2=1 then 64 else w) (h / 4%2*8) (h%2*8) u else iw w 0 0 (h::u)
def lJ (b:List Int):Option aK:=if hd b=102 then hQ 16 (b.drop 1) else hQ 32 b
def ng (s:aK) (op sh:Int):XS:=
  if sh=1 then ⟨op,s.w,s.m,s.r,0,0,0,0⟩
  else if sh=2 then ⟨op,s.w,s.r,s.m,0,0,0,0⟩
  else if sh=3 then (if op=1∧184≤s.code∧s.code<192 then ⟨op,s.w,s.code%8+s.high,0,0,0,s.gu,0⟩ else ⟨op,s.w,s.m,0,0,0,s.ai,0⟩)
  else if sh=4 then ⟨op,s.w,s.m,0,0,0,s.small,0⟩
  else if sh=5 then ⟨op,s.w,s.m,0,0,0,0,0⟩
  else if sh=6 then ⟨op,s.w,s.r,s.m,0,0,0,e8 (s.code - bh op)⟩
  else if sh=7 then ⟨op,if s.fH then (if s.code%2=1 then 16 else 8) else s.w,s.r,0,s.m,s.af,0,0⟩
  else if sh=8 then ⟨op,if s.code=136 then 8 else s.w,0,s.r,s.m,s.af,0,0⟩
  else if sh=9∨sh=10 then
    (if s.fH=false∧s.code≠233 then ⟨op,8,0,0,0,0,s.hU,if sh=10 then s.code%16 else 0⟩ else ⟨op,32,0,0,0,0,s.gu,if sh=10 then s.code%16 else 0⟩)
  else if sh=11 then ⟨op,0,0,0,0,0,0,0⟩
  else ⟨op,s.w,0,0,0,0,0,0⟩
def fS (s:aK) (op:Int):XS:=ng s op (aC op)
theorem sG {wide al:Bool} {r m c w:Int} {t:List Int} (r0:0≤r) (r1:r≤15) (m0:0≤m) (m1:m≤15) (hc:¬(64≤c∧c≤79)):hQ w (bp wide r m al++c::t)=iw (if wide then 64 else w) (8*(r / 8)) (8*(m / 8)) (c::t):=by
 unfold bp
 split
 ·simp only [ZG,ZT,hQ]
  have hq:kJ (da wide r m)=true:=by
   simp only [kJ,da,bX]
   cases wide<;>simp<;>omega
  rw [if_pos hq]
  have h1:da wide r m / 4%2*8=8*(r / 8):=by simp only [da];cases wide<;>simp<;>omega
  have h2:da wide r m%2*8=8*(m / 8):=by simp only [da];cases wide<;>simp<;>omega
  have h3:(if da wide r m / 8%2=1 then (64:Int) else w)=if wide then 64 else w:=by
   have h4:da wide r m / 8%2=if wide then 1 else 0:=by simp only [da];cases wide<;>simp<;>omega
   rw [h4]
   cases wide<;>simp
  rw [h1,h2,h3]
 ·rename_i h
  simp only [bW,ZV,bX,not_or,Bool.not_eq_true] at h
  have hq:¬kJ c=true:=by simp only [kJ,bX];omega
  have h1:r / 8=0:=by omega
  have h2:m / 8=0:=by omega
  simp only [ZT,hQ,if_neg hq,h1,h2,h.1.1]
  simp
theorem ib {wide al:Bool} {r m c:Int} {t:List Int} (r0:0≤r) (r1:r≤15) (m0:0≤m) (m1:m≤15) (hc:¬(64≤c∧c≤79)) (h2:c≠102):lJ (bp wide r m al++c::t)=iw (if wide then 64 else 32) (8*(r / 8)) (8*(m / 8)) (c::t):=by
 unfold lJ
 rw [if_neg (CT r0 r1 m0 m1 h2),sG r0 r1 m0 m1 hc]
theorem Kc {wide al:Bool} {r m c:Int} {t:List Int} (r0:0≤r) (r1:r≤15) (m0:0≤m) (m1:m≤15) (hc:¬(64≤c∧c≤79)):lJ (102::(bp wide r m al++c::t))=iw (if wide then 64 else 16) (8*(r / 8)) (8*(m / 8)) (c::t):=by
 unfold lJ
 rw [if_pos (show hd (102::(bp wide r m al++c::t))=102 from rfl),List.drop_one,List.tail_cons,sG r0 r1 m0 m1 hc]
theorem lI {c:Int} {t:List Int} (hc:¬(64≤c∧c≤79)) (h2:c≠102):lJ (c::t)=iw 32 0 0 (c::t):=by
 unfold lJ
 have hq:¬kJ c=true:=by simp only [kJ,bX];omega
 rw [if_neg (by simpa [hd] using h2)]
 simp only [hQ,if_neg hq]
theorem dL {w R M c:Int} {v:List Int} (hc:c≠15):iw w R M (c::v)=some (bB w R M false c v):=by
 simp only [iw,if_neg hc]
theorem iW {w R M d:Int} {z:List Int} :iw w R M (15::d::z)=some (bB w R M true d z):=rfl
theorem ri {r m:Int} {t:List Int} (r0:0≤r) (m0:0≤m):ir (bm r m::t)=1:=by
 simp only [ir]
 rw [if_pos (by simp only [bm];omega)]
theorem xM {r m:Int} {t:List Int} (r0:0≤r) (m0:0≤m):jO (bm r m::t)=r%8:=by
 simp only [jO,ri r0 m0]
 rw [if_neg (by decide)]
 simp only [hd,List.headD_cons,bm]
 omega
theorem nE {r m:Int} {t:List Int} (r0:0≤r) (m0:0≤m):jP (bm r m::t)=m%8:=by
 simp only [jP,ri r0 m0]
 rw [if_neg (by decide)]
 simp only [hd,List.headD_cons,bm]
 omega
theorem xN {r b af:Int} {t:List Int} :ir (bA r b af++t)=if b%8=4 then 6 else 5:=by
 unfold bA
 split
 ·rename_i h
  simp only [ZG,ir]
  rw [if_neg (by omega),if_pos (by omega),if_pos (by omega),if_pos (by simp [a8,hd])]
 ·rename_i h
  simp only [ZG,ir]
  rw [if_neg (by omega),if_pos (by omega),if_neg (by omega),if_pos (by simp [a8])]
theorem Fc {r b af:Int} {t:List Int} :jO (bA r b af++t)=r%8:=by
 simp only [jO,xN,kv]
 rw [if_neg (by split<;>decide)]
 omega
theorem Ff {r b af:Int} {t:List Int} :jP (bA r b af++t)=b%8:=by
 simp only [jP,xN,kv]
 rw [if_neg (by split<;>decide)]
 omega
theorem Fe {r b af:Int} {t:List Int} (h0: -2147483648≤af) (h1:af≤2147483647):lu (bA r b af++t)=af:=by
 simp only [lu,xN]
 rw [if_neg (by split<;>decide)]
 unfold bA
 split
 ·simp only [ZG,List.drop_succ_cons,aaD]
  exact fA h0 h1
 ·simp only [ZG,List.drop_succ_cons,aaD]
  exact fA h0 h1
theorem v9 {n:Int} {t:List Int} (h0: -2147483648≤n) (h1:n≤2147483647):iM (a8 n++t) 0=n:=by
 simp only [iM,aaD]
 rw [if_neg (by simp [a8]),fA h0 h1]
theorem I7 {x n:Int} {t:List Int} (h0: -2147483648≤n) (h1:n≤2147483647):iM (x::(a8 n++t)) 1=n:=by
 simp only [iM,List.drop_succ_cons,aaD]
 rw [if_neg (by simp [a8]),fA h0 h1]
theorem HC {r:Int} (r0:0≤r) (r1:r≤15):r%8+8*(r / 8)=r:=by omega
theorem Kd {op w dst src base af ai cc:Int} (h:bL op w dst src base af ai cc=true) (t:List Int):∃s,lJ (aD op w dst src base af ai cc++t)=some s∧fS s op=⟨op,w,dst,src,base,af,ai,cc⟩:=by
 obtain ⟨⟨d0,d1,s0,s1,b0,b1,p0,p1,i0,i1⟩,hs⟩:=dA h
 have U3:aC op≠0:=by
  intro e
  rw [e] at hs
  simp [iK] at hs
 obtain ⟨k,rfl⟩:=sH U3
 unfold iK at hs
 split at hs
 ·rename_i Wk
  simp only [ZD,bX] at hs
  obtain ⟨hw,rfl,rfl,rfl,rfl⟩:=hs
  have ew:=iV hw
  rcases Wk with h1|h1
  ·
   obtain ⟨c1,c2,c3,c4,c5,c6,c7,c8,c9,Tp,TJ⟩:=oo k h1
   have e:aD (k.val:Int) w dst src 0 0 0 0=bp (decide (w=64)) src dst false++ [bh (k.val:Int),bm src dst]:=by simp only [aD,h1,if_true]
   rw [e,ZM,ZG,ZG,ZT,ib s0 s1 d0 d1 c2 c3,dL c1]
   refine ⟨_,rfl,?_⟩
   simp only [fS,h1,ng,if_true,bB,xM s0 d0,nE s0 d0,HC s0 s1,HC d0 d1,ew]
  ·
   have hk:(k.val:Int)=16:=by
    have:=gY (op:=(k.val:Int)) (by omega)
    revert h1
    rcases this with e|e|e|e|e|e|e|e|e|e|e|e|e|e|e|e|e|e|e|e|e|e|e|e|e|e|e|e|e|e|e|e<;>rw [e]<;>decide
   rw [hk]
   have e:aD 16 w dst src 0 0 0 0=bp (decide (w=64)) dst src false++ [15,175,bm dst src]:=by
    simp only [aD,show aC 16=2 from rfl,show bh 16=175 from rfl,if_true,show ¬(2:Int)=1 by decide,if_false]
   rw [e,ZM,ZG,ZG,ZG,ZT,ib d0 d1 s0 s1 (by decide) (by decide),iW]
   refine ⟨_,rfl,?_⟩
   simp only [fS,show aC 16=2 from rfl,ng,if_true,show ¬(2:Int)=1 by decide,if_false,bB,xM d0 s0,nE d0 s0,HC s0 s1,HC d0 d1,ew]
 ·rename_i WN
  have n1:¬aC (k.val:Int)=1:=fun e=>WN (.inl e)
  have n2:¬aC (k.val:Int)=2:=fun e=>WN (.inr e)
  split at hs
  ·
   rename_i h3
   simp only [ZD,bX] at hs
   obtain ⟨hw,rfl,rfl,rfl,rfl⟩:=hs
   have ew:=iV hw
   by_cases hm:(k.val:Int)=1∧w=32
   ·obtain ⟨hm,rfl⟩:=hm
    have e:aD (k.val:Int) 32 dst 0 0 0 ai 0=bp false 0 dst false++((184+dst%8)::a8 ai):=by
     rw [hm]
     simp [aD,show aC 1=3 from rfl]
    rw [e,ZM,ZG,ib (by omega) (by omega) d0 d1 (by omega) (by omega),dL (by omega)]
    refine ⟨_,rfl,?_⟩
    rw [hm]
    simp only [fS,show aC 1=3 from rfl,ng,show ¬(3:Int)=1 by decide,show ¬(3:Int)=2 by decide,if_false,if_true,bB,v9 i0 i1,ee,aah]
    rw [if_pos (by omega)]
    congr 1
    omega
   ·obtain ⟨c1,c2,c3,c4,c5,c6,c7,c8,c9,Tp,TJ,Tx,u0,u1⟩:=gP k (.inl h3)
    have e:aD (k.val:Int) w dst 0 0 0 ai 0=bp (decide (w=64)) 0 dst false++(bh (k.val:Int)::bm (bO (k.val:Int)) dst::a8 ai):=by
     simp only [aD,h3,if_neg hm,show ¬(3:Int)=1 by decide,show ¬(3:Int)=2 by decide,show ¬(3:Int)=6 by decide,if_false,if_true]
    rw [e,ZM,ZG,ZG,ib (by omega) (by omega) d0 d1 c2 c3,dL c1]
    refine ⟨_,rfl,?_⟩
    have c4':¬((k.val:Int)=1∧184≤bh (k.val:Int)∧bh (k.val:Int)<192):=by omega
    simp only [fS,h3,ng,show ¬(3:Int)=1 by decide,show ¬(3:Int)=2 by decide,if_false,if_true,bB,if_neg c4',ri u0 d0,nE u0 d0,I7 i0 i1,HC d0 d1,ew]
  ·rename_i n3
   split at hs
   ·
    rename_i h4
    simp only [ZD,bX] at hs
    obtain ⟨hw,rfl,rfl,rfl,rfl,j0,j1⟩:=hs
    have ew:=iV hw
    have Uo:=ej hw
    obtain ⟨c1,c2,c3,c4,c5,c6,c7,c8,c9,Tp,TJ,Tx,u0,u1⟩:=gP k (.inr (.inl h4))
    have e:aD (k.val:Int) w dst 0 0 0 ai 0=bp (decide (w=64)) 0 dst false++ [bh (k.val:Int),bm (bO (k.val:Int)) dst,ai%256]:=by
     simp only [aD,h4,show ¬(4:Int)=1 by decide,show ¬(4:Int)=2 by decide,show ¬(4:Int)=6 by decide,show ¬(4:Int)=3 by decide,if_false,if_true]
    rw [e,ZM,ZG,ZG,ZG,ZT,ib (by omega) (by omega) d0 d1 c2 c3,dL c1]
    refine ⟨_,rfl,?_⟩
    have g:ia (bm (bO (k.val:Int)) dst::ai%256::t) 1=ai:=by
     show ai%256=ai
     omega
    simp only [fS,h4,ng,show ¬(4:Int)=1 by decide,show ¬(4:Int)=2 by decide,show ¬(4:Int)=3 by decide,if_false,if_true,bB,ri u0 d0,nE u0 d0,g,HC d0 d1,ew]
   ·rename_i n4
    split at hs
    ·
     rename_i h5
     simp only [ZD,bX] at hs
     obtain ⟨hw,rfl,rfl,rfl,rfl,rfl⟩:=hs
     have ew:=iV hw
     obtain ⟨c1,c2,c3,c4,c5,c6,c7,c8,c9,Tp,TJ,Tx,u0,u1⟩:=gP k (.inr (.inr h5))
     have e:aD (k.val:Int) w dst 0 0 0 0 0=bp (decide (w=64)) 0 dst false++ [bh (k.val:Int),bm (bO (k.val:Int)) dst]:=by
      simp only [aD,h5,show ¬(5:Int)=1 by decide,show ¬(5:Int)=2 by decide,show ¬(5:Int)=6 by decide,show ¬(5:Int)=3 by decide,show ¬(5:Int)=4 by decide,if_false,if_true]
     rw [e,ZM,ZG,ZG,ZT,ib (by omega) (by omega) d0 d1 c2 c3,dL c1]
     refine ⟨_,rfl,?_⟩
     simp only [fS,h5,ng,show ¬(5:Int)=1 by decide,show ¬(5:Int)=2 by decide,show ¬(5:Int)=3 by decide,show ¬(5:Int)=4 by decide,if_false,if_true,bB,nE u0 d0,HC d0 d1,ew]
    ·rename_i n5
     split at hs
     ·
      rename_i h6
      have hk:=qV k h6
      rw [hk] at h6 ⊢
      simp only [ZD,bX] at hs
      obtain ⟨⟨hw,rfl,rfl,rfl⟩,hc⟩:=hs
      have ew:=iV hw
      simp only [cT,bX] at hc
      have e:aD 25 w dst src 0 0 0 cc=bp (decide (w=64)) dst src false++ [15,64+cc,bm dst src]:=by
       simp [aD,show aC 25=6 from rfl]
      rw [e,ZM,ZG,ZG,ZG,ZT,ib d0 d1 s0 s1 (by decide) (by decide),iW]
      refine ⟨_,rfl,?_⟩
      have g:e8 (64+cc - bh 25)=cc:=by
       show e8 (64+cc - 64)=cc
       simp only [e8]
       omega
      simp only [fS,show aC 25=6 from rfl,ng,show ¬(6:Int)=1 by decide,show ¬(6:Int)=2 by decide,show ¬(6:Int)=3 by decide,show ¬(6:Int)=4 by decide,show ¬(6:Int)=5 by decide,if_false,if_true,bB,xM d0 s0,nE d0 s0,g,HC s0 s1,HC d0 d1,ew]
     ·rename_i n6
      split at hs
      ·
       rename_i h7
       have hk:=qU k h7
       rw [hk] at h7 ⊢
       simp only [ZD,bX] at hs
       obtain ⟨hw,rfl,rfl,rfl⟩:=hs
       have e:aD 26 w dst 0 base af 0 0=bp (decide (w=64)) dst base false++((if w=8 then [15,182] else if w=16 then [15,183] else [139])++bA dst base af):=by
        simp [aD,show aC 26=7 from rfl]
       rw [e]
       have Wr:∀(lw R:Int) (fH:Bool) (code:Int),(if fH then (if code%2=1 then (16:Int) else 8) else R)=lw→fS (bB R (8*(dst / 8)) (8*(base / 8)) fH code (bA dst base af++t)) 26=⟨26,lw,dst,0,base,af,0,0⟩:=by
        intro lw R fH code hl
        simp only [fS,show aC 26=7 from rfl,ng,show ¬(7:Int)=1 by decide,show ¬(7:Int)=2 by decide,show ¬(7:Int)=3 by decide,show ¬(7:Int)=4 by decide,show ¬(7:Int)=5 by decide,show ¬(7:Int)=6 by decide,if_false,if_true,bB,Fc,Ff,Fe p0 p1,HC d0 d1,HC b0 b1,hl]
       rcases ff hw with rfl|rfl|rfl|rfl
       ·rw [if_pos rfl,ZM,ZM,ZG,ib d0 d1 b0 b1 (by decide) (by decide),ZG,ZT,iW]
        exact ⟨_,rfl,Wr _ _ _ _ (by decide)⟩
       ·rw [if_neg (by decide),if_pos rfl,ZM,ZM,ZG,ib d0 d1 b0 b1 (by decide) (by decide),ZG,ZT,iW]
        exact ⟨_,rfl,Wr _ _ _ _ (by decide)⟩
       ·rw [if_neg (by decide),if_neg (by decide),ZM,ZM,ZG,ZT,ib d0 d1 b0 b1 (by decide) (by decide),dL (by decide)]
        exact ⟨_,rfl,Wr _ _ _ _ (by decide)⟩
       ·rw [if_neg (by decide),if_neg (by decide),ZM,ZM,ZG,ZT,ib d0 d1 b0 b1 (by decide) (by decide),dL (by decide)]
        exact ⟨_,rfl,Wr _ _ _ _ (by decide)⟩
      ·rename_i n7
       split at hs
       ·
        rename_i h8
        have hk:=qT k h8
        rw [hk] at h8 ⊢
        simp only [ZD,bX] at hs
        obtain ⟨hw,rfl,rfl,rfl⟩:=hs
        have e:aD 27 w 0 src base af 0 0=(if w=16 then [102] else [])++(bp (decide (w=64)) src base (decide (w=8))++((if w=8 then [136] else [137])++bA src base af)):=by
         simp [aD,show aC 27=8 from rfl]
        rw [e]
        have HY:∀(lw R:Int) (code:Int),(if code=136 then (8:Int) else R)=lw→fS (bB R (8*(src / 8)) (8*(base / 8)) false code (bA src base af++t)) 27=⟨27,lw,0,src,base,af,0,0⟩:=by
         intro lw R code hl
         simp only [fS,show aC 27=8 from rfl,ng,show ¬(8:Int)=1 by decide,show ¬(8:Int)=2 by decide,show ¬(8:Int)=3 by decide,show ¬(8:Int)=4 by decide,show ¬(8:Int)=5 by decide,show ¬(8:Int)=6 by decide,show ¬(8:Int)=7 by decide,if_false,if_true,bB,Fc,Ff,Fe p0 p1,HC s0 s1,HC b0 b1,hl]
        rcases ff hw with rfl|rfl|rfl|rfl
        ·rw [if_neg (by decide),if_pos rfl,ZT,ZM,ZM,ZG,ZT,ib s0 s1 b0 b1 (by decide) (by decide),dL (by decide)]
         exact ⟨_,rfl,HY _ _ _ (by decide)⟩
        ·rw [if_pos rfl,if_neg (by decide),ZM,ZM,ZM,ZG,ZG,ZT,ZT,Kc s0 s1 b0 b1 (by decide),dL (by decide)]
         exact ⟨_,rfl,HY _ _ _ (by decide)⟩
        ·rw [if_neg (by decide),if_neg (by decide),ZT,ZM,ZM,ZG,ZT,ib s0 s1 b0 b1 (by decide) (by decide),dL (by decide)]
         exact ⟨_,rfl,HY _ _ _ (by decide)⟩
        ·rw [if_neg (by decide),if_neg (by decide),ZT,ZM,ZM,ZG,ZT,ib s0 s1 b0 b1 (by decide) (by decide),dL (by decide)]
         exact ⟨_,rfl,HY _ _ _ (by decide)⟩
       ·rename_i n8
        have k1:∀ {n:Int},9≤n→¬n=1:=fun h=>by omega
        split at hs
        ·
         rename_i h9
         have hk:=qS k h9
         rw [hk] at h9 ⊢
         simp only [ZD,bX,mC] at hs
         obtain ⟨hw,rfl,rfl,rfl,rfl,rfl⟩:=hs
         have e:aD 28 w 0 0 0 0 ai 0=if w=8 then [235,ai%256] else 233::a8 ai:=by
          simp [aD,show aC 28=9 from rfl]
         rw [e]
         rcases hw with rfl|⟨rfl,j0,j1⟩
         ·rw [if_neg (by decide),ZG,lI (by decide) (by decide),dL (by decide)]
          refine ⟨_,rfl,?_⟩
          simp [fS,show aC 28=9 from rfl,ng,bB,v9 i0 i1]
         ·rw [if_pos rfl,ZG,lI (by decide) (by decide),dL (by decide)]
          refine ⟨_,rfl,?_⟩
          have g:e8 (ia ([ai%256]++t) 0)=ai:=pn j0 j1
          simp [fS,show aC 28=9 from rfl,ng,bB]
          exact g
        ·rename_i n9
         split at hs
         ·
          rename_i UE
          have hk:=oQ k UE
          rw [hk] at UE ⊢
          simp only [ZD,bX,mC] at hs
          obtain ⟨⟨hw,rfl,rfl,rfl,rfl⟩,hc⟩:=hs
          simp only [cT,bX] at hc
          have e:aD 29 w 0 0 0 0 ai cc=if w=8 then [112+cc,ai%256] else 15::(128+cc)::a8 ai:=by
           simp [aD,show aC 29=10 from rfl]
          rw [e]
          rcases hw with rfl|⟨rfl,j0,j1⟩
          ·rw [if_neg (by decide),ZG,ZG,lI (by decide) (by decide),iW]
           refine ⟨_,rfl,?_⟩
           simp [fS,show aC 29=10 from rfl,ng,bB,v9 i0 i1]
           omega
          ·rw [if_pos rfl,ZG,lI (by omega) (by omega),dL (by omega)]
           refine ⟨_,rfl,?_⟩
           have g:e8 (ia ([ai%256]++t) 0)=ai:=pn j0 j1
           have g2:¬112+cc=233:=by omega
           simp only [fS,show aC 29=10 from rfl,ng,bB,g]
           simp [g2]
           omega
         ·rename_i Zi
          split at hs
          ·rename_i Vn
           simp only [bX] at hs
           obtain ⟨rfl,rfl,rfl,rfl,rfl,rfl,rfl⟩:=hs
           rcases oP k Vn with hk|hk<;>rw [hk]
           ·have e:aD 30 0 0 0 0 0 0 0= [195]:=rfl
            rw [e,ZG,lI (by decide) (by decide),dL (by decide)]
            exact ⟨_,rfl,rfl⟩
           ·have e:aD 31 0 0 0 0 0 0 0= [15,5]:=rfl
            rw [e,ZG,ZG,lI (by decide) (by decide),iW]
            exact ⟨_,rfl,rfl⟩
          ·cases hs
theorem m5 {d:Int} (h0:0≤d) (h1:d≤255):∃n:Fin 256,d=(n.val:Int):=⟨⟨d.toNat,by omega⟩,by simp;omega⟩
theorem HY {d:Int} (h0:0≤d) (h1:d≤7):∃n:Fin 8,d=(n.val:Int):=⟨⟨d.toNat,by omega⟩,by simp;omega⟩
theorem OX (x y:Nat) (h:y<256):(x*256)|||y=x*256+y:=by
 rw [show x*256=x<<<8 by rw [Nat.shiftLeft_eq]]
 exact (Nat.shiftLeft_add_eq_or_of_lt (i:=8) h x).symm
theorem NZ {x y:Int} (x0: -36028797018963968≤x) (x1:x<36028797018963968) (y0:0≤y) (y1:y<256):((Zw 64 (x*256)|||Zw 64 y).toNat:Int)=(x*256+y)%18446744073709551616:=by
 rw [BitVec.toNat_or,BitVec.toNat_ofInt,BitVec.toNat_ofInt]
 have hy:(y%((2^64:Nat):Int)).toNat=y.toNat:=by congr 1;omega
 have hx:((x*256)%((2^64:Nat):Int)).toNat=(x%72057594037927936).toNat*256:=by omega
 rw [hx,hy,OX _ _ (by omega)]
 omega
theorem ET {x y:Int} (x0:0≤x) (x1:x<36028797018963968) (y0:0≤y) (y1:y<256):aaY.u64.wrap ((Zw 64 (aaY.u64.wrap (x*256))|||Zw 64 (aaY.u64.wrap y)).toNat:Int)=x*256+y:=by
 have e1:aaY.u64.wrap (x*256)=x*256:=by rw [bZ];omega
 have e2:aaY.u64.wrap y=y:=by rw [bZ];omega
 rw [e1,e2,NZ (by omega) x1 y0 y1,bZ]
 omega
theorem Cv {x y:Int} (x0: -36028797018963968≤x) (x1:x<36028797018963968) (y0:0≤y) (y1:y<256):aaY.i64.wrap ((Zw 64 (aaY.i64.wrap (x*256))|||Zw 64 (aaY.i64.wrap y)).toNat:Int)=x*256+y:=by
 have e1:aaY.i64.wrap (x*256)=x*256:=by rw [aX];omega
 have e2:aaY.i64.wrap y=y:=by rw [aX];omega
 rw [e1,e2,NZ x0 x1 y0 y1,aX]
 omega
theorem OW {y:Int} (y0:0≤y) (y1:y<256):aaY.u64.wrap ((Zw 64 0|||Zw 64 (aaY.u64.wrap y)).toNat:Int)=y:=by
 have:=ET (x:=0) (y:=y) (by omega) (by omega) y0 y1
 simpa [bZ] using this
theorem Rr {x y:Int} (x0:0≤x) (x1:x≤7) (hy:y=0∨y=8):aaY.i8.wrap ((Zw 8 x|||Zw 8 y).toNat:Int)=x+y:=by
 obtain ⟨n,rfl⟩:=HY x0 x1
 clear x0 x1
 rcases hy with rfl|rfl<;>(revert n;decide+kernel)
def dx (l:List Int):Prop:= ∀x∈l,0≤x∧x≤255
theorem iZ:dx []:=fun _ h=>by cases h
theorem fM {a:Int} {l:List Int} :dx (a::l)↔(0≤a∧a≤255)∧dx l:=by simp [dx]
theorem aG (l:List Int):(bD l).length=l.length:=by simp [bD]
theorem Ps {b:List Int} {i:Int} (h0:0≤i) (h1:i<((bD b).length:Int)):(bD b)[i.toNat]? =some (ay (ia b i.toNat)):=by
 rw [aG] at h1
 simp only [bD,List.getElem?_map,ia,ZF]
 have:i.toNat<b.length:=by omega
 simp [this]
theorem Ap {b:List Int} {i:Int} (h:((bD b).length:Int)≤i):ia b i.toNat=0:=by
 rw [aG] at h
 simp only [ia,ZF]
 rw [ZN (by omega)]
 rfl
theorem Lo (a:Int):a.fdiv 64=a / 64:=Z9 _ (by decide)
theorem Ok {v:Int} (h:v / 64=3):(v.fdiv 64==3)=true:=by rw [Lo,h];rfl
theorem rQ {v:Int} (h:v / 64=2):(v.fdiv 64==3)=false:=by rw [Lo,h];rfl
theorem Mg {v:Int} (h:v / 64<2):(v.fdiv 64==3)=false:=by rw [Lo,gp];omega
theorem rR {v:Int} (h:v / 64=2):(v.fdiv 64==2)=true:=by rw [Lo,h];rfl
theorem Ol {v:Int} (h:v / 64<2):(v.fdiv 64==2)=false:=by rw [Lo,gp];omega
theorem AF (v:Int):aaY.i8.wrap (aaY.u8.wrap ((Zw 8 v&&&Zw 8 7).toNat:Int))=v%8:=by
 rw [BitVec.toNat_and,BitVec.toNat_ofInt,BitVec.toNat_ofInt]
 have e:(v%((2^8:Nat):Int)).toNat&&&(7%((2^8:Nat):Int)).toNat=(v%256).toNat%8:=by
  have:(7%((2^8:Nat):Int)).toNat=2^3 - 1:=by decide
  rw [this,Nat.and_two_pow_sub_one_eq_mod]
  rfl
 rw [e,bw,dh]
 omega
theorem O8 {v:Int} (v0:0≤v) (v1:v≤255):aaY.i8.wrap (aaY.u8.wrap ((Zw 8 (v.fdiv 8)&&&Zw 8 7).toNat:Int))=v / 8%8:=by
 rw [AF,Z9 _ (by decide)]
theorem CP {v:Int} (h:v%8=4):(aaY.i8.wrap (aaY.u8.wrap ((Zw 8 v&&&Zw 8 7).toNat:Int))==4)=true:=by rw [AF,h];rfl
theorem KS {v:Int} (h:¬v%8=4):(aaY.i8.wrap (aaY.u8.wrap ((Zw 8 v&&&Zw 8 7).toNat:Int))==4)=false:=by rw [AF,gp];exact h
def ez (s:aK):D:= .agg [ak s.w,ax s.fH,ay s.code,ak s.r,ak s.m,aq s.af,aq s.ai,aq s.small,aq s.gu,aq s.hU,ak s.high]
theorem Ka {v:List Int} (hv:dx v) (i:Nat):0≤ia v i∧ia v i≤255:=by
 simp only [ia,ZF]
 cases e:v[i]? with
 |none=>simp
 |some x=>exact hv x (List.mem_of_getElem? e)
theorem AK {v:List Int} (hv:dx v):0≤hd v∧hd v≤255:=by
 cases v with
 |nil=>simp [hd]
 |cons a t=>exact hv a (by simp)
theorem uS {v:List Int} (hv:dx v):0≤jO v∧jO v≤7:=by
 have:=AK hv
 unfold jO
 split<;>omega
theorem uT {v:List Int} (hv:dx v):0≤jP v∧jP v≤7:=by
 have:=AK hv
 unfold jP
 split<;>omega
theorem iX {v:List Int} (hv:dx v) {y:Int} (hy:y=0∨y=8):aaY.i8.wrap ((Zw 8 (jO v)|||Zw 8 y).toNat:Int)=jO v+y:=Rr (uS hv).1 (uS hv).2 hy
theorem iY {v:List Int} (hv:dx v) {y:Int} (hy:y=0∨y=8):aaY.i8.wrap ((Zw 8 (jP v)|||Zw 8 y).toNat:Int)=jP v+y:=Rr (uT hv).1 (uT hv).2 hy
theorem fO {v:List Int} (hv:dx v) {h:Int} :aaY.i8.wrap ((Zw 8 (jO v)|||Zw 8 (h / 4%2*8)).toNat:Int)=jO v+h / 4%2*8:=iX hv (by omega)
theorem fP {v:List Int} (hv:dx v) {h:Int} :aaY.i8.wrap ((Zw 8 (jP v)|||Zw 8 (h%2*8)).toNat:Int)=jP v+h%2*8:=iY hv (by omega)
theorem eL {v:List Int} (h:¬jI v=0):ir v=0:=by
 unfold jI at h
 split at h
 ·assumption
 ·simp at h
theorem dD {v:List Int} (hv:dx v) (i:Nat):aaY.i64.wrap (ia v i)=ia v i:=by
 have:=Ka hv i
 rw [aX];omega
theorem eK {v:List Int} (i:Nat):aaY.i64.wrap (aaY.i8.wrap (ia v i))=e8 (ia v i):=by
 rw [aX,dh,e8];omega
def nP (w high:Int):aK:=⟨w,false,0,0,0,0,0,0,0,0,high⟩
theorem Ph {c h:Int} (c0:0≤c) (c1:c≤255) (hh:h=0∨h=8):aaY.i8.wrap ((Zw 8 (aaY.i8.wrap (aaY.u8.wrap ((Zw 8 c&&&Zw 8 7).toNat:Int)))|||Zw 8 h).toNat:Int)=c%8+h:=by
 rw [AF]
 exact Rr (by omega) (by omega) hh
theorem Fk {c:Int} (c0:0≤c) (c1:c≤255):aaY.i8.wrap (aaY.u8.wrap ((Zw 8 c&&&Zw 8 15).toNat:Int))=c%16:=by
 obtain ⟨n,rfl⟩:=m5 c0 c1
 clear c0 c1
 revert n
 decide+kernel
theorem Mk {c:Int} (c0:0≤c) (c1:c≤255):aaY.i8.wrap (8*2^(min (aaY.u8.wrap ((Zw 8 c&&&Zw 8 1).toNat:Int)).toNat 8))=if c%2=1 then 16 else 8:=by
 obtain ⟨n,rfl⟩:=m5 c0 c1
 clear c0 c1
 revert n
 decide+kernel
end Go.Ev
