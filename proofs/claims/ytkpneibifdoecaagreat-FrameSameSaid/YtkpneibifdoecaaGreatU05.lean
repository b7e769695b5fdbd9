import Derived.ChangeKeysEq
import Derived.KernelRfl
import Derived.Test.YtkpneibifdoecaaGreatProg
import Derived.Laws.Strings
import Derived.Test.YtkpneibifdoecaaGreatU01
import Derived.Test.YtkpneibifdoecaaGreatU02
import Derived.Test.YtkpneibifdoecaaGreatU04
open List renaming length_append→Vd,getD_eq_getElem?_getD→Vr
open BitVec renaming ofInt→Vh
open Bool renaming and_eq_true→Vi,not_eq_true'→Vm,eq_iff_iff→Vn,not_eq_false'→Vo,or_eq_true→Vp,and_true→VH,false_eq_true→V5
open Option.some renaming inj→Vk,injEq→Vs
open Go.Result renaming andThen_ok→Vv
open Go.Sem renaming run_bind→VD,run_pure→VK
open Int renaming fdiv_eq_ediv_of_nonneg→VI
open Nat renaming beq_eq→VJ,beq→VM,add_mul→Wm,blt_eq→Wp
open Go renaming IntKind→WO
/- Contracts and plain laws that a statement's proof leans on (texts merged:EvU,MdC,dm,MdZ,MdM,Az,MdW,MdF2,MdE,MdP,MdS,MdI,MdO,MdPl,FEH). -/
set_option linter.unusedVariables false
set_option linter.unusedSimpArgs false
namespace Go.Ev
open Go Go.RowKit
def rB (P:Program) (one:TypeId→Option (List LK)):List Field→Nat→Option (List LK)
  | [],_=>some []
  |f::r,off=>match !(f.name== "_")&&VM f.offset off with
    |true=>match one f.type with
      |some ks=>match VM ks.length (P.cellsOf f.type)&&Nat.blt 0 ks.length with
        |true=>match rB P one r (off+ks.length) with
          |some l=>some (ks++l)
          |none=>none
        |false=>none
      |none=>none
    |false=>none
def pE:Nat→List LK→List LK
  |0,_=> []
  |n+1,l=>l++pE n l
def hG (P:Program):Nat→TypeId→Option (List LK)
  |0,_=>none
  |d+1,t=>match P.underlying t with
    |some .bool=>some [.bool]
    |some (.int k)=>some [.int k]
    |some .string=>some [.str]
    |some (.struct fs)=>match P.stoodInHeld t with
      |false=>rB P (hG P d) fs.toList 0
      |true=>none
    |some (.array n e)=>match hG P d e,P.info? e with
      |some ks,some _=>match VM ks.length (P.cellsOf e)&&Nat.blt 0 ks.length with|true=>some (pE n ks)|false=>none
      |_,_=>none
    |_=>none
def xK (P:Program) (t:TypeId) (l:List Value):Value:=match P.underlying t with
  |some e=>match cF e with
    |true=> .agg l.toArray
    |false=>l.headD .nilFunc
  |none=> .nilFunc
theorem bU:∀ {ks:List LK} {l:List Value},cC ks l→l.length=ks.length
 | [],[],_=>rfl
 |_::_,[],h=>h.elim
 | [],_::_,h=>h.elim
 |k::ks,v::l,h=>by simp [bU h.2]
theorem eO:∀ {ks Q7:List LK} {l:List Value},cC (ks++Q7) l→cC ks (l.take ks.length)∧cC Q7 (l.drop ks.length)
 | [],Q7,l,h=>⟨by simp [cC],by simpa using h⟩
 |k::ks,Q7,[],h=>h.elim
 |k::ks,Q7,v::l,h=>by
  obtain ⟨h1,h2⟩:=h
  obtain ⟨a,b⟩:=eO h2
  exact ⟨⟨h1,a⟩,b⟩
theorem iB:∀(n:Nat) (l m:List Value),n≤l.length→n≤m.length→cj l m=(cj (l.take n) (m.take n)&&cj (l.drop n) (m.drop n))
 |0,l,m,_,_=>by simp [cj]
 |n+1,[],m,h,_=>by simp at h
 |n+1,_::_,[],_,h=>by simp at h
 |n+1,a::l,b::m,h,k=>by
  simp only [List.take_succ_cons,List.drop_succ_cons,cj]
  rw [iB n l m (by simpa using h) (by simpa using k),Bool.and_assoc]
section
variable {P:Program}
def Ij (P:Program) (d:Nat) (t:TypeId) (ks:List LK):Prop:=
  ∀(n:Nat) (l m:List Value) (w:World),cC ks l→cC ks m→(Op.equalIn (n+d) t (xK P t l) (xK P t m)).run P w= .ok (cj l m) w
theorem jo {t:TypeId} {e:TypeDesc} (hu:P.underlying t=some e) {xs:Array Value} {off:Nat} {n:Nat} (hn:n=P.cellsOf t) (PL:cF e=false→n=1) (hl:off+n≤xs.size) (w:World):
  (part t xs off).run P w= .ok (xK P t ((xs.toList.drop off).take n)) w:=by
 simp only [xK,hu]
 cases ha:cF e with
 |true=>
  simp only
  rw [mi hu ha xs off w]
  congr 2
  subst hn
  apply Array.ext'
  simp [Array.toList_extract,List.extract_eq_take_drop]
 |false=>
  simp only
  have h1:=PL ha
  subst h1
  have OK:off<xs.size:=by omega
  rw [mh hu ha (v:=xs[off]) (by simp [OK]) w]
  congr 1
  rw [List.headD_eq_head?_getD,List.head?_take]
  simp [OK]
theorem kY {d:Nat} {t:TypeId} {ks:List LK} (h:hG P d t=some ks):∃e,P.underlying t=some e∧(cF e=false→ks.length=1):=by
 cases d with
 |zero=>simp [hG] at h
 |succ d=>
  unfold hG at h
  split at h
  ·rename_i hu;exact ⟨_,hu,fun _=>by cases h;rfl⟩
  ·rename_i hu;exact ⟨_,hu,fun _=>by cases h;rfl⟩
  ·rename_i hu;exact ⟨_,hu,fun _=>by cases h;rfl⟩
  ·rename_i hu;exact ⟨_,hu,fun q=>by cases q⟩
  ·rename_i hu;exact ⟨_,hu,fun q=>by cases q⟩
  ·cases h
theorem oa {d:Nat} (ih:∀ {t:TypeId} {ks:List LK},hG P d t=some ks→Ij P d t ks) (n:Nat) (xs ys:Array Value) (w:World):∀(fs:List Field) (off:Nat) (ks:List LK),rB P (hG P d) fs off=some ks→
  cC ks (xs.toList.drop off)→cC ks (ys.toList.drop off)→(Op.eqFields (n+d) xs ys fs).run P w= .ok (cj (xs.toList.drop off) (ys.toList.drop off)) w
 | [],off,ks,h,hx,hy=>by
  simp only [rB,Vs] at h
  subst h
  have e1:=List.length_eq_zero_iff.1 (bU hx)
  have e2:=List.length_eq_zero_iff.1 (bU hy)
  rw [e1,e2]
  simp [Op.eqFields,cj]
 |f::fs,off,ks,h,hx,hy=>by
  simp only [rB] at h
  split at h
  ·rename_i hf
   simp only [Vi,Vm,beq_eq_false_iff_ne,VJ] at hf
   obtain ⟨hname,Ru⟩:=hf
   split at h
   ·rename_i k1 h1
    split at h
    ·rename_i hl
     rw [Vi,VJ,Wp] at hl
     obtain ⟨hl,O5⟩:=hl
     split at h
     ·rename_i k2 h2
      obtain rfl:=Vk h
      obtain ⟨a1,a2⟩:=eO hx
      obtain ⟨b1,b2⟩:=eO hy
      rw [List.drop_drop] at a2 b2
      have lx:off+k1.length≤xs.size:=by
       have:=bU hx
       simp at this
       omega
      have ly:off+k1.length≤ys.size:=by
       have:=bU hy
       simp at this
       omega
      obtain ⟨e,hu,PL⟩:=kY h1
      have Sn:=ih h1 n _ _ w a1 b1
      have rest:=oa ih n xs ys w fs (off+k1.length) k2 h2 a2 b2
      unfold Op.eqFields
      rw [if_pos hname,Ru]
      simp only [VD,jo hu hl PL lx w,jo hu hl PL ly w,Vv,Sn]
      have hs:=iB k1.length (xs.toList.drop off) (ys.toList.drop off) (by simp;omega) (by simp;omega)
      rw [List.drop_drop,List.drop_drop] at hs
      rw [hs]
      cases cj ((xs.toList.drop off).take k1.length) ((ys.toList.drop off).take k1.length) with
      |true=>simpa using rest
      |false=>simp
     ·cases h
    ·cases h
   ·cases h
  ·cases h
theorem p7 {d:Nat} {e:TypeId} {ks:List LK} (UN:hG P d e=some ks) (hl:ks.length=P.cellsOf e) (O5:0<ks.length) (ih:Ij P d e ks) (n:Nat) (xs ys:Array Value) (w:World):∀(c i:Nat),
  cC (pE c ks) (xs.toList.drop (i*ks.length))→cC (pE c ks) (ys.toList.drop (i*ks.length))→(Op.eqItems (n+d) e (P.cellsOf e) xs ys (List.range' i c)).run P w= .ok (cj (xs.toList.drop (i*ks.length)) (ys.toList.drop (i*ks.length))) w
 |0,i,hx,hy=>by
  have e1:=List.length_eq_zero_iff.1 (bU hx)
  have e2:=List.length_eq_zero_iff.1 (bU hy)
  rw [e1,e2]
  simp [Op.eqItems,cj]
 |c+1,i,hx,hy=>by
  simp only [pE] at hx hy
  obtain ⟨a1,a2⟩:=eO hx
  obtain ⟨b1,b2⟩:=eO hy
  have hm:i*ks.length+ks.length=(i+1)*ks.length:=by rw [Wm,Nat.one_mul]
  rw [List.drop_drop,hm] at a2 b2
  have lx:i*ks.length+ks.length≤xs.size:=by
   have:=bU hx
   simp only [Vd,List.length_drop,Array.length_toList] at this
   omega
  have ly:i*ks.length+ks.length≤ys.size:=by
   have:=bU hy
   simp at this
   omega
  obtain ⟨e',hu,PL⟩:=kY UN
  have Sn:=ih n _ _ w a1 b1
  have rest:=p7 UN hl O5 ih n xs ys w c (i+1) a2 b2
  rw [List.range'_succ]
  unfold Op.eqItems
  rw [← hl] at rest ⊢
  simp only [VD,jo hu hl PL lx w,jo hu hl PL ly w,Vv,Sn]
  have hs:=iB ks.length (xs.toList.drop (i*ks.length)) (ys.toList.drop (i*ks.length)) (by simp;omega) (by simp;omega)
  rw [List.drop_drop,List.drop_drop,hm] at hs
  rw [hs]
  cases cj ((xs.toList.drop (i*ks.length)).take ks.length) ((ys.toList.drop (i*ks.length)).take ks.length) with
  |true=>simpa using rest
  |false=>simp
theorem pZ:∀ {d:Nat} {t:TypeId} {ks:List LK},hG P d t=some ks→Ij P d t ks
 |0,t,ks,h=>by simp [hG] at h
 |d+1,t,ks,h=>by
  intro n l m w hl hm
  unfold hG at h
  split at h
  ·rename_i hu
   obtain rfl:=Vk h
   have e1:=bU hl
   have e2:=bU hm
   match l,m,e1,e2 with
   | [a],[b],_,_=>
    cases a<;>simp only [cC,LK.ky,and_true,false_and,true_and] at hl
    cases b<;>simp only [cC,LK.ky,and_true,false_and,true_and] at hm
    simp only [xK,hu,cF,List.headD_cons,cj,jQ,VH]
    exact run_equalIn_bool' w (n+d) t _ _ hu
  ·rename_i k hu
   obtain rfl:=Vk h
   have e1:=bU hl
   have e2:=bU hm
   match l,m,e1,e2 with
   | [a],[b],_,_=>
    cases a<;>simp only [cC,LK.ky,and_true,false_and,true_and] at hl
    cases b<;>simp only [cC,LK.ky,and_true,false_and,true_and] at hm
    subst hl
    subst hm
    simp only [xK,hu,cF,List.headD_cons,cj,jQ,VH]
    exact run_equalIn_int w (n+d) t _ _ _ _ hu
  ·rename_i hu
   obtain rfl:=Vk h
   have e1:=bU hl
   have e2:=bU hm
   match l,m,e1,e2 with
   | [a],[b],_,_=>
    cases a<;>simp only [cC,LK.ky,and_true,false_and,true_and] at hl
    cases b<;>simp only [cC,LK.ky,and_true,false_and,true_and] at hm
    simp only [xK,hu,cF,List.headD_cons,cj,jQ,VH]
    exact run_equalIn_string w (n+d) t _ _ hu
  ·rename_i fs hu
   split at h
   ·rename_i OQ
    have hf:P.fieldsOf t=fs:=by simp [Program.fieldsOf,hu]
    simp only [xK,hu,cF]
    rw [show n+(d+1)=(n+d)+1 by omega,run_equalIn_struct w (n+d) t _ _ (by rw [hf];exact hu) OQ,hf]
    have:=oa (fun h=>pZ h) n l.toArray m.toArray w fs.toList 0 ks h (by simpa using hl) (by simpa using hm)
    simpa using this
   ·cases h
  ·rename_i c e hu
   split at h
   ·rename_i k1 i h1 hi
    split at h
    ·rename_i hlen
     rw [Vi,VJ,Wp] at hlen
     obtain ⟨hlen,O5⟩:=hlen
     obtain rfl:=Vk h
     simp only [xK,hu,cF]
     rw [show n+(d+1)=(n+d)+1 by omega,run_equalIn_array w (n+d) _ _ hu hi,List.range_eq_range']
     have:=p7 h1 hlen O5 (pZ h1) n l.toArray m.toArray w c 0 (by simpa using hl) (by simpa using hm)
     simpa using this
    ·cases h
   ·cases h
  ·cases h
theorem gF.of_flat {d:Nat} {t:TypeId} {ks:List LK} (hd:Nat.ble d 10000=true) (hg:P.eqGuardType P.depth t=false) (ha:(match P.underlying t with|some e=>cF e|none=>false)=true) (h:hG P d t=some ks):gF P t ks:=by
 refine ⟨hg,fun xs ys w hx hy=> ?_⟩
 have:=pZ h (10000 - d) xs.toList ys.toList w hx hy
 rw [Nat.sub_add_cancel (by simpa using hd)] at this
 unfold xK at this
 split at ha
 ·rename_i e he
  simp only [he,ha] at this
  simpa using this
 ·cases ha
def J6 (P:Program) (d:Nat) (t:TypeId) (ks:List LK):Prop:=
  ∀(em:Bool) (n:Nat) (l:List Value) (w:World),cC ks l→(Instr.checkKey em (n+d) t (xK P t l)).run P w= .ok () w
theorem ny:∀ {d:Nat} {t:TypeId} {ks:List LK},hG P d t=some ks→J6 P d t ks
 |0,t,ks,h=>by simp [hG] at h
 |d+1,t,ks,h=>by
  intro em n l w hl
  have plain:∀ {e:TypeDesc},P.underlying t=some e→(match e with| .bool| .int _| .string=>true|_=>false)=true→(Instr.checkKey em (n+(d+1)) t (xK P t l)).run P w= .ok () w:=by
   intro e hu he
   rw [show n+(d+1)=(n+d)+1 from rfl,Instr.checkKey]
   simp only [VD,run_underlying hu,Vv]
   cases e<;>simp only [V5] at he<;>simp
  unfold hG at h
  split at h
  ·rename_i hu;exact plain hu rfl
  ·rename_i hu;exact plain hu rfl
  ·rename_i hu;exact plain hu rfl
  ·rename_i fs hu
   split at h
   ·rename_i OQ
    rw [show n+(d+1)=(n+d)+1 from rfl,Instr.checkKey]
    simp only [xK,hu,cF,VD,run_underlying hu,Vv]
    rw [← Array.forIn_toList]
    have Pj:cC ks (l.toArray.toList.drop 0):=by simpa using hl
    generalize l.toArray=xs at Pj ⊢
    generalize fs.toList=L at h ⊢
    generalize 0=off at h Pj
    clear hl hu OQ
    induction L generalizing off ks with
    |nil=>simp
    |cons f L ihL=>
     simp only [rB] at h
     split at h
     ·rename_i hf
      simp only [Vi,Vm,beq_eq_false_iff_ne,VJ] at hf
      obtain ⟨hname,Ru⟩:=hf
      split at h
      ·rename_i k1 h1
       split at h
       ·rename_i hlen
        rw [Vi,VJ,Wp] at hlen
        obtain ⟨hlen,O5⟩:=hlen
        split at h
        ·rename_i k2 h2
         obtain rfl:=Vk h
         obtain ⟨a1,a2⟩:=eO Pj
         rw [List.drop_drop] at a2
         have lx:off+k1.length≤xs.size:=by
          have:=bU Pj
          simp at this
          omega
         obtain ⟨e,hu,PL⟩:=kY h1
         have Sn:=ny h1 em n _ w a1
         have rest:=ihL _ _ h2 a2
         simp only [List.forIn_cons,VD,hname,ne_eq,not_false_eq_true,if_true,Vv,Ru,jo hu hlen PL lx w,Sn,VK]
         exact rest
        ·cases h
       ·cases h
      ·cases h
     ·cases h
   ·cases h
  ·rename_i c e hu
   split at h
   ·rename_i k1 i h1 hi
    split at h
    ·rename_i hlen
     rw [Vi,VJ,Wp] at hlen
     obtain ⟨hlen,O5⟩:=hlen
     obtain rfl:=Vk h
     rw [show n+(d+1)=(n+d)+1 from rfl,Instr.checkKey]
     simp only [xK,hu,cF,VD,run_underlying hu,Vv]
     simp only [Std.Legacy.Range.forIn_eq_forIn_range',Std.Legacy.Range.size,Nat.sub_zero,Nat.add_one_sub_one,Nat.div_one]
     have Pj:cC (pE c k1) (l.toArray.toList.drop (0*k1.length)):=by simpa using hl
     generalize l.toArray=xs at Pj ⊢
     generalize 0=j at Pj ⊢
     clear hl hu
     have IH:=ny h1 em n
     induction c generalizing j with
     |zero=>simp
     |succ c ihc=>
      simp only [pE] at Pj
      obtain ⟨a1,a2⟩:=eO Pj
      have hm:j*k1.length+k1.length=(j+1)*k1.length:=by rw [Wm,Nat.one_mul]
      rw [List.drop_drop,hm] at a2
      have lx:j*k1.length+k1.length≤xs.size:=by
       have:=bU Pj
       simp only [Vd,List.length_drop,Array.length_toList] at this
       omega
      obtain ⟨e',Rr,PL⟩:=kY h1
      have Sn:=IH _ w a1
      rw [List.range'_succ]
      have rest:=ihc rfl _ a2
      simp only [List.forIn_cons,VD,run_sizeOf w hi,Vv,← hlen,jo Rr hlen PL lx w,Sn,VK]
      exact rest
    ·cases h
   ·cases h
  ·cases h
theorem vZ {kd:TypeDesc} (hk:cF kd=true) (x:Array Value) (e:MapEntry) (l:List MapEntry) (i:Nat):Instr.findNow kd (.agg x) (e::l) i=none:=by
 cases kd<;>simp [cF] at hk<;>simp [Instr.findNow,Instr.sameNow]
theorem j4 {t:TypeId} {ks:List LK} (hq:gF P t ks) (x:Array Value) (hx:cC ks x.toList) (w:World):∀(l:List MapEntry) (i:Nat),(∀e∈l,∃y:Array Value,e.key= .agg y∧cC ks y.toList)→
  (Instr.findAsking t (.agg x) l i).run P w= .ok (kA x.toList l i) w
 | [],i,_=>by simp [Instr.findAsking,kA]
 |e::l,i,h=>by
  obtain ⟨y,hy,fy⟩:=h e (by simp)
  have ih:=j4 hq x hx w l (i+1) fun e' he=>h e' (by simp [he])
  have he:(Op.equal t (.agg x) e.key).run P w= .ok (cj x.toList y.toList) w:=by
   rw [hy];exact hq.eq x y w hx fy
  simp only [Instr.findAsking,VD,he,Vv]
  simp only [kA,hy]
  cases cj x.toList y.toList with
  |true=>simp
  |false=>simpa using ih
theorem ia.of_flat {d:Nat} {t:TypeId} {ks:List LK} (hd:Nat.ble d 10000=true) (hg:P.eqGuardType P.depth t=false) (ha:(match P.underlying t with|some e=>cF e|none=>false)=true) (h:hG P d t=some ks) (hs:lA ks=true):ia P t ks:=by
 have hq:=gF.of_flat hd hg ha h
 refine ⟨hs,fun w em xs hx=> ?_,fun w x l hx hl=> ?_⟩
 ·have:=ny h em (10000 - d) xs.toList w hx
  rw [Nat.sub_add_cancel (by simpa using hd)] at this
  unfold xK at this
  split at ha
  ·rename_i e he
   simp only [he,ha] at this
   simpa using this
  ·cases ha
 ·split at ha
  ·rename_i e he
   cases l with
   |nil=>simp [Instr.findKey,run_underlying he,Instr.findNow,kA]
   |cons e0 l=>
    simp only [Instr.findKey,VD,run_underlying he,Vv,vZ ha]
    exact j4 hq x hx w _ 0 hl
  ·cases ha
end
theorem bj {x y:Bool} (h:x=false):(x&&y)=false:=by simp [h]
theorem aD {x y v:Bool} (h:x=true) (k:y=v):(x&&y)=v:=by simp [h,k]
theorem K3 {x c c':Int} {v:Bool} (h:decide (x<c')=v) (hc:c'=c+1):decide (x≤c)=v:=by
 subst hc;rw [← h];exact decide_eq_decide.2 (by omega)
theorem Jp {y c c':Int} {v:Bool} (h:decide (y<c')=v) (hc:c'=c+1):decide (c<y)= !v:=by
 subst hc;rw [← h,← decide_not];exact decide_eq_decide.2 (by omega)
theorem Jr {y c c':Int} {v:Bool} (h:decide (y<c')=v) (hc:c'=c):decide (c≤y)= !v:=by
 subst hc;rw [← h,← decide_not];exact decide_eq_decide.2 (by omega)
theorem K1 {x d c:Int} (h:decide (x<d)=true) (hc:d≤c):decide (x<c)=true:=by
 simp only [decide_eq_true_eq] at h ⊢;omega
theorem HI {x d c:Int} (h:decide (x<d)=false) (hc:c≤d):decide (x<c)=false:=by
 simp only [decide_eq_false_iff_not] at h ⊢;omega
theorem aL {x c:Int} (h:¬x=c):(x==c)=false:=by simp [h]
theorem Ln {x c d:Int} {v:Bool} (h:x=c) (hv:(c==d)=v):(x==d)=v:=by rw [h,hv]
def tT {P:Program} :Ev P:= .cH true true rfl
def tF {P:Program} :Ev P:= .cH false false rfl
def tC {P:Program} {q v:Bool} (h:q=v):Ev P:= .cH q v h
theorem eT {b v:Bool} (h:b=v):(b==true)=(v==true):=by rw [h]
theorem eF {b v:Bool} (h:b=v):(b==false)=(v==false):=by rw [h]
theorem nt {b v:Bool} (h:b=v):(!b)= !v:=by rw [h]
theorem cY {x c':Int} {v:Bool} (c:Int) (h:decide (x<c')=v) (hc:c'=c+1:=by decide):decide (x≤c)=v:=K3 h hc
theorem fb {y c':Int} {v:Bool} (c:Int) (h:decide (y<c')=v) (hc:c'=c+1:=by decide):decide (c<y)= !v:=Jp h hc
theorem bk {y c':Int} {v:Bool} (c:Int) (h:decide (y<c')=v) (hc:c'=c:=by decide):decide (c≤y)= !v:=Jr h hc
theorem K2 {x d:Int} (c:Int) (h:decide (x<d)=true) (hc:d≤c:=by decide):decide (x<c)=true:=K1 h hc
theorem Io {x d:Int} (c:Int) (h:decide (x<d)=false) (hc:c≤d:=by decide):decide (x<c)=false:=HI h hc
theorem cu {x c:Int} (d:Int) (v:Bool) (h:x=c) (hv:(c==d)=v:=by decide):(x==d)=v:=Ln h hv
def aK:j9→j9→Nat→Prop
  |_,.no,_=>True
  | .tight,.tight,_=>True
  | .tight,.fresh n,sz=>n=sz
  | .fresh a,.fresh b,_=>a=b
  |_,_,_=>False
mutual
def wk:D→D→Prop
  | .aj o sz xs,.aj o' O1 ys=>xs=ys∧(sz=O1∨xs= [])∧aK o o' O1∧(o= .tight∨sz=O1)
  | .agg l,.agg m=>aB l m
  | .aM l,.aM m=>aB l m
  |a,b=>a=b
def aB:List D→List D→Prop
  | [],[]=>True
  |a::l,b::m=>wk a b∧aB l m
  |_,_=>False
end
theorem ma:∀ {l m:List D},aB l m→l.length=m.length∧∀(i:Nat) (a b:D),l[i]? =some a→m[i]? =some b→wk a b
 | [],[],_=>⟨rfl,fun i a b h=>by simp at h⟩
 | [],_::_,h=>by simp [aB] at h
 |_::_,[],h=>by simp [aB] at h
 |a::l,b::m,h=>by
  rw [aB] at h
  obtain ⟨h1,h2⟩:=ma h.2
  refine ⟨by simp [h1],fun i x y p q=> ?_⟩
  cases i with
  |zero=>simp at p q;subst p q;exact h.1
  |succ i=>simp at p q;exact h2 i x y p q
theorem bo.wk {C:Nat→Nat→Option Value} {M:MM} (hM:M=ep C) {d:D} {v:Value} (h:bo M d v):∀ {d':D},wk d d'→bo M d' v:=by
 induction h with
 |aj b off vs hl OL ha OT hc hr OQ ho ih=>
  intro d' w
  rename_i M o sz xs _ _ _
  cases d'<;>simp only [Ev.wk,reduceCtorEq] at w
  obtain ⟨rfl,w2,w3,_⟩:=w
  rename_i o' _ _
  refine bo.resize (sz:=sz) (.aj b off vs hl OL ha OT hc hr OQ ?_) w2
  cases o<;>cases o'<;>first|trivial|exact ho|(simp only [aK] at w3)
 |agg h r ih=>
  intro d' w
  cases d'<;>simp only [Ev.wk,reduceCtorEq] at w
  rename_i _ cs vs _
  obtain ⟨h1,h2⟩:=ma w
  refine .agg (h1▸h) fun i d v a b=> ?_
  have OK:i<cs.length:=by
   rw [h]
   exact (Array.getElem?_eq_some_iff.1 b).1
  exact ih i cs[i] v (by simp [OK]) b hM (h2 i _ _ (by simp [OK]) a)
 |aM h r ih=>
  intro d' w
  cases d'<;>simp only [Ev.wk,reduceCtorEq] at w
  rename_i _ cs vs _
  obtain ⟨h1,h2⟩:=ma w
  refine .aM (h1▸h) fun i d v a b=> ?_
  have OK:i<cs.length:=by
   rw [h]
   exact (Array.getElem?_eq_some_iff.1 b).1
  exact ih i cs[i] v (by simp [OK]) b hM (h2 i _ _ (by simp [OK]) a)
 |undef v=>intro d' w;cases d'<;>simp only [Ev.wk,reduceCtorEq] at w;exact .undef v
 |int k n=>intro d' w;cases d'<;>simp only [Ev.wk,reduceCtorEq] at w;rw [← w];exact .int k n
 |bool b=>intro d' w;cases d'<;>simp only [Ev.wk,reduceCtorEq] at w;rw [← w];exact .bool b
 |str s=>intro d' w;cases d'<;>simp only [Ev.wk,reduceCtorEq] at w;rw [← w];exact .str s
 |fL=>intro d' w;cases d'<;>simp only [Ev.wk,reduceCtorEq] at w;exact .fL
 |av=>intro d' w;cases d'<;>simp only [Ev.wk,reduceCtorEq] at w;exact .av
 |ptr q h=>intro d' w;cases d'<;>simp only [Ev.wk,reduceCtorEq] at w;rw [← w];exact .ptr q h
 |cT q vs hx hc hr ih=>intro d' w;cases d'<;>simp only [Ev.wk,reduceCtorEq] at w;rw [← w];exact .cT q vs hx hc hr
 |bp h=>intro d' w;cases d'<;>simp only [Ev.wk,reduceCtorEq] at w;rw [← w];exact .bp h
 |jx h=>intro d' w;cases d'<;>simp only [Ev.wk,reduceCtorEq] at w;rw [← w];exact .jx h
 |bR h hh hc=>intro d' w;cases d'<;>simp only [Ev.wk,reduceCtorEq] at w;rw [← w];exact .bR h hh hc
 |sub h hc hp ho=>intro d' w;cases d'<;>simp only [Ev.wk,reduceCtorEq] at w;rw [← w];exact .sub h hc hp ho
 |fn h1 h2 r1 r2 i1 i2=>intro d' w;cases d'<;>simp only [Ev.wk,reduceCtorEq] at w;rw [← w];exact .fn h1 h2 r1 r2
theorem vT {B:Nat} {w:World} {C:Nat→Nat→Option Value} {d d':D} {v:Value} (hr:bo (ep C) d v) (hf:∀sz O1 xs,d= .aj (.fresh sz) O1 xs→∃a len cap,v= .slice a len cap∧O1=sz∧ik B w C sz a len cap) (hw:wk d d'):
  ∀sz O1 xs,d'= .aj (.fresh sz) O1 xs→∃a len cap,v= .slice a len cap∧O1=sz∧ik B w C sz a len cap:=by
 rintro sz O1 xs rfl
 cases d<;>simp only [wk,reduceCtorEq] at hw
 rename_i o UC TR
 obtain ⟨rfl,w2,w3,w4⟩:=hw
 cases o with
 |no=>simp only [aK] at w3
 |tok a b=>simp only [aK] at w3
 |tight=>
  simp only [aK] at w3
  subst w3
  cases hr with
  |aj b off vs hl OL ha OT hc hr OQ ho=>exact ⟨_,_,_,rfl,rfl,.inl ho⟩
 |fresh k=>
  simp only [aK] at w3
  subst w3
  rcases w4 with w4|rfl
  ·cases w4
  ·exact hf _ _ _ rfl
theorem aZ.to {P:Program} {f:FuncId} {args:List D} {d d':D} (h:aZ P f args d) (hw:wk d d'):aZ P f args d':=by
 refine ⟨h.Cr,fun w C vs hC ha=>Calls.mono (h.run w C vs hC ha) ?_⟩
 rintro e w' ⟨v,C',rfl,hext,OP,T2,S2⟩
 refine ⟨v,C',rfl,hext,OP.wk rfl hw,vT OP T2 hw,?_⟩
 rintro ds vs rfl rfl i sz O1 xs hi
 cases d<;>simp only [wk,reduceCtorEq] at hw
 rename_i S9
 obtain ⟨h1,h2⟩:=ma hw
 have OK:i<S9.length:=by
  rw [h1]
  rcases Nat.lt_or_ge i ds.length with q|q
  ·exact q
  ·rw [List.getElem?_eq_none q] at hi;cases hi
 cases OP with
 |aM hl hr=>
  have TT:i<vs.size:=hl▸OK
  have:=vT (d:=S9[i]) (d':= .aj (.fresh sz) O1 xs) (v:=vs[i]) (hr i _ _ (by simp [OK]) (by simp [TT])) (fun s1 s2 x e=>by
   obtain ⟨a,len,cap,k1,k2⟩:=S2 S9 vs rfl rfl i s1 s2 x (by simp [OK,e])
   exact ⟨a,len,cap,by simpa [TT] using k1,k2⟩) (h2 i _ _ (by simp [OK]) hi) sz O1 xs rfl
  obtain ⟨a,len,cap,k1,k2,k3⟩:=this
  exact ⟨a,len,cap,by simp [TT,k1],k2,k3⟩
def gJ:Code→List Code
  | .seq a b=>gJ a++gJ b
  | .cond _ a b=>gJ a++gJ b
  | .block _ a=>gJ a
  | .scope a=>gJ a
  | .loop a=>a::gJ a
  | .rangeFunc _ _ a b=>gJ a++gJ b
  |_=> []
def aI (fn:Func) (i:Nat):Code:=match fn.body with
  |some c=>(gJ c).getD i .skip
  |none=> .skip
def fJ:Code→List (Code×Code)
  | .seq a b=>fJ a++fJ b
  | .cond _ a b=>fJ a++fJ b
  | .block _ a=>fJ a
  | .scope a=>fJ a
  | .loop a=>fJ a
  | .rangeFunc _ _ a b=>(a,b)::fJ b
  |_=> []
def M3 (fn:Func) (i:Nat):Code:=match fn.body with
  |some c=>((fJ c).getD i (.skip,.skip)).1
  |none=> .skip
def MZ (fn:Func) (i:Nat):Code:=match fn.body with
  |some c=>((fJ c).getD i (.skip,.skip)).2
  |none=> .skip
def fP:Code→List Code
  | .seq a b=>fP a++fP b
  | .cond _ a b=>fP a++fP b
  | .block i a=> .block i a::fP a
  | .scope a=>fP a
  | .loop a=>fP a
  | .rangeFunc _ _ a b=>fP a++fP b
  |_=> []
def Lt (fn:Func) (i:Nat):Code:=match fn.body with
  |some c=>(fP c).getD i .skip
  |none=> .skip
section
variable {P:Program}
theorem dn {cs:List D} (h:cs.all D.clean=true):∀c∈cs,c.clean=true:=List.all_eq_true.1 h
theorem aF.cast {c:Code} {n0:Nat} {t t1:List D} {s s1:List Ob} {ex Tx:Ex} {t' S4:List D} {s' Sd:List Ob} (h:aF P c n0 t s ex t' s') (h1:t=t1) (h2:s=s1) (h3:ex=Tx) (h4:t'=S4) (h5:s'=Sd):aF P c n0 t1 s1 Tx S4 Sd:=by
 subst h1 h2 h3 h4 h5;exact h
theorem aF.from {c:Code} {n0:Nat} {t t1:List D} {s s1:List Ob} {ex:Ex} {t':List D} {s':List Ob} (h:aF P c n0 t s ex t' s') (h1:t=t1) (h2:s=s1):aF P c n0 t1 s1 ex t' s':=by
 subst h1 h2;exact h
theorem EK {C:Nat→Nat→Option Value} {l m:List D} {vs:Array Value} (h:bT (ep C) l vs) (hw:aB l m):bT (ep C) m vs:=by
 obtain ⟨h1,h2⟩:=ma hw
 refine ⟨by rw [← h1];exact h.1,fun i d v p q=> ?_⟩
 have OK:i<l.length:=by rw [h.1];exact (Array.getElem?_eq_some_iff.1 q).1
 exact (h.2 i l[i] v (by simp [OK]) q).wk rfl (h2 i _ _ (by simp [OK]) p)
theorem aZ.args {f:FuncId} {az Th:List D} {d:D} (h:aZ P f az d) (hw:aB Th az):aZ P f Th d:=
 ⟨h.Cr,fun w C vs hC ha=>h.run w C vs hC (EK ha hw)⟩
theorem ao.cast {c:Code} {sp:HS} {n0:Nat} {t:List D} {s:List Ob} {ex:Ex} {t' S4:List D} {s' Sd:List Ob} (h:ao P c sp n0 t s ex t' s') (h4:t'=S4) (h5:s'=Sd):ao P c sp n0 t s ex S4 Sd:=by
 subst h4 h5;exact h
end
open Go
abbrev Ju (kind op width size:Int) (du:Bool) (dst src off ai:Int):D:=
  .agg [.int .i8 kind,.int .i8 op,.int .i8 width,.int .i8 size,.bool du,.int .i8 dst,.int .i8 src,.int .i64 off,.int .i64 ai]
def DG (dst src off ai:Int):Bool:=decide (0≤dst∧dst≤10∧0≤src∧src≤10∧ -32768≤off∧off≤32767∧ -2147483648≤ai∧ai≤2147483647)
def CD (n:Int):Bool:=decide (n=1∨n=2∨n=4∨n=8)
def F4 (kind op width size:Int) (du:Bool) (dst src off ai:Int):Bool:=
  if kind=0 then decide (0≤op∧op≤12∧(width=32∨width=64)∧dst<10∧size=0∧off=0)&&(if du then decide (op≠8∧ai=0) else decide (src=0∧(op=8→ai=0)))
  else if kind=1 then CD size&&decide (dst<10∧op=0∧width=0∧ai=0)&& !du
  else if kind=2 then CD size&&decide (op=0∧width=0∧ai=0)&& !du
  else if kind=3 then decide (0≤op∧op≤10∧width=0∧size=0)&&(if du then decide (ai=0) else decide (src=0))
  else if kind=4 then decide (op=0∧width=0∧size=0∧dst=0∧src=0∧ai=0)&& !du
  else if kind=5 then decide (op=0∧width=0∧size=0∧dst=0∧src=0∧off=0∧0≤ai∧ai≤15)&& !du
  else if kind=6 then decide (op=0∧width=0∧size=0∧dst=0∧src=0∧off=0∧ai=0)&& !du
  else false
def Jn (kind op width size:Int) (du:Bool) (dst src off ai:Int):Bool:=DG dst src off ai&&F4 kind op width size du dst src off ai
def OA (kind op:Int):Int:=if kind=0∨kind=3 then op else 0
def Ll (kind width:Int):Int:=if kind=0 then width else 0
def Mx (kind size:Int):Int:=if kind=1∨kind=2 then size else 0
def Lm (kind op:Int) (du:Bool):Bool:=if kind=0 then du&&decide (op≠8) else if kind=3 then du else false
def ND (kind dst:Int):Int:=if kind=0∨kind=1∨kind=2∨kind=3 then dst else 0
def NA (kind op:Int) (du:Bool) (src:Int):Int:=if kind=0 then (if du&&decide (op≠8) then src else 0) else if kind=1∨kind=2 then src else if kind=3 then (if du then src else 0) else 0
def NB (kind off:Int):Int:=if kind=1∨kind=2∨kind=3∨kind=4 then off else 0
def NC (kind op:Int) (du:Bool) (ai:Int):Int:=if kind=0 then (if du||decide (op=8) then 0 else ai) else if kind=3 then (if du then 0 else ai) else if kind=5 then ai else 0
abbrev xD (op w dst src base aa ai cc:Int):D:=
  .agg [.int .i8 op,.int .i8 w,.int .i8 dst,.int .i8 src,.int .i8 base,.int .i64 aa,.int .i64 ai,.int .i8 cc]
abbrev dJ (kind op w dst src base aa ai cc aP aC num to:Int):D:=
  .agg [.int .i8 kind,.int .i8 op,.int .i8 w,.int .i8 dst,.int .i8 src,.int .i8 base,.int .i64 aa,.int .i64 ai,.int .i8 cc,.int .i8 aP,.int .i8 aC,.int .i64 num,.int .i64 to]
abbrev fw (aC aP:Int):D:=dJ 1 0 0 0 0 0 0 0 0 aP aC 0 0
abbrev fj (aP aC:Int):D:=dJ 2 0 0 0 0 0 0 0 0 aP aC 0 0
abbrev two (op w dst src:Int):D:=dJ 0 op w dst src 0 0 0 0 0 0 0 0
abbrev num (op w dst n:Int):D:=dJ 0 op w dst 0 0 0 n 0 0 0 0 0
abbrev Ia (w dst:Int):D:=dJ 0 25 w dst 11 0 0 0 4 0 0 0 0
def EF (width ai:Int):Bool:=if width=32 then decide (ai%4294967296=0) else decide (ai=0)
def GI (op:Int):Int:=if op=0 then 2 else if op=1 then 5 else if op=4 then 3 else if op=5 then 4 else if op=10 then 6 else if op=6 then 20 else if op=7 then 21 else 22
def GW (op:Int):Int:=if op=0 then 9 else if op=1 then 12 else if op=4 then 10 else if op=5 then 11 else if op=10 then 13 else if op=6 then 17 else if op=7 then 18 else 19
def LA (op width:Int) (du:Bool) (dst src ai:Int):List D:=
  if op=3∨op=9 then
    (if du then
      [fw 0 dst,fw 1 src,num 1 32 2 0,num 1 32 11 1,two 8 width 1 1,Ia width 1,two 24 width 1 0,fw 1 src]++
        (if op=3 then [num 1 32 11 0,two 8 width 1 1,Ia width 0,fj dst 0] else [fw 11 dst,two 8 width 1 1,Ia width 2,fj dst 2])
    else if EF width ai then
      (if op=3 then [num 1 width 0 0,fj dst 0] else if width=32 then [fw 0 dst,two 0 32 0 0,fj dst 0] else [fw 0 dst,fj dst 0])
    else [fw 0 dst,num 1 width 1 ai,num 1 32 2 0,two 24 width 1 0,fj dst (if op=3 then 0 else 2)])
  else if op=2 then (if du then [fw 0 dst,fw 1 src,two 16 width 0 1,fj dst 0] else [fw 0 dst,num 1 width 1 ai,two 16 width 0 1,fj dst 0])
  else if op=8 then [fw 0 dst,two 23 width 0 0,fj dst 0]
  else if op=11 then (if du then (if width=32 then [fw 0 src,two 0 32 0 0,fj dst 0] else [fw 0 src,fj dst 0]) else [num 1 width 0 ai,fj dst 0])
  else if op=6∨op=7∨op=12 then (if du then [fw 0 dst,fw 1 src,two (GI op) width 0 0,fj dst 0] else [fw 0 dst,num (GW op) width 0 (ai%width),fj dst 0])
  else (if du then [fw 0 dst,fw 1 src,two (GI op) width 0 1,fj dst 0] else [fw 0 dst,num (GW op) width 0 ai,fj dst 0])
def G7 (kind op width size:Int) (du:Bool) (dst src off ai:Int):List D:=
  if kind=0 then LA op width du dst src ai
  else if kind=1 then [fw 1 src,dJ 0 26 (8*size) 0 0 1 off 0 0 0 0 0 0,fj dst 0]
  else if kind=2 then [fw 1 dst,fw 0 src,dJ 0 27 (8*size) 0 0 1 off 0 0 0 0 0 0]
  else if kind=5 then [dJ 3 0 0 0 0 0 0 0 0 0 0 ai 0,fj 0 0,num 1 32 1 0,fj 1 1,fj 2 1,fj 3 1,fj 4 1,fj 5 1]
  else if kind=6 then [dJ 6 0 0 0 0 0 0 0 0 0 0 0 0]
  else []
theorem dK (n:Int):WO.u8.wrap n=n%256:=by simp [WO.wrap,WO.bits,WO.signed]
theorem zf (n:Int):WO.u16.wrap n=n%65536:=by simp [WO.wrap,WO.bits,WO.signed]
theorem ze (n:Int):WO.u32.wrap n=n%4294967296:=by simp [WO.wrap,WO.bits,WO.signed]
theorem il (n:Int):WO.u64.wrap n=n%18446744073709551616:=by simp [WO.wrap,WO.bits,WO.signed]
theorem bm (n:Int):WO.i8.wrap n=(n+128)%256 - 128:=by simp only [WO.wrap,WO.bits,WO.signed];simp;split<;>omega
theorem Iv (n:Int):WO.i16.wrap n=(n+32768)%65536 - 32768:=by simp only [WO.wrap,WO.bits,WO.signed];simp;split<;>omega
theorem Iu (n:Int):WO.i32.wrap n=(n+2147483648)%4294967296 - 2147483648:=by simp only [WO.wrap,WO.bits,WO.signed];simp;split<;>omega
theorem aH (n:Int):WO.i64.wrap n=(n+9223372036854775808)%18446744073709551616 - 9223372036854775808:=by simp only [WO.wrap,WO.bits,WO.signed];simp;split<;>omega
theorem toNat_ofInt (w:Nat) (a:Int):(Vh w a).toNat=(a%(2^w:Nat)).toNat:=by simp [BitVec.toNat_ofInt]
theorem and_ones (w k:Nat) (hk:k≤w) (a:Int):((Vh w a&&&Vh w ((2^k - 1:Nat):Int)).toNat:Int)=a%(2^k:Nat):=by
 have hp:0<2^k:=Nat.two_pow_pos k
 have hle:2^k≤2^w:=Nat.pow_le_pow_right (by omega) hk
 have e2:(((2^k - 1:Nat):Int)%((2^w:Nat):Int)).toNat=2^k - 1:=by
  rw [Int.emod_eq_of_lt (by omega) (by omega)]
  omega
 rw [BitVec.toNat_and,toNat_ofInt,toNat_ofInt,e2,Nat.and_two_pow_sub_one_eq_mod]
 have h0:0≤a%((2^w:Nat):Int):=Int.emod_nonneg _ (by omega)
 have h1:((a%((2^w:Nat):Int)).toNat:Int)=a%((2^w:Nat):Int):=Int.toNat_of_nonneg h0
 rw [Int.natCast_emod,h1]
 have hd:((2^k:Nat):Int)∣((2^w:Nat):Int):=by
  rw [Int.natCast_dvd_natCast];exact Nat.pow_dvd_pow 2 hk
 exact Int.emod_emod_of_dvd a hd
structure XS where
  op:Int
  w:Int
  dst:Int
  src:Int
  base:Int
  aa:Int
  ai:Int
  cc:Int
deriving DecidableEq
def XS.d (x:XS):D:=xD x.op x.w x.dst x.src x.base x.aa x.ai x.cc
structure cd where
  kind:Int
  op:Int
  w:Int
  dst:Int
  src:Int
  base:Int
  aa:Int
  ai:Int
  cc:Int
  aP:Int
  aC:Int
  num:Int
  to:Int
deriving DecidableEq
def cd.d (x:cd):D:=dJ x.kind x.op x.w x.dst x.src x.base x.aa x.ai x.cc x.aP x.aC x.num x.to
structure iE where
  kind:Int
  op:Int
  width:Int
  size:Int
  du:Bool
  dst:Int
  src:Int
  off:Int
  ai:Int
deriving DecidableEq
def iE.d (x:iE):D:=Ju x.kind x.op x.width x.size x.du x.dst x.src x.off x.ai
abbrev Mg (kind op w dst src base aa ai cc aP aC num to:Int):List D:=
  [.int .i8 kind,.int .i8 op,.int .i8 w,.int .i8 dst,.int .i8 src,.int .i8 base,.int .i64 aa,.int .i64 ai,.int .i8 cc,.int .i8 aP,.int .i8 aC,.int .i64 num,.int .i64 to]
theorem get_map {α:Type} {f:α→D} {l:List α} {k:Nat} {x:α} (h:l[k]? =some x):(l.map f)[k]? =some (f x):=by simp [h]
def Og (n:Int):Int:=WO.i64.wrap (1*2^(min (WO.u64.wrap n).toNat WO.i64.bits))
def er (n:Int):Int:=WO.i64.wrap (1*2^(min n.toNat WO.i64.bits))
def gb (a b:Int):Int:=WO.i64.wrap ((Vh WO.i64.bits a|||Vh WO.i64.bits b).toNat:Int)
def ql (a b:Int):Int:=WO.i64.wrap ((Vh WO.i64.bits a&&& ~~~Vh WO.i64.bits b).toNat:Int)
end Go.Ev
namespace Go.Proofs.YtkpneibifdoecaaGreat
open Go Go.Ev
theorem mixed:Tryz.prog.follows .mixedOrders=true:=by kernel_rfl
theorem dP:gF Tryz.prog 55 [.int .i8,.int .i8,.int .i8,.int .i8,.int .i8,.int .i64,.int .i64,.int .i8]:=gF.of_flat (d:=5) (by kernel_rfl) (by kernel_rfl) (by kernel_rfl) (by kernel_rfl)
theorem hU:gF Tryz.prog 65 [.int .i8,.int .i8,.int .i8,.int .i8,.int .i8,.int .i8,.int .i64,.int .i64,.int .i8,.int .i8,.int .i8,.int .i64,.int .i64]:=gF.of_flat (d:=5) (by kernel_rfl) (by kernel_rfl) (by kernel_rfl) (by kernel_rfl)
theorem bw:gF Tryz.prog 25 [.int .i8,.int .i8]:=gF.of_flat (d:=5) (by kernel_rfl) (by kernel_rfl) (by kernel_rfl) (by kernel_rfl)
theorem cn:gF Tryz.prog 45 [.bool,.bool,.bool,.bool,.bool]:=gF.of_flat (d:=5) (by kernel_rfl) (by kernel_rfl) (by kernel_rfl) (by kernel_rfl)
theorem fM:ia Tryz.prog 79 [.int .i8,.int .i8]:=ia.of_flat (d:=5) (by kernel_rfl) (by kernel_rfl) (by kernel_rfl) (by kernel_rfl) (by kernel_rfl)
end Go.Proofs.YtkpneibifdoecaaGreat
namespace Go.Ev
open Go
def aR (op:Int):Int:=
  if op=0∨(2≤op∧op≤8) then 1
  else if op=16 then 2
  else if op=1∨(9≤op∧op≤15) then 3
  else if 17≤op∧op≤19 then 4
  else if 20≤op∧op≤24 then 5
  else if op=25 then 6
  else if op=26 then 7
  else if op=27 then 8
  else if op=28 then 9
  else if op=29 then 10
  else if op=30∨op=31 then 11
  else 0
def cr (op:Int):Int:=
  if op=0 then 0x89 else if op=1 then 0xC7 else if op=2 then 0x01 else if op=3 then 0x09 else if op=4 then 0x21 else if op=5 then 0x29 else if op=6 then 0x31 else if op=7 then 0x39 else if op=8 then 0x85
  else if 9≤op∧op≤14 then 0x81 else if op=15 then 0xF7 else if op=16 then 0xAF else if 17≤op∧op≤19 then 0xC1 else if 20≤op∧op≤22 then 0xD3 else if op=23∨op=24 then 0xF7
  else if op=25 then 0x40 else if op=26 then 0x8B else if op=27 then 0x89 else if op=28 then 0xE9 else if op=29 then 0x80 else if op=30 then 0xC3 else if op=31 then 0x05 else 0
def dV (op:Int):Int:=
  if op=10 then 1 else if op=11∨op=17∨op=20 then 4 else if op=12∨op=18∨op=21 then 5 else if op=13∨op=24 then 6 else if op=14∨op=19∨op=22 then 7 else if op=23 then 3 else 0
def Lq (op:Int):Int:=
  if aR op=1∨aR op=2 then 1 else if aR op=0 then 0 else aR op - 1
def ay (n:Int):Bool:=decide (0≤n∧n≤15)
def bb (n:Int):Bool:=decide ((2≤n∧n≤7)∨(12≤n∧n≤15))
def au (w:Int):Bool:=decide (w=32∨w=64)
def an (w:Int):Bool:=decide (w=8∨w=16∨w=32∨w=64)
def ax (w ai:Int):Bool:=decide (w=32∨(w=8∧ -128≤ai∧ai≤127))
def aG (sh w dst src base aa ai cc:Int):Bool:=
  if sh=1∨sh=2 then au w&&decide (base=0∧aa=0∧ai=0∧cc=0)
  else if sh=3 then au w&&decide (src=0∧base=0∧aa=0∧cc=0)
  else if sh=4 then au w&&decide (src=0∧base=0∧aa=0∧cc=0∧0≤ai∧ai<w)
  else if sh=5 then au w&&decide (src=0∧base=0∧aa=0∧ai=0∧cc=0)
  else if sh=6 then au w&&decide (base=0∧aa=0∧ai=0)&&bb cc
  else if sh=7 then an w&&decide (src=0∧ai=0∧cc=0)
  else if sh=8 then an w&&decide (dst=0∧ai=0∧cc=0)
  else if sh=9 then ax w ai&&decide (dst=0∧src=0∧base=0∧aa=0∧cc=0)
  else if sh=10 then ax w ai&&decide (dst=0∧src=0∧base=0∧aa=0)&&bb cc
  else if sh=11 then decide (w=0∧dst=0∧src=0∧base=0∧aa=0∧ai=0∧cc=0)
  else false
def aA (op w dst src base aa ai cc:Int):Bool:=
  ay dst&&ay src&&ay base&&decide (-2147483648≤aa∧aa≤2147483647)&&decide (-2147483648≤ai∧ai≤2147483647)&&aG (aR op) w dst src base aa ai cc
def cE (n:Int):List Int:= [n%256,n / 256%256,n / 65536%256,n / 16777216%256]
def gV (wide:Bool) (r m:Int):Int:=64+(if wide then 8 else 0)+4*(r / 8)+m / 8
def dL (wide:Bool) (r m:Int) (always:Bool):Bool:=wide||always||decide (8≤r∨8≤m)
def dF (wide:Bool) (r m:Int) (always:Bool):List Int:=if dL wide r m always then [gV wide r m] else []
def e6 (r m:Int):Int:=192+8*(r%8)+m%8
def dX (r b aa:Int):List Int:=if b%8=4 then (128+8*(r%8)+b%8)::36::cE aa else (128+8*(r%8)+b%8)::cE aa
def bI (op w dst src base aa ai cc:Int):List Int:=
  let sh:=aR op
  let wide:=decide (w=64)
  if sh=1 then dF wide src dst false++ [cr op,e6 src dst]
  else if sh=2 then dF wide dst src false++ [15,cr op,e6 dst src]
  else if sh=6 then dF wide dst src false++ [15,64+cc,e6 dst src]
  else if sh=3 then (if op=1∧w=32 then dF false 0 dst false++((184+dst%8)::cE ai) else dF wide 0 dst false++(cr op::e6 (dV op) dst::cE ai))
  else if sh=4 then dF wide 0 dst false++ [cr op,e6 (dV op) dst,ai%256]
  else if sh=5 then dF wide 0 dst false++ [cr op,e6 (dV op) dst]
  else if sh=7 then dF wide dst base false++((if w=8 then [15,182] else if w=16 then [15,183] else [139])++dX dst base aa)
  else if sh=8 then (if w=16 then [102] else [])++(dF wide src base (decide (w=8))++((if w=8 then [136] else [137])++dX src base aa))
  else if sh=9 then (if w=8 then [235,ai%256] else 233::cE ai)
  else if sh=10 then (if w=8 then [112+cc,ai%256] else 15::(128+cc)::cE ai)
  else if op=31 then [15,5]
  else [195]
def bD (l:List Int):List D:=l.map fun n=> .int .u8 n
def tU (op w dst src base aa ai cc:Int):List D:=if aA op w dst src base aa ai cc then bD (bI op w dst src base aa ai cc) else []
def Em (op w dst src base aa ai cc:Int):Int:=if aA op w dst src base aa ai cc then 0 else 2
def ES (a b c d:Int):Int:=(a+256*b+65536*c+16777216*d+2147483648)%4294967296 - 2147483648
def zl (a:Int):Int:=(a+128)%256 - 128
theorem fh {op w dst src base aa ai cc:Int} (h:aA op w dst src base aa ai cc=true):
  (0≤dst∧dst≤15∧0≤src∧src≤15∧0≤base∧base≤15∧ -2147483648≤aa∧aa≤2147483647∧ -2147483648≤ai∧ai≤2147483647)∧aG (aR op) w dst src base aa ai cc=true:=by
 simp only [aA,ay,Vi,decide_eq_true_eq] at h
 exact ⟨by omega,h.2⟩
theorem ji {op:Int} (h:aR op≠0):op=0∨op=1∨op=2∨op=3∨op=4∨op=5∨op=6∨op=7∨op=8∨op=9∨op=10∨op=11∨op=12∨op=13∨op=14∨op=15∨op=16∨op=17∨op=18∨op=19∨op=20∨op=21∨op=22∨op=23∨op=24∨op=25∨op=26∨op=27∨op=28∨op=29∨op=30∨op=31:=by
 by_cases h2:0≤op∧op≤31
 ·omega
 ·refine absurd ?_ h
  unfold aR
  repeat (rw [if_neg (by omega)])
def Fi:List Int→Int
  |a::b::c::d::_=>ES a b c d
  |_=>0
def hd (l:List Int):Int:=l.headD 0
def IZ:List Int:= [0,1,2,3,4,5,6,7,8,9,10,11,12,13,14,15,16,17,18,19,20,21,22,23,24,25,26,27,28,29,30,31]
def D9 (p:Int→Bool):Int:=(IZ.find? p).getD (-1)
def zD (c:Int):Int:=D9 fun o=>decide (aR o=1∧cr o=c)
def FA (c k:Int):Int:=D9 fun o=>decide ((aR o=3∨aR o=4∨aR o=5)∧cr o=c∧dV o=k)
def IP:List Int→Bool×Int×Int×List Int
  |h::t=>if 64≤h∧h≤79 then (decide (72≤h),(h - 64) / 4%2,(h - 64)%2,t) else (false,0,0,h::t)
  | []=>(false,0,0,[])
def Er (t:List Int):List Int:=if hd t%8=4 then t.drop 2 else t.drop 1
def Lo (wide:Bool) (r m c:Int) (t:List Int):XS:=
  let w:=if wide then 64 else 32
  let aP:=hd t / 8%8+8*r
  let rm:=hd t%8+8*m
  if c=175 then ⟨16,w,aP,rm,0,0,0,0⟩
  else if 64≤c∧c≤79 then ⟨25,w,aP,rm,0,0,0,c - 64⟩
  else if 128≤c∧c≤143 then ⟨29,32,0,0,0,0,Fi t,c - 128⟩
  else if c=182 then ⟨26,8,aP,0,rm,Fi (Er t),0,0⟩
  else if c=183 then ⟨26,16,aP,0,rm,Fi (Er t),0,0⟩
  else ⟨31,0,0,0,0,0,0,0⟩
def Lp (half wide:Bool) (r m c:Int) (t:List Int):XS:=
  let w:=if wide then 64 else 32
  let aP:=hd t / 8%8+8*r
  let rm:=hd t%8+8*m
  if c=15 then Lo wide r m (hd t) (t.drop 1)
  else if 184≤c∧c≤191 then ⟨1,32,c - 184+8*m,0,0,0,Fi t,0⟩
  else if 112≤c∧c≤127 then ⟨29,8,0,0,0,0,zl (hd t),c - 112⟩
  else if c=235 then ⟨28,8,0,0,0,0,zl (hd t),0⟩
  else if c=233 then ⟨28,32,0,0,0,0,Fi t,0⟩
  else if c=195 then ⟨30,0,0,0,0,0,0,0⟩
  else if c=139 then ⟨26,w,aP,0,rm,Fi (Er t),0,0⟩
  else if c=136 then ⟨27,8,0,aP,rm,Fi (Er t),0,0⟩
  else if c=137∧hd t<192 then ⟨27,if half then 16 else w,0,aP,rm,Fi (Er t),0,0⟩
  else if zD c≠ -1 then ⟨zD c,w,rm,aP,0,0,0,0⟩
  else
    let o:=FA c (hd t / 8%8)
    if aR o=3 then ⟨o,w,rm,0,0,0,Fi (t.drop 1),0⟩
    else if aR o=4 then ⟨o,w,rm,0,0,0,hd (t.drop 1),0⟩
    else ⟨o,w,rm,0,0,0,0,0⟩
def JZ (half:Bool) (p:Bool×Int×Int×List Int):XS:=Lp half p.1 p.2.1 p.2.2.1 (hd p.2.2.2) (p.2.2.2.drop 1)
def NG (l:List Int):XS:=if hd l=102 then JZ true (IP (l.drop 1)) else JZ false (IP l)
theorem Hl {op:Int} (h:aR op≠0):∃n:Fin 32,op=n.val:=by
 have:=ji h
 exact ⟨⟨op.toNat,by omega⟩,by simp;omega⟩
theorem xQ {w:Int} (h:au w=true):w=32∨w=64:=by simpa [au] using h
theorem EW:∀n:Fin 32,aR (n.val:Int)=6→(n.val:Int)=25:=by decide+kernel
theorem EV:∀n:Fin 32,aR (n.val:Int)=7→(n.val:Int)=26:=by decide+kernel
theorem EU:∀n:Fin 32,aR (n.val:Int)=8→(n.val:Int)=27:=by decide+kernel
theorem ET:∀n:Fin 32,aR (n.val:Int)=9→(n.val:Int)=28:=by decide+kernel
theorem CF:∀n:Fin 32,aR (n.val:Int)=10→(n.val:Int)=29:=by decide+kernel
theorem CE:∀n:Fin 32,aR (n.val:Int)=11→(n.val:Int)=30∨(n.val:Int)=31:=by decide+kernel
theorem fA {d:Int} (h0:0≤d) (h1:d≤15):∃n:Fin 16,d=(n.val:Int):=⟨⟨d.toNat,by omega⟩,by simp;omega⟩
theorem zL {r m:Int} (r0:0≤r) (r1:r≤15) (m0:0≤m) (m1:m≤15):(WO.i8.wrap ((Vh 8 (WO.i8.wrap ((Vh 8 r|||Vh 8 m).toNat:Int))&&&Vh 8 8).toNat:Int) !=0)=decide (8≤r∨8≤m):=by
 obtain ⟨n,rfl⟩:=fA r0 r1
 obtain ⟨k,rfl⟩:=fA m0 m1
 clear r0 r1 m0 m1
 revert n k
 decide+kernel
theorem e7 {r:Int} (r0:0≤r) (r1:r≤15):ay r=true:=by simp [ay,r0,r1]
theorem CQ {r m:Int} (r0:0≤r) (r1:r≤15) (m0:0≤m) (m1:m≤15):WO.u8.wrap ((Vh 8 (WO.u8.wrap ((Vh 8 64|||Vh 8 (4*(r / 8))).toNat:Int))|||Vh 8 (m / 8)).toNat:Int)=gV false r m:=by
 obtain ⟨n,rfl⟩:=fA r0 r1
 obtain ⟨k,rfl⟩:=fA m0 m1
 clear r0 r1 m0 m1
 revert n k
 decide+kernel
theorem CP {r m:Int} (r0:0≤r) (r1:r≤15) (m0:0≤m) (m1:m≤15):WO.u8.wrap ((Vh 8 (WO.u8.wrap ((Vh 8 (WO.u8.wrap ((Vh 8 64|||Vh 8 (4*(r / 8))).toNat:Int))|||Vh 8 (m / 8)).toNat:Int))|||Vh 8 8).toNat:Int)=gV true r m:=by
 obtain ⟨n,rfl⟩:=fA r0 r1
 obtain ⟨k,rfl⟩:=fA m0 m1
 clear r0 r1 m0 m1
 revert n k
 decide+kernel
theorem J4 (a:Int):((Vh 8 a&&&Vh 8 7).toNat:Int)=a%8:=by have:=and_ones 8 3 (by omega) a;exact this
theorem Iz {b:Int} (h:decide (b%8=4)=true):(WO.i8.wrap ((Vh 8 b&&&Vh 8 7).toNat:Int)==4)=true:=by
 rw [J4,bm];simp at h ⊢;omega
theorem IA {b:Int} (h:decide (b%8=4)=false):(WO.i8.wrap ((Vh 8 b&&&Vh 8 7).toNat:Int)==4)=false:=by
 rw [J4,bm];simp at h ⊢;omega
theorem Nz (a:Int):a.fdiv 1=a:=by rw [VI _ (by decide)];omega
theorem JT (a:Int):a.fdiv 256=a / 256:=VI _ (by decide)
theorem Gm (a:Int):a.fdiv 65536=a / 65536:=VI _ (by decide)
theorem x9 (a:Int):a.fdiv 16777216=a / 16777216:=VI _ (by decide)
theorem mq {r:Int} (r0:0≤r) (r1:r≤15):WO.u8.wrap ((Vh 8 184|||Vh 8 (WO.u8.wrap (WO.i8.wrap ((Vh 8 r&&&Vh 8 7).toNat:Int)))).toNat:Int)=184+r%8:=by
 obtain ⟨n,rfl⟩:=fA r0 r1
 clear r0 r1
 revert n
 decide+kernel
theorem bJ (a b:Int):(a==b)=decide (a=b):=by
 rw [Vn];simp
def dz (op w dst src base aa ai cc:Int):Int:=((tU op w dst src base aa ai cc).length:Nat)
def ED (l:List Int):Prop:= ∀b∈l,0≤b∧b≤255
theorem ED.nil:ED []:=by intro b hb;cases hb
theorem ED.cons {x:Int} {l:List Int} (h0:0≤x) (h1:x≤255) (h:ED l):ED (x::l):=by
 intro b hb
 rcases List.mem_cons.1 hb with e|hb
 ·subst e;exact ⟨h0,h1⟩
 ·exact h b hb
def u64 (n:Int):Int:=WO.u64.wrap n
def aQ (v w:Int):Int:=if w=8 then v%256 else if w=16 then v%65536 else if w=32 then v%4294967296 else v
def lr (v w:Int):Int:=
  if w=8 then u64 (WO.i8.wrap v) else if w=16 then u64 (WO.i16.wrap v) else if w=32 then u64 (WO.i32.wrap v) else v
def gp (v w:Int):Bool:=decide (WO.i64.wrap (lr v w)<0)
def ub (a b:Int):Int:=u64 ((Vh 64 a^^^Vh 64 b).toNat:Int)
def nG (a b:Int):Int:=u64 ((Vh 64 a&&&Vh 64 b).toNat:Int)
def IY (a b:Int):Int:=u64 ((Vh 64 a|||Vh 64 b).toNat:Int)
def fD (k c z s o:Bool):D:= .agg [.bool k,.bool c,.bool z,.bool s,.bool o]
def NI (b w:Int):Int:=nG b (u64 (WO.i8.wrap (w - 1)))
def qB (op a b Uj w:Int):Int:=
  if op=0 then u64 (a+b)
  else if op=1 then u64 (a - b)
  else if op=2 then u64 (a*b)
  else if op=3 then (if b=0 then 0 else u64 (a.tdiv b))
  else if op=4 then IY a b
  else if op=5 then nG a b
  else if op=6 then u64 (a*2^(min Uj.toNat 64))
  else if op=7 then a.fdiv (2^(min Uj.toNat 64))
  else if op=8 then u64 (0 - a)
  else if op=9 then (if b=0 then a else a.tmod b)
  else if op=10 then ub a b
  else if op=11 then b
  else u64 ((WO.i64.wrap (lr a w)).fdiv (2^(min Uj.toNat 64)))
def gd (op w a b:Int):Int:=aQ (qB op (aQ a w) (aQ b w) (NI (aQ b w) w) w) w
theorem Ma {x c:Int} {v:Bool} (h:(x==c)=v):decide (x≠c)= !v:=by
 rw [← h];by_cases e:x=c<;>simp [e]
def rg (l:List Int) (i:Int):Int:=l.getD i.toNat 0
def st (j i v r:Int):Int:=if i=j then v else r
theorem dC {i:Int} (h0:0≤i) (h1:i≤15):decide ((0:Int)≤i∧i<((16:Nat):Int))=true:=by
 rw [decide_eq_true_eq];omega
def Nd (i v r0 r1 r2 r3 r4 r5 r6 r7 r8 r9 di O9 P8 SF P4 Qd:Int) (tl:List D):List D:= .int .u64 (st 0 i v r0):: .int .u64 (st 1 i v r1):: .int .u64 (st 2 i v r2):: .int .u64 (st 3 i v r3):: .int .u64 (st 4 i v r4):: .int .u64 (st 5 i v r5):: .int .u64 (st 6 i v r6):: .int .u64 (st 7 i v r7):: .int .u64 (st 8 i v r8):: .int .u64 (st 9 i v r9):: .int .u64 (st 10 i v di):: .int .u64 (st 11 i v O9):: .int .u64 (st 12 i v P8):: .int .u64 (st 13 i v SF):: .int .u64 (st 14 i v P4):: .int .u64 (st 15 i v Qd)::tl
abbrev uu:D:= .undef
abbrev Aj (l:List D) (i:Nat) (xs l':List D):Prop:=l.take i++(xs++l.drop (i+xs.length))=l'∧i+xs.length≤l.length
abbrev hH (l:List D) (i n:Nat) (l':List D):Prop:=(l.drop i).take n=l'∧i+n≤l.length
section
variable {r0 r1 r2 r3 r4 r5 r6 r7 r8 r9 di O9 P8 SF P4 Qd i v:Int} {tl:List D}
theorem jM (h0:0≤i) (h1:i≤15):(D.int .u64 r0::D.int .u64 r1::D.int .u64 r2::D.int .u64 r3::D.int .u64 r4::D.int .u64 r5::D.int .u64 r6::D.int .u64 r7::D.int .u64 r8::D.int .u64 r9::D.int .u64 di::D.int .u64 O9::D.int .u64 P8::D.int .u64 SF::D.int .u64 P4::D.int .u64 Qd::tl:List D)[0+i.toNat*1]? =
  some (.int .u64 (rg [r0,r1,r2,r3,r4,r5,r6,r7,r8,r9,di,O9,P8,SF,P4,Qd] i)):=by
 obtain ⟨n,rfl⟩:=fA h0 h1
 have:n.val=0∨n.val=1∨n.val=2∨n.val=3∨n.val=4∨n.val=5∨n.val=6∨n.val=7∨n.val=8∨n.val=9∨n.val=10∨n.val=11∨n.val=12∨n.val=13∨n.val=14∨n.val=15:=by omega
 rcases this with e|e|e|e|e|e|e|e|e|e|e|e|e|e|e|e<;>rw [e]<;>rfl
theorem mo (h0:0≤i) (h1:i≤15):Aj (D.int .u64 r0::D.int .u64 r1::D.int .u64 r2::D.int .u64 r3::D.int .u64 r4::D.int .u64 r5::D.int .u64 r6::D.int .u64 r7::D.int .u64 r8::D.int .u64 r9::D.int .u64 di::D.int .u64 O9::D.int .u64 P8::D.int .u64 SF::D.int .u64 P4::D.int .u64 Qd::tl:List D) (0+i.toNat*1) [D.int .u64 v]
  (D.int .u64 (st 0 i v r0)::D.int .u64 (st 1 i v r1)::D.int .u64 (st 2 i v r2)::D.int .u64 (st 3 i v r3)::D.int .u64 (st 4 i v r4)::D.int .u64 (st 5 i v r5)::D.int .u64 (st 6 i v r6)::D.int .u64 (st 7 i v r7)::D.int .u64 (st 8 i v r8)::D.int .u64 (st 9 i v r9)::D.int .u64 (st 10 i v di)::D.int .u64 (st 11 i v O9)::D.int .u64 (st 12 i v P8)::D.int .u64 (st 13 i v SF)::D.int .u64 (st 14 i v P4)::D.int .u64 (st 15 i v Qd)::tl):=by
 obtain ⟨n,rfl⟩:=fA h0 h1
 have:n.val=0∨n.val=1∨n.val=2∨n.val=3∨n.val=4∨n.val=5∨n.val=6∨n.val=7∨n.val=8∨n.val=9∨n.val=10∨n.val=11∨n.val=12∨n.val=13∨n.val=14∨n.val=15:=by omega
 rcases this with e|e|e|e|e|e|e|e|e|e|e|e|e|e|e|e<;>rw [e]<;>refine ⟨rfl,by simp⟩
end
end Go.Ev
namespace Go.Proofs.YtkpneibifdoecaaGreat
open Go Go.Ev
abbrev EL:=List (Ev Tryz.prog)
theorem de (b:Bool):b=true∨b=false:=Bool.eq_false_or_eq_true b
theorem cJ:(∀ {p:Prop} [Decidable p],(decide p=true)=p)∧(∀ {p:Prop} [Decidable p],(decide p=false)↔ ¬p)∧(∀(b:Bool),(¬(b=true))=(b=false))∧(∀ {α:Type} [BEq α] [LawfulBEq α] {a b:α},(a==b)=true↔a=b)∧(∀ {α:Type} [BEq α] [LawfulBEq α] {a b:α},(a==b)=false↔a≠b)∧(∀(a b:Bool),(D.bool a=D.bool b)=(a=b)):=⟨@decide_eq_true_eq,@decide_eq_false_iff_not,@Bool.not_eq_true,@beq_iff_eq,@beq_eq_false_iff_ne,@D.bool.injEq⟩
theorem qu:(∀ {α:Type} [BEq α] [LawfulBEq α] {a b:α},(a==b)=true↔a=b)∧(∀ {α:Type} [BEq α] [LawfulBEq α] {a b:α},(a==b)=false↔a≠b)∧(∀ {α:Type} (a b:α),(a≠b)= ¬(a=b))∧(∀n:Int,WO.i64.wrap n=(n+9223372036854775808)%18446744073709551616 - 9223372036854775808)∧(∀(a b:Bool),((a&&b)=true)=(a=true∧b=true))∧((false=true)=False)∧(∀ {p:Prop} [Decidable p],(decide p=true)=p)∧(∀ {p:Prop} [Decidable p],(decide p=false)↔ ¬p)∧(∀(p:Prop),(False↔p)= ¬p)∧(∀(p:Prop),(p↔False)= ¬p)∧(∀(p:Prop),(True↔p)=p)∧(∀(p:Prop),(p↔True)=p)∧(∀(p:Prop),(True∧p)=p)∧(∀(p:Prop),(p∧True)=p):=⟨@beq_iff_eq,@beq_eq_false_iff_ne,@ne_eq,@aH,@Vi,@V5,@decide_eq_true_eq,@decide_eq_false_iff_not,@false_iff,@iff_false,@true_iff,@iff_true,@true_and,@and_true⟩
theorem cf:(∀n:Int,WO.i8.wrap n=(n+128)%256 - 128)∧(∀n:Int,WO.u8.wrap n=n%256)∧(∀n:Int,WO.i64.wrap n=(n+9223372036854775808)%18446744073709551616 - 9223372036854775808)∧(∀n:Int,WO.u64.wrap n=n%18446744073709551616)∧(∀ {p:Prop} [Decidable p],(decide p=true)=p)∧(∀ {p:Prop} [Decidable p],(decide p=false)↔ ¬p)∧(∀ {α:Type} [BEq α] [LawfulBEq α] {a b:α},(a==b)=true↔a=b)∧(∀ {α:Type} [BEq α] [LawfulBEq α] {a b:α},(a !=b)=true↔a≠b)∧(∀ {α:Type} [BEq α] [LawfulBEq α] {a b:α},(a==b)=false↔a≠b)∧(∀ {α:Type} [BEq α] [LawfulBEq α] {a b:α},(a !=b)=false↔a=b)∧(∀(b:Bool),((!b)=true)=(b=false))∧(∀(b:Bool),((!b)=false)=(b=true))∧(∀(a b:Bool),((a&&b)=true)=(a=true∧b=true))∧(∀(a b:Bool),((a||b)=true)=(a=true∨b=true)):=⟨@bm,@dK,@aH,@il,@decide_eq_true_eq,@decide_eq_false_iff_not,@beq_iff_eq,@bne_iff_ne,@beq_eq_false_iff_ne,@bne_eq_false_iff_eq,@Vm,@Vo,@Vi,@Vp⟩
def OE (n:Nat) (f:Func):Prop:= ∀ {x:List D} {d:D} (o:EL),tA Tryz.prog f x o=some (d,pa o True)→aZ Tryz.prog n x d
theorem o0:OE 0 Tryz.f0:=aZ.aw mixed Tryz.func0 (by kernel_rfl)
theorem o1:OE 1 Tryz.f1:=aZ.aw mixed Tryz.func1 (by kernel_rfl)
theorem o2:OE 2 Tryz.f2:=aZ.aw mixed Tryz.func2 (by kernel_rfl)
theorem o3:OE 3 Tryz.f3:=aZ.aw mixed Tryz.func3 (by kernel_rfl)
theorem o4:OE 4 Tryz.f4:=aZ.aw mixed Tryz.func4 (by kernel_rfl)
theorem o5:OE 5 Tryz.f5:=aZ.aw mixed Tryz.func5 (by kernel_rfl)
theorem o9:OE 9 Tryz.f9:=aZ.aw mixed Tryz.func9 (by kernel_rfl)
theorem KR:OE 12 Tryz.f12:=aZ.aw mixed Tryz.func12 (by kernel_rfl)
theorem KM:OE 15 Tryz.f15:=aZ.aw mixed Tryz.func15 (by kernel_rfl)
theorem Nm:OE 17 Tryz.f17:=aZ.aw mixed Tryz.func17 (by kernel_rfl)
theorem Im:OE 19 Tryz.f19:=aZ.aw mixed Tryz.func19 (by kernel_rfl)
theorem L7:OE 23 Tryz.f23:=aZ.aw mixed Tryz.func23 (by kernel_rfl)
theorem L6:OE 25 Tryz.f25:=aZ.aw mixed Tryz.func25 (by kernel_rfl)
theorem L5:OE 28 Tryz.f28:=aZ.aw mixed Tryz.func28 (by kernel_rfl)
theorem Nl:OE 29 Tryz.f29:=aZ.aw mixed Tryz.func29 (by kernel_rfl)
theorem KK:OE 34 Tryz.f34:=aZ.aw mixed Tryz.func34 (by kernel_rfl)
theorem L4:OE 35 Tryz.f35:=aZ.aw mixed Tryz.func35 (by kernel_rfl)
theorem L3:OE 39 Tryz.f39:=aZ.aw mixed Tryz.func39 (by kernel_rfl)
theorem Nk:OE 46 Tryz.f46:=aZ.aw mixed Tryz.func46 (by kernel_rfl)
theorem L2:OE 47 Tryz.f47:=aZ.aw mixed Tryz.func47 (by kernel_rfl)
theorem Nj:OE 48 Tryz.f48:=aZ.aw mixed Tryz.func48 (by kernel_rfl)
theorem Hr:OE 53 Tryz.f53:=aZ.aw mixed Tryz.func53 (by kernel_rfl)
theorem jG:OE 55 Tryz.f55:=aZ.aw mixed Tryz.func55 (by kernel_rfl)
theorem GN:OE 56 Tryz.f56:=aZ.aw mixed Tryz.func56 (by kernel_rfl)
theorem I7:OE 58 Tryz.f58:=aZ.aw mixed Tryz.func58 (by kernel_rfl)
theorem L1:OE 59 Tryz.f59:=aZ.aw mixed Tryz.func59 (by kernel_rfl)
theorem j8:OE 61 Tryz.f61:=aZ.aw mixed Tryz.func61 (by kernel_rfl)
theorem KJ:OE 65 Tryz.f65:=aZ.aw mixed Tryz.func65 (by kernel_rfl)
theorem dh:OE 71 Tryz.f71:=aZ.aw mixed Tryz.func71 (by kernel_rfl)
theorem Kg:OE 72 Tryz.f72:=aZ.aw mixed Tryz.func72 (by kernel_rfl)
theorem Ni:OE 73 Tryz.f73:=aZ.aw mixed Tryz.func73 (by kernel_rfl)
theorem LZ:OE 95 Tryz.f95:=aZ.aw mixed Tryz.func95 (by kernel_rfl)
theorem LY:OE 96 Tryz.f96:=aZ.aw mixed Tryz.func96 (by kernel_rfl)
theorem kS:OE 99 Tryz.f99:=aZ.aw mixed Tryz.func99 (by kernel_rfl)
theorem dv:OE 100 Tryz.f100:=aZ.aw mixed Tryz.func100 (by kernel_rfl)
theorem Jh:OE 101 Tryz.f101:=aZ.aw mixed Tryz.func101 (by kernel_rfl)
theorem Jg:OE 102 Tryz.f102:=aZ.aw mixed Tryz.func102 (by kernel_rfl)
theorem FR:OE 103 Tryz.f103:=aZ.aw mixed Tryz.func103 (by kernel_rfl)
theorem Dr:OE 104 Tryz.f104:=aZ.aw mixed Tryz.func104 (by kernel_rfl)
theorem ei:OE 105 Tryz.f105:=aZ.aw mixed Tryz.func105 (by kernel_rfl)
theorem KU:OE 107 Tryz.f107:=aZ.aw mixed Tryz.func107 (by kernel_rfl)
theorem qD:OE 111 Tryz.f111:=aZ.aw mixed Tryz.func111 (by kernel_rfl)
theorem KT:OE 112 Tryz.f112:=aZ.aw mixed Tryz.func112 (by kernel_rfl)
theorem KS:OE 113 Tryz.f113:=aZ.aw mixed Tryz.func113 (by kernel_rfl)
theorem Ht:OE 114 Tryz.f114:=aZ.aw mixed Tryz.func114 (by kernel_rfl)
theorem fG:OE 115 Tryz.f115:=aZ.aw mixed Tryz.func115 (by kernel_rfl)
theorem Jf:OE 118 Tryz.f118:=aZ.aw mixed Tryz.func118 (by kernel_rfl)
theorem fF:OE 121 Tryz.f121:=aZ.aw mixed Tryz.func121 (by kernel_rfl)
theorem KQ:OE 122 Tryz.f122:=aZ.aw mixed Tryz.func122 (by kernel_rfl)
theorem j5:OE 125 Tryz.f125:=aZ.aw mixed Tryz.func125 (by kernel_rfl)
theorem AW:OE 137 Tryz.f137:=aZ.aw mixed Tryz.func137 (by kernel_rfl)
theorem KP:OE 138 Tryz.f138:=aZ.aw mixed Tryz.func138 (by kernel_rfl)
theorem KO:OE 139 Tryz.f139:=aZ.aw mixed Tryz.func139 (by kernel_rfl)
theorem dd:OE 141 Tryz.f141:=aZ.aw mixed Tryz.func141 (by kernel_rfl)
theorem Je:OE 142 Tryz.f142:=aZ.aw mixed Tryz.func142 (by kernel_rfl)
theorem KN:OE 144 Tryz.f144:=aZ.aw mixed Tryz.func144 (by kernel_rfl)
theorem Hs:OE 145 Tryz.f145:=aZ.aw mixed Tryz.func145 (by kernel_rfl)
theorem Jd:OE 148 Tryz.f148:=aZ.aw mixed Tryz.func148 (by kernel_rfl)
theorem Jc:OE 149 Tryz.f149:=aZ.aw mixed Tryz.func149 (by kernel_rfl)
theorem KL:OE 150 Tryz.f150:=aZ.aw mixed Tryz.func150 (by kernel_rfl)
theorem Jb:OE 152 Tryz.f152:=aZ.aw mixed Tryz.func152 (by kernel_rfl)
theorem FQ:OE 166 Tryz.f166:=aZ.aw mixed Tryz.func166 (by kernel_rfl)
theorem Ja:OE 174 Tryz.f174:=aZ.aw mixed Tryz.func174 (by kernel_rfl)
theorem I9:OE 175 Tryz.f175:=aZ.aw mixed Tryz.func175 (by kernel_rfl)
theorem I8:OE 176 Tryz.f176:=aZ.aw mixed Tryz.func176 (by kernel_rfl)
end Go.Proofs.YtkpneibifdoecaaGreat
namespace Go.Ev
open Go
def ph (op dst src base:Int):Int:=
  if op=0 then er src
  else if op=1∨op=28∨op=29 then 0
  else if 20≤op∧op≤22 then gb (er dst) (er 1)
  else if op=24 then gb (gb (er dst) (er 0)) (er 2)
  else if op=26 then er base
  else if op=27 then gb (er base) (er src)
  else if op=30 then 17
  else if op=31 then 1477
  else if aR op=1∨aR op=2∨aR op=6 then gb (er dst) (er src)
  else er dst
def jy (op dst:Int):Int:=
  if op=7∨op=8∨op=14∨op=15∨op=27∨op=28∨op=29 then 0
  else if op=24 then 5
  else if op=30 then 16
  else if op=31 then 2051
  else er dst
def jC (op w dst src base aa ai cc:Int):Int:=if aA op w dst src base aa ai cc then ph op dst src base else 0
def fe (op w dst src base aa ai cc:Int):Int:=if aA op w dst src base aa ai cc then jy op dst else 0
def GA (w a b:Int):Bool:=decide (aQ (u64 (a+b)) w<aQ a w)
def Gz (w a b:Int):Bool:=gp (nG (ub a (u64 (a+b))) (ub b (u64 (a+b)))) w
def Aw (w a b:Int):Bool:=decide (aQ a w<aQ b w)
def Au (w a b:Int):Bool:=gp (nG (ub a b) (ub a (u64 (a - b)))) w
theorem sA (v:Int):WO.u64.wrap (WO.i64.wrap (WO.i8.wrap v))=WO.u64.wrap (WO.i8.wrap v):=by rw [il,il,aH,bm];omega
theorem sy (v:Int):WO.u64.wrap (WO.i64.wrap (WO.i16.wrap v))=WO.u64.wrap (WO.i16.wrap v):=by rw [il,il,aH,Iv];omega
theorem sw (v:Int):WO.u64.wrap (WO.i64.wrap (WO.i32.wrap v))=WO.u64.wrap (WO.i32.wrap v):=by rw [il,il,aH,Iu];omega
def dw (cc:Int) (c z s o:Bool):Bool:=
  if cc=2 then c else if cc=3 then !c else if cc=4 then z else if cc=5 then !z else if cc=6 then (c||z) else if cc=7 then !(c||z)
  else if cc=12 then (s !=o) else if cc=13 then !(s !=o) else if cc=14 then (z||(s !=o)) else !(z||(s !=o))
def EI (op:Int):Bool:= !(decide (op=7∨op=8∨op=14∨op=15∨op=27∨op=28∨op=29))
theorem EX {d:Int} (h0:0≤d) (h1:d≤15):er d≠0:=by
 obtain ⟨n,rfl⟩:=fA h0 h1
 clear h0 h1
 revert n
 decide+kernel
theorem gy {op w dst src base aa ai cc:Int} (hm:aA op w dst src base aa ai cc=true) (d0:0≤dst) (d1:dst≤15) (Qe:EI op=true):(fe op w dst src base aa ai cc==0)=false:=by
 rw [beq_eq_false_iff_ne]
 unfold fe
 rw [if_pos hm]
 unfold jy
 simp only [EI,Vm,decide_eq_false_iff_not] at Qe
 rw [if_neg Qe]
 split
 ·decide
 ·split
  ·decide
  ·split
   ·decide
   ·exact EX d0 d1
theorem EH {op w dst src base aa ai cc:Int} (Qe:EI op=false):(fe op w dst src base aa ai cc==0)=true:=by
 rw [beq_iff_eq]
 unfold fe jy
 simp only [EI,Vo,decide_eq_true_eq] at Qe
 rw [if_pos Qe]
 split<;>rfl
def Mh (n:Int):Prop:=0≤n∧n≤18446744073709551615
theorem tE (v w:Int):aQ (aQ v w) w=aQ v w:=by
 unfold aQ
 split
 ·omega
 ·split
  ·omega
  ·split
   ·omega
   ·rfl
def dM (w k:Int):Int:=WO.i64.wrap ((Vh 64 (w.fdiv (2^(min k.toNat 64)))&&&Vh 64 1).toNat:Int)
def Ns (w dst src:Int):Bool:=au w&&ay dst&&ay src
theorem AH {l:List Int} {d k v:Int} (h0:0≤d) (k0:0≤k) (h:k≠d):rg (l.set d.toNat v) k=rg l k:=by
 unfold rg
 rw [Vr,Vr,List.getElem?_set_ne (by omega)]
theorem AI {l:List Int} {d v:Int} (h0:0≤d) (h1:d.toNat<l.length):rg (l.set d.toNat v) d=v:=by
 unfold rg
 rw [Vr,List.getElem?_set_self h1]
 rfl
theorem Ic:∀n k:Fin 16,dM (er (n.val:Int)) (k.val:Int)=if n=k then 1 else 0:=by decide+kernel
theorem AM {op w dst src base aa ai cc:Int} (hm:aA op w dst src base aa ai cc=true):jC op w dst src base aa ai cc=ph op dst src base:=by unfold jC;rw [if_pos hm]
theorem wO {op w dst src base aa ai cc:Int} (hm:aA op w dst src base aa ai cc=true):fe op w dst src base aa ai cc=jy op dst:=by unfold fe;rw [if_pos hm]
theorem GD {i d v r:Int} (h:d≠i):st i d v r=r:=by unfold st;rw [if_neg h]
theorem tH {p:Int→Prop} (h0:p 0) (h1:p 1) (h2:p 2) (h3:p 3) (h4:p 4) (h5:p 5) (h6:p 6) (h7:p 7) (h8:p 8) (h9:p 9) (Sx:p 10) (Ss:p 11) (UM:p 12) (U4:p 13) (Rs:p 14) (RP:p 15):∀k:Int,0≤k→k≤15→p k:=by
 intro k k0 k1
 have:k=0∨k=1∨k=2∨k=3∨k=4∨k=5∨k=6∨k=7∨k=8∨k=9∨k=10∨k=11∨k=12∨k=13∨k=14∨k=15:=by omega
 rcases this with rfl|rfl|rfl|rfl|rfl|rfl|rfl|rfl|rfl|rfl|rfl|rfl|rfl|rfl|rfl|rfl
 ·exact h0
 ·exact h1
 ·exact h2
 ·exact h3
 ·exact h4
 ·exact h5
 ·exact h6
 ·exact h7
 ·exact h8
 ·exact h9
 ·exact Sx
 ·exact Ss
 ·exact UM
 ·exact U4
 ·exact Rs
 ·exact RP
theorem cR {sh w dst src base aa ai cc:Int} (h:aG sh w dst src base aa ai cc=true) (hs:sh=1∨sh=2∨sh=3∨sh=4∨sh=5∨sh=6):au w=true:=by
 rcases hs with rfl|rfl|rfl|rfl|rfl|rfl<;>simp [aG] at h<;>first|exact h.1|exact h.1.1|exact h
theorem DF {w dst src base aa ai cc:Int} (h:aG 6 w dst src base aa ai cc=true):bb cc=true:=by
 simp [aG] at h;exact h.2
theorem zT {w dst src base aa ai cc:Int} (h:aG 10 w dst src base aa ai cc=true):bb cc=true:=by
 simp [aG] at h;exact h.2
structure ab where
  (q0 q1 q2 q3 q4 q5 q6 q7 q8 q9 bK bP bO bN bM bL:Int)
  (fk fc fz fs fo:Bool)
  (pc:Int)
deriving DecidableEq
def ab.d (m:ab):D:= .agg [.int .u64 m.q0,.int .u64 m.q1,.int .u64 m.q2,.int .u64 m.q3,.int .u64 m.q4,.int .u64 m.q5,.int .u64 m.q6,.int .u64 m.q7,.int .u64 m.q8,.int .u64 m.q9,.int .u64 m.bK,.int .u64 m.bP,.int .u64 m.bO,.int .u64 m.bN,.int .u64 m.bM,.int .u64 m.bL,.bool m.fk,.bool m.fc,.bool m.fz,.bool m.fs,.bool m.fo,.int .u64 m.pc]
def ab.rl (m:ab):List Int:= [m.q0,m.q1,m.q2,m.q3,m.q4,m.q5,m.q6,m.q7,m.q8,m.q9,m.bK,m.bP,m.bO,m.bN,m.bM,m.bL]
def ab.put (m:ab) (i v:Int):ab:=⟨st 0 i v m.q0,st 1 i v m.q1,st 2 i v m.q2,st 3 i v m.q3,st 4 i v m.q4,st 5 i v m.q5,st 6 i v m.q6,st 7 i v m.q7,st 8 i v m.q8,st 9 i v m.q9,st 10 i v m.bK,st 11 i v m.bP,st 12 i v m.bO,st 13 i v m.bN,st 14 i v m.bM,st 15 i v m.bL,m.fk,m.fc,m.fz,m.fs,m.fo,m.pc⟩
def ab.flags (m:ab) (k c z s o:Bool):ab:=⟨m.q0,m.q1,m.q2,m.q3,m.q4,m.q5,m.q6,m.q7,m.q8,m.q9,m.bK,m.bP,m.bO,m.bN,m.bM,m.bL,k,c,z,s,o,m.pc⟩
def ab.at (m:ab) (v:Int):ab:=⟨m.q0,m.q1,m.q2,m.q3,m.q4,m.q5,m.q6,m.q7,m.q8,m.q9,m.bK,m.bP,m.bO,m.bN,m.bM,m.bL,m.fk,m.fc,m.fz,m.fs,m.fo,v⟩
def ab.zero:ab:=⟨0,0,0,0,0,0,0,0,0,0,0,0,0,0,0,0,false,false,false,false,false,0⟩
def XS.len (x:XS):Int:=dz x.op x.w x.dst x.src x.base x.aa x.ai x.cc
def XS.may (x:XS):Bool:=aA x.op x.w x.dst x.src x.base x.aa x.ai x.cc
def Iy (op:Int):Option (Int×Int):=
  match op with
  |2=>some (0,0)
  |3=>some (4,0)
  |4=>some (5,0)
  |5=>some (1,0)
  |6=>some (10,0)
  |7=>some (1,0)
  |8=>some (5,0)
  |9=>some (0,1)
  |10=>some (4,1)
  |11=>some (5,1)
  |12=>some (1,1)
  |13=>some (10,1)
  |14=>some (1,1)
  |15=>some (5,1)
  |16=>some (2,0)
  |17=>some (6,1)
  |18=>some (7,1)
  |19=>some (12,1)
  |20=>some (6,2)
  |21=>some (7,2)
  |22=>some (12,2)
  |23=>some (8,0)
  |_=>none
def EZ (m:ab) (x:XS) (k:Int):Int:=match k with
  |2=>m.q1
  |1=>u64 x.ai
  |_=>rg m.rl x.src
def vY (m:ab) (s w a b v:Int):ab:=match s with
  |0=>m.flags true (GA w a b) (aQ (u64 (a+b)) w==0) (gp (u64 (a+b)) w) (Gz w a b)
  |1=>m.flags true (Aw w a b) (aQ (u64 (a - b)) w==0) (gp (u64 (a - b)) w) (Au w a b)
  |8=>m.flags true (Aw w 0 a) (aQ (u64 (0 - a)) w==0) (gp (u64 (0 - a)) w) (Au w 0 a)
  |4=>m.flags true false (aQ v w==0) (gp v w) false
  |5=>m.flags true false (aQ v w==0) (gp v w) false
  |10=>m.flags true false (aQ v w==0) (gp v w) false
  |_=>m.flags false false false false false
def DN (op:Int):Bool:=match op with
  |7=>true
  |8=>true
  |14=>true
  |15=>true
  |_=>false
def ig (m:ab) (x:XS) (ld:Int):ab×Int:=match Iy x.op with
  |some (s,k)=>
    let a:=rg m.rl x.dst
    let b:=EZ m x k
    let v:=gd s x.w a b
    match DN x.op with
    |true=>(vY m s x.w a b v,0)
    |false=>((vY m s x.w a b v).put x.dst v,0)
  |none=>match x.op with
    |0=>(m.put x.dst (aQ (rg m.rl x.src) x.w),0)
    |1=>(m.put x.dst (aQ (u64 x.ai) x.w),0)
    |24=>match aQ (rg m.rl x.dst) x.w==0 with
      |true=>(.zero,20)
      |false=>match aQ m.q2 x.w==0 with
        |false=>(.zero,20)
        |true=>(({ m with q0:=u64 ((aQ m.q0 x.w).tdiv (aQ (rg m.rl x.dst) x.w)),q2:=(aQ m.q0 x.w).tmod (aQ (rg m.rl x.dst) x.w) }).flags false false false false false,0)
    |25=>match m.fk with
      |false=>(.zero,20)
      |true=>(m.put x.dst (aQ (if dw x.cc m.fc m.fz m.fs m.fo then rg m.rl x.src else rg m.rl x.dst) x.w),0)
    |26=>(m.put x.dst (aQ ld x.w),0)
    |28=>(m.at (u64 (m.pc+u64 x.ai)),0)
    |29=>match m.fk with
      |false=>(.zero,20)
      |true=>(m.at (if dw x.cc m.fc m.fz m.fs m.fo then u64 (m.pc+u64 x.ai) else m.pc),0)
    |30=>(({ m with q4:=u64 (m.q4+8) }).at ld,0)
    |31=>({ m with q0:=ld,q1:=0,bP:=0 },0)
    |_=>(m,0)
def dx (m:ab) (x:XS) (ld:Int):ab×Int:=match x.may with
  |false=>(.zero,2)
  |true=>ig (m.at (u64 (m.pc+u64 x.len))) x ld
def jt (m:ab) (x:XS) (ld:Int):ab:=(dx m x ld).1
def gR (m:ab) (x:XS) (ld:Int):Int:=(dx m x ld).2
theorem Ec {m:ab} {x:XS} {ld:Int} (h:x.may=false):dx m x ld=(.zero,2):=by unfold dx;rw [h]
theorem eX {m:ab} {x:XS} {ld:Int} (h:x.may=true):dx m x ld=ig (m.at (u64 (m.pc+u64 x.len))) x ld:=by unfold dx;rw [h]
def dT (m:ab) (op w dst src base aa ai cc:Int):Int:=u64 (m.pc+u64 (dz op w dst src base aa ai cc))
def xT (op w dst src base aa ai cc ld:Int):List D:= [.int .i8 op,.int .i8 w,.int .i8 dst,.int .i8 src,.int .i8 base,.int .i64 aa,.int .i64 ai,.int .i8 cc,.int .u64 ld]
def fT (m:ab) (p:Int) (tl:List D):List D:= .bool m.fk:: .bool m.fc:: .bool m.fz:: .bool m.fs:: .bool m.fo:: .int .u64 p::tl
def zC:List D:= [.int .u64 0,.int .u64 0,.int .u64 0,.int .u64 0,.int .u64 0,.int .u64 0,.int .u64 0,.int .u64 0,.int .u64 0,.int .u64 0,.int .u64 0,.int .u64 0,.int .u64 0,.int .u64 0,.int .u64 0,.int .u64 0,.bool false,.bool false,.bool false,.bool false,.bool false,.int .u64 0]
def ab.cw (m:ab) (p:Int) (tl:List D):List D:= .int .u64 m.q0:: .int .u64 m.q1:: .int .u64 m.q2:: .int .u64 m.q3:: .int .u64 m.q4:: .int .u64 m.q5:: .int .u64 m.q6:: .int .u64 m.q7:: .int .u64 m.q8:: .int .u64 m.q9:: .int .u64 m.bK:: .int .u64 m.bP:: .int .u64 m.bO:: .int .u64 m.bN:: .int .u64 m.bM:: .int .u64 m.bL:: .bool m.fk:: .bool m.fc:: .bool m.fz:: .bool m.fs:: .bool m.fo:: .int .u64 p::tl
theorem bQ (m:ab) (i:Int) (tl:List D) (h0:0≤i) (h1:i≤15):(D.int .u64 m.q0::D.int .u64 m.q1::D.int .u64 m.q2::D.int .u64 m.q3::D.int .u64 m.q4::D.int .u64 m.q5::D.int .u64 m.q6::D.int .u64 m.q7::D.int .u64 m.q8::D.int .u64 m.q9::D.int .u64 m.bK::D.int .u64 m.bP::D.int .u64 m.bO::D.int .u64 m.bN::D.int .u64 m.bM::D.int .u64 m.bL::tl:List D)[0+i.toNat*1]? =some (.int .u64 (rg m.rl i)):=jM h0 h1
theorem cW (m:ab) (i v:Int) (tl:List D) (h0:0≤i) (h1:i≤15):Aj (D.int .u64 m.q0::D.int .u64 m.q1::D.int .u64 m.q2::D.int .u64 m.q3::D.int .u64 m.q4::D.int .u64 m.q5::D.int .u64 m.q6::D.int .u64 m.q7::D.int .u64 m.q8::D.int .u64 m.q9::D.int .u64 m.bK::D.int .u64 m.bP::D.int .u64 m.bO::D.int .u64 m.bN::D.int .u64 m.bM::D.int .u64 m.bL::tl:List D) (0+i.toNat*1) [D.int .u64 v] (D.int .u64 (m.put i v).q0::D.int .u64 (m.put i v).q1::D.int .u64 (m.put i v).q2::D.int .u64 (m.put i v).q3::D.int .u64 (m.put i v).q4::D.int .u64 (m.put i v).q5::D.int .u64 (m.put i v).q6::D.int .u64 (m.put i v).q7::D.int .u64 (m.put i v).q8::D.int .u64 (m.put i v).q9::D.int .u64 (m.put i v).bK::D.int .u64 (m.put i v).bP::D.int .u64 (m.put i v).bO::D.int .u64 (m.put i v).bN::D.int .u64 (m.put i v).bM::D.int .u64 (m.put i v).bL::tl):=mo h0 h1
def MD (m:ab) (x:XS):Int×Int×Bool:=
  if x.may=true∧(x.op=26∨x.op=27) then (u64 (rg m.rl x.base+u64 x.aa),x.w / 8,true)
  else if x.may=true∧x.op=30 then (m.q4,8,true)
  else (0,0,false)
def Ka (m:ab) (x:XS):Int:=if x.may=true∧x.op=27 then aQ (rg m.rl x.src) x.w else 0
def Np (m:ab):Int×Bool:=if 16≤m.q0 then (0,false) else (WO.i64.wrap m.q0,true)
def Nn (q:Int):Int:=if 16≤q then 0 else WO.i64.wrap q
def Nq (q:Int):Bool:= !decide (16≤q)
def My (m:ab):List Int:=if 16≤m.q0 then [] else [m.q7,m.q6,m.q2,m.bK,m.q8].take (m.q0.toNat%6)
def wD (l:List Int):List D:=l.map (fun x=> .int .u64 x)
def LG (cc:Int):Int×Bool:=
  if cc=0 then (4,true) else if cc=1 then (5,true) else if cc=2 then (7,true) else if cc=3 then (3,true) else if cc=4 then (2,true) else if cc=5 then (6,true)
  else if cc=6 then (15,true) else if cc=7 then (13,true) else if cc=8 then (12,true) else if cc=9 then (14,true) else if cc=10 then (5,true) else (0,false)
def NH (cc:Int):Int×Bool:=
  if cc=4 then (0,true) else if cc=5 then (1,true) else if cc=7 then (2,true) else if cc=3 then (3,true) else if cc=2 then (4,true) else if cc=6 then (5,true)
  else if cc=15 then (6,true) else if cc=13 then (7,true) else if cc=12 then (8,true) else if cc=14 then (9,true) else (0,false)
structure aq where
  (r0 r1 r2 r3 r4 r5 r6 r7 r8 r9 di:Int)
deriving DecidableEq
def aq.c (r:aq):List D:= [.int .u64 r.r0,.int .u64 r.r1,.int .u64 r.r2,.int .u64 r.r3,.int .u64 r.r4,.int .u64 r.r5,.int .u64 r.r6,.int .u64 r.r7,.int .u64 r.r8,.int .u64 r.r9,.int .u64 r.di]
def aq.d (r:aq):D:= .agg r.c
def aq.l (r:aq):List Int:= [r.r0,r.r1,r.r2,r.r3,r.r4,r.r5,r.r6,r.r7,r.r8,r.r9,r.di]
def aq.get (r:aq) (i:Int):Int:=rg r.l i
def aq.put (r:aq) (i v:Int):aq:=⟨st 0 i v r.r0,st 1 i v r.r1,st 2 i v r.r2,st 3 i v r.r3,st 4 i v r.r4,st 5 i v r.r5,st 6 i v r.r6,st 7 i v r.r7,st 8 i v r.r8,st 9 i v r.r9,st 10 i v r.di⟩
def aq.zero:aq:=⟨0,0,0,0,0,0,0,0,0,0,0⟩
theorem p4 {i:Int} (h0:0≤i) (h1:i≤10):i=0∨i=1∨i=2∨i=3∨i=4∨i=5∨i=6∨i=7∨i=8∨i=9∨i=10:=by omega
section
variable {r0 r1 r2 r3 r4 r5 r6 r7 r8 r9 di i v:Int} {tl:List D}
theorem pU (h0:0≤i) (h1:i≤10):(D.int .u64 r0::D.int .u64 r1::D.int .u64 r2::D.int .u64 r3::D.int .u64 r4::D.int .u64 r5::D.int .u64 r6::D.int .u64 r7::D.int .u64 r8::D.int .u64 r9::D.int .u64 di::tl:List D)[0+i.toNat*1]? =some (.int .u64 (rg [r0,r1,r2,r3,r4,r5,r6,r7,r8,r9,di] i)):=by
 rcases p4 h0 h1 with rfl|rfl|rfl|rfl|rfl|rfl|rfl|rfl|rfl|rfl|rfl<;>rfl
theorem Hj (h0:0≤i) (h1:i≤10):Aj (D.int .u64 r0::D.int .u64 r1::D.int .u64 r2::D.int .u64 r3::D.int .u64 r4::D.int .u64 r5::D.int .u64 r6::D.int .u64 r7::D.int .u64 r8::D.int .u64 r9::D.int .u64 di::tl:List D) (0+i.toNat*1) [D.int .u64 v] (D.int .u64 (st 0 i v r0)::D.int .u64 (st 1 i v r1)::D.int .u64 (st 2 i v r2)::D.int .u64 (st 3 i v r3)::D.int .u64 (st 4 i v r4)::D.int .u64 (st 5 i v r5)::D.int .u64 (st 6 i v r6)::D.int .u64 (st 7 i v r7)::D.int .u64 (st 8 i v r8)::D.int .u64 (st 9 i v r9)::D.int .u64 (st 10 i v di)::tl):=by
 rcases p4 h0 h1 with rfl|rfl|rfl|rfl|rfl|rfl|rfl|rfl|rfl|rfl|rfl<;>exact ⟨rfl,by simp⟩
end
theorem LN (n:Nat):decide ((0:Int)≤(n:Int)∧(n:Int)≤(n:Int)∧(n:Int)=(n:Int))=true:=by simp
theorem cz {x:D} {tl:List D} :decide (((x::tl).length:Int)<1)=false:=by simp;omega
theorem sY {x:D} {tl:List D} :decide ((0:Int)≤(1:Int)∧(1:Int)≤((x::tl).length:Int))=true:=by simp;omega
def ab.c (m:ab):List D:= [.int .u64 m.q0,.int .u64 m.q1,.int .u64 m.q2,.int .u64 m.q3,.int .u64 m.q4,.int .u64 m.q5,.int .u64 m.q6,.int .u64 m.q7,.int .u64 m.q8,.int .u64 m.q9,.int .u64 m.bK,.int .u64 m.bP,.int .u64 m.bO,.int .u64 m.bN,.int .u64 m.bM,.int .u64 m.bL,.bool m.fk,.bool m.fc,.bool m.fz,.bool m.fs,.bool m.fo,.int .u64 m.pc]
def cd.x (s:cd):XS:=⟨s.op,s.w,s.dst,s.src,s.base,s.aa,s.ai,s.cc⟩
def eY (n:Int):Bool:=decide (n=0∨n=1∨n=2∨n=11)
theorem uB:∀n:Fin 128,(dM 2055 (n.val:Int)==1)=eY (n.val:Int):=by decide+kernel
theorem dq {a b:Bool} (h:a=b):wk (.bool a) (.bool b):=by subst h;simp [wk]
theorem wW {n:Int} (h0:decide (n<0)=false) (h1:n≤127):(dM 2055 n==1)=eY n:=by
 rw [decide_eq_false_iff_not] at h0
 have:=uB ⟨n.toNat,by omega⟩
 simp only [Int.toNat_of_nonneg (show 0≤n by omega)] at this
 exact this
theorem Fa {n:Int} (h0:decide (n<0)=true):false=eY n:=by
 rw [decide_eq_true_eq] at h0
 exact (decide_eq_false (by omega)).symm
def Dv (op w dst src base aa ai cc:Int):Int:=gb (jC op w dst src base aa ai cc) (fe op w dst src base aa ai cc)
def sL (op w dst src base aa ai cc:Int):Bool:=ql (Dv op w dst src base aa ai cc) 2055==0
theorem GJ {op w dst src base aa ai cc:Int} (h:sL op w dst src base aa ai cc=true):(WO.i64.wrap ((Vh WO.i64.bits (WO.i64.wrap ((Vh WO.i64.bits (jC op w dst src base aa ai cc)|||Vh WO.i64.bits (fe op w dst src base aa ai cc)).toNat:Int))&&& ~~~Vh WO.i64.bits 2055).toNat:Int)==0)=true:=h
theorem GK {op w dst src base aa ai cc:Int} (h:sL op w dst src base aa ai cc=false):(WO.i64.wrap ((Vh WO.i64.bits (WO.i64.wrap ((Vh WO.i64.bits (jC op w dst src base aa ai cc)|||Vh WO.i64.bits (fe op w dst src base aa ai cc)).toNat:Int))&&& ~~~Vh WO.i64.bits 2055).toNat:Int)==0)=false:=h
def cP (op w dst src base aa ai cc:Int):Bool:=decide (op=0∧w=0∧dst=0∧src=0∧base=0∧aa=0∧ai=0∧cc=0)
def jK (kind op w dst src base aa ai cc aP aC num to:Int):Bool:=
  if kind=0 then aA op w dst src base aa ai cc&&decide (op<28)&&sL op w dst src base aa ai cc&&decide (aP=0∧aC=0∧num=0∧to=0)
  else if kind=1∨kind=2 then decide (0≤aP∧aP≤10)&&eY aC&&cP op w dst src base aa ai cc&&decide (num=0∧to=0)
  else if kind=3 then decide (0≤num∧num≤15)&&cP op w dst src base aa ai cc&&decide (aP=0∧aC=0∧to=0)
  else if kind=4 then bb cc&&cP (op - 29) w dst src base aa ai 0&&decide (0≤to∧to≤64)&&decide (aP=0∧aC=0∧num=0)
  else if kind=5 then decide (0≤to∧to≤64)&&cP op w dst src base aa ai cc&&decide (aP=0∧aC=0∧num=0)
  else if kind=6 then cP op w dst src base aa ai cc&&decide (aP=0∧aC=0∧num=0∧to=0)
  else false
theorem bH (k1 a1 a2 a3 a4 a5 a6 a7 a8 a9 Uz T4 Ur k2 b1 b2 b3 b4 b5 b6 b7 b8 b9 U9 UJ UU:Int):ae (Mg k1 a1 a2 a3 a4 a5 a6 a7 a8 a9 Uz T4 Ur) (Mg k2 b1 b2 b3 b4 b5 b6 b7 b8 b9 U9 UJ UU)=
  decide (k1=k2∧a1=b1∧a2=b2∧a3=b3∧a4=b4∧a5=b5∧a6=b6∧a7=b7∧a8=b8∧a9=b9∧Uz=U9∧T4=UJ∧Ur=UU):=by
 rw [Vn]
 simp [ae,ak]
theorem iX (op w dst src base aa ai cc aP aC num to:Int):jK 0 op w dst src base aa ai cc aP aC num to=(aA op w dst src base aa ai cc&&decide (op<28)&&sL op w dst src base aa ai cc&&decide (aP=0∧aC=0∧num=0∧to=0)):=rfl
theorem lP (op w dst src base aa ai cc aP aC num to:Int):jK 1 op w dst src base aa ai cc aP aC num to=(decide (0≤aP∧aP≤10)&&eY aC&&cP op w dst src base aa ai cc&&decide (num=0∧to=0)):=rfl
theorem lO (op w dst src base aa ai cc aP aC num to:Int):jK 2 op w dst src base aa ai cc aP aC num to=(decide (0≤aP∧aP≤10)&&eY aC&&cP op w dst src base aa ai cc&&decide (num=0∧to=0)):=rfl
theorem sW (op w dst src base aa ai cc aP aC num to:Int):jK 3 op w dst src base aa ai cc aP aC num to=(decide (0≤num∧num≤15)&&cP op w dst src base aa ai cc&&decide (aP=0∧aC=0∧to=0)):=rfl
theorem lN (op w dst src base aa ai cc aP aC num to:Int):jK 4 op w dst src base aa ai cc aP aC num to=(bb cc&&cP (op - 29) w dst src base aa ai 0&&decide (0≤to∧to≤64)&&decide (aP=0∧aC=0∧num=0)):=rfl
theorem xO (op w dst src base aa ai cc aP aC num to:Int):jK 5 op w dst src base aa ai cc aP aC num to=(decide (0≤to∧to≤64)&&cP op w dst src base aa ai cc&&decide (aP=0∧aC=0∧num=0)):=rfl
theorem HG (op w dst src base aa ai cc aP aC num to:Int):jK 6 op w dst src base aa ai cc aP aC num to=(cP op w dst src base aa ai cc&&decide (aP=0∧aC=0∧num=0∧to=0)):=rfl
def eH (kind op:Int):Bool:=decide ((3≤kind∧kind≤6)∨(kind=0∧(op=26∨op=27)))
theorem ke {op:Int} (h2:¬op=26):wk (.bool (op==(27:Int))) (.bool (eH 0 op)):=by
 apply dq;unfold eH
 by_cases q:op=27
 ·subst q;rfl
 ·have e:(op==27)=false:=beq_eq_false_iff_ne.mpr q
  rw [e];symm;rw [decide_eq_false_iff_not];omega
def cd.ok (s:cd):Prop:= -128≤s.kind∧s.kind≤127∧s.op≤127∧s.cc≤127∧s.aC≤127∧ -128≤s.aP∧s.aP≤127
def fQ (l:List cd):Prop:= ∀s∈l,s.ok
def cd.may (s:cd):Bool:=jK s.kind s.op s.w s.dst s.src s.base s.aa s.ai s.cc s.aP s.aC s.num s.to
def cd.stops (s:cd):Bool:=eH s.kind s.op
def iI (l:List cd):Option Nat:=l.findIdx? (fun s=> !s.may)
def wx (l:List cd):Int×Int:=match iI l with
  |some k=>((k:Int),2)
  |none=>(0,0)
def cB:List cd→aq→ab→aq×ab×Nat×Int
  | [],r,m=>(r,m,0,0)
  |s::t,r,m=>match s.stops with
    |true=>(r,m,t.length+1,0)
    |false=>if s.kind=1 then cB t r (m.put s.aC (r.get s.aP))
      else if s.kind=2 then cB t (r.put s.aP (rg m.rl s.aC)) m
      else if (dx m s.x 0).2=0 then cB t r ((dx m s.x 0).1.at 0)
      else (.zero,.zero,t.length+1,(dx m s.x 0).2)
def jZ (l:List cd) (r:aq) (m:ab):List cd:=l.drop (l.length - (cB l r m).2.2.1)
def tZ (l:List cd) (r:aq):aq×ab×Int×Int:=
  if (wx l).2=0 then
    let q:=cB l r .zero
    if q.2.2.2=0 then (q.1,q.2.1,((l.length - q.2.2.1:Nat):Int),0) else (.zero,.zero,0,q.2.2.2)
  else (.zero,.zero,0,2)
def Hy (k:Int) (n:Int):List cd→Int
  | []=>n
  |s::t=>Hy k (if s.kind=k∧0≤s.aP∧s.aP≤10 then gb n (er s.aP) else n) t
def cL (k n:Int):Bool:=decide (k=1∧(n=3∨n=9∨n=6∨n=7∨n=8∨n=10))
def jE (k n:Int):Bool:=decide (k=0∧n=0)||cL k n||decide (k=2∧0≤n∧n<11)
def Mf (kl nl:List Int):Bool:=(List.range 11).all fun i=>jE (rg kl (i:Int)) (rg nl (i:Int))
section
variable {k0 n0 k1 n1 k2 n2 k3 n3 k4 n4 k5 n5 k6 n6 k7 n7 k8 n8 k9 n9 Um n10 i:Int} {tl:List D}
end
structure af where
  k:Int→Int
  n:Int→Int
def af.d (p:af):D:= .agg [.int .i8 (p.k 0),.int .i8 (p.n 0),.int .i8 (p.k 1),.int .i8 (p.n 1),.int .i8 (p.k 2),.int .i8 (p.n 2),.int .i8 (p.k 3),.int .i8 (p.n 3),.int .i8 (p.k 4),.int .i8 (p.n 4),.int .i8 (p.k 5),.int .i8 (p.n 5),.int .i8 (p.k 6),.int .i8 (p.n 6),.int .i8 (p.k 7),.int .i8 (p.n 7),.int .i8 (p.k 8),.int .i8 (p.n 8),.int .i8 (p.k 9),.int .i8 (p.n 9),.int .i8 (p.k 10),.int .i8 (p.n 10)]
section
variable {p:af} {i:Int} {tl:List D}
theorem gX (h0:0≤i) (h1:i≤10):hH (.int .i8 (p.k 0):: .int .i8 (p.n 0):: .int .i8 (p.k 1):: .int .i8 (p.n 1):: .int .i8 (p.k 2):: .int .i8 (p.n 2):: .int .i8 (p.k 3):: .int .i8 (p.n 3):: .int .i8 (p.k 4):: .int .i8 (p.n 4):: .int .i8 (p.k 5):: .int .i8 (p.n 5):: .int .i8 (p.k 6):: .int .i8 (p.n 6):: .int .i8 (p.k 7):: .int .i8 (p.n 7):: .int .i8 (p.k 8):: .int .i8 (p.n 8):: .int .i8 (p.k 9):: .int .i8 (p.n 9):: .int .i8 (p.k 10):: .int .i8 (p.n 10)::tl:List D) (0+i.toNat*2) 2 [.int .i8 (p.k i),.int .i8 (p.n i)]:=by
 rcases p4 h0 h1 with rfl|rfl|rfl|rfl|rfl|rfl|rfl|rfl|rfl|rfl|rfl<;>exact ⟨rfl,by simp⟩
theorem lC (h0:0≤i) (h1:i≤10):hH (.int .i8 (p.k 0):: .int .i8 (p.n 0):: .int .i8 (p.k 1):: .int .i8 (p.n 1):: .int .i8 (p.k 2):: .int .i8 (p.n 2):: .int .i8 (p.k 3):: .int .i8 (p.n 3):: .int .i8 (p.k 4):: .int .i8 (p.n 4):: .int .i8 (p.k 5):: .int .i8 (p.n 5):: .int .i8 (p.k 6):: .int .i8 (p.n 6):: .int .i8 (p.k 7):: .int .i8 (p.n 7):: .int .i8 (p.k 8):: .int .i8 (p.n 8):: .int .i8 (p.k 9):: .int .i8 (p.n 9):: .int .i8 (p.k 10):: .int .i8 (p.n 10)::tl:List D) (i.toNat*2) 2 [.int .i8 (p.k i),.int .i8 (p.n i)]:=by
 rcases p4 h0 h1 with rfl|rfl|rfl|rfl|rfl|rfl|rfl|rfl|rfl|rfl|rfl<;>exact ⟨rfl,by simp⟩
theorem nV (h0:0≤i) (h1:i≤10):(.int .i8 (p.k 0):: .int .i8 (p.n 0):: .int .i8 (p.k 1):: .int .i8 (p.n 1):: .int .i8 (p.k 2):: .int .i8 (p.n 2):: .int .i8 (p.k 3):: .int .i8 (p.n 3):: .int .i8 (p.k 4):: .int .i8 (p.n 4):: .int .i8 (p.k 5):: .int .i8 (p.n 5):: .int .i8 (p.k 6):: .int .i8 (p.n 6):: .int .i8 (p.k 7):: .int .i8 (p.n 7):: .int .i8 (p.k 8):: .int .i8 (p.n 8):: .int .i8 (p.k 9):: .int .i8 (p.n 9):: .int .i8 (p.k 10):: .int .i8 (p.n 10)::tl:List D)[0+i.toNat*2+0]? =some (.int .i8 (p.k i)):=by
 rcases p4 h0 h1 with rfl|rfl|rfl|rfl|rfl|rfl|rfl|rfl|rfl|rfl|rfl<;>rfl
theorem GZ (h0:0≤i) (h1:i≤10):(.int .i8 (p.k 0):: .int .i8 (p.n 0):: .int .i8 (p.k 1):: .int .i8 (p.n 1):: .int .i8 (p.k 2):: .int .i8 (p.n 2):: .int .i8 (p.k 3):: .int .i8 (p.n 3):: .int .i8 (p.k 4):: .int .i8 (p.n 4):: .int .i8 (p.k 5):: .int .i8 (p.n 5):: .int .i8 (p.k 6):: .int .i8 (p.n 6):: .int .i8 (p.k 7):: .int .i8 (p.n 7):: .int .i8 (p.k 8):: .int .i8 (p.n 8):: .int .i8 (p.k 9):: .int .i8 (p.n 9):: .int .i8 (p.k 10):: .int .i8 (p.n 10)::tl:List D)[0+i.toNat*2+1]? =some (.int .i8 (p.n i)):=by
 rcases p4 h0 h1 with rfl|rfl|rfl|rfl|rfl|rfl|rfl|rfl|rfl|rfl|rfl<;>rfl
end
def af.C2 (p:af) (i:Int):Bool:=jE (p.k i) (p.n i)
def af.pB (p:af):Nat→Nat→Bool
  |0,_=>true
  |m+1,i=>p.C2 i&&p.pB m (i+1)
def af.may (p:af):Bool:=p.pB 11 0
theorem af.vG (p:af):∀m i,p.pB m i=true↔ ∀j:Nat,i≤j→j<i+m→p.C2 j=true
 |0,i=>by simp [af.pB];omega
 |m+1,i=>by
  rw [af.pB,Vi,af.vG p m (i+1)]
  constructor
  ·rintro ⟨h1,h2⟩ j h3 h4
   rcases Nat.eq_or_lt_of_le h3 with e|e
   ·subst e;exact h1
   ·exact h2 j e (by omega)
  ·intro h
   exact ⟨h i (Nat.le_refl _) (by omega),fun j h1 h2=>h j (by omega) (by omega)⟩
theorem af.fg {p:af} (h:p.may=true) {i:Int} (h0:0≤i) (h1:i≤10):p.C2 i=true:=by
 have:=(p.vG 11 0).1 h i.toNat (by omega) (by omega)
 rwa [Int.toNat_of_nonneg h0] at this
theorem dS {k n:Int} (h:jE k n=true):(k=0∧n=0)∨(k=1∧(n=3∨n=9∨n=6∨n=7∨n=8∨n=10))∨(k=2∧0≤n∧n<11):=by
 unfold jE cL at h
 simp only [Vp,decide_eq_true_eq] at h
 omega
def af.zk (p:af):Nat→Int
  |0=>0
  |i+1=>if p.k i=2 then (if p.n i+1>p.zk i then p.n i+1 else p.zk i) else p.zk i
def af.sp (p:af):Int:=p.zk 11
def af.z5 (p:af) (i k:Int):Bool:=decide (p.k i≠0∧p.k i=p.k k∧p.n i=p.n k)
def af.ou (p:af) (i:Int):Nat→Nat→Bool
  |0,_=>false
  |m+1,k=>p.z5 i k||p.ou i m (k+1)
def af.km (p:af):Nat→Nat→Bool
  |0,_=>false
  |m+1,i=>p.ou i i 0||p.km m (i+1)
def af.apart (p:af):Bool:= !p.km 11 0
theorem af.vN (p:af) (i:Int):∀m k,p.ou i m k=true↔ ∃j:Nat,k≤j∧j<k+m∧p.z5 i j=true
 |0,k=>by simp [af.ou];omega
 |m+1,k=>by
  rw [af.ou,Vp,af.vN p i m (k+1)]
  constructor
  ·rintro (h|⟨j,h1,h2,h3⟩)
   ·exact ⟨k,by omega,by omega,h⟩
   ·exact ⟨j,by omega,by omega,h3⟩
  ·rintro ⟨j,h1,h2,h3⟩
   rcases Nat.eq_or_lt_of_le h1 with e|e
   ·subst e;exact .inl h3
   ·exact .inr ⟨j,by omega,by omega,h3⟩
theorem af.qR (p:af):∀m i,p.km m i=true↔ ∃j:Nat,i≤j∧j<i+m∧p.ou j j 0=true
 |0,i=>by simp [af.km];omega
 |m+1,i=>by
  rw [af.km,Vp,af.qR p m (i+1)]
  constructor
  ·rintro (h|⟨j,h1,h2,h3⟩)
   ·exact ⟨i,by omega,by omega,h⟩
   ·exact ⟨j,by omega,by omega,h3⟩
  ·rintro ⟨j,h1,h2,h3⟩
   rcases Nat.eq_or_lt_of_le h1 with e|e
   ·subst e;exact .inl h3
   ·exact .inr ⟨j,by omega,by omega,h3⟩
theorem af.Eu {p:af} (h:p.apart=true) {i k:Int} (i0:0≤i) (i1:i≤10) (k0:0≤k) (k1:k≤10) (O0:i≠k) (hk:p.k i≠0):¬(p.k i=p.k k∧p.n i=p.n k):=by
 have key:∀a b:Nat,b<a→a<11→p.k a≠0→¬(p.k a=p.k b∧p.n a=p.n b):=by
  intro a b U7 ha UR hh
  have:p.km 11 0=true:=(p.qR 11 0).2 ⟨a,by omega,by omega,(p.vN a a 0).2 ⟨b,by omega,by omega,by unfold af.z5;simp [UR,hh.1,hh.2];rw [← hh.1];exact UR⟩⟩
  unfold af.apart at h
  rw [this] at h
  cases h
 intro hh
 have e1:((i.toNat:Nat):Int)=i:=Int.toNat_of_nonneg i0
 have e2:((k.toNat:Nat):Int)=k:=Int.toNat_of_nonneg k0
 rcases Int.lt_or_gt_of_ne O0 with q|q
 ·have:=key k.toNat i.toNat (by omega) (by omega) (by rw [e2,← hh.1];exact hk)
  rw [e1,e2] at this
  exact this ⟨hh.1.symm,hh.2.symm⟩
 ·have:=key i.toNat k.toNat (by omega) (by omega) (by rw [e1];exact hk)
  rw [e1,e2] at this
  exact this hh
abbrev qA (dst n:Int):XS:=⟨1,32,dst,0,0,0,n,0⟩
abbrev fE (src slot:Int):XS:=⟨27,64,0,src,4,8*slot,0,0⟩
def gQ (to k n:Int):XS:=if k=1 then ⟨0,64,to,n,0,0,0,0⟩ else if k=2 then ⟨26,64,to,0,4,8*n,0,0⟩ else qA to 0
def js (aC k n:Int):List XS:=if k=1 then [⟨0,64,n,aC,0,0,0,0⟩] else if k=2 then [fE aC n] else []
def IB (v k n:Int):List XS:=if k=2 then [qA 0 v,fE 0 n] else if k=1 then [qA n v] else []
def Nf (p:af):List XS:=(if p.sp>0 then [⟨12,64,4,0,0,0,8*p.sp,0⟩] else [])++(IB 2097152 (p.k 1) (p.n 1)++IB 3145792 (p.k 10) (p.n 10))
def gr (p:af):List XS:=gQ 0 (p.k 0) (p.n 0)::((if p.sp>0 then [⟨9,64,4,0,0,0,8*p.sp,0⟩] else [])++ [⟨30,0,0,0,0,0,0,0⟩])
def wS (x:XS) (n:Nat):Bool:=decide (x.base=4∧x.w=64∧x.aa%8=0∧0≤x.aa∧x.aa / 8<(n:Int))
def md (x:XS) (m:ab) (s:List Int):List Int:=if x.op=27 then s.set (x.aa / 8).toNat (rg m.rl x.src) else s
def ev:List XS→ab→List Int→ab×List Int×Bool
  | [],m,s=>(m,s,true)
  |x::t,m,s=>if x.op=31∨x.op=30 then (m,s,true)
    else if x.op=26∨x.op=27 then
      (if wS x s.length=true then
        (if gR m x (s.getD (x.aa / 8).toNat 0)=0 then ev t (jt m x (s.getD (x.aa / 8).toNat 0)) (md x m s) else (m,md x m s,false))
       else (m,s,false))
    else if gR m x 0=0 then ev t (jt m x 0) s else (m,s,false)
end Go.Ev
namespace Go.Proofs.YtkpneibifdoecaaGreat
open Go Go.Ev
abbrev un (n:Nat):List D:=List.replicate n .undef
abbrev bW (p:af):List D:= [.int .i8 (p.k 0),.int .i8 (p.n 0),.int .i8 (p.k 1),.int .i8 (p.n 1),.int .i8 (p.k 2),.int .i8 (p.n 2),.int .i8 (p.k 3),.int .i8 (p.n 3),.int .i8 (p.k 4),.int .i8 (p.n 4),.int .i8 (p.k 5),.int .i8 (p.n 5),.int .i8 (p.k 6),.int .i8 (p.n 6),.int .i8 (p.k 7),.int .i8 (p.n 7),.int .i8 (p.k 8),.int .i8 (p.n 8),.int .i8 (p.k 9),.int .i8 (p.n 9),.int .i8 (p.k 10),.int .i8 (p.n 10)]
abbrev mz (m:ab):List D:= [.int .u64 m.q0,.int .u64 m.q1,.int .u64 m.q2,.int .u64 m.q3,.int .u64 m.q4,.int .u64 m.q5,.int .u64 m.q6,.int .u64 m.q7,.int .u64 m.q8,.int .u64 m.q9,.int .u64 m.bK,.int .u64 m.bP,.int .u64 m.bO,.int .u64 m.bN,.int .u64 m.bM,.int .u64 m.bL,.bool m.fk,.bool m.fc,.bool m.fz,.bool m.fs,.bool m.fo,.int .u64 m.pc]
abbrev Ot (r:ab):List D:= [.int .u64 r.q0,.int .u64 r.q1,.int .u64 r.q2,.int .u64 r.q3,.int .u64 r.q4,.int .u64 r.q5,.int .u64 r.q6,.int .u64 r.q7,.int .u64 r.q8,.int .u64 r.q9,.int .u64 r.bK,.int .u64 r.bP,.int .u64 r.bO,.int .u64 r.bN,.int .u64 r.bM,.int .u64 r.bL]
abbrev Ov (r:ab):List D:= [.int .u64 r.q0,.int .u64 r.q1,.int .u64 r.q2,.int .u64 r.q3,.int .u64 r.q4,.int .u64 r.q5,.int .u64 r.q6,.int .u64 r.q7,.int .u64 r.q8,.int .u64 r.q9,.int .u64 r.bK,.int .u64 r.bP,.int .u64 r.bO,.int .u64 r.bN,.int .u64 r.bM,.int .u64 r.bL,.bool false,.bool false,.bool false,.bool false,.bool false,.int .u64 0]
abbrev Iq:List D:= [.int .u64 0,.int .u64 0,.int .u64 0,.int .u64 0,.int .u64 0,.int .u64 0,.int .u64 0,.int .u64 0,.int .u64 0,.int .u64 0,.int .u64 0,.int .u64 0,.int .u64 0,.int .u64 0,.int .u64 0,.int .u64 0,.bool false,.bool false,.bool false,.bool false,.bool false,.int .u64 0]
abbrev Kt:List D:=List.map D.aJ (sI 11 [D.int .u64 0])
end Go.Proofs.YtkpneibifdoecaaGreat
