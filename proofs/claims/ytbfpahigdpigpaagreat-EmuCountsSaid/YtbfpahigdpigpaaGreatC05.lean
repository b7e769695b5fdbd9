import Derived.ChangeKeysEq
import Derived.KernelRfl
import Derived.Test.YtbfpahigdpigpaaGreatProg
import Derived.Laws.Strings
import Derived.Test.YtbfpahigdpigpaaGreatC01
import Derived.Test.YtbfpahigdpigpaaGreatC02
import Derived.Test.YtbfpahigdpigpaaGreatC04
open BitVec renaming ofInt→Sy
open Option.some renaming inj→SE,injEq→SL
open Bool renaming and_eq_true→SG,false_eq_true→Tq,or_eq_true→Tz,not_eq_true'→TE
open List renaming cons_append→SH,getD_eq_getElem?_getD→SK,getElem?_eq_none→SN,append_assoc→SR,length_append→SS,nil_append→S0,drop_zero→Tw
open Go.Result renaming andThen_ok→SO
open Go.Sem renaming run_bind→SZ,run_pure→S9
open Nat renaming beq_eq→S8,beq→Ta,add_mul→TL,blt_eq→TQ
open Int renaming fdiv_eq_ediv_of_nonneg→TI
open Go renaming IntKind→T8
/- Contracts and plain laws that a statement's proof leans on (texts merged:EvU,MdC,dq,MdZ,MdP1,MdP2). -/
set_option linter.unusedVariables false
set_option linter.unusedSimpArgs false
namespace Go.Ev
open Go Go.RowKit
def te (P:Program) (one:TypeId→Option (List LK)):List Field→Nat→Option (List LK)
  | [],_=>some []
  |f::r,off=>match !(f.name== "_")&&Ta f.offset off with
    |true=>match one f.type with
      |some ks=>match Ta ks.length (P.cellsOf f.type)&&Nat.blt 0 ks.length with
        |true=>match te P one r (off+ks.length) with
          |some l=>some (ks++l)
          |none=>none
        |false=>none
      |none=>none
    |false=>none
def qK:Nat→List LK→List LK
  |0,_=> []
  |n+1,l=>l++qK n l
def iK (P:Program):Nat→TypeId→Option (List LK)
  |0,_=>none
  |d+1,t=>match P.underlying t with
    |some .bool=>some [.bool]
    |some (.int k)=>some [.int k]
    |some .string=>some [.str]
    |some (.struct fs)=>match P.stoodInHeld t with
      |false=>te P (iK P d) fs.toList 0
      |true=>none
    |some (.array n e)=>match iK P d e,P.info? e with
      |some ks,some _=>match Ta ks.length (P.cellsOf e)&&Nat.blt 0 ks.length with|true=>some (qK n ks)|false=>none
      |_,_=>none
    |_=>none
def yA (P:Program) (t:TypeId) (l:List Value):Value:=match P.underlying t with
  |some e=>match cN e with
    |true=> .agg l.toArray
    |false=>l.headD .nilFunc
  |none=> .nilFunc
theorem bT:∀ {ks:List LK} {l:List Value},cJ ks l→l.length=ks.length
 | [],[],_=>rfl
 |_::_,[],h=>h.elim
 | [],_::_,h=>h.elim
 |k::ks,v::l,h=>by simp [bT h.2]
theorem fh:∀ {ks OB:List LK} {l:List Value},cJ (ks++OB) l→cJ ks (l.take ks.length)∧cJ OB (l.drop ks.length)
 | [],OB,l,h=>⟨by simp [cJ],by simpa using h⟩
 |k::ks,OB,[],h=>h.elim
 |k::ks,OB,v::l,h=>by
  obtain ⟨h1,h2⟩:=h
  obtain ⟨a,b⟩:=fh h2
  exact ⟨⟨h1,a⟩,b⟩
theorem jg:∀(n:Nat) (l m:List Value),n≤l.length→n≤m.length→cm l m=(cm (l.take n) (m.take n)&&cm (l.drop n) (m.drop n))
 |0,l,m,_,_=>by simp [cm]
 |n+1,[],m,h,_=>by simp at h
 |n+1,_::_,[],_,h=>by simp at h
 |n+1,a::l,b::m,h,k=>by
  simp only [List.take_succ_cons,List.drop_succ_cons,cm]
  rw [jg n l m (by simpa using h) (by simpa using k),Bool.and_assoc]
section
variable {P:Program}
def I9 (P:Program) (d:Nat) (t:TypeId) (ks:List LK):Prop:=
  ∀(n:Nat) (l m:List Value) (w:World),cJ ks l→cJ ks m→(Op.equalIn (n+d) t (yA P t l) (yA P t m)).run P w= .ok (cm l m) w
theorem jR {t:TypeId} {e:TypeDesc} (hu:P.underlying t=some e) {xs:Array Value} {off:Nat} {n:Nat} (hn:n=P.cellsOf t) (M7:cN e=false→n=1) (hl:off+n≤xs.size) (w:World):
  (part t xs off).run P w= .ok (yA P t ((xs.toList.drop off).take n)) w:=by
 simp only [yA,hu]
 cases ha:cN e with
 |true=>
  simp only
  rw [m5 hu ha xs off w]
  congr 2
  subst hn
  apply Array.ext'
  simp [Array.toList_extract,List.extract_eq_take_drop]
 |false=>
  simp only
  have h1:=M7 ha
  subst h1
  have LN:off<xs.size:=by omega
  rw [m4 hu ha (v:=xs[off]) (by simp [LN]) w]
  congr 1
  rw [List.headD_eq_head?_getD,List.head?_take]
  simp [LN]
theorem lY {d:Nat} {t:TypeId} {ks:List LK} (h:iK P d t=some ks):∃e,P.underlying t=some e∧(cN e=false→ks.length=1):=by
 cases d with
 |zero=>simp [iK] at h
 |succ d=>
  unfold iK at h
  split at h
  ·rename_i hu;exact ⟨_,hu,fun _=>by cases h;rfl⟩
  ·rename_i hu;exact ⟨_,hu,fun _=>by cases h;rfl⟩
  ·rename_i hu;exact ⟨_,hu,fun _=>by cases h;rfl⟩
  ·rename_i hu;exact ⟨_,hu,fun q=>by cases q⟩
  ·rename_i hu;exact ⟨_,hu,fun q=>by cases q⟩
  ·cases h
theorem o6 {d:Nat} (ih:∀ {t:TypeId} {ks:List LK},iK P d t=some ks→I9 P d t ks) (n:Nat) (xs ys:Array Value) (w:World):∀(fs:List Field) (off:Nat) (ks:List LK),te P (iK P d) fs off=some ks→
  cJ ks (xs.toList.drop off)→cJ ks (ys.toList.drop off)→(Op.eqFields (n+d) xs ys fs).run P w= .ok (cm (xs.toList.drop off) (ys.toList.drop off)) w
 | [],off,ks,h,hx,hy=>by
  simp only [te,SL] at h
  subst h
  have e1:=List.length_eq_zero_iff.1 (bT hx)
  have e2:=List.length_eq_zero_iff.1 (bT hy)
  rw [e1,e2]
  simp [Op.eqFields,cm]
 |f::fs,off,ks,h,hx,hy=>by
  simp only [te] at h
  split at h
  ·rename_i hf
   simp only [SG,TE,beq_eq_false_iff_ne,S8] at hf
   obtain ⟨hname,hoff⟩:=hf
   split at h
   ·rename_i k1 h1
    split at h
    ·rename_i hl
     rw [SG,S8,TQ] at hl
     obtain ⟨hl,Md⟩:=hl
     split at h
     ·rename_i k2 h2
      obtain rfl:=SE h
      obtain ⟨a1,a2⟩:=fh hx
      obtain ⟨b1,b2⟩:=fh hy
      rw [List.drop_drop] at a2 b2
      have lx:off+k1.length≤xs.size:=by
       have:=bT hx
       simp at this
       omega
      have ly:off+k1.length≤ys.size:=by
       have:=bT hy
       simp at this
       omega
      obtain ⟨e,hu,M7⟩:=lY h1
      have P9:=ih h1 n _ _ w a1 b1
      have rest:=o6 ih n xs ys w fs (off+k1.length) k2 h2 a2 b2
      unfold Op.eqFields
      rw [if_pos hname,hoff]
      simp only [SZ,jR hu hl M7 lx w,jR hu hl M7 ly w,SO,P9]
      have hs:=jg k1.length (xs.toList.drop off) (ys.toList.drop off) (by simp;omega) (by simp;omega)
      rw [List.drop_drop,List.drop_drop] at hs
      rw [hs]
      cases cm ((xs.toList.drop off).take k1.length) ((ys.toList.drop off).take k1.length) with
      |true=>simpa using rest
      |false=>simp
     ·cases h
    ·cases h
   ·cases h
  ·cases h
theorem rA {d:Nat} {e:TypeId} {ks:List LK} (Sg:iK P d e=some ks) (hl:ks.length=P.cellsOf e) (Md:0<ks.length) (ih:I9 P d e ks) (n:Nat) (xs ys:Array Value) (w:World):∀(c i:Nat),
  cJ (qK c ks) (xs.toList.drop (i*ks.length))→cJ (qK c ks) (ys.toList.drop (i*ks.length))→(Op.eqItems (n+d) e (P.cellsOf e) xs ys (List.range' i c)).run P w= .ok (cm (xs.toList.drop (i*ks.length)) (ys.toList.drop (i*ks.length))) w
 |0,i,hx,hy=>by
  have e1:=List.length_eq_zero_iff.1 (bT hx)
  have e2:=List.length_eq_zero_iff.1 (bT hy)
  rw [e1,e2]
  simp [Op.eqItems,cm]
 |c+1,i,hx,hy=>by
  simp only [qK] at hx hy
  obtain ⟨a1,a2⟩:=fh hx
  obtain ⟨b1,b2⟩:=fh hy
  have hm:i*ks.length+ks.length=(i+1)*ks.length:=by rw [TL,Nat.one_mul]
  rw [List.drop_drop,hm] at a2 b2
  have lx:i*ks.length+ks.length≤xs.size:=by
   have:=bT hx
   simp only [SS,List.length_drop,Array.length_toList] at this
   omega
  have ly:i*ks.length+ks.length≤ys.size:=by
   have:=bT hy
   simp at this
   omega
  obtain ⟨e',hu,M7⟩:=lY Sg
  have P9:=ih n _ _ w a1 b1
  have rest:=rA Sg hl Md ih n xs ys w c (i+1) a2 b2
  rw [List.range'_succ]
  unfold Op.eqItems
  rw [← hl] at rest ⊢
  simp only [SZ,jR hu hl M7 lx w,jR hu hl M7 ly w,SO,P9]
  have hs:=jg ks.length (xs.toList.drop (i*ks.length)) (ys.toList.drop (i*ks.length)) (by simp;omega) (by simp;omega)
  rw [List.drop_drop,List.drop_drop,hm] at hs
  rw [hs]
  cases cm ((xs.toList.drop (i*ks.length)).take ks.length) ((ys.toList.drop (i*ks.length)).take ks.length) with
  |true=>simpa using rest
  |false=>simp
theorem rk:∀ {d:Nat} {t:TypeId} {ks:List LK},iK P d t=some ks→I9 P d t ks
 |0,t,ks,h=>by simp [iK] at h
 |d+1,t,ks,h=>by
  intro n l m w hl hm
  unfold iK at h
  split at h
  ·rename_i hu
   obtain rfl:=SE h
   have e1:=bT hl
   have e2:=bT hm
   match l,m,e1,e2 with
   | [a],[b],_,_=>
    cases a<;>simp only [cJ,LK.lg,and_true,false_and,true_and] at hl
    cases b<;>simp only [cJ,LK.lg,and_true,false_and,true_and] at hm
    simp only [yA,hu,cN,List.headD_cons,cm,kp,Bool.and_true]
    exact run_equalIn_bool' w (n+d) t _ _ hu
  ·rename_i k hu
   obtain rfl:=SE h
   have e1:=bT hl
   have e2:=bT hm
   match l,m,e1,e2 with
   | [a],[b],_,_=>
    cases a<;>simp only [cJ,LK.lg,and_true,false_and,true_and] at hl
    cases b<;>simp only [cJ,LK.lg,and_true,false_and,true_and] at hm
    subst hl
    subst hm
    simp only [yA,hu,cN,List.headD_cons,cm,kp,Bool.and_true]
    exact run_equalIn_int w (n+d) t _ _ _ _ hu
  ·rename_i hu
   obtain rfl:=SE h
   have e1:=bT hl
   have e2:=bT hm
   match l,m,e1,e2 with
   | [a],[b],_,_=>
    cases a<;>simp only [cJ,LK.lg,and_true,false_and,true_and] at hl
    cases b<;>simp only [cJ,LK.lg,and_true,false_and,true_and] at hm
    simp only [yA,hu,cN,List.headD_cons,cm,kp,Bool.and_true]
    exact run_equalIn_string w (n+d) t _ _ hu
  ·rename_i fs hu
   split at h
   ·rename_i LL
    have hf:P.fieldsOf t=fs:=by simp [Program.fieldsOf,hu]
    simp only [yA,hu,cN]
    rw [show n+(d+1)=(n+d)+1 by omega,run_equalIn_struct w (n+d) t _ _ (by rw [hf];exact hu) LL,hf]
    have:=o6 (fun h=>rk h) n l.toArray m.toArray w fs.toList 0 ks h (by simpa using hl) (by simpa using hm)
    simpa using this
   ·cases h
  ·rename_i c e hu
   split at h
   ·rename_i k1 i h1 hi
    split at h
    ·rename_i hlen
     rw [SG,S8,TQ] at hlen
     obtain ⟨hlen,Md⟩:=hlen
     obtain rfl:=SE h
     simp only [yA,hu,cN]
     rw [show n+(d+1)=(n+d)+1 by omega,run_equalIn_array w (n+d) _ _ hu hi,List.range_eq_range']
     have:=rA h1 hlen Md (rk h1) n l.toArray m.toArray w c 0 (by simpa using hl) (by simpa using hm)
     simpa using this
    ·cases h
   ·cases h
  ·cases h
theorem jl.of_flat {d:Nat} {t:TypeId} {ks:List LK} (hd:Nat.ble d 10000=true) (hg:P.eqGuardType P.depth t=false) (ha:(match P.underlying t with|some e=>cN e|none=>false)=true) (h:iK P d t=some ks):jl P t ks:=by
 refine ⟨hg,fun xs ys w hx hy=> ?_⟩
 have:=rk h (10000 - d) xs.toList ys.toList w hx hy
 rw [Nat.sub_add_cancel (by simpa using hd)] at this
 unfold yA at this
 split at ha
 ·rename_i e he
  simp only [he,ha] at this
  simpa using this
 ·cases ha
def J5 (P:Program) (d:Nat) (t:TypeId) (ks:List LK):Prop:=
  ∀(em:Bool) (n:Nat) (l:List Value) (w:World),cJ ks l→(Instr.checkKey em (n+d) t (yA P t l)).run P w= .ok () w
theorem oA:∀ {d:Nat} {t:TypeId} {ks:List LK},iK P d t=some ks→J5 P d t ks
 |0,t,ks,h=>by simp [iK] at h
 |d+1,t,ks,h=>by
  intro em n l w hl
  have plain:∀ {e:TypeDesc},P.underlying t=some e→(match e with| .bool| .int _| .string=>true|_=>false)=true→(Instr.checkKey em (n+(d+1)) t (yA P t l)).run P w= .ok () w:=by
   intro e hu he
   rw [show n+(d+1)=(n+d)+1 from rfl,Instr.checkKey]
   simp only [SZ,run_underlying hu,SO]
   cases e<;>simp only [Tq] at he<;>simp
  unfold iK at h
  split at h
  ·rename_i hu;exact plain hu rfl
  ·rename_i hu;exact plain hu rfl
  ·rename_i hu;exact plain hu rfl
  ·rename_i fs hu
   split at h
   ·rename_i LL
    rw [show n+(d+1)=(n+d)+1 from rfl,Instr.checkKey]
    simp only [yA,hu,cN,SZ,run_underlying hu,SO]
    rw [← Array.forIn_toList]
    have MG:cJ ks (l.toArray.toList.drop 0):=by simpa using hl
    generalize l.toArray=xs at MG ⊢
    generalize fs.toList=L at h ⊢
    generalize 0=off at h MG
    clear hl hu LL
    induction L generalizing off ks with
    |nil=>simp
    |cons f L ihL=>
     simp only [te] at h
     split at h
     ·rename_i hf
      simp only [SG,TE,beq_eq_false_iff_ne,S8] at hf
      obtain ⟨hname,hoff⟩:=hf
      split at h
      ·rename_i k1 h1
       split at h
       ·rename_i hlen
        rw [SG,S8,TQ] at hlen
        obtain ⟨hlen,Md⟩:=hlen
        split at h
        ·rename_i k2 h2
         obtain rfl:=SE h
         obtain ⟨a1,a2⟩:=fh MG
         rw [List.drop_drop] at a2
         have lx:off+k1.length≤xs.size:=by
          have:=bT MG
          simp at this
          omega
         obtain ⟨e,hu,M7⟩:=lY h1
         have P9:=oA h1 em n _ w a1
         have rest:=ihL _ _ h2 a2
         simp only [List.forIn_cons,SZ,hname,ne_eq,not_false_eq_true,if_true,SO,hoff,jR hu hlen M7 lx w,P9,S9]
         exact rest
        ·cases h
       ·cases h
      ·cases h
     ·cases h
   ·cases h
  ·rename_i c e hu
   split at h
   ·rename_i k1 i h1 hi
    split at h
    ·rename_i hlen
     rw [SG,S8,TQ] at hlen
     obtain ⟨hlen,Md⟩:=hlen
     obtain rfl:=SE h
     rw [show n+(d+1)=(n+d)+1 from rfl,Instr.checkKey]
     simp only [yA,hu,cN,SZ,run_underlying hu,SO]
     simp only [Std.Legacy.Range.forIn_eq_forIn_range',Std.Legacy.Range.size,Nat.sub_zero,Nat.add_one_sub_one,Nat.div_one]
     have MG:cJ (qK c k1) (l.toArray.toList.drop (0*k1.length)):=by simpa using hl
     generalize l.toArray=xs at MG ⊢
     generalize 0=j at MG ⊢
     clear hl hu
     have IH:=oA h1 em n
     induction c generalizing j with
     |zero=>simp
     |succ c ihc=>
      simp only [qK] at MG
      obtain ⟨a1,a2⟩:=fh MG
      have hm:j*k1.length+k1.length=(j+1)*k1.length:=by rw [TL,Nat.one_mul]
      rw [List.drop_drop,hm] at a2
      have lx:j*k1.length+k1.length≤xs.size:=by
       have:=bT MG
       simp only [SS,List.length_drop,Array.length_toList] at this
       omega
      obtain ⟨e',Pa,M7⟩:=lY h1
      have P9:=IH _ w a1
      rw [List.range'_succ]
      have rest:=ihc rfl _ a2
      simp only [List.forIn_cons,SZ,run_sizeOf w hi,SO,← hlen,jR Pa hlen M7 lx w,P9,S9]
      exact rest
    ·cases h
   ·cases h
  ·cases h
theorem xb {kd:TypeDesc} (hk:cN kd=true) (x:Array Value) (e:MapEntry) (l:List MapEntry) (i:Nat):Instr.findNow kd (.agg x) (e::l) i=none:=by
 cases kd<;>simp [cN] at hk<;>simp [Instr.findNow,Instr.sameNow]
theorem kH {t:TypeId} {ks:List LK} (hq:jl P t ks) (x:Array Value) (hx:cJ ks x.toList) (w:World):∀(l:List MapEntry) (i:Nat),(∀e∈l,∃y:Array Value,e.key= .agg y∧cJ ks y.toList)→
  (Instr.findAsking t (.agg x) l i).run P w= .ok (lj x.toList l i) w
 | [],i,_=>by simp [Instr.findAsking,lj]
 |e::l,i,h=>by
  obtain ⟨y,hy,fy⟩:=h e (by simp)
  have ih:=kH hq x hx w l (i+1) fun e' he=>h e' (by simp [he])
  have he:(Op.equal t (.agg x) e.key).run P w= .ok (cm x.toList y.toList) w:=by
   rw [hy];exact hq.eq x y w hx fy
  simp only [Instr.findAsking,SZ,he,SO]
  simp only [lj,hy]
  cases cm x.toList y.toList with
  |true=>simp
  |false=>simpa using ih
theorem ky.of_flat {d:Nat} {t:TypeId} {ks:List LK} (hd:Nat.ble d 10000=true) (hg:P.eqGuardType P.depth t=false) (ha:(match P.underlying t with|some e=>cN e|none=>false)=true) (h:iK P d t=some ks) (hs:mu ks=true):ky P t ks:=by
 have hq:=jl.of_flat hd hg ha h
 refine ⟨hs,fun w em xs hx=> ?_,fun w x l hx hl=> ?_⟩
 ·have:=oA h em (10000 - d) xs.toList w hx
  rw [Nat.sub_add_cancel (by simpa using hd)] at this
  unfold yA at this
  split at ha
  ·rename_i e he
   simp only [he,ha] at this
   simpa using this
  ·cases ha
 ·split at ha
  ·rename_i e he
   cases l with
   |nil=>simp [Instr.findKey,run_underlying he,Instr.findNow,lj]
   |cons e0 l=>
    simp only [Instr.findKey,SZ,run_underlying he,SO,xb ha]
    exact kH hq x hx w _ 0 hl
  ·cases ha
end
theorem cz {x y:Bool} (h:x=false):(x&&y)=false:=by simp [h]
theorem aB {x y v:Bool} (h:x=true) (k:y=v):(x&&y)=v:=by simp [h,k]
theorem KC {x c c':Int} {v:Bool} (h:decide (x<c')=v) (hc:c'=c+1):decide (x≤c)=v:=by
 subst hc;rw [← h];exact decide_eq_decide.2 (by omega)
theorem JG {y c c':Int} {v:Bool} (h:decide (y<c')=v) (hc:c'=c+1):decide (c<y)= !v:=by
 subst hc;rw [← h,← decide_not];exact decide_eq_decide.2 (by omega)
theorem JK {y c c':Int} {v:Bool} (h:decide (y<c')=v) (hc:c'=c):decide (c≤y)= !v:=by
 subst hc;rw [← h,← decide_not];exact decide_eq_decide.2 (by omega)
theorem KA {x d c:Int} (h:decide (x<d)=true) (hc:d≤c):decide (x<c)=true:=by
 simp only [decide_eq_true_eq] at h ⊢;omega
theorem Iw {x d c:Int} (h:decide (x<d)=false) (hc:c≤d):decide (x<c)=false:=by
 simp only [decide_eq_false_iff_not] at h ⊢;omega
theorem IU {x d c:Int} (h:decide (x<d)=false) (hc:c<d):(x==c)=false:=by
 simp only [decide_eq_false_iff_not] at h;simp only [beq_eq_false_iff_ne];omega
theorem aw {x c:Int} (h:¬x=c):(x==c)=false:=by simp [h]
theorem KH {x c d:Int} {v:Bool} (h:x=c) (hv:(c==d)=v):(x==d)=v:=by rw [h,hv]
theorem KB {x c d:Int} {v:Bool} (h:x=c) (hv:decide (c<d)=v):decide (x<d)=v:=by rw [h,hv]
def tT {P:Program} :Ev P:= .cQ true true rfl
def tF {P:Program} :Ev P:= .cQ false false rfl
def tC {P:Program} {q v:Bool} (h:q=v):Ev P:= .cQ q v h
theorem eT {b v:Bool} (h:b=v):(b==true)=(v==true):=by rw [h]
theorem eF {b v:Bool} (h:b=v):(b==false)=(v==false):=by rw [h]
theorem nt {b v:Bool} (h:b=v):(!b)= !v:=by rw [h]
theorem dP {x c':Int} {v:Bool} (c:Int) (h:decide (x<c')=v) (hc:c'=c+1:=by decide):decide (x≤c)=v:=KC h hc
theorem aY {y c':Int} {v:Bool} (c:Int) (h:decide (y<c')=v) (hc:c'=c+1:=by decide):decide (c<y)= !v:=JG h hc
theorem bB {y c':Int} {v:Bool} (c:Int) (h:decide (y<c')=v) (hc:c'=c:=by decide):decide (c≤y)= !v:=JK h hc
theorem CG {x d:Int} (c:Int) (h:decide (x<d)=true) (hc:d≤c:=by decide):decide (x<c)=true:=KA h hc
theorem lb {x d:Int} (c:Int) (h:decide (x<d)=false) (hc:c≤d:=by decide):decide (x<c)=false:=Iw h hc
theorem ia {x d:Int} (c:Int) (h:decide (x<d)=false) (hc:c<d:=by decide):(x==c)=false:=IU h hc
theorem dx {x c:Int} (d:Int) (v:Bool) (h:x=c) (hv:(c==d)=v:=by decide):(x==d)=v:=KH h hv
theorem sl {x c:Int} (d:Int) (v:Bool) (h:x=c) (hv:decide (c<d)=v:=by decide):decide (x<d)=v:=KB h hv
def aO:jI→jI→Nat→Prop
  |_,.no,_=>True
  | .tight,.tight,_=>True
  | .tight,.fresh n,sz=>n=sz
  | .fresh a,.fresh b,_=>a=b
  |_,_,_=>False
mutual
def wk:D→D→Prop
  | .aj o sz xs,.aj o' L4 ys=>xs=ys∧(sz=L4∨xs= [])∧aO o o' L4∧(o= .tight∨sz=L4)
  | .agg l,.agg m=>ax l m
  | .aC l,.aC m=>ax l m
  |a,b=>a=b
def ax:List D→List D→Prop
  | [],[]=>True
  |a::l,b::m=>wk a b∧ax l m
  |_,_=>False
end
theorem mS:∀ {l m:List D},ax l m→l.length=m.length∧∀(i:Nat) (a b:D),l[i]? =some a→m[i]? =some b→wk a b
 | [],[],_=>⟨rfl,fun i a b h=>by simp at h⟩
 | [],_::_,h=>by simp [ax] at h
 |_::_,[],h=>by simp [ax] at h
 |a::l,b::m,h=>by
  rw [ax] at h
  obtain ⟨h1,h2⟩:=mS h.2
  refine ⟨by simp [h1],fun i x y p q=> ?_⟩
  cases i with
  |zero=>simp at p q;subst p q;exact h.1
  |succ i=>simp at p q;exact h2 i x y p q
theorem bk.wk {C:Nat→Nat→Option Value} {M:MM} (hM:M=eY C) {d:D} {v:Value} (h:bk M d v):∀ {d':D},wk d d'→bk M d' v:=by
 induction h with
 |aj b off vs hl LH ha LR hc hr LL ho ih=>
  intro d' w
  rename_i M o sz xs _ _ _
  cases d'<;>simp only [Ev.wk,reduceCtorEq] at w
  obtain ⟨rfl,w2,w3,_⟩:=w
  rename_i o' _ _
  refine bk.resize (sz:=sz) (.aj b off vs hl LH ha LR hc hr LL ?_) w2
  cases o<;>cases o'<;>first|trivial|exact ho|(simp only [aO] at w3)
 |agg h r ih=>
  intro d' w
  cases d'<;>simp only [Ev.wk,reduceCtorEq] at w
  rename_i _ cs vs _
  obtain ⟨h1,h2⟩:=mS w
  refine .agg (h1▸h) fun i d v a b=> ?_
  have LN:i<cs.length:=by
   rw [h]
   exact (Array.getElem?_eq_some_iff.1 b).1
  exact ih i cs[i] v (by simp [LN]) b hM (h2 i _ _ (by simp [LN]) a)
 |aC h r ih=>
  intro d' w
  cases d'<;>simp only [Ev.wk,reduceCtorEq] at w
  rename_i _ cs vs _
  obtain ⟨h1,h2⟩:=mS w
  refine .aC (h1▸h) fun i d v a b=> ?_
  have LN:i<cs.length:=by
   rw [h]
   exact (Array.getElem?_eq_some_iff.1 b).1
  exact ih i cs[i] v (by simp [LN]) b hM (h2 i _ _ (by simp [LN]) a)
 |undef v=>intro d' w;cases d'<;>simp only [Ev.wk,reduceCtorEq] at w;exact .undef v
 |int k n=>intro d' w;cases d'<;>simp only [Ev.wk,reduceCtorEq] at w;rw [← w];exact .int k n
 |bool b=>intro d' w;cases d'<;>simp only [Ev.wk,reduceCtorEq] at w;rw [← w];exact .bool b
 |str s=>intro d' w;cases d'<;>simp only [Ev.wk,reduceCtorEq] at w;rw [← w];exact .str s
 |eL=>intro d' w;cases d'<;>simp only [Ev.wk,reduceCtorEq] at w;exact .eL
 |aq=>intro d' w;cases d'<;>simp only [Ev.wk,reduceCtorEq] at w;exact .aq
 |ptr q h=>intro d' w;cases d'<;>simp only [Ev.wk,reduceCtorEq] at w;rw [← w];exact .ptr q h
 |dG q vs hx hc hr ih=>intro d' w;cases d'<;>simp only [Ev.wk,reduceCtorEq] at w;rw [← w];exact .dG q vs hx hc hr
 |cB h=>intro d' w;cases d'<;>simp only [Ev.wk,reduceCtorEq] at w;rw [← w];exact .cB h
 |hE h=>intro d' w;cases d'<;>simp only [Ev.wk,reduceCtorEq] at w;rw [← w];exact .hE h
 |cS h hh hc=>intro d' w;cases d'<;>simp only [Ev.wk,reduceCtorEq] at w;rw [← w];exact .cS h hh hc
 |sub h hc hp ho=>intro d' w;cases d'<;>simp only [Ev.wk,reduceCtorEq] at w;rw [← w];exact .sub h hc hp ho
 |fn h1 h2 r1 r2 i1 i2=>intro d' w;cases d'<;>simp only [Ev.wk,reduceCtorEq] at w;rw [← w];exact .fn h1 h2 r1 r2
theorem w8 {B:Nat} {w:World} {C:Nat→Nat→Option Value} {d d':D} {v:Value} (hr:bk (eY C) d v) (hf:∀sz L4 xs,d= .aj (.fresh sz) L4 xs→∃a len cap,v= .slice a len cap∧L4=sz∧iU B w C sz a len cap) (hw:wk d d'):
  ∀sz L4 xs,d'= .aj (.fresh sz) L4 xs→∃a len cap,v= .slice a len cap∧L4=sz∧iU B w C sz a len cap:=by
 rintro sz L4 xs rfl
 cases d<;>simp only [wk,reduceCtorEq] at hw
 rename_i o R0 RL
 obtain ⟨rfl,w2,w3,w4⟩:=hw
 cases o with
 |no=>simp only [aO] at w3
 |tok a b=>simp only [aO] at w3
 |tight=>
  simp only [aO] at w3
  subst w3
  cases hr with
  |aj b off vs hl LH ha LR hc hr LL ho=>exact ⟨_,_,_,rfl,rfl,.inl ho⟩
 |fresh k=>
  simp only [aO] at w3
  subst w3
  rcases w4 with w4|rfl
  ·cases w4
  ·exact hf _ _ _ rfl
theorem aF.to {P:Program} {f:FuncId} {args:List D} {d d':D} (h:aF P f args d) (hw:wk d d'):aF P f args d':=by
 refine ⟨h.FB,fun w C vs hC ha=>Calls.mono (h.run w C vs hC ha) ?_⟩
 rintro e w' ⟨v,C',rfl,hext,LM,QA,PM⟩
 refine ⟨v,C',rfl,hext,LM.wk rfl hw,w8 LM QA hw,?_⟩
 rintro ds vs rfl rfl i sz L4 xs hi
 cases d<;>simp only [wk,reduceCtorEq] at hw
 rename_i QR
 obtain ⟨h1,h2⟩:=mS hw
 have LN:i<QR.length:=by
  rw [h1]
  rcases Nat.lt_or_ge i ds.length with q|q
  ·exact q
  ·rw [SN q] at hi;cases hi
 cases LM with
 |aC hl hr=>
  have RO:i<vs.size:=hl▸LN
  have:=w8 (d:=QR[i]) (d':= .aj (.fresh sz) L4 xs) (v:=vs[i]) (hr i _ _ (by simp [LN]) (by simp [RO])) (fun s1 s2 x e=>by
   obtain ⟨a,len,cap,k1,k2⟩:=PM QR vs rfl rfl i s1 s2 x (by simp [LN,e])
   exact ⟨a,len,cap,by simpa [RO] using k1,k2⟩) (h2 i _ _ (by simp [LN]) hi) sz L4 xs rfl
  obtain ⟨a,len,cap,k1,k2,k3⟩:=this
  exact ⟨a,len,cap,by simp [RO,k1],k2,k3⟩
def ik:Code→List Code
  | .seq a b=>ik a++ik b
  | .cond _ a b=>ik a++ik b
  | .block _ a=>ik a
  | .scope a=>ik a
  | .loop a=>a::ik a
  | .rangeFunc _ _ a b=>ik a++ik b
  |_=> []
def cu (fn:Func) (i:Nat):Code:=match fn.body with
  |some c=>(ik c).getD i .skip
  |none=> .skip
def gm:Code→List (Code×Code)
  | .seq a b=>gm a++gm b
  | .cond _ a b=>gm a++gm b
  | .block _ a=>gm a
  | .scope a=>gm a
  | .loop a=>gm a
  | .rangeFunc _ _ a b=>(a,b)::gm b
  |_=> []
def a8 (fn:Func) (i:Nat):Code:=match fn.body with
  |some c=>((gm c).getD i (.skip,.skip)).1
  |none=> .skip
def a7 (fn:Func) (i:Nat):Code:=match fn.body with
  |some c=>((gm c).getD i (.skip,.skip)).2
  |none=> .skip
def gu:Code→List Code
  | .seq a b=>gu a++gu b
  | .cond _ a b=>gu a++gu b
  | .block i a=> .block i a::gu a
  | .scope a=>gu a
  | .loop a=>gu a
  | .rangeFunc _ _ a b=>gu a++gu b
  |_=> []
def KM (fn:Func) (i:Nat):Code:=match fn.body with
  |some c=>(gu c).getD i .skip
  |none=> .skip
section
variable {P:Program}
theorem cG {cs:List D} (h:cs.all D.clean=true):∀c∈cs,c.clean=true:=List.all_eq_true.1 h
theorem bJ.cast {c:Code} {n0:Nat} {t t1:List D} {s s1:List Ob} {ex Rm:Ex} {t' QC:List D} {s' PS:List Ob} (h:bJ P c n0 t s ex t' s') (h1:t=t1) (h2:s=s1) (h3:ex=Rm) (h4:t'=QC) (h5:s'=PS):bJ P c n0 t1 s1 Rm QC PS:=by
 subst h1 h2 h3 h4 h5;exact h
theorem bJ.from {c:Code} {n0:Nat} {t t1:List D} {s s1:List Ob} {ex:Ex} {t':List D} {s':List Ob} (h:bJ P c n0 t s ex t' s') (h1:t=t1) (h2:s=s1):bJ P c n0 t1 s1 ex t' s':=by
 subst h1 h2;exact h
theorem Gd {C:Nat→Nat→Option Value} {l m:List D} {vs:Array Value} (h:bS (eY C) l vs) (hw:ax l m):bS (eY C) m vs:=by
 obtain ⟨h1,h2⟩:=mS hw
 refine ⟨by rw [← h1];exact h.1,fun i d v p q=> ?_⟩
 have LN:i<l.length:=by rw [h.1];exact (Array.getElem?_eq_some_iff.1 q).1
 exact (h.2 i l[i] v (by simp [LN]) q).wk rfl (h2 i _ _ (by simp [LN]) p)
theorem aF.args {f:FuncId} {az as':List D} {d:D} (h:aF P f az d) (hw:ax as' az):aF P f as' d:=
 ⟨h.FB,fun w C vs hC ha=>h.run w C vs hC (Gd ha hw)⟩
theorem aP.cast {c:Code} {sp:HS} {n0:Nat} {t:List D} {s:List Ob} {ex:Ex} {t' QC:List D} {s' PS:List Ob} (h:aP P c sp n0 t s ex t' s') (h4:t'=QC) (h5:s'=PS):aP P c sp n0 t s ex QC PS:=by
 subst h4 h5;exact h
end
open Go
abbrev JQ (kind op width size:Int) (eu:Bool) (dst src off ai:Int):D:=
  .agg [.int .i8 kind,.int .i8 op,.int .i8 width,.int .i8 size,.bool eu,.int .i8 dst,.int .i8 src,.int .i64 off,.int .i64 ai]
def EY (dst src off ai:Int):Bool:=decide (0≤dst∧dst≤10∧0≤src∧src≤10∧ -32768≤off∧off≤32767∧ -2147483648≤ai∧ai≤2147483647)
def DR (n:Int):Bool:=decide (n=1∨n=2∨n=4∨n=8)
def GZ (kind op width size:Int) (eu:Bool) (dst src off ai:Int):Bool:=
  if kind=0 then decide (0≤op∧op≤12∧(width=32∨width=64)∧dst<10∧size=0∧off=0)&&(if eu then decide (op≠8∧ai=0) else decide (src=0∧(op=8→ai=0)))
  else if kind=1 then DR size&&decide (dst<10∧op=0∧width=0∧ai=0)&& !eu
  else if kind=2 then DR size&&decide (op=0∧width=0∧ai=0)&& !eu
  else if kind=3 then decide (0≤op∧op≤10∧width=0∧size=0)&&(if eu then decide (ai=0) else decide (src=0))
  else if kind=4 then decide (op=0∧width=0∧size=0∧dst=0∧src=0∧ai=0)&& !eu
  else if kind=5 then decide (op=0∧width=0∧size=0∧dst=0∧src=0∧off=0∧0≤ai∧ai≤15)&& !eu
  else if kind=6 then decide (op=0∧width=0∧size=0∧dst=0∧src=0∧off=0∧ai=0)&& !eu
  else false
def Kz (kind op width size:Int) (eu:Bool) (dst src off ai:Int):Bool:=EY dst src off ai&&GZ kind op width size eu dst src off ai
def Lz (kind op:Int):Int:=if kind=0∨kind=3 then op else 0
def KF (kind width:Int):Int:=if kind=0 then width else 0
def KZ (kind size:Int):Int:=if kind=1∨kind=2 then size else 0
def KG (kind op:Int) (eu:Bool):Bool:=if kind=0 then eu&&decide (op≠8) else if kind=3 then eu else false
def Lp (kind dst:Int):Int:=if kind=0∨kind=1∨kind=2∨kind=3 then dst else 0
def Lm (kind op:Int) (eu:Bool) (src:Int):Int:=if kind=0 then (if eu&&decide (op≠8) then src else 0) else if kind=1∨kind=2 then src else if kind=3 then (if eu then src else 0) else 0
def Ln (kind off:Int):Int:=if kind=1∨kind=2∨kind=3∨kind=4 then off else 0
def Lo (kind op:Int) (eu:Bool) (ai:Int):Int:=if kind=0 then (if eu||decide (op=8) then 0 else ai) else if kind=3 then (if eu then 0 else ai) else if kind=5 then ai else 0
abbrev xD (op w dst src base aa ai cc:Int):D:=
  .agg [.int .i8 op,.int .i8 w,.int .i8 dst,.int .i8 src,.int .i8 base,.int .i64 aa,.int .i64 ai,.int .i8 cc]
abbrev F7 (kind op w dst src base aa ai cc uF uL num to:Int):D:=
  .agg [.int .i8 kind,.int .i8 op,.int .i8 w,.int .i8 dst,.int .i8 src,.int .i8 base,.int .i64 aa,.int .i64 ai,.int .i8 cc,.int .i8 uF,.int .i8 uL,.int .i64 num,.int .i64 to]
abbrev fY (uL uF:Int):D:=F7 1 0 0 0 0 0 0 0 0 uF uL 0 0
abbrev fP (uF uL:Int):D:=F7 2 0 0 0 0 0 0 0 0 uF uL 0 0
abbrev two (op w dst src:Int):D:=F7 0 op w dst src 0 0 0 0 0 0 0 0
abbrev num (op w dst n:Int):D:=F7 0 op w dst 0 0 0 n 0 0 0 0 0
abbrev IW (w dst:Int):D:=F7 0 25 w dst 11 0 0 0 4 0 0 0 0
def F8 (width ai:Int):Bool:=if width=32 then decide (ai%4294967296=0) else decide (ai=0)
def HC (op:Int):Int:=if op=0 then 2 else if op=1 then 5 else if op=4 then 3 else if op=5 then 4 else if op=10 then 6 else if op=6 then 20 else if op=7 then 21 else 22
def HK (op:Int):Int:=if op=0 then 9 else if op=1 then 12 else if op=4 then 10 else if op=5 then 11 else if op=10 then 13 else if op=6 then 17 else if op=7 then 18 else 19
def KO (op width:Int) (eu:Bool) (dst src ai:Int):List D:=
  if op=3∨op=9 then
    (if eu then
      [fY 0 dst,fY 1 src,num 1 32 2 0,num 1 32 11 1,two 8 width 1 1,IW width 1,two 24 width 1 0,fY 1 src]++
        (if op=3 then [num 1 32 11 0,two 8 width 1 1,IW width 0,fP dst 0] else [fY 11 dst,two 8 width 1 1,IW width 2,fP dst 2])
    else if F8 width ai then
      (if op=3 then [num 1 width 0 0,fP dst 0] else if width=32 then [fY 0 dst,two 0 32 0 0,fP dst 0] else [fY 0 dst,fP dst 0])
    else [fY 0 dst,num 1 width 1 ai,num 1 32 2 0,two 24 width 1 0,fP dst (if op=3 then 0 else 2)])
  else if op=2 then (if eu then [fY 0 dst,fY 1 src,two 16 width 0 1,fP dst 0] else [fY 0 dst,num 1 width 1 ai,two 16 width 0 1,fP dst 0])
  else if op=8 then [fY 0 dst,two 23 width 0 0,fP dst 0]
  else if op=11 then (if eu then (if width=32 then [fY 0 src,two 0 32 0 0,fP dst 0] else [fY 0 src,fP dst 0]) else [num 1 width 0 ai,fP dst 0])
  else if op=6∨op=7∨op=12 then (if eu then [fY 0 dst,fY 1 src,two (HC op) width 0 0,fP dst 0] else [fY 0 dst,num (HK op) width 0 (ai%width),fP dst 0])
  else (if eu then [fY 0 dst,fY 1 src,two (HC op) width 0 1,fP dst 0] else [fY 0 dst,num (HK op) width 0 ai,fP dst 0])
def Kl (kind op width size:Int) (eu:Bool) (dst src off ai:Int):List D:=
  if kind=0 then KO op width eu dst src ai
  else if kind=1 then [fY 1 src,F7 0 26 (8*size) 0 0 1 off 0 0 0 0 0 0,fP dst 0]
  else if kind=2 then [fY 1 dst,fY 0 src,F7 0 27 (8*size) 0 0 1 off 0 0 0 0 0 0]
  else if kind=5 then [F7 3 0 0 0 0 0 0 0 0 0 0 ai 0,fP 0 0,num 1 32 1 0,fP 1 1,fP 2 1,fP 3 1,fP 4 1,fP 5 1]
  else if kind=6 then [F7 6 0 0 0 0 0 0 0 0 0 0 0 0]
  else []
theorem dD (n:Int):T8.u8.wrap n=n%256:=by simp [T8.wrap,T8.bits,T8.signed]
theorem Aa (n:Int):T8.u16.wrap n=n%65536:=by simp [T8.wrap,T8.bits,T8.signed]
theorem z7 (n:Int):T8.u32.wrap n=n%4294967296:=by simp [T8.wrap,T8.bits,T8.signed]
theorem dR (n:Int):T8.u64.wrap n=n%18446744073709551616:=by simp [T8.wrap,T8.bits,T8.signed]
theorem kK (n:Int):T8.i8.wrap n=(n+128)%256 - 128:=by simp only [T8.wrap,T8.bits,T8.signed];simp;split<;>omega
theorem Jh (n:Int):T8.i16.wrap n=(n+32768)%65536 - 32768:=by simp only [T8.wrap,T8.bits,T8.signed];simp;split<;>omega
theorem we (n:Int):T8.i32.wrap n=(n+2147483648)%4294967296 - 2147483648:=by simp only [T8.wrap,T8.bits,T8.signed];simp;split<;>omega
theorem cD (n:Int):T8.i64.wrap n=(n+9223372036854775808)%18446744073709551616 - 9223372036854775808:=by simp only [T8.wrap,T8.bits,T8.signed];simp;split<;>omega
theorem toNat_ofInt (w:Nat) (a:Int):(Sy w a).toNat=(a%(2^w:Nat)).toNat:=by simp [BitVec.toNat_ofInt]
theorem and_ones (w k:Nat) (hk:k≤w) (a:Int):((Sy w a&&&Sy w ((2^k - 1:Nat):Int)).toNat:Int)=a%(2^k:Nat):=by
 have hp:0<2^k:=Nat.two_pow_pos k
 have hle:2^k≤2^w:=Nat.pow_le_pow_right (by omega) hk
 have e2:(((2^k - 1:Nat):Int)%((2^w:Nat):Int)).toNat=2^k - 1:=by
  rw [Int.emod_eq_of_lt (by omega) (by omega)]
  omega
 rw [BitVec.toNat_and,toNat_ofInt,toNat_ofInt,e2,Nat.and_two_pow_sub_one_eq_mod]
 have h0:0≤a%((2^w:Nat):Int):=Int.emod_nonneg _ (by omega)
 have h1:((a%((2^w:Nat):Int)).toNat:Int)=a%((2^w:Nat):Int):=Int.toNat_of_nonneg h0
 rw [Int.natCast_emod,h1]
 have hd:((2^k:Nat):Int)∣((2^w:Nat):Int):=by
  rw [Int.natCast_dvd_natCast];exact Nat.pow_dvd_pow 2 hk
 exact Int.emod_emod_of_dvd a hd
structure XS where
  op:Int
  w:Int
  dst:Int
  src:Int
  base:Int
  aa:Int
  ai:Int
  cc:Int
deriving DecidableEq
def XS.d (x:XS):D:=xD x.op x.w x.dst x.src x.base x.aa x.ai x.cc
structure La where
  kind:Int
  op:Int
  w:Int
  dst:Int
  src:Int
  base:Int
  aa:Int
  ai:Int
  cc:Int
  uF:Int
  uL:Int
  num:Int
  to:Int
deriving DecidableEq
def La.d (x:La):D:=F7 x.kind x.op x.w x.dst x.src x.base x.aa x.ai x.cc x.uF x.uL x.num x.to
structure jk where
  kind:Int
  op:Int
  width:Int
  size:Int
  eu:Bool
  dst:Int
  src:Int
  off:Int
  ai:Int
deriving DecidableEq
def jk.d (x:jk):D:=JQ x.kind x.op x.width x.size x.eu x.dst x.src x.off x.ai
abbrev Lx (kind op w dst src base aa ai cc uF uL num to:Int):List D:=
  [.int .i8 kind,.int .i8 op,.int .i8 w,.int .i8 dst,.int .i8 src,.int .i8 base,.int .i64 aa,.int .i64 ai,.int .i8 cc,.int .i8 uF,.int .i8 uL,.int .i64 num,.int .i64 to]
def Lv (n:Int):Int:=T8.i64.wrap (1*2^(min (T8.u64.wrap n).toNat T8.i64.bits))
def j3 (n:Int):Int:=T8.i64.wrap (1*2^(min n.toNat T8.i64.bits))
def Cg (a b:Int):Int:=T8.i64.wrap ((Sy T8.i64.bits a|||Sy T8.i64.bits b).toNat:Int)
def J2 (a b:Int):Int:=T8.i64.wrap ((Sy T8.i64.bits a&&& ~~~Sy T8.i64.bits b).toNat:Int)
end Go.Ev
namespace Go.Proofs.YtbfpahigdpigpaaGreat
open Go Go.Ev
theorem mixed:Tryz.prog.follows .mixedOrders=true:=by kernel_rfl
theorem eC:jl Tryz.prog 53 [.int .i8,.int .i8,.int .i8,.int .i8,.int .i8,.int .i64,.int .i64,.int .i8]:=jl.of_flat (d:=5) (by kernel_rfl) (by kernel_rfl) (by kernel_rfl) (by kernel_rfl)
theorem aE:jl Tryz.prog 46 [.bool,.bool,.bool,.bool,.bool]:=jl.of_flat (d:=5) (by kernel_rfl) (by kernel_rfl) (by kernel_rfl) (by kernel_rfl)
theorem kl:jl Tryz.prog 48 [.int .u64,.int .u64,.int .u64,.int .u64,.int .u64,.int .u64,.int .u64,.int .u64,.int .u64,.int .u64,.int .u64,.int .u64,.int .u64,.int .u64,.int .u64,.int .u64,.bool,.bool,.bool,.bool,.bool,.int .u64]:=jl.of_flat (d:=5) (by kernel_rfl) (by kernel_rfl) (by kernel_rfl) (by kernel_rfl)
end Go.Proofs.YtbfpahigdpigpaaGreat
namespace Go.Ev
open Go
def aA (op:Int):Int:=
  if op=0∨(2≤op∧op≤8) then 1
  else if op=16 then 2
  else if op=1∨(9≤op∧op≤15) then 3
  else if 17≤op∧op≤19 then 4
  else if 20≤op∧op≤24 then 5
  else if op=25 then 6
  else if op=26 then 7
  else if op=27 then 8
  else if op=28 then 9
  else if op=29 then 10
  else if op=30∨op=31 then 11
  else 0
def bp (op:Int):Int:=
  if op=0 then 0x89 else if op=1 then 0xC7 else if op=2 then 0x01 else if op=3 then 0x09 else if op=4 then 0x21 else if op=5 then 0x29 else if op=6 then 0x31 else if op=7 then 0x39 else if op=8 then 0x85
  else if 9≤op∧op≤14 then 0x81 else if op=15 then 0xF7 else if op=16 then 0xAF else if 17≤op∧op≤19 then 0xC1 else if 20≤op∧op≤22 then 0xD3 else if op=23∨op=24 then 0xF7
  else if op=25 then 0x40 else if op=26 then 0x8B else if op=27 then 0x89 else if op=28 then 0xE9 else if op=29 then 0x80 else if op=30 then 0xC3 else if op=31 then 0x05 else 0
def cI (op:Int):Int:=
  if op=10 then 1 else if op=11∨op=17∨op=20 then 4 else if op=12∨op=18∨op=21 then 5 else if op=13∨op=24 then 6 else if op=14∨op=19∨op=22 then 7 else if op=23 then 3 else 0
def KK (op:Int):Int:=
  if aA op=1∨aA op=2 then 1 else if aA op=0 then 0 else aA op - 1
def bA (n:Int):Bool:=decide (0≤n∧n≤15)
def fE (n:Int):Bool:=decide ((2≤n∧n≤7)∨(12≤n∧n≤15))
def bj (w:Int):Bool:=decide (w=32∨w=64)
def bu (w:Int):Bool:=decide (w=8∨w=16∨w=32∨w=64)
def oU (w ai:Int):Bool:=decide (w=32∨(w=8∧ -128≤ai∧ai≤127))
def iw (sh w dst src base aa ai cc:Int):Bool:=
  if sh=1∨sh=2 then bj w&&decide (base=0∧aa=0∧ai=0∧cc=0)
  else if sh=3 then bj w&&decide (src=0∧base=0∧aa=0∧cc=0)
  else if sh=4 then bj w&&decide (src=0∧base=0∧aa=0∧cc=0∧0≤ai∧ai<w)
  else if sh=5 then bj w&&decide (src=0∧base=0∧aa=0∧ai=0∧cc=0)
  else if sh=6 then bj w&&decide (base=0∧aa=0∧ai=0)&&fE cc
  else if sh=7 then bu w&&decide (src=0∧ai=0∧cc=0)
  else if sh=8 then bu w&&decide (dst=0∧ai=0∧cc=0)
  else if sh=9 then oU w ai&&decide (dst=0∧src=0∧base=0∧aa=0∧cc=0)
  else if sh=10 then oU w ai&&decide (dst=0∧src=0∧base=0∧aa=0)&&fE cc
  else if sh=11 then decide (w=0∧dst=0∧src=0∧base=0∧aa=0∧ai=0∧cc=0)
  else false
def ct (op w dst src base aa ai cc:Int):Bool:=
  bA dst&&bA src&&bA base&&decide (-2147483648≤aa∧aa≤2147483647)&&decide (-2147483648≤ai∧ai≤2147483647)&&iw (aA op) w dst src base aa ai cc
def bM (n:Int):List Int:= [n%256,n / 256%256,n / 65536%256,n / 16777216%256]
def fw (wide:Bool) (r m:Int):Int:=64+(if wide then 8 else 0)+4*(r / 8)+m / 8
def dN (wide:Bool) (r m:Int) (always:Bool):Bool:=wide||always||decide (8≤r∨8≤m)
def cq (wide:Bool) (r m:Int) (always:Bool):List Int:=if dN wide r m always then [fw wide r m] else []
def b8 (r m:Int):Int:=192+8*(r%8)+m%8
def de (r b aa:Int):List Int:=if b%8=4 then (128+8*(r%8)+b%8)::36::bM aa else (128+8*(r%8)+b%8)::bM aa
def aM (op w dst src base aa ai cc:Int):List Int:=
  let sh:=aA op
  let wide:=decide (w=64)
  if sh=1 then cq wide src dst false++ [bp op,b8 src dst]
  else if sh=2 then cq wide dst src false++ [15,bp op,b8 dst src]
  else if sh=6 then cq wide dst src false++ [15,64+cc,b8 dst src]
  else if sh=3 then (if op=1∧w=32 then cq false 0 dst false++((184+dst%8)::bM ai) else cq wide 0 dst false++(bp op::b8 (cI op) dst::bM ai))
  else if sh=4 then cq wide 0 dst false++ [bp op,b8 (cI op) dst,ai%256]
  else if sh=5 then cq wide 0 dst false++ [bp op,b8 (cI op) dst]
  else if sh=7 then cq wide dst base false++((if w=8 then [15,182] else if w=16 then [15,183] else [139])++de dst base aa)
  else if sh=8 then (if w=16 then [102] else [])++(cq wide src base (decide (w=8))++((if w=8 then [136] else [137])++de src base aa))
  else if sh=9 then (if w=8 then [235,ai%256] else 233::bM ai)
  else if sh=10 then (if w=8 then [112+cc,ai%256] else 15::(128+cc)::bM ai)
  else if op=31 then [15,5]
  else [195]
def bD (l:List Int):List D:=l.map fun n=> .int .u8 n
def rO (op w dst src base aa ai cc:Int):List D:=if ct op w dst src base aa ai cc then bD (aM op w dst src base aa ai cc) else []
def zI (op w dst src base aa ai cc:Int):Int:=if ct op w dst src base aa ai cc then 0 else 2
def eK (a b c d:Int):Int:=(a+256*b+65536*c+16777216*d+2147483648)%4294967296 - 2147483648
def dH (a:Int):Int:=(a+128)%256 - 128
theorem CR {n:Int} (h0: -2147483648≤n) (h1:n≤2147483647):eK (n%256) (n / 256%256) (n / 65536%256) (n / 16777216%256)=n:=by
 simp only [eK]
 omega
theorem nh {n:Int} (h0: -128≤n) (h1:n≤127):dH (n%256)=n:=by
 simp only [dH]
 omega
theorem dF {op w dst src base aa ai cc:Int} (h:ct op w dst src base aa ai cc=true):
  (0≤dst∧dst≤15∧0≤src∧src≤15∧0≤base∧base≤15∧ -2147483648≤aa∧aa≤2147483647∧ -2147483648≤ai∧ai≤2147483647)∧iw (aA op) w dst src base aa ai cc=true:=by
 simp only [ct,bA,SG,decide_eq_true_eq] at h
 exact ⟨by omega,h.2⟩
theorem hP {op:Int} (h:aA op≠0):op=0∨op=1∨op=2∨op=3∨op=4∨op=5∨op=6∨op=7∨op=8∨op=9∨op=10∨op=11∨op=12∨op=13∨op=14∨op=15∨op=16∨op=17∨op=18∨op=19∨op=20∨op=21∨op=22∨op=23∨op=24∨op=25∨op=26∨op=27∨op=28∨op=29∨op=30∨op=31:=by
 by_cases h2:0≤op∧op≤31
 ·omega
 ·refine absurd ?_ h
  unfold aA
  repeat (rw [if_neg (by omega)])
def xK:List Int→Int
  |a::b::c::d::_=>eK a b c d
  |_=>0
def hd (l:List Int):Int:=l.headD 0
def gV:List Int:= [0,1,2,3,4,5,6,7,8,9,10,11,12,13,14,15,16,17,18,19,20,21,22,23,24,25,26,27,28,29,30,31]
def Fx (p:Int→Bool):Int:=(gV.find? p).getD (-1)
def ng (c:Int):Int:=Fx fun o=>decide (aA o=1∧bp o=c)
def Aq (c k:Int):Int:=Fx fun o=>decide ((aA o=3∨aA o=4∨aA o=5)∧bp o=c∧cI o=k)
def BV:List Int→Bool×Int×Int×List Int
  |h::t=>if 64≤h∧h≤79 then (decide (72≤h),(h - 64) / 4%2,(h - 64)%2,t) else (false,0,0,h::t)
  | []=>(false,0,0,[])
def zL (t:List Int):List Int:=if hd t%8=4 then t.drop 2 else t.drop 1
def De (wide:Bool) (r m c:Int) (t:List Int):XS:=
  let w:=if wide then 64 else 32
  let uF:=hd t / 8%8+8*r
  let rm:=hd t%8+8*m
  if c=175 then ⟨16,w,uF,rm,0,0,0,0⟩
  else if 64≤c∧c≤79 then ⟨25,w,uF,rm,0,0,0,c - 64⟩
  else if 128≤c∧c≤143 then ⟨29,32,0,0,0,0,xK t,c - 128⟩
  else if c=182 then ⟨26,8,uF,0,rm,xK (zL t),0,0⟩
  else if c=183 then ⟨26,16,uF,0,rm,xK (zL t),0,0⟩
  else ⟨31,0,0,0,0,0,0,0⟩
def ji (half wide:Bool) (r m c:Int) (t:List Int):XS:=
  let w:=if wide then 64 else 32
  let uF:=hd t / 8%8+8*r
  let rm:=hd t%8+8*m
  if c=15 then De wide r m (hd t) (t.drop 1)
  else if 184≤c∧c≤191 then ⟨1,32,c - 184+8*m,0,0,0,xK t,0⟩
  else if 112≤c∧c≤127 then ⟨29,8,0,0,0,0,dH (hd t),c - 112⟩
  else if c=235 then ⟨28,8,0,0,0,0,dH (hd t),0⟩
  else if c=233 then ⟨28,32,0,0,0,0,xK t,0⟩
  else if c=195 then ⟨30,0,0,0,0,0,0,0⟩
  else if c=139 then ⟨26,w,uF,0,rm,xK (zL t),0,0⟩
  else if c=136 then ⟨27,8,0,uF,rm,xK (zL t),0,0⟩
  else if c=137∧hd t<192 then ⟨27,if half then 16 else w,0,uF,rm,xK (zL t),0,0⟩
  else if ng c≠ -1 then ⟨ng c,w,rm,uF,0,0,0,0⟩
  else
    let o:=Aq c (hd t / 8%8)
    if aA o=3 then ⟨o,w,rm,0,0,0,xK (t.drop 1),0⟩
    else if aA o=4 then ⟨o,w,rm,0,0,0,hd (t.drop 1),0⟩
    else ⟨o,w,rm,0,0,0,0,0⟩
def JW (half:Bool) (p:Bool×Int×Int×List Int):XS:=ji half p.1 p.2.1 p.2.2.1 (hd p.2.2.2) (p.2.2.2.drop 1)
def sy (l:List Int):XS:=if hd l=102 then JW true (BV (l.drop 1)) else JW false (BV l)
theorem Am {wide al:Bool} {r m c:Int} {t:List Int} (r0:0≤r) (r1:r≤15) (m0:0≤m) (m1:m≤15) (hc:¬(64≤c∧c≤79)):BV (cq wide r m al++c::t)=(wide,r / 8,m / 8,c::t):=by
 unfold cq
 split
 ·simp only [SH,S0,BV,fw]
  cases wide
  ·simp only [Tq,if_false]
   rw [if_pos (by omega)]
   refine Prod.ext ?_ (Prod.ext ?_ (Prod.ext ?_ rfl))<;>simp<;>omega
  ·simp only [if_true]
   rw [if_pos (by omega)]
   refine Prod.ext ?_ (Prod.ext ?_ (Prod.ext ?_ rfl))<;>simp<;>omega
 ·rename_i h
  simp only [dN,Tz,decide_eq_true_eq,not_or,Bool.not_eq_true] at h
  simp only [S0,BV,if_neg hc]
  rw [h.1.1]
  refine Prod.ext rfl (Prod.ext ?_ (Prod.ext ?_ rfl))<;>simp<;>omega
theorem Fl {wide al:Bool} {r m c:Int} {t:List Int} (r0:0≤r) (r1:r≤15) (m0:0≤m) (m1:m≤15) (hc:c≠102):hd (cq wide r m al++c::t)≠102:=by
 unfold cq
 split
 ·simp only [SH,hd,List.headD_cons,fw]
  cases wide<;>simp<;>omega
 ·simpa [hd] using hc
theorem fI {wide al:Bool} {r m c:Int} {t:List Int} (r0:0≤r) (r1:r≤15) (m0:0≤m) (m1:m≤15) (hc:¬(64≤c∧c≤79)) (h2:c≠102):sy (cq wide r m al++c::t)=ji false wide (r / 8) (m / 8) c t:=by
 unfold sy
 rw [if_neg (Fl r0 r1 m0 m1 h2),Am r0 r1 m0 m1 hc]
 rfl
theorem FD {wide al:Bool} {r m c:Int} {t:List Int} (r0:0≤r) (r1:r≤15) (m0:0≤m) (m1:m≤15) (hc:¬(64≤c∧c≤79)):sy (102::(cq wide r m al++c::t))=ji true wide (r / 8) (m / 8) c t:=by
 unfold sy
 rw [if_pos (show hd (102::(cq wide r m al++c::t))=102 from rfl),List.drop_one,List.tail_cons,Am r0 r1 m0 m1 hc]
 rfl
theorem jX {c:Int} {t:List Int} (hc:¬(64≤c∧c≤79)) (h2:c≠102):sy (c::t)=ji false false 0 0 c t:=by
 unfold sy
 rw [if_neg (by simpa [hd] using h2),BV,if_neg hc]
 rfl
theorem qw {r m:Int} (r0:0≤r) (r1:r≤15) (m0:0≤m) (m1:m≤15):b8 r m / 8%8+8*(r / 8)=r:=by unfold b8;omega
theorem lM {r m:Int} (r0:0≤r) (r1:r≤15) (m0:0≤m) (m1:m≤15):b8 r m%8+8*(m / 8)=m:=by unfold b8;omega
theorem qy {r m:Int} (r0:0≤r) (r1:r≤7) (m0:0≤m) (m1:m≤15):b8 r m / 8%8=r:=by unfold b8;omega
theorem Gu {r m:Int} (r0:0≤r) (m0:0≤m):¬b8 r m<192:=by unfold b8;omega
theorem ja {r b aa:Int} {t:List Int} :hd (de r b aa++t)=128+8*(r%8)+b%8:=by unfold de;split<;>simp [hd]
theorem ju {r b aa:Int} {t:List Int} :zL (de r b aa++t)=bM aa++t:=by
 unfold zL
 rw [ja]
 unfold de
 split<;>rename_i h<;>split<;>rename_i h2<;>first|(exfalso;omega)|simp
theorem dY {n:Int} {t:List Int} (h0: -2147483648≤n) (h1:n≤2147483647):xK (bM n++t)=n:=by
 simp only [bM,SH,xK]
 exact CR h0 h1
theorem jt {r b:Int} (r0:0≤r) (r1:r≤15):(128+8*(r%8)+b%8) / 8%8+8*(r / 8)=r:=by omega
theorem la {r b:Int} (b0:0≤b) (b1:b≤15):(128+8*(r%8)+b%8)%8+8*(b / 8)=b:=by omega
theorem It {r b:Int} :128+8*(r%8)+b%8<192:=by omega
theorem uO:∀n:Fin 32,aA (n.val:Int)=1→ng (bp (n.val:Int))=n.val:=by decide+kernel
theorem j8:∀n:Fin 32,aA (n.val:Int)=3∨aA (n.val:Int)=4∨aA (n.val:Int)=5→Aq (bp (n.val:Int)) (cI (n.val:Int))=n.val:=by decide+kernel
theorem rI:∀n:Fin 32,aA (n.val:Int)=1→(let c:=bp (n.val:Int);c≠15∧¬(64≤c∧c≤79)∧c≠102∧¬(184≤c∧c≤191)∧¬(112≤c∧c≤127)∧c≠235∧c≠233∧c≠195∧c≠139∧c≠136∧ng c≠ -1):=by decide+kernel
theorem ib:∀n:Fin 32,aA (n.val:Int)=3∨aA (n.val:Int)=4∨aA (n.val:Int)=5→(let c:=bp (n.val:Int);c≠15∧¬(64≤c∧c≤79)∧c≠102∧¬(184≤c∧c≤191)∧¬(112≤c∧c≤127)∧c≠235∧c≠233∧c≠195∧c≠139∧c≠136∧c≠137∧ng c= -1∧0≤cI (n.val:Int)∧cI (n.val:Int)≤7):=by decide+kernel
theorem uN {op:Int} (h:aA op≠0):∃n:Fin 32,op=n.val:=by
 have:=hP h
 exact ⟨⟨op.toNat,by omega⟩,by simp;omega⟩
theorem kh {w:Int} (h:bj w=true):w=32∨w=64:=by simpa [bj] using h
theorem jA {w:Int} (h:bj w=true):(if decide (w=64)=true then 64 else 32)=w:=by rcases kh h with rfl|rfl<;>rfl
theorem ur:∀n:Fin 32,aA (n.val:Int)=6→(n.val:Int)=25:=by decide+kernel
theorem uq:∀n:Fin 32,aA (n.val:Int)=7→(n.val:Int)=26:=by decide+kernel
theorem uo:∀n:Fin 32,aA (n.val:Int)=8→(n.val:Int)=27:=by decide+kernel
theorem um:∀n:Fin 32,aA (n.val:Int)=9→(n.val:Int)=28:=by decide+kernel
theorem ql:∀n:Fin 32,aA (n.val:Int)=10→(n.val:Int)=29:=by decide+kernel
theorem qk:∀n:Fin 32,aA (n.val:Int)=11→(n.val:Int)=30∨(n.val:Int)=31:=by decide+kernel
theorem gB {w:Int} (h:bu w=true):w=8∨w=16∨w=32∨w=64:=by simpa [bu] using h
theorem FE {op w dst src base aa ai cc:Int} (h:ct op w dst src base aa ai cc=true) (t:List Int):sy (aM op w dst src base aa ai cc++t)=⟨op,w,dst,src,base,aa,ai,cc⟩:=by
 obtain ⟨⟨d0,d1,s0,s1,b0,b1,p0,p1,i0,i1⟩,hs⟩:=dF h
 have Oq:aA op≠0:=by
  intro e
  rw [e] at hs
  simp [iw] at hs
 obtain ⟨k,rfl⟩:=uN Oq
 unfold iw at hs
 split at hs
 ·rename_i Rz
  simp only [SG,decide_eq_true_eq] at hs
  obtain ⟨hw,rfl,rfl,rfl,rfl⟩:=hs
  have ew:=jA hw
  rcases Rz with h1|h1
  ·
   obtain ⟨c1,c2,c3,c4,c5,c6,c7,c8,c9,LZ,Nb⟩:=rI k h1
   have e:aM (k.val:Int) w dst src 0 0 0 0=cq (decide (w=64)) src dst false++ [bp (k.val:Int),b8 src dst]:=by simp only [aM,h1,if_true]
   rw [e,SR,SH,SH,S0,fI s0 s1 d0 d1 c2 c3]
   simp only [ji,if_neg c1,if_neg c4,if_neg c5,if_neg c6,if_neg c7,if_neg c8,if_neg c9,if_neg LZ]
   have g:hd (b8 src dst::t)=b8 src dst:=rfl
   rw [g,if_neg (by have:=Gu (m:=dst) s0 d0;omega),if_pos Nb,uO k h1,qw s0 s1 d0 d1,lM s0 s1 d0 d1,ew]
  ·
   have hk:(k.val:Int)=16:=by
    have:=hP (op:=(k.val:Int)) (by omega)
    revert h1
    rcases this with e|e|e|e|e|e|e|e|e|e|e|e|e|e|e|e|e|e|e|e|e|e|e|e|e|e|e|e|e|e|e|e<;>rw [e]<;>decide
   rw [hk]
   have e:aM 16 w dst src 0 0 0 0=cq (decide (w=64)) dst src false++ [15,175,b8 dst src]:=by
    simp only [aM,show aA 16=2 from rfl,show bp 16=175 from rfl,if_true,show ¬(2:Int)=1 by decide,if_false]
   rw [e,SR,SH,SH,SH,S0,fI d0 d1 s0 s1 (by decide) (by decide)]
   simp only [ji,if_true,De,hd,List.headD_cons,List.drop_succ_cons,Tw]
   rw [qw d0 d1 s0 s1,lM d0 d1 s0 s1,ew]
 ·rename_i Q6
  have n1:¬aA (k.val:Int)=1:=fun e=>Q6 (.inl e)
  have n2:¬aA (k.val:Int)=2:=fun e=>Q6 (.inr e)
  split at hs
  ·
   rename_i h3
   simp only [SG,decide_eq_true_eq] at hs
   obtain ⟨hw,rfl,rfl,rfl,rfl⟩:=hs
   have ew:=jA hw
   by_cases hm:(k.val:Int)=1∧w=32
   ·obtain ⟨hm,rfl⟩:=hm
    have e:aM (k.val:Int) 32 dst 0 0 0 ai 0=cq false 0 dst false++((184+dst%8)::bM ai):=by
     rw [hm]
     simp [aM,show aA 1=3 from rfl]
    rw [e,SR,SH,fI (by omega) (by omega) d0 d1 (by omega) (by omega)]
    have c1:¬184+dst%8=15:=by omega
    simp only [ji,if_neg c1]
    rw [if_pos (by omega),dY i0 i1,hm]
    congr 1
    omega
   ·obtain ⟨c1,c2,c3,c4,c5,c6,c7,c8,c9,LZ,Nb,Nz,u0,u1⟩:=ib k (.inl h3)
    have e:aM (k.val:Int) w dst 0 0 0 ai 0=cq (decide (w=64)) 0 dst false++(bp (k.val:Int)::b8 (cI (k.val:Int)) dst::bM ai):=by
     simp only [aM,h3,if_neg hm,show ¬(3:Int)=1 by decide,show ¬(3:Int)=2 by decide,show ¬(3:Int)=6 by decide,if_false,if_true]
    rw [e,SR,SH,SH,fI (by omega) (by omega) d0 d1 c2 c3]
    simp only [ji,if_neg c1,if_neg c4,if_neg c5,if_neg c6,if_neg c7,if_neg c8,if_neg c9,if_neg LZ]
    have g:hd (b8 (cI (k.val:Int)) dst::(bM ai++t))=b8 (cI (k.val:Int)) dst:=rfl
    rw [g,if_neg (by omega),if_neg (by simp [Nz]),qy u0 u1 d0 d1,j8 k (.inl h3),if_pos h3,List.drop_one,List.tail_cons,dY i0 i1,lM u0 (by omega) d0 d1,ew]
  ·rename_i n3
   split at hs
   ·
    rename_i h4
    simp only [SG,decide_eq_true_eq] at hs
    obtain ⟨hw,rfl,rfl,rfl,rfl,j0,j1⟩:=hs
    have ew:=jA hw
    have Nf:=kh hw
    obtain ⟨c1,c2,c3,c4,c5,c6,c7,c8,c9,LZ,Nb,Nz,u0,u1⟩:=ib k (.inr (.inl h4))
    have e:aM (k.val:Int) w dst 0 0 0 ai 0=cq (decide (w=64)) 0 dst false++ [bp (k.val:Int),b8 (cI (k.val:Int)) dst,ai%256]:=by
     simp only [aM,h4,show ¬(4:Int)=1 by decide,show ¬(4:Int)=2 by decide,show ¬(4:Int)=6 by decide,show ¬(4:Int)=3 by decide,if_false,if_true]
    rw [e,SR,SH,SH,SH,S0,fI (by omega) (by omega) d0 d1 c2 c3]
    simp only [ji,if_neg c1,if_neg c4,if_neg c5,if_neg c6,if_neg c7,if_neg c8,if_neg c9,if_neg LZ]
    have g:hd (b8 (cI (k.val:Int)) dst::ai%256::t)=b8 (cI (k.val:Int)) dst:=rfl
    rw [g,if_neg (by omega),if_neg (by simp [Nz]),qy u0 u1 d0 d1,j8 k (.inr (.inl h4)),if_neg (by omega),if_pos h4,List.drop_one,List.tail_cons,lM u0 (by omega) d0 d1,ew]
    have:hd (ai%256::t)=ai:=by simp only [hd,List.headD_cons];omega
    rw [this]
   ·rename_i n4
    split at hs
    ·
     rename_i h5
     simp only [SG,decide_eq_true_eq] at hs
     obtain ⟨hw,rfl,rfl,rfl,rfl,rfl⟩:=hs
     have ew:=jA hw
     obtain ⟨c1,c2,c3,c4,c5,c6,c7,c8,c9,LZ,Nb,Nz,u0,u1⟩:=ib k (.inr (.inr h5))
     have e:aM (k.val:Int) w dst 0 0 0 0 0=cq (decide (w=64)) 0 dst false++ [bp (k.val:Int),b8 (cI (k.val:Int)) dst]:=by
      simp only [aM,h5,show ¬(5:Int)=1 by decide,show ¬(5:Int)=2 by decide,show ¬(5:Int)=6 by decide,show ¬(5:Int)=3 by decide,show ¬(5:Int)=4 by decide,if_false,if_true]
     rw [e,SR,SH,SH,S0,fI (by omega) (by omega) d0 d1 c2 c3]
     simp only [ji,if_neg c1,if_neg c4,if_neg c5,if_neg c6,if_neg c7,if_neg c8,if_neg c9,if_neg LZ]
     have g:hd (b8 (cI (k.val:Int)) dst::t)=b8 (cI (k.val:Int)) dst:=rfl
     rw [g,if_neg (by omega),if_neg (by simp [Nz]),qy u0 u1 d0 d1,j8 k (.inr (.inr h5)),if_neg (by omega),if_neg (by omega),lM u0 (by omega) d0 d1,ew]
    ·rename_i n5
     split at hs
     ·
      rename_i h6
      have hk:=ur k h6
      rw [hk] at h6 ⊢
      simp only [SG,decide_eq_true_eq] at hs
      obtain ⟨⟨hw,rfl,rfl,rfl⟩,hc⟩:=hs
      have ew:=jA hw
      simp only [fE,decide_eq_true_eq] at hc
      have e:aM 25 w dst src 0 0 0 cc=cq (decide (w=64)) dst src false++ [15,64+cc,b8 dst src]:=by
       simp [aM,show aA 25=6 from rfl]
      rw [e,SR,SH,SH,SH,S0,fI d0 d1 s0 s1 (by decide) (by decide)]
      have c1:¬64+cc=175:=by omega
      have c2:64≤64+cc∧64+cc≤79:=by omega
      simp only [ji,if_true,De,hd,List.headD_cons,List.drop_succ_cons,Tw,if_neg c1,if_pos c2]
      rw [qw d0 d1 s0 s1,lM d0 d1 s0 s1,ew]
      congr 1
      omega
     ·rename_i n6
      split at hs
      ·
       rename_i h7
       have hk:=uq k h7
       rw [hk] at h7 ⊢
       simp only [SG,decide_eq_true_eq] at hs
       obtain ⟨hw,rfl,rfl,rfl⟩:=hs
       have e:aM 26 w dst 0 base aa 0 0=cq (decide (w=64)) dst base false++((if w=8 then [15,182] else if w=16 then [15,183] else [139])++de dst base aa):=by
        simp [aM,show aA 26=7 from rfl]
       rw [e]
       rcases gB hw with rfl|rfl|rfl|rfl
       ·rw [if_pos rfl,SR,SR,SH,fI d0 d1 b0 b1 (by decide) (by decide)]
        simp only [ji,if_true,De,SH,S0]
        have g:hd (182::(de dst base aa++t))=182:=rfl
        simp only [g,List.drop_one,List.tail_cons,ja,ju,dY p0 p1,jt d0 d1,la b0 b1]
        rfl
       ·rw [if_neg (by decide),if_pos rfl,SR,SR,SH,fI d0 d1 b0 b1 (by decide) (by decide)]
        simp only [ji,if_true,De,SH,S0]
        have g:hd (183::(de dst base aa++t))=183:=rfl
        simp only [g,List.drop_one,List.tail_cons,ja,ju,dY p0 p1,jt d0 d1,la b0 b1]
        rfl
       ·rw [if_neg (by decide),if_neg (by decide),SR,SR,SH,S0,fI d0 d1 b0 b1 (by decide) (by decide)]
        simp only [ji,ja,ju,dY p0 p1,jt d0 d1,la b0 b1]
        rfl
       ·rw [if_neg (by decide),if_neg (by decide),SR,SR,SH,S0,fI d0 d1 b0 b1 (by decide) (by decide)]
        simp only [ji,ja,ju,dY p0 p1,jt d0 d1,la b0 b1]
        rfl
      ·rename_i n7
       split at hs
       ·
        rename_i h8
        have hk:=uo k h8
        rw [hk] at h8 ⊢
        simp only [SG,decide_eq_true_eq] at hs
        obtain ⟨hw,rfl,rfl,rfl⟩:=hs
        have e:aM 27 w 0 src base aa 0 0=(if w=16 then [102] else [])++(cq (decide (w=64)) src base (decide (w=8))++((if w=8 then [136] else [137])++de src base aa)):=by
         simp [aM,show aA 27=8 from rfl]
        rw [e]
        have ml:= @It src base
        rcases gB hw with rfl|rfl|rfl|rfl
        ·rw [if_neg (by decide),if_pos rfl,S0,SR,SR,SH,S0,fI s0 s1 b0 b1 (by decide) (by decide)]
         simp only [ji,ja,ju,dY p0 p1,jt s0 s1,la b0 b1]
         rfl
        ·rw [if_pos rfl,if_neg (by decide),SR,SR,SR,SH,SH,S0,S0,FD s0 s1 b0 b1 (by decide)]
         simp only [ji,ja,ju,dY p0 p1,jt s0 s1,la b0 b1,ml,and_true]
         rfl
        ·rw [if_neg (by decide),if_neg (by decide),S0,SR,SR,SH,S0,fI s0 s1 b0 b1 (by decide) (by decide)]
         simp only [ji,ja,ju,dY p0 p1,jt s0 s1,la b0 b1,ml,and_true]
         rfl
        ·rw [if_neg (by decide),if_neg (by decide),S0,SR,SR,SH,S0,fI s0 s1 b0 b1 (by decide) (by decide)]
         simp only [ji,ja,ju,dY p0 p1,jt s0 s1,la b0 b1,ml,and_true]
         rfl
       ·rename_i n8
        split at hs
        ·
         rename_i h9
         have hk:=um k h9
         rw [hk] at h9 ⊢
         simp only [SG,decide_eq_true_eq,oU] at hs
         obtain ⟨hw,rfl,rfl,rfl,rfl,rfl⟩:=hs
         have e:aM 28 w 0 0 0 0 ai 0=if w=8 then [235,ai%256] else 233::bM ai:=by
          simp [aM,show aA 28=9 from rfl]
         rw [e]
         rcases hw with rfl|⟨rfl,j0,j1⟩
         ·rw [if_neg (by decide),SH,jX (by decide) (by decide)]
          simp only [ji,dY i0 i1]
          rfl
         ·rw [if_pos rfl,SH,jX (by decide) (by decide)]
          have g:hd ([ai%256]++t)=ai%256:=rfl
          simp only [ji,g,nh j0 j1]
          rfl
        ·rename_i n9
         split at hs
         ·
          rename_i PB
          have hk:=ql k PB
          rw [hk] at PB ⊢
          simp only [SG,decide_eq_true_eq,oU] at hs
          obtain ⟨⟨hw,rfl,rfl,rfl,rfl⟩,hc⟩:=hs
          simp only [fE,decide_eq_true_eq] at hc
          have e:aM 29 w 0 0 0 0 ai cc=if w=8 then [112+cc,ai%256] else 15::(128+cc)::bM ai:=by
           simp [aM,show aA 29=10 from rfl]
          rw [e]
          rcases hw with rfl|⟨rfl,j0,j1⟩
          ·rw [if_neg (by decide),SH,SH,jX (by decide) (by decide)]
           have g:hd ((128+cc)::(bM ai++t))=128+cc:=rfl
           simp only [ji,if_true,De,g,List.drop_one,List.tail_cons,dY i0 i1]
           rw [if_neg (by omega),if_neg (by omega),if_pos (by omega)]
           congr 1
           omega
          ·rw [if_pos rfl,SH,jX (by omega) (by omega)]
           have g:hd ([ai%256]++t)=ai%256:=rfl
           simp only [ji,g,nh j0 j1]
           rw [if_neg (by omega),if_neg (by omega),if_pos (by omega)]
           congr 1
           omega
         ·rename_i n10
          split at hs
          ·rename_i P6
           simp only [decide_eq_true_eq] at hs
           obtain ⟨rfl,rfl,rfl,rfl,rfl,rfl,rfl⟩:=hs
           rcases qk k P6 with hk|hk<;>rw [hk]
           ·have e:aM 30 0 0 0 0 0 0 0= [195]:=rfl
            rw [e,SH,jX (by decide) (by decide)]
            rfl
           ·have e:aM 31 0 0 0 0 0 0 0= [15,5]:=rfl
            rw [e,SH,jX (by decide) (by decide)]
            rfl
          ·cases hs
theorem gY {d:Int} (h0:0≤d) (h1:d≤15):∃n:Fin 16,d=(n.val:Int):=⟨⟨d.toNat,by omega⟩,by simp;omega⟩
theorem AA {r m:Int} (r0:0≤r) (r1:r≤15) (m0:0≤m) (m1:m≤15):(T8.i8.wrap ((Sy 8 (T8.i8.wrap ((Sy 8 r|||Sy 8 m).toNat:Int))&&&Sy 8 8).toNat:Int) !=0)=decide (8≤r∨8≤m):=by
 obtain ⟨n,rfl⟩:=gY r0 r1
 obtain ⟨k,rfl⟩:=gY m0 m1
 clear r0 r1 m0 m1
 revert n k
 decide+kernel
theorem fF {r:Int} (r0:0≤r) (r1:r≤15):bA r=true:=by simp [bA,r0,r1]
theorem D2 {r m:Int} (r0:0≤r) (r1:r≤15) (m0:0≤m) (m1:m≤15):T8.u8.wrap ((Sy 8 (T8.u8.wrap ((Sy 8 64|||Sy 8 (4*(r / 8))).toNat:Int))|||Sy 8 (m / 8)).toNat:Int)=fw false r m:=by
 obtain ⟨n,rfl⟩:=gY r0 r1
 obtain ⟨k,rfl⟩:=gY m0 m1
 clear r0 r1 m0 m1
 revert n k
 decide+kernel
theorem D1 {r m:Int} (r0:0≤r) (r1:r≤15) (m0:0≤m) (m1:m≤15):T8.u8.wrap ((Sy 8 (T8.u8.wrap ((Sy 8 (T8.u8.wrap ((Sy 8 64|||Sy 8 (4*(r / 8))).toNat:Int))|||Sy 8 (m / 8)).toNat:Int))|||Sy 8 8).toNat:Int)=fw true r m:=by
 obtain ⟨n,rfl⟩:=gY r0 r1
 obtain ⟨k,rfl⟩:=gY m0 m1
 clear r0 r1 m0 m1
 revert n k
 decide+kernel
theorem J3 (a:Int):((Sy 8 a&&&Sy 8 7).toNat:Int)=a%8:=by have:=and_ones 8 3 (by omega) a;exact this
theorem Jj {b:Int} (h:decide (b%8=4)=true):(T8.i8.wrap ((Sy 8 b&&&Sy 8 7).toNat:Int)==4)=true:=by
 rw [J3,kK];simp at h ⊢;omega
theorem Jk {b:Int} (h:decide (b%8=4)=false):(T8.i8.wrap ((Sy 8 b&&&Sy 8 7).toNat:Int)==4)=false:=by
 rw [J3,kK];simp at h ⊢;omega
theorem Ll (a:Int):a.fdiv 1=a:=by rw [TI _ (by decide)];omega
theorem JS (a:Int):a.fdiv 256=a / 256:=TI _ (by decide)
theorem Ha (a:Int):a.fdiv 65536=a / 65536:=TI _ (by decide)
theorem yQ (a:Int):a.fdiv 16777216=a / 16777216:=TI _ (by decide)
theorem na {r:Int} (r0:0≤r) (r1:r≤15):T8.u8.wrap ((Sy 8 184|||Sy 8 (T8.u8.wrap (T8.i8.wrap ((Sy 8 r&&&Sy 8 7).toNat:Int)))).toNat:Int)=184+r%8:=by
 obtain ⟨n,rfl⟩:=gY r0 r1
 clear r0 r1
 revert n
 decide+kernel
theorem bI (a b:Int):(a==b)=decide (a=b):=by
 rw [Bool.eq_iff_iff];simp
def dJ (op w dst src base aa ai cc:Int):Int:=((rO op w dst src base aa ai cc).length:Nat)
theorem rH:∀n:Fin 32,(0≤bp (n.val:Int)∧bp (n.val:Int)≤255)∧0≤cI (n.val:Int)∧cI (n.val:Int)≤7:=by decide+kernel
theorem zy {op:Int} (h:aA op≠0):(0≤bp op∧bp op≤255)∧0≤cI op∧cI op≤7:=by
 obtain ⟨n,rfl⟩:=uN h
 exact rH n
theorem GY {sh w dst src base aa ai cc:Int} (hs:iw sh w dst src base aa ai cc=true):0≤cc∧cc≤15:=by
 unfold iw at hs
 repeat' split at hs
 all_goals first|(cases hs;done)|(simp only [fE,SG,decide_eq_true_eq] at hs;omega)
def jG (l:List Int):Prop:= ∀b∈l,0≤b∧b≤255
theorem jG.nil:jG []:=by intro b hb;cases hb
theorem jG.cons {x:Int} {l:List Int} (h0:0≤x) (h1:x≤255) (h:jG l):jG (x::l):=by
 intro b hb
 rcases List.mem_cons.1 hb with e|hb
 ·subst e;exact ⟨h0,h1⟩
 ·exact h b hb
theorem jG.app {a b:List Int} (h:jG a) (k:jG b):jG (a++b):=fun x hx=>(List.mem_append.1 hx).elim (h x) (k x)
theorem jG.ite {c:Prop} [Decidable c] {a b:List Int} (h:c→jG a) (k:¬c→jG b):jG (if c then a else b):=by
 split
 ·exact h ‹_›
 ·exact k ‹_›
theorem jG.four (n:Int):jG (bM n):=by
 unfold bM
 exact .cons (by omega) (by omega) (.cons (by omega) (by omega) (.cons (by omega) (by omega) (.cons (by omega) (by omega) .nil)))
theorem jG.x6 {wd al:Bool} {r m:Int} (h1:0≤r) (h2:r≤15) (h3:0≤m) (h4:m≤15):jG (cq wd r m al):=by
 unfold cq
 refine .ite (fun _=> ?_) (fun _=> .nil)
 unfold fw
 cases wd
 ·exact .cons (by simp;omega) (by simp;omega) .nil
 ·exact .cons (by simp;omega) (by simp;omega) .nil
theorem qx (r m:Int):0≤b8 r m∧b8 r m≤255:=by unfold b8;omega
theorem jG.mem (r b n:Int):jG (de r b n):=by
 unfold de
 exact .ite (fun _=> .cons (by omega) (by omega) (.cons (by omega) (by omega) (.four n))) (fun _=> .cons (by omega) (by omega) (.four n))
theorem vL {op w dst src base aa ai cc:Int} (h:ct op w dst src base aa ai cc=true):jG (aM op w dst src base aa ai cc):=by
 obtain ⟨⟨d0,d1,s0,s1,b0,b1,p0,p1,i0,i1⟩,hs⟩:=dF h
 have Oq:aA op≠0:=by
  intro e
  rw [e] at hs
  simp [iw] at hs
 obtain ⟨⟨c0,c1⟩,n0,n1⟩:=zy Oq
 obtain ⟨k0,k1⟩:=GY hs
 have rg:=fun r m=>(qx r m).1
 have Qy:=fun r m=>(qx r m).2
 unfold aM
 refine .ite (fun _=> .app (.x6 s0 s1 d0 d1) (.cons c0 c1 (.cons (rg _ _) (Qy _ _) .nil))) fun _=> ?_
 refine .ite (fun _=> .app (.x6 d0 d1 s0 s1) (.cons (by omega) (by omega) (.cons c0 c1 (.cons (rg _ _) (Qy _ _) .nil)))) fun _=> ?_
 refine .ite (fun _=> .app (.x6 d0 d1 s0 s1) (.cons (by omega) (by omega) (.cons (by omega) (by omega) (.cons (rg _ _) (Qy _ _) .nil)))) fun _=> ?_
 refine .ite (fun _=> .ite (fun _=> .app (.x6 (by omega) (by omega) d0 d1) (.cons (by omega) (by omega) (.four _))) (fun _=> .app (.x6 (by omega) (by omega) d0 d1) (.cons c0 c1 (.cons (rg _ _) (Qy _ _) (.four _))))) fun _=> ?_
 refine .ite (fun _=> .app (.x6 (by omega) (by omega) d0 d1) (.cons c0 c1 (.cons (rg _ _) (Qy _ _) (.cons (by omega) (by omega) .nil)))) fun _=> ?_
 refine .ite (fun _=> .app (.x6 (by omega) (by omega) d0 d1) (.cons c0 c1 (.cons (rg _ _) (Qy _ _) .nil))) fun _=> ?_
 refine .ite (fun _=> .app (.x6 d0 d1 b0 b1) (.app (.ite (fun _=> .cons (by omega) (by omega) (.cons (by omega) (by omega) .nil)) fun _=> .ite (fun _=> .cons (by omega) (by omega) (.cons (by omega) (by omega) .nil)) fun _=> .cons (by omega) (by omega) .nil) (.mem _ _ _))) fun _=> ?_
 refine .ite (fun _=> .app (.ite (fun _=> .cons (by omega) (by omega) .nil) fun _=> .nil) (.app (.x6 s0 s1 b0 b1) (.app (.ite (fun _=> .cons (by omega) (by omega) .nil) fun _=> .cons (by omega) (by omega) .nil) (.mem _ _ _)))) fun _=> ?_
 refine .ite (fun _=> .ite (fun _=> .cons (by omega) (by omega) (.cons (by omega) (by omega) .nil)) fun _=> .cons (by omega) (by omega) (.four _)) fun _=> ?_
 refine .ite (fun _=> .ite (fun _=> .cons (by omega) (by omega) (.cons (by omega) (by omega) .nil)) fun _=> .cons (by omega) (by omega) (.cons (by omega) (by omega) (.four _))) fun _=> ?_
 exact .ite (fun _=> .cons (by omega) (by omega) (.cons (by omega) (by omega) .nil)) fun _=> .cons (by omega) (by omega) .nil
theorem I1:∀ {a b:List Int},(∀x∈a,0≤x∧x≤255)→(∀x∈b,0≤x∧x≤255)→(jZ (bD a)).toList=(jZ (bD b)).toList→a=b:=by
 intro a b ha hb h
 have e:∀l:List Int,(jZ (bD l)).toList=l.map fun n=>UInt8.ofNat n.toNat:=by
  intro l
  unfold jZ
  rw [ByteArray.toList_eq]
  simp [bD,byteOf,Function.comp_def]
 rw [e,e] at h
 clear e
 induction a generalizing b with
 |nil=>cases b with
  |nil=>rfl
  |cons y b=>simp at h
 |cons x a ih=>cases b with
  |nil=>simp at h
  |cons y b=>
   simp only [List.map_cons,List.cons.injEq] at h
   have h1:=ha x (by simp)
   have h2:=hb y (by simp)
   have:x=y:=by
    have:=congrArg UInt8.toNat h.1
    simp at this
    omega
   rw [this,ih (fun z hz=>ha z (by simp [hz])) (fun z hz=>hb z (by simp [hz])) h.2]
structure av where
  w:Int
  dZ:Bool
  code:Int
  r:Int
  m:Int
  aa:Int
  ai:Int
  small:Int
  eQ:Int
  fB:Int
  high:Int
def fG (b:List Int) (i:Nat):Int:=b.getD i 0
def gl (b:List Int) (i:Nat):Int:=if b.length<i+4 then 0 else xK (b.drop i)
def fR (b:List Int):Nat:=
  match b with
  | []=>0
  |a::t=>
    if a / 64=3 then 1
    else if a / 64=2 then
      if a%8=4 then (if 5≤t.length∧hd t=36 then 6 else 0) else (if 4≤t.length then 5 else 0)
    else 0
def iB (b:List Int):Int:=if fR b=0 then 0 else hd b / 8%8
def iC (b:List Int):Int:=if fR b=0 then 0 else hd b%8
def jH (b:List Int):Int:=if fR b≤1 then 0 else xK (b.drop (fR b - 4))
def iv (b:List Int):Int:=if fR b=0 then 30 else 0
def aZ (w O5 high:Int) (dZ:Bool) (code:Int) (v:List Int):av:=
  ⟨w,dZ,code,iB v+O5,iC v+high,jH v,gl v (fR v),fG v (fR v),gl v 0,dH (fG v 0),high⟩
def fU (w O5 high:Int):List Int→Option av
  | []=>none
  |c::v=>if c=15 then (match v with| []=>some (aZ w O5 high false 15 [])|d::z=>some (aZ w O5 high true d z)) else some (aZ w O5 high false c v)
def jm (h:Int):Bool:=decide (h / 16=4∧h / 2%2=0)
def fA (w:Int):List Int→Option av
  | []=>none
  |h::u=>if jm h then fU (if h / 8%2=1 then 64 else w) (h / 4%2*8) (h%2*8) u else fU w 0 0 (h::u)
def jT (b:List Int):Option av:=if hd b=102 then fA 16 (b.drop 1) else fA 32 b
def lA (s:av) (op sh:Int):XS:=
  if sh=1 then ⟨op,s.w,s.m,s.r,0,0,0,0⟩
  else if sh=2 then ⟨op,s.w,s.r,s.m,0,0,0,0⟩
  else if sh=3 then (if op=1∧184≤s.code∧s.code<192 then ⟨op,s.w,s.code%8+s.high,0,0,0,s.eQ,0⟩ else ⟨op,s.w,s.m,0,0,0,s.ai,0⟩)
  else if sh=4 then ⟨op,s.w,s.m,0,0,0,s.small,0⟩
  else if sh=5 then ⟨op,s.w,s.m,0,0,0,0,0⟩
  else if sh=6 then ⟨op,s.w,s.r,s.m,0,0,0,dH (s.code - bp op)⟩
  else if sh=7 then ⟨op,if s.dZ then (if s.code%2=1 then 16 else 8) else s.w,s.r,0,s.m,s.aa,0,0⟩
  else if sh=8 then ⟨op,if s.code=136 then 8 else s.w,0,s.r,s.m,s.aa,0,0⟩
  else if sh=9∨sh=10 then
    (if s.dZ=false∧s.code≠233 then ⟨op,8,0,0,0,0,s.fB,if sh=10 then s.code%16 else 0⟩ else ⟨op,32,0,0,0,0,s.eQ,if sh=10 then s.code%16 else 0⟩)
  else if sh=11 then ⟨op,0,0,0,0,0,0,0⟩
  else ⟨op,s.w,0,0,0,0,0,0⟩
def eA (s:av) (op:Int):XS:=lA s op (aA op)
theorem qD {wide al:Bool} {r m c w:Int} {t:List Int} (r0:0≤r) (r1:r≤15) (m0:0≤m) (m1:m≤15) (hc:¬(64≤c∧c≤79)):fA w (cq wide r m al++c::t)=fU (if wide then 64 else w) (8*(r / 8)) (8*(m / 8)) (c::t):=by
 unfold cq
 split
 ·simp only [SH,S0,fA]
  have hq:jm (fw wide r m)=true:=by
   simp only [jm,fw,decide_eq_true_eq]
   cases wide<;>simp<;>omega
  rw [if_pos hq]
  have h1:fw wide r m / 4%2*8=8*(r / 8):=by simp only [fw];cases wide<;>simp<;>omega
  have h2:fw wide r m%2*8=8*(m / 8):=by simp only [fw];cases wide<;>simp<;>omega
  have h3:(if fw wide r m / 8%2=1 then (64:Int) else w)=if wide then 64 else w:=by
   have h4:fw wide r m / 8%2=if wide then 1 else 0:=by simp only [fw];cases wide<;>simp<;>omega
   rw [h4]
   cases wide<;>simp
  rw [h1,h2,h3]
 ·rename_i h
  simp only [dN,Tz,decide_eq_true_eq,not_or,Bool.not_eq_true] at h
  have hq:¬jm c=true:=by simp only [jm,decide_eq_true_eq];omega
  have h1:r / 8=0:=by omega
  have h2:m / 8=0:=by omega
  simp only [S0,fA,if_neg hq,h1,h2,h.1.1]
  simp
theorem fH {wide al:Bool} {r m c:Int} {t:List Int} (r0:0≤r) (r1:r≤15) (m0:0≤m) (m1:m≤15) (hc:¬(64≤c∧c≤79)) (h2:c≠102):jT (cq wide r m al++c::t)=fU (if wide then 64 else 32) (8*(r / 8)) (8*(m / 8)) (c::t):=by
 unfold jT
 rw [if_neg (Fl r0 r1 m0 m1 h2),qD r0 r1 m0 m1 hc]
theorem Ef {wide al:Bool} {r m c:Int} {t:List Int} (r0:0≤r) (r1:r≤15) (m0:0≤m) (m1:m≤15) (hc:¬(64≤c∧c≤79)):jT (102::(cq wide r m al++c::t))=fU (if wide then 64 else 16) (8*(r / 8)) (8*(m / 8)) (c::t):=by
 unfold jT
 rw [if_pos (show hd (102::(cq wide r m al++c::t))=102 from rfl),List.drop_one,List.tail_cons,qD r0 r1 m0 m1 hc]
theorem jS {c:Int} {t:List Int} (hc:¬(64≤c∧c≤79)) (h2:c≠102):jT (c::t)=fU 32 0 0 (c::t):=by
 unfold jT
 have hq:¬jm c=true:=by simp only [jm,decide_eq_true_eq];omega
 rw [if_neg (by simpa [hd] using h2)]
 simp only [fA,if_neg hq]
theorem cM {w R M c:Int} {v:List Int} (hc:c≠15):fU w R M (c::v)=some (aZ w R M false c v):=by
 simp only [fU,if_neg hc]
theorem gv {w R M d:Int} {z:List Int} :fU w R M (15::d::z)=some (aZ w R M true d z):=rfl
theorem pG {r m:Int} {t:List Int} (r0:0≤r) (m0:0≤m):fR (b8 r m::t)=1:=by
 simp only [fR]
 rw [if_pos (by simp only [b8];omega)]
theorem uV {r m:Int} {t:List Int} (r0:0≤r) (m0:0≤m):iB (b8 r m::t)=r%8:=by
 simp only [iB,pG r0 m0]
 rw [if_neg (by decide)]
 simp only [hd,List.headD_cons,b8]
 omega
theorem lR {r m:Int} {t:List Int} (r0:0≤r) (m0:0≤m):iC (b8 r m::t)=m%8:=by
 simp only [iC,pG r0 m0]
 rw [if_neg (by decide)]
 simp only [hd,List.headD_cons,b8]
 omega
theorem uW {r b aa:Int} {t:List Int} :fR (de r b aa++t)=if b%8=4 then 6 else 5:=by
 unfold de
 split
 ·rename_i h
  simp only [SH,fR]
  rw [if_neg (by omega),if_pos (by omega),if_pos (by omega),if_pos (by simp [bM,hd])]
 ·rename_i h
  simp only [SH,fR]
  rw [if_neg (by omega),if_pos (by omega),if_neg (by omega),if_pos (by simp [bM])]
theorem AB {r b aa:Int} {t:List Int} :iB (de r b aa++t)=r%8:=by
 simp only [iB,uW,ja]
 rw [if_neg (by split<;>decide)]
 omega
theorem AE {r b aa:Int} {t:List Int} :iC (de r b aa++t)=b%8:=by
 simp only [iC,uW,ja]
 rw [if_neg (by split<;>decide)]
 omega
theorem AD {r b aa:Int} {t:List Int} (h0: -2147483648≤aa) (h1:aa≤2147483647):jH (de r b aa++t)=aa:=by
 simp only [jH,uW]
 rw [if_neg (by split<;>decide)]
 unfold de
 split
 ·simp only [SH,List.drop_succ_cons,Tw]
  exact dY h0 h1
 ·simp only [SH,List.drop_succ_cons,Tw]
  exact dY h0 h1
theorem ug {n:Int} {t:List Int} (h0: -2147483648≤n) (h1:n≤2147483647):gl (bM n++t) 0=n:=by
 simp only [gl,Tw]
 rw [if_neg (by simp [bM]),dY h0 h1]
theorem DE {x n:Int} {t:List Int} (h0: -2147483648≤n) (h1:n≤2147483647):gl (x::(bM n++t)) 1=n:=by
 simp only [gl,List.drop_succ_cons,Tw]
 rw [if_neg (by simp [bM]),dY h0 h1]
theorem CN {r:Int} (r0:0≤r) (r1:r≤15):r%8+8*(r / 8)=r:=by omega
theorem Eg {op w dst src base aa ai cc:Int} (h:ct op w dst src base aa ai cc=true) (t:List Int):∃s,jT (aM op w dst src base aa ai cc++t)=some s∧eA s op=⟨op,w,dst,src,base,aa,ai,cc⟩:=by
 obtain ⟨⟨d0,d1,s0,s1,b0,b1,p0,p1,i0,i1⟩,hs⟩:=dF h
 have Oq:aA op≠0:=by
  intro e
  rw [e] at hs
  simp [iw] at hs
 obtain ⟨k,rfl⟩:=uN Oq
 unfold iw at hs
 split at hs
 ·rename_i Rz
  simp only [SG,decide_eq_true_eq] at hs
  obtain ⟨hw,rfl,rfl,rfl,rfl⟩:=hs
  have ew:=jA hw
  rcases Rz with h1|h1
  ·
   obtain ⟨c1,c2,c3,c4,c5,c6,c7,c8,c9,LZ,Nb⟩:=rI k h1
   have e:aM (k.val:Int) w dst src 0 0 0 0=cq (decide (w=64)) src dst false++ [bp (k.val:Int),b8 src dst]:=by simp only [aM,h1,if_true]
   rw [e,SR,SH,SH,S0,fH s0 s1 d0 d1 c2 c3,cM c1]
   refine ⟨_,rfl,?_⟩
   simp only [eA,h1,lA,if_true,aZ,uV s0 d0,lR s0 d0,CN s0 s1,CN d0 d1,ew]
  ·
   have hk:(k.val:Int)=16:=by
    have:=hP (op:=(k.val:Int)) (by omega)
    revert h1
    rcases this with e|e|e|e|e|e|e|e|e|e|e|e|e|e|e|e|e|e|e|e|e|e|e|e|e|e|e|e|e|e|e|e<;>rw [e]<;>decide
   rw [hk]
   have e:aM 16 w dst src 0 0 0 0=cq (decide (w=64)) dst src false++ [15,175,b8 dst src]:=by
    simp only [aM,show aA 16=2 from rfl,show bp 16=175 from rfl,if_true,show ¬(2:Int)=1 by decide,if_false]
   rw [e,SR,SH,SH,SH,S0,fH d0 d1 s0 s1 (by decide) (by decide),gv]
   refine ⟨_,rfl,?_⟩
   simp only [eA,show aA 16=2 from rfl,lA,if_true,show ¬(2:Int)=1 by decide,if_false,aZ,uV d0 s0,lR d0 s0,CN s0 s1,CN d0 d1,ew]
 ·rename_i Q6
  have n1:¬aA (k.val:Int)=1:=fun e=>Q6 (.inl e)
  have n2:¬aA (k.val:Int)=2:=fun e=>Q6 (.inr e)
  split at hs
  ·
   rename_i h3
   simp only [SG,decide_eq_true_eq] at hs
   obtain ⟨hw,rfl,rfl,rfl,rfl⟩:=hs
   have ew:=jA hw
   by_cases hm:(k.val:Int)=1∧w=32
   ·obtain ⟨hm,rfl⟩:=hm
    have e:aM (k.val:Int) 32 dst 0 0 0 ai 0=cq false 0 dst false++((184+dst%8)::bM ai):=by
     rw [hm]
     simp [aM,show aA 1=3 from rfl]
    rw [e,SR,SH,fH (by omega) (by omega) d0 d1 (by omega) (by omega),cM (by omega)]
    refine ⟨_,rfl,?_⟩
    rw [hm]
    simp only [eA,show aA 1=3 from rfl,lA,show ¬(3:Int)=1 by decide,show ¬(3:Int)=2 by decide,if_false,if_true,aZ,ug i0 i1,true_and,Tq]
    rw [if_pos (by omega)]
    congr 1
    omega
   ·obtain ⟨c1,c2,c3,c4,c5,c6,c7,c8,c9,LZ,Nb,Nz,u0,u1⟩:=ib k (.inl h3)
    have e:aM (k.val:Int) w dst 0 0 0 ai 0=cq (decide (w=64)) 0 dst false++(bp (k.val:Int)::b8 (cI (k.val:Int)) dst::bM ai):=by
     simp only [aM,h3,if_neg hm,show ¬(3:Int)=1 by decide,show ¬(3:Int)=2 by decide,show ¬(3:Int)=6 by decide,if_false,if_true]
    rw [e,SR,SH,SH,fH (by omega) (by omega) d0 d1 c2 c3,cM c1]
    refine ⟨_,rfl,?_⟩
    have c4':¬((k.val:Int)=1∧184≤bp (k.val:Int)∧bp (k.val:Int)<192):=by omega
    simp only [eA,h3,lA,show ¬(3:Int)=1 by decide,show ¬(3:Int)=2 by decide,if_false,if_true,aZ,if_neg c4',pG u0 d0,lR u0 d0,DE i0 i1,CN d0 d1,ew]
  ·rename_i n3
   split at hs
   ·
    rename_i h4
    simp only [SG,decide_eq_true_eq] at hs
    obtain ⟨hw,rfl,rfl,rfl,rfl,j0,j1⟩:=hs
    have ew:=jA hw
    have Nf:=kh hw
    obtain ⟨c1,c2,c3,c4,c5,c6,c7,c8,c9,LZ,Nb,Nz,u0,u1⟩:=ib k (.inr (.inl h4))
    have e:aM (k.val:Int) w dst 0 0 0 ai 0=cq (decide (w=64)) 0 dst false++ [bp (k.val:Int),b8 (cI (k.val:Int)) dst,ai%256]:=by
     simp only [aM,h4,show ¬(4:Int)=1 by decide,show ¬(4:Int)=2 by decide,show ¬(4:Int)=6 by decide,show ¬(4:Int)=3 by decide,if_false,if_true]
    rw [e,SR,SH,SH,SH,S0,fH (by omega) (by omega) d0 d1 c2 c3,cM c1]
    refine ⟨_,rfl,?_⟩
    have g:fG (b8 (cI (k.val:Int)) dst::ai%256::t) 1=ai:=by
     show ai%256=ai
     omega
    simp only [eA,h4,lA,show ¬(4:Int)=1 by decide,show ¬(4:Int)=2 by decide,show ¬(4:Int)=3 by decide,if_false,if_true,aZ,pG u0 d0,lR u0 d0,g,CN d0 d1,ew]
   ·rename_i n4
    split at hs
    ·
     rename_i h5
     simp only [SG,decide_eq_true_eq] at hs
     obtain ⟨hw,rfl,rfl,rfl,rfl,rfl⟩:=hs
     have ew:=jA hw
     obtain ⟨c1,c2,c3,c4,c5,c6,c7,c8,c9,LZ,Nb,Nz,u0,u1⟩:=ib k (.inr (.inr h5))
     have e:aM (k.val:Int) w dst 0 0 0 0 0=cq (decide (w=64)) 0 dst false++ [bp (k.val:Int),b8 (cI (k.val:Int)) dst]:=by
      simp only [aM,h5,show ¬(5:Int)=1 by decide,show ¬(5:Int)=2 by decide,show ¬(5:Int)=6 by decide,show ¬(5:Int)=3 by decide,show ¬(5:Int)=4 by decide,if_false,if_true]
     rw [e,SR,SH,SH,S0,fH (by omega) (by omega) d0 d1 c2 c3,cM c1]
     refine ⟨_,rfl,?_⟩
     simp only [eA,h5,lA,show ¬(5:Int)=1 by decide,show ¬(5:Int)=2 by decide,show ¬(5:Int)=3 by decide,show ¬(5:Int)=4 by decide,if_false,if_true,aZ,lR u0 d0,CN d0 d1,ew]
    ·rename_i n5
     split at hs
     ·
      rename_i h6
      have hk:=ur k h6
      rw [hk] at h6 ⊢
      simp only [SG,decide_eq_true_eq] at hs
      obtain ⟨⟨hw,rfl,rfl,rfl⟩,hc⟩:=hs
      have ew:=jA hw
      simp only [fE,decide_eq_true_eq] at hc
      have e:aM 25 w dst src 0 0 0 cc=cq (decide (w=64)) dst src false++ [15,64+cc,b8 dst src]:=by
       simp [aM,show aA 25=6 from rfl]
      rw [e,SR,SH,SH,SH,S0,fH d0 d1 s0 s1 (by decide) (by decide),gv]
      refine ⟨_,rfl,?_⟩
      have g:dH (64+cc - bp 25)=cc:=by
       show dH (64+cc - 64)=cc
       simp only [dH]
       omega
      simp only [eA,show aA 25=6 from rfl,lA,show ¬(6:Int)=1 by decide,show ¬(6:Int)=2 by decide,show ¬(6:Int)=3 by decide,show ¬(6:Int)=4 by decide,show ¬(6:Int)=5 by decide,if_false,if_true,aZ,uV d0 s0,lR d0 s0,g,CN s0 s1,CN d0 d1,ew]
     ·rename_i n6
      split at hs
      ·
       rename_i h7
       have hk:=uq k h7
       rw [hk] at h7 ⊢
       simp only [SG,decide_eq_true_eq] at hs
       obtain ⟨hw,rfl,rfl,rfl⟩:=hs
       have e:aM 26 w dst 0 base aa 0 0=cq (decide (w=64)) dst base false++((if w=8 then [15,182] else if w=16 then [15,183] else [139])++de dst base aa):=by
        simp [aM,show aA 26=7 from rfl]
       rw [e]
       have PG:∀(lw R:Int) (dZ:Bool) (code:Int),(if dZ then (if code%2=1 then (16:Int) else 8) else R)=lw→eA (aZ R (8*(dst / 8)) (8*(base / 8)) dZ code (de dst base aa++t)) 26=⟨26,lw,dst,0,base,aa,0,0⟩:=by
        intro lw R dZ code hl
        simp only [eA,show aA 26=7 from rfl,lA,show ¬(7:Int)=1 by decide,show ¬(7:Int)=2 by decide,show ¬(7:Int)=3 by decide,show ¬(7:Int)=4 by decide,show ¬(7:Int)=5 by decide,show ¬(7:Int)=6 by decide,if_false,if_true,aZ,AB,AE,AD p0 p1,CN d0 d1,CN b0 b1,hl]
       rcases gB hw with rfl|rfl|rfl|rfl
       ·rw [if_pos rfl,SR,SR,SH,fH d0 d1 b0 b1 (by decide) (by decide),SH,S0,gv]
        exact ⟨_,rfl,PG _ _ _ _ (by decide)⟩
       ·rw [if_neg (by decide),if_pos rfl,SR,SR,SH,fH d0 d1 b0 b1 (by decide) (by decide),SH,S0,gv]
        exact ⟨_,rfl,PG _ _ _ _ (by decide)⟩
       ·rw [if_neg (by decide),if_neg (by decide),SR,SR,SH,S0,fH d0 d1 b0 b1 (by decide) (by decide),cM (by decide)]
        exact ⟨_,rfl,PG _ _ _ _ (by decide)⟩
       ·rw [if_neg (by decide),if_neg (by decide),SR,SR,SH,S0,fH d0 d1 b0 b1 (by decide) (by decide),cM (by decide)]
        exact ⟨_,rfl,PG _ _ _ _ (by decide)⟩
      ·rename_i n7
       split at hs
       ·
        rename_i h8
        have hk:=uo k h8
        rw [hk] at h8 ⊢
        simp only [SG,decide_eq_true_eq] at hs
        obtain ⟨hw,rfl,rfl,rfl⟩:=hs
        have e:aM 27 w 0 src base aa 0 0=(if w=16 then [102] else [])++(cq (decide (w=64)) src base (decide (w=8))++((if w=8 then [136] else [137])++de src base aa)):=by
         simp [aM,show aA 27=8 from rfl]
        rw [e]
        have CX:∀(lw R:Int) (code:Int),(if code=136 then (8:Int) else R)=lw→eA (aZ R (8*(src / 8)) (8*(base / 8)) false code (de src base aa++t)) 27=⟨27,lw,0,src,base,aa,0,0⟩:=by
         intro lw R code hl
         simp only [eA,show aA 27=8 from rfl,lA,show ¬(8:Int)=1 by decide,show ¬(8:Int)=2 by decide,show ¬(8:Int)=3 by decide,show ¬(8:Int)=4 by decide,show ¬(8:Int)=5 by decide,show ¬(8:Int)=6 by decide,show ¬(8:Int)=7 by decide,if_false,if_true,aZ,AB,AE,AD p0 p1,CN s0 s1,CN b0 b1,hl]
        rcases gB hw with rfl|rfl|rfl|rfl
        ·rw [if_neg (by decide),if_pos rfl,S0,SR,SR,SH,S0,fH s0 s1 b0 b1 (by decide) (by decide),cM (by decide)]
         exact ⟨_,rfl,CX _ _ _ (by decide)⟩
        ·rw [if_pos rfl,if_neg (by decide),SR,SR,SR,SH,SH,S0,S0,Ef s0 s1 b0 b1 (by decide),cM (by decide)]
         exact ⟨_,rfl,CX _ _ _ (by decide)⟩
        ·rw [if_neg (by decide),if_neg (by decide),S0,SR,SR,SH,S0,fH s0 s1 b0 b1 (by decide) (by decide),cM (by decide)]
         exact ⟨_,rfl,CX _ _ _ (by decide)⟩
        ·rw [if_neg (by decide),if_neg (by decide),S0,SR,SR,SH,S0,fH s0 s1 b0 b1 (by decide) (by decide),cM (by decide)]
         exact ⟨_,rfl,CX _ _ _ (by decide)⟩
       ·rename_i n8
        have k1:∀ {n:Int},9≤n→¬n=1:=fun h=>by omega
        split at hs
        ·
         rename_i h9
         have hk:=um k h9
         rw [hk] at h9 ⊢
         simp only [SG,decide_eq_true_eq,oU] at hs
         obtain ⟨hw,rfl,rfl,rfl,rfl,rfl⟩:=hs
         have e:aM 28 w 0 0 0 0 ai 0=if w=8 then [235,ai%256] else 233::bM ai:=by
          simp [aM,show aA 28=9 from rfl]
         rw [e]
         rcases hw with rfl|⟨rfl,j0,j1⟩
         ·rw [if_neg (by decide),SH,jS (by decide) (by decide),cM (by decide)]
          refine ⟨_,rfl,?_⟩
          simp [eA,show aA 28=9 from rfl,lA,aZ,ug i0 i1]
         ·rw [if_pos rfl,SH,jS (by decide) (by decide),cM (by decide)]
          refine ⟨_,rfl,?_⟩
          have g:dH (fG ([ai%256]++t) 0)=ai:=nh j0 j1
          simp [eA,show aA 28=9 from rfl,lA,aZ]
          exact g
        ·rename_i n9
         split at hs
         ·
          rename_i PB
          have hk:=ql k PB
          rw [hk] at PB ⊢
          simp only [SG,decide_eq_true_eq,oU] at hs
          obtain ⟨⟨hw,rfl,rfl,rfl,rfl⟩,hc⟩:=hs
          simp only [fE,decide_eq_true_eq] at hc
          have e:aM 29 w 0 0 0 0 ai cc=if w=8 then [112+cc,ai%256] else 15::(128+cc)::bM ai:=by
           simp [aM,show aA 29=10 from rfl]
          rw [e]
          rcases hw with rfl|⟨rfl,j0,j1⟩
          ·rw [if_neg (by decide),SH,SH,jS (by decide) (by decide),gv]
           refine ⟨_,rfl,?_⟩
           simp [eA,show aA 29=10 from rfl,lA,aZ,ug i0 i1]
           omega
          ·rw [if_pos rfl,SH,jS (by omega) (by omega),cM (by omega)]
           refine ⟨_,rfl,?_⟩
           have g:dH (fG ([ai%256]++t) 0)=ai:=nh j0 j1
           have g2:¬112+cc=233:=by omega
           simp only [eA,show aA 29=10 from rfl,lA,aZ,g]
           simp [g2]
           omega
         ·rename_i n10
          split at hs
          ·rename_i P6
           simp only [decide_eq_true_eq] at hs
           obtain ⟨rfl,rfl,rfl,rfl,rfl,rfl,rfl⟩:=hs
           rcases qk k P6 with hk|hk<;>rw [hk]
           ·have e:aM 30 0 0 0 0 0 0 0= [195]:=rfl
            rw [e,SH,jS (by decide) (by decide),cM (by decide)]
            exact ⟨_,rfl,rfl⟩
           ·have e:aM 31 0 0 0 0 0 0 0= [15,5]:=rfl
            rw [e,SH,SH,jS (by decide) (by decide),gv]
            exact ⟨_,rfl,rfl⟩
          ·cases hs
theorem lk {d:Int} (h0:0≤d) (h1:d≤255):∃n:Fin 256,d=(n.val:Int):=⟨⟨d.toNat,by omega⟩,by simp;omega⟩
theorem CX {d:Int} (h0:0≤d) (h1:d≤7):∃n:Fin 8,d=(n.val:Int):=⟨⟨d.toNat,by omega⟩,by simp;omega⟩
theorem Ig (x y:Nat) (h:y<256):(x*256)|||y=x*256+y:=by
 rw [show x*256=x<<<8 by rw [Nat.shiftLeft_eq]]
 exact (Nat.shiftLeft_add_eq_or_of_lt (i:=8) h x).symm
theorem HE {x y:Int} (x0: -36028797018963968≤x) (x1:x<36028797018963968) (y0:0≤y) (y1:y<256):((Sy 64 (x*256)|||Sy 64 y).toNat:Int)=(x*256+y)%18446744073709551616:=by
 rw [BitVec.toNat_or,BitVec.toNat_ofInt,BitVec.toNat_ofInt]
 have hy:(y%((2^64:Nat):Int)).toNat=y.toNat:=by congr 1;omega
 have hx:((x*256)%((2^64:Nat):Int)).toNat=(x%72057594037927936).toNat*256:=by omega
 rw [hx,hy,Ig _ _ (by omega)]
 omega
theorem Ap {x y:Int} (x0:0≤x) (x1:x<36028797018963968) (y0:0≤y) (y1:y<256):T8.u64.wrap ((Sy 64 (T8.u64.wrap (x*256))|||Sy 64 (T8.u64.wrap y)).toNat:Int)=x*256+y:=by
 have e1:T8.u64.wrap (x*256)=x*256:=by rw [dR];omega
 have e2:T8.u64.wrap y=y:=by rw [dR];omega
 rw [e1,e2,HE (by omega) x1 y0 y1,dR]
 omega
theorem ye {x y:Int} (x0: -36028797018963968≤x) (x1:x<36028797018963968) (y0:0≤y) (y1:y<256):T8.i64.wrap ((Sy 64 (T8.i64.wrap (x*256))|||Sy 64 (T8.i64.wrap y)).toNat:Int)=x*256+y:=by
 have e1:T8.i64.wrap (x*256)=x*256:=by rw [cD];omega
 have e2:T8.i64.wrap y=y:=by rw [cD];omega
 rw [e1,e2,HE x0 x1 y0 y1,cD]
 omega
theorem Ie {y:Int} (y0:0≤y) (y1:y<256):T8.u64.wrap ((Sy 64 0|||Sy 64 (T8.u64.wrap y)).toNat:Int)=y:=by
 have:=Ap (x:=0) (y:=y) (by omega) (by omega) y0 y1
 simpa [dR] using this
theorem Ku {x y:Int} (x0:0≤x) (x1:x≤7) (hy:y=0∨y=8):T8.i8.wrap ((Sy 8 x|||Sy 8 y).toNat:Int)=x+y:=by
 obtain ⟨n,rfl⟩:=CX x0 x1
 clear x0 x1
 rcases hy with rfl|rfl<;>(revert n;decide+kernel)
def fO (l:List Int):Prop:= ∀x∈l,0≤x∧x≤255
theorem gy:fO []:=fun _ h=>by cases h
theorem ek {a:Int} {l:List Int} :fO (a::l)↔(0≤a∧a≤255)∧fO l:=by simp [fO]
theorem aN (l:List Int):(bD l).length=l.length:=by simp [bD]
theorem IP {b:List Int} {i:Int} (h0:0≤i) (h1:i<((bD b).length:Int)):(bD b)[i.toNat]? =some (.int .u8 (fG b i.toNat)):=by
 rw [aN] at h1
 simp only [bD,List.getElem?_map,fG,SK]
 have:i.toNat<b.length:=by omega
 simp [this]
theorem wF {b:List Int} {i:Int} (h:((bD b).length:Int)≤i):fG b i.toNat=0:=by
 rw [aN] at h
 simp only [fG,SK]
 rw [SN (by omega)]
 rfl
theorem Fz (a:Int):a.fdiv 64=a / 64:=TI _ (by decide)
theorem HM {v:Int} (h:v / 64=3):(v.fdiv 64==3)=true:=by rw [Fz,h];rfl
theorem pR {v:Int} (h:v / 64=2):(v.fdiv 64==3)=false:=by rw [Fz,h];rfl
theorem Gf {v:Int} (h:v / 64<2):(v.fdiv 64==3)=false:=by rw [Fz,beq_eq_false_iff_ne];omega
theorem pU {v:Int} (h:v / 64=2):(v.fdiv 64==2)=true:=by rw [Fz,h];rfl
theorem HN {v:Int} (h:v / 64<2):(v.fdiv 64==2)=false:=by rw [Fz,beq_eq_false_iff_ne];omega
theorem yF (v:Int):T8.i8.wrap (T8.u8.wrap ((Sy 8 v&&&Sy 8 7).toNat:Int))=v%8:=by
 rw [BitVec.toNat_and,BitVec.toNat_ofInt,BitVec.toNat_ofInt]
 have e:(v%((2^8:Nat):Int)).toNat&&&(7%((2^8:Nat):Int)).toNat=(v%256).toNat%8:=by
  have:(7%((2^8:Nat):Int)).toNat=2^3 - 1:=by decide
  rw [this,Nat.and_two_pow_sub_one_eq_mod]
  rfl
 rw [e,dD,kK]
 omega
theorem Ir {v:Int} (v0:0≤v) (v1:v≤255):T8.i8.wrap (T8.u8.wrap ((Sy 8 (v.fdiv 8)&&&Sy 8 7).toNat:Int))=v / 8%8:=by
 rw [yF,TI _ (by decide)]
theorem yG {v:Int} (h:v%8=4):(T8.i8.wrap (T8.u8.wrap ((Sy 8 v&&&Sy 8 7).toNat:Int))==4)=true:=by rw [yF,h];rfl
theorem Fb {v:Int} (h:¬v%8=4):(T8.i8.wrap (T8.u8.wrap ((Sy 8 v&&&Sy 8 7).toNat:Int))==4)=false:=by rw [yF,beq_eq_false_iff_ne];exact h
def da (s:av):D:= .agg [.int .i8 s.w,.bool s.dZ,.int .u8 s.code,.int .i8 s.r,.int .i8 s.m,.int .i64 s.aa,.int .i64 s.ai,.int .i64 s.small,.int .i64 s.eQ,.int .i64 s.fB,.int .i8 s.high]
theorem Ed {v:List Int} (hv:fO v) (i:Nat):0≤fG v i∧fG v i≤255:=by
 simp only [fG,SK]
 cases e:v[i]? with
 |none=>simp
 |some x=>exact hv x (List.mem_of_getElem? e)
theorem w6 {v:List Int} (hv:fO v):0≤hd v∧hd v≤255:=by
 cases v with
 |nil=>simp [hd]
 |cons a t=>exact hv a (by simp)
theorem sN {v:List Int} (hv:fO v):0≤iB v∧iB v≤7:=by
 have:=w6 hv
 unfold iB
 split<;>omega
theorem sO {v:List Int} (hv:fO v):0≤iC v∧iC v≤7:=by
 have:=w6 hv
 unfold iC
 split<;>omega
theorem gw {v:List Int} (hv:fO v) {y:Int} (hy:y=0∨y=8):T8.i8.wrap ((Sy 8 (iB v)|||Sy 8 y).toNat:Int)=iB v+y:=Ku (sN hv).1 (sN hv).2 hy
theorem gx {v:List Int} (hv:fO v) {y:Int} (hy:y=0∨y=8):T8.i8.wrap ((Sy 8 (iC v)|||Sy 8 y).toNat:Int)=iC v+y:=Ku (sO hv).1 (sO hv).2 hy
theorem ey {v:List Int} (hv:fO v) {h:Int} :T8.i8.wrap ((Sy 8 (iB v)|||Sy 8 (h / 4%2*8)).toNat:Int)=iB v+h / 4%2*8:=gw hv (by omega)
theorem ez {v:List Int} (hv:fO v) {h:Int} :T8.i8.wrap ((Sy 8 (iC v)|||Sy 8 (h%2*8)).toNat:Int)=iC v+h%2*8:=gx hv (by omega)
theorem dp {v:List Int} (h:¬iv v=0):fR v=0:=by
 unfold iv at h
 split at h
 ·assumption
 ·simp at h
theorem cH {v:List Int} (hv:fO v) (i:Nat):T8.i64.wrap (fG v i)=fG v i:=by
 have:=Ed hv i
 rw [cD];omega
theorem dn {v:List Int} (i:Nat):T8.i64.wrap (T8.i8.wrap (fG v i))=dH (fG v i):=by
 rw [cD,kK,dH];omega
def mi (w high:Int):av:=⟨w,false,0,0,0,0,0,0,0,0,high⟩
theorem IA {c h:Int} (c0:0≤c) (c1:c≤255) (hh:h=0∨h=8):T8.i8.wrap ((Sy 8 (T8.i8.wrap (T8.u8.wrap ((Sy 8 c&&&Sy 8 7).toNat:Int)))|||Sy 8 h).toNat:Int)=c%8+h:=by
 rw [yF]
 exact Ku (by omega) (by omega) hh
theorem AJ {c:Int} (c0:0≤c) (c1:c≤255):T8.i8.wrap (T8.u8.wrap ((Sy 8 c&&&Sy 8 15).toNat:Int))=c%16:=by
 obtain ⟨n,rfl⟩:=lk c0 c1
 clear c0 c1
 revert n
 decide+kernel
theorem Gh {c:Int} (c0:0≤c) (c1:c≤255):T8.i8.wrap (8*2^(min (T8.u8.wrap ((Sy 8 c&&&Sy 8 1).toNat:Int)).toNat 8))=if c%2=1 then 16 else 8:=by
 obtain ⟨n,rfl⟩:=lk c0 c1
 clear c0 c1
 revert n
 decide+kernel
end Go.Ev
