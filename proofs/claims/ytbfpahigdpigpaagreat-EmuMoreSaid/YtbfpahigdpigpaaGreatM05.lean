import Derived.ChangeKeysEq
import Derived.KernelRfl
import Derived.Test.YtbfpahigdpigpaaGreatProg
import Derived.Laws.Strings
import Derived.Test.YtbfpahigdpigpaaGreatM01
import Derived.Test.YtbfpahigdpigpaaGreatM02
import Derived.Test.YtbfpahigdpigpaaGreatM04
/- Contracts and plain laws that a statement's proof leans on (texts merged:EvU,MdC,di,MdZ,MdP1,MdP2). -/
set_option linter.unusedVariables false
set_option linter.unusedSimpArgs false
namespace Go.Ev
open Go Go.RowKit
def rj (P:Program) (one:TypeId→Option (List LK)):List Field→Nat→Option (List LK)
  | [],_=>some []
  |f::r,off=>match !(f.name== "_")&&Nat.beq f.offset off with
    |true=>match one f.type with
      |some ks=>match Nat.beq ks.length (P.cellsOf f.type)&&Nat.blt 0 ks.length with
        |true=>match rj P one r (off+ks.length) with
          |some l=>some (ks++l)
          |none=>none
        |false=>none
      |none=>none
    |false=>none
def pB:Nat→List LK→List LK
  |0,_=> []
  |n+1,l=>l++pB n l
def ic (P:Program):Nat→TypeId→Option (List LK)
  |0,_=>none
  |d+1,t=>match P.underlying t with
    |some .bool=>some [.bool]
    |some (.int k)=>some [.int k]
    |some .string=>some [.str]
    |some (.struct fs)=>match P.stoodInHeld t with
      |false=>rj P (ic P d) fs.toList 0
      |true=>none
    |some (.array n e)=>match ic P d e,P.info? e with
      |some ks,some _=>match Nat.beq ks.length (P.cellsOf e)&&Nat.blt 0 ks.length with|true=>some (pB n ks)|false=>none
      |_,_=>none
    |_=>none
def wF (P:Program) (t:TypeId) (l:List Value):Value:=match P.underlying t with
  |some e=>match cA e with
    |true=> .agg l.toArray
    |false=>l.headD .nilFunc
  |none=> .nilFunc
theorem bK:∀ {ks:List LK} {l:List Value},cr ks l→l.length=ks.length
 | [],[],_=>rfl
 |_::_,[],h=>h.elim
 | [],_::_,h=>h.elim
 |k::ks,v::l,h=>by simp [bK h.2]
theorem eV:∀ {ks ks':List LK} {l:List Value},cr (ks++ks') l→cr ks (l.take ks.length)∧cr ks' (l.drop ks.length)
 | [],ks',l,h=>⟨by simp [cr],by simpa using h⟩
 |k::ks,ks',[],h=>h.elim
 |k::ks,ks',v::l,h=>by
  obtain ⟨h1,h2⟩:=h
  obtain ⟨a,b⟩:=eV h2
  exact ⟨⟨h1,a⟩,b⟩
theorem iH:∀(n:Nat) (l m:List Value),n≤l.length→n≤m.length→b9 l m=(b9 (l.take n) (m.take n)&&b9 (l.drop n) (m.drop n))
 |0,l,m,_,_=>by simp [b9]
 |n+1,[],m,h,_=>by simp at h
 |n+1,_::_,[],_,h=>by simp at h
 |n+1,a::l,b::m,h,k=>by
  simp only [List.take_succ_cons,List.drop_succ_cons,b9]
  rw [iH n l m (by simpa using h) (by simpa using k),Bool.and_assoc]
section
variable {P:Program}
def GA (P:Program) (d:Nat) (t:TypeId) (ks:List LK):Prop:=
  ∀(n:Nat) (l m:List Value) (w:World),cr ks l→cr ks m→(Op.equalIn (n+d) t (wF P t l) (wF P t m)).run P w= .ok (b9 l m) w
theorem jv {t:TypeId} {e:TypeDesc} (hu:P.underlying t=some e) {xs:Array Value} {off:Nat} {n:Nat} (hn:n=P.cellsOf t) (hone:cA e=false→n=1) (hl:off+n≤xs.size) (w:World):
  (part t xs off).run P w= .ok (wF P t ((xs.toList.drop off).take n)) w:=by
 simp only [wF,hu]
 cases ha:cA e with
 |true=>
  simp only
  rw [mh hu ha xs off w]
  congr 2
  subst hn
  apply Array.ext'
  simp [Array.toList_extract,List.extract_eq_take_drop]
 |false=>
  simp only
  have h1:=hone ha
  subst h1
  have hlt:off<xs.size:=by omega
  rw [mg hu ha (v:=xs[off]) (by simp [hlt]) w]
  congr 1
  rw [List.headD_eq_head?_getD,List.head?_take]
  simp [hlt]
theorem k8 {d:Nat} {t:TypeId} {ks:List LK} (h:ic P d t=some ks):∃e,P.underlying t=some e∧(cA e=false→ks.length=1):=by
 cases d with
 |zero=>simp [ic] at h
 |succ d=>
  unfold ic at h
  split at h
  ·rename_i hu;exact ⟨_,hu,fun _=>by cases h;rfl⟩
  ·rename_i hu;exact ⟨_,hu,fun _=>by cases h;rfl⟩
  ·rename_i hu;exact ⟨_,hu,fun _=>by cases h;rfl⟩
  ·rename_i hu;exact ⟨_,hu,fun q=>by cases q⟩
  ·rename_i hu;exact ⟨_,hu,fun q=>by cases q⟩
  ·cases h
theorem nQ {d:Nat} (ih:∀ {t:TypeId} {ks:List LK},ic P d t=some ks→GA P d t ks) (n:Nat) (xs ys:Array Value) (w:World):∀(fs:List Field) (off:Nat) (ks:List LK),rj P (ic P d) fs off=some ks→
  cr ks (xs.toList.drop off)→cr ks (ys.toList.drop off)→(Op.eqFields (n+d) xs ys fs).run P w= .ok (b9 (xs.toList.drop off) (ys.toList.drop off)) w
 | [],off,ks,h,hx,hy=>by
  simp only [rj,Option.some.injEq] at h
  subst h
  have e1:=List.length_eq_zero_iff.1 (bK hx)
  have e2:=List.length_eq_zero_iff.1 (bK hy)
  rw [e1,e2]
  simp [Op.eqFields,b9]
 |f::fs,off,ks,h,hx,hy=>by
  simp only [rj] at h
  split at h
  ·rename_i hf
   simp only [Bool.and_eq_true,Bool.not_eq_true',beq_eq_false_iff_ne,Nat.beq_eq] at hf
   obtain ⟨hname,hoff⟩:=hf
   split at h
   ·rename_i k1 h1
    split at h
    ·rename_i hl
     rw [Bool.and_eq_true,Nat.beq_eq,Nat.blt_eq] at hl
     obtain ⟨hl,hpos⟩:=hl
     split at h
     ·rename_i k2 h2
      obtain rfl:=Option.some.inj h
      obtain ⟨a1,a2⟩:=eV hx
      obtain ⟨b1,b2⟩:=eV hy
      rw [List.drop_drop] at a2 b2
      have lx:off+k1.length≤xs.size:=by
       have:=bK hx
       simp at this
       omega
      have ly:off+k1.length≤ys.size:=by
       have:=bK hy
       simp at this
       omega
      obtain ⟨e,hu,hone⟩:=k8 h1
      have hih:=ih h1 n _ _ w a1 b1
      have rest:=nQ ih n xs ys w fs (off+k1.length) k2 h2 a2 b2
      unfold Op.eqFields
      rw [if_pos hname,hoff]
      simp only [Sem.run_bind,jv hu hl hone lx w,jv hu hl hone ly w,Result.andThen_ok,hih]
      have hs:=iH k1.length (xs.toList.drop off) (ys.toList.drop off) (by simp;omega) (by simp;omega)
      rw [List.drop_drop,List.drop_drop] at hs
      rw [hs]
      cases b9 ((xs.toList.drop off).take k1.length) ((ys.toList.drop off).take k1.length) with
      |true=>simpa using rest
      |false=>simp
     ·cases h
    ·cases h
   ·cases h
  ·cases h
theorem pZ {d:Nat} {e:TypeId} {ks:List LK} (hks:ic P d e=some ks) (hl:ks.length=P.cellsOf e) (hpos:0<ks.length) (ih:GA P d e ks) (n:Nat) (xs ys:Array Value) (w:World):∀(c i:Nat),
  cr (pB c ks) (xs.toList.drop (i*ks.length))→cr (pB c ks) (ys.toList.drop (i*ks.length))→(Op.eqItems (n+d) e (P.cellsOf e) xs ys (List.range' i c)).run P w= .ok (b9 (xs.toList.drop (i*ks.length)) (ys.toList.drop (i*ks.length))) w
 |0,i,hx,hy=>by
  have e1:=List.length_eq_zero_iff.1 (bK hx)
  have e2:=List.length_eq_zero_iff.1 (bK hy)
  rw [e1,e2]
  simp [Op.eqItems,b9]
 |c+1,i,hx,hy=>by
  simp only [pB] at hx hy
  obtain ⟨a1,a2⟩:=eV hx
  obtain ⟨b1,b2⟩:=eV hy
  have hm:i*ks.length+ks.length=(i+1)*ks.length:=by rw [Nat.add_mul,Nat.one_mul]
  rw [List.drop_drop,hm] at a2 b2
  have lx:i*ks.length+ks.length≤xs.size:=by
   have:=bK hx
   simp only [List.length_append,List.length_drop,Array.length_toList] at this
   omega
  have ly:i*ks.length+ks.length≤ys.size:=by
   have:=bK hy
   simp at this
   omega
  obtain ⟨e',hu,hone⟩:=k8 hks
  have hih:=ih n _ _ w a1 b1
  have rest:=pZ hks hl hpos ih n xs ys w c (i+1) a2 b2
  rw [List.range'_succ]
  unfold Op.eqItems
  rw [← hl] at rest ⊢
  simp only [Sem.run_bind,jv hu hl hone lx w,jv hu hl hone ly w,Result.andThen_ok,hih]
  have hs:=iH ks.length (xs.toList.drop (i*ks.length)) (ys.toList.drop (i*ks.length)) (by simp;omega) (by simp;omega)
  rw [List.drop_drop,List.drop_drop,hm] at hs
  rw [hs]
  cases b9 ((xs.toList.drop (i*ks.length)).take ks.length) ((ys.toList.drop (i*ks.length)).take ks.length) with
  |true=>simpa using rest
  |false=>simp
theorem pU:∀ {d:Nat} {t:TypeId} {ks:List LK},ic P d t=some ks→GA P d t ks
 |0,t,ks,h=>by simp [ic] at h
 |d+1,t,ks,h=>by
  intro n l m w hl hm
  unfold ic at h
  split at h
  ·rename_i hu
   obtain rfl:=Option.some.inj h
   have e1:=bK hl
   have e2:=bK hm
   match l,m,e1,e2 with
   | [a],[b],_,_=>
    cases a<;>simp only [cr,LK.kz,and_true,false_and,true_and] at hl
    cases b<;>simp only [cr,LK.kz,and_true,false_and,true_and] at hm
    simp only [wF,hu,cA,List.headD_cons,b9,jS,Bool.and_true]
    exact run_equalIn_bool' w (n+d) t _ _ hu
  ·rename_i k hu
   obtain rfl:=Option.some.inj h
   have e1:=bK hl
   have e2:=bK hm
   match l,m,e1,e2 with
   | [a],[b],_,_=>
    cases a<;>simp only [cr,LK.kz,and_true,false_and,true_and] at hl
    cases b<;>simp only [cr,LK.kz,and_true,false_and,true_and] at hm
    subst hl
    subst hm
    simp only [wF,hu,cA,List.headD_cons,b9,jS,Bool.and_true]
    exact run_equalIn_int w (n+d) t _ _ _ _ hu
  ·rename_i hu
   obtain rfl:=Option.some.inj h
   have e1:=bK hl
   have e2:=bK hm
   match l,m,e1,e2 with
   | [a],[b],_,_=>
    cases a<;>simp only [cr,LK.kz,and_true,false_and,true_and] at hl
    cases b<;>simp only [cr,LK.kz,and_true,false_and,true_and] at hm
    simp only [wF,hu,cA,List.headD_cons,b9,jS,Bool.and_true]
    exact run_equalIn_string w (n+d) t _ _ hu
  ·rename_i fs hu
   split at h
   ·rename_i hst
    have hf:P.fieldsOf t=fs:=by simp [Program.fieldsOf,hu]
    simp only [wF,hu,cA]
    rw [show n+(d+1)=(n+d)+1 by omega,run_equalIn_struct w (n+d) t _ _ (by rw [hf];exact hu) hst,hf]
    have:=nQ (fun h=>pU h) n l.toArray m.toArray w fs.toList 0 ks h (by simpa using hl) (by simpa using hm)
    simpa using this
   ·cases h
  ·rename_i c e hu
   split at h
   ·rename_i k1 i h1 hi
    split at h
    ·rename_i hlen
     rw [Bool.and_eq_true,Nat.beq_eq,Nat.blt_eq] at hlen
     obtain ⟨hlen,hpos⟩:=hlen
     obtain rfl:=Option.some.inj h
     simp only [wF,hu,cA]
     rw [show n+(d+1)=(n+d)+1 by omega,run_equalIn_array w (n+d) _ _ hu hi,List.range_eq_range']
     have:=pZ h1 hlen hpos (pU h1) n l.toArray m.toArray w c 0 (by simpa using hl) (by simpa using hm)
     simpa using this
    ·cases h
   ·cases h
  ·cases h
theorem jY.of_flat {d:Nat} {t:TypeId} {ks:List LK} (hd:Nat.ble d 10000=true) (hg:P.eqGuardType P.depth t=false) (ha:(match P.underlying t with|some e=>cA e|none=>false)=true) (h:ic P d t=some ks):jY P t ks:=by
 refine ⟨hg,fun xs ys w hx hy=> ?_⟩
 have:=pU h (10000 - d) xs.toList ys.toList w hx hy
 rw [Nat.sub_add_cancel (by simpa using hd)] at this
 unfold wF at this
 split at ha
 ·rename_i e he
  simp only [he,ha] at this
  simpa using this
 ·cases ha
def Hm (P:Program) (d:Nat) (t:TypeId) (ks:List LK):Prop:=
  ∀(em:Bool) (n:Nat) (l:List Value) (w:World),cr ks l→(Instr.checkKey em (n+d) t (wF P t l)).run P w= .ok () w
theorem np:∀ {d:Nat} {t:TypeId} {ks:List LK},ic P d t=some ks→Hm P d t ks
 |0,t,ks,h=>by simp [ic] at h
 |d+1,t,ks,h=>by
  intro em n l w hl
  have plain:∀ {e:TypeDesc},P.underlying t=some e→(match e with| .bool| .int _| .string=>true|_=>false)=true→(Instr.checkKey em (n+(d+1)) t (wF P t l)).run P w= .ok () w:=by
   intro e hu he
   rw [show n+(d+1)=(n+d)+1 from rfl,Instr.checkKey]
   simp only [Sem.run_bind,run_underlying hu,Result.andThen_ok]
   cases e<;>simp only [Bool.false_eq_true] at he<;>simp
  unfold ic at h
  split at h
  ·rename_i hu;exact plain hu rfl
  ·rename_i hu;exact plain hu rfl
  ·rename_i hu;exact plain hu rfl
  ·rename_i fs hu
   split at h
   ·rename_i hst
    rw [show n+(d+1)=(n+d)+1 from rfl,Instr.checkKey]
    simp only [wF,hu,cA,Sem.run_bind,run_underlying hu,Result.andThen_ok]
    rw [← Array.forIn_toList]
    have hl':cr ks (l.toArray.toList.drop 0):=by simpa using hl
    generalize l.toArray=xs at hl' ⊢
    generalize fs.toList=L at h ⊢
    generalize 0=off at h hl'
    clear hl hu hst
    induction L generalizing off ks with
    |nil=>simp
    |cons f L ihL=>
     simp only [rj] at h
     split at h
     ·rename_i hf
      simp only [Bool.and_eq_true,Bool.not_eq_true',beq_eq_false_iff_ne,Nat.beq_eq] at hf
      obtain ⟨hname,hoff⟩:=hf
      split at h
      ·rename_i k1 h1
       split at h
       ·rename_i hlen
        rw [Bool.and_eq_true,Nat.beq_eq,Nat.blt_eq] at hlen
        obtain ⟨hlen,hpos⟩:=hlen
        split at h
        ·rename_i k2 h2
         obtain rfl:=Option.some.inj h
         obtain ⟨a1,a2⟩:=eV hl'
         rw [List.drop_drop] at a2
         have lx:off+k1.length≤xs.size:=by
          have:=bK hl'
          simp at this
          omega
         obtain ⟨e,hu,hone⟩:=k8 h1
         have hih:=np h1 em n _ w a1
         have rest:=ihL _ _ h2 a2
         simp only [List.forIn_cons,Sem.run_bind,hname,ne_eq,not_false_eq_true,if_true,Result.andThen_ok,hoff,jv hu hlen hone lx w,hih,Sem.run_pure]
         exact rest
        ·cases h
       ·cases h
      ·cases h
     ·cases h
   ·cases h
  ·rename_i c e hu
   split at h
   ·rename_i k1 i h1 hi
    split at h
    ·rename_i hlen
     rw [Bool.and_eq_true,Nat.beq_eq,Nat.blt_eq] at hlen
     obtain ⟨hlen,hpos⟩:=hlen
     obtain rfl:=Option.some.inj h
     rw [show n+(d+1)=(n+d)+1 from rfl,Instr.checkKey]
     simp only [wF,hu,cA,Sem.run_bind,run_underlying hu,Result.andThen_ok]
     simp only [Std.Legacy.Range.forIn_eq_forIn_range',Std.Legacy.Range.size,Nat.sub_zero,Nat.add_one_sub_one,Nat.div_one]
     have hl':cr (pB c k1) (l.toArray.toList.drop (0*k1.length)):=by simpa using hl
     generalize l.toArray=xs at hl' ⊢
     generalize 0=j at hl' ⊢
     clear hl hu
     have IH:=np h1 em n
     induction c generalizing j with
     |zero=>simp
     |succ c ihc=>
      simp only [pB] at hl'
      obtain ⟨a1,a2⟩:=eV hl'
      have hm:j*k1.length+k1.length=(j+1)*k1.length:=by rw [Nat.add_mul,Nat.one_mul]
      rw [List.drop_drop,hm] at a2
      have lx:j*k1.length+k1.length≤xs.size:=by
       have:=bK hl'
       simp only [List.length_append,List.length_drop,Array.length_toList] at this
       omega
      obtain ⟨e',hu',hone⟩:=k8 h1
      have hih:=IH _ w a1
      rw [List.range'_succ]
      have rest:=ihc rfl _ a2
      simp only [List.forIn_cons,Sem.run_bind,run_sizeOf w hi,Result.andThen_ok,← hlen,jv hu' hlen hone lx w,hih,Sem.run_pure]
      exact rest
    ·cases h
   ·cases h
  ·cases h
theorem vh {kd:TypeDesc} (hk:cA kd=true) (x:Array Value) (e:MapEntry) (l:List MapEntry) (i:Nat):Instr.findNow kd (.agg x) (e::l) i=none:=by
 cases kd<;>simp [cA] at hk<;>simp [Instr.findNow,Instr.sameNow]
theorem j8 {t:TypeId} {ks:List LK} (hq:jY P t ks) (x:Array Value) (hx:cr ks x.toList) (w:World):∀(l:List MapEntry) (i:Nat),(∀e∈l,∃y:Array Value,e.key= .agg y∧cr ks y.toList)→
  (Instr.findAsking t (.agg x) l i).run P w= .ok (kB x.toList l i) w
 | [],i,_=>by simp [Instr.findAsking,kB]
 |e::l,i,h=>by
  obtain ⟨y,hy,fy⟩:=h e (by simp)
  have ih:=j8 hq x hx w l (i+1) fun e' he=>h e' (by simp [he])
  have he:(Op.equal t (.agg x) e.key).run P w= .ok (b9 x.toList y.toList) w:=by
   rw [hy];exact hq.eq x y w hx fy
  simp only [Instr.findAsking,Sem.run_bind,he,Result.andThen_ok]
  simp only [kB,hy]
  cases b9 x.toList y.toList with
  |true=>simp
  |false=>simpa using ih
theorem jX.of_flat {d:Nat} {t:TypeId} {ks:List LK} (hd:Nat.ble d 10000=true) (hg:P.eqGuardType P.depth t=false) (ha:(match P.underlying t with|some e=>cA e|none=>false)=true) (h:ic P d t=some ks) (hs:lL ks=true):jX P t ks:=by
 have hq:=jY.of_flat hd hg ha h
 refine ⟨hs,fun w em xs hx=> ?_,fun w x l hx hl=> ?_⟩
 ·have:=np h em (10000 - d) xs.toList w hx
  rw [Nat.sub_add_cancel (by simpa using hd)] at this
  unfold wF at this
  split at ha
  ·rename_i e he
   simp only [he,ha] at this
   simpa using this
  ·cases ha
 ·split at ha
  ·rename_i e he
   cases l with
   |nil=>simp [Instr.findKey,run_underlying he,Instr.findNow,kB]
   |cons e0 l=>
    simp only [Instr.findKey,Sem.run_bind,run_underlying he,Result.andThen_ok,vh ha]
    exact j8 hq x hx w _ 0 hl
  ·cases ha
end
theorem cj {x y:Bool} (h:x=false):(x&&y)=false:=by simp [h]
theorem ay {x y v:Bool} (h:x=true) (k:y=v):(x&&y)=v:=by simp [h,k]
theorem HN {x c c':Int} {v:Bool} (h:decide (x<c')=v) (hc:c'=c+1):decide (x≤c)=v:=by
 subst hc;rw [← h];exact decide_eq_decide.2 (by omega)
theorem G5 {y c c':Int} {v:Bool} (h:decide (y<c')=v) (hc:c'=c+1):decide (c<y)= !v:=by
 subst hc;rw [← h,← decide_not];exact decide_eq_decide.2 (by omega)
theorem G7 {y c c':Int} {v:Bool} (h:decide (y<c')=v) (hc:c'=c):decide (c≤y)= !v:=by
 subst hc;rw [← h,← decide_not];exact decide_eq_decide.2 (by omega)
theorem HM {x d c:Int} (h:decide (x<d)=true) (hc:d≤c):decide (x<c)=true:=by
 simp only [decide_eq_true_eq] at h ⊢;omega
theorem Gb {x d c:Int} (h:decide (x<d)=false) (hc:c≤d):decide (x<c)=false:=by
 simp only [decide_eq_false_iff_not] at h ⊢;omega
theorem av {x c:Int} (h:¬x=c):(x==c)=false:=by simp [h]
theorem HT {x c d:Int} {v:Bool} (h:x=c) (hv:(c==d)=v):(x==d)=v:=by rw [h,hv]
def tT {P:Program} :Ev P:= .cU true true rfl
def tF {P:Program} :Ev P:= .cU false false rfl
def tC {P:Program} {q v:Bool} (h:q=v):Ev P:= .cU q v h
theorem eT {b v:Bool} (h:b=v):(b==true)=(v==true):=by rw [h]
theorem eF {b v:Bool} (h:b=v):(b==false)=(v==false):=by rw [h]
theorem nt {b v:Bool} (h:b=v):(!b)= !v:=by rw [h]
theorem dC {x c':Int} {v:Bool} (c:Int) (h:decide (x<c')=v) (hc:c'=c+1:=by decide):decide (x≤c)=v:=HN h hc
theorem a7 {y c':Int} {v:Bool} (c:Int) (h:decide (y<c')=v) (hc:c'=c+1:=by decide):decide (c<y)= !v:=G5 h hc
theorem bR {y c':Int} {v:Bool} (c:Int) (h:decide (y<c')=v) (hc:c'=c:=by decide):decide (c≤y)= !v:=G7 h hc
theorem AF {x d:Int} (c:Int) (h:decide (x<d)=true) (hc:d≤c:=by decide):decide (x<c)=true:=HM h hc
theorem l8 {x d:Int} (c:Int) (h:decide (x<d)=false) (hc:c≤d:=by decide):decide (x<c)=false:=Gb h hc
theorem de {x c:Int} (d:Int) (v:Bool) (h:x=c) (hv:(c==d)=v:=by decide):(x==d)=v:=HT h hv
def aM:jW→jW→Nat→Prop
  |_,.no,_=>True
  | .tight,.tight,_=>True
  | .tight,.fresh n,sz=>n=sz
  | .fresh a,.fresh b,_=>a=b
  |_,_,_=>False
mutual
def wk:D→D→Prop
  | .aj o sz xs,.aj o' sz' ys=>xs=ys∧(sz=sz'∨xs= [])∧aM o o' sz'∧(o= .tight∨sz=sz')
  | .agg l,.agg m=>aw l m
  | .aA l,.aA m=>aw l m
  |a,b=>a=b
def aw:List D→List D→Prop
  | [],[]=>True
  |a::l,b::m=>wk a b∧aw l m
  |_,_=>False
end
theorem l9:∀ {l m:List D},aw l m→l.length=m.length∧∀(i:Nat) (a b:D),l[i]? =some a→m[i]? =some b→wk a b
 | [],[],_=>⟨rfl,fun i a b h=>by simp at h⟩
 | [],_::_,h=>by simp [aw] at h
 |_::_,[],h=>by simp [aw] at h
 |a::l,b::m,h=>by
  rw [aw] at h
  obtain ⟨h1,h2⟩:=l9 h.2
  refine ⟨by simp [h1],fun i x y p q=> ?_⟩
  cases i with
  |zero=>simp at p q;subst p q;exact h.1
  |succ i=>simp at p q;exact h2 i x y p q
theorem bk.wk {C:Nat→Nat→Option Value} {M:MM} (hM:M=eB C) {d:D} {v:Value} (h:bk M d v):∀ {d':D},wk d d'→bk M d' v:=by
 induction h with
 |aj b off vs hl hcap ha hsz hc hr hst ho ih=>
  intro d' w
  rename_i M o sz xs _ _ _
  cases d'<;>simp only [Ev.wk,reduceCtorEq] at w
  obtain ⟨rfl,w2,w3,_⟩:=w
  rename_i o' _ _
  refine bk.resize (sz:=sz) (.aj b off vs hl hcap ha hsz hc hr hst ?_) w2
  cases o<;>cases o'<;>first|trivial|exact ho|(simp only [aM] at w3)
 |agg h r ih=>
  intro d' w
  cases d'<;>simp only [Ev.wk,reduceCtorEq] at w
  rename_i _ cs vs _
  obtain ⟨h1,h2⟩:=l9 w
  refine .agg (h1▸h) fun i d v a b=> ?_
  have hlt:i<cs.length:=by
   rw [h]
   exact (Array.getElem?_eq_some_iff.1 b).1
  exact ih i cs[i] v (by simp [hlt]) b hM (h2 i _ _ (by simp [hlt]) a)
 |aA h r ih=>
  intro d' w
  cases d'<;>simp only [Ev.wk,reduceCtorEq] at w
  rename_i _ cs vs _
  obtain ⟨h1,h2⟩:=l9 w
  refine .aA (h1▸h) fun i d v a b=> ?_
  have hlt:i<cs.length:=by
   rw [h]
   exact (Array.getElem?_eq_some_iff.1 b).1
  exact ih i cs[i] v (by simp [hlt]) b hM (h2 i _ _ (by simp [hlt]) a)
 |undef v=>intro d' w;cases d'<;>simp only [Ev.wk,reduceCtorEq] at w;exact .undef v
 |int k n=>intro d' w;cases d'<;>simp only [Ev.wk,reduceCtorEq] at w;rw [← w];exact .int k n
 |bool b=>intro d' w;cases d'<;>simp only [Ev.wk,reduceCtorEq] at w;rw [← w];exact .bool b
 |str s=>intro d' w;cases d'<;>simp only [Ev.wk,reduceCtorEq] at w;rw [← w];exact .str s
 |gD=>intro d' w;cases d'<;>simp only [Ev.wk,reduceCtorEq] at w;exact .gD
 |aq=>intro d' w;cases d'<;>simp only [Ev.wk,reduceCtorEq] at w;exact .aq
 |ptr q h=>intro d' w;cases d'<;>simp only [Ev.wk,reduceCtorEq] at w;rw [← w];exact .ptr q h
 |dN q vs hx hc hr ih=>intro d' w;cases d'<;>simp only [Ev.wk,reduceCtorEq] at w;rw [← w];exact .dN q vs hx hc hr
 |dM h=>intro d' w;cases d'<;>simp only [Ev.wk,reduceCtorEq] at w;rw [← w];exact .dM h
 |iq h=>intro d' w;cases d'<;>simp only [Ev.wk,reduceCtorEq] at w;rw [← w];exact .iq h
 |dn h hh hc=>intro d' w;cases d'<;>simp only [Ev.wk,reduceCtorEq] at w;rw [← w];exact .dn h hh hc
 |sub h hc hp ho=>intro d' w;cases d'<;>simp only [Ev.wk,reduceCtorEq] at w;rw [← w];exact .sub h hc hp ho
 |fn h1 h2 r1 r2 i1 i2=>intro d' w;cases d'<;>simp only [Ev.wk,reduceCtorEq] at w;rw [← w];exact .fn h1 h2 r1 r2
theorem ve {B:Nat} {w:World} {C:Nat→Nat→Option Value} {d d':D} {v:Value} (hr:bk (eB C) d v) (hf:∀sz sz' xs,d= .aj (.fresh sz) sz' xs→∃a len cap,v= .slice a len cap∧sz'=sz∧iu B w C sz a len cap) (hw:wk d d'):
  ∀sz sz' xs,d'= .aj (.fresh sz) sz' xs→∃a len cap,v= .slice a len cap∧sz'=sz∧iu B w C sz a len cap:=by
 rintro sz sz' xs rfl
 cases d<;>simp only [wk,reduceCtorEq] at hw
 rename_i o sz0 xs0
 obtain ⟨rfl,w2,w3,w4⟩:=hw
 cases o with
 |no=>simp only [aM] at w3
 |tok a b=>simp only [aM] at w3
 |tight=>
  simp only [aM] at w3
  subst w3
  cases hr with
  |aj b off vs hl hcap ha hsz hc hr hst ho=>exact ⟨_,_,_,rfl,rfl,.inl ho⟩
 |fresh k=>
  simp only [aM] at w3
  subst w3
  rcases w4 with w4|rfl
  ·cases w4
  ·exact hf _ _ _ rfl
theorem aE.to {P:Program} {f:FuncId} {args:List D} {d d':D} (h:aE P f args d) (hw:wk d d'):aE P f args d':=by
 refine ⟨h.ED,fun w C vs hC ha=>Calls.mono (h.run w C vs hC ha) ?_⟩
 rintro e w' ⟨v,C',rfl,hext,hrep,hf1,hf2⟩
 refine ⟨v,C',rfl,hext,hrep.wk rfl hw,ve hrep hf1 hw,?_⟩
 rintro ds vs rfl rfl i sz sz' xs hi
 cases d<;>simp only [wk,reduceCtorEq] at hw
 rename_i ds0
 obtain ⟨h1,h2⟩:=l9 hw
 have hlt:i<ds0.length:=by
  rw [h1]
  rcases Nat.lt_or_ge i ds.length with q|q
  ·exact q
  ·rw [List.getElem?_eq_none q] at hi;cases hi
 cases hrep with
 |aA hl hr=>
  have hlv:i<vs.size:=hl▸hlt
  have:=ve (d:=ds0[i]) (d':= .aj (.fresh sz) sz' xs) (v:=vs[i]) (hr i _ _ (by simp [hlt]) (by simp [hlv])) (fun s1 s2 x e=>by
   obtain ⟨a,len,cap,k1,k2⟩:=hf2 ds0 vs rfl rfl i s1 s2 x (by simp [hlt,e])
   exact ⟨a,len,cap,by simpa [hlv] using k1,k2⟩) (h2 i _ _ (by simp [hlt]) hi) sz sz' xs rfl
  obtain ⟨a,len,cap,k1,k2,k3⟩:=this
  exact ⟨a,len,cap,by simp [hlv,k1],k2,k3⟩
def g7:Code→List Code
  | .seq a b=>g7 a++g7 b
  | .cond _ a b=>g7 a++g7 b
  | .block _ a=>g7 a
  | .scope a=>g7 a
  | .loop a=>a::g7 a
  | .rangeFunc _ _ a b=>g7 a++g7 b
  |_=> []
def eJ (fn:Func) (i:Nat):Code:=match fn.body with
  |some c=>(g7 c).getD i .skip
  |none=> .skip
def fO:Code→List (Code×Code)
  | .seq a b=>fO a++fO b
  | .cond _ a b=>fO a++fO b
  | .block _ a=>fO a
  | .scope a=>fO a
  | .loop a=>fO a
  | .rangeFunc _ _ a b=>(a,b)::fO b
  |_=> []
def dq (fn:Func) (i:Nat):Code:=match fn.body with
  |some c=>((fO c).getD i (.skip,.skip)).1
  |none=> .skip
def dp (fn:Func) (i:Nat):Code:=match fn.body with
  |some c=>((fO c).getD i (.skip,.skip)).2
  |none=> .skip
def fR:Code→List Code
  | .seq a b=>fR a++fR b
  | .cond _ a b=>fR a++fR b
  | .block i a=> .block i a::fR a
  | .scope a=>fR a
  | .loop a=>fR a
  | .rangeFunc _ _ a b=>fR a++fR b
  |_=> []
def HW (fn:Func) (i:Nat):Code:=match fn.body with
  |some c=>(fR c).getD i .skip
  |none=> .skip
section
variable {P:Program}
theorem eD {cs:List D} (h:cs.all D.clean=true):∀c∈cs,c.clean=true:=List.all_eq_true.1 h
theorem cK.cast {c:Code} {n0:Nat} {t t1:List D} {s s1:List Ob} {ex ex1:Ex} {t' t1':List D} {s' s1':List Ob} (h:cK P c n0 t s ex t' s') (h1:t=t1) (h2:s=s1) (h3:ex=ex1) (h4:t'=t1') (h5:s'=s1'):cK P c n0 t1 s1 ex1 t1' s1':=by
 subst h1 h2 h3 h4 h5;exact h
theorem cK.from {c:Code} {n0:Nat} {t t1:List D} {s s1:List Ob} {ex:Ex} {t':List D} {s':List Ob} (h:cK P c n0 t s ex t' s') (h1:t=t1) (h2:s=s1):cK P c n0 t1 s1 ex t' s':=by
 subst h1 h2;exact h
theorem DK {C:Nat→Nat→Option Value} {l m:List D} {vs:Array Value} (h:bS (eB C) l vs) (hw:aw l m):bS (eB C) m vs:=by
 obtain ⟨h1,h2⟩:=l9 hw
 refine ⟨by rw [← h1];exact h.1,fun i d v p q=> ?_⟩
 have hlt:i<l.length:=by rw [h.1];exact (Array.getElem?_eq_some_iff.1 q).1
 exact (h.2 i l[i] v (by simp [hlt]) q).wk rfl (h2 i _ _ (by simp [hlt]) p)
theorem aE.args {f:FuncId} {az as':List D} {d:D} (h:aE P f az d) (hw:aw as' az):aE P f as' d:=
 ⟨h.ED,fun w C vs hC ha=>h.run w C vs hC (DK ha hw)⟩
theorem bF.cast {c:Code} {sp:HS} {n0:Nat} {t:List D} {s:List Ob} {ex:Ex} {t' t1':List D} {s' s1':List Ob} (h:bF P c sp n0 t s ex t' s') (h4:t'=t1') (h5:s'=s1'):bF P c sp n0 t s ex t1' s1':=by
 subst h4 h5;exact h
end
open Go
abbrev G9 (kind op width size:Int) (dY:Bool) (dst src off af:Int):D:=
  .agg [.int .i8 kind,.int .i8 op,.int .i8 width,.int .i8 size,.bool dY,.int .i8 dst,.int .i8 src,.int .i64 off,.int .i64 af]
def CS (dst src off af:Int):Bool:=decide (0≤dst∧dst≤10∧0≤src∧src≤10∧ -32768≤off∧off≤32767∧ -2147483648≤af∧af≤2147483647)
def BS (n:Int):Bool:=decide (n=1∨n=2∨n=4∨n=8)
def El (kind op width size:Int) (dY:Bool) (dst src off af:Int):Bool:=
  if kind=0 then decide (0≤op∧op≤12∧(width=32∨width=64)∧dst<10∧size=0∧off=0)&&(if dY then decide (op≠8∧af=0) else decide (src=0∧(op=8→af=0)))
  else if kind=1 then BS size&&decide (dst<10∧op=0∧width=0∧af=0)&& !dY
  else if kind=2 then BS size&&decide (op=0∧width=0∧af=0)&& !dY
  else if kind=3 then decide (0≤op∧op≤10∧width=0∧size=0)&&(if dY then decide (af=0) else decide (src=0))
  else if kind=4 then decide (op=0∧width=0∧size=0∧dst=0∧src=0∧af=0)&& !dY
  else if kind=5 then decide (op=0∧width=0∧size=0∧dst=0∧src=0∧off=0∧0≤af∧af≤15)&& !dY
  else if kind=6 then decide (op=0∧width=0∧size=0∧dst=0∧src=0∧off=0∧af=0)&& !dY
  else false
def HL (kind op width size:Int) (dY:Bool) (dst src off af:Int):Bool:=CS dst src off af&&El kind op width size dY dst src off af
def II (kind op:Int):Int:=if kind=0∨kind=3 then op else 0
def HQ (kind width:Int):Int:=if kind=0 then width else 0
def H8 (kind size:Int):Int:=if kind=1∨kind=2 then size else 0
def HR (kind op:Int) (dY:Bool):Bool:=if kind=0 then dY&&decide (op≠8) else if kind=3 then dY else false
def Iw (kind dst:Int):Int:=if kind=0∨kind=1∨kind=2∨kind=3 then dst else 0
def It (kind op:Int) (dY:Bool) (src:Int):Int:=if kind=0 then (if dY&&decide (op≠8) then src else 0) else if kind=1∨kind=2 then src else if kind=3 then (if dY then src else 0) else 0
def Iu (kind off:Int):Int:=if kind=1∨kind=2∨kind=3∨kind=4 then off else 0
def Iv (kind op:Int) (dY:Bool) (af:Int):Int:=if kind=0 then (if dY||decide (op=8) then 0 else af) else if kind=3 then (if dY then 0 else af) else if kind=5 then af else 0
abbrev xD (op w dst src base aa af cc:Int):D:=
  .agg [.int .i8 op,.int .i8 w,.int .i8 dst,.int .i8 src,.int .i8 base,.int .i64 aa,.int .i64 af,.int .i8 cc]
abbrev DE (kind op w dst src base aa af cc sC sF num to:Int):D:=
  .agg [.int .i8 kind,.int .i8 op,.int .i8 w,.int .i8 dst,.int .i8 src,.int .i8 base,.int .i64 aa,.int .i64 af,.int .i8 cc,.int .i8 sC,.int .i8 sF,.int .i64 num,.int .i64 to]
abbrev fI (sF sC:Int):D:=DE 1 0 0 0 0 0 0 0 0 sC sF 0 0
abbrev ft (sC sF:Int):D:=DE 2 0 0 0 0 0 0 0 0 sC sF 0 0
abbrev two (op w dst src:Int):D:=DE 0 op w dst src 0 0 0 0 0 0 0 0
abbrev num (op w dst n:Int):D:=DE 0 op w dst 0 0 0 n 0 0 0 0 0
abbrev Gp (w dst:Int):D:=DE 0 25 w dst 11 0 0 0 4 0 0 0 0
def DF (width af:Int):Bool:=if width=32 then decide (af%4294967296=0) else decide (af=0)
def Fj (op:Int):Int:=if op=0 then 2 else if op=1 then 5 else if op=4 then 3 else if op=5 then 4 else if op=10 then 6 else if op=6 then 20 else if op=7 then 21 else 22
def Fu (op:Int):Int:=if op=0 then 9 else if op=1 then 12 else if op=4 then 10 else if op=5 then 11 else if op=10 then 13 else if op=6 then 17 else if op=7 then 18 else 19
def HY (op width:Int) (dY:Bool) (dst src af:Int):List D:=
  if op=3∨op=9 then
    (if dY then
      [fI 0 dst,fI 1 src,num 1 32 2 0,num 1 32 11 1,two 8 width 1 1,Gp width 1,two 24 width 1 0,fI 1 src]++
        (if op=3 then [num 1 32 11 0,two 8 width 1 1,Gp width 0,ft dst 0] else [fI 11 dst,two 8 width 1 1,Gp width 2,ft dst 2])
    else if DF width af then
      (if op=3 then [num 1 width 0 0,ft dst 0] else if width=32 then [fI 0 dst,two 0 32 0 0,ft dst 0] else [fI 0 dst,ft dst 0])
    else [fI 0 dst,num 1 width 1 af,num 1 32 2 0,two 24 width 1 0,ft dst (if op=3 then 0 else 2)])
  else if op=2 then (if dY then [fI 0 dst,fI 1 src,two 16 width 0 1,ft dst 0] else [fI 0 dst,num 1 width 1 af,two 16 width 0 1,ft dst 0])
  else if op=8 then [fI 0 dst,two 23 width 0 0,ft dst 0]
  else if op=11 then (if dY then (if width=32 then [fI 0 src,two 0 32 0 0,ft dst 0] else [fI 0 src,ft dst 0]) else [num 1 width 0 af,ft dst 0])
  else if op=6∨op=7∨op=12 then (if dY then [fI 0 dst,fI 1 src,two (Fj op) width 0 0,ft dst 0] else [fI 0 dst,num (Fu op) width 0 (af%width),ft dst 0])
  else (if dY then [fI 0 dst,fI 1 src,two (Fj op) width 0 1,ft dst 0] else [fI 0 dst,num (Fu op) width 0 af,ft dst 0])
def HA (kind op width size:Int) (dY:Bool) (dst src off af:Int):List D:=
  if kind=0 then HY op width dY dst src af
  else if kind=1 then [fI 1 src,DE 0 26 (8*size) 0 0 1 off 0 0 0 0 0 0,ft dst 0]
  else if kind=2 then [fI 1 dst,fI 0 src,DE 0 27 (8*size) 0 0 1 off 0 0 0 0 0 0]
  else if kind=5 then [DE 3 0 0 0 0 0 0 0 0 0 0 af 0,ft 0 0,num 1 32 1 0,ft 1 1,ft 2 1,ft 3 1,ft 4 1,ft 5 1]
  else if kind=6 then [DE 6 0 0 0 0 0 0 0 0 0 0 0 0]
  else []
theorem dt (n:Int):IntKind.u8.wrap n=n%256:=by simp [IntKind.wrap,IntKind.bits,IntKind.signed]
theorem xZ (n:Int):IntKind.u16.wrap n=n%65536:=by simp [IntKind.wrap,IntKind.bits,IntKind.signed]
theorem xY (n:Int):IntKind.u32.wrap n=n%4294967296:=by simp [IntKind.wrap,IntKind.bits,IntKind.signed]
theorem eM (n:Int):IntKind.u64.wrap n=n%18446744073709551616:=by simp [IntKind.wrap,IntKind.bits,IntKind.signed]
theorem ke (n:Int):IntKind.i8.wrap n=(n+128)%256 - 128:=by simp only [IntKind.wrap,IntKind.bits,IntKind.signed];simp;split<;>omega
theorem GL (n:Int):IntKind.i16.wrap n=(n+32768)%65536 - 32768:=by simp only [IntKind.wrap,IntKind.bits,IntKind.signed];simp;split<;>omega
theorem uj (n:Int):IntKind.i32.wrap n=(n+2147483648)%4294967296 - 2147483648:=by simp only [IntKind.wrap,IntKind.bits,IntKind.signed];simp;split<;>omega
theorem ct (n:Int):IntKind.i64.wrap n=(n+9223372036854775808)%18446744073709551616 - 9223372036854775808:=by simp only [IntKind.wrap,IntKind.bits,IntKind.signed];simp;split<;>omega
theorem toNat_ofInt (w:Nat) (a:Int):(BitVec.ofInt w a).toNat=(a%(2^w:Nat)).toNat:=by simp [BitVec.toNat_ofInt]
theorem and_ones (w k:Nat) (hk:k≤w) (a:Int):((BitVec.ofInt w a&&&BitVec.ofInt w ((2^k - 1:Nat):Int)).toNat:Int)=a%(2^k:Nat):=by
 have hp:0<2^k:=Nat.two_pow_pos k
 have hle:2^k≤2^w:=Nat.pow_le_pow_right (by omega) hk
 have e2:(((2^k - 1:Nat):Int)%((2^w:Nat):Int)).toNat=2^k - 1:=by
  rw [Int.emod_eq_of_lt (by omega) (by omega)]
  omega
 rw [BitVec.toNat_and,toNat_ofInt,toNat_ofInt,e2,Nat.and_two_pow_sub_one_eq_mod]
 have h0:0≤a%((2^w:Nat):Int):=Int.emod_nonneg _ (by omega)
 have h1:((a%((2^w:Nat):Int)).toNat:Int)=a%((2^w:Nat):Int):=Int.toNat_of_nonneg h0
 rw [Int.natCast_emod,h1]
 have hd:((2^k:Nat):Int)∣((2^w:Nat):Int):=by
  rw [Int.natCast_dvd_natCast];exact Nat.pow_dvd_pow 2 hk
 exact Int.emod_emod_of_dvd a hd
structure XS where
  op:Int
  w:Int
  dst:Int
  src:Int
  base:Int
  aa:Int
  af:Int
  cc:Int
deriving DecidableEq
def XS.d (x:XS):D:=xD x.op x.w x.dst x.src x.base x.aa x.af x.cc
structure Ii where
  kind:Int
  op:Int
  w:Int
  dst:Int
  src:Int
  base:Int
  aa:Int
  af:Int
  cc:Int
  sC:Int
  sF:Int
  num:Int
  to:Int
deriving DecidableEq
def Ii.d (x:Ii):D:=DE x.kind x.op x.w x.dst x.src x.base x.aa x.af x.cc x.sC x.sF x.num x.to
structure iK where
  kind:Int
  op:Int
  width:Int
  size:Int
  dY:Bool
  dst:Int
  src:Int
  off:Int
  af:Int
deriving DecidableEq
def iK.d (x:iK):D:=G9 x.kind x.op x.width x.size x.dY x.dst x.src x.off x.af
abbrev IE (kind op w dst src base aa af cc sC sF num to:Int):List D:=
  [.int .i8 kind,.int .i8 op,.int .i8 w,.int .i8 dst,.int .i8 src,.int .i8 base,.int .i64 aa,.int .i64 af,.int .i8 cc,.int .i8 sC,.int .i8 sF,.int .i64 num,.int .i64 to]
theorem get_map {α:Type} {f:α→D} {l:List α} {k:Nat} {x:α} (h:l[k]? =some x):(l.map f)[k]? =some (f x):=by simp [h]
def IC (n:Int):Int:=IntKind.i64.wrap (1*2^(min (IntKind.u64.wrap n).toNat IntKind.i64.bits))
def jE (n:Int):Int:=IntKind.i64.wrap (1*2^(min n.toNat IntKind.i64.bits))
def Ae (a b:Int):Int:=IntKind.i64.wrap ((BitVec.ofInt IntKind.i64.bits a|||BitVec.ofInt IntKind.i64.bits b).toNat:Int)
def Hj (a b:Int):Int:=IntKind.i64.wrap ((BitVec.ofInt IntKind.i64.bits a&&& ~~~BitVec.ofInt IntKind.i64.bits b).toNat:Int)
end Go.Ev
namespace Go.Proofs.YtbfpahigdpigpaaGreat
open Go Go.Ev
theorem mixed:Tryz.prog.follows .mixedOrders=true:=by kernel_rfl
theorem eh:jY Tryz.prog 53 [.int .i8,.int .i8,.int .i8,.int .i8,.int .i8,.int .i64,.int .i64,.int .i8]:=jY.of_flat (d:=5) (by kernel_rfl) (by kernel_rfl) (by kernel_rfl) (by kernel_rfl)
theorem aD:jY Tryz.prog 46 [.bool,.bool,.bool,.bool,.bool]:=jY.of_flat (d:=5) (by kernel_rfl) (by kernel_rfl) (by kernel_rfl) (by kernel_rfl)
end Go.Proofs.YtbfpahigdpigpaaGreat
namespace Go.Ev
open Go
def ax (op:Int):Int:=
  if op=0∨(2≤op∧op≤8) then 1
  else if op=16 then 2
  else if op=1∨(9≤op∧op≤15) then 3
  else if 17≤op∧op≤19 then 4
  else if 20≤op∧op≤24 then 5
  else if op=25 then 6
  else if op=26 then 7
  else if op=27 then 8
  else if op=28 then 9
  else if op=29 then 10
  else if op=30∨op=31 then 11
  else 0
def bc (op:Int):Int:=
  if op=0 then 0x89 else if op=1 then 0xC7 else if op=2 then 0x01 else if op=3 then 0x09 else if op=4 then 0x21 else if op=5 then 0x29 else if op=6 then 0x31 else if op=7 then 0x39 else if op=8 then 0x85
  else if 9≤op∧op≤14 then 0x81 else if op=15 then 0xF7 else if op=16 then 0xAF else if 17≤op∧op≤19 then 0xC1 else if 20≤op∧op≤22 then 0xD3 else if op=23∨op=24 then 0xF7
  else if op=25 then 0x40 else if op=26 then 0x8B else if op=27 then 0x89 else if op=28 then 0xE9 else if op=29 then 0x80 else if op=30 then 0xC3 else if op=31 then 0x05 else 0
def cq (op:Int):Int:=
  if op=10 then 1 else if op=11∨op=17∨op=20 then 4 else if op=12∨op=18∨op=21 then 5 else if op=13∨op=24 then 6 else if op=14∨op=19∨op=22 then 7 else if op=23 then 3 else 0
def HU (op:Int):Int:=
  if ax op=1∨ax op=2 then 1 else if ax op=0 then 0 else ax op - 1
def bl (n:Int):Bool:=decide (0≤n∧n≤15)
def ff (n:Int):Bool:=decide ((2≤n∧n≤7)∨(12≤n∧n≤15))
def a8 (w:Int):Bool:=decide (w=32∨w=64)
def bh (w:Int):Bool:=decide (w=8∨w=16∨w=32∨w=64)
def nJ (w af:Int):Bool:=decide (w=32∨(w=8∧ -128≤af∧af≤127))
def hN (sh w dst src base aa af cc:Int):Bool:=
  if sh=1∨sh=2 then a8 w&&decide (base=0∧aa=0∧af=0∧cc=0)
  else if sh=3 then a8 w&&decide (src=0∧base=0∧aa=0∧cc=0)
  else if sh=4 then a8 w&&decide (src=0∧base=0∧aa=0∧cc=0∧0≤af∧af<w)
  else if sh=5 then a8 w&&decide (src=0∧base=0∧aa=0∧af=0∧cc=0)
  else if sh=6 then a8 w&&decide (base=0∧aa=0∧af=0)&&ff cc
  else if sh=7 then bh w&&decide (src=0∧af=0∧cc=0)
  else if sh=8 then bh w&&decide (dst=0∧af=0∧cc=0)
  else if sh=9 then nJ w af&&decide (dst=0∧src=0∧base=0∧aa=0∧cc=0)
  else if sh=10 then nJ w af&&decide (dst=0∧src=0∧base=0∧aa=0)&&ff cc
  else if sh=11 then decide (w=0∧dst=0∧src=0∧base=0∧aa=0∧af=0∧cc=0)
  else false
def cg (op w dst src base aa af cc:Int):Bool:=
  bl dst&&bl src&&bl base&&decide (-2147483648≤aa∧aa≤2147483647)&&decide (-2147483648≤af∧af≤2147483647)&&hN (ax op) w dst src base aa af cc
def bB (n:Int):List Int:= [n%256,n / 256%256,n / 65536%256,n / 16777216%256]
def e7 (wide:Bool) (r m:Int):Int:=64+(if wide then 8 else 0)+4*(r / 8)+m / 8
def dB (wide:Bool) (r m:Int) (always:Bool):Bool:=wide||always||decide (8≤r∨8≤m)
def cf (wide:Bool) (r m:Int) (always:Bool):List Int:=if dB wide r m always then [e7 wide r m] else []
def bT (r m:Int):Int:=192+8*(r%8)+m%8
def cR (r b aa:Int):List Int:=if b%8=4 then (128+8*(r%8)+b%8)::36::bB aa else (128+8*(r%8)+b%8)::bB aa
def aK (op w dst src base aa af cc:Int):List Int:=
  let sh:=ax op
  let wide:=decide (w=64)
  if sh=1 then cf wide src dst false++ [bc op,bT src dst]
  else if sh=2 then cf wide dst src false++ [15,bc op,bT dst src]
  else if sh=6 then cf wide dst src false++ [15,64+cc,bT dst src]
  else if sh=3 then (if op=1∧w=32 then cf false 0 dst false++((184+dst%8)::bB af) else cf wide 0 dst false++(bc op::bT (cq op) dst::bB af))
  else if sh=4 then cf wide 0 dst false++ [bc op,bT (cq op) dst,af%256]
  else if sh=5 then cf wide 0 dst false++ [bc op,bT (cq op) dst]
  else if sh=7 then cf wide dst base false++((if w=8 then [15,182] else if w=16 then [15,183] else [139])++cR dst base aa)
  else if sh=8 then (if w=16 then [102] else [])++(cf wide src base (decide (w=8))++((if w=8 then [136] else [137])++cR src base aa))
  else if sh=9 then (if w=8 then [235,af%256] else 233::bB af)
  else if sh=10 then (if w=8 then [112+cc,af%256] else 15::(128+cc)::bB af)
  else if op=31 then [15,5]
  else [195]
def bD (l:List Int):List D:=l.map fun n=> .int .u8 n
def qd (op w dst src base aa af cc:Int):List D:=if cg op w dst src base aa af cc then bD (aK op w dst src base aa af cc) else []
def xF (op w dst src base aa af cc:Int):Int:=if cg op w dst src base aa af cc then 0 else 2
def eu (a b c d:Int):Int:=(a+256*b+65536*c+16777216*d+2147483648)%4294967296 - 2147483648
def dw (a:Int):Int:=(a+128)%256 - 128
theorem AQ {n:Int} (h0: -2147483648≤n) (h1:n≤2147483647):eu (n%256) (n / 256%256) (n / 65536%256) (n / 16777216%256)=n:=by
 simp only [eu]
 omega
theorem mq {n:Int} (h0: -128≤n) (h1:n≤127):dw (n%256)=n:=by
 simp only [dw]
 omega
theorem dv {op w dst src base aa af cc:Int} (h:cg op w dst src base aa af cc=true):
  (0≤dst∧dst≤15∧0≤src∧src≤15∧0≤base∧base≤15∧ -2147483648≤aa∧aa≤2147483647∧ -2147483648≤af∧af≤2147483647)∧hN (ax op) w dst src base aa af cc=true:=by
 simp only [cg,bl,Bool.and_eq_true,decide_eq_true_eq] at h
 exact ⟨by omega,h.2⟩
theorem gK {op:Int} (h:ax op≠0):op=0∨op=1∨op=2∨op=3∨op=4∨op=5∨op=6∨op=7∨op=8∨op=9∨op=10∨op=11∨op=12∨op=13∨op=14∨op=15∨op=16∨op=17∨op=18∨op=19∨op=20∨op=21∨op=22∨op=23∨op=24∨op=25∨op=26∨op=27∨op=28∨op=29∨op=30∨op=31:=by
 by_cases h2:0≤op∧op≤31
 ·omega
 ·refine absurd ?_ h
  unfold ax
  repeat (rw [if_neg (by omega)])
def vQ:List Int→Int
  |a::b::c::d::_=>eu a b c d
  |_=>0
def hd (l:List Int):Int:=l.headD 0
def gv:List Int:= [0,1,2,3,4,5,6,7,8,9,10,11,12,13,14,15,16,17,18,19,20,21,22,23,24,25,26,27,28,29,30,31]
def Dc (p:Int→Bool):Int:=(gv.find? p).getD (-1)
def mo (c:Int):Int:=Dc fun o=>decide (ax o=1∧bc o=c)
def yh (c k:Int):Int:=Dc fun o=>decide ((ax o=3∨ax o=4∨ax o=5)∧bc o=c∧cq o=k)
def zL:List Int→Bool×Int×Int×List Int
  |h::t=>if 64≤h∧h≤79 then (decide (72≤h),(h - 64) / 4%2,(h - 64)%2,t) else (false,0,0,h::t)
  | []=>(false,0,0,[])
def xI (t:List Int):List Int:=if hd t%8=4 then t.drop 2 else t.drop 1
def Bf (wide:Bool) (r m c:Int) (t:List Int):XS:=
  let w:=if wide then 64 else 32
  let sC:=hd t / 8%8+8*r
  let rm:=hd t%8+8*m
  if c=175 then ⟨16,w,sC,rm,0,0,0,0⟩
  else if 64≤c∧c≤79 then ⟨25,w,sC,rm,0,0,0,c - 64⟩
  else if 128≤c∧c≤143 then ⟨29,32,0,0,0,0,vQ t,c - 128⟩
  else if c=182 then ⟨26,8,sC,0,rm,vQ (xI t),0,0⟩
  else if c=183 then ⟨26,16,sC,0,rm,vQ (xI t),0,0⟩
  else ⟨31,0,0,0,0,0,0,0⟩
def iJ (half wide:Bool) (r m c:Int) (t:List Int):XS:=
  let w:=if wide then 64 else 32
  let sC:=hd t / 8%8+8*r
  let rm:=hd t%8+8*m
  if c=15 then Bf wide r m (hd t) (t.drop 1)
  else if 184≤c∧c≤191 then ⟨1,32,c - 184+8*m,0,0,0,vQ t,0⟩
  else if 112≤c∧c≤127 then ⟨29,8,0,0,0,0,dw (hd t),c - 112⟩
  else if c=235 then ⟨28,8,0,0,0,0,dw (hd t),0⟩
  else if c=233 then ⟨28,32,0,0,0,0,vQ t,0⟩
  else if c=195 then ⟨30,0,0,0,0,0,0,0⟩
  else if c=139 then ⟨26,w,sC,0,rm,vQ (xI t),0,0⟩
  else if c=136 then ⟨27,8,0,sC,rm,vQ (xI t),0,0⟩
  else if c=137∧hd t<192 then ⟨27,if half then 16 else w,0,sC,rm,vQ (xI t),0,0⟩
  else if mo c≠ -1 then ⟨mo c,w,rm,sC,0,0,0,0⟩
  else
    let o:=yh c (hd t / 8%8)
    if ax o=3 then ⟨o,w,rm,0,0,0,vQ (t.drop 1),0⟩
    else if ax o=4 then ⟨o,w,rm,0,0,0,hd (t.drop 1),0⟩
    else ⟨o,w,rm,0,0,0,0,0⟩
def Hf (half:Bool) (p:Bool×Int×Int×List Int):XS:=iJ half p.1 p.2.1 p.2.2.1 (hd p.2.2.2) (p.2.2.2.drop 1)
def qB (l:List Int):XS:=if hd l=102 then Hf true (zL (l.drop 1)) else Hf false (zL l)
theorem ye {wide al:Bool} {r m c:Int} {t:List Int} (r0:0≤r) (r1:r≤15) (m0:0≤m) (m1:m≤15) (hc:¬(64≤c∧c≤79)):zL (cf wide r m al++c::t)=(wide,r / 8,m / 8,c::t):=by
 unfold cf
 split
 ·simp only [List.cons_append,List.nil_append,zL,e7]
  cases wide
  ·simp only [Bool.false_eq_true,if_false]
   rw [if_pos (by omega)]
   refine Prod.ext ?_ (Prod.ext ?_ (Prod.ext ?_ rfl))<;>simp<;>omega
  ·simp only [if_true]
   rw [if_pos (by omega)]
   refine Prod.ext ?_ (Prod.ext ?_ (Prod.ext ?_ rfl))<;>simp<;>omega
 ·rename_i h
  simp only [dB,Bool.or_eq_true,decide_eq_true_eq,not_or,Bool.not_eq_true] at h
  simp only [List.nil_append,zL,if_neg hc]
  rw [h.1.1]
  refine Prod.ext rfl (Prod.ext ?_ (Prod.ext ?_ rfl))<;>simp<;>omega
theorem C2 {wide al:Bool} {r m c:Int} {t:List Int} (r0:0≤r) (r1:r≤15) (m0:0≤m) (m1:m≤15) (hc:c≠102):hd (cf wide r m al++c::t)≠102:=by
 unfold cf
 split
 ·simp only [List.cons_append,hd,List.headD_cons,e7]
  cases wide<;>simp<;>omega
 ·simpa [hd] using hc
theorem fj {wide al:Bool} {r m c:Int} {t:List Int} (r0:0≤r) (r1:r≤15) (m0:0≤m) (m1:m≤15) (hc:¬(64≤c∧c≤79)) (h2:c≠102):qB (cf wide r m al++c::t)=iJ false wide (r / 8) (m / 8) c t:=by
 unfold qB
 rw [if_neg (C2 r0 r1 m0 m1 h2),ye r0 r1 m0 m1 hc]
 rfl
theorem Dh {wide al:Bool} {r m c:Int} {t:List Int} (r0:0≤r) (r1:r≤15) (m0:0≤m) (m1:m≤15) (hc:¬(64≤c∧c≤79)):qB (102::(cf wide r m al++c::t))=iJ true wide (r / 8) (m / 8) c t:=by
 unfold qB
 rw [if_pos (show hd (102::(cf wide r m al++c::t))=102 from rfl),List.drop_one,List.tail_cons,ye r0 r1 m0 m1 hc]
 rfl
theorem jz {c:Int} {t:List Int} (hc:¬(64≤c∧c≤79)) (h2:c≠102):qB (c::t)=iJ false false 0 0 c t:=by
 unfold qB
 rw [if_neg (by simpa [hd] using h2),zL,if_neg hc]
 rfl
theorem pj {r m:Int} (r0:0≤r) (r1:r≤15) (m0:0≤m) (m1:m≤15):bT r m / 8%8+8*(r / 8)=r:=by unfold bT;omega
theorem kQ {r m:Int} (r0:0≤r) (r1:r≤15) (m0:0≤m) (m1:m≤15):bT r m%8+8*(m / 8)=m:=by unfold bT;omega
theorem pl {r m:Int} (r0:0≤r) (r1:r≤7) (m0:0≤m) (m1:m≤15):bT r m / 8%8=r:=by unfold bT;omega
theorem DY {r m:Int} (r0:0≤r) (m0:0≤m):¬bT r m<192:=by unfold bT;omega
theorem iB {r b aa:Int} {t:List Int} :hd (cR r b aa++t)=128+8*(r%8)+b%8:=by unfold cR;split<;>simp [hd]
theorem iV {r b aa:Int} {t:List Int} :xI (cR r b aa++t)=bB aa++t:=by
 unfold xI
 rw [iB]
 unfold cR
 split<;>rename_i h<;>split<;>rename_i h2<;>first|(exfalso;omega)|simp
theorem dL {n:Int} {t:List Int} (h0: -2147483648≤n) (h1:n≤2147483647):vQ (bB n++t)=n:=by
 simp only [bB,List.cons_append,vQ]
 exact AQ h0 h1
theorem iU {r b:Int} (r0:0≤r) (r1:r≤15):(128+8*(r%8)+b%8) / 8%8+8*(r / 8)=r:=by omega
theorem ky {r b:Int} (b0:0≤b) (b1:b≤15):(128+8*(r%8)+b%8)%8+8*(b / 8)=b:=by omega
theorem F4 {r b:Int} :128+8*(r%8)+b%8<192:=by omega
theorem sH:∀n:Fin 32,ax (n.val:Int)=1→mo (bc (n.val:Int))=n.val:=by decide+kernel
theorem jJ:∀n:Fin 32,ax (n.val:Int)=3∨ax (n.val:Int)=4∨ax (n.val:Int)=5→yh (bc (n.val:Int)) (cq (n.val:Int))=n.val:=by decide+kernel
theorem p8:∀n:Fin 32,ax (n.val:Int)=1→(let c:=bc (n.val:Int);c≠15∧¬(64≤c∧c≤79)∧c≠102∧¬(184≤c∧c≤191)∧¬(112≤c∧c≤127)∧c≠235∧c≠233∧c≠195∧c≠139∧c≠136∧mo c≠ -1):=by decide+kernel
theorem gV:∀n:Fin 32,ax (n.val:Int)=3∨ax (n.val:Int)=4∨ax (n.val:Int)=5→(let c:=bc (n.val:Int);c≠15∧¬(64≤c∧c≤79)∧c≠102∧¬(184≤c∧c≤191)∧¬(112≤c∧c≤127)∧c≠235∧c≠233∧c≠195∧c≠139∧c≠136∧c≠137∧mo c= -1∧0≤cq (n.val:Int)∧cq (n.val:Int)≤7):=by decide+kernel
theorem sG {op:Int} (h:ax op≠0):∃n:Fin 32,op=n.val:=by
 have:=gK h
 exact ⟨⟨op.toNat,by omega⟩,by simp;omega⟩
theorem jN {w:Int} (h:a8 w=true):w=32∨w=64:=by simpa [a8] using h
theorem jd {w:Int} (h:a8 w=true):(if decide (w=64)=true then 64 else 32)=w:=by rcases jN h with rfl|rfl<;>rfl
theorem sy:∀n:Fin 32,ax (n.val:Int)=6→(n.val:Int)=25:=by decide+kernel
theorem sw:∀n:Fin 32,ax (n.val:Int)=7→(n.val:Int)=26:=by decide+kernel
theorem sv:∀n:Fin 32,ax (n.val:Int)=8→(n.val:Int)=27:=by decide+kernel
theorem su:∀n:Fin 32,ax (n.val:Int)=9→(n.val:Int)=28:=by decide+kernel
theorem o5:∀n:Fin 32,ax (n.val:Int)=10→(n.val:Int)=29:=by decide+kernel
theorem oZ:∀n:Fin 32,ax (n.val:Int)=11→(n.val:Int)=30∨(n.val:Int)=31:=by decide+kernel
theorem fZ {w:Int} (h:bh w=true):w=8∨w=16∨w=32∨w=64:=by simpa [bh] using h
theorem Di {op w dst src base aa af cc:Int} (h:cg op w dst src base aa af cc=true) (t:List Int):qB (aK op w dst src base aa af cc++t)=⟨op,w,dst,src,base,aa,af,cc⟩:=by
 obtain ⟨⟨d0,d1,s0,s1,b0,b1,p0,p1,i0,i1⟩,hs⟩:=dv h
 have hsh:ax op≠0:=by
  intro e
  rw [e] at hs
  simp [hN] at hs
 obtain ⟨k,rfl⟩:=sG hsh
 unfold hN at hs
 split at hs
 ·rename_i h12
  simp only [Bool.and_eq_true,decide_eq_true_eq] at hs
  obtain ⟨hw,rfl,rfl,rfl,rfl⟩:=hs
  have ew:=jd hw
  rcases h12 with h1|h1
  ·
   obtain ⟨c1,c2,c3,c4,c5,c6,c7,c8,c9,c10,c11⟩:=p8 k h1
   have e:aK (k.val:Int) w dst src 0 0 0 0=cf (decide (w=64)) src dst false++ [bc (k.val:Int),bT src dst]:=by simp only [aK,h1,if_true]
   rw [e,List.append_assoc,List.cons_append,List.cons_append,List.nil_append,fj s0 s1 d0 d1 c2 c3]
   simp only [iJ,if_neg c1,if_neg c4,if_neg c5,if_neg c6,if_neg c7,if_neg c8,if_neg c9,if_neg c10]
   have g:hd (bT src dst::t)=bT src dst:=rfl
   rw [g,if_neg (by have:=DY (m:=dst) s0 d0;omega),if_pos c11,sH k h1,pj s0 s1 d0 d1,kQ s0 s1 d0 d1,ew]
  ·
   have hk:(k.val:Int)=16:=by
    have:=gK (op:=(k.val:Int)) (by omega)
    revert h1
    rcases this with e|e|e|e|e|e|e|e|e|e|e|e|e|e|e|e|e|e|e|e|e|e|e|e|e|e|e|e|e|e|e|e<;>rw [e]<;>decide
   rw [hk]
   have e:aK 16 w dst src 0 0 0 0=cf (decide (w=64)) dst src false++ [15,175,bT dst src]:=by
    simp only [aK,show ax 16=2 from rfl,show bc 16=175 from rfl,if_true,show ¬(2:Int)=1 by decide,if_false]
   rw [e,List.append_assoc,List.cons_append,List.cons_append,List.cons_append,List.nil_append,fj d0 d1 s0 s1 (by decide) (by decide)]
   simp only [iJ,if_true,Bf,hd,List.headD_cons,List.drop_succ_cons,List.drop_zero]
   rw [pj d0 d1 s0 s1,kQ d0 d1 s0 s1,ew]
 ·rename_i n12
  have n1:¬ax (k.val:Int)=1:=fun e=>n12 (.inl e)
  have n2:¬ax (k.val:Int)=2:=fun e=>n12 (.inr e)
  split at hs
  ·
   rename_i h3
   simp only [Bool.and_eq_true,decide_eq_true_eq] at hs
   obtain ⟨hw,rfl,rfl,rfl,rfl⟩:=hs
   have ew:=jd hw
   by_cases hm:(k.val:Int)=1∧w=32
   ·obtain ⟨hm,rfl⟩:=hm
    have e:aK (k.val:Int) 32 dst 0 0 0 af 0=cf false 0 dst false++((184+dst%8)::bB af):=by
     rw [hm]
     simp [aK,show ax 1=3 from rfl]
    rw [e,List.append_assoc,List.cons_append,fj (by omega) (by omega) d0 d1 (by omega) (by omega)]
    have c1:¬184+dst%8=15:=by omega
    simp only [iJ,if_neg c1]
    rw [if_pos (by omega),dL i0 i1,hm]
    congr 1
    omega
   ·obtain ⟨c1,c2,c3,c4,c5,c6,c7,c8,c9,c10,c11,c12,u0,u1⟩:=gV k (.inl h3)
    have e:aK (k.val:Int) w dst 0 0 0 af 0=cf (decide (w=64)) 0 dst false++(bc (k.val:Int)::bT (cq (k.val:Int)) dst::bB af):=by
     simp only [aK,h3,if_neg hm,show ¬(3:Int)=1 by decide,show ¬(3:Int)=2 by decide,show ¬(3:Int)=6 by decide,if_false,if_true]
    rw [e,List.append_assoc,List.cons_append,List.cons_append,fj (by omega) (by omega) d0 d1 c2 c3]
    simp only [iJ,if_neg c1,if_neg c4,if_neg c5,if_neg c6,if_neg c7,if_neg c8,if_neg c9,if_neg c10]
    have g:hd (bT (cq (k.val:Int)) dst::(bB af++t))=bT (cq (k.val:Int)) dst:=rfl
    rw [g,if_neg (by omega),if_neg (by simp [c12]),pl u0 u1 d0 d1,jJ k (.inl h3),if_pos h3,List.drop_one,List.tail_cons,dL i0 i1,kQ u0 (by omega) d0 d1,ew]
  ·rename_i n3
   split at hs
   ·
    rename_i h4
    simp only [Bool.and_eq_true,decide_eq_true_eq] at hs
    obtain ⟨hw,rfl,rfl,rfl,rfl,j0,j1⟩:=hs
    have ew:=jd hw
    have hw':=jN hw
    obtain ⟨c1,c2,c3,c4,c5,c6,c7,c8,c9,c10,c11,c12,u0,u1⟩:=gV k (.inr (.inl h4))
    have e:aK (k.val:Int) w dst 0 0 0 af 0=cf (decide (w=64)) 0 dst false++ [bc (k.val:Int),bT (cq (k.val:Int)) dst,af%256]:=by
     simp only [aK,h4,show ¬(4:Int)=1 by decide,show ¬(4:Int)=2 by decide,show ¬(4:Int)=6 by decide,show ¬(4:Int)=3 by decide,if_false,if_true]
    rw [e,List.append_assoc,List.cons_append,List.cons_append,List.cons_append,List.nil_append,fj (by omega) (by omega) d0 d1 c2 c3]
    simp only [iJ,if_neg c1,if_neg c4,if_neg c5,if_neg c6,if_neg c7,if_neg c8,if_neg c9,if_neg c10]
    have g:hd (bT (cq (k.val:Int)) dst::af%256::t)=bT (cq (k.val:Int)) dst:=rfl
    rw [g,if_neg (by omega),if_neg (by simp [c12]),pl u0 u1 d0 d1,jJ k (.inr (.inl h4)),if_neg (by omega),if_pos h4,List.drop_one,List.tail_cons,kQ u0 (by omega) d0 d1,ew]
    have:hd (af%256::t)=af:=by simp only [hd,List.headD_cons];omega
    rw [this]
   ·rename_i n4
    split at hs
    ·
     rename_i h5
     simp only [Bool.and_eq_true,decide_eq_true_eq] at hs
     obtain ⟨hw,rfl,rfl,rfl,rfl,rfl⟩:=hs
     have ew:=jd hw
     obtain ⟨c1,c2,c3,c4,c5,c6,c7,c8,c9,c10,c11,c12,u0,u1⟩:=gV k (.inr (.inr h5))
     have e:aK (k.val:Int) w dst 0 0 0 0 0=cf (decide (w=64)) 0 dst false++ [bc (k.val:Int),bT (cq (k.val:Int)) dst]:=by
      simp only [aK,h5,show ¬(5:Int)=1 by decide,show ¬(5:Int)=2 by decide,show ¬(5:Int)=6 by decide,show ¬(5:Int)=3 by decide,show ¬(5:Int)=4 by decide,if_false,if_true]
     rw [e,List.append_assoc,List.cons_append,List.cons_append,List.nil_append,fj (by omega) (by omega) d0 d1 c2 c3]
     simp only [iJ,if_neg c1,if_neg c4,if_neg c5,if_neg c6,if_neg c7,if_neg c8,if_neg c9,if_neg c10]
     have g:hd (bT (cq (k.val:Int)) dst::t)=bT (cq (k.val:Int)) dst:=rfl
     rw [g,if_neg (by omega),if_neg (by simp [c12]),pl u0 u1 d0 d1,jJ k (.inr (.inr h5)),if_neg (by omega),if_neg (by omega),kQ u0 (by omega) d0 d1,ew]
    ·rename_i n5
     split at hs
     ·
      rename_i h6
      have hk:=sy k h6
      rw [hk] at h6 ⊢
      simp only [Bool.and_eq_true,decide_eq_true_eq] at hs
      obtain ⟨⟨hw,rfl,rfl,rfl⟩,hc⟩:=hs
      have ew:=jd hw
      simp only [ff,decide_eq_true_eq] at hc
      have e:aK 25 w dst src 0 0 0 cc=cf (decide (w=64)) dst src false++ [15,64+cc,bT dst src]:=by
       simp [aK,show ax 25=6 from rfl]
      rw [e,List.append_assoc,List.cons_append,List.cons_append,List.cons_append,List.nil_append,fj d0 d1 s0 s1 (by decide) (by decide)]
      have c1:¬64+cc=175:=by omega
      have c2:64≤64+cc∧64+cc≤79:=by omega
      simp only [iJ,if_true,Bf,hd,List.headD_cons,List.drop_succ_cons,List.drop_zero,if_neg c1,if_pos c2]
      rw [pj d0 d1 s0 s1,kQ d0 d1 s0 s1,ew]
      congr 1
      omega
     ·rename_i n6
      split at hs
      ·
       rename_i h7
       have hk:=sw k h7
       rw [hk] at h7 ⊢
       simp only [Bool.and_eq_true,decide_eq_true_eq] at hs
       obtain ⟨hw,rfl,rfl,rfl⟩:=hs
       have e:aK 26 w dst 0 base aa 0 0=cf (decide (w=64)) dst base false++((if w=8 then [15,182] else if w=16 then [15,183] else [139])++cR dst base aa):=by
        simp [aK,show ax 26=7 from rfl]
       rw [e]
       rcases fZ hw with rfl|rfl|rfl|rfl
       ·rw [if_pos rfl,List.append_assoc,List.append_assoc,List.cons_append,fj d0 d1 b0 b1 (by decide) (by decide)]
        simp only [iJ,if_true,Bf,List.cons_append,List.nil_append]
        have g:hd (182::(cR dst base aa++t))=182:=rfl
        simp only [g,List.drop_one,List.tail_cons,iB,iV,dL p0 p1,iU d0 d1,ky b0 b1]
        rfl
       ·rw [if_neg (by decide),if_pos rfl,List.append_assoc,List.append_assoc,List.cons_append,fj d0 d1 b0 b1 (by decide) (by decide)]
        simp only [iJ,if_true,Bf,List.cons_append,List.nil_append]
        have g:hd (183::(cR dst base aa++t))=183:=rfl
        simp only [g,List.drop_one,List.tail_cons,iB,iV,dL p0 p1,iU d0 d1,ky b0 b1]
        rfl
       ·rw [if_neg (by decide),if_neg (by decide),List.append_assoc,List.append_assoc,List.cons_append,List.nil_append,fj d0 d1 b0 b1 (by decide) (by decide)]
        simp only [iJ,iB,iV,dL p0 p1,iU d0 d1,ky b0 b1]
        rfl
       ·rw [if_neg (by decide),if_neg (by decide),List.append_assoc,List.append_assoc,List.cons_append,List.nil_append,fj d0 d1 b0 b1 (by decide) (by decide)]
        simp only [iJ,iB,iV,dL p0 p1,iU d0 d1,ky b0 b1]
        rfl
      ·rename_i n7
       split at hs
       ·
        rename_i h8
        have hk:=sv k h8
        rw [hk] at h8 ⊢
        simp only [Bool.and_eq_true,decide_eq_true_eq] at hs
        obtain ⟨hw,rfl,rfl,rfl⟩:=hs
        have e:aK 27 w 0 src base aa 0 0=(if w=16 then [102] else [])++(cf (decide (w=64)) src base (decide (w=8))++((if w=8 then [136] else [137])++cR src base aa)):=by
         simp [aK,show ax 27=8 from rfl]
        rw [e]
        have ml:= @F4 src base
        rcases fZ hw with rfl|rfl|rfl|rfl
        ·rw [if_neg (by decide),if_pos rfl,List.nil_append,List.append_assoc,List.append_assoc,List.cons_append,List.nil_append,fj s0 s1 b0 b1 (by decide) (by decide)]
         simp only [iJ,iB,iV,dL p0 p1,iU s0 s1,ky b0 b1]
         rfl
        ·rw [if_pos rfl,if_neg (by decide),List.append_assoc,List.append_assoc,List.append_assoc,List.cons_append,List.cons_append,List.nil_append,List.nil_append,Dh s0 s1 b0 b1 (by decide)]
         simp only [iJ,iB,iV,dL p0 p1,iU s0 s1,ky b0 b1,ml,and_true]
         rfl
        ·rw [if_neg (by decide),if_neg (by decide),List.nil_append,List.append_assoc,List.append_assoc,List.cons_append,List.nil_append,fj s0 s1 b0 b1 (by decide) (by decide)]
         simp only [iJ,iB,iV,dL p0 p1,iU s0 s1,ky b0 b1,ml,and_true]
         rfl
        ·rw [if_neg (by decide),if_neg (by decide),List.nil_append,List.append_assoc,List.append_assoc,List.cons_append,List.nil_append,fj s0 s1 b0 b1 (by decide) (by decide)]
         simp only [iJ,iB,iV,dL p0 p1,iU s0 s1,ky b0 b1,ml,and_true]
         rfl
       ·rename_i n8
        split at hs
        ·
         rename_i h9
         have hk:=su k h9
         rw [hk] at h9 ⊢
         simp only [Bool.and_eq_true,decide_eq_true_eq,nJ] at hs
         obtain ⟨hw,rfl,rfl,rfl,rfl,rfl⟩:=hs
         have e:aK 28 w 0 0 0 0 af 0=if w=8 then [235,af%256] else 233::bB af:=by
          simp [aK,show ax 28=9 from rfl]
         rw [e]
         rcases hw with rfl|⟨rfl,j0,j1⟩
         ·rw [if_neg (by decide),List.cons_append,jz (by decide) (by decide)]
          simp only [iJ,dL i0 i1]
          rfl
         ·rw [if_pos rfl,List.cons_append,jz (by decide) (by decide)]
          have g:hd ([af%256]++t)=af%256:=rfl
          simp only [iJ,g,mq j0 j1]
          rfl
        ·rename_i n9
         split at hs
         ·
          rename_i h10
          have hk:=o5 k h10
          rw [hk] at h10 ⊢
          simp only [Bool.and_eq_true,decide_eq_true_eq,nJ] at hs
          obtain ⟨⟨hw,rfl,rfl,rfl,rfl⟩,hc⟩:=hs
          simp only [ff,decide_eq_true_eq] at hc
          have e:aK 29 w 0 0 0 0 af cc=if w=8 then [112+cc,af%256] else 15::(128+cc)::bB af:=by
           simp [aK,show ax 29=10 from rfl]
          rw [e]
          rcases hw with rfl|⟨rfl,j0,j1⟩
          ·rw [if_neg (by decide),List.cons_append,List.cons_append,jz (by decide) (by decide)]
           have g:hd ((128+cc)::(bB af++t))=128+cc:=rfl
           simp only [iJ,if_true,Bf,g,List.drop_one,List.tail_cons,dL i0 i1]
           rw [if_neg (by omega),if_neg (by omega),if_pos (by omega)]
           congr 1
           omega
          ·rw [if_pos rfl,List.cons_append,jz (by omega) (by omega)]
           have g:hd ([af%256]++t)=af%256:=rfl
           simp only [iJ,g,mq j0 j1]
           rw [if_neg (by omega),if_neg (by omega),if_pos (by omega)]
           congr 1
           omega
         ·rename_i n10
          split at hs
          ·rename_i h11
           simp only [decide_eq_true_eq] at hs
           obtain ⟨rfl,rfl,rfl,rfl,rfl,rfl,rfl⟩:=hs
           rcases oZ k h11 with hk|hk<;>rw [hk]
           ·have e:aK 30 0 0 0 0 0 0 0= [195]:=rfl
            rw [e,List.cons_append,jz (by decide) (by decide)]
            rfl
           ·have e:aK 31 0 0 0 0 0 0 0= [15,5]:=rfl
            rw [e,List.cons_append,jz (by decide) (by decide)]
            rfl
          ·cases hs
theorem gy {d:Int} (h0:0≤d) (h1:d≤15):∃n:Fin 16,d=(n.val:Int):=⟨⟨d.toNat,by omega⟩,by simp;omega⟩
theorem yo {r m:Int} (r0:0≤r) (r1:r≤15) (m0:0≤m) (m1:m≤15):(IntKind.i8.wrap ((BitVec.ofInt 8 (IntKind.i8.wrap ((BitVec.ofInt 8 r|||BitVec.ofInt 8 m).toNat:Int))&&&BitVec.ofInt 8 8).toNat:Int) !=0)=decide (8≤r∨8≤m):=by
 obtain ⟨n,rfl⟩:=gy r0 r1
 obtain ⟨k,rfl⟩:=gy m0 m1
 clear r0 r1 m0 m1
 revert n k
 decide+kernel
theorem fg {r:Int} (r0:0≤r) (r1:r≤15):bl r=true:=by simp [bl,r0,r1]
theorem B4 {r m:Int} (r0:0≤r) (r1:r≤15) (m0:0≤m) (m1:m≤15):IntKind.u8.wrap ((BitVec.ofInt 8 (IntKind.u8.wrap ((BitVec.ofInt 8 64|||BitVec.ofInt 8 (4*(r / 8))).toNat:Int))|||BitVec.ofInt 8 (m / 8)).toNat:Int)=e7 false r m:=by
 obtain ⟨n,rfl⟩:=gy r0 r1
 obtain ⟨k,rfl⟩:=gy m0 m1
 clear r0 r1 m0 m1
 revert n k
 decide+kernel
theorem B3 {r m:Int} (r0:0≤r) (r1:r≤15) (m0:0≤m) (m1:m≤15):IntKind.u8.wrap ((BitVec.ofInt 8 (IntKind.u8.wrap ((BitVec.ofInt 8 (IntKind.u8.wrap ((BitVec.ofInt 8 64|||BitVec.ofInt 8 (4*(r / 8))).toNat:Int))|||BitVec.ofInt 8 (m / 8)).toNat:Int))|||BitVec.ofInt 8 8).toNat:Int)=e7 true r m:=by
 obtain ⟨n,rfl⟩:=gy r0 r1
 obtain ⟨k,rfl⟩:=gy m0 m1
 clear r0 r1 m0 m1
 revert n k
 decide+kernel
theorem Hk (a:Int):((BitVec.ofInt 8 a&&&BitVec.ofInt 8 7).toNat:Int)=a%8:=by have:=and_ones 8 3 (by omega) a;exact this
theorem GN {b:Int} (h:decide (b%8=4)=true):(IntKind.i8.wrap ((BitVec.ofInt 8 b&&&BitVec.ofInt 8 7).toNat:Int)==4)=true:=by
 rw [Hk,ke];simp at h ⊢;omega
theorem GO {b:Int} (h:decide (b%8=4)=false):(IntKind.i8.wrap ((BitVec.ofInt 8 b&&&BitVec.ofInt 8 7).toNat:Int)==4)=false:=by
 rw [Hk,ke];simp at h ⊢;omega
theorem Ir (a:Int):a.fdiv 1=a:=by rw [Int.fdiv_eq_ediv_of_nonneg _ (by decide)];omega
theorem Hb (a:Int):a.fdiv 256=a / 256:=Int.fdiv_eq_ediv_of_nonneg _ (by decide)
theorem EA (a:Int):a.fdiv 65536=a / 65536:=Int.fdiv_eq_ediv_of_nonneg _ (by decide)
theorem wW (a:Int):a.fdiv 16777216=a / 16777216:=Int.fdiv_eq_ediv_of_nonneg _ (by decide)
theorem mn {r:Int} (r0:0≤r) (r1:r≤15):IntKind.u8.wrap ((BitVec.ofInt 8 184|||BitVec.ofInt 8 (IntKind.u8.wrap (IntKind.i8.wrap ((BitVec.ofInt 8 r&&&BitVec.ofInt 8 7).toNat:Int)))).toNat:Int)=184+r%8:=by
 obtain ⟨n,rfl⟩:=gy r0 r1
 clear r0 r1
 revert n
 decide+kernel
theorem bu (a b:Int):(a==b)=decide (a=b):=by
 rw [Bool.eq_iff_iff];simp
def dz (op w dst src base aa af cc:Int):Int:=((qd op w dst src base aa af cc).length:Nat)
theorem p7:∀n:Fin 32,(0≤bc (n.val:Int)∧bc (n.val:Int)≤255)∧0≤cq (n.val:Int)∧cq (n.val:Int)≤7:=by decide+kernel
theorem xy {op:Int} (h:ax op≠0):(0≤bc op∧bc op≤255)∧0≤cq op∧cq op≤7:=by
 obtain ⟨n,rfl⟩:=sG h
 exact p7 n
theorem Ek {sh w dst src base aa af cc:Int} (hs:hN sh w dst src base aa af cc=true):0≤cc∧cc≤15:=by
 unfold hN at hs
 repeat' split at hs
 all_goals first|(cases hs;done)|(simp only [ff,Bool.and_eq_true,decide_eq_true_eq] at hs;omega)
def jl (l:List Int):Prop:= ∀b∈l,0≤b∧b≤255
theorem jl.nil:jl []:=by intro b hb;cases hb
theorem jl.cons {x:Int} {l:List Int} (h0:0≤x) (h1:x≤255) (h:jl l):jl (x::l):=by
 intro b hb
 rcases List.mem_cons.1 hb with e|hb
 ·subst e;exact ⟨h0,h1⟩
 ·exact h b hb
theorem jl.app {a b:List Int} (h:jl a) (k:jl b):jl (a++b):=fun x hx=>(List.mem_append.1 hx).elim (h x) (k x)
theorem jl.ite {c:Prop} [Decidable c] {a b:List Int} (h:c→jl a) (k:¬c→jl b):jl (if c then a else b):=by
 split
 ·exact h ‹_›
 ·exact k ‹_›
theorem jl.four (n:Int):jl (bB n):=by
 unfold bB
 exact .cons (by omega) (by omega) (.cons (by omega) (by omega) (.cons (by omega) (by omega) (.cons (by omega) (by omega) .nil)))
theorem jl.wa {wd al:Bool} {r m:Int} (h1:0≤r) (h2:r≤15) (h3:0≤m) (h4:m≤15):jl (cf wd r m al):=by
 unfold cf
 refine .ite (fun _=> ?_) (fun _=> .nil)
 unfold e7
 cases wd
 ·exact .cons (by simp;omega) (by simp;omega) .nil
 ·exact .cons (by simp;omega) (by simp;omega) .nil
theorem pk (r m:Int):0≤bT r m∧bT r m≤255:=by unfold bT;omega
theorem jl.mem (r b n:Int):jl (cR r b n):=by
 unfold cR
 exact .ite (fun _=> .cons (by omega) (by omega) (.cons (by omega) (by omega) (.four n))) (fun _=> .cons (by omega) (by omega) (.four n))
theorem tK {op w dst src base aa af cc:Int} (h:cg op w dst src base aa af cc=true):jl (aK op w dst src base aa af cc):=by
 obtain ⟨⟨d0,d1,s0,s1,b0,b1,p0,p1,i0,i1⟩,hs⟩:=dv h
 have hsh:ax op≠0:=by
  intro e
  rw [e] at hs
  simp [hN] at hs
 obtain ⟨⟨c0,c1⟩,n0,n1⟩:=xy hsh
 obtain ⟨k0,k1⟩:=Ek hs
 have rg:=fun r m=>(pk r m).1
 have rg':=fun r m=>(pk r m).2
 unfold aK
 refine .ite (fun _=> .app (.wa s0 s1 d0 d1) (.cons c0 c1 (.cons (rg _ _) (rg' _ _) .nil))) fun _=> ?_
 refine .ite (fun _=> .app (.wa d0 d1 s0 s1) (.cons (by omega) (by omega) (.cons c0 c1 (.cons (rg _ _) (rg' _ _) .nil)))) fun _=> ?_
 refine .ite (fun _=> .app (.wa d0 d1 s0 s1) (.cons (by omega) (by omega) (.cons (by omega) (by omega) (.cons (rg _ _) (rg' _ _) .nil)))) fun _=> ?_
 refine .ite (fun _=> .ite (fun _=> .app (.wa (by omega) (by omega) d0 d1) (.cons (by omega) (by omega) (.four _))) (fun _=> .app (.wa (by omega) (by omega) d0 d1) (.cons c0 c1 (.cons (rg _ _) (rg' _ _) (.four _))))) fun _=> ?_
 refine .ite (fun _=> .app (.wa (by omega) (by omega) d0 d1) (.cons c0 c1 (.cons (rg _ _) (rg' _ _) (.cons (by omega) (by omega) .nil)))) fun _=> ?_
 refine .ite (fun _=> .app (.wa (by omega) (by omega) d0 d1) (.cons c0 c1 (.cons (rg _ _) (rg' _ _) .nil))) fun _=> ?_
 refine .ite (fun _=> .app (.wa d0 d1 b0 b1) (.app (.ite (fun _=> .cons (by omega) (by omega) (.cons (by omega) (by omega) .nil)) fun _=> .ite (fun _=> .cons (by omega) (by omega) (.cons (by omega) (by omega) .nil)) fun _=> .cons (by omega) (by omega) .nil) (.mem _ _ _))) fun _=> ?_
 refine .ite (fun _=> .app (.ite (fun _=> .cons (by omega) (by omega) .nil) fun _=> .nil) (.app (.wa s0 s1 b0 b1) (.app (.ite (fun _=> .cons (by omega) (by omega) .nil) fun _=> .cons (by omega) (by omega) .nil) (.mem _ _ _)))) fun _=> ?_
 refine .ite (fun _=> .ite (fun _=> .cons (by omega) (by omega) (.cons (by omega) (by omega) .nil)) fun _=> .cons (by omega) (by omega) (.four _)) fun _=> ?_
 refine .ite (fun _=> .ite (fun _=> .cons (by omega) (by omega) (.cons (by omega) (by omega) .nil)) fun _=> .cons (by omega) (by omega) (.cons (by omega) (by omega) (.four _))) fun _=> ?_
 exact .ite (fun _=> .cons (by omega) (by omega) (.cons (by omega) (by omega) .nil)) fun _=> .cons (by omega) (by omega) .nil
theorem Gs:∀ {a b:List Int},(∀x∈a,0≤x∧x≤255)→(∀x∈b,0≤x∧x≤255)→(je (bD a)).toList=(je (bD b)).toList→a=b:=by
 intro a b ha hb h
 have e:∀l:List Int,(je (bD l)).toList=l.map fun n=>UInt8.ofNat n.toNat:=by
  intro l
  unfold je
  rw [ByteArray.toList_eq]
  simp [bD,byteOf,Function.comp_def]
 rw [e,e] at h
 clear e
 induction a generalizing b with
 |nil=>cases b with
  |nil=>rfl
  |cons y b=>simp at h
 |cons x a ih=>cases b with
  |nil=>simp at h
  |cons y b=>
   simp only [List.map_cons,List.cons.injEq] at h
   have h1:=ha x (by simp)
   have h2:=hb y (by simp)
   have:x=y:=by
    have:=congrArg UInt8.toNat h.1
    simp at this
    omega
   rw [this,ih (fun z hz=>ha z (by simp [hz])) (fun z hz=>hb z (by simp [hz])) h.2]
structure au where
  w:Int
  dQ:Bool
  code:Int
  r:Int
  m:Int
  aa:Int
  af:Int
  small:Int
  eE:Int
  e9:Int
  high:Int
def fh (b:List Int) (i:Nat):Int:=b.getD i 0
def fM (b:List Int) (i:Nat):Int:=if b.length<i+4 then 0 else vQ (b.drop i)
def fB (b:List Int):Nat:=
  match b with
  | []=>0
  |a::t=>
    if a / 64=3 then 1
    else if a / 64=2 then
      if a%8=4 then (if 5≤t.length∧hd t=36 then 6 else 0) else (if 4≤t.length then 5 else 0)
    else 0
def hY (b:List Int):Int:=if fB b=0 then 0 else hd b / 8%8
def hZ (b:List Int):Int:=if fB b=0 then 0 else hd b%8
def jm (b:List Int):Int:=if fB b≤1 then 0 else vQ (b.drop (fB b - 4))
def hJ (b:List Int):Int:=if fB b=0 then 30 else 0
def aU (w regs high:Int) (dQ:Bool) (code:Int) (v:List Int):au:=
  ⟨w,dQ,code,hY v+regs,hZ v+high,jm v,fM v (fB v),fh v (fB v),fM v 0,dw (fh v 0),high⟩
def fE (w regs high:Int):List Int→Option au
  | []=>none
  |c::v=>if c=15 then (match v with| []=>some (aU w regs high false 15 [])|d::z=>some (aU w regs high true d z)) else some (aU w regs high false c v)
def iL (h:Int):Bool:=decide (h / 16=4∧h / 2%2=0)
def e8 (w:Int):List Int→Option au
  | []=>none
  |h::u=>if iL h then fE (if h / 8%2=1 then 64 else w) (h / 4%2*8) (h%2*8) u else fE w 0 0 (h::u)
def jx (b:List Int):Option au:=if hd b=102 then e8 16 (b.drop 1) else e8 32 b
def kH (s:au) (op sh:Int):XS:=
  if sh=1 then ⟨op,s.w,s.m,s.r,0,0,0,0⟩
  else if sh=2 then ⟨op,s.w,s.r,s.m,0,0,0,0⟩
  else if sh=3 then (if op=1∧184≤s.code∧s.code<192 then ⟨op,s.w,s.code%8+s.high,0,0,0,s.eE,0⟩ else ⟨op,s.w,s.m,0,0,0,s.af,0⟩)
  else if sh=4 then ⟨op,s.w,s.m,0,0,0,s.small,0⟩
  else if sh=5 then ⟨op,s.w,s.m,0,0,0,0,0⟩
  else if sh=6 then ⟨op,s.w,s.r,s.m,0,0,0,dw (s.code - bc op)⟩
  else if sh=7 then ⟨op,if s.dQ then (if s.code%2=1 then 16 else 8) else s.w,s.r,0,s.m,s.aa,0,0⟩
  else if sh=8 then ⟨op,if s.code=136 then 8 else s.w,0,s.r,s.m,s.aa,0,0⟩
  else if sh=9∨sh=10 then
    (if s.dQ=false∧s.code≠233 then ⟨op,8,0,0,0,0,s.e9,if sh=10 then s.code%16 else 0⟩ else ⟨op,32,0,0,0,0,s.eE,if sh=10 then s.code%16 else 0⟩)
  else if sh=11 then ⟨op,0,0,0,0,0,0,0⟩
  else ⟨op,s.w,0,0,0,0,0,0⟩
def eg (s:au) (op:Int):XS:=kH s op (ax op)
theorem pr {wide al:Bool} {r m c w:Int} {t:List Int} (r0:0≤r) (r1:r≤15) (m0:0≤m) (m1:m≤15) (hc:¬(64≤c∧c≤79)):e8 w (cf wide r m al++c::t)=fE (if wide then 64 else w) (8*(r / 8)) (8*(m / 8)) (c::t):=by
 unfold cf
 split
 ·simp only [List.cons_append,List.nil_append,e8]
  have hq:iL (e7 wide r m)=true:=by
   simp only [iL,e7,decide_eq_true_eq]
   cases wide<;>simp<;>omega
  rw [if_pos hq]
  have h1:e7 wide r m / 4%2*8=8*(r / 8):=by simp only [e7];cases wide<;>simp<;>omega
  have h2:e7 wide r m%2*8=8*(m / 8):=by simp only [e7];cases wide<;>simp<;>omega
  have h3:(if e7 wide r m / 8%2=1 then (64:Int) else w)=if wide then 64 else w:=by
   have h4:e7 wide r m / 8%2=if wide then 1 else 0:=by simp only [e7];cases wide<;>simp<;>omega
   rw [h4]
   cases wide<;>simp
  rw [h1,h2,h3]
 ·rename_i h
  simp only [dB,Bool.or_eq_true,decide_eq_true_eq,not_or,Bool.not_eq_true] at h
  have hq:¬iL c=true:=by simp only [iL,decide_eq_true_eq];omega
  have h1:r / 8=0:=by omega
  have h2:m / 8=0:=by omega
  simp only [List.nil_append,e8,if_neg hq,h1,h2,h.1.1]
  simp
theorem fi {wide al:Bool} {r m c:Int} {t:List Int} (r0:0≤r) (r1:r≤15) (m0:0≤m) (m1:m≤15) (hc:¬(64≤c∧c≤79)) (h2:c≠102):jx (cf wide r m al++c::t)=fE (if wide then 64 else 32) (8*(r / 8)) (8*(m / 8)) (c::t):=by
 unfold jx
 rw [if_neg (C2 r0 r1 m0 m1 h2),pr r0 r1 m0 m1 hc]
theorem Cg {wide al:Bool} {r m c:Int} {t:List Int} (r0:0≤r) (r1:r≤15) (m0:0≤m) (m1:m≤15) (hc:¬(64≤c∧c≤79)):jx (102::(cf wide r m al++c::t))=fE (if wide then 64 else 16) (8*(r / 8)) (8*(m / 8)) (c::t):=by
 unfold jx
 rw [if_pos (show hd (102::(cf wide r m al++c::t))=102 from rfl),List.drop_one,List.tail_cons,pr r0 r1 m0 m1 hc]
theorem jw {c:Int} {t:List Int} (hc:¬(64≤c∧c≤79)) (h2:c≠102):jx (c::t)=fE 32 0 0 (c::t):=by
 unfold jx
 have hq:¬iL c=true:=by simp only [iL,decide_eq_true_eq];omega
 rw [if_neg (by simpa [hd] using h2)]
 simp only [e8,if_neg hq]
theorem cz {w R M c:Int} {v:List Int} (hc:c≠15):fE w R M (c::v)=some (aU w R M false c v):=by
 simp only [fE,if_neg hc]
theorem fS {w R M d:Int} {z:List Int} :fE w R M (15::d::z)=some (aU w R M true d z):=rfl
theorem ou {r m:Int} {t:List Int} (r0:0≤r) (m0:0≤m):fB (bT r m::t)=1:=by
 simp only [fB]
 rw [if_pos (by simp only [bT];omega)]
theorem sP {r m:Int} {t:List Int} (r0:0≤r) (m0:0≤m):hY (bT r m::t)=r%8:=by
 simp only [hY,ou r0 m0]
 rw [if_neg (by decide)]
 simp only [hd,List.headD_cons,bT]
 omega
theorem kV {r m:Int} {t:List Int} (r0:0≤r) (m0:0≤m):hZ (bT r m::t)=m%8:=by
 simp only [hZ,ou r0 m0]
 rw [if_neg (by decide)]
 simp only [hd,List.headD_cons,bT]
 omega
theorem sS {r b aa:Int} {t:List Int} :fB (cR r b aa++t)=if b%8=4 then 6 else 5:=by
 unfold cR
 split
 ·rename_i h
  simp only [List.cons_append,fB]
  rw [if_neg (by omega),if_pos (by omega),if_pos (by omega),if_pos (by simp [bB,hd])]
 ·rename_i h
  simp only [List.cons_append,fB]
  rw [if_neg (by omega),if_pos (by omega),if_neg (by omega),if_pos (by simp [bB])]
theorem yp {r b aa:Int} {t:List Int} :hY (cR r b aa++t)=r%8:=by
 simp only [hY,sS,iB]
 rw [if_neg (by split<;>decide)]
 omega
theorem yr {r b aa:Int} {t:List Int} :hZ (cR r b aa++t)=b%8:=by
 simp only [hZ,sS,iB]
 rw [if_neg (by split<;>decide)]
 omega
theorem yq {r b aa:Int} {t:List Int} (h0: -2147483648≤aa) (h1:aa≤2147483647):jm (cR r b aa++t)=aa:=by
 simp only [jm,sS]
 rw [if_neg (by split<;>decide)]
 unfold cR
 split
 ·simp only [List.cons_append,List.drop_succ_cons,List.drop_zero]
  exact dL h0 h1
 ·simp only [List.cons_append,List.drop_succ_cons,List.drop_zero]
  exact dL h0 h1
theorem sl {n:Int} {t:List Int} (h0: -2147483648≤n) (h1:n≤2147483647):fM (bB n++t) 0=n:=by
 simp only [fM,List.drop_zero]
 rw [if_neg (by simp [bB]),dL h0 h1]
theorem BG {x n:Int} {t:List Int} (h0: -2147483648≤n) (h1:n≤2147483647):fM (x::(bB n++t)) 1=n:=by
 simp only [fM,List.drop_succ_cons,List.drop_zero]
 rw [if_neg (by simp [bB]),dL h0 h1]
theorem AM {r:Int} (r0:0≤r) (r1:r≤15):r%8+8*(r / 8)=r:=by omega
theorem Ch {op w dst src base aa af cc:Int} (h:cg op w dst src base aa af cc=true) (t:List Int):∃s,jx (aK op w dst src base aa af cc++t)=some s∧eg s op=⟨op,w,dst,src,base,aa,af,cc⟩:=by
 obtain ⟨⟨d0,d1,s0,s1,b0,b1,p0,p1,i0,i1⟩,hs⟩:=dv h
 have hsh:ax op≠0:=by
  intro e
  rw [e] at hs
  simp [hN] at hs
 obtain ⟨k,rfl⟩:=sG hsh
 unfold hN at hs
 split at hs
 ·rename_i h12
  simp only [Bool.and_eq_true,decide_eq_true_eq] at hs
  obtain ⟨hw,rfl,rfl,rfl,rfl⟩:=hs
  have ew:=jd hw
  rcases h12 with h1|h1
  ·
   obtain ⟨c1,c2,c3,c4,c5,c6,c7,c8,c9,c10,c11⟩:=p8 k h1
   have e:aK (k.val:Int) w dst src 0 0 0 0=cf (decide (w=64)) src dst false++ [bc (k.val:Int),bT src dst]:=by simp only [aK,h1,if_true]
   rw [e,List.append_assoc,List.cons_append,List.cons_append,List.nil_append,fi s0 s1 d0 d1 c2 c3,cz c1]
   refine ⟨_,rfl,?_⟩
   simp only [eg,h1,kH,if_true,aU,sP s0 d0,kV s0 d0,AM s0 s1,AM d0 d1,ew]
  ·
   have hk:(k.val:Int)=16:=by
    have:=gK (op:=(k.val:Int)) (by omega)
    revert h1
    rcases this with e|e|e|e|e|e|e|e|e|e|e|e|e|e|e|e|e|e|e|e|e|e|e|e|e|e|e|e|e|e|e|e<;>rw [e]<;>decide
   rw [hk]
   have e:aK 16 w dst src 0 0 0 0=cf (decide (w=64)) dst src false++ [15,175,bT dst src]:=by
    simp only [aK,show ax 16=2 from rfl,show bc 16=175 from rfl,if_true,show ¬(2:Int)=1 by decide,if_false]
   rw [e,List.append_assoc,List.cons_append,List.cons_append,List.cons_append,List.nil_append,fi d0 d1 s0 s1 (by decide) (by decide),fS]
   refine ⟨_,rfl,?_⟩
   simp only [eg,show ax 16=2 from rfl,kH,if_true,show ¬(2:Int)=1 by decide,if_false,aU,sP d0 s0,kV d0 s0,AM s0 s1,AM d0 d1,ew]
 ·rename_i n12
  have n1:¬ax (k.val:Int)=1:=fun e=>n12 (.inl e)
  have n2:¬ax (k.val:Int)=2:=fun e=>n12 (.inr e)
  split at hs
  ·
   rename_i h3
   simp only [Bool.and_eq_true,decide_eq_true_eq] at hs
   obtain ⟨hw,rfl,rfl,rfl,rfl⟩:=hs
   have ew:=jd hw
   by_cases hm:(k.val:Int)=1∧w=32
   ·obtain ⟨hm,rfl⟩:=hm
    have e:aK (k.val:Int) 32 dst 0 0 0 af 0=cf false 0 dst false++((184+dst%8)::bB af):=by
     rw [hm]
     simp [aK,show ax 1=3 from rfl]
    rw [e,List.append_assoc,List.cons_append,fi (by omega) (by omega) d0 d1 (by omega) (by omega),cz (by omega)]
    refine ⟨_,rfl,?_⟩
    rw [hm]
    simp only [eg,show ax 1=3 from rfl,kH,show ¬(3:Int)=1 by decide,show ¬(3:Int)=2 by decide,if_false,if_true,aU,sl i0 i1,true_and,Bool.false_eq_true]
    rw [if_pos (by omega)]
    congr 1
    omega
   ·obtain ⟨c1,c2,c3,c4,c5,c6,c7,c8,c9,c10,c11,c12,u0,u1⟩:=gV k (.inl h3)
    have e:aK (k.val:Int) w dst 0 0 0 af 0=cf (decide (w=64)) 0 dst false++(bc (k.val:Int)::bT (cq (k.val:Int)) dst::bB af):=by
     simp only [aK,h3,if_neg hm,show ¬(3:Int)=1 by decide,show ¬(3:Int)=2 by decide,show ¬(3:Int)=6 by decide,if_false,if_true]
    rw [e,List.append_assoc,List.cons_append,List.cons_append,fi (by omega) (by omega) d0 d1 c2 c3,cz c1]
    refine ⟨_,rfl,?_⟩
    have c4':¬((k.val:Int)=1∧184≤bc (k.val:Int)∧bc (k.val:Int)<192):=by omega
    simp only [eg,h3,kH,show ¬(3:Int)=1 by decide,show ¬(3:Int)=2 by decide,if_false,if_true,aU,if_neg c4',ou u0 d0,kV u0 d0,BG i0 i1,AM d0 d1,ew]
  ·rename_i n3
   split at hs
   ·
    rename_i h4
    simp only [Bool.and_eq_true,decide_eq_true_eq] at hs
    obtain ⟨hw,rfl,rfl,rfl,rfl,j0,j1⟩:=hs
    have ew:=jd hw
    have hw':=jN hw
    obtain ⟨c1,c2,c3,c4,c5,c6,c7,c8,c9,c10,c11,c12,u0,u1⟩:=gV k (.inr (.inl h4))
    have e:aK (k.val:Int) w dst 0 0 0 af 0=cf (decide (w=64)) 0 dst false++ [bc (k.val:Int),bT (cq (k.val:Int)) dst,af%256]:=by
     simp only [aK,h4,show ¬(4:Int)=1 by decide,show ¬(4:Int)=2 by decide,show ¬(4:Int)=6 by decide,show ¬(4:Int)=3 by decide,if_false,if_true]
    rw [e,List.append_assoc,List.cons_append,List.cons_append,List.cons_append,List.nil_append,fi (by omega) (by omega) d0 d1 c2 c3,cz c1]
    refine ⟨_,rfl,?_⟩
    have g:fh (bT (cq (k.val:Int)) dst::af%256::t) 1=af:=by
     show af%256=af
     omega
    simp only [eg,h4,kH,show ¬(4:Int)=1 by decide,show ¬(4:Int)=2 by decide,show ¬(4:Int)=3 by decide,if_false,if_true,aU,ou u0 d0,kV u0 d0,g,AM d0 d1,ew]
   ·rename_i n4
    split at hs
    ·
     rename_i h5
     simp only [Bool.and_eq_true,decide_eq_true_eq] at hs
     obtain ⟨hw,rfl,rfl,rfl,rfl,rfl⟩:=hs
     have ew:=jd hw
     obtain ⟨c1,c2,c3,c4,c5,c6,c7,c8,c9,c10,c11,c12,u0,u1⟩:=gV k (.inr (.inr h5))
     have e:aK (k.val:Int) w dst 0 0 0 0 0=cf (decide (w=64)) 0 dst false++ [bc (k.val:Int),bT (cq (k.val:Int)) dst]:=by
      simp only [aK,h5,show ¬(5:Int)=1 by decide,show ¬(5:Int)=2 by decide,show ¬(5:Int)=6 by decide,show ¬(5:Int)=3 by decide,show ¬(5:Int)=4 by decide,if_false,if_true]
     rw [e,List.append_assoc,List.cons_append,List.cons_append,List.nil_append,fi (by omega) (by omega) d0 d1 c2 c3,cz c1]
     refine ⟨_,rfl,?_⟩
     simp only [eg,h5,kH,show ¬(5:Int)=1 by decide,show ¬(5:Int)=2 by decide,show ¬(5:Int)=3 by decide,show ¬(5:Int)=4 by decide,if_false,if_true,aU,kV u0 d0,AM d0 d1,ew]
    ·rename_i n5
     split at hs
     ·
      rename_i h6
      have hk:=sy k h6
      rw [hk] at h6 ⊢
      simp only [Bool.and_eq_true,decide_eq_true_eq] at hs
      obtain ⟨⟨hw,rfl,rfl,rfl⟩,hc⟩:=hs
      have ew:=jd hw
      simp only [ff,decide_eq_true_eq] at hc
      have e:aK 25 w dst src 0 0 0 cc=cf (decide (w=64)) dst src false++ [15,64+cc,bT dst src]:=by
       simp [aK,show ax 25=6 from rfl]
      rw [e,List.append_assoc,List.cons_append,List.cons_append,List.cons_append,List.nil_append,fi d0 d1 s0 s1 (by decide) (by decide),fS]
      refine ⟨_,rfl,?_⟩
      have g:dw (64+cc - bc 25)=cc:=by
       show dw (64+cc - 64)=cc
       simp only [dw]
       omega
      simp only [eg,show ax 25=6 from rfl,kH,show ¬(6:Int)=1 by decide,show ¬(6:Int)=2 by decide,show ¬(6:Int)=3 by decide,show ¬(6:Int)=4 by decide,show ¬(6:Int)=5 by decide,if_false,if_true,aU,sP d0 s0,kV d0 s0,g,AM s0 s1,AM d0 d1,ew]
     ·rename_i n6
      split at hs
      ·
       rename_i h7
       have hk:=sw k h7
       rw [hk] at h7 ⊢
       simp only [Bool.and_eq_true,decide_eq_true_eq] at hs
       obtain ⟨hw,rfl,rfl,rfl⟩:=hs
       have e:aK 26 w dst 0 base aa 0 0=cf (decide (w=64)) dst base false++((if w=8 then [15,182] else if w=16 then [15,183] else [139])++cR dst base aa):=by
        simp [aK,show ax 26=7 from rfl]
       rw [e]
       have fin7:∀(lw R:Int) (dQ:Bool) (code:Int),(if dQ then (if code%2=1 then (16:Int) else 8) else R)=lw→eg (aU R (8*(dst / 8)) (8*(base / 8)) dQ code (cR dst base aa++t)) 26=⟨26,lw,dst,0,base,aa,0,0⟩:=by
        intro lw R dQ code hl
        simp only [eg,show ax 26=7 from rfl,kH,show ¬(7:Int)=1 by decide,show ¬(7:Int)=2 by decide,show ¬(7:Int)=3 by decide,show ¬(7:Int)=4 by decide,show ¬(7:Int)=5 by decide,show ¬(7:Int)=6 by decide,if_false,if_true,aU,yp,yr,yq p0 p1,AM d0 d1,AM b0 b1,hl]
       rcases fZ hw with rfl|rfl|rfl|rfl
       ·rw [if_pos rfl,List.append_assoc,List.append_assoc,List.cons_append,fi d0 d1 b0 b1 (by decide) (by decide),List.cons_append,List.nil_append,fS]
        exact ⟨_,rfl,fin7 _ _ _ _ (by decide)⟩
       ·rw [if_neg (by decide),if_pos rfl,List.append_assoc,List.append_assoc,List.cons_append,fi d0 d1 b0 b1 (by decide) (by decide),List.cons_append,List.nil_append,fS]
        exact ⟨_,rfl,fin7 _ _ _ _ (by decide)⟩
       ·rw [if_neg (by decide),if_neg (by decide),List.append_assoc,List.append_assoc,List.cons_append,List.nil_append,fi d0 d1 b0 b1 (by decide) (by decide),cz (by decide)]
        exact ⟨_,rfl,fin7 _ _ _ _ (by decide)⟩
       ·rw [if_neg (by decide),if_neg (by decide),List.append_assoc,List.append_assoc,List.cons_append,List.nil_append,fi d0 d1 b0 b1 (by decide) (by decide),cz (by decide)]
        exact ⟨_,rfl,fin7 _ _ _ _ (by decide)⟩
      ·rename_i n7
       split at hs
       ·
        rename_i h8
        have hk:=sv k h8
        rw [hk] at h8 ⊢
        simp only [Bool.and_eq_true,decide_eq_true_eq] at hs
        obtain ⟨hw,rfl,rfl,rfl⟩:=hs
        have e:aK 27 w 0 src base aa 0 0=(if w=16 then [102] else [])++(cf (decide (w=64)) src base (decide (w=8))++((if w=8 then [136] else [137])++cR src base aa)):=by
         simp [aK,show ax 27=8 from rfl]
        rw [e]
        have AY:∀(lw R:Int) (code:Int),(if code=136 then (8:Int) else R)=lw→eg (aU R (8*(src / 8)) (8*(base / 8)) false code (cR src base aa++t)) 27=⟨27,lw,0,src,base,aa,0,0⟩:=by
         intro lw R code hl
         simp only [eg,show ax 27=8 from rfl,kH,show ¬(8:Int)=1 by decide,show ¬(8:Int)=2 by decide,show ¬(8:Int)=3 by decide,show ¬(8:Int)=4 by decide,show ¬(8:Int)=5 by decide,show ¬(8:Int)=6 by decide,show ¬(8:Int)=7 by decide,if_false,if_true,aU,yp,yr,yq p0 p1,AM s0 s1,AM b0 b1,hl]
        rcases fZ hw with rfl|rfl|rfl|rfl
        ·rw [if_neg (by decide),if_pos rfl,List.nil_append,List.append_assoc,List.append_assoc,List.cons_append,List.nil_append,fi s0 s1 b0 b1 (by decide) (by decide),cz (by decide)]
         exact ⟨_,rfl,AY _ _ _ (by decide)⟩
        ·rw [if_pos rfl,if_neg (by decide),List.append_assoc,List.append_assoc,List.append_assoc,List.cons_append,List.cons_append,List.nil_append,List.nil_append,Cg s0 s1 b0 b1 (by decide),cz (by decide)]
         exact ⟨_,rfl,AY _ _ _ (by decide)⟩
        ·rw [if_neg (by decide),if_neg (by decide),List.nil_append,List.append_assoc,List.append_assoc,List.cons_append,List.nil_append,fi s0 s1 b0 b1 (by decide) (by decide),cz (by decide)]
         exact ⟨_,rfl,AY _ _ _ (by decide)⟩
        ·rw [if_neg (by decide),if_neg (by decide),List.nil_append,List.append_assoc,List.append_assoc,List.cons_append,List.nil_append,fi s0 s1 b0 b1 (by decide) (by decide),cz (by decide)]
         exact ⟨_,rfl,AY _ _ _ (by decide)⟩
       ·rename_i n8
        have k1:∀ {n:Int},9≤n→¬n=1:=fun h=>by omega
        split at hs
        ·
         rename_i h9
         have hk:=su k h9
         rw [hk] at h9 ⊢
         simp only [Bool.and_eq_true,decide_eq_true_eq,nJ] at hs
         obtain ⟨hw,rfl,rfl,rfl,rfl,rfl⟩:=hs
         have e:aK 28 w 0 0 0 0 af 0=if w=8 then [235,af%256] else 233::bB af:=by
          simp [aK,show ax 28=9 from rfl]
         rw [e]
         rcases hw with rfl|⟨rfl,j0,j1⟩
         ·rw [if_neg (by decide),List.cons_append,jw (by decide) (by decide),cz (by decide)]
          refine ⟨_,rfl,?_⟩
          simp [eg,show ax 28=9 from rfl,kH,aU,sl i0 i1]
         ·rw [if_pos rfl,List.cons_append,jw (by decide) (by decide),cz (by decide)]
          refine ⟨_,rfl,?_⟩
          have g:dw (fh ([af%256]++t) 0)=af:=mq j0 j1
          simp [eg,show ax 28=9 from rfl,kH,aU]
          exact g
        ·rename_i n9
         split at hs
         ·
          rename_i h10
          have hk:=o5 k h10
          rw [hk] at h10 ⊢
          simp only [Bool.and_eq_true,decide_eq_true_eq,nJ] at hs
          obtain ⟨⟨hw,rfl,rfl,rfl,rfl⟩,hc⟩:=hs
          simp only [ff,decide_eq_true_eq] at hc
          have e:aK 29 w 0 0 0 0 af cc=if w=8 then [112+cc,af%256] else 15::(128+cc)::bB af:=by
           simp [aK,show ax 29=10 from rfl]
          rw [e]
          rcases hw with rfl|⟨rfl,j0,j1⟩
          ·rw [if_neg (by decide),List.cons_append,List.cons_append,jw (by decide) (by decide),fS]
           refine ⟨_,rfl,?_⟩
           simp [eg,show ax 29=10 from rfl,kH,aU,sl i0 i1]
           omega
          ·rw [if_pos rfl,List.cons_append,jw (by omega) (by omega),cz (by omega)]
           refine ⟨_,rfl,?_⟩
           have g:dw (fh ([af%256]++t) 0)=af:=mq j0 j1
           have g2:¬112+cc=233:=by omega
           simp only [eg,show ax 29=10 from rfl,kH,aU,g]
           simp [g2]
           omega
         ·rename_i n10
          split at hs
          ·rename_i h11
           simp only [decide_eq_true_eq] at hs
           obtain ⟨rfl,rfl,rfl,rfl,rfl,rfl,rfl⟩:=hs
           rcases oZ k h11 with hk|hk<;>rw [hk]
           ·have e:aK 30 0 0 0 0 0 0 0= [195]:=rfl
            rw [e,List.cons_append,jw (by decide) (by decide),cz (by decide)]
            exact ⟨_,rfl,rfl⟩
           ·have e:aK 31 0 0 0 0 0 0 0= [15,5]:=rfl
            rw [e,List.cons_append,List.cons_append,jw (by decide) (by decide),fS]
            exact ⟨_,rfl,rfl⟩
          ·cases hs
theorem kC {d:Int} (h0:0≤d) (h1:d≤255):∃n:Fin 256,d=(n.val:Int):=⟨⟨d.toNat,by omega⟩,by simp;omega⟩
theorem AY {d:Int} (h0:0≤d) (h1:d≤7):∃n:Fin 8,d=(n.val:Int):=⟨⟨d.toNat,by omega⟩,by simp;omega⟩
theorem FL (x y:Nat) (h:y<256):(x*256)|||y=x*256+y:=by
 rw [show x*256=x<<<8 by rw [Nat.shiftLeft_eq]]
 exact (Nat.shiftLeft_add_eq_or_of_lt (i:=8) h x).symm
theorem Fk {x y:Int} (x0: -36028797018963968≤x) (x1:x<36028797018963968) (y0:0≤y) (y1:y<256):((BitVec.ofInt 64 (x*256)|||BitVec.ofInt 64 y).toNat:Int)=(x*256+y)%18446744073709551616:=by
 rw [BitVec.toNat_or,BitVec.toNat_ofInt,BitVec.toNat_ofInt]
 have hy:(y%((2^64:Nat):Int)).toNat=y.toNat:=by congr 1;omega
 have hx:((x*256)%((2^64:Nat):Int)).toNat=(x%72057594037927936).toNat*256:=by omega
 rw [hx,hy,FL _ _ (by omega)]
 omega
theorem yg {x y:Int} (x0:0≤x) (x1:x<36028797018963968) (y0:0≤y) (y1:y<256):IntKind.u64.wrap ((BitVec.ofInt 64 (IntKind.u64.wrap (x*256))|||BitVec.ofInt 64 (IntKind.u64.wrap y)).toNat:Int)=x*256+y:=by
 have e1:IntKind.u64.wrap (x*256)=x*256:=by rw [eM];omega
 have e2:IntKind.u64.wrap y=y:=by rw [eM];omega
 rw [e1,e2,Fk (by omega) x1 y0 y1,eM]
 omega
theorem wm {x y:Int} (x0: -36028797018963968≤x) (x1:x<36028797018963968) (y0:0≤y) (y1:y<256):IntKind.i64.wrap ((BitVec.ofInt 64 (IntKind.i64.wrap (x*256))|||BitVec.ofInt 64 (IntKind.i64.wrap y)).toNat:Int)=x*256+y:=by
 have e1:IntKind.i64.wrap (x*256)=x*256:=by rw [ct];omega
 have e2:IntKind.i64.wrap y=y:=by rw [ct];omega
 rw [e1,e2,Fk x0 x1 y0 y1,ct]
 omega
theorem FK {y:Int} (y0:0≤y) (y1:y<256):IntKind.u64.wrap ((BitVec.ofInt 64 0|||BitVec.ofInt 64 (IntKind.u64.wrap y)).toNat:Int)=y:=by
 have:=yg (x:=0) (y:=y) (by omega) (by omega) y0 y1
 simpa [eM] using this
theorem HG {x y:Int} (x0:0≤x) (x1:x≤7) (hy:y=0∨y=8):IntKind.i8.wrap ((BitVec.ofInt 8 x|||BitVec.ofInt 8 y).toNat:Int)=x+y:=by
 obtain ⟨n,rfl⟩:=AY x0 x1
 clear x0 x1
 rcases hy with rfl|rfl<;>(revert n;decide+kernel)
def gQ (l:List Int):Prop:= ∀x∈l,0≤x∧x≤255
theorem fW:gQ []:=fun _ h=>by cases h
theorem dW {a:Int} {l:List Int} :gQ (a::l)↔(0≤a∧a≤255)∧gQ l:=by simp [gQ]
theorem aN (l:List Int):(bD l).length=l.length:=by simp [bD]
theorem Gl {b:List Int} {i:Int} (h0:0≤i) (h1:i<((bD b).length:Int)):(bD b)[i.toNat]? =some (.int .u8 (fh b i.toNat)):=by
 rw [aN] at h1
 simp only [bD,List.getElem?_map,fh,List.getD_eq_getElem?_getD]
 have:i.toNat<b.length:=by omega
 simp [this]
theorem uI {b:List Int} {i:Int} (h:((bD b).length:Int)≤i):fh b i.toNat=0:=by
 rw [aN] at h
 simp only [fh,List.getD_eq_getElem?_getD]
 rw [List.getElem?_eq_none (by omega)]
 rfl
theorem De (a:Int):a.fdiv 64=a / 64:=Int.fdiv_eq_ediv_of_nonneg _ (by decide)
theorem Fy {v:Int} (h:v / 64=3):(v.fdiv 64==3)=true:=by rw [De,h];rfl
theorem oH {v:Int} (h:v / 64=2):(v.fdiv 64==3)=false:=by rw [De,h];rfl
theorem DM {v:Int} (h:v / 64<2):(v.fdiv 64==3)=false:=by rw [De,beq_eq_false_iff_ne];omega
theorem oI {v:Int} (h:v / 64=2):(v.fdiv 64==2)=true:=by rw [De,h];rfl
theorem Fz {v:Int} (h:v / 64<2):(v.fdiv 64==2)=false:=by rw [De,beq_eq_false_iff_ne];omega
theorem wL (v:Int):IntKind.i8.wrap (IntKind.u8.wrap ((BitVec.ofInt 8 v&&&BitVec.ofInt 8 7).toNat:Int))=v%8:=by
 rw [BitVec.toNat_and,BitVec.toNat_ofInt,BitVec.toNat_ofInt]
 have e:(v%((2^8:Nat):Int)).toNat&&&(7%((2^8:Nat):Int)).toNat=(v%256).toNat%8:=by
  have:(7%((2^8:Nat):Int)).toNat=2^3 - 1:=by decide
  rw [this,Nat.and_two_pow_sub_one_eq_mod]
  rfl
 rw [e,dt,ke]
 omega
theorem FZ {v:Int} (v0:0≤v) (v1:v≤255):IntKind.i8.wrap (IntKind.u8.wrap ((BitVec.ofInt 8 (v.fdiv 8)&&&BitVec.ofInt 8 7).toNat:Int))=v / 8%8:=by
 rw [wL,Int.fdiv_eq_ediv_of_nonneg _ (by decide)]
theorem wM {v:Int} (h:v%8=4):(IntKind.i8.wrap (IntKind.u8.wrap ((BitVec.ofInt 8 v&&&BitVec.ofInt 8 7).toNat:Int))==4)=true:=by rw [wL,h];rfl
theorem CV {v:Int} (h:¬v%8=4):(IntKind.i8.wrap (IntKind.u8.wrap ((BitVec.ofInt 8 v&&&BitVec.ofInt 8 7).toNat:Int))==4)=false:=by rw [wL,beq_eq_false_iff_ne];exact h
def cO (s:au):D:= .agg [.int .i8 s.w,.bool s.dQ,.int .u8 s.code,.int .i8 s.r,.int .i8 s.m,.int .i64 s.aa,.int .i64 s.af,.int .i64 s.small,.int .i64 s.eE,.int .i64 s.e9,.int .i8 s.high]
theorem Ce {v:List Int} (hv:gQ v) (i:Nat):0≤fh v i∧fh v i≤255:=by
 simp only [fh,List.getD_eq_getElem?_getD]
 cases e:v[i]? with
 |none=>simp
 |some x=>exact hv x (List.mem_of_getElem? e)
theorem u9 {v:List Int} (hv:gQ v):0≤hd v∧hd v≤255:=by
 cases v with
 |nil=>simp [hd]
 |cons a t=>exact hv a (by simp)
theorem qL {v:List Int} (hv:gQ v):0≤hY v∧hY v≤7:=by
 have:=u9 hv
 unfold hY
 split<;>omega
theorem qM {v:List Int} (hv:gQ v):0≤hZ v∧hZ v≤7:=by
 have:=u9 hv
 unfold hZ
 split<;>omega
theorem fU {v:List Int} (hv:gQ v) {y:Int} (hy:y=0∨y=8):IntKind.i8.wrap ((BitVec.ofInt 8 (hY v)|||BitVec.ofInt 8 y).toNat:Int)=hY v+y:=HG (qL hv).1 (qL hv).2 hy
theorem fV {v:List Int} (hv:gQ v) {y:Int} (hy:y=0∨y=8):IntKind.i8.wrap ((BitVec.ofInt 8 (hZ v)|||BitVec.ofInt 8 y).toNat:Int)=hZ v+y:=HG (qM hv).1 (qM hv).2 hy
theorem ee {v:List Int} (hv:gQ v) {h:Int} :IntKind.i8.wrap ((BitVec.ofInt 8 (hY v)|||BitVec.ofInt 8 (h / 4%2*8)).toNat:Int)=hY v+h / 4%2*8:=fU hv (by omega)
theorem ef {v:List Int} (hv:gQ v) {h:Int} :IntKind.i8.wrap ((BitVec.ofInt 8 (hZ v)|||BitVec.ofInt 8 (h%2*8)).toNat:Int)=hZ v+h%2*8:=fV hv (by omega)
theorem cZ {v:List Int} (h:¬hJ v=0):fB v=0:=by
 unfold hJ at h
 split at h
 ·assumption
 ·simp at h
theorem cn {v:List Int} (hv:gQ v) (i:Nat):IntKind.i64.wrap (fh v i)=fh v i:=by
 have:=Ce hv i
 rw [ct];omega
theorem cY {v:List Int} (i:Nat):IntKind.i64.wrap (IntKind.i8.wrap (fh v i))=dw (fh v i):=by
 rw [ct,ke,dw];omega
def lC (w high:Int):au:=⟨w,false,0,0,0,0,0,0,0,0,high⟩
theorem Gf {c h:Int} (c0:0≤c) (c1:c≤255) (hh:h=0∨h=8):IntKind.i8.wrap ((BitVec.ofInt 8 (IntKind.i8.wrap (IntKind.u8.wrap ((BitVec.ofInt 8 c&&&BitVec.ofInt 8 7).toNat:Int)))|||BitVec.ofInt 8 h).toNat:Int)=c%8+h:=by
 rw [wL]
 exact HG (by omega) (by omega) hh
theorem yx {c:Int} (c0:0≤c) (c1:c≤255):IntKind.i8.wrap (IntKind.u8.wrap ((BitVec.ofInt 8 c&&&BitVec.ofInt 8 15).toNat:Int))=c%16:=by
 obtain ⟨n,rfl⟩:=kC c0 c1
 clear c0 c1
 revert n
 decide+kernel
theorem DP {c:Int} (c0:0≤c) (c1:c≤255):IntKind.i8.wrap (8*2^(min (IntKind.u8.wrap ((BitVec.ofInt 8 c&&&BitVec.ofInt 8 1).toNat:Int)).toNat 8))=if c%2=1 then 16 else 8:=by
 obtain ⟨n,rfl⟩:=kC c0 c1
 clear c0 c1
 revert n
 decide+kernel
end Go.Ev
