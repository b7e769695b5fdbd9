import Derived.ChangeKeysEq
import Derived.KernelRfl
import Derived.Test.YtkpneibifdoecaaGreatProg
import Derived.Laws.Strings
import Derived.Test.YtkpneibifdoecaaGreatT01
import Derived.Test.YtkpneibifdoecaaGreatT02
import Derived.Test.YtkpneibifdoecaaGreatT04
open Option.some renaming inj→VA,injEq→VI
open BitVec renaming ofInt→VB
open Bool renaming and_eq_true→VG,and_true→VM,false_eq_true→Wj,not_eq_true'→Wn,or_eq_true→WL
open Go.Result renaming andThen_ok→VN
open Go.Sem renaming run_bind→VV,run_pure→V1
open Nat renaming beq_eq→VZ,beq→V2,blt_eq→WC,add_mul→WD
open Go renaming IntKind→W3
/- Contracts and plain laws that a statement's proof leans on (texts merged:EvU,MdC,de,MdZ,MdM,Az,MdW,MdF2,MdE,MdP,MdS,MdI,MdO,MdPl,FEH). -/
set_option linter.unusedVariables false
set_option linter.unusedSimpArgs false
namespace Go.Ev
open Go Go.RowKit
def qm (P:Program) (one:TypeId→Option (List LK)):List Field→Nat→Option (List LK)
  | [],_=>some []
  |f::r,off=>match !(f.name== "_")&&V2 f.offset off with
    |true=>match one f.type with
      |some ks=>match V2 ks.length (P.cellsOf f.type)&&Nat.blt 0 ks.length with
        |true=>match qm P one r (off+ks.length) with
          |some l=>some (ks++l)
          |none=>none
        |false=>none
      |none=>none
    |false=>none
def nY:Nat→List LK→List LK
  |0,_=> []
  |n+1,l=>l++nY n l
def gu (P:Program):Nat→TypeId→Option (List LK)
  |0,_=>none
  |d+1,t=>match P.underlying t with
    |some .bool=>some [.bool]
    |some (.int k)=>some [.int k]
    |some .string=>some [.str]
    |some (.struct fs)=>match P.stoodInHeld t with
      |false=>qm P (gu P d) fs.toList 0
      |true=>none
    |some (.array n e)=>match gu P d e,P.info? e with
      |some ks,some _=>match V2 ks.length (P.cellsOf e)&&Nat.blt 0 ks.length with|true=>some (nY n ks)|false=>none
      |_,_=>none
    |_=>none
def yK (P:Program) (t:TypeId) (l:List Value):Value:=match P.underlying t with
  |some e=>match cC e with
    |true=> .agg l.toArray
    |false=>l.headD .nilFunc
  |none=> .nilFunc
theorem bX:∀ {ks:List LK} {l:List Value},cB ks l→l.length=ks.length
 | [],[],_=>rfl
 |_::_,[],h=>h.elim
 | [],_::_,h=>h.elim
 |k::ks,v::l,h=>by simp [bX h.2]
theorem ei:∀ {ks Ry:List LK} {l:List Value},cB (ks++Ry) l→cB ks (l.take ks.length)∧cB Ry (l.drop ks.length)
 | [],Ry,l,h=>⟨by simp [cB],by simpa using h⟩
 |k::ks,Ry,[],h=>h.elim
 |k::ks,Ry,v::l,h=>by
  obtain ⟨h1,h2⟩:=h
  obtain ⟨a,b⟩:=ei h2
  exact ⟨⟨h1,a⟩,b⟩
theorem gN:∀(n:Nat) (l m:List Value),n≤l.length→n≤m.length→cg l m=(cg (l.take n) (m.take n)&&cg (l.drop n) (m.drop n))
 |0,l,m,_,_=>by simp [cg]
 |n+1,[],m,h,_=>by simp at h
 |n+1,_::_,[],_,h=>by simp at h
 |n+1,a::l,b::m,h,k=>by
  simp only [List.take_succ_cons,List.drop_succ_cons,cg]
  rw [gN n l m (by simpa using h) (by simpa using k),Bool.and_assoc]
section
variable {P:Program}
def IX (P:Program) (d:Nat) (t:TypeId) (ks:List LK):Prop:=
  ∀(n:Nat) (l m:List Value) (w:World),cB ks l→cB ks m→(Op.equalIn (n+d) t (yK P t l) (yK P t m)).run P w= .ok (cg l m) w
theorem ir {t:TypeId} {e:TypeDesc} (hu:P.underlying t=some e) {xs:Array Value} {off:Nat} {n:Nat} (hn:n=P.cellsOf t) (Qh:cC e=false→n=1) (hl:off+n≤xs.size) (w:World):
  (part t xs off).run P w= .ok (yK P t ((xs.toList.drop off).take n)) w:=by
 simp only [yK,hu]
 cases ha:cC e with
 |true=>
  simp only
  rw [kW hu ha xs off w]
  congr 2
  subst hn
  apply Array.ext'
  simp [Array.toList_extract,List.extract_eq_take_drop]
 |false=>
  simp only
  have h1:=Qh ha
  subst h1
  have Pd:off<xs.size:=by omega
  rw [kV hu ha (v:=xs[off]) (by simp [Pd]) w]
  congr 1
  rw [List.headD_eq_head?_getD,List.head?_take]
  simp [Pd]
theorem jW {d:Nat} {t:TypeId} {ks:List LK} (h:gu P d t=some ks):∃e,P.underlying t=some e∧(cC e=false→ks.length=1):=by
 cases d with
 |zero=>simp [gu] at h
 |succ d=>
  unfold gu at h
  split at h
  ·rename_i hu;exact ⟨_,hu,fun _=>by cases h;rfl⟩
  ·rename_i hu;exact ⟨_,hu,fun _=>by cases h;rfl⟩
  ·rename_i hu;exact ⟨_,hu,fun _=>by cases h;rfl⟩
  ·rename_i hu;exact ⟨_,hu,fun q=>by cases q⟩
  ·rename_i hu;exact ⟨_,hu,fun q=>by cases q⟩
  ·cases h
theorem mJ {d:Nat} (ih:∀ {t:TypeId} {ks:List LK},gu P d t=some ks→IX P d t ks) (n:Nat) (xs ys:Array Value) (w:World):∀(fs:List Field) (off:Nat) (ks:List LK),qm P (gu P d) fs off=some ks→
  cB ks (xs.toList.drop off)→cB ks (ys.toList.drop off)→(Op.eqFields (n+d) xs ys fs).run P w= .ok (cg (xs.toList.drop off) (ys.toList.drop off)) w
 | [],off,ks,h,hx,hy=>by
  simp only [qm,VI] at h
  subst h
  have e1:=List.length_eq_zero_iff.1 (bX hx)
  have e2:=List.length_eq_zero_iff.1 (bX hy)
  rw [e1,e2]
  simp [Op.eqFields,cg]
 |f::fs,off,ks,h,hx,hy=>by
  simp only [qm] at h
  split at h
  ·rename_i hf
   simp only [VG,Wn,beq_eq_false_iff_ne,VZ] at hf
   obtain ⟨hname,Rh⟩:=hf
   split at h
   ·rename_i k1 h1
    split at h
    ·rename_i hl
     rw [VG,VZ,WC] at hl
     obtain ⟨hl,Pw⟩:=hl
     split at h
     ·rename_i k2 h2
      obtain rfl:=VA h
      obtain ⟨a1,a2⟩:=ei hx
      obtain ⟨b1,b2⟩:=ei hy
      rw [List.drop_drop] at a2 b2
      have lx:off+k1.length≤xs.size:=by
       have:=bX hx
       simp at this
       omega
      have ly:off+k1.length≤ys.size:=by
       have:=bX hy
       simp at this
       omega
      obtain ⟨e,hu,Qh⟩:=jW h1
      have SJ:=ih h1 n _ _ w a1 b1
      have rest:=mJ ih n xs ys w fs (off+k1.length) k2 h2 a2 b2
      unfold Op.eqFields
      rw [if_pos hname,Rh]
      simp only [VV,ir hu hl Qh lx w,ir hu hl Qh ly w,VN,SJ]
      have hs:=gN k1.length (xs.toList.drop off) (ys.toList.drop off) (by simp;omega) (by simp;omega)
      rw [List.drop_drop,List.drop_drop] at hs
      rw [hs]
      cases cg ((xs.toList.drop off).take k1.length) ((ys.toList.drop off).take k1.length) with
      |true=>simpa using rest
      |false=>simp
     ·cases h
    ·cases h
   ·cases h
  ·cases h
theorem oL {d:Nat} {e:TypeId} {ks:List LK} (U7:gu P d e=some ks) (hl:ks.length=P.cellsOf e) (Pw:0<ks.length) (ih:IX P d e ks) (n:Nat) (xs ys:Array Value) (w:World):∀(c i:Nat),
  cB (nY c ks) (xs.toList.drop (i*ks.length))→cB (nY c ks) (ys.toList.drop (i*ks.length))→(Op.eqItems (n+d) e (P.cellsOf e) xs ys (List.range' i c)).run P w= .ok (cg (xs.toList.drop (i*ks.length)) (ys.toList.drop (i*ks.length))) w
 |0,i,hx,hy=>by
  have e1:=List.length_eq_zero_iff.1 (bX hx)
  have e2:=List.length_eq_zero_iff.1 (bX hy)
  rw [e1,e2]
  simp [Op.eqItems,cg]
 |c+1,i,hx,hy=>by
  simp only [nY] at hx hy
  obtain ⟨a1,a2⟩:=ei hx
  obtain ⟨b1,b2⟩:=ei hy
  have hm:i*ks.length+ks.length=(i+1)*ks.length:=by rw [WD,Nat.one_mul]
  rw [List.drop_drop,hm] at a2 b2
  have lx:i*ks.length+ks.length≤xs.size:=by
   have:=bX hx
   simp only [List.length_append,List.length_drop,Array.length_toList] at this
   omega
  have ly:i*ks.length+ks.length≤ys.size:=by
   have:=bX hy
   simp at this
   omega
  obtain ⟨e',hu,Qh⟩:=jW U7
  have SJ:=ih n _ _ w a1 b1
  have rest:=oL U7 hl Pw ih n xs ys w c (i+1) a2 b2
  rw [List.range'_succ]
  unfold Op.eqItems
  rw [← hl] at rest ⊢
  simp only [VV,ir hu hl Qh lx w,ir hu hl Qh ly w,VN,SJ]
  have hs:=gN ks.length (xs.toList.drop (i*ks.length)) (ys.toList.drop (i*ks.length)) (by simp;omega) (by simp;omega)
  rw [List.drop_drop,List.drop_drop,hm] at hs
  rw [hs]
  cases cg ((xs.toList.drop (i*ks.length)).take ks.length) ((ys.toList.drop (i*ks.length)).take ks.length) with
  |true=>simpa using rest
  |false=>simp
theorem oE:∀ {d:Nat} {t:TypeId} {ks:List LK},gu P d t=some ks→IX P d t ks
 |0,t,ks,h=>by simp [gu] at h
 |d+1,t,ks,h=>by
  intro n l m w hl hm
  unfold gu at h
  split at h
  ·rename_i hu
   obtain rfl:=VA h
   have e1:=bX hl
   have e2:=bX hm
   match l,m,e1,e2 with
   | [a],[b],_,_=>
    cases a<;>simp only [cB,LK.jA,and_true,false_and,true_and] at hl
    cases b<;>simp only [cB,LK.jA,and_true,false_and,true_and] at hm
    simp only [yK,hu,cC,List.headD_cons,cg,iT,VM]
    exact run_equalIn_bool' w (n+d) t _ _ hu
  ·rename_i k hu
   obtain rfl:=VA h
   have e1:=bX hl
   have e2:=bX hm
   match l,m,e1,e2 with
   | [a],[b],_,_=>
    cases a<;>simp only [cB,LK.jA,and_true,false_and,true_and] at hl
    cases b<;>simp only [cB,LK.jA,and_true,false_and,true_and] at hm
    subst hl
    subst hm
    simp only [yK,hu,cC,List.headD_cons,cg,iT,VM]
    exact run_equalIn_int w (n+d) t _ _ _ _ hu
  ·rename_i hu
   obtain rfl:=VA h
   have e1:=bX hl
   have e2:=bX hm
   match l,m,e1,e2 with
   | [a],[b],_,_=>
    cases a<;>simp only [cB,LK.jA,and_true,false_and,true_and] at hl
    cases b<;>simp only [cB,LK.jA,and_true,false_and,true_and] at hm
    simp only [yK,hu,cC,List.headD_cons,cg,iT,VM]
    exact run_equalIn_string w (n+d) t _ _ hu
  ·rename_i fs hu
   split at h
   ·rename_i Pr
    have hf:P.fieldsOf t=fs:=by simp [Program.fieldsOf,hu]
    simp only [yK,hu,cC]
    rw [show n+(d+1)=(n+d)+1 by omega,run_equalIn_struct w (n+d) t _ _ (by rw [hf];exact hu) Pr,hf]
    have:=mJ (fun h=>oE h) n l.toArray m.toArray w fs.toList 0 ks h (by simpa using hl) (by simpa using hm)
    simpa using this
   ·cases h
  ·rename_i c e hu
   split at h
   ·rename_i k1 i h1 hi
    split at h
    ·rename_i hlen
     rw [VG,VZ,WC] at hlen
     obtain ⟨hlen,Pw⟩:=hlen
     obtain rfl:=VA h
     simp only [yK,hu,cC]
     rw [show n+(d+1)=(n+d)+1 by omega,run_equalIn_array w (n+d) _ _ hu hi,List.range_eq_range']
     have:=oL h1 hlen Pw (oE h1) n l.toArray m.toArray w c 0 (by simpa using hl) (by simpa using hm)
     simpa using this
    ·cases h
   ·cases h
  ·cases h
theorem gS.of_flat {d:Nat} {t:TypeId} {ks:List LK} (hd:Nat.ble d 10000=true) (hg:P.eqGuardType P.depth t=false) (ha:(match P.underlying t with|some e=>cC e|none=>false)=true) (h:gu P d t=some ks):gS P t ks:=by
 refine ⟨hg,fun xs ys w hx hy=> ?_⟩
 have:=oE h (10000 - d) xs.toList ys.toList w hx hy
 rw [Nat.sub_add_cancel (by simpa using hd)] at this
 unfold yK at this
 split at ha
 ·rename_i e he
  simp only [he,ha] at this
  simpa using this
 ·cases ha
def Ku (P:Program) (d:Nat) (t:TypeId) (ks:List LK):Prop:=
  ∀(em:Bool) (n:Nat) (l:List Value) (w:World),cB ks l→(Instr.checkKey em (n+d) t (yK P t l)).run P w= .ok () w
theorem ma:∀ {d:Nat} {t:TypeId} {ks:List LK},gu P d t=some ks→Ku P d t ks
 |0,t,ks,h=>by simp [gu] at h
 |d+1,t,ks,h=>by
  intro em n l w hl
  have plain:∀ {e:TypeDesc},P.underlying t=some e→(match e with| .bool| .int _| .string=>true|_=>false)=true→(Instr.checkKey em (n+(d+1)) t (yK P t l)).run P w= .ok () w:=by
   intro e hu he
   rw [show n+(d+1)=(n+d)+1 from rfl,Instr.checkKey]
   simp only [VV,run_underlying hu,VN]
   cases e<;>simp only [Wj] at he<;>simp
  unfold gu at h
  split at h
  ·rename_i hu;exact plain hu rfl
  ·rename_i hu;exact plain hu rfl
  ·rename_i hu;exact plain hu rfl
  ·rename_i fs hu
   split at h
   ·rename_i Pr
    rw [show n+(d+1)=(n+d)+1 from rfl,Instr.checkKey]
    simp only [yK,hu,cC,VV,run_underlying hu,VN]
    rw [← Array.forIn_toList]
    have P8:cB ks (l.toArray.toList.drop 0):=by simpa using hl
    generalize l.toArray=xs at P8 ⊢
    generalize fs.toList=L at h ⊢
    generalize 0=off at h P8
    clear hl hu Pr
    induction L generalizing off ks with
    |nil=>simp
    |cons f L ihL=>
     simp only [qm] at h
     split at h
     ·rename_i hf
      simp only [VG,Wn,beq_eq_false_iff_ne,VZ] at hf
      obtain ⟨hname,Rh⟩:=hf
      split at h
      ·rename_i k1 h1
       split at h
       ·rename_i hlen
        rw [VG,VZ,WC] at hlen
        obtain ⟨hlen,Pw⟩:=hlen
        split at h
        ·rename_i k2 h2
         obtain rfl:=VA h
         obtain ⟨a1,a2⟩:=ei P8
         rw [List.drop_drop] at a2
         have lx:off+k1.length≤xs.size:=by
          have:=bX P8
          simp at this
          omega
         obtain ⟨e,hu,Qh⟩:=jW h1
         have SJ:=ma h1 em n _ w a1
         have rest:=ihL _ _ h2 a2
         simp only [List.forIn_cons,VV,hname,ne_eq,not_false_eq_true,if_true,VN,Rh,ir hu hlen Qh lx w,SJ,V1]
         exact rest
        ·cases h
       ·cases h
      ·cases h
     ·cases h
   ·cases h
  ·rename_i c e hu
   split at h
   ·rename_i k1 i h1 hi
    split at h
    ·rename_i hlen
     rw [VG,VZ,WC] at hlen
     obtain ⟨hlen,Pw⟩:=hlen
     obtain rfl:=VA h
     rw [show n+(d+1)=(n+d)+1 from rfl,Instr.checkKey]
     simp only [yK,hu,cC,VV,run_underlying hu,VN]
     simp only [Std.Legacy.Range.forIn_eq_forIn_range',Std.Legacy.Range.size,Nat.sub_zero,Nat.add_one_sub_one,Nat.div_one]
     have P8:cB (nY c k1) (l.toArray.toList.drop (0*k1.length)):=by simpa using hl
     generalize l.toArray=xs at P8 ⊢
     generalize 0=j at P8 ⊢
     clear hl hu
     have IH:=ma h1 em n
     induction c generalizing j with
     |zero=>simp
     |succ c ihc=>
      simp only [nY] at P8
      obtain ⟨a1,a2⟩:=ei P8
      have hm:j*k1.length+k1.length=(j+1)*k1.length:=by rw [WD,Nat.one_mul]
      rw [List.drop_drop,hm] at a2
      have lx:j*k1.length+k1.length≤xs.size:=by
       have:=bX P8
       simp only [List.length_append,List.length_drop,Array.length_toList] at this
       omega
      obtain ⟨e',RN,Qh⟩:=jW h1
      have SJ:=IH _ w a1
      rw [List.range'_succ]
      have rest:=ihc rfl _ a2
      simp only [List.forIn_cons,VV,run_sizeOf w hi,VN,← hlen,ir RN hlen Qh lx w,SJ,V1]
      exact rest
    ·cases h
   ·cases h
  ·cases h
theorem wB {kd:TypeDesc} (hk:cC kd=true) (x:Array Value) (e:MapEntry) (l:List MapEntry) (i:Nat):Instr.findNow kd (.agg x) (e::l) i=none:=by
 cases kd<;>simp [cC] at hk<;>simp [Instr.findNow,Instr.sameNow]
theorem jg {t:TypeId} {ks:List LK} (hq:gS P t ks) (x:Array Value) (hx:cB ks x.toList) (w:World):∀(l:List MapEntry) (i:Nat),(∀e∈l,∃y:Array Value,e.key= .agg y∧cB ks y.toList)→
  (Instr.findAsking t (.agg x) l i).run P w= .ok (jC x.toList l i) w
 | [],i,_=>by simp [Instr.findAsking,jC]
 |e::l,i,h=>by
  obtain ⟨y,hy,fy⟩:=h e (by simp)
  have ih:=jg hq x hx w l (i+1) fun e' he=>h e' (by simp [he])
  have he:(Op.equal t (.agg x) e.key).run P w= .ok (cg x.toList y.toList) w:=by
   rw [hy];exact hq.eq x y w hx fy
  simp only [Instr.findAsking,VV,he,VN]
  simp only [jC,hy]
  cases cg x.toList y.toList with
  |true=>simp
  |false=>simpa using ih
theorem gy.of_flat {d:Nat} {t:TypeId} {ks:List LK} (hd:Nat.ble d 10000=true) (hg:P.eqGuardType P.depth t=false) (ha:(match P.underlying t with|some e=>cC e|none=>false)=true) (h:gu P d t=some ks) (hs:kh ks=true):gy P t ks:=by
 have hq:=gS.of_flat hd hg ha h
 refine ⟨hs,fun w em xs hx=> ?_,fun w x l hx hl=> ?_⟩
 ·have:=ma h em (10000 - d) xs.toList w hx
  rw [Nat.sub_add_cancel (by simpa using hd)] at this
  unfold yK at this
  split at ha
  ·rename_i e he
   simp only [he,ha] at this
   simpa using this
  ·cases ha
 ·split at ha
  ·rename_i e he
   cases l with
   |nil=>simp [Instr.findKey,run_underlying he,Instr.findNow,jC]
   |cons e0 l=>
    simp only [Instr.findKey,VV,run_underlying he,VN,wB ha]
    exact jg hq x hx w _ 0 hl
  ·cases ha
end
theorem bu {x y:Bool} (h:x=false):(x&&y)=false:=by simp [h]
theorem aD {x y v:Bool} (h:x=true) (k:y=v):(x&&y)=v:=by simp [h,k]
theorem LR {x c c':Int} {v:Bool} (h:decide (x<c')=v) (hc:c'=c+1):decide (x≤c)=v:=by
 subst hc;rw [← h];exact decide_eq_decide.2 (by omega)
theorem Kb {y c c':Int} {v:Bool} (h:decide (y<c')=v) (hc:c'=c+1):decide (c<y)= !v:=by
 subst hc;rw [← h,← decide_not];exact decide_eq_decide.2 (by omega)
theorem Ke {y c c':Int} {v:Bool} (h:decide (y<c')=v) (hc:c'=c):decide (c≤y)= !v:=by
 subst hc;rw [← h,← decide_not];exact decide_eq_decide.2 (by omega)
theorem LQ {x d c:Int} (h:decide (x<d)=true) (hc:d≤c):decide (x<c)=true:=by
 simp only [decide_eq_true_eq] at h ⊢;omega
theorem Ix {x d c:Int} (h:decide (x<d)=false) (hc:c≤d):decide (x<c)=false:=by
 simp only [decide_eq_false_iff_not] at h ⊢;omega
theorem aH {x c:Int} (h:¬x=c):(x==c)=false:=by simp [h]
theorem L4 {x c d:Int} {v:Bool} (h:x=c) (hv:(c==d)=v):(x==d)=v:=by rw [h,hv]
def tT {P:Program} :Ev P:= .dM true true rfl
def tF {P:Program} :Ev P:= .dM false false rfl
def tC {P:Program} {q v:Bool} (h:q=v):Ev P:= .dM q v h
theorem eT {b v:Bool} (h:b=v):(b==true)=(v==true):=by rw [h]
theorem eF {b v:Bool} (h:b=v):(b==false)=(v==false):=by rw [h]
theorem nt {b v:Bool} (h:b=v):(!b)= !v:=by rw [h]
theorem cQ {x c':Int} {v:Bool} (c:Int) (h:decide (x<c')=v) (hc:c'=c+1:=by decide):decide (x≤c)=v:=LR h hc
theorem fh {y c':Int} {v:Bool} (c:Int) (h:decide (y<c')=v) (hc:c'=c+1:=by decide):decide (c<y)= !v:=Kb h hc
theorem aK {y c':Int} {v:Bool} (c:Int) (h:decide (y<c')=v) (hc:c'=c:=by decide):decide (c≤y)= !v:=Ke h hc
theorem I3 {x d:Int} (c:Int) (h:decide (x<d)=true) (hc:d≤c:=by decide):decide (x<c)=true:=LQ h hc
theorem mE {x d:Int} (c:Int) (h:decide (x<d)=false) (hc:c≤d:=by decide):decide (x<c)=false:=Ix h hc
theorem bS {x c:Int} (d:Int) (v:Bool) (h:x=c) (hv:(c==d)=v:=by decide):(x==d)=v:=L4 h hv
def aB:jn→jn→Nat→Prop
  |_,.no,_=>True
  | .tight,.tight,_=>True
  | .tight,.fresh n,sz=>n=sz
  | .fresh a,.fresh b,_=>a=b
  |_,_,_=>False
mutual
def wk:D→D→Prop
  | .aq o sz xs,.aq o' Py ys=>xs=ys∧(sz=Py∨xs= [])∧aB o o' Py∧(o= .tight∨sz=Py)
  | .agg l,.agg m=>ay l m
  | .aQ l,.aQ m=>ay l m
  |a,b=>a=b
def ay:List D→List D→Prop
  | [],[]=>True
  |a::l,b::m=>wk a b∧ay l m
  |_,_=>False
end
theorem kO:∀ {l m:List D},ay l m→l.length=m.length∧∀(i:Nat) (a b:D),l[i]? =some a→m[i]? =some b→wk a b
 | [],[],_=>⟨rfl,fun i a b h=>by simp at h⟩
 | [],_::_,h=>by simp [ay] at h
 |_::_,[],h=>by simp [ay] at h
 |a::l,b::m,h=>by
  rw [ay] at h
  obtain ⟨h1,h2⟩:=kO h.2
  refine ⟨by simp [h1],fun i x y p q=> ?_⟩
  cases i with
  |zero=>simp at p q;subst p q;exact h.1
  |succ i=>simp at p q;exact h2 i x y p q
theorem bz.wk {C:Nat→Nat→Option Value} {M:MM} (hM:M=ek C) {d:D} {v:Value} (h:bz M d v):∀ {d':D},wk d d'→bz M d' v:=by
 induction h with
 |aq b off vs hl Ph ha Po hc hr Pr ho ih=>
  intro d' w
  rename_i M o sz xs _ _ _
  cases d'<;>simp only [Ev.wk,reduceCtorEq] at w
  obtain ⟨rfl,w2,w3,_⟩:=w
  rename_i o' _ _
  refine bz.resize (sz:=sz) (.aq b off vs hl Ph ha Po hc hr Pr ?_) w2
  cases o<;>cases o'<;>first|trivial|exact ho|(simp only [aB] at w3)
 |agg h r ih=>
  intro d' w
  cases d'<;>simp only [Ev.wk,reduceCtorEq] at w
  rename_i _ cs vs _
  obtain ⟨h1,h2⟩:=kO w
  refine .agg (h1▸h) fun i d v a b=> ?_
  have Pd:i<cs.length:=by
   rw [h]
   exact (Array.getElem?_eq_some_iff.1 b).1
  exact ih i cs[i] v (by simp [Pd]) b hM (h2 i _ _ (by simp [Pd]) a)
 |aQ h r ih=>
  intro d' w
  cases d'<;>simp only [Ev.wk,reduceCtorEq] at w
  rename_i _ cs vs _
  obtain ⟨h1,h2⟩:=kO w
  refine .aQ (h1▸h) fun i d v a b=> ?_
  have Pd:i<cs.length:=by
   rw [h]
   exact (Array.getElem?_eq_some_iff.1 b).1
  exact ih i cs[i] v (by simp [Pd]) b hM (h2 i _ _ (by simp [Pd]) a)
 |undef v=>intro d' w;cases d'<;>simp only [Ev.wk,reduceCtorEq] at w;exact .undef v
 |int k n=>intro d' w;cases d'<;>simp only [Ev.wk,reduceCtorEq] at w;rw [← w];exact .int k n
 |bool b=>intro d' w;cases d'<;>simp only [Ev.wk,reduceCtorEq] at w;rw [← w];exact .bool b
 |str s=>intro d' w;cases d'<;>simp only [Ev.wk,reduceCtorEq] at w;rw [← w];exact .str s
 |eW=>intro d' w;cases d'<;>simp only [Ev.wk,reduceCtorEq] at w;exact .eW
 |bw=>intro d' w;cases d'<;>simp only [Ev.wk,reduceCtorEq] at w;exact .bw
 |ptr q h=>intro d' w;cases d'<;>simp only [Ev.wk,reduceCtorEq] at w;rw [← w];exact .ptr q h
 |cN q vs hx hc hr ih=>intro d' w;cases d'<;>simp only [Ev.wk,reduceCtorEq] at w;rw [← w];exact .cN q vs hx hc hr
 |bA h=>intro d' w;cases d'<;>simp only [Ev.wk,reduceCtorEq] at w;rw [← w];exact .bA h
 |iD h=>intro d' w;cases d'<;>simp only [Ev.wk,reduceCtorEq] at w;rw [← w];exact .iD h
 |bP h hh hc=>intro d' w;cases d'<;>simp only [Ev.wk,reduceCtorEq] at w;rw [← w];exact .bP h hh hc
 |sub h hc hp ho=>intro d' w;cases d'<;>simp only [Ev.wk,reduceCtorEq] at w;rw [← w];exact .sub h hc hp ho
 |fn h1 h2 r1 r2 i1 i2=>intro d' w;cases d'<;>simp only [Ev.wk,reduceCtorEq] at w;rw [← w];exact .fn h1 h2 r1 r2
theorem wv {B:Nat} {w:World} {C:Nat→Nat→Option Value} {d d':D} {v:Value} (hr:bz (ek C) d v) (hf:∀sz Py xs,d= .aq (.fresh sz) Py xs→∃a len cap,v= .slice a len cap∧Py=sz∧gC B w C sz a len cap) (hw:wk d d'):
  ∀sz Py xs,d'= .aq (.fresh sz) Py xs→∃a len cap,v= .slice a len cap∧Py=sz∧gC B w C sz a len cap:=by
 rintro sz Py xs rfl
 cases d<;>simp only [wk,reduceCtorEq] at hw
 rename_i o UC UR
 obtain ⟨rfl,w2,w3,w4⟩:=hw
 cases o with
 |no=>simp only [aB] at w3
 |tok a b=>simp only [aB] at w3
 |tight=>
  simp only [aB] at w3
  subst w3
  cases hr with
  |aq b off vs hl Ph ha Po hc hr Pr ho=>exact ⟨_,_,_,rfl,rfl,.inl ho⟩
 |fresh k=>
  simp only [aB] at w3
  subst w3
  rcases w4 with w4|rfl
  ·cases w4
  ·exact hf _ _ _ rfl
theorem aJ.to {P:Program} {f:FuncId} {args:List D} {d d':D} (h:aJ P f args d) (hw:wk d d'):aJ P f args d':=by
 refine ⟨h.CF,fun w C vs hC ha=>Calls.mono (h.run w C vs hC ha) ?_⟩
 rintro e w' ⟨v,C',rfl,hext,Pm,UE,Tp⟩
 refine ⟨v,C',rfl,hext,Pm.wk rfl hw,wv Pm UE hw,?_⟩
 rintro ds vs rfl rfl i sz Py xs hi
 cases d<;>simp only [wk,reduceCtorEq] at hw
 rename_i TF
 obtain ⟨h1,h2⟩:=kO hw
 have Pd:i<TF.length:=by
  rw [h1]
  rcases Nat.lt_or_ge i ds.length with q|q
  ·exact q
  ·rw [List.getElem?_eq_none q] at hi;cases hi
 cases Pm with
 |aQ hl hr=>
  have Ug:i<vs.size:=hl▸Pd
  have:=wv (d:=TF[i]) (d':= .aq (.fresh sz) Py xs) (v:=vs[i]) (hr i _ _ (by simp [Pd]) (by simp [Ug])) (fun s1 s2 x e=>by
   obtain ⟨a,len,cap,k1,k2⟩:=Tp TF vs rfl rfl i s1 s2 x (by simp [Pd,e])
   exact ⟨a,len,cap,by simpa [Ug] using k1,k2⟩) (h2 i _ _ (by simp [Pd]) hi) sz Py xs rfl
  obtain ⟨a,len,cap,k1,k2,k3⟩:=this
  exact ⟨a,len,cap,by simp [Ug,k1],k2,k3⟩
def gg:Code→List Code
  | .seq a b=>gg a++gg b
  | .cond _ a b=>gg a++gg b
  | .block _ a=>gg a
  | .scope a=>gg a
  | .loop a=>a::gg a
  | .rangeFunc _ _ a b=>gg a++gg b
  |_=> []
def aC (fn:Func) (i:Nat):Code:=match fn.body with
  |some c=>(gg c).getD i .skip
  |none=> .skip
def eV:Code→List (Code×Code)
  | .seq a b=>eV a++eV b
  | .cond _ a b=>eV a++eV b
  | .block _ a=>eV a
  | .scope a=>eV a
  | .loop a=>eV a
  | .rangeFunc _ _ a b=>(a,b)::eV b
  |_=> []
def N9 (fn:Func) (i:Nat):Code:=match fn.body with
  |some c=>((eV c).getD i (.skip,.skip)).1
  |none=> .skip
def N8 (fn:Func) (i:Nat):Code:=match fn.body with
  |some c=>((eV c).getD i (.skip,.skip)).2
  |none=> .skip
def e8:Code→List Code
  | .seq a b=>e8 a++e8 b
  | .cond _ a b=>e8 a++e8 b
  | .block i a=> .block i a::e8 a
  | .scope a=>e8 a
  | .loop a=>e8 a
  | .rangeFunc _ _ a b=>e8 a++e8 b
  |_=> []
def Mc (fn:Func) (i:Nat):Code:=match fn.body with
  |some c=>(e8 c).getD i .skip
  |none=> .skip
section
variable {P:Program}
theorem cO {cs:List D} (h:cs.all D.clean=true):∀c∈cs,c.clean=true:=List.all_eq_true.1 h
theorem aA.cast {c:Code} {n0:Nat} {t t1:List D} {s s1:List Ob} {ex TJ:Ex} {t' TA:List D} {s' Su:List Ob} (h:aA P c n0 t s ex t' s') (h1:t=t1) (h2:s=s1) (h3:ex=TJ) (h4:t'=TA) (h5:s'=Su):aA P c n0 t1 s1 TJ TA Su:=by
 subst h1 h2 h3 h4 h5;exact h
theorem aA.from {c:Code} {n0:Nat} {t t1:List D} {s s1:List Ob} {ex:Ex} {t':List D} {s':List Ob} (h:aA P c n0 t s ex t' s') (h1:t=t1) (h2:s=s1):aA P c n0 t1 s1 ex t' s':=by
 subst h1 h2;exact h
theorem Gw {k:W3} (h:k.signed=false) (n:Int):decide (0≤k.wrap n)=true:=by
 rw [decide_eq_true_eq]
 simp only [W3.wrap,h,Bool.false_and]
 exact Int.emod_nonneg _ (by cases k<;>simp [W3.bits])
theorem sL (n:Int):decide (0≤W3.u64.wrap n)=true:=Gw rfl n
theorem Ff {C:Nat→Nat→Option Value} {l m:List D} {vs:Array Value} (h:bV (ek C) l vs) (hw:ay l m):bV (ek C) m vs:=by
 obtain ⟨h1,h2⟩:=kO hw
 refine ⟨by rw [← h1];exact h.1,fun i d v p q=> ?_⟩
 have Pd:i<l.length:=by rw [h.1];exact (Array.getElem?_eq_some_iff.1 q).1
 exact (h.2 i l[i] v (by simp [Pd]) q).wk rfl (h2 i _ _ (by simp [Pd]) p)
theorem aJ.args {f:FuncId} {az Th:List D} {d:D} (h:aJ P f az d) (hw:ay Th az):aJ P f Th d:=
 ⟨h.CF,fun w C vs hC ha=>h.run w C vs hC (Ff ha hw)⟩
theorem ak.cast {c:Code} {sp:HS} {n0:Nat} {t:List D} {s:List Ob} {ex:Ex} {t' TA:List D} {s' Su:List Ob} (h:ak P c sp n0 t s ex t' s') (h4:t'=TA) (h5:s'=Su):ak P c sp n0 t s ex TA Su:=by
 subst h4 h5;exact h
end
open Go
abbrev Kh (kind op width size:Int) (di:Bool) (dst src off au:Int):D:=
  .agg [.int .i8 kind,.int .i8 op,.int .i8 width,.int .i8 size,.bool di,.int .i8 dst,.int .i8 src,.int .i64 off,.int .i64 au]
def Ed (dst src off au:Int):Bool:=decide (0≤dst∧dst≤10∧0≤src∧src≤10∧ -32768≤off∧off≤32767∧ -2147483648≤au∧au≤2147483647)
def C0 (n:Int):Bool:=decide (n=1∨n=2∨n=4∨n=8)
def GD (kind op width size:Int) (di:Bool) (dst src off au:Int):Bool:=
  if kind=0 then decide (0≤op∧op≤12∧(width=32∨width=64)∧dst<10∧size=0∧off=0)&&(if di then decide (op≠8∧au=0) else decide (src=0∧(op=8→au=0)))
  else if kind=1 then C0 size&&decide (dst<10∧op=0∧width=0∧au=0)&& !di
  else if kind=2 then C0 size&&decide (op=0∧width=0∧au=0)&& !di
  else if kind=3 then decide (0≤op∧op≤10∧width=0∧size=0)&&(if di then decide (au=0) else decide (src=0))
  else if kind=4 then decide (op=0∧width=0∧size=0∧dst=0∧src=0∧au=0)&& !di
  else if kind=5 then decide (op=0∧width=0∧size=0∧dst=0∧src=0∧off=0∧0≤au∧au≤15)&& !di
  else if kind=6 then decide (op=0∧width=0∧size=0∧dst=0∧src=0∧off=0∧au=0)&& !di
  else false
def J9 (kind op width size:Int) (di:Bool) (dst src off au:Int):Bool:=Ed dst src off au&&GD kind op width size di dst src off au
def O3 (kind op:Int):Int:=if kind=0∨kind=3 then op else 0
def L2 (kind width:Int):Int:=if kind=0 then width else 0
def NH (kind size:Int):Int:=if kind=1∨kind=2 then size else 0
def L3 (kind op:Int) (di:Bool):Bool:=if kind=0 then di&&decide (op≠8) else if kind=3 then di else false
def OJ (kind dst:Int):Int:=if kind=0∨kind=1∨kind=2∨kind=3 then dst else 0
def OG (kind op:Int) (di:Bool) (src:Int):Int:=if kind=0 then (if di&&decide (op≠8) then src else 0) else if kind=1∨kind=2 then src else if kind=3 then (if di then src else 0) else 0
def OH (kind off:Int):Int:=if kind=1∨kind=2∨kind=3∨kind=4 then off else 0
def OI (kind op:Int) (di:Bool) (au:Int):Int:=if kind=0 then (if di||decide (op=8) then 0 else au) else if kind=3 then (if di then 0 else au) else if kind=5 then au else 0
abbrev xD (op w dst src base ai au cc:Int):D:=
  .agg [.int .i8 op,.int .i8 w,.int .i8 dst,.int .i8 src,.int .i8 base,.int .i64 ai,.int .i64 au,.int .i8 cc]
abbrev e6 (kind op w dst src base ai au cc aF aw num to:Int):D:=
  .agg [.int .i8 kind,.int .i8 op,.int .i8 w,.int .i8 dst,.int .i8 src,.int .i8 base,.int .i64 ai,.int .i64 au,.int .i8 cc,.int .i8 aF,.int .i8 aw,.int .i64 num,.int .i64 to]
abbrev eM (aw aF:Int):D:=e6 1 0 0 0 0 0 0 0 0 aF aw 0 0
abbrev eB (aF aw:Int):D:=e6 2 0 0 0 0 0 0 0 0 aF aw 0 0
abbrev two (op w dst src:Int):D:=e6 0 op w dst src 0 0 0 0 0 0 0 0
abbrev num (op w dst n:Int):D:=e6 0 op w dst 0 0 0 n 0 0 0 0 0
abbrev IQ (w dst:Int):D:=e6 0 25 w dst 11 0 0 0 4 0 0 0 0
def EZ (width au:Int):Bool:=if width=32 then decide (au%4294967296=0) else decide (au=0)
def G3 (op:Int):Int:=if op=0 then 2 else if op=1 then 5 else if op=4 then 3 else if op=5 then 4 else if op=10 then 6 else if op=6 then 20 else if op=7 then 21 else 22
def Hi (op:Int):Int:=if op=0 then 9 else if op=1 then 12 else if op=4 then 10 else if op=5 then 11 else if op=10 then 13 else if op=6 then 17 else if op=7 then 18 else 19
def Mf (op width:Int) (di:Bool) (dst src au:Int):List D:=
  if op=3∨op=9 then
    (if di then
      [eM 0 dst,eM 1 src,num 1 32 2 0,num 1 32 11 1,two 8 width 1 1,IQ width 1,two 24 width 1 0,eM 1 src]++
        (if op=3 then [num 1 32 11 0,two 8 width 1 1,IQ width 0,eB dst 0] else [eM 11 dst,two 8 width 1 1,IQ width 2,eB dst 2])
    else if EZ width au then
      (if op=3 then [num 1 width 0 0,eB dst 0] else if width=32 then [eM 0 dst,two 0 32 0 0,eB dst 0] else [eM 0 dst,eB dst 0])
    else [eM 0 dst,num 1 width 1 au,num 1 32 2 0,two 24 width 1 0,eB dst (if op=3 then 0 else 2)])
  else if op=2 then (if di then [eM 0 dst,eM 1 src,two 16 width 0 1,eB dst 0] else [eM 0 dst,num 1 width 1 au,two 16 width 0 1,eB dst 0])
  else if op=8 then [eM 0 dst,two 23 width 0 0,eB dst 0]
  else if op=11 then (if di then (if width=32 then [eM 0 src,two 0 32 0 0,eB dst 0] else [eM 0 src,eB dst 0]) else [num 1 width 0 au,eB dst 0])
  else if op=6∨op=7∨op=12 then (if di then [eM 0 dst,eM 1 src,two (G3 op) width 0 0,eB dst 0] else [eM 0 dst,num (Hi op) width 0 (au%width),eB dst 0])
  else (if di then [eM 0 dst,eM 1 src,two (G3 op) width 0 1,eB dst 0] else [eM 0 dst,num (Hi op) width 0 au,eB dst 0])
def HM (kind op width size:Int) (di:Bool) (dst src off au:Int):List D:=
  if kind=0 then Mf op width di dst src au
  else if kind=1 then [eM 1 src,e6 0 26 (8*size) 0 0 1 off 0 0 0 0 0 0,eB dst 0]
  else if kind=2 then [eM 1 dst,eM 0 src,e6 0 27 (8*size) 0 0 1 off 0 0 0 0 0 0]
  else if kind=5 then [e6 3 0 0 0 0 0 0 0 0 0 0 au 0,eB 0 0,num 1 32 1 0,eB 1 1,eB 2 1,eB 3 1,eB 4 1,eB 5 1]
  else if kind=6 then [e6 6 0 0 0 0 0 0 0 0 0 0 0 0]
  else []
theorem Lb (n:Int):W3.u8.wrap n=n%256:=by simp [W3.wrap,W3.bits,W3.signed]
theorem CR (n:Int):W3.u64.wrap n=n%18446744073709551616:=by simp [W3.wrap,W3.bits,W3.signed]
theorem dD (n:Int):W3.i8.wrap n=(n+128)%256 - 128:=by simp only [W3.wrap,W3.bits,W3.signed];simp;split<;>omega
theorem aY (n:Int):W3.i64.wrap n=(n+9223372036854775808)%18446744073709551616 - 9223372036854775808:=by simp only [W3.wrap,W3.bits,W3.signed];simp;split<;>omega
theorem toNat_ofInt (w:Nat) (a:Int):(VB w a).toNat=(a%(2^w:Nat)).toNat:=by simp [BitVec.toNat_ofInt]
theorem and_ones (w k:Nat) (hk:k≤w) (a:Int):((VB w a&&&VB w ((2^k - 1:Nat):Int)).toNat:Int)=a%(2^k:Nat):=by
 have hp:0<2^k:=Nat.two_pow_pos k
 have hle:2^k≤2^w:=Nat.pow_le_pow_right (by omega) hk
 have e2:(((2^k - 1:Nat):Int)%((2^w:Nat):Int)).toNat=2^k - 1:=by
  rw [Int.emod_eq_of_lt (by omega) (by omega)]
  omega
 rw [BitVec.toNat_and,toNat_ofInt,toNat_ofInt,e2,Nat.and_two_pow_sub_one_eq_mod]
 have h0:0≤a%((2^w:Nat):Int):=Int.emod_nonneg _ (by omega)
 have h1:((a%((2^w:Nat):Int)).toNat:Int)=a%((2^w:Nat):Int):=Int.toNat_of_nonneg h0
 rw [Int.natCast_emod,h1]
 have hd:((2^k:Nat):Int)∣((2^w:Nat):Int):=by
  rw [Int.natCast_dvd_natCast];exact Nat.pow_dvd_pow 2 hk
 exact Int.emod_emod_of_dvd a hd
structure XS where
  op:Int
  w:Int
  dst:Int
  src:Int
  base:Int
  ai:Int
  au:Int
  cc:Int
deriving DecidableEq
def XS.d (x:XS):D:=xD x.op x.w x.dst x.src x.base x.ai x.au x.cc
structure dp where
  kind:Int
  op:Int
  w:Int
  dst:Int
  src:Int
  base:Int
  ai:Int
  au:Int
  cc:Int
  aF:Int
  aw:Int
  num:Int
  to:Int
deriving DecidableEq
def dp.d (x:dp):D:=e6 x.kind x.op x.w x.dst x.src x.base x.ai x.au x.cc x.aF x.aw x.num x.to
structure gR where
  kind:Int
  op:Int
  width:Int
  size:Int
  di:Bool
  dst:Int
  src:Int
  off:Int
  au:Int
deriving DecidableEq
def gR.d (x:gR):D:=Kh x.kind x.op x.width x.size x.di x.dst x.src x.off x.au
abbrev Ns (kind op w dst src base ai au cc aF aw num to:Int):List D:=
  [.int .i8 kind,.int .i8 op,.int .i8 w,.int .i8 dst,.int .i8 src,.int .i8 base,.int .i64 ai,.int .i64 au,.int .i8 cc,.int .i8 aF,.int .i8 aw,.int .i64 num,.int .i64 to]
theorem get_map {α:Type} {f:α→D} {l:List α} {k:Nat} {x:α} (h:l[k]? =some x):(l.map f)[k]? =some (f x):=by simp [h]
def OW (n:Int):Int:=W3.i64.wrap (1*2^(min (W3.u64.wrap n).toNat W3.i64.bits))
def cE (n:Int):Int:=W3.i64.wrap (1*2^(min n.toNat W3.i64.bits))
def fS (a b:Int):Int:=W3.i64.wrap ((VB W3.i64.bits a|||VB W3.i64.bits b).toNat:Int)
def jE (a b:Int):Int:=W3.i64.wrap ((VB W3.i64.bits a&&& ~~~VB W3.i64.bits b).toNat:Int)
end Go.Ev
namespace Go.Proofs.YtkpneibifdoecaaGreat
open Go Go.Ev
theorem mixed:Tryz.prog.follows .mixedOrders=true:=by kernel_rfl
theorem cD:gS Tryz.prog 55 [.int .i8,.int .i8,.int .i8,.int .i8,.int .i8,.int .i64,.int .i64,.int .i8]:=gS.of_flat (d:=5) (by kernel_rfl) (by kernel_rfl) (by kernel_rfl) (by kernel_rfl)
theorem cf:gS Tryz.prog 65 [.int .i8,.int .i8,.int .i8,.int .i8,.int .i8,.int .i8,.int .i64,.int .i64,.int .i8,.int .i8,.int .i8,.int .i64,.int .i64]:=gS.of_flat (d:=5) (by kernel_rfl) (by kernel_rfl) (by kernel_rfl) (by kernel_rfl)
theorem bQ:gS Tryz.prog 25 [.int .i8,.int .i8]:=gS.of_flat (d:=5) (by kernel_rfl) (by kernel_rfl) (by kernel_rfl) (by kernel_rfl)
theorem eY:gy Tryz.prog 79 [.int .i8,.int .i8]:=gy.of_flat (d:=5) (by kernel_rfl) (by kernel_rfl) (by kernel_rfl) (by kernel_rfl) (by kernel_rfl)
end Go.Proofs.YtkpneibifdoecaaGreat
namespace Go.Ev
open Go
def bq (op:Int):Int:=
  if op=0∨(2≤op∧op≤8) then 1
  else if op=16 then 2
  else if op=1∨(9≤op∧op≤15) then 3
  else if 17≤op∧op≤19 then 4
  else if 20≤op∧op≤24 then 5
  else if op=25 then 6
  else if op=26 then 7
  else if op=27 then 8
  else if op=28 then 9
  else if op=29 then 10
  else if op=30∨op=31 then 11
  else 0
def eD (op:Int):Int:=
  if op=0 then 0x89 else if op=1 then 0xC7 else if op=2 then 0x01 else if op=3 then 0x09 else if op=4 then 0x21 else if op=5 then 0x29 else if op=6 then 0x31 else if op=7 then 0x39 else if op=8 then 0x85
  else if 9≤op∧op≤14 then 0x81 else if op=15 then 0xF7 else if op=16 then 0xAF else if 17≤op∧op≤19 then 0xC1 else if 20≤op∧op≤22 then 0xD3 else if op=23∨op=24 then 0xF7
  else if op=25 then 0x40 else if op=26 then 0x8B else if op=27 then 0x89 else if op=28 then 0xE9 else if op=29 then 0x80 else if op=30 then 0xC3 else if op=31 then 0x05 else 0
def iu (op:Int):Int:=
  if op=10 then 1 else if op=11∨op=17∨op=20 then 4 else if op=12∨op=18∨op=21 then 5 else if op=13∨op=24 then 6 else if op=14∨op=19∨op=22 then 7 else if op=23 then 3 else 0
def bU (op:Int):Int:=
  if bq op=1∨bq op=2 then 1 else if bq op=0 then 0 else bq op - 1
def al (n:Int):Bool:=decide (0≤n∧n≤15)
def aE (n:Int):Bool:=decide ((2≤n∧n≤7)∨(12≤n∧n≤15))
def aj (w:Int):Bool:=decide (w=32∨w=64)
def af (w:Int):Bool:=decide (w=8∨w=16∨w=32∨w=64)
def an (w au:Int):Bool:=decide (w=32∨(w=8∧ -128≤au∧au≤127))
def ax (sh w dst src base ai au cc:Int):Bool:=
  if sh=1∨sh=2 then aj w&&decide (base=0∧ai=0∧au=0∧cc=0)
  else if sh=3 then aj w&&decide (src=0∧base=0∧ai=0∧cc=0)
  else if sh=4 then aj w&&decide (src=0∧base=0∧ai=0∧cc=0∧0≤au∧au<w)
  else if sh=5 then aj w&&decide (src=0∧base=0∧ai=0∧au=0∧cc=0)
  else if sh=6 then aj w&&decide (base=0∧ai=0∧au=0)&&aE cc
  else if sh=7 then af w&&decide (src=0∧au=0∧cc=0)
  else if sh=8 then af w&&decide (dst=0∧au=0∧cc=0)
  else if sh=9 then an w au&&decide (dst=0∧src=0∧base=0∧ai=0∧cc=0)
  else if sh=10 then an w au&&decide (dst=0∧src=0∧base=0∧ai=0)&&aE cc
  else if sh=11 then decide (w=0∧dst=0∧src=0∧base=0∧ai=0∧au=0∧cc=0)
  else false
def av (op w dst src base ai au cc:Int):Bool:=
  al dst&&al src&&al base&&decide (-2147483648≤ai∧ai≤2147483647)&&decide (-2147483648≤au∧au≤2147483647)&&ax (bq op) w dst src base ai au cc
def qk (n:Int):List Int:= [n%256,n / 256%256,n / 65536%256,n / 16777216%256]
def Lt (wide:Bool) (r m:Int):Int:=64+(if wide then 8 else 0)+4*(r / 8)+m / 8
def J7 (wide:Bool) (r m:Int) (always:Bool):Bool:=wide||always||decide (8≤r∨8≤m)
def sw (wide:Bool) (r m:Int) (always:Bool):List Int:=if J7 wide r m always then [Lt wide r m] else []
def p5 (r m:Int):Int:=192+8*(r%8)+m%8
def J8 (r b ai:Int):List Int:=if b%8=4 then (128+8*(r%8)+b%8)::36::qk ai else (128+8*(r%8)+b%8)::qk ai
def IT (op w dst src base ai au cc:Int):List Int:=
  let sh:=bq op
  let wide:=decide (w=64)
  if sh=1 then sw wide src dst false++ [eD op,p5 src dst]
  else if sh=2 then sw wide dst src false++ [15,eD op,p5 dst src]
  else if sh=6 then sw wide dst src false++ [15,64+cc,p5 dst src]
  else if sh=3 then (if op=1∧w=32 then sw false 0 dst false++((184+dst%8)::qk au) else sw wide 0 dst false++(eD op::p5 (iu op) dst::qk au))
  else if sh=4 then sw wide 0 dst false++ [eD op,p5 (iu op) dst,au%256]
  else if sh=5 then sw wide 0 dst false++ [eD op,p5 (iu op) dst]
  else if sh=7 then sw wide dst base false++((if w=8 then [15,182] else if w=16 then [15,183] else [139])++J8 dst base ai)
  else if sh=8 then (if w=16 then [102] else [])++(sw wide src base (decide (w=8))++((if w=8 then [136] else [137])++J8 src base ai))
  else if sh=9 then (if w=8 then [235,au%256] else 233::qk au)
  else if sh=10 then (if w=8 then [112+cc,au%256] else 15::(128+cc)::qk au)
  else if op=31 then [15,5]
  else [195]
def bD (l:List Int):List D:=l.map fun n=> .int .u8 n
def IU (op w dst src base ai au cc:Int):List D:=if av op w dst src base ai au cc then bD (IT op w dst src base ai au cc) else []
def Mb (op w dst src base ai au cc:Int):Int:=if av op w dst src base ai au cc then 0 else 2
def Fo (a b c d:Int):Int:=(a+256*b+65536*c+16777216*d+2147483648)%4294967296 - 2147483648
def zR (a:Int):Int:=(a+128)%256 - 128
theorem fe {op w dst src base ai au cc:Int} (h:av op w dst src base ai au cc=true):
  (0≤dst∧dst≤15∧0≤src∧src≤15∧0≤base∧base≤15∧ -2147483648≤ai∧ai≤2147483647∧ -2147483648≤au∧au≤2147483647)∧ax (bq op) w dst src base ai au cc=true:=by
 simp only [av,al,VG,decide_eq_true_eq] at h
 exact ⟨by omega,h.2⟩
theorem jH {op:Int} (h:bq op≠0):op=0∨op=1∨op=2∨op=3∨op=4∨op=5∨op=6∨op=7∨op=8∨op=9∨op=10∨op=11∨op=12∨op=13∨op=14∨op=15∨op=16∨op=17∨op=18∨op=19∨op=20∨op=21∨op=22∨op=23∨op=24∨op=25∨op=26∨op=27∨op=28∨op=29∨op=30∨op=31:=by
 by_cases h2:0≤op∧op≤31
 ·omega
 ·refine absurd ?_ h
  unfold bq
  repeat (rw [if_neg (by omega)])
def FK:List Int→Int
  |a::b::c::d::_=>Fo a b c d
  |_=>0
def hd (l:List Int):Int:=l.headD 0
def JV:List Int:= [0,1,2,3,4,5,6,7,8,9,10,11,12,13,14,15,16,17,18,19,20,21,22,23,24,25,26,27,28,29,30,31]
def EA (p:Int→Bool):Int:=(JV.find? p).getD (-1)
def Ab (c:Int):Int:=EA fun o=>decide (bq o=1∧eD o=c)
def Gd (c k:Int):Int:=EA fun o=>decide ((bq o=3∨bq o=4∨bq o=5)∧eD o=c∧iu o=k)
def JN:List Int→Bool×Int×Int×List Int
  |h::t=>if 64≤h∧h≤79 then (decide (72≤h),(h - 64) / 4%2,(h - 64)%2,t) else (false,0,0,h::t)
  | []=>(false,0,0,[])
def EO (t:List Int):List Int:=if hd t%8=4 then t.drop 2 else t.drop 1
def L6 (wide:Bool) (r m c:Int) (t:List Int):XS:=
  let w:=if wide then 64 else 32
  let aF:=hd t / 8%8+8*r
  let rm:=hd t%8+8*m
  if c=175 then ⟨16,w,aF,rm,0,0,0,0⟩
  else if 64≤c∧c≤79 then ⟨25,w,aF,rm,0,0,0,c - 64⟩
  else if 128≤c∧c≤143 then ⟨29,32,0,0,0,0,FK t,c - 128⟩
  else if c=182 then ⟨26,8,aF,0,rm,FK (EO t),0,0⟩
  else if c=183 then ⟨26,16,aF,0,rm,FK (EO t),0,0⟩
  else ⟨31,0,0,0,0,0,0,0⟩
def L7 (half wide:Bool) (r m c:Int) (t:List Int):XS:=
  let w:=if wide then 64 else 32
  let aF:=hd t / 8%8+8*r
  let rm:=hd t%8+8*m
  if c=15 then L6 wide r m (hd t) (t.drop 1)
  else if 184≤c∧c≤191 then ⟨1,32,c - 184+8*m,0,0,0,FK t,0⟩
  else if 112≤c∧c≤127 then ⟨29,8,0,0,0,0,zR (hd t),c - 112⟩
  else if c=235 then ⟨28,8,0,0,0,0,zR (hd t),0⟩
  else if c=233 then ⟨28,32,0,0,0,0,FK t,0⟩
  else if c=195 then ⟨30,0,0,0,0,0,0,0⟩
  else if c=139 then ⟨26,w,aF,0,rm,FK (EO t),0,0⟩
  else if c=136 then ⟨27,8,0,aF,rm,FK (EO t),0,0⟩
  else if c=137∧hd t<192 then ⟨27,if half then 16 else w,0,aF,rm,FK (EO t),0,0⟩
  else if Ab c≠ -1 then ⟨Ab c,w,rm,aF,0,0,0,0⟩
  else
    let o:=Gd c (hd t / 8%8)
    if bq o=3 then ⟨o,w,rm,0,0,0,FK (t.drop 1),0⟩
    else if bq o=4 then ⟨o,w,rm,0,0,0,hd (t.drop 1),0⟩
    else ⟨o,w,rm,0,0,0,0,0⟩
def Kp (half:Bool) (p:Bool×Int×Int×List Int):XS:=L7 half p.1 p.2.1 p.2.2.1 (hd p.2.2.2) (p.2.2.2.drop 1)
def OO (l:List Int):XS:=if hd l=102 then Kp true (JN (l.drop 1)) else Kp false (JN l)
theorem wC {d:Int} (h0:0≤d) (h1:d≤15):∃n:Fin 16,d=(n.val:Int):=⟨⟨d.toNat,by omega⟩,by simp;omega⟩
def Kd (op w dst src base ai au cc:Int):Int:=((IU op w dst src base ai au cc).length:Nat)
def EW (l:List Int):Prop:= ∀b∈l,0≤b∧b≤255
theorem EW.nil:EW []:=by intro b hb;cases hb
theorem EW.cons {x:Int} {l:List Int} (h0:0≤x) (h1:x≤255) (h:EW l):EW (x::l):=by
 intro b hb
 rcases List.mem_cons.1 hb with e|hb
 ·subst e;exact ⟨h0,h1⟩
 ·exact h b hb
def u64 (n:Int):Int:=W3.u64.wrap n
def fL (v w:Int):Int:=if w=8 then v%256 else if w=16 then v%65536 else if w=32 then v%4294967296 else v
def G0 (v w:Int):Int:=
  if w=8 then u64 (W3.i8.wrap v) else if w=16 then u64 (W3.i16.wrap v) else if w=32 then u64 (W3.i32.wrap v) else v
def vY (v w:Int):Bool:=decide (W3.i64.wrap (G0 v w)<0)
def tk (a b:Int):Int:=u64 ((VB 64 a^^^VB 64 b).toNat:Int)
def mi (a b:Int):Int:=u64 ((VB 64 a&&&VB 64 b).toNat:Int)
def JU (a b:Int):Int:=u64 ((VB 64 a|||VB 64 b).toNat:Int)
def fD (k c z s o:Bool):D:= .agg [.bool k,.bool c,.bool z,.bool s,.bool o]
def OQ (b w:Int):Int:=mi b (u64 (W3.i8.wrap (w - 1)))
def Oe (op a b T8 w:Int):Int:=
  if op=0 then u64 (a+b)
  else if op=1 then u64 (a - b)
  else if op=2 then u64 (a*b)
  else if op=3 then (if b=0 then 0 else u64 (a.tdiv b))
  else if op=4 then JU a b
  else if op=5 then mi a b
  else if op=6 then u64 (a*2^(min T8.toNat 64))
  else if op=7 then a.fdiv (2^(min T8.toNat 64))
  else if op=8 then u64 (0 - a)
  else if op=9 then (if b=0 then a else a.tmod b)
  else if op=10 then tk a b
  else if op=11 then b
  else u64 ((W3.i64.wrap (G0 a w)).fdiv (2^(min T8.toNat 64)))
def OL (op w a b:Int):Int:=fL (Oe op (fL a w) (fL b w) (OQ (fL b w) w) w) w
def rg (l:List Int) (i:Int):Int:=l.getD i.toNat 0
def st (j i v r:Int):Int:=if i=j then v else r
def Od (i v r0 r1 r2 r3 r4 r5 r6 r7 r8 r9 lf QF Vq Ve QG Vf:Int) (tl:List D):List D:= .int .u64 (st 0 i v r0):: .int .u64 (st 1 i v r1):: .int .u64 (st 2 i v r2):: .int .u64 (st 3 i v r3):: .int .u64 (st 4 i v r4):: .int .u64 (st 5 i v r5):: .int .u64 (st 6 i v r6):: .int .u64 (st 7 i v r7):: .int .u64 (st 8 i v r8):: .int .u64 (st 9 i v r9):: .int .u64 (st 10 i v lf):: .int .u64 (st 11 i v QF):: .int .u64 (st 12 i v Vq):: .int .u64 (st 13 i v Ve):: .int .u64 (st 14 i v QG):: .int .u64 (st 15 i v Vf)::tl
abbrev uu:D:= .undef
abbrev Kt (l:List D) (i:Nat) (xs l':List D):Prop:=l.take i++(xs++l.drop (i+xs.length))=l'∧i+xs.length≤l.length
abbrev eG (l:List D) (i n:Nat) (l':List D):Prop:=(l.drop i).take n=l'∧i+n≤l.length
section
variable {r0 r1 r2 r3 r4 r5 r6 r7 r8 r9 lf QF Vq Ve QG Vf i v:Int} {tl:List D}
end
end Go.Ev
namespace Go.Proofs.YtkpneibifdoecaaGreat
open Go Go.Ev
abbrev EL:=List (Ev Tryz.prog)
theorem cm (b:Bool):b=true∨b=false:=Bool.eq_false_or_eq_true b
theorem bI:(∀ {p:Prop} [Decidable p],(decide p=true)=p)∧(∀ {p:Prop} [Decidable p],(decide p=false)↔ ¬p)∧(∀(b:Bool),(¬(b=true))=(b=false))∧(∀ {α:Type} [BEq α] [LawfulBEq α] {a b:α},(a==b)=true↔a=b)∧(∀ {α:Type} [BEq α] [LawfulBEq α] {a b:α},(a==b)=false↔a≠b)∧(∀(a b:Bool),(D.bool a=D.bool b)=(a=b)):=⟨@decide_eq_true_eq,@decide_eq_false_iff_not,@Bool.not_eq_true,@beq_iff_eq,@beq_eq_false_iff_ne,@D.bool.injEq⟩
theorem hQ:(∀ {α:Type} [BEq α] [LawfulBEq α] {a b:α},(a==b)=true↔a=b)∧(∀ {α:Type} [BEq α] [LawfulBEq α] {a b:α},(a==b)=false↔a≠b)∧(∀ {α:Type} (a b:α),(a≠b)= ¬(a=b))∧(∀n:Int,W3.i64.wrap n=(n+9223372036854775808)%18446744073709551616 - 9223372036854775808)∧(∀(a b:Bool),((a&&b)=true)=(a=true∧b=true))∧((false=true)=False)∧(∀ {p:Prop} [Decidable p],(decide p=true)=p)∧(∀ {p:Prop} [Decidable p],(decide p=false)↔ ¬p)∧(∀(p:Prop),(False↔p)= ¬p)∧(∀(p:Prop),(p↔False)= ¬p)∧(∀(p:Prop),(True↔p)=p)∧(∀(p:Prop),(p↔True)=p)∧(∀(p:Prop),(True∧p)=p)∧(∀(p:Prop),(p∧True)=p):=⟨@beq_iff_eq,@beq_eq_false_iff_ne,@ne_eq,@aY,@VG,@Wj,@decide_eq_true_eq,@decide_eq_false_iff_not,@false_iff,@iff_false,@true_iff,@iff_true,@true_and,@and_true⟩
theorem bm:(∀n:Int,W3.i8.wrap n=(n+128)%256 - 128)∧(∀n:Int,W3.u8.wrap n=n%256)∧(∀n:Int,W3.i64.wrap n=(n+9223372036854775808)%18446744073709551616 - 9223372036854775808)∧(∀n:Int,W3.u64.wrap n=n%18446744073709551616)∧(∀ {p:Prop} [Decidable p],(decide p=true)=p)∧(∀ {p:Prop} [Decidable p],(decide p=false)↔ ¬p)∧(∀ {α:Type} [BEq α] [LawfulBEq α] {a b:α},(a==b)=true↔a=b)∧(∀ {α:Type} [BEq α] [LawfulBEq α] {a b:α},(a !=b)=true↔a≠b)∧(∀ {α:Type} [BEq α] [LawfulBEq α] {a b:α},(a==b)=false↔a≠b)∧(∀ {α:Type} [BEq α] [LawfulBEq α] {a b:α},(a !=b)=false↔a=b)∧(∀(b:Bool),((!b)=true)=(b=false))∧(∀(b:Bool),((!b)=false)=(b=true))∧(∀(a b:Bool),((a&&b)=true)=(a=true∧b=true))∧(∀(a b:Bool),((a||b)=true)=(a=true∨b=true)):=⟨@dD,@Lb,@aY,@CR,@decide_eq_true_eq,@decide_eq_false_iff_not,@beq_iff_eq,@bne_iff_ne,@beq_eq_false_iff_ne,@bne_eq_false_iff_eq,@Wn,@Bool.not_eq_false',@VG,@WL⟩
def OE (n:Nat) (f:Func):Prop:= ∀ {x:List D} {d:D} (o:EL),s8 Tryz.prog f x o=some (d,nB o True)→aJ Tryz.prog n x d
theorem o0:OE 0 Tryz.f0:=aJ.ao mixed Tryz.func0 (by kernel_rfl)
theorem o1:OE 1 Tryz.f1:=aJ.ao mixed Tryz.func1 (by kernel_rfl)
theorem o2:OE 2 Tryz.f2:=aJ.ao mixed Tryz.func2 (by kernel_rfl)
theorem o3:OE 3 Tryz.f3:=aJ.ao mixed Tryz.func3 (by kernel_rfl)
theorem o9:OE 9 Tryz.f9:=aJ.ao mixed Tryz.func9 (by kernel_rfl)
theorem Gv:OE 10 Tryz.f10:=aJ.ao mixed Tryz.func10 (by kernel_rfl)
theorem Ot:OE 11 Tryz.f11:=aJ.ao mixed Tryz.func11 (by kernel_rfl)
theorem G9:OE 12 Tryz.f12:=aJ.ao mixed Tryz.func12 (by kernel_rfl)
theorem Ik:OE 13 Tryz.f13:=aJ.ao mixed Tryz.func13 (by kernel_rfl)
theorem Oq:OE 14 Tryz.f14:=aJ.ao mixed Tryz.func14 (by kernel_rfl)
theorem G8:OE 15 Tryz.f15:=aJ.ao mixed Tryz.func15 (by kernel_rfl)
theorem Ii:OE 16 Tryz.f16:=aJ.ao mixed Tryz.func16 (by kernel_rfl)
theorem KJ:OE 17 Tryz.f17:=aJ.ao mixed Tryz.func17 (by kernel_rfl)
theorem KI:OE 18 Tryz.f18:=aJ.ao mixed Tryz.func18 (by kernel_rfl)
theorem Ih:OE 19 Tryz.f19:=aJ.ao mixed Tryz.func19 (by kernel_rfl)
theorem Ig:OE 20 Tryz.f20:=aJ.ao mixed Tryz.func20 (by kernel_rfl)
theorem sK:OE 21 Tryz.f21:=aJ.ao mixed Tryz.func21 (by kernel_rfl)
theorem sJ:OE 22 Tryz.f22:=aJ.ao mixed Tryz.func22 (by kernel_rfl)
theorem Nj:OE 23 Tryz.f23:=aJ.ao mixed Tryz.func23 (by kernel_rfl)
theorem KH:OE 24 Tryz.f24:=aJ.ao mixed Tryz.func24 (by kernel_rfl)
theorem Ni:OE 28 Tryz.f28:=aJ.ao mixed Tryz.func28 (by kernel_rfl)
theorem Oo:OE 29 Tryz.f29:=aJ.ao mixed Tryz.func29 (by kernel_rfl)
theorem Om:OE 32 Tryz.f32:=aJ.ao mixed Tryz.func32 (by kernel_rfl)
theorem Nh:OE 39 Tryz.f39:=aJ.ao mixed Tryz.func39 (by kernel_rfl)
theorem Ng:OE 41 Tryz.f41:=aJ.ao mixed Tryz.func41 (by kernel_rfl)
theorem Ol:OE 44 Tryz.f44:=aJ.ao mixed Tryz.func44 (by kernel_rfl)
theorem Ok:OE 46 Tryz.f46:=aJ.ao mixed Tryz.func46 (by kernel_rfl)
theorem Nf:OE 47 Tryz.f47:=aJ.ao mixed Tryz.func47 (by kernel_rfl)
theorem Oj:OE 48 Tryz.f48:=aJ.ao mixed Tryz.func48 (by kernel_rfl)
theorem Nd:OE 49 Tryz.f49:=aJ.ao mixed Tryz.func49 (by kernel_rfl)
theorem Oi:OE 50 Tryz.f50:=aJ.ao mixed Tryz.func50 (by kernel_rfl)
theorem Ie:OE 53 Tryz.f53:=aJ.ao mixed Tryz.func53 (by kernel_rfl)
theorem G7:OE 56 Tryz.f56:=aJ.ao mixed Tryz.func56 (by kernel_rfl)
theorem jm:OE 61 Tryz.f61:=aJ.ao mixed Tryz.func61 (by kernel_rfl)
theorem jd:OE 62 Tryz.f62:=aJ.ao mixed Tryz.func62 (by kernel_rfl)
theorem LH:OE 65 Tryz.f65:=aJ.ao mixed Tryz.func65 (by kernel_rfl)
theorem KG:OE 67 Tryz.f67:=aJ.ao mixed Tryz.func67 (by kernel_rfl)
theorem cZ:OE 71 Tryz.f71:=aJ.ao mixed Tryz.func71 (by kernel_rfl)
theorem j5:OE 90 Tryz.f90:=aJ.ao mixed Tryz.func90 (by kernel_rfl)
theorem dP:OE 91 Tryz.f91:=aJ.ao mixed Tryz.func91 (by kernel_rfl)
theorem j4:OE 92 Tryz.f92:=aJ.ao mixed Tryz.func92 (by kernel_rfl)
theorem j3:OE 93 Tryz.f93:=aJ.ao mixed Tryz.func93 (by kernel_rfl)
theorem D1:OE 94 Tryz.f94:=aJ.ao mixed Tryz.func94 (by kernel_rfl)
theorem Nc:OE 95 Tryz.f95:=aJ.ao mixed Tryz.func95 (by kernel_rfl)
theorem Nb:OE 96 Tryz.f96:=aJ.ao mixed Tryz.func96 (by kernel_rfl)
theorem Na:OE 97 Tryz.f97:=aJ.ao mixed Tryz.func97 (by kernel_rfl)
theorem M9:OE 98 Tryz.f98:=aJ.ao mixed Tryz.func98 (by kernel_rfl)
theorem jR:OE 99 Tryz.f99:=aJ.ao mixed Tryz.func99 (by kernel_rfl)
theorem dj:OE 100 Tryz.f100:=aJ.ao mixed Tryz.func100 (by kernel_rfl)
theorem J2:OE 101 Tryz.f101:=aJ.ao mixed Tryz.func101 (by kernel_rfl)
theorem J1:OE 102 Tryz.f102:=aJ.ao mixed Tryz.func102 (by kernel_rfl)
theorem Gu:OE 103 Tryz.f103:=aJ.ao mixed Tryz.func103 (by kernel_rfl)
theorem D2:OE 104 Tryz.f104:=aJ.ao mixed Tryz.func104 (by kernel_rfl)
theorem eQ:OE 115 Tryz.f115:=aJ.ao mixed Tryz.func115 (by kernel_rfl)
theorem J0:OE 118 Tryz.f118:=aJ.ao mixed Tryz.func118 (by kernel_rfl)
theorem eP:OE 121 Tryz.f121:=aJ.ao mixed Tryz.func121 (by kernel_rfl)
theorem LJ:OE 122 Tryz.f122:=aJ.ao mixed Tryz.func122 (by kernel_rfl)
theorem ji:OE 125 Tryz.f125:=aJ.ao mixed Tryz.func125 (by kernel_rfl)
theorem pO:OE 127 Tryz.f127:=aJ.ao mixed Tryz.func127 (by kernel_rfl)
theorem JZ:OE 128 Tryz.f128:=aJ.ao mixed Tryz.func128 (by kernel_rfl)
theorem JY:OE 129 Tryz.f129:=aJ.ao mixed Tryz.func129 (by kernel_rfl)
theorem JX:OE 130 Tryz.f130:=aJ.ao mixed Tryz.func130 (by kernel_rfl)
theorem Gt:OE 131 Tryz.f131:=aJ.ao mixed Tryz.func131 (by kernel_rfl)
theorem Gs:OE 132 Tryz.f132:=aJ.ao mixed Tryz.func132 (by kernel_rfl)
theorem JW:OE 133 Tryz.f133:=aJ.ao mixed Tryz.func133 (by kernel_rfl)
theorem LI:OE 134 Tryz.f134:=aJ.ao mixed Tryz.func134 (by kernel_rfl)
theorem Ij:OE 145 Tryz.f145:=aJ.ao mixed Tryz.func145 (by kernel_rfl)
end Go.Proofs.YtkpneibifdoecaaGreat
namespace Go.Ev
open Go
def sB (op dst src base:Int):Int:=
  if op=0 then cE src
  else if op=1∨op=28∨op=29 then 0
  else if 20≤op∧op≤22 then fS (cE dst) (cE 1)
  else if op=24 then fS (fS (cE dst) (cE 0)) (cE 2)
  else if op=26 then cE base
  else if op=27 then fS (cE base) (cE src)
  else if op=30 then 17
  else if op=31 then 1477
  else if bq op=1∨bq op=2∨bq op=6 then fS (cE dst) (cE src)
  else cE dst
def mW (op dst:Int):Int:=
  if op=7∨op=8∨op=14∨op=15∨op=27∨op=28∨op=29 then 0
  else if op=24 then 5
  else if op=30 then 16
  else if op=31 then 2051
  else cE dst
def eI (op w dst src base ai au cc:Int):Int:=if av op w dst src base ai au cc then sB op dst src base else 0
def dS (op w dst src base ai au cc:Int):Int:=if av op w dst src base ai au cc then mW op dst else 0
def Mi (w a b:Int):Bool:=decide (fL (u64 (a+b)) w<fL a w)
def Mh (w a b:Int):Bool:=vY (mi (tk a (u64 (a+b))) (tk b (u64 (a+b)))) w
def Jj (w a b:Int):Bool:=decide (fL a w<fL b w)
def Ji (w a b:Int):Bool:=vY (mi (tk a b) (tk a (u64 (a - b)))) w
def Hj (cc:Int) (c z s o:Bool):Bool:=
  if cc=2 then c else if cc=3 then !c else if cc=4 then z else if cc=5 then !z else if cc=6 then (c||z) else if cc=7 then !(c||z)
  else if cc=12 then (s !=o) else if cc=13 then !(s !=o) else if cc=14 then (z||(s !=o)) else !(z||(s !=o))
def NS (op:Int):Bool:= !(decide (op=7∨op=8∨op=14∨op=15∨op=27∨op=28∨op=29))
def Nt (n:Int):Prop:=0≤n∧n≤18446744073709551615
theorem tc (v w:Int):fL (fL v w) w=fL v w:=by
 unfold fL
 split
 ·omega
 ·split
  ·omega
  ·split
   ·omega
   ·rfl
def cS (w k:Int):Int:=W3.i64.wrap ((VB 64 (w.fdiv (2^(min k.toNat 64)))&&&VB 64 1).toNat:Int)
def Oy (w dst src:Int):Bool:=aj w&&al dst&&al src
theorem GZ {i d v r:Int} (h:d≠i):st i d v r=r:=by unfold st;rw [if_neg h]
theorem ni {p:Int→Prop} (h0:p 0) (h1:p 1) (h2:p 2) (h3:p 3) (h4:p 4) (h5:p 5) (h6:p 6) (h7:p 7) (h8:p 8) (h9:p 9) (SV:p 10) (S3:p 11) (TH:p 12) (Pv:p 13) (TK:p 14) (PO:p 15):∀k:Int,0≤k→k≤15→p k:=by
 intro k k0 k1
 have:k=0∨k=1∨k=2∨k=3∨k=4∨k=5∨k=6∨k=7∨k=8∨k=9∨k=10∨k=11∨k=12∨k=13∨k=14∨k=15:=by omega
 rcases this with rfl|rfl|rfl|rfl|rfl|rfl|rfl|rfl|rfl|rfl|rfl|rfl|rfl|rfl|rfl|rfl
 ·exact h0
 ·exact h1
 ·exact h2
 ·exact h3
 ·exact h4
 ·exact h5
 ·exact h6
 ·exact h7
 ·exact h8
 ·exact h9
 ·exact SV
 ·exact S3
 ·exact TH
 ·exact Pv
 ·exact TK
 ·exact PO
structure cn where
  (q0 q1 q2 q3 q4 q5 q6 q7 q8 q9 CE Du Dt Ds Dr Dq:Int)
  (fk fc fz fs fo:Bool)
  (pc:Int)
deriving DecidableEq
def cn.d (m:cn):D:= .agg [.int .u64 m.q0,.int .u64 m.q1,.int .u64 m.q2,.int .u64 m.q3,.int .u64 m.q4,.int .u64 m.q5,.int .u64 m.q6,.int .u64 m.q7,.int .u64 m.q8,.int .u64 m.q9,.int .u64 m.CE,.int .u64 m.Du,.int .u64 m.Dt,.int .u64 m.Ds,.int .u64 m.Dr,.int .u64 m.Dq,.bool m.fk,.bool m.fc,.bool m.fz,.bool m.fs,.bool m.fo,.int .u64 m.pc]
def cn.rl (m:cn):List Int:= [m.q0,m.q1,m.q2,m.q3,m.q4,m.q5,m.q6,m.q7,m.q8,m.q9,m.CE,m.Du,m.Dt,m.Ds,m.Dr,m.Dq]
def cn.put (m:cn) (i v:Int):cn:=⟨st 0 i v m.q0,st 1 i v m.q1,st 2 i v m.q2,st 3 i v m.q3,st 4 i v m.q4,st 5 i v m.q5,st 6 i v m.q6,st 7 i v m.q7,st 8 i v m.q8,st 9 i v m.q9,st 10 i v m.CE,st 11 i v m.Du,st 12 i v m.Dt,st 13 i v m.Ds,st 14 i v m.Dr,st 15 i v m.Dq,m.fk,m.fc,m.fz,m.fs,m.fo,m.pc⟩
def cn.flags (m:cn) (k c z s o:Bool):cn:=⟨m.q0,m.q1,m.q2,m.q3,m.q4,m.q5,m.q6,m.q7,m.q8,m.q9,m.CE,m.Du,m.Dt,m.Ds,m.Dr,m.Dq,k,c,z,s,o,m.pc⟩
def cn.at (m:cn) (v:Int):cn:=⟨m.q0,m.q1,m.q2,m.q3,m.q4,m.q5,m.q6,m.q7,m.q8,m.q9,m.CE,m.Du,m.Dt,m.Ds,m.Dr,m.Dq,m.fk,m.fc,m.fz,m.fs,m.fo,v⟩
def cn.zero:cn:=⟨0,0,0,0,0,0,0,0,0,0,0,0,0,0,0,0,false,false,false,false,false,0⟩
def XS.len (x:XS):Int:=Kd x.op x.w x.dst x.src x.base x.ai x.au x.cc
def XS.may (x:XS):Bool:=av x.op x.w x.dst x.src x.base x.ai x.au x.cc
def Lg (op:Int):Option (Int×Int):=
  match op with
  |2=>some (0,0)
  |3=>some (4,0)
  |4=>some (5,0)
  |5=>some (1,0)
  |6=>some (10,0)
  |7=>some (1,0)
  |8=>some (5,0)
  |9=>some (0,1)
  |10=>some (4,1)
  |11=>some (5,1)
  |12=>some (1,1)
  |13=>some (10,1)
  |14=>some (1,1)
  |15=>some (5,1)
  |16=>some (2,0)
  |17=>some (6,1)
  |18=>some (7,1)
  |19=>some (12,1)
  |20=>some (6,2)
  |21=>some (7,2)
  |22=>some (12,2)
  |23=>some (8,0)
  |_=>none
def Ll (m:cn) (x:XS) (k:Int):Int:=match k with
  |2=>m.q1
  |1=>u64 x.au
  |_=>rg m.rl x.src
def Hl (m:cn) (s w a b v:Int):cn:=match s with
  |0=>m.flags true (Mi w a b) (fL (u64 (a+b)) w==0) (vY (u64 (a+b)) w) (Mh w a b)
  |1=>m.flags true (Jj w a b) (fL (u64 (a - b)) w==0) (vY (u64 (a - b)) w) (Ji w a b)
  |8=>m.flags true (Jj w 0 a) (fL (u64 (0 - a)) w==0) (vY (u64 (0 - a)) w) (Ji w 0 a)
  |4=>m.flags true false (fL v w==0) (vY v w) false
  |5=>m.flags true false (fL v w==0) (vY v w) false
  |10=>m.flags true false (fL v w==0) (vY v w) false
  |_=>m.flags false false false false false
def IA (op:Int):Bool:=match op with
  |7=>true
  |8=>true
  |14=>true
  |15=>true
  |_=>false
def OK (m:cn) (x:XS) (ld:Int):cn×Int:=match Lg x.op with
  |some (s,k)=>
    let a:=rg m.rl x.dst
    let b:=Ll m x k
    let v:=OL s x.w a b
    match IA x.op with
    |true=>(Hl m s x.w a b v,0)
    |false=>((Hl m s x.w a b v).put x.dst v,0)
  |none=>match x.op with
    |0=>(m.put x.dst (fL (rg m.rl x.src) x.w),0)
    |1=>(m.put x.dst (fL (u64 x.au) x.w),0)
    |24=>match fL (rg m.rl x.dst) x.w==0 with
      |true=>(.zero,20)
      |false=>match fL m.q2 x.w==0 with
        |false=>(.zero,20)
        |true=>(({ m with q0:=u64 ((fL m.q0 x.w).tdiv (fL (rg m.rl x.dst) x.w)),q2:=(fL m.q0 x.w).tmod (fL (rg m.rl x.dst) x.w) }).flags false false false false false,0)
    |25=>match m.fk with
      |false=>(.zero,20)
      |true=>(m.put x.dst (fL (if Hj x.cc m.fc m.fz m.fs m.fo then rg m.rl x.src else rg m.rl x.dst) x.w),0)
    |26=>(m.put x.dst (fL ld x.w),0)
    |28=>(m.at (u64 (m.pc+u64 x.au)),0)
    |29=>match m.fk with
      |false=>(.zero,20)
      |true=>(m.at (if Hj x.cc m.fc m.fz m.fs m.fo then u64 (m.pc+u64 x.au) else m.pc),0)
    |30=>(({ m with q4:=u64 (m.q4+8) }).at ld,0)
    |31=>({ m with q0:=ld,q1:=0,Du:=0 },0)
    |_=>(m,0)
def oK (m:cn) (x:XS) (ld:Int):cn×Int:=match x.may with
  |false=>(.zero,2)
  |true=>OK (m.at (u64 (m.pc+u64 x.len))) x ld
def Ho (m:cn) (x:XS) (ld:Int):cn:=(oK m x ld).1
def Hp (m:cn) (x:XS) (ld:Int):Int:=(oK m x ld).2
def OZ (m:cn) (op w dst src base ai au cc:Int):Int:=u64 (m.pc+u64 (Kd op w dst src base ai au cc))
def xT (op w dst src base ai au cc ld:Int):List D:= [.int .i8 op,.int .i8 w,.int .i8 dst,.int .i8 src,.int .i8 base,.int .i64 ai,.int .i64 au,.int .i8 cc,.int .u64 ld]
def fT (m:cn) (p:Int) (tl:List D):List D:= .bool m.fk:: .bool m.fc:: .bool m.fz:: .bool m.fs:: .bool m.fo:: .int .u64 p::tl
def zC:List D:= [.int .u64 0,.int .u64 0,.int .u64 0,.int .u64 0,.int .u64 0,.int .u64 0,.int .u64 0,.int .u64 0,.int .u64 0,.int .u64 0,.int .u64 0,.int .u64 0,.int .u64 0,.int .u64 0,.int .u64 0,.int .u64 0,.bool false,.bool false,.bool false,.bool false,.bool false,.int .u64 0]
def cn.cw (m:cn) (p:Int) (tl:List D):List D:= .int .u64 m.q0:: .int .u64 m.q1:: .int .u64 m.q2:: .int .u64 m.q3:: .int .u64 m.q4:: .int .u64 m.q5:: .int .u64 m.q6:: .int .u64 m.q7:: .int .u64 m.q8:: .int .u64 m.q9:: .int .u64 m.CE:: .int .u64 m.Du:: .int .u64 m.Dt:: .int .u64 m.Ds:: .int .u64 m.Dr:: .int .u64 m.Dq:: .bool m.fk:: .bool m.fc:: .bool m.fz:: .bool m.fs:: .bool m.fo:: .int .u64 p::tl
def NL (m:cn) (x:XS):Int×Int×Bool:=
  if x.may=true∧(x.op=26∨x.op=27) then (u64 (rg m.rl x.base+u64 x.ai),x.w / 8,true)
  else if x.may=true∧x.op=30 then (m.q4,8,true)
  else (0,0,false)
def Ky (m:cn) (x:XS):Int:=if x.may=true∧x.op=27 then fL (rg m.rl x.src) x.w else 0
def Ov (m:cn):Int×Bool:=if 16≤m.q0 then (0,false) else (W3.i64.wrap m.q0,true)
def Ou (q:Int):Int:=if 16≤q then 0 else W3.i64.wrap q
def Ow (q:Int):Bool:= !decide (16≤q)
def NJ (m:cn):List Int:=if 16≤m.q0 then [] else [m.q7,m.q6,m.q2,m.CE,m.q8].take (m.q0.toNat%6)
def wD (l:List Int):List D:=l.map (fun x=> .int .u64 x)
def MF (cc:Int):Int×Bool:=
  if cc=0 then (4,true) else if cc=1 then (5,true) else if cc=2 then (7,true) else if cc=3 then (3,true) else if cc=4 then (2,true) else if cc=5 then (6,true)
  else if cc=6 then (15,true) else if cc=7 then (13,true) else if cc=8 then (12,true) else if cc=9 then (14,true) else if cc=10 then (5,true) else (0,false)
def OP (cc:Int):Int×Bool:=
  if cc=4 then (0,true) else if cc=5 then (1,true) else if cc=7 then (2,true) else if cc=3 then (3,true) else if cc=2 then (4,true) else if cc=6 then (5,true)
  else if cc=15 then (6,true) else if cc=13 then (7,true) else if cc=12 then (8,true) else if cc=14 then (9,true) else (0,false)
structure qB where
  (r0 r1 r2 r3 r4 r5 r6 r7 r8 r9 lf:Int)
deriving DecidableEq
def qB.c (r:qB):List D:= [.int .u64 r.r0,.int .u64 r.r1,.int .u64 r.r2,.int .u64 r.r3,.int .u64 r.r4,.int .u64 r.r5,.int .u64 r.r6,.int .u64 r.r7,.int .u64 r.r8,.int .u64 r.r9,.int .u64 r.lf]
def qB.d (r:qB):D:= .agg r.c
def qB.l (r:qB):List Int:= [r.r0,r.r1,r.r2,r.r3,r.r4,r.r5,r.r6,r.r7,r.r8,r.r9,r.lf]
def qB.get (r:qB) (i:Int):Int:=rg r.l i
def qB.put (r:qB) (i v:Int):qB:=⟨st 0 i v r.r0,st 1 i v r.r1,st 2 i v r.r2,st 3 i v r.r3,st 4 i v r.r4,st 5 i v r.r5,st 6 i v r.r6,st 7 i v r.r7,st 8 i v r.r8,st 9 i v r.r9,st 10 i v r.lf⟩
def qB.zero:qB:=⟨0,0,0,0,0,0,0,0,0,0,0⟩
theorem AA {i:Int} (h0:0≤i) (h1:i≤10):i=0∨i=1∨i=2∨i=3∨i=4∨i=5∨i=6∨i=7∨i=8∨i=9∨i=10:=by omega
section
variable {r0 r1 r2 r3 r4 r5 r6 r7 r8 r9 lf i v:Int} {tl:List D}
end
def cn.c (m:cn):List D:= [.int .u64 m.q0,.int .u64 m.q1,.int .u64 m.q2,.int .u64 m.q3,.int .u64 m.q4,.int .u64 m.q5,.int .u64 m.q6,.int .u64 m.q7,.int .u64 m.q8,.int .u64 m.q9,.int .u64 m.CE,.int .u64 m.Du,.int .u64 m.Dt,.int .u64 m.Ds,.int .u64 m.Dr,.int .u64 m.Dq,.bool m.fk,.bool m.fc,.bool m.fz,.bool m.fs,.bool m.fo,.int .u64 m.pc]
theorem EM {w k:Int} {v:Bool} (k0:0≤k) (k1:k≤15) (h:(cS w k==1)=v):(W3.i64.wrap ((VB 64 (w.fdiv (2^(min (W3.u64.wrap k).toNat 64)))&&&VB 64 1).toNat:Int)==1)=v:=by
 rw [show W3.u64.wrap k=k by rw [CR];omega]
 exact h
theorem hD {w k:Int} (k0:0≤k) (k1:k≤15) (h:(cS w k==1)=true):(W3.i64.wrap ((VB 64 (w.fdiv (2^(min (W3.u64.wrap k).toNat 64)))&&&VB 64 1).toNat:Int)==1)=true:=EM k0 k1 h
theorem AG {w k:Int} (k0:0≤k) (k1:k≤15) (h:(cS w k==1)=false):(W3.i64.wrap ((VB 64 (w.fdiv (2^(min (W3.u64.wrap k).toNat 64)))&&&VB 64 1).toNat:Int)==1)=false:=EM k0 k1 h
def dp.x (s:dp):XS:=⟨s.op,s.w,s.dst,s.src,s.base,s.ai,s.au,s.cc⟩
def cV (n:Int):Bool:=decide (n=0∨n=1∨n=2∨n=11)
theorem tV:∀n:Fin 128,(cS 2055 (n.val:Int)==1)=cV (n.val:Int):=by decide+kernel
theorem cr {a b:Bool} (h:a=b):wk (.bool a) (.bool b):=by subst h;simp [wk]
theorem xf {n:Int} (h0:decide (n<0)=false) (h1:n≤127):(cS 2055 n==1)=cV n:=by
 rw [decide_eq_false_iff_not] at h0
 have:=tV ⟨n.toNat,by omega⟩
 simp only [Int.toNat_of_nonneg (show 0≤n by omega)] at this
 exact this
theorem Fq {n:Int} (h0:decide (n<0)=true):false=cV n:=by
 rw [decide_eq_true_eq] at h0
 exact (decide_eq_false (by omega)).symm
def nS (op w dst src base ai au cc:Int):Int:=fS (eI op w dst src base ai au cc) (dS op w dst src base ai au cc)
def pM (op w dst src base ai au cc:Int):Bool:=jE (nS op w dst src base ai au cc) 2055==0
theorem G4 {op w dst src base ai au cc:Int} (h:pM op w dst src base ai au cc=true):(W3.i64.wrap ((VB W3.i64.bits (W3.i64.wrap ((VB W3.i64.bits (eI op w dst src base ai au cc)|||VB W3.i64.bits (dS op w dst src base ai au cc)).toNat:Int))&&& ~~~VB W3.i64.bits 2055).toNat:Int)==0)=true:=h
theorem G5 {op w dst src base ai au cc:Int} (h:pM op w dst src base ai au cc=false):(W3.i64.wrap ((VB W3.i64.bits (W3.i64.wrap ((VB W3.i64.bits (eI op w dst src base ai au cc)|||VB W3.i64.bits (dS op w dst src base ai au cc)).toNat:Int))&&& ~~~VB W3.i64.bits 2055).toNat:Int)==0)=false:=h
def bR (op w dst src base ai au cc:Int):Bool:=decide (op=0∧w=0∧dst=0∧src=0∧base=0∧ai=0∧au=0∧cc=0)
def hH (kind op w dst src base ai au cc aF aw num to:Int):Bool:=
  if kind=0 then av op w dst src base ai au cc&&decide (op<28)&&pM op w dst src base ai au cc&&decide (aF=0∧aw=0∧num=0∧to=0)
  else if kind=1∨kind=2 then decide (0≤aF∧aF≤10)&&cV aw&&bR op w dst src base ai au cc&&decide (num=0∧to=0)
  else if kind=3 then decide (0≤num∧num≤15)&&bR op w dst src base ai au cc&&decide (aF=0∧aw=0∧to=0)
  else if kind=4 then aE cc&&bR (op - 29) w dst src base ai au 0&&decide (0≤to∧to≤64)&&decide (aF=0∧aw=0∧num=0)
  else if kind=5 then decide (0≤to∧to≤64)&&bR op w dst src base ai au cc&&decide (aF=0∧aw=0∧num=0)
  else if kind=6 then bR op w dst src base ai au cc&&decide (aF=0∧aw=0∧num=0∧to=0)
  else false
theorem aL (k1 a1 a2 a3 a4 a5 a6 a7 a8 a9 Uv Ua UK k2 b1 b2 b3 b4 b5 b6 b7 b8 b9 Vc Vs Vb:Int):aa (Ns k1 a1 a2 a3 a4 a5 a6 a7 a8 a9 Uv Ua UK) (Ns k2 b1 b2 b3 b4 b5 b6 b7 b8 b9 Vc Vs Vb)=
  decide (k1=k2∧a1=b1∧a2=b2∧a3=b3∧a4=b4∧a5=b5∧a6=b6∧a7=b7∧a8=b8∧a9=b9∧Uv=Vc∧Ua=Vs∧UK=Vb):=by
 rw [Bool.eq_iff_iff]
 simp [aa,ab]
theorem iO (op w dst src base ai au cc aF aw num to:Int):hH 0 op w dst src base ai au cc aF aw num to=(av op w dst src base ai au cc&&decide (op<28)&&pM op w dst src base ai au cc&&decide (aF=0∧aw=0∧num=0∧to=0)):=rfl
theorem fg (op w dst src base ai au cc aF aw num to:Int):hH 1 op w dst src base ai au cc aF aw num to=(decide (0≤aF∧aF≤10)&&cV aw&&bR op w dst src base ai au cc&&decide (num=0∧to=0)):=rfl
theorem ff (op w dst src base ai au cc aF aw num to:Int):hH 2 op w dst src base ai au cc aF aw num to=(decide (0≤aF∧aF≤10)&&cV aw&&bR op w dst src base ai au cc&&decide (num=0∧to=0)):=rfl
theorem kC (op w dst src base ai au cc aF aw num to:Int):hH 3 op w dst src base ai au cc aF aw num to=(decide (0≤num∧num≤15)&&bR op w dst src base ai au cc&&decide (aF=0∧aw=0∧to=0)):=rfl
theorem gJ (op w dst src base ai au cc aF aw num to:Int):hH 4 op w dst src base ai au cc aF aw num to=(aE cc&&bR (op - 29) w dst src base ai au 0&&decide (0≤to∧to≤64)&&decide (aF=0∧aw=0∧num=0)):=rfl
theorem l3 (op w dst src base ai au cc aF aw num to:Int):hH 5 op w dst src base ai au cc aF aw num to=(decide (0≤to∧to≤64)&&bR op w dst src base ai au cc&&decide (aF=0∧aw=0∧num=0)):=rfl
theorem yO (op w dst src base ai au cc aF aw num to:Int):hH 6 op w dst src base ai au cc aF aw num to=(bR op w dst src base ai au cc&&decide (aF=0∧aw=0∧num=0∧to=0)):=rfl
def HL (kind op:Int):Bool:=decide ((3≤kind∧kind≤6)∨(kind=0∧(op=26∨op=27)))
def dp.ok (s:dp):Prop:= -128≤s.kind∧s.kind≤127∧s.op≤127∧s.cc≤127∧s.aw≤127∧ -128≤s.aF∧s.aF≤127
def hE (l:List dp):Prop:= ∀s∈l,s.ok
def dp.may (s:dp):Bool:=hH s.kind s.op s.w s.dst s.src s.base s.ai s.au s.cc s.aF s.aw s.num s.to
def dp.stops (s:dp):Bool:=HL s.kind s.op
def iV (l:List dp):Option Nat:=l.findIdx? (fun s=> !s.may)
def L8 (l:List dp):Int×Int:=match iV l with
  |some k=>((k:Int),2)
  |none=>(0,0)
def A7:List dp→qB→cn→qB×cn×Nat×Int
  | [],r,m=>(r,m,0,0)
  |s::t,r,m=>match s.stops with
    |true=>(r,m,t.length+1,0)
    |false=>if s.kind=1 then A7 t r (m.put s.aw (r.get s.aF))
      else if s.kind=2 then A7 t (r.put s.aF (rg m.rl s.aw)) m
      else if (oK m s.x 0).2=0 then A7 t r ((oK m s.x 0).1.at 0)
      else (.zero,.zero,t.length+1,(oK m s.x 0).2)
def MZ (l:List dp) (r:qB) (m:cn):List dp:=l.drop (l.length - (A7 l r m).2.2.1)
def O4 (l:List dp) (r:qB):qB×cn×Int×Int:=
  if (L8 l).2=0 then
    let q:=A7 l r .zero
    if q.2.2.2=0 then (q.1,q.2.1,((l.length - q.2.2.1:Nat):Int),0) else (.zero,.zero,0,q.2.2.2)
  else (.zero,.zero,0,2)
def Iq (k:Int) (n:Int):List dp→Int
  | []=>n
  |s::t=>Iq k (if s.kind=k∧0≤s.aF∧s.aF≤10 then fS n (cE s.aF) else n) t
def cI (k n:Int):Bool:=decide (k=1∧(n=3∨n=9∨n=6∨n=7∨n=8∨n=10))
def kz (k n:Int):Bool:=decide (k=0∧n=0)||cI k n||decide (k=2∧0≤n∧n<11)
def Nr (kl nl:List Int):Bool:=(List.range 11).all fun i=>kz (rg kl (i:Int)) (rg nl (i:Int))
section
variable {k0 n0 k1 n1 k2 n2 k3 n3 k4 n4 k5 n5 k6 n6 k7 n7 k8 n8 k9 n9 UM n10 i:Int} {tl:List D}
end
structure ae where
  k:Int→Int
  n:Int→Int
def ae.d (p:ae):D:= .agg [.int .i8 (p.k 0),.int .i8 (p.n 0),.int .i8 (p.k 1),.int .i8 (p.n 1),.int .i8 (p.k 2),.int .i8 (p.n 2),.int .i8 (p.k 3),.int .i8 (p.n 3),.int .i8 (p.k 4),.int .i8 (p.n 4),.int .i8 (p.k 5),.int .i8 (p.n 5),.int .i8 (p.k 6),.int .i8 (p.n 6),.int .i8 (p.k 7),.int .i8 (p.n 7),.int .i8 (p.k 8),.int .i8 (p.n 8),.int .i8 (p.k 9),.int .i8 (p.n 9),.int .i8 (p.k 10),.int .i8 (p.n 10)]
section
variable {p:ae} {i:Int} {tl:List D}
theorem gT (h0:0≤i) (h1:i≤10):eG (.int .i8 (p.k 0):: .int .i8 (p.n 0):: .int .i8 (p.k 1):: .int .i8 (p.n 1):: .int .i8 (p.k 2):: .int .i8 (p.n 2):: .int .i8 (p.k 3):: .int .i8 (p.n 3):: .int .i8 (p.k 4):: .int .i8 (p.n 4):: .int .i8 (p.k 5):: .int .i8 (p.n 5):: .int .i8 (p.k 6):: .int .i8 (p.n 6):: .int .i8 (p.k 7):: .int .i8 (p.n 7):: .int .i8 (p.k 8):: .int .i8 (p.n 8):: .int .i8 (p.k 9):: .int .i8 (p.n 9):: .int .i8 (p.k 10):: .int .i8 (p.n 10)::tl:List D) (0+i.toNat*2) 2 [.int .i8 (p.k i),.int .i8 (p.n i)]:=by
 rcases AA h0 h1 with rfl|rfl|rfl|rfl|rfl|rfl|rfl|rfl|rfl|rfl|rfl<;>exact ⟨rfl,by simp⟩
theorem kj (h0:0≤i) (h1:i≤10):eG (.int .i8 (p.k 0):: .int .i8 (p.n 0):: .int .i8 (p.k 1):: .int .i8 (p.n 1):: .int .i8 (p.k 2):: .int .i8 (p.n 2):: .int .i8 (p.k 3):: .int .i8 (p.n 3):: .int .i8 (p.k 4):: .int .i8 (p.n 4):: .int .i8 (p.k 5):: .int .i8 (p.n 5):: .int .i8 (p.k 6):: .int .i8 (p.n 6):: .int .i8 (p.k 7):: .int .i8 (p.n 7):: .int .i8 (p.k 8):: .int .i8 (p.n 8):: .int .i8 (p.k 9):: .int .i8 (p.n 9):: .int .i8 (p.k 10):: .int .i8 (p.n 10)::tl:List D) (i.toNat*2) 2 [.int .i8 (p.k i),.int .i8 (p.n i)]:=by
 rcases AA h0 h1 with rfl|rfl|rfl|rfl|rfl|rfl|rfl|rfl|rfl|rfl|rfl<;>exact ⟨rfl,by simp⟩
theorem ki (h0:0≤i) (h1:i≤10):(.int .i8 (p.k 0):: .int .i8 (p.n 0):: .int .i8 (p.k 1):: .int .i8 (p.n 1):: .int .i8 (p.k 2):: .int .i8 (p.n 2):: .int .i8 (p.k 3):: .int .i8 (p.n 3):: .int .i8 (p.k 4):: .int .i8 (p.n 4):: .int .i8 (p.k 5):: .int .i8 (p.n 5):: .int .i8 (p.k 6):: .int .i8 (p.n 6):: .int .i8 (p.k 7):: .int .i8 (p.n 7):: .int .i8 (p.k 8):: .int .i8 (p.n 8):: .int .i8 (p.k 9):: .int .i8 (p.n 9):: .int .i8 (p.k 10):: .int .i8 (p.n 10)::tl:List D)[0+i.toNat*2+0]? =some (.int .i8 (p.k i)):=by
 rcases AA h0 h1 with rfl|rfl|rfl|rfl|rfl|rfl|rfl|rfl|rfl|rfl|rfl<;>rfl
theorem Au (h0:0≤i) (h1:i≤10):(.int .i8 (p.k 0):: .int .i8 (p.n 0):: .int .i8 (p.k 1):: .int .i8 (p.n 1):: .int .i8 (p.k 2):: .int .i8 (p.n 2):: .int .i8 (p.k 3):: .int .i8 (p.n 3):: .int .i8 (p.k 4):: .int .i8 (p.n 4):: .int .i8 (p.k 5):: .int .i8 (p.n 5):: .int .i8 (p.k 6):: .int .i8 (p.n 6):: .int .i8 (p.k 7):: .int .i8 (p.n 7):: .int .i8 (p.k 8):: .int .i8 (p.n 8):: .int .i8 (p.k 9):: .int .i8 (p.n 9):: .int .i8 (p.k 10):: .int .i8 (p.n 10)::tl:List D)[0+i.toNat*2+1]? =some (.int .i8 (p.n i)):=by
 rcases AA h0 h1 with rfl|rfl|rfl|rfl|rfl|rfl|rfl|rfl|rfl|rfl|rfl<;>rfl
end
def ae.DC (p:ae) (i:Int):Bool:=kz (p.k i) (p.n i)
def ae.nV (p:ae):Nat→Nat→Bool
  |0,_=>true
  |m+1,i=>p.DC i&&p.nV m (i+1)
def ae.may (p:ae):Bool:=p.nV 11 0
theorem ae.wc (p:ae):∀m i,p.nV m i=true↔ ∀j:Nat,i≤j→j<i+m→p.DC j=true
 |0,i=>by simp [ae.nV];omega
 |m+1,i=>by
  rw [ae.nV,VG,ae.wc p m (i+1)]
  constructor
  ·rintro ⟨h1,h2⟩ j h3 h4
   rcases Nat.eq_or_lt_of_le h3 with e|e
   ·subst e;exact h1
   ·exact h2 j e (by omega)
  ·intro h
   exact ⟨h i (Nat.le_refl _) (by omega),fun j h1 h2=>h j (by omega) (by omega)⟩
theorem ae.fb {p:ae} (h:p.may=true) {i:Int} (h0:0≤i) (h1:i≤10):p.DC i=true:=by
 have:=(p.wc 11 0).1 h i.toNat (by omega) (by omega)
 rwa [Int.toNat_of_nonneg h0] at this
theorem dw {k n:Int} (h:kz k n=true):(k=0∧n=0)∨(k=1∧(n=3∨n=9∨n=6∨n=7∨n=8∨n=10))∨(k=2∧0≤n∧n<11):=by
 unfold kz cI at h
 simp only [WL,decide_eq_true_eq] at h
 omega
def ae.pX (p:ae):Nat→Int
  |0=>0
  |i+1=>if p.k i=2 then (if p.n i+1>p.pX i then p.n i+1 else p.pX i) else p.pX i
def ae.sp (p:ae):Int:=p.pX 11
def ae.KO (p:ae) (i k:Int):Bool:=decide (p.k i≠0∧p.k i=p.k k∧p.n i=p.n k)
def ae.Ki (p:ae) (i:Int):Nat→Nat→Bool
  |0,_=>false
  |m+1,k=>p.KO i k||p.Ki i m (k+1)
def ae.G2 (p:ae):Nat→Nat→Bool
  |0,_=>false
  |m+1,i=>p.Ki i i 0||p.G2 m (i+1)
def ae.apart (p:ae):Bool:= !p.G2 11 0
abbrev dn (dst n:Int):XS:=⟨1,32,dst,0,0,0,n,0⟩
abbrev dt (src slot:Int):XS:=⟨27,64,0,src,4,8*slot,0,0⟩
def ez (to k n:Int):XS:=if k=1 then ⟨0,64,to,n,0,0,0,0⟩ else if k=2 then ⟨26,64,to,0,4,8*n,0,0⟩ else dn to 0
def jf (aw k n:Int):List XS:=if k=1 then [⟨0,64,n,aw,0,0,0,0⟩] else if k=2 then [dt aw n] else []
def dX (v k n:Int):List XS:=if k=2 then [dn 0 v,dt 0 n] else if k=1 then [dn n v] else []
def cy (p:ae):List XS:=(if p.sp>0 then [⟨12,64,4,0,0,0,8*p.sp,0⟩] else [])++(dX 2097152 (p.k 1) (p.n 1)++dX 3145792 (p.k 10) (p.n 10))
def du (p:ae):List XS:=ez 0 (p.k 0) (p.n 0)::((if p.sp>0 then [⟨9,64,4,0,0,0,8*p.sp,0⟩] else [])++ [⟨30,0,0,0,0,0,0,0⟩])
def HO (x:XS) (n:Nat):Bool:=decide (x.base=4∧x.w=64∧x.ai%8=0∧0≤x.ai∧x.ai / 8<(n:Int))
def zQ (x:XS) (m:cn) (s:List Int):List Int:=if x.op=27 then s.set (x.ai / 8).toNat (rg m.rl x.src) else s
def Hq:List XS→cn→List Int→cn×List Int×Bool
  | [],m,s=>(m,s,true)
  |x::t,m,s=>if x.op=31∨x.op=30 then (m,s,true)
    else if x.op=26∨x.op=27 then
      (if HO x s.length=true then
        (if Hp m x (s.getD (x.ai / 8).toNat 0)=0 then Hq t (Ho m x (s.getD (x.ai / 8).toNat 0)) (zQ x m s) else (m,zQ x m s,false))
       else (m,s,false))
    else if Hp m x 0=0 then Hq t (Ho m x 0) s else (m,s,false)
end Go.Ev
namespace Go.Proofs.YtkpneibifdoecaaGreat
open Go Go.Ev
abbrev un (n:Nat):List D:=List.replicate n .undef
abbrev aP (p:ae):List D:= [.int .i8 (p.k 0),.int .i8 (p.n 0),.int .i8 (p.k 1),.int .i8 (p.n 1),.int .i8 (p.k 2),.int .i8 (p.n 2),.int .i8 (p.k 3),.int .i8 (p.n 3),.int .i8 (p.k 4),.int .i8 (p.n 4),.int .i8 (p.k 5),.int .i8 (p.n 5),.int .i8 (p.k 6),.int .i8 (p.n 6),.int .i8 (p.k 7),.int .i8 (p.n 7),.int .i8 (p.k 8),.int .i8 (p.n 8),.int .i8 (p.k 9),.int .i8 (p.n 9),.int .i8 (p.k 10),.int .i8 (p.n 10)]
abbrev O0 (m:cn):List D:= [.int .u64 m.q0,.int .u64 m.q1,.int .u64 m.q2,.int .u64 m.q3,.int .u64 m.q4,.int .u64 m.q5,.int .u64 m.q6,.int .u64 m.q7,.int .u64 m.q8,.int .u64 m.q9,.int .u64 m.CE,.int .u64 m.Du,.int .u64 m.Dt,.int .u64 m.Ds,.int .u64 m.Dr,.int .u64 m.Dq,.bool m.fk,.bool m.fc,.bool m.fz,.bool m.fs,.bool m.fo,.int .u64 m.pc]
abbrev OY (r:cn):List D:= [.int .u64 r.q0,.int .u64 r.q1,.int .u64 r.q2,.int .u64 r.q3,.int .u64 r.q4,.int .u64 r.q5,.int .u64 r.q6,.int .u64 r.q7,.int .u64 r.q8,.int .u64 r.q9,.int .u64 r.CE,.int .u64 r.Du,.int .u64 r.Dt,.int .u64 r.Ds,.int .u64 r.Dr,.int .u64 r.Dq]
abbrev O1 (r:cn):List D:= [.int .u64 r.q0,.int .u64 r.q1,.int .u64 r.q2,.int .u64 r.q3,.int .u64 r.q4,.int .u64 r.q5,.int .u64 r.q6,.int .u64 r.q7,.int .u64 r.q8,.int .u64 r.q9,.int .u64 r.CE,.int .u64 r.Du,.int .u64 r.Dt,.int .u64 r.Ds,.int .u64 r.Dr,.int .u64 r.Dq,.bool false,.bool false,.bool false,.bool false,.bool false,.int .u64 0]
abbrev OT:List D:= [.int .u64 0,.int .u64 0,.int .u64 0,.int .u64 0,.int .u64 0,.int .u64 0,.int .u64 0,.int .u64 0,.int .u64 0,.int .u64 0,.int .u64 0,.int .u64 0,.int .u64 0,.int .u64 0,.int .u64 0,.int .u64 0,.bool false,.bool false,.bool false,.bool false,.bool false,.int .u64 0]
abbrev N2:List D:=List.map D.aG (sA 11 [D.int .u64 0])
end Go.Proofs.YtkpneibifdoecaaGreat
