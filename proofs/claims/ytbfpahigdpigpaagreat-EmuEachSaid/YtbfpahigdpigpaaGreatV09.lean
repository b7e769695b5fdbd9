import Derived.Test.YtbfpahigdpigpaaGreatV08
open BitVec renaming ofInt→Zw,toNat→Zz
open List renaming replicate→Zx,length→ZA,nil_append→ZT,drop→aas
open Go.Proofs.Tryz renaming prog→Zy
open Int renaming not_lt→ZH,toNat→ZJ
open And renaming intro→ZI
open List.cons renaming injEq→Z6
open Or renaming inl→aao
open Go renaming IntKind→aaY
/- Contracts and plain laws that a statement's proof leans on (texts merged:XP2,XP2A,XD1,XD1A). -/
set_option linter.unusedVariables false
set_option linter.unusedSimpArgs false
set_option maxRecDepth 100000
set_option maxHeartbeats 8000000
namespace Go.Proofs.YtbfpahigdpigpaaGreat
open Go Go.Ev
theorem sR:type_of%(ZI @bX (ZI @cJ (ZI @D.int.injEq (ZI @D.bool.injEq (ZI @ee @eJ))))):=(ZI @bX (ZI @cJ (ZI @D.int.injEq (ZI @D.bool.injEq (ZI @ee @eJ)))))
theorem cB (x:Int) (l:List D):aQ Zy 158 ([bj 1 (ay x::l),aq 0]) (ay x):=(MX (d:= .int .u8 x) [tF,tT]).to (by simp [wk])
theorem eX:aQ Zy 158 ([bj 1 [],aq 0]) (ay 0):=(MX (d:= .int .u8 0) [tT]).to (by simp [wk])
theorem GF:aQ Zy 142 ([bj 1 ([])]) (.aL [ez (nP 32 0),ax false]):=by
 have c0:= @eX
 have c1:= @eX
 have c2:= @mR 0 (by decide) (by decide) (rfl:false=false)
 exact (ig (d:= .aL [.agg [ak 32,ax false,ay 0,ak 0,ak 0,aq 0,aq 0,aq 0,aq 0,aq 0,ak 0],ax false]) [aw c0,tF,aw c1,aw c2,tF,tT]).to (by first|(simp [wk,a7,ez,nP, *];done)|(simp only [bX,cJ] at*;simp [wk,a7,ez,nP, *]))
theorem GH (d:Int) (v:List Int) (hv:dx v):aQ Zy 142 ([bj 1 (ay 15::ay d::bD v)]) (.aL [ez (bB 32 0 0 true d v),ax true]):=by
 have c0:= @cB 15 (ay d::bD v)
 have c1:= @cB 15 (ay d::bD v)
 have c2:= @mR 15 (by first|rfl|decide) (by first|rfl|decide) (rfl:false=false)
 have c3:= @mB v hv
 let E1:EL:= [aw c0,tF,aw c1,aw c2,tF,tF,.cM (decide ((0:Int)≤(1:Int)∧(1:Int)≤(↑(ZA (ay 15::ay d::bD v)):Int))) true (by simp [aG]<;>omega),tT,tT,tT,tT,tC (dj 0 (by simp [aG]<;>omega:(decide ((↑(ZA (ay d::bD v)):Int)<(1:Int)))=false)),.cM (decide ((0:Int)≤(1:Int)∧(1:Int)≤(↑(ZA (aas (ZJ (1:Int)) (ay 15::ay d::bD v))):Int))) true (by simp [aG]<;>omega),aw c3]
 by_cases h4:jI v=0
 ·have c5:= @ft v hv
  have c6:= @fu v
  have c7:= @bS v hv
  have c8:= @bT v
  exact (ig (d:= .aL [.agg [ak 32,ax true,ay d,ak (aaY.wrap aaY.i8 (↑(Zz (Zw (8:Nat) (jO v)|||Zw (8:Nat) (0:Int))):Int)),ak (aaY.wrap aaY.i8 (↑(Zz (Zw (8:Nat) (jP v)|||Zw (8:Nat) (0:Int))):Int)),aq (lu v),aq (iM v (ir v)),aq (aaY.i64.wrap (ia v (ir v))),aq (iM v (0:Nat)),aq (aaY.i64.wrap (aaY.wrap aaY.i8 (ia v (0:Nat)))),ak 0],ax true]) (E1++ [tC (nt (cD 0 true h4)),aw c5,aw c6,aw c7,aw c8])).to (by clear E1;(try simp only [sR,wk,a7,ez,bB] at*);(try rw [eL ‹¬jI v=0›]);(try simp only [dD hv,eK,iX hv (aao rfl),iY hv (aao rfl),fO hv,fP hv]);simp [*])
 have c9:= @bS v hv
 have Tp:= @bT v
 have TJ:= @bS v hv
 have Tx:= @bT v
 exact (ig (d:= .aL [.agg [ak 32,ax true,ay d,ak (aaY.wrap aaY.i8 (↑(Zz (Zw (8:Nat) (jO v)|||Zw (8:Nat) (0:Int))):Int)),ak (aaY.wrap aaY.i8 (↑(Zz (Zw (8:Nat) (jP v)|||Zw (8:Nat) (0:Int))):Int)),aq (lu v),aq (iM v (0:Nat)),aq (aaY.i64.wrap (ia v (0:Nat))),aq (iM v (0:Nat)),aq (aaY.i64.wrap (aaY.wrap aaY.i8 (ia v (0:Nat)))),ak 0],ax true]) (E1++ [tC (nt (aR h4)),aw c9,aw Tp,aw TJ,aw Tx])).to (by clear E1;(try simp only [sR,wk,a7,ez,bB] at*);(try rw [eL ‹¬jI v=0›]);(try simp only [dD hv,eK,iX hv (aao rfl),iY hv (aao rfl),fO hv,fP hv]);simp [*])
theorem GI:aQ Zy 142 ([bj 1 (ay 15:: [])]) (.aL [ez (bB 32 0 0 false 15 []),ax true]):=by
 have c0:= @cB 15 ([])
 have c1:= @cB 15 ([])
 have c2:= @mR 15 (by decide) (by decide) (rfl:false=false)
 have c3:= @jA
 have c4:= @eX
 have c5:= @eX
 exact (ig (d:= .aL [.agg [ak 32,ax false,ay 15,ak 0,ak 0,aq 0,aq 0,aq 0,aq 0,aq 0,ak 0],ax true]) ([aw c0,tF,aw c1,aw c2]++cr 8 124++ [aw c3,tT,aO,tT,aw c4,aO,tT,aw c5])).to (by (try simp only [sR,wk,a7,ez,bB] at*);(try rw [eL ‹¬jI []=0›]);(try simp only [dD iZ,eK,iX iZ (aao rfl),iY iZ (aao rfl),fO iZ,fP iZ]);simp [*,jO,jP,lu,ir,iM,ia,e8])
theorem GG (c:Int) (k0:0≤c) (k1:c≤255) (hq:kJ c=false) (h2:¬c=102) (hc:¬c=15) (v:List Int) (hv:dx v):aQ Zy 142 ([bj 1 (ay c::bD v)]) (.aL [ez (bB 32 0 0 false c v),ax true]):=by
 have c0:= @cB c (bD v)
 have c1:= @cB c (bD v)
 have c2:= @mR c k0 k1 hq
 have c3:= @mB v hv
 let E1:EL:=([aw c0,tC (by simp [aG]<;>omega:(c==(102:Int))=false),aw c1,aw c2,tF,tF,.cM (decide ((0:Int)≤(1:Int)∧(1:Int)≤(↑(ZA (ay c::bD v)):Int))) true (by simp [aG]<;>omega)]++Zx 3 (tC (eT (by simp [aG]<;>omega:(c==(15:Int))=false)))++ [tC (by simp [aG]<;>omega:(c==(15:Int))=false),tF,aw c3])
 by_cases h4:jI v=0
 ·have c5:= @ft v hv
  have c6:= @fu v
  have c7:= @bS v hv
  have c8:= @bT v
  exact (ig (d:= .aL [.agg [ak 32,ax false,ay c,ak (aaY.wrap aaY.i8 (↑(Zz (Zw (8:Nat) (jO v)|||Zw (8:Nat) (0:Int))):Int)),ak (aaY.wrap aaY.i8 (↑(Zz (Zw (8:Nat) (jP v)|||Zw (8:Nat) (0:Int))):Int)),aq (lu v),aq (iM v (ir v)),aq (aaY.i64.wrap (ia v (ir v))),aq (iM v (0:Nat)),aq (aaY.i64.wrap (aaY.wrap aaY.i8 (ia v (0:Nat)))),ak 0],ax true]) (E1++ [tC (nt (cD 0 true h4)),aw c5,aw c6,aw c7,aw c8])).to (by clear E1;(try simp only [sR,wk,a7,ez,bB] at*);(try rw [eL ‹¬jI v=0›]);(try simp only [dD hv,eK,iX hv (aao rfl),iY hv (aao rfl),fO hv,fP hv]);simp [*])
 have c9:= @bS v hv
 have Tp:= @bT v
 have TJ:= @bS v hv
 have Tx:= @bT v
 exact (ig (d:= .aL [.agg [ak 32,ax false,ay c,ak (aaY.wrap aaY.i8 (↑(Zz (Zw (8:Nat) (jO v)|||Zw (8:Nat) (0:Int))):Int)),ak (aaY.wrap aaY.i8 (↑(Zz (Zw (8:Nat) (jP v)|||Zw (8:Nat) (0:Int))):Int)),aq (lu v),aq (iM v (0:Nat)),aq (aaY.i64.wrap (ia v (0:Nat))),aq (iM v (0:Nat)),aq (aaY.i64.wrap (aaY.wrap aaY.i8 (ia v (0:Nat)))),ak 0],ax true]) (E1++ [tC (nt (aR h4)),aw c9,aw Tp,aw TJ,aw Tx])).to (by clear E1;(try simp only [sR,wk,a7,ez,bB] at*);(try rw [eL ‹¬jI v=0›]);(try simp only [dD hv,eK,iX hv (aao rfl),iY hv (aao rfl),fO hv,fP hv]);simp [*])
theorem GJ (h:Int) (g0:0≤h) (g1:h≤255) (hq:kJ h=true) (hh:¬h=102):aQ Zy 142 ([bj 1 (ay h:: [])]) (.aL [ez (nP (if h / 8%2=1 then 64 else 32) (h%2*8)),ax false]):=by
 have c0:= @cB h ([])
 have c1:= @cB h ([])
 have c2:= @mQ h g0 g1 hq
 let E1:EL:= [aw c0,tC (by simp [aG]<;>omega:(h==102)=false),aw c1,aw c2,tT,tT]
 rcases cI (decide (h / 8%2=1)) with h3|h3
 ·exact (ig (d:= .aL [.agg [ak 64,ax false,ay 0,ak 0,ak 0,aq 0,aq 0,aq 0,aq 0,aq 0,ak (h%2*8)],ax false]) (E1++ [tC h3,tT])).to (by clear E1;first|(simp [wk,a7,ez,nP, *];done)|(simp only [bX,cJ] at*;simp [wk,a7,ez,nP, *]))
 exact (ig (d:= .aL [.agg [ak 32,ax false,ay 0,ak 0,ak 0,aq 0,aq 0,aq 0,aq 0,aq 0,ak (h%2*8)],ax false]) (E1++ [tC h3,tT])).to (by clear E1;first|(simp [wk,a7,ez,nP, *];done)|(simp only [bX,cJ] at*;simp [wk,a7,ez,nP, *]))
theorem GL (h:Int) (g0:0≤h) (g1:h≤255) (hq:kJ h=true) (hh:¬h=102) (d:Int) (v:List Int) (hv:dx v):aQ Zy 142 ([bj 1 (ay h::ay 15::ay d::bD v)]) (.aL [ez (bB (if h / 8%2=1 then 64 else 32) (h / 4%2*8) (h%2*8) true d v),ax true]):=by
 have c0:= @cB h (ay 15::ay d::bD v)
 have c1:= @cB h (ay 15::ay d::bD v)
 have c2:= @mQ h g0 g1 hq
 let E1:EL:= [aw c0,tC (by simp [aG]<;>omega:(h==(102:Int))=false),aw c1,aw c2,tT,.cM (decide ((0:Int)≤(1:Int)∧(1:Int)≤(↑(ZA (ay h::ay 15::ay d::bD v)):Int))) true (by simp [aG]<;>omega)]
 rcases cI (decide (h / (8:Int)%(2:Int)=(1:Int))) with h3|h3
 ·have c4:= @mB v hv
  let E2:EL:=E1++ [tC h3,tF,.cM (decide ((0:Int)≤(1:Int)∧(1:Int)≤(↑(ZA (aas (ZJ (1:Int)) (ay h::ay 15::ay d::bD v))):Int))) true (by simp [aG]<;>omega),tT,tT,tT,tT,tC (dj 0 (by simp [aG]<;>omega:(decide ((↑(ZA (ay d::bD v)):Int)<(1:Int)))=false)),.cM (decide ((0:Int)≤(1:Int)∧(1:Int)≤(↑(ZA (aas (ZJ (1:Int)) (aas (ZJ (1:Int)) (ay h::ay 15::ay d::bD v)))):Int))) true (by simp [aG]<;>omega),aw c4]
  by_cases h5:jI v=0
  ·have c6:= @ft v hv
   have c7:= @fu v
   have c8:= @bS v hv
   have c9:= @bT v
   exact (ig (d:= .aL [.agg [ak 64,ax true,ay d,ak (aaY.wrap aaY.i8 (↑(Zz (Zw (8:Nat) (jO v)|||Zw (8:Nat) (h / (4:Int)%(2:Int)*(8:Int)))):Int)),ak (aaY.wrap aaY.i8 (↑(Zz (Zw (8:Nat) (jP v)|||Zw (8:Nat) (h%(2:Int)*(8:Int)))):Int)),aq (lu v),aq (iM v (ir v)),aq (aaY.i64.wrap (ia v (ir v))),aq (iM v (0:Nat)),aq (aaY.i64.wrap (aaY.wrap aaY.i8 (ia v (0:Nat)))),ak (h%(2:Int)*(8:Int))],ax true]) (E2++ [tC (nt (cD 0 true h5)),aw c6,aw c7,aw c8,aw c9])).to (by clear E1 E2;(try simp only [sR,wk,a7,ez,bB] at*);(try rw [eL ‹¬jI v=0›]);(try simp only [dD hv,eK,iX hv (aao rfl),iY hv (aao rfl),fO hv,fP hv]);simp [*])
  have Tp:= @bS v hv
  have TJ:= @bT v
  have Tx:= @bS v hv
  have TF:= @bT v
  exact (ig (d:= .aL [.agg [ak 64,ax true,ay d,ak (aaY.wrap aaY.i8 (↑(Zz (Zw (8:Nat) (jO v)|||Zw (8:Nat) (h / (4:Int)%(2:Int)*(8:Int)))):Int)),ak (aaY.wrap aaY.i8 (↑(Zz (Zw (8:Nat) (jP v)|||Zw (8:Nat) (h%(2:Int)*(8:Int)))):Int)),aq (lu v),aq (iM v (0:Nat)),aq (aaY.i64.wrap (ia v (0:Nat))),aq (iM v (0:Nat)),aq (aaY.i64.wrap (aaY.wrap aaY.i8 (ia v (0:Nat)))),ak (h%(2:Int)*(8:Int))],ax true]) (E2++ [tC (nt (aR h5)),aw Tp,aw TJ,aw Tx,aw TF])).to (by clear E1 E2;(try simp only [sR,wk,a7,ez,bB] at*);(try rw [eL ‹¬jI v=0›]);(try simp only [dD hv,eK,iX hv (aao rfl),iY hv (aao rfl),fO hv,fP hv]);simp [*])
 have T0:= @mB v hv
 let E3:EL:=E1++ [tC h3,tF,.cM (decide ((0:Int)≤(1:Int)∧(1:Int)≤(↑(ZA (aas (ZJ (1:Int)) (ay h::ay 15::ay d::bD v))):Int))) true (by simp [aG]<;>omega),tT,tT,tT,tT,tC (dj 0 (by simp [aG]<;>omega:(decide ((↑(ZA (ay d::bD v)):Int)<(1:Int)))=false)),.cM (decide ((0:Int)≤(1:Int)∧(1:Int)≤(↑(ZA (aas (ZJ (1:Int)) (aas (ZJ (1:Int)) (ay h::ay 15::ay d::bD v)))):Int))) true (by simp [aG]<;>omega),aw T0]
 by_cases h15:jI v=0
 ·have TG:= @ft v hv
  have Vs:= @fu v
  have Vi:= @bS v hv
  have T9:= @bT v
  exact (ig (d:= .aL [.agg [ak 32,ax true,ay d,ak (aaY.wrap aaY.i8 (↑(Zz (Zw (8:Nat) (jO v)|||Zw (8:Nat) (h / (4:Int)%(2:Int)*(8:Int)))):Int)),ak (aaY.wrap aaY.i8 (↑(Zz (Zw (8:Nat) (jP v)|||Zw (8:Nat) (h%(2:Int)*(8:Int)))):Int)),aq (lu v),aq (iM v (ir v)),aq (aaY.i64.wrap (ia v (ir v))),aq (iM v (0:Nat)),aq (aaY.i64.wrap (aaY.wrap aaY.i8 (ia v (0:Nat)))),ak (h%(2:Int)*(8:Int))],ax true]) (E3++ [tC (nt (cD 0 true h15)),aw TG,aw Vs,aw Vi,aw T9])).to (by clear E1 E3;(try simp only [sR,wk,a7,ez,bB] at*);(try rw [eL ‹¬jI v=0›]);(try simp only [dD hv,eK,iX hv (aao rfl),iY hv (aao rfl),fO hv,fP hv]);simp [*])
 have Vq:= @bS v hv
 have Vt:= @bT v
 have VC:= @bS v hv
 have Ua:= @bT v
 exact (ig (d:= .aL [.agg [ak 32,ax true,ay d,ak (aaY.wrap aaY.i8 (↑(Zz (Zw (8:Nat) (jO v)|||Zw (8:Nat) (h / (4:Int)%(2:Int)*(8:Int)))):Int)),ak (aaY.wrap aaY.i8 (↑(Zz (Zw (8:Nat) (jP v)|||Zw (8:Nat) (h%(2:Int)*(8:Int)))):Int)),aq (lu v),aq (iM v (0:Nat)),aq (aaY.i64.wrap (ia v (0:Nat))),aq (iM v (0:Nat)),aq (aaY.i64.wrap (aaY.wrap aaY.i8 (ia v (0:Nat)))),ak (h%(2:Int)*(8:Int))],ax true]) (E3++ [tC (nt (aR h15)),aw Vq,aw Vt,aw VC,aw Ua])).to (by clear E1 E3;(try simp only [sR,wk,a7,ez,bB] at*);(try rw [eL ‹¬jI v=0›]);(try simp only [dD hv,eK,iX hv (aao rfl),iY hv (aao rfl),fO hv,fP hv]);simp [*])
theorem GM (h:Int) (g0:0≤h) (g1:h≤255) (hq:kJ h=true) (hh:¬h=102):aQ Zy 142 ([bj 1 (ay h::ay 15:: [])]) (.aL [ez (bB (if h / 8%2=1 then 64 else 32) (h / 4%2*8) (h%2*8) false 15 []),ax true]):=by
 have c0:= @cB h ([ay 15])
 have c1:= @cB h ([ay 15])
 have c2:= @mQ h g0 g1 hq
 let E1:EL:= [aw c0,tC (by simp [aG]<;>omega:(h==102)=false),aw c1,aw c2,tT,tT]
 rcases cI (decide (h / 8%2=1)) with h3|h3
 ·have c4:= @jA
  have c5:= @eX
  have c6:= @eX
  exact (ig (d:= .aL [.agg [ak 64,ax false,ay 15,ak (aaY.wrap aaY.i8 (↑(Zz (Zw (8:Nat) 0|||Zw (8:Nat) (h / 4%2*8))):Int)),ak (aaY.wrap aaY.i8 (↑(Zz (Zw (8:Nat) 0|||Zw (8:Nat) (h%2*8))):Int)),aq 0,aq 0,aq 0,aq 0,aq 0,ak (h%2*8)],ax true]) (E1++ [tC h3,tF,tT,tT,tT,tT,tT,tF,aw c4,tT,aO,tT,aw c5,aO,tT,aw c6])).to (by clear E1;(try simp only [sR,wk,a7,ez,bB] at*);(try rw [eL ‹¬jI []=0›]);(try simp only [dD iZ,eK,iX iZ (aao rfl),iY iZ (aao rfl),fO iZ,fP iZ]);simp [*,jO,jP,lu,ir,iM,ia,e8,dh];omega)
 have c7:= @jA
 have c8:= @eX
 have c9:= @eX
 exact (ig (d:= .aL [.agg [ak 32,ax false,ay 15,ak (aaY.wrap aaY.i8 (↑(Zz (Zw (8:Nat) 0|||Zw (8:Nat) (h / 4%2*8))):Int)),ak (aaY.wrap aaY.i8 (↑(Zz (Zw (8:Nat) 0|||Zw (8:Nat) (h%2*8))):Int)),aq 0,aq 0,aq 0,aq 0,aq 0,ak (h%2*8)],ax true]) (E1++ [tC h3,tF,tT,tT,tT,tT,tT,tF,aw c7,tT,aO,tT,aw c8,aO,tT,aw c9])).to (by clear E1;(try simp only [sR,wk,a7,ez,bB] at*);(try rw [eL ‹¬jI []=0›]);(try simp only [dD iZ,eK,iX iZ (aao rfl),iY iZ (aao rfl),fO iZ,fP iZ]);simp [*,jO,jP,lu,ir,iM,ia,e8,dh];omega)
theorem GK (h:Int) (g0:0≤h) (g1:h≤255) (hq:kJ h=true) (hh:¬h=102) (c:Int) (hc:¬c=15) (v:List Int) (hv:dx v):aQ Zy 142 ([bj 1 (ay h::ay c::bD v)]) (.aL [ez (bB (if h / 8%2=1 then 64 else 32) (h / 4%2*8) (h%2*8) false c v),ax true]):=by
 have c0:= @cB h (ay c::bD v)
 have c1:= @cB h (ay c::bD v)
 have c2:= @mQ h g0 g1 hq
 let E1:EL:= [aw c0,tC (by simp [aG]<;>omega:(h==(102:Int))=false),aw c1,aw c2,tT,.cM (decide ((0:Int)≤(1:Int)∧(1:Int)≤(↑(ZA (ay h::ay c::bD v)):Int))) true (by simp [aG]<;>omega)]
 rcases cI (decide (h / (8:Int)%(2:Int)=(1:Int))) with h3|h3
 ·have c4:= @mB v hv
  let E2:EL:=E1++ [tC h3,tF,.cM (decide ((0:Int)≤(1:Int)∧(1:Int)≤(↑(ZA (aas (ZJ (1:Int)) (ay h::ay c::bD v))):Int))) true (by simp [aG]<;>omega)]++Zx 3 (tC (eT (by simp [aG]<;>omega:(c==(15:Int))=false)))++ [tC (by simp [aG]<;>omega:(c==(15:Int))=false),tF,aw c4]
  by_cases h5:jI v=0
  ·have c6:= @ft v hv
   have c7:= @fu v
   have c8:= @bS v hv
   have c9:= @bT v
   exact (ig (d:= .aL [.agg [ak 64,ax false,ay c,ak (aaY.wrap aaY.i8 (↑(Zz (Zw (8:Nat) (jO v)|||Zw (8:Nat) (h / (4:Int)%(2:Int)*(8:Int)))):Int)),ak (aaY.wrap aaY.i8 (↑(Zz (Zw (8:Nat) (jP v)|||Zw (8:Nat) (h%(2:Int)*(8:Int)))):Int)),aq (lu v),aq (iM v (ir v)),aq (aaY.i64.wrap (ia v (ir v))),aq (iM v (0:Nat)),aq (aaY.i64.wrap (aaY.wrap aaY.i8 (ia v (0:Nat)))),ak (h%(2:Int)*(8:Int))],ax true]) (E2++ [tC (nt (cD 0 true h5)),aw c6,aw c7,aw c8,aw c9])).to (by clear E1 E2;(try simp only [sR,wk,a7,ez,bB] at*);(try rw [eL ‹¬jI v=0›]);(try simp only [dD hv,eK,iX hv (aao rfl),iY hv (aao rfl),fO hv,fP hv]);simp [*])
  have Tp:= @bS v hv
  have TJ:= @bT v
  have Tx:= @bS v hv
  have TF:= @bT v
  exact (ig (d:= .aL [.agg [ak 64,ax false,ay c,ak (aaY.wrap aaY.i8 (↑(Zz (Zw (8:Nat) (jO v)|||Zw (8:Nat) (h / (4:Int)%(2:Int)*(8:Int)))):Int)),ak (aaY.wrap aaY.i8 (↑(Zz (Zw (8:Nat) (jP v)|||Zw (8:Nat) (h%(2:Int)*(8:Int)))):Int)),aq (lu v),aq (iM v (0:Nat)),aq (aaY.i64.wrap (ia v (0:Nat))),aq (iM v (0:Nat)),aq (aaY.i64.wrap (aaY.wrap aaY.i8 (ia v (0:Nat)))),ak (h%(2:Int)*(8:Int))],ax true]) (E2++ [tC (nt (aR h5)),aw Tp,aw TJ,aw Tx,aw TF])).to (by clear E1 E2;(try simp only [sR,wk,a7,ez,bB] at*);(try rw [eL ‹¬jI v=0›]);(try simp only [dD hv,eK,iX hv (aao rfl),iY hv (aao rfl),fO hv,fP hv]);simp [*])
 have T0:= @mB v hv
 let E3:EL:=E1++ [tC h3,tF,.cM (decide ((0:Int)≤(1:Int)∧(1:Int)≤(↑(ZA (aas (ZJ (1:Int)) (ay h::ay c::bD v))):Int))) true (by simp [aG]<;>omega)]++Zx 3 (tC (eT (by simp [aG]<;>omega:(c==(15:Int))=false)))++ [tC (by simp [aG]<;>omega:(c==(15:Int))=false),tF,aw T0]
 by_cases h15:jI v=0
 ·have TG:= @ft v hv
  have Vs:= @fu v
  have Vi:= @bS v hv
  have T9:= @bT v
  exact (ig (d:= .aL [.agg [ak 32,ax false,ay c,ak (aaY.wrap aaY.i8 (↑(Zz (Zw (8:Nat) (jO v)|||Zw (8:Nat) (h / (4:Int)%(2:Int)*(8:Int)))):Int)),ak (aaY.wrap aaY.i8 (↑(Zz (Zw (8:Nat) (jP v)|||Zw (8:Nat) (h%(2:Int)*(8:Int)))):Int)),aq (lu v),aq (iM v (ir v)),aq (aaY.i64.wrap (ia v (ir v))),aq (iM v (0:Nat)),aq (aaY.i64.wrap (aaY.wrap aaY.i8 (ia v (0:Nat)))),ak (h%(2:Int)*(8:Int))],ax true]) (E3++ [tC (nt (cD 0 true h15)),aw TG,aw Vs,aw Vi,aw T9])).to (by clear E1 E3;(try simp only [sR,wk,a7,ez,bB] at*);(try rw [eL ‹¬jI v=0›]);(try simp only [dD hv,eK,iX hv (aao rfl),iY hv (aao rfl),fO hv,fP hv]);simp [*])
 have Vq:= @bS v hv
 have Vt:= @bT v
 have VC:= @bS v hv
 have Ua:= @bT v
 exact (ig (d:= .aL [.agg [ak 32,ax false,ay c,ak (aaY.wrap aaY.i8 (↑(Zz (Zw (8:Nat) (jO v)|||Zw (8:Nat) (h / (4:Int)%(2:Int)*(8:Int)))):Int)),ak (aaY.wrap aaY.i8 (↑(Zz (Zw (8:Nat) (jP v)|||Zw (8:Nat) (h%(2:Int)*(8:Int)))):Int)),aq (lu v),aq (iM v (0:Nat)),aq (aaY.i64.wrap (ia v (0:Nat))),aq (iM v (0:Nat)),aq (aaY.i64.wrap (aaY.wrap aaY.i8 (ia v (0:Nat)))),ak (h%(2:Int)*(8:Int))],ax true]) (E3++ [tC (nt (aR h15)),aw Vq,aw Vt,aw VC,aw Ua])).to (by clear E1 E3;(try simp only [sR,wk,a7,ez,bB] at*);(try rw [eL ‹¬jI v=0›]);(try simp only [dD hv,eK,iX hv (aao rfl),iY hv (aao rfl),fO hv,fP hv]);simp [*])
theorem GN:aQ Zy 142 ([bj 1 (ay 102:: [])]) (.aL [ez (nP 16 0),ax false]):=by
 have c0:= @cB 102 ([])
 have c1:= @eX
 have c2:= @mR 0 (by decide) (by decide) (rfl:false=false)
 exact (ig (d:= .aL [.agg [ak 16,ax false,ay 0,ak 0,ak 0,aq 0,aq 0,aq 0,aq 0,aq 0,ak 0],ax false]) [aw c0,tT,tT,aw c1,aw c2,tF,tT]).to (by first|(simp [wk,a7,ez,nP, *];done)|(simp only [bX,cJ] at*;simp [wk,a7,ez,nP, *]))
theorem GP (d:Int) (v:List Int) (hv:dx v):aQ Zy 142 ([bj 1 (ay 102::ay 15::ay d::bD v)]) (.aL [ez (bB 16 0 0 true d v),ax true]):=by
 have c0:= @cB 102 (ay 15::ay d::bD v)
 have c1:= @cB 15 (ay d::bD v)
 have c2:= @mR 15 (by first|rfl|decide) (by first|rfl|decide) (rfl:false=false)
 have c3:= @mB v hv
 let E1:EL:= [aw c0,tT,.cM (decide ((0:Int)≤(1:Int)∧(1:Int)≤(↑(ZA (ay 102::ay 15::ay d::bD v)):Int))) true (by simp [aG]<;>omega),aw c1,aw c2,tF,tF,.cM (decide ((0:Int)≤(1:Int)∧(1:Int)≤(↑(ZA (aas (ZJ (1:Int)) (ay 102::ay 15::ay d::bD v))):Int))) true (by simp [aG]<;>omega),tT,tT,tT,tT,tC (dj 0 (by simp [aG]<;>omega:(decide ((↑(ZA (ay d::bD v)):Int)<(1:Int)))=false)),.cM (decide ((0:Int)≤(1:Int)∧(1:Int)≤(↑(ZA (aas (ZJ (1:Int)) (aas (ZJ (1:Int)) (ay 102::ay 15::ay d::bD v)))):Int))) true (by simp [aG]<;>omega),aw c3]
 by_cases h4:jI v=0
 ·have c5:= @ft v hv
  have c6:= @fu v
  have c7:= @bS v hv
  have c8:= @bT v
  exact (ig (d:= .aL [.agg [ak 16,ax true,ay d,ak (aaY.wrap aaY.i8 (↑(Zz (Zw (8:Nat) (jO v)|||Zw (8:Nat) (0:Int))):Int)),ak (aaY.wrap aaY.i8 (↑(Zz (Zw (8:Nat) (jP v)|||Zw (8:Nat) (0:Int))):Int)),aq (lu v),aq (iM v (ir v)),aq (aaY.i64.wrap (ia v (ir v))),aq (iM v (0:Nat)),aq (aaY.i64.wrap (aaY.wrap aaY.i8 (ia v (0:Nat)))),ak 0],ax true]) (E1++ [tC (nt (cD 0 true h4)),aw c5,aw c6,aw c7,aw c8])).to (by clear E1;(try simp only [sR,wk,a7,ez,bB] at*);(try rw [eL ‹¬jI v=0›]);(try simp only [dD hv,eK,iX hv (aao rfl),iY hv (aao rfl),fO hv,fP hv]);simp [*])
 have c9:= @bS v hv
 have Tp:= @bT v
 have TJ:= @bS v hv
 have Tx:= @bT v
 exact (ig (d:= .aL [.agg [ak 16,ax true,ay d,ak (aaY.wrap aaY.i8 (↑(Zz (Zw (8:Nat) (jO v)|||Zw (8:Nat) (0:Int))):Int)),ak (aaY.wrap aaY.i8 (↑(Zz (Zw (8:Nat) (jP v)|||Zw (8:Nat) (0:Int))):Int)),aq (lu v),aq (iM v (0:Nat)),aq (aaY.i64.wrap (ia v (0:Nat))),aq (iM v (0:Nat)),aq (aaY.i64.wrap (aaY.wrap aaY.i8 (ia v (0:Nat)))),ak 0],ax true]) (E1++ [tC (nt (aR h4)),aw c9,aw Tp,aw TJ,aw Tx])).to (by clear E1;(try simp only [sR,wk,a7,ez,bB] at*);(try rw [eL ‹¬jI v=0›]);(try simp only [dD hv,eK,iX hv (aao rfl),iY hv (aao rfl),fO hv,fP hv]);simp [*])
theorem GQ:aQ Zy 142 ([bj 1 (ay 102::ay 15:: [])]) (.aL [ez (bB 16 0 0 false 15 []),ax true]):=by
 have c0:= @cB 102 ([ay 15])
 have c1:= @cB 15 ([])
 have c2:= @mR 15 (by decide) (by decide) (rfl:false=false)
 have c3:= @jA
 have c4:= @eX
 have c5:= @eX
 exact (ig (d:= .aL [.agg [ak 16,ax false,ay 15,ak 0,ak 0,aq 0,aq 0,aq 0,aq 0,aq 0,ak 0],ax true]) ([aw c0,tT,tT,aw c1,aw c2]++cr 8 124++ [aw c3,tT,aO,tT,aw c4,aO,tT,aw c5])).to (by (try simp only [sR,wk,a7,ez,bB] at*);(try rw [eL ‹¬jI []=0›]);(try simp only [dD iZ,eK,iX iZ (aao rfl),iY iZ (aao rfl),fO iZ,fP iZ]);simp [*,jO,jP,lu,ir,iM,ia,e8])
theorem GO (c:Int) (k0:0≤c) (k1:c≤255) (hq:kJ c=false) (hc:¬c=15) (v:List Int) (hv:dx v):aQ Zy 142 ([bj 1 (ay 102::ay c::bD v)]) (.aL [ez (bB 16 0 0 false c v),ax true]):=by
 have c0:= @cB 102 (ay c::bD v)
 have c1:= @cB c (bD v)
 have c2:= @mR c k0 k1 hq
 have c3:= @mB v hv
 let E1:EL:=([aw c0,tT,.cM (decide ((0:Int)≤(1:Int)∧(1:Int)≤(↑(ZA (ay 102::ay c::bD v)):Int))) true (by simp [aG]<;>omega),aw c1,aw c2,tF,tF,.cM (decide ((0:Int)≤(1:Int)∧(1:Int)≤(↑(ZA (aas (ZJ (1:Int)) (ay 102::ay c::bD v))):Int))) true (by simp [aG]<;>omega)]++Zx 3 (tC (eT (by simp [aG]<;>omega:(c==(15:Int))=false)))++ [tC (by simp [aG]<;>omega:(c==(15:Int))=false),tF,aw c3])
 by_cases h4:jI v=0
 ·have c5:= @ft v hv
  have c6:= @fu v
  have c7:= @bS v hv
  have c8:= @bT v
  exact (ig (d:= .aL [.agg [ak 16,ax false,ay c,ak (aaY.wrap aaY.i8 (↑(Zz (Zw (8:Nat) (jO v)|||Zw (8:Nat) (0:Int))):Int)),ak (aaY.wrap aaY.i8 (↑(Zz (Zw (8:Nat) (jP v)|||Zw (8:Nat) (0:Int))):Int)),aq (lu v),aq (iM v (ir v)),aq (aaY.i64.wrap (ia v (ir v))),aq (iM v (0:Nat)),aq (aaY.i64.wrap (aaY.wrap aaY.i8 (ia v (0:Nat)))),ak 0],ax true]) (E1++ [tC (nt (cD 0 true h4)),aw c5,aw c6,aw c7,aw c8])).to (by clear E1;(try simp only [sR,wk,a7,ez,bB] at*);(try rw [eL ‹¬jI v=0›]);(try simp only [dD hv,eK,iX hv (aao rfl),iY hv (aao rfl),fO hv,fP hv]);simp [*])
 have c9:= @bS v hv
 have Tp:= @bT v
 have TJ:= @bS v hv
 have Tx:= @bT v
 exact (ig (d:= .aL [.agg [ak 16,ax false,ay c,ak (aaY.wrap aaY.i8 (↑(Zz (Zw (8:Nat) (jO v)|||Zw (8:Nat) (0:Int))):Int)),ak (aaY.wrap aaY.i8 (↑(Zz (Zw (8:Nat) (jP v)|||Zw (8:Nat) (0:Int))):Int)),aq (lu v),aq (iM v (0:Nat)),aq (aaY.i64.wrap (ia v (0:Nat))),aq (iM v (0:Nat)),aq (aaY.i64.wrap (aaY.wrap aaY.i8 (ia v (0:Nat)))),ak 0],ax true]) (E1++ [tC (nt (aR h4)),aw c9,aw Tp,aw TJ,aw Tx])).to (by clear E1;(try simp only [sR,wk,a7,ez,bB] at*);(try rw [eL ‹¬jI v=0›]);(try simp only [dD hv,eK,iX hv (aao rfl),iY hv (aao rfl),fO hv,fP hv]);simp [*])
theorem GR (h:Int) (g0:0≤h) (g1:h≤255) (hq:kJ h=true):aQ Zy 142 ([bj 1 (ay 102::ay h:: [])]) (.aL [ez (nP (if h / 8%2=1 then 64 else 16) (h%2*8)),ax false]):=by
 have c0:= @cB 102 ([ay h])
 have c1:= @cB h ([])
 have c2:= @mQ h g0 g1 hq
 rcases cI (decide (h / 8%2=1)) with h3|h3
 ·exact (ig (d:= .aL [.agg [ak 64,ax false,ay 0,ak 0,ak 0,aq 0,aq 0,aq 0,aq 0,aq 0,ak (h%2*8)],ax false]) [aw c0,tT,tT,aw c1,aw c2,tT,tT,tC h3,tT]).to (by first|(simp [wk,a7,ez,nP, *];done)|(simp only [bX,cJ] at*;simp [wk,a7,ez,nP, *]))
 exact (ig (d:= .aL [.agg [ak 16,ax false,ay 0,ak 0,ak 0,aq 0,aq 0,aq 0,aq 0,aq 0,ak (h%2*8)],ax false]) [aw c0,tT,tT,aw c1,aw c2,tT,tT,tC h3,tT]).to (by first|(simp [wk,a7,ez,nP, *];done)|(simp only [bX,cJ] at*;simp [wk,a7,ez,nP, *]))
theorem GU (h:Int) (g0:0≤h) (g1:h≤255) (hq:kJ h=true) (d:Int) (v:List Int) (hv:dx v):aQ Zy 142 ([bj 1 (ay 102::ay h::ay 15::ay d::bD v)]) (.aL [ez (bB (if h / 8%2=1 then 64 else 16) (h / 4%2*8) (h%2*8) true d v),ax true]):=by
 have c0:= @cB 102 (ay h::ay 15::ay d::bD v)
 have c1:= @cB h (ay 15::ay d::bD v)
 have c2:= @mQ h g0 g1 hq
 let E1:EL:= [aw c0,tT,.cM (decide ((0:Int)≤(1:Int)∧(1:Int)≤(↑(ZA (ay 102::ay h::ay 15::ay d::bD v)):Int))) true (by simp [aG]<;>omega),aw c1,aw c2,tT,.cM (decide ((0:Int)≤(1:Int)∧(1:Int)≤(↑(ZA (aas (ZJ (1:Int)) (ay 102::ay h::ay 15::ay d::bD v))):Int))) true (by simp [aG]<;>omega)]
 rcases cI (decide (h / (8:Int)%(2:Int)=(1:Int))) with h3|h3
 ·have c4:= @mB v hv
  let E2:EL:=E1++ [tC h3,tF,.cM (decide ((0:Int)≤(1:Int)∧(1:Int)≤(↑(ZA (aas (ZJ (1:Int)) (aas (ZJ (1:Int)) (ay 102::ay h::ay 15::ay d::bD v)))):Int))) true (by simp [aG]<;>omega),tT,tT,tT,tT,tC (dj 0 (by simp [aG]<;>omega:(decide ((↑(ZA (ay d::bD v)):Int)<(1:Int)))=false)),.cM (decide ((0:Int)≤(1:Int)∧(1:Int)≤(↑(ZA (aas (ZJ (1:Int)) (aas (ZJ (1:Int)) (aas (ZJ (1:Int)) (ay 102::ay h::ay 15::ay d::bD v))))):Int))) true (by simp [aG]<;>omega),aw c4]
  by_cases h5:jI v=0
  ·have c6:= @ft v hv
   have c7:= @fu v
   have c8:= @bS v hv
   have c9:= @bT v
   exact (ig (d:= .aL [.agg [ak 64,ax true,ay d,ak (aaY.wrap aaY.i8 (↑(Zz (Zw (8:Nat) (jO v)|||Zw (8:Nat) (h / (4:Int)%(2:Int)*(8:Int)))):Int)),ak (aaY.wrap aaY.i8 (↑(Zz (Zw (8:Nat) (jP v)|||Zw (8:Nat) (h%(2:Int)*(8:Int)))):Int)),aq (lu v),aq (iM v (ir v)),aq (aaY.i64.wrap (ia v (ir v))),aq (iM v (0:Nat)),aq (aaY.i64.wrap (aaY.wrap aaY.i8 (ia v (0:Nat)))),ak (h%(2:Int)*(8:Int))],ax true]) (E2++ [tC (nt (cD 0 true h5)),aw c6,aw c7,aw c8,aw c9])).to (by clear E1 E2;(try simp only [sR,wk,a7,ez,bB] at*);(try rw [eL ‹¬jI v=0›]);(try simp only [dD hv,eK,iX hv (aao rfl),iY hv (aao rfl),fO hv,fP hv]);simp [*])
  have Tp:= @bS v hv
  have TJ:= @bT v
  have Tx:= @bS v hv
  have TF:= @bT v
  exact (ig (d:= .aL [.agg [ak 64,ax true,ay d,ak (aaY.wrap aaY.i8 (↑(Zz (Zw (8:Nat) (jO v)|||Zw (8:Nat) (h / (4:Int)%(2:Int)*(8:Int)))):Int)),ak (aaY.wrap aaY.i8 (↑(Zz (Zw (8:Nat) (jP v)|||Zw (8:Nat) (h%(2:Int)*(8:Int)))):Int)),aq (lu v),aq (iM v (0:Nat)),aq (aaY.i64.wrap (ia v (0:Nat))),aq (iM v (0:Nat)),aq (aaY.i64.wrap (aaY.wrap aaY.i8 (ia v (0:Nat)))),ak (h%(2:Int)*(8:Int))],ax true]) (E2++ [tC (nt (aR h5)),aw Tp,aw TJ,aw Tx,aw TF])).to (by clear E1 E2;(try simp only [sR,wk,a7,ez,bB] at*);(try rw [eL ‹¬jI v=0›]);(try simp only [dD hv,eK,iX hv (aao rfl),iY hv (aao rfl),fO hv,fP hv]);simp [*])
 have T0:= @mB v hv
 let E3:EL:=E1++ [tC h3,tF,.cM (decide ((0:Int)≤(1:Int)∧(1:Int)≤(↑(ZA (aas (ZJ (1:Int)) (aas (ZJ (1:Int)) (ay 102::ay h::ay 15::ay d::bD v)))):Int))) true (by simp [aG]<;>omega),tT,tT,tT,tT,tC (dj 0 (by simp [aG]<;>omega:(decide ((↑(ZA (ay d::bD v)):Int)<(1:Int)))=false)),.cM (decide ((0:Int)≤(1:Int)∧(1:Int)≤(↑(ZA (aas (ZJ (1:Int)) (aas (ZJ (1:Int)) (aas (ZJ (1:Int)) (ay 102::ay h::ay 15::ay d::bD v))))):Int))) true (by simp [aG]<;>omega),aw T0]
 by_cases h15:jI v=0
 ·have TG:= @ft v hv
  have Vs:= @fu v
  have Vi:= @bS v hv
  have T9:= @bT v
  exact (ig (d:= .aL [.agg [ak 16,ax true,ay d,ak (aaY.wrap aaY.i8 (↑(Zz (Zw (8:Nat) (jO v)|||Zw (8:Nat) (h / (4:Int)%(2:Int)*(8:Int)))):Int)),ak (aaY.wrap aaY.i8 (↑(Zz (Zw (8:Nat) (jP v)|||Zw (8:Nat) (h%(2:Int)*(8:Int)))):Int)),aq (lu v),aq (iM v (ir v)),aq (aaY.i64.wrap (ia v (ir v))),aq (iM v (0:Nat)),aq (aaY.i64.wrap (aaY.wrap aaY.i8 (ia v (0:Nat)))),ak (h%(2:Int)*(8:Int))],ax true]) (E3++ [tC (nt (cD 0 true h15)),aw TG,aw Vs,aw Vi,aw T9])).to (by clear E1 E3;(try simp only [sR,wk,a7,ez,bB] at*);(try rw [eL ‹¬jI v=0›]);(try simp only [dD hv,eK,iX hv (aao rfl),iY hv (aao rfl),fO hv,fP hv]);simp [*])
 have Vq:= @bS v hv
 have Vt:= @bT v
 have VC:= @bS v hv
 have Ua:= @bT v
 exact (ig (d:= .aL [.agg [ak 16,ax true,ay d,ak (aaY.wrap aaY.i8 (↑(Zz (Zw (8:Nat) (jO v)|||Zw (8:Nat) (h / (4:Int)%(2:Int)*(8:Int)))):Int)),ak (aaY.wrap aaY.i8 (↑(Zz (Zw (8:Nat) (jP v)|||Zw (8:Nat) (h%(2:Int)*(8:Int)))):Int)),aq (lu v),aq (iM v (0:Nat)),aq (aaY.i64.wrap (ia v (0:Nat))),aq (iM v (0:Nat)),aq (aaY.i64.wrap (aaY.wrap aaY.i8 (ia v (0:Nat)))),ak (h%(2:Int)*(8:Int))],ax true]) (E3++ [tC (nt (aR h15)),aw Vq,aw Vt,aw VC,aw Ua])).to (by clear E1 E3;(try simp only [sR,wk,a7,ez,bB] at*);(try rw [eL ‹¬jI v=0›]);(try simp only [dD hv,eK,iX hv (aao rfl),iY hv (aao rfl),fO hv,fP hv]);simp [*])
theorem GV (h:Int) (g0:0≤h) (g1:h≤255) (hq:kJ h=true):aQ Zy 142 ([bj 1 (ay 102::ay h::ay 15:: [])]) (.aL [ez (bB (if h / 8%2=1 then 64 else 16) (h / 4%2*8) (h%2*8) false 15 []),ax true]):=by
 have c0:= @cB 102 ([ay h,ay 15])
 have c1:= @cB h ([ay 15])
 have c2:= @mQ h g0 g1 hq
 rcases cI (decide (h / 8%2=1)) with h3|h3
 ·have c4:= @jA
  have c5:= @eX
  have c6:= @eX
  exact (ig (d:= .aL [.agg [ak 64,ax false,ay 15,ak (aaY.wrap aaY.i8 (↑(Zz (Zw (8:Nat) 0|||Zw (8:Nat) (h / 4%2*8))):Int)),ak (aaY.wrap aaY.i8 (↑(Zz (Zw (8:Nat) 0|||Zw (8:Nat) (h%2*8))):Int)),aq 0,aq 0,aq 0,aq 0,aq 0,ak (h%2*8)],ax true]) [aw c0,tT,tT,aw c1,aw c2,tT,tT,tC h3,tF,tT,tT,tT,tT,tT,tF,aw c4,tT,aO,tT,aw c5,aO,tT,aw c6]).to (by (try simp only [sR,wk,a7,ez,bB] at*);(try rw [eL ‹¬jI []=0›]);(try simp only [dD iZ,eK,iX iZ (aao rfl),iY iZ (aao rfl),fO iZ,fP iZ]);simp [*,jO,jP,lu,ir,iM,ia,e8,dh];omega)
 have c7:= @jA
 have c8:= @eX
 have c9:= @eX
 exact (ig (d:= .aL [.agg [ak 16,ax false,ay 15,ak (aaY.wrap aaY.i8 (↑(Zz (Zw (8:Nat) 0|||Zw (8:Nat) (h / 4%2*8))):Int)),ak (aaY.wrap aaY.i8 (↑(Zz (Zw (8:Nat) 0|||Zw (8:Nat) (h%2*8))):Int)),aq 0,aq 0,aq 0,aq 0,aq 0,ak (h%2*8)],ax true]) [aw c0,tT,tT,aw c1,aw c2,tT,tT,tC h3,tF,tT,tT,tT,tT,tT,tF,aw c7,tT,aO,tT,aw c8,aO,tT,aw c9]).to (by (try simp only [sR,wk,a7,ez,bB] at*);(try rw [eL ‹¬jI []=0›]);(try simp only [dD iZ,eK,iX iZ (aao rfl),iY iZ (aao rfl),fO iZ,fP iZ]);simp [*,jO,jP,lu,ir,iM,ia,e8,dh];omega)
theorem GS (h:Int) (g0:0≤h) (g1:h≤255) (hq:kJ h=true) (c:Int) (hc:¬c=15) (v:List Int) (hv:dx v):aQ Zy 142 ([bj 1 (ay 102::ay h::ay c::bD v)]) (.aL [ez (bB (if h / 8%2=1 then 64 else 16) (h / 4%2*8) (h%2*8) false c v),ax true]):=by
 have c0:= @cB 102 (ay h::ay c::bD v)
 have c1:= @cB h (ay c::bD v)
 have c2:= @mQ h g0 g1 hq
 let E1:EL:= [aw c0,tT,.cM (decide ((0:Int)≤(1:Int)∧(1:Int)≤(↑(ZA (ay 102::ay h::ay c::bD v)):Int))) true (by simp [aG]<;>omega),aw c1,aw c2,tT,.cM (decide ((0:Int)≤(1:Int)∧(1:Int)≤(↑(ZA (aas (ZJ (1:Int)) (ay 102::ay h::ay c::bD v))):Int))) true (by simp [aG]<;>omega)]
 rcases cI (decide (h / (8:Int)%(2:Int)=(1:Int))) with h3|h3
 ·have c4:= @mB v hv
  let E2:EL:=E1++ [tC h3,tF,.cM (decide ((0:Int)≤(1:Int)∧(1:Int)≤(↑(ZA (aas (ZJ (1:Int)) (aas (ZJ (1:Int)) (ay 102::ay h::ay c::bD v)))):Int))) true (by simp [aG]<;>omega)]++Zx 3 (tC (eT (by simp [aG]<;>omega:(c==(15:Int))=false)))++ [tC (by simp [aG]<;>omega:(c==(15:Int))=false),tF,aw c4]
  by_cases h5:jI v=0
  ·have c6:= @ft v hv
   have c7:= @fu v
   have c8:= @bS v hv
   have c9:= @bT v
   exact (ig (d:= .aL [.agg [ak 64,ax false,ay c,ak (aaY.wrap aaY.i8 (↑(Zz (Zw (8:Nat) (jO v)|||Zw (8:Nat) (h / (4:Int)%(2:Int)*(8:Int)))):Int)),ak (aaY.wrap aaY.i8 (↑(Zz (Zw (8:Nat) (jP v)|||Zw (8:Nat) (h%(2:Int)*(8:Int)))):Int)),aq (lu v),aq (iM v (ir v)),aq (aaY.i64.wrap (ia v (ir v))),aq (iM v (0:Nat)),aq (aaY.i64.wrap (aaY.wrap aaY.i8 (ia v (0:Nat)))),ak (h%(2:Int)*(8:Int))],ax true]) (E2++ [tC (nt (cD 0 true h5)),aw c6,aw c7,aw c8,aw c9])).to (by clear E1 E2;(try simp only [sR,wk,a7,ez,bB] at*);(try rw [eL ‹¬jI v=0›]);(try simp only [dD hv,eK,iX hv (aao rfl),iY hv (aao rfl),fO hv,fP hv]);simp [*])
  have Tp:= @bS v hv
  have TJ:= @bT v
  have Tx:= @bS v hv
  have TF:= @bT v
  exact (ig (d:= .aL [.agg [ak 64,ax false,ay c,ak (aaY.wrap aaY.i8 (↑(Zz (Zw (8:Nat) (jO v)|||Zw (8:Nat) (h / (4:Int)%(2:Int)*(8:Int)))):Int)),ak (aaY.wrap aaY.i8 (↑(Zz (Zw (8:Nat) (jP v)|||Zw (8:Nat) (h%(2:Int)*(8:Int)))):Int)),aq (lu v),aq (iM v (0:Nat)),aq (aaY.i64.wrap (ia v (0:Nat))),aq (iM v (0:Nat)),aq (aaY.i64.wrap (aaY.wrap aaY.i8 (ia v (0:Nat)))),ak (h%(2:Int)*(8:Int))],ax true]) (E2++ [tC (nt (aR h5)),aw Tp,aw TJ,aw Tx,aw TF])).to (by clear E1 E2;(try simp only [sR,wk,a7,ez,bB] at*);(try rw [eL ‹¬jI v=0›]);(try simp only [dD hv,eK,iX hv (aao rfl),iY hv (aao rfl),fO hv,fP hv]);simp [*])
 have T0:= @mB v hv
 let E3:EL:=E1++ [tC h3,tF,.cM (decide ((0:Int)≤(1:Int)∧(1:Int)≤(↑(ZA (aas (ZJ (1:Int)) (aas (ZJ (1:Int)) (ay 102::ay h::ay c::bD v)))):Int))) true (by simp [aG]<;>omega)]++Zx 3 (tC (eT (by simp [aG]<;>omega:(c==(15:Int))=false)))++ [tC (by simp [aG]<;>omega:(c==(15:Int))=false),tF,aw T0]
 by_cases h15:jI v=0
 ·have TG:= @ft v hv
  have Vs:= @fu v
  have Vi:= @bS v hv
  have T9:= @bT v
  exact (ig (d:= .aL [.agg [ak 16,ax false,ay c,ak (aaY.wrap aaY.i8 (↑(Zz (Zw (8:Nat) (jO v)|||Zw (8:Nat) (h / (4:Int)%(2:Int)*(8:Int)))):Int)),ak (aaY.wrap aaY.i8 (↑(Zz (Zw (8:Nat) (jP v)|||Zw (8:Nat) (h%(2:Int)*(8:Int)))):Int)),aq (lu v),aq (iM v (ir v)),aq (aaY.i64.wrap (ia v (ir v))),aq (iM v (0:Nat)),aq (aaY.i64.wrap (aaY.wrap aaY.i8 (ia v (0:Nat)))),ak (h%(2:Int)*(8:Int))],ax true]) (E3++ [tC (nt (cD 0 true h15)),aw TG,aw Vs,aw Vi,aw T9])).to (by clear E1 E3;(try simp only [sR,wk,a7,ez,bB] at*);(try rw [eL ‹¬jI v=0›]);(try simp only [dD hv,eK,iX hv (aao rfl),iY hv (aao rfl),fO hv,fP hv]);simp [*])
 have Vq:= @bS v hv
 have Vt:= @bT v
 have VC:= @bS v hv
 have Ua:= @bT v
 exact (ig (d:= .aL [.agg [ak 16,ax false,ay c,ak (aaY.wrap aaY.i8 (↑(Zz (Zw (8:Nat) (jO v)|||Zw (8:Nat) (h / (4:Int)%(2:Int)*(8:Int)))):Int)),ak (aaY.wrap aaY.i8 (↑(Zz (Zw (8:Nat) (jP v)|||Zw (8:Nat) (h%(2:Int)*(8:Int)))):Int)),aq (lu v),aq (iM v (0:Nat)),aq (aaY.i64.wrap (ia v (0:Nat))),aq (iM v (0:Nat)),aq (aaY.i64.wrap (aaY.wrap aaY.i8 (ia v (0:Nat)))),ak (h%(2:Int)*(8:Int))],ax true]) (E3++ [tC (nt (aR h15)),aw Vq,aw Vt,aw VC,aw Ua])).to (by clear E1 E3;(try simp only [sR,wk,a7,ez,bB] at*);(try rw [eL ‹¬jI v=0›]);(try simp only [dD hv,eK,iX hv (aao rfl),iY hv (aao rfl),fO hv,fP hv]);simp [*])
theorem Kb (b:List Int) (hb:dx b):∃x,aQ Zy 142 [bj 1 (bD b)] (.aL [ez x,ax (lJ b).isSome])∧∀s,lJ b=some s→x=s:=by
 have B9:∀(half:Bool) (w:Int) (p t:List Int),dx t→(half=true∧p= [102]∧w=16∨half=false∧p= []∧w=32∧hd t≠102)→lJ (p++t)=hQ w t→
   ∃x,aQ Zy 142 [bj 1 (bD (p++t))] (.aL [ez x,ax (lJ (p++t)).isSome])∧∀s,lJ (p++t)=some s→x=s:=by
  intro half w p t ht hc hp
  rw [hp]
  have out:∀(x:aK) (k:Bool),aQ Zy 142 [bj 1 (bD (p++t))] (.aL [ez x,ax k])→(k=false∧hQ w t=none)∨(k=true∧hQ w t=some x)→
    ∃x,aQ Zy 142 [bj 1 (bD (p++t))] (.aL [ez x,ax (hQ w t).isSome])∧∀s,hQ w t=some s→x=s:=by
   rintro x k h (⟨rfl,e⟩|⟨rfl,e⟩)
   ·exact ⟨x,by rw [e];exact h,fun s hs=>by rw [e] at hs;cases hs⟩
   ·exact ⟨x,by rw [e];exact h,fun s hs=>by rw [e] at hs;exact Option.some.inj hs⟩
  match t,ht with
  | [],_=>
   rcases hc with ⟨-,rfl,rfl⟩|⟨-,rfl,rfl,-⟩
   ·exact out _ _ GN (.inl ⟨rfl,rfl⟩)
   ·exact out _ _ GF (.inl ⟨rfl,rfl⟩)
  |h::u,ht=>
   obtain ⟨⟨g0,g1⟩,hu⟩:=fM.1 ht
   by_cases hq:kJ h=true
   ·
    have e:hQ w (h::u)=iw (if h / 8%2=1 then 64 else w) (h / 4%2*8) (h%2*8) u:=by simp only [hQ,if_pos hq]
    match u,hu with
    | [],_=>
     rcases hc with ⟨-,rfl,rfl⟩|⟨-,rfl,rfl,hh⟩
     ·exact out _ _ (GR h g0 g1 hq) (.inl ⟨rfl,by rw [e];rfl⟩)
     ·exact out _ _ (GJ h g0 g1 hq (by simpa [hd] using hh)) (.inl ⟨rfl,by rw [e];rfl⟩)
    |c::v,hu=>
     obtain ⟨⟨k0,k1⟩,hv⟩:=fM.1 hu
     by_cases hc15:c=15
     ·subst hc15
      match v,hv with
      | [],_=>
       rcases hc with ⟨-,rfl,rfl⟩|⟨-,rfl,rfl,hh⟩
       ·exact out _ _ (GV h g0 g1 hq) (.inr ⟨rfl,by rw [e];rfl⟩)
       ·exact out _ _ (GM h g0 g1 hq (by simpa [hd] using hh)) (.inr ⟨rfl,by rw [e];rfl⟩)
      |d::v,hv=>
       obtain ⟨-,hv⟩:=fM.1 hv
       rcases hc with ⟨-,rfl,rfl⟩|⟨-,rfl,rfl,hh⟩
       ·exact out _ _ (GU h g0 g1 hq d v hv) (.inr ⟨rfl,by rw [e];rfl⟩)
       ·exact out _ _ (GL h g0 g1 hq (by simpa [hd] using hh) d v hv) (.inr ⟨rfl,by rw [e];rfl⟩)
     ·rcases hc with ⟨-,rfl,rfl⟩|⟨-,rfl,rfl,hh⟩
      ·exact out _ _ (GS h g0 g1 hq c hc15 v hv) (.inr ⟨rfl,by rw [e];exact dL hc15⟩)
      ·exact out _ _ (GK h g0 g1 hq (by simpa [hd] using hh) c hc15 v hv) (.inr ⟨rfl,by rw [e];exact dL hc15⟩)
   ·
    have WC:kJ h=false:=by simpa using hq
    have e:hQ w (h::u)=iw w 0 0 (h::u):=by simp only [hQ,if_neg hq]
    by_cases hc15:h=15
    ·subst hc15
     match u,hu with
     | [],_=>
      rcases hc with ⟨-,rfl,rfl⟩|⟨-,rfl,rfl,hh⟩
      ·exact out _ _ GQ (.inr ⟨rfl,by rw [e];rfl⟩)
      ·exact out _ _ GI (.inr ⟨rfl,by rw [e];rfl⟩)
     |d::v,hu=>
      obtain ⟨-,hv⟩:=fM.1 hu
      rcases hc with ⟨-,rfl,rfl⟩|⟨-,rfl,rfl,hh⟩
      ·exact out _ _ (GP d v hv) (.inr ⟨rfl,by rw [e];rfl⟩)
      ·exact out _ _ (GH d v hv) (.inr ⟨rfl,by rw [e];rfl⟩)
    ·rcases hc with ⟨-,rfl,rfl⟩|⟨-,rfl,rfl,hh⟩
     ·exact out _ _ (GO h g0 g1 WC hc15 u hu) (.inr ⟨rfl,by rw [e];exact dL hc15⟩)
     ·exact out _ _ (GG h g0 g1 WC (by simpa [hd] using hh) hc15 u hu) (.inr ⟨rfl,by rw [e];exact dL hc15⟩)
 by_cases h102:hd b=102
 ·match b,hb,h102 with
  |a::t,hb,h102=>
   have ha:a=102:=by simpa [hd] using h102
   subst ha
   exact B9 true 16 [102] t (fM.1 hb).2 (.inl ⟨rfl,rfl,rfl⟩) (by simp only [lJ,List.cons_append,ZT];rw [if_pos (by rfl)];rfl)
  | [],_,h=>simp [hd] at h
 ·exact B9 false 32 [] b hb (.inr ⟨rfl,rfl,rfl,h102⟩) (by simp only [lJ,ZT];rw [if_neg h102])
abbrev rB (s:aK):Ob:= .box [ak s.w,ax s.fH,ay s.code,ak s.r,ak s.m,aq s.af,aq s.ai,aq s.small,aq s.gu,aq s.hU,ak s.high]
theorem PM (s:aK) (k:Int) (k0:0≤k) (k1:k≤31) (v0:0≤s.code) (v1:s.code≤255) (cd nm:Int) (z0 z1 z2 z3 z4 z5 z6 z8 z9:Ob):ao Zy 143 ([.ptr false 7 0,ak (aaY.i8.wrap k),.agg [ak 1,ay cd,ak nm]]) ([z0,z1,z2,z3,z4,z5,z6,rB s,z8,z9]) (xD (aaY.i8.wrap k) (aK.w s) (aK.m s) (aK.r s) 0 0 0 0) ([z0,z1,z2,z3,z4,z5,z6,rB s,z8,z9,aY,aY,aY]):=(ao.aj (aV:= [0,1,2,3,4,5,6,7,8,9]) (d:=(xD (aaY.i8.wrap k) (aK.w s) (aK.m s) (aK.r s) 0 0 0 0)) (s':= [z0,z1,z2,z3,z4,z5,z6,rB s,z8,z9,aY,aY,aY]) mixed [tT]).cast (by first|(rfl;done)|(exfalso;(try simp only [bX,cJ,cF,gp,lO,ne_eq] at*);first|omega|contradiction)) (by rfl)
theorem PL (s:aK) (k:Int) (k0:0≤k) (k1:k≤31) (v0:0≤s.code) (v1:s.code≤255) (cd nm:Int) (z0 z1 z2 z3 z4 z5 z6 z8 z9:Ob):ao Zy 143 ([.ptr false 7 0,ak (aaY.i8.wrap k),.agg [ak 2,ay cd,ak nm]]) ([z0,z1,z2,z3,z4,z5,z6,rB s,z8,z9]) (xD (aaY.i8.wrap k) (aK.w s) (aK.r s) (aK.m s) 0 0 0 0) ([z0,z1,z2,z3,z4,z5,z6,rB s,z8,z9,aY,aY,aY]):=(ao.aj (aV:= [0,1,2,3,4,5,6,7,8,9]) (d:=(xD (aaY.i8.wrap k) (aK.w s) (aK.r s) (aK.m s) 0 0 0 0)) (s':= [z0,z1,z2,z3,z4,z5,z6,rB s,z8,z9,aY,aY,aY]) mixed [tF,tT]).cast (by first|(rfl;done)|(exfalso;(try simp only [bX,cJ,cF,gp,lO,ne_eq] at*);first|omega|contradiction)) (by rfl)
theorem NH (s:aK) (k:Int) (k0:0≤k) (k1:k≤31) (v0:0≤s.code) (v1:s.code≤255) (cd nm:Int) (z0 z1 z2 z3 z4 z5 z6 z8 z9:Ob) (hk:¬k=1):ao Zy 143 ([.ptr false 7 0,ak (aaY.i8.wrap k),.agg [ak 3,ay cd,ak nm]]) ([z0,z1,z2,z3,z4,z5,z6,rB s,z8,z9]) (xD (aaY.i8.wrap k) (aK.w s) (aK.m s) 0 0 0 (aK.ai s) 0) ([z0,z1,z2,z3,z4,z5,z6,rB s,z8,z9,aY,aY,aY]):=(ao.aj (aV:= [0,1,2,3,4,5,6,7,8,9]) (d:=(xD (aaY.i8.wrap k) (aK.w s) (aK.m s) 0 0 0 (aK.ai s) 0)) (s':= [z0,z1,z2,z3,z4,z5,z6,rB s,z8,z9,aY,aY,aY]) mixed ([tF,tF,tF,tT,tC (eT (by (simp only [cO] at*;omega):(aaY.i8.wrap k==1)=false)),tC (eT (by (simp only [cO] at*;omega):(aaY.i8.wrap k==1)=false)),tC (eT (by (simp only [cO] at*;omega):(aaY.i8.wrap k==1)=false)),tC (eT (by (simp only [cO] at*;omega):(aaY.i8.wrap k==1)=false)),tC (eT (by (simp only [cO] at*;omega):(aaY.i8.wrap k==1)=false)),tC (by (simp only [cO] at*;omega):(aaY.i8.wrap k==1)=false),tF,tF,tF,tF,tF,tF]++ [tF])).cast (by first|(rfl;done)|(exfalso;(try simp only [bX,cJ,cF,gp,lO,ne_eq] at*);first|omega|contradiction)) (by rfl)
theorem NJ (s:aK) (k:Int) (k0:0≤k) (k1:k≤31) (v0:0≤s.code) (v1:s.code≤255) (cd nm:Int) (z0 z1 z2 z3 z4 z5 z6 z8 z9:Ob) (hk:k=1) (hc:s.code<184):ao Zy 143 ([.ptr false 7 0,ak (aaY.i8.wrap k),.agg [ak 3,ay cd,ak nm]]) ([z0,z1,z2,z3,z4,z5,z6,rB s,z8,z9]) (xD (aaY.i8.wrap k) (aK.w s) (aK.m s) 0 0 0 (aK.ai s) 0) ([z0,z1,z2,z3,z4,z5,z6,rB s,z8,z9,aY,aY,aY]):=(ao.aj (aV:= [0,1,2,3,4,5,6,7,8,9]) (d:=(xD (aaY.i8.wrap k) (aK.w s) (aK.m s) 0 0 0 (aK.ai s) 0)) (s':= [z0,z1,z2,z3,z4,z5,z6,rB s,z8,z9,aY,aY,aY]) mixed ([tF,tF,tF,tT,tC (eT (cD 1 true (by (simp only [cO] at*;omega):aaY.i8.wrap k=1))),tC (eT (cD 1 true (by (simp only [cO] at*;omega):aaY.i8.wrap k=1))),tC (eT (cD 1 true (by (simp only [cO] at*;omega):aaY.i8.wrap k=1))),tC (eT (cD 1 true (by (simp only [cO] at*;omega):aaY.i8.wrap k=1))),tC (eT (cD 1 true (by (simp only [cO] at*;omega):aaY.i8.wrap k=1))),tC (cD 1 true (by (simp only [cO] at*;omega):aaY.i8.wrap k=1)),tC (eT (bK 184 (cq hc))),tC (eT (bK 184 (cq hc))),tC (eT (bK 184 (cq hc))),tC (eT (bK 184 (cq hc))),tC (eT (bK 184 (cq hc))),tC (bK 184 (cq hc))]++ [tF])).cast (by first|(rfl;done)|(exfalso;(try simp only [bX,cJ,cF,gp,lO,ne_eq] at*);first|omega|contradiction)) (by rfl)
theorem NK (s:aK) (k:Int) (k0:0≤k) (k1:k≤31) (v0:0≤s.code) (v1:s.code≤255) (cd nm:Int) (z0 z1 z2 z3 z4 z5 z6 z8 z9:Ob) (hk:k=1) (hc:192≤s.code):ao Zy 143 ([.ptr false 7 0,ak (aaY.i8.wrap k),.agg [ak 3,ay cd,ak nm]]) ([z0,z1,z2,z3,z4,z5,z6,rB s,z8,z9]) (xD (aaY.i8.wrap k) (aK.w s) (aK.m s) 0 0 0 (aK.ai s) 0) ([z0,z1,z2,z3,z4,z5,z6,rB s,z8,z9,aY,aY,aY]):=(ao.aj (aV:= [0,1,2,3,4,5,6,7,8,9]) (d:=(xD (aaY.i8.wrap k) (aK.w s) (aK.m s) 0 0 0 (aK.ai s) 0)) (s':= [z0,z1,z2,z3,z4,z5,z6,rB s,z8,z9,aY,aY,aY]) mixed ([tF,tF,tF,tT,tC (eT (cD 1 true (by (simp only [cO] at*;omega):aaY.i8.wrap k=1))),tC (eT (cD 1 true (by (simp only [cO] at*;omega):aaY.i8.wrap k=1))),tC (eT (cD 1 true (by (simp only [cO] at*;omega):aaY.i8.wrap k=1))),tC (eT (cD 1 true (by (simp only [cO] at*;omega):aaY.i8.wrap k=1))),tC (eT (cD 1 true (by (simp only [cO] at*;omega):aaY.i8.wrap k=1))),tC (cD 1 true (by (simp only [cO] at*;omega):aaY.i8.wrap k=1)),tC (eT (bK 184 (lz 184 (bM (ZH.2 hc))))),tC (eT (bK 184 (lz 184 (bM (ZH.2 hc))))),tC (eT (bK 184 (lz 184 (bM (ZH.2 hc))))),tC (eT (bK 184 (lz 184 (bM (ZH.2 hc))))),tC (eT (bK 184 (lz 184 (bM (ZH.2 hc))))),tC (bK 184 (lz 184 (bM (ZH.2 hc))))]++ [tC (bM (ZH.2 hc))])).cast (by first|(rfl;done)|(exfalso;(try simp only [bX,cJ,cF,gp,lO,ne_eq] at*);first|omega|contradiction)) (by rfl)
theorem NI (s:aK) (k:Int) (k0:0≤k) (k1:k≤31) (v0:0≤s.code) (v1:s.code≤255) (cd nm:Int) (z0 z1 z2 z3 z4 z5 z6 z8 z9:Ob) (hk:k=1) (hc:184≤s.code) (hd:s.code<192) (hh:s.high=0∨s.high=8):ao Zy 143 ([.ptr false 7 0,ak (aaY.i8.wrap k),.agg [ak 3,ay cd,ak nm]]) ([z0,z1,z2,z3,z4,z5,z6,rB s,z8,z9]) (xD (aaY.i8.wrap k) (aK.w s) (s.code%8+s.high) 0 0 0 (aK.gu s) 0) ([z0,z1,z2,z3,z4,z5,z6,rB s,z8,z9,aY,aY,aY]):=(ao.aj (aV:= [0,1,2,3,4,5,6,7,8,9]) (d:=(xD (aaY.i8.wrap k) (aK.w s) (aaY.i8.wrap (↑(Zz (Zw 8 (aaY.i8.wrap (aaY.u8.wrap (↑(Zz (Zw 8 (aK.code s)&&&Zw 8 7)):Int)))|||Zw 8 (aK.high s))):Int)) 0 0 0 (aK.gu s) 0)) (s':= [z0,z1,z2,z3,z4,z5,z6,rB s,z8,z9,aY,aY,aY]) mixed ([tF,tF,tF,tT,tC (eT (cD 1 true (by (simp only [cO] at*;omega):aaY.i8.wrap k=1))),tC (eT (cD 1 true (by (simp only [cO] at*;omega):aaY.i8.wrap k=1))),tC (eT (cD 1 true (by (simp only [cO] at*;omega):aaY.i8.wrap k=1))),tC (eT (cD 1 true (by (simp only [cO] at*;omega):aaY.i8.wrap k=1))),tC (eT (cD 1 true (by (simp only [cO] at*;omega):aaY.i8.wrap k=1))),tC (cD 1 true (by (simp only [cO] at*;omega):aaY.i8.wrap k=1)),tC (eT (bK 184 (bM (ZH.2 hc)))),tC (eT (bK 184 (bM (ZH.2 hc)))),tC (eT (bK 184 (bM (ZH.2 hc)))),tC (eT (bK 184 (bM (ZH.2 hc)))),tC (eT (bK 184 (bM (ZH.2 hc)))),tC (bK 184 (bM (ZH.2 hc)))]++ [tC (cq hd)])).cast (by first|(simp only [xD,D.agg.injEq,Z6,D.int.injEq,ee,eJ];exact Ph v0 v1 hh;done)|(exfalso;(try simp only [bX,cJ,cF,gp,lO,ne_eq] at*);first|omega|contradiction)) (by rfl)
theorem PK (s:aK) (k:Int) (k0:0≤k) (k1:k≤31) (v0:0≤s.code) (v1:s.code≤255) (cd nm:Int) (z0 z1 z2 z3 z4 z5 z6 z8 z9:Ob):ao Zy 143 ([.ptr false 7 0,ak (aaY.i8.wrap k),.agg [ak 4,ay cd,ak nm]]) ([z0,z1,z2,z3,z4,z5,z6,rB s,z8,z9]) (xD (aaY.i8.wrap k) (aK.w s) (aK.m s) 0 0 0 (aK.small s) 0) ([z0,z1,z2,z3,z4,z5,z6,rB s,z8,z9,aY,aY,aY]):=(ao.aj (aV:= [0,1,2,3,4,5,6,7,8,9]) (d:=(xD (aaY.i8.wrap k) (aK.w s) (aK.m s) 0 0 0 (aK.small s) 0)) (s':= [z0,z1,z2,z3,z4,z5,z6,rB s,z8,z9,aY,aY,aY]) mixed [tF,tF,tF,tF,tT]).cast (by first|(rfl;done)|(exfalso;(try simp only [bX,cJ,cF,gp,lO,ne_eq] at*);first|omega|contradiction)) (by rfl)
theorem PJ (s:aK) (k:Int) (k0:0≤k) (k1:k≤31) (v0:0≤s.code) (v1:s.code≤255) (cd nm:Int) (z0 z1 z2 z3 z4 z5 z6 z8 z9:Ob):ao Zy 143 ([.ptr false 7 0,ak (aaY.i8.wrap k),.agg [ak 5,ay cd,ak nm]]) ([z0,z1,z2,z3,z4,z5,z6,rB s,z8,z9]) (xD (aaY.i8.wrap k) (aK.w s) (aK.m s) 0 0 0 0 0) ([z0,z1,z2,z3,z4,z5,z6,rB s,z8,z9,aY,aY,aY]):=(ao.aj (aV:= [0,1,2,3,4,5,6,7,8,9]) (d:=(xD (aaY.i8.wrap k) (aK.w s) (aK.m s) 0 0 0 0 0)) (s':= [z0,z1,z2,z3,z4,z5,z6,rB s,z8,z9,aY,aY,aY]) mixed [tF,tF,tF,tF,tF,tT]).cast (by first|(rfl;done)|(exfalso;(try simp only [bX,cJ,cF,gp,lO,ne_eq] at*);first|omega|contradiction)) (by rfl)
theorem PI (s:aK) (k:Int) (k0:0≤k) (k1:k≤31) (v0:0≤s.code) (v1:s.code≤255) (cd nm:Int) (z0 z1 z2 z3 z4 z5 z6 z8 z9:Ob):ao Zy 143 ([.ptr false 7 0,ak (aaY.i8.wrap k),.agg [ak 6,ay cd,ak nm]]) ([z0,z1,z2,z3,z4,z5,z6,rB s,z8,z9]) (xD (aaY.i8.wrap k) (aK.w s) (aK.r s) (aK.m s) 0 0 0 (e8 (s.code - cd))) ([z0,z1,z2,z3,z4,z5,z6,rB s,z8,z9,aY,aY,aY]):=(ao.aj (aV:= [0,1,2,3,4,5,6,7,8,9]) (d:=(xD (aaY.i8.wrap k) (aK.w s) (aK.r s) (aK.m s) 0 0 0 (aaY.i8.wrap (aaY.u8.wrap (aK.code s - cd))))) (s':= [z0,z1,z2,z3,z4,z5,z6,rB s,z8,z9,aY,aY,aY]) mixed [tF,tF,tT]).cast (by first|(simp only [xD,D.agg.injEq,Z6,D.int.injEq,ee,eJ];rw [dh,bw,e8];omega;done)|(exfalso;(try simp only [bX,cJ,cF,gp,lO,ne_eq] at*);first|omega|contradiction)) (by rfl)
theorem NF (s:aK) (k:Int) (k0:0≤k) (k1:k≤31) (v0:0≤s.code) (v1:s.code≤255) (cd nm:Int) (z0 z1 z2 z3 z4 z5 z6 z8 z9:Ob) (hl:s.fH=true):ao Zy 143 ([.ptr false 7 0,ak (aaY.i8.wrap k),.agg [ak 7,ay cd,ak nm]]) ([z0,z1,z2,z3,z4,z5,z6,aA [ak (aK.w s),ax (aK.fH s),ay (aK.code s),ak (aK.r s),ak (aK.m s),aq (aK.af s),aq (aK.ai s),aq (aK.small s),aq (aK.gu s),aq (aK.hU s),ak (aK.high s)],z8,z9]) (xD (aaY.i8.wrap k) (if s.code%2=1 then 16 else 8) (aK.r s) 0 (aK.m s) (aK.af s) 0 0) ([z0,z1,z2,z3,z4,z5,z6,aA [ak (aK.w s),ax (aK.fH s),ay (aK.code s),ak (aK.r s),ak (aK.m s),aq (aK.af s),aq (aK.ai s),aq (aK.small s),aq (aK.gu s),aq (aK.hU s),ak (aK.high s)],z8,z9,aY,aY,aY]):=(ao.aj (aV:= [0,1,2,3,4,5,6,7,8,9]) (d:=(xD (aaY.i8.wrap k) (aaY.i8.wrap (8*2^min (ZJ (aaY.u8.wrap (↑(Zz (Zw 8 (aK.code s)&&&Zw 8 1)):Int))) 8)) (aK.r s) 0 (aK.m s) (aK.af s) 0 0)) (s':= [z0,z1,z2,z3,z4,z5,z6,rB s,z8,z9,aY,aY,aY]) mixed [tF,tF,tF,tF,tF,tF,tT,tC hl,tT]).cast (by first|(simp only [xD,D.agg.injEq,Z6,D.int.injEq,ee,eJ];exact Mk v0 v1;done)|(exfalso;(try simp only [bX,cJ,cF,gp,lO,ne_eq] at*);first|omega|contradiction)) (by rfl)
theorem NG (s:aK) (k:Int) (k0:0≤k) (k1:k≤31) (v0:0≤s.code) (v1:s.code≤255) (cd nm:Int) (z0 z1 z2 z3 z4 z5 z6 z8 z9:Ob) (hl:s.fH=false):ao Zy 143 ([.ptr false 7 0,ak (aaY.i8.wrap k),.agg [ak 7,ay cd,ak nm]]) ([z0,z1,z2,z3,z4,z5,z6,aA [ak (aK.w s),ax (aK.fH s),ay (aK.code s),ak (aK.r s),ak (aK.m s),aq (aK.af s),aq (aK.ai s),aq (aK.small s),aq (aK.gu s),aq (aK.hU s),ak (aK.high s)],z8,z9]) (xD (aaY.i8.wrap k) (aK.w s) (aK.r s) 0 (aK.m s) (aK.af s) 0 0) ([z0,z1,z2,z3,z4,z5,z6,aA [ak (aK.w s),ax (aK.fH s),ay (aK.code s),ak (aK.r s),ak (aK.m s),aq (aK.af s),aq (aK.ai s),aq (aK.small s),aq (aK.gu s),aq (aK.hU s),ak (aK.high s)],z8,z9,aY,aY,aY]):=(ao.aj (aV:= [0,1,2,3,4,5,6,7,8,9]) (d:=(xD (aaY.i8.wrap k) (aK.w s) (aK.r s) 0 (aK.m s) (aK.af s) 0 0)) (s':= [z0,z1,z2,z3,z4,z5,z6,rB s,z8,z9,aY,aY,aY]) mixed [tF,tF,tF,tF,tF,tF,tT,tC hl]).cast (by first|(rfl;done)|(exfalso;(try simp only [bX,cJ,cF,gp,lO,ne_eq] at*);first|omega|contradiction)) (by rfl)
theorem NC (s:aK) (k:Int) (k0:0≤k) (k1:k≤31) (v0:0≤s.code) (v1:s.code≤255) (cd nm:Int) (z0 z1 z2 z3 z4 z5 z6 z8 z9:Ob) (hc:s.code=136):ao Zy 143 ([.ptr false 7 0,ak (aaY.i8.wrap k),.agg [ak 8,ay cd,ak nm]]) ([z0,z1,z2,z3,z4,z5,z6,rB s,z8,z9]) (xD (aaY.i8.wrap k) 8 0 (aK.r s) (aK.m s) (aK.af s) 0 0) ([z0,z1,z2,z3,z4,z5,z6,rB s,z8,z9,aY,aY,aY]):=by
 by_cases h0:aK.code s=136
 ·exact (ao.aj (aV:= [0,1,2,3,4,5,6,7,8,9]) (d:=(xD (aaY.i8.wrap k) 8 0 (aK.r s) (aK.m s) (aK.af s) 0 0)) (s':= [z0,z1,z2,z3,z4,z5,z6,rB s,z8,z9,aY,aY,aY]) mixed (cr 8 128++ [tC (cD 136 true h0)])).cast (by first|(rfl;done)|(exfalso;(try simp only [bX,cJ,cF,gp,lO,ne_eq] at*);first|omega|contradiction)) (by rfl)
 exact (ao.aj (aV:= [0,1,2,3,4,5,6,7,8,9]) (d:=(xD (aaY.i8.wrap k) (aK.w s) 0 (aK.r s) (aK.m s) (aK.af s) 0 0)) (s':= [z0,z1,z2,z3,z4,z5,z6,rB s,z8,z9,aY,aY,aY]) mixed (cr 8 128++ [tC (aR h0)])).cast (by first|(rfl;done)|(exfalso;(try simp only [bX,cJ,cF,gp,lO,ne_eq] at*);first|omega|contradiction)) (by rfl)
theorem ND (s:aK) (k:Int) (k0:0≤k) (k1:k≤31) (v0:0≤s.code) (v1:s.code≤255) (cd nm:Int) (z0 z1 z2 z3 z4 z5 z6 z8 z9:Ob) (hc:¬s.code=136):ao Zy 143 ([.ptr false 7 0,ak (aaY.i8.wrap k),.agg [ak 8,ay cd,ak nm]]) ([z0,z1,z2,z3,z4,z5,z6,rB s,z8,z9]) (xD (aaY.i8.wrap k) (aK.w s) 0 (aK.r s) (aK.m s) (aK.af s) 0 0) ([z0,z1,z2,z3,z4,z5,z6,rB s,z8,z9,aY,aY,aY]):=(ao.aj (aV:= [0,1,2,3,4,5,6,7,8,9]) (d:=(xD (aaY.i8.wrap k) (aK.w s) 0 (aK.r s) (aK.m s) (aK.af s) 0 0)) (s':= [z0,z1,z2,z3,z4,z5,z6,rB s,z8,z9,aY,aY,aY]) mixed (cr 8 128++ [tC (by (simp only [cO] at*;omega):(aK.code s==136)=false)])).cast (by first|(rfl;done)|(exfalso;(try simp only [bX,cJ,cF,gp,lO,ne_eq] at*);first|omega|contradiction)) (by rfl)
theorem NB (s:aK) (k:Int) (k0:0≤k) (k1:k≤31) (v0:0≤s.code) (v1:s.code≤255) (cd nm:Int) (z0 z1 z2 z3 z4 z5 z6 z8 z9:Ob) (hl:s.fH=true):ao Zy 143 ([.ptr false 7 0,ak (aaY.i8.wrap k),.agg [ak 9,ay cd,ak nm]]) ([z0,z1,z2,z3,z4,z5,z6,aA [ak (aK.w s),ax (aK.fH s),ay (aK.code s),ak (aK.r s),ak (aK.m s),aq (aK.af s),aq (aK.ai s),aq (aK.small s),aq (aK.gu s),aq (aK.hU s),ak (aK.high s)],z8,z9]) (xD (aaY.i8.wrap k) 32 0 0 0 0 (aK.gu s) 0) ([z0,z1,z2,z3,z4,z5,z6,aA [ak (aK.w s),ax (aK.fH s),ay (aK.code s),ak (aK.r s),ak (aK.m s),aq (aK.af s),aq (aK.ai s),aq (aK.small s),aq (aK.gu s),aq (aK.hU s),ak (aK.high s)],z8,z9,aY,aY,aY]):=(ao.aj (aV:= [0,1,2,3,4,5,6,7,8,9]) (d:=(xD (aaY.i8.wrap k) 32 0 0 0 0 (aK.gu s) 0)) (s':= [z0,z1,z2,z3,z4,z5,z6,rB s,z8,z9,aY,aY,aY]) mixed ((cr 11 768++ [tC (eT (nt hl)),tC (eT (nt hl)),tC (eT (nt hl)),tC (eT (nt hl)),tC (eT (nt hl))])++ [tC (nt hl),tF])).cast (by first|(rfl;done)|(exfalso;(try simp only [bX,cJ,cF,gp,lO,ne_eq] at*);first|omega|contradiction)) (by rfl)
theorem NA (s:aK) (k:Int) (k0:0≤k) (k1:k≤31) (v0:0≤s.code) (v1:s.code≤255) (cd nm:Int) (z0 z1 z2 z3 z4 z5 z6 z8 z9:Ob) (hl:s.fH=false) (hc:s.code=233):ao Zy 143 ([.ptr false 7 0,ak (aaY.i8.wrap k),.agg [ak 9,ay cd,ak nm]]) ([z0,z1,z2,z3,z4,z5,z6,aA [ak (aK.w s),ax (aK.fH s),ay (aK.code s),ak (aK.r s),ak (aK.m s),aq (aK.af s),aq (aK.ai s),aq (aK.small s),aq (aK.gu s),aq (aK.hU s),ak (aK.high s)],z8,z9]) (xD (aaY.i8.wrap k) 32 0 0 0 0 (aK.gu s) 0) ([z0,z1,z2,z3,z4,z5,z6,aA [ak (aK.w s),ax (aK.fH s),ay (aK.code s),ak (aK.r s),ak (aK.m s),aq (aK.af s),aq (aK.ai s),aq (aK.small s),aq (aK.gu s),aq (aK.hU s),ak (aK.high s)],z8,z9,aY,aY,aY]):=by
 by_cases h0:aK.code s=233
 ·exact (ao.aj (aV:= [0,1,2,3,4,5,6,7,8,9]) (d:=(xD (aaY.i8.wrap k) 32 0 0 0 0 (aK.gu s) 0)) (s':= [z0,z1,z2,z3,z4,z5,z6,rB s,z8,z9,aY,aY,aY]) mixed ((cr 11 768++ [tC (eT (nt hl)),tC (eT (nt hl)),tC (eT (nt hl)),tC (eT (nt hl)),tC (eT (nt hl))])++ [tC (nt hl),tC (nt (cD 233 true h0))])).cast (by first|(rfl;done)|(exfalso;(try simp only [bX,cJ,cF,gp,lO,ne_eq] at*);first|omega|contradiction)) (by rfl)
 exact (ao.aj (aV:= [0,1,2,3,4,5,6,7,8,9]) (d:=(xD (aaY.i8.wrap k) 8 0 0 0 0 (aK.hU s) 0)) (s':= [z0,z1,z2,z3,z4,z5,z6,rB s,z8,z9,aY,aY,aY]) mixed ((cr 11 768++ [tC (eT (nt hl)),tC (eT (nt hl)),tC (eT (nt hl)),tC (eT (nt hl)),tC (eT (nt hl))])++ [tC (nt hl),tC (nt (aR h0))])).cast (by first|(rfl;done)|(exfalso;(try simp only [bX,cJ,cF,gp,lO,ne_eq] at*);first|omega|contradiction)) (by rfl)
theorem Nz (s:aK) (k:Int) (k0:0≤k) (k1:k≤31) (v0:0≤s.code) (v1:s.code≤255) (cd nm:Int) (z0 z1 z2 z3 z4 z5 z6 z8 z9:Ob) (hl:s.fH=false) (hc:¬s.code=233):ao Zy 143 ([.ptr false 7 0,ak (aaY.i8.wrap k),.agg [ak 9,ay cd,ak nm]]) ([z0,z1,z2,z3,z4,z5,z6,aA [ak (aK.w s),ax (aK.fH s),ay (aK.code s),ak (aK.r s),ak (aK.m s),aq (aK.af s),aq (aK.ai s),aq (aK.small s),aq (aK.gu s),aq (aK.hU s),ak (aK.high s)],z8,z9]) (xD (aaY.i8.wrap k) 8 0 0 0 0 (aK.hU s) 0) ([z0,z1,z2,z3,z4,z5,z6,aA [ak (aK.w s),ax (aK.fH s),ay (aK.code s),ak (aK.r s),ak (aK.m s),aq (aK.af s),aq (aK.ai s),aq (aK.small s),aq (aK.gu s),aq (aK.hU s),ak (aK.high s)],z8,z9,aY,aY,aY]):=(ao.aj (aV:= [0,1,2,3,4,5,6,7,8,9]) (d:=(xD (aaY.i8.wrap k) 8 0 0 0 0 (aK.hU s) 0)) (s':= [z0,z1,z2,z3,z4,z5,z6,rB s,z8,z9,aY,aY,aY]) mixed ((cr 11 768++ [tC (eT (nt hl)),tC (eT (nt hl)),tC (eT (nt hl)),tC (eT (nt hl)),tC (eT (nt hl))])++ [tC (nt hl),tC (nt (by (simp only [cO] at*;omega):(aK.code s==233)=false))])).cast (by first|(rfl;done)|(exfalso;(try simp only [bX,cJ,cF,gp,lO,ne_eq] at*);first|omega|contradiction)) (by rfl)
theorem LS (s:aK) (k:Int) (k0:0≤k) (k1:k≤31) (v0:0≤s.code) (v1:s.code≤255) (cd nm:Int) (z0 z1 z2 z3 z4 z5 z6 z8 z9:Ob) (hl:s.fH=true):ao Zy 143 ([.ptr false 7 0,ak (aaY.i8.wrap k),.agg [ak 10,ay cd,ak nm]]) ([z0,z1,z2,z3,z4,z5,z6,aA [ak (aK.w s),ax (aK.fH s),ay (aK.code s),ak (aK.r s),ak (aK.m s),aq (aK.af s),aq (aK.ai s),aq (aK.small s),aq (aK.gu s),aq (aK.hU s),ak (aK.high s)],z8,z9]) (xD (aaY.i8.wrap k) 32 0 0 0 0 (aK.gu s) (s.code%16)) ([z0,z1,z2,z3,z4,z5,z6,aA [ak (aK.w s),ax (aK.fH s),ay (aK.code s),ak (aK.r s),ak (aK.m s),aq (aK.af s),aq (aK.ai s),aq (aK.small s),aq (aK.gu s),aq (aK.hU s),ak (aK.high s)],z8,z9,aY,aY,aY]):=(ao.aj (aV:= [0,1,2,3,4,5,6,7,8,9]) (d:=(xD (aaY.i8.wrap k) 32 0 0 0 0 (aK.gu s) (aaY.i8.wrap (aaY.u8.wrap (↑(Zz (Zw 8 (aK.code s)&&&Zw 8 15)):Int))))) (s':= [z0,z1,z2,z3,z4,z5,z6,rB s,z8,z9,aY,aY,aY]) mixed ((cr 11 1536++ [tC (eT (nt hl)),tC (eT (nt hl)),tC (eT (nt hl)),tC (eT (nt hl)),tC (eT (nt hl))])++ [tC (nt hl),tF])).cast (by first|(simp only [xD,D.agg.injEq,Z6,D.int.injEq,ee,eJ];exact Fk v0 v1;done)|(exfalso;(try simp only [bX,cJ,cF,gp,lO,ne_eq] at*);first|omega|contradiction)) (by rfl)
theorem LR (s:aK) (k:Int) (k0:0≤k) (k1:k≤31) (v0:0≤s.code) (v1:s.code≤255) (cd nm:Int) (z0 z1 z2 z3 z4 z5 z6 z8 z9:Ob) (hl:s.fH=false) (hc:s.code=233):ao Zy 143 ([.ptr false 7 0,ak (aaY.i8.wrap k),.agg [ak 10,ay cd,ak nm]]) ([z0,z1,z2,z3,z4,z5,z6,aA [ak (aK.w s),ax (aK.fH s),ay (aK.code s),ak (aK.r s),ak (aK.m s),aq (aK.af s),aq (aK.ai s),aq (aK.small s),aq (aK.gu s),aq (aK.hU s),ak (aK.high s)],z8,z9]) (xD (aaY.i8.wrap k) 32 0 0 0 0 (aK.gu s) (s.code%16)) ([z0,z1,z2,z3,z4,z5,z6,aA [ak (aK.w s),ax (aK.fH s),ay (aK.code s),ak (aK.r s),ak (aK.m s),aq (aK.af s),aq (aK.ai s),aq (aK.small s),aq (aK.gu s),aq (aK.hU s),ak (aK.high s)],z8,z9,aY,aY,aY]):=by
 by_cases h0:aK.code s=233
 ·exact (ao.aj (aV:= [0,1,2,3,4,5,6,7,8,9]) (d:=(xD (aaY.i8.wrap k) 32 0 0 0 0 (aK.gu s) (aaY.i8.wrap (aaY.u8.wrap (↑(Zz (Zw 8 (aK.code s)&&&Zw 8 15)):Int))))) (s':= [z0,z1,z2,z3,z4,z5,z6,rB s,z8,z9,aY,aY,aY]) mixed ((cr 11 1536++ [tC (eT (nt hl)),tC (eT (nt hl)),tC (eT (nt hl)),tC (eT (nt hl)),tC (eT (nt hl))])++ [tC (nt hl),tC (nt (cD 233 true h0))])).cast (by first|(simp only [xD,D.agg.injEq,Z6,D.int.injEq,ee,eJ];exact Fk v0 v1;done)|(exfalso;(try simp only [bX,cJ,cF,gp,lO,ne_eq] at*);first|omega|contradiction)) (by rfl)
 exact (ao.aj (aV:= [0,1,2,3,4,5,6,7,8,9]) (d:=(xD (aaY.i8.wrap k) 8 0 0 0 0 (aK.hU s) (aaY.i8.wrap (aaY.u8.wrap (↑(Zz (Zw 8 (aK.code s)&&&Zw 8 15)):Int))))) (s':= [z0,z1,z2,z3,z4,z5,z6,rB s,z8,z9,aY,aY,aY]) mixed ((cr 11 1536++ [tC (eT (nt hl)),tC (eT (nt hl)),tC (eT (nt hl)),tC (eT (nt hl)),tC (eT (nt hl))])++ [tC (nt hl),tC (nt (aR h0))])).cast (by first|(simp only [xD,D.agg.injEq,Z6,D.int.injEq,ee,eJ];exact Fk v0 v1;done)|(exfalso;(try simp only [bX,cJ,cF,gp,lO,ne_eq] at*);first|omega|contradiction)) (by rfl)
theorem LQ (s:aK) (k:Int) (k0:0≤k) (k1:k≤31) (v0:0≤s.code) (v1:s.code≤255) (cd nm:Int) (z0 z1 z2 z3 z4 z5 z6 z8 z9:Ob) (hl:s.fH=false) (hc:¬s.code=233):ao Zy 143 ([.ptr false 7 0,ak (aaY.i8.wrap k),.agg [ak 10,ay cd,ak nm]]) ([z0,z1,z2,z3,z4,z5,z6,aA [ak (aK.w s),ax (aK.fH s),ay (aK.code s),ak (aK.r s),ak (aK.m s),aq (aK.af s),aq (aK.ai s),aq (aK.small s),aq (aK.gu s),aq (aK.hU s),ak (aK.high s)],z8,z9]) (xD (aaY.i8.wrap k) 8 0 0 0 0 (aK.hU s) (s.code%16)) ([z0,z1,z2,z3,z4,z5,z6,aA [ak (aK.w s),ax (aK.fH s),ay (aK.code s),ak (aK.r s),ak (aK.m s),aq (aK.af s),aq (aK.ai s),aq (aK.small s),aq (aK.gu s),aq (aK.hU s),ak (aK.high s)],z8,z9,aY,aY,aY]):=(ao.aj (aV:= [0,1,2,3,4,5,6,7,8,9]) (d:=(xD (aaY.i8.wrap k) 8 0 0 0 0 (aK.hU s) (aaY.i8.wrap (aaY.u8.wrap (↑(Zz (Zw 8 (aK.code s)&&&Zw 8 15)):Int))))) (s':= [z0,z1,z2,z3,z4,z5,z6,rB s,z8,z9,aY,aY,aY]) mixed ((cr 11 1536++ [tC (eT (nt hl)),tC (eT (nt hl)),tC (eT (nt hl)),tC (eT (nt hl)),tC (eT (nt hl))])++ [tC (nt hl),tC (nt (by (simp only [cO] at*;omega):(aK.code s==233)=false))])).cast (by first|(simp only [xD,D.agg.injEq,Z6,D.int.injEq,ee,eJ];exact Fk v0 v1;done)|(exfalso;(try simp only [bX,cJ,cF,gp,lO,ne_eq] at*);first|omega|contradiction)) (by rfl)
theorem NL (s:aK) (k:Int) (k0:0≤k) (k1:k≤31) (v0:0≤s.code) (v1:s.code≤255) (cd nm:Int) (z0 z1 z2 z3 z4 z5 z6 z8 z9:Ob):ao Zy 143 ([.ptr false 7 0,ak (aaY.i8.wrap k),.agg [ak 11,ay cd,ak nm]]) ([z0,z1,z2,z3,z4,z5,z6,rB s,z8,z9]) (xD (aaY.i8.wrap k) 0 0 0 0 0 0 0) ([z0,z1,z2,z3,z4,z5,z6,rB s,z8,z9,aY,aY,aY]):=(ao.aj (aV:= [0,1,2,3,4,5,6,7,8,9]) (d:=(xD (aaY.i8.wrap k) 0 0 0 0 0 0 0)) (s':= [z0,z1,z2,z3,z4,z5,z6,rB s,z8,z9,aY,aY,aY]) mixed (cr 11 1024)).cast (by first|(rfl;done)|(exfalso;(try simp only [bX,cJ,cF,gp,lO,ne_eq] at*);first|omega|contradiction)) (by rfl)
theorem FH (s:aK) (k:Int) (k0:0≤k) (k1:k≤31) (v0:0≤s.code) (v1:s.code≤255) (hh:s.high=0∨s.high=8) (z0 z1 z2 z3 z4 z5 z6 z8 z9:Ob):
  ao Zy 143 [.ptr false 7 0,ak (aaY.i8.wrap k),.agg [ak (aC k),ay (bh k),ak (bO k)]]
   [z0,z1,z2,z3,z4,z5,z6,aA [ak s.w,ax s.fH,ay s.code,ak s.r,ak s.m,aq s.af,aq s.ai,aq s.small,aq s.gu,aq s.hU,ak s.high],z8,z9] (mF (fS s k))
   [z0,z1,z2,z3,z4,z5,z6,aA [ak s.w,ax s.fH,ay s.code,ak s.r,ak s.m,aq s.af,aq s.ai,aq s.small,aq s.gu,aq s.hU,ak s.high],z8,z9,aY,aY,aY]:=by
 have hw:=PV k0 k1
 have fin:∀ {sh:Int} {d:D} {S1 S2:List Ob},aC k=sh→ao Zy 143 [.ptr false 7 0,ak (aaY.i8.wrap k),.agg [ak sh,ay (bh k),ak (bO k)]] S1 d S2→d=mF (fS s k)→
   ao Zy 143 [.ptr false 7 0,ak (aaY.i8.wrap k),.agg [ak (aC k),ay (bh k),ak (bO k)]] S1 (mF (fS s k)) S2:=by
  intro sh d S1 S2 e h hd
  rw [e,← hd]
  exact h
 rcases BD k0 k1 with h|h|h|h|h|h|h|h|h|h|h
 ·exact fin h (PM s k k0 k1 v0 v1 _ _ z0 z1 z2 z3 z4 z5 z6 z8 z9) (by simp [fS,ng,mF,h,hw])
 ·exact fin h (PL s k k0 k1 v0 v1 _ _ z0 z1 z2 z3 z4 z5 z6 z8 z9) (by simp [fS,ng,mF,h,hw])
 ·by_cases hk:k=1
  ·by_cases hc:s.code<184
   ·exact fin h (NJ s k k0 k1 v0 v1 _ _ z0 z1 z2 z3 z4 z5 z6 z8 z9 hk hc) (by simp [fS,ng,mF,h,hw];rw [if_neg (by omega)];simp)
   ·by_cases hd:s.code<192
    ·exact fin h (NI s k k0 k1 v0 v1 _ _ z0 z1 z2 z3 z4 z5 z6 z8 z9 hk (by omega) hd hh) (by simp [fS,ng,mF,h,hw];rw [if_pos (by omega)];simp)
    ·exact fin h (NK s k k0 k1 v0 v1 _ _ z0 z1 z2 z3 z4 z5 z6 z8 z9 hk (by omega)) (by simp [fS,ng,mF,h,hw];rw [if_neg (by omega)];simp)
  ·exact fin h (NH s k k0 k1 v0 v1 _ _ z0 z1 z2 z3 z4 z5 z6 z8 z9 hk) (by simp [fS,ng,mF,h,hw,hk])
 ·exact fin h (PK s k k0 k1 v0 v1 _ _ z0 z1 z2 z3 z4 z5 z6 z8 z9) (by simp [fS,ng,mF,h,hw])
 ·exact fin h (PJ s k k0 k1 v0 v1 _ _ z0 z1 z2 z3 z4 z5 z6 z8 z9) (by simp [fS,ng,mF,h,hw])
 ·exact fin h (PI s k k0 k1 v0 v1 _ _ z0 z1 z2 z3 z4 z5 z6 z8 z9) (by simp [fS,ng,mF,h,hw])
 ·cases hl:s.fH
  ·refine fin h (hl▸NG s k k0 k1 v0 v1 _ _ z0 z1 z2 z3 z4 z5 z6 z8 z9 hl) (by simp [fS,ng,mF,h,hw,hl])
  ·refine fin h (hl▸NF s k k0 k1 v0 v1 _ _ z0 z1 z2 z3 z4 z5 z6 z8 z9 hl) (by simp [fS,ng,mF,h,hw,hl])
 ·by_cases hc:s.code=136
  ·exact fin h (NC s k k0 k1 v0 v1 _ _ z0 z1 z2 z3 z4 z5 z6 z8 z9 hc) (by simp [fS,ng,mF,h,hw,hc])
  ·exact fin h (ND s k k0 k1 v0 v1 _ _ z0 z1 z2 z3 z4 z5 z6 z8 z9 hc) (by simp [fS,ng,mF,h,hw,hc])
 ·cases hl:s.fH
  ·by_cases hc:s.code=233
   ·exact fin h (hl▸NA s k k0 k1 v0 v1 _ _ z0 z1 z2 z3 z4 z5 z6 z8 z9 hl hc) (by simp [fS,ng,mF,h,hw,hc])
   ·exact fin h (hl▸Nz s k k0 k1 v0 v1 _ _ z0 z1 z2 z3 z4 z5 z6 z8 z9 hl hc) (by simp [fS,ng,mF,h,hw,hl,hc])
  ·exact fin h (hl▸NB s k k0 k1 v0 v1 _ _ z0 z1 z2 z3 z4 z5 z6 z8 z9 hl) (by simp [fS,ng,mF,h,hw,hl])
 ·cases hl:s.fH
  ·by_cases hc:s.code=233
   ·exact fin h (hl▸LR s k k0 k1 v0 v1 _ _ z0 z1 z2 z3 z4 z5 z6 z8 z9 hl hc) (by simp [fS,ng,mF,h,hw,hc])
   ·exact fin h (hl▸LQ s k k0 k1 v0 v1 _ _ z0 z1 z2 z3 z4 z5 z6 z8 z9 hl hc) (by simp [fS,ng,mF,h,hw,hl,hc])
  ·exact fin h (hl▸LS s k k0 k1 v0 v1 _ _ z0 z1 z2 z3 z4 z5 z6 z8 z9 hl) (by simp [fS,ng,mF,h,hw,hl])
 ·exact fin h (NL s k k0 k1 v0 v1 _ _ z0 z1 z2 z3 z4 z5 z6 z8 z9) (by simp [fS,ng,mF,h,hw])
end Go.Proofs.YtbfpahigdpigpaaGreat
