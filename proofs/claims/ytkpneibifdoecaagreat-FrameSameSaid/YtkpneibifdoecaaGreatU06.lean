import Derived.Test.YtkpneibifdoecaaGreatU05
open List renaming replicate→Vc,length_cons→Vf,length_set→Vj,length_map→Vl,getD_eq_getElem?_getD→Vr
open BitVec renaming ofInt→Vh
open Nat renaming le_refl→Vq
open Int renaming lt_add_one_of_le→Vu,not_lt→VF,fdiv_eq_ediv_of_nonneg→VI
open Go renaming IntKind→WO
/- Contracts and plain laws that a statement's proof leans on (texts merged:FE0,MdJ,MdT,MdK,MdFr,FE0A,FE1,FE1A,FE2,FE3,MdFt,FT1,RF1). -/
set_option linter.unusedVariables false
set_option linter.unusedSimpArgs false
set_option maxRecDepth 100000
set_option maxHeartbeats 8000000
namespace Go.Proofs.YtkpneibifdoecaaGreat
open Go Go.Ev
theorem jT (k n:Int):aZ Tryz.prog 56 ([.agg [.int .i8 k,.int .i8 n],.bool false]) (.bool (cL k n)):=by
 by_cases h0:k=1
 ·subst h0
  let E1:EL:= [tT,tT,.inl,tF]
  by_cases h1:n=3
  ·subst h1
   exact (GN (d:= .bool true) (E1++ [.bn [(0,.box [.int .i8 1,.int .i8 3])],tT,tT,tT,.inl,.inl,.go 64,tT,tT,.get ([.int .i8 3,.int .i8 9,.int .i8 6,.int .i8 7,.int .i8 8,.int .i8 10]) 0 (.int .i8 3) rfl,tT,tT]) (by kernel_rfl)).to (by clear E1;first|(simp [wk,cL,];done)|(apply dq;unfold cL;symm;first|(rw [decide_eq_true_eq];simp only [beq_iff_eq,beq_eq_false_iff_ne,ne_eq] at*;omega)|(rw [decide_eq_false_iff_not];simp only [beq_iff_eq,beq_eq_false_iff_ne,ne_eq] at*;omega)))
  by_cases h2:n=9
  ·subst h2
   exact (GN (d:= .bool true) (E1++ [.bn [(0,.box [.int .i8 1,.int .i8 9])],tT,tT,tT,.inl,.inl,.go 64,tT,tT,.get ([.int .i8 3,.int .i8 9,.int .i8 6,.int .i8 7,.int .i8 8,.int .i8 10]) 0 (.int .i8 3) rfl,tC (aL h1),tT,tT,.get ([.int .i8 3,.int .i8 9,.int .i8 6,.int .i8 7,.int .i8 8,.int .i8 10]) 1 (.int .i8 9) rfl,tT,tT]) (by kernel_rfl)).to (by clear E1;first|(simp [wk,cL,h1];done)|(apply dq;unfold cL;symm;first|(rw [decide_eq_true_eq];simp only [beq_iff_eq,beq_eq_false_iff_ne,ne_eq] at*;omega)|(rw [decide_eq_false_iff_not];simp only [beq_iff_eq,beq_eq_false_iff_ne,ne_eq] at*;omega)))
  by_cases h3:n=6
  ·subst h3
   exact (GN (d:= .bool true) (E1++ [.bn [(0,.box [.int .i8 1,.int .i8 6])],tT,tT,tT,.inl,.inl,.go 64,tT,tT,.get ([.int .i8 3,.int .i8 9,.int .i8 6,.int .i8 7,.int .i8 8,.int .i8 10]) 0 (.int .i8 3) rfl,tC (aL h1),tT,tT,.get ([.int .i8 3,.int .i8 9,.int .i8 6,.int .i8 7,.int .i8 8,.int .i8 10]) 1 (.int .i8 9) rfl,tC (aL h2),tT,tT,.get ([.int .i8 3,.int .i8 9,.int .i8 6,.int .i8 7,.int .i8 8,.int .i8 10]) 2 (.int .i8 6) rfl,tT,tT]) (by kernel_rfl)).to (by clear E1;first|(simp [wk,cL,h1,h2];done)|(apply dq;unfold cL;symm;first|(rw [decide_eq_true_eq];simp only [beq_iff_eq,beq_eq_false_iff_ne,ne_eq] at*;omega)|(rw [decide_eq_false_iff_not];simp only [beq_iff_eq,beq_eq_false_iff_ne,ne_eq] at*;omega)))
  by_cases h4:n=7
  ·subst h4
   exact (GN (d:= .bool true) (E1++ [.bn [(0,.box [.int .i8 1,.int .i8 7])],tT,tT,tT,.inl,.inl,.go 64,tT,tT,.get ([.int .i8 3,.int .i8 9,.int .i8 6,.int .i8 7,.int .i8 8,.int .i8 10]) 0 (.int .i8 3) rfl,tC (aL h1),tT,tT,.get ([.int .i8 3,.int .i8 9,.int .i8 6,.int .i8 7,.int .i8 8,.int .i8 10]) 1 (.int .i8 9) rfl,tC (aL h2),tT,tT,.get ([.int .i8 3,.int .i8 9,.int .i8 6,.int .i8 7,.int .i8 8,.int .i8 10]) 2 (.int .i8 6) rfl,tC (aL h3),tT,tT,.get ([.int .i8 3,.int .i8 9,.int .i8 6,.int .i8 7,.int .i8 8,.int .i8 10]) 3 (.int .i8 7) rfl,tT,tT]) (by kernel_rfl)).to (by clear E1;first|(simp [wk,cL,h1,h2,h3];done)|(apply dq;unfold cL;symm;first|(rw [decide_eq_true_eq];simp only [beq_iff_eq,beq_eq_false_iff_ne,ne_eq] at*;omega)|(rw [decide_eq_false_iff_not];simp only [beq_iff_eq,beq_eq_false_iff_ne,ne_eq] at*;omega)))
  by_cases h5:n=8
  ·subst h5
   exact (GN (d:= .bool true) (E1++ [.bn [(0,.box [.int .i8 1,.int .i8 8])],tT,tT,tT,.inl,.inl,.go 64,tT,tT,.get ([.int .i8 3,.int .i8 9,.int .i8 6,.int .i8 7,.int .i8 8,.int .i8 10]) 0 (.int .i8 3) rfl,tC (aL h1),tT,tT,.get ([.int .i8 3,.int .i8 9,.int .i8 6,.int .i8 7,.int .i8 8,.int .i8 10]) 1 (.int .i8 9) rfl,tC (aL h2),tT,tT,.get ([.int .i8 3,.int .i8 9,.int .i8 6,.int .i8 7,.int .i8 8,.int .i8 10]) 2 (.int .i8 6) rfl,tC (aL h3),tT,tT,.get ([.int .i8 3,.int .i8 9,.int .i8 6,.int .i8 7,.int .i8 8,.int .i8 10]) 3 (.int .i8 7) rfl,tC (aL h4),tT,tT,.get ([.int .i8 3,.int .i8 9,.int .i8 6,.int .i8 7,.int .i8 8,.int .i8 10]) 4 (.int .i8 8) rfl,tT,tT]) (by kernel_rfl)).to (by clear E1;first|(simp [wk,cL,h1,h2,h3,h4];done)|(apply dq;unfold cL;symm;first|(rw [decide_eq_true_eq];simp only [beq_iff_eq,beq_eq_false_iff_ne,ne_eq] at*;omega)|(rw [decide_eq_false_iff_not];simp only [beq_iff_eq,beq_eq_false_iff_ne,ne_eq] at*;omega)))
  by_cases h6:n=10
  ·subst h6
   exact (GN (d:= .bool true) (E1++ [.bn [(0,.box [.int .i8 1,.int .i8 10])],tT,tT,tT,.inl,.inl,.go 64,tT,tT,.get ([.int .i8 3,.int .i8 9,.int .i8 6,.int .i8 7,.int .i8 8,.int .i8 10]) 0 (.int .i8 3) rfl,tC (aL h1),tT,tT,.get ([.int .i8 3,.int .i8 9,.int .i8 6,.int .i8 7,.int .i8 8,.int .i8 10]) 1 (.int .i8 9) rfl,tC (aL h2),tT,tT,.get ([.int .i8 3,.int .i8 9,.int .i8 6,.int .i8 7,.int .i8 8,.int .i8 10]) 2 (.int .i8 6) rfl,tC (aL h3),tT,tT,.get ([.int .i8 3,.int .i8 9,.int .i8 6,.int .i8 7,.int .i8 8,.int .i8 10]) 3 (.int .i8 7) rfl,tC (aL h4),tT,tT,.get ([.int .i8 3,.int .i8 9,.int .i8 6,.int .i8 7,.int .i8 8,.int .i8 10]) 4 (.int .i8 8) rfl,tC (aL h5),tT,tT,.get ([.int .i8 3,.int .i8 9,.int .i8 6,.int .i8 7,.int .i8 8,.int .i8 10]) 5 (.int .i8 10) rfl,tT,tT]) (by kernel_rfl)).to (by clear E1;first|(simp [wk,cL,h1,h2,h3,h4,h5];done)|(apply dq;unfold cL;symm;first|(rw [decide_eq_true_eq];simp only [beq_iff_eq,beq_eq_false_iff_ne,ne_eq] at*;omega)|(rw [decide_eq_false_iff_not];simp only [beq_iff_eq,beq_eq_false_iff_ne,ne_eq] at*;omega)))
  exact (GN (d:= .bool false) (E1++ [.bn [(0,.box [.int .i8 1,.int .i8 n])],tT,tT,tT,.inl,.inl,.go 64,tT,tT,.get ([.int .i8 3,.int .i8 9,.int .i8 6,.int .i8 7,.int .i8 8,.int .i8 10]) 0 (.int .i8 3) rfl,tC (aL h1),tT,tT,.get ([.int .i8 3,.int .i8 9,.int .i8 6,.int .i8 7,.int .i8 8,.int .i8 10]) 1 (.int .i8 9) rfl,tC (aL h2),tT,tT,.get ([.int .i8 3,.int .i8 9,.int .i8 6,.int .i8 7,.int .i8 8,.int .i8 10]) 2 (.int .i8 6) rfl,tC (aL h3),tT,tT,.get ([.int .i8 3,.int .i8 9,.int .i8 6,.int .i8 7,.int .i8 8,.int .i8 10]) 3 (.int .i8 7) rfl,tC (aL h4),tT,tT,.get ([.int .i8 3,.int .i8 9,.int .i8 6,.int .i8 7,.int .i8 8,.int .i8 10]) 4 (.int .i8 8) rfl,tC (aL h5),tT,tT,.get ([.int .i8 3,.int .i8 9,.int .i8 6,.int .i8 7,.int .i8 8,.int .i8 10]) 5 (.int .i8 10) rfl,tC (aL h6),tF,tT]) (by kernel_rfl)).to (by clear E1;first|(simp [wk,cL,h1,h2,h3,h4,h5,h6];done)|(apply dq;unfold cL;symm;first|(rw [decide_eq_true_eq];simp only [beq_iff_eq,beq_eq_false_iff_ne,ne_eq] at*;omega)|(rw [decide_eq_false_iff_not];simp only [beq_iff_eq,beq_eq_false_iff_ne,ne_eq] at*;omega)))
 exact (GN (d:= .bool false) (Vc 5 (tC (eT (aL h0)))++ [tC (aL h0)]) (by kernel_rfl)).to (by first|(simp [wk,cL,h0];done)|(apply dq;unfold cL;symm;first|(rw [decide_eq_true_eq];simp only [beq_iff_eq,beq_eq_false_iff_ne,ne_eq] at*;omega)|(rw [decide_eq_false_iff_not];simp only [beq_iff_eq,beq_eq_false_iff_ne,ne_eq] at*;omega)))
theorem uD (n:Int):aZ Tryz.prog 53 ([.bool false,.int .i8 n]) (.bool (cL 1 n)):=by
 let E1:EL:= [.inl,tF,.go 64,tT,tT,.get ([.int .i8 3,.int .i8 9,.int .i8 6,.int .i8 7,.int .i8 8,.int .i8 10]) 0 (.int .i8 3) rfl]
 rcases de (3==n) with h0|h0
 ·exact (Hr (d:= .bool true) (E1++ [tC h0]) (by kernel_rfl)).to (by clear E1;apply dq;unfold cL;(try simp only [beq_iff_eq,beq_eq_false_iff_ne,ne_eq] at*);symm;first|exact decide_eq_true ⟨trivial,by omega⟩|exact decide_eq_false (fun q=>by have:=q.2;omega))
 let E2:EL:=E1++ [tC h0,tT,tT,.get ([.int .i8 3,.int .i8 9,.int .i8 6,.int .i8 7,.int .i8 8,.int .i8 10]) 1 (.int .i8 9) rfl]
 rcases de (9==n) with h1|h1
 ·exact (Hr (d:= .bool true) (E2++ [tC h1]) (by kernel_rfl)).to (by clear E1 E2;apply dq;unfold cL;(try simp only [beq_iff_eq,beq_eq_false_iff_ne,ne_eq] at*);symm;first|exact decide_eq_true ⟨trivial,by omega⟩|exact decide_eq_false (fun q=>by have:=q.2;omega))
 let E3:EL:=E2++ [tC h1,tT,tT,.get ([.int .i8 3,.int .i8 9,.int .i8 6,.int .i8 7,.int .i8 8,.int .i8 10]) 2 (.int .i8 6) rfl]
 rcases de (6==n) with h2|h2
 ·exact (Hr (d:= .bool true) (E3++ [tC h2]) (by kernel_rfl)).to (by clear E1 E2 E3;apply dq;unfold cL;(try simp only [beq_iff_eq,beq_eq_false_iff_ne,ne_eq] at*);symm;first|exact decide_eq_true ⟨trivial,by omega⟩|exact decide_eq_false (fun q=>by have:=q.2;omega))
 let E4:EL:=E3++ [tC h2,tT,tT,.get ([.int .i8 3,.int .i8 9,.int .i8 6,.int .i8 7,.int .i8 8,.int .i8 10]) 3 (.int .i8 7) rfl]
 rcases de (7==n) with h3|h3
 ·exact (Hr (d:= .bool true) (E4++ [tC h3]) (by kernel_rfl)).to (by clear E1 E2 E3 E4;apply dq;unfold cL;(try simp only [beq_iff_eq,beq_eq_false_iff_ne,ne_eq] at*);symm;first|exact decide_eq_true ⟨trivial,by omega⟩|exact decide_eq_false (fun q=>by have:=q.2;omega))
 let E5:EL:=E4++ [tC h3,tT,tT,.get ([.int .i8 3,.int .i8 9,.int .i8 6,.int .i8 7,.int .i8 8,.int .i8 10]) 4 (.int .i8 8) rfl]
 rcases de (8==n) with h4|h4
 ·exact (Hr (d:= .bool true) (E5++ [tC h4]) (by kernel_rfl)).to (by clear E1 E2 E3 E4 E5;apply dq;unfold cL;(try simp only [beq_iff_eq,beq_eq_false_iff_ne,ne_eq] at*);symm;first|exact decide_eq_true ⟨trivial,by omega⟩|exact decide_eq_false (fun q=>by have:=q.2;omega))
 let E6:EL:=E5++ [tC h4,tT,tT,.get ([.int .i8 3,.int .i8 9,.int .i8 6,.int .i8 7,.int .i8 8,.int .i8 10]) 5 (.int .i8 10) rfl]
 rcases de (10==n) with h5|h5
 ·exact (Hr (d:= .bool true) (E6++ [tC h5]) (by kernel_rfl)).to (by clear E1 E2 E3 E4 E5 E6;apply dq;unfold cL;(try simp only [beq_iff_eq,beq_eq_false_iff_ne,ne_eq] at*);symm;first|exact decide_eq_true ⟨trivial,by omega⟩|exact decide_eq_false (fun q=>by have:=q.2;omega))
 exact (Hr (d:= .bool false) (E6++ [tC h5,tF]) (by kernel_rfl)).to (by clear E1 E2 E3 E4 E5 E6;apply dq;unfold cL;(try simp only [beq_iff_eq,beq_eq_false_iff_ne,ne_eq] at*);symm;first|exact decide_eq_true ⟨trivial,by omega⟩|exact decide_eq_false (fun q=>by have:=q.2;omega))
theorem Fv (p:af):ao Tryz.prog (aI Tryz.f28 0) ⟨[2],[],[]⟩ 1 (uu::uu::uu::uu::uu:: .agg (bW p):: .int .i64 11::un 27) [.dead] (.exit 0) (un 34) ([.dead]):=by
 exact (ao.aw (sp:=⟨[2],[],[]⟩) (n0:=1) (ex:=Ex.exit (0:Nat)) (t':=(un 34)) (s':= [.dead]) mixed [tF] (by kernel_rfl)).cast (by rfl) (by rfl)
theorem Fs (p:af) (i:Nat) (i1:(i:Int)≤10) (ha:(p.k (i:Int)==0)=true) (hb:(p.n (i:Int)==0)=true):ao Tryz.prog (aI Tryz.f28 0) ⟨[5,6],[],[]⟩ 1 (uu::uu::uu::uu::uu:: .agg (bW p):: .int .i64 (↑i:Int)::un 27) [.dead] .norm (uu::uu::uu::uu::uu:: .agg (bW p):: .int .i64 (WO.i64.wrap ((↑i:Int)+1))::un 27) ([.dead]):=by
 exact (ao.aw (sp:=⟨[5,6],[],[]⟩) (n0:=1) (ex:=Ex.norm) (t':=(uu::uu::uu::uu::uu:: .agg (bW p):: .int .i64 (WO.i64.wrap ((↑i:Int)+1))::un 27)) (s':= [.dead]) mixed ([tC (decide_eq_true (Vu i1)),.cH (decide (0≤(↑i:Int)∧(↑i:Int)<(↑(11:Nat):Int))) true (by ((try simp only [cf] at*);(try unfold cy at*);omega)),.bV _ _ _ _ (@lC p ((↑i:Int)) ([]) (by ((try simp only [cf] at*);(try unfold cy at*);omega)) i1),.flat _ _ bw]++Vc 3 (tC (eT (nt (aD (cu 0 true (eq_of_beq ha)) (aD (cu 0 true (eq_of_beq hb)) (rfl:true=true))))))++ [tC (nt (aD (cu 0 true (eq_of_beq ha)) (aD (cu 0 true (eq_of_beq hb)) (rfl:true=true))))]++Vc 10 tF) (by kernel_rfl)).cast (by rfl) (by rfl)
theorem Fu (p:af) (i:Nat) (i1:(i:Int)≤10) (ha:(p.k (i:Int)==1)=true) (hb:cL (p.k (i:Int)) (p.n (i:Int))=true):ao Tryz.prog (aI Tryz.f28 0) ⟨[5,6],[],[]⟩ 1 (uu::uu::uu::uu::uu:: .agg (bW p):: .int .i64 (↑i:Int)::un 27) [.dead] .norm (uu::uu::uu::uu::uu:: .agg (bW p):: .int .i64 (WO.i64.wrap ((↑i:Int)+1))::un 27) ([.dead]):=by
 have c0:= @jT (af.k p (↑i:Int)) (af.n p (↑i:Int))
 exact (ao.aw (sp:=⟨[5,6],[],[]⟩) (n0:=1) (ex:=Ex.norm) (t':=(uu::uu::uu::uu::uu:: .agg (bW p):: .int .i64 (WO.i64.wrap ((↑i:Int)+1))::un 27)) (s':= [.dead]) mixed ([tC (decide_eq_true (Vu i1)),.cH (decide (0≤(↑i:Int)∧(↑i:Int)<(↑(11:Nat):Int))) true (by ((try simp only [cf] at*);(try unfold cy at*);omega)),.bV _ _ _ _ (@lC p ((↑i:Int)) ([]) (by ((try simp only [cf] at*);(try unfold cy at*);omega)) i1),.flat _ _ bw,tC (eT (nt (bj (y:=ae [.int .i8 (af.n p (↑i:Int))] [.int .i8 0]) (cu 0 false (eq_of_beq ha))))),tC (eT (nt (bj (y:=ae [.int .i8 (af.n p (↑i:Int))] [.int .i8 0]) (cu 0 false (eq_of_beq ha))))),.ret _ _ _ c0,tC (eT (nt (bj (y:=ae [.int .i8 (af.n p (↑i:Int))] [.int .i8 0]) (cu 0 false (eq_of_beq ha))))),tC (nt (bj (y:=ae [.int .i8 (af.n p (↑i:Int))] [.int .i8 0]) (cu 0 false (eq_of_beq ha))))]++Vc 8 (tC (eT (nt hb)))++ [tC (nt hb),tF]) (by kernel_rfl)).cast (by rfl) (by rfl)
theorem Ft (p:af) (i:Nat) (i1:(i:Int)≤10) (ha:(p.k (i:Int)==2)=true) (hb:cL (p.k (i:Int)) (p.n (i:Int))=false) (hc:0≤p.n (i:Int)) (hd:p.n (i:Int)<11):ao Tryz.prog (aI Tryz.f28 0) ⟨[5,6],[],[]⟩ 1 (uu::uu::uu::uu::uu:: .agg (bW p):: .int .i64 (↑i:Int)::un 27) [.dead] .norm (uu::uu::uu::uu::uu:: .agg (bW p):: .int .i64 (WO.i64.wrap ((↑i:Int)+1))::un 27) ([.dead]):=by
 have c0:= @jT (af.k p (↑i:Int)) (af.n p (↑i:Int))
 exact (ao.aw (sp:=⟨[5,6],[],[]⟩) (n0:=1) (ex:=Ex.norm) (t':=(uu::uu::uu::uu::uu:: .agg (bW p):: .int .i64 (WO.i64.wrap ((↑i:Int)+1))::un 27)) (s':= [.dead]) mixed ([tC (decide_eq_true (Vu i1)),.cH (decide (0≤(↑i:Int)∧(↑i:Int)<(↑(11:Nat):Int))) true (by ((try simp only [cf] at*);(try unfold cy at*);omega)),.bV _ _ _ _ (@lC p ((↑i:Int)) ([]) (by ((try simp only [cf] at*);(try unfold cy at*);omega)) i1),.flat _ _ bw,tC (eT (nt (bj (y:=ae [.int .i8 (af.n p (↑i:Int))] [.int .i8 0]) (cu 0 false (eq_of_beq ha))))),tC (eT (nt (bj (y:=ae [.int .i8 (af.n p (↑i:Int))] [.int .i8 0]) (cu 0 false (eq_of_beq ha))))),.ret _ _ _ c0,tC (eT (nt (bj (y:=ae [.int .i8 (af.n p (↑i:Int))] [.int .i8 0]) (cu 0 false (eq_of_beq ha))))),tC (nt (bj (y:=ae [.int .i8 (af.n p (↑i:Int))] [.int .i8 0]) (cu 0 false (eq_of_beq ha))))]++Vc 4 (tC (eT (nt hb)))++Vc 3 (tC (eT (cu 2 true (eq_of_beq ha))))++ [tC (eT (nt hb)),tC (cu 2 true (eq_of_beq ha)),tC (eT (nt hb))]++Vc 3 (tC (eT (bk 0 (decide_eq_false (VF.2 hc)))))++ [tC (eT (nt hb)),tC (bk 0 (decide_eq_false (VF.2 hc))),tC (eT (nt hb)),tC (nt hb),tC (nt (decide_eq_true hd))]) (by kernel_rfl)).cast (by rfl) (by rfl)
theorem IX (p:af) (i:Nat) (i1:(i:Int)≤10) (ha:(p.k (i:Int)==0)=true) (hb:(p.n (i:Int)==0)=false) (hc:cL (p.k (i:Int)) (p.n (i:Int))=false):ao Tryz.prog (aI Tryz.f28 0) ⟨[2],[],[]⟩ 1 (uu::uu::uu::uu::uu:: .agg (bW p):: .int .i64 (↑i:Int)::un 27) [.dead] (Ex.ret) (uu::uu:: .bool false::un 31) ([.dead]):=by
 have c0:= @jT (af.k p (↑i:Int)) (af.n p (↑i:Int))
 exact (ao.aw (sp:=⟨[2],[],[]⟩) (n0:=1) (ex:=Ex.ret) (t':=(uu::uu:: .bool false::un 31)) (s':= [.dead]) mixed ([tC (decide_eq_true (Vu i1)),.cH (decide (0≤(↑i:Int)∧(↑i:Int)<(↑(11:Nat):Int))) true (by ((try simp only [cf] at*);(try unfold cy at*);omega)),.bV _ _ _ _ (@lC p ((↑i:Int)) ([]) (by ((try simp only [cf] at*);(try unfold cy at*);omega)) i1),.flat _ _ bw,tC (eT (nt (aD (cu 0 true (eq_of_beq ha)) (bj (y:=true) hb)))),tC (eT (nt (aD (cu 0 true (eq_of_beq ha)) (bj (y:=true) hb)))),.ret _ _ _ c0,tC (eT (nt (aD (cu 0 true (eq_of_beq ha)) (bj (y:=true) hb)))),tC (nt (aD (cu 0 true (eq_of_beq ha)) (bj (y:=true) hb)))]++Vc 4 (tC (eT (nt hc)))++Vc 3 (tC (eT (cu 2 false (eq_of_beq ha))))++ [tC (eT (nt hc)),tC (cu 2 false (eq_of_beq ha)),tC (eT (nt hc)),tF,tF,tF,tC (eT (nt hc)),tF,tC (eT (nt hc)),tC (nt hc),tT]) (by kernel_rfl)).cast (by rfl) (by rfl)
theorem IW (p:af) (i:Nat) (i1:(i:Int)≤10) (ha:(p.k (i:Int)==1)=true) (hb:cL (p.k (i:Int)) (p.n (i:Int))=false):ao Tryz.prog (aI Tryz.f28 0) ⟨[2],[],[]⟩ 1 (uu::uu::uu::uu::uu:: .agg (bW p):: .int .i64 (↑i:Int)::un 27) [.dead] (Ex.ret) (uu::uu:: .bool false::un 31) ([.dead]):=by
 have c0:= @jT (af.k p (↑i:Int)) (af.n p (↑i:Int))
 exact (ao.aw (sp:=⟨[2],[],[]⟩) (n0:=1) (ex:=Ex.ret) (t':=(uu::uu:: .bool false::un 31)) (s':= [.dead]) mixed ([tC (decide_eq_true (Vu i1)),.cH (decide (0≤(↑i:Int)∧(↑i:Int)<(↑(11:Nat):Int))) true (by ((try simp only [cf] at*);(try unfold cy at*);omega)),.bV _ _ _ _ (@lC p ((↑i:Int)) ([]) (by ((try simp only [cf] at*);(try unfold cy at*);omega)) i1),.flat _ _ bw,tC (eT (nt (bj (y:=ae [.int .i8 (af.n p (↑i:Int))] [.int .i8 0]) (cu 0 false (eq_of_beq ha))))),tC (eT (nt (bj (y:=ae [.int .i8 (af.n p (↑i:Int))] [.int .i8 0]) (cu 0 false (eq_of_beq ha))))),.ret _ _ _ c0,tC (eT (nt (bj (y:=ae [.int .i8 (af.n p (↑i:Int))] [.int .i8 0]) (cu 0 false (eq_of_beq ha))))),tC (nt (bj (y:=ae [.int .i8 (af.n p (↑i:Int))] [.int .i8 0]) (cu 0 false (eq_of_beq ha))))]++Vc 4 (tC (eT (nt hb)))++Vc 3 (tC (eT (cu 2 false (eq_of_beq ha))))++ [tC (eT (nt hb)),tC (cu 2 false (eq_of_beq ha)),tC (eT (nt hb)),tF,tF,tF,tC (eT (nt hb)),tF,tC (eT (nt hb)),tC (nt hb),tT]) (by kernel_rfl)).cast (by rfl) (by rfl)
theorem IV (p:af) (i:Nat) (i1:(i:Int)≤10) (ha:(p.k (i:Int)==2)=true) (hb:cL (p.k (i:Int)) (p.n (i:Int))=false) (hc:p.n (i:Int)<0):ao Tryz.prog (aI Tryz.f28 0) ⟨[2],[],[]⟩ 1 (uu::uu::uu::uu::uu:: .agg (bW p):: .int .i64 (↑i:Int)::un 27) [.dead] (Ex.ret) (uu::uu:: .bool false::un 31) ([.dead]):=by
 have c0:= @jT (af.k p (↑i:Int)) (af.n p (↑i:Int))
 exact (ao.aw (sp:=⟨[2],[],[]⟩) (n0:=1) (ex:=Ex.ret) (t':=(uu::uu:: .bool false::un 31)) (s':= [.dead]) mixed ([tC (decide_eq_true (Vu i1)),.cH (decide (0≤(↑i:Int)∧(↑i:Int)<(↑(11:Nat):Int))) true (by ((try simp only [cf] at*);(try unfold cy at*);omega)),.bV _ _ _ _ (@lC p ((↑i:Int)) ([]) (by ((try simp only [cf] at*);(try unfold cy at*);omega)) i1),.flat _ _ bw,tC (eT (nt (bj (y:=ae [.int .i8 (af.n p (↑i:Int))] [.int .i8 0]) (cu 0 false (eq_of_beq ha))))),tC (eT (nt (bj (y:=ae [.int .i8 (af.n p (↑i:Int))] [.int .i8 0]) (cu 0 false (eq_of_beq ha))))),.ret _ _ _ c0,tC (eT (nt (bj (y:=ae [.int .i8 (af.n p (↑i:Int))] [.int .i8 0]) (cu 0 false (eq_of_beq ha))))),tC (nt (bj (y:=ae [.int .i8 (af.n p (↑i:Int))] [.int .i8 0]) (cu 0 false (eq_of_beq ha))))]++Vc 4 (tC (eT (nt hb)))++Vc 3 (tC (eT (cu 2 true (eq_of_beq ha))))++ [tC (eT (nt hb)),tC (cu 2 true (eq_of_beq ha)),tC (eT (nt hb))]++Vc 3 (tC (eT (bk 0 (decide_eq_true hc))))++ [tC (eT (nt hb)),tC (bk 0 (decide_eq_true hc)),tC (eT (nt hb)),tC (nt hb),tT]) (by kernel_rfl)).cast (by rfl) (by rfl)
theorem IU (p:af) (i:Nat) (i1:(i:Int)≤10) (ha:(p.k (i:Int)==2)=true) (hb:cL (p.k (i:Int)) (p.n (i:Int))=false) (hc:11≤p.n (i:Int)):ao Tryz.prog (aI Tryz.f28 0) ⟨[2],[],[]⟩ 1 (uu::uu::uu::uu::uu:: .agg (bW p):: .int .i64 (↑i:Int)::un 27) [.dead] (Ex.ret) (uu::uu:: .bool false::un 31) ([.dead]):=by
 have c0:= @jT (af.k p (↑i:Int)) (af.n p (↑i:Int))
 exact (ao.aw (sp:=⟨[2],[],[]⟩) (n0:=1) (ex:=Ex.ret) (t':=(uu::uu:: .bool false::un 31)) (s':= [.dead]) mixed ([tC (decide_eq_true (Vu i1)),.cH (decide (0≤(↑i:Int)∧(↑i:Int)<(↑(11:Nat):Int))) true (by ((try simp only [cf] at*);(try unfold cy at*);omega)),.bV _ _ _ _ (@lC p ((↑i:Int)) ([]) (by ((try simp only [cf] at*);(try unfold cy at*);omega)) i1),.flat _ _ bw,tC (eT (nt (bj (y:=ae [.int .i8 (af.n p (↑i:Int))] [.int .i8 0]) (cu 0 false (eq_of_beq ha))))),tC (eT (nt (bj (y:=ae [.int .i8 (af.n p (↑i:Int))] [.int .i8 0]) (cu 0 false (eq_of_beq ha))))),.ret _ _ _ c0,tC (eT (nt (bj (y:=ae [.int .i8 (af.n p (↑i:Int))] [.int .i8 0]) (cu 0 false (eq_of_beq ha))))),tC (nt (bj (y:=ae [.int .i8 (af.n p (↑i:Int))] [.int .i8 0]) (cu 0 false (eq_of_beq ha))))]++Vc 4 (tC (eT (nt hb)))++Vc 3 (tC (eT (cu 2 true (eq_of_beq ha))))++ [tC (eT (nt hb)),tC (cu 2 true (eq_of_beq ha)),tC (eT (nt hb))]++Vc 3 (tC (eT (bk 0 (Io 0 (decide_eq_false (VF.2 hc))))))++ [tC (eT (nt hb)),tC (bk 0 (Io 0 (decide_eq_false (VF.2 hc)))),tC (eT (nt hb)),tC (nt hb),tC (nt (decide_eq_false (VF.2 hc)))]) (by kernel_rfl)).cast (by rfl) (by rfl)
theorem IT (p:af) (i:Nat) (i1:(i:Int)≤10) (ha:(p.k (i:Int)==0)=false) (hb:(p.k (i:Int)==2)=false) (hc:cL (p.k (i:Int)) (p.n (i:Int))=false):ao Tryz.prog (aI Tryz.f28 0) ⟨[2],[],[]⟩ 1 (uu::uu::uu::uu::uu:: .agg (bW p):: .int .i64 (↑i:Int)::un 27) [.dead] (Ex.ret) (uu::uu:: .bool false::un 31) ([.dead]):=by
 have c0:= @jT (af.k p (↑i:Int)) (af.n p (↑i:Int))
 exact (ao.aw (sp:=⟨[2],[],[]⟩) (n0:=1) (ex:=Ex.ret) (t':=(uu::uu:: .bool false::un 31)) (s':= [.dead]) mixed ([tC (decide_eq_true (Vu i1)),.cH (decide (0≤(↑i:Int)∧(↑i:Int)<(↑(11:Nat):Int))) true (by ((try simp only [cf] at*);(try unfold cy at*);omega)),.bV _ _ _ _ (@lC p ((↑i:Int)) ([]) (by ((try simp only [cf] at*);(try unfold cy at*);omega)) i1),.flat _ _ bw,tC (eT (nt (bj (y:=ae [.int .i8 (af.n p (↑i:Int))] [.int .i8 0]) ha))),tC (eT (nt (bj (y:=ae [.int .i8 (af.n p (↑i:Int))] [.int .i8 0]) ha))),.ret _ _ _ c0,tC (eT (nt (bj (y:=ae [.int .i8 (af.n p (↑i:Int))] [.int .i8 0]) ha))),tC (nt (bj (y:=ae [.int .i8 (af.n p (↑i:Int))] [.int .i8 0]) ha))]++Vc 4 (tC (eT (nt hc)))++ [tC (eT hb),tC (eT hb),tC (eT hb),tC (eT (nt hc)),tC hb,tC (eT (nt hc)),tF,tF,tF,tC (eT (nt hc)),tF,tC (eT (nt hc)),tC (nt hc),tT]) (by kernel_rfl)).cast (by rfl) (by rfl)
theorem Fg (p:af):ao Tryz.prog (aI Tryz.f23 0) ⟨[2],[0],[]⟩ 1 (uu:: .ptr false 0 0::uu:: .int .i64 11::un 38) [.box (bW p)] (.exit 0) (un 42) ([.box (bW p)]):=by
 exact (ao.aw (sp:=⟨[2],[0],[]⟩) (n0:=1) (ex:=Ex.exit (0:Nat)) (t':=(un 42)) (s':= [.box (bW p)]) mixed [tF] (by kernel_rfl)).cast (by rfl) (by rfl)
theorem Fc (p:af) (i:Nat) (i1:(i:Int)≤10) (ha:(p.k (i:Int)==0)=true) (hb:(p.n (i:Int)==0)=true):ao Tryz.prog (aI Tryz.f23 0) ⟨[1,3],[0],[]⟩ 1 (uu:: .ptr false 0 0::uu:: .int .i64 (↑i:Int)::un 38) [.box (bW p)] .norm (uu:: .ptr false 0 0::uu:: .int .i64 (WO.i64.wrap ((↑i:Int)+1))::un 38) ([.box (bW p)]):=by
 exact (ao.aw (sp:=⟨[1,3],[0],[]⟩) (n0:=1) (ex:=Ex.norm) (t':=(uu:: .ptr false 0 0::uu:: .int .i64 (WO.i64.wrap ((↑i:Int)+1))::un 38)) (s':= [.box (bW p)]) mixed ([tC (decide_eq_true (Vu i1)),.cH (decide (0≤(↑i:Int)∧(↑i:Int)<(↑(11:Nat):Int))) true (by ((try simp only [cf] at*);(try unfold cy at*);omega)),.bV _ _ _ _ (@gX p ((↑i:Int)) ([]) (by ((try simp only [cf] at*);(try unfold cy at*);omega)) i1),.flat _ _ bw]++Vc 6 (tC (eT (nt (aD (cu 0 true (eq_of_beq ha)) (aD (cu 0 true (eq_of_beq hb)) (rfl:true=true))))))++ [tC (nt (aD (cu 0 true (eq_of_beq ha)) (aD (cu 0 true (eq_of_beq hb)) (rfl:true=true))))]++Vc 10 tF) (by kernel_rfl)).cast (by rfl) (by rfl)
theorem Ff (p:af) (i:Nat) (i1:(i:Int)≤10) (ha:(p.k (i:Int)==1)=true) (hb:cL 1 (p.n (i:Int))=true):ao Tryz.prog (aI Tryz.f23 0) ⟨[1,3],[0],[]⟩ 1 (uu:: .ptr false 0 0::uu:: .int .i64 (↑i:Int)::un 38) [.box (bW p)] .norm (uu:: .ptr false 0 0::uu:: .int .i64 (WO.i64.wrap ((↑i:Int)+1))::un 38) ([.box (bW p)]):=by
 have c0:= @uD (af.n p (↑i:Int))
 exact (ao.aw (sp:=⟨[1,3],[0],[]⟩) (n0:=1) (ex:=Ex.norm) (t':=(uu:: .ptr false 0 0::uu:: .int .i64 (WO.i64.wrap ((↑i:Int)+1))::un 38)) (s':= [.box (bW p)]) mixed ([tC (decide_eq_true (Vu i1)),.cH (decide (0≤(↑i:Int)∧(↑i:Int)<(↑(11:Nat):Int))) true (by ((try simp only [cf] at*);(try unfold cy at*);omega)),.bV _ _ _ _ (@gX p ((↑i:Int)) ([]) (by ((try simp only [cf] at*);(try unfold cy at*);omega)) i1),.flat _ _ bw]++Vc 4 (tC (eT (nt (bj (y:=ae [.int .i8 (af.n p (↑i:Int))] [.int .i8 0]) (cu 0 false (eq_of_beq ha))))))++Vc 3 (tC (eT (cu 1 true (eq_of_beq ha))))++ [.ret _ _ _ c0,tC (eT (nt (bj (y:=ae [.int .i8 (af.n p (↑i:Int))] [.int .i8 0]) (cu 0 false (eq_of_beq ha))))),tC (cu 1 true (eq_of_beq ha)),tC (eT (nt (bj (y:=ae [.int .i8 (af.n p (↑i:Int))] [.int .i8 0]) (cu 0 false (eq_of_beq ha))))),tC (nt (bj (y:=ae [.int .i8 (af.n p (↑i:Int))] [.int .i8 0]) (cu 0 false (eq_of_beq ha))))]++Vc 8 (tC (eT (nt hb)))++ [tC (nt hb),tF]) (by kernel_rfl)).cast (by rfl) (by rfl)
theorem Fe (p:af) (i:Nat) (i1:(i:Int)≤10) (ha:(p.k (i:Int)==2)=true) (hc:0≤p.n (i:Int)) (hd:p.n (i:Int)<11):ao Tryz.prog (aI Tryz.f23 0) ⟨[1,3],[0],[]⟩ 1 (uu:: .ptr false 0 0::uu:: .int .i64 (↑i:Int)::un 38) [.box (bW p)] .norm (uu:: .ptr false 0 0::uu:: .int .i64 (WO.i64.wrap ((↑i:Int)+1))::un 38) ([.box (bW p)]):=by
 exact (ao.aw (sp:=⟨[1,3],[0],[]⟩) (n0:=1) (ex:=Ex.norm) (t':=(uu:: .ptr false 0 0::uu:: .int .i64 (WO.i64.wrap ((↑i:Int)+1))::un 38)) (s':= [.box (bW p)]) mixed ([tC (decide_eq_true (Vu i1)),.cH (decide (0≤(↑i:Int)∧(↑i:Int)<(↑(11:Nat):Int))) true (by ((try simp only [cf] at*);(try unfold cy at*);omega)),.bV _ _ _ _ (@gX p ((↑i:Int)) ([]) (by ((try simp only [cf] at*);(try unfold cy at*);omega)) i1),.flat _ _ bw]++Vc 4 (tC (eT (nt (bj (y:=ae [.int .i8 (af.n p (↑i:Int))] [.int .i8 0]) (cu 0 false (eq_of_beq ha))))))++Vc 3 (tC (eT (cu 1 false (eq_of_beq ha))))++ [tC (eT (nt (bj (y:=ae [.int .i8 (af.n p (↑i:Int))] [.int .i8 0]) (cu 0 false (eq_of_beq ha))))),tC (cu 1 false (eq_of_beq ha)),tC (eT (nt (bj (y:=ae [.int .i8 (af.n p (↑i:Int))] [.int .i8 0]) (cu 0 false (eq_of_beq ha))))),tC (nt (bj (y:=ae [.int .i8 (af.n p (↑i:Int))] [.int .i8 0]) (cu 0 false (eq_of_beq ha)))),tT,tT,tT,tT]++Vc 3 (tC (eT (cu 2 true (eq_of_beq ha))))++ [tT,tC (cu 2 true (eq_of_beq ha)),tT]++Vc 3 (tC (eT (bk 0 (decide_eq_false (VF.2 hc)))))++ [tT,tC (bk 0 (decide_eq_false (VF.2 hc))),tT,tT,tC (nt (decide_eq_true hd))]) (by kernel_rfl)).cast (by rfl) (by rfl)
theorem IK (p:af) (i:Nat) (i1:(i:Int)≤10) (ha:(p.k (i:Int)==0)=true) (hb:(p.n (i:Int)==0)=false):ao Tryz.prog (aI Tryz.f23 0) ⟨[2],[0],[]⟩ 1 (uu:: .ptr false 0 0::uu:: .int .i64 (↑i:Int)::un 38) [.box (bW p)] (Ex.ret) (uu::uu:: .bool false::un 39) ([.box (bW p)]):=by
 exact (ao.aw (sp:=⟨[2],[0],[]⟩) (n0:=1) (ex:=Ex.ret) (t':=(uu::uu:: .bool false::un 39)) (s':= [.box (bW p)]) mixed ([tC (decide_eq_true (Vu i1)),.cH (decide (0≤(↑i:Int)∧(↑i:Int)<(↑(11:Nat):Int))) true (by ((try simp only [cf] at*);(try unfold cy at*);omega)),.bV _ _ _ _ (@gX p ((↑i:Int)) ([]) (by ((try simp only [cf] at*);(try unfold cy at*);omega)) i1),.flat _ _ bw]++Vc 4 (tC (eT (nt (aD (cu 0 true (eq_of_beq ha)) (bj (y:=true) hb)))))++Vc 3 (tC (eT (cu 1 false (eq_of_beq ha))))++ [tC (eT (nt (aD (cu 0 true (eq_of_beq ha)) (bj (y:=true) hb)))),tC (cu 1 false (eq_of_beq ha)),tC (eT (nt (aD (cu 0 true (eq_of_beq ha)) (bj (y:=true) hb)))),tC (nt (aD (cu 0 true (eq_of_beq ha)) (bj (y:=true) hb))),tT,tT,tT,tT]++Vc 3 (tC (eT (cu 2 false (eq_of_beq ha))))++ [tT,tC (cu 2 false (eq_of_beq ha)),tT,tF,tF,tF,tT,tF,tT,tT,tT]) (by kernel_rfl)).cast (by rfl) (by rfl)
theorem IJ (p:af) (i:Nat) (i1:(i:Int)≤10) (ha:(p.k (i:Int)==1)=true) (hb:cL 1 (p.n (i:Int))=false):ao Tryz.prog (aI Tryz.f23 0) ⟨[2],[0],[]⟩ 1 (uu:: .ptr false 0 0::uu:: .int .i64 (↑i:Int)::un 38) [.box (bW p)] (Ex.ret) (uu::uu:: .bool false::un 39) ([.box (bW p)]):=by
 have c0:= @uD (af.n p (↑i:Int))
 exact (ao.aw (sp:=⟨[2],[0],[]⟩) (n0:=1) (ex:=Ex.ret) (t':=(uu::uu:: .bool false::un 39)) (s':= [.box (bW p)]) mixed ([tC (decide_eq_true (Vu i1)),.cH (decide (0≤(↑i:Int)∧(↑i:Int)<(↑(11:Nat):Int))) true (by ((try simp only [cf] at*);(try unfold cy at*);omega)),.bV _ _ _ _ (@gX p ((↑i:Int)) ([]) (by ((try simp only [cf] at*);(try unfold cy at*);omega)) i1),.flat _ _ bw]++Vc 4 (tC (eT (nt (bj (y:=ae [.int .i8 (af.n p (↑i:Int))] [.int .i8 0]) (cu 0 false (eq_of_beq ha))))))++Vc 3 (tC (eT (cu 1 true (eq_of_beq ha))))++ [.ret _ _ _ c0,tC (eT (nt (bj (y:=ae [.int .i8 (af.n p (↑i:Int))] [.int .i8 0]) (cu 0 false (eq_of_beq ha))))),tC (cu 1 true (eq_of_beq ha)),tC (eT (nt (bj (y:=ae [.int .i8 (af.n p (↑i:Int))] [.int .i8 0]) (cu 0 false (eq_of_beq ha))))),tC (nt (bj (y:=ae [.int .i8 (af.n p (↑i:Int))] [.int .i8 0]) (cu 0 false (eq_of_beq ha))))]++Vc 4 (tC (eT (nt hb)))++Vc 3 (tC (eT (cu 2 false (eq_of_beq ha))))++ [tC (eT (nt hb)),tC (cu 2 false (eq_of_beq ha)),tC (eT (nt hb)),tF,tF,tF,tC (eT (nt hb)),tF,tC (eT (nt hb)),tC (nt hb),tT]) (by kernel_rfl)).cast (by rfl) (by rfl)
theorem II (p:af) (i:Nat) (i1:(i:Int)≤10) (ha:(p.k (i:Int)==2)=true) (hc:p.n (i:Int)<0):ao Tryz.prog (aI Tryz.f23 0) ⟨[2],[0],[]⟩ 1 (uu:: .ptr false 0 0::uu:: .int .i64 (↑i:Int)::un 38) [.box (bW p)] (Ex.ret) (uu::uu:: .bool false::un 39) ([.box (bW p)]):=by
 exact (ao.aw (sp:=⟨[2],[0],[]⟩) (n0:=1) (ex:=Ex.ret) (t':=(uu::uu:: .bool false::un 39)) (s':= [.box (bW p)]) mixed ([tC (decide_eq_true (Vu i1)),.cH (decide (0≤(↑i:Int)∧(↑i:Int)<(↑(11:Nat):Int))) true (by ((try simp only [cf] at*);(try unfold cy at*);omega)),.bV _ _ _ _ (@gX p ((↑i:Int)) ([]) (by ((try simp only [cf] at*);(try unfold cy at*);omega)) i1),.flat _ _ bw]++Vc 4 (tC (eT (nt (bj (y:=ae [.int .i8 (af.n p (↑i:Int))] [.int .i8 0]) (cu 0 false (eq_of_beq ha))))))++Vc 3 (tC (eT (cu 1 false (eq_of_beq ha))))++ [tC (eT (nt (bj (y:=ae [.int .i8 (af.n p (↑i:Int))] [.int .i8 0]) (cu 0 false (eq_of_beq ha))))),tC (cu 1 false (eq_of_beq ha)),tC (eT (nt (bj (y:=ae [.int .i8 (af.n p (↑i:Int))] [.int .i8 0]) (cu 0 false (eq_of_beq ha))))),tC (nt (bj (y:=ae [.int .i8 (af.n p (↑i:Int))] [.int .i8 0]) (cu 0 false (eq_of_beq ha)))),tT,tT,tT,tT]++Vc 3 (tC (eT (cu 2 true (eq_of_beq ha))))++ [tT,tC (cu 2 true (eq_of_beq ha)),tT]++Vc 3 (tC (eT (bk 0 (decide_eq_true hc))))++ [tT,tC (bk 0 (decide_eq_true hc)),tT,tT,tT]) (by kernel_rfl)).cast (by rfl) (by rfl)
theorem IG (p:af) (i:Nat) (i1:(i:Int)≤10) (ha:(p.k (i:Int)==2)=true) (hc:11≤p.n (i:Int)):ao Tryz.prog (aI Tryz.f23 0) ⟨[2],[0],[]⟩ 1 (uu:: .ptr false 0 0::uu:: .int .i64 (↑i:Int)::un 38) [.box (bW p)] (Ex.ret) (uu::uu:: .bool false::un 39) ([.box (bW p)]):=by
 exact (ao.aw (sp:=⟨[2],[0],[]⟩) (n0:=1) (ex:=Ex.ret) (t':=(uu::uu:: .bool false::un 39)) (s':= [.box (bW p)]) mixed ([tC (decide_eq_true (Vu i1)),.cH (decide (0≤(↑i:Int)∧(↑i:Int)<(↑(11:Nat):Int))) true (by ((try simp only [cf] at*);(try unfold cy at*);omega)),.bV _ _ _ _ (@gX p ((↑i:Int)) ([]) (by ((try simp only [cf] at*);(try unfold cy at*);omega)) i1),.flat _ _ bw]++Vc 4 (tC (eT (nt (bj (y:=ae [.int .i8 (af.n p (↑i:Int))] [.int .i8 0]) (cu 0 false (eq_of_beq ha))))))++Vc 3 (tC (eT (cu 1 false (eq_of_beq ha))))++ [tC (eT (nt (bj (y:=ae [.int .i8 (af.n p (↑i:Int))] [.int .i8 0]) (cu 0 false (eq_of_beq ha))))),tC (cu 1 false (eq_of_beq ha)),tC (eT (nt (bj (y:=ae [.int .i8 (af.n p (↑i:Int))] [.int .i8 0]) (cu 0 false (eq_of_beq ha))))),tC (nt (bj (y:=ae [.int .i8 (af.n p (↑i:Int))] [.int .i8 0]) (cu 0 false (eq_of_beq ha)))),tT,tT,tT,tT]++Vc 3 (tC (eT (cu 2 true (eq_of_beq ha))))++ [tT,tC (cu 2 true (eq_of_beq ha)),tT]++Vc 3 (tC (eT (bk 0 (Io 0 (decide_eq_false (VF.2 hc))))))++ [tT,tC (bk 0 (Io 0 (decide_eq_false (VF.2 hc)))),tT,tT,tC (nt (decide_eq_false (VF.2 hc)))]) (by kernel_rfl)).cast (by rfl) (by rfl)
theorem IE (p:af) (i:Nat) (i1:(i:Int)≤10) (ha:(p.k (i:Int)==0)=false) (hb:(p.k (i:Int)==2)=false) (hc:(p.k (i:Int)==1)=false):ao Tryz.prog (aI Tryz.f23 0) ⟨[2],[0],[]⟩ 1 (uu:: .ptr false 0 0::uu:: .int .i64 (↑i:Int)::un 38) [.box (bW p)] (Ex.ret) (uu::uu:: .bool false::un 39) ([.box (bW p)]):=by
 exact (ao.aw (sp:=⟨[2],[0],[]⟩) (n0:=1) (ex:=Ex.ret) (t':=(uu::uu:: .bool false::un 39)) (s':= [.box (bW p)]) mixed ([tC (decide_eq_true (Vu i1)),.cH (decide (0≤(↑i:Int)∧(↑i:Int)<(↑(11:Nat):Int))) true (by ((try simp only [cf] at*);(try unfold cy at*);omega)),.bV _ _ _ _ (@gX p ((↑i:Int)) ([]) (by ((try simp only [cf] at*);(try unfold cy at*);omega)) i1),.flat _ _ bw]++Vc 4 (tC (eT (nt (bj (y:=ae [.int .i8 (af.n p (↑i:Int))] [.int .i8 0]) ha))))++ [tC (eT hc),tC (eT hc),tC (eT hc),tC (eT (nt (bj (y:=ae [.int .i8 (af.n p (↑i:Int))] [.int .i8 0]) ha))),tC hc,tC (eT (nt (bj (y:=ae [.int .i8 (af.n p (↑i:Int))] [.int .i8 0]) ha))),tC (nt (bj (y:=ae [.int .i8 (af.n p (↑i:Int))] [.int .i8 0]) ha)),tT,tT,tT,tT,tC (eT hb),tC (eT hb),tC (eT hb),tT,tC hb,tT,tF,tF,tF,tT,tF,tT,tT,tT]) (by kernel_rfl)).cast (by rfl) (by rfl)
theorem ER (p:af) (m:Int):ao Tryz.prog (aI Tryz.f29 0) ⟨[3],[],[]⟩ 1 (uu::uu::uu:: .int .i64 m::uu::uu:: .agg (bW p):: .int .i64 11::un 13) [.dead] (.exit 0) (uu::uu::uu:: .int .i64 m::un 17) ([.dead]):=by
 exact (ao.aw (sp:=⟨[3],[],[]⟩) (n0:=1) (ex:=Ex.exit (0:Nat)) (t':=(uu::uu::uu:: .int .i64 m::un 17)) (s':= [.dead]) mixed [tF] (by kernel_rfl)).cast (by rfl) (by rfl)
theorem EN (p:af) (m:Int) (m0:0≤m) (m1:m≤11) (i:Nat) (i1:(i:Int)≤10) (ha:(p.k (i:Int)==2)=true) (hc:0≤p.n (i:Int)) (hd:p.n (i:Int)<11):ao Tryz.prog (aI Tryz.f29 0) ⟨[3,6,7],[],[]⟩ 1 (uu::uu::uu:: .int .i64 m::uu::uu:: .agg (bW p):: .int .i64 (↑i:Int)::un 13) [.dead] .norm (uu::uu::uu:: .int .i64 (if WO.i64.wrap (WO.i64.wrap (af.n p (↑i:Int))+1)>m then WO.i64.wrap (WO.i64.wrap (af.n p (↑i:Int))+1) else m)::uu::uu:: .agg (bW p):: .int .i64 (WO.i64.wrap ((↑i:Int)+1))::un 13) ([.dead]):=by
 exact (ao.aw (sp:=⟨[3,6,7],[],[]⟩) (n0:=1) (ex:=Ex.norm) (t':=(uu::uu::uu:: .int .i64 (if WO.i64.wrap (WO.i64.wrap (af.n p (↑i:Int))+1)>m then WO.i64.wrap (WO.i64.wrap (af.n p (↑i:Int))+1) else m)::uu::uu:: .agg (bW p):: .int .i64 (WO.i64.wrap ((↑i:Int)+1))::un 13)) (s':= [.dead]) mixed [tC (decide_eq_true (Vu i1)),.cH (decide (0≤(↑i:Int)∧(↑i:Int)<(↑(11:Nat):Int))) true (by ((try simp only [cf] at*);(try unfold cy at*);omega)),.bV _ _ _ _ (@lC p ((↑i:Int)) ([]) (by ((try simp only [cf] at*);(try unfold cy at*);omega)) i1),tC (cu 2 true (eq_of_beq ha))] (by kernel_rfl)).cast (by rfl) (by rfl)
theorem EP (p:af) (m:Int) (m0:0≤m) (m1:m≤11) (i:Nat) (i1:(i:Int)≤10) (ha:(p.k (i:Int)==2)=false):ao Tryz.prog (aI Tryz.f29 0) ⟨[3,6,7],[],[]⟩ 1 (uu::uu::uu:: .int .i64 m::uu::uu:: .agg (bW p):: .int .i64 (↑i:Int)::un 13) [.dead] .norm (uu::uu::uu:: .int .i64 m::uu::uu:: .agg (bW p):: .int .i64 (WO.i64.wrap ((↑i:Int)+1))::un 13) ([.dead]):=by
 exact (ao.aw (sp:=⟨[3,6,7],[],[]⟩) (n0:=1) (ex:=Ex.norm) (t':=(uu::uu::uu:: .int .i64 m::uu::uu:: .agg (bW p):: .int .i64 (WO.i64.wrap ((↑i:Int)+1))::un 13)) (s':= [.dead]) mixed [tC (decide_eq_true (Vu i1)),.cH (decide (0≤(↑i:Int)∧(↑i:Int)<(↑(11:Nat):Int))) true (by ((try simp only [cf] at*);(try unfold cy at*);omega)),.bV _ _ _ _ (@lC p ((↑i:Int)) ([]) (by ((try simp only [cf] at*);(try unfold cy at*);omega)) i1),tC ha] (by kernel_rfl)).cast (by rfl) (by rfl)
theorem Gv (p:af) (i k:Nat) (h:(i:Int)≤(k:Int)):ao Tryz.prog (aI Tryz.f25 1) ⟨[1,5],[0],[]⟩ 1 (uu:: .ptr false 0 0::uu:: .int .i64 (↑i:Int):: .int .i64 (↑k:Int):: .int .i64 (↑i:Int)::un 22) [.box (bW p)] (.exit 2) (uu:: .ptr false 0 0::uu::uu::uu:: .int .i64 (↑i:Int)::un 22) ([.box (bW p)]):=by
 exact (ao.aw (sp:=⟨[1,5],[0],[]⟩) (n0:=1) (ex:=Ex.exit (2:Nat)) (t':=(uu:: .ptr false 0 0::uu::uu::uu:: .int .i64 (↑i:Int)::un 22)) (s':= [.box (bW p)]) mixed [tC (by ((try simp only [cf] at*);(try unfold cy at*);omega):(decide ((↑k:Int)<(↑i:Int)))=false)] (by kernel_rfl)).cast (by rfl) (by rfl)
theorem Ig (p:af) (i k:Nat) (i1:(i:Int)≤10) (k1:(k:Int)<(i:Int)) (ha:(p.k (i:Int)==0)=false) (hb:(p.k (i:Int)==p.k (k:Int))=true) (hc:(p.n (i:Int)==p.n (k:Int))=true):ao Tryz.prog (aI Tryz.f25 1) ⟨[2],[0],[]⟩ 1 (uu:: .ptr false 0 0::uu:: .int .i64 (↑i:Int):: .int .i64 (↑k:Int):: .int .i64 (↑i:Int)::un 22) [.box (bW p)] (Ex.ret) (uu::uu:: .bool false::un 25) ([.box (bW p)]):=by
 exact (ao.aw (sp:=⟨[2],[0],[]⟩) (n0:=1) (ex:=Ex.ret) (t':=(uu::uu:: .bool false::un 25)) (s':= [.box (bW p)]) mixed [tC (by ((try simp only [cf] at*);(try unfold cy at*);omega):(decide ((↑k:Int)<(↑i:Int)))=true),.cH (decide (0≤(↑i:Int)∧(↑i:Int)<(↑(11:Nat):Int))) true (by ((try simp only [cf] at*);(try unfold cy at*);omega)),.get _ _ _ (@nV p ((↑i:Int)) ([]) (by ((try simp only [cf] at*);(try unfold cy at*);omega)) i1),tC (eT (nt ha)),tC (eT (nt ha)),.cH (decide (0≤(↑i:Int)∧(↑i:Int)<(↑(11:Nat):Int))) true (by ((try simp only [cf] at*);(try unfold cy at*);omega)),tC (eT (nt ha)),.bV _ _ _ _ (@gX p ((↑i:Int)) ([]) (by ((try simp only [cf] at*);(try unfold cy at*);omega)) i1),tC (eT (nt ha)),tC (eT (nt ha)),.cH (decide (0≤(↑k:Int)∧(↑k:Int)<(↑(11:Nat):Int))) true (by ((try simp only [cf] at*);(try unfold cy at*);omega)),tC (eT (nt ha)),.bV _ _ _ _ (@gX p ((↑k:Int)) ([]) (by ((try simp only [cf] at*);(try unfold cy at*);omega)) (by ((try simp only [cf] at*);(try unfold cy at*);omega))),tC (eT (nt ha)),.flat _ _ bw,tC (nt ha),tC (aD hb (aD hc (rfl:true=true)))] (by kernel_rfl)).cast (by rfl) (by rfl)
theorem Lv (p:af) (i k:Nat) (i1:(i:Int)≤10) (k1:(k:Int)<(i:Int)) (ha:(p.k (i:Int)==0)=true):ao Tryz.prog (aI Tryz.f25 1) ⟨[1,3,4,5],[0],[]⟩ 1 (uu:: .ptr false 0 0::uu:: .int .i64 (↑i:Int):: .int .i64 (↑k:Int):: .int .i64 (↑i:Int)::un 22) [.box (bW p)] .norm (uu:: .ptr false 0 0::uu:: .int .i64 (↑i:Int):: .int .i64 (WO.i64.wrap ((↑k:Int)+1)):: .int .i64 (↑i:Int)::un 22) ([.box (bW p)]):=by
 exact (ao.aw (sp:=⟨[1,3,4,5],[0],[]⟩) (n0:=1) (ex:=Ex.norm) (t':=(uu:: .ptr false 0 0::uu:: .int .i64 (↑i:Int):: .int .i64 (WO.i64.wrap ((↑k:Int)+1)):: .int .i64 (↑i:Int)::un 22)) (s':= [.box (bW p)]) mixed ([tC (by ((try simp only [cf] at*);(try unfold cy at*);omega):(decide ((↑k:Int)<(↑i:Int)))=true),.cH (decide (0≤(↑i:Int)∧(↑i:Int)<(↑(11:Nat):Int))) true (by ((try simp only [cf] at*);(try unfold cy at*);omega)),.get _ _ _ (@nV p ((↑i:Int)) ([]) (by ((try simp only [cf] at*);(try unfold cy at*);omega)) i1)]++Vc 7 (tC (eT (nt (cu 0 true (eq_of_beq ha)))))++ [tC (nt (cu 0 true (eq_of_beq ha))),tF]) (by kernel_rfl)).cast (by rfl) (by rfl)
theorem Lx (p:af) (i k:Nat) (i1:(i:Int)≤10) (k1:(k:Int)<(i:Int)) (ha:(p.k (i:Int)==0)=false) (hb:(p.k (i:Int)==p.k (k:Int))=false):ao Tryz.prog (aI Tryz.f25 1) ⟨[1,3,4,5],[0],[]⟩ 1 (uu:: .ptr false 0 0::uu:: .int .i64 (↑i:Int):: .int .i64 (↑k:Int):: .int .i64 (↑i:Int)::un 22) [.box (bW p)] .norm (uu:: .ptr false 0 0::uu:: .int .i64 (↑i:Int):: .int .i64 (WO.i64.wrap ((↑k:Int)+1)):: .int .i64 (↑i:Int)::un 22) ([.box (bW p)]):=by
 exact (ao.aw (sp:=⟨[1,3,4,5],[0],[]⟩) (n0:=1) (ex:=Ex.norm) (t':=(uu:: .ptr false 0 0::uu:: .int .i64 (↑i:Int):: .int .i64 (WO.i64.wrap ((↑k:Int)+1)):: .int .i64 (↑i:Int)::un 22)) (s':= [.box (bW p)]) mixed [tC (by ((try simp only [cf] at*);(try unfold cy at*);omega):(decide ((↑k:Int)<(↑i:Int)))=true),.cH (decide (0≤(↑i:Int)∧(↑i:Int)<(↑(11:Nat):Int))) true (by ((try simp only [cf] at*);(try unfold cy at*);omega)),.get _ _ _ (@nV p ((↑i:Int)) ([]) (by ((try simp only [cf] at*);(try unfold cy at*);omega)) i1),tC (eT (nt ha)),tC (eT (nt ha)),.cH (decide (0≤(↑i:Int)∧(↑i:Int)<(↑(11:Nat):Int))) true (by ((try simp only [cf] at*);(try unfold cy at*);omega)),tC (eT (nt ha)),.bV _ _ _ _ (@gX p ((↑i:Int)) ([]) (by ((try simp only [cf] at*);(try unfold cy at*);omega)) i1),tC (eT (nt ha)),tC (eT (nt ha)),.cH (decide (0≤(↑k:Int)∧(↑k:Int)<(↑(11:Nat):Int))) true (by ((try simp only [cf] at*);(try unfold cy at*);omega)),tC (eT (nt ha)),.bV _ _ _ _ (@gX p ((↑k:Int)) ([]) (by ((try simp only [cf] at*);(try unfold cy at*);omega)) (by ((try simp only [cf] at*);(try unfold cy at*);omega))),tC (eT (nt ha)),.flat _ _ bw,tC (nt ha),tC (bj (y:=ae [.int .i8 (af.n p (↑i:Int))] [.int .i8 (af.n p (↑k:Int))]) hb)] (by kernel_rfl)).cast (by rfl) (by rfl)
theorem Lw (p:af) (i k:Nat) (i1:(i:Int)≤10) (k1:(k:Int)<(i:Int)) (ha:(p.k (i:Int)==0)=false) (hb:(p.k (i:Int)==p.k (k:Int))=true) (hc:(p.n (i:Int)==p.n (k:Int))=false):ao Tryz.prog (aI Tryz.f25 1) ⟨[1,3,4,5],[0],[]⟩ 1 (uu:: .ptr false 0 0::uu:: .int .i64 (↑i:Int):: .int .i64 (↑k:Int):: .int .i64 (↑i:Int)::un 22) [.box (bW p)] .norm (uu:: .ptr false 0 0::uu:: .int .i64 (↑i:Int):: .int .i64 (WO.i64.wrap ((↑k:Int)+1)):: .int .i64 (↑i:Int)::un 22) ([.box (bW p)]):=by
 exact (ao.aw (sp:=⟨[1,3,4,5],[0],[]⟩) (n0:=1) (ex:=Ex.norm) (t':=(uu:: .ptr false 0 0::uu:: .int .i64 (↑i:Int):: .int .i64 (WO.i64.wrap ((↑k:Int)+1)):: .int .i64 (↑i:Int)::un 22)) (s':= [.box (bW p)]) mixed [tC (by ((try simp only [cf] at*);(try unfold cy at*);omega):(decide ((↑k:Int)<(↑i:Int)))=true),.cH (decide (0≤(↑i:Int)∧(↑i:Int)<(↑(11:Nat):Int))) true (by ((try simp only [cf] at*);(try unfold cy at*);omega)),.get _ _ _ (@nV p ((↑i:Int)) ([]) (by ((try simp only [cf] at*);(try unfold cy at*);omega)) i1),tC (eT (nt ha)),tC (eT (nt ha)),.cH (decide (0≤(↑i:Int)∧(↑i:Int)<(↑(11:Nat):Int))) true (by ((try simp only [cf] at*);(try unfold cy at*);omega)),tC (eT (nt ha)),.bV _ _ _ _ (@gX p ((↑i:Int)) ([]) (by ((try simp only [cf] at*);(try unfold cy at*);omega)) i1),tC (eT (nt ha)),tC (eT (nt ha)),.cH (decide (0≤(↑k:Int)∧(↑k:Int)<(↑(11:Nat):Int))) true (by ((try simp only [cf] at*);(try unfold cy at*);omega)),tC (eT (nt ha)),.bV _ _ _ _ (@gX p ((↑k:Int)) ([]) (by ((try simp only [cf] at*);(try unfold cy at*);omega)) (by ((try simp only [cf] at*);(try unfold cy at*);omega))),tC (eT (nt ha)),.flat _ _ bw,tC (nt ha),tC (aD hb (bj (y:=true) hc))] (by kernel_rfl)).cast (by rfl) (by rfl)
end Go.Proofs.YtkpneibifdoecaaGreat
namespace Go.Ev
open Go
theorem oY {s:cd} (h:s.kind=1∨s.kind=2):s.stops=false:=by
 unfold cd.stops eH
 rw [decide_eq_false_iff_not]
 omega
theorem kL {s:cd} {t:List cd} {r:aq} {m:ab} (h:s.stops=true):cB (s::t) r m=(r,m,t.length+1,0):=by
 rw [cB,h]
theorem kK {s:cd} {t:List cd} {r:aq} {m:ab} (h:s.kind=1):cB (s::t) r m=cB t r (m.put s.aC (r.get s.aP)):=by
 rw [cB,oY (.inl h)]
 simp only [if_pos h]
theorem jn {s:cd} {t:List cd} {r:aq} {m:ab} (h:s.kind=2):cB (s::t) r m=cB t (r.put s.aP (rg m.rl s.aC)) m:=by
 rw [cB,oY (.inr h)]
 simp only [if_neg (show ¬s.kind=1 by omega),if_pos h]
theorem wY {s:cd} {t:List cd} {r:aq} {m:ab} (hs:s.stops=false) (h1:s.kind≠1) (h2:s.kind≠2) (h:(dx m s.x 0).2=0):cB (s::t) r m=cB t r ((dx m s.x 0).1.at 0):=by
 rw [cB,hs]
 simp only [if_neg h1,if_neg h2,if_pos h]
theorem sD {s:cd} {t:List cd} {r:aq} {m:ab} (hs:s.stops=false) (h1:s.kind≠1) (h2:s.kind≠2) (h:(dx m s.x 0).2≠0):cB (s::t) r m=(.zero,.zero,t.length+1,(dx m s.x 0).2):=by
 rw [cB,hs]
 simp only [if_neg h1,if_neg h2,if_neg h]
theorem mU (l:List cd) (r:aq) (m:ab):(cB l r m).2.2.1≤l.length:=by
 induction l generalizing r m with
 |nil=>simp [cB]
 |cons s t ih=>
  cases hs:s.stops
  ·by_cases h1:s.kind=1
   ·rw [kK h1];have:=ih r (m.put s.aC (r.get s.aP));simp;omega
   ·by_cases h2:s.kind=2
    ·rw [jn h2];have:=ih (r.put s.aP (rg m.rl s.aC)) m;simp;omega
    ·by_cases he:(dx m s.x 0).2=0
     ·rw [wY hs h1 h2 he];have:=ih r ((dx m s.x 0).1.at 0);simp;omega
     ·rw [sD hs h1 h2 he];simp
  ·rw [kL hs];simp
theorem AJ (l:List cd) (r:aq) (m:ab):(jZ l r m).length=(cB l r m).2.2.1:=by
 have:=mU l r m
 unfold jZ
 rw [List.length_drop]
 omega
theorem lK {s:cd} {t:List cd} {r r':aq} {m m':ab} (h:cB (s::t) r m=cB t r' m'):jZ (s::t) r m=jZ t r' m':=by
 unfold jZ
 rw [h]
 have:=mU t r' m'
 rw [Vf,show t.length+1 - (cB t r' m').2.2.1=(t.length - (cB t r' m').2.2.1)+1 by omega,List.drop_succ_cons]
theorem xf {s:cd} {t:List cd} {r:aq} {m:ab} (h:s.stops=true):jZ (s::t) r m=s::t:=by
 unfold jZ
 rw [kL h,Vf,Nat.sub_self,List.drop_zero]
theorem ri {s:cd} (hm:s.may=true) (hs:s.stops=false) (h1:s.kind≠1) (h2:s.kind≠2):s.kind=0:=by
 obtain ⟨kind,op,w,dst,src,base,aa,ai,cc,aP,aC,num,to⟩:=s
 replace hs:eH kind op=false:=hs
 unfold eH at hs
 rw [decide_eq_false_iff_not] at hs
 replace hm:jK kind op w dst src base aa ai cc aP aC num to=true:=hm
 unfold jK at hm
 refine Classical.byContradiction fun hk=> ?_
 replace h1:kind≠1:=h1
 replace h2:kind≠2:=h2
 replace hk:¬kind=0:=hk
 rw [if_neg hk,if_neg (by omega),if_neg (by omega),if_neg (by omega),if_neg (by omega),if_neg (by omega)] at hm
 cases hm
theorem H9 {l:List cd} {r:aq} (h:(wx l).2=0) (h2:(cB l r .zero).2.2.2=0):tZ l r=((cB l r .zero).1,(cB l r .zero).2.1,((l.length - (cB l r .zero).2.2.1:Nat):Int),0):=by
 unfold tZ
 simp only [if_pos h,if_pos h2]
theorem fH (v:Int) (i:Nat):(Vh 64 v).getLsbD i=decide ((v%18446744073709551616).toNat / 2^i%2=1):=by
 rw [← BitVec.testBit_toNat,toNat_ofInt,Nat.testBit_eq_decide_div_mod_eq]
 rfl
def MS (v w:Int):Bool:=WO.u64.wrap ((Vh 64 (v.fdiv (2^(min (WO.i8.wrap (w - 1)).toNat 64)))&&&Vh 64 1).toNat:Int)==1
theorem ln (a:Int):((Vh 64 a&&&Vh 64 1).toNat:Int)=a%2:=by have:=and_ones 64 1 (by omega) a;exact this
theorem nT (x:BitVec 64):Vh 64 (x.toNat:Int)=x:=by
 apply BitVec.eq_of_toNat_eq
 simp
theorem pr (n:Int):Vh 64 (WO.i64.wrap n)=Vh 64 n:=by
 apply BitVec.eq_of_toNat_eq
 rw [toNat_ofInt,toNat_ofInt,aH]
 congr 1
 rw [show ((2^64:Nat):Int)=18446744073709551616 from rfl]
 omega
theorem Dq (a b:Int):Vh 64 (gb a b)=Vh 64 a|||Vh 64 b:=by
 show Vh 64 (WO.i64.wrap ((Vh 64 a|||Vh 64 b).toNat:Int))=_
 rw [pr,nT]
theorem sS (a b:Int):Vh 64 (ql a b)=Vh 64 a&&& ~~~ Vh 64 b:=by
 show Vh 64 (WO.i64.wrap ((Vh 64 a&&& ~~~ Vh 64 b).toNat:Int))=_
 rw [pr,nT]
theorem lg {w k:Int} (k0:0≤k) (k1:k≤15):dM w k=if (Vh 64 w).getLsbD k.toNat=true then 1 else 0:=by
 have key:∀k:Int,0≤k→k≤15→dM w k=if (Vh 64 w).getLsbD k.toNat=true then 1 else 0:=by
  refine tH ?_ ?_ ?_ ?_ ?_ ?_ ?_ ?_ ?_ ?_ ?_ ?_ ?_ ?_ ?_ ?_
  ·rw [show dM w 0=WO.i64.wrap ((Vh 64 (w.fdiv 1)&&&Vh 64 1).toNat:Int) from rfl,ln,aH,VI _ (by decide),fH,show (0:Int).toNat=0 from rfl];simp only [decide_eq_true_eq];split<;>omega
  ·rw [show dM w 1=WO.i64.wrap ((Vh 64 (w.fdiv 2)&&&Vh 64 1).toNat:Int) from rfl,ln,aH,VI _ (by decide),fH,show (1:Int).toNat=1 from rfl];simp only [decide_eq_true_eq];split<;>omega
  ·rw [show dM w 2=WO.i64.wrap ((Vh 64 (w.fdiv 4)&&&Vh 64 1).toNat:Int) from rfl,ln,aH,VI _ (by decide),fH,show (2:Int).toNat=2 from rfl];simp only [decide_eq_true_eq];split<;>omega
  ·rw [show dM w 3=WO.i64.wrap ((Vh 64 (w.fdiv 8)&&&Vh 64 1).toNat:Int) from rfl,ln,aH,VI _ (by decide),fH,show (3:Int).toNat=3 from rfl];simp only [decide_eq_true_eq];split<;>omega
  ·rw [show dM w 4=WO.i64.wrap ((Vh 64 (w.fdiv 16)&&&Vh 64 1).toNat:Int) from rfl,ln,aH,VI _ (by decide),fH,show (4:Int).toNat=4 from rfl];simp only [decide_eq_true_eq];split<;>omega
  ·rw [show dM w 5=WO.i64.wrap ((Vh 64 (w.fdiv 32)&&&Vh 64 1).toNat:Int) from rfl,ln,aH,VI _ (by decide),fH,show (5:Int).toNat=5 from rfl];simp only [decide_eq_true_eq];split<;>omega
  ·rw [show dM w 6=WO.i64.wrap ((Vh 64 (w.fdiv 64)&&&Vh 64 1).toNat:Int) from rfl,ln,aH,VI _ (by decide),fH,show (6:Int).toNat=6 from rfl];simp only [decide_eq_true_eq];split<;>omega
  ·rw [show dM w 7=WO.i64.wrap ((Vh 64 (w.fdiv 128)&&&Vh 64 1).toNat:Int) from rfl,ln,aH,VI _ (by decide),fH,show (7:Int).toNat=7 from rfl];simp only [decide_eq_true_eq];split<;>omega
  ·rw [show dM w 8=WO.i64.wrap ((Vh 64 (w.fdiv 256)&&&Vh 64 1).toNat:Int) from rfl,ln,aH,VI _ (by decide),fH,show (8:Int).toNat=8 from rfl];simp only [decide_eq_true_eq];split<;>omega
  ·rw [show dM w 9=WO.i64.wrap ((Vh 64 (w.fdiv 512)&&&Vh 64 1).toNat:Int) from rfl,ln,aH,VI _ (by decide),fH,show (9:Int).toNat=9 from rfl];simp only [decide_eq_true_eq];split<;>omega
  ·rw [show dM w 10=WO.i64.wrap ((Vh 64 (w.fdiv 1024)&&&Vh 64 1).toNat:Int) from rfl,ln,aH,VI _ (by decide),fH,show (10:Int).toNat=10 from rfl];simp only [decide_eq_true_eq];split<;>omega
  ·rw [show dM w 11=WO.i64.wrap ((Vh 64 (w.fdiv 2048)&&&Vh 64 1).toNat:Int) from rfl,ln,aH,VI _ (by decide),fH,show (11:Int).toNat=11 from rfl];simp only [decide_eq_true_eq];split<;>omega
  ·rw [show dM w 12=WO.i64.wrap ((Vh 64 (w.fdiv 4096)&&&Vh 64 1).toNat:Int) from rfl,ln,aH,VI _ (by decide),fH,show (12:Int).toNat=12 from rfl];simp only [decide_eq_true_eq];split<;>omega
  ·rw [show dM w 13=WO.i64.wrap ((Vh 64 (w.fdiv 8192)&&&Vh 64 1).toNat:Int) from rfl,ln,aH,VI _ (by decide),fH,show (13:Int).toNat=13 from rfl];simp only [decide_eq_true_eq];split<;>omega
  ·rw [show dM w 14=WO.i64.wrap ((Vh 64 (w.fdiv 16384)&&&Vh 64 1).toNat:Int) from rfl,ln,aH,VI _ (by decide),fH,show (14:Int).toNat=14 from rfl];simp only [decide_eq_true_eq];split<;>omega
  ·rw [show dM w 15=WO.i64.wrap ((Vh 64 (w.fdiv 32768)&&&Vh 64 1).toNat:Int) from rfl,ln,aH,VI _ (by decide),fH,show (15:Int).toNat=15 from rfl];simp only [decide_eq_true_eq];split<;>omega
 exact key k k0 k1
theorem qj {a b k:Int} (k0:0≤k) (k1:k≤15):dM (gb a b) k=if dM a k=1∨dM b k=1 then 1 else 0:=by
 rw [lg k0 k1,lg k0 k1,lg k0 k1,Dq,BitVec.getLsbD_or]
 cases (Vh 64 a).getLsbD k.toNat<;>cases (Vh 64 b).getLsbD k.toNat<;>rfl
theorem Ch {d k:Int} (d0:0≤d) (d1:d≤15) (k0:0≤k) (k1:k≤15):dM (er d) k=if d=k then 1 else 0:=by
 obtain ⟨n,rfl⟩:=fA d0 d1
 obtain ⟨m,rfl⟩:=fA k0 k1
 rw [Ic]
 by_cases e:n=m
 ·subst e;simp
 ·rw [if_neg e,if_neg (by intro h;exact e (Fin.ext (by omega)))]
theorem uE {r:aq} {i v:Int} (h0:0≤i) (h1:i≤10):(r.put i v).l=r.l.set i.toNat v:=by
 rcases p4 h0 h1 with rfl|rfl|rfl|rfl|rfl|rfl|rfl|rfl|rfl|rfl|rfl<;>rfl
theorem x3 {r:aq} {i k v:Int} (h0:0≤i) (h1:i≤10) (k0:0≤k) (h:k≠i):(r.put i v).get k=r.get k:=by
 unfold aq.get
 rw [uE h0 h1,AH h0 k0 h]
theorem x4 {r:aq} {i v:Int} (h0:0≤i) (h1:i≤10):(r.put i v).get i=v:=by
 unfold aq.get
 rw [uE h0 h1,AI h0 (by simp [aq.l];omega)]
theorem oD {s:cd} (h:s.may=true) (hk:s.kind=1∨s.kind=2):0≤s.aP∧s.aP≤10∧eY s.aC=true:=by
 unfold cd.may jK at h
 rw [if_neg (by omega),if_pos hk] at h
 simp only [Bool.and_eq_true,decide_eq_true_eq] at h
 exact ⟨h.1.1.1.1,h.1.1.1.2,h.1.1.2⟩
def MF (o:Int) (r r':aq):Prop:= ∀k,0≤k→k≤10→k≠o→r.get k=r'.get k
def oK (m:ab) (s:List Int) (k n:Int):Int:=if k=1 then rg m.rl n else if k=2 then s.getD n.toNat 0 else 0
theorem xd {m:ab} {i v:Int} :∀j:Int,0≤j→j≤15→rg (m.put i v).rl j=if i=j then v else rg m.rl j:=by
 refine tH ?_ ?_ ?_ ?_ ?_ ?_ ?_ ?_ ?_ ?_ ?_ ?_ ?_ ?_ ?_ ?_<;>rfl
theorem hQ {op w dst src base aa ai cc:Int} (hd:0≤dst∧dst≤15) (hs:0≤src∧src≤15) (hb:0≤base∧base≤15) (hp: -2147483648≤aa∧aa≤2147483647) (hi: -2147483648≤ai∧ai≤2147483647) (h:aG (aR op) w dst src base aa ai cc=true):aA op w dst src base aa ai cc=true:=by
 unfold aA ay
 rw [decide_eq_true hd,decide_eq_true hs,decide_eq_true hb,decide_eq_true hp,decide_eq_true hi,h]
 rfl
section
variable {m:ab} {s:List Int} {t:List XS}
theorem Ef {dst n:Int} (hd:0≤dst∧dst≤15) (hn:0≤n∧n≤2147483647):∃p,ev (qA dst n::t) m s=ev t ((m.at p).put dst n) s:=by
 have hm:aA 1 32 dst 0 0 0 n 0=true:=hQ hd (by decide) (by decide) (by decide) ⟨by omega,hn.2⟩ (by rfl)
 have he:dx m (qA dst n) 0=((m.at (u64 (m.pc+u64 (XS.len (qA dst n))))).put dst n,0):=by
  rw [eX (x:=qA dst n) hm]
  have:aQ (u64 n) 32=n:=by
   show u64 n%4294967296=n
   unfold u64;rw [il];omega
  show ((m.at _).put dst (aQ (u64 n) 32),(0:Int))=_
  rw [this]
 refine ⟨u64 (m.pc+u64 (XS.len (qA dst n))),?_⟩
 rw [ev,if_neg (by show ¬((1:Int)=31∨(1:Int)=30);decide),if_neg (by show ¬((1:Int)=26∨(1:Int)=27);decide)]
 unfold gR jt
 rw [he,if_pos rfl]
theorem wm {dst src:Int} (hd:0≤dst∧dst≤15) (hs:0≤src∧src≤15):∃p,ev (⟨0,64,dst,src,0,0,0,0⟩::t) m s=ev t ((m.at p).put dst (rg m.rl src)) s:=by
 have hm:aA 0 64 dst src 0 0 0 0=true:=hQ hd hs (by decide) (by decide) (by decide) (by rfl)
 have he:dx m ⟨0,64,dst,src,0,0,0,0⟩ 0=((m.at (u64 (m.pc+u64 (XS.len ⟨0,64,dst,src,0,0,0,0⟩)))).put dst (rg m.rl src),0):=by
  rw [eX (x:=⟨0,64,dst,src,0,0,0,0⟩) hm]
  rfl
 refine ⟨u64 (m.pc+u64 (XS.len ⟨0,64,dst,src,0,0,0,0⟩)),?_⟩
 rw [ev,if_neg (by show ¬((0:Int)=31∨(0:Int)=30);decide),if_neg (by show ¬((0:Int)=26∨(0:Int)=27);decide)]
 unfold gR jt
 rw [he,if_pos rfl]
theorem ov {op dst src n:Int} (hl:s.length=11) (hn:0≤n∧n<11):wS ⟨op,64,dst,src,4,8*n,0,0⟩ s.length=true∧(8*n / 8)=n:=by
 refine ⟨?_,by omega⟩
 unfold wS
 rw [decide_eq_true_eq]
 simp only [hl]
 refine ⟨trivial,trivial,?_,?_,?_⟩<;>omega
theorem B6 {dst n:Int} (hd:0≤dst∧dst≤15) (hn:0≤n∧n<11) (hl:s.length=11):∃p,ev (⟨26,64,dst,0,4,8*n,0,0⟩::t) m s=ev t ((m.at p).put dst (s.getD n.toNat 0)) s:=by
 obtain ⟨h1,h2⟩:=ov (op:=26) (dst:=dst) (src:=0) hl hn
 have hm:aA 26 64 dst 0 4 (8*n) 0 0=true:=hQ hd (by decide) (by decide) ⟨by omega,by omega⟩ (by decide) (by rfl)
 have he:∀v,dx m ⟨26,64,dst,0,4,8*n,0,0⟩ v=((m.at (u64 (m.pc+u64 (XS.len ⟨26,64,dst,0,4,8*n,0,0⟩)))).put dst v,0):=by
  intro v
  rw [eX (by exact hm)]
  rfl
 refine ⟨u64 (m.pc+u64 (XS.len ⟨26,64,dst,0,4,8*n,0,0⟩)),?_⟩
 rw [ev,if_neg (by show ¬((26:Int)=31∨(26:Int)=30);decide),if_pos (by show ((26:Int)=26∨(26:Int)=27);decide),if_pos h1]
 unfold gR jt
 simp only [h2,he]
 rfl
theorem yG {src n:Int} (hs:0≤src∧src≤15) (hn:0≤n∧n<11) (hl:s.length=11):∃p,ev (fE src n::t) m s=ev t (m.at p) (s.set n.toNat (rg m.rl src)):=by
 obtain ⟨h1,h2⟩:=ov (op:=27) (dst:=0) (src:=src) hl hn
 have hm:aA 27 64 0 src 4 (8*n) 0 0=true:=hQ (by decide) hs (by decide) ⟨by omega,by omega⟩ (by decide) (by rfl)
 have he:∀v,dx m (fE src n) v=(m.at (u64 (m.pc+u64 (XS.len (fE src n)))),0):=by
  intro v
  rw [eX (by exact hm)]
  rfl
 refine ⟨u64 (m.pc+u64 (XS.len (fE src n))),?_⟩
 rw [ev,if_neg (by show ¬((27:Int)=31∨(27:Int)=30);decide),if_pos (by show ((27:Int)=26∨(27:Int)=27);decide),if_pos h1]
 unfold gR jt md
 simp only [h2,he]
 rfl
structure mO (m:ab) (s:List Int) (m':ab) (s':List Int) (k n:Int):Prop where
  len:s'.length=s.length
  sp:rg m'.rl 4=rg m.rl 4
  at_:∀k' n',jE k' n'=true→¬(k'=k∧n'=n)→oK m' s' k' n'=oK m s k' n'
theorem jL {k n:Int} (h:jE k n=true) (hk:k=1):(n=3∨n=9∨n=6∨n=7∨n=8∨n=10):=by
 rcases dS h with q|q|q<;>omega
theorem kF {k n:Int} (h:jE k n=true) (hk:k=2):0≤n∧n<11:=by
 rcases dS h with q|q|q<;>omega
theorem pI {p n v:Int} (hn:jE 1 n=true):mO m s ((m.at p).put n v) s 1 n∧oK ((m.at p).put n v) s 1 n=v:=by
 have hh:=jL hn rfl
 refine ⟨⟨rfl,?_,fun k' n' hp O0=> ?_⟩,?_⟩
 ·rw [xd 4 (by decide) (by decide),if_neg (by omega)];rfl
 ·unfold oK
  by_cases h1:k'=1
  ·have:=jL hp h1
   rw [if_pos h1,if_pos h1,xd n' (by omega) (by omega),if_neg (by omega)];rfl
  ·rw [if_neg h1,if_neg h1]
 ·unfold oK
  rw [if_pos rfl,xd n (by omega) (by omega),if_pos rfl]
theorem pH {p n v:Int} (hl:s.length=11) (hn:0≤n∧n<11):mO m s (m.at p) (s.set n.toNat v) 2 n∧oK (m.at p) (s.set n.toNat v) 2 n=v:=by
 refine ⟨⟨by simp,rfl,fun k' n' hp O0=> ?_⟩,?_⟩
 ·unfold oK
  by_cases h1:k'=1
  ·rw [if_pos h1,if_pos h1];rfl
  ·rw [if_neg h1,if_neg h1]
   by_cases h2:k'=2
   ·have:=kF hp h2
    rw [if_pos h2,if_pos h2,Vr,Vr,List.getElem?_set_ne (by omega)]
   ·rw [if_neg h2,if_neg h2]
 ·unfold oK
  rw [if_neg (by decide),if_pos rfl,Vr,List.getElem?_set_self (by omega)]
  rfl
theorem mO.trans {m1 m2:ab} {s1 s2:List Int} {k n:Int} (h1:mO m s m1 s1 3 0) (h2:mO m1 s1 m2 s2 k n):mO m s m2 s2 k n:=by
 refine ⟨h2.len.trans h1.len,h2.sp.trans h1.sp,fun k' n' hp O0=>(h2.at_ k' n' hp O0).trans (h1.at_ k' n' hp ?_)⟩
 rintro ⟨e,_⟩
 rcases dS hp with q|q|q<;>omega
theorem B7 {to k n:Int} (hi:to=0∨to=1∨to=2∨to=11) (hp:jE k n=true) (hl:s.length=11):∃p,ev (gQ to k n::t) m s=ev t ((m.at p).put to (oK m s k n)) s:=by
 unfold gQ oK
 by_cases h1:k=1
 ·have hh:=jL hp h1
  rw [if_pos h1,if_pos h1]
  exact wm (by omega) (by omega)
 ·rw [if_neg h1,if_neg h1]
  by_cases h2:k=2
  ·have hh:=kF hp h2
   rw [if_pos h2,if_pos h2]
   exact B6 (by omega) hh hl
  ·rw [if_neg h2,if_neg h2]
   exact Ef (by omega) (by decide)
end
theorem af.wR {p:af} (h:p.may=true):∀i,i≤11→0≤p.zk i∧p.zk i≤11
 |0,_=>by simp [af.zk]
 |i+1,hi=>by
  have ih:=af.wR h i (by omega)
  rw [af.zk]
  split
  ·rename_i hk
   have:=kF (af.fg h (i:=(i:Int)) (by omega) (by omega)) hk
   split<;>omega
  ·exact ih
end Go.Ev
namespace Go.Proofs.YtkpneibifdoecaaGreat
open Go Go.Ev
theorem GM {n0:Nat} {c:Code} {t:List D} {s:List Ob} {ex:Ex} {t':List D} {s':List Ob} (h:aU Tryz.prog n0 c t s ex t' s'):aU Tryz.prog n0 c t s ex t' s':=h
theorem iq (i:Nat) (h:(i:Int)≤10):WO.i64.wrap ((i:Int)+1)=((i+1:Nat):Int):=by rw [aH];omega
theorem vu (k n:Int):(jE k n=true∧((k=0∧n=0)∨(k=1∧cL 1 n=true)∨(k=2∧0≤n∧n<11)))∨(jE k n=false∧((k=0∧n≠0)∨(k=1∧cL 1 n=false)∨(k=2∧n<0)∨(k=2∧11≤n)∨(k≠0∧k≠1∧k≠2))):=by
 by_cases h0:k=0
 ·subst h0
  by_cases hn:n=0
  ·subst hn;exact .inl ⟨rfl,.inl ⟨rfl,rfl⟩⟩
  ·exact .inr ⟨by unfold jE cL;simp [hn],.inl ⟨rfl,hn⟩⟩
 by_cases h1:k=1
 ·subst h1
  cases hh:cL 1 n
  ·exact .inr ⟨by unfold jE;rw [hh];simp,.inr (.inl ⟨rfl,rfl⟩)⟩
  ·exact .inl ⟨by unfold jE;rw [hh];simp,.inr (.inl ⟨rfl,rfl⟩)⟩
 by_cases h2:k=2
 ·subst h2
  by_cases hn:n<0
  ·exact .inr ⟨by unfold jE cL;simp;omega,.inr (.inr (.inl ⟨rfl,hn⟩))⟩
  ·by_cases hm:11≤n
   ·exact .inr ⟨by unfold jE cL;simp;omega,.inr (.inr (.inr (.inl ⟨rfl,hm⟩)))⟩
   ·exact .inl ⟨by unfold jE cL;simp;omega,.inr (.inr ⟨rfl,by omega,by omega⟩)⟩
 ·exact .inr ⟨by unfold jE cL;simp [h0,h1,h2],.inr (.inr (.inr (.inr ⟨h0,h1,h2⟩)))⟩
theorem mC {k n:Int} (h:k≠1):cL k n=false:=by unfold cL;simp [h]
abbrev Il (p:af) (i:Int):List D:= [.undef,.undef,.undef,.undef,.undef,.agg (bW p),.int .i64 i,.undef,.undef,.undef,.undef,.undef,.undef,.undef,.undef,.undef,.undef,.undef,.undef,.undef,.undef,.undef,.undef,.undef,.undef,.undef,.undef,.undef,.undef,.undef,.undef,.undef,.undef,.undef]
abbrev KH:List D:= [.undef,.undef,.undef,.undef,.undef,.undef,.undef,.undef,.undef,.undef,.undef,.undef,.undef,.undef,.undef,.undef,.undef,.undef,.undef,.undef,.undef,.undef,.undef,.undef,.undef,.undef,.undef,.undef,.undef,.undef,.undef,.undef,.undef,.undef]
abbrev KI:List D:= [.undef,.undef,.bool false,.undef,.undef,.undef,.undef,.undef,.undef,.undef,.undef,.undef,.undef,.undef,.undef,.undef,.undef,.undef,.undef,.undef,.undef,.undef,.undef,.undef,.undef,.undef,.undef,.undef,.undef,.undef,.undef,.undef,.undef,.undef]
theorem qT (p:af):∀(m i:Nat),i+m=11→
  aF Tryz.prog (aI Tryz.f28 0) 1 (Il p i) [.dead] (if p.pB m i=true then .exit 0 else .ret) (if p.pB m i=true then KH else KI) [.dead]
 |0,i,hi=>by
  obtain rfl:i=11:=by omega
  exact aF.last (Fv p) (fun h=>by cases h)
 |m+1,i,hi=>by
  have ih:=qT p m (i+1) (by omega)
  have i1:(i:Int)≤10:=by omega
  have hw:=iq i i1
  rw [af.pB]
  unfold af.C2
  rcases vu (p.k i) (p.n i) with ⟨e,h⟩|⟨e,h⟩
  ·rw [e,Bool.true_and]
   have this:ao Tryz.prog (aI Tryz.f28 0) ⟨[5,6],[],[]⟩ 1 (Il p i) [.dead] .norm (Il p (WO.i64.wrap ((i:Int)+1))) [.dead]:=by
    rcases h with ⟨h1,h2⟩|⟨h1,h2⟩|⟨h1,h2,h3⟩
    ·exact Fs p i i1 (by simp [h1]) (by simp [h2])
    ·exact Fu p i i1 (by simp [h1]) (by rw [h1];exact h2)
    ·exact Ft p i i1 (by simp [h1]) (mC (by omega)) h2 h3
   rw [hw] at this
   exact aF.cG this ih
  ·rw [e,Bool.false_and]
   refine aF.last (sp:=⟨[2],[],[]⟩) ?_ (fun h=>by cases h)
   rcases h with ⟨h1,h2⟩|⟨h1,h2⟩|⟨h1,h2⟩|⟨h1,h2⟩|⟨h1,h2,h3⟩
   ·exact IX p i i1 (by simp [h1]) (by simpa using h2) (mC (by omega))
   ·exact IW p i i1 (by simp [h1]) (by rw [h1];exact h2)
   ·exact IV p i i1 (by simp [h1]) (mC (by omega)) h2
   ·exact IU p i i1 (by simp [h1]) (mC (by omega)) h2
   ·exact IT p i i1 (by simpa using h1) (by simpa using h3) (mC h2)
theorem zB (p:af):aU Tryz.prog 1 (.loop (aI Tryz.f28 0)) (Il p 0) [.dead] (if p.may=true then .exit 0 else .ret) (if p.may=true then KH else KI) [.dead]:=
 aU.bA (Vq _) (qT p 11 0 rfl)
theorem Hk (p:af) (h:p.may=true):aU Tryz.prog 1 (.loop (aI Tryz.f28 0)) (Il p 0) [.dead] (.exit 0) KH [.dead]:=by
 have:=zB p
 rw [h] at this
 exact this
theorem IQ (p:af) (h:p.may=false):aU Tryz.prog 1 (.loop (aI Tryz.f28 0)) (Il p 0) [.dead] .ret KI [.dead]:=by
 have:=zB p
 rw [h] at this
 exact this
abbrev Ik (i:Int):List D:= [.undef,.ptr false 0 0,.undef,.int .i64 i,.undef,.undef,.undef,.undef,.undef,.undef,.undef,.undef,.undef,.undef,.undef,.undef,.undef,.undef,.undef,.undef,.undef,.undef,.undef,.undef,.undef,.undef,.undef,.undef,.undef,.undef,.undef,.undef,.undef,.undef,.undef,.undef,.undef,.undef,.undef,.undef,.undef,.undef]
abbrev Kx:List D:= [.undef,.undef,.undef,.undef,.undef,.undef,.undef,.undef,.undef,.undef,.undef,.undef,.undef,.undef,.undef,.undef,.undef,.undef,.undef,.undef,.undef,.undef,.undef,.undef,.undef,.undef,.undef,.undef,.undef,.undef,.undef,.undef,.undef,.undef,.undef,.undef,.undef,.undef,.undef,.undef,.undef,.undef]
abbrev Ky:List D:= [.undef,.undef,.bool false,.undef,.undef,.undef,.undef,.undef,.undef,.undef,.undef,.undef,.undef,.undef,.undef,.undef,.undef,.undef,.undef,.undef,.undef,.undef,.undef,.undef,.undef,.undef,.undef,.undef,.undef,.undef,.undef,.undef,.undef,.undef,.undef,.undef,.undef,.undef,.undef,.undef,.undef,.undef]
theorem qS (p:af):∀(m i:Nat),i+m=11→
  aF Tryz.prog (aI Tryz.f23 0) 1 (Ik i) [.box (bW p)] (if p.pB m i=true then .exit 0 else .ret) (if p.pB m i=true then Kx else Ky) [.box (bW p)]
 |0,i,hi=>by
  obtain rfl:i=11:=by omega
  exact aF.last (Fg p) (fun h=>by cases h)
 |m+1,i,hi=>by
  have ih:=qS p m (i+1) (by omega)
  have i1:(i:Int)≤10:=by omega
  have hw:=iq i i1
  rw [af.pB]
  unfold af.C2
  rcases vu (p.k i) (p.n i) with ⟨e,h⟩|⟨e,h⟩
  ·rw [e,Bool.true_and]
   have this:ao Tryz.prog (aI Tryz.f23 0) ⟨[1,3],[0],[]⟩ 1 (Ik i) [.box (bW p)] .norm (Ik (WO.i64.wrap ((i:Int)+1))) [.box (bW p)]:=by
    rcases h with ⟨h1,h2⟩|⟨h1,h2⟩|⟨h1,h2,h3⟩
    ·exact Fc p i i1 (by simp [h1]) (by simp [h2])
    ·exact Ff p i i1 (by simp [h1]) h2
    ·exact Fe p i i1 (by simp [h1]) h2 h3
   rw [hw] at this
   exact aF.cG this ih
  ·rw [e,Bool.false_and]
   refine aF.last (sp:=⟨[2],[0],[]⟩) ?_ (fun h=>by cases h)
   rcases h with ⟨h1,h2⟩|⟨h1,h2⟩|⟨h1,h2⟩|⟨h1,h2⟩|⟨h1,h2,h3⟩
   ·exact IK p i i1 (by simp [h1]) (by simpa using h2)
   ·exact IJ p i i1 (by simp [h1]) h2
   ·exact II p i i1 (by simp [h1]) h2
   ·exact IG p i i1 (by simp [h1]) h2
   ·exact IE p i i1 (by simpa using h1) (by simpa using h3) (by simpa using h2)
theorem zt (p:af):aU Tryz.prog 1 (.loop (aI Tryz.f23 0)) (Ik 0) [.box (bW p)] (if p.may=true then .exit 0 else .ret) (if p.may=true then Kx else Ky) [.box (bW p)]:=
 aU.bA (Vq _) (qS p 11 0 rfl)
theorem He (p:af) (h:p.may=true):aU Tryz.prog 1 (.loop (aI Tryz.f23 0)) (Ik 0) [.box (bW p)] (.exit 0) Kx [.box (bW p)]:=by
 have:=zt p
 rw [h] at this
 exact this
theorem ID (p:af) (h:p.may=false):aU Tryz.prog 1 (.loop (aI Tryz.f23 0)) (Ik 0) [.box (bW p)] .ret Ky [.box (bW p)]:=by
 have:=zt p
 rw [h] at this
 exact this
abbrev LL (p:af) (m i:Int):List D:= [.undef,.undef,.undef,.int .i64 m,.undef,.undef,.agg (bW p),.int .i64 i,.undef,.undef,.undef,.undef,.undef,.undef,.undef,.undef,.undef,.undef,.undef,.undef,.undef]
abbrev LM (m:Int):List D:= [.undef,.undef,.undef,.int .i64 m,.undef,.undef,.undef,.undef,.undef,.undef,.undef,.undef,.undef,.undef,.undef,.undef,.undef,.undef,.undef,.undef,.undef]
theorem qO (p:af) (h:p.may=true):∀(m i:Nat),i+m=11→
  aF Tryz.prog (aI Tryz.f29 0) 1 (LL p (p.zk i) i) [.dead] (.exit 0) (LM (p.zk 11)) [.dead]
 |0,i,hi=>by
  obtain rfl:i=11:=by omega
  exact aF.last (ER p (p.zk 11)) (fun h=>by cases h)
 |m+1,i,hi=>by
  have ih:=qO p h m (i+1) (by omega)
  have i1:(i:Int)≤10:=by omega
  have hw:=iq i i1
  obtain ⟨m0,m1⟩:=af.wR h i (by omega)
  rw [af.zk] at ih
  by_cases hk:p.k i=2
  ·have hn:=kF (af.fg h (i:=(i:Int)) (by omega) i1) hk
   have:=EN p (p.zk i) m0 m1 i i1 (by simp [hk]) hn.1 hn.2
   have e:WO.i64.wrap (WO.i64.wrap (p.n i)+1)=p.n i+1:=by rw [aH,aH];omega
   rw [hw,e] at this
   rw [if_pos hk] at ih
   exact aF.cG this ih
  ·have:=EP p (p.zk i) m0 m1 i i1 (by simpa using hk)
   rw [hw] at this
   rw [if_neg hk] at ih
   exact aF.cG this ih
theorem EO (p:af) (h:p.may=true):aU Tryz.prog 1 (.loop (aI Tryz.f29 0)) (LL p 0 0) [.dead] (.exit 0) (LM p.sp) [.dead]:=
 aU.bA (Vq _) (qO p h 11 0 rfl)
abbrev MC (i k:Int):List D:= [.undef,.ptr false 0 0,.undef,.int .i64 i,.int .i64 k,.int .i64 i,.undef,.undef,.undef,.undef,.undef,.undef,.undef,.undef,.undef,.undef,.undef,.undef,.undef,.undef,.undef,.undef,.undef,.undef,.undef,.undef,.undef,.undef]
abbrev MB (i:Int):List D:= [.undef,.ptr false 0 0,.undef,.undef,.undef,.int .i64 i,.undef,.undef,.undef,.undef,.undef,.undef,.undef,.undef,.undef,.undef,.undef,.undef,.undef,.undef,.undef,.undef,.undef,.undef,.undef,.undef,.undef,.undef]
abbrev Kp:List D:= [.undef,.undef,.bool false,.undef,.undef,.undef,.undef,.undef,.undef,.undef,.undef,.undef,.undef,.undef,.undef,.undef,.undef,.undef,.undef,.undef,.undef,.undef,.undef,.undef,.undef,.undef,.undef,.undef]
theorem rQ (p:af) (i:Nat) (i1:(i:Int)≤10):∀(m k:Nat),k+m=i→
  aF Tryz.prog (aI Tryz.f25 1) 1 (MC i k) [.box (bW p)] (if p.ou i m k=true then .ret else .exit 2) (if p.ou i m k=true then Kp else MB i) [.box (bW p)]
 |0,k,hk=>aF.last (Gv p i k (by omega)) (fun h=>by cases h)
 |m+1,k,hk=>by
  have ih:=rQ p i i1 m (k+1) (by omega)
  have k1:(k:Int)<(i:Int):=by omega
  have hw:=iq k (by omega)
  rw [af.ou]
  by_cases h0:p.k i=0
  ·have e:p.z5 i k=false:=by unfold af.z5;simp [h0]
   have:=Lv p i k i1 k1 (by simp [h0])
   rw [hw] at this
   rw [e,Bool.false_or]
   exact aF.cG this ih
  by_cases h1:p.k i=p.k k
  ·by_cases h2:p.n i=p.n k
   ·have e:p.z5 i k=true:=by unfold af.z5;exact decide_eq_true ⟨h0,h1,h2⟩
    rw [e,Bool.true_or]
    exact aF.last (Ig p i k i1 k1 (by simpa using h0) (by simpa using h1) (by simpa using h2)) (fun h=>by cases h)
   ·have e:p.z5 i k=false:=by unfold af.z5;exact decide_eq_false fun q=>h2 q.2.2
    have:=Lw p i k i1 k1 (by simpa using h0) (by simpa using h1) (by simpa using h2)
    rw [hw] at this
    rw [e,Bool.false_or]
    exact aF.cG this ih
  ·have e:p.z5 i k=false:=by unfold af.z5;exact decide_eq_false fun q=>h1 q.2.1
   have:=Lx p i k i1 k1 (by simpa using h0) (by simpa using h1)
   rw [hw] at this
   rw [e,Bool.false_or]
   exact aF.cG this ih
theorem Gy (p:af) (i:Nat) (i1:(i:Int)≤10):aU Tryz.prog 1 (.loop (aI Tryz.f25 1)) (MC i 0) [.box (bW p)] (if p.ou i i 0=true then .ret else .exit 2) (if p.ou i i 0=true then Kp else MB i) [.box (bW p)]:=
 aU.bA (Vq _) (rQ p i i1 i 0 (by omega))
theorem Gx (p:af):ao Tryz.prog (aI Tryz.f25 0) ⟨[],[],[]⟩ 1 (uu:: .ptr false 0 0::uu::uu::uu:: .int .i64 11::un 22) [.box (bW p)] (.exit 0) (un 28) ([.dead]):=by
 exact (ao.aw (sp:=⟨[],[],[]⟩) (n0:=1) (ex:=Ex.exit (0:Nat)) (t':=(un 28)) (s':= [.dead]) mixed [tF] (by kernel_rfl)).cast (by rfl) (by rfl)
theorem Gw (p:af) (i:Nat) (i1:(i:Int)≤10) (hI:aU Tryz.prog 1 (.loop (aI Tryz.f25 1)) (uu:: .ptr false 0 0::uu:: .int .i64 (i:Int):: .int .i64 0:: .int .i64 (i:Int)::un 22) [.box (bW p)] (.exit 2) (uu:: .ptr false 0 0::uu::uu::uu:: .int .i64 (i:Int)::un 22) [.box (bW p)]):ao Tryz.prog (aI Tryz.f25 0) ⟨[1,5],[0],[]⟩ 1 (uu:: .ptr false 0 0::uu::uu::uu:: .int .i64 (↑i:Int)::un 22) [.box (bW p)] .norm (uu:: .ptr false 0 0::uu::uu::uu:: .int .i64 (WO.i64.wrap ((↑i:Int)+1))::un 22) ([.box (bW p)]):=by
 have c0:= @GM (nat_lit 1) _ ((uu:: .ptr false 0 0::uu:: .int .i64 (↑i:Int):: .int .i64 0:: .int .i64 (↑i:Int)::un 22)) ([.box (bW p)]) _ _ _ hI
 exact (ao.aw (sp:=⟨[1,5],[0],[]⟩) (n0:=1) (ex:=Ex.norm) (t':=(uu:: .ptr false 0 0::uu::uu::uu:: .int .i64 (WO.i64.wrap ((↑i:Int)+1))::un 22)) (s':= [.box (bW p)]) mixed [tC (decide_eq_true (Vu i1)),.head ⟨[1,3,4,5],[0],[]⟩ _ _ _ _ _ _ _ c0] (by kernel_rfl)).cast (by rfl) (by rfl)
theorem Ii (p:af) (i:Nat) (i1:(i:Int)≤10) (hI:aU Tryz.prog 1 (.loop (aI Tryz.f25 1)) (uu:: .ptr false 0 0::uu:: .int .i64 (i:Int):: .int .i64 0:: .int .i64 (i:Int)::un 22) [.box (bW p)] .ret (uu::uu:: .bool false::un 25) [.box (bW p)]):ao Tryz.prog (aI Tryz.f25 0) ⟨[2],[],[]⟩ 1 (uu:: .ptr false 0 0::uu::uu::uu:: .int .i64 (↑i:Int)::un 22) [.box (bW p)] (Ex.ret) (uu::uu:: .bool false::un 25) ([.dead]):=by
 have c0:= @GM (nat_lit 1) _ ((uu:: .ptr false 0 0::uu:: .int .i64 (↑i:Int):: .int .i64 0:: .int .i64 (↑i:Int)::un 22)) ([.box (bW p)]) _ _ _ hI
 exact (ao.aw (sp:=⟨[2],[],[]⟩) (n0:=1) (ex:=Ex.ret) (t':=(uu::uu:: .bool false::un 25)) (s':= [.dead]) mixed [tC (decide_eq_true (Vu i1)),.head ⟨[1,3,4,5],[0],[]⟩ _ _ _ _ _ _ _ c0] (by kernel_rfl)).cast (by rfl) (by rfl)
abbrev Ly (i:Int):List D:= [.undef,.ptr false 0 0,.undef,.undef,.undef,.int .i64 i,.undef,.undef,.undef,.undef,.undef,.undef,.undef,.undef,.undef,.undef,.undef,.undef,.undef,.undef,.undef,.undef,.undef,.undef,.undef,.undef,.undef,.undef]
abbrev Mz:List D:= [.undef,.undef,.undef,.undef,.undef,.undef,.undef,.undef,.undef,.undef,.undef,.undef,.undef,.undef,.undef,.undef,.undef,.undef,.undef,.undef,.undef,.undef,.undef,.undef,.undef,.undef,.undef,.undef]
theorem nF (p:af):∀(m i:Nat),i+m=11→
  aF Tryz.prog (aI Tryz.f25 0) 1 (Ly i) [.box (bW p)] (if p.km m i=true then .ret else .exit 0) (if p.km m i=true then Kp else Mz) [.dead]
 |0,i,hi=>by
  obtain rfl:i=11:=by omega
  exact aF.last (Gx p) (fun h=>by cases h)
 |m+1,i,hi=>by
  have ih:=nF p m (i+1) (by omega)
  have i1:(i:Int)≤10:=by omega
  have hw:=iq i i1
  have hI:=Gy p i i1
  rw [af.km]
  cases e:p.ou i i 0 with
  |true=>
   rw [e] at hI
   rw [Bool.true_or]
   exact aF.last (Ii p i i1 hI) (fun h=>by cases h)
  |false=>
   rw [e] at hI
   have:=Gw p i i1 hI
   rw [hw] at this
   rw [Bool.false_or]
   exact aF.cG this ih
theorem Ih (p:af) (h:p.apart=true):aU Tryz.prog 1 (.loop (aI Tryz.f25 0)) (Ly 0) [.box (bW p)] (.exit 0) Mz [.dead]:=by
 have:=nF p 11 0 rfl
 have e:p.km 11 0=false:=by unfold af.apart at h;simpa using h
 rw [e] at this
 exact aU.bA (Vq _) this
theorem J3 (p:af) (h:p.apart=false):aU Tryz.prog 1 (.loop (aI Tryz.f25 0)) (Ly 0) [.box (bW p)] .ret Kp [.dead]:=by
 have:=nF p 11 0 rfl
 have e:p.km 11 0=true:=by unfold af.apart at h;simpa using h
 rw [e] at this
 exact aU.bA (Vq _) this
theorem jU (p:af):aZ Tryz.prog 28 ([.agg (bW p)]) (.bool p.may):=by
 rcases de (af.may p) with k0|k0
 ·have c1:= @Hk p k0
  exact (L5 (d:= .bool true) [.head ⟨[5,6],[],[]⟩ _ _ _ _ _ _ _ c1] (by kernel_rfl)).to (by simp [wk,k0])
 have c2:= @IQ p k0
 exact (L5 (d:= .bool false) [.head ⟨[5,6],[],[]⟩ _ _ _ _ _ _ _ c2] (by kernel_rfl)).to (by simp [wk,k0])
theorem zy (p:af):aZ Tryz.prog 23 ([.agg (bW p)]) (.bool p.may):=by
 rcases de (af.may p) with k0|k0
 ·have c1:= @He p k0
  exact (L7 (d:= .bool true) [.head ⟨[1,3],[0],[]⟩ _ _ _ _ _ _ _ c1] (by kernel_rfl)).to (by simp [wk,k0])
 have c2:= @ID p k0
 exact (L7 (d:= .bool false) [.head ⟨[1,3],[0],[]⟩ _ _ _ _ _ _ _ c2] (by kernel_rfl)).to (by simp [wk,k0])
theorem nI (p:af) (h:p.may=true):aZ Tryz.prog 29 ([.agg (bW p)]) (.int .i64 p.sp):=by
 have c0:= @EO p h
 exact (Nl (d:= .int .i64 (af.sp p)) [.head ⟨[3,6,7],[],[]⟩ _ _ _ _ _ _ _ c0] (by kernel_rfl)).to (by simp [wk,])
theorem J2 (p:af):aZ Tryz.prog 25 ([.agg (bW p)]) (.bool p.apart):=by
 rcases de (af.apart p) with k0|k0
 ·have c1:= @Ih p k0
  exact (L6 (d:= .bool true) [.head ⟨[1,5],[0],[]⟩ _ _ _ _ _ _ _ c1] (by kernel_rfl)).to (by simp [wk,k0])
 have c2:= @J3 p k0
 exact (L6 (d:= .bool false) [.head ⟨[1,5],[0],[]⟩ _ _ _ _ _ _ _ c2] (by kernel_rfl)).to (by simp [wk,k0])
theorem yf (p:af) (hm:p.may=true) (s0:0≤p.sp) (s1:p.sp≤11) (hs:p.sp>0) (ha:(p.k 0==2)=false) (ga:(p.k 0==1)=false):aZ Tryz.prog 19 ([.agg (bW p)]) (.aM [.aj .no 8 [xD 1 32 0 0 0 0 0 0,xD 9 64 4 0 0 0 (WO.i64.wrap (8*p.sp)) 0,xD 30 0 0 0 0 0 0 0],.int .i64 0]):=by
 have c0:= @jU p
 have c1:= @nI p hm
 exact (Im (d:= .aM [.aj (.fresh 8) 8 [(xD 1 32 0 0 0 0 0 0),(xD 9 64 4 0 0 0 (WO.i64.wrap (8*af.sp p)) 0),(xD 30 0 0 0 0 0 0 0)],.int .i64 0]) [.ret _ _ _ c0,tC (nt hm),.inl,tC ga,tC ha,.inl,.inl,.ret _ _ _ c1,tC (fb 0 (by ((try simp only [cf] at*);(try unfold cy at*);omega):(decide (WO.i64.wrap (8*af.sp p)<1))=false)),.inl,.len 2 2147483648 (by decide),.inl,.len 3 2147483648 (by decide)] (by kernel_rfl)).to (by simp [wk,aB,aK])
theorem ye (p:af) (hm:p.may=true) (s0:0≤p.sp) (s1:p.sp≤11) (hs:p.sp>0) (ha:(p.k 0==2)=false) (ga:(p.k 0==1)=true):aZ Tryz.prog 19 ([.agg (bW p)]) (.aM [.aj .no 8 [xD 0 64 0 (p.n 0) 0 0 0 0,xD 9 64 4 0 0 0 (WO.i64.wrap (8*p.sp)) 0,xD 30 0 0 0 0 0 0 0],.int .i64 0]):=by
 have c0:= @jU p
 have c1:= @nI p hm
 exact (Im (d:= .aM [.aj (.fresh 8) 8 [(xD 0 64 0 (af.n p 0) 0 0 0 0),(xD 9 64 4 0 0 0 (WO.i64.wrap (8*af.sp p)) 0),(xD 30 0 0 0 0 0 0 0)],.int .i64 0]) [.ret _ _ _ c0,tC (nt hm),.inl,tC (cu 1 true (eq_of_beq ga)),.inl,.ret _ _ _ c1,tC (fb 0 (by ((try simp only [cf] at*);(try unfold cy at*);omega):(decide (WO.i64.wrap (8*af.sp p)<1))=false)),.inl,.len 2 2147483648 (by decide),.inl,.len 3 2147483648 (by decide)] (by kernel_rfl)).to (by simp [wk,aB,aK])
theorem yd (p:af) (hm:p.may=true) (s0:0≤p.sp) (s1:p.sp≤11) (hs:p.sp>0) (ha:(p.k 0==2)=true) (ba:0≤p.n 0) (da:p.n 0<11):aZ Tryz.prog 19 ([.agg (bW p)]) (.aM [.aj .no 8 [xD 26 64 0 0 4 (WO.i64.wrap (8*WO.i64.wrap (p.n 0))) 0 0,xD 9 64 4 0 0 0 (WO.i64.wrap (8*p.sp)) 0,xD 30 0 0 0 0 0 0 0],.int .i64 0]):=by
 have c0:= @jU p
 have c1:= @nI p hm
 exact (Im (d:= .aM [.aj (.fresh 8) 8 [(xD 26 64 0 0 4 (WO.i64.wrap (8*WO.i64.wrap (af.n p 0))) 0 0),(xD 9 64 4 0 0 0 (WO.i64.wrap (8*af.sp p)) 0),(xD 30 0 0 0 0 0 0 0)],.int .i64 0]) [.ret _ _ _ c0,tC (nt hm),.inl,tC (cu 1 false (eq_of_beq ha)),tC (cu 2 true (eq_of_beq ha)),.inl,.ret _ _ _ c1,tC (fb 0 (by ((try simp only [cf] at*);(try unfold cy at*);omega):(decide (WO.i64.wrap (8*af.sp p)<1))=false)),.inl,.len 2 2147483648 (by decide),.inl,.len 3 2147483648 (by decide)] (by kernel_rfl)).to (by simp [wk,aB,aK])
theorem yc (p:af) (hm:p.may=true) (s0:0≤p.sp) (s1:p.sp≤11) (hs:p.sp≤0) (ha:(p.k 0==2)=false) (ga:(p.k 0==1)=false):aZ Tryz.prog 19 ([.agg (bW p)]) (.aM [.aj .no 8 [xD 1 32 0 0 0 0 0 0,xD 30 0 0 0 0 0 0 0],.int .i64 0]):=by
 have c0:= @jU p
 have c1:= @nI p hm
 exact (Im (d:= .aM [.aj (.fresh 8) 8 [(xD 1 32 0 0 0 0 0 0),(xD 30 0 0 0 0 0 0 0)],.int .i64 0]) [.ret _ _ _ c0,tC (nt hm),.inl,tC ga,tC ha,.inl,.inl,.ret _ _ _ c1,tC (fb 0 (by ((try simp only [cf] at*);(try unfold cy at*);omega):(decide (WO.i64.wrap (8*af.sp p)<1))=true)),.inl,.len 2 2147483648 (by decide)] (by kernel_rfl)).to (by simp [wk,aB,aK])
theorem yb (p:af) (hm:p.may=true) (s0:0≤p.sp) (s1:p.sp≤11) (hs:p.sp≤0) (ha:(p.k 0==2)=false) (ga:(p.k 0==1)=true):aZ Tryz.prog 19 ([.agg (bW p)]) (.aM [.aj .no 8 [xD 0 64 0 (p.n 0) 0 0 0 0,xD 30 0 0 0 0 0 0 0],.int .i64 0]):=by
 have c0:= @jU p
 have c1:= @nI p hm
 exact (Im (d:= .aM [.aj (.fresh 8) 8 [(xD 0 64 0 (af.n p 0) 0 0 0 0),(xD 30 0 0 0 0 0 0 0)],.int .i64 0]) [.ret _ _ _ c0,tC (nt hm),.inl,tC (cu 1 true (eq_of_beq ga)),.inl,.ret _ _ _ c1,tC (fb 0 (by ((try simp only [cf] at*);(try unfold cy at*);omega):(decide (WO.i64.wrap (8*af.sp p)<1))=true)),.inl,.len 2 2147483648 (by decide)] (by kernel_rfl)).to (by simp [wk,aB,aK])
theorem ya (p:af) (hm:p.may=true) (s0:0≤p.sp) (s1:p.sp≤11) (hs:p.sp≤0) (ha:(p.k 0==2)=true) (ba:0≤p.n 0) (da:p.n 0<11):aZ Tryz.prog 19 ([.agg (bW p)]) (.aM [.aj .no 8 [xD 26 64 0 0 4 (WO.i64.wrap (8*WO.i64.wrap (p.n 0))) 0 0,xD 30 0 0 0 0 0 0 0],.int .i64 0]):=by
 have c0:= @jU p
 have c1:= @nI p hm
 exact (Im (d:= .aM [.aj (.fresh 8) 8 [(xD 26 64 0 0 4 (WO.i64.wrap (8*WO.i64.wrap (af.n p 0))) 0 0),(xD 30 0 0 0 0 0 0 0)],.int .i64 0]) [.ret _ _ _ c0,tC (nt hm),.inl,tC (cu 1 false (eq_of_beq ha)),tC (cu 2 true (eq_of_beq ha)),.inl,.ret _ _ _ c1,tC (fb 0 (by ((try simp only [cf] at*);(try unfold cy at*);omega):(decide (WO.i64.wrap (8*af.sp p)<1))=true)),.inl,.len 2 2147483648 (by decide)] (by kernel_rfl)).to (by simp [wk,aB,aK])
end Go.Proofs.YtkpneibifdoecaaGreat
namespace Go.Ev
open Go
section
variable {m:ab} {s:List Int}
theorem Gs {dst n v:Int} (hd:0≤dst∧dst≤15) (hn:0≤n∧n<11):∃p,dx m ⟨26,64,dst,0,4,8*n,0,0⟩ v=((m.at p).put dst v,0):=by
 have hm:aA 26 64 dst 0 4 (8*n) 0 0=true:=hQ hd (by decide) (by decide) ⟨by omega,by omega⟩ (by decide) (by rfl)
 refine ⟨u64 (m.pc+u64 (XS.len ⟨26,64,dst,0,4,8*n,0,0⟩)),?_⟩
 rw [eX (by exact hm)]
 rfl
theorem rh {src n:Int} (hs:0≤src∧src≤15) (hn:0≤n∧n<11):aA 27 64 0 src 4 (8*n) 0 0=true:=hQ (by decide) hs (by decide) ⟨by omega,by omega⟩ (by decide) (by rfl)
theorem Ed {src n v:Int} (hs:0≤src∧src≤15) (hn:0≤n∧n<11):∃p,dx m (fE src n) v=(m.at p,0):=by
 refine ⟨u64 (m.pc+u64 (XS.len (fE src n))),?_⟩
 rw [eX (by exact rh hs hn)]
 rfl
theorem vR {p:af} {m2:ab} {s2:List Int} {aP v:Int} (hm:p.may=true) (P7:p.apart=true) (g0:0≤aP) (g1:aP≤10) (hk:mO m s m2 s2 (p.k aP) (p.n aP)) (hv:p.k aP≠0→oK m2 s2 (p.k aP) (p.n aP)=v) {i:Int} (i0:0≤i) (i1:i≤10):
  oK m2 s2 (p.k i) (p.n i)=if i=aP∧p.k i≠0 then v else oK m s (p.k i) (p.n i):=by
 by_cases h0:p.k i=0
 ·rw [if_neg (fun h=>h.2 h0)]
  unfold oK
  rw [if_neg (by omega),if_neg (by omega),if_neg (by omega),if_neg (by omega)]
 ·by_cases hi:i=aP
  ·subst hi
   rw [if_pos ⟨rfl,h0⟩]
   exact hv h0
  ·rw [if_neg (fun h=>hi h.1)]
   exact hk.at_ _ _ (af.fg hm i0 i1) (af.Eu P7 i0 i1 g0 g1 hi h0)
end
end Go.Ev
namespace Go.Proofs.YtkpneibifdoecaaGreat
open Go Go.Ev
theorem Ap (p:af) (aP aC:Int) (g0:0≤aP) (g1:aP≤10) (h0:0≤aC) (hI:aZ Tryz.prog 61 [dJ 1 0 0 0 0 0 0 0 0 0 aC 0 0] (.bool true)) (hM:aZ Tryz.prog 28 [.agg [.int .i8 (p.k 0),.int .i8 (p.n 0),.int .i8 (p.k 1),.int .i8 (p.n 1),.int .i8 (p.k 2),.int .i8 (p.n 2),.int .i8 (p.k 3),.int .i8 (p.n 3),.int .i8 (p.k 4),.int .i8 (p.n 4),.int .i8 (p.k 5),.int .i8 (p.n 5),.int .i8 (p.k 6),.int .i8 (p.n 6),.int .i8 (p.k 7),.int .i8 (p.n 7),.int .i8 (p.k 8),.int .i8 (p.n 8),.int .i8 (p.k 9),.int .i8 (p.n 9),.int .i8 (p.k 10),.int .i8 (p.n 10)]] (.bool true)) (h2:(p.k aP==2)=false) (h1:(p.k aP==1)=false):aZ Tryz.prog 12 ([.int .i64 aP,.int .i8 aC,.agg [.int .i8 (p.k 0),.int .i8 (p.n 0),.int .i8 (p.k 1),.int .i8 (p.n 1),.int .i8 (p.k 2),.int .i8 (p.n 2),.int .i8 (p.k 3),.int .i8 (p.n 3),.int .i8 (p.k 4),.int .i8 (p.n 4),.int .i8 (p.k 5),.int .i8 (p.n 5),.int .i8 (p.k 6),.int .i8 (p.n 6),.int .i8 (p.k 7),.int .i8 (p.n 7),.int .i8 (p.k 8),.int .i8 (p.n 8),.int .i8 (p.k 9),.int .i8 (p.n 9),.int .i8 (p.k 10),.int .i8 (p.n 10)]]) (.aM [.aj .no 8 [xD 1 32 aC 0 0 0 0 0],.int .i64 0]):=by
 exact (KR (d:= .aM [.aj .tight 8 [(xD 1 32 aC 0 0 0 0 0)],.int .i64 0]) ([.inl,tC (eT (bk 0 (decide_eq_false (VF.2 g0)))),tC (eT (bk 0 (decide_eq_false (VF.2 g0)))),tC (bk 0 (decide_eq_false (VF.2 g0))),tC (eT (decide_eq_true (Vu g1))),tC (eT (decide_eq_true (Vu g1))),tC (decide_eq_true (Vu g1))]++Vc 3 (tC (eT (bk 0 (decide_eq_false (VF.2 h0)))))++ [.ret _ _ _ hI,tC (bk 0 (decide_eq_false (VF.2 h0))),tT,tT,tT,tT,.ret _ _ _ hM,tT,tF,.cH (decide (0≤aP∧aP<(↑(11:Nat):Int))) true (by ((try simp only [Vj,Vl,cf] at*);(try unfold cy at*);omega)),.bV _ _ _ _ (@gX p aP ([]) g0 g1),.inl,tC h1,tC h2,.inl]) (by kernel_rfl)).to (by first|rfl|(simp [wk,aB,aK];done)|exact ⟨⟨rfl,.inl rfl,rfl,.inl rfl⟩,rfl,trivial⟩|exact ⟨⟨rfl,.inl rfl,trivial,.inr rfl⟩,rfl,trivial⟩)
theorem Ao (p:af) (aP aC:Int) (g0:0≤aP) (g1:aP≤10) (h0:0≤aC) (hI:aZ Tryz.prog 61 [dJ 1 0 0 0 0 0 0 0 0 0 aC 0 0] (.bool true)) (hM:aZ Tryz.prog 28 [.agg [.int .i8 (p.k 0),.int .i8 (p.n 0),.int .i8 (p.k 1),.int .i8 (p.n 1),.int .i8 (p.k 2),.int .i8 (p.n 2),.int .i8 (p.k 3),.int .i8 (p.n 3),.int .i8 (p.k 4),.int .i8 (p.n 4),.int .i8 (p.k 5),.int .i8 (p.n 5),.int .i8 (p.k 6),.int .i8 (p.n 6),.int .i8 (p.k 7),.int .i8 (p.n 7),.int .i8 (p.k 8),.int .i8 (p.n 8),.int .i8 (p.k 9),.int .i8 (p.n 9),.int .i8 (p.k 10),.int .i8 (p.n 10)]] (.bool true)) (h2:(p.k aP==2)=false) (h1:(p.k aP==1)=true):aZ Tryz.prog 12 ([.int .i64 aP,.int .i8 aC,.agg [.int .i8 (p.k 0),.int .i8 (p.n 0),.int .i8 (p.k 1),.int .i8 (p.n 1),.int .i8 (p.k 2),.int .i8 (p.n 2),.int .i8 (p.k 3),.int .i8 (p.n 3),.int .i8 (p.k 4),.int .i8 (p.n 4),.int .i8 (p.k 5),.int .i8 (p.n 5),.int .i8 (p.k 6),.int .i8 (p.n 6),.int .i8 (p.k 7),.int .i8 (p.n 7),.int .i8 (p.k 8),.int .i8 (p.n 8),.int .i8 (p.k 9),.int .i8 (p.n 9),.int .i8 (p.k 10),.int .i8 (p.n 10)]]) (.aM [.aj .no 8 [xD 0 64 aC (p.n aP) 0 0 0 0],.int .i64 0]):=by
 exact (KR (d:= .aM [.aj .tight 8 [(xD 0 64 aC (af.n p aP) 0 0 0 0)],.int .i64 0]) ([.inl,tC (eT (bk 0 (decide_eq_false (VF.2 g0)))),tC (eT (bk 0 (decide_eq_false (VF.2 g0)))),tC (bk 0 (decide_eq_false (VF.2 g0))),tC (eT (decide_eq_true (Vu g1))),tC (eT (decide_eq_true (Vu g1))),tC (decide_eq_true (Vu g1))]++Vc 3 (tC (eT (bk 0 (decide_eq_false (VF.2 h0)))))++ [.ret _ _ _ hI,tC (bk 0 (decide_eq_false (VF.2 h0))),tT,tT,tT,tT,.ret _ _ _ hM,tT,tF,.cH (decide (0≤aP∧aP<(↑(11:Nat):Int))) true (by ((try simp only [Vj,Vl,cf] at*);(try unfold cy at*);omega)),.bV _ _ _ _ (@gX p aP ([]) g0 g1),.inl,tC (cu 1 true (eq_of_beq h1))]) (by kernel_rfl)).to (by first|rfl|(simp [wk,aB,aK];done)|exact ⟨⟨rfl,.inl rfl,rfl,.inl rfl⟩,rfl,trivial⟩|exact ⟨⟨rfl,.inl rfl,trivial,.inr rfl⟩,rfl,trivial⟩)
theorem An (p:af) (aP aC:Int) (g0:0≤aP) (g1:aP≤10) (h0:0≤aC) (hI:aZ Tryz.prog 61 [dJ 1 0 0 0 0 0 0 0 0 0 aC 0 0] (.bool true)) (hM:aZ Tryz.prog 28 [.agg [.int .i8 (p.k 0),.int .i8 (p.n 0),.int .i8 (p.k 1),.int .i8 (p.n 1),.int .i8 (p.k 2),.int .i8 (p.n 2),.int .i8 (p.k 3),.int .i8 (p.n 3),.int .i8 (p.k 4),.int .i8 (p.n 4),.int .i8 (p.k 5),.int .i8 (p.n 5),.int .i8 (p.k 6),.int .i8 (p.n 6),.int .i8 (p.k 7),.int .i8 (p.n 7),.int .i8 (p.k 8),.int .i8 (p.n 8),.int .i8 (p.k 9),.int .i8 (p.n 9),.int .i8 (p.k 10),.int .i8 (p.n 10)]] (.bool true)) (h2:(p.k aP==2)=true) (h1:(p.k aP==1)=false):aZ Tryz.prog 12 ([.int .i64 aP,.int .i8 aC,.agg [.int .i8 (p.k 0),.int .i8 (p.n 0),.int .i8 (p.k 1),.int .i8 (p.n 1),.int .i8 (p.k 2),.int .i8 (p.n 2),.int .i8 (p.k 3),.int .i8 (p.n 3),.int .i8 (p.k 4),.int .i8 (p.n 4),.int .i8 (p.k 5),.int .i8 (p.n 5),.int .i8 (p.k 6),.int .i8 (p.n 6),.int .i8 (p.k 7),.int .i8 (p.n 7),.int .i8 (p.k 8),.int .i8 (p.n 8),.int .i8 (p.k 9),.int .i8 (p.n 9),.int .i8 (p.k 10),.int .i8 (p.n 10)]]) (.aM [.aj .no 8 [xD 26 64 aC 0 4 (WO.i64.wrap (8*WO.i64.wrap (p.n aP))) 0 0],.int .i64 0]):=by
 exact (KR (d:= .aM [.aj .tight 8 [(xD 26 64 aC 0 4 (WO.i64.wrap (8*WO.i64.wrap (af.n p aP))) 0 0)],.int .i64 0]) ([.inl,tC (eT (bk 0 (decide_eq_false (VF.2 g0)))),tC (eT (bk 0 (decide_eq_false (VF.2 g0)))),tC (bk 0 (decide_eq_false (VF.2 g0))),tC (eT (decide_eq_true (Vu g1))),tC (eT (decide_eq_true (Vu g1))),tC (decide_eq_true (Vu g1))]++Vc 3 (tC (eT (bk 0 (decide_eq_false (VF.2 h0)))))++ [.ret _ _ _ hI,tC (bk 0 (decide_eq_false (VF.2 h0))),tT,tT,tT,tT,.ret _ _ _ hM,tT,tF,.cH (decide (0≤aP∧aP<(↑(11:Nat):Int))) true (by ((try simp only [Vj,Vl,cf] at*);(try unfold cy at*);omega)),.bV _ _ _ _ (@gX p aP ([]) g0 g1),.inl,tC (cu 1 false (eq_of_beq h2)),tC (cu 2 true (eq_of_beq h2))]) (by kernel_rfl)).to (by first|rfl|(simp [wk,aB,aK];done)|exact ⟨⟨rfl,.inl rfl,rfl,.inl rfl⟩,rfl,trivial⟩|exact ⟨⟨rfl,.inl rfl,trivial,.inr rfl⟩,rfl,trivial⟩)
theorem BC (p:af) (aP aC:Int) (g0:0≤aP) (g1:aP≤10) (h0:0≤aC) (hI:aZ Tryz.prog 61 [dJ 1 0 0 0 0 0 0 0 0 0 aC 0 0] (.bool true)) (hM:aZ Tryz.prog 28 [.agg [.int .i8 (p.k 0),.int .i8 (p.n 0),.int .i8 (p.k 1),.int .i8 (p.n 1),.int .i8 (p.k 2),.int .i8 (p.n 2),.int .i8 (p.k 3),.int .i8 (p.n 3),.int .i8 (p.k 4),.int .i8 (p.n 4),.int .i8 (p.k 5),.int .i8 (p.n 5),.int .i8 (p.k 6),.int .i8 (p.n 6),.int .i8 (p.k 7),.int .i8 (p.n 7),.int .i8 (p.k 8),.int .i8 (p.n 8),.int .i8 (p.k 9),.int .i8 (p.n 9),.int .i8 (p.k 10),.int .i8 (p.n 10)]] (.bool true)) (h2:(p.k aP==2)=false) (h1:(p.k aP==1)=false):aZ Tryz.prog 15 ([.int .i64 aP,.int .i8 aC,.agg [.int .i8 (p.k 0),.int .i8 (p.n 0),.int .i8 (p.k 1),.int .i8 (p.n 1),.int .i8 (p.k 2),.int .i8 (p.n 2),.int .i8 (p.k 3),.int .i8 (p.n 3),.int .i8 (p.k 4),.int .i8 (p.n 4),.int .i8 (p.k 5),.int .i8 (p.n 5),.int .i8 (p.k 6),.int .i8 (p.n 6),.int .i8 (p.k 7),.int .i8 (p.n 7),.int .i8 (p.k 8),.int .i8 (p.n 8),.int .i8 (p.k 9),.int .i8 (p.n 9),.int .i8 (p.k 10),.int .i8 (p.n 10)]]) (.aM [.aj .tight 0 [],.int .i64 0]):=by
 exact (KM (d:= .aM [.aj .tight 0 [],.int .i64 0]) ([.inl,tC (eT (bk 0 (decide_eq_false (VF.2 g0)))),tC (eT (bk 0 (decide_eq_false (VF.2 g0)))),tC (bk 0 (decide_eq_false (VF.2 g0))),tC (eT (decide_eq_true (Vu g1))),tC (eT (decide_eq_true (Vu g1))),tC (decide_eq_true (Vu g1))]++Vc 3 (tC (eT (bk 0 (decide_eq_false (VF.2 h0)))))++ [.ret _ _ _ hI,tC (bk 0 (decide_eq_false (VF.2 h0))),tT,tT,tT,tT,.ret _ _ _ hM,tT,tF,.cH (decide (0≤aP∧aP<(↑(11:Nat):Int))) true (by ((try simp only [Vj,Vl,cf] at*);(try unfold cy at*);omega)),.bV _ _ _ _ (@gX p aP ([]) g0 g1),tC h1,tC h2]) (by kernel_rfl)).to (by first|rfl|(simp [wk,aB,aK];done)|exact ⟨⟨rfl,.inl rfl,rfl,.inl rfl⟩,rfl,trivial⟩|exact ⟨⟨rfl,.inl rfl,trivial,.inr rfl⟩,rfl,trivial⟩)
theorem BB (p:af) (aP aC:Int) (g0:0≤aP) (g1:aP≤10) (h0:0≤aC) (hI:aZ Tryz.prog 61 [dJ 1 0 0 0 0 0 0 0 0 0 aC 0 0] (.bool true)) (hM:aZ Tryz.prog 28 [.agg [.int .i8 (p.k 0),.int .i8 (p.n 0),.int .i8 (p.k 1),.int .i8 (p.n 1),.int .i8 (p.k 2),.int .i8 (p.n 2),.int .i8 (p.k 3),.int .i8 (p.n 3),.int .i8 (p.k 4),.int .i8 (p.n 4),.int .i8 (p.k 5),.int .i8 (p.n 5),.int .i8 (p.k 6),.int .i8 (p.n 6),.int .i8 (p.k 7),.int .i8 (p.n 7),.int .i8 (p.k 8),.int .i8 (p.n 8),.int .i8 (p.k 9),.int .i8 (p.n 9),.int .i8 (p.k 10),.int .i8 (p.n 10)]] (.bool true)) (h2:(p.k aP==2)=false) (h1:(p.k aP==1)=true):aZ Tryz.prog 15 ([.int .i64 aP,.int .i8 aC,.agg [.int .i8 (p.k 0),.int .i8 (p.n 0),.int .i8 (p.k 1),.int .i8 (p.n 1),.int .i8 (p.k 2),.int .i8 (p.n 2),.int .i8 (p.k 3),.int .i8 (p.n 3),.int .i8 (p.k 4),.int .i8 (p.n 4),.int .i8 (p.k 5),.int .i8 (p.n 5),.int .i8 (p.k 6),.int .i8 (p.n 6),.int .i8 (p.k 7),.int .i8 (p.n 7),.int .i8 (p.k 8),.int .i8 (p.n 8),.int .i8 (p.k 9),.int .i8 (p.n 9),.int .i8 (p.k 10),.int .i8 (p.n 10)]]) (.aM [.aj .no 8 [xD 0 64 (p.n aP) aC 0 0 0 0],.int .i64 0]):=by
 exact (KM (d:= .aM [.aj (.fresh 8) 8 [(xD 0 64 (af.n p aP) aC 0 0 0 0)],.int .i64 0]) ([.inl,tC (eT (bk 0 (decide_eq_false (VF.2 g0)))),tC (eT (bk 0 (decide_eq_false (VF.2 g0)))),tC (bk 0 (decide_eq_false (VF.2 g0))),tC (eT (decide_eq_true (Vu g1))),tC (eT (decide_eq_true (Vu g1))),tC (decide_eq_true (Vu g1))]++Vc 3 (tC (eT (bk 0 (decide_eq_false (VF.2 h0)))))++ [.ret _ _ _ hI,tC (bk 0 (decide_eq_false (VF.2 h0))),tT,tT,tT,tT,.ret _ _ _ hM,tT,tF,.cH (decide (0≤aP∧aP<(↑(11:Nat):Int))) true (by ((try simp only [Vj,Vl,cf] at*);(try unfold cy at*);omega)),.bV _ _ _ _ (@gX p aP ([]) g0 g1),tC (cu 1 true (eq_of_beq h1)),.inl,.len 1 2147483648 (by decide)]) (by kernel_rfl)).to (by first|rfl|(simp [wk,aB,aK];done)|exact ⟨⟨rfl,.inl rfl,rfl,.inl rfl⟩,rfl,trivial⟩|exact ⟨⟨rfl,.inl rfl,trivial,.inr rfl⟩,rfl,trivial⟩)
theorem BA (p:af) (aP aC:Int) (g0:0≤aP) (g1:aP≤10) (h0:0≤aC) (hI:aZ Tryz.prog 61 [dJ 1 0 0 0 0 0 0 0 0 0 aC 0 0] (.bool true)) (hM:aZ Tryz.prog 28 [.agg [.int .i8 (p.k 0),.int .i8 (p.n 0),.int .i8 (p.k 1),.int .i8 (p.n 1),.int .i8 (p.k 2),.int .i8 (p.n 2),.int .i8 (p.k 3),.int .i8 (p.n 3),.int .i8 (p.k 4),.int .i8 (p.n 4),.int .i8 (p.k 5),.int .i8 (p.n 5),.int .i8 (p.k 6),.int .i8 (p.n 6),.int .i8 (p.k 7),.int .i8 (p.n 7),.int .i8 (p.k 8),.int .i8 (p.n 8),.int .i8 (p.k 9),.int .i8 (p.n 9),.int .i8 (p.k 10),.int .i8 (p.n 10)]] (.bool true)) (h2:(p.k aP==2)=true) (h1:(p.k aP==1)=false):aZ Tryz.prog 15 ([.int .i64 aP,.int .i8 aC,.agg [.int .i8 (p.k 0),.int .i8 (p.n 0),.int .i8 (p.k 1),.int .i8 (p.n 1),.int .i8 (p.k 2),.int .i8 (p.n 2),.int .i8 (p.k 3),.int .i8 (p.n 3),.int .i8 (p.k 4),.int .i8 (p.n 4),.int .i8 (p.k 5),.int .i8 (p.n 5),.int .i8 (p.k 6),.int .i8 (p.n 6),.int .i8 (p.k 7),.int .i8 (p.n 7),.int .i8 (p.k 8),.int .i8 (p.n 8),.int .i8 (p.k 9),.int .i8 (p.n 9),.int .i8 (p.k 10),.int .i8 (p.n 10)]]) (.aM [.aj .no 8 [xD 27 64 0 aC 4 (WO.i64.wrap (8*WO.i64.wrap (p.n aP))) 0 0],.int .i64 0]):=by
 exact (KM (d:= .aM [.aj (.fresh 8) 8 [(xD 27 64 0 aC 4 (WO.i64.wrap (8*WO.i64.wrap (af.n p aP))) 0 0)],.int .i64 0]) ([.inl,tC (eT (bk 0 (decide_eq_false (VF.2 g0)))),tC (eT (bk 0 (decide_eq_false (VF.2 g0)))),tC (bk 0 (decide_eq_false (VF.2 g0))),tC (eT (decide_eq_true (Vu g1))),tC (eT (decide_eq_true (Vu g1))),tC (decide_eq_true (Vu g1))]++Vc 3 (tC (eT (bk 0 (decide_eq_false (VF.2 h0)))))++ [.ret _ _ _ hI,tC (bk 0 (decide_eq_false (VF.2 h0))),tT,tT,tT,tT,.ret _ _ _ hM,tT,tF,.cH (decide (0≤aP∧aP<(↑(11:Nat):Int))) true (by ((try simp only [Vj,Vl,cf] at*);(try unfold cy at*);omega)),.bV _ _ _ _ (@gX p aP ([]) g0 g1),tC (cu 1 false (eq_of_beq h2)),tC (cu 2 true (eq_of_beq h2)),.inl,.inl,.len 1 2147483648 (by decide)]) (by kernel_rfl)).to (by first|rfl|(simp [wk,aB,aK];done)|exact ⟨⟨rfl,.inl rfl,rfl,.inl rfl⟩,rfl,trivial⟩|exact ⟨⟨rfl,.inl rfl,trivial,.inr rfl⟩,rfl,trivial⟩)
end Go.Proofs.YtkpneibifdoecaaGreat
