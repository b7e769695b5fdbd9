import Derived.Test.YtkpneibifdoecaaGreatT05
open List renaming replicate→Vt
open Int renaming lt_add_one_of_le→Vz,not_lt→VH,fdiv_eq_ediv_of_nonneg→V4
open BitVec renaming ofInt→VB
open Go renaming IntKind→W3
/- Contracts and plain laws that a statement's proof leans on (texts merged:FE0,MdJ,MdT,MdK,MdFr,FE0A,FE1,FE1A,FE2,FE3,MdFt). -/
set_option linter.unusedVariables false
set_option linter.unusedSimpArgs false
set_option maxRecDepth 100000
set_option maxHeartbeats 8000000
namespace Go.Proofs.YtkpneibifdoecaaGreat
open Go Go.Ev
theorem iX (k n:Int):aJ Tryz.prog 56 ([.agg [.int .i8 k,.int .i8 n],.bool false]) (.bool (cI k n)):=by
 by_cases h0:k=1
 ·subst h0
  let E1:EL:= [tT,tT,.inl,tF]
  by_cases h1:n=3
  ·subst h1
   exact (G7 (d:= .bool true) (E1++ [.bO [(0,.box [.int .i8 1,.int .i8 3])],tT,tT,tT,.inl,.inl,.go 64,tT,tT,.get ([.int .i8 3,.int .i8 9,.int .i8 6,.int .i8 7,.int .i8 8,.int .i8 10]) 0 (.int .i8 3) rfl,tT,tT]) (by kernel_rfl)).to (by clear E1;first|(simp [wk,cI,];done)|(apply cr;unfold cI;symm;first|(rw [decide_eq_true_eq];simp only [beq_iff_eq,beq_eq_false_iff_ne,ne_eq] at*;omega)|(rw [decide_eq_false_iff_not];simp only [beq_iff_eq,beq_eq_false_iff_ne,ne_eq] at*;omega)))
  by_cases h2:n=9
  ·subst h2
   exact (G7 (d:= .bool true) (E1++ [.bO [(0,.box [.int .i8 1,.int .i8 9])],tT,tT,tT,.inl,.inl,.go 64,tT,tT,.get ([.int .i8 3,.int .i8 9,.int .i8 6,.int .i8 7,.int .i8 8,.int .i8 10]) 0 (.int .i8 3) rfl,tC (aH h1),tT,tT,.get ([.int .i8 3,.int .i8 9,.int .i8 6,.int .i8 7,.int .i8 8,.int .i8 10]) 1 (.int .i8 9) rfl,tT,tT]) (by kernel_rfl)).to (by clear E1;first|(simp [wk,cI,h1];done)|(apply cr;unfold cI;symm;first|(rw [decide_eq_true_eq];simp only [beq_iff_eq,beq_eq_false_iff_ne,ne_eq] at*;omega)|(rw [decide_eq_false_iff_not];simp only [beq_iff_eq,beq_eq_false_iff_ne,ne_eq] at*;omega)))
  by_cases h3:n=6
  ·subst h3
   exact (G7 (d:= .bool true) (E1++ [.bO [(0,.box [.int .i8 1,.int .i8 6])],tT,tT,tT,.inl,.inl,.go 64,tT,tT,.get ([.int .i8 3,.int .i8 9,.int .i8 6,.int .i8 7,.int .i8 8,.int .i8 10]) 0 (.int .i8 3) rfl,tC (aH h1),tT,tT,.get ([.int .i8 3,.int .i8 9,.int .i8 6,.int .i8 7,.int .i8 8,.int .i8 10]) 1 (.int .i8 9) rfl,tC (aH h2),tT,tT,.get ([.int .i8 3,.int .i8 9,.int .i8 6,.int .i8 7,.int .i8 8,.int .i8 10]) 2 (.int .i8 6) rfl,tT,tT]) (by kernel_rfl)).to (by clear E1;first|(simp [wk,cI,h1,h2];done)|(apply cr;unfold cI;symm;first|(rw [decide_eq_true_eq];simp only [beq_iff_eq,beq_eq_false_iff_ne,ne_eq] at*;omega)|(rw [decide_eq_false_iff_not];simp only [beq_iff_eq,beq_eq_false_iff_ne,ne_eq] at*;omega)))
  by_cases h4:n=7
  ·subst h4
   exact (G7 (d:= .bool true) (E1++ [.bO [(0,.box [.int .i8 1,.int .i8 7])],tT,tT,tT,.inl,.inl,.go 64,tT,tT,.get ([.int .i8 3,.int .i8 9,.int .i8 6,.int .i8 7,.int .i8 8,.int .i8 10]) 0 (.int .i8 3) rfl,tC (aH h1),tT,tT,.get ([.int .i8 3,.int .i8 9,.int .i8 6,.int .i8 7,.int .i8 8,.int .i8 10]) 1 (.int .i8 9) rfl,tC (aH h2),tT,tT,.get ([.int .i8 3,.int .i8 9,.int .i8 6,.int .i8 7,.int .i8 8,.int .i8 10]) 2 (.int .i8 6) rfl,tC (aH h3),tT,tT,.get ([.int .i8 3,.int .i8 9,.int .i8 6,.int .i8 7,.int .i8 8,.int .i8 10]) 3 (.int .i8 7) rfl,tT,tT]) (by kernel_rfl)).to (by clear E1;first|(simp [wk,cI,h1,h2,h3];done)|(apply cr;unfold cI;symm;first|(rw [decide_eq_true_eq];simp only [beq_iff_eq,beq_eq_false_iff_ne,ne_eq] at*;omega)|(rw [decide_eq_false_iff_not];simp only [beq_iff_eq,beq_eq_false_iff_ne,ne_eq] at*;omega)))
  by_cases h5:n=8
  ·subst h5
   exact (G7 (d:= .bool true) (E1++ [.bO [(0,.box [.int .i8 1,.int .i8 8])],tT,tT,tT,.inl,.inl,.go 64,tT,tT,.get ([.int .i8 3,.int .i8 9,.int .i8 6,.int .i8 7,.int .i8 8,.int .i8 10]) 0 (.int .i8 3) rfl,tC (aH h1),tT,tT,.get ([.int .i8 3,.int .i8 9,.int .i8 6,.int .i8 7,.int .i8 8,.int .i8 10]) 1 (.int .i8 9) rfl,tC (aH h2),tT,tT,.get ([.int .i8 3,.int .i8 9,.int .i8 6,.int .i8 7,.int .i8 8,.int .i8 10]) 2 (.int .i8 6) rfl,tC (aH h3),tT,tT,.get ([.int .i8 3,.int .i8 9,.int .i8 6,.int .i8 7,.int .i8 8,.int .i8 10]) 3 (.int .i8 7) rfl,tC (aH h4),tT,tT,.get ([.int .i8 3,.int .i8 9,.int .i8 6,.int .i8 7,.int .i8 8,.int .i8 10]) 4 (.int .i8 8) rfl,tT,tT]) (by kernel_rfl)).to (by clear E1;first|(simp [wk,cI,h1,h2,h3,h4];done)|(apply cr;unfold cI;symm;first|(rw [decide_eq_true_eq];simp only [beq_iff_eq,beq_eq_false_iff_ne,ne_eq] at*;omega)|(rw [decide_eq_false_iff_not];simp only [beq_iff_eq,beq_eq_false_iff_ne,ne_eq] at*;omega)))
  by_cases h6:n=10
  ·subst h6
   exact (G7 (d:= .bool true) (E1++ [.bO [(0,.box [.int .i8 1,.int .i8 10])],tT,tT,tT,.inl,.inl,.go 64,tT,tT,.get ([.int .i8 3,.int .i8 9,.int .i8 6,.int .i8 7,.int .i8 8,.int .i8 10]) 0 (.int .i8 3) rfl,tC (aH h1),tT,tT,.get ([.int .i8 3,.int .i8 9,.int .i8 6,.int .i8 7,.int .i8 8,.int .i8 10]) 1 (.int .i8 9) rfl,tC (aH h2),tT,tT,.get ([.int .i8 3,.int .i8 9,.int .i8 6,.int .i8 7,.int .i8 8,.int .i8 10]) 2 (.int .i8 6) rfl,tC (aH h3),tT,tT,.get ([.int .i8 3,.int .i8 9,.int .i8 6,.int .i8 7,.int .i8 8,.int .i8 10]) 3 (.int .i8 7) rfl,tC (aH h4),tT,tT,.get ([.int .i8 3,.int .i8 9,.int .i8 6,.int .i8 7,.int .i8 8,.int .i8 10]) 4 (.int .i8 8) rfl,tC (aH h5),tT,tT,.get ([.int .i8 3,.int .i8 9,.int .i8 6,.int .i8 7,.int .i8 8,.int .i8 10]) 5 (.int .i8 10) rfl,tT,tT]) (by kernel_rfl)).to (by clear E1;first|(simp [wk,cI,h1,h2,h3,h4,h5];done)|(apply cr;unfold cI;symm;first|(rw [decide_eq_true_eq];simp only [beq_iff_eq,beq_eq_false_iff_ne,ne_eq] at*;omega)|(rw [decide_eq_false_iff_not];simp only [beq_iff_eq,beq_eq_false_iff_ne,ne_eq] at*;omega)))
  exact (G7 (d:= .bool false) (E1++ [.bO [(0,.box [.int .i8 1,.int .i8 n])],tT,tT,tT,.inl,.inl,.go 64,tT,tT,.get ([.int .i8 3,.int .i8 9,.int .i8 6,.int .i8 7,.int .i8 8,.int .i8 10]) 0 (.int .i8 3) rfl,tC (aH h1),tT,tT,.get ([.int .i8 3,.int .i8 9,.int .i8 6,.int .i8 7,.int .i8 8,.int .i8 10]) 1 (.int .i8 9) rfl,tC (aH h2),tT,tT,.get ([.int .i8 3,.int .i8 9,.int .i8 6,.int .i8 7,.int .i8 8,.int .i8 10]) 2 (.int .i8 6) rfl,tC (aH h3),tT,tT,.get ([.int .i8 3,.int .i8 9,.int .i8 6,.int .i8 7,.int .i8 8,.int .i8 10]) 3 (.int .i8 7) rfl,tC (aH h4),tT,tT,.get ([.int .i8 3,.int .i8 9,.int .i8 6,.int .i8 7,.int .i8 8,.int .i8 10]) 4 (.int .i8 8) rfl,tC (aH h5),tT,tT,.get ([.int .i8 3,.int .i8 9,.int .i8 6,.int .i8 7,.int .i8 8,.int .i8 10]) 5 (.int .i8 10) rfl,tC (aH h6),tF,tT]) (by kernel_rfl)).to (by clear E1;first|(simp [wk,cI,h1,h2,h3,h4,h5,h6];done)|(apply cr;unfold cI;symm;first|(rw [decide_eq_true_eq];simp only [beq_iff_eq,beq_eq_false_iff_ne,ne_eq] at*;omega)|(rw [decide_eq_false_iff_not];simp only [beq_iff_eq,beq_eq_false_iff_ne,ne_eq] at*;omega)))
 exact (G7 (d:= .bool false) (Vt 5 (tC (eT (aH h0)))++ [tC (aH h0)]) (by kernel_rfl)).to (by first|(simp [wk,cI,h0];done)|(apply cr;unfold cI;symm;first|(rw [decide_eq_true_eq];simp only [beq_iff_eq,beq_eq_false_iff_ne,ne_eq] at*;omega)|(rw [decide_eq_false_iff_not];simp only [beq_iff_eq,beq_eq_false_iff_ne,ne_eq] at*;omega)))
theorem uU (n:Int):aJ Tryz.prog 53 ([.bool false,.int .i8 n]) (.bool (cI 1 n)):=by
 let E1:EL:= [.inl,tF,.go 64,tT,tT,.get ([.int .i8 3,.int .i8 9,.int .i8 6,.int .i8 7,.int .i8 8,.int .i8 10]) 0 (.int .i8 3) rfl]
 rcases cm (3==n) with h0|h0
 ·exact (Ie (d:= .bool true) (E1++ [tC h0]) (by kernel_rfl)).to (by clear E1;apply cr;unfold cI;(try simp only [beq_iff_eq,beq_eq_false_iff_ne,ne_eq] at*);symm;first|exact decide_eq_true ⟨trivial,by omega⟩|exact decide_eq_false (fun q=>by have:=q.2;omega))
 let E2:EL:=E1++ [tC h0,tT,tT,.get ([.int .i8 3,.int .i8 9,.int .i8 6,.int .i8 7,.int .i8 8,.int .i8 10]) 1 (.int .i8 9) rfl]
 rcases cm (9==n) with h1|h1
 ·exact (Ie (d:= .bool true) (E2++ [tC h1]) (by kernel_rfl)).to (by clear E1 E2;apply cr;unfold cI;(try simp only [beq_iff_eq,beq_eq_false_iff_ne,ne_eq] at*);symm;first|exact decide_eq_true ⟨trivial,by omega⟩|exact decide_eq_false (fun q=>by have:=q.2;omega))
 let E3:EL:=E2++ [tC h1,tT,tT,.get ([.int .i8 3,.int .i8 9,.int .i8 6,.int .i8 7,.int .i8 8,.int .i8 10]) 2 (.int .i8 6) rfl]
 rcases cm (6==n) with h2|h2
 ·exact (Ie (d:= .bool true) (E3++ [tC h2]) (by kernel_rfl)).to (by clear E1 E2 E3;apply cr;unfold cI;(try simp only [beq_iff_eq,beq_eq_false_iff_ne,ne_eq] at*);symm;first|exact decide_eq_true ⟨trivial,by omega⟩|exact decide_eq_false (fun q=>by have:=q.2;omega))
 let E4:EL:=E3++ [tC h2,tT,tT,.get ([.int .i8 3,.int .i8 9,.int .i8 6,.int .i8 7,.int .i8 8,.int .i8 10]) 3 (.int .i8 7) rfl]
 rcases cm (7==n) with h3|h3
 ·exact (Ie (d:= .bool true) (E4++ [tC h3]) (by kernel_rfl)).to (by clear E1 E2 E3 E4;apply cr;unfold cI;(try simp only [beq_iff_eq,beq_eq_false_iff_ne,ne_eq] at*);symm;first|exact decide_eq_true ⟨trivial,by omega⟩|exact decide_eq_false (fun q=>by have:=q.2;omega))
 let E5:EL:=E4++ [tC h3,tT,tT,.get ([.int .i8 3,.int .i8 9,.int .i8 6,.int .i8 7,.int .i8 8,.int .i8 10]) 4 (.int .i8 8) rfl]
 rcases cm (8==n) with h4|h4
 ·exact (Ie (d:= .bool true) (E5++ [tC h4]) (by kernel_rfl)).to (by clear E1 E2 E3 E4 E5;apply cr;unfold cI;(try simp only [beq_iff_eq,beq_eq_false_iff_ne,ne_eq] at*);symm;first|exact decide_eq_true ⟨trivial,by omega⟩|exact decide_eq_false (fun q=>by have:=q.2;omega))
 let E6:EL:=E5++ [tC h4,tT,tT,.get ([.int .i8 3,.int .i8 9,.int .i8 6,.int .i8 7,.int .i8 8,.int .i8 10]) 5 (.int .i8 10) rfl]
 rcases cm (10==n) with h5|h5
 ·exact (Ie (d:= .bool true) (E6++ [tC h5]) (by kernel_rfl)).to (by clear E1 E2 E3 E4 E5 E6;apply cr;unfold cI;(try simp only [beq_iff_eq,beq_eq_false_iff_ne,ne_eq] at*);symm;first|exact decide_eq_true ⟨trivial,by omega⟩|exact decide_eq_false (fun q=>by have:=q.2;omega))
 exact (Ie (d:= .bool false) (E6++ [tC h5,tF]) (by kernel_rfl)).to (by clear E1 E2 E3 E4 E5 E6;apply cr;unfold cI;(try simp only [beq_iff_eq,beq_eq_false_iff_ne,ne_eq] at*);symm;first|exact decide_eq_true ⟨trivial,by omega⟩|exact decide_eq_false (fun q=>by have:=q.2;omega))
theorem F8 (p:ae):ak Tryz.prog (aC Tryz.f28 0) ⟨[2],[],[]⟩ 1 (uu::uu::uu::uu::uu:: .agg (aP p):: .int .i64 11::un 27) [.dead] (.exit 0) (un 34) ([.dead]):=by
 exact (ak.ao (sp:=⟨[2],[],[]⟩) (n0:=1) (ex:=Ex.exit (0:Nat)) (t':=(un 34)) (s':= [.dead]) mixed [tF] (by kernel_rfl)).cast (by rfl) (by rfl)
theorem F5 (p:ae) (i:Nat) (i1:(i:Int)≤10) (ha:(p.k (i:Int)==0)=true) (hb:(p.n (i:Int)==0)=true):ak Tryz.prog (aC Tryz.f28 0) ⟨[5,6],[],[]⟩ 1 (uu::uu::uu::uu::uu:: .agg (aP p):: .int .i64 (↑i:Int)::un 27) [.dead] .norm (uu::uu::uu::uu::uu:: .agg (aP p):: .int .i64 (W3.i64.wrap ((↑i:Int)+1))::un 27) ([.dead]):=by
 exact (ak.ao (sp:=⟨[5,6],[],[]⟩) (n0:=1) (ex:=Ex.norm) (t':=(uu::uu::uu::uu::uu:: .agg (aP p):: .int .i64 (W3.i64.wrap ((↑i:Int)+1))::un 27)) (s':= [.dead]) mixed ([tC (decide_eq_true (Vz i1)),.dM (decide (0≤(↑i:Int)∧(↑i:Int)<(↑(11:Nat):Int))) true (by ((try simp only [bm] at*);(try unfold bn at*);omega)),.bc _ _ _ _ (@kj p ((↑i:Int)) ([]) (by ((try simp only [bm] at*);(try unfold bn at*);omega)) i1),.flat _ _ bQ]++Vt 3 (tC (eT (nt (aD (bS 0 true (eq_of_beq ha)) (aD (bS 0 true (eq_of_beq hb)) (rfl:true=true))))))++ [tC (nt (aD (bS 0 true (eq_of_beq ha)) (aD (bS 0 true (eq_of_beq hb)) (rfl:true=true))))]++Vt 10 tF) (by kernel_rfl)).cast (by rfl) (by rfl)
theorem F7 (p:ae) (i:Nat) (i1:(i:Int)≤10) (ha:(p.k (i:Int)==1)=true) (hb:cI (p.k (i:Int)) (p.n (i:Int))=true):ak Tryz.prog (aC Tryz.f28 0) ⟨[5,6],[],[]⟩ 1 (uu::uu::uu::uu::uu:: .agg (aP p):: .int .i64 (↑i:Int)::un 27) [.dead] .norm (uu::uu::uu::uu::uu:: .agg (aP p):: .int .i64 (W3.i64.wrap ((↑i:Int)+1))::un 27) ([.dead]):=by
 have c0:= @iX (ae.k p (↑i:Int)) (ae.n p (↑i:Int))
 exact (ak.ao (sp:=⟨[5,6],[],[]⟩) (n0:=1) (ex:=Ex.norm) (t':=(uu::uu::uu::uu::uu:: .agg (aP p):: .int .i64 (W3.i64.wrap ((↑i:Int)+1))::un 27)) (s':= [.dead]) mixed ([tC (decide_eq_true (Vz i1)),.dM (decide (0≤(↑i:Int)∧(↑i:Int)<(↑(11:Nat):Int))) true (by ((try simp only [bm] at*);(try unfold bn at*);omega)),.bc _ _ _ _ (@kj p ((↑i:Int)) ([]) (by ((try simp only [bm] at*);(try unfold bn at*);omega)) i1),.flat _ _ bQ,tC (eT (nt (bu (y:=aa [.int .i8 (ae.n p (↑i:Int))] [.int .i8 0]) (bS 0 false (eq_of_beq ha))))),tC (eT (nt (bu (y:=aa [.int .i8 (ae.n p (↑i:Int))] [.int .i8 0]) (bS 0 false (eq_of_beq ha))))),.ret _ _ _ c0,tC (eT (nt (bu (y:=aa [.int .i8 (ae.n p (↑i:Int))] [.int .i8 0]) (bS 0 false (eq_of_beq ha))))),tC (nt (bu (y:=aa [.int .i8 (ae.n p (↑i:Int))] [.int .i8 0]) (bS 0 false (eq_of_beq ha))))]++Vt 8 (tC (eT (nt hb)))++ [tC (nt hb),tF]) (by kernel_rfl)).cast (by rfl) (by rfl)
theorem F6 (p:ae) (i:Nat) (i1:(i:Int)≤10) (ha:(p.k (i:Int)==2)=true) (hb:cI (p.k (i:Int)) (p.n (i:Int))=false) (hc:0≤p.n (i:Int)) (hd:p.n (i:Int)<11):ak Tryz.prog (aC Tryz.f28 0) ⟨[5,6],[],[]⟩ 1 (uu::uu::uu::uu::uu:: .agg (aP p):: .int .i64 (↑i:Int)::un 27) [.dead] .norm (uu::uu::uu::uu::uu:: .agg (aP p):: .int .i64 (W3.i64.wrap ((↑i:Int)+1))::un 27) ([.dead]):=by
 have c0:= @iX (ae.k p (↑i:Int)) (ae.n p (↑i:Int))
 exact (ak.ao (sp:=⟨[5,6],[],[]⟩) (n0:=1) (ex:=Ex.norm) (t':=(uu::uu::uu::uu::uu:: .agg (aP p):: .int .i64 (W3.i64.wrap ((↑i:Int)+1))::un 27)) (s':= [.dead]) mixed ([tC (decide_eq_true (Vz i1)),.dM (decide (0≤(↑i:Int)∧(↑i:Int)<(↑(11:Nat):Int))) true (by ((try simp only [bm] at*);(try unfold bn at*);omega)),.bc _ _ _ _ (@kj p ((↑i:Int)) ([]) (by ((try simp only [bm] at*);(try unfold bn at*);omega)) i1),.flat _ _ bQ,tC (eT (nt (bu (y:=aa [.int .i8 (ae.n p (↑i:Int))] [.int .i8 0]) (bS 0 false (eq_of_beq ha))))),tC (eT (nt (bu (y:=aa [.int .i8 (ae.n p (↑i:Int))] [.int .i8 0]) (bS 0 false (eq_of_beq ha))))),.ret _ _ _ c0,tC (eT (nt (bu (y:=aa [.int .i8 (ae.n p (↑i:Int))] [.int .i8 0]) (bS 0 false (eq_of_beq ha))))),tC (nt (bu (y:=aa [.int .i8 (ae.n p (↑i:Int))] [.int .i8 0]) (bS 0 false (eq_of_beq ha))))]++Vt 4 (tC (eT (nt hb)))++Vt 3 (tC (eT (bS 2 true (eq_of_beq ha))))++ [tC (eT (nt hb)),tC (bS 2 true (eq_of_beq ha)),tC (eT (nt hb))]++Vt 3 (tC (eT (aK 0 (decide_eq_false (VH.2 hc)))))++ [tC (eT (nt hb)),tC (aK 0 (decide_eq_false (VH.2 hc))),tC (eT (nt hb)),tC (nt hb),tC (nt (decide_eq_true hd))]) (by kernel_rfl)).cast (by rfl) (by rfl)
theorem JT (p:ae) (i:Nat) (i1:(i:Int)≤10) (ha:(p.k (i:Int)==0)=true) (hb:(p.n (i:Int)==0)=false) (hc:cI (p.k (i:Int)) (p.n (i:Int))=false):ak Tryz.prog (aC Tryz.f28 0) ⟨[2],[],[]⟩ 1 (uu::uu::uu::uu::uu:: .agg (aP p):: .int .i64 (↑i:Int)::un 27) [.dead] (Ex.ret) (uu::uu:: .bool false::un 31) ([.dead]):=by
 have c0:= @iX (ae.k p (↑i:Int)) (ae.n p (↑i:Int))
 exact (ak.ao (sp:=⟨[2],[],[]⟩) (n0:=1) (ex:=Ex.ret) (t':=(uu::uu:: .bool false::un 31)) (s':= [.dead]) mixed ([tC (decide_eq_true (Vz i1)),.dM (decide (0≤(↑i:Int)∧(↑i:Int)<(↑(11:Nat):Int))) true (by ((try simp only [bm] at*);(try unfold bn at*);omega)),.bc _ _ _ _ (@kj p ((↑i:Int)) ([]) (by ((try simp only [bm] at*);(try unfold bn at*);omega)) i1),.flat _ _ bQ,tC (eT (nt (aD (bS 0 true (eq_of_beq ha)) (bu (y:=true) hb)))),tC (eT (nt (aD (bS 0 true (eq_of_beq ha)) (bu (y:=true) hb)))),.ret _ _ _ c0,tC (eT (nt (aD (bS 0 true (eq_of_beq ha)) (bu (y:=true) hb)))),tC (nt (aD (bS 0 true (eq_of_beq ha)) (bu (y:=true) hb)))]++Vt 4 (tC (eT (nt hc)))++Vt 3 (tC (eT (bS 2 false (eq_of_beq ha))))++ [tC (eT (nt hc)),tC (bS 2 false (eq_of_beq ha)),tC (eT (nt hc)),tF,tF,tF,tC (eT (nt hc)),tF,tC (eT (nt hc)),tC (nt hc),tT]) (by kernel_rfl)).cast (by rfl) (by rfl)
theorem JS (p:ae) (i:Nat) (i1:(i:Int)≤10) (ha:(p.k (i:Int)==1)=true) (hb:cI (p.k (i:Int)) (p.n (i:Int))=false):ak Tryz.prog (aC Tryz.f28 0) ⟨[2],[],[]⟩ 1 (uu::uu::uu::uu::uu:: .agg (aP p):: .int .i64 (↑i:Int)::un 27) [.dead] (Ex.ret) (uu::uu:: .bool false::un 31) ([.dead]):=by
 have c0:= @iX (ae.k p (↑i:Int)) (ae.n p (↑i:Int))
 exact (ak.ao (sp:=⟨[2],[],[]⟩) (n0:=1) (ex:=Ex.ret) (t':=(uu::uu:: .bool false::un 31)) (s':= [.dead]) mixed ([tC (decide_eq_true (Vz i1)),.dM (decide (0≤(↑i:Int)∧(↑i:Int)<(↑(11:Nat):Int))) true (by ((try simp only [bm] at*);(try unfold bn at*);omega)),.bc _ _ _ _ (@kj p ((↑i:Int)) ([]) (by ((try simp only [bm] at*);(try unfold bn at*);omega)) i1),.flat _ _ bQ,tC (eT (nt (bu (y:=aa [.int .i8 (ae.n p (↑i:Int))] [.int .i8 0]) (bS 0 false (eq_of_beq ha))))),tC (eT (nt (bu (y:=aa [.int .i8 (ae.n p (↑i:Int))] [.int .i8 0]) (bS 0 false (eq_of_beq ha))))),.ret _ _ _ c0,tC (eT (nt (bu (y:=aa [.int .i8 (ae.n p (↑i:Int))] [.int .i8 0]) (bS 0 false (eq_of_beq ha))))),tC (nt (bu (y:=aa [.int .i8 (ae.n p (↑i:Int))] [.int .i8 0]) (bS 0 false (eq_of_beq ha))))]++Vt 4 (tC (eT (nt hb)))++Vt 3 (tC (eT (bS 2 false (eq_of_beq ha))))++ [tC (eT (nt hb)),tC (bS 2 false (eq_of_beq ha)),tC (eT (nt hb)),tF,tF,tF,tC (eT (nt hb)),tF,tC (eT (nt hb)),tC (nt hb),tT]) (by kernel_rfl)).cast (by rfl) (by rfl)
theorem JR (p:ae) (i:Nat) (i1:(i:Int)≤10) (ha:(p.k (i:Int)==2)=true) (hb:cI (p.k (i:Int)) (p.n (i:Int))=false) (hc:p.n (i:Int)<0):ak Tryz.prog (aC Tryz.f28 0) ⟨[2],[],[]⟩ 1 (uu::uu::uu::uu::uu:: .agg (aP p):: .int .i64 (↑i:Int)::un 27) [.dead] (Ex.ret) (uu::uu:: .bool false::un 31) ([.dead]):=by
 have c0:= @iX (ae.k p (↑i:Int)) (ae.n p (↑i:Int))
 exact (ak.ao (sp:=⟨[2],[],[]⟩) (n0:=1) (ex:=Ex.ret) (t':=(uu::uu:: .bool false::un 31)) (s':= [.dead]) mixed ([tC (decide_eq_true (Vz i1)),.dM (decide (0≤(↑i:Int)∧(↑i:Int)<(↑(11:Nat):Int))) true (by ((try simp only [bm] at*);(try unfold bn at*);omega)),.bc _ _ _ _ (@kj p ((↑i:Int)) ([]) (by ((try simp only [bm] at*);(try unfold bn at*);omega)) i1),.flat _ _ bQ,tC (eT (nt (bu (y:=aa [.int .i8 (ae.n p (↑i:Int))] [.int .i8 0]) (bS 0 false (eq_of_beq ha))))),tC (eT (nt (bu (y:=aa [.int .i8 (ae.n p (↑i:Int))] [.int .i8 0]) (bS 0 false (eq_of_beq ha))))),.ret _ _ _ c0,tC (eT (nt (bu (y:=aa [.int .i8 (ae.n p (↑i:Int))] [.int .i8 0]) (bS 0 false (eq_of_beq ha))))),tC (nt (bu (y:=aa [.int .i8 (ae.n p (↑i:Int))] [.int .i8 0]) (bS 0 false (eq_of_beq ha))))]++Vt 4 (tC (eT (nt hb)))++Vt 3 (tC (eT (bS 2 true (eq_of_beq ha))))++ [tC (eT (nt hb)),tC (bS 2 true (eq_of_beq ha)),tC (eT (nt hb))]++Vt 3 (tC (eT (aK 0 (decide_eq_true hc))))++ [tC (eT (nt hb)),tC (aK 0 (decide_eq_true hc)),tC (eT (nt hb)),tC (nt hb),tT]) (by kernel_rfl)).cast (by rfl) (by rfl)
theorem JQ (p:ae) (i:Nat) (i1:(i:Int)≤10) (ha:(p.k (i:Int)==2)=true) (hb:cI (p.k (i:Int)) (p.n (i:Int))=false) (hc:11≤p.n (i:Int)):ak Tryz.prog (aC Tryz.f28 0) ⟨[2],[],[]⟩ 1 (uu::uu::uu::uu::uu:: .agg (aP p):: .int .i64 (↑i:Int)::un 27) [.dead] (Ex.ret) (uu::uu:: .bool false::un 31) ([.dead]):=by
 have c0:= @iX (ae.k p (↑i:Int)) (ae.n p (↑i:Int))
 exact (ak.ao (sp:=⟨[2],[],[]⟩) (n0:=1) (ex:=Ex.ret) (t':=(uu::uu:: .bool false::un 31)) (s':= [.dead]) mixed ([tC (decide_eq_true (Vz i1)),.dM (decide (0≤(↑i:Int)∧(↑i:Int)<(↑(11:Nat):Int))) true (by ((try simp only [bm] at*);(try unfold bn at*);omega)),.bc _ _ _ _ (@kj p ((↑i:Int)) ([]) (by ((try simp only [bm] at*);(try unfold bn at*);omega)) i1),.flat _ _ bQ,tC (eT (nt (bu (y:=aa [.int .i8 (ae.n p (↑i:Int))] [.int .i8 0]) (bS 0 false (eq_of_beq ha))))),tC (eT (nt (bu (y:=aa [.int .i8 (ae.n p (↑i:Int))] [.int .i8 0]) (bS 0 false (eq_of_beq ha))))),.ret _ _ _ c0,tC (eT (nt (bu (y:=aa [.int .i8 (ae.n p (↑i:Int))] [.int .i8 0]) (bS 0 false (eq_of_beq ha))))),tC (nt (bu (y:=aa [.int .i8 (ae.n p (↑i:Int))] [.int .i8 0]) (bS 0 false (eq_of_beq ha))))]++Vt 4 (tC (eT (nt hb)))++Vt 3 (tC (eT (bS 2 true (eq_of_beq ha))))++ [tC (eT (nt hb)),tC (bS 2 true (eq_of_beq ha)),tC (eT (nt hb))]++Vt 3 (tC (eT (aK 0 (mE 0 (decide_eq_false (VH.2 hc))))))++ [tC (eT (nt hb)),tC (aK 0 (mE 0 (decide_eq_false (VH.2 hc)))),tC (eT (nt hb)),tC (nt hb),tC (nt (decide_eq_false (VH.2 hc)))]) (by kernel_rfl)).cast (by rfl) (by rfl)
theorem JP (p:ae) (i:Nat) (i1:(i:Int)≤10) (ha:(p.k (i:Int)==0)=false) (hb:(p.k (i:Int)==2)=false) (hc:cI (p.k (i:Int)) (p.n (i:Int))=false):ak Tryz.prog (aC Tryz.f28 0) ⟨[2],[],[]⟩ 1 (uu::uu::uu::uu::uu:: .agg (aP p):: .int .i64 (↑i:Int)::un 27) [.dead] (Ex.ret) (uu::uu:: .bool false::un 31) ([.dead]):=by
 have c0:= @iX (ae.k p (↑i:Int)) (ae.n p (↑i:Int))
 exact (ak.ao (sp:=⟨[2],[],[]⟩) (n0:=1) (ex:=Ex.ret) (t':=(uu::uu:: .bool false::un 31)) (s':= [.dead]) mixed ([tC (decide_eq_true (Vz i1)),.dM (decide (0≤(↑i:Int)∧(↑i:Int)<(↑(11:Nat):Int))) true (by ((try simp only [bm] at*);(try unfold bn at*);omega)),.bc _ _ _ _ (@kj p ((↑i:Int)) ([]) (by ((try simp only [bm] at*);(try unfold bn at*);omega)) i1),.flat _ _ bQ,tC (eT (nt (bu (y:=aa [.int .i8 (ae.n p (↑i:Int))] [.int .i8 0]) ha))),tC (eT (nt (bu (y:=aa [.int .i8 (ae.n p (↑i:Int))] [.int .i8 0]) ha))),.ret _ _ _ c0,tC (eT (nt (bu (y:=aa [.int .i8 (ae.n p (↑i:Int))] [.int .i8 0]) ha))),tC (nt (bu (y:=aa [.int .i8 (ae.n p (↑i:Int))] [.int .i8 0]) ha))]++Vt 4 (tC (eT (nt hc)))++ [tC (eT hb),tC (eT hb),tC (eT hb),tC (eT (nt hc)),tC hb,tC (eT (nt hc)),tF,tF,tF,tC (eT (nt hc)),tF,tC (eT (nt hc)),tC (nt hc),tT]) (by kernel_rfl)).cast (by rfl) (by rfl)
theorem FB (p:ae):ak Tryz.prog (aC Tryz.f23 0) ⟨[2],[0],[]⟩ 1 (uu:: .ptr false 0 0::uu:: .int .i64 11::un 38) [.box (aP p)] (.exit 0) (un 42) ([.box (aP p)]):=by
 exact (ak.ao (sp:=⟨[2],[0],[]⟩) (n0:=1) (ex:=Ex.exit (0:Nat)) (t':=(un 42)) (s':= [.box (aP p)]) mixed [tF] (by kernel_rfl)).cast (by rfl) (by rfl)
theorem Fy (p:ae) (i:Nat) (i1:(i:Int)≤10) (ha:(p.k (i:Int)==0)=true) (hb:(p.n (i:Int)==0)=true):ak Tryz.prog (aC Tryz.f23 0) ⟨[1,3],[0],[]⟩ 1 (uu:: .ptr false 0 0::uu:: .int .i64 (↑i:Int)::un 38) [.box (aP p)] .norm (uu:: .ptr false 0 0::uu:: .int .i64 (W3.i64.wrap ((↑i:Int)+1))::un 38) ([.box (aP p)]):=by
 exact (ak.ao (sp:=⟨[1,3],[0],[]⟩) (n0:=1) (ex:=Ex.norm) (t':=(uu:: .ptr false 0 0::uu:: .int .i64 (W3.i64.wrap ((↑i:Int)+1))::un 38)) (s':= [.box (aP p)]) mixed ([tC (decide_eq_true (Vz i1)),.dM (decide (0≤(↑i:Int)∧(↑i:Int)<(↑(11:Nat):Int))) true (by ((try simp only [bm] at*);(try unfold bn at*);omega)),.bc _ _ _ _ (@gT p ((↑i:Int)) ([]) (by ((try simp only [bm] at*);(try unfold bn at*);omega)) i1),.flat _ _ bQ]++Vt 6 (tC (eT (nt (aD (bS 0 true (eq_of_beq ha)) (aD (bS 0 true (eq_of_beq hb)) (rfl:true=true))))))++ [tC (nt (aD (bS 0 true (eq_of_beq ha)) (aD (bS 0 true (eq_of_beq hb)) (rfl:true=true))))]++Vt 10 tF) (by kernel_rfl)).cast (by rfl) (by rfl)
theorem FA (p:ae) (i:Nat) (i1:(i:Int)≤10) (ha:(p.k (i:Int)==1)=true) (hb:cI 1 (p.n (i:Int))=true):ak Tryz.prog (aC Tryz.f23 0) ⟨[1,3],[0],[]⟩ 1 (uu:: .ptr false 0 0::uu:: .int .i64 (↑i:Int)::un 38) [.box (aP p)] .norm (uu:: .ptr false 0 0::uu:: .int .i64 (W3.i64.wrap ((↑i:Int)+1))::un 38) ([.box (aP p)]):=by
 have c0:= @uU (ae.n p (↑i:Int))
 exact (ak.ao (sp:=⟨[1,3],[0],[]⟩) (n0:=1) (ex:=Ex.norm) (t':=(uu:: .ptr false 0 0::uu:: .int .i64 (W3.i64.wrap ((↑i:Int)+1))::un 38)) (s':= [.box (aP p)]) mixed ([tC (decide_eq_true (Vz i1)),.dM (decide (0≤(↑i:Int)∧(↑i:Int)<(↑(11:Nat):Int))) true (by ((try simp only [bm] at*);(try unfold bn at*);omega)),.bc _ _ _ _ (@gT p ((↑i:Int)) ([]) (by ((try simp only [bm] at*);(try unfold bn at*);omega)) i1),.flat _ _ bQ]++Vt 4 (tC (eT (nt (bu (y:=aa [.int .i8 (ae.n p (↑i:Int))] [.int .i8 0]) (bS 0 false (eq_of_beq ha))))))++Vt 3 (tC (eT (bS 1 true (eq_of_beq ha))))++ [.ret _ _ _ c0,tC (eT (nt (bu (y:=aa [.int .i8 (ae.n p (↑i:Int))] [.int .i8 0]) (bS 0 false (eq_of_beq ha))))),tC (bS 1 true (eq_of_beq ha)),tC (eT (nt (bu (y:=aa [.int .i8 (ae.n p (↑i:Int))] [.int .i8 0]) (bS 0 false (eq_of_beq ha))))),tC (nt (bu (y:=aa [.int .i8 (ae.n p (↑i:Int))] [.int .i8 0]) (bS 0 false (eq_of_beq ha))))]++Vt 8 (tC (eT (nt hb)))++ [tC (nt hb),tF]) (by kernel_rfl)).cast (by rfl) (by rfl)
theorem Fz (p:ae) (i:Nat) (i1:(i:Int)≤10) (ha:(p.k (i:Int)==2)=true) (hc:0≤p.n (i:Int)) (hd:p.n (i:Int)<11):ak Tryz.prog (aC Tryz.f23 0) ⟨[1,3],[0],[]⟩ 1 (uu:: .ptr false 0 0::uu:: .int .i64 (↑i:Int)::un 38) [.box (aP p)] .norm (uu:: .ptr false 0 0::uu:: .int .i64 (W3.i64.wrap ((↑i:Int)+1))::un 38) ([.box (aP p)]):=by
 exact (ak.ao (sp:=⟨[1,3],[0],[]⟩) (n0:=1) (ex:=Ex.norm) (t':=(uu:: .ptr false 0 0::uu:: .int .i64 (W3.i64.wrap ((↑i:Int)+1))::un 38)) (s':= [.box (aP p)]) mixed ([tC (decide_eq_true (Vz i1)),.dM (decide (0≤(↑i:Int)∧(↑i:Int)<(↑(11:Nat):Int))) true (by ((try simp only [bm] at*);(try unfold bn at*);omega)),.bc _ _ _ _ (@gT p ((↑i:Int)) ([]) (by ((try simp only [bm] at*);(try unfold bn at*);omega)) i1),.flat _ _ bQ]++Vt 4 (tC (eT (nt (bu (y:=aa [.int .i8 (ae.n p (↑i:Int))] [.int .i8 0]) (bS 0 false (eq_of_beq ha))))))++Vt 3 (tC (eT (bS 1 false (eq_of_beq ha))))++ [tC (eT (nt (bu (y:=aa [.int .i8 (ae.n p (↑i:Int))] [.int .i8 0]) (bS 0 false (eq_of_beq ha))))),tC (bS 1 false (eq_of_beq ha)),tC (eT (nt (bu (y:=aa [.int .i8 (ae.n p (↑i:Int))] [.int .i8 0]) (bS 0 false (eq_of_beq ha))))),tC (nt (bu (y:=aa [.int .i8 (ae.n p (↑i:Int))] [.int .i8 0]) (bS 0 false (eq_of_beq ha)))),tT,tT,tT,tT]++Vt 3 (tC (eT (bS 2 true (eq_of_beq ha))))++ [tT,tC (bS 2 true (eq_of_beq ha)),tT]++Vt 3 (tC (eT (aK 0 (decide_eq_false (VH.2 hc)))))++ [tT,tC (aK 0 (decide_eq_false (VH.2 hc))),tT,tT,tC (nt (decide_eq_true hd))]) (by kernel_rfl)).cast (by rfl) (by rfl)
theorem Jx (p:ae) (i:Nat) (i1:(i:Int)≤10) (ha:(p.k (i:Int)==0)=true) (hb:(p.n (i:Int)==0)=false):ak Tryz.prog (aC Tryz.f23 0) ⟨[2],[0],[]⟩ 1 (uu:: .ptr false 0 0::uu:: .int .i64 (↑i:Int)::un 38) [.box (aP p)] (Ex.ret) (uu::uu:: .bool false::un 39) ([.box (aP p)]):=by
 exact (ak.ao (sp:=⟨[2],[0],[]⟩) (n0:=1) (ex:=Ex.ret) (t':=(uu::uu:: .bool false::un 39)) (s':= [.box (aP p)]) mixed ([tC (decide_eq_true (Vz i1)),.dM (decide (0≤(↑i:Int)∧(↑i:Int)<(↑(11:Nat):Int))) true (by ((try simp only [bm] at*);(try unfold bn at*);omega)),.bc _ _ _ _ (@gT p ((↑i:Int)) ([]) (by ((try simp only [bm] at*);(try unfold bn at*);omega)) i1),.flat _ _ bQ]++Vt 4 (tC (eT (nt (aD (bS 0 true (eq_of_beq ha)) (bu (y:=true) hb)))))++Vt 3 (tC (eT (bS 1 false (eq_of_beq ha))))++ [tC (eT (nt (aD (bS 0 true (eq_of_beq ha)) (bu (y:=true) hb)))),tC (bS 1 false (eq_of_beq ha)),tC (eT (nt (aD (bS 0 true (eq_of_beq ha)) (bu (y:=true) hb)))),tC (nt (aD (bS 0 true (eq_of_beq ha)) (bu (y:=true) hb))),tT,tT,tT,tT]++Vt 3 (tC (eT (bS 2 false (eq_of_beq ha))))++ [tT,tC (bS 2 false (eq_of_beq ha)),tT,tF,tF,tF,tT,tF,tT,tT,tT]) (by kernel_rfl)).cast (by rfl) (by rfl)
theorem Jw (p:ae) (i:Nat) (i1:(i:Int)≤10) (ha:(p.k (i:Int)==1)=true) (hb:cI 1 (p.n (i:Int))=false):ak Tryz.prog (aC Tryz.f23 0) ⟨[2],[0],[]⟩ 1 (uu:: .ptr false 0 0::uu:: .int .i64 (↑i:Int)::un 38) [.box (aP p)] (Ex.ret) (uu::uu:: .bool false::un 39) ([.box (aP p)]):=by
 have c0:= @uU (ae.n p (↑i:Int))
 exact (ak.ao (sp:=⟨[2],[0],[]⟩) (n0:=1) (ex:=Ex.ret) (t':=(uu::uu:: .bool false::un 39)) (s':= [.box (aP p)]) mixed ([tC (decide_eq_true (Vz i1)),.dM (decide (0≤(↑i:Int)∧(↑i:Int)<(↑(11:Nat):Int))) true (by ((try simp only [bm] at*);(try unfold bn at*);omega)),.bc _ _ _ _ (@gT p ((↑i:Int)) ([]) (by ((try simp only [bm] at*);(try unfold bn at*);omega)) i1),.flat _ _ bQ]++Vt 4 (tC (eT (nt (bu (y:=aa [.int .i8 (ae.n p (↑i:Int))] [.int .i8 0]) (bS 0 false (eq_of_beq ha))))))++Vt 3 (tC (eT (bS 1 true (eq_of_beq ha))))++ [.ret _ _ _ c0,tC (eT (nt (bu (y:=aa [.int .i8 (ae.n p (↑i:Int))] [.int .i8 0]) (bS 0 false (eq_of_beq ha))))),tC (bS 1 true (eq_of_beq ha)),tC (eT (nt (bu (y:=aa [.int .i8 (ae.n p (↑i:Int))] [.int .i8 0]) (bS 0 false (eq_of_beq ha))))),tC (nt (bu (y:=aa [.int .i8 (ae.n p (↑i:Int))] [.int .i8 0]) (bS 0 false (eq_of_beq ha))))]++Vt 4 (tC (eT (nt hb)))++Vt 3 (tC (eT (bS 2 false (eq_of_beq ha))))++ [tC (eT (nt hb)),tC (bS 2 false (eq_of_beq ha)),tC (eT (nt hb)),tF,tF,tF,tC (eT (nt hb)),tF,tC (eT (nt hb)),tC (nt hb),tT]) (by kernel_rfl)).cast (by rfl) (by rfl)
theorem Jv (p:ae) (i:Nat) (i1:(i:Int)≤10) (ha:(p.k (i:Int)==2)=true) (hc:p.n (i:Int)<0):ak Tryz.prog (aC Tryz.f23 0) ⟨[2],[0],[]⟩ 1 (uu:: .ptr false 0 0::uu:: .int .i64 (↑i:Int)::un 38) [.box (aP p)] (Ex.ret) (uu::uu:: .bool false::un 39) ([.box (aP p)]):=by
 exact (ak.ao (sp:=⟨[2],[0],[]⟩) (n0:=1) (ex:=Ex.ret) (t':=(uu::uu:: .bool false::un 39)) (s':= [.box (aP p)]) mixed ([tC (decide_eq_true (Vz i1)),.dM (decide (0≤(↑i:Int)∧(↑i:Int)<(↑(11:Nat):Int))) true (by ((try simp only [bm] at*);(try unfold bn at*);omega)),.bc _ _ _ _ (@gT p ((↑i:Int)) ([]) (by ((try simp only [bm] at*);(try unfold bn at*);omega)) i1),.flat _ _ bQ]++Vt 4 (tC (eT (nt (bu (y:=aa [.int .i8 (ae.n p (↑i:Int))] [.int .i8 0]) (bS 0 false (eq_of_beq ha))))))++Vt 3 (tC (eT (bS 1 false (eq_of_beq ha))))++ [tC (eT (nt (bu (y:=aa [.int .i8 (ae.n p (↑i:Int))] [.int .i8 0]) (bS 0 false (eq_of_beq ha))))),tC (bS 1 false (eq_of_beq ha)),tC (eT (nt (bu (y:=aa [.int .i8 (ae.n p (↑i:Int))] [.int .i8 0]) (bS 0 false (eq_of_beq ha))))),tC (nt (bu (y:=aa [.int .i8 (ae.n p (↑i:Int))] [.int .i8 0]) (bS 0 false (eq_of_beq ha)))),tT,tT,tT,tT]++Vt 3 (tC (eT (bS 2 true (eq_of_beq ha))))++ [tT,tC (bS 2 true (eq_of_beq ha)),tT]++Vt 3 (tC (eT (aK 0 (decide_eq_true hc))))++ [tT,tC (aK 0 (decide_eq_true hc)),tT,tT,tT]) (by kernel_rfl)).cast (by rfl) (by rfl)
theorem Ju (p:ae) (i:Nat) (i1:(i:Int)≤10) (ha:(p.k (i:Int)==2)=true) (hc:11≤p.n (i:Int)):ak Tryz.prog (aC Tryz.f23 0) ⟨[2],[0],[]⟩ 1 (uu:: .ptr false 0 0::uu:: .int .i64 (↑i:Int)::un 38) [.box (aP p)] (Ex.ret) (uu::uu:: .bool false::un 39) ([.box (aP p)]):=by
 exact (ak.ao (sp:=⟨[2],[0],[]⟩) (n0:=1) (ex:=Ex.ret) (t':=(uu::uu:: .bool false::un 39)) (s':= [.box (aP p)]) mixed ([tC (decide_eq_true (Vz i1)),.dM (decide (0≤(↑i:Int)∧(↑i:Int)<(↑(11:Nat):Int))) true (by ((try simp only [bm] at*);(try unfold bn at*);omega)),.bc _ _ _ _ (@gT p ((↑i:Int)) ([]) (by ((try simp only [bm] at*);(try unfold bn at*);omega)) i1),.flat _ _ bQ]++Vt 4 (tC (eT (nt (bu (y:=aa [.int .i8 (ae.n p (↑i:Int))] [.int .i8 0]) (bS 0 false (eq_of_beq ha))))))++Vt 3 (tC (eT (bS 1 false (eq_of_beq ha))))++ [tC (eT (nt (bu (y:=aa [.int .i8 (ae.n p (↑i:Int))] [.int .i8 0]) (bS 0 false (eq_of_beq ha))))),tC (bS 1 false (eq_of_beq ha)),tC (eT (nt (bu (y:=aa [.int .i8 (ae.n p (↑i:Int))] [.int .i8 0]) (bS 0 false (eq_of_beq ha))))),tC (nt (bu (y:=aa [.int .i8 (ae.n p (↑i:Int))] [.int .i8 0]) (bS 0 false (eq_of_beq ha)))),tT,tT,tT,tT]++Vt 3 (tC (eT (bS 2 true (eq_of_beq ha))))++ [tT,tC (bS 2 true (eq_of_beq ha)),tT]++Vt 3 (tC (eT (aK 0 (mE 0 (decide_eq_false (VH.2 hc))))))++ [tT,tC (aK 0 (mE 0 (decide_eq_false (VH.2 hc)))),tT,tT,tC (nt (decide_eq_false (VH.2 hc)))]) (by kernel_rfl)).cast (by rfl) (by rfl)
theorem Jt (p:ae) (i:Nat) (i1:(i:Int)≤10) (ha:(p.k (i:Int)==0)=false) (hb:(p.k (i:Int)==2)=false) (hc:(p.k (i:Int)==1)=false):ak Tryz.prog (aC Tryz.f23 0) ⟨[2],[0],[]⟩ 1 (uu:: .ptr false 0 0::uu:: .int .i64 (↑i:Int)::un 38) [.box (aP p)] (Ex.ret) (uu::uu:: .bool false::un 39) ([.box (aP p)]):=by
 exact (ak.ao (sp:=⟨[2],[0],[]⟩) (n0:=1) (ex:=Ex.ret) (t':=(uu::uu:: .bool false::un 39)) (s':= [.box (aP p)]) mixed ([tC (decide_eq_true (Vz i1)),.dM (decide (0≤(↑i:Int)∧(↑i:Int)<(↑(11:Nat):Int))) true (by ((try simp only [bm] at*);(try unfold bn at*);omega)),.bc _ _ _ _ (@gT p ((↑i:Int)) ([]) (by ((try simp only [bm] at*);(try unfold bn at*);omega)) i1),.flat _ _ bQ]++Vt 4 (tC (eT (nt (bu (y:=aa [.int .i8 (ae.n p (↑i:Int))] [.int .i8 0]) ha))))++ [tC (eT hc),tC (eT hc),tC (eT hc),tC (eT (nt (bu (y:=aa [.int .i8 (ae.n p (↑i:Int))] [.int .i8 0]) ha))),tC hc,tC (eT (nt (bu (y:=aa [.int .i8 (ae.n p (↑i:Int))] [.int .i8 0]) ha))),tC (nt (bu (y:=aa [.int .i8 (ae.n p (↑i:Int))] [.int .i8 0]) ha)),tT,tT,tT,tT,tC (eT hb),tC (eT hb),tC (eT hb),tT,tC hb,tT,tF,tF,tF,tT,tF,tT,tT,tT]) (by kernel_rfl)).cast (by rfl) (by rfl)
theorem Fm (p:ae) (m:Int):ak Tryz.prog (aC Tryz.f29 0) ⟨[3],[],[]⟩ 1 (uu::uu::uu:: .int .i64 m::uu::uu:: .agg (aP p):: .int .i64 11::un 13) [.dead] (.exit 0) (uu::uu::uu:: .int .i64 m::un 17) ([.dead]):=by
 exact (ak.ao (sp:=⟨[3],[],[]⟩) (n0:=1) (ex:=Ex.exit (0:Nat)) (t':=(uu::uu::uu:: .int .i64 m::un 17)) (s':= [.dead]) mixed [tF] (by kernel_rfl)).cast (by rfl) (by rfl)
theorem Fj (p:ae) (m:Int) (m0:0≤m) (m1:m≤11) (i:Nat) (i1:(i:Int)≤10) (ha:(p.k (i:Int)==2)=true) (hc:0≤p.n (i:Int)) (hd:p.n (i:Int)<11):ak Tryz.prog (aC Tryz.f29 0) ⟨[3,6,7],[],[]⟩ 1 (uu::uu::uu:: .int .i64 m::uu::uu:: .agg (aP p):: .int .i64 (↑i:Int)::un 13) [.dead] .norm (uu::uu::uu:: .int .i64 (if W3.i64.wrap (W3.i64.wrap (ae.n p (↑i:Int))+1)>m then W3.i64.wrap (W3.i64.wrap (ae.n p (↑i:Int))+1) else m)::uu::uu:: .agg (aP p):: .int .i64 (W3.i64.wrap ((↑i:Int)+1))::un 13) ([.dead]):=by
 exact (ak.ao (sp:=⟨[3,6,7],[],[]⟩) (n0:=1) (ex:=Ex.norm) (t':=(uu::uu::uu:: .int .i64 (if W3.i64.wrap (W3.i64.wrap (ae.n p (↑i:Int))+1)>m then W3.i64.wrap (W3.i64.wrap (ae.n p (↑i:Int))+1) else m)::uu::uu:: .agg (aP p):: .int .i64 (W3.i64.wrap ((↑i:Int)+1))::un 13)) (s':= [.dead]) mixed [tC (decide_eq_true (Vz i1)),.dM (decide (0≤(↑i:Int)∧(↑i:Int)<(↑(11:Nat):Int))) true (by ((try simp only [bm] at*);(try unfold bn at*);omega)),.bc _ _ _ _ (@kj p ((↑i:Int)) ([]) (by ((try simp only [bm] at*);(try unfold bn at*);omega)) i1),tC (bS 2 true (eq_of_beq ha))] (by kernel_rfl)).cast (by rfl) (by rfl)
theorem Fl (p:ae) (m:Int) (m0:0≤m) (m1:m≤11) (i:Nat) (i1:(i:Int)≤10) (ha:(p.k (i:Int)==2)=false):ak Tryz.prog (aC Tryz.f29 0) ⟨[3,6,7],[],[]⟩ 1 (uu::uu::uu:: .int .i64 m::uu::uu:: .agg (aP p):: .int .i64 (↑i:Int)::un 13) [.dead] .norm (uu::uu::uu:: .int .i64 m::uu::uu:: .agg (aP p):: .int .i64 (W3.i64.wrap ((↑i:Int)+1))::un 13) ([.dead]):=by
 exact (ak.ao (sp:=⟨[3,6,7],[],[]⟩) (n0:=1) (ex:=Ex.norm) (t':=(uu::uu::uu:: .int .i64 m::uu::uu:: .agg (aP p):: .int .i64 (W3.i64.wrap ((↑i:Int)+1))::un 13)) (s':= [.dead]) mixed [tC (decide_eq_true (Vz i1)),.dM (decide (0≤(↑i:Int)∧(↑i:Int)<(↑(11:Nat):Int))) true (by ((try simp only [bm] at*);(try unfold bn at*);omega)),.bc _ _ _ _ (@kj p ((↑i:Int)) ([]) (by ((try simp only [bm] at*);(try unfold bn at*);omega)) i1),tC ha] (by kernel_rfl)).cast (by rfl) (by rfl)
end Go.Proofs.YtkpneibifdoecaaGreat
namespace Go.Ev
open Go
theorem eR (v:Int) (i:Nat):(VB 64 v).getLsbD i=decide ((v%18446744073709551616).toNat / 2^i%2=1):=by
 rw [← BitVec.testBit_toNat,toNat_ofInt,Nat.testBit_eq_decide_div_mod_eq]
 rfl
def NY (v w:Int):Bool:=W3.u64.wrap ((VB 64 (v.fdiv (2^(min (W3.i8.wrap (w - 1)).toNat 64)))&&&VB 64 1).toNat:Int)==1
theorem j8 (a:Int):((VB 64 a&&&VB 64 1).toNat:Int)=a%2:=by have:=and_ones 64 1 (by omega) a;exact this
theorem mD (x:BitVec 64):VB 64 (x.toNat:Int)=x:=by
 apply BitVec.eq_of_toNat_eq
 simp
theorem nQ (n:Int):VB 64 (W3.i64.wrap n)=VB 64 n:=by
 apply BitVec.eq_of_toNat_eq
 rw [toNat_ofInt,toNat_ofInt,aY]
 congr 1
 rw [show ((2^64:Nat):Int)=18446744073709551616 from rfl]
 omega
theorem D0 (a b:Int):VB 64 (fS a b)=VB 64 a|||VB 64 b:=by
 show VB 64 (W3.i64.wrap ((VB 64 a|||VB 64 b).toNat:Int))=_
 rw [nQ,mD]
theorem sI (a b:Int):VB 64 (jE a b)=VB 64 a&&& ~~~ VB 64 b:=by
 show VB 64 (W3.i64.wrap ((VB 64 a&&& ~~~ VB 64 b).toNat:Int))=_
 rw [nQ,mD]
theorem qA {w k:Int} (k0:0≤k) (k1:k≤15):cS w k=if (VB 64 w).getLsbD k.toNat=true then 1 else 0:=by
 have key:∀k:Int,0≤k→k≤15→cS w k=if (VB 64 w).getLsbD k.toNat=true then 1 else 0:=by
  refine ni ?_ ?_ ?_ ?_ ?_ ?_ ?_ ?_ ?_ ?_ ?_ ?_ ?_ ?_ ?_ ?_
  ·rw [show cS w 0=W3.i64.wrap ((VB 64 (w.fdiv 1)&&&VB 64 1).toNat:Int) from rfl,j8,aY,V4 _ (by decide),eR,show (0:Int).toNat=0 from rfl];simp only [decide_eq_true_eq];split<;>omega
  ·rw [show cS w 1=W3.i64.wrap ((VB 64 (w.fdiv 2)&&&VB 64 1).toNat:Int) from rfl,j8,aY,V4 _ (by decide),eR,show (1:Int).toNat=1 from rfl];simp only [decide_eq_true_eq];split<;>omega
  ·rw [show cS w 2=W3.i64.wrap ((VB 64 (w.fdiv 4)&&&VB 64 1).toNat:Int) from rfl,j8,aY,V4 _ (by decide),eR,show (2:Int).toNat=2 from rfl];simp only [decide_eq_true_eq];split<;>omega
  ·rw [show cS w 3=W3.i64.wrap ((VB 64 (w.fdiv 8)&&&VB 64 1).toNat:Int) from rfl,j8,aY,V4 _ (by decide),eR,show (3:Int).toNat=3 from rfl];simp only [decide_eq_true_eq];split<;>omega
  ·rw [show cS w 4=W3.i64.wrap ((VB 64 (w.fdiv 16)&&&VB 64 1).toNat:Int) from rfl,j8,aY,V4 _ (by decide),eR,show (4:Int).toNat=4 from rfl];simp only [decide_eq_true_eq];split<;>omega
  ·rw [show cS w 5=W3.i64.wrap ((VB 64 (w.fdiv 32)&&&VB 64 1).toNat:Int) from rfl,j8,aY,V4 _ (by decide),eR,show (5:Int).toNat=5 from rfl];simp only [decide_eq_true_eq];split<;>omega
  ·rw [show cS w 6=W3.i64.wrap ((VB 64 (w.fdiv 64)&&&VB 64 1).toNat:Int) from rfl,j8,aY,V4 _ (by decide),eR,show (6:Int).toNat=6 from rfl];simp only [decide_eq_true_eq];split<;>omega
  ·rw [show cS w 7=W3.i64.wrap ((VB 64 (w.fdiv 128)&&&VB 64 1).toNat:Int) from rfl,j8,aY,V4 _ (by decide),eR,show (7:Int).toNat=7 from rfl];simp only [decide_eq_true_eq];split<;>omega
  ·rw [show cS w 8=W3.i64.wrap ((VB 64 (w.fdiv 256)&&&VB 64 1).toNat:Int) from rfl,j8,aY,V4 _ (by decide),eR,show (8:Int).toNat=8 from rfl];simp only [decide_eq_true_eq];split<;>omega
  ·rw [show cS w 9=W3.i64.wrap ((VB 64 (w.fdiv 512)&&&VB 64 1).toNat:Int) from rfl,j8,aY,V4 _ (by decide),eR,show (9:Int).toNat=9 from rfl];simp only [decide_eq_true_eq];split<;>omega
  ·rw [show cS w 10=W3.i64.wrap ((VB 64 (w.fdiv 1024)&&&VB 64 1).toNat:Int) from rfl,j8,aY,V4 _ (by decide),eR,show (10:Int).toNat=10 from rfl];simp only [decide_eq_true_eq];split<;>omega
  ·rw [show cS w 11=W3.i64.wrap ((VB 64 (w.fdiv 2048)&&&VB 64 1).toNat:Int) from rfl,j8,aY,V4 _ (by decide),eR,show (11:Int).toNat=11 from rfl];simp only [decide_eq_true_eq];split<;>omega
  ·rw [show cS w 12=W3.i64.wrap ((VB 64 (w.fdiv 4096)&&&VB 64 1).toNat:Int) from rfl,j8,aY,V4 _ (by decide),eR,show (12:Int).toNat=12 from rfl];simp only [decide_eq_true_eq];split<;>omega
  ·rw [show cS w 13=W3.i64.wrap ((VB 64 (w.fdiv 8192)&&&VB 64 1).toNat:Int) from rfl,j8,aY,V4 _ (by decide),eR,show (13:Int).toNat=13 from rfl];simp only [decide_eq_true_eq];split<;>omega
  ·rw [show cS w 14=W3.i64.wrap ((VB 64 (w.fdiv 16384)&&&VB 64 1).toNat:Int) from rfl,j8,aY,V4 _ (by decide),eR,show (14:Int).toNat=14 from rfl];simp only [decide_eq_true_eq];split<;>omega
  ·rw [show cS w 15=W3.i64.wrap ((VB 64 (w.fdiv 32768)&&&VB 64 1).toNat:Int) from rfl,j8,aY,V4 _ (by decide),eR,show (15:Int).toNat=15 from rfl];simp only [decide_eq_true_eq];split<;>omega
 exact key k k0 k1
def NN (o:Int) (r r':qB):Prop:= ∀k,0≤k→k≤10→k≠o→r.get k=r'.get k
def NI (m:cn) (s:List Int) (k n:Int):Int:=if k=1 then rg m.rl n else if k=2 then s.getD n.toNat 0 else 0
section
variable {m:cn} {s:List Int} {t:List XS}
structure AI (m:cn) (s:List Int) (m':cn) (s':List Int) (k n:Int):Prop where
  len:s'.length=s.length
  sp:rg m'.rl 4=rg m.rl 4
  at_:∀k' n',kz k' n'=true→¬(k'=k∧n'=n)→NI m' s' k' n'=NI m s k' n'
theorem rj {k n:Int} (h:kz k n=true) (hk:k=2):0≤n∧n<11:=by
 rcases dw h with q|q|q<;>omega
theorem AI.trans {m1 m2:cn} {s1 s2:List Int} {k n:Int} (h1:AI m s m1 s1 3 0) (h2:AI m1 s1 m2 s2 k n):AI m s m2 s2 k n:=by
 refine ⟨h2.len.trans h1.len,h2.sp.trans h1.sp,fun k' n' hp Px=>(h2.at_ k' n' hp Px).trans (h1.at_ k' n' hp ?_)⟩
 rintro ⟨e,_⟩
 rcases dw hp with q|q|q<;>omega
end
theorem ae.ri {p:ae} (h:p.may=true):∀i,i≤11→0≤p.pX i∧p.pX i≤11
 |0,_=>by simp [ae.pX]
 |i+1,hi=>by
  have ih:=ae.ri h i (by omega)
  rw [ae.pX]
  split
  ·rename_i hk
   have:=rj (ae.fb h (i:=(i:Int)) (by omega) (by omega)) hk
   split<;>omega
  ·exact ih
end Go.Ev
namespace Go.Proofs.YtkpneibifdoecaaGreat
open Go Go.Ev
theorem rh (i:Nat) (h:(i:Int)≤10):W3.i64.wrap ((i:Int)+1)=((i+1:Nat):Int):=by rw [aY];omega
theorem vV (k n:Int):(kz k n=true∧((k=0∧n=0)∨(k=1∧cI 1 n=true)∨(k=2∧0≤n∧n<11)))∨(kz k n=false∧((k=0∧n≠0)∨(k=1∧cI 1 n=false)∨(k=2∧n<0)∨(k=2∧11≤n)∨(k≠0∧k≠1∧k≠2))):=by
 by_cases h0:k=0
 ·subst h0
  by_cases hn:n=0
  ·subst hn;exact .inl ⟨rfl,.inl ⟨rfl,rfl⟩⟩
  ·exact .inr ⟨by unfold kz cI;simp [hn],.inl ⟨rfl,hn⟩⟩
 by_cases h1:k=1
 ·subst h1
  cases hh:cI 1 n
  ·exact .inr ⟨by unfold kz;rw [hh];simp,.inr (.inl ⟨rfl,rfl⟩)⟩
  ·exact .inl ⟨by unfold kz;rw [hh];simp,.inr (.inl ⟨rfl,rfl⟩)⟩
 by_cases h2:k=2
 ·subst h2
  by_cases hn:n<0
  ·exact .inr ⟨by unfold kz cI;simp;omega,.inr (.inr (.inl ⟨rfl,hn⟩))⟩
  ·by_cases hm:11≤n
   ·exact .inr ⟨by unfold kz cI;simp;omega,.inr (.inr (.inr (.inl ⟨rfl,hm⟩)))⟩
   ·exact .inl ⟨by unfold kz cI;simp;omega,.inr (.inr ⟨rfl,by omega,by omega⟩)⟩
 ·exact .inr ⟨by unfold kz cI;simp [h0,h1,h2],.inr (.inr (.inr (.inr ⟨h0,h1,h2⟩)))⟩
theorem lA {k n:Int} (h:k≠1):cI k n=false:=by unfold cI;simp [h]
abbrev IZ (p:ae) (i:Int):List D:= [.undef,.undef,.undef,.undef,.undef,.agg (aP p),.int .i64 i,.undef,.undef,.undef,.undef,.undef,.undef,.undef,.undef,.undef,.undef,.undef,.undef,.undef,.undef,.undef,.undef,.undef,.undef,.undef,.undef,.undef,.undef,.undef,.undef,.undef,.undef,.undef]
abbrev LF:List D:= [.undef,.undef,.undef,.undef,.undef,.undef,.undef,.undef,.undef,.undef,.undef,.undef,.undef,.undef,.undef,.undef,.undef,.undef,.undef,.undef,.undef,.undef,.undef,.undef,.undef,.undef,.undef,.undef,.undef,.undef,.undef,.undef,.undef,.undef]
abbrev LG:List D:= [.undef,.undef,.bool false,.undef,.undef,.undef,.undef,.undef,.undef,.undef,.undef,.undef,.undef,.undef,.undef,.undef,.undef,.undef,.undef,.undef,.undef,.undef,.undef,.undef,.undef,.undef,.undef,.undef,.undef,.undef,.undef,.undef,.undef,.undef]
theorem p7 (p:ae):∀(m i:Nat),i+m=11→
  aA Tryz.prog (aC Tryz.f28 0) 1 (IZ p i) [.dead] (if p.nV m i=true then .exit 0 else .ret) (if p.nV m i=true then LF else LG) [.dead]
 |0,i,hi=>by
  obtain rfl:i=11:=by omega
  exact aA.last (F8 p) (fun h=>by cases h)
 |m+1,i,hi=>by
  have ih:=p7 p m (i+1) (by omega)
  have i1:(i:Int)≤10:=by omega
  have hw:=rh i i1
  rw [ae.nV]
  unfold ae.DC
  rcases vV (p.k i) (p.n i) with ⟨e,h⟩|⟨e,h⟩
  ·rw [e,Bool.true_and]
   have this:ak Tryz.prog (aC Tryz.f28 0) ⟨[5,6],[],[]⟩ 1 (IZ p i) [.dead] .norm (IZ p (W3.i64.wrap ((i:Int)+1))) [.dead]:=by
    rcases h with ⟨h1,h2⟩|⟨h1,h2⟩|⟨h1,h2,h3⟩
    ·exact F5 p i i1 (by simp [h1]) (by simp [h2])
    ·exact F7 p i i1 (by simp [h1]) (by rw [h1];exact h2)
    ·exact F6 p i i1 (by simp [h1]) (lA (by omega)) h2 h3
   rw [hw] at this
   exact aA.bZ this ih
  ·rw [e,Bool.false_and]
   refine aA.last (sp:=⟨[2],[],[]⟩) ?_ (fun h=>by cases h)
   rcases h with ⟨h1,h2⟩|⟨h1,h2⟩|⟨h1,h2⟩|⟨h1,h2⟩|⟨h1,h2,h3⟩
   ·exact JT p i i1 (by simp [h1]) (by simpa using h2) (lA (by omega))
   ·exact JS p i i1 (by simp [h1]) (by rw [h1];exact h2)
   ·exact JR p i i1 (by simp [h1]) (lA (by omega)) h2
   ·exact JQ p i i1 (by simp [h1]) (lA (by omega)) h2
   ·exact JP p i i1 (by simpa using h1) (by simpa using h3) (lA h2)
theorem z9 (p:ae):aI Tryz.prog 1 (.loop (aC Tryz.f28 0)) (IZ p 0) [.dead] (if p.may=true then .exit 0 else .ret) (if p.may=true then LF else LG) [.dead]:=
 aI.bf (Nat.le_refl _) (p7 p 11 0 rfl)
theorem H7 (p:ae) (h:p.may=true):aI Tryz.prog 1 (.loop (aC Tryz.f28 0)) (IZ p 0) [.dead] (.exit 0) LF [.dead]:=by
 have:=z9 p
 rw [h] at this
 exact this
theorem JO (p:ae) (h:p.may=false):aI Tryz.prog 1 (.loop (aC Tryz.f28 0)) (IZ p 0) [.dead] .ret LG [.dead]:=by
 have:=z9 p
 rw [h] at this
 exact this
abbrev IY (i:Int):List D:= [.undef,.ptr false 0 0,.undef,.int .i64 i,.undef,.undef,.undef,.undef,.undef,.undef,.undef,.undef,.undef,.undef,.undef,.undef,.undef,.undef,.undef,.undef,.undef,.undef,.undef,.undef,.undef,.undef,.undef,.undef,.undef,.undef,.undef,.undef,.undef,.undef,.undef,.undef,.undef,.undef,.undef,.undef,.undef,.undef]
abbrev Lp:List D:= [.undef,.undef,.undef,.undef,.undef,.undef,.undef,.undef,.undef,.undef,.undef,.undef,.undef,.undef,.undef,.undef,.undef,.undef,.undef,.undef,.undef,.undef,.undef,.undef,.undef,.undef,.undef,.undef,.undef,.undef,.undef,.undef,.undef,.undef,.undef,.undef,.undef,.undef,.undef,.undef,.undef,.undef]
abbrev Lq:List D:= [.undef,.undef,.bool false,.undef,.undef,.undef,.undef,.undef,.undef,.undef,.undef,.undef,.undef,.undef,.undef,.undef,.undef,.undef,.undef,.undef,.undef,.undef,.undef,.undef,.undef,.undef,.undef,.undef,.undef,.undef,.undef,.undef,.undef,.undef,.undef,.undef,.undef,.undef,.undef,.undef,.undef,.undef]
theorem p4 (p:ae):∀(m i:Nat),i+m=11→
  aA Tryz.prog (aC Tryz.f23 0) 1 (IY i) [.box (aP p)] (if p.nV m i=true then .exit 0 else .ret) (if p.nV m i=true then Lp else Lq) [.box (aP p)]
 |0,i,hi=>by
  obtain rfl:i=11:=by omega
  exact aA.last (FB p) (fun h=>by cases h)
 |m+1,i,hi=>by
  have ih:=p4 p m (i+1) (by omega)
  have i1:(i:Int)≤10:=by omega
  have hw:=rh i i1
  rw [ae.nV]
  unfold ae.DC
  rcases vV (p.k i) (p.n i) with ⟨e,h⟩|⟨e,h⟩
  ·rw [e,Bool.true_and]
   have this:ak Tryz.prog (aC Tryz.f23 0) ⟨[1,3],[0],[]⟩ 1 (IY i) [.box (aP p)] .norm (IY (W3.i64.wrap ((i:Int)+1))) [.box (aP p)]:=by
    rcases h with ⟨h1,h2⟩|⟨h1,h2⟩|⟨h1,h2,h3⟩
    ·exact Fy p i i1 (by simp [h1]) (by simp [h2])
    ·exact FA p i i1 (by simp [h1]) h2
    ·exact Fz p i i1 (by simp [h1]) h2 h3
   rw [hw] at this
   exact aA.bZ this ih
  ·rw [e,Bool.false_and]
   refine aA.last (sp:=⟨[2],[0],[]⟩) ?_ (fun h=>by cases h)
   rcases h with ⟨h1,h2⟩|⟨h1,h2⟩|⟨h1,h2⟩|⟨h1,h2⟩|⟨h1,h2,h3⟩
   ·exact Jx p i i1 (by simp [h1]) (by simpa using h2)
   ·exact Jw p i i1 (by simp [h1]) h2
   ·exact Jv p i i1 (by simp [h1]) h2
   ·exact Ju p i i1 (by simp [h1]) h2
   ·exact Jt p i i1 (by simpa using h1) (by simpa using h3) (by simpa using h2)
theorem zZ (p:ae):aI Tryz.prog 1 (.loop (aC Tryz.f23 0)) (IY 0) [.box (aP p)] (if p.may=true then .exit 0 else .ret) (if p.may=true then Lp else Lq) [.box (aP p)]:=
 aI.bf (Nat.le_refl _) (p4 p 11 0 rfl)
theorem HY (p:ae) (h:p.may=true):aI Tryz.prog 1 (.loop (aC Tryz.f23 0)) (IY 0) [.box (aP p)] (.exit 0) Lp [.box (aP p)]:=by
 have:=zZ p
 rw [h] at this
 exact this
theorem Js (p:ae) (h:p.may=false):aI Tryz.prog 1 (.loop (aC Tryz.f23 0)) (IY 0) [.box (aP p)] .ret Lq [.box (aP p)]:=by
 have:=zZ p
 rw [h] at this
 exact this
abbrev ML (p:ae) (m i:Int):List D:= [.undef,.undef,.undef,.int .i64 m,.undef,.undef,.agg (aP p),.int .i64 i,.undef,.undef,.undef,.undef,.undef,.undef,.undef,.undef,.undef,.undef,.undef,.undef,.undef]
abbrev MN (m:Int):List D:= [.undef,.undef,.undef,.int .i64 m,.undef,.undef,.undef,.undef,.undef,.undef,.undef,.undef,.undef,.undef,.undef,.undef,.undef,.undef,.undef,.undef,.undef]
theorem pW (p:ae) (h:p.may=true):∀(m i:Nat),i+m=11→
  aA Tryz.prog (aC Tryz.f29 0) 1 (ML p (p.pX i) i) [.dead] (.exit 0) (MN (p.pX 11)) [.dead]
 |0,i,hi=>by
  obtain rfl:i=11:=by omega
  exact aA.last (Fm p (p.pX 11)) (fun h=>by cases h)
 |m+1,i,hi=>by
  have ih:=pW p h m (i+1) (by omega)
  have i1:(i:Int)≤10:=by omega
  have hw:=rh i i1
  obtain ⟨m0,m1⟩:=ae.ri h i (by omega)
  rw [ae.pX] at ih
  by_cases hk:p.k i=2
  ·have hn:=rj (ae.fb h (i:=(i:Int)) (by omega) i1) hk
   have:=Fj p (p.pX i) m0 m1 i i1 (by simp [hk]) hn.1 hn.2
   have e:W3.i64.wrap (W3.i64.wrap (p.n i)+1)=p.n i+1:=by rw [aY,aY];omega
   rw [hw,e] at this
   rw [if_pos hk] at ih
   exact aA.bZ this ih
  ·have:=Fl p (p.pX i) m0 m1 i i1 (by simpa using hk)
   rw [hw] at this
   rw [if_neg hk] at ih
   exact aA.bZ this ih
theorem Fk (p:ae) (h:p.may=true):aI Tryz.prog 1 (.loop (aC Tryz.f29 0)) (ML p 0 0) [.dead] (.exit 0) (MN p.sp) [.dead]:=
 aI.bf (Nat.le_refl _) (pW p h 11 0 rfl)
abbrev O8 (i k:Int):List D:= [.undef,.ptr false 0 0,.undef,.int .i64 i,.int .i64 k,.int .i64 i,.undef,.undef,.undef,.undef,.undef,.undef,.undef,.undef,.undef,.undef,.undef,.undef,.undef,.undef,.undef,.undef,.undef,.undef,.undef,.undef,.undef,.undef]
abbrev O7 (i:Int):List D:= [.undef,.ptr false 0 0,.undef,.undef,.undef,.int .i64 i,.undef,.undef,.undef,.undef,.undef,.undef,.undef,.undef,.undef,.undef,.undef,.undef,.undef,.undef,.undef,.undef,.undef,.undef,.undef,.undef,.undef,.undef]
abbrev O9:List D:= [.undef,.undef,.bool false,.undef,.undef,.undef,.undef,.undef,.undef,.undef,.undef,.undef,.undef,.undef,.undef,.undef,.undef,.undef,.undef,.undef,.undef,.undef,.undef,.undef,.undef,.undef,.undef,.undef]
abbrev O6 (i:Int):List D:= [.undef,.ptr false 0 0,.undef,.undef,.undef,.int .i64 i,.undef,.undef,.undef,.undef,.undef,.undef,.undef,.undef,.undef,.undef,.undef,.undef,.undef,.undef,.undef,.undef,.undef,.undef,.undef,.undef,.undef,.undef]
abbrev O5:List D:= [.undef,.undef,.undef,.undef,.undef,.undef,.undef,.undef,.undef,.undef,.undef,.undef,.undef,.undef,.undef,.undef,.undef,.undef,.undef,.undef,.undef,.undef,.undef,.undef,.undef,.undef,.undef,.undef]
theorem cF (p:ae):aJ Tryz.prog 28 ([.agg (aP p)]) (.bool p.may):=by
 rcases cm (ae.may p) with k0|k0
 ·have c1:= @H7 p k0
  exact (Ni (d:= .bool true) [.head ⟨[5,6],[],[]⟩ _ _ _ _ _ _ _ c1] (by kernel_rfl)).to (by simp [wk,k0])
 have c2:= @JO p k0
 exact (Ni (d:= .bool false) [.head ⟨[5,6],[],[]⟩ _ _ _ _ _ _ _ c2] (by kernel_rfl)).to (by simp [wk,k0])
theorem z6 (p:ae):aJ Tryz.prog 23 ([.agg (aP p)]) (.bool p.may):=by
 rcases cm (ae.may p) with k0|k0
 ·have c1:= @HY p k0
  exact (Nj (d:= .bool true) [.head ⟨[1,3],[0],[]⟩ _ _ _ _ _ _ _ c1] (by kernel_rfl)).to (by simp [wk,k0])
 have c2:= @Js p k0
 exact (Nj (d:= .bool false) [.head ⟨[1,3],[0],[]⟩ _ _ _ _ _ _ _ c2] (by kernel_rfl)).to (by simp [wk,k0])
theorem dz (p:ae) (h:p.may=true):aJ Tryz.prog 29 ([.agg (aP p)]) (.int .i64 p.sp):=by
 have c0:= @Fk p h
 exact (Oo (d:= .int .i64 (ae.sp p)) [.head ⟨[3,6,7],[],[]⟩ _ _ _ _ _ _ _ c0] (by kernel_rfl)).to (by simp [wk,])
theorem Bg (p:ae) (hm:p.may=false):aJ Tryz.prog 21 ([.agg (aP p)]) (.aQ [.aq .tight 0 [],.int .i64 2]):=by
 have c0:= @cF p
 exact (sK (d:= .aQ [.aq .tight 0 [],.int .i64 2]) [.ret _ _ _ c0,tC (nt hm)] (by kernel_rfl)).to (by simp [wk,ay,aB])
theorem zr (p:ae) (hm:p.may=false):aJ Tryz.prog 19 ([.agg (aP p)]) (.aQ [.aq .tight 0 [],.int .i64 2]):=by
 have c0:= @cF p
 exact (Ih (d:= .aQ [.aq .tight 0 [],.int .i64 2]) [.ret _ _ _ c0,tC (nt hm)] (by kernel_rfl)).to (by simp [wk,ay,aB])
theorem zq (p:ae) (hm:p.may=true) (s0:0≤p.sp) (s1:p.sp≤11) (hs:p.sp>0) (ha:(p.k 0==2)=false) (ga:(p.k 0==1)=false):aJ Tryz.prog 19 ([.agg (aP p)]) (.aQ [.aq .no 8 [xD 1 32 0 0 0 0 0 0,xD 9 64 4 0 0 0 (W3.i64.wrap (8*p.sp)) 0,xD 30 0 0 0 0 0 0 0],.int .i64 0]):=by
 have c0:= @cF p
 have c1:= @dz p hm
 exact (Ih (d:= .aQ [.aq (.fresh 8) 8 [(xD 1 32 0 0 0 0 0 0),(xD 9 64 4 0 0 0 (W3.i64.wrap (8*ae.sp p)) 0),(xD 30 0 0 0 0 0 0 0)],.int .i64 0]) [.ret _ _ _ c0,tC (nt hm),.inl,tC ga,tC ha,.inl,.inl,.ret _ _ _ c1,tC (fh 0 (by ((try simp only [bm] at*);(try unfold bn at*);omega):(decide (W3.i64.wrap (8*ae.sp p)<1))=false)),.inl,.len 2 2147483648 (by decide),.inl,.len 3 2147483648 (by decide)] (by kernel_rfl)).to (by simp [wk,ay,aB])
theorem yx (p:ae) (hm:p.may=true) (s0:0≤p.sp) (s1:p.sp≤11) (hs:p.sp>0) (ha:(p.k 1==2)=false) (ga:(p.k 1==1)=false) (hb:(p.k 10==2)=false) (gb:(p.k 10==1)=false):aJ Tryz.prog 21 ([.agg (aP p)]) (.aQ [.aq .no 8 [xD 12 64 4 0 0 0 (W3.i64.wrap (8*p.sp)) 0],.int .i64 0]):=by
 have c0:= @cF p
 have c1:= @dz p hm
 exact (sK (d:= .aQ [.aq (.fresh 8) 8 [(xD 12 64 4 0 0 0 (W3.i64.wrap (8*ae.sp p)) 0)],.int .i64 0]) [.ret _ _ _ c0,tC (nt hm),.inl,.ret _ _ _ c1,tC (fh 0 (by ((try simp only [bm] at*);(try unfold bn at*);omega):(decide (W3.i64.wrap (8*ae.sp p)<1))=false)),.inl,.len 1 2147483648 (by decide),.go 64,tT,tT,.bc ([.int .i8 (ae.k p 1),.int .i8 (ae.n p 1),.int .i64 2097152,.int .i8 (ae.k p 10),.int .i8 (ae.n p 10),.int .i64 3145792]) 0 3 ([.int .i8 (ae.k p 1),.int .i8 (ae.n p 1),.int .i64 2097152]) ⟨rfl,by first|decide|simp⟩,tC ha,tC ga,tT,tT,.bc ([.int .i8 (ae.k p 1),.int .i8 (ae.n p 1),.int .i64 2097152,.int .i8 (ae.k p 10),.int .i8 (ae.n p 10),.int .i64 3145792]) 3 3 ([.int .i8 (ae.k p 10),.int .i8 (ae.n p 10),.int .i64 3145792]) ⟨rfl,by first|decide|simp⟩,tC hb,tC gb,tF] (by kernel_rfl)).to (by simp [wk,ay,aB])
theorem yw (p:ae) (hm:p.may=true) (s0:0≤p.sp) (s1:p.sp≤11) (hs:p.sp>0) (ha:(p.k 1==2)=false) (ga:(p.k 1==1)=false) (hb:(p.k 10==2)=false) (gb:(p.k 10==1)=true):aJ Tryz.prog 21 ([.agg (aP p)]) (.aQ [.aq .no 8 [xD 12 64 4 0 0 0 (W3.i64.wrap (8*p.sp)) 0,xD 1 32 (p.n 10) 0 0 0 3145792 0],.int .i64 0]):=by
 have c0:= @cF p
 have c1:= @dz p hm
 exact (sK (d:= .aQ [.aq (.fresh 8) 8 [(xD 12 64 4 0 0 0 (W3.i64.wrap (8*ae.sp p)) 0),(xD 1 32 (ae.n p 10) 0 0 0 3145792 0)],.int .i64 0]) [.ret _ _ _ c0,tC (nt hm),.inl,.ret _ _ _ c1,tC (fh 0 (by ((try simp only [bm] at*);(try unfold bn at*);omega):(decide (W3.i64.wrap (8*ae.sp p)<1))=false)),.inl,.len 1 2147483648 (by decide),.go 64,tT,tT,.bc ([.int .i8 (ae.k p 1),.int .i8 (ae.n p 1),.int .i64 2097152,.int .i8 (ae.k p 10),.int .i8 (ae.n p 10),.int .i64 3145792]) 0 3 ([.int .i8 (ae.k p 1),.int .i8 (ae.n p 1),.int .i64 2097152]) ⟨rfl,by first|decide|simp⟩,tC ha,tC ga,tT,tT,.bc ([.int .i8 (ae.k p 1),.int .i8 (ae.n p 1),.int .i64 2097152,.int .i8 (ae.k p 10),.int .i8 (ae.n p 10),.int .i64 3145792]) 3 3 ([.int .i8 (ae.k p 10),.int .i8 (ae.n p 10),.int .i64 3145792]) ⟨rfl,by first|decide|simp⟩,tC hb,tC (bS 1 true (eq_of_beq gb)),.inl,.inl,.len 2 2147483648 (by decide),tF] (by kernel_rfl)).to (by simp [wk,ay,aB])
theorem yv (p:ae) (hm:p.may=true) (s0:0≤p.sp) (s1:p.sp≤11) (hs:p.sp>0) (ha:(p.k 1==2)=false) (ga:(p.k 1==1)=false) (hb:(p.k 10==2)=true) (bb:0≤p.n 10) (db:p.n 10<11):aJ Tryz.prog 21 ([.agg (aP p)]) (.aQ [.aq .no 8 [xD 12 64 4 0 0 0 (W3.i64.wrap (8*p.sp)) 0,xD 1 32 0 0 0 0 3145792 0,xD 27 64 0 0 4 (W3.i64.wrap (8*W3.i64.wrap (p.n 10))) 0 0],.int .i64 0]):=by
 have c0:= @cF p
 have c1:= @dz p hm
 exact (sK (d:= .aQ [.aq (.fresh 8) 8 [(xD 12 64 4 0 0 0 (W3.i64.wrap (8*ae.sp p)) 0),(xD 1 32 0 0 0 0 3145792 0),(xD 27 64 0 0 4 (W3.i64.wrap (8*W3.i64.wrap (ae.n p 10))) 0 0)],.int .i64 0]) [.ret _ _ _ c0,tC (nt hm),.inl,.ret _ _ _ c1,tC (fh 0 (by ((try simp only [bm] at*);(try unfold bn at*);omega):(decide (W3.i64.wrap (8*ae.sp p)<1))=false)),.inl,.len 1 2147483648 (by decide),.go 64,tT,tT,.bc ([.int .i8 (ae.k p 1),.int .i8 (ae.n p 1),.int .i64 2097152,.int .i8 (ae.k p 10),.int .i8 (ae.n p 10),.int .i64 3145792]) 0 3 ([.int .i8 (ae.k p 1),.int .i8 (ae.n p 1),.int .i64 2097152]) ⟨rfl,by first|decide|simp⟩,tC ha,tC ga,tT,tT,.bc ([.int .i8 (ae.k p 1),.int .i8 (ae.n p 1),.int .i64 2097152,.int .i8 (ae.k p 10),.int .i8 (ae.n p 10),.int .i64 3145792]) 3 3 ([.int .i8 (ae.k p 10),.int .i8 (ae.n p 10),.int .i64 3145792]) ⟨rfl,by first|decide|simp⟩,tC (bS 2 true (eq_of_beq hb)),.inl,.bO [(0,.box (aP p)),(2,.box [.aq (.tok 4 0) 8 [(xD 12 64 4 0 0 0 (W3.i64.wrap (8*ae.sp p)) 0)]]),(4,.bg 0 8),(5,.box [.int .i8 (ae.k p 1),.int .i8 (ae.n p 1),.int .i64 2097152]),(6,.box [.int .i8 (ae.k p 10),.int .i8 (ae.n p 10),.int .i64 3145792])],.inl,.inl,.len 3 2147483648 (by decide),tF] (by kernel_rfl)).to (by simp [wk,ay,aB])
theorem zp (p:ae) (hm:p.may=true) (s0:0≤p.sp) (s1:p.sp≤11) (hs:p.sp>0) (ha:(p.k 0==2)=false) (ga:(p.k 0==1)=true):aJ Tryz.prog 19 ([.agg (aP p)]) (.aQ [.aq .no 8 [xD 0 64 0 (p.n 0) 0 0 0 0,xD 9 64 4 0 0 0 (W3.i64.wrap (8*p.sp)) 0,xD 30 0 0 0 0 0 0 0],.int .i64 0]):=by
 have c0:= @cF p
 have c1:= @dz p hm
 exact (Ih (d:= .aQ [.aq (.fresh 8) 8 [(xD 0 64 0 (ae.n p 0) 0 0 0 0),(xD 9 64 4 0 0 0 (W3.i64.wrap (8*ae.sp p)) 0),(xD 30 0 0 0 0 0 0 0)],.int .i64 0]) [.ret _ _ _ c0,tC (nt hm),.inl,tC (bS 1 true (eq_of_beq ga)),.inl,.ret _ _ _ c1,tC (fh 0 (by ((try simp only [bm] at*);(try unfold bn at*);omega):(decide (W3.i64.wrap (8*ae.sp p)<1))=false)),.inl,.len 2 2147483648 (by decide),.inl,.len 3 2147483648 (by decide)] (by kernel_rfl)).to (by simp [wk,ay,aB])
theorem yu (p:ae) (hm:p.may=true) (s0:0≤p.sp) (s1:p.sp≤11) (hs:p.sp>0) (ha:(p.k 1==2)=false) (ga:(p.k 1==1)=true) (hb:(p.k 10==2)=false) (gb:(p.k 10==1)=false):aJ Tryz.prog 21 ([.agg (aP p)]) (.aQ [.aq .no 8 [xD 12 64 4 0 0 0 (W3.i64.wrap (8*p.sp)) 0,xD 1 32 (p.n 1) 0 0 0 2097152 0],.int .i64 0]):=by
 have c0:= @cF p
 have c1:= @dz p hm
 exact (sK (d:= .aQ [.aq (.fresh 8) 8 [(xD 12 64 4 0 0 0 (W3.i64.wrap (8*ae.sp p)) 0),(xD 1 32 (ae.n p 1) 0 0 0 2097152 0)],.int .i64 0]) [.ret _ _ _ c0,tC (nt hm),.inl,.ret _ _ _ c1,tC (fh 0 (by ((try simp only [bm] at*);(try unfold bn at*);omega):(decide (W3.i64.wrap (8*ae.sp p)<1))=false)),.inl,.len 1 2147483648 (by decide),.go 64,tT,tT,.bc ([.int .i8 (ae.k p 1),.int .i8 (ae.n p 1),.int .i64 2097152,.int .i8 (ae.k p 10),.int .i8 (ae.n p 10),.int .i64 3145792]) 0 3 ([.int .i8 (ae.k p 1),.int .i8 (ae.n p 1),.int .i64 2097152]) ⟨rfl,by first|decide|simp⟩,tC ha,tC (bS 1 true (eq_of_beq ga)),.inl,.inl,.len 2 2147483648 (by decide),tT,tT,.bc ([.int .i8 (ae.k p 1),.int .i8 (ae.n p 1),.int .i64 2097152,.int .i8 (ae.k p 10),.int .i8 (ae.n p 10),.int .i64 3145792]) 3 3 ([.int .i8 (ae.k p 10),.int .i8 (ae.n p 10),.int .i64 3145792]) ⟨rfl,by first|decide|simp⟩,tC hb,tC gb,tF] (by kernel_rfl)).to (by simp [wk,ay,aB])
theorem yt (p:ae) (hm:p.may=true) (s0:0≤p.sp) (s1:p.sp≤11) (hs:p.sp>0) (ha:(p.k 1==2)=false) (ga:(p.k 1==1)=true) (hb:(p.k 10==2)=false) (gb:(p.k 10==1)=true):aJ Tryz.prog 21 ([.agg (aP p)]) (.aQ [.aq .no 8 [xD 12 64 4 0 0 0 (W3.i64.wrap (8*p.sp)) 0,xD 1 32 (p.n 1) 0 0 0 2097152 0,xD 1 32 (p.n 10) 0 0 0 3145792 0],.int .i64 0]):=by
 have c0:= @cF p
 have c1:= @dz p hm
 exact (sK (d:= .aQ [.aq (.fresh 8) 8 [(xD 12 64 4 0 0 0 (W3.i64.wrap (8*ae.sp p)) 0),(xD 1 32 (ae.n p 1) 0 0 0 2097152 0),(xD 1 32 (ae.n p 10) 0 0 0 3145792 0)],.int .i64 0]) [.ret _ _ _ c0,tC (nt hm),.inl,.ret _ _ _ c1,tC (fh 0 (by ((try simp only [bm] at*);(try unfold bn at*);omega):(decide (W3.i64.wrap (8*ae.sp p)<1))=false)),.inl,.len 1 2147483648 (by decide),.go 64,tT,tT,.bc ([.int .i8 (ae.k p 1),.int .i8 (ae.n p 1),.int .i64 2097152,.int .i8 (ae.k p 10),.int .i8 (ae.n p 10),.int .i64 3145792]) 0 3 ([.int .i8 (ae.k p 1),.int .i8 (ae.n p 1),.int .i64 2097152]) ⟨rfl,by first|decide|simp⟩,tC ha,tC (bS 1 true (eq_of_beq ga)),.inl,.inl,.len 2 2147483648 (by decide),tT,tT,.bc ([.int .i8 (ae.k p 1),.int .i8 (ae.n p 1),.int .i64 2097152,.int .i8 (ae.k p 10),.int .i8 (ae.n p 10),.int .i64 3145792]) 3 3 ([.int .i8 (ae.k p 10),.int .i8 (ae.n p 10),.int .i64 3145792]) ⟨rfl,by first|decide|simp⟩,tC hb,tC (bS 1 true (eq_of_beq gb)),.inl,.inl,.len 3 2147483648 (by decide),tF] (by kernel_rfl)).to (by simp [wk,ay,aB])
theorem yr (p:ae) (hm:p.may=true) (s0:0≤p.sp) (s1:p.sp≤11) (hs:p.sp>0) (ha:(p.k 1==2)=false) (ga:(p.k 1==1)=true) (hb:(p.k 10==2)=true) (bb:0≤p.n 10) (db:p.n 10<11):aJ Tryz.prog 21 ([.agg (aP p)]) (.aQ [.aq .no 8 [xD 12 64 4 0 0 0 (W3.i64.wrap (8*p.sp)) 0,xD 1 32 (p.n 1) 0 0 0 2097152 0,xD 1 32 0 0 0 0 3145792 0,xD 27 64 0 0 4 (W3.i64.wrap (8*W3.i64.wrap (p.n 10))) 0 0],.int .i64 0]):=by
 have c0:= @cF p
 have c1:= @dz p hm
 exact (sK (d:= .aQ [.aq (.fresh 8) 8 [(xD 12 64 4 0 0 0 (W3.i64.wrap (8*ae.sp p)) 0),(xD 1 32 (ae.n p 1) 0 0 0 2097152 0),(xD 1 32 0 0 0 0 3145792 0),(xD 27 64 0 0 4 (W3.i64.wrap (8*W3.i64.wrap (ae.n p 10))) 0 0)],.int .i64 0]) [.ret _ _ _ c0,tC (nt hm),.inl,.ret _ _ _ c1,tC (fh 0 (by ((try simp only [bm] at*);(try unfold bn at*);omega):(decide (W3.i64.wrap (8*ae.sp p)<1))=false)),.inl,.len 1 2147483648 (by decide),.go 64,tT,tT,.bc ([.int .i8 (ae.k p 1),.int .i8 (ae.n p 1),.int .i64 2097152,.int .i8 (ae.k p 10),.int .i8 (ae.n p 10),.int .i64 3145792]) 0 3 ([.int .i8 (ae.k p 1),.int .i8 (ae.n p 1),.int .i64 2097152]) ⟨rfl,by first|decide|simp⟩,tC ha,tC (bS 1 true (eq_of_beq ga)),.inl,.inl,.len 2 2147483648 (by decide),tT,tT,.bc ([.int .i8 (ae.k p 1),.int .i8 (ae.n p 1),.int .i64 2097152,.int .i8 (ae.k p 10),.int .i8 (ae.n p 10),.int .i64 3145792]) 3 3 ([.int .i8 (ae.k p 10),.int .i8 (ae.n p 10),.int .i64 3145792]) ⟨rfl,by first|decide|simp⟩,tC (bS 2 true (eq_of_beq hb)),.inl,.bO [(0,.box (aP p)),(2,.box [.aq (.tok 4 1) 8 [(xD 12 64 4 0 0 0 (W3.i64.wrap (8*ae.sp p)) 0),(xD 1 32 (ae.n p 1) 0 0 0 2097152 0)]]),(4,.bg 1 8),(5,.box [.int .i8 (ae.k p 1),.int .i8 (ae.n p 1),.int .i64 2097152]),(6,.box [.int .i8 1,.int .i8 32,.int .i8 (ae.n p 1),.int .i8 0,.int .i8 0,.int .i64 0,.int .i64 2097152,.int .i8 0]),(7,.box [.int .i8 (ae.k p 10),.int .i8 (ae.n p 10),.int .i64 3145792])],.inl,.inl,.len 4 2147483648 (by decide),tF] (by kernel_rfl)).to (by simp [wk,ay,aB])
theorem zo (p:ae) (hm:p.may=true) (s0:0≤p.sp) (s1:p.sp≤11) (hs:p.sp>0) (ha:(p.k 0==2)=true) (ba:0≤p.n 0) (da:p.n 0<11):aJ Tryz.prog 19 ([.agg (aP p)]) (.aQ [.aq .no 8 [xD 26 64 0 0 4 (W3.i64.wrap (8*W3.i64.wrap (p.n 0))) 0 0,xD 9 64 4 0 0 0 (W3.i64.wrap (8*p.sp)) 0,xD 30 0 0 0 0 0 0 0],.int .i64 0]):=by
 have c0:= @cF p
 have c1:= @dz p hm
 exact (Ih (d:= .aQ [.aq (.fresh 8) 8 [(xD 26 64 0 0 4 (W3.i64.wrap (8*W3.i64.wrap (ae.n p 0))) 0 0),(xD 9 64 4 0 0 0 (W3.i64.wrap (8*ae.sp p)) 0),(xD 30 0 0 0 0 0 0 0)],.int .i64 0]) [.ret _ _ _ c0,tC (nt hm),.inl,tC (bS 1 false (eq_of_beq ha)),tC (bS 2 true (eq_of_beq ha)),.inl,.ret _ _ _ c1,tC (fh 0 (by ((try simp only [bm] at*);(try unfold bn at*);omega):(decide (W3.i64.wrap (8*ae.sp p)<1))=false)),.inl,.len 2 2147483648 (by decide),.inl,.len 3 2147483648 (by decide)] (by kernel_rfl)).to (by simp [wk,ay,aB])
theorem yq (p:ae) (hm:p.may=true) (s0:0≤p.sp) (s1:p.sp≤11) (hs:p.sp>0) (ha:(p.k 1==2)=true) (ba:0≤p.n 1) (da:p.n 1<11) (hb:(p.k 10==2)=false) (gb:(p.k 10==1)=false):aJ Tryz.prog 21 ([.agg (aP p)]) (.aQ [.aq .no 8 [xD 12 64 4 0 0 0 (W3.i64.wrap (8*p.sp)) 0,xD 1 32 0 0 0 0 2097152 0,xD 27 64 0 0 4 (W3.i64.wrap (8*W3.i64.wrap (p.n 1))) 0 0],.int .i64 0]):=by
 have c0:= @cF p
 have c1:= @dz p hm
 exact (sK (d:= .aQ [.aq (.fresh 8) 8 [(xD 12 64 4 0 0 0 (W3.i64.wrap (8*ae.sp p)) 0),(xD 1 32 0 0 0 0 2097152 0),(xD 27 64 0 0 4 (W3.i64.wrap (8*W3.i64.wrap (ae.n p 1))) 0 0)],.int .i64 0]) [.ret _ _ _ c0,tC (nt hm),.inl,.ret _ _ _ c1,tC (fh 0 (by ((try simp only [bm] at*);(try unfold bn at*);omega):(decide (W3.i64.wrap (8*ae.sp p)<1))=false)),.inl,.len 1 2147483648 (by decide),.go 64,tT,tT,.bc ([.int .i8 (ae.k p 1),.int .i8 (ae.n p 1),.int .i64 2097152,.int .i8 (ae.k p 10),.int .i8 (ae.n p 10),.int .i64 3145792]) 0 3 ([.int .i8 (ae.k p 1),.int .i8 (ae.n p 1),.int .i64 2097152]) ⟨rfl,by first|decide|simp⟩,tC (bS 2 true (eq_of_beq ha)),.inl,.bO [(0,.box (aP p)),(2,.box [.aq (.tok 4 0) 8 [(xD 12 64 4 0 0 0 (W3.i64.wrap (8*ae.sp p)) 0)]]),(4,.bg 0 8),(5,.box [.int .i8 (ae.k p 1),.int .i8 (ae.n p 1),.int .i64 2097152])],.inl,.inl,.len 3 2147483648 (by decide),tT,tT,.bc ([.int .i8 (ae.k p 1),.int .i8 (ae.n p 1),.int .i64 2097152,.int .i8 (ae.k p 10),.int .i8 (ae.n p 10),.int .i64 3145792]) 3 3 ([.int .i8 (ae.k p 10),.int .i8 (ae.n p 10),.int .i64 3145792]) ⟨rfl,by first|decide|simp⟩,tC hb,tC gb,tF] (by kernel_rfl)).to (by simp [wk,ay,aB])
theorem yp (p:ae) (hm:p.may=true) (s0:0≤p.sp) (s1:p.sp≤11) (hs:p.sp>0) (ha:(p.k 1==2)=true) (ba:0≤p.n 1) (da:p.n 1<11) (hb:(p.k 10==2)=false) (gb:(p.k 10==1)=true):aJ Tryz.prog 21 ([.agg (aP p)]) (.aQ [.aq .no 8 [xD 12 64 4 0 0 0 (W3.i64.wrap (8*p.sp)) 0,xD 1 32 0 0 0 0 2097152 0,xD 27 64 0 0 4 (W3.i64.wrap (8*W3.i64.wrap (p.n 1))) 0 0,xD 1 32 (p.n 10) 0 0 0 3145792 0],.int .i64 0]):=by
 have c0:= @cF p
 have c1:= @dz p hm
 exact (sK (d:= .aQ [.aq (.fresh 8) 8 [(xD 12 64 4 0 0 0 (W3.i64.wrap (8*ae.sp p)) 0),(xD 1 32 0 0 0 0 2097152 0),(xD 27 64 0 0 4 (W3.i64.wrap (8*W3.i64.wrap (ae.n p 1))) 0 0),(xD 1 32 (ae.n p 10) 0 0 0 3145792 0)],.int .i64 0]) [.ret _ _ _ c0,tC (nt hm),.inl,.ret _ _ _ c1,tC (fh 0 (by ((try simp only [bm] at*);(try unfold bn at*);omega):(decide (W3.i64.wrap (8*ae.sp p)<1))=false)),.inl,.len 1 2147483648 (by decide),.go 64,tT,tT,.bc ([.int .i8 (ae.k p 1),.int .i8 (ae.n p 1),.int .i64 2097152,.int .i8 (ae.k p 10),.int .i8 (ae.n p 10),.int .i64 3145792]) 0 3 ([.int .i8 (ae.k p 1),.int .i8 (ae.n p 1),.int .i64 2097152]) ⟨rfl,by first|decide|simp⟩,tC (bS 2 true (eq_of_beq ha)),.inl,.bO [(0,.box (aP p)),(2,.box [.aq (.tok 4 0) 8 [(xD 12 64 4 0 0 0 (W3.i64.wrap (8*ae.sp p)) 0)]]),(4,.bg 0 8),(5,.box [.int .i8 (ae.k p 1),.int .i8 (ae.n p 1),.int .i64 2097152])],.inl,.inl,.len 3 2147483648 (by decide),tT,tT,.bc ([.int .i8 (ae.k p 1),.int .i8 (ae.n p 1),.int .i64 2097152,.int .i8 (ae.k p 10),.int .i8 (ae.n p 10),.int .i64 3145792]) 3 3 ([.int .i8 (ae.k p 10),.int .i8 (ae.n p 10),.int .i64 3145792]) ⟨rfl,by first|decide|simp⟩,tC hb,tC (bS 1 true (eq_of_beq gb)),.inl,.inl,.len 4 2147483648 (by decide),tF] (by kernel_rfl)).to (by simp [wk,ay,aB])
theorem yo (p:ae) (hm:p.may=true) (s0:0≤p.sp) (s1:p.sp≤11) (hs:p.sp>0) (ha:(p.k 1==2)=true) (ba:0≤p.n 1) (da:p.n 1<11) (hb:(p.k 10==2)=true) (bb:0≤p.n 10) (db:p.n 10<11):aJ Tryz.prog 21 ([.agg (aP p)]) (.aQ [.aq .no 8 [xD 12 64 4 0 0 0 (W3.i64.wrap (8*p.sp)) 0,xD 1 32 0 0 0 0 2097152 0,xD 27 64 0 0 4 (W3.i64.wrap (8*W3.i64.wrap (p.n 1))) 0 0,xD 1 32 0 0 0 0 3145792 0,xD 27 64 0 0 4 (W3.i64.wrap (8*W3.i64.wrap (p.n 10))) 0 0],.int .i64 0]):=by
 have c0:= @cF p
 have c1:= @dz p hm
 exact (sK (d:= .aQ [.aq (.fresh 8) 8 [(xD 12 64 4 0 0 0 (W3.i64.wrap (8*ae.sp p)) 0),(xD 1 32 0 0 0 0 2097152 0),(xD 27 64 0 0 4 (W3.i64.wrap (8*W3.i64.wrap (ae.n p 1))) 0 0),(xD 1 32 0 0 0 0 3145792 0),(xD 27 64 0 0 4 (W3.i64.wrap (8*W3.i64.wrap (ae.n p 10))) 0 0)],.int .i64 0]) [.ret _ _ _ c0,tC (nt hm),.inl,.ret _ _ _ c1,tC (fh 0 (by ((try simp only [bm] at*);(try unfold bn at*);omega):(decide (W3.i64.wrap (8*ae.sp p)<1))=false)),.inl,.len 1 2147483648 (by decide),.go 64,tT,tT,.bc ([.int .i8 (ae.k p 1),.int .i8 (ae.n p 1),.int .i64 2097152,.int .i8 (ae.k p 10),.int .i8 (ae.n p 10),.int .i64 3145792]) 0 3 ([.int .i8 (ae.k p 1),.int .i8 (ae.n p 1),.int .i64 2097152]) ⟨rfl,by first|decide|simp⟩,tC (bS 2 true (eq_of_beq ha)),.inl,.bO [(0,.box (aP p)),(2,.box [.aq (.tok 4 0) 8 [(xD 12 64 4 0 0 0 (W3.i64.wrap (8*ae.sp p)) 0)]]),(4,.bg 0 8),(5,.box [.int .i8 (ae.k p 1),.int .i8 (ae.n p 1),.int .i64 2097152])],.inl,.inl,.len 3 2147483648 (by decide),tT,tT,.bc ([.int .i8 (ae.k p 1),.int .i8 (ae.n p 1),.int .i64 2097152,.int .i8 (ae.k p 10),.int .i8 (ae.n p 10),.int .i64 3145792]) 3 3 ([.int .i8 (ae.k p 10),.int .i8 (ae.n p 10),.int .i64 3145792]) ⟨rfl,by first|decide|simp⟩,tC (bS 2 true (eq_of_beq hb)),.inl,.bO [(0,.box (aP p)),(2,.box [.aq (.tok 4 1) 8 [(xD 12 64 4 0 0 0 (W3.i64.wrap (8*ae.sp p)) 0),(xD 1 32 0 0 0 0 2097152 0),(xD 27 64 0 0 4 (W3.i64.wrap (8*W3.i64.wrap (ae.n p 1))) 0 0)]]),(4,.bg 1 8),(5,.box [.int .i8 (ae.k p 1),.int .i8 (ae.n p 1),.int .i64 2097152]),(6,.box [.int .i8 1,.int .i8 32,.int .i8 0,.int .i8 0,.int .i8 0,.int .i64 0,.int .i64 2097152,.int .i8 0]),(7,.box [.int .i8 27,.int .i8 64,.int .i8 0,.int .i8 0,.int .i8 4,.int .i64 (W3.i64.wrap (8*W3.i64.wrap (ae.n p 1))),.int .i64 0,.int .i8 0]),(8,.box [.int .i8 (ae.k p 10),.int .i8 (ae.n p 10),.int .i64 3145792])],.inl,.inl,.len 5 2147483648 (by decide),tF] (by kernel_rfl)).to (by simp [wk,ay,aB])
theorem zn (p:ae) (hm:p.may=true) (s0:0≤p.sp) (s1:p.sp≤11) (hs:p.sp≤0) (ha:(p.k 0==2)=false) (ga:(p.k 0==1)=false):aJ Tryz.prog 19 ([.agg (aP p)]) (.aQ [.aq .no 8 [xD 1 32 0 0 0 0 0 0,xD 30 0 0 0 0 0 0 0],.int .i64 0]):=by
 have c0:= @cF p
 have c1:= @dz p hm
 exact (Ih (d:= .aQ [.aq (.fresh 8) 8 [(xD 1 32 0 0 0 0 0 0),(xD 30 0 0 0 0 0 0 0)],.int .i64 0]) [.ret _ _ _ c0,tC (nt hm),.inl,tC ga,tC ha,.inl,.inl,.ret _ _ _ c1,tC (fh 0 (by ((try simp only [bm] at*);(try unfold bn at*);omega):(decide (W3.i64.wrap (8*ae.sp p)<1))=true)),.inl,.len 2 2147483648 (by decide)] (by kernel_rfl)).to (by simp [wk,ay,aB])
theorem yn (p:ae) (hm:p.may=true) (s0:0≤p.sp) (s1:p.sp≤11) (hs:p.sp≤0) (ha:(p.k 1==2)=false) (ga:(p.k 1==1)=false) (hb:(p.k 10==2)=false) (gb:(p.k 10==1)=false):aJ Tryz.prog 21 ([.agg (aP p)]) (.aQ [.aq .tight 0 [],.int .i64 0]):=by
 have c0:= @cF p
 have c1:= @dz p hm
 exact (sK (d:= .aQ [.aq .tight 0 [],.int .i64 0]) [.ret _ _ _ c0,tC (nt hm),.inl,.ret _ _ _ c1,tC (fh 0 (by ((try simp only [bm] at*);(try unfold bn at*);omega):(decide (W3.i64.wrap (8*ae.sp p)<1))=true)),.go 64,tT,tT,.bc ([.int .i8 (ae.k p 1),.int .i8 (ae.n p 1),.int .i64 2097152,.int .i8 (ae.k p 10),.int .i8 (ae.n p 10),.int .i64 3145792]) 0 3 ([.int .i8 (ae.k p 1),.int .i8 (ae.n p 1),.int .i64 2097152]) ⟨rfl,by first|decide|simp⟩,tC ha,tC ga,tT,tT,.bc ([.int .i8 (ae.k p 1),.int .i8 (ae.n p 1),.int .i64 2097152,.int .i8 (ae.k p 10),.int .i8 (ae.n p 10),.int .i64 3145792]) 3 3 ([.int .i8 (ae.k p 10),.int .i8 (ae.n p 10),.int .i64 3145792]) ⟨rfl,by first|decide|simp⟩,tC hb,tC gb,tF] (by kernel_rfl)).to (by simp [wk,ay,aB])
theorem ym (p:ae) (hm:p.may=true) (s0:0≤p.sp) (s1:p.sp≤11) (hs:p.sp≤0) (ha:(p.k 1==2)=false) (ga:(p.k 1==1)=false) (hb:(p.k 10==2)=false) (gb:(p.k 10==1)=true):aJ Tryz.prog 21 ([.agg (aP p)]) (.aQ [.aq .no 8 [xD 1 32 (p.n 10) 0 0 0 3145792 0],.int .i64 0]):=by
 have c0:= @cF p
 have c1:= @dz p hm
 exact (sK (d:= .aQ [.aq (.fresh 8) 8 [(xD 1 32 (ae.n p 10) 0 0 0 3145792 0)],.int .i64 0]) [.ret _ _ _ c0,tC (nt hm),.inl,.ret _ _ _ c1,tC (fh 0 (by ((try simp only [bm] at*);(try unfold bn at*);omega):(decide (W3.i64.wrap (8*ae.sp p)<1))=true)),.go 64,tT,tT,.bc ([.int .i8 (ae.k p 1),.int .i8 (ae.n p 1),.int .i64 2097152,.int .i8 (ae.k p 10),.int .i8 (ae.n p 10),.int .i64 3145792]) 0 3 ([.int .i8 (ae.k p 1),.int .i8 (ae.n p 1),.int .i64 2097152]) ⟨rfl,by first|decide|simp⟩,tC ha,tC ga,tT,tT,.bc ([.int .i8 (ae.k p 1),.int .i8 (ae.n p 1),.int .i64 2097152,.int .i8 (ae.k p 10),.int .i8 (ae.n p 10),.int .i64 3145792]) 3 3 ([.int .i8 (ae.k p 10),.int .i8 (ae.n p 10),.int .i64 3145792]) ⟨rfl,by first|decide|simp⟩,tC hb,tC (bS 1 true (eq_of_beq gb)),.inl,.inl,.len 1 2147483648 (by decide),tF] (by kernel_rfl)).to (by simp [wk,ay,aB])
theorem yk (p:ae) (hm:p.may=true) (s0:0≤p.sp) (s1:p.sp≤11) (hs:p.sp≤0) (ha:(p.k 1==2)=false) (ga:(p.k 1==1)=false) (hb:(p.k 10==2)=true) (bb:0≤p.n 10) (db:p.n 10<11):aJ Tryz.prog 21 ([.agg (aP p)]) (.aQ [.aq .no 8 [xD 1 32 0 0 0 0 3145792 0,xD 27 64 0 0 4 (W3.i64.wrap (8*W3.i64.wrap (p.n 10))) 0 0],.int .i64 0]):=by
 have c0:= @cF p
 have c1:= @dz p hm
 exact (sK (d:= .aQ [.aq (.fresh 8) 8 [(xD 1 32 0 0 0 0 3145792 0),(xD 27 64 0 0 4 (W3.i64.wrap (8*W3.i64.wrap (ae.n p 10))) 0 0)],.int .i64 0]) [.ret _ _ _ c0,tC (nt hm),.inl,.ret _ _ _ c1,tC (fh 0 (by ((try simp only [bm] at*);(try unfold bn at*);omega):(decide (W3.i64.wrap (8*ae.sp p)<1))=true)),.go 64,tT,tT,.bc ([.int .i8 (ae.k p 1),.int .i8 (ae.n p 1),.int .i64 2097152,.int .i8 (ae.k p 10),.int .i8 (ae.n p 10),.int .i64 3145792]) 0 3 ([.int .i8 (ae.k p 1),.int .i8 (ae.n p 1),.int .i64 2097152]) ⟨rfl,by first|decide|simp⟩,tC ha,tC ga,tT,tT,.bc ([.int .i8 (ae.k p 1),.int .i8 (ae.n p 1),.int .i64 2097152,.int .i8 (ae.k p 10),.int .i8 (ae.n p 10),.int .i64 3145792]) 3 3 ([.int .i8 (ae.k p 10),.int .i8 (ae.n p 10),.int .i64 3145792]) ⟨rfl,by first|decide|simp⟩,tC (bS 2 true (eq_of_beq hb)),.inl,.bO [(0,.box (aP p)),(2,.box [.aq .tight 0 []]),(4,.box [.int .i8 (ae.k p 1),.int .i8 (ae.n p 1),.int .i64 2097152]),(5,.box [.int .i8 (ae.k p 10),.int .i8 (ae.n p 10),.int .i64 3145792])],.inl,.inl,.len 2 2147483648 (by decide),tF] (by kernel_rfl)).to (by simp [wk,ay,aB])
theorem zm (p:ae) (hm:p.may=true) (s0:0≤p.sp) (s1:p.sp≤11) (hs:p.sp≤0) (ha:(p.k 0==2)=false) (ga:(p.k 0==1)=true):aJ Tryz.prog 19 ([.agg (aP p)]) (.aQ [.aq .no 8 [xD 0 64 0 (p.n 0) 0 0 0 0,xD 30 0 0 0 0 0 0 0],.int .i64 0]):=by
 have c0:= @cF p
 have c1:= @dz p hm
 exact (Ih (d:= .aQ [.aq (.fresh 8) 8 [(xD 0 64 0 (ae.n p 0) 0 0 0 0),(xD 30 0 0 0 0 0 0 0)],.int .i64 0]) [.ret _ _ _ c0,tC (nt hm),.inl,tC (bS 1 true (eq_of_beq ga)),.inl,.ret _ _ _ c1,tC (fh 0 (by ((try simp only [bm] at*);(try unfold bn at*);omega):(decide (W3.i64.wrap (8*ae.sp p)<1))=true)),.inl,.len 2 2147483648 (by decide)] (by kernel_rfl)).to (by simp [wk,ay,aB])
theorem yj (p:ae) (hm:p.may=true) (s0:0≤p.sp) (s1:p.sp≤11) (hs:p.sp≤0) (ha:(p.k 1==2)=false) (ga:(p.k 1==1)=true) (hb:(p.k 10==2)=false) (gb:(p.k 10==1)=false):aJ Tryz.prog 21 ([.agg (aP p)]) (.aQ [.aq .no 8 [xD 1 32 (p.n 1) 0 0 0 2097152 0],.int .i64 0]):=by
 have c0:= @cF p
 have c1:= @dz p hm
 exact (sK (d:= .aQ [.aq (.fresh 8) 8 [(xD 1 32 (ae.n p 1) 0 0 0 2097152 0)],.int .i64 0]) [.ret _ _ _ c0,tC (nt hm),.inl,.ret _ _ _ c1,tC (fh 0 (by ((try simp only [bm] at*);(try unfold bn at*);omega):(decide (W3.i64.wrap (8*ae.sp p)<1))=true)),.go 64,tT,tT,.bc ([.int .i8 (ae.k p 1),.int .i8 (ae.n p 1),.int .i64 2097152,.int .i8 (ae.k p 10),.int .i8 (ae.n p 10),.int .i64 3145792]) 0 3 ([.int .i8 (ae.k p 1),.int .i8 (ae.n p 1),.int .i64 2097152]) ⟨rfl,by first|decide|simp⟩,tC ha,tC (bS 1 true (eq_of_beq ga)),.inl,.inl,.len 1 2147483648 (by decide),tT,tT,.bc ([.int .i8 (ae.k p 1),.int .i8 (ae.n p 1),.int .i64 2097152,.int .i8 (ae.k p 10),.int .i8 (ae.n p 10),.int .i64 3145792]) 3 3 ([.int .i8 (ae.k p 10),.int .i8 (ae.n p 10),.int .i64 3145792]) ⟨rfl,by first|decide|simp⟩,tC hb,tC gb,tF] (by kernel_rfl)).to (by simp [wk,ay,aB])
theorem yi (p:ae) (hm:p.may=true) (s0:0≤p.sp) (s1:p.sp≤11) (hs:p.sp≤0) (ha:(p.k 1==2)=false) (ga:(p.k 1==1)=true) (hb:(p.k 10==2)=false) (gb:(p.k 10==1)=true):aJ Tryz.prog 21 ([.agg (aP p)]) (.aQ [.aq .no 8 [xD 1 32 (p.n 1) 0 0 0 2097152 0,xD 1 32 (p.n 10) 0 0 0 3145792 0],.int .i64 0]):=by
 have c0:= @cF p
 have c1:= @dz p hm
 exact (sK (d:= .aQ [.aq (.fresh 8) 8 [(xD 1 32 (ae.n p 1) 0 0 0 2097152 0),(xD 1 32 (ae.n p 10) 0 0 0 3145792 0)],.int .i64 0]) [.ret _ _ _ c0,tC (nt hm),.inl,.ret _ _ _ c1,tC (fh 0 (by ((try simp only [bm] at*);(try unfold bn at*);omega):(decide (W3.i64.wrap (8*ae.sp p)<1))=true)),.go 64,tT,tT,.bc ([.int .i8 (ae.k p 1),.int .i8 (ae.n p 1),.int .i64 2097152,.int .i8 (ae.k p 10),.int .i8 (ae.n p 10),.int .i64 3145792]) 0 3 ([.int .i8 (ae.k p 1),.int .i8 (ae.n p 1),.int .i64 2097152]) ⟨rfl,by first|decide|simp⟩,tC ha,tC (bS 1 true (eq_of_beq ga)),.inl,.inl,.len 1 2147483648 (by decide),tT,tT,.bc ([.int .i8 (ae.k p 1),.int .i8 (ae.n p 1),.int .i64 2097152,.int .i8 (ae.k p 10),.int .i8 (ae.n p 10),.int .i64 3145792]) 3 3 ([.int .i8 (ae.k p 10),.int .i8 (ae.n p 10),.int .i64 3145792]) ⟨rfl,by first|decide|simp⟩,tC hb,tC (bS 1 true (eq_of_beq gb)),.inl,.inl,.len 2 2147483648 (by decide),tF] (by kernel_rfl)).to (by simp [wk,ay,aB])
theorem yh (p:ae) (hm:p.may=true) (s0:0≤p.sp) (s1:p.sp≤11) (hs:p.sp≤0) (ha:(p.k 1==2)=false) (ga:(p.k 1==1)=true) (hb:(p.k 10==2)=true) (bb:0≤p.n 10) (db:p.n 10<11):aJ Tryz.prog 21 ([.agg (aP p)]) (.aQ [.aq .no 8 [xD 1 32 (p.n 1) 0 0 0 2097152 0,xD 1 32 0 0 0 0 3145792 0,xD 27 64 0 0 4 (W3.i64.wrap (8*W3.i64.wrap (p.n 10))) 0 0],.int .i64 0]):=by
 have c0:= @cF p
 have c1:= @dz p hm
 exact (sK (d:= .aQ [.aq (.fresh 8) 8 [(xD 1 32 (ae.n p 1) 0 0 0 2097152 0),(xD 1 32 0 0 0 0 3145792 0),(xD 27 64 0 0 4 (W3.i64.wrap (8*W3.i64.wrap (ae.n p 10))) 0 0)],.int .i64 0]) [.ret _ _ _ c0,tC (nt hm),.inl,.ret _ _ _ c1,tC (fh 0 (by ((try simp only [bm] at*);(try unfold bn at*);omega):(decide (W3.i64.wrap (8*ae.sp p)<1))=true)),.go 64,tT,tT,.bc ([.int .i8 (ae.k p 1),.int .i8 (ae.n p 1),.int .i64 2097152,.int .i8 (ae.k p 10),.int .i8 (ae.n p 10),.int .i64 3145792]) 0 3 ([.int .i8 (ae.k p 1),.int .i8 (ae.n p 1),.int .i64 2097152]) ⟨rfl,by first|decide|simp⟩,tC ha,tC (bS 1 true (eq_of_beq ga)),.inl,.inl,.len 1 2147483648 (by decide),tT,tT,.bc ([.int .i8 (ae.k p 1),.int .i8 (ae.n p 1),.int .i64 2097152,.int .i8 (ae.k p 10),.int .i8 (ae.n p 10),.int .i64 3145792]) 3 3 ([.int .i8 (ae.k p 10),.int .i8 (ae.n p 10),.int .i64 3145792]) ⟨rfl,by first|decide|simp⟩,tC (bS 2 true (eq_of_beq hb)),.inl,.bO [(0,.box (aP p)),(2,.box [.aq (.tok 6 0) 8 [(xD 1 32 (ae.n p 1) 0 0 0 2097152 0)]]),(4,.box [.int .i8 (ae.k p 1),.int .i8 (ae.n p 1),.int .i64 2097152]),(5,.box [.int .i8 1,.int .i8 32,.int .i8 (ae.n p 1),.int .i8 0,.int .i8 0,.int .i64 0,.int .i64 2097152,.int .i8 0]),(6,.bg 0 8),(7,.box [.int .i8 (ae.k p 10),.int .i8 (ae.n p 10),.int .i64 3145792])],.inl,.inl,.len 3 2147483648 (by decide),tF] (by kernel_rfl)).to (by simp [wk,ay,aB])
theorem zl (p:ae) (hm:p.may=true) (s0:0≤p.sp) (s1:p.sp≤11) (hs:p.sp≤0) (ha:(p.k 0==2)=true) (ba:0≤p.n 0) (da:p.n 0<11):aJ Tryz.prog 19 ([.agg (aP p)]) (.aQ [.aq .no 8 [xD 26 64 0 0 4 (W3.i64.wrap (8*W3.i64.wrap (p.n 0))) 0 0,xD 30 0 0 0 0 0 0 0],.int .i64 0]):=by
 have c0:= @cF p
 have c1:= @dz p hm
 exact (Ih (d:= .aQ [.aq (.fresh 8) 8 [(xD 26 64 0 0 4 (W3.i64.wrap (8*W3.i64.wrap (ae.n p 0))) 0 0),(xD 30 0 0 0 0 0 0 0)],.int .i64 0]) [.ret _ _ _ c0,tC (nt hm),.inl,tC (bS 1 false (eq_of_beq ha)),tC (bS 2 true (eq_of_beq ha)),.inl,.ret _ _ _ c1,tC (fh 0 (by ((try simp only [bm] at*);(try unfold bn at*);omega):(decide (W3.i64.wrap (8*ae.sp p)<1))=true)),.inl,.len 2 2147483648 (by decide)] (by kernel_rfl)).to (by simp [wk,ay,aB])
theorem yg (p:ae) (hm:p.may=true) (s0:0≤p.sp) (s1:p.sp≤11) (hs:p.sp≤0) (ha:(p.k 1==2)=true) (ba:0≤p.n 1) (da:p.n 1<11) (hb:(p.k 10==2)=false) (gb:(p.k 10==1)=false):aJ Tryz.prog 21 ([.agg (aP p)]) (.aQ [.aq .no 8 [xD 1 32 0 0 0 0 2097152 0,xD 27 64 0 0 4 (W3.i64.wrap (8*W3.i64.wrap (p.n 1))) 0 0],.int .i64 0]):=by
 have c0:= @cF p
 have c1:= @dz p hm
 exact (sK (d:= .aQ [.aq (.fresh 8) 8 [(xD 1 32 0 0 0 0 2097152 0),(xD 27 64 0 0 4 (W3.i64.wrap (8*W3.i64.wrap (ae.n p 1))) 0 0)],.int .i64 0]) [.ret _ _ _ c0,tC (nt hm),.inl,.ret _ _ _ c1,tC (fh 0 (by ((try simp only [bm] at*);(try unfold bn at*);omega):(decide (W3.i64.wrap (8*ae.sp p)<1))=true)),.go 64,tT,tT,.bc ([.int .i8 (ae.k p 1),.int .i8 (ae.n p 1),.int .i64 2097152,.int .i8 (ae.k p 10),.int .i8 (ae.n p 10),.int .i64 3145792]) 0 3 ([.int .i8 (ae.k p 1),.int .i8 (ae.n p 1),.int .i64 2097152]) ⟨rfl,by first|decide|simp⟩,tC (bS 2 true (eq_of_beq ha)),.inl,.bO [(0,.box (aP p)),(2,.box [.aq .tight 0 []]),(4,.box [.int .i8 (ae.k p 1),.int .i8 (ae.n p 1),.int .i64 2097152])],.inl,.inl,.len 2 2147483648 (by decide),tT,tT,.bc ([.int .i8 (ae.k p 1),.int .i8 (ae.n p 1),.int .i64 2097152,.int .i8 (ae.k p 10),.int .i8 (ae.n p 10),.int .i64 3145792]) 3 3 ([.int .i8 (ae.k p 10),.int .i8 (ae.n p 10),.int .i64 3145792]) ⟨rfl,by first|decide|simp⟩,tC hb,tC gb,tF] (by kernel_rfl)).to (by simp [wk,ay,aB])
theorem yf (p:ae) (hm:p.may=true) (s0:0≤p.sp) (s1:p.sp≤11) (hs:p.sp≤0) (ha:(p.k 1==2)=true) (ba:0≤p.n 1) (da:p.n 1<11) (hb:(p.k 10==2)=false) (gb:(p.k 10==1)=true):aJ Tryz.prog 21 ([.agg (aP p)]) (.aQ [.aq .no 8 [xD 1 32 0 0 0 0 2097152 0,xD 27 64 0 0 4 (W3.i64.wrap (8*W3.i64.wrap (p.n 1))) 0 0,xD 1 32 (p.n 10) 0 0 0 3145792 0],.int .i64 0]):=by
 have c0:= @cF p
 have c1:= @dz p hm
 exact (sK (d:= .aQ [.aq (.fresh 8) 8 [(xD 1 32 0 0 0 0 2097152 0),(xD 27 64 0 0 4 (W3.i64.wrap (8*W3.i64.wrap (ae.n p 1))) 0 0),(xD 1 32 (ae.n p 10) 0 0 0 3145792 0)],.int .i64 0]) [.ret _ _ _ c0,tC (nt hm),.inl,.ret _ _ _ c1,tC (fh 0 (by ((try simp only [bm] at*);(try unfold bn at*);omega):(decide (W3.i64.wrap (8*ae.sp p)<1))=true)),.go 64,tT,tT,.bc ([.int .i8 (ae.k p 1),.int .i8 (ae.n p 1),.int .i64 2097152,.int .i8 (ae.k p 10),.int .i8 (ae.n p 10),.int .i64 3145792]) 0 3 ([.int .i8 (ae.k p 1),.int .i8 (ae.n p 1),.int .i64 2097152]) ⟨rfl,by first|decide|simp⟩,tC (bS 2 true (eq_of_beq ha)),.inl,.bO [(0,.box (aP p)),(2,.box [.aq .tight 0 []]),(4,.box [.int .i8 (ae.k p 1),.int .i8 (ae.n p 1),.int .i64 2097152])],.inl,.inl,.len 2 2147483648 (by decide),tT,tT,.bc ([.int .i8 (ae.k p 1),.int .i8 (ae.n p 1),.int .i64 2097152,.int .i8 (ae.k p 10),.int .i8 (ae.n p 10),.int .i64 3145792]) 3 3 ([.int .i8 (ae.k p 10),.int .i8 (ae.n p 10),.int .i64 3145792]) ⟨rfl,by first|decide|simp⟩,tC hb,tC (bS 1 true (eq_of_beq gb)),.inl,.inl,.len 3 2147483648 (by decide),tF] (by kernel_rfl)).to (by simp [wk,ay,aB])
theorem ye (p:ae) (hm:p.may=true) (s0:0≤p.sp) (s1:p.sp≤11) (hs:p.sp≤0) (ha:(p.k 1==2)=true) (ba:0≤p.n 1) (da:p.n 1<11) (hb:(p.k 10==2)=true) (bb:0≤p.n 10) (db:p.n 10<11):aJ Tryz.prog 21 ([.agg (aP p)]) (.aQ [.aq .no 8 [xD 1 32 0 0 0 0 2097152 0,xD 27 64 0 0 4 (W3.i64.wrap (8*W3.i64.wrap (p.n 1))) 0 0,xD 1 32 0 0 0 0 3145792 0,xD 27 64 0 0 4 (W3.i64.wrap (8*W3.i64.wrap (p.n 10))) 0 0],.int .i64 0]):=by
 have c0:= @cF p
 have c1:= @dz p hm
 exact (sK (d:= .aQ [.aq (.fresh 8) 8 [(xD 1 32 0 0 0 0 2097152 0),(xD 27 64 0 0 4 (W3.i64.wrap (8*W3.i64.wrap (ae.n p 1))) 0 0),(xD 1 32 0 0 0 0 3145792 0),(xD 27 64 0 0 4 (W3.i64.wrap (8*W3.i64.wrap (ae.n p 10))) 0 0)],.int .i64 0]) [.ret _ _ _ c0,tC (nt hm),.inl,.ret _ _ _ c1,tC (fh 0 (by ((try simp only [bm] at*);(try unfold bn at*);omega):(decide (W3.i64.wrap (8*ae.sp p)<1))=true)),.go 64,tT,tT,.bc ([.int .i8 (ae.k p 1),.int .i8 (ae.n p 1),.int .i64 2097152,.int .i8 (ae.k p 10),.int .i8 (ae.n p 10),.int .i64 3145792]) 0 3 ([.int .i8 (ae.k p 1),.int .i8 (ae.n p 1),.int .i64 2097152]) ⟨rfl,by first|decide|simp⟩,tC (bS 2 true (eq_of_beq ha)),.inl,.bO [(0,.box (aP p)),(2,.box [.aq .tight 0 []]),(4,.box [.int .i8 (ae.k p 1),.int .i8 (ae.n p 1),.int .i64 2097152])],.inl,.inl,.len 2 2147483648 (by decide),tT,tT,.bc ([.int .i8 (ae.k p 1),.int .i8 (ae.n p 1),.int .i64 2097152,.int .i8 (ae.k p 10),.int .i8 (ae.n p 10),.int .i64 3145792]) 3 3 ([.int .i8 (ae.k p 10),.int .i8 (ae.n p 10),.int .i64 3145792]) ⟨rfl,by first|decide|simp⟩,tC (bS 2 true (eq_of_beq hb)),.inl,.bO [(0,.box (aP p)),(2,.box [.aq (.tok 7 0) 8 [(xD 1 32 0 0 0 0 2097152 0),(xD 27 64 0 0 4 (W3.i64.wrap (8*W3.i64.wrap (ae.n p 1))) 0 0)]]),(4,.box [.int .i8 (ae.k p 1),.int .i8 (ae.n p 1),.int .i64 2097152]),(5,.box [.int .i8 1,.int .i8 32,.int .i8 0,.int .i8 0,.int .i8 0,.int .i64 0,.int .i64 2097152,.int .i8 0]),(6,.box [.int .i8 27,.int .i8 64,.int .i8 0,.int .i8 0,.int .i8 4,.int .i64 (W3.i64.wrap (8*W3.i64.wrap (ae.n p 1))),.int .i64 0,.int .i8 0]),(7,.bg 0 8),(8,.box [.int .i8 (ae.k p 10),.int .i8 (ae.n p 10),.int .i64 3145792])],.inl,.inl,.len 4 2147483648 (by decide),tF] (by kernel_rfl)).to (by simp [wk,ay,aB])
end Go.Proofs.YtkpneibifdoecaaGreat
namespace Go.Ev
open Go
section
variable {m:cn} {s:List Int}
end
end Go.Ev
