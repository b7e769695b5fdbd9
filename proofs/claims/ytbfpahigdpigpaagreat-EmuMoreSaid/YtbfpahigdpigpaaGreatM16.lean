import Derived.Test.YtbfpahigdpigpaaGreatM05
import Derived.Test.YtbfpahigdpigpaaGreatM09
import Derived.Test.YtbfpahigdpigpaaGreatM15
/- Contracts and plain laws that a statement's proof leans on (texts merged:EM11,EM12,EM13,EM14,EM15,EM17,EM18,EM19). -/
set_option linter.unusedVariables false
set_option linter.unusedSimpArgs false
set_option maxRecDepth 100000
set_option maxHeartbeats 8000000
namespace Go.Proofs.YtbfpahigdpigpaaGreat
open Go Go.Ev
theorem Fx (l:List D) (k:Nat) (hb:l.length≤1099511627776) (hk:l.length≤k):bF Tryz.prog (eJ Tryz.f49 0) ⟨[4],[],[]⟩ 0 [.aj .no 1 l,.aj .no 1 l,D.undef,D.undef,D.undef,.int .i64 (↑k:Int),D.undef,D.undef,D.undef,D.undef,D.undef,D.undef,D.undef,D.undef,D.undef,D.undef,D.undef,D.undef,D.undef,D.undef,D.undef,D.undef,D.undef,D.undef,D.undef,D.undef] [] (Ex.exit 0) [D.undef,D.undef,D.undef,D.undef,D.undef,D.undef,D.undef,D.undef,D.undef,D.undef,D.undef,D.undef,D.undef,D.undef,D.undef,D.undef,D.undef,D.undef,D.undef,D.undef,D.undef,D.undef,D.undef,D.undef,D.undef,D.undef] ([]):=by
 exact (bF.ae (sp:=⟨[4],[],[]⟩) (n0:=0) (ex:=Ex.exit 0) (t':= [D.undef,D.undef,D.undef,D.undef,D.undef,D.undef,D.undef,D.undef,D.undef,D.undef,D.undef,D.undef,D.undef,D.undef,D.undef,D.undef,D.undef,D.undef,D.undef,D.undef,D.undef,D.undef,D.undef,D.undef,D.undef,D.undef]) (s':= []) mixed [tC (by simp<;>omega:(decide ((↑k:Int)<(↑(List.length l):Int)))=false)] (by kernel_rfl)).cast (by first|rfl|(congr;rw [ct];omega)) (by first|rfl|(congr;rw [ct];omega))
theorem Hy (l:List D) (k:Nat) (hb:l.length≤1099511627776) (hk:k<l.length) (v:Int) (hx:l[k]? =some (.int .u64 v)):bF Tryz.prog (eJ Tryz.f49 0) ⟨[0,1,5],[],[]⟩ 0 [.aj .no 1 l,.aj .no 1 l,D.undef,D.undef,D.undef,.int .i64 (↑k:Int),D.undef,D.undef,D.undef,D.undef,D.undef,D.undef,D.undef,D.undef,D.undef,D.undef,D.undef,D.undef,D.undef,D.undef,D.undef,D.undef,D.undef,D.undef,D.undef,D.undef] [] .norm [.aj .no 1 l,.aj .no 1 l,D.undef,D.undef,D.undef,.int .i64 (↑(k+1):Int),D.undef,D.undef,D.undef,D.undef,D.undef,D.undef,D.undef,D.undef,D.undef,D.undef,D.undef,D.undef,D.undef,D.undef,D.undef,D.undef,D.undef,D.undef,D.undef,D.undef] ([]):=by
 exact (bF.ae (sp:=⟨[0,1,5],[],[]⟩) (n0:=0) (ex:=Ex.norm) (t':= [.aj .no 1 l,.aj .no 1 l,D.undef,D.undef,D.undef,.int .i64 (IntKind.i64.wrap ((↑k:Int)+1)),D.undef,D.undef,D.undef,D.undef,D.undef,D.undef,D.undef,D.undef,D.undef,D.undef,D.undef,D.undef,D.undef,D.undef,D.undef,D.undef,D.undef,D.undef,D.undef,D.undef]) (s':= []) mixed [tC (by simp<;>omega:(decide ((↑k:Int)<(↑(List.length l):Int)))=true),tT,.get _ _ _ hx,tT,.get _ _ _ hx,tC (nt (beq_self_eq_true (v)))] (by kernel_rfl)).cast (by first|rfl|(congr;rw [ct];omega)) (by first|rfl|(congr;rw [ct];omega))
theorem EJ (l m:List D) (k:Nat) (hb:l.length≤1099511627776) (hk:l.length≤k):bF Tryz.prog (eJ Tryz.f11 0) ⟨[4],[],[]⟩ 0 [.aj .no 3 l,.aj .no 3 m,D.undef,D.undef,D.undef,.int .i64 (↑k:Int),D.undef,D.undef,D.undef,D.undef,D.undef,D.undef,D.undef,D.undef,D.undef,D.undef,D.undef,D.undef,D.undef,D.undef,D.undef,D.undef,D.undef,D.undef,D.undef,D.undef,D.undef] [] (Ex.exit 0) [D.undef,D.undef,D.undef,D.undef,D.undef,D.undef,D.undef,D.undef,D.undef,D.undef,D.undef,D.undef,D.undef,D.undef,D.undef,D.undef,D.undef,D.undef,D.undef,D.undef,D.undef,D.undef,D.undef,D.undef,D.undef,D.undef,D.undef] ([]):=by
 exact (bF.ae (sp:=⟨[4],[],[]⟩) (n0:=0) (ex:=Ex.exit 0) (t':= [D.undef,D.undef,D.undef,D.undef,D.undef,D.undef,D.undef,D.undef,D.undef,D.undef,D.undef,D.undef,D.undef,D.undef,D.undef,D.undef,D.undef,D.undef,D.undef,D.undef,D.undef,D.undef,D.undef,D.undef,D.undef,D.undef,D.undef]) (s':= []) mixed [tC (by simp<;>omega:(decide ((↑k:Int)<(↑(List.length l):Int)))=false)] (by kernel_rfl)).cast (by first|rfl|(congr;rw [ct];omega)) (by first|rfl|(congr;rw [ct];omega))
theorem Hg (l m:List D) (k:Nat) (hb:l.length≤1099511627776) (hk:k<l.length) (n s:Int) (a:List Int) (hx:l[k]? =some (.agg [.int .i64 n,.aj .no 1 (wD a),.int .u64 s])) (hy:m[k]? =some (.agg [.int .i64 n,.aj .no 1 (wD a),.int .u64 s])) (km:k<m.length) (he:aE Tryz.prog 26 [.agg [.int .i64 n,.aj .no 1 (wD a),.int .u64 s],.agg [.int .i64 n,.aj .no 1 (wD a),.int .u64 s]] (.bool true)):bF Tryz.prog (eJ Tryz.f11 0) ⟨[0,1,5],[],[]⟩ 0 [.aj .no 3 l,.aj .no 3 m,D.undef,D.undef,D.undef,.int .i64 (↑k:Int),D.undef,D.undef,D.undef,D.undef,D.undef,D.undef,D.undef,D.undef,D.undef,D.undef,D.undef,D.undef,D.undef,D.undef,D.undef,D.undef,D.undef,D.undef,D.undef,D.undef,D.undef] [] .norm [.aj .no 3 l,.aj .no 3 m,D.undef,D.undef,D.undef,.int .i64 (↑(k+1):Int),D.undef,D.undef,D.undef,D.undef,D.undef,D.undef,D.undef,D.undef,D.undef,D.undef,D.undef,D.undef,D.undef,D.undef,D.undef,D.undef,D.undef,D.undef,D.undef,D.undef,D.undef] ([]):=by
 exact (bF.ae (sp:=⟨[0,1,5],[],[]⟩) (n0:=0) (ex:=Ex.norm) (t':= [.aj .no 3 l,.aj .no 3 m,D.undef,D.undef,D.undef,.int .i64 (IntKind.i64.wrap ((↑k:Int)+1)),D.undef,D.undef,D.undef,D.undef,D.undef,D.undef,D.undef,D.undef,D.undef,D.undef,D.undef,D.undef,D.undef,D.undef,D.undef,D.undef,D.undef,D.undef,D.undef,D.undef,D.undef]) (s':= []) mixed [tC (by simp<;>omega:(decide ((↑k:Int)<(↑(List.length l):Int)))=true),tT,.get _ _ _ hx,tT,.get _ _ _ hy,.ret _ _ _ he,tF] (by kernel_rfl)).cast (by first|rfl|(congr;rw [ct];omega)) (by first|rfl|(congr;rw [ct];omega))
theorem BE (l:List Int) (hb:l.length≤1099511627776):∀(n k:Nat),n+k=l.length→
  cK Tryz.prog (eJ Tryz.f49 0) 0 [.aj .no 1 (wD l),.aj .no 1 (wD l),.undef,.undef,.undef,.int .i64 (k:Int),.undef,.undef,.undef,.undef,.undef,.undef,.undef,.undef,.undef,.undef,.undef,.undef,.undef,.undef,.undef,.undef,.undef,.undef,.undef,.undef] [] (.exit 0) [.undef,.undef,.undef,.undef,.undef,.undef,.undef,.undef,.undef,.undef,.undef,.undef,.undef,.undef,.undef,.undef,.undef,.undef,.undef,.undef,.undef,.undef,.undef,.undef,.undef,.undef] []:=by
 intro n
 induction n with
 |zero=>
  intro k hk
  exact cK.last (Fx (wD l) k (by simpa [wD] using hb) (by simp [wD];omega)) (by simp)
 |succ n ih=>
  intro k hk
  have hx:l[k]? =some l[k]:=by simp
  exact cK.iM (Hy (wD l) k (by simpa [wD] using hb) (by simp [wD];omega) l[k] (by simp [wD,hx])) (ih (k+1) (by omega))
theorem GK (l:List Int) (hb:(wD l).length≤1099511627776):
  ea Tryz.prog 0 (.loop (eJ Tryz.f49 0)) [.aj .no 1 (wD l),.aj .no 1 (wD l),.undef,.undef,.undef,.int .i64 0,.undef,.undef,.undef,.undef,.undef,.undef,.undef,.undef,.undef,.undef,.undef,.undef,.undef,.undef,.undef,.undef,.undef,.undef,.undef,.undef] [] (.exit 0) [.undef,.undef,.undef,.undef,.undef,.undef,.undef,.undef,.undef,.undef,.undef,.undef,.undef,.undef,.undef,.undef,.undef,.undef,.undef,.undef,.undef,.undef,.undef,.undef,.undef,.undef] []:=
 ea.gM (by decide) (BE l (by simpa [wD] using hb) l.length 0 (by omega))
theorem vR (l:List Int) (hb:(wD l).length≤1099511627776):aE Tryz.prog 49 ([.aj .no 1 (wD l),.aj .no 1 (wD l)]) (.bool true):=by
 have c0:= @GK (l) hb
 exact (aE.ae (d:= .bool true) mixed Tryz.func49 (by kernel_rfl) [tC (nt (beq_self_eq_true ((↑(List.length (wD l)):Int)))),.head ⟨[0,1,5],[],[]⟩ _ _ _ _ _ _ _ c0] (by kernel_rfl)).to (by simp [wk])
theorem EB (n s:Int) (a:List Int) (hb:(wD a).length≤1099511627776):aE Tryz.prog 26 ([.agg [.int .i64 n,.aj .no 1 (wD a),.int .u64 s],.agg [.int .i64 n,.aj .no 1 (wD a),.int .u64 s]]) (.bool true):=by
 have c0:= @vR (a) hb
 exact (aE.ae (d:= .bool true) mixed Tryz.func26 (by kernel_rfl) [tC (eT (beq_self_eq_true (n))),tC (eT (beq_self_eq_true (n))),tC (eT (beq_self_eq_true (n))),tC (eT (beq_self_eq_true (n))),tC (eT (beq_self_eq_true (n))),tC (beq_self_eq_true (n)),tC (eT (beq_self_eq_true (s))),tC (eT (beq_self_eq_true (s))),tC (eT (beq_self_eq_true (s))),tC (eT (beq_self_eq_true (s))),tC (eT (beq_self_eq_true (s))),.ret _ _ _ c0,tC (beq_self_eq_true (s))] (by kernel_rfl)).to (by simp [wk])
def lP (l:List tU):Prop:= ∀e∈l,e.args.length≤5
theorem Bm (p t:List tU) (ho:lP p) (hb:p.length≤1099511627776):∀(n k:Nat),n+k=p.length→
  cK Tryz.prog (eJ Tryz.f11 0) 0 [.aj .no 3 (dE p),.aj .no 3 (dE (p++t)),.undef,.undef,.undef,.int .i64 (k:Int),.undef,.undef,.undef,.undef,.undef,.undef,.undef,.undef,.undef,.undef,.undef,.undef,.undef,.undef,.undef,.undef,.undef,.undef,.undef,.undef,.undef] [] (.exit 0) [.undef,.undef,.undef,.undef,.undef,.undef,.undef,.undef,.undef,.undef,.undef,.undef,.undef,.undef,.undef,.undef,.undef,.undef,.undef,.undef,.undef,.undef,.undef,.undef,.undef,.undef,.undef] []:=by
 intro n
 induction n with
 |zero=>
  intro k hk
  exact cK.last (EJ (dE p) (dE (p++t)) k (by simpa [dE] using hb) (by simp [dE];omega)) (by simp)
 |succ n ih=>
  intro k hk
  have hk':k<p.length:=by omega
  have hx:p[k]? =some p[k]:=by simp
  have hy:(p++t)[k]? =some p[k]:=by rw [List.getElem?_append_left hk'];exact hx
  have ha:(wD p[k].args).length≤1099511627776:=by
   have:=ho p[k] (List.getElem_mem hk')
   simp [wD];omega
  exact cK.iM (Hg (dE p) (dE (p++t)) k (by simpa [dE] using hb) (by simp [dE];omega) p[k].num p[k].Ig p[k].args (get_map (f:=tU.d) hx) (get_map (f:=tU.d) hy) (by simp [dE];omega) (EB _ _ _ ha)) (ih (k+1) (by omega))
theorem Dr (p t:List tU) (ho:lP p) (hb:(dE p).length≤1099511627776):
  ea Tryz.prog 0 (.loop (eJ Tryz.f11 0)) [.aj .no 3 (dE p),.aj .no 3 (dE (p++t)),.undef,.undef,.undef,.int .i64 0,.undef,.undef,.undef,.undef,.undef,.undef,.undef,.undef,.undef,.undef,.undef,.undef,.undef,.undef,.undef,.undef,.undef,.undef,.undef,.undef,.undef] [] (.exit 0) [.undef,.undef,.undef,.undef,.undef,.undef,.undef,.undef,.undef,.undef,.undef,.undef,.undef,.undef,.undef,.undef,.undef,.undef,.undef,.undef,.undef,.undef,.undef,.undef,.undef,.undef,.undef] []:=
 ea.gM (by decide) (Bm p t ho (by simpa [dE] using hb) p.length 0 (by omega))
theorem EI (p:List tU) (ho:lP p) (hb:(dE p).length≤1099511627776):
  ea Tryz.prog 0 (.loop (eJ Tryz.f11 0)) [.aj .no 3 (dE p),.aj .no 3 (dE p),.undef,.undef,.undef,.int .i64 0,.undef,.undef,.undef,.undef,.undef,.undef,.undef,.undef,.undef,.undef,.undef,.undef,.undef,.undef,.undef,.undef,.undef,.undef,.undef,.undef,.undef] [] (.exit 0) [.undef,.undef,.undef,.undef,.undef,.undef,.undef,.undef,.undef,.undef,.undef,.undef,.undef,.undef,.undef,.undef,.undef,.undef,.undef,.undef,.undef,.undef,.undef,.undef,.undef,.undef,.undef] []:=by
 have:=Dr p [] ho hb
 rw [List.append_nil] at this
 exact this
theorem vH (p t:List tU) (ho:lP p) (hb:(dE p).length≤1099511627776) (hl:((dE p).length:Int)≤((dE (p++t)).length:Int)):aE Tryz.prog 11 ([.aj .no 3 (dE p),.aj .no 3 (dE (p++t))]) (.bool true):=by
 have c0:= @Dr (p) (t) ho hb
 exact (aE.ae (d:= .bool true) mixed Tryz.func11 (by kernel_rfl) [tC (by ((try simp only [List.length_append,List.length_cons,List.length_nil,ct,decide_eq_true_eq,decide_eq_false_iff_not,beq_iff_eq,bne_iff_ne,beq_eq_false_iff_ne] at*);omega):(decide ((↑(List.length (dE p)):Int)>(↑(List.length (dE (p++t))):Int)))=false),.head ⟨[0,1,5],[],[]⟩ _ _ _ _ _ _ _ c0] (by kernel_rfl)).to (by simp [wk])
theorem jb (p:List tU) (ho:lP p) (hb:(dE p).length≤1099511627776):aE Tryz.prog 11 ([.aj .no 3 (dE p),.aj .no 3 (dE p)]) (.bool true):=by
 have c0:= @EI (p) ho hb
 exact (aE.ae (d:= .bool true) mixed Tryz.func11 (by kernel_rfl) [tC (by ((try simp only [List.length_append,List.length_cons,List.length_nil,ct,decide_eq_true_eq,decide_eq_false_iff_not,beq_iff_eq,bne_iff_ne,beq_eq_false_iff_ne] at*);omega):(decide ((↑(List.length (dE p)):Int)>(↑(List.length (dE p)):Int)))=false),.head ⟨[0,1,5],[],[]⟩ _ _ _ _ _ _ _ c0] (by kernel_rfl)).to (by simp [wk])
theorem AH (p:List tU) (en r0 l1 l2:Int) (cx:List D) (ho:lP p) (hb:(dE p).length≤1099511627776) (he:en≠1):aE Tryz.prog 12 ([.agg [.int .i8 en,.int .u64 r0,.aj .no 1 cx,.aj .no 3 (dE p),.int .i64 l1],.agg [.int .i8 en,.int .u64 r0,.aj .no 1 cx,.aj .no 3 (dE p),.int .i64 l2]]) (.bool true):=by
 have c0:= @jb (p) ho hb
 exact (aE.ae (d:= .bool true) mixed Tryz.func12 (by kernel_rfl) ([tC (eF (nt (beq_self_eq_true (en)))),tC (eF (nt (beq_self_eq_true (en)))),tC (eF (nt (beq_self_eq_true (en)))),tC (eF (nt (beq_self_eq_true (en)))),tC (eF (nt (beq_self_eq_true (en)))),.inl,tC (eT (beq_self_eq_true ((↑(List.length (dE p)):Int)))),tC (eT (beq_self_eq_true ((↑(List.length (dE p)):Int)))),tC (eT (beq_self_eq_true ((↑(List.length (dE p)):Int)))),.ret _ _ _ c0,tC (beq_self_eq_true ((↑(List.length (dE p)):Int))),tC (eF (nt (beq_self_eq_true (en)))),tC (nt (beq_self_eq_true (en))),tF,tC (eF (nt (by ((try simp only [List.length_append,List.length_cons,List.length_nil,ct,decide_eq_true_eq,decide_eq_false_iff_not,beq_iff_eq,bne_iff_ne,beq_eq_false_iff_ne] at*);omega):(en==1)=false))),tC (eF (nt (by ((try simp only [List.length_append,List.length_cons,List.length_nil,ct,decide_eq_true_eq,decide_eq_false_iff_not,beq_iff_eq,bne_iff_ne,beq_eq_false_iff_ne] at*);omega):(en==1)=false)))]++ [tC (eF (nt (by ((try simp only [List.length_append,List.length_cons,List.length_nil,ct,decide_eq_true_eq,decide_eq_false_iff_not,beq_iff_eq,bne_iff_ne,beq_eq_false_iff_ne] at*);omega):(en==1)=false))),tC (eF (nt (by ((try simp only [List.length_append,List.length_cons,List.length_nil,ct,decide_eq_true_eq,decide_eq_false_iff_not,beq_iff_eq,bne_iff_ne,beq_eq_false_iff_ne] at*);omega):(en==1)=false))),tC (eF (nt (by ((try simp only [List.length_append,List.length_cons,List.length_nil,ct,decide_eq_true_eq,decide_eq_false_iff_not,beq_iff_eq,bne_iff_ne,beq_eq_false_iff_ne] at*);omega):(en==1)=false))),tC (eF (nt (by ((try simp only [List.length_append,List.length_cons,List.length_nil,ct,decide_eq_true_eq,decide_eq_false_iff_not,beq_iff_eq,bne_iff_ne,beq_eq_false_iff_ne] at*);omega):(en==1)=false))),tC (eF (nt (by ((try simp only [List.length_append,List.length_cons,List.length_nil,ct,decide_eq_true_eq,decide_eq_false_iff_not,beq_iff_eq,bne_iff_ne,beq_eq_false_iff_ne] at*);omega):(en==1)=false))),tC (nt (by ((try simp only [List.length_append,List.length_cons,List.length_nil,ct,decide_eq_true_eq,decide_eq_false_iff_not,beq_iff_eq,bne_iff_ne,beq_eq_false_iff_ne] at*);omega):(en==1)=false))]) (by kernel_rfl)).to (by simp [wk])
theorem AG (p:List tU) (en r0 l1 l2:Int) (cx:List Int) (ho:lP p) (hb:(dE p).length≤1099511627776) (he:en=1) (bx:(bD cx).all isByte=true) (lx:(bD cx).length≤256) (hc:bA (bD cx)=some (bD cx)):aE Tryz.prog 12 ([.agg [.int .i8 en,.int .u64 r0,.aj .no 1 (bD cx),.aj .no 3 (dE p),.int .i64 l1],.agg [.int .i8 en,.int .u64 r0,.aj .no 1 (bD cx),.aj .no 3 (dE p),.int .i64 l2]]) (.bool true):=by
 have c0:= @jb (p) ho hb
 exact (aE.ae (d:= .bool (ByteArray.toList (je (bD cx))==ByteArray.toList (je (bD cx)))) mixed Tryz.func12 (by kernel_rfl) ([tC (eF (nt (beq_self_eq_true (en)))),tC (eF (nt (beq_self_eq_true (en)))),tC (eF (nt (beq_self_eq_true (en)))),tC (eF (nt (beq_self_eq_true (en)))),tC (eF (nt (beq_self_eq_true (en)))),.inl,tC (eT (beq_self_eq_true ((↑(List.length (dE p)):Int)))),tC (eT (beq_self_eq_true ((↑(List.length (dE p)):Int)))),tC (eT (beq_self_eq_true ((↑(List.length (dE p)):Int)))),.ret _ _ _ c0,tC (beq_self_eq_true ((↑(List.length (dE p)):Int))),tC (eF (nt (beq_self_eq_true (en)))),tC (nt (beq_self_eq_true (en))),tF,tC (eF (nt (de 1 true (by omega:en=1)))),tC (eF (nt (de 1 true (by omega:en=1))))]++ [tC (eF (nt (de 1 true (by omega:en=1)))),tC (eF (nt (de 1 true (by omega:en=1)))),tC (eF (nt (de 1 true (by omega:en=1)))),tC (eF (nt (de 1 true (by omega:en=1)))),tC (eT (beq_self_eq_true (r0))),tC (eT (beq_self_eq_true (r0))),tC (eT (beq_self_eq_true (r0))),tC (v:=true) bx,tC (eT (beq_self_eq_true (r0))),tC (eT (beq_self_eq_true (r0))),tC (eT (beq_self_eq_true (r0))),tC (v:=true) bx,tC (eT (beq_self_eq_true (r0))),tC (eF (nt (de 1 true (by omega:en=1)))),tC (beq_self_eq_true (r0)),tC (nt (de 1 true (by omega:en=1)))]) (by kernel_rfl)).to (by simp [wk])
abbrev B1 (cb cx an:List Int) (f:Nat):lF×Nat:=eW cb f (vy cx an)
def uH (e:lF):Int:=if e.en=1 then e.m.q0 else 0
abbrev GC (r:lF×Nat):D:= .aA [.agg [.int .i8 r.1.en,.int .u64 (uH r.1),.aj .no 1 (bD r.1.cx),.aj .no 3 (dE r.1.tr),.int .i64 (r.2:Int)],.int .i64 0]
theorem og (cb cx an:List Int) (f:Nat) (hb:gQ cb) (lc:cb.length≤16384) (lx:cx.length≤256) (hf:f≤100000):
  aE Tryz.prog 10 [.aj .no 1 (bD cb),.aj .no 1 (bD cx),.aj .no 1 (wD an),.int .i64 (f:Int)] (GC (eW cb f (vy cx an))):=by
 have hl:=(oe cb f (vy cx an)).1
 cases hR':eW cb f (vy cx an) with
 |mk E lf=>
 rw [hR'] at hl
 have hl':E.cx.length=cx.length:=hl
 have lc':(bD cb).length≤16384:=by rw [aN];exact lc
 have lx':(bD cx).length≤256:=by rw [aN];exact lx
 have lE:(bD E.cx).length≤256:=by rw [aN,hl'];exact lx
 have mE:(Nat.beq (List.length (bD E.cx)) (Int.toNat ((bD E.cx).length:Int))&&List.all (bD E.cx) isByte)=true:=by rw [bL,Int.toNat_natCast];simp
 by_cases he:E.en=0
 ·have:=DW cb cx an f E lf (by omega) (by omega) hb lc' lx' hf hR' (dh _) (dh _) (bL _) (bL _) lE (dh _) (bL _) mE he
  have e0:uH E=0:=by unfold uH;rw [if_neg (by omega)]
  unfold GC
  rw [e0]
  exact this
 ·by_cases h1:E.en=1
  ·have:=DV cb cx an f E lf (by omega) (by omega) hb lc' lx' hf hR' (dh _) (dh _) (bL _) (bL _) lE (dh _) (bL _) mE he h1
   have e0:uH E=E.m.q0:=by unfold uH;rw [if_pos h1]
   unfold GC
   rw [e0]
   exact this
  ·have:=DU cb cx an f E lf (by omega) (by omega) hb lc' lx' hf hR' (dh _) (dh _) (bL _) (bL _) lE (dh _) (bL _) mE he h1
   have e0:uH E=0:=by unfold uH;rw [if_neg h1]
   unfold GC
   rw [e0]
   exact this
theorem FB:aE Tryz.prog 10 [.aj .no 1 [.int .u8 184,.int .u8 5,.int .u8 0,.int .u8 0,.int .u8 0,.int .u8 195],.aj .tight 0 [],.aj .tight 0 [],.int .i64 9] (.aA [.agg [.int .i8 1,.int .u64 5,.aj .no 1 [],.aj .no 3 [],.int .i64 7],.int .i64 0]):=by
 have h:=og [184,5,0,0,0,195] [] [] 9 (by simp [gQ]) (by decide) (by decide) (by decide)
 have e1:(B1 [184,5,0,0,0,195] [] [] 9).1.en=1:=by kernel_rfl
 have e2:(B1 [184,5,0,0,0,195] [] [] 9).1.m.q0=5:=by kernel_rfl
 have e3:(B1 [184,5,0,0,0,195] [] [] 9).1.cx= []:=by kernel_rfl
 have e4:(B1 [184,5,0,0,0,195] [] [] 9).1.tr= []:=by kernel_rfl
 have e5:(B1 [184,5,0,0,0,195] [] [] 9).2=7:=by kernel_rfl
 have e6:uH (B1 [184,5,0,0,0,195] [] [] 9).1=5:=by unfold uH;rw [if_pos e1,e2]
 unfold GC at h
 rw [e1,e3,e4,e5,e6] at h
 exact h.args (by simp [wk,aw,aM,bD,wD])
theorem FA:aE Tryz.prog 10 [.aj .tight 0 [],.aj .tight 0 [],.aj .tight 0 [],.int .i64 9] (.aA [.agg [.int .i8 3,.int .u64 0,.aj .no 1 [],.aj .no 3 [],.int .i64 8],.int .i64 0]):=by
 have h:=og [] [] [] 9 (by simp [gQ]) (by decide) (by decide) (by decide)
 have e1:(B1 [] [] [] 9).1.en=3:=by kernel_rfl
 have e3:(B1 [] [] [] 9).1.cx= []:=by kernel_rfl
 have e4:(B1 [] [] [] 9).1.tr= []:=by kernel_rfl
 have e5:(B1 [] [] [] 9).2=8:=by kernel_rfl
 have e6:uH (B1 [] [] [] 9).1=0:=by unfold uH;rw [e1];rfl
 unfold GC at h
 rw [e1,e3,e4,e5,e6] at h
 exact h.args (by simp [wk,aw,aM,bD,wD])
theorem BX:aE Tryz.prog 10 [.aj .no 1 [.int .u8 184,.int .u8 5,.int .u8 0,.int .u8 0,.int .u8 0,.int .u8 195],.aj .tight 0 [],.aj .tight 0 [],.int .i64 9] (.aA [.agg [.int .i8 1,.int .u64 5,.aj .no 1 [],.aj .no 3 [],.int .i64 7],.int .i64 0]):=FB
theorem BW:aE Tryz.prog 10 [.aj .tight 0 [],.aj .tight 0 [],.aj .tight 0 [],.int .i64 9] (.aA [.agg [.int .i8 3,.int .u64 0,.aj .no 1 [],.aj .no 3 [],.int .i64 8],.int .i64 0]):=FA
theorem vS:aE Tryz.prog 9 ([]) (.bool true):=by
 have c0:=aE.args (as':= [.aj .tight 8 [(xD 1 32 0 0 0 0 5 0),(xD 30 0 0 0 0 0 0 0)]]) (@xz) (by simp [aw,wk,aM])
 have c1:= @BX
 have c2:= @BW
 exact (aE.ae (d:= .bool true) mixed Tryz.func9 (by kernel_rfl) ([.ret _ _ _ c0,.ret _ _ _ c1,.ret _ _ _ c2,tT,tT,tT,tT,tT,tT,tT,tT,tT,tT,tT,tT,tT]++ [tT,tT,tT,tT,tT,tT,tT,.inl,tT,tT,tT,tT]) (by kernel_rfl)).to (by first|(simp [wk];done)|(simp [wk];assumption))
theorem Es (cb cx an:List Int) (f:Int) (h:2000<((bD cb).length:Int)) (h2:((bD cb).length:Int)≤16384):aE Tryz.prog 8 ([.aj .no 1 (bD cb),.aj .no 1 (bD cx),.aj .no 1 (wD an),.int .i64 f]) (.bool true):=by
 exact (aE.ae (d:= .bool true) mixed Tryz.func8 (by kernel_rfl) (List.replicate 3 (tC (eT (a7 2000 (decide_eq_false (by omega:¬(↑(List.length (bD cb)):Int)<2001)))))++ [tC (a7 2000 (decide_eq_false (by omega:¬(↑(List.length (bD cb)):Int)<2001)))]++List.replicate 3 (tC (eF (dC 16384 (decide_eq_true (Int.lt_add_one_of_le h2)))))++ [tC (dC 16384 (decide_eq_true (Int.lt_add_one_of_le h2))),tF,tF,tF,tT,tF,tF,tF,tT]++ [tF,tF,tF,tF,tT]) (by kernel_rfl)).to (by first|(simp [wk];done)|(simp [wk];assumption))
theorem Eu (cb cx an:List Int) (f:Int) (h:20000<((bD cb).length:Int)):aE Tryz.prog 8 ([.aj .no 1 (bD cb),.aj .no 1 (bD cx),.aj .no 1 (wD an),.int .i64 f]) (.bool true):=by
 exact (aE.ae (d:= .bool true) mixed Tryz.func8 (by kernel_rfl) (List.replicate 3 (tC (eT (a7 2000 (l8 2001 (decide_eq_false (by omega:¬(↑(List.length (bD cb)):Int)<20001))))))++ [tC (a7 2000 (l8 2001 (decide_eq_false (by omega:¬(↑(List.length (bD cb)):Int)<20001))))]++List.replicate 3 (tC (eF (dC 16384 (l8 16385 (decide_eq_false (by omega:¬(↑(List.length (bD cb)):Int)<20001))))))++ [tC (dC 16384 (l8 16385 (decide_eq_false (by omega:¬(↑(List.length (bD cb)):Int)<20001))))]++List.replicate 3 (tC (eF (a7 20000 (decide_eq_false (by omega:¬(↑(List.length (bD cb)):Int)<20001)))))++ [tC (a7 20000 (decide_eq_false (by omega:¬(↑(List.length (bD cb)):Int)<20001))),tF,tF,tF,tT]++ [tF,tF,tF,tF,tT]) (by kernel_rfl)).to (by first|(simp [wk];done)|(simp [wk];assumption))
theorem Er (cb cx an:List Int) (f:Int) (h:((bD cb).length:Int)≤2000) (hx:400<((bD cx).length:Int)):aE Tryz.prog 8 ([.aj .no 1 (bD cb),.aj .no 1 (bD cx),.aj .no 1 (wD an),.int .i64 f]) (.bool true):=by
 exact (aE.ae (d:= .bool true) mixed Tryz.func8 (by kernel_rfl) (List.replicate 3 (tC (eT (a7 2000 (decide_eq_true (Int.lt_add_one_of_le h)))))++ [tC (a7 2000 (decide_eq_true (Int.lt_add_one_of_le h))),tT,tT,tT,tF]++List.replicate 3 (tC (eF (a7 20000 (AF 20001 (decide_eq_true (Int.lt_add_one_of_le h))))))++ [tC (a7 20000 (AF 20001 (decide_eq_true (Int.lt_add_one_of_le h))))]++List.replicate 3 (tC (eF (a7 400 (decide_eq_false (by omega:¬(↑(List.length (bD cx)):Int)<401)))))++ [tC (a7 400 (decide_eq_false (by omega:¬(↑(List.length (bD cx)):Int)<401)))]++ [tF,tF,tF,tF,tT]) (by kernel_rfl)).to (by first|(simp [wk];done)|(simp [wk];assumption))
theorem Ew (cb cx an:List Int) (f:Int) (h:((bD cb).length:Int)≤2000) (hx:((bD cx).length:Int)≤400) (ha:400<((wD an).length:Int)):aE Tryz.prog 8 ([.aj .no 1 (bD cb),.aj .no 1 (bD cx),.aj .no 1 (wD an),.int .i64 f]) (.bool true):=by
 exact (aE.ae (d:= .bool true) mixed Tryz.func8 (by kernel_rfl) (List.replicate 3 (tC (eT (a7 2000 (decide_eq_true (Int.lt_add_one_of_le h)))))++ [tC (a7 2000 (decide_eq_true (Int.lt_add_one_of_le h))),tT,tT,tT,tF]++List.replicate 3 (tC (eF (a7 20000 (AF 20001 (decide_eq_true (Int.lt_add_one_of_le h))))))++ [tC (a7 20000 (AF 20001 (decide_eq_true (Int.lt_add_one_of_le h))))]++List.replicate 3 (tC (eF (a7 400 (decide_eq_true (Int.lt_add_one_of_le hx)))))++ [tC (a7 400 (decide_eq_true (Int.lt_add_one_of_le hx)))]++List.replicate 4 (tC (eF (a7 400 (decide_eq_false (by omega:¬(↑(List.length (wD an)):Int)<401)))))++ [tC (a7 400 (decide_eq_false (by omega:¬(↑(List.length (wD an)):Int)<401)))]) (by kernel_rfl)).to (by first|(simp [wk];done)|(simp [wk];assumption))
theorem Et (cb cx an:List Int) (f:Int) (h:((bD cb).length:Int)≤2000) (hx:((bD cx).length:Int)≤400) (ha:((wD an).length:Int)≤400) (hf:3000<f) (hg:f≤640064):aE Tryz.prog 8 ([.aj .no 1 (bD cb),.aj .no 1 (bD cx),.aj .no 1 (wD an),.int .i64 f]) (.bool true):=by
 exact (aE.ae (d:= .bool (decide (f≤640064))) mixed Tryz.func8 (by kernel_rfl) (List.replicate 3 (tC (eT (a7 2000 (decide_eq_true (Int.lt_add_one_of_le h)))))++ [tC (a7 2000 (decide_eq_true (Int.lt_add_one_of_le h))),tT,tT,tT,tF]++List.replicate 3 (tC (eF (a7 20000 (AF 20001 (decide_eq_true (Int.lt_add_one_of_le h))))))++ [tC (a7 20000 (AF 20001 (decide_eq_true (Int.lt_add_one_of_le h))))]++List.replicate 3 (tC (eF (a7 400 (decide_eq_true (Int.lt_add_one_of_le hx)))))++ [tC (a7 400 (decide_eq_true (Int.lt_add_one_of_le hx)))]++List.replicate 3 (tC (eF (a7 400 (decide_eq_true (Int.lt_add_one_of_le ha)))))++List.replicate 2 (tC (eT (a7 3000 (decide_eq_false (by omega:¬f<3001)))))++ [tC (eF (a7 400 (decide_eq_true (Int.lt_add_one_of_le ha)))),tC (a7 3000 (decide_eq_false (by omega:¬f<3001))),tC (a7 400 (decide_eq_true (Int.lt_add_one_of_le ha)))]) (by kernel_rfl)).to (by first|(simp [wk];done)|(simp [wk];assumption))
theorem C5 (cb cx an:List Int) (f:Int) (h:((bD cb).length:Int)≤2000) (hx:((bD cx).length:Int)≤400) (ha:((wD an).length:Int)≤400) (hf:f≤3000):aE Tryz.prog 8 ([.aj .no 1 (bD cb),.aj .no 1 (bD cx),.aj .no 1 (wD an),.int .i64 f]) (.bool false):=by
 exact (aE.ae (d:= .bool false) mixed Tryz.func8 (by kernel_rfl) (List.replicate 3 (tC (eT (a7 2000 (decide_eq_true (Int.lt_add_one_of_le h)))))++ [tC (a7 2000 (decide_eq_true (Int.lt_add_one_of_le h))),tT,tT,tT,tF]++List.replicate 3 (tC (eF (a7 20000 (AF 20001 (decide_eq_true (Int.lt_add_one_of_le h))))))++ [tC (a7 20000 (AF 20001 (decide_eq_true (Int.lt_add_one_of_le h))))]++List.replicate 3 (tC (eF (a7 400 (decide_eq_true (Int.lt_add_one_of_le hx)))))++ [tC (a7 400 (decide_eq_true (Int.lt_add_one_of_le hx)))]++List.replicate 3 (tC (eF (a7 400 (decide_eq_true (Int.lt_add_one_of_le ha)))))++List.replicate 2 (tC (eT (a7 3000 (decide_eq_true (Int.lt_add_one_of_le hf)))))++ [tC (eF (a7 400 (decide_eq_true (Int.lt_add_one_of_le ha)))),tC (a7 3000 (decide_eq_true (Int.lt_add_one_of_le hf))),tC (a7 400 (decide_eq_true (Int.lt_add_one_of_le ha)))]) (by kernel_rfl)).to (by first|(simp [wk];done)|(simp [wk];assumption))
theorem C4 (cb cx an:List Int) (f:Int) (h:((bD cb).length:Int)≤2000) (hx:((bD cx).length:Int)≤400) (ha:((wD an).length:Int)≤400) (hg:640064<f):aE Tryz.prog 8 ([.aj .no 1 (bD cb),.aj .no 1 (bD cx),.aj .no 1 (wD an),.int .i64 f]) (.bool false):=by
 exact (aE.ae (d:= .bool (decide (f≤640064))) mixed Tryz.func8 (by kernel_rfl) (List.replicate 3 (tC (eT (a7 2000 (decide_eq_true (Int.lt_add_one_of_le h)))))++ [tC (a7 2000 (decide_eq_true (Int.lt_add_one_of_le h))),tT,tT,tT,tF]++List.replicate 3 (tC (eF (a7 20000 (AF 20001 (decide_eq_true (Int.lt_add_one_of_le h))))))++ [tC (a7 20000 (AF 20001 (decide_eq_true (Int.lt_add_one_of_le h))))]++List.replicate 3 (tC (eF (a7 400 (decide_eq_true (Int.lt_add_one_of_le hx)))))++ [tC (a7 400 (decide_eq_true (Int.lt_add_one_of_le hx)))]++List.replicate 3 (tC (eF (a7 400 (decide_eq_true (Int.lt_add_one_of_le ha)))))++List.replicate 2 (tC (eT (a7 3000 (l8 3001 (decide_eq_false (by omega:¬f<640065))))))++ [tC (eF (a7 400 (decide_eq_true (Int.lt_add_one_of_le ha)))),tC (a7 3000 (l8 3001 (decide_eq_false (by omega:¬f<640065)))),tC (a7 400 (decide_eq_true (Int.lt_add_one_of_le ha)))]) (by kernel_rfl)).to (by first|(simp [wk];done)|(simp [wk];assumption))
theorem C3 (cb cx an:List Int) (f:Int) (h:16384<((bD cb).length:Int)) (h2:((bD cb).length:Int)≤20000) (hx:400<((bD cx).length:Int)):aE Tryz.prog 8 ([.aj .no 1 (bD cb),.aj .no 1 (bD cx),.aj .no 1 (wD an),.int .i64 f]) (.bool true):=by
 exact (aE.ae (d:= .bool true) mixed Tryz.func8 (by kernel_rfl) (List.replicate 3 (tC (eT (a7 2000 (l8 2001 (decide_eq_false (by omega:¬(↑(List.length (bD cb)):Int)<16385))))))++ [tC (a7 2000 (l8 2001 (decide_eq_false (by omega:¬(↑(List.length (bD cb)):Int)<16385))))]++List.replicate 3 (tC (eF (dC 16384 (decide_eq_false (by omega:¬(↑(List.length (bD cb)):Int)<16385)))))++ [tC (dC 16384 (decide_eq_false (by omega:¬(↑(List.length (bD cb)):Int)<16385)))]++List.replicate 3 (tC (eF (a7 20000 (decide_eq_true (Int.lt_add_one_of_le h2)))))++ [tC (a7 20000 (decide_eq_true (Int.lt_add_one_of_le h2)))]++List.replicate 3 (tC (eF (a7 400 (decide_eq_false (by omega:¬(↑(List.length (bD cx)):Int)<401)))))++ [tC (a7 400 (decide_eq_false (by omega:¬(↑(List.length (bD cx)):Int)<401)))]++ [tF,tF,tF,tF,tT]) (by kernel_rfl)).to (by first|(simp [wk];done)|(simp [wk];assumption))
theorem C7 (cb cx an:List Int) (f:Int) (h:16384<((bD cb).length:Int)) (h2:((bD cb).length:Int)≤20000) (hx:((bD cx).length:Int)≤400) (ha:400<((wD an).length:Int)):aE Tryz.prog 8 ([.aj .no 1 (bD cb),.aj .no 1 (bD cx),.aj .no 1 (wD an),.int .i64 f]) (.bool true):=by
 exact (aE.ae (d:= .bool true) mixed Tryz.func8 (by kernel_rfl) (List.replicate 3 (tC (eT (a7 2000 (l8 2001 (decide_eq_false (by omega:¬(↑(List.length (bD cb)):Int)<16385))))))++ [tC (a7 2000 (l8 2001 (decide_eq_false (by omega:¬(↑(List.length (bD cb)):Int)<16385))))]++List.replicate 3 (tC (eF (dC 16384 (decide_eq_false (by omega:¬(↑(List.length (bD cb)):Int)<16385)))))++ [tC (dC 16384 (decide_eq_false (by omega:¬(↑(List.length (bD cb)):Int)<16385)))]++List.replicate 3 (tC (eF (a7 20000 (decide_eq_true (Int.lt_add_one_of_le h2)))))++ [tC (a7 20000 (decide_eq_true (Int.lt_add_one_of_le h2)))]++List.replicate 3 (tC (eF (a7 400 (decide_eq_true (Int.lt_add_one_of_le hx)))))++ [tC (a7 400 (decide_eq_true (Int.lt_add_one_of_le hx)))]++List.replicate 4 (tC (eF (a7 400 (decide_eq_false (by omega:¬(↑(List.length (wD an)):Int)<401)))))++ [tC (a7 400 (decide_eq_false (by omega:¬(↑(List.length (wD an)):Int)<401)))]) (by kernel_rfl)).to (by first|(simp [wk];done)|(simp [wk];assumption))
theorem C6 (cb cx an:List Int) (f:Int) (h:16384<((bD cb).length:Int)) (h2:((bD cb).length:Int)≤20000) (hx:((bD cx).length:Int)≤400) (ha:((wD an).length:Int)≤400) (hf:3000<f) (hg:f≤640064):aE Tryz.prog 8 ([.aj .no 1 (bD cb),.aj .no 1 (bD cx),.aj .no 1 (wD an),.int .i64 f]) (.bool true):=by
 exact (aE.ae (d:= .bool (decide (f≤640064))) mixed Tryz.func8 (by kernel_rfl) (List.replicate 3 (tC (eT (a7 2000 (l8 2001 (decide_eq_false (by omega:¬(↑(List.length (bD cb)):Int)<16385))))))++ [tC (a7 2000 (l8 2001 (decide_eq_false (by omega:¬(↑(List.length (bD cb)):Int)<16385))))]++List.replicate 3 (tC (eF (dC 16384 (decide_eq_false (by omega:¬(↑(List.length (bD cb)):Int)<16385)))))++ [tC (dC 16384 (decide_eq_false (by omega:¬(↑(List.length (bD cb)):Int)<16385)))]++List.replicate 3 (tC (eF (a7 20000 (decide_eq_true (Int.lt_add_one_of_le h2)))))++ [tC (a7 20000 (decide_eq_true (Int.lt_add_one_of_le h2)))]++List.replicate 3 (tC (eF (a7 400 (decide_eq_true (Int.lt_add_one_of_le hx)))))++ [tC (a7 400 (decide_eq_true (Int.lt_add_one_of_le hx)))]++List.replicate 3 (tC (eF (a7 400 (decide_eq_true (Int.lt_add_one_of_le ha)))))++List.replicate 2 (tC (eT (a7 3000 (decide_eq_false (by omega:¬f<3001)))))++ [tC (eF (a7 400 (decide_eq_true (Int.lt_add_one_of_le ha)))),tC (a7 3000 (decide_eq_false (by omega:¬f<3001))),tC (a7 400 (decide_eq_true (Int.lt_add_one_of_le ha)))]) (by kernel_rfl)).to (by first|(simp [wk];done)|(simp [wk];assumption))
theorem AP (cb cx an:List Int) (f:Int) (h:16384<((bD cb).length:Int)) (h2:((bD cb).length:Int)≤20000) (hx:((bD cx).length:Int)≤400) (ha:((wD an).length:Int)≤400) (hf:f≤3000):aE Tryz.prog 8 ([.aj .no 1 (bD cb),.aj .no 1 (bD cx),.aj .no 1 (wD an),.int .i64 f]) (.bool false):=by
 exact (aE.ae (d:= .bool false) mixed Tryz.func8 (by kernel_rfl) (List.replicate 3 (tC (eT (a7 2000 (l8 2001 (decide_eq_false (by omega:¬(↑(List.length (bD cb)):Int)<16385))))))++ [tC (a7 2000 (l8 2001 (decide_eq_false (by omega:¬(↑(List.length (bD cb)):Int)<16385))))]++List.replicate 3 (tC (eF (dC 16384 (decide_eq_false (by omega:¬(↑(List.length (bD cb)):Int)<16385)))))++ [tC (dC 16384 (decide_eq_false (by omega:¬(↑(List.length (bD cb)):Int)<16385)))]++List.replicate 3 (tC (eF (a7 20000 (decide_eq_true (Int.lt_add_one_of_le h2)))))++ [tC (a7 20000 (decide_eq_true (Int.lt_add_one_of_le h2)))]++List.replicate 3 (tC (eF (a7 400 (decide_eq_true (Int.lt_add_one_of_le hx)))))++ [tC (a7 400 (decide_eq_true (Int.lt_add_one_of_le hx)))]++List.replicate 3 (tC (eF (a7 400 (decide_eq_true (Int.lt_add_one_of_le ha)))))++List.replicate 2 (tC (eT (a7 3000 (decide_eq_true (Int.lt_add_one_of_le hf)))))++ [tC (eF (a7 400 (decide_eq_true (Int.lt_add_one_of_le ha)))),tC (a7 3000 (decide_eq_true (Int.lt_add_one_of_le hf))),tC (a7 400 (decide_eq_true (Int.lt_add_one_of_le ha)))]) (by kernel_rfl)).to (by first|(simp [wk];done)|(simp [wk];assumption))
theorem AO (cb cx an:List Int) (f:Int) (h:16384<((bD cb).length:Int)) (h2:((bD cb).length:Int)≤20000) (hx:((bD cx).length:Int)≤400) (ha:((wD an).length:Int)≤400) (hg:640064<f):aE Tryz.prog 8 ([.aj .no 1 (bD cb),.aj .no 1 (bD cx),.aj .no 1 (wD an),.int .i64 f]) (.bool false):=by
 exact (aE.ae (d:= .bool (decide (f≤640064))) mixed Tryz.func8 (by kernel_rfl) (List.replicate 3 (tC (eT (a7 2000 (l8 2001 (decide_eq_false (by omega:¬(↑(List.length (bD cb)):Int)<16385))))))++ [tC (a7 2000 (l8 2001 (decide_eq_false (by omega:¬(↑(List.length (bD cb)):Int)<16385))))]++List.replicate 3 (tC (eF (dC 16384 (decide_eq_false (by omega:¬(↑(List.length (bD cb)):Int)<16385)))))++ [tC (dC 16384 (decide_eq_false (by omega:¬(↑(List.length (bD cb)):Int)<16385)))]++List.replicate 3 (tC (eF (a7 20000 (decide_eq_true (Int.lt_add_one_of_le h2)))))++ [tC (a7 20000 (decide_eq_true (Int.lt_add_one_of_le h2)))]++List.replicate 3 (tC (eF (a7 400 (decide_eq_true (Int.lt_add_one_of_le hx)))))++ [tC (a7 400 (decide_eq_true (Int.lt_add_one_of_le hx)))]++List.replicate 3 (tC (eF (a7 400 (decide_eq_true (Int.lt_add_one_of_le ha)))))++List.replicate 2 (tC (eT (a7 3000 (l8 3001 (decide_eq_false (by omega:¬f<640065))))))++ [tC (eF (a7 400 (decide_eq_true (Int.lt_add_one_of_le ha)))),tC (a7 3000 (l8 3001 (decide_eq_false (by omega:¬f<640065)))),tC (a7 400 (decide_eq_true (Int.lt_add_one_of_le ha)))]) (by kernel_rfl)).to (by first|(simp [wk];done)|(simp [wk];assumption))
theorem wK (cb cx an:List Int) (f g:Int) (wk0:aE Tryz.prog 9 [] (.bool true)) (hg:aE Tryz.prog 8 [.aj .no 1 (bD cb),.aj .no 1 (bD cx),.aj .no 1 (wD an),.int .i64 f] (.bool true)):aE Tryz.prog 3 ([.aj .no 1 (bD cb),.aj .no 1 (bD cx),.aj .no 1 (wD an),.int .i64 f,.int .i64 g]) (.bool true):=by
 exact (aE.ae (d:= .bool true) mixed Tryz.func3 (by kernel_rfl) [.ret _ _ _ hg,tF,tF,tF,tT,tT,.ret _ _ _ wk0] (by kernel_rfl)).to (by first|(simp [wk];done)|(simp [wk];assumption))
theorem F7 (cb cx an:List Int) (f g:Int) (wk0:aE Tryz.prog 9 [] (.bool true)) (hn:2000<((bD cb).length:Int)) (q:Bool) (hg:aE Tryz.prog 8 [.aj .no 1 (bD cb),.aj .no 1 (bD cx),.aj .no 1 (wD an),.int .i64 f] (.bool q)):aE Tryz.prog 3 ([.aj .no 1 (bD cb),.aj .no 1 (bD cx),.aj .no 1 (wD an),.int .i64 f,.int .i64 g]) (.bool true):=by
 cases q
 ·skip
  exact (aE.ae (d:= .bool true) mixed Tryz.func3 (by kernel_rfl) [.ret _ _ _ hg,tT,tT,tT,tF,tC (a7 2000 (decide_eq_false (by omega:¬(↑(List.length (bD cb)):Int)<2001))),.ret _ _ _ wk0] (by kernel_rfl)).to (by first|(simp [wk];done)|(simp [wk];assumption))
 ·skip
  exact (aE.ae (d:= .bool true) mixed Tryz.func3 (by kernel_rfl) [.ret _ _ _ hg,tF,tF,tF,tT,tT,.ret _ _ _ wk0] (by kernel_rfl)).to (by first|(simp [wk];done)|(simp [wk];assumption))
theorem sV (cb cx an:List Int) (f g:Int) (wk0:aE Tryz.prog 9 [] (.bool true)) (hn:((bD cb).length:Int)≤2000) (hg:aE Tryz.prog 8 [.aj .no 1 (bD cb),.aj .no 1 (bD cx),.aj .no 1 (wD an),.int .i64 f] (.bool false)) (hr1:aE Tryz.prog 10 [.aj .no 1 (bD cb),.aj .no 1 (bD cx),.aj .no 1 (wD an),.int .i64 f] (.aA [.agg [.int .i8 0,.int .u64 0,.aj .tight 0 [],.aj .tight 0 [],.int .i64 0],.int .i64 2])):aE Tryz.prog 3 ([.aj .no 1 (bD cb),.aj .no 1 (bD cx),.aj .no 1 (wD an),.int .i64 f,.int .i64 g]) (.bool true):=by
 exact (aE.ae (d:= .bool true) mixed Tryz.func3 (by kernel_rfl) [.ret _ _ _ hg,tT,tT,tT,tF,tC (a7 2000 (decide_eq_true (Int.lt_add_one_of_le hn))),.ret _ _ _ hr1,tT,.ret _ _ _ wk0] (by kernel_rfl)).to (by first|(simp [wk];done)|(simp [wk];assumption))
theorem Ga (cb cx an:List Int) (f g:Int) (wk0:aE Tryz.prog 9 [] (.bool true)) (hn:((bD cb).length:Int)≤2000) (p t:List tU) (en r0 l1 en2 r2 l2:Int) (c c2:List Int) (ho:lP p) (hb:(dE p).length≤1099511627776) (hg:aE Tryz.prog 8 [.aj .no 1 (bD cb),.aj .no 1 (bD cx),.aj .no 1 (wD an),.int .i64 f] (.bool false)) (f0:0≤f) (f1:f≤3000) (x0:0≤(Int.tmod (IntKind.i64.wrap (Int.tmod g 1001+1001)) 1001)) (x1:(Int.tmod (IntKind.i64.wrap (Int.tmod g 1001+1001)) 1001)≤1000) (hp:((dE p).length:Int)≤((dE (p++t)).length:Int)) (he:en=0) (hl1:l1=0) (hl2:l2≤(Int.tmod (IntKind.i64.wrap (Int.tmod g 1001+1001)) 1001)) (hr1:aE Tryz.prog 10 [.aj .no 1 (bD cb),.aj .no 1 (bD cx),.aj .no 1 (wD an),.int .i64 f] (.aA [.agg [.int .i8 en,.int .u64 r0,.aj .no 1 (bD c),.aj .no 3 (dE p),.int .i64 l1],.int .i64 0])) (hr2:aE Tryz.prog 10 [.aj .no 1 (bD cb),.aj .no 1 (bD cx),.aj .no 1 (wD an),.int .i64 (IntKind.i64.wrap (f+(Int.tmod (IntKind.i64.wrap (Int.tmod g 1001+1001)) 1001)))] (.aA [.agg [.int .i8 en2,.int .u64 r2,.aj .no 1 (bD c2),.aj .no 3 (dE (p++t)),.int .i64 l2],.int .i64 0])):aE Tryz.prog 3 ([.aj .no 1 (bD cb),.aj .no 1 (bD cx),.aj .no 1 (wD an),.int .i64 f,.int .i64 g]) (.bool true):=by
 have c0:= @vH (p) (t) ho hb hp
 exact (aE.ae (d:= .bool true) mixed Tryz.func3 (by kernel_rfl) ([.ret _ _ _ hg,tT,tT,tT,tF,tC (a7 2000 (decide_eq_true (Int.lt_add_one_of_le hn))),.ret _ _ _ hr1,tF,tC (a7 640064 (by ((try simp only [eZ] at*);omega):(decide (IntKind.i64.wrap (f+Int.tmod (IntKind.i64.wrap (Int.tmod g 1001+1001)) 1001)<640065))=true)),.ret _ _ _ hr2,tT,tT,tT,tT,tT,.ret _ _ _ c0]++ [tT,tF,tT,tT,tT,tF]++List.replicate 4 (tC (eF (by ((try simp only [eZ] at*);omega):(decide (l1<0))=false)))++ [tC (by ((try simp only [eZ] at*);omega):(decide (l1<0))=false),tC (by ((try simp only [eZ] at*);omega):(decide (l1>f))=false),tC (de 0 true (by ((try simp only [eZ] at*);omega):en=0))]++List.replicate 3 (tC (eT (de 0 true (by ((try simp only [eZ] at*);omega):l1=0))))++ [tC (eT (de 0 true (by ((try simp only [eZ] at*);omega):l1=0))),tC (de 0 true (by ((try simp only [eZ] at*);omega):l1=0)),tC (eT (by ((try simp only [eZ] at*);omega):(decide (l2≤Int.tmod (IntKind.i64.wrap (Int.tmod g 1001+1001)) 1001))=true)),.ret _ _ _ wk0,tC (by ((try simp only [eZ] at*);omega):(decide (l2≤Int.tmod (IntKind.i64.wrap (Int.tmod g 1001+1001)) 1001))=true)]) (by kernel_rfl)).to (by first|(simp [wk];done)|(simp [wk];assumption))
theorem F9 (cb cx an:List Int) (f g:Int) (wk0:aE Tryz.prog 9 [] (.bool true)) (hn:((bD cb).length:Int)≤2000) (p t:List tU) (en r0 l1 en2 r2 l2:Int) (c c2:List Int) (ho:lP p) (hb:(dE p).length≤1099511627776) (hg:aE Tryz.prog 8 [.aj .no 1 (bD cb),.aj .no 1 (bD cx),.aj .no 1 (wD an),.int .i64 f] (.bool false)) (f0:0≤f) (f1:f≤3000) (x0:0≤(Int.tmod (IntKind.i64.wrap (Int.tmod g 1001+1001)) 1001)) (x1:(Int.tmod (IntKind.i64.wrap (Int.tmod g 1001+1001)) 1001)≤1000) (hl0:0≤l1) (hl1:l1≤f) (hl2:l2=IntKind.i64.wrap (l1+(Int.tmod (IntKind.i64.wrap (Int.tmod g 1001+1001)) 1001))) (he:en=1) (bx:(bD c).all isByte=true) (lx:(bD c).length≤256) (hc:bA (bD c)=some (bD c)) (hr1:aE Tryz.prog 10 [.aj .no 1 (bD cb),.aj .no 1 (bD cx),.aj .no 1 (wD an),.int .i64 f] (.aA [.agg [.int .i8 en,.int .u64 r0,.aj .no 1 (bD c),.aj .no 3 (dE p),.int .i64 l1],.int .i64 0])) (hr2:aE Tryz.prog 10 [.aj .no 1 (bD cb),.aj .no 1 (bD cx),.aj .no 1 (wD an),.int .i64 (IntKind.i64.wrap (f+(Int.tmod (IntKind.i64.wrap (Int.tmod g 1001+1001)) 1001)))] (.aA [.agg [.int .i8 en,.int .u64 r0,.aj .no 1 (bD c),.aj .no 3 (dE p),.int .i64 l2],.int .i64 0])):aE Tryz.prog 3 ([.aj .no 1 (bD cb),.aj .no 1 (bD cx),.aj .no 1 (wD an),.int .i64 f,.int .i64 g]) (.bool true):=by
 have c0:= @jb (p) ho hb
 have c1:= @AG (p) (en) (r0) (l1) (l2) (c) ho hb he bx lx hc
 exact (aE.ae (d:= .bool true) mixed Tryz.func3 (by kernel_rfl) ([.ret _ _ _ hg,tT,tT,tT,tF,tC (a7 2000 (decide_eq_true (Int.lt_add_one_of_le hn))),.ret _ _ _ hr1,tF,tC (a7 640064 (by ((try simp only [eZ] at*);omega):(decide (IntKind.i64.wrap (f+Int.tmod (IntKind.i64.wrap (Int.tmod g 1001+1001)) 1001)<640065))=true)),.ret _ _ _ hr2,tT,tT,tT,tT,tT,.ret _ _ _ c0]++ [tT,tF,tT,tT,tT,tF]++List.replicate 4 (tC (eF (decide_eq_false (Int.not_lt.2 hl0))))++ [tC (decide_eq_false (Int.not_lt.2 hl0)),tC (by ((try simp only [eZ] at*);omega):(decide (l1>f))=false),tC (by ((try simp only [eZ] at*);omega):(en==0)=false),.ret _ _ _ c1,tT,tT]++ [tT,tT,tT,tT,tT,tF,tC (nt (by ((try simp only [eZ] at*);omega):(l2==IntKind.i64.wrap (l1+Int.tmod (IntKind.i64.wrap (Int.tmod g 1001+1001)) 1001))=true)),.ret _ _ _ wk0]) (by kernel_rfl)).to (by first|(simp [wk];done)|(simp [wk];assumption))
theorem F8 (cb cx an:List Int) (f g:Int) (wk0:aE Tryz.prog 9 [] (.bool true)) (hn:((bD cb).length:Int)≤2000) (p t:List tU) (en r0 l1 en2 r2 l2:Int) (c c2:List Int) (ho:lP p) (hb:(dE p).length≤1099511627776) (hg:aE Tryz.prog 8 [.aj .no 1 (bD cb),.aj .no 1 (bD cx),.aj .no 1 (wD an),.int .i64 f] (.bool false)) (f0:0≤f) (f1:f≤3000) (x0:0≤(Int.tmod (IntKind.i64.wrap (Int.tmod g 1001+1001)) 1001)) (x1:(Int.tmod (IntKind.i64.wrap (Int.tmod g 1001+1001)) 1001)≤1000) (hl0:0≤l1) (hl1:l1≤f) (hl2:l2=IntKind.i64.wrap (l1+(Int.tmod (IntKind.i64.wrap (Int.tmod g 1001+1001)) 1001))) (he:en≠0) (h1:en≠1) (hr1:aE Tryz.prog 10 [.aj .no 1 (bD cb),.aj .no 1 (bD cx),.aj .no 1 (wD an),.int .i64 f] (.aA [.agg [.int .i8 en,.int .u64 r0,.aj .no 1 (bD c),.aj .no 3 (dE p),.int .i64 l1],.int .i64 0])) (hr2:aE Tryz.prog 10 [.aj .no 1 (bD cb),.aj .no 1 (bD cx),.aj .no 1 (wD an),.int .i64 (IntKind.i64.wrap (f+(Int.tmod (IntKind.i64.wrap (Int.tmod g 1001+1001)) 1001)))] (.aA [.agg [.int .i8 en,.int .u64 r0,.aj .no 1 (bD c),.aj .no 3 (dE p),.int .i64 l2],.int .i64 0])):aE Tryz.prog 3 ([.aj .no 1 (bD cb),.aj .no 1 (bD cx),.aj .no 1 (wD an),.int .i64 f,.int .i64 g]) (.bool true):=by
 have c0:= @jb (p) ho hb
 have c1:= @AH (p) (en) (r0) (l1) (l2) (bD c) ho hb h1
 exact (aE.ae (d:= .bool true) mixed Tryz.func3 (by kernel_rfl) ([.ret _ _ _ hg,tT,tT,tT,tF,tC (a7 2000 (decide_eq_true (Int.lt_add_one_of_le hn))),.ret _ _ _ hr1,tF,tC (a7 640064 (by ((try simp only [eZ] at*);omega):(decide (IntKind.i64.wrap (f+Int.tmod (IntKind.i64.wrap (Int.tmod g 1001+1001)) 1001)<640065))=true)),.ret _ _ _ hr2,tT,tT,tT,tT,tT,.ret _ _ _ c0]++ [tT,tF,tT,tT,tT,tF]++List.replicate 4 (tC (eF (decide_eq_false (Int.not_lt.2 hl0))))++ [tC (decide_eq_false (Int.not_lt.2 hl0)),tC (by ((try simp only [eZ] at*);omega):(decide (l1>f))=false),tC (by ((try simp only [eZ] at*);omega):(en==0)=false),.ret _ _ _ c1,tT,tT]++ [tT,tT,tT,tT,tT,tF,tC (nt (by ((try simp only [eZ] at*);omega):(l2==IntKind.i64.wrap (l1+Int.tmod (IntKind.i64.wrap (Int.tmod g 1001+1001)) 1001))=true)),.ret _ _ _ wk0]) (by kernel_rfl)).to (by first|(simp [wk];done)|(simp [wk];assumption))
theorem EY (m:ao) (n:Nat):(qf m n).length≤5:=by unfold qf;rw [List.length_take];simp;omega
theorem DN (cb:List Int) (e:lF) (h:lP e.tr):lP (cC cb e).1.tr:=by
 have z:∀e2:lF,e2.tr=e.tr→lP e2.tr:=fun e2 h1=>by rw [h1];exact h
 unfold cC
 split
 ·split
  ·exact z _ rfl
  ·split
   ·split
    ·split
     ·exact z _ rfl
     ·intro x hx
      simp only [List.mem_append,List.mem_singleton] at hx
      rcases hx with hx|rfl
      ·exact h x hx
      ·exact EY _ _
    ·exact z _ rfl
   ·split
    ·split<;>exact z _ rfl
    ·split
     ·split<;>exact z _ rfl
     ·split
      ·split
       ·exact z _ rfl
       ·split<;>exact z _ rfl
      ·split<;>exact z _ rfl
 ·exact z _ rfl
theorem BZ (cb:List Int):∀(f:Nat) (e:lF),lP e.tr→lP (eW cb f e).1.tr
 |0,e,h=>h
 |f+1,e,h=>by
  have hs:=DN cb e h
  rw [eW]
  cases hst:cC cb e with
  |mk e2 b=>
   rw [hst] at hs
   cases b with
   |true=>exact BZ cb f e2 hs
   |false=>exact hs
abbrev Fo (g:Int):Int:=Int.tmod (IntKind.i64.wrap (Int.tmod g 1001+1001)) 1001
theorem FX (g:Int):0≤Fo g∧Fo g≤1000:=by
 have a:=Int.tmod_lt_of_pos g (show (0:Int)<1001 by decide)
 have b:=Int.lt_tmod_of_pos g (show (0:Int)<1001 by decide)
 have hw:IntKind.i64.wrap (Int.tmod g 1001+1001)=Int.tmod g 1001+1001:=by rw [ct];omega
 unfold Fo
 rw [hw]
 have c:=Int.tmod_lt_of_pos (Int.tmod g 1001+1001) (show (0:Int)<1001 by decide)
 have d:=Int.tmod_nonneg (a:=Int.tmod g 1001+1001) 1001 (by omega)
 exact ⟨d,by omega⟩
theorem Gk (cb cx an:List Int) (f:Int) (h:2000<((bD cb).length:Int)):∃q,aE Tryz.prog 8 [.aj .no 1 (bD cb),.aj .no 1 (bD cx),.aj .no 1 (wD an),.int .i64 f] (.bool q):=by
 by_cases h1:((bD cb).length:Int)≤16384
 ·exact ⟨_,Es cb cx an f h h1⟩
 by_cases h2:20000<((bD cb).length:Int)
 ·exact ⟨_,Eu cb cx an f h2⟩
 by_cases hx:400<((bD cx).length:Int)
 ·exact ⟨_,C3 cb cx an f (by omega) (by omega) hx⟩
 by_cases ha:400<((wD an).length:Int)
 ·exact ⟨_,C7 cb cx an f (by omega) (by omega) (by omega) ha⟩
 by_cases hf:f≤3000
 ·exact ⟨_,AP cb cx an f (by omega) (by omega) (by omega) (by omega) hf⟩
 by_cases hg:f≤640064
 ·exact ⟨_,C6 cb cx an f (by omega) (by omega) (by omega) (by omega) (by omega) hg⟩
 ·exact ⟨_,AO cb cx an f (by omega) (by omega) (by omega) (by omega) (by omega)⟩
theorem CP (cb cx an:List Int) (hb:gQ cb) (f g:Int):aE Tryz.prog 3 [.aj .no 1 (bD cb),.aj .no 1 (bD cx),.aj .no 1 (wD an),.int .i64 f,.int .i64 g] (.bool true):=by
 have W:=vS
 by_cases hn:2000<((bD cb).length:Int)
 ·obtain ⟨q,hq⟩:=Gk cb cx an f hn
  exact F7 cb cx an f g W hn q hq
 have hn':((bD cb).length:Int)≤2000:=by omega
 by_cases hx:400<((bD cx).length:Int)
 ·exact wK cb cx an f g W (Er cb cx an f hn' hx)
 by_cases ha:400<((wD an).length:Int)
 ·exact wK cb cx an f g W (Ew cb cx an f hn' (by omega) ha)
 have lc:(bD cb).length≤16384:=by omega
 by_cases hf:f≤3000
 case neg=>
  by_cases hg:f≤640064
  ·exact wK cb cx an f g W (Et cb cx an f hn' (by omega) (by omega) (by omega) hg)
  ·have G:=C4 cb cx an f hn' (by omega) (by omega) (by omega)
   by_cases lx:(bD cx).length≤256
   ·exact sV cb cx an f g W hn' G (DT cb cx (wD an) f (dh _) (dh _) (bL _) (bL _) lc lx (by omega))
   ·exact sV cb cx an f g W hn' G (yb cb cx (wD an) f (dh _) (dh _) (bL _) (bL _) lc (by omega))
 have G:=C5 cb cx an f hn' (by omega) (by omega) hf
 by_cases lx:(bD cx).length≤256
 case neg=>exact sV cb cx an f g W hn' G (yb cb cx (wD an) f (dh _) (dh _) (bL _) (bL _) lc (by omega))
 by_cases f0:0≤f
 case neg=>exact sV cb cx an f g W hn' G (DS cb cx (wD an) f (dh _) (dh _) (bL _) (bL _) lc lx (by omega))
 obtain ⟨x0,x1⟩:=FX g
 obtain ⟨n,rfl⟩:=Int.eq_ofNat_of_zero_le f0
 obtain ⟨M,hM⟩:=Int.eq_ofNat_of_zero_le x0
 have hw:IntKind.i64.wrap ((n:Int)+Fo g)=((n+M:Nat):Int):=by rw [hM,ct];omega
 have lc2:cb.length≤16384:=by rw [aN] at lc;exact lc
 have lx2:cx.length≤256:=by rw [aN] at lx;exact lx
 have R1:=og cb cx an n hb lc2 lx2 (by omega)
 have R2:=og cb cx an (n+M) hb lc2 lx2 (by omega)
 obtain ⟨k1,⟨t,k2⟩,k3,k4⟩:=uw cb M n (vy cx an) rfl
 obtain ⟨c1,c2⟩:=oe cb n (vy cx an)
 have ho:=BZ cb n (vy cx an) (fun _ h=>by cases h)
 cases hr:eW cb n (vy cx an) with
 |mk E l=>
 cases hr2:eW cb (n+M) (vy cx an) with
 |mk E2 l2=>
 rw [hr] at R1 k1 k2 k3 k4 c1 c2 ho
 rw [hr2] at R2 k2 k3 k4
 simp only [] at k1 k2 k3 k4 c1 c2 ho
 have c1':E.cx.length=cx.length:=c1
 have c2':E.tr.length≤n:=by
  have:E.tr.length≤0+n:=c2
  omega
 have hlen:(dE E.tr).length≤1099511627776:=by simp [dE];omega
 by_cases he:E.en=0
 ·obtain ⟨q1,q2⟩:=k3 he
  have R2':aE Tryz.prog 10 [.aj .no 1 (bD cb),.aj .no 1 (bD cx),.aj .no 1 (wD an),.int .i64 (IntKind.i64.wrap ((n:Int)+Fo g))] (.aA [.agg [.int .i8 E2.en,.int .u64 (uH E2),.aj .no 1 (bD E2.cx),.aj .no 3 (dE (E.tr++t)),.int .i64 (l2:Int)],.int .i64 0]):=by
   rw [hw,← k2];exact R2
  exact Ga cb cx an n g W hn' E.tr t E.en (uH E) l E2.en (uH E2) l2 E.cx E2.cx ho hlen G f0 hf x0 x1 (by simp [dE];omega) he (by rw [q1];rfl) (by show (l2:Int)≤Fo g;omega) R1 R2'
 ·have q:=k4 he
  injection q with q1 q2
  subst q1
  subst q2
  have R2':aE Tryz.prog 10 [.aj .no 1 (bD cb),.aj .no 1 (bD cx),.aj .no 1 (wD an),.int .i64 (IntKind.i64.wrap ((n:Int)+Fo g))] (.aA [.agg [.int .i8 E2.en,.int .u64 (uH E2),.aj .no 1 (bD E2.cx),.aj .no 3 (dE E2.tr),.int .i64 ((l+M:Nat):Int)],.int .i64 0]):=by
   rw [hw];exact R2
  have hl2:((l+M:Nat):Int)=IntKind.i64.wrap ((l:Int)+Fo g):=by rw [hM,ct];omega
  have lE:(bD E2.cx).length≤256:=by rw [aN,c1'];exact lx2
  by_cases h1:E2.en=1
  ·exact F9 cb cx an n g W hn' E2.tr [] E2.en (uH E2) l 0 0 ((l+M:Nat):Int) E2.cx [] ho hlen G f0 hf x0 x1 (by omega) (by omega) hl2 h1 (bL _) lE (dh _) R1 R2'
  ·exact F8 cb cx an n g W hn' E2.tr [] E2.en (uH E2) l 0 0 ((l+M:Nat):Int) E2.cx [] ho hlen G f0 hf x0 x1 (by omega) (by omega) hl2 he h1 R1 R2'
end Go.Proofs.YtbfpahigdpigpaaGreat
