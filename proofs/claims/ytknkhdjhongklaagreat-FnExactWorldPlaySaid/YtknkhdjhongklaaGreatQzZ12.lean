/- The law FnExactWorldPlay: for every input it returns true, and what came in reads as it did. No condition. -/
import Derived.Test.YtknkhdjhongklaaGreatQz6
set_option linter.unusedSimpArgs false
set_option linter.unusedVariables false
set_option maxRecDepth 100000
namespace Go.Proofs.YtknkhdjhongklaaGreat
section
open Go.RowKit Go.ChangeShapes Go.WideShapes Go.ChangeAt
theorem vX (v0 v1:Value) (W:World) (h0:∃(z:Int) (ls:List Lk),ls.length≤maxLen∧∀g,Qo W v0 (.agg [.im (iI z),.im (.sl g .lk ls)])) (h1:∃es:List Ev,es.length≤maxLen∧∀g,Qo W v1 (.im (.sl g .ev es))):Holds 5 #[v0,v1] W:=by
  obtain ⟨z,ls,hl,o0⟩:=h0
  obtain ⟨es,he,o1⟩:=h1
  have fit:∀{α:Type} {l:List α},l.length≤maxLen→l.length≤9223372036854775807:=fun h=>by unfold maxLen at h;omega
  exact iQ (z,ls) es (vK (z,ls) (fit hl)) vJ (vQ es (fit he)) vR vS vT vW vV rI vH vI rG rH (fun _ h=>h) (vU _ _).fv W v0 (iP (o0 false)) v1 (P0 (o1 false))
set_option maxHeartbeats 800000 in
set_option maxRecDepth 100000 in
theorem vY (os:Os) (started:os.Started) (H:Type) (enc:TypeId×Value→H) :
    ReturnsInHanded {} Tryz.checked os 5 .any (Rows.fnExactWorldPlaySpec.pre6 enc Tryz.prog Tryz.f5 Rows.fnExactWorldPlayRow.domain false) (Rows.fnExactWorldPlaySpec.post enc Tryz.prog Tryz.f5 false true false false):=by
  refine returnsInHanded_of_change (C:=Tryz.checked) fI started (by kernel_rfl) Tryz.func5
    (ChangeSpec.witness6 (enc:=enc) (C:=Tryz.checked) false ⟨#[],#[.agg #[.int .i64 0,.slice none 0 0],.slice none 0 0],[]⟩ 8 (by kernel_rfl) (by kernel_rfl) (by kernel_rfl) (by kernel_rfl)) ?_
  intro W base args ds gs before hval0 hW _ _
  have hval:∀(j:Nat) t v,Tryz.f5.params[j]? =some t→args[j]? =some v→Value.okWide Tryz.prog W .any base t v:=hval0
  have hW':=hW
  obtain ⟨p,q,hA0,hV,rfl,_,_⟩:=hW
  have hA:DataW.TrodAll enc Tryz.prog W 0 (fun _=>true) true Tryz.f5.params.toList args.toList ds p:=hA0
  rw [Tryz.params5] at hA hval
  obtain ⟨v0,vs0,d0,ds0,p0,q0,hargs,rfl,rfl,h0,r0⟩:=trodAll_cons hA
  obtain ⟨v1,vs1,d1,ds1,p1,q1,rfl,rfl,rfl,h1,r1⟩:=trodAll_cons r0
  obtain ⟨rfl,rfl,rfl⟩:=trodAll_nil r1
  obtain rfl:args= #[v0,v1]:=by cases args;simp_all
  obtain ⟨rfl,rfl⟩:=trodVars_none hV
  clear hA0 hval0
  simp only [List.append_nil] at hW'
  have hlt:∀x∈p0++(p1),x.block<W.heap.size:=fun x hx=>by simpa using hW'.lt x hx
  have k0:=fun (W':World) (hb:Below W.heap.size W W')=>Below.trod XY (by kernel_rfl) (oT (by kernel_rfl)) h0 hb (fun x hx=>hlt x (by simp [hx]))
  have k1:=fun (W':World) (hb:Below W.heap.size W W')=>Below.trod XY (by kernel_rfl) (oT (by kernel_rfl)) h1 hb (fun x hx=>hlt x (by simp [hx]))
  refine (vX v0 v1 W (fR (hval 0 24 v0 rfl rfl) h0) (iO (hval 1 48 v1 rfl rfl) h1)).mono fun e W' ⟨he,hb⟩=>?_
  subst he
  have hargs:=(trodAll_cons_mk (k0 _ hb) (trodAll_cons_mk (k1 _ hb) trodAll_mk0))
  simp only [List.append_nil] at hargs
  exact ⟨_,rfl,_,_,_,[],_,[],hW',trodAll_mk1 (shut_bool Tryz.underlying4 _),hargs,rfl,hb.frame _,fun h=>by cases h⟩
theorem FnExactWorldPlay_holds:Rows.FnExactWorldPlaySaid :=
  OpenClaim.holds_of_wide 5 Tryz.f5 rfl rfl rfl rfl rfl rfl rfl ⟨rfl,rfl,rfl,rfl,rfl⟩ rfl rfl rfl rfl rfl (by kernel_rfl) Tryz.func5 (by kernel_rfl)
    (oT (by kernel_rfl)) (by unfold Func.isWrapper;first|(rw [if_pos (by decide +kernel)];kernel_rfl)|(rw [if_neg (by decide +kernel)];exact ⟨rfl,rfl⟩))
    (fun os started H enc _=>vY os started H enc)
#print axioms FnExactWorldPlay_holds
end
end Go.Proofs.YtknkhdjhongklaaGreat
