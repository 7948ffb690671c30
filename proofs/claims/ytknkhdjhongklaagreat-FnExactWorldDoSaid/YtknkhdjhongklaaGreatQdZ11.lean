/- The law FnExactWorldDo: for every input it returns true, and what came in reads as it did. No condition. -/
import Derived.Test.YtknkhdjhongklaaGreatQd6
set_option linter.unusedSimpArgs false
set_option linter.unusedVariables false
set_option maxRecDepth 100000
namespace Go.Proofs.YtknkhdjhongklaaGreat
section
open Go.RowKit Go.ChangeShapes Go.WideShapes Go.ChangeAt
theorem yAu (v0 v1:Value) (W:World) (h0:∃(n:Int) (ls:List Lk) (up:List Bool) (sq:List Int) (db:List (List Ls)) (net:List Pk),(ls.length≤maxLen∧up.length≤maxLen∧sq.length≤maxLen∧db.length≤maxLen∧net.length≤maxLen∧(∀d∈db,d.length≤maxLen∧∀l∈d,l.e.length≤maxLen)∧∀p∈net,p.p.e.length≤maxLen)∧∀g,Nv W v0 (.agg [.im (iI n),.im (.sl g .lk ls),.im (.sl g .bool up),.im (.sl g .int sq),.im (.sl g .db db),.im (.sl g .pk net)])) (hE:∃k a:Int,Nv W v1 (.agg [.im (iI k),.im (iI a)])):Holds 7 #[v0,v1] W:=by
  obtain ⟨n,ls,up,sq,db,net,⟨h1,h2,h3,h4,h5,h6,h7⟩,o0⟩:=h0
  obtain ⟨k,a,o1⟩:=hE
  obtain rfl:=pN o1
  have fit:∀{α:Type} {l:List α},l.length≤maxLen→l.length≤9223372036854775807:=fun h=>by unfold maxLen at h;omega
  have hm:FM (n,ls,up,sq,db,net):=⟨fit h1,fit h2,fit h3,fit h4,fit h5,fun d hd=>⟨fit (h6 d hd).1,fun l hl=>fit ((h6 d hd).2 l hl)⟩,fun p hp=>fit (h7 p hp)⟩
  exact pW k a (n,ls,up,sq,db,net) (yAi _ hm) yAh yAq yAs yAt yAr yAg yAe yAf (fun A h=>⟨h.fv,(yAo k a A).fv⟩) W v0 (pO (o0 false))
set_option maxHeartbeats 800000 in
set_option maxRecDepth 100000 in
theorem yAv (os:Os) (started:os.Started) (H:Type) (enc:TypeId×Value→H) :
    ReturnsInHanded {} Tryz.checked os 7 .any (Rows.fnExactWorldDoSpec.pre6 enc Tryz.prog Tryz.f7 Rows.fnExactWorldDoRow.domain false) (Rows.fnExactWorldDoSpec.post enc Tryz.prog Tryz.f7 false true false false):=by
  refine returnsInHanded_of_change (C:=Tryz.checked) nK started (by kernel_rfl) Tryz.func7
    (ChangeSpec.witness6 (enc:=enc) (C:=Tryz.checked) false ⟨#[],#[.agg #[.int .i64 0,.slice none 0 0,.slice none 0 0,.slice none 0 0,.slice none 0 0,.slice none 0 0],.agg #[.int .i64 0,.int .i64 0]],[]⟩ 8 (by kernel_rfl) (by kernel_rfl) (by kernel_rfl) (by kernel_rfl)) ?_
  intro W base args ds gs before hval0 hW _ _
  have hval:∀(j:Nat) t v,Tryz.f7.params[j]? =some t→args[j]? =some v→Value.okWide Tryz.prog W .any base t v:=hval0
  have hW':=hW
  obtain ⟨p,q,hA0,hV,rfl,_,_⟩:=hW
  have hA:DataW.TrodAll enc Tryz.prog W 0 (fun _=>true) true Tryz.f7.params.toList args.toList ds p:=hA0
  rw [Tryz.params7] at hA hval
  obtain ⟨v0,vs0,d0,ds0,p0,q0,hargs,rfl,rfl,h0,r0⟩:=trodAll_cons hA
  obtain ⟨v1,vs1,d1,ds1,p1,q1,rfl,rfl,rfl,h1,r1⟩:=trodAll_cons r0
  obtain ⟨rfl,rfl,rfl⟩:=trodAll_nil r1
  obtain rfl:args= #[v0,v1]:=by cases args;simp_all
  obtain ⟨rfl,rfl⟩:=trodVars_none hV
  clear hA0 hval0
  simp only [List.append_nil] at hW'
  have hlt:∀x∈p0++(p1),x.block<W.heap.size:=fun x hx=>by simpa using hW'.lt x hx
  have k0:=fun (W':World) (hb:Below W.heap.size W W')=>Below.trod K7 (by kernel_rfl) (oT (by kernel_rfl)) h0 hb (fun x hx=>hlt x (by simp [hx]))
  have k1:=fun (W':World) (hb:Below W.heap.size W W')=>Below.trod K7 (by kernel_rfl) (oT (by kernel_rfl)) h1 hb (fun x hx=>hlt x (by simp [hx]))
  refine (yAu v0 v1 W (nZ (hval 0 30 v0 rfl rfl) h0) (pM (hval 1 61 v1 rfl rfl) h1)).mono fun e W' ⟨he,hb⟩=>?_
  subst he
  have hargs:=(trodAll_cons_mk (k0 _ hb) (trodAll_cons_mk (k1 _ hb) trodAll_mk0))
  simp only [List.append_nil] at hargs
  exact ⟨_,rfl,_,_,_,[],_,[],hW',trodAll_mk1 (shut_bool Tryz.underlying4 _),hargs,rfl,hb.frame _,fun h=>by cases h⟩
theorem FnExactWorldDo_holds:Rows.FnExactWorldDoSaid :=
  OpenClaim.holds_of_wide 7 Tryz.f7 rfl rfl rfl rfl rfl rfl rfl ⟨rfl,rfl,rfl,rfl,rfl⟩ rfl rfl rfl rfl rfl (by kernel_rfl) Tryz.func7 (by kernel_rfl)
    (oT (by kernel_rfl)) (by unfold Func.isWrapper;first|(rw [if_pos (by decide +kernel)];kernel_rfl)|(rw [if_neg (by decide +kernel)];exact ⟨rfl,rfl⟩))
    (fun os started H enc _=>yAv os started H enc)
#print axioms FnExactWorldDo_holds
end
end Go.Proofs.YtknkhdjhongklaaGreat
