/- The law FnExactWorldCalm: for every input it returns true, and what came in reads as it did. No condition. -/
import Derived.Test.YtknkhdjhongklaaGreatQy7
set_option linter.unusedSimpArgs false
set_option linter.unusedVariables false
set_option maxRecDepth 100000
namespace Go.Proofs.YtknkhdjhongklaaGreat
section
open Go.RowKit Go.ChangeShapes Go.WideShapes Go.ChangeAt
theorem yAn (v0:Value) (W:World) (h0:∃(n:Int) (ls:List Lk) (up:List Bool) (sq:List Int) (db:List (List Ls)) (net:List Pk),(ls.length≤maxLen∧up.length≤maxLen∧sq.length≤maxLen∧db.length≤maxLen∧net.length≤maxLen∧(∀d∈db,d.length≤maxLen∧∀l∈d,l.e.length≤maxLen)∧∀p∈net,p.p.e.length≤maxLen)∧∀g,Kp W v0 (.agg [.im (iI n),.im (.sl g .lk ls),.im (.sl g .bool up),.im (.sl g .int sq),.im (.sl g .db db),.im (.sl g .pk net)])):Holds 6 #[v0] W:=by
  obtain ⟨n,ls,up,sq,db,net,⟨h1,h2,h3,h4,h5,h6,h7⟩,o0⟩:=h0
  have fit:∀{α:Type} {l:List α},l.length≤maxLen→l.length≤9223372036854775807:=fun h=>by unfold maxLen at h;omega
  have hm:FM (n,ls,up,sq,db,net):=⟨fit h1,fit h2,fit h3,fit h4,fit h5,fun d hd=>⟨fit (h6 d hd).1,fun l hl=>fit ((h6 d hd).2 l hl)⟩,fun p hp=>fit (h7 p hp)⟩
  exact rG (n,ls,up,sq,db,net) (JY _ hm) IY yAm yAl GY FY yAd (fun A h=>⟨h.fv,(yAk A).fv⟩) W v0 (QS (o0 false))
set_option maxHeartbeats 800000 in
set_option maxRecDepth 100000 in
theorem yAo (os:Os) (started:os.Started) (H:Type) (enc:TypeId×Value→H) :
    ReturnsInHanded {} Tryz.checked os 6 .any (Rows.fnExactWorldCalmSpec.pre6 enc Tryz.prog Tryz.f6 Rows.fnExactWorldCalmRow.domain false) (Rows.fnExactWorldCalmSpec.post enc Tryz.prog Tryz.f6 false true false false):=by
  refine returnsInHanded_of_change (C:=Tryz.checked) BS started (by kernel_rfl) Tryz.func6
    (ChangeSpec.witness6 (enc:=enc) (C:=Tryz.checked) false ⟨#[],#[.agg #[.int .i64 0,.slice none 0 0,.slice none 0 0,.slice none 0 0,.slice none 0 0,.slice none 0 0]],[]⟩ 8 (by kernel_rfl) (by kernel_rfl) (by kernel_rfl) (by kernel_rfl)) ?_
  intro W base args ds gs before hval0 hW _ _
  have hval:∀(j:Nat) t v,Tryz.f6.params[j]? =some t→args[j]? =some v→Value.okWide Tryz.prog W .any base t v:=hval0
  have hW':=hW
  obtain ⟨p,q,hA0,hV,rfl,_,_⟩:=hW
  have hA:DataW.TrodAll enc Tryz.prog W 0 (fun _=>true) true Tryz.f6.params.toList args.toList ds p:=hA0
  rw [Tryz.params6] at hA hval
  obtain ⟨v0,vs0,d0,ds0,p0,q0,hargs,rfl,rfl,h0,r0⟩:=trodAll_cons hA
  obtain ⟨rfl,rfl,rfl⟩:=trodAll_nil r0
  obtain rfl:args= #[v0]:=by cases args;simp_all
  obtain ⟨rfl,rfl⟩:=trodVars_none hV
  clear hA0 hval0
  simp only [List.append_nil] at hW'
  have hlt:∀x∈p0,x.block<W.heap.size:=fun x hx=>by simpa using hW'.lt x hx
  have k0:=fun (W':World) (hb:Below W.heap.size W W')=>Below.trod VI (by kernel_rfl) (oT (by kernel_rfl)) h0 hb (fun x hx=>hlt x hx)
  refine (yAn v0 W (CS (hval 0 30 v0 rfl rfl) h0)).mono fun e W' ⟨he,hb⟩=>?_
  subst he
  have hargs:=(trodAll_cons_mk (k0 _ hb) trodAll_mk0)
  simp only [List.append_nil] at hargs
  exact ⟨_,rfl,_,_,_,[],_,[],hW',trodAll_mk1 (shut_bool Tryz.underlying4 _),hargs,rfl,hb.frame _,fun h=>by cases h⟩
theorem FnExactWorldCalm_holds:Rows.FnExactWorldCalmSaid :=
  OpenClaim.holds_of_wide 6 Tryz.f6 rfl rfl rfl rfl rfl rfl rfl ⟨rfl,rfl,rfl,rfl,rfl⟩ rfl rfl rfl rfl rfl (by kernel_rfl) Tryz.func6 (by kernel_rfl)
    (oT (by kernel_rfl)) (by unfold Func.isWrapper;first|(rw [if_pos (by decide +kernel)];kernel_rfl)|(rw [if_neg (by decide +kernel)];exact ⟨rfl,rfl⟩))
    (fun os started H enc _=>yAo os started H enc)
#print axioms FnExactWorldCalm_holds
end
end Go.Proofs.YtknkhdjhongklaaGreat
