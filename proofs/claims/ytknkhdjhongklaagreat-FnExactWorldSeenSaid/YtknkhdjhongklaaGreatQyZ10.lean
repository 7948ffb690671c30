/- The law FnExactWorldSeen: for every input it returns true, and what came in reads as it did. No condition. -/
import Derived.Test.YtknkhdjhongklaaGreatQy7
set_option linter.unusedSimpArgs false
set_option linter.unusedVariables false
set_option maxRecDepth 100000
namespace Go.Proofs.YtknkhdjhongklaaGreat
section
open Go.RowKit Go.ChangeShapes Go.WideShapes Go.ChangeAt
theorem yAB (v0 v1:Value) (W:World) (h0:∃(n:Int) (ls:List Lk) (up:List Bool) (sq:List Int) (db:List (List Ls)) (net:List Pk),(ls.length≤maxLen∧up.length≤maxLen∧sq.length≤maxLen∧db.length≤maxLen∧net.length≤maxLen∧(∀d∈db,d.length≤maxLen∧∀l∈d,l.e.length≤maxLen)∧∀p∈net,p.p.e.length≤maxLen)∧∀g,Kp W v0 (.agg [.im (iI n),.im (.sl g .lk ls),.im (.sl g .bool up),.im (.sl g .int sq),.im (.sl g .db db),.im (.sl g .pk net)])) (h1:∃z:Int,(Lit.int .i64 z).wf=true∧Kp W v1 (.im (iI z))):Holds 4 #[v0,v1] W:=by
  obtain ⟨n,ls,up,sq,db,net,⟨g1,g2,g3,g4,g5,g6,g7⟩,o0⟩:=h0
  obtain ⟨z0,_,o1⟩:=h1
  have o1:Ri W _ _ (iI z0) v1:=o1
  cases o1
  have fit:∀{α:Type} {l:List α},l.length≤maxLen→l.length≤9223372036854775807:=fun h=>by unfold maxLen at h;omega
  have hm:FM (n,ls,up,sq,db,net):=⟨fit g1,fit g2,fit g3,fit g4,fit g5,fun d hd=>⟨fit (g6 d hd).1,fun l hl=>fit ((g6 d hd).2 l hl)⟩,fun p hp=>fit (g7 p hp)⟩
  exact yAA z0 (n,ls,up,sq,db,net) (JY _ hm) IY (yAx z0) (yAw z0) GY FY iB iD iC (fun A h=>⟨h.fv,yAv z0 A⟩) W v0 (QS (o0 false))
set_option maxHeartbeats 800000 in
set_option maxRecDepth 100000 in
theorem yAC (os:Os) (started:os.Started) (H:Type) (enc:TypeId×Value→H) :
    ReturnsInHanded {} Tryz.checked os 4 .any (Rows.fnExactWorldSeenSpec.pre6 enc Tryz.prog Tryz.f4 Rows.fnExactWorldSeenRow.domain false) (Rows.fnExactWorldSeenSpec.post enc Tryz.prog Tryz.f4 false true false false):=by
  refine returnsInHanded_of_change (C:=Tryz.checked) BS started (by kernel_rfl) Tryz.func4
    (ChangeSpec.witness6 (enc:=enc) (C:=Tryz.checked) false ⟨#[],#[.agg #[.int .i64 0,.slice none 0 0,.slice none 0 0,.slice none 0 0,.slice none 0 0,.slice none 0 0],.int .i64 0],[]⟩ 8 (by kernel_rfl) (by kernel_rfl) (by kernel_rfl) (by kernel_rfl)) ?_
  intro W base args ds gs before hval0 hW _ _
  have hval:∀(j:Nat) t v,Tryz.f4.params[j]? =some t→args[j]? =some v→Value.okWide Tryz.prog W .any base t v:=hval0
  have hW':=hW
  obtain ⟨p,q,hA0,hV,rfl,_,_⟩:=hW
  have hA:DataW.TrodAll enc Tryz.prog W 0 (fun _=>true) true Tryz.f4.params.toList args.toList ds p:=hA0
  rw [Tryz.params4] at hA hval
  obtain ⟨v0,vs0,d0,ds0,p0,q0,hargs,rfl,rfl,h0,r0⟩:=trodAll_cons hA
  obtain ⟨v1,vs1,d1,ds1,p1,q1,rfl,rfl,rfl,h1,r1⟩:=trodAll_cons r0
  obtain ⟨rfl,rfl,rfl⟩:=trodAll_nil r1
  obtain rfl:args= #[v0,v1]:=by cases args;simp_all
  obtain ⟨rfl,rfl⟩:=trodVars_none hV
  clear hA0 hval0
  simp only [List.append_nil] at hW'
  have hlt:∀x∈p0++(p1),x.block<W.heap.size:=fun x hx=>by simpa using hW'.lt x hx
  have k0:=fun (W':World) (hb:Below W.heap.size W W')=>Below.trod VI (by kernel_rfl) (oT (by kernel_rfl)) h0 hb (fun x hx=>hlt x (by simp [hx]))
  have k1:=fun (W':World) (hb:Below W.heap.size W W')=>Below.trod VI (by kernel_rfl) (oT (by kernel_rfl)) h1 hb (fun x hx=>hlt x (by simp [hx]))
  refine (yAB v0 v1 W (CS (hval 0 30 v0 rfl rfl) h0) (pJ (hval 1 3 v1 rfl rfl) h1)).mono fun e W' ⟨he,hb⟩=>?_
  subst he
  have hargs:=(trodAll_cons_mk (k0 _ hb) (trodAll_cons_mk (k1 _ hb) trodAll_mk0))
  simp only [List.append_nil] at hargs
  exact ⟨_,rfl,_,_,_,[],_,[],hW',trodAll_mk1 (shut_bool Tryz.underlying4 _),hargs,rfl,hb.frame _,fun h=>by cases h⟩
theorem FnExactWorldSeen_holds:Rows.FnExactWorldSeenSaid :=
  OpenClaim.holds_of_wide 4 Tryz.f4 rfl rfl rfl rfl rfl rfl rfl ⟨rfl,rfl,rfl,rfl,rfl⟩ rfl rfl rfl rfl rfl (by kernel_rfl) Tryz.func4 (by kernel_rfl)
    (oT (by kernel_rfl)) (by unfold Func.isWrapper;first|(rw [if_pos (by decide +kernel)];kernel_rfl)|(rw [if_neg (by decide +kernel)];exact ⟨rfl,rfl⟩))
    (fun os started H enc _=>yAC os started H enc)
#print axioms FnExactWorldSeen_holds
end
end Go.Proofs.YtknkhdjhongklaaGreat
