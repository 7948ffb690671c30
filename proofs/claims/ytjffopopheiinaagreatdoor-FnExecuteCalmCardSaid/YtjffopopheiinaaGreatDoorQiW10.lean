/- The law FnExecuteCalm: for every input it returns true, and what came in reads as it did. -/
import Derived.Test.YtjffopopheiinaaGreatDoorQi7
set_option linter.unusedSimpArgs false
set_option linter.unusedVariables false
set_option maxRecDepth 100000
namespace Go.Proofs.YtjffopopheiinaaGreatDoor
section
open Go.RowKit Go.ChangeShapes Go.WideShapes Go.ChangeAt
theorem yC3 (v0:Value) (W:World) (hT:Jf W [] []) (h0:∃zs:List Int,zs.length≤maxLen∧(∀z∈zs,0≤z∧z<256)∧∀g,Dn W v0 (.im (.sl g .u8 zs))):Holds 12 #[v0] W:=by
  obtain ⟨zs,_,hz,ho⟩:=h0
  exact Uq (args:=[v0]) zMv (s:=(zs,())) (r:=(true,())) (yB8 hz) (ds:=[.im (.sl true .u8 zs)]) rfl rfl (F2.cons (ho true) F2.nil) hT
set_option maxHeartbeats 800000 in
set_option maxRecDepth 100000 in
theorem yC4 (os:Os) (started:os.Started) (H:Type) (enc:TypeId×Value→H) :
    ReturnsInHanded {} Tryz.checked os 12 .any (fun w args=>(Rows.fnExecuteCalmSpec.pre enc Tryz.prog Tryz.f12 [] false w args∧laidMetH Tryz.prog Rows.fnExecuteCalmRow.laid w)∧sizedMet enc Tryz.prog Tryz.f12 (OpenSpec.ofChange Rows.fnExecuteCalmSpec) false w args) (Rows.fnExecuteCalmSpec.post enc Tryz.prog Tryz.f12 false true false false):=by
  refine returnsInHanded_of_change_and (C:=Tryz.checked) (X:=fun w _=>laidMetH Tryz.prog Rows.fnExecuteCalmRow.laid w) (fun _ _ _ hh h=>h.of_heap hh) Sq started (by kernel_rfl) Tryz.func12
    (ChangeSpec.witness_shaped (enc:=enc) (C:=Tryz.checked) (os:=os) (X:=fun w _=>laidMetH Tryz.prog Rows.fnExecuteCalmRow.laid w) false (World.laidAll Tryz.prog os Rows.fnExecuteCalmRow.laid) #[.slice none 0 0] 8 (World.laidAll_os _ _ _)
      (World.shaped_of_ZipB (by kernel_rfl) (by kernel_rfl)) (by kernel_rfl) (by kernel_rfl) (by kernel_rfl)
      (by rw [MakeChecks.laidMetH_plain _ _ _ (by kernel_rfl)];exact laidMet_laidAll _ (by kernel_rfl) (by kernel_rfl))) ?_
  intro W base args ds gs before hval0 hW _ _ hL _
  have hval:∀(j:Nat) t v,Tryz.f12.params[j]? =some t→args[j]? =some v→Value.okWide Tryz.prog W .any base t v:=hval0
  have hW':=hW
  obtain ⟨p,q,hA0,hV,rfl,_,_⟩:=hW
  have hA:DataW.TrodAll enc Tryz.prog W 0 (fun _=>true) true Tryz.f12.params.toList args.toList ds p:=hA0
  rw [Tryz.params12] at hA hval
  obtain ⟨v0,vs0,d0,ds0,p0,q0,hargs,rfl,rfl,h0,r0⟩:=trodAll_cons hA
  obtain ⟨rfl,rfl,rfl⟩:=trodAll_nil r0
  obtain rfl:args= #[v0]:=by cases args;simp_all
  obtain ⟨rfl,rfl⟩:=trodVars_none hV
  clear hA0 hval0
  simp only [List.append_nil] at hW'
  have hlt:∀x∈p0,x.block<W.heap.size:=fun x hx=>by simpa using hW'.lt x hx
  have k0:=fun (W':World) (hb:Below W.heap.size W W')=>Below.trod Tq (by kernel_rfl) (oT (by kernel_rfl)) h0 hb (fun x hx=>hlt x hx)
  rw [MakeChecks.laidMetH_plain _ _ _ (by kernel_rfl)] at hL
  have hT:=Fr (Go.Lib.laidMet.reads hL (.tail _ (.tail _ (.head _))))
  refine (yC3 v0 W hT (Oy (hval 0 24 v0 rfl rfl) h0)).mono fun e W' ⟨he,hb⟩=>?_
  subst he
  have hargs:=(trodAll_cons_mk (k0 _ hb) trodAll_mk0)
  simp only [List.append_nil] at hargs
  exact ⟨_,rfl,_,_,_,[],_,[],hW',trodAll_mk1 (shut_bool Tryz.underlying4 _),hargs,rfl,hb.frame _,fun h=>by cases h⟩
theorem yC5:(Rows.fnExecuteCalmRow.inPlace==Tryz.pinned.checked.prog.inPlace 12)=true:=by kernel_rfl
theorem yC6:(Rows.fnExecuteCalmRow.unfollowed==Tryz.pinned.checked.prog.unfollowed 12)=true:=by kernel_rfl
theorem yC7:(Rows.fnExecuteCalmRow.recurses==Tryz.pinned.checked.prog.recurses 12)=true:=by kernel_rfl
theorem yC8:(Rows.fnExecuteCalmRow.named==Tryz.pinned.checked.prog.varsNamed 12)=true:=by kernel_rfl
set_option maxHeartbeats 4000000 in
theorem yC9:joinedFacts Tryz.pinned.checked.prog 12 Tryz.f12 Rows.fnExecuteCalmSpec Rows.fnExecuteCalmRow=true:=by
  unfold joinedFacts
  repeat' (with_reducible apply Ir)
  all_goals with_reducible first|exact yC5|exact yC6|exact yC7|exact yC8|exact Jr|exact Kr|as_aux_lemma=>kernel_rfl
theorem yDa:Rows.FnExecuteCalmSaid :=
  OpenClaim.holds_of_wide 12 Tryz.f12 rfl rfl rfl rfl rfl rfl rfl ⟨rfl,rfl,rfl,rfl,rfl⟩ rfl rfl rfl rfl rfl (by as_aux_lemma=>kernel_rfl) Tryz.func12 yC9
    (oT (by as_aux_lemma=>kernel_rfl)) (by unfold Func.isWrapper;first|(rw [if_pos (by decide +kernel)];kernel_rfl)|(rw [if_neg (by decide +kernel)];exact ⟨rfl,rfl⟩))
    (fun os started H enc _=>yC4 os started H enc)
theorem yDb:Rows.fnExecuteCalmRow.wfByText (OpenSpec.ofChange Rows.fnExecuteCalmSpec)=true:=by kernel_rfl
theorem yDc:Tryz.pinned.checked.prog.mainIs=some (true, "068744d2d06e4fd53b5714a8a2bb854e38bb8805119364ab6c0ee3c288c05673".toList):=by kernel_rfl
theorem yDd:false=Rows.fnExecuteCalmRow.goesBy Tryz.pinned.checked.prog:=by kernel_rfl
theorem yDe:Tryz.prog.funcNamed "loop.example/linkstaterouting/laws.FnExecuteCalm"=some 12:=by kernel_rfl
theorem yDf:([24].all fun u=>!Tryz.prog.wantsStandIn u)=true:=by kernel_rfl
theorem FnExecuteCalm_holds:Rows.FnExecuteCalmCardSaid :=
  Claim7.holds_tied_plain_at .later [] [.data,.data,.data,.data,.pinned] true (true, "068744d2d06e4fd53b5714a8a2bb854e38bb8805119364ab6c0ee3c288c05673") false yDa (fun _ h=>by cases h) yDb (fun _ h=>by cases h) fnExecuteCalm_row_tie rfl ⟨rfl,rfl⟩ yDc rfl
    (fun f fn hf hfn=>by
      obtain rfl:f=12:=Option.some.inj (yDe.symm.trans hf) |>.symm
      obtain rfl:fn=Tryz.f12:=(Option.some.inj (Tryz.func12.symm.trans hfn)).symm
      exact ⟨Lr,fun j t ht=>by
        rw [Tryz.params12] at ht
        have hm:t∈[24]:=by simpa using Array.mem_of_getElem? ht
        exact (show Tryz.prog.wantsStandIn t=false by simpa using List.all_eq_true.1 yDf t hm)⟩)
    yDd
#print axioms FnExecuteCalm_holds
end
end Go.Proofs.YtjffopopheiinaaGreatDoor
