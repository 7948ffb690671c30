/- The law FnExactExecute: for every text it returns true, and what came in reads as it did. -/
import Derived.Test.YtjffopopheiinaaGreatDoorQi7
set_option linter.unusedSimpArgs false
set_option linter.unusedVariables false
set_option maxRecDepth 100000
namespace Go.Proofs.YtjffopopheiinaaGreatDoor
section
open Go.RowKit Go.ChangeShapes Go.WideShapes Go.ChangeAt
theorem yBL (v0:Value) (W:World) (hT:Jf W [] []) (h0:∃b:ByteArray,v0=.string b):Holds 3 #[v0] W:=by
  obtain ⟨b,rfl⟩:=h0
  exact Uq (args:=[.string b]) zMu (s:=(b,())) (r:=(true,())) (yBK b) (ds:=[.im (.s (.string b))]) rfl rfl (F2.cons (tB W b) F2.nil) hT
set_option maxHeartbeats 800000 in
set_option maxRecDepth 100000 in
theorem yBM (os:Os) (started:os.Started) (H:Type) (enc:TypeId×Value→H) :
    ReturnsInHanded {} Tryz.checked os 3 .any (fun w args=>(Rows.fnExactExecuteSpec.pre enc Tryz.prog Tryz.f3 [] false w args∧laidMetH Tryz.prog Rows.fnExactExecuteRow.laid w)∧sizedMet enc Tryz.prog Tryz.f3 (OpenSpec.ofChange Rows.fnExactExecuteSpec) false w args) (Rows.fnExactExecuteSpec.post enc Tryz.prog Tryz.f3 false true false false):=by
  refine returnsInHanded_of_change_and (C:=Tryz.checked) (X:=fun w _=>laidMetH Tryz.prog Rows.fnExactExecuteRow.laid w) (fun _ _ _ hh h=>h.of_heap hh) Sq started (by kernel_rfl) Tryz.func3
    (ChangeSpec.witness_shaped (enc:=enc) (C:=Tryz.checked) (os:=os) (X:=fun w _=>laidMetH Tryz.prog Rows.fnExactExecuteRow.laid w) false (World.laidAll Tryz.prog os Rows.fnExactExecuteRow.laid) #[.string ByteArray.empty] 8 (World.laidAll_os _ _ _)
      (World.shaped_of_ZipB (by kernel_rfl) (by kernel_rfl)) (by kernel_rfl) (by kernel_rfl) (by kernel_rfl)
      (by rw [MakeChecks.laidMetH_plain _ _ _ (by kernel_rfl)];exact laidMet_laidAll _ (by kernel_rfl) (by kernel_rfl))) ?_
  intro W base args ds gs before hval0 hW _ _ hL _
  have hval:∀(j:Nat) t v,Tryz.f3.params[j]? =some t→args[j]? =some v→Value.okWide Tryz.prog W .any base t v:=hval0
  have hW':=hW
  obtain ⟨p,q,hA0,hV,rfl,_,_⟩:=hW
  have hA:DataW.TrodAll enc Tryz.prog W 0 (fun _=>true) true Tryz.f3.params.toList args.toList ds p:=hA0
  rw [Tryz.params3] at hA hval
  obtain ⟨v0,vs0,d0,ds0,p0,q0,hargs,rfl,rfl,h0,r0⟩:=trodAll_cons hA
  obtain ⟨rfl,rfl,rfl⟩:=trodAll_nil r0
  obtain rfl:args= #[v0]:=by cases args;simp_all
  obtain ⟨rfl,rfl⟩:=trodVars_none hV
  clear hA0 hval0
  simp only [List.append_nil] at hW'
  have hlt:∀x∈p0,x.block<W.heap.size:=fun x hx=>by simpa using hW'.lt x hx
  have k0:=fun (W':World) (hb:Below W.heap.size W W')=>Below.trod Tq (by kernel_rfl) (oT (by kernel_rfl)) h0 hb (fun x hx=>hlt x hx)
  rw [MakeChecks.laidMetH_plain _ _ _ (by kernel_rfl)] at hL
  have hT:=Fr (Go.Lib.laidMet.reads hL (.tail _ (.tail _ (.head _))))
  refine (yBL v0 W hT (tA (hval 0 9 v0 rfl rfl) h0)).mono fun e W' ⟨he,hb⟩=>?_
  subst he
  have hargs:=(trodAll_cons_mk (k0 _ hb) trodAll_mk0)
  simp only [List.append_nil] at hargs
  exact ⟨_,rfl,_,_,_,[],_,[],hW',trodAll_mk1 (shut_bool Tryz.underlying4 _),hargs,rfl,hb.frame _,fun h=>by cases h⟩
theorem yBN:(Rows.fnExactExecuteRow.inPlace==Tryz.pinned.checked.prog.inPlace 3)=true:=by kernel_rfl
theorem yBO:(Rows.fnExactExecuteRow.unfollowed==Tryz.pinned.checked.prog.unfollowed 3)=true:=by kernel_rfl
theorem yBP:(Rows.fnExactExecuteRow.recurses==Tryz.pinned.checked.prog.recurses 3)=true:=by kernel_rfl
theorem yBQ:(Rows.fnExactExecuteRow.named==Tryz.pinned.checked.prog.varsNamed 3)=true:=by kernel_rfl
set_option maxHeartbeats 4000000 in
theorem yBR:joinedFacts Tryz.pinned.checked.prog 3 Tryz.f3 Rows.fnExactExecuteSpec Rows.fnExactExecuteRow=true:=by
  unfold joinedFacts
  repeat' (with_reducible apply Ir)
  all_goals with_reducible first|exact yBN|exact yBO|exact yBP|exact yBQ|exact Jr|exact Kr|as_aux_lemma=>kernel_rfl
theorem yBS:Rows.FnExactExecuteSaid :=
  OpenClaim.holds_of_wide 3 Tryz.f3 rfl rfl rfl rfl rfl rfl rfl ⟨rfl,rfl,rfl,rfl,rfl⟩ rfl rfl rfl rfl rfl (by as_aux_lemma=>kernel_rfl) Tryz.func3 yBR
    (oT (by as_aux_lemma=>kernel_rfl)) (by unfold Func.isWrapper;first|(rw [if_pos (by decide +kernel)];kernel_rfl)|(rw [if_neg (by decide +kernel)];exact ⟨rfl,rfl⟩))
    (fun os started H enc _=>yBM os started H enc)
theorem yBT:Rows.fnExactExecuteRow.wfByText (OpenSpec.ofChange Rows.fnExactExecuteSpec)=true:=by kernel_rfl
theorem yBU:Tryz.pinned.checked.prog.mainIs=some (true, "068744d2d06e4fd53b5714a8a2bb854e38bb8805119364ab6c0ee3c288c05673".toList):=by kernel_rfl
theorem yBV:false=Rows.fnExactExecuteRow.goesBy Tryz.pinned.checked.prog:=by kernel_rfl
theorem yBW:Tryz.prog.funcNamed "loop.example/linkstaterouting/laws.FnExactExecute"=some 3:=by kernel_rfl
theorem yBX:([9].all fun u=>!Tryz.prog.wantsStandIn u)=true:=by kernel_rfl
theorem FnExactExecute_holds:Rows.FnExactExecuteCardSaid :=
  Claim7.holds_tied_plain_at .later [] [.data,.data,.data,.data,.pinned] true (true, "068744d2d06e4fd53b5714a8a2bb854e38bb8805119364ab6c0ee3c288c05673") false yBS (fun _ h=>by cases h) yBT (fun _ h=>by cases h) fnExactExecute_row_tie rfl ⟨rfl,rfl⟩ yBU rfl
    (fun f fn hf hfn=>by
      obtain rfl:f=3:=Option.some.inj (yBW.symm.trans hf) |>.symm
      obtain rfl:fn=Tryz.f3:=(Option.some.inj (Tryz.func3.symm.trans hfn)).symm
      exact ⟨Lr,fun j t ht=>by
        rw [Tryz.params3] at ht
        have hm:t∈[9]:=by simpa using Array.mem_of_getElem? ht
        exact (show Tryz.prog.wantsStandIn t=false by simpa using List.all_eq_true.1 yBX t hm)⟩)
    yBV
#print axioms FnExactExecute_holds
end
end Go.Proofs.YtjffopopheiinaaGreatDoor
