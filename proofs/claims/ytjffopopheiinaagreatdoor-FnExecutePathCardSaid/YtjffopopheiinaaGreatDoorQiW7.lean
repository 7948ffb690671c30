/- The law FnExecutePath: for every input it returns true, and what came in reads as it did. -/
import Derived.Test.YtjffopopheiinaaGreatDoorQi7
set_option linter.unusedSimpArgs false
set_option linter.unusedVariables false
set_option maxRecDepth 100000
namespace Go.Proofs.YtjffopopheiinaaGreatDoor
section
open Go.RowKit Go.ChangeShapes Go.WideShapes Go.ChangeAt
theorem yCq (v0:Value) (W:World) (hT:Jf W [] []) (h0:∃zs:List Int,zs.length≤maxLen∧(∀z∈zs,0≤z∧z<256)∧∀g,Dn W v0 (.im (.sl g .u8 zs))):Holds 9 #[v0] W:=by
  obtain ⟨zs,_,hz,ho⟩:=h0
  exact Uq (args:=[v0]) zMy (s:=(zs,())) (r:=(true,())) (yB9 hz) (ds:=[.im (.sl true .u8 zs)]) rfl rfl (F2.cons (ho true) F2.nil) hT
set_option maxHeartbeats 800000 in
set_option maxRecDepth 100000 in
theorem yCr (os:Os) (started:os.Started) (H:Type) (enc:TypeId×Value→H) :
    ReturnsInHanded {} Tryz.checked os 9 .any (fun w args=>(Rows.fnExecutePathSpec.pre enc Tryz.prog Tryz.f9 [] false w args∧laidMetH Tryz.prog Rows.fnExecutePathRow.laid w)∧sizedMet enc Tryz.prog Tryz.f9 (OpenSpec.ofChange Rows.fnExecutePathSpec) false w args) (Rows.fnExecutePathSpec.post enc Tryz.prog Tryz.f9 false true false false):=by
  refine returnsInHanded_of_change_and (C:=Tryz.checked) (X:=fun w _=>laidMetH Tryz.prog Rows.fnExecutePathRow.laid w) (fun _ _ _ hh h=>h.of_heap hh) Sq started (by kernel_rfl) Tryz.func9
    (ChangeSpec.witness_shaped (enc:=enc) (C:=Tryz.checked) (os:=os) (X:=fun w _=>laidMetH Tryz.prog Rows.fnExecutePathRow.laid w) false (World.laidAll Tryz.prog os Rows.fnExecutePathRow.laid) #[.slice none 0 0] 8 (World.laidAll_os _ _ _)
      (World.shaped_of_ZipB (by kernel_rfl) (by kernel_rfl)) (by kernel_rfl) (by kernel_rfl) (by kernel_rfl)
      (by rw [MakeChecks.laidMetH_plain _ _ _ (by kernel_rfl)];exact laidMet_laidAll _ (by kernel_rfl) (by kernel_rfl))) ?_
  intro W base args ds gs before hval0 hW _ _ hL _
  have hval:∀(j:Nat) t v,Tryz.f9.params[j]? =some t→args[j]? =some v→Value.okWide Tryz.prog W .any base t v:=hval0
  have hW':=hW
  obtain ⟨p,q,hA0,hV,rfl,_,_⟩:=hW
  have hA:DataW.TrodAll enc Tryz.prog W 0 (fun _=>true) true Tryz.f9.params.toList args.toList ds p:=hA0
  rw [Tryz.params9] at hA hval
  obtain ⟨v0,vs0,d0,ds0,p0,q0,hargs,rfl,rfl,h0,r0⟩:=trodAll_cons hA
  obtain ⟨rfl,rfl,rfl⟩:=trodAll_nil r0
  obtain rfl:args= #[v0]:=by cases args;simp_all
  obtain ⟨rfl,rfl⟩:=trodVars_none hV
  clear hA0 hval0
  simp only [List.append_nil] at hW'
  have hlt:∀x∈p0,x.block<W.heap.size:=fun x hx=>by simpa using hW'.lt x hx
  have k0:=fun (W':World) (hb:Below W.heap.size W W')=>Below.trod Tq (by kernel_rfl) (oT (by kernel_rfl)) h0 hb (fun x hx=>hlt x hx)
  rw [MakeChecks.laidMetH_plain _ _ _ (by kernel_rfl)] at hL
  have hT:=Fr (Go.Lib.laidMet.reads hL (.tail _ (.tail _ (.head _))))
  refine (yCq v0 W hT (Oy (hval 0 24 v0 rfl rfl) h0)).mono fun e W' ⟨he,hb⟩=>?_
  subst he
  have hargs:=(trodAll_cons_mk (k0 _ hb) trodAll_mk0)
  simp only [List.append_nil] at hargs
  exact ⟨_,rfl,_,_,_,[],_,[],hW',trodAll_mk1 (shut_bool Tryz.underlying4 _),hargs,rfl,hb.frame _,fun h=>by cases h⟩
theorem yCs:(Rows.fnExecutePathRow.inPlace==Tryz.pinned.checked.prog.inPlace 9)=true:=by kernel_rfl
theorem yCt:(Rows.fnExecutePathRow.unfollowed==Tryz.pinned.checked.prog.unfollowed 9)=true:=by kernel_rfl
theorem yCu:(Rows.fnExecutePathRow.recurses==Tryz.pinned.checked.prog.recurses 9)=true:=by kernel_rfl
theorem yCv:(Rows.fnExecutePathRow.named==Tryz.pinned.checked.prog.varsNamed 9)=true:=by kernel_rfl
set_option maxHeartbeats 4000000 in
theorem yCw:joinedFacts Tryz.pinned.checked.prog 9 Tryz.f9 Rows.fnExecutePathSpec Rows.fnExecutePathRow=true:=by
  unfold joinedFacts
  repeat' (with_reducible apply Ir)
  all_goals with_reducible first|exact yCs|exact yCt|exact yCu|exact yCv|exact Jr|exact Kr|as_aux_lemma=>kernel_rfl
theorem yCx:Rows.FnExecutePathSaid :=
  OpenClaim.holds_of_wide 9 Tryz.f9 rfl rfl rfl rfl rfl rfl rfl ⟨rfl,rfl,rfl,rfl,rfl⟩ rfl rfl rfl rfl rfl (by as_aux_lemma=>kernel_rfl) Tryz.func9 yCw
    (oT (by as_aux_lemma=>kernel_rfl)) (by unfold Func.isWrapper;first|(rw [if_pos (by decide +kernel)];kernel_rfl)|(rw [if_neg (by decide +kernel)];exact ⟨rfl,rfl⟩))
    (fun os started H enc _=>yCr os started H enc)
theorem yCy:Rows.fnExecutePathRow.wfByText (OpenSpec.ofChange Rows.fnExecutePathSpec)=true:=by kernel_rfl
theorem yCz:Tryz.pinned.checked.prog.mainIs=some (true, "068744d2d06e4fd53b5714a8a2bb854e38bb8805119364ab6c0ee3c288c05673".toList):=by kernel_rfl
theorem yCA:false=Rows.fnExecutePathRow.goesBy Tryz.pinned.checked.prog:=by kernel_rfl
theorem yCB:Tryz.prog.funcNamed "loop.example/linkstaterouting/laws.FnExecutePath"=some 9:=by kernel_rfl
theorem yCC:([24].all fun u=>!Tryz.prog.wantsStandIn u)=true:=by kernel_rfl
theorem FnExecutePath_holds:Rows.FnExecutePathCardSaid :=
  Claim7.holds_tied_plain_at .later [] [.data,.data,.data,.data,.pinned] true (true, "068744d2d06e4fd53b5714a8a2bb854e38bb8805119364ab6c0ee3c288c05673") false yCx (fun _ h=>by cases h) yCy (fun _ h=>by cases h) fnExecutePath_row_tie rfl ⟨rfl,rfl⟩ yCz rfl
    (fun f fn hf hfn=>by
      obtain rfl:f=9:=Option.some.inj (yCB.symm.trans hf) |>.symm
      obtain rfl:fn=Tryz.f9:=(Option.some.inj (Tryz.func9.symm.trans hfn)).symm
      exact ⟨Lr,fun j t ht=>by
        rw [Tryz.params9] at ht
        have hm:t∈[24]:=by simpa using Array.mem_of_getElem? ht
        exact (show Tryz.prog.wantsStandIn t=false by simpa using List.all_eq_true.1 yCC t hm)⟩)
    yCA
#print axioms FnExecutePath_holds
end
end Go.Proofs.YtjffopopheiinaaGreatDoor
