/- The law FnExactWorldNew: for every input it returns true, and what came in reads as it did. No condition. -/
import Derived.Test.YtknkhdjhongklaaQk5
set_option linter.unusedSimpArgs false
set_option linter.unusedVariables false
section
namespace Go.Proofs.Ytknkhdjhongklaa
open Go.RowKit Go.ChangeShapes Go.WideShapes Go.ChangeAt

theorem law_FnExactWorldNew (v0 : Value) (W : World) (h0 : ∃ (z : Int) (ls : List Lk), ls.length ≤ maxLen ∧ ∀ g, Opn W v0 (.agg [.im (iI z), .im (.sl g .lk ls)])) : Holds 3 #[v0] W := by
  obtain ⟨z, ls, hl, o0⟩ := h0
  have fit : ∀ {α : Type} {l : List α}, l.length ≤ maxLen → l.length ≤ 9223372036854775807 := fun h => by unfold maxLen at h; omega
  exact l_New (z, ls) (c_szG (z, ls) (fit hl)) c_toG c_nwS c_nwI c_eq c_eqG c_mkG c_mark c_held (fun _ h => h) (nwF_fw _).fv W v0 (opn_rg (o0 false))

set_option maxHeartbeats 800000 in
set_option maxRecDepth 100000 in
theorem FnExactWorldNew_lifted (os : Os) (started : os.Started) (H : Type) (enc : TypeId × Value → H) :
    ReturnsInHanded {} Try.checked os 3 .any (Rows.fnExactWorldNewSpec.pre6 enc Try.prog Try.f3 Rows.fnExactWorldNewRow.domain false) (Rows.fnExactWorldNewSpec.post enc Try.prog Try.f3 false true false false) := by
  refine returnsInHanded_of_change (C := Try.checked) row_own started (by kernel_rfl) Try.func3
    (ChangeSpec.witness6 (enc := enc) (C := Try.checked) false ⟨#[], #[.agg #[.int .i64 0, .slice none 0 0]], []⟩ 8 (by kernel_rfl) (by kernel_rfl) (by kernel_rfl) (by kernel_rfl)) ?_
  intro W base args ds gs before hval0 hW _ _
  have hval : ∀ (j : Nat) t v, Try.f3.params[j]? = some t → args[j]? = some v → Value.okWide Try.prog W .any base t v := hval0
  have hW' := hW
  obtain ⟨p, q, hA0, hV, rfl, _, _⟩ := hW
  have hA : DataW.TrodAll enc Try.prog W 0 (fun _ => true) true Try.f3.params.toList args.toList ds p := hA0
  rw [Try.params3] at hA hval
  obtain ⟨v0, vs0, d0, ds0, p0, q0, hargs, rfl, rfl, h0, r0⟩ := trodAll_cons hA
  obtain ⟨rfl, rfl, rfl⟩ := trodAll_nil r0
  obtain rfl : args = #[v0] := by cases args; simp_all
  obtain ⟨rfl, rfl⟩ := trodVars_none hV
  clear hA0 hval0
  simp only [List.append_nil] at hW'
  have hlt : ∀ x ∈ p0, x.block < W.heap.size := fun x hx => by simpa using hW'.lt x hx
  have k0 := fun (W' : World) (hb : Below W.heap.size W W') => Below.trod row_laid (by kernel_rfl) (of_decide_eq_true (by kernel_rfl)) h0 hb (fun x hx => hlt x hx)
  refine (law_FnExactWorldNew v0 W (opn_graph (hval 0 24 v0 rfl rfl) h0)).mono fun e W' ⟨he, hb⟩ => ?_
  subst he
  have hargs := (trodAll_cons_mk (k0 _ hb) trodAll_mk0)
  simp only [List.append_nil] at hargs
  exact ⟨_, rfl, _, _, _, [], _, [], hW', trodAll_mk1 (shut_bool Try.underlying4 _), hargs, rfl, hb.frame _, fun h => by cases h⟩
theorem FnExactWorldNew_holds : Rows.FnExactWorldNewSaid :=
  OpenClaim.holds_of_wide 3 Try.f3 rfl rfl rfl rfl rfl rfl rfl ⟨rfl, rfl, rfl, rfl, rfl⟩ rfl rfl rfl rfl rfl (by kernel_rfl) Try.func3 (by kernel_rfl)
    (of_decide_eq_true (by kernel_rfl)) (by unfold Func.isWrapper; first | (rw [if_pos (by decide +kernel)]; kernel_rfl) | (rw [if_neg (by decide +kernel)]; exact ⟨rfl, rfl⟩))
    (fun os started H enc _ => FnExactWorldNew_lifted os started H enc)
#print axioms FnExactWorldNew_holds
end Go.Proofs.Ytknkhdjhongklaa
end
