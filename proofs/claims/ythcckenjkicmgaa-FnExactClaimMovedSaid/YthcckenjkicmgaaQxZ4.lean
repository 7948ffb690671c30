/- The law FnExactClaimMoved: for every input it returns true, and what came in reads as it did. No condition. -/
import Derived.Test.YthcckenjkicmgaaQx6
set_option linter.unusedSimpArgs false
set_option linter.unusedVariables false
section
namespace Go.Proofs.Ythcckenjkicmgaa
open Go.RowKit Go.ChangeShapes Go.WideShapes Go.ChangeAt

theorem law_FnExactClaimMoved (v0 v1 v2 v3 : Value) (W : World) (h0 : ∃ (z : Int) (ls : List Lk), ls.length ≤ maxLen ∧ ∀ g, Opn W v0 (.agg [.im (iI z), .im (.sl g .lk ls)])) (h1 : ∃ z : Int, (Lit.int .i64 z).wf = true ∧ Opn W v1 (.im (iI z))) (h2 : ∃ es : List En, es.length ≤ maxLen ∧ ∀ g, Opn W v2 (.im (.sl g .en es))) (h3 : ∃ z : Int, (Lit.int .i64 z).wf = true ∧ Opn W v3 (.im (iI z))) : Holds 5 #[v0, v1, v2, v3] W := by
  obtain ⟨a0, l0, q0, o0⟩ := h0
  obtain ⟨a1, _, o1⟩ := h1
  obtain ⟨l2, q2, o2⟩ := h2
  obtain ⟨a3, _, o3⟩ := h3
  have fit : ∀ {α : Type} {l : List α}, l.length ≤ maxLen → l.length ≤ 9223372036854775807 := fun h => by unfold maxLen at h; omega
  exact holds_gc (args := [v0, v1, v2, v3]) p_laws_FnExactClaimMoved (s := (a0, l0, a1, l2, a3, ())) (r := (true, ())) (law_ExactClaimMoved a0 a1 a3 (fit q0) (fit q2)) (ds := [.agg [.im (iI a0), .im (.sl false .lk l0)], .im (iI a1), .im (.sl false .en l2), .im (iI a3)]) rfl rfl (F2.cons (o0 false) (F2.cons (o1) (F2.cons (o2 false) (F2.cons (o3) (F2.nil)))))

set_option maxHeartbeats 800000 in
set_option maxRecDepth 100000 in
theorem FnExactClaimMoved_lifted (os : Os) (started : os.Started) (H : Type) (enc : TypeId × Value → H) :
    ReturnsInHanded {} Try.checked os 5 .any (Rows.fnExactClaimMovedSpec.pre6 enc Try.prog Try.f5 Rows.fnExactClaimMovedRow.domain false) (Rows.fnExactClaimMovedSpec.post enc Try.prog Try.f5 false true false false) := by
  refine returnsInHanded_of_change (C := Try.checked) row_own started (by kernel_rfl) Try.func5
    (ChangeSpec.witness6 (enc := enc) (C := Try.checked) false ⟨#[], #[.agg #[.int .i64 0, .slice none 0 0], .int .i64 0, .slice none 0 0, .int .i64 0], []⟩ 8 (by kernel_rfl) (by kernel_rfl) (by kernel_rfl) (by kernel_rfl)) ?_
  intro W base args ds gs before hval0 hW _ _
  have hval : ∀ (j : Nat) t v, Try.f5.params[j]? = some t → args[j]? = some v → Value.okWide Try.prog W .any base t v := hval0
  have hW' := hW
  obtain ⟨p, q, hA0, hV, rfl, _, _⟩ := hW
  have hA : DataW.TrodAll enc Try.prog W 0 (fun _ => true) true Try.f5.params.toList args.toList ds p := hA0
  rw [Try.params5] at hA hval
  obtain ⟨v0, vs0, d0, ds0, p0, q0, hargs, rfl, rfl, h0, r0⟩ := trodAll_cons hA
  obtain ⟨v1, vs1, d1, ds1, p1, q1, rfl, rfl, rfl, h1, r1⟩ := trodAll_cons r0
  obtain ⟨v2, vs2, d2, ds2, p2, q2, rfl, rfl, rfl, h2, r2⟩ := trodAll_cons r1
  obtain ⟨v3, vs3, d3, ds3, p3, q3, rfl, rfl, rfl, h3, r3⟩ := trodAll_cons r2
  obtain ⟨rfl, rfl, rfl⟩ := trodAll_nil r3
  obtain rfl : args = #[v0, v1, v2, v3] := by cases args; simp_all
  obtain ⟨rfl, rfl⟩ := trodVars_none hV
  clear hA0 hval0
  simp only [List.append_nil] at hW'
  have hlt : ∀ x ∈ p0 ++ (p1 ++ (p2 ++ (p3))), x.block < W.heap.size := fun x hx => by simpa using hW'.lt x hx
  have k0 := fun (W' : World) (hb : Below W.heap.size W W') => Below.trod row_laid (by kernel_rfl) (of_decide_eq_true (by kernel_rfl)) h0 hb (fun x hx => hlt x (by simp [hx]))
  have k1 := fun (W' : World) (hb : Below W.heap.size W W') => Below.trod row_laid (by kernel_rfl) (of_decide_eq_true (by kernel_rfl)) h1 hb (fun x hx => hlt x (by simp [hx]))
  have k2 := fun (W' : World) (hb : Below W.heap.size W W') => Below.trod row_laid (by kernel_rfl) (of_decide_eq_true (by kernel_rfl)) h2 hb (fun x hx => hlt x (by simp [hx]))
  have k3 := fun (W' : World) (hb : Below W.heap.size W W') => Below.trod row_laid (by kernel_rfl) (of_decide_eq_true (by kernel_rfl)) h3 hb (fun x hx => hlt x (by simp [hx]))
  refine (law_FnExactClaimMoved v0 v1 v2 v3 W (opn_graph (hval 0 41 v0 rfl rfl) h0) (opn_int (hval 1 3 v1 rfl rfl) h1) (opn_ends (hval 2 42 v2 rfl rfl) h2) (opn_int (hval 3 3 v3 rfl rfl) h3)).mono fun e W' ⟨he, hb⟩ => ?_
  subst he
  have hargs := (trodAll_cons_mk (k0 _ hb) (trodAll_cons_mk (k1 _ hb) (trodAll_cons_mk (k2 _ hb) (trodAll_cons_mk (k3 _ hb) trodAll_mk0))))
  simp only [List.append_nil] at hargs
  exact ⟨_, rfl, _, _, _, [], _, [], hW', trodAll_mk1 (shut_bool Try.underlying4 _), hargs, rfl, hb.frame _, fun h => by cases h⟩
theorem FnExactClaimMoved_holds : Rows.FnExactClaimMovedSaid :=
  OpenClaim.holds_of_wide 5 Try.f5 rfl rfl rfl rfl rfl rfl rfl ⟨rfl, rfl, rfl, rfl, rfl⟩ rfl rfl rfl rfl rfl (by kernel_rfl) Try.func5 (by kernel_rfl)
    (of_decide_eq_true (by kernel_rfl)) (by unfold Func.isWrapper; first | (rw [if_pos (by decide +kernel)]; kernel_rfl) | (rw [if_neg (by decide +kernel)]; exact ⟨rfl, rfl⟩))
    (fun os started H enc _ => FnExactClaimMoved_lifted os started H enc)
#print axioms FnExactClaimMoved_holds
end Go.Proofs.Ythcckenjkicmgaa
end
