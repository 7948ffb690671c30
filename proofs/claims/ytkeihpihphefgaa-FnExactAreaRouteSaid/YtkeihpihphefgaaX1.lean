/- The law FnExactAreaRoute: for every input it returns true, and what came in reads as it did. No condition. -/
import Derived.Test.YtkeihpihphefgaaRow2
import Derived.Test.YtkeihpihphefgaaE1
namespace Go.Proofs.Ytkeihpihphefgaa
open Go.RowKit Go.ChangeShapes Go.WideShapes Go.ChangeAt

theorem law_FnExactAreaRoute (v0 v1 v2 v3 v4 : Value) (W : World) (h0 : ∃ (z : Int) (ls : List Lk) (n : Nat), ls.length = n ∧ n ≤ 9223372036854775807 ∧ Opn W v0 (.agg [.im (iI z), .im (.sl false (lksI ls) n)])) (h1 : ∃ (z : Int) (ls : List Lk) (n : Nat), ls.length = n ∧ n ≤ 9223372036854775807 ∧ Opn W v1 (.agg [.im (iI z), .im (.sl false (lksI ls) n)])) (h2 : ∃ (zs : List Int) (n : Nat), zs.length = n ∧ n ≤ 9223372036854775807 ∧ Opn W v2 (.im (.sl false (intsI zs) n))) (h3 : ∃ z : Int, v3 = .int .i64 z) (h4 : ∃ z : Int, v4 = .int .i64 z) : Holds 5 #[v0, v1, v2, v3, v4] W := by
  obtain ⟨na, la, n, ha, hn, o0⟩ := h0
  obtain ⟨nb, lb, m, hb, hm, o1⟩ := h1
  obtain ⟨bs, k, hz, hk, o2⟩ := h2
  obtain ⟨f, rfl⟩ := h3
  obtain ⟨t, rfl⟩ := h4
  exact holds_ac (args := [v0, v1, v2, .int .i64 f, .int .i64 t]) (a_exact na nb f t la lb bs n m k ha hb hz hn hm hk) (F2.cons o0 (F2.cons o1 (F2.cons o2 (F2.cons (Ri.s _) (F2.cons (Ri.s _) F2.nil)))))

set_option maxHeartbeats 800000 in
set_option maxRecDepth 100000 in
theorem FnExactAreaRoute_lifted (os : Os) (started : os.Started) (H : Type) (enc : TypeId × Value → H) :
    ReturnsInHanded {} Try.checked os 5 .any (Rows.fnExactAreaRouteSpec.pre6 enc Try.prog Try.f5 Rows.fnExactAreaRouteRow.domain false) (Rows.fnExactAreaRouteSpec.post enc Try.prog Try.f5 false true false false) := by
  refine returnsInHanded_of_change (C := Try.checked) row_own started (by kernel_rfl) Try.func5
    (ChangeSpec.witness6 (enc := enc) (C := Try.checked) false ⟨#[], #[.agg #[.int .i64 0, .slice none 0 0], .agg #[.int .i64 0, .slice none 0 0], .slice none 0 0, .int .i64 0, .int .i64 0], []⟩ 8 (by kernel_rfl) (by kernel_rfl) (by kernel_rfl) (by kernel_rfl)) ?_
  intro W base args ds gs before hval0 hW _ _
  have hval : ∀ (j : Nat) t v, Try.f5.params[j]? = some t → args[j]? = some v → Value.okWide Try.prog W .any base t v := hval0
  have hW' := hW
  obtain ⟨p, q, hA0, hV, rfl, _, _⟩ := hW
  have hA : DataW.TrodAll enc Try.prog W 0 (fun _ => true) true Try.f5.params.toList args.toList ds p := hA0
  rw [Try.params5] at hA hval
  obtain ⟨v0, vs0, d0, ds0, p0, q0, hargs, rfl, rfl, h0, r0⟩ := trodAll_cons hA
  obtain ⟨v1, vs1, d1, ds1, p1, q1, rfl, rfl, rfl, h1, r1⟩ := trodAll_cons r0
  obtain ⟨v2, vs2, d2, ds2, p2, q2, rfl, rfl, rfl, h2, r2⟩ := trodAll_cons r1
  obtain ⟨v3, vs3, d3, ds3, p3, q3, rfl, rfl, rfl, h3, r3⟩ := trodAll_cons r2
  obtain ⟨v4, vs4, d4, ds4, p4, q4, rfl, rfl, rfl, h4, r4⟩ := trodAll_cons r3
  obtain ⟨rfl, rfl, rfl⟩ := trodAll_nil r4
  obtain rfl : args = #[v0, v1, v2, v3, v4] := by cases args; simp_all
  obtain ⟨rfl, rfl⟩ := trodVars_none hV
  clear hA0 hval0
  simp only [List.append_nil] at hW'
  have hlt : ∀ x ∈ p0 ++ (p1 ++ (p2 ++ (p3 ++ (p4)))), x.block < W.heap.size := fun x hx => by simpa using hW'.lt x hx
  have k0 := fun (W' : World) (hb : Below W.heap.size W W') => Below.trod row_laid (by kernel_rfl) (of_decide_eq_true (by kernel_rfl)) h0 hb (fun x hx => hlt x (by simp [hx]))
  have k1 := fun (W' : World) (hb : Below W.heap.size W W') => Below.trod row_laid (by kernel_rfl) (of_decide_eq_true (by kernel_rfl)) h1 hb (fun x hx => hlt x (by simp [hx]))
  have k2 := fun (W' : World) (hb : Below W.heap.size W W') => Below.trod row_laid (by kernel_rfl) (of_decide_eq_true (by kernel_rfl)) h2 hb (fun x hx => hlt x (by simp [hx]))
  have k3 := fun (W' : World) (hb : Below W.heap.size W W') => Below.trod row_laid (by kernel_rfl) (of_decide_eq_true (by kernel_rfl)) h3 hb (fun x hx => hlt x (by simp [hx]))
  have k4 := fun (W' : World) (hb : Below W.heap.size W W') => Below.trod row_laid (by kernel_rfl) (of_decide_eq_true (by kernel_rfl)) h4 hb (fun x hx => hlt x (by simp [hx]))
  refine (law_FnExactAreaRoute v0 v1 v2 v3 v4 W (opn_graph (hval 0 36 v0 rfl rfl) h0) (opn_graph (hval 1 36 v1 rfl rfl) h1) (opn_ints (hval 2 26 v2 rfl rfl) h2) (opn_int (hval 3 3 v3 rfl rfl) h3) (opn_int (hval 4 3 v4 rfl rfl) h4)).mono fun e W' ⟨he, hb⟩ => ?_
  subst he
  have hargs := (trodAll_cons_mk (k0 _ hb) (trodAll_cons_mk (k1 _ hb) (trodAll_cons_mk (k2 _ hb) (trodAll_cons_mk (k3 _ hb) (trodAll_cons_mk (k4 _ hb) trodAll_mk0)))))
  simp only [List.append_nil] at hargs
  exact ⟨_, rfl, _, _, _, [], _, [], hW', trodAll_mk1 (shut_bool Try.underlying4 _), hargs, rfl, hb.frame _, fun h => by cases h⟩
theorem FnExactAreaRoute_holds : Rows.FnExactAreaRouteSaid :=
  OpenClaim.holds_of_wide 5 Try.f5 rfl rfl rfl rfl rfl rfl rfl ⟨rfl, rfl, rfl, rfl, rfl⟩ rfl rfl rfl rfl rfl (by kernel_rfl) Try.func5 (by kernel_rfl)
    (of_decide_eq_true (by kernel_rfl)) (by unfold Func.isWrapper; first | (rw [if_pos (by decide +kernel)]; kernel_rfl) | (rw [if_neg (by decide +kernel)]; exact ⟨rfl, rfl⟩))
    (fun os started H enc _ => FnExactAreaRoute_lifted os started H enc)
#print axioms FnExactAreaRoute_holds
end Go.Proofs.Ytkeihpihphefgaa
