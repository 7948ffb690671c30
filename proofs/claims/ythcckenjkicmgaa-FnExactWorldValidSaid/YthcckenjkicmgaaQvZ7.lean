/- The law FnExactWorldValid: for every input it returns true, and what came in reads as it did. No condition. -/
import Derived.Test.YthcckenjkicmgaaQv5
set_option linter.unusedSimpArgs false
set_option linter.unusedVariables false
section
namespace Go.Proofs.Ythcckenjkicmgaa
open Go.RowKit Go.ChangeShapes Go.WideShapes Go.ChangeAt

theorem law_FnExactWorldValid (v0 : Value) (W : World) (h0 : ∃ (n : Int) (ls : List Lk) (up : List Bool) (sq : List Int) (db : List (List Ls)) (net : List Pk), (ls.length ≤ maxLen ∧ up.length ≤ maxLen ∧ sq.length ≤ maxLen ∧ db.length ≤ maxLen ∧ net.length ≤ maxLen ∧ (∀ d ∈ db, d.length ≤ maxLen ∧ ∀ l ∈ d, l.e.length ≤ maxLen) ∧ ∀ p ∈ net, p.p.e.length ≤ maxLen) ∧ ∀ g, Opn W v0 (.agg [.im (iI n), .im (.sl g .lk ls), .im (.sl g .bool up), .im (.sl g .int sq), .im (.sl g .db db), .im (.sl g .pk net)])) : Holds 9 #[v0] W := by
  obtain ⟨n, ls, up, sq, db, net, ⟨h1, h2, h3, h4, h5, h6, h7⟩, o0⟩ := h0
  have fit : ∀ {α : Type} {l : List α}, l.length ≤ maxLen → l.length ≤ 9223372036854775807 := fun h => by unfold maxLen at h; omega
  exact holds_gc (args := [v0]) p_laws_FnExactWorldValid (s := (n, ls, up, sq, db, net, ())) (r := (true, ())) (law_ExactWorldValid ⟨n, ls, up, sq, db, net⟩ ⟨fit h1, fit h2, fit h3, fit h4, fit h5, fun d hd => ⟨fit (h6 d hd).1, fun l hl => fit ((h6 d hd).2 l hl)⟩, fun p hp => fit (h7 p hp)⟩) (ds := [.agg [.im (iI n), .im (.sl false .lk ls), .im (.sl false .bool up), .im (.sl false .int sq), .im (.sl false .db db), .im (.sl false .pk net)]]) rfl rfl (F2.cons (o0 false) F2.nil)

set_option maxHeartbeats 800000 in
set_option maxRecDepth 100000 in
theorem FnExactWorldValid_lifted (os : Os) (started : os.Started) (H : Type) (enc : TypeId × Value → H) :
    ReturnsInHanded {} Try.checked os 9 .any (Rows.fnExactWorldValidSpec.pre6 enc Try.prog Try.f9 Rows.fnExactWorldValidRow.domain false) (Rows.fnExactWorldValidSpec.post enc Try.prog Try.f9 false true false false) := by
  refine returnsInHanded_of_change (C := Try.checked) row_own started (by kernel_rfl) Try.func9
    (ChangeSpec.witness6 (enc := enc) (C := Try.checked) false ⟨#[], #[.agg #[.int .i64 0, .slice none 0 0, .slice none 0 0, .slice none 0 0, .slice none 0 0, .slice none 0 0]], []⟩ 8 (by kernel_rfl) (by kernel_rfl) (by kernel_rfl) (by kernel_rfl)) ?_
  intro W base args ds gs before hval0 hW _ _
  have hval : ∀ (j : Nat) t v, Try.f9.params[j]? = some t → args[j]? = some v → Value.okWide Try.prog W .any base t v := hval0
  have hW' := hW
  obtain ⟨p, q, hA0, hV, rfl, _, _⟩ := hW
  have hA : DataW.TrodAll enc Try.prog W 0 (fun _ => true) true Try.f9.params.toList args.toList ds p := hA0
  rw [Try.params9] at hA hval
  obtain ⟨v0, vs0, d0, ds0, p0, q0, hargs, rfl, rfl, h0, r0⟩ := trodAll_cons hA
  obtain ⟨rfl, rfl, rfl⟩ := trodAll_nil r0
  obtain rfl : args = #[v0] := by cases args; simp_all
  obtain ⟨rfl, rfl⟩ := trodVars_none hV
  clear hA0 hval0
  simp only [List.append_nil] at hW'
  have hlt : ∀ x ∈ p0, x.block < W.heap.size := fun x hx => by simpa using hW'.lt x hx
  have k0 := fun (W' : World) (hb : Below W.heap.size W W') => Below.trod row_laid (by kernel_rfl) (of_decide_eq_true (by kernel_rfl)) h0 hb (fun x hx => hlt x hx)
  refine (law_FnExactWorldValid v0 W (opn_world (hval 0 63 v0 rfl rfl) h0)).mono fun e W' ⟨he, hb⟩ => ?_
  subst he
  have hargs := (trodAll_cons_mk (k0 _ hb) trodAll_mk0)
  simp only [List.append_nil] at hargs
  exact ⟨_, rfl, _, _, _, [], _, [], hW', trodAll_mk1 (shut_bool Try.underlying4 _), hargs, rfl, hb.frame _, fun h => by cases h⟩
theorem FnExactWorldValid_holds : Rows.FnExactWorldValidSaid :=
  OpenClaim.holds_of_wide 9 Try.f9 rfl rfl rfl rfl rfl rfl rfl ⟨rfl, rfl, rfl, rfl, rfl⟩ rfl rfl rfl rfl rfl (by kernel_rfl) Try.func9 (by kernel_rfl)
    (of_decide_eq_true (by kernel_rfl)) (by unfold Func.isWrapper; first | (rw [if_pos (by decide +kernel)]; kernel_rfl) | (rw [if_neg (by decide +kernel)]; exact ⟨rfl, rfl⟩))
    (fun os started H enc _ => FnExactWorldValid_lifted os started H enc)
#print axioms FnExactWorldValid_holds
end Go.Proofs.Ythcckenjkicmgaa
end
