/- The law FnWorldOneDb: for every input it returns true, and what came in reads as it did. No condition. -/
import Derived.Test.YtojdflifijpffaaGreatQr7
set_option linter.unusedSimpArgs false
set_option linter.unusedVariables false
section
namespace Go.Proofs.YtojdflifijpffaaGreat
open Go.RowKit Go.ChangeShapes Go.WideShapes Go.ChangeAt

theorem law_FnWorldOneDb (v0 v1 : Value) (W : World) (h0 : ∃ zs : List Int, zs.length ≤ maxLen ∧ (∀ z ∈ zs, 0 ≤ z ∧ z < 256) ∧ ∀ g, Opn W v0 (.im (.sl g .u8 zs))) (h1 : ∃ zs : List Int, zs.length ≤ maxLen ∧ (∀ z ∈ zs, 0 ≤ z ∧ z < 256) ∧ ∀ g, Opn W v1 (.im (.sl g .u8 zs))) : Holds 8 #[v0, v1] W := by
  obtain ⟨zs0, _, hz0, ho0⟩ := h0
  obtain ⟨zs1, _, hz1, ho1⟩ := h1
  exact holds_gc (args := [v0, v1]) p_laws_FnWorldOneDb (s := (zs0, zs1, ())) (r := (true, ())) (law_WorldOneDb hz0) (ds := [.im (.sl true .u8 zs0), .im (.sl true .u8 zs1)]) rfl rfl (F2.cons (ho0 true) (F2.cons (ho1 true) F2.nil))

set_option maxHeartbeats 800000 in
set_option maxRecDepth 100000 in
theorem FnWorldOneDb_lifted (os : Os) (started : os.Started) (H : Type) (enc : TypeId × Value → H) :
    ReturnsInHanded {} Tryz.checked os 8 .any (Rows.fnWorldOneDbSpec.pre6 enc Tryz.prog Tryz.f8 Rows.fnWorldOneDbRow.domain false) (Rows.fnWorldOneDbSpec.post enc Tryz.prog Tryz.f8 false true false false) := by
  refine returnsInHanded_of_change (C := Tryz.checked) row_own started (by kernel_rfl) Tryz.func8
    (ChangeSpec.witness6 (enc := enc) (C := Tryz.checked) false ⟨#[], #[.slice none 0 0, .slice none 0 0], []⟩ 8 (by kernel_rfl) (by kernel_rfl) (by kernel_rfl) (by kernel_rfl)) ?_
  intro W base args ds gs before hval0 hW _ _
  have hval : ∀ (j : Nat) t v, Tryz.f8.params[j]? = some t → args[j]? = some v → Value.okWide Tryz.prog W .any base t v := hval0
  have hW' := hW
  obtain ⟨p, q, hA0, hV, rfl, _, _⟩ := hW
  have hA : DataW.TrodAll enc Tryz.prog W 0 (fun _ => true) true Tryz.f8.params.toList args.toList ds p := hA0
  rw [Tryz.params8] at hA hval
  obtain ⟨v0, vs0, d0, ds0, p0, q0, hargs, rfl, rfl, h0, r0⟩ := trodAll_cons hA
  obtain ⟨v1, vs1, d1, ds1, p1, q1, rfl, rfl, rfl, h1, r1⟩ := trodAll_cons r0
  obtain ⟨rfl, rfl, rfl⟩ := trodAll_nil r1
  obtain rfl : args = #[v0, v1] := by cases args; simp_all
  obtain ⟨rfl, rfl⟩ := trodVars_none hV
  clear hA0 hval0
  simp only [List.append_nil] at hW'
  have hlt : ∀ x ∈ p0 ++ (p1), x.block < W.heap.size := fun x hx => by simpa using hW'.lt x hx
  have k0 := fun (W' : World) (hb : Below W.heap.size W W') => Below.trod row_laid (by kernel_rfl) (of_decide_eq_true (by kernel_rfl)) h0 hb (fun x hx => hlt x (by simp [hx]))
  have k1 := fun (W' : World) (hb : Below W.heap.size W W') => Below.trod row_laid (by kernel_rfl) (of_decide_eq_true (by kernel_rfl)) h1 hb (fun x hx => hlt x (by simp [hx]))
  refine (law_FnWorldOneDb v0 v1 W (opn_bytes (hval 0 22 v0 rfl rfl) h0) (opn_bytes (hval 1 22 v1 rfl rfl) h1)).mono fun e W' ⟨he, hb⟩ => ?_
  subst he
  have hargs := (trodAll_cons_mk (k0 _ hb) (trodAll_cons_mk (k1 _ hb) trodAll_mk0))
  simp only [List.append_nil] at hargs
  exact ⟨_, rfl, _, _, _, [], _, [], hW', trodAll_mk1 (shut_bool Tryz.underlying4 _), hargs, rfl, hb.frame _, fun h => by cases h⟩
theorem FnWorldOneDb_holds : Rows.FnWorldOneDbSaid :=
  OpenClaim.holds_of_wide 8 Tryz.f8 rfl rfl rfl rfl rfl rfl rfl ⟨rfl, rfl, rfl, rfl, rfl⟩ rfl rfl rfl rfl rfl (by kernel_rfl) Tryz.func8 (by kernel_rfl)
    (of_decide_eq_true (by kernel_rfl)) (by unfold Func.isWrapper; first | (rw [if_pos (by decide +kernel)]; kernel_rfl) | (rw [if_neg (by decide +kernel)]; exact ⟨rfl, rfl⟩))
    (fun os started H enc _ => FnWorldOneDb_lifted os started H enc)
#print axioms FnWorldOneDb_holds
end Go.Proofs.YtojdflifijpffaaGreat
end
