/- Plain contracts: the place of an origin; the graph of announcements. -/
import Derived.Test.YtjdebphkndfolaaPq
namespace Go.Proofs.Ytjdebphkndfolaa
open Go.RowKit
set_option linter.unusedSimpArgs false
set_option linter.unusedVariables false
set_option maxRecDepth 100000

theorem half {i j : Nat} (h : i + j ≤ 4611686018427387904) : wrap64 (shrK .u64 (wrapK .u64 (wrap64 ((i : Int) + (j : Int)))) 1) = (((i + j) / 2 : Nat) : Int) := by
  rw [w64 (x := (i : Int) + j) (by omega) (by omega)]
  have e : wrapK .u64 ((i : Int) + j) = (i : Int) + j := by
    simp [wrapK, IntKind.wrap, IntKind.signed, IntKind.bits]
    omega
  rw [e]
  unfold shrK
  rw [show (1 : Int).toNat = 1 from rfl, show min 1 (IntKind.bits .u64) = 1 from rfl]
  rw [Int.fdiv_eq_ediv_of_nonneg _ (by decide)]
  rw [w64 (by omega) (by omega)]
  omega
/-- Where an announcement of an origin stands, or would stand. -/
def IsPl (db : List Ls) (o : Int) (i : Nat) : Prop := i ≤ db.length ∧ (∀ x, x < i → (lsa db x).o < o) ∧ ∀ x, i ≤ x → x < db.length → o ≤ (lsa db x).o
def hasAt (db : List Ls) (o : Int) (i : Nat) : Bool := decide (i < db.length ∧ (lsa db i).o = o)
def Srt (db : List Ls) : Prop := ∀ i j, i < j → j < db.length → (lsa db i).o < (lsa db j).o
theorem DbV.srt {db : List Ls} (h : DbV db) : Srt db := by
  have step : ∀ d i, i + d + 1 < db.length → (lsa db i).o < (lsa db (i + d + 1)).o := fun d => by
    induction d with
    | zero => intro i hi; exact (h (i + 1) hi).2 (by omega)
    | succ d ih =>
      intro i hi
      have h1 := ih i (by omega)
      have h2 := (h (i + (d + 1) + 1) hi).2 (by omega)
      rw [Nat.add_sub_cancel] at h2
      rw [show i + (d + 1) = i + d + 1 by omega] at h2 ⊢
      omega
  intro i j hij hj
  have := step (j - i - 1) i (by omega)
  rwa [show i + (j - i - 1) + 1 = j by omega] at this
theorem e_cmp (a b : Int) : sh_cmp_Compare_int (a, b, ()) = some (if a < b then -1 else if b < a then 1 else 0, ()) := by
  have e : ∀ x : Int, sh_cmp_isNaN_int (x, ()) = some (false, ()) := fun x => by simp [sh_cmp_isNaN_int]
  unfold sh_cmp_Compare_int
  simp only [e, Option.bind_some, cond_false]
  by_cases h1 : a < b
  · simp [h1]
  · by_cases h2 : b < a <;> simp [h1, h2]
theorem e_dbPlace (db : List Ls) (o : Int) (hs : Srt db) (hl : db.length ≤ 2000000000) : ∃ i : Nat, IsPl db o i ∧ sh_impl_dbPlace (db, o, ()) = some ((i : Int), hasAt db o i, ()) := by
  have hmono : ∀ i j, i ≤ j → j < db.length → (lsa db i).o ≤ (lsa db j).o := fun i j hij hj => by
    rcases Nat.eq_or_lt_of_le hij with e | e
    · subst e; exact Int.le_refl _
    · have := hs i j e hj; omega
  have key : Sat (sh_impl_dbPlace (db, o, ())) fun r => ∃ i : Nat, IsPl db o i ∧ r = ((i : Int), hasAt db o i, ()) := by
    unfold sh_impl_dbPlace sh_slices_BinarySearchFunc_impl_Lsa_impl_Lsa_int_dbPlace_1
    refine Sat.bnd (R := fun r => ∃ i : Nat, IsPl db o i ∧ r = ((i : Int), hasAt db o i, ())) (Sat.bnd (R := fun r => match r with | .inl x => ∃ i : Nat, IsPl db o i ∧ x = (db, o, (db.length : Int), (i : Int), ()) | .inr _ => False) ?_ ?_) ?_
    · refine Sat.loop (fun s => ∃ i j : Nat, s = (db, o, (db.length : Int), (i : Int), (j : Int), ()) ∧ i ≤ j ∧ j ≤ db.length ∧ (∀ x, x < i → (lsa db x).o < o) ∧ ∀ x, j ≤ x → x < db.length → o ≤ (lsa db x).o) (fun s => (s.2.2.2.2.1 - s.2.2.2.1).toNat) ?_ fuel _ ?_ ?_
      · rintro _ ⟨i, j, rfl, hij, hj, h1, h2⟩
        simp only [bo_slices_BinarySearchFunc_impl_Lsa_impl_Lsa_int_dbPlace_1_3, half (show i + j ≤ 4611686018427387904 by omega), at_ls, toN, sh_impl_dbPlace_1, e_cmp, Option.bind_some]
        refine Sat.ite (fun hlt => ?_) (fun hlt => ?_)
        · have hlt := of_decide_eq_true hlt
          have hm : (i + j) / 2 < j ∧ i ≤ (i + j) / 2 := by omega
          generalize (i + j) / 2 = m at *
          refine Sat.gd (inR_t (by omega) (by omega)) (Sat.ite (fun hc => ?_) (fun hc => ?_))
          · have hc := of_decide_eq_true hc
            have hc : (lsa db m).o < o := by
              by_cases h : (lsa db m).o < o
              · exact h
              · rw [if_neg h] at hc
                split at hc <;> omega
            rw [w64 (by omega) (by omega)]
            refine .some ⟨⟨m + 1, j, rfl, by omega, hj, fun x hx => ?_, h2⟩, by dsimp only; omega⟩
            have := hmono x m (by omega) (by omega)
            omega
          · have hc := of_decide_eq_false hc
            have hc : o ≤ (lsa db m).o := by
              by_cases h : (lsa db m).o < o
              · rw [if_pos h] at hc; omega
              · omega
            refine .some ⟨⟨i, m, rfl, by omega, by omega, h1, fun x hx hxl => ?_⟩, by dsimp only; omega⟩
            have := hmono m x hx hxl
            omega
        · have hlt := of_decide_eq_false hlt
          obtain rfl : i = j := by omega
          exact .some ⟨i, ⟨hj, h1, h2⟩, rfl⟩
      · rw [nI_eq]; dsimp only; unfold fuel; omega
      · exact ⟨0, db.length, by rw [nI_eq]; rfl, by omega, by omega, fun x hx => by omega, fun x hx hxl => by omega⟩
    · rintro (r | r) hr
      case inr => exact hr.elim
      obtain ⟨i, hi, rfl⟩ := hr
      simp only [at_ls, toN, sh_impl_dbPlace_1, e_cmp, Option.bind_some]
      refine Sat.ite (fun hlt => ?_) (fun hlt => ?_)
      · have hlt := of_decide_eq_true hlt
        refine Sat.gd (inR_t (by omega) (by omega)) (.some ⟨i, hi, ?_⟩)
        have hge := hi.2.2 i (Nat.le_refl _) (by omega)
        unfold hasAt
        by_cases h : (lsa db i).o = o
        · rw [decide_eq_true (show i < db.length ∧ (lsa db i).o = o from ⟨by omega, h⟩), h, if_neg (by omega), if_neg (by omega)]; rfl
        · rw [decide_eq_false (show ¬ (i < db.length ∧ (lsa db i).o = o) from fun g => h g.2), if_neg (by omega), if_pos (by omega)]; rfl
      · have hlt := of_decide_eq_false hlt
        refine .some ⟨i, hi, ?_⟩
        unfold hasAt
        rw [decide_eq_false (show ¬ (i < db.length ∧ (lsa db i).o = o) from fun g => by omega)]
    · rintro _ ⟨i, hi, rfl⟩
      exact .some ⟨i, hi, rfl⟩
  obtain ⟨r, h1, i, h2, h3⟩ := key
  exact ⟨i, h2, by rw [h1, h3]⟩
theorem fd_place {db : List Ls} {o : Int} {i : Nat} (hs : Srt db) (h : IsPl db o i) : fd db o = if hasAt db o i then some (lsa db i) else none := by
  unfold hasAt
  by_cases hc : i < db.length ∧ (lsa db i).o = o
  · rw [decide_eq_true hc, if_pos rfl]
    unfold fd
    rw [lsa_get hc.1]
    exact find_hit hc.1 (decide_eq_true (by rw [← lsa_get hc.1]; exact hc.2)) fun x hx hxi => decide_eq_false (by rw [← lsa_get hx]; have := h.2.1 x hxi; omega)
  · rw [decide_eq_false hc]
    unfold fd
    refine find_miss (p := fun l : Ls => decide (l.o = o)) (l := db) fun x hx => decide_eq_false ?_
    rw [← lsa_get hx]
    rcases Nat.lt_or_ge x i with h1 | h1
    · have := h.2.1 x h1; omega
    · intro e
      have h2 := h.2.2 x h1 hx
      have h3 := h.2.2 i (Nat.le_refl _) (by omega)
      rcases Nat.eq_or_lt_of_le h1 with e2 | e2
      · subst e2; exact hc ⟨hx, e⟩
      · have := hs i x e2 hx; omega
end Go.Proofs.Ytjdebphkndfolaa
