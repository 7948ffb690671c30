/- Part 6 of the proof: Pb Pq Pr Ps Pv Py Pe1 Pe2 Pz Px Pw1 Pw Pw2 Pw3 Pw4 Pw5 Pw6 Pw8 PwA Pe3 Pe4 Pe5 Pe7 Pe8 Pe9 PeA PeB. -/
import Derived.Test.YtdfkphagjkpgdaaQn5
set_option linter.unusedSimpArgs false
set_option linter.unusedVariables false
section
namespace Go.Proofs.Ytdfkphagjkpgdaa
open Go.RowKit
set_option linter.unusedSimpArgs false
set_option linter.unusedVariables false

theorem at_int (zs : List Int) (i : Nat) : at! .int zs i = iz zs i := by
  induction zs generalizing i with
  | nil => rfl
  | cons z r ih => cases i with
    | zero => rfl
    | succ i => exact (ih i).trans (by simp [iz])
theorem at_lk (ls : List Lk) (i : Nat) : at! .lk ls i = lk ls i := by
  induction ls generalizing i with
  | nil => rfl
  | cons z r ih => cases i with
    | zero => rfl
    | succ i => exact (ih i).trans (by simp [lk])
abbrev Fits {α : Type} (l : List α) : Prop := l.length ≤ 4611686018427387904
theorem e_within (a b c : Int) : sh_impl_within (a, b, c, ()) = some (inB a b c, ()) := by
  unfold sh_impl_within inB
  by_cases h : b ≤ a <;> simp [h]
theorem e_l6In (a b c : Int) : sh_spec_l6In (a, b, c, ()) = some (inB a b c, ()) := by
  unfold sh_spec_l6In inB
  by_cases h : b ≤ a <;> simp [h]
theorem fuel_lt {n : Nat} (h : n ≤ 4611686018427387904) : n < fuel := by unfold fuel; omega
theorem toN (k : Nat) : Int.toNat (k : Int) = k := rfl
theorem toN1 (k : Nat) : Int.toNat ((k : Int) - 1) = k - 1 := by omega

theorem e_GraphValid (n : Int) (ls : List Lk) (hl : Fits ls) : sh_impl_GraphValid (n, ls, ()) = some (gv n ls, ()) := by
  unfold sh_impl_GraphValid
  simp only [e_within, Option.bind_some, nI_eq]
  cases h1 : inB n 1 8 with
  | false => simp; rw [gv_f fun g => inB_f h1 ⟨g.1, g.2.1⟩]
  | true =>
  have h1 := inB_t h1
  by_cases h2 : ls.length ≤ 14
  case neg => 
    have : (14 : Int) < ls.length := by omega
    simp [this]; rw [gv_f fun g => h2 g.2.2.1]
  have h2' : ¬ (14 : Int) < ls.length := by omega
  simp only [h2', decide_false, cond_false, Bool.not_true]
  refine Sat.out (Sat.bnd (R := fun r => match r with | .inl _ => gv n ls = true | .inr y => y.1 = gv n ls) ?_ ?_)
  · refine Sat.count ls.length (fun k s => s = (ls, (ls.length : Int), (k : Int), n, ls, ()) ∧ ∀ i, i < k → LkAt n ls i) ?_ (Nat.zero_le _) (fuel_lt (by omega)) ⟨rfl, fun i hi => by omega⟩
    rintro k s hk ⟨rfl, hok⟩
    simp (disch := omega) only [bo_impl_GraphValid_4, at_lk, toN, toN1, w64, e_within, Option.bind_some]
    repeat' (first
      | refine Sat.some ?_
      | fail
      | (refine Sat.gd (by first | exact inR_t (by omega) (by omega) | (simp (disch := omega) only [w64]; exact inR_t (by omega) (by omega))) ?_)
      | (refine Sat.ite (fun h => ?_) (fun h => ?_) <;> try simp only [decide_eq_true_eq, decide_eq_false_iff_not, Bool.not_eq_true', Bool.not_eq_false', inB_i, inB_j, Bool.and_eq_true, Bool.or_eq_true, Bool.and_eq_false_iff, Bool.or_eq_false_iff, El] at h))
    all_goals dsimp only
    all_goals first
      | exact (gv_at (k := k) (by omega) fun _ _ g => by unfold LkAt at g; omega).symm
      | (refine ⟨by omega, rfl, fun i hi => ?_⟩
         by_cases e : i < k
         · exact hok i e
         · obtain rfl : i = k := by omega
           unfold LkAt
           omega)
      | (obtain rfl : k = ls.length := by omega
         exact decide_eq_true ⟨h1.1, h1.2, h2, hok⟩)
  · rintro (r | r) hr
    · exact .some (by simp [hr])
    · obtain ⟨b, u⟩ := r
      have hr : b = gv n ls := hr
      exact .some (by rw [hr])

theorem e_sGraphValid (n : Int) (ls : List Lk) (hl : Fits ls) : sh_spec_GraphValid (n, ls, ()) = some (gv n ls, ()) := by
  unfold sh_spec_GraphValid
  refine Sat.out (Sat.bnd (R := fun r => match r with | .inl x => x = (n, ls, ()) ∧ gv n ls = (inB n 1 8 && decide ((ls.length : Int) ≤ 14)) | .inr y => y.1 = false ∧ gv n ls = false) ?_ ?_)
  · refine Sat.count ls.length (fun k s => s = ((k : Int), n, ls, ()) ∧ (1 ≤ n → n ≤ 8 → ∀ i, i < k → LkAt n ls i)) ?_ (Nat.zero_le _) (fuel_lt (by omega)) ⟨rfl, fun _ _ i hi => by omega⟩
    rintro k s hk ⟨rfl, hok⟩
    simp (disch := omega) only [bo_spec_GraphValid_2, at_lk, toN, toN1, w64, nI_eq, e_l6In, Option.bind_some]
    repeat' (first
      | refine Sat.some ?_
      | fail
      | (refine Sat.gd (by first | exact inR_t (by omega) (by omega) | (simp (disch := omega) only [w64]; exact inR_t (by omega) (by omega))) ?_)
      | (refine Sat.ite (fun h => ?_) (fun h => ?_) <;> try simp only [decide_eq_true_eq, decide_eq_false_iff_not, Bool.not_eq_true', Bool.not_eq_false', inB_i, inB_j, Bool.and_eq_true, Bool.or_eq_true, Bool.and_eq_false_iff, Bool.or_eq_false_iff, El] at h))
    all_goals dsimp only
    all_goals first
      | (refine ⟨rfl, gv_at (k := k) (by omega) fun h1 h2 g => ?_⟩
         unfold LkAt at g
         have e1 : wrap64 (n - 1) = n - 1 := w64 (by omega) (by omega)
         have e2 : wrap64 ((lk ls k).a + 1) = (lk ls k).a + 1 := w64 (by omega) (by omega)
         simp only [e1, e2] at *
         omega)
      | (refine ⟨by omega, rfl, fun h1 h2 i hi => ?_⟩
         by_cases e : i < k
         · exact hok h1 h2 i e
         · obtain rfl : i = k := by omega
           have e1 : wrap64 (n - 1) = n - 1 := w64 (by omega) (by omega)
           simp only [e1] at *
           have e2 : wrap64 ((lk ls i).a + 1) = (lk ls i).a + 1 := w64 (by omega) (by omega)
           simp only [e2] at *
           unfold LkAt
           omega)
      | exact ⟨rfl, gv_end (show ls.length = k by omega) hok ▸ (by rw [show ls.length = k by omega])⟩
  · rintro (r | r) hr
    · have hr : r = (n, ls, ()) ∧ gv n ls = (inB n 1 8 && decide ((ls.length : Int) ≤ 14)) := hr
      obtain ⟨rfl, hr⟩ := hr
      simp only [e_l6In, Option.bind_some, nI_eq, hr]
      cases inB n 1 8 <;> exact .some rfl
    · obtain ⟨b, u⟩ := r
      have hr : b = false ∧ gv n ls = false := hr
      exact .some (by rw [hr.1, hr.2])
theorem gv_rng {n : Int} {ls : List Lk} (h : gv n ls = true) : 1 ≤ n ∧ n ≤ 8 := ⟨(gv_t h).1, (gv_t h).2.1⟩
theorem e_l1Node (n m : Int) (ls : List Lk) (h0 : 0 ≤ n) (h1 : n ≤ 10000) : sh_spec_l1Node (n, ls, m, ()) = some (inB m 0 (n - 1), ()) := by
  unfold sh_spec_l1Node
  simp (disch := omega) only [e_l6In, w64, Option.bind_some]
theorem e_hasNode (n m : Int) (ls : List Lk) (hl : Fits ls) : sh_impl_Graph_hasNode (n, ls, m, ()) = some (gv n ls && inB m 0 (n - 1), ()) := by
  unfold sh_impl_Graph_hasNode
  simp only [e_GraphValid n ls hl, Option.bind_some]
  cases h : gv n ls with
  | false => rfl
  | true =>
    have := gv_rng h
    simp (disch := omega) only [e_within, w64, Option.bind_some, cond_true, Bool.true_and]
theorem eqInts_self : ∀ xs : List Int, eqInts xs xs = true
  | [] => rfl
  | x :: r => by simp [eqInts, eqInts_self r]
theorem e_sameGraph (n : Int) (ls : List Lk) (hl : Fits ls) : sh_laws_sameGraph (n, ls, n, ls, ()) = some (true, ()) := by
  unfold sh_laws_sameGraph
  simp only [decide_true, Bool.not_true, cond_false]
  refine Sat.out (Sat.bnd (R := fun r => match r with | .inl _ => True | .inr _ => False) ?_ ?_)
  · refine Sat.count ls.length (fun k s => s = ((k : Int), n, ls, n, ls, ())) ?_ (Nat.zero_le _) (fuel_lt (by omega)) rfl
    rintro k s hk rfl
    simp (disch := omega) only [bo_laws_sameGraph_4, at_lk, toN, w64, nI_eq, eqInts_self, Bool.not_true, cond_false]
    repeat' (first
      | refine Sat.some ?_
      | fail
      | (refine Sat.gd (by first | exact inR_t (by omega) (by omega) | (simp (disch := omega) only [w64]; exact inR_t (by omega) (by omega))) ?_)
      | (refine Sat.ite (fun h => ?_) (fun h => ?_) <;> try simp only [decide_eq_true_eq, decide_eq_false_iff_not, Bool.not_eq_true', Bool.not_eq_false', inB_i, inB_j, Bool.and_eq_true, Bool.or_eq_true, Bool.and_eq_false_iff, Bool.or_eq_false_iff, El] at h))
    all_goals dsimp only
    · exact ⟨by omega, rfl⟩
  · rintro (r | r) hr
    · exact .some rfl
    · exact hr.elim
theorem e_sameInts (zs : List Int) (hl : Fits zs) : sh_laws_sameInts (zs, zs, ()) = some (true, ()) := by
  unfold sh_laws_sameInts
  simp only [decide_true, Bool.not_true, cond_false]
  refine Sat.out (Sat.bnd (R := fun r => match r with | .inl _ => True | .inr _ => False) ?_ ?_)
  · refine Sat.count zs.length (fun k s => s = (zs, zs, (k : Int), ())) ?_ (Nat.zero_le _) (fuel_lt (by omega)) rfl
    rintro k s hk rfl
    simp (disch := omega) only [bo_laws_sameInts_4, at_int, toN, w64, nI_eq, decide_true, Bool.not_true, cond_false]
    repeat' (first
      | refine Sat.some ?_
      | fail
      | (refine Sat.gd (by first | exact inR_t (by omega) (by omega) | (simp (disch := omega) only [w64]; exact inR_t (by omega) (by omega))) ?_)
      | (refine Sat.ite (fun h => ?_) (fun h => ?_) <;> try simp only [decide_eq_true_eq, decide_eq_false_iff_not, Bool.not_eq_true', Bool.not_eq_false', inB_i, inB_j, Bool.and_eq_true, Bool.or_eq_true, Bool.and_eq_false_iff, Bool.or_eq_false_iff, El] at h))
    all_goals dsimp only
    · exact ⟨by omega, rfl⟩
  · rintro (r | r) hr
    · exact .some rfl
    · exact hr.elim
end Go.Proofs.Ytdfkphagjkpgdaa

namespace Go.Proofs.Ytdfkphagjkpgdaa
open Go.RowKit
set_option linter.unusedSimpArgs false
set_option linter.unusedVariables false

theorem e_l1Link (n : Int) (ls : List Lk) (a b : Int) (hl : Fits ls) : sh_spec_l1Link (n, ls, a, b, ()) = some (lof ls a b, ()) := by
  unfold sh_spec_l1Link
  refine Sat.out (Sat.bnd (R := fun r => match r with | .inl _ => lof ls a b = -1 | .inr y => y.1 = lof ls a b) ?_ ?_)
  · refine Sat.count ls.length (fun k s => s = (a, b, (k : Int), n, ls, ()) ∧ ∀ i, i < k → hitB (min a b) (max a b) (lk ls i) = false) ?_ (Nat.zero_le _) (fuel_lt (by omega)) ⟨rfl, fun i hi => by omega⟩
    rintro k s hk ⟨rfl, hok⟩
    simp (disch := omega) only [bo_spec_l1Link_2, at_lk, toN, w64, nI_eq]
    repeat' (first
      | refine Sat.some ?_
      | fail
      | (refine Sat.gd (by first | exact inR_t (by omega) (by omega) | (simp (disch := omega) only [w64]; exact inR_t (by omega) (by omega))) ?_)
      | (refine Sat.ite (fun h => ?_) (fun h => ?_) <;> try simp only [decide_eq_true_eq, decide_eq_false_iff_not, Bool.not_eq_true', Bool.not_eq_false', inB_i, inB_j, Bool.and_eq_true, Bool.or_eq_true, Bool.and_eq_false_iff, Bool.or_eq_false_iff, El] at h))
    all_goals try dsimp only
    all_goals first
      | (exact (lof_hit (by omega) (hit_yes (by assumption) (by assumption)) hok).symm)
      | (refine ⟨by omega, rfl, fun i hi => ?_⟩
         by_cases e : i < k
         · exact hok i e
         · obtain rfl : i = k := by omega
           exact hit_no (by omega))
      | exact lof_miss fun i hi => hok i (by omega)
  · rintro (r | r) hr
    · have hr : lof ls a b = -1 := hr
      exact .some (by rw [hr])
    · obtain ⟨z, u⟩ := r
      have hr : z = lof ls a b := hr
      exact .some (by rw [hr])
theorem e_linkOf (n : Int) (ls : List Lk) (a b : Int) (hl : Fits ls) : sh_impl_Graph_linkOf (n, ls, a, b, ()) = some (lof ls a b, ()) := by
  unfold sh_impl_Graph_linkOf sh_slices_IndexFunc_impl_Link_impl_Link_Graph_linkOf_1
  refine Sat.out (Sat.bnd (R := fun r => r.1 = lof ls a b) (Sat.bnd (R := fun r => match r with | .inl _ => lof ls a b = -1 | .inr y => y.1 = lof ls a b) ?_ ?_) ?_)
  · refine Sat.count ls.length (fun k s => s = (ls, a, b, (ls.length : Int), (k : Int), ()) ∧ ∀ i, i < k → hitB (min a b) (max a b) (lk ls i) = false) ?_ (Nat.zero_le _) (fuel_lt (by omega)) ⟨by simp [nI_eq], fun i hi => by omega⟩
    rintro k s hk ⟨rfl, hok⟩
    have e1 : ∀ x y z p q : Int, sh_impl_Graph_linkOf_1 (x, y, z, p, q, ()) = some (decide (x = min p q) && decide (y = max p q), ()) := fun x y z p q => by
      unfold sh_impl_Graph_linkOf_1
      by_cases h : x = min p q <;> simp [h]
    simp (disch := omega) only [bo_slices_IndexFunc_impl_Link_impl_Link_Graph_linkOf_1_2, at_lk, toN, w64, nI_eq, e1, Option.bind_some]
    repeat' (first
      | refine Sat.some ?_
      | fail
      | (refine Sat.gd (by first | exact inR_t (by omega) (by omega) | (simp (disch := omega) only [w64]; exact inR_t (by omega) (by omega))) ?_)
      | (refine Sat.ite (fun h => ?_) (fun h => ?_) <;> try simp only [decide_eq_true_eq, decide_eq_false_iff_not, Bool.not_eq_true', Bool.not_eq_false', inB_i, inB_j, Bool.and_eq_true, Bool.or_eq_true, Bool.and_eq_false_iff, Bool.or_eq_false_iff, El] at h))
    all_goals try dsimp only
    all_goals first
      | (exact (lof_hit (by omega) (hit_yes (by omega) (by omega)) hok).symm)
      | (refine ⟨by omega, rfl, fun i hi => ?_⟩
         by_cases e : i < k
         · exact hok i e
         · obtain rfl : i = k := by omega
           exact hit_no (by omega))
      | exact lof_miss fun i hi => hok i (by omega)
  · rintro (r | r) hr
    · have hr : lof ls a b = -1 := hr
      exact .some (by rw [hr])
    · exact .some hr
  · rintro ⟨z, u⟩ hr
    have hr : z = lof ls a b := hr
    exact .some (by rw [hr])
def glink (n : Int) (ls : List Lk) (a b : Int) : Int := if gv n ls then lof ls a b else -1
theorem e_GraphLink (n : Int) (ls : List Lk) (a b : Int) (hl : Fits ls) : sh_impl_GraphLink (n, ls, a, b, ()) = some (glink n ls a b, ()) := by
  unfold sh_impl_GraphLink glink
  simp only [e_GraphValid n ls hl, e_linkOf n ls a b hl, Option.bind_some]
  cases gv n ls <;> rfl
theorem e_other (a b c n : Int) : sh_impl_Link_other (a, b, c, n, ()) = some (otherE ⟨a, b, c⟩ n, isEnd ⟨a, b, c⟩ n, ()) := by
  unfold sh_impl_Link_other otherE isEnd
  by_cases h : n = a
  · simp [h]
  · by_cases h' : n = b
    · subst h'; simp [h]
    · simp [h, h']
theorem e_neighbours (n : Int) (ls : List Lk) (m : Int) (hl : ls.length ≤ 16777216) : sh_impl_Graph_neighbours (n, ls, m, ()) = some (sortI (others ls m ls.length), ()) := by
  unfold sh_impl_Graph_neighbours
  refine Sat.out (Sat.bnd (R := fun r => match r with | .inl x => x.1 = others ls m ls.length | .inr _ => False) ?_ ?_)
  · refine Sat.count ls.length (fun k s => s = (m, ls, (ls.length : Int), (k : Int), others ls m k, ())) ?_ (Nat.zero_le _) (fuel_lt (by omega)) (by simp [nI_eq, others])
    rintro k s hk rfl
    have hlen := others_len ls m k
    simp (disch := omega) only [bo_impl_Graph_neighbours_3, at_lk, toN, w64, nI_eq, e_other, Option.bind_some, List.length_singleton]
    repeat' (first
      | refine Sat.some ?_
      | (refine Sat.gd (decide_eq_true (by omega)) ?_)
      | (refine Sat.gd (by first | exact inR_t (by omega) (by omega) | (simp (disch := omega) only [w64]; exact inR_t (by omega) (by omega))) ?_)
      | (refine Sat.ite (fun h => ?_) (fun h => ?_) <;> try simp only [decide_eq_true_eq, decide_eq_false_iff_not, Bool.not_eq_true', Bool.not_eq_false', inB_i, inB_j, Bool.and_eq_true, Bool.or_eq_true, Bool.and_eq_false_iff, Bool.or_eq_false_iff, El] at h))
    all_goals try dsimp only
    all_goals first
      | (refine ⟨by omega, ?_⟩
         rw [others_succ ls m k (by omega)]
         simp [*])
      | (obtain rfl : k = ls.length := by omega
         rfl)
  · rintro (r | r) hr
    · have hr : r.1 = others ls m ls.length := hr
      show Sat ((sh_slices_Sort_int_int (r.1, ())).bind _) _
      rw [hr]
      have hlen := others_len ls m ls.length
      unfold sh_slices_Sort_int_int
      rw [decide_eq_true (show (others ls m ls.length).length ≤ 16777216 by omega)]
      exact .some rfl
    · exact hr.elim
theorem gv14 {n : Int} {ls : List Lk} (h : gv n ls = true) : ls.length ≤ 14 := (gv_t h).2.2.1
theorem e_GraphNeighbours (n : Int) (ls : List Lk) (m : Int) (hl : Fits ls) : sh_impl_GraphNeighbours (n, ls, m, ()) = some (if gv n ls && inB m 0 (n - 1) then sortI (others ls m ls.length) else [], ()) := by
  unfold sh_impl_GraphNeighbours
  simp only [e_hasNode n m ls hl, Option.bind_some]
  cases h : gv n ls with
  | false => rfl
  | true =>
    have := gv14 h
    rw [e_neighbours n ls m (by omega)]
    cases inB m 0 (n - 1) <;> rfl
theorem e_sGraphNeighbours (n : Int) (ls : List Lk) (m : Int) (hl : Fits ls) : sh_spec_GraphNeighbours (n, ls, m, ()) = some (if gv n ls then nbS ls m 8 else [], ()) := by
  unfold sh_spec_GraphNeighbours
  refine Sat.out (Sat.bnd (R := fun r => match r with | .inl x => x.1 = if gv n ls then nbS ls m 8 else [] | .inr _ => False) ?_ ?_)
  · cases hg : gv n ls with
    | false =>
      refine Sat.count 0 (fun k s => s = (m, (0 : Int), n, ls, ([] : List Int), ())) ?_ (Nat.zero_le _) (fuel_lt (by omega)) rfl
      rintro k s hk rfl
      simp only [bo_spec_GraphNeighbours_3, e_sGraphValid n ls hl, Option.bind_some, hg]
      exact .some (by simp)
    | true =>
      refine Sat.count 8 (fun k s => s = (m, (k : Int), n, ls, nbS ls m k, ())) ?_ (Nat.zero_le _) (fuel_lt (by omega)) rfl
      rintro k s hk rfl
      have hlen := nbS_len ls m k
      simp (disch := omega) only [bo_spec_GraphNeighbours_3, e_sGraphValid n ls hl, e_l1Link _ _ _ _ hl, Option.bind_some, hg, w64, List.length_singleton, cond_true]
      repeat' (first
        | refine Sat.some ?_
        | (refine Sat.gd (decide_eq_true (by omega)) ?_)
        | (refine Sat.gd (by first | exact inR_t (by omega) (by omega) | (simp (disch := omega) only [w64]; exact inR_t (by omega) (by omega))) ?_)
        | (refine Sat.ite (fun h => ?_) (fun h => ?_) <;> try simp only [decide_eq_true_eq, decide_eq_false_iff_not, Bool.not_eq_true', Bool.not_eq_false', inB_i, inB_j, Bool.and_eq_true, Bool.or_eq_true, Bool.and_eq_false_iff, Bool.or_eq_false_iff, El] at h))
      all_goals try dsimp only
      all_goals first
        | (refine ⟨by omega, ?_⟩
           rw [nbS_succ]
           simp [*])
        | (obtain rfl : k = 8 := by omega
           rfl)
  · rintro (r | r) hr
    · have hr : r.1 = if gv n ls then nbS ls m 8 else [] := hr
      exact .some (by rw [hr])
    · exact hr.elim
end Go.Proofs.Ytdfkphagjkpgdaa

namespace Go.Proofs.Ytdfkphagjkpgdaa
open Go.RowKit
set_option linter.unusedSimpArgs false
set_option linter.unusedVariables false
set_option maxRecDepth 100000

section
variable {n : Nat} {ls : List Lk}
end
end Go.Proofs.Ytdfkphagjkpgdaa

namespace Go.Proofs.Ytdfkphagjkpgdaa
open Go.RowKit
set_option linter.unusedSimpArgs false
set_option linter.unusedVariables false
set_option maxRecDepth 100000

section
variable {n : Nat} {ls : List Lk}
end
end Go.Proofs.Ytdfkphagjkpgdaa

namespace Go.Proofs.Ytdfkphagjkpgdaa
open Go.RowKit
set_option linter.unusedSimpArgs false
set_option linter.unusedVariables false
set_option maxRecDepth 100000

section
variable {N : Nat} {la lb : List Lk} {bs : List Int}
end
end Go.Proofs.Ytdfkphagjkpgdaa

namespace Go.Proofs.Ytdfkphagjkpgdaa
open Go.RowKit
set_option linter.unusedSimpArgs false
set_option linter.unusedVariables false
set_option maxRecDepth 100000

section
variable {N : Nat} {la lb : List Lk} {bs : List Int}
end
end Go.Proofs.Ytdfkphagjkpgdaa

namespace Go.Proofs.Ytdfkphagjkpgdaa
open Go.RowKit
set_option linter.unusedSimpArgs false
set_option linter.unusedVariables false
set_option maxRecDepth 100000

section
variable {N : Nat} {la lb : List Lk} {bs : List Int}
end
end Go.Proofs.Ytdfkphagjkpgdaa
end
section
namespace Go.Proofs.Ytdfkphagjkpgdaa
open Go.RowKit
set_option linter.unusedSimpArgs false
set_option linter.unusedVariables false
set_option maxRecDepth 100000

def en (es : List En) (i : Nat) : En := es.getD i ⟨0, 0⟩
def lsa (db : List Ls) (i : Nat) : Ls := db.getD i ⟨0, 0, []⟩
theorem at_en (es : List En) (i : Nat) : at! .en es i = en es i := by
  induction es generalizing i with
  | nil => rfl
  | cons z r ih => cases i with
    | zero => rfl
    | succ i => exact (ih i).trans (by simp [en])
theorem at_ls (es : List Ls) (i : Nat) : at! .ls es i = lsa es i := by
  induction es generalizing i with
  | nil => rfl
  | cons z r ih => cases i with
    | zero => rfl
    | succ i => exact (ih i).trans (by simp [lsa])
theorem en_get {es : List En} {i : Nat} (h : i < es.length) : en es i = es[i] := by simp [en, h]
theorem lsa_get {es : List Ls} {i : Nat} (h : i < es.length) : lsa es i = es[i] := by simp [lsa, h]
def EnAt (o : Int) (es : List En) (i : Nat) : Prop := 0 ≤ (en es i).n ∧ (en es i).n ≤ 7 ∧ (en es i).n ≠ o ∧ 1 ≤ (en es i).c ∧ (en es i).c ≤ 20 ∧ (0 < i → (en es (i - 1)).n < (en es i).n)
instance (o : Int) (es : List En) (i : Nat) : Decidable (EnAt o es i) := by unfold EnAt; infer_instance
def LsV (l : Ls) : Prop := 0 ≤ l.o ∧ l.o ≤ 7 ∧ 1 ≤ l.s ∧ l.s ≤ 99 ∧ ∀ i, i < l.e.length → EnAt l.o l.e i
instance (l : Ls) : Decidable (LsV l) := by unfold LsV; infer_instance
def lsv (o s : Int) (es : List En) : Bool := decide (LsV ⟨o, s, es⟩)
theorem lsv_f {o s : Int} {es : List En} (h : ¬ LsV ⟨o, s, es⟩) : lsv o s es = false := decide_eq_false h
theorem lsv_t {o s : Int} {es : List En} (h : LsV ⟨o, s, es⟩) : lsv o s es = true := decide_eq_true h
theorem e_LsaValid (o s : Int) (es : List En) (hl : Fits es) : sh_impl_LsaValid (o, s, es, ()) = some (lsv o s es, ()) := by
  unfold sh_impl_LsaValid
  simp only [e_within, Option.bind_some, nI_eq]
  cases h1 : inB o 0 7 with
  | false => simp; exact lsv_f fun g => inB_f h1 ⟨g.1, g.2.1⟩
  | true =>
  cases h2 : inB s 1 99 with
  | false => simp; exact lsv_f fun g => inB_f h2 ⟨g.2.2.1, g.2.2.2.1⟩
  | true =>
  have h1 := inB_t h1
  have h2 := inB_t h2
  simp only [Bool.not_true, cond_false]
  refine Sat.out (Sat.bnd (R := fun r => match r with | .inl _ => lsv o s es = true | .inr y => y.1 = false ∧ lsv o s es = false) ?_ ?_)
  · refine Sat.count es.length (fun k t => t = (es, (es.length : Int), (k : Int), o, s, es, ()) ∧ ∀ i, i < k → EnAt o es i) ?_ (Nat.zero_le _) (fuel_lt (by omega)) ⟨rfl, fun i hi => by omega⟩
    rintro k t hk ⟨rfl, hok⟩
    simp (disch := omega) only [bo_impl_LsaValid_4, at_en, toN, toN1, w64, e_within, Option.bind_some]
    repeat' (first
      | refine Sat.some ?_
      | fail
      | (refine Sat.gd (by first | exact inR_t (by omega) (by omega) | (simp (disch := omega) only [w64]; exact inR_t (by omega) (by omega))) ?_)
      | (refine Sat.ite (fun h => ?_) (fun h => ?_) <;> try simp only [decide_eq_true_eq, decide_eq_false_iff_not, Bool.not_eq_true', Bool.not_eq_false', inB_i, inB_j, Bool.and_eq_true, Bool.or_eq_true, Bool.and_eq_false_iff, Bool.or_eq_false_iff, El] at h))
    all_goals try dsimp only
    all_goals first
      | (refine ⟨rfl, decide_eq_false fun g => ?_⟩
         have := g.2.2.2.2 k (by dsimp only; omega)
         unfold EnAt at this
         dsimp only at this
         omega)
      | (refine ⟨by omega, rfl, fun i hi => ?_⟩
         by_cases e : i < k
         · exact hok i e
         · obtain rfl : i = k := by omega
           unfold EnAt
           omega)
      | exact decide_eq_true ⟨h1.1, h1.2, h2.1, h2.2, fun i hi => hok i (by dsimp only at hi; omega)⟩
  · rintro (r | r) hr
    · have hr : lsv o s es = true := hr
      exact .some (by rw [hr])
    · obtain ⟨b, u⟩ := r
      have hr : b = false ∧ lsv o s es = false := hr
      exact .some (by rw [hr.1, hr.2])
theorem e_sLsaValid (o s : Int) (es : List En) (hl : Fits es) : sh_spec_LsaValid (o, s, es, ()) = some (lsv o s es, ()) := by
  unfold sh_spec_LsaValid
  refine Sat.out (Sat.bnd (R := fun r => match r with | .inl x => x = (o, s, es, ()) ∧ ∀ i, i < es.length → EnAt o es i | .inr y => y.1 = false ∧ lsv o s es = false) ?_ ?_)
  · refine Sat.count es.length (fun k t => t = ((k : Int), o, s, es, ()) ∧ ∀ i, i < k → EnAt o es i) ?_ (Nat.zero_le _) (fuel_lt (by omega)) ⟨rfl, fun i hi => by omega⟩
    rintro k t hk ⟨rfl, hok⟩
    simp (disch := omega) only [bo_spec_LsaValid_2, at_en, toN, toN1, w64, nI_eq, e_l6In, Option.bind_some]
    repeat' (first
      | refine Sat.some ?_
      | fail
      | (refine Sat.gd (by first | exact inR_t (by omega) (by omega) | (simp (disch := omega) only [w64]; exact inR_t (by omega) (by omega))) ?_)
      | (refine Sat.ite (fun h => ?_) (fun h => ?_) <;> try simp only [decide_eq_true_eq, decide_eq_false_iff_not, Bool.not_eq_true', Bool.not_eq_false', inB_i, inB_j, Bool.and_eq_true, Bool.or_eq_true, Bool.and_eq_false_iff, Bool.or_eq_false_iff, El] at h))
    all_goals try dsimp only
    all_goals first
      | (refine ⟨rfl, decide_eq_false fun g => ?_⟩
         have := g.2.2.2.2 k (by dsimp only; omega)
         unfold EnAt at this
         dsimp only at this
         omega)
      | (refine ⟨by omega, rfl, fun i hi => ?_⟩
         by_cases e : i < k
         · exact hok i e
         · obtain rfl : i = k := by omega
           unfold EnAt
           omega)
      | exact ⟨rfl, fun i hi => hok i (by omega)⟩
  · rintro (r | r) hr
    · have hr : r = (o, s, es, ()) ∧ ∀ i, i < es.length → EnAt o es i := hr
      obtain ⟨rfl, hq⟩ := hr
      simp only [e_l6In, Option.bind_some]
      cases h1 : inB o 0 7 with
      | false => exact .some (by rw [show lsv o s es = false from decide_eq_false fun g => inB_f h1 ⟨g.1, g.2.1⟩])
      | true =>
        cases h2 : inB s 1 99 with
        | false => exact .some (by rw [show lsv o s es = false from decide_eq_false fun g => inB_f h2 ⟨g.2.2.1, g.2.2.2.1⟩])
        | true =>
          have h1 := inB_t h1
          have h2 := inB_t h2
          exact .some (by rw [show lsv o s es = true from decide_eq_true ⟨h1.1, h1.2, h2.1, h2.2, hq⟩])
    · obtain ⟨b, u⟩ := r
      have hr : b = false ∧ lsv o s es = false := hr
      exact .some (by rw [hr.1, hr.2])
def DbV (db : List Ls) : Prop := ∀ i, i < db.length → LsV (lsa db i) ∧ (0 < i → (lsa db (i - 1)).o < (lsa db i).o)
instance (db : List Ls) : Decidable (DbV db) := by unfold DbV; infer_instance
def dbv (db : List Ls) : Bool := decide (DbV db)
theorem e_DbValid (db : List Ls) (hl : Fits db) (he : ∀ l ∈ db, Fits l.e) : sh_impl_DbValid (db, ()) = some (dbv db, ()) := by
  unfold sh_impl_DbValid
  refine Sat.out (Sat.bnd (R := fun r => match r with | .inl _ => dbv db = true | .inr y => y.1 = false ∧ dbv db = false) ?_ ?_)
  · refine Sat.count db.length (fun k t => t = (db, db, (db.length : Int), (k : Int), ()) ∧ ∀ i, i < k → LsV (lsa db i) ∧ (0 < i → (lsa db (i - 1)).o < (lsa db i).o)) ?_ (Nat.zero_le _) (fuel_lt (by omega)) ⟨by simp [nI_eq], fun i hi => by omega⟩
    rintro k t hk ⟨rfl, hok⟩
    by_cases hlt : k < db.length
    · have hf : Fits (lsa db k).e := he _ (by rw [lsa_get hlt]; exact List.getElem_mem hlt)
      simp (disch := omega) only [bo_impl_DbValid_2, at_ls, toN, toN1, w64, e_LsaValid _ _ _ hf, Option.bind_some]
      repeat' (first
        | refine Sat.some ?_
        | fail
        | (refine Sat.gd (by first | exact inR_t (by omega) (by omega) | (simp (disch := omega) only [w64]; exact inR_t (by omega) (by omega))) ?_)
        | (refine Sat.ite (fun h => ?_) (fun h => ?_) <;> try simp only [decide_eq_true_eq, decide_eq_false_iff_not, Bool.not_eq_true', Bool.not_eq_false', inB_i, inB_j, Bool.and_eq_true, Bool.or_eq_true, Bool.and_eq_false_iff, Bool.or_eq_false_iff, El] at h))
      all_goals try dsimp only
      all_goals first
        | (refine ⟨rfl, decide_eq_false fun g => ?_⟩
           have := g k hlt
           first | exact of_decide_eq_false (by assumption) this.1 | omega)
        | (refine ⟨by omega, rfl, fun i hi => ?_⟩
           by_cases e : i < k
           · exact hok i e
           · obtain rfl : i = k := by omega
             exact ⟨of_decide_eq_true (by assumption), fun _ => by omega⟩)
        | omega
    · obtain rfl : k = db.length := by omega
      unfold bo_impl_DbValid_2
      simp only [decide_eq_false (show ¬ (db.length : Int) < db.length by omega), cond_false]
      exact .some (decide_eq_true hok)
  · rintro (r | r) hr
    · have hr : dbv db = true := hr
      exact .some (by rw [hr])
    · obtain ⟨b, u⟩ := r
      have hr : b = false ∧ dbv db = false := hr
      exact .some (by rw [hr.1, hr.2])
def fd (db : List Ls) (o : Int) : Option Ls := db.find? fun l => decide (l.o = o)
def ec (es : List En) (b : Int) : Int := match es.find? (fun e => decide (e.n = b)) with | some e => e.c | none => 0
def ann (db : List Ls) (a b : Int) : Int := match fd db a with | some l => ec l.e b | none => 0
theorem find_hit {α : Type} {p : α → Bool} {l : List α} {k : Nat} (hk : k < l.length) (h : p l[k] = true) (hn : ∀ i (hi : i < l.length), i < k → p l[i] = false) : l.find? p = some l[k] := by
  rw [List.find?_eq_some_iff_getElem]
  exact ⟨h, k, hk, rfl, fun j hj => by simp [hn j (by omega) hj]⟩
theorem find_miss {α : Type} {p : α → Bool} {l : List α} (hn : ∀ i (hi : i < l.length), p l[i] = false) : l.find? p = none := by
  rw [List.find?_eq_none]
  intro x hx
  obtain ⟨i, hi, rfl⟩ := List.getElem_of_mem hx
  simp [hn i hi]
theorem e_l11Find (db : List Ls) (o : Int) (hl : Fits db) : sh_spec_l11Find (db, o, ()) = some (match fd db o with | some l => (l.o, l.s, l.e, true, ()) | none => (0, 0, [], false, ())) := by
  unfold sh_spec_l11Find
  refine Sat.out (Sat.bnd (R := fun r => match r with | .inl _ => fd db o = none | .inr y => ∃ l, fd db o = some l ∧ y = (true, l.o, l.s, l.e, ())) ?_ ?_)
  · refine Sat.count db.length (fun k t => t = (db, o, (k : Int), 0, 0, [], ()) ∧ ∀ i, i < k → (lsa db i).o ≠ o) ?_ (Nat.zero_le _) (fuel_lt (by omega)) ⟨rfl, fun i hi => by omega⟩
    rintro k t hk ⟨rfl, hok⟩
    simp (disch := omega) only [bo_spec_l11Find_2, at_ls, toN, w64, nI_eq]
    repeat' (first
      | refine Sat.some ?_
      | fail
      | (refine Sat.gd (by first | exact inR_t (by omega) (by omega) | (simp (disch := omega) only [w64]; exact inR_t (by omega) (by omega))) ?_)
      | (refine Sat.ite (fun h => ?_) (fun h => ?_) <;> try simp only [decide_eq_true_eq, decide_eq_false_iff_not, Bool.not_eq_true', Bool.not_eq_false', inB_i, inB_j, Bool.and_eq_true, Bool.or_eq_true, Bool.and_eq_false_iff, Bool.or_eq_false_iff, El] at h))
    all_goals try dsimp only
    · have hlt : k < db.length := by omega
      refine ⟨lsa db k, ?_, rfl⟩
      unfold fd
      rw [lsa_get hlt]
      exact find_hit hlt (decide_eq_true (by rw [← lsa_get hlt]; assumption)) fun i hi hik => decide_eq_false (by rw [← lsa_get hi]; exact hok i hik)
    · refine ⟨by omega, rfl, fun i hi => ?_⟩
      by_cases e : i < k
      · exact hok i e
      · obtain rfl : i = k := by omega
        assumption
    · exact find_miss fun i hi => decide_eq_false (by rw [← lsa_get hi]; exact hok i (by omega))
  · rintro (r | r) hr
    · have hr : fd db o = none := hr
      exact .some (by rw [hr])
    · obtain ⟨l, h1, rfl⟩ := hr
      exact .some (by rw [h1])
theorem e_l11Cost (db : List Ls) (a b : Int) (hl : Fits db) (he : ∀ l ∈ db, Fits l.e) : sh_spec_l11Cost (db, a, b, ()) = some (ann db a b, ()) := by
  unfold sh_spec_l11Cost
  simp only [e_l11Find db a hl, Option.bind_some]
  have loop : ∀ (x y : Int) (es : List En), Fits es → Sat (lp bo_spec_l11Cost_3 fuel (b, 0, x, y, es, ())) fun r => match r with | .inl _ => ec es b = 0 | .inr z => z.1 = ec es b := fun x y es hf => by
    refine Sat.count es.length (fun k t => t = (b, (k : Int), x, y, es, ()) ∧ ∀ i, i < k → (en es i).n ≠ b) ?_ (Nat.zero_le _) (fuel_lt (by omega)) ⟨rfl, fun i hi => by omega⟩
    rintro k t hk ⟨rfl, hok⟩
    simp (disch := omega) only [bo_spec_l11Cost_3, at_en, toN, w64, nI_eq]
    repeat' (first
      | refine Sat.some ?_
      | fail
      | (refine Sat.gd (by first | exact inR_t (by omega) (by omega) | (simp (disch := omega) only [w64]; exact inR_t (by omega) (by omega))) ?_)
      | (refine Sat.ite (fun h => ?_) (fun h => ?_) <;> try simp only [decide_eq_true_eq, decide_eq_false_iff_not, Bool.not_eq_true', Bool.not_eq_false', inB_i, inB_j, Bool.and_eq_true, Bool.or_eq_true, Bool.and_eq_false_iff, Bool.or_eq_false_iff, El] at h))
    all_goals try dsimp only
    · have hlt : k < es.length := by omega
      unfold ec
      rw [find_hit (k := k) hlt (decide_eq_true (by rw [← en_get hlt]; assumption)) fun i hi hik => decide_eq_false (by rw [← en_get hi]; exact hok i hik), en_get hlt]
    · refine ⟨by omega, rfl, fun i hi => ?_⟩
      by_cases e : i < k
      · exact hok i e
      · obtain rfl : i = k := by omega
        assumption
    · unfold ec
      rw [find_miss (p := fun e : En => decide (e.n = b)) (l := es) fun i hi => decide_eq_false (by rw [← en_get hi]; exact hok i (by omega))]
  unfold ann
  cases h : fd db a with
  | none =>
    refine Sat.out (Sat.bnd (loop 0 0 [] (by simp)) ?_)
    rintro (r | r) hr
    · exact .some rfl
    · obtain ⟨z, u⟩ := r
      have hr : z = ec [] b := hr
      exact .some (by rw [hr]; rfl)
  | some l =>
    have hm : l ∈ db := List.mem_of_find?_eq_some h
    refine Sat.out (Sat.bnd (loop l.o l.s l.e (he l hm)) ?_)
    rintro (r | r) hr
    · have hr : ec l.e b = 0 := hr
      exact .some (by dsimp only; rw [hr])
    · obtain ⟨z, u⟩ := r
      have hr : z = ec l.e b := hr
      exact .some (by rw [hr])
end Go.Proofs.Ytdfkphagjkpgdaa
end
section
namespace Go.Proofs.Ytdfkphagjkpgdaa
open Go.RowKit
set_option linter.unusedSimpArgs false
set_option linter.unusedVariables false
set_option maxRecDepth 100000

theorem half {i j : Nat} (h : i + j ≤ 4611686018427387904) : wrap64 (shrK .u64 (wrapK .u64 (wrap64 ((i : Int) + (j : Int)))) 1) = (((i + j) / 2 : Nat) : Int) := by
  rw [w64 (x := (i : Int) + j) (by omega) (by omega)]
  have e : wrapK .u64 ((i : Int) + j) = (i : Int) + j := by
    simp [wrapK, IntKind.wrap, IntKind.signed, IntKind.bits]
    omega
  rw [e]
  unfold shrK
  rw [show (1 : Int).toNat = 1 from rfl, show min 1 (IntKind.bits .u64) = 1 from rfl]
  rw [Int.fdiv_eq_ediv_of_nonneg _ (by decide)]
  rw [w64 (by omega) (by omega)]
  omega
def IsPl (db : List Ls) (o : Int) (i : Nat) : Prop := i ≤ db.length ∧ (∀ x, x < i → (lsa db x).o < o) ∧ ∀ x, i ≤ x → x < db.length → o ≤ (lsa db x).o
def hasAt (db : List Ls) (o : Int) (i : Nat) : Bool := decide (i < db.length ∧ (lsa db i).o = o)
def Srt (db : List Ls) : Prop := ∀ i j, i < j → j < db.length → (lsa db i).o < (lsa db j).o
theorem DbV.srt {db : List Ls} (h : DbV db) : Srt db := by
  have step : ∀ d i, i + d + 1 < db.length → (lsa db i).o < (lsa db (i + d + 1)).o := fun d => by
    induction d with
    | zero => intro i hi; exact (h (i + 1) hi).2 (by omega)
    | succ d ih =>
      intro i hi
      have h1 := ih i (by omega)
      have h2 := (h (i + (d + 1) + 1) hi).2 (by omega)
      rw [Nat.add_sub_cancel] at h2
      rw [show i + (d + 1) = i + d + 1 by omega] at h2 ⊢
      omega
  intro i j hij hj
  have := step (j - i - 1) i (by omega)
  rwa [show i + (j - i - 1) + 1 = j by omega] at this
theorem e_cmp (a b : Int) : sh_cmp_Compare_int (a, b, ()) = some (if a < b then -1 else if b < a then 1 else 0, ()) := by
  have e : ∀ x : Int, sh_cmp_isNaN_int (x, ()) = some (false, ()) := fun x => by simp [sh_cmp_isNaN_int]
  unfold sh_cmp_Compare_int
  simp only [e, Option.bind_some, cond_false]
  by_cases h1 : a < b
  · simp [h1]
  · by_cases h2 : b < a <;> simp [h1, h2]
theorem e_dbPlace (db : List Ls) (o : Int) (hs : Srt db) (hl : db.length ≤ 2000000000) : ∃ i : Nat, IsPl db o i ∧ sh_impl_dbPlace (db, o, ()) = some ((i : Int), hasAt db o i, ()) := by
  have hmono : ∀ i j, i ≤ j → j < db.length → (lsa db i).o ≤ (lsa db j).o := fun i j hij hj => by
    rcases Nat.eq_or_lt_of_le hij with e | e
    · subst e; exact Int.le_refl _
    · have := hs i j e hj; omega
  have key : Sat (sh_impl_dbPlace (db, o, ())) fun r => ∃ i : Nat, IsPl db o i ∧ r = ((i : Int), hasAt db o i, ()) := by
    unfold sh_impl_dbPlace sh_slices_BinarySearchFunc_impl_Lsa_impl_Lsa_int_dbPlace_1
    refine Sat.bnd (R := fun r => ∃ i : Nat, IsPl db o i ∧ r = ((i : Int), hasAt db o i, ())) (Sat.bnd (R := fun r => match r with | .inl x => ∃ i : Nat, IsPl db o i ∧ x = (db, o, (db.length : Int), (i : Int), ()) | .inr _ => False) ?_ ?_) ?_
    · refine Sat.loop (fun s => ∃ i j : Nat, s = (db, o, (db.length : Int), (i : Int), (j : Int), ()) ∧ i ≤ j ∧ j ≤ db.length ∧ (∀ x, x < i → (lsa db x).o < o) ∧ ∀ x, j ≤ x → x < db.length → o ≤ (lsa db x).o) (fun s => (s.2.2.2.2.1 - s.2.2.2.1).toNat) ?_ fuel _ ?_ ?_
      · rintro _ ⟨i, j, rfl, hij, hj, h1, h2⟩
        simp only [bo_slices_BinarySearchFunc_impl_Lsa_impl_Lsa_int_dbPlace_1_3, half (show i + j ≤ 4611686018427387904 by omega), at_ls, toN, sh_impl_dbPlace_1, e_cmp, Option.bind_some]
        refine Sat.ite (fun hlt => ?_) (fun hlt => ?_)
        · have hlt := of_decide_eq_true hlt
          have hm : (i + j) / 2 < j ∧ i ≤ (i + j) / 2 := by omega
          generalize (i + j) / 2 = m at *
          refine Sat.gd (inR_t (by omega) (by omega)) (Sat.ite (fun hc => ?_) (fun hc => ?_))
          · have hc := of_decide_eq_true hc
            have hc : (lsa db m).o < o := by
              by_cases h : (lsa db m).o < o
              · exact h
              · rw [if_neg h] at hc
                split at hc <;> omega
            rw [w64 (by omega) (by omega)]
            refine .some ⟨⟨m + 1, j, rfl, by omega, hj, fun x hx => ?_, h2⟩, by dsimp only; omega⟩
            have := hmono x m (by omega) (by omega)
            omega
          · have hc := of_decide_eq_false hc
            have hc : o ≤ (lsa db m).o := by
              by_cases h : (lsa db m).o < o
              · rw [if_pos h] at hc; omega
              · omega
            refine .some ⟨⟨i, m, rfl, by omega, by omega, h1, fun x hx hxl => ?_⟩, by dsimp only; omega⟩
            have := hmono m x hx hxl
            omega
        · have hlt := of_decide_eq_false hlt
          obtain rfl : i = j := by omega
          exact .some ⟨i, ⟨hj, h1, h2⟩, rfl⟩
      · rw [nI_eq]; dsimp only; unfold fuel; omega
      · exact ⟨0, db.length, by rw [nI_eq]; rfl, by omega, by omega, fun x hx => by omega, fun x hx hxl => by omega⟩
    · rintro (r | r) hr
      case inr => exact hr.elim
      obtain ⟨i, hi, rfl⟩ := hr
      simp only [at_ls, toN, sh_impl_dbPlace_1, e_cmp, Option.bind_some]
      refine Sat.ite (fun hlt => ?_) (fun hlt => ?_)
      · have hlt := of_decide_eq_true hlt
        refine Sat.gd (inR_t (by omega) (by omega)) (.some ⟨i, hi, ?_⟩)
        have hge := hi.2.2 i (Nat.le_refl _) (by omega)
        unfold hasAt
        by_cases h : (lsa db i).o = o
        · rw [decide_eq_true (show i < db.length ∧ (lsa db i).o = o from ⟨by omega, h⟩), h, if_neg (by omega), if_neg (by omega)]; rfl
        · rw [decide_eq_false (show ¬ (i < db.length ∧ (lsa db i).o = o) from fun g => h g.2), if_neg (by omega), if_pos (by omega)]; rfl
      · have hlt := of_decide_eq_false hlt
        refine .some ⟨i, hi, ?_⟩
        unfold hasAt
        rw [decide_eq_false (show ¬ (i < db.length ∧ (lsa db i).o = o) from fun g => by omega)]
    · rintro _ ⟨i, hi, rfl⟩
      exact .some ⟨i, hi, rfl⟩
  obtain ⟨r, h1, i, h2, h3⟩ := key
  exact ⟨i, h2, by rw [h1, h3]⟩
theorem fd_place {db : List Ls} {o : Int} {i : Nat} (hs : Srt db) (h : IsPl db o i) : fd db o = if hasAt db o i then some (lsa db i) else none := by
  unfold hasAt
  by_cases hc : i < db.length ∧ (lsa db i).o = o
  · rw [decide_eq_true hc, if_pos rfl]
    unfold fd
    rw [lsa_get hc.1]
    exact find_hit hc.1 (decide_eq_true (by rw [← lsa_get hc.1]; exact hc.2)) fun x hx hxi => decide_eq_false (by rw [← lsa_get hx]; have := h.2.1 x hxi; omega)
  · rw [decide_eq_false hc]
    unfold fd
    refine find_miss (p := fun l : Ls => decide (l.o = o)) (l := db) fun x hx => decide_eq_false ?_
    rw [← lsa_get hx]
    rcases Nat.lt_or_ge x i with h1 | h1
    · have := h.2.1 x h1; omega
    · intro e
      have h2 := h.2.2 x h1 hx
      have h3 := h.2.2 i (Nat.le_refl _) (by omega)
      rcases Nat.eq_or_lt_of_le h1 with e2 | e2
      · subst e2; exact hc ⟨hx, e⟩
      · have := hs i x e2 hx; omega
end Go.Proofs.Ytdfkphagjkpgdaa
end
section
namespace Go.Proofs.Ytdfkphagjkpgdaa
open Go.RowKit
set_option linter.unusedSimpArgs false
set_option linter.unusedVariables false
set_option maxRecDepth 100000

theorem asc_ext : ∀ {l l' : List Int}, l.Pairwise (· < ·) → l'.Pairwise (· < ·) → (∀ x, x ∈ l ↔ x ∈ l') → l = l'
  | [], [], _, _, _ => rfl
  | [], y :: s, _, _, h => by have := (h y).2 (List.mem_cons_self ..); simp at this
  | x :: r, [], _, _, h => by have := (h x).1 (List.mem_cons_self ..); simp at this
  | x :: r, y :: s, h1, h2, h => by
    have h1 := List.pairwise_cons.1 h1
    have h2 := List.pairwise_cons.1 h2
    have e : x = y := by
      rcases List.mem_cons.1 ((h x).1 (List.mem_cons_self ..)) with e | hx
      · exact e
      · rcases List.mem_cons.1 ((h y).2 (List.mem_cons_self ..)) with e | hy
        · exact e.symm
        · have q1 := h1.1 y hy
          have q2 := h2.1 x hx
          omega
    subst e
    have : r = s := asc_ext h1.2 h2.2 fun z => by
      constructor
      · intro hz
        rcases List.mem_cons.1 ((h z).1 (List.mem_cons_of_mem _ hz)) with e | hz'
        · subst e; have := h1.1 z hz; omega
        · exact hz'
      · intro hz
        rcases List.mem_cons.1 ((h z).2 (List.mem_cons_of_mem _ hz)) with e | hz'
        · subst e; have := h2.1 z hz; omega
        · exact hz'
    rw [this]
theorem sortI_mem {x : Int} {l : List Int} : x ∈ sortI l ↔ x ∈ l := List.mem_mergeSort
theorem sortI_asc {l : List Int} (h : l.Pairwise (· ≠ ·)) : (sortI l).Pairwise (· < ·) := by
  have h1 : (sortI l).Pairwise (fun a b => decide (a ≤ b) = true) := List.pairwise_mergeSort (fun a b c h1 h2 => decide_eq_true (by have := of_decide_eq_true h1; have := of_decide_eq_true h2; omega)) (fun a b => by simp; omega) l
  have h2 : (sortI l).Nodup := (List.mergeSort_perm l _).nodup_iff.2 h
  refine List.Pairwise.imp ?_ (List.Pairwise.and h1 h2)
  rintro a b ⟨q1, q2⟩
  have := of_decide_eq_true q1
  omega
theorem nbS_asc (ls : List Lk) (m : Int) (k : Nat) : (nbS ls m k).Pairwise (· < ·) := by
  unfold nbS
  rw [List.pairwise_map]
  refine List.Pairwise.imp ?_ (List.Pairwise.filter _ (List.pairwise_lt_range (n := k)))
  intro a b h
  omega
theorem nbS_mem {ls : List Lk} {m x : Int} {k : Nat} : x ∈ nbS ls m k ↔ ∃ j : Nat, j < k ∧ x = j ∧ (lc ls m j).isSome = true := by
  unfold nbS
  rw [List.mem_map]
  constructor
  · rintro ⟨j, hj, rfl⟩
    obtain ⟨h1, h2⟩ := List.mem_filter.1 hj
    exact ⟨j, List.mem_range.1 h1, rfl, by rw [lc_lof]; exact h2⟩
  · rintro ⟨j, h1, rfl, h2⟩
    rw [lc_lof] at h2
    exact ⟨j, List.mem_filter.2 ⟨List.mem_range.2 h1, h2⟩, rfl⟩
section
variable {N : Nat} {ls : List Lk}
theorem others_mem (g : GV N ls) {m : Int} {x : Int} : x ∈ others ls m ls.length ↔ (lc ls m x).isSome = true := by
  unfold others
  rw [List.mem_map, List.take_of_length_le (Nat.le_refl _)]
  constructor
  · rintro ⟨l, hl, rfl⟩
    obtain ⟨h1, h2⟩ := List.mem_filter.1 hl
    have ho := g.ok h1
    unfold okL at ho
    have h2 : m = l.a ∨ m = l.b := of_decide_eq_true h2
    unfold otherE
    by_cases e : m = l.a
    · rw [if_pos e, e, lc_mem g.pw h1 (by omega)]; rfl
    · have e2 := h2.resolve_left e
      rw [if_neg e, if_pos e2, e2, lc_symm, lc_mem g.pw h1 (by omega)]; rfl
  · intro h
    obtain ⟨c, hc⟩ := Option.isSome_iff_exists.1 h
    have hm := lc_some hc
    have ho := g.ok hm
    unfold okL at ho
    dsimp only at ho
    refine ⟨_, List.mem_filter.2 ⟨hm, decide_eq_true (by dsimp only; omega)⟩, ?_⟩
    unfold otherE
    dsimp only
    split
    · omega
    · rw [if_pos (by omega)]; omega
theorem others_nodup (g : GV N ls) (m : Int) : (others ls m ls.length).Pairwise (· ≠ ·) := by
  unfold others
  rw [List.take_of_length_le (Nat.le_refl _), List.pairwise_map]
  refine List.Pairwise.imp_of_mem ?_ (List.Pairwise.filter _ g.pw)
  intro a b ha hb hab
  obtain ⟨ha, ea⟩ := List.mem_filter.1 ha
  obtain ⟨hb, eb⟩ := List.mem_filter.1 hb
  have oa := g.ok ha
  have ob := g.ok hb
  have ea : m = a.a ∨ m = a.b := of_decide_eq_true ea
  have eb : m = b.a ∨ m = b.b := of_decide_eq_true eb
  unfold okL at oa ob
  unfold lxl at hab
  unfold otherE
  split <;> split <;> (try split) <;> (try split) <;> omega
theorem lc_none_out (g : GV N ls) {m x : Int} (h : (lc ls m x).isSome = true) : 0 ≤ x ∧ x < N ∧ 0 ≤ m ∧ m < N ∧ x ≠ m := by
  obtain ⟨c, hc⟩ := Option.isSome_iff_exists.1 h
  have ho := g.ok (lc_some hc)
  unfold okL at ho
  dsimp only at ho
  omega
theorem sort_nb (g : GV N ls) (m : Int) : sortI (others ls m ls.length) = nbS ls m N := by
  refine asc_ext (sortI_asc (others_nodup g m)) (nbS_asc ls m N) fun x => ?_
  rw [sortI_mem, others_mem g, nbS_mem]
  constructor
  · intro h
    have := lc_none_out g h
    exact ⟨x.toNat, by omega, by omega, by rw [show ((x.toNat : Nat) : Int) = x by omega]; exact h⟩
  · rintro ⟨j, _, rfl, h⟩; exact h
def endsOf (ls : List Lk) (N : Nat) (o : Int) : List En := (nbS ls o N).map fun n => ⟨n, (lc ls o n).getD 0⟩
theorem e_lsaOf (g : GV N ls) (o s : Int) : sh_impl_Graph_lsaOf ((N : Int), ls, o, s, ()) = some (o, s, endsOf ls N o, ()) := by
  have h8 := g.2.1
  have fl : Fits ls := (show Fits ls by have := g.2.2.1; unfold Fits; omega)
  unfold sh_impl_Graph_lsaOf
  simp only [e_neighbours (N : Int) ls o (by have := g.2.2.1; omega), sort_nb g o, Option.bind_some, nI_eq]
  have hlen := nbS_len ls o N
  have hmem : ∀ x ∈ nbS ls o N, ∃ c, lc ls o x = some c := fun x hx => by
    obtain ⟨j, _, rfl, h⟩ := nbS_mem.1 hx
    exact Option.isSome_iff_exists.1 h
  unfold endsOf
  generalize nbS ls o N = nb at *
  refine Sat.out (Sat.bnd (R := fun r => match r with | .inl x => x = (0, 0, o, s, [], nb.map fun n => ⟨n, (lc ls o n).getD 0⟩, ()) | .inr _ => False) ?_ ?_)
  · refine Sat.count nb.length (fun k t => t = (o, (nb.length : Int), (k : Int), (N : Int), ls, 0, 0, o, s, nb, [], (nb.take k).map (fun n => (⟨n, (lc ls o n).getD 0⟩ : En)), ())) ?_ (Nat.zero_le _) (fuel_lt (by omega)) (by simp)
    rintro k t hk rfl
    by_cases hlt : k < nb.length
    · obtain ⟨c, hc⟩ := hmem (iz nb k) (List.mem_of_getElem? (iz_get hlt))
      obtain ⟨h1, h2, h3⟩ := lc_at hc
      simp (disch := omega) only [bo_impl_Graph_lsaOf_3, at_int, at_lk, toN, w64, e_linkOf _ _ _ _ fl, Option.bind_some, List.length_singleton, List.length_map]
      refine Sat.gd (decide_eq_true (by omega)) (Sat.gd (inR_t (by omega) (by omega)) (Sat.gd (inR_t h1 h2) (Sat.gd (decide_eq_true (by simp; omega)) (.some ⟨hlt, ?_⟩))))
      rw [h3, List.take_add_one, iz_get hlt]
      simp [hc]
    · obtain rfl : k = nb.length := by omega
      unfold bo_impl_Graph_lsaOf_3
      simp only [decide_eq_false (show ¬ (nb.length : Int) < nb.length by omega), cond_false, List.take_length]
      exact .some rfl
  · rintro (r | r) hr
    case inr => exact hr.elim
    obtain rfl := hr
    exact .some rfl
theorem endsOf_len (o : Int) : (endsOf ls N o).length ≤ N := by unfold endsOf; rw [List.length_map]; exact nbS_len ls o N
theorem e_l11Of (g : GV N ls) (o s : Int) : sh_spec_l11Of ((N : Int), ls, o, s, ()) = some (o, s, endsOf ls N o, ()) := by
  have h8 := g.2.1
  have fl : Fits ls := (show Fits ls by have := g.2.2.1; unfold Fits; omega)
  unfold sh_spec_l11Of
  refine Sat.out (Sat.bnd (R := fun r => match r with | .inl x => x = (0, 0, [], o, s, endsOf ls N o, ()) | .inr _ => False) ?_ ?_)
  · refine Sat.count N (fun k t => t = (o, (k : Int), (N : Int), ls, 0, 0, [], o, s, (nbS ls o k).map (fun n => (⟨n, (lc ls o n).getD 0⟩ : En)), ())) ?_ (Nat.zero_le _) (fuel_lt (by omega)) (by simp [nbS])
    rintro k t hk rfl
    have hlen := nbS_len ls o k
    simp (disch := omega) only [bo_spec_l11Of_3, at_lk, toN, w64, e_l1Link _ _ _ _ fl, Option.bind_some, List.length_singleton, List.length_map]
    refine Sat.ite (fun hlt => ?_) (fun hlt => ?_)
    · have hlt := of_decide_eq_true hlt
      cases hc : lc ls o k with
      | none =>
        refine Sat.no (by rw [lc_no hc]; rfl) (.some ⟨by omega, ?_⟩)
        rw [nbS_succ, if_neg (by rw [lc_no hc]; omega)]
        rfl
      | some c =>
        obtain ⟨h1, h2, h3⟩ := lc_at hc
        refine Sat.gd (decide_eq_true h1) (Sat.gd (inR_t h1 h2) (Sat.gd (decide_eq_true (by omega)) (.some ⟨by omega, ?_⟩)))
        rw [nbS_succ, if_pos h1, h3]
        simp [hc]
    · have hlt := of_decide_eq_false hlt
      obtain rfl : k = N := by omega
      exact .some rfl
  · rintro (r | r) hr
    case inr => exact hr.elim
    obtain rfl := hr
    exact .some rfl
end
end Go.Proofs.Ytdfkphagjkpgdaa
end
section
namespace Go.Proofs.Ytdfkphagjkpgdaa
open Go.RowKit
set_option linter.unusedSimpArgs false
set_option linter.unusedVariables false
set_option maxRecDepth 100000

theorem e_announced (db : List Ls) (a b : Int) (hs : Srt db) (hl : db.length ≤ 2000000000) (he : ∀ l ∈ db, Fits l.e) : sh_impl_announced (db, a, b, ()) = some (ann db a b, ()) := by
  obtain ⟨i, hi, e⟩ := e_dbPlace db a hs hl
  unfold sh_impl_announced
  rw [e]
  dsimp only [Option.bind_some]
  unfold ann
  rw [fd_place hs hi]
  refine Sat.out ?_
  rcases cs_bool (hasAt db a i) with h | h
  · refine Sat.gd (by rw [h]; rfl) ?_
    rw [h]
    exact .some rfl
  · refine Sat.no (by rw [h]; rfl) ?_
    have hh := of_decide_eq_true h
    refine Sat.gd (inR_t (by omega) (by omega)) ?_
    rw [if_pos h, at_ls, toN, nI_eq]
    dsimp only
    have hf : Fits (lsa db i).e := he _ (by rw [lsa_get hh.1]; exact List.getElem_mem hh.1)
    generalize (lsa db i).e = es at *
    refine Sat.bnd (R := fun r => match r with | .inl _ => ec es b = 0 | .inr z => z.1 = ec es b) ?_ ?_
    · refine Sat.count es.length (fun k t => t = (b, es, (es.length : Int), (k : Int), ()) ∧ ∀ i, i < k → (en es i).n ≠ b) ?_ (Nat.zero_le _) (fuel_lt (by omega)) ⟨rfl, fun i hi => by omega⟩
      rintro k t hk ⟨rfl, hok⟩
      simp (disch := omega) only [bo_impl_announced_5, at_en, toN, w64, nI_eq]
      repeat' (first
        | refine Sat.some ?_
        | fail
        | (refine Sat.gd (by first | exact inR_t (by omega) (by omega) | (simp (disch := omega) only [w64]; exact inR_t (by omega) (by omega))) ?_)
        | (refine Sat.ite (fun h => ?_) (fun h => ?_) <;> try simp only [decide_eq_true_eq, decide_eq_false_iff_not, Bool.not_eq_true', Bool.not_eq_false', inB_i, inB_j, Bool.and_eq_true, Bool.or_eq_true, Bool.and_eq_false_iff, Bool.or_eq_false_iff, El] at h))
      all_goals try dsimp only
      · have hlt : k < es.length := by omega
        unfold ec
        rw [find_hit (k := k) hlt (decide_eq_true (by rw [← en_get hlt]; assumption)) fun i hi hik => decide_eq_false (by rw [← en_get hi]; exact hok i hik), en_get hlt]
      · refine ⟨by omega, rfl, fun i hi => ?_⟩
        by_cases e : i < k
        · exact hok i e
        · obtain rfl : i = k := by omega
          assumption
      · unfold ec
        rw [find_miss (p := fun e : En => decide (e.n = b)) (l := es) fun i hi => decide_eq_false (by rw [← en_get hi]; exact hok i (by omega))]
    · rintro (r | r) hr
      · have hr : ec es b = 0 := hr
        exact .some (by rw [hr])
      · obtain ⟨z, u⟩ := r
        have hr : z = ec es b := hr
        exact .some (by rw [hr])
def dbF (db : List Ls) (a b : Nat) : Option Int := if 0 < ann db a b ∧ 0 < ann db b a then some (max (ann db a b) (ann db b a)) else none
section
variable {db : List Ls} {N : Nat}
theorem cell_db {a b : Nat} : cell (dbF db) a b = if 0 < ann db a b ∧ 0 < ann db b a then [⟨a, b, max (ann db a b) (ann db b a)⟩] else [] := by
  unfold cell dbF
  split <;> rename_i h
  · split at h
    · rename_i h2
      injection h with h
      rw [if_pos h2, ← h]
    · cases h
  · split at h
    · cases h
    · rename_i h2
      rw [if_neg h2]
theorem e_drow_s (hl : Fits db) (he : ∀ l ∈ db, Fits l.e) (h8 : N ≤ 8) {n : Nat} (hn : n < N) (x4 x6 : Int) (xl xo : List Lk) (ho : xo.length ≤ 1000) : Sat (lp bo_spec_l11Graph_6 fuel ((N : Int), db, (n : Int), wrap64 ((n : Int) + 1), x4, xl, x6, xo, ())) fun r => match r with
      | .inl x => x = ((N : Int), db, (n : Int), x4, xl, x6, xo ++ gridR (dbF db) n (N - 1 - n), ())
      | .inr _ => False := by
  refine Sat.count (N - 1 - n) (fun k s => s = ((N : Int), db, (n : Int), ((n + 1 + k : Nat) : Int), x4, xl, x6, xo ++ gridR (dbF db) n k, ())) ?_ (Nat.zero_le _) (fuel_lt (by omega)) (by rw [w64 (by omega) (by omega)]; simp [gridR])
  rintro k s hk rfl
  have hlen := gridR_len (dbF db) n k
  have fin : ∀ c : List Lk, cell (dbF db) n (n + 1 + k) = c → k < N - 1 - n → ((N : Int), db, (n : Int), wrap64 (((n + 1 + k : Nat) : Int) + 1), x4, xl, x6, (xo ++ gridR (dbF db) n k) ++ c, ()) = ((N : Int), db, (n : Int), ((n + 1 + (k + 1) : Nat) : Int), x4, xl, x6, xo ++ gridR (dbF db) n (k + 1), ()) := fun c hc hk => by
    rw [gridR_succ, hc, w64 (by omega) (by omega), List.append_assoc]
    rfl
  simp only [bo_spec_l11Graph_6, e_l11Cost _ _ _ hl he, Option.bind_some, List.length_singleton, List.length_append]
  refine Sat.ite (fun hlt => ?_) (fun hlt => ?_)
  · have hlt := of_decide_eq_true hlt
    have hkN : k < N - 1 - n := by omega
    have hcell := cell_db (db := db) (a := n) (b := n + 1 + k)
    refine Sat.ite (fun h1 => Sat.ite (fun h2 => ?_) (fun h2 => ?_)) (fun h1 => ?_)
    · have h1 := of_decide_eq_true h1
      have h2 := of_decide_eq_true h2
      rw [if_pos ⟨h1, h2⟩] at hcell
      exact Sat.gd (decide_eq_true (by omega)) (.some ⟨hkN, fin _ hcell hkN⟩)
    · have h2 := of_decide_eq_false h2
      rw [if_neg fun h => h2 h.2] at hcell
      have := fin _ hcell hkN
      rw [List.append_nil] at this
      exact .some ⟨hkN, this⟩
    · have h1 := of_decide_eq_false h1
      rw [if_neg fun h => h1 h.1] at hcell
      have := fin _ hcell hkN
      rw [List.append_nil] at this
      exact .some ⟨hkN, this⟩
  · have hlt := of_decide_eq_false hlt
    obtain rfl : k = N - 1 - n := by omega
    exact .some rfl
theorem le64 {k : Nat} (h8 : N ≤ 8) (hk : k ≤ N) : k * N ≤ 64 := Nat.le_trans (Nat.mul_le_mul hk (Nat.le_refl N)) (Nat.le_trans (Nat.mul_le_mul h8 h8) (by omega))
theorem e_l11Graph (hl : Fits db) (he : ∀ l ∈ db, Fits l.e) (h8 : N ≤ 8) : sh_spec_l11Graph ((N : Int), db, ()) = some ((N : Int), grid (dbF db) N, ()) := by
  unfold sh_spec_l11Graph
  refine Sat.out (Sat.bnd (R := fun r => match r with | .inl x => x.2.2.1 = (N : Int) ∧ x.2.2.2.1 = grid (dbF db) N | .inr _ => False) ?_ ?_)
  · refine Sat.count N (fun k s => s = ((N : Int), db, (k : Int), 0, [], (N : Int), gridK (dbF db) N k, ())) ?_ (Nat.zero_le _) (fuel_lt (by omega)) rfl
    rintro k s hk rfl
    have hlen := gridK_len (dbF db) N k
    have hkN := le64 h8 hk
    unfold bo_spec_l11Graph_3
    dsimp only
    refine Sat.ite (fun hlt => ?_) (fun hlt => ?_)
    · have hlt := of_decide_eq_true hlt
      have hkl : k < N := by omega
      refine Sat.bnd (e_drow_s hl he h8 hkl 0 (N : Int) [] _ (by omega)) ?_
      rintro (r | r) hr
      case inr => exact hr.elim
      obtain rfl := hr
      refine .some ⟨hkl, ?_⟩
      dsimp only
      rw [gridK_succ, w64 (by omega) (by omega)]
      rfl
    · have hlt := of_decide_eq_false hlt
      obtain rfl : k = N := by omega
      exact .some ⟨rfl, rfl⟩
  · rintro (r | r) hr
    case inr => exact hr.elim
    have hr : r.2.2.1 = (N : Int) ∧ r.2.2.2.1 = grid (dbF db) N := hr
    exact .some (by rw [hr.1, hr.2])
theorem e_drow_i (hs : Srt db) (hl : db.length ≤ 2000000000) (he : ∀ l ∈ db, Fits l.e) (h8 : N ≤ 8) {n : Nat} (hn : n < N) (x4 x6 x7 : Int) (xl xo : List Lk) (ho : xo.length ≤ 1000) : Sat (lp bo_impl_DbGraph_8 fuel ((N : Int), db, (n : Int), wrap64 ((n : Int) + 1), x4, (n : Int), x6, x7, xl, xo, ())) fun r => match r with
      | .inl x => x = ((N : Int), db, x4, (n : Int), x6, x7, xl, xo ++ gridR (dbF db) n (N - 1 - n), ())
      | .inr _ => False := by
  refine Sat.count (N - 1 - n) (fun k s => s = ((N : Int), db, (n : Int), ((n + 1 + k : Nat) : Int), x4, (n : Int), x6, x7, xl, xo ++ gridR (dbF db) n k, ())) ?_ (Nat.zero_le _) (fuel_lt (by omega)) (by rw [w64 (by omega) (by omega)]; simp [gridR])
  rintro k s hk rfl
  have hlen := gridR_len (dbF db) n k
  have fin : ∀ c : List Lk, cell (dbF db) n (n + 1 + k) = c → k < N - 1 - n → ((N : Int), db, (n : Int), wrap64 (((n + 1 + k : Nat) : Int) + 1), x4, (n : Int), x6, x7, xl, (xo ++ gridR (dbF db) n k) ++ c, ()) = ((N : Int), db, (n : Int), ((n + 1 + (k + 1) : Nat) : Int), x4, (n : Int), x6, x7, xl, xo ++ gridR (dbF db) n (k + 1), ()) := fun c hc hk => by
    rw [gridR_succ, hc, w64 (by omega) (by omega), List.append_assoc]
    rfl
  simp only [bo_impl_DbGraph_8, e_announced _ _ _ hs hl he, Option.bind_some, List.length_singleton, List.length_append]
  refine Sat.ite (fun hlt => ?_) (fun hlt => ?_)
  · have hlt := of_decide_eq_true hlt
    have hkN : k < N - 1 - n := by omega
    have hcell := cell_db (db := db) (a := n) (b := n + 1 + k)
    refine Sat.ite (fun h1 => Sat.ite (fun h2 => ?_) (fun h2 => ?_)) (fun h1 => ?_)
    · have h1 := of_decide_eq_true h1
      have h2 := of_decide_eq_true h2
      rw [if_pos ⟨h1, h2⟩] at hcell
      exact Sat.gd (decide_eq_true (by omega)) (.some ⟨hkN, fin _ hcell hkN⟩)
    · have h2 := of_decide_eq_false h2
      rw [if_neg fun h => h2 h.2] at hcell
      have := fin _ hcell hkN
      rw [List.append_nil] at this
      exact .some ⟨hkN, this⟩
    · have h1 := of_decide_eq_false h1
      rw [if_neg fun h => h1 h.1] at hcell
      have := fin _ hcell hkN
      rw [List.append_nil] at this
      exact .some ⟨hkN, this⟩
  · have hlt := of_decide_eq_false hlt
    obtain rfl : k = N - 1 - n := by omega
    exact .some rfl
end
def dbOk (n : Int) (db : List Ls) : Bool := inB n 1 8 && dbv db && decide ((grid (dbF db) n.toNat).length ≤ 14)
theorem e_DbGraph (n : Int) (db : List Ls) (hl : db.length ≤ 2000000000) (he : ∀ l ∈ db, Fits l.e) : sh_impl_DbGraph (n, db, ()) = some (if dbOk n db then (n, true, grid (dbF db) n.toNat, ()) else (0, false, [], ())) := by
  unfold sh_impl_DbGraph dbOk
  simp only [e_within, e_DbValid db (show Fits db by unfold Fits; omega) he, Option.bind_some]
  cases h1 : inB n 1 8 with
  | false => rfl
  | true =>
  cases h2 : dbv db with
  | false => rfl
  | true =>
  have h1 := inB_t h1
  have hs : Srt db := DbV.srt (of_decide_eq_true h2)
  obtain ⟨N, rfl⟩ := Int.eq_ofNat_of_zero_le (show 0 ≤ n by omega)
  have h8 : N ≤ 8 := by omega
  rw [Int.toNat_natCast]
  simp only [Bool.not_true, cond_false, Bool.true_and, Bool.and_self]
  refine Sat.out (Sat.bnd (R := fun r => match r with | .inl x => x.2.1 = (N : Int) ∧ x.2.2.2.1 = grid (dbF db) N | .inr _ => False) ?_ ?_)
  · refine Sat.count N (fun k s => s = ((N : Int), db, (N : Int), (k : Int), 0, (N : Int), [], gridK (dbF db) N k, ())) ?_ (Nat.zero_le _) (fuel_lt (by omega)) rfl
    rintro k s hk rfl
    have hlen := gridK_len (dbF db) N k
    have hkN := le64 h8 hk
    unfold bo_impl_DbGraph_5
    dsimp only
    refine Sat.ite (fun hlt => ?_) (fun hlt => ?_)
    · have hlt := of_decide_eq_true hlt
      have hkl : k < N := by omega
      refine Sat.bnd (e_drow_i hs hl he h8 hkl (N : Int) 0 (N : Int) [] _ (by omega)) ?_
      rintro (r | r) hr
      case inr => exact hr.elim
      obtain rfl := hr
      refine .some ⟨hkl, ?_⟩
      dsimp only
      rw [gridK_succ, w64 (by omega) (by omega)]
      rfl
    · have hlt := of_decide_eq_false hlt
      obtain rfl : k = N := by omega
      exact .some ⟨rfl, rfl⟩
  · rintro (r | r) hr
    case inr => exact hr.elim
    have hr : r.2.1 = (N : Int) ∧ r.2.2.2.1 = grid (dbF db) N := hr
    dsimp only
    rw [hr.1, hr.2, nI_eq]
    by_cases h14 : (grid (dbF db) N).length ≤ 14
    · refine Sat.no (decide_eq_false (by omega)) (.some ?_)
      rw [decide_eq_true h14]; rfl
    · refine Sat.gd (decide_eq_true (by omega)) (.some ?_)
      rw [decide_eq_false h14]; rfl
end Go.Proofs.Ytdfkphagjkpgdaa
end
section
namespace Go.Proofs.Ytdfkphagjkpgdaa
open Go.RowKit
set_option linter.unusedSimpArgs false
set_option linter.unusedVariables false

abbrev SrtP (db : List Ls) : Prop := db.Pairwise fun x y => x.o < y.o
theorem srt_iff {db : List Ls} : Srt db ↔ SrtP db := by
  unfold SrtP
  rw [List.pairwise_iff_getElem]
  constructor
  · intro h i j hi hj hij
    have := h i j hij hj
    rwa [lsa_get hi, lsa_get hj] at this
  · intro h i j hij hj
    rw [lsa_get (show i < db.length by omega), lsa_get hj]
    exact h i j (by omega) hj hij
theorem dbV_iff {db : List Ls} : DbV db ↔ (∀ l ∈ db, LsV l) ∧ SrtP db := by
  constructor
  · intro h
    refine ⟨fun l hl => ?_, srt_iff.1 h.srt⟩
    obtain ⟨i, hi, rfl⟩ := List.getElem_of_mem hl
    have := (h i hi).1
    rwa [lsa_get hi] at this
  · rintro ⟨h1, h2⟩ i hi
    refine ⟨?_, fun h0 => srt_iff.2 h2 (i - 1) i (by omega) hi⟩
    rw [lsa_get hi]
    exact h1 _ (List.getElem_mem hi)
def putL (db : List Ls) (l : Ls) : List Ls := db.filter (fun x => decide (x.o < l.o)) ++ l :: db.filter (fun x => decide (l.o < x.o))
def putC (db : List Ls) (l : Ls) : Int := match fd db l.o with | some old => if old.s = l.s then 1 else if l.s < old.s then 2 else 0 | none => 0
def putD (db : List Ls) (l : Ls) : List Ls := if putC db l = 0 then putL db l else db
theorem putL_mem {db : List Ls} {l x : Ls} : x ∈ putL db l ↔ x = l ∨ x ∈ db ∧ x.o ≠ l.o := by
  unfold putL
  rw [List.mem_append, List.mem_cons, List.mem_filter, List.mem_filter]
  simp only [decide_eq_true_eq]
  constructor
  · rintro (⟨h1, h2⟩ | rfl | ⟨h1, h2⟩)
    · exact .inr ⟨h1, by omega⟩
    · exact .inl rfl
    · exact .inr ⟨h1, by omega⟩
  · rintro (rfl | ⟨h1, h2⟩)
    · exact .inr (.inl rfl)
    · rcases Int.lt_or_gt_of_ne h2 with h | h
      · exact .inl ⟨h1, h⟩
      · exact .inr (.inr ⟨h1, h⟩)
theorem putL_srt {db : List Ls} (h : SrtP db) (l : Ls) : SrtP (putL db l) := by
  unfold putL SrtP
  rw [List.pairwise_append, List.pairwise_cons]
  refine ⟨List.Pairwise.filter _ h, ⟨fun x hx => ?_, List.Pairwise.filter _ h⟩, fun x hx y hy => ?_⟩
  · exact of_decide_eq_true (List.mem_filter.1 hx).2
  · have h1 : x.o < l.o := of_decide_eq_true (List.mem_filter.1 hx).2
    rcases List.mem_cons.1 hy with rfl | hy
    · exact h1
    · have h2 : l.o < y.o := of_decide_eq_true (List.mem_filter.1 hy).2
      omega
theorem putD_srt {db : List Ls} (h : SrtP db) (l : Ls) : SrtP (putD db l) := by
  unfold putD
  split
  · exact putL_srt h l
  · exact h
theorem putD_ok {db : List Ls} (h : DbV db) {l : Ls} (hl : LsV l) : DbV (putD db l) := by
  have := dbV_iff.1 h
  refine dbV_iff.2 ⟨fun x hx => ?_, putD_srt this.2 l⟩
  unfold putD at hx
  split at hx
  · rcases putL_mem.1 hx with rfl | hx
    · exact hl
    · exact this.1 x hx.1
  · exact this.1 x hx
theorem srt_uniq {db : List Ls} (h : SrtP db) {x y : Ls} (hx : x ∈ db) (hy : y ∈ db) (e : x.o = y.o) : x = y := by
  obtain ⟨i, hi, rfl⟩ := List.getElem_of_mem hx
  obtain ⟨j, hj, rfl⟩ := List.getElem_of_mem hy
  rcases Nat.lt_trichotomy i j with h1 | h1 | h1
  · have := List.pairwise_iff_getElem.1 h i j hi hj h1; omega
  · subst h1; rfl
  · have := List.pairwise_iff_getElem.1 h j i hj hi h1; omega
theorem fd_some {db : List Ls} (h : SrtP db) {o : Int} {x : Ls} : fd db o = some x ↔ x ∈ db ∧ x.o = o := by
  unfold fd
  constructor
  · intro e
    exact ⟨List.mem_of_find?_eq_some e, of_decide_eq_true (List.find?_some (p := fun l : Ls => decide (l.o = o)) e)⟩
  · rintro ⟨hx, rfl⟩
    cases e : db.find? (fun l => decide (l.o = x.o)) with
    | none =>
      have := List.find?_eq_none.1 e x hx
      simp at this
    | some y =>
      have h1 := List.mem_of_find?_eq_some e
      have h2 : y.o = x.o := of_decide_eq_true (List.find?_some (p := fun l : Ls => decide (l.o = x.o)) e)
      rw [srt_uniq h h1 hx h2]
theorem fd_none {db : List Ls} {o : Int} : fd db o = none ↔ ∀ x ∈ db, x.o ≠ o := by
  unfold fd
  rw [List.find?_eq_none]
  constructor
  · intro h x hx e; exact h x hx (decide_eq_true e)
  · intro h x hx e; exact h x hx (of_decide_eq_true e)
theorem fd_put {db : List Ls} (h : SrtP db) (l : Ls) (o : Int) : fd (putD db l) o = if o = l.o ∧ putC db l = 0 then some l else fd db o := by
  unfold putD
  by_cases hc : putC db l = 0
  · rw [if_pos hc]
    by_cases ho : o = l.o
    · rw [if_pos ⟨ho, hc⟩]
      exact (fd_some (putL_srt h l)).2 ⟨putL_mem.2 (.inl rfl), ho.symm⟩
    · rw [if_neg fun g => ho g.1]
      cases e : fd db o with
      | none =>
        rw [fd_none] at e ⊢
        intro x hx
        rcases putL_mem.1 hx with rfl | ⟨hx, _⟩
        · exact fun g => ho g.symm
        · exact e x hx
      | some y =>
        obtain ⟨h1, h2⟩ := (fd_some h).1 e
        exact (fd_some (putL_srt h l)).2 ⟨putL_mem.2 (.inr ⟨h1, by omega⟩), h2⟩
  · rw [if_neg hc, if_neg fun g => hc g.2]
def mergeD (db other : List Ls) : List Ls := other.foldl putD db
def seqD (db : List Ls) (o : Int) : Int := match fd db o with | some l => l.s | none => -1
theorem mergeD_srt {db : List Ls} (h : SrtP db) (other : List Ls) : SrtP (mergeD db other) := by
  unfold mergeD
  induction other generalizing db with
  | nil => exact h
  | cons l r ih => exact ih (putD_srt h l)
theorem mergeD_ok {db other : List Ls} (h : DbV db) (h' : ∀ l ∈ other, LsV l) : DbV (mergeD db other) := by
  unfold mergeD
  induction other generalizing db with
  | nil => exact h
  | cons l r ih => exact ih (putD_ok h (h' l (List.mem_cons_self ..))) fun x hx => h' x (List.mem_cons_of_mem _ hx)
theorem seq_put {db : List Ls} (h : SrtP db) {l : Ls} (hl : 0 ≤ l.s) (o : Int) : seqD (putD db l) o = if o = l.o then max (seqD db o) l.s else seqD db o := by
  unfold seqD
  rw [fd_put h l o]
  by_cases ho : o = l.o
  · subst ho
    rw [if_pos rfl]
    cases e : fd db l.o with
    | none =>
      have hc : putC db l = 0 := by unfold putC; rw [e]
      rw [hc, if_pos ⟨rfl, rfl⟩]
      dsimp only
      omega
    | some old =>
      by_cases h1 : old.s = l.s
      · have hc : putC db l = 1 := by unfold putC; rw [e]; exact if_pos h1
        rw [hc, if_neg (fun g => by have := g.2; omega)]
        dsimp only
        omega
      · by_cases h2 : l.s < old.s
        · have hc : putC db l = 2 := by unfold putC; rw [e]; dsimp only; rw [if_neg h1, if_pos h2]
          rw [hc, if_neg (fun g => by have := g.2; omega)]
          dsimp only
          omega
        · have hc : putC db l = 0 := by unfold putC; rw [e]; dsimp only; rw [if_neg h1, if_neg h2]
          rw [hc, if_pos ⟨rfl, rfl⟩]
          dsimp only
          omega
  · rw [if_neg fun g => ho g.1, if_neg ho]
theorem putC_zero {db : List Ls} {l : Ls} (hl : 0 ≤ l.s) : putC db l = 0 ↔ seqD db l.o < l.s := by
  unfold putC seqD
  cases fd db l.o with
  | none => simp; omega
  | some old =>
    dsimp only
    by_cases h1 : old.s = l.s
    · rw [if_pos h1]; omega
    · rw [if_neg h1]
      by_cases h2 : l.s < old.s
      · rw [if_pos h2]; omega
      · rw [if_neg h2]; omega
theorem fd_cons (l : Ls) (r : List Ls) (o : Int) : fd (l :: r) o = if l.o = o then some l else fd r o := by
  unfold fd
  rw [List.find?_cons]
  by_cases h : l.o = o
  · rw [if_pos h, decide_eq_true h]
  · rw [if_neg h, decide_eq_false h]
theorem seq_low {db : List Ls} (h : ∀ l ∈ db, 0 ≤ l.s) (o : Int) : -1 ≤ seqD db o := by
  unfold seqD
  cases e : fd db o with
  | none => simp
  | some l => have := h l (List.mem_of_find?_eq_some e); dsimp only; omega
theorem fd_merge {a b : List Ls} (ha : SrtP a) (hb : SrtP b) (hs : ∀ l ∈ b, 0 ≤ l.s) (hsa : ∀ l ∈ a, 0 ≤ l.s) (o : Int) : fd (mergeD a b) o = if seqD a o < seqD b o then fd b o else fd a o := by
  unfold mergeD
  induction b generalizing a with
  | nil =>
    have : seqD [] o = -1 := rfl
    rw [if_neg (by have := seq_low hsa o; omega)]
    rfl
  | cons l r ih =>
    have hb' := List.pairwise_cons.1 hb
    have hl := hs l (List.mem_cons_self ..)
    have hsa' : ∀ x ∈ putD a l, 0 ≤ x.s := fun x hx => by
      unfold putD at hx
      split at hx
      · rcases putL_mem.1 hx with rfl | hx
        · exact hl
        · exact hsa x hx.1
      · exact hsa x hx
    have ih := ih (putD_srt ha l) hb'.2 (fun x hx => hs x (List.mem_cons_of_mem _ hx)) hsa'
    rw [List.foldl_cons, ih, seq_put ha hl, fd_put ha, fd_cons]
    have hq : seqD (l :: r) o = if l.o = o then l.s else seqD r o := by
      unfold seqD
      rw [fd_cons]
      by_cases e : l.o = o
      · rw [if_pos e, if_pos e]
      · rw [if_neg e, if_neg e]
    rw [hq]
    by_cases ho : o = l.o
    · subst ho
      have hr : seqD r l.o = -1 := by
        unfold seqD
        rw [fd_none.2 fun x hx e => by have := hb'.1 x hx; omega]
      have hla := seq_low hsa l.o
      rw [if_pos rfl, if_pos rfl, if_pos rfl, hr, if_neg (by omega)]
      by_cases hc : putC a l = 0
      · rw [if_pos ⟨rfl, hc⟩, if_pos ((putC_zero hl).1 hc)]
      · rw [if_neg fun g => hc g.2, if_neg fun g => hc ((putC_zero hl).2 g)]
    · have h1 : ¬ l.o = o := fun g => ho g.symm
      have h2 : ¬ (o = l.o ∧ putC a l = 0) := fun g => ho g.1
      simp only [if_neg ho, if_neg h1, if_neg h2]
theorem seq_merge {a b : List Ls} (ha : SrtP a) (hb : SrtP b) (hs : ∀ l ∈ b, 0 ≤ l.s) (hsa : ∀ l ∈ a, 0 ≤ l.s) (o : Int) : seqD (mergeD a b) o = max (seqD a o) (seqD b o) := by
  have h := fd_merge ha hb hs hsa o
  by_cases hc : seqD a o < seqD b o
  · rw [if_pos hc] at h
    have : seqD (mergeD a b) o = seqD b o := by unfold seqD; rw [h]
    omega
  · rw [if_neg hc] at h
    have : seqD (mergeD a b) o = seqD a o := by unfold seqD; rw [h]
    omega
def Agree (a b : List Ls) : Prop := ∀ x ∈ a, ∀ y ∈ b, x.o = y.o → x.s = y.s → x = y
theorem merge_mem {a b : List Ls} {x : Ls} (hx : x ∈ mergeD a b) : x ∈ a ∨ x ∈ b := by
  unfold mergeD at hx
  induction b generalizing a with
  | nil => exact .inl hx
  | cons l r ih =>
    rcases ih hx with h | h
    · unfold putD at h
      split at h
      · rcases putL_mem.1 h with rfl | h
        · exact .inr (List.mem_cons_self ..)
        · exact .inl h.1
      · exact .inl h
    · exact .inr (List.mem_cons_of_mem _ h)
end Go.Proofs.Ytdfkphagjkpgdaa
end
section
namespace Go.Proofs.Ytdfkphagjkpgdaa
open Go.RowKit
set_option linter.unusedSimpArgs false
set_option linter.unusedVariables false
set_option maxRecDepth 100000

instance : DecidableEq En := fun a b => decidable_of_iff (a.n = b.n ∧ a.c = b.c) ⟨fun ⟨h1, h2⟩ => by cases a; cases b; simp_all, fun h => by subst h; exact ⟨rfl, rfl⟩⟩
instance : DecidableEq Ls := fun a b => decidable_of_iff (a.o = b.o ∧ a.s = b.s ∧ a.e = b.e) ⟨fun ⟨h1, h2, h3⟩ => by cases a; cases b; simp_all, fun h => by subst h; exact ⟨rfl, rfl, rfl⟩⟩
abbrev Sm {α : Type} (l : List α) : Prop := l.length ≤ 16000000
def SmD (db : List Ls) : Prop := Sm db ∧ ∀ l ∈ db, Sm l.e
theorem SmD.fits {db : List Ls} (h : SmD db) : Fits db := by have := h.1; unfold Fits; unfold Sm at this; omega
theorem SmD.fe {db : List Ls} (h : SmD db) : ∀ l ∈ db, Fits l.e := fun l hl => by have := h.2 l hl; unfold Fits; unfold Sm at this; omega
theorem lsa_mem {db : List Ls} {k : Nat} (h : k < db.length) : lsa db k ∈ db := by rw [lsa_get h]; exact List.getElem_mem h
theorem take_lsa {db : List Ls} {k : Nat} (h : k < db.length) : db.take k ++ [⟨(lsa db k).o, (lsa db k).s, (lsa db k).e⟩] = db.take (k + 1) := by
  rw [List.take_add_one, List.getElem?_eq_getElem h, lsa_get h]; rfl
theorem e_l11One (o s : Int) (es : List En) (h : Sm es) : sh_spec_l11One (o, s, es, ()) = some (o, s, es, ()) := by
  unfold sh_spec_l11One
  rw [decide_eq_true (by unfold Sm at h; simp; omega)]
  rfl
theorem e_l11Copy (db : List Ls) (h : SmD db) : sh_spec_l11Copy (db, ()) = some (db, ()) := by
  have h1 := h.1
  unfold Sm at h1
  unfold sh_spec_l11Copy
  refine Sat.out (Sat.bnd (R := fun r => match r with | .inl x => x = (db, ()) | .inr _ => False) ?_ ?_)
  · refine Sat.count db.length (fun k t => t = (db, (k : Int), db.take k, ())) ?_ (Nat.zero_le _) (fuel_lt (by omega)) (by simp [nI_eq])
    rintro k t hk rfl
    by_cases hlt : k < db.length
    · simp (disch := omega) only [bo_spec_l11Copy_3, at_ls, toN, w64, nI_eq, e_l11One _ _ _ (h.2 _ (lsa_mem hlt)), Option.bind_some]
      refine Sat.gd (decide_eq_true (by omega)) (Sat.gd (inR_t (by omega) (by omega)) (Sat.gd (decide_eq_true (by simp; omega)) (.some ⟨hlt, ?_⟩)))
      rw [take_lsa hlt]
      rfl
    · obtain rfl : k = db.length := by omega
      unfold bo_spec_l11Copy_3
      simp only [nI_eq, decide_eq_false (show ¬ (db.length : Int) < db.length by omega), cond_false, List.take_length]
      exact .some rfl
  · rintro (r | r) hr
    case inr => exact hr.elim
    obtain rfl := hr
    exact .some rfl
theorem eqI (a b c d : Int) : eqInts [a, b] [c, d] = decide ((⟨a, b⟩ : En) = ⟨c, d⟩) := by
  by_cases h1 : a = c <;> by_cases h2 : b = d <;> simp [eqInts, h1, h2]
theorem ens_ext {es fs : List En} (hl : es.length = fs.length) (h : ∀ i, i < es.length → en es i = en fs i) : es = fs := by
  refine List.ext_getElem hl fun i h1 h2 => ?_
  have := h i h1
  rwa [en_get h1, en_get h2] at this
theorem eta_en (e : En) : (⟨e.n, e.c⟩ : En) = e := rfl
theorem e_Equal (es fs : List En) (ha : Fits es) (hb : Fits fs) : sh_slices_Equal_impl_End_impl_End (es, fs, ()) = some (decide (es = fs), ()) := by
  unfold sh_slices_Equal_impl_End_impl_End
  by_cases hl : es.length = fs.length
  case neg =>
    have : es ≠ fs := fun e => hl (by rw [e])
    have hl2 : ¬ (es.length : Int) = fs.length := by omega
    simp [nI_eq, hl2, this]
  simp only [nI_eq, hl, decide_true, Bool.not_true, cond_false]
  try rw [← hl]
  refine Sat.out (Sat.bnd (R := fun r => match r with | .inl _ => es = fs | .inr y => y = (false, ()) ∧ es ≠ fs) ?_ ?_)
  · refine Sat.count es.length (fun k t => t = (es, fs, (es.length : Int), (k : Int), ()) ∧ ∀ i, i < k → en es i = en fs i) ?_ (Nat.zero_le _) (fuel_lt (by omega)) ⟨rfl, fun i hi => by omega⟩
    rintro k t hk ⟨rfl, hok⟩
    simp (disch := omega) only [bo_slices_Equal_impl_End_impl_End_4, at_en, toN, w64, nI_eq, eqI, eta_en]
    refine Sat.ite (fun h => ?_) (fun h => ?_)
    · have h := of_decide_eq_true h
      refine Sat.gd (inR_t (by omega) (by omega)) (Sat.gd (inR_t (by omega) (by omega)) (Sat.ite (fun h2 => ?_) (fun h2 => ?_)))
      · have h2 : ¬ en es k = en fs k := by simpa using h2
        exact .some ⟨rfl, fun e => h2 (by rw [e])⟩
      · have h2 : en es k = en fs k := by simpa using h2
        exact .some ⟨by omega, rfl, fun i hi => by
          by_cases e : i < k
          · exact hok i e
          · obtain rfl : i = k := by omega
            exact h2⟩
    · have h := of_decide_eq_false h
      exact .some (ens_ext hl fun i hi => hok i (by omega))
  · rintro (r | r) hr
    · have hr : es = fs := hr
      exact .some (by rw [decide_eq_true hr])
    · obtain ⟨rfl, hr⟩ := hr
      exact .some (by rw [decide_eq_false hr])
theorem e_sameEnds (es fs : List En) (ha : Fits es) (hb : Fits fs) : sh_laws_sameEnds (es, fs, ()) = some (decide (es = fs), ()) := by
  unfold sh_laws_sameEnds
  by_cases hl : es.length = fs.length
  case neg =>
    have : es ≠ fs := fun e => hl (by rw [e])
    have hl2 : ¬ (es.length : Int) = fs.length := by omega
    simp [nI_eq, hl2, this]
  simp only [nI_eq, hl, decide_true, Bool.not_true, cond_false]
  try rw [← hl]
  refine Sat.out (Sat.bnd (R := fun r => match r with | .inl _ => es = fs | .inr y => y = (false, ()) ∧ es ≠ fs) ?_ ?_)
  · refine Sat.count es.length (fun k t => t = (es, fs, (k : Int), ()) ∧ ∀ i, i < k → en es i = en fs i) ?_ (Nat.zero_le _) (fuel_lt (by omega)) ⟨rfl, fun i hi => by omega⟩
    rintro k t hk ⟨rfl, hok⟩
    simp (disch := omega) only [bo_laws_sameEnds_4, at_en, toN, w64, nI_eq, eqI, eta_en]
    refine Sat.ite (fun h => ?_) (fun h => ?_)
    · have h := of_decide_eq_true h
      refine Sat.gd (inR_t (by omega) (by omega)) (Sat.gd (inR_t (by omega) (by omega)) (Sat.ite (fun h2 => ?_) (fun h2 => ?_)))
      · have h2 : ¬ en es k = en fs k := by simpa using h2
        exact .some ⟨rfl, fun e => h2 (by rw [e])⟩
      · have h2 : en es k = en fs k := by simpa using h2
        exact .some ⟨by omega, rfl, fun i hi => by
          by_cases e : i < k
          · exact hok i e
          · obtain rfl : i = k := by omega
            exact h2⟩
    · have h := of_decide_eq_false h
      exact .some (ens_ext hl fun i hi => hok i (by omega))
  · rintro (r | r) hr
    · have hr : es = fs := hr
      exact .some (by rw [decide_eq_true hr])
    · obtain ⟨rfl, hr⟩ := hr
      exact .some (by rw [decide_eq_false hr])
theorem e_sameLsa (a b : Ls) (ha : Fits a.e) (hb : Fits b.e) : sh_impl_sameLsa (a.o, a.s, a.e, b.o, b.s, b.e, ()) = some (decide (a = b), ()) := by
  unfold sh_impl_sameLsa
  cases a with | mk o s e =>
  cases b with | mk o' s' e' =>
  dsimp only
  by_cases h1 : o = o' <;> by_cases h2 : s = s' <;> simp [h1, h2, e_Equal e e' ha hb]
theorem e_sameLsaL (a b : Ls) (ha : Fits a.e) (hb : Fits b.e) : sh_laws_sameLsa (a.o, a.s, a.e, b.o, b.s, b.e, ()) = some (decide (a = b), ()) := by
  unfold sh_laws_sameLsa
  cases a with | mk o s e =>
  cases b with | mk o' s' e' =>
  dsimp only
  by_cases h1 : o = o' <;> by_cases h2 : s = s' <;> simp [h1, h2, e_sameEnds e e' ha hb]
theorem e_l51Same (a b : Ls) (ha : Fits a.e) (hb : Fits b.e) : sh_spec_l51Same (a.o, a.s, a.e, b.o, b.s, b.e, ()) = some (decide (a = b), ()) := by
  unfold sh_spec_l51Same
  cases a with | mk o s es =>
  cases b with | mk o' s' fs =>
  dsimp only at *
  by_cases h1 : o = o'
  case neg => simp [h1]
  by_cases h2 : s = s'
  case neg => simp [h2]
  subst h1 h2
  by_cases hl : es.length = fs.length
  case neg =>
    have : es ≠ fs := fun e => hl (by rw [e])
    have hl2 : ¬ (es.length : Int) = fs.length := by omega
    simp [nI_eq, hl2, this]
  simp only [nI_eq, hl, decide_true, Bool.not_true, cond_false]
  refine Sat.out (Sat.bnd (R := fun r => match r with | .inl _ => es = fs | .inr y => y = (false, ()) ∧ es ≠ fs) ?_ ?_)
  · refine Sat.count es.length (fun k t => t = ((k : Int), o, s, es, o, s, fs, ()) ∧ ∀ i, i < k → en es i = en fs i) ?_ (Nat.zero_le _) (fuel_lt (by omega)) ⟨rfl, fun i hi => by omega⟩
    rintro k t hk ⟨rfl, hok⟩
    simp (disch := omega) only [bo_spec_l51Same_4, at_en, toN, w64, nI_eq, eqI, eta_en]
    refine Sat.ite (fun h => ?_) (fun h => ?_)
    · have h := of_decide_eq_true h
      refine Sat.gd (inR_t (by omega) (by omega)) (Sat.gd (inR_t (by omega) (by omega)) (Sat.ite (fun h2 => ?_) (fun h2 => ?_)))
      · have h2 : ¬ en es k = en fs k := by simpa using h2
        exact .some ⟨rfl, fun e => h2 (by rw [e])⟩
      · have h2 : en es k = en fs k := by simpa using h2
        exact .some ⟨by omega, rfl, fun i hi => by
          by_cases e : i < k
          · exact hok i e
          · obtain rfl : i = k := by omega
            exact h2⟩
    · have h := of_decide_eq_false h
      exact .some (ens_ext hl fun i hi => hok i (by omega))
  · rintro (r | r) hr
    · have hr : es = fs := hr
      exact .some (by rw [decide_eq_true (by rw [hr])])
    · obtain ⟨rfl, hr⟩ := hr
      exact .some (by rw [decide_eq_false (by intro e; injection e with _ _ e; exact hr e)])
theorem e_sameDbSelf (db : List Ls) (h : SmD db) : sh_laws_sameDb (db, db, ()) = some (true, ()) := by
  have h1 := h.1
  unfold Sm at h1
  unfold sh_laws_sameDb
  simp only [decide_true, Bool.not_true, cond_false]
  refine Sat.out (Sat.bnd (R := fun r => match r with | .inl _ => True | .inr _ => False) ?_ ?_)
  · refine Sat.count db.length (fun k t => t = (db, db, (k : Int), ())) ?_ (Nat.zero_le _) (fuel_lt (by omega)) rfl
    rintro k t hk rfl
    simp (disch := omega) only [bo_laws_sameDb_4, at_ls, toN, w64, nI_eq]
    refine Sat.ite (fun hh => ?_) (fun hh => .some trivial)
    have hh := of_decide_eq_true hh
    have hf := h.fe _ (lsa_mem (show k < db.length by omega))
    refine Sat.gd (inR_t (by omega) (by omega)) (Sat.gd (inR_t (by omega) (by omega)) ?_)
    rw [e_sameLsaL _ _ hf hf]
    simp only [decide_true, Option.bind_some, Bool.not_true, cond_false]
    exact .some ⟨by omega, rfl⟩
  · rintro (r | r) hr
    case inr => exact hr.elim
    exact .some rfl
theorem SmD.put {db : List Ls} (h : SmD db) {l : Ls} (hl : Sm l.e) (hs : db.length ≤ 1000000) : SmD (putD db l) ∧ (putD db l).length ≤ db.length + 1 := by
  have hlen : (putL db l).length ≤ db.length + 1 := by
    unfold putL
    have h1 : ∀ ds : List Ls, (ds.filter fun x => decide (x.o < l.o)).length + (ds.filter fun x => decide (l.o < x.o)).length ≤ ds.length := fun ds => by
      induction ds with
      | nil => simp
      | cons x r ih =>
        simp only [List.filter_cons]
        by_cases a : x.o < l.o
        · have b : ¬ l.o < x.o := by omega
          simp [a, b]; omega
        · by_cases b : l.o < x.o
          · simp [a, b]; omega
          · simp [a, b]; omega
    have := h1 db
    simp only [List.length_append, List.length_cons]
    omega
  unfold putD
  split
  · refine ⟨⟨by unfold Sm; omega, fun x hx => ?_⟩, hlen⟩
    rcases putL_mem.1 hx with rfl | ⟨hx, _⟩
    · exact hl
    · exact h.2 x hx
  · exact ⟨h, by omega⟩
end Go.Proofs.Ytdfkphagjkpgdaa
end
section
namespace Go.Proofs.Ytdfkphagjkpgdaa
open Go.RowKit
set_option linter.unusedSimpArgs false
set_option linter.unusedVariables false
set_option maxRecDepth 100000

theorem filter_snoc {db : List Ls} {k : Nat} (p : Ls → Bool) (h : k < db.length) : (db.take (k + 1)).filter p = (db.take k).filter p ++ if p (lsa db k) then [lsa db k] else [] := by
  rw [List.take_add_one, List.getElem?_eq_getElem h, List.filter_append, lsa_get h]
  cases hp : p db[k] <;> simp [hp]
theorem filter_take_len {db : List Ls} (p : Ls → Bool) (k : Nat) : ((db.take k).filter p).length ≤ db.length := Nat.le_trans (List.length_filter_le _ _) (by rw [List.length_take]; omega)
theorem low_take {db : List Ls} (hs : Srt db) {o : Int} {k : Nat} (h1 : ∀ i, i < k → (lsa db i).o < o) (h2 : k < db.length → ¬ (lsa db k).o < o) (hk : k ≤ db.length) : db.take k = db.filter fun x => decide (x.o < o) := by
  have e1 : (db.take k).filter (fun x => decide (x.o < o)) = db.take k := by
    refine List.filter_eq_self.2 fun x hx => ?_
    obtain ⟨i, hi, rfl⟩ := List.getElem_of_mem hx
    have hi' : i < k := by rw [List.length_take] at hi; omega
    have := h1 i hi'
    rw [lsa_get (by omega)] at this
    simpa [List.getElem_take] using this
  have e2 : (db.drop k).filter (fun x => decide (x.o < o)) = [] := by
    refine List.filter_eq_nil_iff.2 fun x hx => ?_
    obtain ⟨i, hi, rfl⟩ := List.getElem_of_mem hx
    have hi' : k + i < db.length := by rw [List.length_drop] at hi; omega
    have h3 := h2 (by omega)
    have h4 : (lsa db k).o ≤ (lsa db (k + i)).o := by
      rcases Nat.eq_zero_or_pos i with e | e
      · subst e; exact Int.le_refl _
      · have := hs k (k + i) (by omega) hi'; omega
    rw [lsa_get hi'] at h4
    simp only [List.getElem_drop, decide_eq_true_eq]
    omega
  calc db.take k = (db.take k).filter (fun x => decide (x.o < o)) ++ (db.drop k).filter (fun x => decide (x.o < o)) := by rw [e1, e2, List.append_nil]
    _ = db.filter fun x => decide (x.o < o) := by rw [← List.filter_append, List.take_append_drop]
theorem put8 (db : List Ls) (l : Ls) (hs : Srt db) (h : SmD db) : Sat (lp bo_spec_l11Put_8 fuel (db, 0, l.o, l.s, l.e, [], ())) fun r => match r with | .inl x => x = (db, l.o, l.s, l.e, db.filter (fun x => decide (x.o < l.o)), ()) | .inr _ => False := by
  have h1 := h.1
  unfold Sm at h1
  refine Sat.count db.length (fun k t => t = (db, (k : Int), l.o, l.s, l.e, db.take k, ()) ∧ ∀ i, i < k → (lsa db i).o < l.o) ?_ (Nat.zero_le _) (fuel_lt (by omega)) ⟨by simp, fun i hi => by omega⟩
  rintro k t hk ⟨rfl, hok⟩
  by_cases hlt : k < db.length
  · simp (disch := omega) only [bo_spec_l11Put_8, at_ls, toN, w64, nI_eq, e_l11One _ _ _ (h.2 _ (lsa_mem hlt)), Option.bind_some]
    refine Sat.gd (decide_eq_true (by omega)) (Sat.gd (inR_t (by omega) (by omega)) (Sat.ite (fun hc => ?_) (fun hc => ?_)))
    · have hc := of_decide_eq_true hc
      refine Sat.gd (inR_t (by omega) (by omega)) (Sat.gd (decide_eq_true (by simp; omega)) (.some ⟨hlt, ?_, fun i hi => ?_⟩))
      · rw [take_lsa hlt]; rfl
      · by_cases e : i < k
        · exact hok i e
        · obtain rfl : i = k := by omega
          exact hc
    · have hc := of_decide_eq_false hc
      exact .some (by rw [low_take hs hok (fun _ => hc) hk])
  · obtain rfl : k = db.length := by omega
    unfold bo_spec_l11Put_8
    simp only [nI_eq, decide_eq_false (show ¬ (db.length : Int) < db.length by omega), cond_false]
    exact .some (by rw [low_take hs hok (fun h => by omega) hk])
theorem put13 (db : List Ls) (l : Ls) (out : List Ls) (h : SmD db) (ho : out.length ≤ 17000000) : Sat (lp bo_spec_l11Put_13 fuel (db, 0, l.o, l.s, l.e, out, ())) fun r => match r with | .inl x => x = (out ++ db.filter (fun x => decide (l.o < x.o)), ()) | .inr _ => False := by
  have h1 := h.1
  unfold Sm at h1
  refine Sat.count db.length (fun k t => t = (db, (k : Int), l.o, l.s, l.e, out ++ (db.take k).filter (fun x => decide (l.o < x.o)), ())) ?_ (Nat.zero_le _) (fuel_lt (by omega)) (by simp)
  rintro k t hk rfl
  by_cases hlt : k < db.length
  · have hfl := filter_take_len (db := db) (fun x => decide (l.o < x.o)) k
    simp (disch := omega) only [bo_spec_l11Put_13, at_ls, toN, w64, nI_eq, e_l11One _ _ _ (h.2 _ (lsa_mem hlt)), Option.bind_some]
    refine Sat.gd (decide_eq_true (by omega)) (Sat.gd (inR_t (by omega) (by omega)) (Sat.ite (fun hc => ?_) (fun hc => ?_)))
    · have hc' := of_decide_eq_true hc
      refine Sat.gd (inR_t (by omega) (by omega)) (Sat.gd (decide_eq_true (by simp only [List.length_append, List.length_singleton]; omega)) (.some ⟨hlt, ?_⟩))
      rw [filter_snoc _ hlt, if_pos hc, ← List.append_assoc]
      rfl
    · refine .some ⟨hlt, ?_⟩
      rw [filter_snoc _ hlt, if_neg (by rw [hc]; simp), List.append_nil]
      rfl
  · obtain rfl : k = db.length := by omega
    unfold bo_spec_l11Put_13
    simp only [nI_eq, decide_eq_false (show ¬ (db.length : Int) < db.length by omega), cond_false, List.take_length]
    exact .some rfl
theorem e_l11Put (db : List Ls) (l : Ls) (hs : SrtP db) (h : SmD db) (hl : Sm l.e) : sh_spec_l11Put (db, l.o, l.s, l.e, ()) = some (putC db l, putD db l, ()) := by
  have hsrt : Srt db := srt_iff.2 hs
  have h1 := h.1
  unfold Sm at h1
  have hfin : Sat ((lp bo_spec_l11Put_8 fuel (db, 0, l.o, l.s, l.e, [], ())).bind fun r3 => (match r3 with | .inl x4 => (sh_spec_l11One ((x4.2.1, (x4.2.2.1, (x4.2.2.2.1, ()))))).bind fun r5 => (bif decide (((List.length x4.2.2.2.2.1 + List.length ([(Ls.mk r5.1 r5.2.1 r5.2.2.1)])) ≤ (33554432 : Nat))) then (lp bo_spec_l11Put_13 fuel ((x4.1, ((0 : Int), (x4.2.1, (x4.2.2.1, (x4.2.2.2.1, ((x4.2.2.2.2.1 ++ [(Ls.mk r5.1 r5.2.1 r5.2.2.1)]), ())))))))).bind fun r6 => (match r6 with | .inl x7 => some (((0 : Int), x7.1, ())) | .inr _ => none) else none) | .inr _ => none)) (· = (0, putL db l, ())) := by
    refine Sat.bnd (put8 db l hsrt h) ?_
    rintro (r | r) hr
    case inr => exact hr.elim
    obtain rfl := hr
    dsimp only
    rw [e_l11One _ _ _ hl]
    have hfl : (db.filter fun x => decide (x.o < l.o)).length ≤ db.length := List.length_filter_le _ _
    simp only [Option.bind_some]
    refine Sat.gd (decide_eq_true (by simp only [List.length_singleton]; omega)) (Sat.bnd (put13 db l _ h (by simp only [List.length_append, List.length_singleton]; omega)) ?_)
    rintro (r | r) hr
    case inr => exact hr.elim
    obtain rfl := hr
    refine .some ?_
    unfold putL
    simp
  have hfin := hfin.out
  unfold sh_spec_l11Put
  dsimp only
  rw [e_l11Find db l.o h.fits]
  unfold putD putC
  cases hfd : fd db l.o with
  | none =>
    simp only [Option.bind_some, cond_false]
    exact hfin
  | some old =>
    simp only [Option.bind_some, cond_true, e_l11Copy db h]
    by_cases e1 : old.s = l.s
    · simp only [e1, decide_true, cond_true]
      simp
    · by_cases e2 : l.s < old.s
      · simp only [e1, e2, decide_true, decide_false, cond_true, cond_false]
        simp
      · simp only [e1, e2, decide_false, cond_false]
        exact hfin
theorem e_sDbValid (db : List Ls) (hl : Fits db) (he : ∀ l ∈ db, Fits l.e) : sh_spec_DbValid (db, ()) = some (dbv db, ()) := by
  unfold sh_spec_DbValid
  refine Sat.out (Sat.bnd (R := fun r => match r with | .inl _ => dbv db = true | .inr y => y.1 = false ∧ dbv db = false) ?_ ?_)
  · refine Sat.count db.length (fun k t => t = (db, (k : Int), ()) ∧ ∀ i, i < k → LsV (lsa db i) ∧ (0 < i → (lsa db (i - 1)).o < (lsa db i).o)) ?_ (Nat.zero_le _) (fuel_lt (by omega)) ⟨by simp, fun i hi => by omega⟩
    rintro k t hk ⟨rfl, hok⟩
    by_cases hlt : k < db.length
    · have hf : Fits (lsa db k).e := he _ (by rw [lsa_get hlt]; exact List.getElem_mem hlt)
      simp (disch := omega) only [bo_spec_DbValid_2, at_ls, toN, toN1, w64, nI_eq, e_sLsaValid _ _ _ hf, Option.bind_some]
      repeat' (first
        | refine Sat.some ?_
        | fail
        | (refine Sat.gd (by first | exact inR_t (by omega) (by omega) | (simp (disch := omega) only [w64]; exact inR_t (by omega) (by omega))) ?_)
        | (refine Sat.ite (fun h => ?_) (fun h => ?_) <;> try simp only [decide_eq_true_eq, decide_eq_false_iff_not, Bool.not_eq_true', Bool.not_eq_false', inB_i, inB_j, Bool.and_eq_true, Bool.or_eq_true, Bool.and_eq_false_iff, Bool.or_eq_false_iff, El] at h))
      all_goals try dsimp only
      all_goals first
        | (refine ⟨rfl, decide_eq_false fun g => ?_⟩
           have := g k hlt
           first | exact of_decide_eq_false (by assumption) this.1 | omega)
        | (refine ⟨by omega, rfl, fun i hi => ?_⟩
           by_cases e : i < k
           · exact hok i e
           · obtain rfl : i = k := by omega
             exact ⟨of_decide_eq_true (by assumption), fun _ => by omega⟩)
        | omega
    · obtain rfl : k = db.length := by omega
      unfold bo_spec_DbValid_2
      simp only [nI_eq, decide_eq_false (show ¬ (db.length : Int) < db.length by omega), cond_false]
      exact .some (decide_eq_true hok)
  · rintro (r | r) hr
    · have hr : dbv db = true := hr
      exact .some (by rw [hr])
    · obtain ⟨b, u⟩ := r
      have hr : b = false ∧ dbv db = false := hr
      exact .some (by rw [hr.1, hr.2])
theorem e_DbPut (db : List Ls) (l : Ls) (h : SmD db) (hl : Sm l.e) : sh_spec_DbPut (db, l.o, l.s, l.e, ()) = some (if DbV db ∧ LsV l then (putC db l, putD db l, ()) else (3, [], ())) := by
  unfold sh_spec_DbPut
  dsimp only
  rw [e_sDbValid db h.fits h.fe]
  by_cases h1 : DbV db
  · have hb : dbv db = true := decide_eq_true h1
    simp only [hb, Option.bind_some, Bool.not_true, cond_false]
    rw [e_sLsaValid _ _ _ (by unfold Fits; unfold Sm at hl; omega)]
    by_cases h2 : LsV l
    · have hc : lsv l.o l.s l.e = true := lsv_t h2
      simp only [hc, Option.bind_some, Bool.not_true, cond_false, e_l11Put db l (srt_iff.1 h1.srt) h hl]
      rw [if_pos ⟨h1, h2⟩]
    · have hc : lsv l.o l.s l.e = false := lsv_f h2
      simp only [hc, Option.bind_some, Bool.not_false, cond_true]
      rw [if_neg (fun hh => h2 hh.2)]
  · have hb : dbv db = false := decide_eq_false h1
    simp only [hb, Option.bind_some, Bool.not_false, cond_true]
    rw [if_neg (fun hh => h1 hh.1)]
theorem merge_take {a b : List Ls} {k : Nat} (h : k < b.length) : mergeD a (b.take (k + 1)) = putD (mergeD a (b.take k)) (lsa b k) := by
  unfold mergeD
  rw [List.take_add_one, List.getElem?_eq_getElem h, lsa_get h, List.foldl_append]
  rfl
theorem merge_sm {a b : List Ls} (ha : SmD a) (hb : SmD b) (hla : a.length ≤ 500000) (hlb : b.length ≤ 400000) : ∀ k, k ≤ b.length → SmD (mergeD a (b.take k)) ∧ (mergeD a (b.take k)).length ≤ a.length + k
  | 0, _ => ⟨by simpa [mergeD] using ha, by simp [mergeD]⟩
  | k + 1, hk => by
    obtain ⟨i1, i2⟩ := merge_sm ha hb hla hlb k (by omega)
    rw [merge_take (by omega)]
    have := i1.put (hb.2 _ (lsa_mem (show k < b.length by omega))) (by omega)
    exact ⟨this.1, by omega⟩
theorem e_l11Merge (a b : List Ls) (hs : SrtP a) (ha : SmD a) (hb : SmD b) (hla : a.length ≤ 500000) (hlb : b.length ≤ 400000) : sh_spec_l11Merge (a, b, ()) = some (mergeD a b, ()) := by
  unfold sh_spec_l11Merge
  simp only [e_l11Copy a ha, Option.bind_some, nI_eq]
  refine Sat.out (Sat.bnd (R := fun r => match r with | .inl x => x = (mergeD a b, ()) | .inr _ => False) ?_ ?_)
  · refine Sat.count b.length (fun k t => t = (b, (k : Int), mergeD a (b.take k), ())) ?_ (Nat.zero_le _) (fuel_lt (by omega)) (by simp [mergeD])
    rintro k t hk rfl
    by_cases hlt : k < b.length
    · obtain ⟨i1, i2⟩ := merge_sm ha hb hla hlb k hk
      simp (disch := omega) only [bo_spec_l11Merge_3, at_ls, toN, w64, nI_eq, e_l11Put _ _ (mergeD_srt hs _) i1 (hb.2 _ (lsa_mem hlt)), Option.bind_some]
      refine Sat.gd (decide_eq_true (by omega)) (Sat.gd (inR_t (by omega) (by omega)) (.some ⟨hlt, ?_⟩))
      rw [merge_take hlt]
      rfl
    · obtain rfl : k = b.length := by omega
      unfold bo_spec_l11Merge_3
      simp only [nI_eq, decide_eq_false (show ¬ (b.length : Int) < b.length by omega), cond_false, List.take_length]
      exact .some rfl
  · rintro (r | r) hr
    case inr => exact hr.elim
    obtain rfl := hr
    exact .some rfl
end Go.Proofs.Ytdfkphagjkpgdaa
end
section
namespace Go.Proofs.Ytdfkphagjkpgdaa
open Go.RowKit
set_option linter.unusedSimpArgs false
set_option linter.unusedVariables false

def sy (f : Nat → Int) (e : Nat × Nat) : Nat → Int := fun n => if n = e.1 ∨ n = e.2 then max (f e.1) (f e.2) else f n
def Jn (ls : List Lk) (u v : Nat) : Prop := ∃ k s, Wk ls u k v s
theorem Jn.refl (ls : List Lk) (u : Nat) : Jn ls u u := ⟨0, 0, .nil⟩
theorem Jn.symm {ls : List Lk} {u v : Nat} (h : Jn ls u v) : Jn ls v u := by
  obtain ⟨k, s, w⟩ := h
  exact ⟨k, s, w.symm⟩
theorem Jn.trans {ls : List Lk} {u v x : Nat} (h : Jn ls u v) (h' : Jn ls v x) : Jn ls u x := by
  obtain ⟨k, s, w⟩ := h
  obtain ⟨k', s', w'⟩ := h'
  exact ⟨_, _, w.append w'⟩
section
variable {N : Nat} {ls : List Lk}
end
end Go.Proofs.Ytdfkphagjkpgdaa
end
section
namespace Go.Proofs.Ytdfkphagjkpgdaa
open Go.RowKit
set_option linter.unusedSimpArgs false
set_option linter.unusedVariables false

structure Know (D : Nat → List Ls) : Prop where
  srt : ∀ n, SrtP (D n)
  pos : ∀ n, ∀ l ∈ D n, 0 ≤ l.s
  agr : ∀ m n, Agree (D m) (D n)
def syD (D : Nat → List Ls) (e : Nat × Nat) : Nat → List Ls := fun n => if n = e.1 ∨ n = e.2 then mergeD (D e.1) (D e.2) else D n
theorem syD_mem {D : Nat → List Ls} {e : Nat × Nat} {n : Nat} {x : Ls} (h : x ∈ syD D e n) : ∃ m, x ∈ D m := by
  unfold syD at h
  split at h
  · rcases merge_mem h with h | h
    · exact ⟨_, h⟩
    · exact ⟨_, h⟩
  · exact ⟨n, h⟩
theorem Know.sy {D : Nat → List Ls} (K : Know D) (e : Nat × Nat) : Know (syD D e) := by
  refine ⟨fun n => ?_, fun n l hl => ?_, fun m n x hx y hy => ?_⟩
  · unfold syD
    split
    · exact mergeD_srt (K.srt _) _
    · exact K.srt n
  · obtain ⟨m, hm⟩ := syD_mem hl
    exact K.pos m l hm
  · obtain ⟨i, hi⟩ := syD_mem hx
    obtain ⟨j, hj⟩ := syD_mem hy
    exact K.agr i j x hi y hj
theorem Know.seq {D : Nat → List Ls} (K : Know D) (e : Nat × Nat) (o : Int) (n : Nat) : seqD (syD D e n) o = Go.Proofs.Ytdfkphagjkpgdaa.sy (fun n => seqD (D n) o) e n := by
  unfold syD Go.Proofs.Ytdfkphagjkpgdaa.sy
  split
  · exact seq_merge (K.srt _) (K.srt _) (K.pos _) (K.pos _) o
  · rfl
section
variable {N : Nat} {ls : List Lk} {D : Nat → List Ls}
end
end Go.Proofs.Ytdfkphagjkpgdaa
end
section
namespace Go.Proofs.Ytdfkphagjkpgdaa
open Go.RowKit
set_option linter.unusedSimpArgs false
set_option linter.unusedVariables false

structure Wd where
  n : Int
  ls : List Lk
  up : List Bool
  sq : List Int
  db : List (List Ls)
  net : List Pk
def dbx (db : List (List Ls)) (i : Nat) : List Ls := db.getD i []
def trK (ls : List Lk) (up : List Bool) (k : Nat) : List Lk := ((List.range k).filter fun i => up.getD i false).map (lk ls)
def tru (ls : List Lk) (up : List Bool) : List Lk := trK ls up ls.length
theorem trK_succ (ls : List Lk) (up : List Bool) (k : Nat) : trK ls up (k + 1) = if up.getD k false then trK ls up k ++ [lk ls k] else trK ls up k := by
  unfold trK
  rw [List.range_succ, List.filter_append, List.map_append, List.filter_cons]
  cases h : up.getD k false with
  | false => simp
  | true => rfl
theorem tru_mem {ls : List Lk} {up : List Bool} {l : Lk} : l ∈ tru ls up ↔ ∃ i, i < ls.length ∧ up.getD i false = true ∧ l = lk ls i := by
  unfold tru trK
  rw [List.mem_map]
  constructor
  · rintro ⟨i, hi, rfl⟩
    obtain ⟨h1, h2⟩ := List.mem_filter.1 hi
    exact ⟨i, List.mem_range.1 h1, h2, rfl⟩
  · rintro ⟨i, h1, h2, rfl⟩
    exact ⟨i, List.mem_filter.2 ⟨List.mem_range.2 h1, h2⟩, rfl⟩
theorem tru_len (ls : List Lk) (up : List Bool) : (tru ls up).length ≤ ls.length := by
  unfold tru trK
  rw [List.length_map]
  exact Nat.le_trans (List.length_filter_le _ _) (by simp)
theorem tru_gv {n : Int} {ls : List Lk} (g : GV n ls) (up : List Bool) : GV n (tru ls up) := by
  refine gv_pw.2 ⟨g.1, g.2.1, Nat.le_trans (tru_len ls up) g.2.2.1, fun l hl => ?_, ?_⟩
  · obtain ⟨i, hi, _, rfl⟩ := tru_mem.1 hl
    exact g.ok (lk_mem hi)
  · unfold tru trK
    rw [List.pairwise_map]
    refine List.Pairwise.imp_of_mem ?_ (List.Pairwise.filter _ (List.pairwise_lt_range (n := ls.length)))
    intro a b ha hb hab
    have h1 := List.mem_range.1 (List.mem_filter.1 ha).1
    have h2 := List.mem_range.1 (List.mem_filter.1 hb).1
    have := List.pairwise_iff_getElem.1 g.pw a b h1 h2 hab
    rwa [hit_lk h1, hit_lk h2]
def Poss (w : Wd) (A : Int → Prop) (l : Ls) : Prop := LsV l ∧ l.o < w.n ∧ l.s ≤ iz w.sq l.o.toNat ∧ (∀ e ∈ l.e, lc w.ls l.o e.n = some e.c) ∧ (l.s < iz w.sq l.o.toNat ∨ l.e = endsOf (tru w.ls w.up) w.n.toNat l.o ∨ A l.o)
def Said (w : Wd) (l : Ls) : Prop := (∃ i, i < w.db.length ∧ l ∈ dbx w.db i) ∨ ∃ p ∈ w.net, l = p.p
structure WV (w : Wd) (A : Int → Prop) : Prop where
  g : GV w.n w.ls
  up : w.up.length = w.ls.length
  sq : (w.sq.length : Int) = w.n
  db : (w.db.length : Int) = w.n
  net : w.net.length ≤ 16
  rng : ∀ i, i < w.sq.length → 1 ≤ iz w.sq i ∧ iz w.sq i ≤ 99
  ok : ∀ i, i < w.db.length → DbV (dbx w.db i)
  own : ∀ i, i < w.db.length → ∃ l ∈ dbx w.db i, l.o = i ∧ l.s = iz w.sq i
  poss : ∀ l, Said w l → Poss w A l
  agr : ∀ x y, Said w x → Said w y → x.o = y.o → x.s = y.s → x = y
  tgt : ∀ p ∈ w.net, 0 ≤ p.t ∧ p.t < w.n
def fl1 (l : Ls) (ex : Int) (net : List Pk) (m : Int) : List Pk := if m ≠ ex ∧ net.length < 16 then net ++ [⟨m, l⟩] else net
def flN (l : Ls) (ex : Int) (net : List Pk) (nb : List Int) : List Pk := nb.foldl (fl1 l ex) net
theorem flN_mem {l : Ls} {ex : Int} {p : Pk} : ∀ {nb : List Int} {net : List Pk}, p ∈ flN l ex net nb → p ∈ net ∨ ∃ m ∈ nb, p = ⟨m, l⟩
  | [], net, h => .inl h
  | m :: r, net, h => by
    rcases flN_mem (nb := r) (net := fl1 l ex net m) h with h | ⟨x, hx, e⟩
    · unfold fl1 at h
      split at h
      · rcases List.mem_append.1 h with h | h
        · exact .inl h
        · exact .inr ⟨m, List.mem_cons_self .., List.mem_singleton.1 h⟩
      · exact .inl h
    · exact .inr ⟨x, List.mem_cons_of_mem _ hx, e⟩
theorem flN_len {l : Ls} {ex : Int} : ∀ {nb : List Int} {net : List Pk}, net.length ≤ 16 → (flN l ex net nb).length ≤ 16
  | [], net, h => h
  | m :: r, net, h => flN_len (nb := r) (by unfold fl1; split; rw [List.length_append, List.length_singleton]; omega; exact h)
def newL (w : Wd) (i : Nat) : Ls := ⟨i, iz w.sq i + 1, endsOf (tru w.ls w.up) w.n.toNat i⟩
def annW (w : Wd) (i : Nat) : Wd := { w with sq := w.sq.set i (iz w.sq i + 1), db := w.db.set i (putD (dbx w.db i) (newL w i)), net := flN (newL w i) (-1) w.net (nbS (tru w.ls w.up) i w.n.toNat) }
theorem dbx_set {db : List (List Ls)} {i j : Nat} {d : List Ls} (hi : i < db.length) : dbx (db.set i d) j = if j = i then d else dbx db j := by
  unfold dbx
  simp only [List.getD, List.getElem?_set]
  by_cases h : i = j
  · subst h; simp [hi]
  · rw [if_neg h, if_neg (fun e => h e.symm)]
end Go.Proofs.Ytdfkphagjkpgdaa
end
section
namespace Go.Proofs.Ytdfkphagjkpgdaa
open Go.RowKit
set_option linter.unusedSimpArgs false
set_option linter.unusedVariables false
set_option maxRecDepth 100000

section
variable {N : Nat} {ls : List Lk} {node : Int} {ends : List En}
theorem en_map {l : List Int} {f : Int → En} {i : Nat} (h : i < l.length) : en (l.map f) i = f (iz l i) := by simp [en, iz, h]
theorem pw_iz {l : List Int} (h : l.Pairwise (· < ·)) {i j : Nat} (hij : i < j) (hj : j < l.length) : iz l i < iz l j := by
  have := List.pairwise_iff_getElem.1 h i j (by omega) hj hij
  simpa [iz, hj, show i < l.length by omega] using this
theorem endsOf_ok (g : GV N ls) {n : Nat} (hn : n < N) : LsV ⟨n, 1, endsOf ls N n⟩ := by
  have h8 := g.2.1
  refine ⟨by dsimp only; omega, by dsimp only; omega, by dsimp only; omega, by dsimp only; omega, fun i hi => ?_⟩
  dsimp only at hi ⊢
  have hi' : i < (nbS ls n N).length := by unfold endsOf at hi; simpa using hi
  have hm : iz (nbS ls n N) i ∈ nbS ls n N := List.mem_of_getElem? (iz_get hi')
  obtain ⟨j, hj, e, hs⟩ := nbS_mem.1 hm
  obtain ⟨c, hc⟩ := Option.isSome_iff_exists.1 hs
  have hcc := lc_cost g hc
  have hne := (lc_none_out g hs).2.2.2.2
  unfold EnAt endsOf
  rw [en_map hi', e, hc]
  refine ⟨by dsimp only; omega, by dsimp only; omega, by dsimp only; omega, hcc.1, hcc.2, fun h0 => ?_⟩
  rw [en_map (show i - 1 < (nbS ls n N).length by omega)]
  have := pw_iz (nbS_asc ls n N) (show i - 1 < i by omega) hi'
  dsimp only
  omega
theorem ec_endsOf (g : GV N ls) {a b : Nat} (hb : b < N) : ec (endsOf ls N a) b = (lc ls a b).getD 0 := by
  unfold ec endsOf
  rw [List.find?_map]
  cases hc : lc ls a b with
  | none =>
    have : List.find? ((fun e : En => decide (e.n = (b : Int))) ∘ fun n => (⟨n, (lc ls a n).getD 0⟩ : En)) (nbS ls a N) = none := by
      rw [List.find?_eq_none]
      intro x hx
      simp only [Function.comp]
      intro e
      have e := of_decide_eq_true e
      obtain ⟨j, _, rfl, hs⟩ := nbS_mem.1 hx
      rw [e, hc] at hs
      cases hs
    rw [this]; rfl
  | some c =>
    have hm : (b : Int) ∈ nbS ls a N := nbS_mem.2 ⟨b, hb, rfl, by rw [hc]; rfl⟩
    obtain ⟨y, hy⟩ : ∃ y, List.find? ((fun e : En => decide (e.n = (b : Int))) ∘ fun n => (⟨n, (lc ls a n).getD 0⟩ : En)) (nbS ls a N) = some y := by
      rw [← Option.isSome_iff_exists, List.find?_isSome]
      exact ⟨b, hm, by simp⟩
    rw [hy]
    have := List.find?_some hy
    simp only [Function.comp] at this
    have := of_decide_eq_true this
    subst this
    simp [hc]
theorem gridR_le {f g : Nat → Nat → Option Int} {a : Nat} : ∀ {j : Nat}, (∀ b, a < b → b ≤ a + j → (f a b).isSome = true → (g a b).isSome = true) → (gridR f a j).length ≤ (gridR g a j).length
  | 0, _ => by simp [gridR]
  | j + 1, h => by
    rw [gridR_succ, gridR_succ, List.length_append, List.length_append]
    have h1 := gridR_le (j := j) fun b h1 h2 => h b h1 (by omega)
    have h2 := h (a + 1 + j) (by omega) (by omega)
    have : (cell f a (a + 1 + j)).length ≤ (cell g a (a + 1 + j)).length := by
      unfold cell
      cases e : f a (a + 1 + j) with
      | none => simp
      | some c =>
        rw [e] at h2
        obtain ⟨d, hd⟩ := Option.isSome_iff_exists.1 (h2 rfl)
        simp [hd]
    omega
theorem gridK_le {f g : Nat → Nat → Option Int} : ∀ {k : Nat}, (∀ a b, a < k → a < b → b < N → (f a b).isSome = true → (g a b).isSome = true) → (gridK f N k).length ≤ (gridK g N k).length
  | 0, _ => by simp [gridK]
  | k + 1, h => by
    rw [gridK_succ, gridK_succ, List.length_append, List.length_append]
    have h1 := gridK_le (k := k) fun a b ha => h a b (by omega)
    have h2 := gridR_le (f := f) (g := g) (a := k) (j := N - 1 - k) fun b hb1 hb2 => h k b (by omega) hb1 (by omega)
    omega
end
section
variable {ls : List Lk} {ends : List En}
end
end Go.Proofs.Ytdfkphagjkpgdaa
end
section
namespace Go.Proofs.Ytdfkphagjkpgdaa
open Go.RowKit
set_option linter.unusedSimpArgs false
set_option linter.unusedVariables false

theorem tru_lc {n : Int} {ls : List Lk} (g : GV n ls) {up : List Bool} {a b c : Int} (h : lc (tru ls up) a b = some c) : lc ls a b = some c := by
  have hm := lc_some h
  obtain ⟨i, hi, _, e⟩ := tru_mem.1 hm
  exact (lc_iff g.pw).2 (by rw [e]; exact lk_mem hi)
theorem endsOf_mem {ls : List Lk} {N : Nat} {o : Int} {e : En} (h : e ∈ endsOf ls N o) : lc ls o e.n = some e.c := by
  unfold endsOf at h
  obtain ⟨x, hx, rfl⟩ := List.mem_map.1 h
  obtain ⟨j, _, rfl, hs⟩ := nbS_mem.1 hx
  obtain ⟨c, hc⟩ := Option.isSome_iff_exists.1 hs
  dsimp only
  rw [hc]; rfl
theorem iz_set' {d : List Int} {y j : Nat} {v : Int} (hy : y < d.length) : iz (d.set y v) j = if j = y then v else iz d j := iz_set d y j v hy
theorem newL_ok {w : Wd} {A : Int → Prop} (h : WV w A) {i : Nat} (hi : i < w.db.length) (h99 : iz w.sq i < 99) : LsV (newL w i) := by
  have hdb := h.db
  obtain ⟨N, hN⟩ := Int.eq_ofNat_of_zero_le (show 0 ≤ w.n by omega)
  have g : GV (N : Int) (tru w.ls w.up) := by have := tru_gv h.g w.up; rwa [hN] at this
  have hiN : i < N := by omega
  have h1 := endsOf_ok g hiN
  have hr := h.rng i (by have := h.sq; omega)
  unfold newL
  rw [hN, Int.toNat_natCast]
  exact ⟨h1.1, h1.2.1, by dsimp only; omega, by dsimp only; omega, h1.2.2.2.2⟩
theorem said_ann {w : Wd} {A : Int → Prop} (h : WV w A) {i : Nat} (hi : i < w.db.length) {l : Ls} (hl : Said (annW w i) l) : l = newL w i ∨ Said w l := by
  rcases hl with ⟨j, hj, hl⟩ | ⟨p, hp, rfl⟩
  · have hj : j < w.db.length := by simpa [annW] using hj
    have hl : l ∈ dbx (w.db.set i (putD (dbx w.db i) (newL w i))) j := hl
    rw [dbx_set hi] at hl
    split at hl
    · unfold putD at hl
      split at hl
      · rcases putL_mem.1 hl with rfl | hl
        · exact .inl rfl
        · exact .inr (.inl ⟨i, hi, hl.1⟩)
      · exact .inr (.inl ⟨i, hi, hl⟩)
    · exact .inr (.inl ⟨j, hj, hl⟩)
  · rcases flN_mem (show p ∈ flN (newL w i) (-1) w.net _ from hp) with h | ⟨m, _, rfl⟩
    · exact .inr (.inr ⟨p, h, rfl⟩)
    · exact .inl rfl
theorem ann_ok {w : Wd} {A : Int → Prop} (h : WV w A) {i : Nat} (hi : i < w.db.length) (h99 : iz w.sq i < 99) : WV (annW w i) (fun o => A o ∧ o ≠ i) := by
  have hsq := h.sq
  have hdb := h.db
  have his : i < w.sq.length := by omega
  have hnew := newL_ok h hi h99
  have hsrt : ∀ j, j < w.db.length → SrtP (dbx w.db j) := fun j hj => srt_iff.1 (h.ok j hj).srt
  have hz : ∀ j, iz (w.sq.set i (iz w.sq i + 1)) j = if j = i then iz w.sq i + 1 else iz w.sq j := fun j => iz_set' his
  have no : (newL w i).o = i := rfl
  have ns : (newL w i).s = iz w.sq i + 1 := rfl
  refine ⟨h.g, h.up, ?_, ?_, flN_len h.net, fun j hj => ?_, fun j hj => ?_, fun j hj => ?_, fun l hl => ?_, fun x y hx hy e1 e2 => ?_, fun p hp => ?_⟩
  · show ((w.sq.set i _).length : Int) = w.n
    rw [List.length_set]; exact hsq
  · show ((w.db.set i _).length : Int) = w.n
    rw [List.length_set]; exact hdb
  · have hj : j < w.sq.length := by simpa [annW] using hj
    show 1 ≤ iz (w.sq.set i _) j ∧ iz (w.sq.set i _) j ≤ 99
    rw [hz]
    have := h.rng i his
    split
    · omega
    · exact h.rng j hj
  · have hj : j < w.db.length := by simpa [annW] using hj
    show DbV (dbx (w.db.set i _) j)
    rw [dbx_set hi]
    split
    · exact putD_ok (h.ok i hi) hnew
    · exact h.ok j hj
  · have hj : j < w.db.length := by simpa [annW] using hj
    show ∃ l ∈ dbx (w.db.set i _) j, l.o = j ∧ l.s = iz (w.sq.set i _) j
    rw [dbx_set hi, hz]
    by_cases e : j = i
    · subst e
      rw [if_pos rfl, if_pos rfl]
      obtain ⟨l, hl, h1, h2⟩ := h.own j hi
      refine ⟨newL w j, ?_, rfl, rfl⟩
      have hc : putC (dbx w.db j) (newL w j) = 0 := by
        refine (putC_zero (by rw [ns]; have := h.rng j his; omega)).2 ?_
        unfold seqD
        rw [no, (fd_some (hsrt j hi)).2 ⟨hl, h1⟩, ns]
        dsimp only
        omega
      unfold putD
      rw [if_pos hc]
      exact putL_mem.2 (.inl rfl)
    · rw [if_neg e, if_neg e]
      exact h.own j hj
  · show LsV l ∧ l.o < w.n ∧ l.s ≤ iz (w.sq.set i _) l.o.toNat ∧ (∀ e ∈ l.e, lc w.ls l.o e.n = some e.c) ∧ (l.s < iz (w.sq.set i _) l.o.toNat ∨ l.e = endsOf (tru w.ls w.up) w.n.toNat l.o ∨ A l.o ∧ l.o ≠ i)
    rw [hz]
    rcases said_ann h hi hl with rfl | hl
    · rw [no, Int.toNat_natCast, if_pos rfl]
      exact ⟨hnew, by omega, Int.le_of_eq ns, fun e he => tru_lc h.g (endsOf_mem he), .inr (.inl rfl)⟩
    · obtain ⟨p1, p2, p3, p4, p5⟩ := h.poss l hl
      have ho := p1.1
      by_cases e : l.o.toNat = i
      · rw [if_pos e]
        rw [e] at p3
        exact ⟨p1, p2, by omega, p4, .inl (by omega)⟩
      · rw [if_neg e]
        exact ⟨p1, p2, p3, p4, p5.imp id fun h => h.imp id fun h => ⟨h, by omega⟩⟩
  · have old : ∀ z, Said w z → z.o = (i : Int) → z.s ≤ iz w.sq i := fun z hz e => by
      have := (h.poss z hz).2.2.1
      rwa [e, Int.toNat_natCast] at this
    rcases said_ann h hi hx with rfl | hx <;> rcases said_ann h hi hy with rfl | hy
    · rfl
    · have := old y hy (by rw [← e1]; rfl)
      rw [ns] at e2; omega
    · have := old x hx (by rw [e1]; rfl)
      rw [ns] at e2; omega
    · exact h.agr x y hx hy e1 e2
  · rcases flN_mem (show p ∈ flN (newL w i) (-1) w.net _ from hp) with hp | ⟨m, hm, rfl⟩
    · exact h.tgt p hp
    · obtain ⟨j, hj, rfl, _⟩ := nbS_mem.1 hm
      show 0 ≤ (j : Int) ∧ (j : Int) < w.n
      omega
end Go.Proofs.Ytdfkphagjkpgdaa
end
section
namespace Go.Proofs.Ytdfkphagjkpgdaa
open Go.RowKit
set_option linter.unusedSimpArgs false
set_option linter.unusedVariables false

abbrev Nob : Int → Prop := fun _ => False
theorem WV.mono {w : Wd} {A B : Int → Prop} (h : WV w A) (k : ∀ o, A o → B o) : WV w B :=
  ⟨h.g, h.up, h.sq, h.db, h.net, h.rng, h.ok, h.own, fun l hl => by
    obtain ⟨p1, p2, p3, p4, p5⟩ := h.poss l hl
    exact ⟨p1, p2, p3, p4, p5.imp id fun q => q.imp id (k _)⟩, h.agr, h.tgt⟩
theorem WV.less {w : Wd} {A : Int → Prop} (h : WV w A) {db' : List (List Ls)} {net' : List Pk} (hd : db'.length = w.db.length) (hn : net'.length ≤ 16) (ok : ∀ i, i < w.db.length → DbV (dbx db' i)) (own : ∀ i, i < w.db.length → ∃ l ∈ dbx db' i, l.o = i ∧ l.s = iz w.sq i) (said : ∀ l, Said { w with db := db', net := net' } l → Said w l) (tgt : ∀ p ∈ net', 0 ≤ p.t ∧ p.t < w.n) : WV { w with db := db', net := net' } A :=
  ⟨h.g, h.up, h.sq, by show (db'.length : Int) = w.n; rw [hd]; exact h.db, hn, h.rng, fun i hi => ok i (by rw [← hd]; exact hi), fun i hi => own i (by rw [← hd]; exact hi), fun l hl => h.poss l (said l hl), fun x y hx hy => h.agr x y (said x hx) (said y hy), tgt⟩
section
variable {w : Wd}
theorem WV.seq_le {A : Int → Prop} (h : WV w A) {i : Nat} (hi : i < w.db.length) {o : Nat} (ho : o < w.db.length) : seqD (dbx w.db i) o ≤ iz w.sq o := by
  unfold seqD
  have hr := h.rng o (by have := h.sq; have := h.db; omega)
  cases e : fd (dbx w.db i) o with
  | none => dsimp only; omega
  | some l =>
    obtain ⟨h1, h2⟩ := (fd_some (srt_iff.1 (h.ok i hi).srt)).1 e
    have := (h.poss l (.inl ⟨i, hi, h1⟩)).2.2.1
    rw [h2, Int.toNat_natCast] at this
    exact this
theorem WV.seq_own {A : Int → Prop} (h : WV w A) {i : Nat} (hi : i < w.db.length) : seqD (dbx w.db i) i = iz w.sq i := by
  obtain ⟨l, hl, h1, h2⟩ := h.own i hi
  unfold seqD
  rw [(fd_some (srt_iff.1 (h.ok i hi).srt)).2 ⟨hl, h1⟩]
  exact h2
theorem own_of_seq {d : List Ls} (hs : SrtP d) {o v : Int} (hv : 0 ≤ v) (h : seqD d o = v) : ∃ l ∈ d, l.o = o ∧ l.s = v := by
  unfold seqD at h
  cases e : fd d o with
  | none => rw [e] at h; dsimp only at h; omega
  | some l =>
    rw [e] at h
    obtain ⟨h1, h2⟩ := (fd_some hs).1 e
    exact ⟨l, h1, h2, h⟩
def synW (w : Wd) (a b : Nat) : Wd := { w with db := (w.db.set a (mergeD (dbx w.db a) (dbx w.db b))).set b (mergeD (dbx w.db a) (dbx w.db b)) }
theorem syn_dbx {a b : Nat} (ha : a < w.db.length) (hb : b < w.db.length) (i : Nat) : dbx (synW w a b).db i = if i = a ∨ i = b then mergeD (dbx w.db a) (dbx w.db b) else dbx w.db i := by
  show dbx ((w.db.set a _).set b _) i = _
  rw [dbx_set (by rw [List.length_set]; exact hb)]
  by_cases h : i = b
  · rw [if_pos h, if_pos (.inr h)]
  · rw [if_neg h, dbx_set ha]
    by_cases h2 : i = a
    · rw [if_pos h2, if_pos (.inl h2)]
    · rw [if_neg h2, if_neg (by rintro (e | e); exact h2 e; exact h e)]
theorem DbV.pos {db : List Ls} (h : DbV db) : ∀ l ∈ db, 0 ≤ l.s := fun l hl => by
  have := ((dbV_iff.1 h).1 l hl).2.2.1
  omega
theorem syn_ok {A : Int → Prop} (h : WV w A) {a b : Nat} (ha : a < w.db.length) (hb : b < w.db.length) : WV (synW w a b) A := by
  have sa := srt_iff.1 (h.ok a ha).srt
  have sb := srt_iff.1 (h.ok b hb).srt
  have pa := (h.ok a ha).pos
  have pb := (h.ok b hb).pos
  refine h.less (db' := (synW w a b).db) (net' := w.net) (by simp [synW]) h.net (fun i hi => ?_) (fun i hi => ?_) (fun l hl => ?_) h.tgt
  · rw [syn_dbx ha hb]
    split
    · exact mergeD_ok (h.ok a ha) (dbV_iff.1 (h.ok b hb)).1
    · exact h.ok i hi
  · rw [syn_dbx ha hb]
    have hr := h.rng i (by have := h.sq; have := h.db; omega)
    split
    · rename_i e
      refine own_of_seq (mergeD_srt sa _) (by omega) ?_
      rw [seq_merge sa sb pb pa]
      have q1 := h.seq_le ha hi
      have q2 := h.seq_le hb hi
      rcases e with rfl | rfl
      · have := h.seq_own hi; omega
      · have := h.seq_own hi; omega
    · exact h.own i hi
  · rcases hl with ⟨j, hj, hl⟩ | hl
    · have hl : l ∈ dbx (synW w a b).db j := hl
      have hj : j < w.db.length := by simpa [synW] using hj
      rw [syn_dbx ha hb] at hl
      split at hl
      · rcases merge_mem hl with h | h
        · exact .inl ⟨a, ha, h⟩
        · exact .inl ⟨b, hb, h⟩
      · exact .inl ⟨j, hj, hl⟩
    · exact .inr hl
theorem lose_ok {A : Int → Prop} (h : WV w A) (k : Nat) : WV { w with net := w.net.eraseIdx k } A := by
  refine h.less (db' := w.db) rfl (Nat.le_trans (List.length_eraseIdx_le _ _) h.net) h.ok h.own (fun l hl => ?_) (fun p hp => h.tgt p (List.mem_of_mem_eraseIdx hp))
  rcases hl with hl | ⟨p, hp, rfl⟩
  · exact .inl hl
  · exact .inr ⟨p, List.mem_of_mem_eraseIdx hp, rfl⟩
theorem twice_ok {A : Int → Prop} (h : WV w A) {p : Pk} (hp : p ∈ w.net) (hl : w.net.length < 16) : WV { w with net := w.net ++ [p] } A := by
  refine h.less (db' := w.db) rfl (by rw [List.length_append, List.length_singleton]; omega) h.ok h.own (fun l hl => ?_) (fun q hq => ?_)
  · rcases hl with hl | ⟨q, hq, rfl⟩
    · exact .inl hl
    · rcases List.mem_append.1 hq with hq | hq
      · exact .inr ⟨q, hq, rfl⟩
      · obtain rfl := List.mem_singleton.1 hq
        exact .inr ⟨q, hp, rfl⟩
  · rcases List.mem_append.1 hq with hq | hq
    · exact h.tgt q hq
    · obtain rfl := List.mem_singleton.1 hq
      exact h.tgt q hp
def hearW (w : Wd) (t : Nat) (l : Ls) : Wd := if putC (dbx w.db t) l = 0 then { w with db := w.db.set t (putD (dbx w.db t) l), net := flN l l.o w.net (nbS (tru w.ls w.up) t w.n.toNat) } else w
theorem hear_ok {A : Int → Prop} (h : WV w A) {t : Nat} (ht : t < w.db.length) {l : Ls} (hV : LsV l) (hs : l.o < w.n) (hq : l.s ≤ iz w.sq l.o.toNat) (hP : Poss w A l) (hag : ∀ y, Said w y → l.o = y.o → l.s = y.s → l = y) : WV (hearW w t l) A := by
  unfold hearW
  split
  case isFalse => exact h
  rename_i hc
  have hdb := h.db
  have st := srt_iff.1 (h.ok t ht).srt
  have said : ∀ x, Said { w with db := w.db.set t (putD (dbx w.db t) l), net := flN l l.o w.net (nbS (tru w.ls w.up) t w.n.toNat) } x → x = l ∨ Said w x := fun x hx => by
    rcases hx with ⟨j, hj, hx⟩ | ⟨p, hp, rfl⟩
    · have hj : j < w.db.length := by simpa using hj
      have hx : x ∈ dbx (w.db.set t (putD (dbx w.db t) l)) j := hx
      rw [dbx_set ht] at hx
      split at hx
      · unfold putD at hx
        rw [if_pos hc] at hx
        rcases putL_mem.1 hx with rfl | hx
        · exact .inl rfl
        · exact .inr (.inl ⟨t, ht, hx.1⟩)
      · exact .inr (.inl ⟨j, hj, hx⟩)
    · rcases flN_mem (show p ∈ flN l l.o w.net _ from hp) with hp | ⟨m, _, rfl⟩
      · exact .inr (.inr ⟨p, hp, rfl⟩)
      · exact .inl rfl
  refine ⟨h.g, h.up, h.sq, by show ((w.db.set t _).length : Int) = w.n; rw [List.length_set]; exact hdb, flN_len h.net, h.rng, fun j hj => ?_, fun j hj => ?_, fun x hx => ?_, fun x y hx hy e1 e2 => ?_, fun p hp => ?_⟩
  · have hj : j < w.db.length := by simpa using hj
    show DbV (dbx (w.db.set t _) j)
    rw [dbx_set ht]
    split
    · exact putD_ok (h.ok t ht) hV
    · exact h.ok j hj
  · have hj : j < w.db.length := by simpa using hj
    show ∃ x ∈ dbx (w.db.set t _) j, x.o = j ∧ x.s = iz w.sq j
    rw [dbx_set ht]
    split
    · rename_i e
      subst e
      have hr := h.rng j (by have := h.sq; omega)
      refine own_of_seq (putD_srt st l) (by omega) ?_
      have hp : 0 ≤ l.s := by have := hV.2.2.1; omega
      rw [seq_put st hp]
      have := h.seq_own ht
      split
      · rename_i e
        have e2 : l.o.toNat = j := by omega
        rw [e2] at hq
        omega
      · omega
    · exact h.own j hj
  · rcases said x hx with rfl | hx
    · exact hP
    · exact h.poss x hx
  · rcases said x hx with ex | hx1
    · rcases said y hy with ey | hy1
      · rw [ex, ey]
      · rw [ex] at e1 e2 ⊢
        exact hag y hy1 e1 e2
    · rcases said y hy with ey | hy1
      · rw [ey] at e1 e2 ⊢
        exact (hag x hx1 e1.symm e2.symm).symm
      · exact h.agr x y hx1 hy1 e1 e2
  · rcases flN_mem (show p ∈ flN l l.o w.net _ from hp) with hp | ⟨m, hm, rfl⟩
    · exact h.tgt p hp
    · obtain ⟨j, hj, rfl, _⟩ := nbS_mem.1 hm
      show 0 ≤ (j : Int) ∧ (j : Int) < w.n
      omega
end
end Go.Proofs.Ytdfkphagjkpgdaa
end
section
namespace Go.Proofs.Ytdfkphagjkpgdaa
open Go.RowKit
set_option linter.unusedSimpArgs false
set_option linter.unusedVariables false

theorem nbS_congr {ls ls' : List Lk} {m : Int} (h : ∀ x : Int, lc ls m x = lc ls' m x) (k : Nat) : nbS ls m k = nbS ls' m k := by
  unfold nbS
  congr 1
  refine List.filter_congr fun x _ => ?_
  rw [← lc_lof, ← lc_lof, h]
theorem endsOf_congr {ls ls' : List Lk} {m : Int} (h : ∀ x : Int, lc ls m x = lc ls' m x) (N : Nat) : endsOf ls N m = endsOf ls' N m := by
  unfold endsOf
  rw [nbS_congr h N]
  exact List.map_congr_left fun x _ => by rw [h]
theorem upd_get {up : List Bool} {k i : Nat} {u : Bool} (h : i ≠ k) : (up.set k u).getD i false = up.getD i false := by
  simp only [List.getD, List.getElem?_set]
  rw [if_neg (fun e => h e.symm)]
theorem tru_far {n : Int} {ls : List Lk} (g : GV n ls) {up : List Bool} {k : Nat} {u : Bool} {o : Int} (ha : o ≠ (lk ls k).a) (hb : o ≠ (lk ls k).b) (x : Int) : lc (tru ls (up.set k u)) o x = lc (tru ls up) o x := by
  have key : ∀ c, (⟨min o x, max o x, c⟩ : Lk) ∈ tru ls (up.set k u) ↔ (⟨min o x, max o x, c⟩ : Lk) ∈ tru ls up := fun c => by
    rw [tru_mem, tru_mem]
    have ne : ∀ i, (⟨min o x, max o x, c⟩ : Lk) = lk ls i → i ≠ k := fun i e hik => by
      subst hik
      rw [← e] at ha hb
      dsimp only at ha hb
      omega
    constructor
    · rintro ⟨i, h1, h2, h3⟩
      exact ⟨i, h1, by rwa [upd_get (ne i h3)] at h2, h3⟩
    · rintro ⟨i, h1, h2, h3⟩
      exact ⟨i, h1, by rwa [upd_get (ne i h3)], h3⟩
  refine Option.ext fun c => ?_
  have h1 := lc_iff (tru_gv g (up.set k u)).pw (a := o) (b := x) (c := c)
  have h2 := lc_iff (tru_gv g up).pw (a := o) (b := x) (c := c)
  exact (h1.trans (key c)).trans h2.symm
theorem up_ok {w : Wd} (h : WV w Nob) {k : Nat} (hk : k < w.ls.length) (u : Bool) : WV { w with up := w.up.set k u } (fun o => o = (lk w.ls k).a ∨ o = (lk w.ls k).b) :=
  ⟨h.g, by show (w.up.set k u).length = w.ls.length; rw [List.length_set]; exact h.up, h.sq, h.db, h.net, h.rng, h.ok, h.own, fun l hl => by
    obtain ⟨p1, p2, p3, p4, p5⟩ := h.poss l hl
    refine ⟨p1, p2, p3, p4, ?_⟩
    by_cases hA : l.o = (lk w.ls k).a ∨ l.o = (lk w.ls k).b
    · exact .inr (.inr hA)
    · refine p5.imp id fun q => .inl ?_
      have q := q.resolve_right id
      show l.e = endsOf (tru w.ls (w.up.set k u)) w.n.toNat l.o
      rw [q]
      exact (endsOf_congr (tru_far h.g (fun e => hA (.inl e)) (fun e => hA (.inr e))) _).symm, h.agr, h.tgt⟩
def turnW (w : Wd) (k : Nat) (u : Bool) : Wd := if w.up.getD k false = u ∨ 99 ≤ iz w.sq (lk w.ls k).a.toNat ∨ 99 ≤ iz w.sq (lk w.ls k).b.toNat then w else annW (annW { w with up := w.up.set k u } (lk w.ls k).a.toNat) (lk w.ls k).b.toNat
theorem turn_ok {w : Wd} (h : WV w Nob) {k : Nat} (hk : k < w.ls.length) (u : Bool) : WV (turnW w k u) Nob := by
  unfold turnW
  split
  · exact h
  · rename_i hn
    have hdb := h.db
    have hsq := h.sq
    have ho := h.g.ok (lk_mem hk)
    unfold okL at ho
    have h1 := ann_ok (up_ok h hk u) (i := (lk w.ls k).a.toNat) (by show _ < w.db.length; omega) (by show iz w.sq _ < 99; omega)
    have h2 := ann_ok h1 (i := (lk w.ls k).b.toNat) (by show _ < (w.db.set _ _).length; rw [List.length_set]; omega) (by
      show iz (w.sq.set (lk w.ls k).a.toNat _) (lk w.ls k).b.toNat < 99
      rw [iz_set' (by omega), if_neg (by omega)]
      omega)
    refine h2.mono fun o ho' => ?_
    obtain ⟨⟨q, q1⟩, q2⟩ := ho'
    rcases q with e | e
    · exact q1 (by omega)
    · exact q2 (by omega)
def newW (n : Int) (ls : List Lk) : Wd := ⟨n, ls, List.replicate ls.length true, List.replicate n.toNat 1, List.replicate n.toNat ((List.range n.toNat).map fun i : Nat => (⟨i, 1, endsOf ls n.toNat i⟩ : Ls)), []⟩
theorem tru_all (ls : List Lk) : tru ls (List.replicate ls.length true) = ls := by
  unfold tru trK
  have : (List.range ls.length).filter (fun i => (List.replicate ls.length true).getD i false) = List.range ls.length := by
    rw [List.filter_eq_self]
    intro i hi
    have := List.mem_range.1 hi
    simp [List.getD, this]
  rw [this]
  refine List.ext_getElem (by simp) fun i h1 h2 => ?_
  rw [List.getElem_map, List.getElem_range, hit_lk h2]
theorem new_ok {N : Nat} {ls : List Lk} (g : GV N ls) : WV (newW N ls) Nob := by
  have hr : ∀ i, i < N → iz (List.replicate N (1 : Int)) i = 1 := fun i hi => by simp [iz, List.getD, hi]
  have hd : ∀ i, i < N → dbx (newW N ls).db i = (List.range N).map fun i : Nat => (⟨i, 1, endsOf ls N i⟩ : Ls) := fun i hi => by
    show dbx (List.replicate (N : Int).toNat _) i = _
    rw [Int.toNat_natCast]
    simp [dbx, List.getD, hi]
  have hm : ∀ i, i < N → ∀ l, l ∈ dbx (newW N ls).db i ↔ ∃ j, j < N ∧ l = ⟨j, 1, endsOf ls N j⟩ := fun i hi l => by
    rw [hd i hi, List.mem_map]
    constructor
    · rintro ⟨j, hj, rfl⟩; exact ⟨j, List.mem_range.1 hj, rfl⟩
    · rintro ⟨j, hj, rfl⟩; exact ⟨j, List.mem_range.2 hj, rfl⟩
  have hlen : (newW N ls).db.length = N := by simp [newW]
  have said : ∀ l, Said (newW N ls) l → ∃ j, j < N ∧ l = ⟨j, 1, endsOf ls N j⟩ := fun l hl => by
    rcases hl with ⟨i, hi, hl⟩ | ⟨p, hp, _⟩
    · rw [hlen] at hi
      exact (hm i hi l).1 hl
    · simp [newW] at hp
  have h1 := g.1
  refine ⟨g, by simp [newW], by simp [newW], by simp [newW], by simp [newW], fun i hi => ?_, fun i hi => ?_, fun i hi => ?_, fun l hl => ?_, fun x y hx hy e1 e2 => ?_, fun p hp => by simp [newW] at hp⟩
  · have hi : i < N := by simpa [newW] using hi
    show 1 ≤ iz (List.replicate (N : Int).toNat 1) i ∧ iz (List.replicate (N : Int).toNat 1) i ≤ 99
    rw [Int.toNat_natCast, hr i hi]
    omega
  · rw [hlen] at hi
    rw [hd i hi]
    refine dbV_iff.2 ⟨fun l hl => ?_, ?_⟩
    · obtain ⟨j, hj, rfl⟩ := List.mem_map.1 hl
      exact endsOf_ok g (List.mem_range.1 hj)
    · unfold SrtP
      rw [List.pairwise_map]
      refine List.Pairwise.imp ?_ (List.pairwise_lt_range (n := N))
      intro a b hab
      show (a : Int) < b
      omega
  · rw [hlen] at hi
    refine ⟨⟨i, 1, endsOf ls N i⟩, (hm i hi _).2 ⟨i, hi, rfl⟩, rfl, ?_⟩
    show 1 = iz (List.replicate (N : Int).toNat 1) i
    rw [Int.toNat_natCast, hr i hi]
  · obtain ⟨j, hj, rfl⟩ := said l hl
    have hs : iz (newW N ls).sq ((j : Nat) : Int).toNat = 1 := by
      show iz (List.replicate (N : Int).toNat 1) ((j : Nat) : Int).toNat = 1
      rw [Int.toNat_natCast, Int.toNat_natCast, hr j hj]
    refine ⟨endsOf_ok g hj, ?_, ?_, fun e he => endsOf_mem he, .inr (.inl ?_)⟩
    · show (j : Int) < N; omega
    · rw [hs]; exact Int.le_refl _
    · show endsOf ls N j = endsOf (tru ls (List.replicate ls.length true)) (N : Int).toNat j
      rw [tru_all, Int.toNat_natCast]
  · obtain ⟨i, _, rfl⟩ := said x hx
    obtain ⟨j, _, rfl⟩ := said y hy
    dsimp only at e1
    obtain rfl : i = j := by omega
    rfl
end Go.Proofs.Ytdfkphagjkpgdaa
end
section
namespace Go.Proofs.Ytdfkphagjkpgdaa
open Go.RowKit
set_option linter.unusedSimpArgs false
set_option linter.unusedVariables false

def pkx (net : List Pk) (i : Nat) : Pk := net.getD i ⟨0, ⟨0, 0, []⟩⟩
theorem pkx_mem {net : List Pk} {i : Nat} (h : i < net.length) : pkx net i ∈ net := by
  unfold pkx
  rw [List.getD, List.getElem?_eq_getElem h]
  exact List.getElem_mem h
def syncW (w : Wd) (k : Nat) : Wd := if w.up.getD k false then synW w (lk w.ls k).a.toNat (lk w.ls k).b.toNat else w
def doW (w : Wd) (kind a : Int) : Wd :=
  if (kind = 1 ∨ kind = 2) ∧ 0 ≤ a ∧ a < w.up.length then turnW w a.toNat (decide (kind = 2))
  else if kind = 3 ∧ 0 ≤ a ∧ a < w.net.length then hearW { w with net := w.net.eraseIdx a.toNat } (pkx w.net a.toNat).t.toNat (pkx w.net a.toNat).p
  else if kind = 4 ∧ 0 ≤ a ∧ a < w.net.length then { w with net := w.net.eraseIdx a.toNat }
  else if kind = 5 ∧ 0 ≤ a ∧ a < w.net.length then (if w.net.length < 16 then { w with net := w.net ++ [pkx w.net a.toNat] } else w)
  else if kind = 6 ∧ 0 ≤ a ∧ a < w.up.length then syncW w a.toNat
  else w
theorem sync_ok {w : Wd} (h : WV w Nob) {k : Nat} (hk : k < w.ls.length) : WV (syncW w k) Nob := by
  unfold syncW
  split
  · have ho := h.g.ok (lk_mem hk)
    have hdb := h.db
    unfold okL at ho
    exact syn_ok h (by omega) (by omega)
  · exact h
theorem do_ok {w : Wd} (h : WV w Nob) (kind a : Int) : WV (doW w kind a) Nob := by
  have hup := h.up
  unfold doW
  split
  · exact turn_ok h (by omega) _
  split
  · rename_i hp
    have hm : pkx w.net a.toNat ∈ w.net := pkx_mem (by omega)
    have hs : Said w (pkx w.net a.toNat).p := .inr ⟨_, hm, rfl⟩
    have hP := h.poss _ hs
    have ht := h.tgt _ hm
    have hdb := h.db
    refine hear_ok (lose_ok h a.toNat) (by show _ < w.db.length; omega) hP.1 hP.2.1 hP.2.2.1 hP fun y hy e1 e2 => ?_
    refine h.agr _ y hs ?_ e1 e2
    rcases hy with hy | ⟨p, hp, rfl⟩
    · exact .inl hy
    · exact .inr ⟨p, List.mem_of_mem_eraseIdx hp, rfl⟩
  split
  · exact lose_ok h _
  split
  · split
    · exact twice_ok h (pkx_mem (by omega)) (by assumption)
    · exact h
  split
  · exact sync_ok h (by omega)
  · exact h
end Go.Proofs.Ytdfkphagjkpgdaa
end
section
namespace Go.Proofs.Ytdfkphagjkpgdaa
open Go.RowKit
set_option linter.unusedSimpArgs false
set_option linter.unusedVariables false

section
variable {w : Wd} {N : Nat}
theorem tru_N (h : WV w Nob) (hN : w.n = N) : GV (N : Int) (tru w.ls w.up) := by
  have := tru_gv h.g w.up
  rwa [hN] at this
theorem last_true (h : WV w Nob) {i : Nat} (hi : i < w.db.length) {l : Ls} (hl : l ∈ dbx w.db i) {v : Nat} (ho : l.o = v) (hs : l.s = iz w.sq v) : l.e = endsOf (tru w.ls w.up) w.n.toNat v := by
  have hp := (h.poss l (.inl ⟨i, hi, hl⟩)).2.2.2.2
  rw [ho, Int.toNat_natCast] at hp
  rcases hp with e | e | e
  · omega
  · exact e
  · exact e.elim
theorem ann_true (h : WV w Nob) (hN : w.n = N) {i v x : Nat} (hi : i < N) (hv : v < N) (hx : x < N) (hq : seqD (dbx w.db i) v = iz w.sq v) : ann (dbx w.db i) v x = (lc (tru w.ls w.up) v x).getD 0 := by
  have hdb := h.db
  have hsq := h.sq
  have hr := h.rng v (by omega)
  obtain ⟨l, hl, ho, hs⟩ := own_of_seq (srt_iff.1 (h.ok i (by omega)).srt) (show 0 ≤ iz w.sq v by omega) hq
  have e := last_true h (by omega) hl ho hs
  unfold ann
  rw [(fd_some (srt_iff.1 (h.ok i (by omega)).srt)).2 ⟨hl, ho⟩]
  dsimp only
  rw [e, hN, Int.toNat_natCast]
  exact ec_endsOf (tru_N h hN) hx
theorem ann_poss (h : WV w Nob) (hN : w.n = N) {i a b : Nat} (hi : i < N) (hp : 0 < ann (dbx w.db i) a b) : lc w.ls a b = some (ann (dbx w.db i) a b) := by
  have hdb := h.db
  unfold ann at hp ⊢
  cases e : fd (dbx w.db i) a with
  | none => rw [e] at hp; simp at hp
  | some l =>
    rw [e] at hp
    dsimp only at hp ⊢
    obtain ⟨h1, h2⟩ := (fd_some (srt_iff.1 (h.ok i (by omega)).srt)).1 e
    have hP := (h.poss l (.inl ⟨i, by omega, h1⟩)).2.2.2.1
    unfold ec at hp ⊢
    cases e2 : l.e.find? (fun e => decide (e.n = (b : Int))) with
    | none => rw [e2] at hp; simp at hp
    | some en =>
      have hm := List.mem_of_find?_eq_some e2
      have hb : en.n = b := of_decide_eq_true (List.find?_some (p := fun e : En => decide (e.n = (b : Int))) e2)
      have := hP en hm
      rw [h2, hb] at this
      exact this
theorem seen_cost (h : WV w Nob) (hN : w.n = N) {i a b : Nat} {c : Int} (hi : i < N) (e : dbF (dbx w.db i) a b = some c) : lc w.ls a b = some c := by
  unfold dbF at e
  split at e
  · rename_i hp
    injection e with e
    have h1 := ann_poss h hN hi hp.1
    have h2 := ann_poss h hN hi hp.2
    rw [lc_symm] at h2
    rw [h1] at h2
    injection h2 with h2
    rw [h1]
    congr 1
    omega
  · cases e
theorem seen_gv (h : WV w Nob) (hN : w.n = N) {i : Nat} (hi : i < N) : GV N (grid (dbF (dbx w.db i)) N) := by
  have g : GV (N : Int) w.ls := by have := h.g; rwa [hN] at this
  refine grid_gv (by have := g.1; omega) (by have := g.2.1; omega) (fun a b c _ _ e => lc_cost g (seen_cost h hN hi e)) ?_
  have hle := gridK_le (N := N) (f := dbF (dbx w.db i)) (g := fun a b => lc w.ls a b) (k := N) fun a b _ _ _ hs => by
    obtain ⟨c, hc⟩ := Option.isSome_iff_exists.1 hs
    rw [seen_cost h hN hi hc]; rfl
  have e : (grid (fun a b => lc w.ls a b) N).length ≤ 14 := by rw [g.grid]; exact g.2.2.1
  exact Nat.le_trans hle e
end
end Go.Proofs.Ytdfkphagjkpgdaa
end
section
namespace Go.Proofs.Ytdfkphagjkpgdaa
open Go.RowKit
set_option linter.unusedSimpArgs false
set_option linter.unusedVariables false

theorem Wd.same {a b : Wd} (h1 : a.n = b.n) (h2 : a.ls = b.ls) (h3 : a.up = b.up) (h4 : a.sq = b.sq) (h5 : a.db = b.db) (h6 : a.net = b.net) : a = b := by
  cases a; cases b; dsimp only at h1 h2 h3 h4 h5 h6; subst h1 h2 h3 h4 h5 h6; rfl
section
variable {w : Wd} {N : Nat}
end
end Go.Proofs.Ytdfkphagjkpgdaa
end
section
namespace Go.Proofs.Ytdfkphagjkpgdaa
open Go.RowKit
set_option linter.unusedSimpArgs false
set_option linter.unusedVariables false
section
variable {w : Wd} {N : Nat}
theorem dbF_ann {d : List Ls} {x y : Nat} (hx : x < N) (hy : y < N) (g : GV (N : Int) (grid (dbF d) N)) (hs : (lc (grid (dbF d) N) x y).isSome = true) : 0 < ann d x y ∧ 0 < ann d y x := by
  have key : ∀ {a b : Nat}, (dbF d a b).isSome = true → 0 < ann d a b ∧ 0 < ann d b a := fun {a b} h => by
    unfold dbF at h
    split at h
    · assumption
    · simp at h
  rcases Nat.lt_trichotomy x y with e | e | e
  · rw [lc_grid e hy] at hs
    exact key hs
  · have := lc_none_out g hs
    omega
  · rw [lc_symm, lc_grid e hx] at hs
    exact (key hs).symm
theorem own_links (h : WV w Nob) (hN : w.n = N) {i x : Nat} (hi : i < N) (hx : x < N) (hs : (lc (grid (dbF (dbx w.db i)) N) i x).isSome = true) : (lc (tru w.ls w.up) i x).isSome = true := by
  have hdb := h.db
  have p := (dbF_ann hi hx (seen_gv h hN hi) hs).1
  rw [ann_true h hN hi hi hx (h.seq_own (by omega))] at p
  cases e : lc (tru w.ls w.up) i x with
  | none => rw [e] at p; simp at p
  | some c => rfl
theorem seen_was (h : WV w Nob) (hN : w.n = N) {i a b : Nat} {c : Int} (hi : i < N) (ha : a < N) (hb : b < N) (e : lc (grid (dbF (dbx w.db i)) N) a b = some c) : lc w.ls a b = some c := by
  have g := seen_gv h hN hi
  rcases Nat.lt_trichotomy a b with q | q | q
  · rw [lc_grid q hb] at e
    exact seen_cost h hN hi e
  · have := lc_none_out g (m := a) (x := b) (by rw [e]; rfl)
    omega
  · rw [lc_symm, lc_grid q ha] at e
    rw [lc_symm]
    exact seen_cost h hN hi e
theorem seen_all (h : WV w Nob) (hN : w.n = N) {i : Nat} (hi : i < N) (hq : ∀ v, v < N → seqD (dbx w.db i) v = iz w.sq v) : grid (dbF (dbx w.db i)) N = tru w.ls w.up := by
  have g := tru_N h hN
  have g' := seen_gv h hN hi
  rw [← GV.grid g, ← GV.grid g']
  refine grid_congr fun a b hab hb => ?_
  rw [lc_grid hab hb]
  have h1 := ann_true h hN hi (v := a) (x := b) (by omega) hb (hq a (by omega))
  have h2 := ann_true h hN hi (v := b) (x := a) hb (by omega) (hq b hb)
  rw [lc_symm] at h2
  unfold dbF
  rw [h1, h2]
  cases e : lc (tru w.ls w.up) a b with
  | none => simp
  | some c =>
    have := lc_cost g e
    simp only [Option.getD_some]
    rw [if_pos ⟨by omega, by omega⟩, Int.max_self]
theorem new_seen {ls : List Lk} (g : GV N ls) {i : Nat} (hi : i < N) : grid (dbF (dbx (newW N ls).db i)) N = ls := by
  have h := new_ok g
  have e := seen_all h rfl hi fun v hv => ?_
  · rw [e]; exact tru_all ls
  have hd : dbx (newW N ls).db i = (List.range N).map fun i : Nat => (⟨i, 1, endsOf ls N i⟩ : Ls) := by
    show dbx (List.replicate (N : Int).toNat _) i = _
    rw [Int.toNat_natCast]
    simp [dbx, List.getD, hi]
  have hs : iz (newW N ls).sq v = 1 := by
    show iz (List.replicate (N : Int).toNat 1) v = 1
    simp [iz, List.getD, hv]
  have f : fd (dbx (newW N ls).db i) v = some ⟨v, 1, endsOf ls N v⟩ := by
    have hl : i < (newW N ls).db.length := by simp [newW, hi]
    refine (fd_some (srt_iff.1 (h.ok i hl).srt)).2 ⟨?_, rfl⟩
    rw [hd]
    exact List.mem_map.2 ⟨v, List.mem_range.2 hv, rfl⟩
  unfold seqD
  rw [f, hs]
end
end Go.Proofs.Ytdfkphagjkpgdaa
end
section
namespace Go.Proofs.Ytdfkphagjkpgdaa
open Go.RowKit
set_option linter.unusedSimpArgs false
set_option linter.unusedVariables false
set_option maxRecDepth 100000

theorem at_bo (es : List Bool) (i : Nat) : at! .bool es i = es.getD i false := by
  induction es generalizing i with
  | nil => rfl
  | cons z r ih => cases i with
    | zero => rfl
    | succ i => exact (ih i).trans (by simp)
theorem at_db (es : List (List Ls)) (i : Nat) : at! .db es i = dbx es i := by
  induction es generalizing i with
  | nil => rfl
  | cons z r ih => cases i with
    | zero => rfl
    | succ i => exact (ih i).trans (by simp [dbx])
theorem at_pk (es : List Pk) (i : Nat) : at! .pk es i = pkx es i := by
  induction es generalizing i with
  | nil => rfl
  | cons z r ih => cases i with
    | zero => rfl
    | succ i => exact (ih i).trans (by simp [pkx])
abbrev Wt := Int × List Lk × List Bool × List Int × List (List Ls) × List Pk × Unit
def wt (w : Wd) : Wt := (w.n, w.ls, w.up, w.sq, w.db, w.net, ())
theorem take_lk {ls : List Lk} {k : Nat} (h : k < ls.length) : ls.take k ++ [lk ls k] = ls.take (k + 1) := by
  rw [List.take_add_one, List.getElem?_eq_getElem h, hit_lk h]; rfl
theorem e_keepN (n : Int) (ls : List Lk) (hl : ls.length ≤ 1000) : sh_impl_Graph_keep_WorldNew_1 (n, ls, ()) = some (n, ls, ()) := by
  unfold sh_impl_Graph_keep_WorldNew_1
  refine Sat.out (Sat.bnd (R := fun r => match r with | .inl x => x = (0, n, [], ls, ()) | .inr _ => False) ?_ ?_)
  · refine Sat.count ls.length (fun k t => t = (ls, (ls.length : Int), (k : Int), 0, n, [], ls.take k, ())) ?_ (Nat.zero_le _) (fuel_lt (by omega)) (by simp [nI_eq])
    rintro k t hk rfl
    simp (disch := omega) only [bo_impl_Graph_keep_WorldNew_1_3, sh_impl_WorldNew_1, at_lk, toN, w64, nI_eq, Option.bind_some]
    by_cases hlt : k < ls.length
    · refine Sat.gd (decide_eq_true (by omega)) (Sat.gd (inR_t (by omega) (by omega)) (Sat.ite (fun _ => Sat.gd (decide_eq_true (by simp only [List.length_take, List.length_singleton]; omega)) (.some ⟨hlt, ?_⟩)) (fun hh => by cases hh)))
      rw [← take_lk hlt]; rfl
    · obtain rfl : k = ls.length := by omega
      rw [List.take_length]
      exact Sat.no (decide_eq_false (by omega)) (.some rfl)
  · rintro (r | r) hr
    case inr => exact hr.elim
    obtain rfl := hr
    exact .some rfl
theorem trK_len (ls : List Lk) (up : List Bool) (k : Nat) : (trK ls up k).length ≤ k := by
  unfold trK
  rw [List.length_map]
  exact Nat.le_trans (List.length_filter_le _ _) (by simp)
theorem e_truth (w : Wd) (h : w.up.length = w.ls.length) (hl : w.ls.length ≤ 1000) : sh_impl_World_truth (w.n, w.ls, w.up, w.sq, w.db, w.net, ()) = some (w.n, tru w.ls w.up, ()) := by
  cases w with | mk n ls up sq db net =>
  dsimp only at h hl
  unfold sh_impl_World_truth sh_impl_Graph_keep_truth_1
  refine Sat.out (Sat.bnd (R := fun r => r = (n, tru ls up, ())) (Sat.bnd (R := fun r => match r with | .inl x => x = (0, n, [], tru ls up, ()) | .inr _ => False) ?_ ?_) ?_)
  · refine Sat.count ls.length (fun k t => t = (n, ls, up, sq, db, net, ls, (ls.length : Int), (k : Int), 0, n, [], trK ls up k, ())) ?_ (Nat.zero_le _) (fuel_lt (by omega)) (by simp [nI_eq, trK])
    rintro k t hk rfl
    have hq := trK_len ls up k
    simp (disch := omega) only [bo_impl_Graph_keep_truth_1_3, sh_impl_World_truth_1, at_lk, at_bo, toN, w64, nI_eq]
    by_cases hlt : k < ls.length
    · refine Sat.gd (decide_eq_true (by omega)) (Sat.gd (inR_t (by omega) (by omega)) (Sat.bnd (R := fun r => r = (up.getD k false, ())) (Sat.gd (inR_t (by omega) (by omega)) (.some rfl)) ?_))
      rintro _ rfl
      refine Sat.ite (fun hu => Sat.gd (decide_eq_true (by simp only [List.length_singleton]; omega)) (.some ⟨hlt, ?_⟩)) (fun hu => .some ⟨hlt, ?_⟩)
      · have hu : up.getD k false = true := hu
        rw [trK_succ, if_pos hu]; rfl
      · have hu : up.getD k false = false := hu
        rw [trK_succ, hu]; rfl
    · obtain rfl : k = ls.length := by omega
      refine Sat.no (decide_eq_false (by omega)) (.some rfl)
  · rintro (r | r) hr
    case inr => exact hr.elim
    obtain rfl := hr
    exact .some rfl
  · rintro _ rfl
    exact .some rfl
theorem e_l51Truth (w : Wd) (h : w.up.length = w.ls.length) (hl : w.ls.length ≤ 1000) : sh_spec_l51Truth (w.n, w.ls, w.up, w.sq, w.db, w.net, ()) = some (w.n, tru w.ls w.up, ()) := by
  cases w with | mk n ls up sq db net =>
  dsimp only at h hl
  unfold sh_spec_l51Truth
  refine Sat.out (Sat.bnd (R := fun r => match r with | .inl x => x = (0, [], n, tru ls up, ()) | .inr _ => False) ?_ ?_)
  · refine Sat.count ls.length (fun k t => t = ((k : Int), n, ls, up, sq, db, net, 0, [], n, trK ls up k, ())) ?_ (Nat.zero_le _) (fuel_lt (by omega)) (by simp [nI_eq, trK])
    rintro k t hk rfl
    have hq := trK_len ls up k
    simp (disch := omega) only [bo_spec_l51Truth_3, at_lk, at_bo, toN, w64, nI_eq]
    by_cases hlt : k < ls.length
    · refine Sat.gd (decide_eq_true (by omega)) (Sat.gd (inR_t (by omega) (by omega)) ?_)
      refine Sat.ite (fun hu => Sat.gd (inR_t (by omega) (by omega)) (Sat.gd (decide_eq_true (by simp only [List.length_singleton]; omega)) (.some ⟨hlt, ?_⟩))) (fun hu => .some ⟨hlt, ?_⟩)
      · have hu : up.getD k false = true := hu
        rw [trK_succ, if_pos hu]; rfl
      · have hu : up.getD k false = false := hu
        rw [trK_succ, hu]; rfl
    · obtain rfl : k = ls.length := by omega
      refine Sat.no (decide_eq_false (by omega)) (.some rfl)
  · rintro (r | r) hr
    case inr => exact hr.elim
    obtain rfl := hr
    exact .some rfl
theorem DbV.len {db : List Ls} (h : DbV db) : db.length ≤ 8 := by
  have key : ∀ i, i < db.length → (i : Int) ≤ (lsa db i).o := fun i => by
    induction i with
    | zero => intro hi; exact (h 0 hi).1.1
    | succ i ih =>
      intro hi
      have h1 := ih (by omega)
      have h2 := (h (i + 1) hi).2 (by omega)
      rw [Nat.add_sub_cancel] at h2
      omega
  rcases Nat.lt_or_ge 8 db.length with h8 | h8
  · have h1 := key 8 h8
    have h2 := (h 8 h8).1.2.1
    omega
  · exact h8
theorem LsV.len {l : Ls} (h : LsV l) : l.e.length ≤ 8 := by
  have key : ∀ i, i < l.e.length → (i : Int) ≤ (en l.e i).n := fun i => by
    induction i with
    | zero => intro hi; exact (h.2.2.2.2 0 hi).1
    | succ i ih =>
      intro hi
      have h1 := ih (by omega)
      have h2 := (h.2.2.2.2 (i + 1) hi).2.2.2.2.2 (by omega)
      rw [Nat.add_sub_cancel] at h2
      omega
  rcases Nat.lt_or_ge 8 l.e.length with h8 | h8
  · have h1 := key 8 h8
    have h2 := (h.2.2.2.2 8 h8).2.1
    omega
  · exact h8
theorem DbV.sm {db : List Ls} (h : DbV db) : SmD db := ⟨by have := h.len; unfold Sm; omega, fun l hl => by
  have := ((dbV_iff.1 h).1 l hl).len
  unfold Sm; omega⟩
theorem LsV.sm {l : Ls} (h : LsV l) : Sm l.e := by have := h.len; unfold Sm; omega
theorem DbV.so {db : List Ls} (h : DbV db) : SrtP db := srt_iff.1 h.srt
theorem WV.nn {w : Wd} {A : Int → Prop} (h : WV w A) : 1 ≤ w.n ∧ w.n ≤ 8 := ⟨h.g.1, h.g.2.1⟩
theorem WV.lsl {w : Wd} {A : Int → Prop} (h : WV w A) : w.ls.length ≤ 14 := h.g.2.2.1
theorem nb8 {N : Nat} {ls : List Lk} (g : GV N ls) (m : Int) : nbS ls m 8 = nbS ls m N := by
  have h2 := g.2.1
  refine asc_ext (nbS_asc ls m 8) (nbS_asc ls m N) fun x => ?_
  rw [nbS_mem, nbS_mem]
  constructor
  · rintro ⟨j, _, rfl, h⟩
    have := lc_none_out g h
    exact ⟨j, by omega, rfl, h⟩
  · rintro ⟨j, hj, rfl, h⟩
    exact ⟨j, by omega, rfl, h⟩
theorem nb_s {n : Int} {ls : List Lk} (g : GV n ls) (m : Int) : sh_spec_GraphNeighbours (n, ls, m, ()) = some (nbS ls m n.toNat, ()) := by
  have h1 := g.1
  have h3 := g.2.2.1
  obtain ⟨N, rfl⟩ := Int.eq_ofNat_of_zero_le (show 0 ≤ n by omega)
  rw [e_sGraphNeighbours _ _ _ (show Fits ls by unfold Fits; omega), if_pos (show gv (N : Int) ls = true from decide_eq_true g), Int.toNat_natCast, nb8 g m]
theorem flN_take {l : Ls} {ex : Int} {net : List Pk} {nb : List Int} {k : Nat} (h : k < nb.length) : flN l ex net (nb.take (k + 1)) = fl1 l ex (flN l ex net (nb.take k)) (iz nb k) := by
  unfold flN
  rw [List.take_add_one, List.getElem?_eq_getElem h, List.foldl_append]
  congr 1
  simp [iz, List.getD, h]
theorem fl1_full {l : Ls} {ex : Int} {net : List Pk} {m : Int} (h : 16 ≤ net.length) : fl1 l ex net m = net := if_neg (by omega)
theorem flN_full {l : Ls} {ex : Int} {net : List Pk} (h : 16 ≤ net.length) : ∀ nb : List Int, flN l ex net nb = net
  | [] => rfl
  | m :: r => by
    show flN l ex (fl1 l ex net m) r = net
    rw [fl1_full h, flN_full h r]
theorem flN_stop {l : Ls} {ex : Int} {net : List Pk} {nb : List Int} {k : Nat} (h : 16 ≤ (flN l ex net (nb.take k)).length) : flN l ex net (nb.take k) = flN l ex net nb := by
  have : flN l ex net nb = flN l ex (flN l ex net (nb.take k)) (nb.drop k) := by
    conv => lhs; rw [← List.take_append_drop k nb]
    unfold flN
    rw [List.foldl_append]
  rw [this, flN_full h]
theorem e_l51Flood (w : Wd) (i ex : Int) (l : Ls) (g : GV w.n w.ls) (hu : w.up.length = w.ls.length) (hn : w.net.length ≤ 16) (hl : Sm l.e) : sh_spec_l51Flood (w.n, i, l.o, l.s, l.e, ex, w.ls, w.up, w.sq, w.db, w.net, ()) = some (w.n, w.ls, w.up, w.sq, w.db, flN l ex w.net (nbS (tru w.ls w.up) i w.n.toNat), ()) := by
  have h14 := g.2.2.1
  unfold sh_spec_l51Flood
  dsimp only
  rw [e_l51Truth w hu (by omega)]
  simp only [Option.bind_some, nb_s (tru_gv g w.up)]
  have h8 := nbS_len (tru w.ls w.up) i w.n.toNat
  have hn8 := g.2.1
  generalize nbS (tru w.ls w.up) i w.n.toNat = nb at h8 ⊢
  refine Sat.out (Sat.bnd (R := fun r => match r with | .inl x => x = (w.ls, w.up, w.sq, w.db, w.n, 0, [], [], [], [], [], flN l ex w.net nb, ()) | .inr _ => False) ?_ ?_)
  · refine Sat.count nb.length (fun k t => t = (ex, (k : Int), w.ls, w.up, w.sq, w.db, w.n, l.o, l.s, l.e, 0, [], [], [], [], [], nb, flN l ex w.net (nb.take k), ())) ?_ (Nat.zero_le _) (fuel_lt (by omega)) (by simp [nI_eq, flN])
    rintro k t hk rfl
    simp (disch := omega) only [bo_spec_l51Flood_3, at_int, toN, w64, nI_eq, e_l11One _ _ _ hl, Option.bind_some]
    by_cases hlt : k < nb.length
    · refine Sat.gd (decide_eq_true (by omega)) (Sat.ite (fun hf => ?_) (fun hf => ?_))
      · have hf := of_decide_eq_true hf
        refine Sat.gd (inR_t (by omega) (by omega)) (Sat.ite (fun he => ?_) (fun he => ?_))
        · have he : ¬ iz nb k = ex := by simpa using he
          refine Sat.gd (inR_t (by omega) (by omega)) (Sat.gd (decide_eq_true (by simp only [List.length_nil]; omega)) (Sat.gd (decide_eq_true (by simp only [List.nil_append, List.length_singleton]; omega)) (.some ⟨hlt, ?_⟩)))
          rw [flN_take hlt, fl1, if_pos ⟨he, by omega⟩]
          rfl
        · have he : iz nb k = ex := by simpa using he
          refine .some ⟨hlt, ?_⟩
          rw [flN_take hlt, fl1, if_neg (fun hh => hh.1 he)]
          rfl
      · have hf := of_decide_eq_false hf
        exact .some (by rw [flN_stop (by omega)])
    · obtain rfl : k = nb.length := by omega
      rw [List.take_length]
      exact Sat.no (decide_eq_false (by omega)) (.some rfl)
  · rintro (r | r) hr
    case inr => exact hr.elim
    obtain rfl := hr
    exact .some rfl
end Go.Proofs.Ytdfkphagjkpgdaa
end
section
namespace Go.Proofs.Ytdfkphagjkpgdaa
open Go.RowKit
set_option linter.unusedSimpArgs false
set_option linter.unusedVariables false
set_option maxRecDepth 100000

theorem sov {α β : Type} {o : Option α} {f : α → Option β} {r : α} {Q : β → Prop} (h : o = some r) (k : Sat (f r) Q) : Sat (o.bind f) Q := by subst h; exact k
theorem lsa_i {n : Int} {ls : List Lk} (g : GV n ls) (o s : Int) : sh_impl_Graph_lsaOf (n, ls, o, s, ()) = some (o, s, endsOf ls n.toNat o, ()) := by
  have h1 := g.1
  obtain ⟨N, rfl⟩ := Int.eq_ofNat_of_zero_le (show 0 ≤ n by omega)
  exact e_lsaOf g o s
theorem lsa_s {n : Int} {ls : List Lk} (g : GV n ls) (o s : Int) : sh_spec_l11Of (n, ls, o, s, ()) = some (o, s, endsOf ls n.toNat o, ()) := by
  have h1 := g.1
  obtain ⟨N, rfl⟩ := Int.eq_ofNat_of_zero_le (show 0 ≤ n by omega)
  exact e_l11Of g o s
section
variable {w : Wd} {A : Int → Prop}
theorem e_l51Announce (h : WV w A) {i : Nat} (hi : i < w.db.length) (h99 : iz w.sq i < 99) : sh_spec_l51Announce (w.n, (i : Int), w.ls, w.up, w.sq, w.db, w.net, ()) = some (wt (annW w i)) := by
  have hsq := h.sq
  have hdb := h.db
  have his : i < w.sq.length := by omega
  have hr := h.rng i his
  have h14 := h.lsl
  have hd := h.ok i hi
  have hnw := newL_ok h hi h99
  have b1 : bo_spec_l51Announce_2 ((i : Int), w.ls, w.up, w.sq.set i (iz w.sq i + 1), w.db, w.n, 0, [], [], [], [], [], w.net, ()) = some (.inl ((i : Int), w.ls, w.up, w.sq.set i (iz w.sq i + 1), w.db, w.n, 0, [], [], [], [], [], (i : Int), iz w.sq i + 1, w.net, endsOf (tru w.ls w.up) w.n.toNat i, ())) := by
    unfold bo_spec_l51Announce_2
    simp only [toN, at_int]
    refine Sat.out (Sat.gd (inR_t (by omega) (by rw [List.length_set]; omega)) (sov (e_l51Truth { w with sq := w.sq.set i (iz w.sq i + 1) } h.up (by show w.ls.length ≤ 1000; omega)) ?_))
    dsimp only
    refine sov (lsa_s (tru_gv h.g w.up) _ _) (.some ?_)
    dsimp only
    rw [iz_set' his, if_pos rfl]
  unfold sh_spec_l51Announce
  simp (disch := omega) only [toN, at_int, w64]
  refine Sat.out (Sat.gd (inR_t (by omega) (by omega)) (Sat.gd (inR_t (by omega) (by omega)) (sov b1 ?_)))
  simp only [toN, at_db]
  refine Sat.gd (inR_t (by omega) (by omega)) (sov (e_l11Put (dbx w.db i) (newL w i) hd.so hd.sm hnw.sm) (Sat.gd (inR_t (by omega) (by omega)) ?_))
  exact sov (e_l51Flood { w with sq := w.sq.set i (iz w.sq i + 1), db := w.db.set i (putD (dbx w.db i) (newL w i)) } (i : Int) (-1) (newL w i) h.g h.up h.net hnw.sm) (.some rfl)
theorem e_l51AnnounceI (h : WV w A) {i : Int} (h0 : 0 ≤ i) (hi : i < w.n) (h99 : iz w.sq i.toNat < 99) : sh_spec_l51Announce (w.n, i, w.ls, w.up, w.sq, w.db, w.net, ()) = some (wt (annW w i.toNat)) := by
  have hdb := h.db
  obtain ⟨k, rfl⟩ := Int.eq_ofNat_of_zero_le h0
  exact e_l51Announce h (by omega) h99
structure SmW (w : Wd) : Prop where
  ls : w.ls.length ≤ 1000
  up : w.up.length ≤ 1000
  sq : w.sq.length ≤ 1000
  db : w.db.length ≤ 1000
  net : w.net.length ≤ 1000
  dbs : ∀ i, i < w.db.length → SmD (dbx w.db i)
  pks : ∀ i, i < w.net.length → Sm (pkx w.net i).p.e
theorem WV.sm (h : WV w A) : SmW w := by
  have h1 := h.lsl
  have h2 := h.up
  have h3 := h.sq
  have h4 := h.db
  have h5 := h.net
  have h6 := h.nn
  exact ⟨by omega, by omega, by omega, by omega, by omega, fun i hi => (h.ok i hi).sm, fun i hi => (h.poss _ (.inr ⟨_, pkx_mem hi, rfl⟩)).1.sm⟩
theorem take_dbx {db : List (List Ls)} {k : Nat} (h : k < db.length) : db.take k ++ [dbx db k] = db.take (k + 1) := by
  rw [List.take_add_one, List.getElem?_eq_getElem h]; simp [dbx, List.getD, h]
theorem take_pkx {net : List Pk} {k : Nat} (h : k < net.length) : net.take k ++ [⟨(pkx net k).t, ⟨(pkx net k).p.o, (pkx net k).p.s, (pkx net k).p.e⟩⟩] = net.take (k + 1) := by
  rw [List.take_add_one, List.getElem?_eq_getElem h]
  have : pkx net k = net[k] := by simp [pkx, List.getD, h]
  rw [this]; rfl
theorem e_l1Copy (n : Int) (ls : List Lk) (hl : ls.length ≤ 1000) : sh_spec_l1Copy (n, ls, ()) = some (n, ls, ()) := by
  unfold sh_spec_l1Copy
  exact Sat.out (Sat.gd (decide_eq_true (by simp only [List.length_nil]; omega)) (.some rfl))
theorem e_l51Copy (h : SmW w) : sh_spec_l51Copy (w.n, w.ls, w.up, w.sq, w.db, w.net, ()) = some (w.n, w.ls, w.up, w.sq, w.db, w.net, ()) := by
  have h1 := h.ls
  have h2 := h.up
  have h3 := h.sq
  have h4 := h.db
  have h5 := h.net
  cases w with | mk n ls up sq db net =>
  dsimp only at h1 h2 h3 h4 h5 ⊢
  have b1 : bo_spec_l51Copy_1 (n, ls, up, sq, db, net, 0, [], [], [], [], [], ()) = some (.inl (n, ls, up, sq, db, net, 0, [], [], [], [], [], n, ls, up, sq, [], [], ())) := by
    unfold bo_spec_l51Copy_1
    exact Sat.out (sov (e_l1Copy n ls h1) (Sat.gd (decide_eq_true (by simp; omega)) (Sat.gd (decide_eq_true (by simp; omega)) (.some (by simp)))))
  unfold sh_spec_l51Copy
  refine Sat.out (sov b1 ?_)
  refine Sat.bnd (R := fun r => match r with | .inl x => x = (n, ls, up, sq, db, net, 0, [], [], [], [], [], n, ls, up, sq, db, [], ()) | .inr _ => False) ?_ ?_
  · refine Sat.count db.length (fun k t => t = ((k : Int), n, ls, up, sq, db, net, 0, [], [], [], [], [], n, ls, up, sq, db.take k, [], ())) ?_ (Nat.zero_le _) (fuel_lt (by omega)) (by simp [nI_eq])
    rintro k t hk rfl
    by_cases hlt : k < db.length
    · have e1 := e_l11Copy _ (h.dbs k hlt)
      simp (disch := omega) only [bo_spec_l51Copy_3, at_db, toN, w64, nI_eq, e1, Option.bind_some]
      refine Sat.gd (decide_eq_true (by omega)) (Sat.gd (inR_t (by omega) (by omega)) (Sat.gd (decide_eq_true (by simp; omega)) (.some ⟨hlt, ?_⟩)))
      rw [← take_dbx hlt]; rfl
    · obtain rfl : k = db.length := by omega
      unfold bo_spec_l51Copy_3
      simp only [nI_eq]
      refine Sat.no (decide_eq_false (by first | omega | (dsimp only; omega))) (.some ?_)
      rw [List.take_length]
  rintro (r | r) hr
  case inr => exact hr.elim
  obtain rfl := hr
  refine Sat.bnd (R := fun r => match r with | .inl x => x = (0, [], [], [], [], [], n, ls, up, sq, db, net, ()) | .inr _ => False) ?_ ?_
  · refine Sat.count net.length (fun k t => t = ((k : Int), n, ls, up, sq, db, net, 0, [], [], [], [], [], n, ls, up, sq, db, net.take k, ())) ?_ (Nat.zero_le _) (fuel_lt (by omega)) (by simp [nI_eq])
    rintro k t hk rfl
    by_cases hlt : k < net.length
    · have e1 := e_l11One (pkx net k).p.o (pkx net k).p.s _ (h.pks k hlt)
      simp (disch := omega) only [bo_spec_l51Copy_7, at_pk, toN, w64, nI_eq, e1, Option.bind_some]
      refine Sat.gd (decide_eq_true (by omega)) (Sat.gd (inR_t (by omega) (by omega)) (Sat.gd (inR_t (by omega) (by omega)) ?_))
      refine Sat.gd (decide_eq_true (by simp; omega)) (.some ⟨hlt, ?_⟩)
      rw [← take_pkx hlt]; rfl
    · obtain rfl : k = net.length := by omega
      unfold bo_spec_l51Copy_7
      simp only [nI_eq]
      refine Sat.no (decide_eq_false (by first | omega | (dsimp only; omega))) (.some ?_)
      rw [List.take_length]
  rintro (r | r) hr
  case inr => exact hr.elim
  obtain rfl := hr
  exact .some rfl
end
end Go.Proofs.Ytdfkphagjkpgdaa
end
section
namespace Go.Proofs.Ytdfkphagjkpgdaa
open Go.RowKit
set_option linter.unusedSimpArgs false
set_option linter.unusedVariables false
set_option maxRecDepth 100000

section
variable {w : Wd} {A : Int → Prop}
theorem do12 {kind a : Int} (hk : kind = 1 ∨ kind = 2) : doW w kind a = if 0 ≤ a ∧ a < w.up.length then turnW w a.toNat (decide (kind = 2)) else w := by
  unfold doW
  rcases hk with rfl | rfl <;> simp
theorem do3 {a : Int} : doW w 3 a = if 0 ≤ a ∧ a < w.net.length then hearW { w with net := w.net.eraseIdx a.toNat } (pkx w.net a.toNat).t.toNat (pkx w.net a.toNat).p else w := by
  unfold doW; simp
theorem do4 {a : Int} : doW w 4 a = if 0 ≤ a ∧ a < w.net.length then { w with net := w.net.eraseIdx a.toNat } else w := by
  unfold doW; simp
theorem do5 {a : Int} : doW w 5 a = if 0 ≤ a ∧ a < w.net.length then (if w.net.length < 16 then { w with net := w.net ++ [pkx w.net a.toNat] } else w) else w := by
  unfold doW; simp
theorem do6 {a : Int} : doW w 6 a = if 0 ≤ a ∧ a < w.up.length then syncW w a.toNat else w := by
  unfold doW; simp
theorem doX {kind a : Int} (h1 : kind ≠ 1) (h2 : kind ≠ 2) (h3 : kind ≠ 3) (h4 : kind ≠ 4) (h5 : kind ≠ 5) (h6 : kind ≠ 6) : doW w kind a = w := by
  unfold doW; simp [h1, h2, h3, h4, h5, h6]
theorem turn_pre (h : WV w Nob) {k : Nat} (hk : k < w.ls.length) (u : Bool) (ha : iz w.sq (lk w.ls k).a.toNat < 99) (hb : iz w.sq (lk w.ls k).b.toNat < 99) : ∃ A, WV (annW { w with up := w.up.set k u } (lk w.ls k).a.toNat) A ∧ iz (annW { w with up := w.up.set k u } (lk w.ls k).a.toNat).sq (lk w.ls k).b.toNat < 99 := by
  have hdb := h.db
  have hsq := h.sq
  have ho := h.g.ok (lk_mem hk)
  unfold okL at ho
  refine ⟨_, ann_ok (up_ok h hk u) (i := (lk w.ls k).a.toNat) (by show _ < w.db.length; omega) (by show iz w.sq _ < 99; omega), ?_⟩
  show iz (w.sq.set (lk w.ls k).a.toNat _) (lk w.ls k).b.toNat < 99
  rw [iz_set' (by omega), if_neg (by omega)]
  omega
theorem e_l51Turn (h : WV w Nob) {k : Nat} (hk : k < w.ls.length) (u : Bool) : sh_spec_l51Turn (w.n, w.ls, w.up, w.sq, w.db, w.net, (k : Int), u, ()) = some (wt (turnW w k u)) := by
  have hdb := h.db
  have hsq := h.sq
  have hup := h.up
  have ho := h.g.ok (lk_mem hk)
  unfold okL at ho
  have main : w.up.getD k false ≠ u → iz w.sq (lk w.ls k).a.toNat < 99 → iz w.sq (lk w.ls k).b.toNat < 99 → bo_spec_l51Turn_6 (w.n, 0, [], [], [], [], [], (lk w.ls k).a, (lk w.ls k).b, (lk w.ls k).c, w.ls, w.up.set k u, w.sq, w.db, w.net, ()) = some (.inl (wt (turnW w k u))) := fun hu ha hb => by
    obtain ⟨A, v, hv⟩ := turn_pre h hk u ha hb
    unfold bo_spec_l51Turn_6
    refine Sat.out (sov (e_l51AnnounceI (up_ok h hk u) (i := (lk w.ls k).a) (by omega) (by show _ < w.n; omega) ha) ?_)
    dsimp only [wt]
    refine sov (e_l51AnnounceI v (i := (lk w.ls k).b) (by omega) (by show _ < w.n; omega) hv) (.some ?_)
    unfold turnW
    rw [if_neg (by rintro (e | e | e); exact hu e; omega; omega)]
    rfl
  unfold sh_spec_l51Turn
  simp only [toN, at_lk, at_bo, at_int]
  refine Sat.out (Sat.gd (inR_t (by omega) (by omega)) (Sat.gd (inR_t (by omega) (by omega)) (Sat.ite (fun hc => .some ?_) (fun hc => ?_))))
  · have hc : w.up.getD k false = u := by simpa using hc
    unfold turnW; rw [if_pos (.inl hc)]; rfl
  have hc : w.up.getD k false ≠ u := by simpa using hc
  refine Sat.gd (inR_t (by omega) (by omega)) (Sat.ite (fun ha => .some ?_) (fun ha => ?_))
  · have ha := of_decide_eq_true ha
    unfold turnW; rw [if_pos (.inr (.inl ha))]; rfl
  have ha := of_decide_eq_false ha
  refine Sat.gd (inR_t (by omega) (by omega)) (Sat.ite (fun hb => .some ?_) (fun hb => ?_))
  · have hb := of_decide_eq_true hb
    unfold turnW; rw [if_pos (.inr (.inr hb))]; rfl
  have hb := of_decide_eq_false hb
  refine sov (e_l51Copy h.sm) ?_
  dsimp only
  refine Sat.gd (inR_t (by omega) (by omega)) (sov (main hc (by omega) (by omega)) (.some rfl))
theorem e_l51Hear (h : WV w A) {t : Nat} (ht : t < w.db.length) {l : Ls} (hl : LsV l) : sh_spec_l51Hear (w.n, w.ls, w.up, w.sq, w.db, w.net, (t : Int), l.o, l.s, l.e, ()) = some (wt (hearW w t l)) := by
  have hd := h.ok t ht
  unfold sh_spec_l51Hear
  simp only [toN, at_db]
  refine Sat.out (Sat.gd (inR_t (by omega) (by omega)) (sov (e_l11Put (dbx w.db t) l hd.so hd.sm hl.sm) ?_))
  dsimp only
  unfold hearW
  refine Sat.ite (fun hc => .some ?_) (fun hc => ?_)
  · have hc : ¬ putC (dbx w.db t) l = 0 := by simpa using hc
    rw [if_neg hc]; rfl
  · have hc : putC (dbx w.db t) l = 0 := by simpa using hc
    rw [if_pos hc]
    refine sov (e_l51Copy h.sm) ?_
    dsimp only
    refine Sat.gd (inR_t (by omega) (by omega)) ?_
    exact sov (e_l51Flood { w with db := w.db.set t (putD (dbx w.db t) l) } (t : Int) l.o l h.g h.up h.net hl.sm) (.some rfl)
theorem e_l51Sync (h : WV w A) {k : Nat} (hk : k < w.ls.length) : sh_spec_l51Sync (w.n, w.ls, w.up, w.sq, w.db, w.net, (k : Int), ()) = some (wt (syncW w k)) := by
  have hdb := h.db
  have hup := h.up
  have ho := h.g.ok (lk_mem hk)
  unfold okL at ho
  have va := h.ok (lk w.ls k).a.toNat (by omega)
  have vb := h.ok (lk w.ls k).b.toNat (by omega)
  have vm := mergeD_ok va (dbV_iff.1 vb).1
  have la := va.len
  have lb := vb.len
  unfold sh_spec_l51Sync syncW
  simp only [toN, at_db, at_lk, at_bo]
  refine Sat.out (Sat.gd (inR_t (by omega) (by omega)) (Sat.gd (inR_t (by omega) (by omega)) (Sat.ite (fun hc => .some ?_) (fun hc => ?_))))
  · have hc : ¬ w.up.getD k false = true := by simpa using hc
    rw [if_neg hc]; rfl
  · have hc : w.up.getD k false = true := by simpa using hc
    rw [if_pos hc]
    refine sov (e_l51Copy h.sm) ?_
    dsimp only
    refine Sat.gd (inR_t (by omega) (by omega)) (Sat.gd (inR_t (by omega) (by omega)) (sov (e_l11Merge _ _ va.so va.sm vb.sm (by omega) (by omega)) ?_))
    dsimp only
    refine Sat.gd (inR_t (by omega) (by omega)) (sov (e_l11Copy _ vm.sm) ?_)
    refine Sat.gd (inR_t (by omega) (by rw [List.length_set]; omega)) (.some rfl)
theorem toS (k : Nat) : Int.toNat ((k : Int) + 1) = k + 1 := by omega
theorem tkd {α : Type} (l : List α) (j : Nat) : List.take (l.length - j) (List.drop j l) = List.drop j l := List.take_of_length_le (by simp)
theorem bnd_t {lo hi : Int} {n : Nat} (h1 : 0 ≤ lo) (h2 : lo ≤ hi) (h3 : hi ≤ n) : bnd2 lo hi n = true := by unfold bnd2; simp; omega
theorem e_l51Net (h : WV w Nob) {kind : Int} (hk : kind = 3 ∨ kind = 4 ∨ kind = 5) (a : Int) : sh_spec_l51Net (w.n, w.ls, w.up, w.sq, w.db, w.net, kind, a, ()) = some (wt (doW w kind a)) := by
  have hnet := h.net
  have hdb := h.db
  unfold sh_spec_l51Net
  simp (disch := omega) only [e_l6In, Option.bind_some, nI_eq, w64]
  refine Sat.out (Sat.ite (fun hc => .some ?_) (fun hc => ?_))
  · have hc := inB_f (show inB a 0 ((w.net.length : Int) - 1) = false by simpa using hc)
    rcases hk with rfl | rfl | rfl
    · rw [do3, if_neg (by omega)]; rfl
    · rw [do4, if_neg (by omega)]; rfl
    · rw [do5, if_neg (by omega)]; rfl
  have hc : 0 ≤ a ∧ a ≤ (w.net.length : Int) - 1 := by simpa [inB] using hc
  obtain ⟨k, rfl⟩ := Int.eq_ofNat_of_zero_le hc.1
  have hkn : k < w.net.length := by omega
  have hm : pkx w.net k ∈ w.net := pkx_mem hkn
  have hP := h.poss _ (.inr ⟨_, hm, rfl⟩)
  have ht := h.tgt _ hm
  have hV := hP.1
  have w1 : wrap64 ((k : Int) + 1) = ((k : Int) + 1) := w64 (by omega) (by omega)
  simp only [w1, toN, toS, at_pk, Int.toNat_zero, List.drop_zero, Nat.sub_zero, List.nil_append, tkd, ← List.eraseIdx_eq_take_drop_succ]
  clear w1
  refine Sat.gd (inR_t (by omega) (by omega)) ?_
  by_cases h5 : kind = 5
  · subst h5
    rw [do5, if_pos ⟨by omega, by omega⟩, toN]
    refine Sat.gd rfl (Sat.ite (fun hf => ?_) (fun hf => ?_))
    · have hf := of_decide_eq_true hf
      rw [if_pos (by omega)]
      have e : bo_spec_l51Net_6 (w.n, w.ls, w.up, w.sq, w.db, w.net, 0, [], [], [], [], [], (pkx w.net k).t, (pkx w.net k).p.o, (pkx w.net k).p.s, (pkx w.net k).p.e, ()) = some (.inl (w.n, w.ls, w.up, w.sq, w.db, 0, [], [], [], [], [], w.net ++ [pkx w.net k], ())) := by
        unfold bo_spec_l51Net_6
        refine Sat.out (Sat.gd (decide_eq_true (by simp only [List.length_nil]; omega)) (Sat.gd (decide_eq_true (by simp only [List.nil_append, List.length_singleton]; omega)) (.some (by simp))))
      exact sov e (.some rfl)
    · have hf := of_decide_eq_false hf
      rw [if_neg (by omega)]
      exact .some rfl
  refine Sat.no (decide_eq_false h5) (Sat.gd (bnd_t (by omega) (by omega) (by omega)) (Sat.gd (bnd_t (by omega) (by omega) (by omega)) ?_))
  refine Sat.gd (decide_eq_true (by simp only [List.length_nil, List.length_take]; omega)) (Sat.gd (decide_eq_true (by simp only [List.length_take, List.length_drop]; omega)) ?_)
  by_cases h3 : kind = 3
  · subst h3
    rw [do3, if_pos ⟨by omega, by omega⟩, toN]
    refine Sat.gd rfl ?_
    obtain ⟨t, ht'⟩ := Int.eq_ofNat_of_zero_le ht.1
    rw [ht']
    exact sov (e_l51Hear (lose_ok h k) (t := t) (by show t < w.db.length; omega) hV) (.some rfl)
  · have h4 : kind = 4 := by omega
    subst h4
    rw [do4, if_pos ⟨by omega, by omega⟩, toN]
    exact Sat.no rfl (.some rfl)
theorem e_l51Do (h : WV w Nob) (kind a : Int) : sh_spec_l51Do (w.n, w.ls, w.up, w.sq, w.db, w.net, kind, a, ()) = some (wt (doW w kind a)) := by
  have hup := h.up
  have h14 := h.lsl
  have hnet : ∀ kind, kind = 3 ∨ kind = 4 ∨ kind = 5 → Sat ((sh_spec_l51Net (w.n, w.ls, w.up, w.sq, w.db, w.net, kind, a, ())).bind fun r0 => some ((r0.1, r0.2.1, r0.2.2.1, r0.2.2.2.1, r0.2.2.2.2.1, r0.2.2.2.2.2.1, ()))) (· = wt (doW w kind a)) := fun kind hk => sov (e_l51Net h hk a) (.some rfl)
  unfold sh_spec_l51Do
  dsimp only
  by_cases h3 : kind = 3
  · subst h3; exact Sat.out (Sat.gd rfl (Sat.gd rfl (hnet 3 (.inl rfl))))
  by_cases h4 : kind = 4
  · subst h4; exact Sat.out (Sat.no rfl (Sat.gd rfl (Sat.gd rfl (hnet 4 (.inr (.inl rfl))))))
  by_cases h5 : kind = 5
  · subst h5; exact Sat.out (Sat.no rfl (Sat.no rfl (Sat.gd rfl (hnet 5 (.inr (.inr rfl))))))
  refine Sat.out (Sat.no (decide_eq_false h3) (Sat.no (decide_eq_false h4) (Sat.no (decide_eq_false h5) (sov (e_l6In _ _ _) ?_))))
  simp (disch := omega) only [nI_eq, w64]
  have out : ¬ (0 ≤ a ∧ a < w.up.length) → doW w kind a = w := fun hh => by
    unfold doW
    simp only [h3, h4, h5, false_and, if_false]
    rw [if_neg (fun q => hh q.2), if_neg (fun q => hh q.2)]
  refine Sat.ite (fun hc => .some ?_) (fun hc => ?_)
  · have hc := inB_f (show inB a 0 ((w.up.length : Int) - 1) = false by simpa using hc)
    rw [out (by omega)]; rfl
  have hc : 0 ≤ a ∧ a ≤ (w.up.length : Int) - 1 := by simpa [inB] using hc
  obtain ⟨k, rfl⟩ := Int.eq_ofNat_of_zero_le hc.1
  by_cases h1 : kind = 1
  · subst h1
    rw [do12 (.inl rfl), if_pos ⟨by omega, by omega⟩, toN]
    exact Sat.gd rfl (Sat.gd rfl (sov (e_l51Turn h (by omega) _) (.some rfl)))
  by_cases h2 : kind = 2
  · subst h2
    rw [do12 (.inr rfl), if_pos ⟨by omega, by omega⟩, toN]
    exact Sat.no rfl (Sat.gd rfl (sov (e_l51Turn h (by omega) _) (.some rfl)))
  refine Sat.no (decide_eq_false h1) (Sat.no (decide_eq_false h2) ?_)
  by_cases h6 : kind = 6
  · subst h6
    rw [do6, if_pos ⟨by omega, by omega⟩, toN]
    exact Sat.gd rfl (sov (e_l51Sync h (by omega)) (.some rfl))
  · refine Sat.no (decide_eq_false h6) (.some ?_)
    rw [doX h1 h2 h3 h4 h5 h6]; rfl
end
end Go.Proofs.Ytdfkphagjkpgdaa
end
section
namespace Go.Proofs.Ytdfkphagjkpgdaa
open Go.RowKit
set_option linter.unusedSimpArgs false
set_option linter.unusedVariables false
set_option maxRecDepth 100000

noncomputable def poss (w : Wd) (l : Ls) : Bool := @decide (Poss w Nob l) (Classical.propDecidable _)
theorem poss_t {w : Wd} {l : Ls} : poss w l = true ↔ Poss w Nob l := by unfold poss; simp
theorem poss_f {w : Wd} {l : Ls} : poss w l = false ↔ ¬ Poss w Nob l := by unfold poss; simp
theorem lof_lt (ls : List Lk) (a b : Int) : lof ls a b < ls.length := by
  rcases lof_cases ls a b with ⟨h, _⟩ | ⟨k, h, hk, _⟩ <;> omega
section
variable {w : Wd}
set_option maxHeartbeats 2000000 in
theorem e_possible (g : GV w.n w.ls) (hu : w.up.length = w.ls.length) (hsq : (w.sq.length : Int) = w.n) (l : Ls) (hl : Sm l.e) : sh_impl_World_possible (w.n, w.ls, w.up, w.sq, w.db, w.net, l.o, l.s, l.e, ()) = some (poss w l, ()) := by
  have h14 := g.2.2.1
  have fl : Fits l.e := by unfold Fits; unfold Sm at hl; omega
  have fls : Fits w.ls := by unfold Fits; omega
  unfold Sm at hl
  have no : ¬ Poss w Nob l → poss w l = false := fun h => poss_f.2 h
  cases l with | mk o s es =>
  cases w with | mk n ls up sq db net =>
  dsimp only at *
  unfold sh_impl_World_possible
  dsimp only
  rw [e_LsaValid o s es fl]
  refine Sat.out (Sat.ite (fun hc => .some ?_) (fun hc => ?_))
  · rw [no fun h => of_decide_eq_false (show lsv o s es = false by simpa using hc) h.1]
  have hV : LsV ⟨o, s, es⟩ := of_decide_eq_true (show lsv o s es = true by simpa using hc)
  have h0 : 0 ≤ o := hV.1
  refine Sat.ite (fun hc => .some ?_) (fun hc => ?_)
  · have hc := of_decide_eq_true hc
    rw [no fun h => by have : o < n := h.2.1; omega]
  have hn := of_decide_eq_false hc
  simp only [at_int]
  refine Sat.gd (inR_t (by omega) (by omega)) (Sat.ite (fun hc => .some ?_) (fun hc => ?_))
  · have hc : iz sq o.toNat < s := of_decide_eq_true hc
    rw [no fun h => by have : s ≤ iz sq o.toNat := h.2.2.1; omega]
  have hs : ¬ iz sq o.toNat < s := of_decide_eq_false hc
  try simp only [nI_eq]
  refine Sat.bnd (R := fun r => match r with | .inl x => x = (n, ls, up, sq, db, net, o, s, es, ()) ∧ ∀ e ∈ es, lc ls o e.n = some e.c | .inr y => y = (false, ()) ∧ ¬ ∀ e ∈ es, lc ls o e.n = some e.c) ?_ ?_
  · refine Sat.count es.length (fun k t => t = (es, (es.length : Int), (k : Int), n, ls, up, sq, db, net, o, s, es, ()) ∧ ∀ i, i < k → lc ls o (en es i).n = some (en es i).c) ?_ (Nat.zero_le _) (fuel_lt (by omega)) ⟨rfl, fun i hi => by omega⟩
    rintro k t hk ⟨rfl, hok⟩
    by_cases hlt : k < es.length
    · have hm : en es k ∈ es := by rw [en_get hlt]; exact List.getElem_mem hlt
      simp (disch := omega) only [bo_impl_World_possible_4, at_en, at_lk, toN, w64, nI_eq, e_linkOf _ _ _ _ fls, Option.bind_some]
      refine Sat.gd (decide_eq_true (by omega)) (Sat.gd (inR_t (by omega) (by omega)) (Sat.ite (fun hc => .some ⟨rfl, ?_⟩) (fun hc => ?_)))
      · have hc := of_decide_eq_true hc
        intro h
        have := (lc_at (h _ hm)).1
        omega
      · have hc := of_decide_eq_false hc
        have hlo := lof_lt ls o (en es k).n
        repeat refine Sat.gd (inR_t (by omega) (by omega)) ?_
        refine Sat.ite (fun hc2 => .some ⟨rfl, ?_⟩) (fun hc2 => .some ⟨hlt, rfl, fun i hi => ?_⟩)
        · have hc2 : ¬ (lk ls (lof ls o (en es k).n).toNat).c = (en es k).c := by simpa using hc2
          intro h
          have := (lc_at (h _ hm)).2.2
          rw [this] at hc2
          exact hc2 rfl
        · have hc2 : (lk ls (lof ls o (en es k).n).toNat).c = (en es k).c := by simpa using hc2
          by_cases e : i < k
          · exact hok i e
          · obtain rfl : i = k := by omega
            unfold lc
            rw [if_pos (by omega), hc2]
    · obtain rfl : k = es.length := by omega
      unfold bo_impl_World_possible_4
      simp only [nI_eq]
      refine Sat.no (decide_eq_false (by omega)) (.some ⟨rfl, fun e he => ?_⟩)
      obtain ⟨i, hi, rfl⟩ := List.getElem_of_mem he
      rw [← en_get hi]
      exact hok i hi
  rintro (r | r) hr
  case inr =>
    obtain ⟨rfl, hr⟩ := hr
    exact .some (by rw [no fun h => hr h.2.2.2.1])
  obtain ⟨rfl, hr⟩ := hr
  simp only [at_int]
  refine Sat.gd (inR_t (by omega) (by omega)) (Sat.ite (fun hc => .some ?_) (fun hc => ?_))
  · have hc : s < iz sq o.toNat := of_decide_eq_true hc
    rw [poss_t.2 ⟨hV, by show o < n; omega, by show s ≤ iz sq o.toNat; omega, hr, .inl hc⟩]
  have hlt : ¬ s < iz sq o.toNat := of_decide_eq_false hc
  refine sov (e_truth ⟨n, ls, up, sq, db, net⟩ hu (by show ls.length ≤ 1000; omega)) ?_
  dsimp only
  refine sov (lsa_i (tru_gv g up) o s) ?_
  have hel := endsOf_len (N := n.toNat) (ls := tru ls up) o
  have hn8 := g.2.1
  refine sov (e_sameLsa ⟨o, s, es⟩ ⟨o, s, endsOf (tru ls up) n.toNat o⟩ fl (by unfold Fits; dsimp only; omega)) (.some ?_)
  by_cases he : es = endsOf (tru ls up) n.toNat o
  · rw [poss_t.2 ⟨hV, by show o < n; omega, by show s ≤ iz sq o.toNat; omega, hr, .inr (.inl he)⟩]
    dsimp only
    rw [decide_eq_true (by rw [← he])]
  · rw [no fun h => by
      rcases h.2.2.2.2 with h | h | h
      · exact hlt h
      · exact he h
      · exact h]
    dsimp only
    rw [decide_eq_false (by intro e; injection e with _ _ e; exact he e)]
set_option maxHeartbeats 2000000 in
theorem e_l51Lsa (g : GV w.n w.ls) (hu : w.up.length = w.ls.length) (hsq : (w.sq.length : Int) = w.n) (l : Ls) (hl : Sm l.e) : sh_spec_l51Lsa (w.n, w.ls, w.up, w.sq, w.db, w.net, l.o, l.s, l.e, ()) = some (poss w l, ()) := by
  have h14 := g.2.2.1
  have fl : Fits l.e := by unfold Fits; unfold Sm at hl; omega
  have fls : Fits w.ls := by unfold Fits; omega
  unfold Sm at hl
  have no : ¬ Poss w Nob l → poss w l = false := fun h => poss_f.2 h
  cases l with | mk o s es =>
  cases w with | mk n ls up sq db net =>
  dsimp only at *
  unfold sh_spec_l51Lsa
  dsimp only
  rw [e_sLsaValid o s es fl]
  refine Sat.out (Sat.ite (fun hc => .some ?_) (fun hc => ?_))
  · rw [no fun h => of_decide_eq_false (show lsv o s es = false by simpa using hc) h.1]
  have hV : LsV ⟨o, s, es⟩ := of_decide_eq_true (show lsv o s es = true by simpa using hc)
  have h0 : 0 ≤ o := hV.1
  refine Sat.ite (fun hc => .some ?_) (fun hc => ?_)
  · have hc := of_decide_eq_true hc
    rw [no fun h => by have : o < n := h.2.1; omega]
  have hn := of_decide_eq_false hc
  simp only [at_int]
  refine Sat.gd (inR_t (by omega) (by omega)) (Sat.ite (fun hc => .some ?_) (fun hc => ?_))
  · have hc : iz sq o.toNat < s := of_decide_eq_true hc
    rw [no fun h => by have : s ≤ iz sq o.toNat := h.2.2.1; omega]
  have hs : ¬ iz sq o.toNat < s := of_decide_eq_false hc
  try simp only [nI_eq]
  refine Sat.bnd (R := fun r => match r with | .inl x => x = (n, ls, up, sq, db, net, o, s, es, ()) ∧ ∀ e ∈ es, lc ls o e.n = some e.c | .inr y => y = (false, ()) ∧ ¬ ∀ e ∈ es, lc ls o e.n = some e.c) ?_ ?_
  · refine Sat.count es.length (fun k t => t = ((k : Int), n, ls, up, sq, db, net, o, s, es, ()) ∧ ∀ i, i < k → lc ls o (en es i).n = some (en es i).c) ?_ (Nat.zero_le _) (fuel_lt (by omega)) ⟨rfl, fun i hi => by omega⟩
    rintro k t hk ⟨rfl, hok⟩
    by_cases hlt : k < es.length
    · have hm : en es k ∈ es := by rw [en_get hlt]; exact List.getElem_mem hlt
      simp (disch := omega) only [bo_spec_l51Lsa_4, at_en, at_lk, toN, w64, nI_eq, e_l1Link _ _ _ _ fls, Option.bind_some]
      refine Sat.gd (decide_eq_true (by omega)) (Sat.gd (inR_t (by omega) (by omega)) (Sat.ite (fun hc => .some ⟨rfl, ?_⟩) (fun hc => ?_)))
      · have hc := of_decide_eq_true hc
        intro h
        have := (lc_at (h _ hm)).1
        omega
      · have hc := of_decide_eq_false hc
        have hlo := lof_lt ls o (en es k).n
        repeat refine Sat.gd (inR_t (by omega) (by omega)) ?_
        refine Sat.ite (fun hc2 => .some ⟨rfl, ?_⟩) (fun hc2 => .some ⟨hlt, rfl, fun i hi => ?_⟩)
        · have hc2 : ¬ (lk ls (lof ls o (en es k).n).toNat).c = (en es k).c := by simpa using hc2
          intro h
          have := (lc_at (h _ hm)).2.2
          rw [this] at hc2
          exact hc2 rfl
        · have hc2 : (lk ls (lof ls o (en es k).n).toNat).c = (en es k).c := by simpa using hc2
          by_cases e : i < k
          · exact hok i e
          · obtain rfl : i = k := by omega
            unfold lc
            rw [if_pos (by omega), hc2]
    · obtain rfl : k = es.length := by omega
      unfold bo_spec_l51Lsa_4
      simp only [nI_eq]
      refine Sat.no (decide_eq_false (by omega)) (.some ⟨rfl, fun e he => ?_⟩)
      obtain ⟨i, hi, rfl⟩ := List.getElem_of_mem he
      rw [← en_get hi]
      exact hok i hi
  rintro (r | r) hr
  case inr =>
    obtain ⟨rfl, hr⟩ := hr
    exact .some (by rw [no fun h => hr h.2.2.2.1])
  obtain ⟨rfl, hr⟩ := hr
  simp only [at_int]
  refine Sat.gd (inR_t (by omega) (by omega)) (Sat.ite (fun hc => .some ?_) (fun hc => ?_))
  · have hc : s < iz sq o.toNat := of_decide_eq_true hc
    rw [poss_t.2 ⟨hV, by show o < n; omega, by show s ≤ iz sq o.toNat; omega, hr, .inl hc⟩]
  have hlt : ¬ s < iz sq o.toNat := of_decide_eq_false hc
  refine sov (e_l51Truth ⟨n, ls, up, sq, db, net⟩ hu (by show ls.length ≤ 1000; omega)) ?_
  dsimp only
  refine sov (lsa_s (tru_gv g up) o s) ?_
  have hel := endsOf_len (N := n.toNat) (ls := tru ls up) o
  have hn8 := g.2.1
  refine sov (e_l51Same ⟨o, s, es⟩ ⟨o, s, endsOf (tru ls up) n.toNat o⟩ fl (by unfold Fits; dsimp only; omega)) (.some ?_)
  by_cases he : es = endsOf (tru ls up) n.toNat o
  · rw [poss_t.2 ⟨hV, by show o < n; omega, by show s ≤ iz sq o.toNat; omega, hr, .inr (.inl he)⟩]
    dsimp only
    rw [decide_eq_true (by rw [← he])]
  · rw [no fun h => by
      rcases h.2.2.2.2 with h | h | h
      · exact hlt h
      · exact he h
      · exact h]
    dsimp only
    rw [decide_eq_false (by intro e; injection e with _ _ e; exact he e)]
end
end Go.Proofs.Ytdfkphagjkpgdaa
end
section
namespace Go.Proofs.Ytdfkphagjkpgdaa
open Go.RowKit
set_option linter.unusedSimpArgs false
set_option linter.unusedVariables false
set_option maxRecDepth 100000

noncomputable def wv (w : Wd) : Bool := @decide (WV w Nob) (Classical.propDecidable _)
theorem wv_t {w : Wd} : wv w = true ↔ WV w Nob := by unfold wv; simp
theorem wv_f {w : Wd} : wv w = false ↔ ¬ WV w Nob := by unfold wv; simp
def allW (w : Wd) : List Ls := w.db.flatten ++ w.net.map (·.p)
theorem dbx_mem {db : List (List Ls)} {i : Nat} (h : i < db.length) : dbx db i ∈ db := by
  unfold dbx; rw [List.getD, List.getElem?_eq_getElem h]; exact List.getElem_mem h
theorem said_iff {w : Wd} {l : Ls} : Said w l ↔ l ∈ allW w := by
  unfold Said allW
  rw [List.mem_append, List.mem_flatten, List.mem_map]
  constructor
  · rintro (⟨i, hi, h⟩ | ⟨p, hp, rfl⟩)
    · exact .inl ⟨_, dbx_mem hi, h⟩
    · exact .inr ⟨p, hp, rfl⟩
  · rintro (⟨d, hd, h⟩ | ⟨p, hp, rfl⟩)
    · obtain ⟨i, hi, rfl⟩ := List.getElem_of_mem hd
      refine .inl ⟨i, hi, ?_⟩
      unfold dbx; rw [List.getD, List.getElem?_eq_getElem hi]; exact h
    · exact .inr ⟨p, hp, rfl⟩
def NdW (w : Wd) (i : Nat) : Prop := (1 ≤ iz w.sq i ∧ iz w.sq i ≤ 99) ∧ DbV (dbx w.db i)
def OwW (w : Wd) (i : Nat) : Prop := ∃ l ∈ dbx w.db i, l.o = i ∧ l.s = iz w.sq i
def AgW (xs : List Ls) (i : Nat) : Prop := ∀ j, j < i → (lsa xs j).o = (lsa xs i).o → (lsa xs j).s = (lsa xs i).s → lsa xs j = lsa xs i
theorem wv_mk {w : Wd} (g : GV w.n w.ls) (hu : w.up.length = w.ls.length) (hs : (w.sq.length : Int) = w.n) (hd : (w.db.length : Int) = w.n) (hn : w.net.length ≤ 16) (nd : ∀ i, i < w.db.length → NdW w i) (ow : ∀ i, i < w.db.length → OwW w i) (tg : ∀ i, i < w.net.length → 0 ≤ (pkx w.net i).t ∧ (pkx w.net i).t < w.n) (ps : ∀ i, i < (allW w).length → Poss w Nob (lsa (allW w) i)) (ag : ∀ i, i < (allW w).length → AgW (allW w) i) : WV w Nob := by
  have idx : ∀ l, Said w l → ∃ i, i < (allW w).length ∧ lsa (allW w) i = l := fun l hl => by
    obtain ⟨i, hi, rfl⟩ := List.getElem_of_mem (said_iff.1 hl)
    exact ⟨i, hi, lsa_get hi⟩
  refine ⟨g, hu, hs, hd, hn, fun i hi => (nd i (by omega)).1, fun i hi => (nd i hi).2, ow, fun l hl => ?_, fun x y hx hy e1 e2 => ?_, fun p hp => ?_⟩
  · obtain ⟨i, hi, rfl⟩ := idx l hl
    exact ps i hi
  · obtain ⟨i, hi, rfl⟩ := idx x hx
    obtain ⟨j, hj, rfl⟩ := idx y hy
    rcases Nat.lt_trichotomy i j with h | h | h
    · exact ag j hj i h e1 e2
    · rw [h]
    · exact (ag i hi j h e1.symm e2.symm).symm
  · obtain ⟨i, hi, rfl⟩ := List.getElem_of_mem hp
    have := tg i hi
    have e : pkx w.net i = w.net[i] := by simp [pkx, List.getD, hi]
    rwa [e] at this
section
variable {w : Wd}
theorem WV.nd (h : WV w Nob) {i : Nat} (hi : i < w.db.length) : NdW w i := ⟨h.rng i (by have := h.sq; have := h.db; omega), h.ok i hi⟩
theorem WV.ps (h : WV w Nob) {i : Nat} (hi : i < (allW w).length) : Poss w Nob (lsa (allW w) i) := h.poss _ (said_iff.2 (lsa_mem hi))
theorem WV.ag (h : WV w Nob) {i : Nat} (hi : i < (allW w).length) : AgW (allW w) i := fun j hj e1 e2 => h.agr _ _ (said_iff.2 (lsa_mem (by omega))) (said_iff.2 (lsa_mem hi)) e1 e2
theorem flat8 {db : List (List Ls)} {k : Nat} (hk : k ≤ db.length) (h : ∀ i, i < k → (dbx db i).length ≤ 8) : (db.take k).flatten.length ≤ 8 * k := by
  induction k with
  | zero => simp
  | succ k ih =>
    have := ih (by omega) fun i hi => h i (by omega)
    have h2 := h k (by omega)
    rw [← take_dbx (by omega), List.flatten_append, List.length_append, List.flatten_singleton]
    omega
theorem flat_succ {db : List (List Ls)} {k : Nat} (hk : k < db.length) : (db.take (k + 1)).flatten = (db.take k).flatten ++ dbx db k := by
  rw [← take_dbx hk, List.flatten_append, List.flatten_singleton]
theorem map_succ {net : List Pk} {k : Nat} (hk : k < net.length) : (net.take (k + 1)).map (·.p) = (net.take k).map (·.p) ++ [(pkx net k).p] := by
  rw [← take_pkx hk, List.map_append]; rfl
theorem NdW.sm {i : Nat} (h : NdW w i) : (dbx w.db i).length ≤ 8 := h.2.len
theorem e_differ (x l : Ls) (hx : Fits x.e) (hl : Fits l.e) : sh_impl_WorldValid_1 (x.o, x.s, x.e, l.o, l.s, l.e, ()) = some (decide (x.o = l.o ∧ x.s = l.s ∧ x ≠ l), ()) := by
  unfold sh_impl_WorldValid_1
  by_cases h1 : x.o = l.o
  · by_cases h2 : x.s = l.s
    · simp only [decide_eq_true h1, decide_eq_true h2, cond_true]
      refine Sat.out (sov (e_sameLsa x l hx hl) (.some ?_))
      by_cases h3 : x = l
      · simp [h3]
      · simp [h1, h2, h3]
    · simp [h1, h2]
  · simp [h1]
theorem e_clash (xs : List Ls) (l : Ls) (h : xs.length ≤ 100000) (he : ∀ x ∈ xs, Fits x.e) (hl : Fits l.e) : Sat (sh_slices_ContainsFunc_impl_Lsa_impl_Lsa_WorldValid_1 (xs, l.o, l.s, l.e, ())) fun r => ∃ b : Bool, r = (b, ()) ∧ (b = true ↔ ∃ x ∈ xs, x.o = l.o ∧ x.s = l.s ∧ x ≠ l) := by
  unfold sh_slices_ContainsFunc_impl_Lsa_impl_Lsa_WorldValid_1 sh_slices_IndexFunc_impl_Lsa_impl_Lsa_WorldValid_1
  refine Sat.bnd (R := fun r => ∃ z : Int, r = (z, ()) ∧ (0 ≤ z ↔ ∃ x ∈ xs, x.o = l.o ∧ x.s = l.s ∧ x ≠ l)) (Sat.bnd (R := fun r => match r with | .inl _ => ¬ ∃ x ∈ xs, x.o = l.o ∧ x.s = l.s ∧ x ≠ l | .inr y => ∃ k : Nat, y = ((k : Int), ()) ∧ ∃ x ∈ xs, x.o = l.o ∧ x.s = l.s ∧ x ≠ l) ?_ ?_) ?_
  · refine Sat.count xs.length (fun k t => t = (xs, l.o, l.s, l.e, (xs.length : Int), (k : Int), ()) ∧ ∀ i, i < k → ¬ ((lsa xs i).o = l.o ∧ (lsa xs i).s = l.s ∧ lsa xs i ≠ l)) ?_ (Nat.zero_le _) (fuel_lt (by omega)) ⟨by simp [nI_eq], fun i hi => by omega⟩
    rintro k t hk ⟨rfl, hok⟩
    by_cases hlt : k < xs.length
    · simp (disch := omega) only [bo_slices_IndexFunc_impl_Lsa_impl_Lsa_WorldValid_1_2, at_ls, toN, w64, e_differ _ l (he _ (lsa_mem hlt)) hl, Option.bind_some]
      refine Sat.gd (decide_eq_true (by omega)) (Sat.gd (inR_t (by omega) (by omega)) (Sat.ite (fun hc => .some ?_) (fun hc => .some ⟨hlt, rfl, fun i hi => ?_⟩)))
      · exact ⟨k, rfl, _, lsa_mem hlt, of_decide_eq_true hc⟩
      · by_cases e : i < k
        · exact hok i e
        · obtain rfl : i = k := by omega
          exact of_decide_eq_false hc
    · obtain rfl : k = xs.length := by omega
      unfold bo_slices_IndexFunc_impl_Lsa_impl_Lsa_WorldValid_1_2
      refine Sat.no (decide_eq_false (by first | omega | (dsimp only; omega))) (.some ?_)
      rintro ⟨x, hx, hh⟩
      obtain ⟨i, hi, rfl⟩ := List.getElem_of_mem hx
      rw [← lsa_get hi] at hh
      exact hok i hi hh
  · rintro (r | r) hr
    · exact .some ⟨-1, rfl, fun h => by omega, fun h => (hr h).elim⟩
    · obtain ⟨k, rfl, hx⟩ := hr
      exact .some ⟨k, rfl, fun _ => hx, fun _ => by omega⟩
  · rintro _ ⟨z, rfl, hz⟩
    exact .some ⟨decide (0 ≤ z), rfl, by rw [decide_eq_true_eq]; exact hz⟩
theorem ag_take {xs : List Ls} {k : Nat} (hk : k < xs.length) : (∃ x ∈ xs.take k, x.o = (lsa xs k).o ∧ x.s = (lsa xs k).s ∧ x ≠ lsa xs k) ↔ ¬ AgW xs k := by
  constructor
  · rintro ⟨x, hx, h1, h2, h3⟩ h
    obtain ⟨j, hj, rfl⟩ := List.getElem_of_mem hx
    rw [List.length_take] at hj
    rw [List.getElem_take, ← lsa_get (by omega)] at h1 h2 h3
    exact h3 (h j (by omega) h1 h2)
  · intro h
    unfold AgW at h
    simp only [Classical.not_forall] at h
    obtain ⟨j, hj, h1, h2, h3⟩ := h
    refine ⟨lsa xs j, ?_, h1, h2, h3⟩
    rw [lsa_get (by omega)]
    exact List.mem_iff_getElem.2 ⟨j, by rw [List.length_take]; omega, List.getElem_take⟩
set_option maxHeartbeats 2000000 in
theorem e_WorldValid (h : SmW w) : sh_impl_WorldValid (w.n, w.ls, w.up, w.sq, w.db, w.net, ()) = some (wv w, ()) := by
  have h1 := h.ls
  have h2 := h.up
  have h3 := h.sq
  have h4 := h.db
  have h5 := h.net
  have no : ¬ WV w Nob → (false, ()) = (wv w, ()) := fun q => by rw [wv_f.2 q]
  unfold sh_impl_WorldValid
  dsimp only
  rw [e_GraphValid _ _ (show Fits w.ls by unfold Fits; omega)]
  simp only [nI_eq]
  refine Sat.out (Sat.ite (fun hc => .some (no fun q => ?_)) (fun hc => ?_))
  · have hc : gv w.n w.ls = false := by simpa using hc
    exact of_decide_eq_false hc q.g
  have g : GV w.n w.ls := of_decide_eq_true (show gv w.n w.ls = true by simpa using hc)
  refine Sat.ite (fun hc => .some (no fun q => ?_)) (fun hc => ?_)
  · have hc : ¬ (w.up.length : Int) = w.ls.length := by simpa using hc
    have := q.up; omega
  have hu : (w.up.length : Int) = w.ls.length := by simpa using hc
  refine Sat.ite (fun hc => .some (no fun q => ?_)) (fun hc => ?_)
  · have hc : ¬ (w.sq.length : Int) = w.n := by simpa using hc
    have := q.sq; omega
  have hs : (w.sq.length : Int) = w.n := by simpa using hc
  refine Sat.ite (fun hc => .some (no fun q => ?_)) (fun hc => ?_)
  · have hc : ¬ (w.db.length : Int) = w.n := by simpa using hc
    have := q.db; omega
  have hd : (w.db.length : Int) = w.n := by simpa using hc
  refine Sat.ite (fun hc => .some (no fun q => ?_)) (fun hc => ?_)
  · have hc := of_decide_eq_true hc
    have := q.net; omega
  have hn := of_decide_eq_false hc
  have hn8 := g.2.1
  refine Sat.bnd (R := fun r => match r with | .inl x => x = (w.n, w.n, w.ls, w.up, w.sq, w.db, w.net, w.db.flatten, ()) ∧ ∀ i, i < w.db.length → NdW w i ∧ OwW w i | .inr y => y = (false, ()) ∧ ¬ WV w Nob) ?_ ?_
  · refine Sat.count w.db.length (fun k t => t = (w.n, w.db, (w.db.length : Int), (k : Int), w.n, w.ls, w.up, w.sq, w.db, w.net, (w.db.take k).flatten, ()) ∧ ∀ i, i < k → NdW w i ∧ OwW w i) ?_ (Nat.zero_le _) (fuel_lt (by omega)) ⟨by simp, fun i hi => by omega⟩
    rintro k t hk ⟨rfl, hok⟩
    by_cases hlt : k < w.db.length
    · have hsm := h.dbs k hlt
      simp (disch := omega) only [bo_impl_WorldValid_6, at_db, at_int, at_ls, toN, w64, e_within, e_DbValid _ hsm.fits hsm.fe, Option.bind_some]
      refine Sat.gd (decide_eq_true (by omega)) (Sat.gd (inR_t (by omega) (by omega)) (Sat.gd (inR_t (by omega) (by omega)) (Sat.ite (fun hc => .some ⟨rfl, fun q => ?_⟩) (fun hc => ?_))))
      · have hc := inB_f (show inB (iz w.sq k) 1 99 = false by simpa using hc)
        exact hc (q.rng k (by omega))
      have hr := inB_t (show inB (iz w.sq k) 1 99 = true by simpa using hc)
      refine Sat.ite (fun hc => .some ⟨rfl, fun q => ?_⟩) (fun hc => ?_)
      · have hc : dbv (dbx w.db k) = false := by simpa using hc
        exact of_decide_eq_false hc (q.ok k hlt)
      have hv : DbV (dbx w.db k) := of_decide_eq_true (show dbv (dbx w.db k) = true by simpa using hc)
      have h8 := hv.len
      obtain ⟨i, hi, hp⟩ := e_dbPlace (dbx w.db k) (k : Int) hv.srt (by omega)
      have hfd := fd_place hv.srt hi
      refine sov hp ?_
      dsimp only
      simp only [toN]
      cases hh : hasAt (dbx w.db k) (k : Int) i with
      | false =>
        rw [hh, if_neg (by simp)] at hfd
        refine Sat.gd rfl (.some ⟨rfl, fun q => ?_⟩)
        obtain ⟨l, hl, e1, _⟩ := q.own k hlt
        exact fd_none.1 hfd l hl e1
      | true =>
        rw [hh, if_pos rfl] at hfd
        obtain ⟨hm, ho⟩ := (fd_some hv.so).1 hfd
        obtain ⟨hil, _⟩ := of_decide_eq_true hh
        refine Sat.no rfl (Sat.gd (inR_t (by omega) (by omega)) (Sat.gd (inR_t (by omega) (by omega)) (Sat.ite (fun hc => .some ⟨rfl, fun q => ?_⟩) (fun hc => ?_))))
        · have hc : ¬ (lsa (dbx w.db k) i).s = iz w.sq k := by simpa using hc
          obtain ⟨l, hl, e1, e2⟩ := q.own k hlt
          have := (fd_some hv.so).2 ⟨hl, e1⟩
          rw [hfd] at this
          injection this with this
          rw [this] at hc
          exact hc e2
        · have hc : (lsa (dbx w.db k) i).s = iz w.sq k := by simpa using hc
          have hfl := flat8 (db := w.db) (k := k) (by omega) fun i hi => (hok i hi).1.sm
          refine Sat.gd (decide_eq_true (by omega)) (.some ⟨hlt, ?_, fun j hj => ?_⟩)
          · rw [flat_succ hlt]; rfl
          · by_cases e : j < k
            · exact hok j e
            · obtain rfl : j = k := by omega
              exact ⟨⟨hr, hv⟩, _, hm, ho, hc⟩
    · obtain rfl : k = w.db.length := by omega
      unfold bo_impl_WorldValid_6
      refine Sat.no (decide_eq_false (by first | omega | (dsimp only; omega))) (.some ⟨?_, hok⟩)
      rw [List.take_length]
  rintro (r | r) hr
  case inr =>
    obtain ⟨rfl, hr⟩ := hr
    exact .some (no hr)
  obtain ⟨rfl, hnd⟩ := hr
  have hfl : w.db.flatten.length ≤ 8 * w.db.length := by
    have := flat8 (db := w.db) (k := w.db.length) (by omega) fun i hi => (hnd i hi).1.sm
    rwa [List.take_length] at this
  dsimp only
  refine Sat.bnd (R := fun r => match r with | .inl x => x = (w.n, w.ls, w.up, w.sq, w.db, w.net, allW w, ()) ∧ ∀ i, i < w.net.length → 0 ≤ (pkx w.net i).t ∧ (pkx w.net i).t < w.n | .inr y => y = (false, ()) ∧ ¬ WV w Nob) ?_ ?_
  · refine Sat.count w.net.length (fun k t => t = (w.n, w.net, (w.net.length : Int), (k : Int), w.n, w.ls, w.up, w.sq, w.db, w.net, w.db.flatten ++ (w.net.take k).map (·.p), ()) ∧ ∀ i, i < k → 0 ≤ (pkx w.net i).t ∧ (pkx w.net i).t < w.n) ?_ (Nat.zero_le _) (fuel_lt (by omega)) ⟨by simp, fun i hi => by omega⟩
    rintro k t hk ⟨rfl, hok⟩
    have hn1 := g.1
    by_cases hlt : k < w.net.length
    · simp (disch := omega) only [bo_impl_WorldValid_16, at_pk, toN, w64, e_within, Option.bind_some]
      refine Sat.gd (decide_eq_true (by omega)) (Sat.gd (inR_t (by omega) (by omega)) (Sat.ite (fun hc => .some ⟨rfl, fun q => ?_⟩) (fun hc => ?_)))
      · have hc := inB_f (show inB (pkx w.net k).t 0 (w.n - 1) = false by simpa using hc)
        have := q.tgt _ (pkx_mem hlt)
        omega
      · have hc := inB_t (show inB (pkx w.net k).t 0 (w.n - 1) = true by simpa using hc)
        refine Sat.gd (decide_eq_true (by simp only [List.length_append, List.length_map, List.length_take, List.length_singleton]; omega)) (.some ⟨hlt, ?_, fun j hj => ?_⟩)
        · rw [map_succ hlt, ← List.append_assoc]; rfl
        · by_cases e : j < k
          · exact hok j e
          · obtain rfl : j = k := by omega
            omega
    · obtain rfl : k = w.net.length := by omega
      unfold bo_impl_WorldValid_16
      refine Sat.no (decide_eq_false (by first | omega | (dsimp only; omega))) (.some ⟨?_, hok⟩)
      rw [List.take_length]; rfl
  rintro (r | r) hr
  case inr =>
    obtain ⟨rfl, hr⟩ := hr
    exact .some (no hr)
  obtain ⟨rfl, htg⟩ := hr
  have hal : (allW w).length ≤ 1000 := by unfold allW; rw [List.length_append, List.length_map]; omega
  have hfe : ∀ x ∈ allW w, Sm x.e := fun x hx => by
    rcases said_iff.2 hx with ⟨i, hi, hx⟩ | ⟨p, hp, rfl⟩
    · exact (h.dbs i hi).2 x hx
    · obtain ⟨i, hi, rfl⟩ := List.getElem_of_mem hp
      have := h.pks i hi
      have e : pkx w.net i = w.net[i] := by simp [pkx, List.getD, hi]
      rwa [e] at this
  have smf : ∀ l : List En, Sm l → Fits l := fun l hl => by unfold Fits; unfold Sm at hl; omega
  dsimp only
  refine Sat.bnd (R := fun r => match r with | .inl x => ∀ i, i < (allW w).length → Poss w Nob (lsa (allW w) i) ∧ AgW (allW w) i | .inr y => y = (false, ()) ∧ ¬ WV w Nob) ?_ ?_
  · refine Sat.count (allW w).length (fun k t => t = (allW w, allW w, ((allW w).length : Int), (k : Int), w.n, w.ls, w.up, w.sq, w.db, w.net, ()) ∧ ∀ i, i < k → Poss w Nob (lsa (allW w) i) ∧ AgW (allW w) i) ?_ (Nat.zero_le _) (fuel_lt (by omega)) ⟨by simp, fun i hi => by omega⟩
    rintro k t hk ⟨rfl, hok⟩
    by_cases hlt : k < (allW w).length
    · have hle := hfe _ (lsa_mem hlt)
      simp (disch := omega) only [bo_impl_WorldValid_23, at_ls, toN, w64, e_possible g (show w.up.length = w.ls.length by omega) hs _ hle, Option.bind_some, Int.toNat_zero, List.drop_zero, Nat.sub_zero]
      refine Sat.gd (decide_eq_true (by omega)) (Sat.gd (inR_t (by omega) (by omega)) (Sat.ite (fun hc => .some ⟨rfl, fun q => ?_⟩) (fun hc => ?_)))
      · have hc : poss w (lsa (allW w) k) = false := by simpa using hc
        exact poss_f.1 hc (q.ps hlt)
      have hp := poss_t.1 (show poss w (lsa (allW w) k) = true by simpa using hc)
      refine Sat.gd (bnd_t (by omega) (by omega) (by omega)) (Sat.bnd (e_clash ((allW w).take k) (lsa (allW w) k) (by rw [List.length_take]; omega) (fun x hx => smf _ (hfe x (List.mem_of_mem_take hx))) (smf _ hle)) ?_)
      rintro _ ⟨b, rfl, hb⟩
      rw [ag_take hlt] at hb
      refine Sat.ite (fun hc3 => .some ⟨rfl, fun q => hb.1 hc3 (q.ag hlt)⟩) (fun hc3 => .some ⟨hlt, rfl, fun j hj => ?_⟩)
      by_cases e : j < k
      · exact hok j e
      · obtain rfl : j = k := by omega
        exact ⟨hp, Classical.not_not.1 fun q => by
          have := hb.2 q
          have hc3 : b = false := hc3
          rw [hc3] at this; cases this⟩
    · obtain rfl : k = (allW w).length := by omega
      unfold bo_impl_WorldValid_23
      exact Sat.no (decide_eq_false (by first | omega | (dsimp only; omega))) (.some hok)
  rintro (r | r) hr
  case inr =>
    obtain ⟨rfl, hr⟩ := hr
    exact .some (no hr)
  exact .some (by rw [wv_t.2 (wv_mk g (by omega) hs hd (by omega) (fun i hi => (hnd i hi).1) (fun i hi => (hnd i hi).2) htg (fun i hi => (hr i hi).1) (fun i hi => (hr i hi).2))])
end
end Go.Proofs.Ytdfkphagjkpgdaa
end
section
namespace Go.Proofs.Ytdfkphagjkpgdaa
open Go.RowKit
set_option linter.unusedSimpArgs false
set_option linter.unusedVariables false
set_option maxRecDepth 100000

section
variable {w : Wd}
structure Shp (w : Wd) : Prop where
  g : GV w.n w.ls
  up : w.up.length = w.ls.length
  sq : (w.sq.length : Int) = w.n
  db : (w.db.length : Int) = w.n
  net : w.net.length ≤ 16
  nd : ∀ i, i < w.db.length → NdW w i
theorem e_l51Shape (h : SmW w) : Sat (sh_spec_l51Shape (w.n, w.ls, w.up, w.sq, w.db, w.net, ())) fun r => ∃ b : Bool, r = (b, ()) ∧ (b = true → Shp w) ∧ (b = false → ¬ WV w Nob) := by
  have h1 := h.ls
  have h2 := h.up
  have h3 := h.sq
  have h4 := h.db
  have h5 := h.net
  have no : ¬ WV w Nob → ∃ b : Bool, (false, ()) = (b, ()) ∧ (b = true → Shp w) ∧ (b = false → ¬ WV w Nob) := fun q => ⟨false, rfl, (fun e => nomatch e), fun _ => q⟩
  unfold sh_spec_l51Shape
  dsimp only
  rw [e_sGraphValid _ _ (show Fits w.ls by unfold Fits; omega)]
  simp only [nI_eq]
  refine Sat.ite (fun hc => .some (no fun q => ?_)) (fun hc => ?_)
  · have hc : gv w.n w.ls = false := by simpa using hc
    exact of_decide_eq_false hc q.g
  have g : GV w.n w.ls := of_decide_eq_true (show gv w.n w.ls = true by simpa using hc)
  refine Sat.ite (fun hc => .some (no fun q => ?_)) (fun hc => ?_)
  · have hc : ¬ (w.up.length : Int) = w.ls.length := by simpa using hc
    have := q.up; omega
  have hu : (w.up.length : Int) = w.ls.length := by simpa using hc
  refine Sat.ite (fun hc => .some (no fun q => ?_)) (fun hc => ?_)
  · have hc : ¬ (w.sq.length : Int) = w.n := by simpa using hc
    have := q.sq; omega
  have hs : (w.sq.length : Int) = w.n := by simpa using hc
  refine Sat.ite (fun hc => .some (no fun q => ?_)) (fun hc => ?_)
  · have hc : ¬ (w.db.length : Int) = w.n := by simpa using hc
    have := q.db; omega
  have hd : (w.db.length : Int) = w.n := by simpa using hc
  refine Sat.ite (fun hc => .some (no fun q => ?_)) (fun hc => ?_)
  · have hc := of_decide_eq_true hc
    have := q.net; omega
  have hn := of_decide_eq_false hc
  have hn8 := g.2.1
  refine Sat.bnd (R := fun r => match r with | .inl x => ∀ i, i < w.db.length → NdW w i | .inr y => y = (false, ()) ∧ ¬ WV w Nob) ?_ ?_
  · refine Sat.count w.db.length (fun k t => t = ((k : Int), w.n, w.ls, w.up, w.sq, w.db, w.net, ()) ∧ ∀ i, i < k → NdW w i) ?_ (Nat.zero_le _) (fuel_lt (by omega)) ⟨rfl, fun i hi => by omega⟩
    rintro k t hk ⟨rfl, hok⟩
    by_cases hlt : k < w.db.length
    · have hsm := h.dbs k hlt
      simp (disch := omega) only [bo_spec_l51Shape_4, at_db, at_int, toN, w64, e_l6In, e_sDbValid _ hsm.fits hsm.fe, Option.bind_some]
      refine Sat.gd (decide_eq_true (by omega)) (Sat.gd (inR_t (by omega) (by omega)) (Sat.ite (fun hc => .some ⟨rfl, fun q => ?_⟩) (fun hc => ?_)))
      · have hc := inB_f (show inB (iz w.sq k) 1 99 = false by simpa using hc)
        exact hc (q.rng k (by omega))
      have hr := inB_t (show inB (iz w.sq k) 1 99 = true by simpa using hc)
      refine Sat.gd (inR_t (by omega) (by omega)) (Sat.ite (fun hc => .some ⟨rfl, fun q => ?_⟩) (fun hc => .some ⟨hlt, rfl, fun j hj => ?_⟩))
      · have hc : dbv (dbx w.db k) = false := by simpa using hc
        exact of_decide_eq_false hc (q.ok k hlt)
      · have hv : DbV (dbx w.db k) := of_decide_eq_true (show dbv (dbx w.db k) = true by simpa using hc)
        by_cases e : j < k
        · exact hok j e
        · obtain rfl : j = k := by omega
          exact ⟨hr, hv⟩
    · obtain rfl : k = w.db.length := by omega
      unfold bo_spec_l51Shape_4
      exact Sat.no (decide_eq_false (by dsimp only; omega)) (.some hok)
  rintro (r | r) hr
  case inr =>
    obtain ⟨rfl, hr⟩ := hr
    exact .some (no hr)
  exact .some ⟨true, rfl, fun _ => ⟨g, by omega, hs, hd, by omega, hr⟩, fun e => nomatch e⟩
theorem Shp.fl (h : Shp w) : w.db.flatten.length ≤ 8 * w.db.length := by
  have := flat8 (db := w.db) (k := w.db.length) (by omega) fun i hi => (h.nd i hi).sm
  rwa [List.take_length] at this
theorem e_l51All (h : Shp w) : sh_spec_l51All (w.n, w.ls, w.up, w.sq, w.db, w.net, ()) = some (allW w, ()) := by
  have hd := h.db
  have hn := h.net
  have h8 := h.g.2.1
  have hfl := h.fl
  unfold sh_spec_l51All
  dsimp only
  refine Sat.out (Sat.bnd (R := fun r => match r with | .inl x => x = (w.n, w.ls, w.up, w.sq, w.db, w.net, w.db.flatten, ()) | .inr _ => False) ?_ ?_)
  · refine Sat.count w.db.length (fun k t => t = ((k : Int), w.n, w.ls, w.up, w.sq, w.db, w.net, (w.db.take k).flatten, ())) ?_ (Nat.zero_le _) (fuel_lt (by omega)) (by simp)
    rintro k t hk rfl
    by_cases hlt : k < w.db.length
    · have hl := (h.nd k hlt).sm
      have hfk := flat8 (db := w.db) (k := k) (by omega) fun i hi => (h.nd i (by omega)).sm
      simp (disch := omega) only [bo_spec_l51All_3, at_db, toN, w64, nI_eq]
      refine Sat.gd (decide_eq_true (by omega)) (Sat.gd (inR_t (by omega) (by omega)) (Sat.gd (decide_eq_true (by omega)) (.some ⟨hlt, ?_⟩)))
      rw [flat_succ hlt]; rfl
    · obtain rfl : k = w.db.length := by omega
      unfold bo_spec_l51All_3
      simp only [nI_eq]
      refine Sat.no (decide_eq_false (by omega)) (.some ?_)
      rw [List.take_length]
  rintro (r | r) hr
  case inr => exact hr.elim
  obtain rfl := hr
  dsimp only
  refine Sat.bnd (R := fun r => match r with | .inl x => x = (allW w, ()) | .inr _ => False) ?_ ?_
  · refine Sat.count w.net.length (fun k t => t = ((k : Int), w.n, w.ls, w.up, w.sq, w.db, w.net, w.db.flatten ++ (w.net.take k).map (·.p), ())) ?_ (Nat.zero_le _) (fuel_lt (by omega)) (by simp)
    rintro k t hk rfl
    by_cases hlt : k < w.net.length
    · simp (disch := omega) only [bo_spec_l51All_7, at_pk, toN, w64, nI_eq]
      refine Sat.gd (decide_eq_true (by omega)) (Sat.gd (inR_t (by omega) (by omega)) (Sat.gd (decide_eq_true (by simp only [List.length_append, List.length_map, List.length_take, List.length_singleton]; omega)) (.some ⟨hlt, ?_⟩)))
      rw [map_succ hlt, ← List.append_assoc]; rfl
    · obtain rfl : k = w.net.length := by omega
      unfold bo_spec_l51All_7
      simp only [nI_eq]
      refine Sat.no (decide_eq_false (by omega)) (.some ?_)
      rw [List.take_length]; rfl
  rintro (r | r) hr
  case inr => exact hr.elim
  obtain rfl := hr
  exact .some rfl
theorem e_l51One (xs : List Ls) (hl : xs.length ≤ 100000) (he : ∀ x ∈ xs, Fits x.e) : Sat (sh_spec_l51One (xs, ())) fun r => ∃ b : Bool, r = (b, ()) ∧ (b = true ↔ ∀ i, i < xs.length → AgW xs i) := by
  unfold sh_spec_l51One
  refine Sat.bnd (R := fun r => match r with | .inl _ => ∀ i, i < xs.length → AgW xs i | .inr y => y = (false, ()) ∧ ¬ ∀ i, i < xs.length → AgW xs i) ?_ ?_
  · refine Sat.count xs.length (fun k t => t = (xs, (k : Int), ()) ∧ ∀ i, i < k → AgW xs i) ?_ (Nat.zero_le _) (fuel_lt (by omega)) ⟨rfl, fun i hi => by omega⟩
    rintro k t hk ⟨rfl, hok⟩
    by_cases hlt : k < xs.length
    · simp only [bo_spec_l51One_2, nI_eq]
      refine Sat.gd (decide_eq_true (by omega)) (Sat.bnd (R := fun r => match r with | .inl x => x = (xs, (k : Int), ()) ∧ AgW xs k | .inr y => y = (false, ()) ∧ ¬ AgW xs k) ?_ ?_)
      · refine Sat.count k (fun j t => t = (xs, (k : Int), (j : Int), ()) ∧ ∀ i, i < j → (lsa xs i).o = (lsa xs k).o → (lsa xs i).s = (lsa xs k).s → lsa xs i = lsa xs k) ?_ (Nat.zero_le _) (fuel_lt (by omega)) ⟨rfl, fun i hi => by omega⟩
        rintro j t hj ⟨rfl, hok2⟩
        by_cases hjk : j < k
        · have fk := he _ (lsa_mem hlt)
          have fj := he _ (lsa_mem (show j < xs.length by omega))
          simp (disch := omega) only [bo_spec_l51One_5, at_ls, toN, w64, e_l51Same _ _ fk fj, Option.bind_some]
          refine Sat.gd (decide_eq_true (by omega)) (Sat.gd (inR_t (by omega) (by omega)) (Sat.gd (inR_t (by omega) (by omega)) (Sat.ite (fun h1 => ?_) (fun h1 => .some ⟨hjk, rfl, fun i hi => ?_⟩))))
          · have h1 := of_decide_eq_true h1
            refine Sat.gd (inR_t (by omega) (by omega)) (Sat.gd (inR_t (by omega) (by omega)) (Sat.ite (fun h2 => ?_) (fun h2 => .some ⟨hjk, rfl, fun i hi => ?_⟩)))
            · have h2 := of_decide_eq_true h2
              refine Sat.gd (inR_t (by omega) (by omega)) (Sat.gd (inR_t (by omega) (by omega)) (Sat.ite (fun h3 => .some ⟨rfl, fun q => ?_⟩) (fun h3 => .some ⟨hjk, rfl, fun i hi => ?_⟩)))
              · have h3 : ¬ lsa xs k = lsa xs j := by simpa using h3
                exact h3 (q j hjk h1.symm h2.symm).symm
              · have h3 : lsa xs k = lsa xs j := by simpa using h3
                by_cases e : i < j
                · exact hok2 i e
                · obtain rfl : i = j := by omega
                  exact fun _ _ => h3.symm
            · have h2 := of_decide_eq_false h2
              by_cases e : i < j
              · exact hok2 i e
              · obtain rfl : i = j := by omega
                exact fun _ e2 => (h2 e2.symm).elim
          · have h1 := of_decide_eq_false h1
            by_cases e : i < j
            · exact hok2 i e
            · obtain rfl : i = j := by omega
              exact fun e1 => (h1 e1.symm).elim
        · obtain rfl : j = k := by omega
          unfold bo_spec_l51One_5
          exact Sat.no (decide_eq_false (by dsimp only; omega)) (.some ⟨rfl, hok2⟩)
      · rintro (r | r) hr
        · obtain ⟨rfl, hr⟩ := hr
          simp (disch := omega) only [w64]
          refine .some ⟨hlt, rfl, fun i hi => ?_⟩
          by_cases e : i < k
          · exact hok i e
          · obtain rfl : i = k := by omega
            exact hr
        · obtain ⟨rfl, hr⟩ := hr
          exact .some ⟨rfl, fun q => hr (q k hlt)⟩
    · obtain rfl : k = xs.length := by omega
      unfold bo_spec_l51One_2
      simp only [nI_eq]
      exact Sat.no (decide_eq_false (by omega)) (.some hok)
  rintro (r | r) hr
  · exact .some ⟨true, rfl, fun _ => hr, fun _ => rfl⟩
  · obtain ⟨rfl, hr⟩ := hr
    exact .some ⟨false, rfl, (fun e => nomatch e), fun q => (hr q).elim⟩
set_option maxHeartbeats 2000000 in
theorem e_sWorldValid (h : SmW w) : sh_spec_WorldValid (w.n, w.ls, w.up, w.sq, w.db, w.net, ()) = some (wv w, ()) := by
  have no : ¬ WV w Nob → (false, ()) = (wv w, ()) := fun q => by rw [wv_f.2 q]
  unfold sh_spec_WorldValid
  refine Sat.out (Sat.bnd (e_l51Shape h) ?_)
  rintro _ ⟨b, rfl, hb1, hb2⟩
  dsimp only
  refine Sat.ite (fun hc => .some (no (hb2 (by simpa using hc)))) (fun hc => ?_)
  have hS := hb1 (by simpa using hc)
  have hd := hS.db
  have hs := hS.sq
  have hn := hS.net
  have h8 := hS.g.2.1
  have hn1 := hS.g.1
  have hfl := hS.fl
  have hal : (allW w).length ≤ 1000 := by unfold allW; rw [List.length_append, List.length_map]; omega
  have hfe : ∀ x ∈ allW w, Sm x.e := fun x hx => by
    rcases said_iff.2 hx with ⟨i, hi, hx⟩ | ⟨p, hp, rfl⟩
    · exact (h.dbs i hi).2 x hx
    · obtain ⟨i, hi, rfl⟩ := List.getElem_of_mem hp
      have := h.pks i hi
      have e : pkx w.net i = w.net[i] := by simp [pkx, List.getD, hi]
      rwa [e] at this
  have smf : ∀ l : List En, Sm l → Fits l := fun l hl => by unfold Fits; unfold Sm at hl; omega
  refine sov (e_l51All hS) ?_
  dsimp only
  refine Sat.bnd (e_l51One (allW w) (by omega) (fun x hx => smf _ (hfe x hx))) ?_
  rintro _ ⟨b2, rfl, hb⟩
  dsimp only
  refine Sat.ite (fun hc => .some (no fun q => ?_)) (fun hc => ?_)
  · have hc : b2 = false := by simpa using hc
    have := hb.2 fun i hi => q.ag hi
    rw [hc] at this; cases this
  have hag := hb.1 (show b2 = true by simpa using hc)
  refine Sat.bnd (R := fun r => match r with | .inl x => x = (w.n, w.ls, w.up, w.sq, w.db, w.net, ()) ∧ ∀ i, i < w.db.length → (∀ l ∈ dbx w.db i, Poss w Nob l) ∧ OwW w i | .inr y => y = (false, ()) ∧ ¬ WV w Nob) ?_ ?_
  · refine Sat.count w.db.length (fun k t => t = ((k : Int), w.n, w.ls, w.up, w.sq, w.db, w.net, ()) ∧ ∀ i, i < k → (∀ l ∈ dbx w.db i, Poss w Nob l) ∧ OwW w i) ?_ (Nat.zero_le _) (fuel_lt (by omega)) ⟨rfl, fun i hi => by omega⟩
    rintro k t hk ⟨rfl, hok⟩
    by_cases hlt : k < w.db.length
    · have hsm := h.dbs k hlt
      have hv := (hS.nd k hlt).2
      have hvl := hv.len
      simp only [bo_spec_WorldValid_4]
      refine Sat.gd (decide_eq_true (by omega)) (Sat.bnd (R := fun r => match r with | .inl x => x = ((k : Int), w.n, w.ls, w.up, w.sq, w.db, w.net, ()) ∧ ∀ l ∈ dbx w.db k, Poss w Nob l | .inr y => y = (false, ()) ∧ ¬ WV w Nob) ?_ ?_)
      · refine Sat.count (dbx w.db k).length (fun j t => t = ((k : Int), (j : Int), w.n, w.ls, w.up, w.sq, w.db, w.net, ()) ∧ ∀ i, i < j → Poss w Nob (lsa (dbx w.db k) i)) ?_ (Nat.zero_le _) (fuel_lt (by omega)) ⟨rfl, fun i hi => by omega⟩
        rintro j t hj ⟨rfl, hok2⟩
        by_cases hjl : j < (dbx w.db k).length
        · have hm : lsa (dbx w.db k) j ∈ dbx w.db k := lsa_mem hjl
          simp (disch := omega) only [bo_spec_WorldValid_7, at_db, at_ls, toN, w64, nI_eq, e_l51Lsa hS.g hS.up hs _ (hsm.2 _ hm), Option.bind_some]
          refine Sat.gd (inR_t (by omega) (by omega)) (Sat.gd (decide_eq_true (by omega)) (Sat.gd (inR_t (by omega) (by omega)) (Sat.gd (inR_t (by omega) (by omega)) (Sat.ite (fun hc => .some ⟨rfl, fun q => ?_⟩) (fun hc => .some ⟨hjl, rfl, fun i hi => ?_⟩)))))
          · have hc : poss w (lsa (dbx w.db k) j) = false := by simpa using hc
            exact poss_f.1 hc (q.poss _ (.inl ⟨k, hlt, hm⟩))
          · have hp := poss_t.1 (show poss w (lsa (dbx w.db k) j) = true by simpa using hc)
            by_cases e : i < j
            · exact hok2 i e
            · obtain rfl : i = j := by omega
              exact hp
        · obtain rfl : j = (dbx w.db k).length := by omega
          unfold bo_spec_WorldValid_7
          simp only [at_db, toN, nI_eq]
          refine Sat.gd (inR_t (by omega) (by omega)) (Sat.no (decide_eq_false (by omega)) (.some ⟨rfl, fun l hl => ?_⟩))
          obtain ⟨i, hi, rfl⟩ := List.getElem_of_mem hl
          rw [← lsa_get hi]
          exact hok2 i hi
      · rintro (r | r) hr
        case inr =>
          obtain ⟨rfl, hr⟩ := hr
          exact .some ⟨rfl, hr⟩
        obtain ⟨rfl, hr⟩ := hr
        simp (disch := omega) only [at_db, at_int, toN, w64, e_l11Find _ (k : Int) hsm.fits, Option.bind_some]
        refine Sat.gd (inR_t (by omega) (by omega)) ?_
        cases hfd : fd (dbx w.db k) (k : Int) with
        | none =>
          refine Sat.gd rfl (.some ⟨rfl, fun q => ?_⟩)
          obtain ⟨l, hl, e1, _⟩ := q.own k hlt
          exact fd_none.1 hfd l hl e1
        | some l0 =>
          obtain ⟨hm, ho⟩ := (fd_some hv.so).1 hfd
          refine Sat.no rfl (Sat.gd (inR_t (by omega) (by omega)) (Sat.ite (fun hc => .some ⟨rfl, fun q => ?_⟩) (fun hc => .some ⟨hlt, rfl, fun i hi => ?_⟩)))
          · have hc : ¬ l0.s = iz w.sq k := by simpa using hc
            obtain ⟨l, hl, e1, e2⟩ := q.own k hlt
            have := (fd_some hv.so).2 ⟨hl, e1⟩
            rw [hfd] at this
            injection this with this
            rw [this] at hc
            exact hc e2
          · have hc : l0.s = iz w.sq k := by simpa using hc
            by_cases e : i < k
            · exact hok i e
            · obtain rfl : i = k := by omega
              exact ⟨hr, l0, hm, ho, hc⟩
    · obtain rfl : k = w.db.length := by omega
      unfold bo_spec_WorldValid_4
      exact Sat.no (decide_eq_false (by dsimp only; omega)) (.some ⟨rfl, hok⟩)
  rintro (r | r) hr
  case inr =>
    obtain ⟨rfl, hr⟩ := hr
    exact .some (no hr)
  obtain ⟨rfl, hnd⟩ := hr
  dsimp only
  refine Sat.bnd (R := fun r => match r with | .inl x => ∀ i, i < w.net.length → (0 ≤ (pkx w.net i).t ∧ (pkx w.net i).t < w.n) ∧ Poss w Nob (pkx w.net i).p | .inr y => y = (false, ()) ∧ ¬ WV w Nob) ?_ ?_
  · refine Sat.count w.net.length (fun k t => t = ((k : Int), w.n, w.ls, w.up, w.sq, w.db, w.net, ()) ∧ ∀ i, i < k → (0 ≤ (pkx w.net i).t ∧ (pkx w.net i).t < w.n) ∧ Poss w Nob (pkx w.net i).p) ?_ (Nat.zero_le _) (fuel_lt (by omega)) ⟨rfl, fun i hi => by omega⟩
    rintro k t hk ⟨rfl, hok⟩
    by_cases hlt : k < w.net.length
    · simp (disch := omega) only [bo_spec_WorldValid_15, at_pk, toN, w64, nI_eq, e_l6In, e_l51Lsa hS.g hS.up hs _ (h.pks k hlt), Option.bind_some]
      refine Sat.gd (decide_eq_true (by omega)) (Sat.gd (inR_t (by omega) (by omega)) (Sat.ite (fun hc => .some ⟨rfl, fun q => ?_⟩) (fun hc => ?_)))
      · have hc := inB_f (show inB (pkx w.net k).t 0 (w.n - 1) = false by simpa using hc)
        have := q.tgt _ (pkx_mem hlt)
        omega
      have ht := inB_t (show inB (pkx w.net k).t 0 (w.n - 1) = true by simpa using hc)
      refine Sat.gd (inR_t (by omega) (by omega)) (Sat.ite (fun hc => .some ⟨rfl, fun q => ?_⟩) (fun hc => .some ⟨hlt, rfl, fun i hi => ?_⟩))
      · have hc : poss w (pkx w.net k).p = false := by simpa using hc
        exact poss_f.1 hc (q.poss _ (.inr ⟨_, pkx_mem hlt, rfl⟩))
      · have hp := poss_t.1 (show poss w (pkx w.net k).p = true by simpa using hc)
        by_cases e : i < k
        · exact hok i e
        · obtain rfl : i = k := by omega
          exact ⟨by omega, hp⟩
    · obtain rfl : k = w.net.length := by omega
      unfold bo_spec_WorldValid_15
      simp only [nI_eq]
      exact Sat.no (decide_eq_false (by omega)) (.some hok)
  rintro (r | r) hr
  case inr =>
    obtain ⟨rfl, hr⟩ := hr
    exact .some (no hr)
  refine .some ?_
  rw [wv_t.2 (wv_mk hS.g hS.up hs hd hn hS.nd (fun i hi => (hnd i hi).2) (fun i hi => (hr i hi).1) (fun i hi => ?_) hag)]
  rcases said_iff.2 (lsa_mem hi) with ⟨j, hj, hx⟩ | ⟨p, hp, e⟩
  · exact (hnd j hj).1 _ hx
  · rw [e]
    obtain ⟨j, hj, rfl⟩ := List.getElem_of_mem hp
    have := (hr j hj).2
    have e2 : pkx w.net j = w.net[j] := by simp [pkx, List.getD, hj]
    rwa [e2] at this
end
end Go.Proofs.Ytdfkphagjkpgdaa
end
section
namespace Go.Proofs.Ytdfkphagjkpgdaa
open Go.RowKit
set_option linter.unusedSimpArgs false
set_option linter.unusedVariables false
set_option maxRecDepth 100000

section
variable {w : Wd}
def zW : Wd := ⟨0, [], [], [], [], []⟩
def wk7 (b : Bool) (w : Wd) : Int × Bool × List Lk × List Bool × List Int × List (List Ls) × List Pk × Unit := (w.n, b, w.ls, w.up, w.sq, w.db, w.net, ())
theorem zW_sm : SmW zW := ⟨by simp [zW], by simp [zW], by simp [zW], by simp [zW], by simp [zW], fun i hi => by simp [zW] at hi, fun i hi => by simp [zW] at hi⟩
theorem e_sameBools (zs : List Bool) (hl : Fits zs) : sh_laws_sameBools (zs, zs, ()) = some (true, ()) := by
  unfold sh_laws_sameBools
  simp only [decide_true, Bool.not_true, cond_false]
  refine Sat.out (Sat.bnd (R := fun r => match r with | .inl _ => True | .inr _ => False) ?_ ?_)
  · refine Sat.count zs.length (fun k t => t = (zs, zs, (k : Int), ())) ?_ (Nat.zero_le _) (fuel_lt (by omega)) rfl
    rintro k t hk rfl
    simp (disch := omega) only [bo_laws_sameBools_4, at_bo, toN, w64, nI_eq]
    refine Sat.ite (fun hh => ?_) (fun hh => .some trivial)
    have hh := of_decide_eq_true hh
    refine Sat.gd (inR_t (by omega) (by omega)) (Sat.gd (inR_t (by omega) (by omega)) (Sat.no (by simp) (.some ⟨by omega, rfl⟩)))
  · rintro (r | r) hr
    case inr => exact hr.elim
    exact .some rfl
theorem e_sameWorld (h : SmW w) : sh_laws_sameWorld (w.n, w.ls, w.up, w.sq, w.db, w.net, w.n, w.ls, w.up, w.sq, w.db, w.net, ()) = some (true, ()) := by
  have h1 := h.ls
  have h2 := h.up
  have h3 := h.sq
  have h4 := h.db
  have h5 := h.net
  unfold sh_laws_sameWorld
  dsimp only
  refine Sat.out (sov (e_sameGraph _ _ (show Fits w.ls by unfold Fits; omega)) (Sat.no rfl (sov (e_sameBools _ (show Fits w.up by unfold Fits; omega)) (Sat.no rfl (sov (e_sameInts _ (show Fits w.sq by unfold Fits; omega)) (Sat.no rfl ?_))))))
  refine Sat.no (by simp) (Sat.no (by simp) ?_)
  refine Sat.bnd (R := fun r => match r with | .inl x => x = (w.n, w.ls, w.up, w.sq, w.db, w.net, wt w) | .inr _ => False) ?_ ?_
  · refine Sat.count w.db.length (fun k t => t = ((k : Int), w.n, w.ls, w.up, w.sq, w.db, w.net, wt w)) ?_ (Nat.zero_le _) (fuel_lt (by omega)) rfl
    rintro k t hk rfl
    by_cases hlt : k < w.db.length
    · simp (disch := omega) only [bo_laws_sameWorld_4, wt, at_db, toN, w64, nI_eq]
      refine Sat.gd (decide_eq_true (by omega)) (Sat.gd (inR_t (by omega) (by omega)) (Sat.gd (inR_t (by omega) (by omega)) (sov (e_sameDbSelf _ (h.dbs k hlt)) (Sat.no rfl (.some ⟨hlt, rfl⟩)))))
    · obtain rfl : k = w.db.length := by omega
      unfold bo_laws_sameWorld_4
      simp only [nI_eq]
      exact Sat.no (decide_eq_false (by omega)) (.some rfl)
  rintro (r | r) hr
  case inr => exact hr.elim
  obtain rfl := hr
  dsimp only
  refine Sat.bnd (R := fun r => match r with | .inl _ => True | .inr _ => False) ?_ ?_
  · refine Sat.count w.net.length (fun k t => t = ((k : Int), w.n, w.ls, w.up, w.sq, w.db, w.net, wt w)) ?_ (Nat.zero_le _) (fuel_lt (by omega)) rfl
    rintro k t hk rfl
    by_cases hlt : k < w.net.length
    · have hf : Fits (pkx w.net k).p.e := by have := h.pks k hlt; unfold Fits; unfold Sm at this; omega
      simp (disch := omega) only [bo_laws_sameWorld_9, wt, at_pk, toN, w64, nI_eq]
      refine Sat.gd (decide_eq_true (by omega)) (Sat.gd (inR_t (by omega) (by omega)) (Sat.gd (inR_t (by omega) (by omega)) (Sat.no (by simp) (Sat.gd (inR_t (by omega) (by omega)) (Sat.gd (inR_t (by omega) (by omega)) (sov (e_sameLsaL _ _ hf hf) (Sat.no (by simp) (.some ⟨hlt, rfl⟩))))))))
    · obtain rfl : k = w.net.length := by omega
      unfold bo_laws_sameWorld_9
      simp only [nI_eq]
      exact Sat.no (decide_eq_false (by omega)) (.some trivial)
  rintro (r | r) hr
  case inr => exact hr.elim
  exact .some rfl
end
end Go.Proofs.Ytdfkphagjkpgdaa
end
section
namespace Go.Proofs.Ytdfkphagjkpgdaa
open Go.RowKit
set_option linter.unusedSimpArgs false
set_option linter.unusedVariables false
set_option maxRecDepth 100000

section
def rowN (ls : List Lk) (N k : Nat) : List Ls := (List.range k).map fun i : Nat => (⟨i, 1, endsOf ls N i⟩ : Ls)
theorem rowN_succ (ls : List Lk) (N k : Nat) : rowN ls N (k + 1) = rowN ls N k ++ [⟨(k : Nat), 1, endsOf ls N (k : Nat)⟩] := by
  unfold rowN
  rw [List.range_succ, List.map_append]; rfl
theorem rowN_len (ls : List Lk) (N k : Nat) : (rowN ls N k).length = k := by simp [rowN]
theorem rep_succ {α : Type} (k : Nat) (a : α) : List.replicate (k + 1) a = List.replicate k a ++ [a] := List.replicate_succ'
noncomputable def newV (n : Int) (ls : List Lk) : Wd := if gv n ls = true then newW n ls else zW
theorem new_okI {n : Int} {ls : List Lk} (g : GV n ls) : WV (newW n ls) Nob := by
  have h1 := g.1
  obtain ⟨N, rfl⟩ := Int.eq_ofNat_of_zero_le (show 0 ≤ n by omega)
  exact new_ok g
theorem e_WorldNew (n : Int) (ls : List Lk) (hl : Fits ls) : sh_impl_WorldNew (n, ls, ()) = some (wk7 (gv n ls) (newV n ls)) := by
  unfold sh_impl_WorldNew newV
  dsimp only
  rw [e_GraphValid n ls hl]
  cases hg : gv n ls with
  | false => exact Sat.out (sov rfl (Sat.gd rfl (.some rfl)))
  | true =>
    have g := gv_t hg
    have h1 := g.1
    have h8 := g.2.1
    have h14 := g.2.2.1
    obtain ⟨N, rfl⟩ := Int.eq_ofNat_of_zero_le (show 0 ≤ n by omega)
    have b3 : bo_impl_WorldNew_3 ((N : Int), ls, 0, [], [], [], [], [], ()) = some (.inl ((N : Int), ls, 0, [], [], [], [], [], (N : Int), ls, List.replicate ls.length true, List.replicate N (1 : Int), [], [], ())) := by
      unfold bo_impl_WorldNew_3
      refine Sat.out (sov (e_keepN _ ls (by omega)) ?_)
      refine sov (r := (List.replicate ls.length true, ())) ?_ (sov (r := (List.replicate N (1 : Int), ())) ?_ (.some rfl))
      · simp only [nI_eq]
        unfold sh_slices_Repeat_bool_bool
        exact Sat.out (Sat.gd (decide_eq_true (by dsimp only; omega)) (.some rfl))
      · unfold sh_slices_Repeat_int_int
        exact Sat.out (Sat.gd (decide_eq_true (by dsimp only; omega)) (.some rfl))
    refine Sat.out (sov rfl (Sat.no rfl (sov b3 ?_)))
    dsimp only
    rw [if_pos rfl]
    refine Sat.bnd (R := fun r => match r with | .inl x => x = (0, [], [], [], [], [], (N : Int), ls, List.replicate ls.length true, List.replicate N (1 : Int), List.replicate N (rowN ls N N), [], ()) | .inr _ => False) ?_ ?_
    · refine Sat.count N (fun k t => t = ((N : Int), (k : Int), (N : Int), ls, 0, [], [], [], [], [], (N : Int), ls, List.replicate ls.length true, List.replicate N (1 : Int), List.replicate k (rowN ls N N), [], ())) ?_ (Nat.zero_le _) (fuel_lt (by omega)) rfl
      rintro k t hk rfl
      by_cases hlt : k < N
      · simp only [bo_impl_WorldNew_5]
        refine Sat.gd (decide_eq_true (by omega)) (Sat.bnd (R := fun r => match r with | .inl x => x = ((N : Int), (k : Int), (N : Int), ls, 0, [], [], [], [], [], (N : Int), rowN ls N N, ls, List.replicate ls.length true, List.replicate N (1 : Int), List.replicate k (rowN ls N N), [], ()) | .inr _ => False) ?_ ?_)
        · refine Sat.count N (fun j t => t = ((N : Int), (k : Int), (N : Int), (j : Int), (N : Int), ls, 0, [], [], [], [], [], (N : Int), rowN ls N j, ls, List.replicate ls.length true, List.replicate N (1 : Int), List.replicate k (rowN ls N N), [], ())) ?_ (Nat.zero_le _) (fuel_lt (by omega)) rfl
          rintro j t hj rfl
          have hrl := rowN_len ls N j
          by_cases hjl : j < N
          · simp (disch := omega) only [bo_impl_WorldNew_8, e_lsaOf g, Option.bind_some, w64]
            refine Sat.gd (decide_eq_true (by omega)) (Sat.gd (decide_eq_true (by simp only [List.length_singleton]; omega)) (.some ⟨hjl, ?_⟩))
            rw [rowN_succ]; rfl
          · obtain rfl : j = N := by omega
            unfold bo_impl_WorldNew_8
            exact Sat.no (decide_eq_false (by first | omega | (dsimp only; omega))) (.some rfl)
        · rintro (r | r) hr
          case inr => exact hr.elim
          obtain rfl := hr
          simp (disch := omega) only [w64]
          refine Sat.gd (decide_eq_true (by simp only [List.length_singleton, List.length_replicate]; omega)) (.some ⟨hlt, ?_⟩)
          rw [rep_succ k (rowN ls N N)]; rfl
      · obtain rfl : k = N := by omega
        unfold bo_impl_WorldNew_5
        exact Sat.no (decide_eq_false (by first | omega | (dsimp only; omega))) (.some rfl)
    rintro (r | r) hr
    case inr => exact hr.elim
    obtain rfl := hr
    exact .some rfl
theorem rowN_sm {N k : Nat} (ls : List Lk) (h8 : N ≤ 8) (hk : k ≤ 8) : SmD (rowN ls N k) := by
  refine ⟨by have := rowN_len ls N k; unfold Sm; omega, fun l hl => ?_⟩
  unfold rowN at hl
  obtain ⟨i, hi, rfl⟩ := List.mem_map.1 hl
  have := endsOf_len (ls := ls) (N := N) (i : Int)
  unfold Sm; dsimp only; omega
theorem e_sWorldNew (n : Int) (ls : List Lk) (hl : Fits ls) : sh_spec_WorldNew (n, ls, ()) = some (wk7 (gv n ls) (newV n ls)) := by
  unfold sh_spec_WorldNew newV
  dsimp only
  rw [e_sGraphValid n ls hl]
  cases hg : gv n ls with
  | false => exact Sat.out (sov rfl (Sat.gd rfl (.some rfl)))
  | true =>
    have g := gv_t hg
    have h1 := g.1
    have h8 := g.2.1
    have h14 := g.2.2.1
    obtain ⟨N, rfl⟩ := Int.eq_ofNat_of_zero_le (show 0 ≤ n by omega)
    refine Sat.out (sov rfl (Sat.no rfl (sov (e_l1Copy _ ls (by omega)) ?_)))
    dsimp only
    rw [if_pos rfl]
    refine Sat.bnd (R := fun r => match r with | .inl x => x = ((N : Int), ls, 0, [], [], [], [], [], rowN ls N N, (N : Int), ls, [], List.replicate N (1 : Int), [], [], ()) | .inr _ => False) ?_ ?_
    · refine Sat.count N (fun k t => t = ((k : Int), (N : Int), ls, 0, [], [], [], [], [], rowN ls N k, (N : Int), ls, [], List.replicate k (1 : Int), [], [], ())) ?_ (Nat.zero_le _) (fuel_lt (by omega)) rfl
      rintro k t hk rfl
      have hrl := rowN_len ls N k
      by_cases hlt : k < N
      · simp (disch := omega) only [bo_spec_WorldNew_6, e_l11Of g, Option.bind_some, w64]
        refine Sat.gd (decide_eq_true (by omega)) (Sat.gd (decide_eq_true (by simp only [List.length_singleton]; omega)) (Sat.gd (decide_eq_true (by simp only [List.length_singleton, List.length_replicate]; omega)) (.some ⟨hlt, ?_⟩)))
        rw [rowN_succ, rep_succ k (1 : Int)]; rfl
      · obtain rfl : k = N := by omega
        unfold bo_spec_WorldNew_6
        exact Sat.no (decide_eq_false (by first | omega | (dsimp only; omega))) (.some rfl)
    rintro (r | r) hr
    case inr => exact hr.elim
    obtain rfl := hr
    dsimp only
    refine Sat.bnd (R := fun r => match r with | .inl x => x = ((N : Int), ls, 0, [], [], [], [], [], (N : Int), ls, [], List.replicate N (1 : Int), List.replicate N (rowN ls N N), [], ()) | .inr _ => False) ?_ ?_
    · refine Sat.count N (fun k t => t = ((k : Int), (N : Int), ls, 0, [], [], [], [], [], rowN ls N N, (N : Int), ls, [], List.replicate N (1 : Int), List.replicate k (rowN ls N N), [], ())) ?_ (Nat.zero_le _) (fuel_lt (by omega)) rfl
      rintro k t hk rfl
      by_cases hlt : k < N
      · simp (disch := omega) only [bo_spec_WorldNew_11, e_l11Copy _ (rowN_sm ls (show N ≤ 8 by omega) (show N ≤ 8 by omega)), Option.bind_some, w64]
        refine Sat.gd (decide_eq_true (by omega)) (Sat.gd (decide_eq_true (by simp only [List.length_singleton, List.length_replicate]; omega)) (.some ⟨hlt, ?_⟩))
        rw [rep_succ k (rowN ls N N)]; rfl
      · obtain rfl : k = N := by omega
        unfold bo_spec_WorldNew_11
        exact Sat.no (decide_eq_false (by first | omega | (dsimp only; omega))) (.some rfl)
    rintro (r | r) hr
    case inr => exact hr.elim
    obtain rfl := hr
    dsimp only
    refine Sat.bnd (R := fun r => match r with | .inl x => x = (0, [], [], [], [], [], (N : Int), ls, List.replicate ls.length true, List.replicate N (1 : Int), List.replicate N (rowN ls N N), [], ()) | .inr _ => False) ?_ ?_
    · refine Sat.count ls.length (fun k t => t = ((k : Int), (N : Int), ls, 0, [], [], [], [], [], (N : Int), ls, List.replicate k true, List.replicate N (1 : Int), List.replicate N (rowN ls N N), [], ())) ?_ (Nat.zero_le _) (fuel_lt (by omega)) rfl
      rintro k t hk rfl
      by_cases hlt : k < ls.length
      · simp (disch := omega) only [bo_spec_WorldNew_15, w64, nI_eq]
        refine Sat.gd (decide_eq_true (by omega)) (Sat.gd (decide_eq_true (by simp only [List.length_singleton, List.length_replicate]; omega)) (.some ⟨hlt, ?_⟩))
        rw [rep_succ k true]; rfl
      · obtain rfl : k = ls.length := by omega
        unfold bo_spec_WorldNew_15
        simp only [nI_eq]
        exact Sat.no (decide_eq_false (by first | omega | (dsimp only; omega))) (.some rfl)
    rintro (r | r) hr
    case inr => exact hr.elim
    obtain rfl := hr
    exact .some rfl
end
end Go.Proofs.Ytdfkphagjkpgdaa
end
