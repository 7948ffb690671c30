/- Several texts in one.  What the program's functions on graphs answer, in plain words. What the program's functions on links, neighbours and distances answer, in plain words. What the program's functions on distances and areas answer, in plain words. What more of the program's functions on distances and areas answer, in plain words. What the program's functions on routes between areas and on joined areas answer, in plain words. What the program's functions on joined areas answer, in plain words. The reference's joined area answers the same. -/
import Derived.Test.YtjdebphkndfolaaPa
import Derived.Test.YtjdebphkndfolaaSA

/- What the program's functions on graphs answer, in plain words. -/
namespace Go.Proofs.Ytjdebphkndfolaa
open Go.RowKit
set_option linter.unusedSimpArgs false
set_option linter.unusedVariables false

theorem at_int (zs : List Int) (i : Nat) : at! .int zs i = iz zs i := by
  induction zs generalizing i with
  | nil => rfl
  | cons z r ih => cases i with
    | zero => rfl
    | succ i => exact (ih i).trans (by simp [iz])
theorem at_lk (ls : List Lk) (i : Nat) : at! .lk ls i = lk ls i := by
  induction ls generalizing i with
  | nil => rfl
  | cons z r ih => cases i with
    | zero => rfl
    | succ i => exact (ih i).trans (by simp [lk])
/-- Lists that a machine can hold. -/
abbrev Fits {α : Type} (l : List α) : Prop := l.length ≤ 4611686018427387904
theorem e_within (a b c : Int) : sh_impl_within (a, b, c, ()) = some (inB a b c, ()) := by
  unfold sh_impl_within inB
  by_cases h : b ≤ a <;> simp [h]
theorem e_l6In (a b c : Int) : sh_spec_l6In (a, b, c, ()) = some (inB a b c, ()) := by
  unfold sh_spec_l6In inB
  by_cases h : b ≤ a <;> simp [h]
theorem fuel_lt {n : Nat} (h : n ≤ 4611686018427387904) : n < fuel := by unfold fuel; omega
theorem natS (k : Nat) : (k : Int) + 1 = ((k + 1 : Nat) : Int) := rfl
theorem toN (k : Nat) : Int.toNat (k : Int) = k := rfl
theorem toN1 (k : Nat) : Int.toNat ((k : Int) - 1) = k - 1 := by omega

theorem e_GraphValid (n : Int) (ls : List Lk) (hl : Fits ls) : sh_impl_GraphValid (n, ls, ()) = some (gv n ls, ()) := by
  unfold sh_impl_GraphValid
  simp only [e_within, Option.bind_some, nI_eq]
  cases h1 : inB n 1 8 with
  | false => simp; rw [gv_f fun g => inB_f h1 ⟨g.1, g.2.1⟩]
  | true =>
  have h1 := inB_t h1
  by_cases h2 : ls.length ≤ 14
  case neg => 
    have : (14 : Int) < ls.length := by omega
    simp [this]; rw [gv_f fun g => h2 g.2.2.1]
  have h2' : ¬ (14 : Int) < ls.length := by omega
  simp only [h2', decide_false, cond_false, Bool.not_true]
  refine Sat.out (Sat.bnd (R := fun r => match r with | .inl _ => gv n ls = true | .inr y => y.1 = gv n ls) ?_ ?_)
  · refine Sat.count ls.length (fun k s => s = (ls, (ls.length : Int), (k : Int), n, ls, ()) ∧ ∀ i, i < k → LkAt n ls i) ?_ (Nat.zero_le _) (fuel_lt (by omega)) ⟨rfl, fun i hi => by omega⟩
    rintro k s hk ⟨rfl, hok⟩
    simp (disch := omega) only [bo_impl_GraphValid_4, at_lk, toN, toN1, w64, e_within, Option.bind_some]
    repeat' (first
      | refine Sat.some ?_
      | fail
      | (refine Sat.gd (by first | exact inR_t (by omega) (by omega) | (simp (disch := omega) only [w64]; exact inR_t (by omega) (by omega))) ?_)
      | (refine Sat.ite (fun h => ?_) (fun h => ?_) <;> try simp only [decide_eq_true_eq, decide_eq_false_iff_not, Bool.not_eq_true', Bool.not_eq_false', inB_i, inB_j, Bool.and_eq_true, Bool.or_eq_true, Bool.and_eq_false_iff, Bool.or_eq_false_iff, El] at h))
    all_goals dsimp only
    all_goals first
      | exact (gv_at (k := k) (by omega) fun _ _ g => by unfold LkAt at g; omega).symm
      | (refine ⟨by omega, rfl, fun i hi => ?_⟩
         by_cases e : i < k
         · exact hok i e
         · obtain rfl : i = k := by omega
           unfold LkAt
           omega)
      | (obtain rfl : k = ls.length := by omega
         exact decide_eq_true ⟨h1.1, h1.2, h2, hok⟩)
  · rintro (r | r) hr
    · exact .some (by simp [hr])
    · obtain ⟨b, u⟩ := r
      have hr : b = gv n ls := hr
      exact .some (by rw [hr])

/-! ### Lists of numbers -/
theorem mem_iz {zs : List Int} {n : Int} : n ∈ zs ↔ ∃ i, i < zs.length ∧ iz zs i = n := by
  constructor
  · intro h
    obtain ⟨i, hi, rfl⟩ := List.getElem_of_mem h
    exact ⟨i, hi, by simp [iz, hi]⟩
  · rintro ⟨i, hi, rfl⟩
    exact List.mem_of_getElem? (iz_get hi)
theorem e_l1Has (zs : List Int) (n : Int) (hl : Fits zs) : sh_spec_l1Has (zs, n, ()) = some (zs.contains n, ()) := by
  unfold sh_spec_l1Has
  refine Sat.out (Sat.bnd (R := fun r => match r with | .inl _ => zs.contains n = false | .inr y => y.1 = true ∧ zs.contains n = true) ?_ ?_)
  · refine Sat.count zs.length (fun k s => s = (zs, n, (k : Int), ()) ∧ ∀ i, i < k → iz zs i ≠ n) ?_ (Nat.zero_le _) (fuel_lt (by omega)) ⟨rfl, fun i hi => by omega⟩
    rintro k s hk ⟨rfl, hok⟩
    simp (disch := omega) only [bo_spec_l1Has_2, at_int, toN, w64, nI_eq]
    repeat' (first
      | refine Sat.some ?_
      | fail
      | (refine Sat.gd (by first | exact inR_t (by omega) (by omega) | (simp (disch := omega) only [w64]; exact inR_t (by omega) (by omega))) ?_)
      | (refine Sat.ite (fun h => ?_) (fun h => ?_) <;> try simp only [decide_eq_true_eq, decide_eq_false_iff_not, Bool.not_eq_true', Bool.not_eq_false', inB_i, inB_j, Bool.and_eq_true, Bool.or_eq_true, Bool.and_eq_false_iff, Bool.or_eq_false_iff, El] at h))
    all_goals dsimp only
    · exact ⟨rfl, by rw [List.contains_eq_mem]; exact decide_eq_true (mem_iz.2 ⟨k, by omega, by assumption⟩)⟩
    · refine ⟨by omega, rfl, fun i hi => ?_⟩
      by_cases e : i < k
      · exact hok i e
      · obtain rfl : i = k := by omega
        assumption
    · rw [List.contains_eq_mem]
      refine decide_eq_false fun h => ?_
      obtain ⟨i, hi, e⟩ := mem_iz.1 h
      exact hok i (by omega) e
  · rintro (r | r) hr
    · have hr : zs.contains n = false := hr
      exact .some (by rw [hr])
    · obtain ⟨b, u⟩ := r
      have hr : b = true ∧ zs.contains n = true := hr
      exact .some (by rw [hr.1, hr.2])
theorem e_Contains (zs : List Int) (n : Int) (hl : Fits zs) : sh_slices_Contains_int_int (zs, n, ()) = some (zs.contains n, ()) := by
  unfold sh_slices_Contains_int_int sh_slices_Index_int_int
  refine Sat.out (Sat.bnd (R := fun r => decide (0 ≤ r.1) = zs.contains n) (Sat.bnd (R := fun r => match r with | .inl _ => zs.contains n = false | .inr y => 0 ≤ y.1 ∧ zs.contains n = true) ?_ ?_) ?_)
  · refine Sat.count zs.length (fun k s => s = (zs, n, (zs.length : Int), (k : Int), ()) ∧ ∀ i, i < k → iz zs i ≠ n) ?_ (Nat.zero_le _) (fuel_lt (by omega)) ⟨by simp [nI_eq], fun i hi => by omega⟩
    rintro k s hk ⟨rfl, hok⟩
    simp (disch := omega) only [bo_slices_Index_int_int_2, at_int, toN, w64, nI_eq]
    repeat' (first
      | refine Sat.some ?_
      | fail
      | (refine Sat.gd (by first | exact inR_t (by omega) (by omega) | (simp (disch := omega) only [w64]; exact inR_t (by omega) (by omega))) ?_)
      | (refine Sat.ite (fun h => ?_) (fun h => ?_) <;> try simp only [decide_eq_true_eq, decide_eq_false_iff_not, Bool.not_eq_true', Bool.not_eq_false', inB_i, inB_j, Bool.and_eq_true, Bool.or_eq_true, Bool.and_eq_false_iff, Bool.or_eq_false_iff, El] at h))
    all_goals dsimp only
    · exact ⟨by omega, by rw [List.contains_eq_mem]; exact decide_eq_true (mem_iz.2 ⟨k, by omega, by omega⟩)⟩
    · refine ⟨by omega, rfl, fun i hi => ?_⟩
      by_cases e : i < k
      · exact hok i e
      · obtain rfl : i = k := by omega
        omega
    · rw [List.contains_eq_mem]
      refine decide_eq_false fun h => ?_
      obtain ⟨i, hi, e⟩ := mem_iz.1 h
      exact hok i (by omega) e
  · rintro (r | r) hr
    · have hr : zs.contains n = false := hr
      exact .some (by rw [hr]; rfl)
    · have hr : 0 ≤ r.1 ∧ zs.contains n = true := hr
      exact .some (by rw [hr.2]; exact decide_eq_true hr.1)
  · rintro ⟨r, u⟩ hr
    have hr : decide (0 ≤ r) = zs.contains n := hr
    exact .some (by rw [hr])
theorem e_nodesAscend (zs : List Int) (n : Int) (hl : Fits zs) (h0 : 0 ≤ n) (h1 : n ≤ 10000) : sh_impl_nodesAscend (zs, n, ()) = some (asc zs n, ()) := by
  unfold sh_impl_nodesAscend
  refine Sat.out (Sat.bnd (R := fun r => match r with | .inl _ => asc zs n = true | .inr y => y.1 = false ∧ asc zs n = false) ?_ ?_)
  · refine Sat.count zs.length (fun k s => s = (zs, n, zs, (zs.length : Int), (k : Int), ()) ∧ ∀ i, i < k → 0 ≤ iz zs i ∧ iz zs i < n ∧ (0 < i → iz zs (i - 1) < iz zs i)) ?_ (Nat.zero_le _) (fuel_lt (by omega)) ⟨by simp [nI_eq], fun i hi => by omega⟩
    rintro k s hk ⟨rfl, hok⟩
    simp (disch := omega) only [bo_impl_nodesAscend_2, at_int, toN, toN1, w64, nI_eq, e_within, Option.bind_some]
    repeat' (first
      | refine Sat.some ?_
      | fail
      | (refine Sat.gd (by first | exact inR_t (by omega) (by omega) | (simp (disch := omega) only [w64]; exact inR_t (by omega) (by omega))) ?_)
      | (refine Sat.ite (fun h => ?_) (fun h => ?_) <;> try simp only [decide_eq_true_eq, decide_eq_false_iff_not, Bool.not_eq_true', Bool.not_eq_false', inB_i, inB_j, Bool.and_eq_true, Bool.or_eq_true, Bool.and_eq_false_iff, Bool.or_eq_false_iff, El] at h))
    all_goals dsimp only
    all_goals first
      | (refine ⟨by omega, rfl, fun i hi => ?_⟩
         by_cases e : i < k
         · exact hok i e
         · obtain rfl : i = k := by omega
           omega)
      | exact ⟨rfl, decide_eq_false fun g => by have := g k (by omega); omega⟩
      | exact decide_eq_true fun i hi => hok i (by omega)
  · rintro (r | r) hr
    · have hr : asc zs n = true := hr
      exact .some (by rw [hr])
    · obtain ⟨b, u⟩ := r
      have hr : b = false ∧ asc zs n = false := hr
      exact .some (by rw [hr.1, hr.2])
theorem e_l12Nodes (zs : List Int) (hl : Fits zs) : sh_spec_l12Nodes (zs, ()) = some (asc zs 8, ()) := by
  unfold sh_spec_l12Nodes
  refine Sat.out (Sat.bnd (R := fun r => match r with | .inl _ => asc zs 8 = true | .inr y => y.1 = false ∧ asc zs 8 = false) ?_ ?_)
  · refine Sat.count zs.length (fun k s => s = (zs, (k : Int), ()) ∧ ∀ i, i < k → 0 ≤ iz zs i ∧ iz zs i < 8 ∧ (0 < i → iz zs (i - 1) < iz zs i)) ?_ (Nat.zero_le _) (fuel_lt (by omega)) ⟨rfl, fun i hi => by omega⟩
    rintro k s hk ⟨rfl, hok⟩
    simp (disch := omega) only [bo_spec_l12Nodes_2, at_int, toN, toN1, w64, nI_eq, e_l6In, Option.bind_some]
    repeat' (first
      | refine Sat.some ?_
      | fail
      | (refine Sat.gd (by first | exact inR_t (by omega) (by omega) | (simp (disch := omega) only [w64]; exact inR_t (by omega) (by omega))) ?_)
      | (refine Sat.ite (fun h => ?_) (fun h => ?_) <;> try simp only [decide_eq_true_eq, decide_eq_false_iff_not, Bool.not_eq_true', Bool.not_eq_false', inB_i, inB_j, Bool.and_eq_true, Bool.or_eq_true, Bool.and_eq_false_iff, Bool.or_eq_false_iff, El] at h))
    all_goals dsimp only
    all_goals first
      | (refine ⟨by omega, rfl, fun i hi => ?_⟩
         by_cases e : i < k
         · exact hok i e
         · obtain rfl : i = k := by omega
           omega)
      | exact ⟨rfl, decide_eq_false fun g => by have := g k (by omega); omega⟩
      | exact decide_eq_true fun i hi => hok i (by omega)
  · rintro (r | r) hr
    · have hr : asc zs 8 = true := hr
      exact .some (by rw [hr])
    · obtain ⟨b, u⟩ := r
      have hr : b = false ∧ asc zs 8 = false := hr
      exact .some (by rw [hr.1, hr.2])
theorem e_sGraphValid (n : Int) (ls : List Lk) (hl : Fits ls) : sh_spec_GraphValid (n, ls, ()) = some (gv n ls, ()) := by
  unfold sh_spec_GraphValid
  refine Sat.out (Sat.bnd (R := fun r => match r with | .inl x => x = (n, ls, ()) ∧ gv n ls = (inB n 1 8 && decide ((ls.length : Int) ≤ 14)) | .inr y => y.1 = false ∧ gv n ls = false) ?_ ?_)
  · refine Sat.count ls.length (fun k s => s = ((k : Int), n, ls, ()) ∧ (1 ≤ n → n ≤ 8 → ∀ i, i < k → LkAt n ls i)) ?_ (Nat.zero_le _) (fuel_lt (by omega)) ⟨rfl, fun _ _ i hi => by omega⟩
    rintro k s hk ⟨rfl, hok⟩
    simp (disch := omega) only [bo_spec_GraphValid_2, at_lk, toN, toN1, w64, nI_eq, e_l6In, Option.bind_some]
    repeat' (first
      | refine Sat.some ?_
      | fail
      | (refine Sat.gd (by first | exact inR_t (by omega) (by omega) | (simp (disch := omega) only [w64]; exact inR_t (by omega) (by omega))) ?_)
      | (refine Sat.ite (fun h => ?_) (fun h => ?_) <;> try simp only [decide_eq_true_eq, decide_eq_false_iff_not, Bool.not_eq_true', Bool.not_eq_false', inB_i, inB_j, Bool.and_eq_true, Bool.or_eq_true, Bool.and_eq_false_iff, Bool.or_eq_false_iff, El] at h))
    all_goals dsimp only
    all_goals first
      | (refine ⟨rfl, gv_at (k := k) (by omega) fun h1 h2 g => ?_⟩
         unfold LkAt at g
         have e1 : wrap64 (n - 1) = n - 1 := w64 (by omega) (by omega)
         have e2 : wrap64 ((lk ls k).a + 1) = (lk ls k).a + 1 := w64 (by omega) (by omega)
         simp only [e1, e2] at *
         omega)
      | (refine ⟨by omega, rfl, fun h1 h2 i hi => ?_⟩
         by_cases e : i < k
         · exact hok h1 h2 i e
         · obtain rfl : i = k := by omega
           have e1 : wrap64 (n - 1) = n - 1 := w64 (by omega) (by omega)
           simp only [e1] at *
           have e2 : wrap64 ((lk ls i).a + 1) = (lk ls i).a + 1 := w64 (by omega) (by omega)
           simp only [e2] at *
           unfold LkAt
           omega)
      | exact ⟨rfl, gv_end (show ls.length = k by omega) hok ▸ (by rw [show ls.length = k by omega])⟩
  · rintro (r | r) hr
    · have hr : r = (n, ls, ()) ∧ gv n ls = (inB n 1 8 && decide ((ls.length : Int) ≤ 14)) := hr
      obtain ⟨rfl, hr⟩ := hr
      simp only [e_l6In, Option.bind_some, nI_eq, hr]
      cases inB n 1 8 <;> exact .some rfl
    · obtain ⟨b, u⟩ := r
      have hr : b = false ∧ gv n ls = false := hr
      exact .some (by rw [hr.1, hr.2])
theorem gv_rng {n : Int} {ls : List Lk} (h : gv n ls = true) : 1 ≤ n ∧ n ≤ 8 := ⟨(gv_t h).1, (gv_t h).2.1⟩
theorem e_bordersValid (n : Int) (ls : List Lk) (bs : List Int) (hl : Fits ls) (hb : Fits bs) : sh_impl_bordersValid (n, ls, bs, ()) = some (bv n ls bs, ()) := by
  unfold sh_impl_bordersValid
  simp only [e_GraphValid n ls hl, Option.bind_some, nI_eq]
  unfold bv
  cases h : gv n ls with
  | false => rfl
  | true =>
    have := gv_rng h
    simp (disch := omega) only [e_nodesAscend, Option.bind_some, cond_true, Bool.true_and]
    by_cases h0 : 0 < bs.length
    · simp [h0, show (0 : Int) < bs.length by omega]
    · simp [h0, show ¬ (0 : Int) < bs.length by omega]
theorem e_l31Borders (n : Int) (ls : List Lk) (bs : List Int) (hl : Fits ls) (hb : Fits bs) : sh_spec_l31Borders (n, ls, bs, ()) = some (bv n ls bs, ()) := by
  unfold sh_spec_l31Borders
  simp only [e_sGraphValid n ls hl, e_l12Nodes bs hb, Option.bind_some, nI_eq]
  unfold bv
  cases h : gv n ls with
  | false => rfl
  | true =>
    have := gv_rng h
    cases h8 : asc bs 8 with
    | false => simp [asc_8 this.2 h8]
    | true =>
      rcases Nat.eq_zero_or_pos bs.length with h0 | h0
      · simp [h0]
      · have e : wrap64 ((bs.length : Int) - 1) = ((bs.length : Int) - 1) := w64 (by omega) (by omega)
        simp only [e, at_int, toN1, inR_t (show (0 : Int) ≤ (bs.length : Int) - 1 by omega) (show (bs.length : Int) - 1 < bs.length by omega), asc_last rfl h0 h8 this.2]
        simp [h0, show (0 : Int) < bs.length by omega]
theorem e_l1Node (n m : Int) (ls : List Lk) (h0 : 0 ≤ n) (h1 : n ≤ 10000) : sh_spec_l1Node (n, ls, m, ()) = some (inB m 0 (n - 1), ()) := by
  unfold sh_spec_l1Node
  simp (disch := omega) only [e_l6In, w64, Option.bind_some]
theorem e_hasNode (n m : Int) (ls : List Lk) (hl : Fits ls) : sh_impl_Graph_hasNode (n, ls, m, ()) = some (gv n ls && inB m 0 (n - 1), ()) := by
  unfold sh_impl_Graph_hasNode
  simp only [e_GraphValid n ls hl, Option.bind_some]
  cases h : gv n ls with
  | false => rfl
  | true =>
    have := gv_rng h
    simp (disch := omega) only [e_within, w64, Option.bind_some, cond_true, Bool.true_and]
/-! ### The same -/
theorem eqInts_self : ∀ xs : List Int, eqInts xs xs = true
  | [] => rfl
  | x :: r => by simp [eqInts, eqInts_self r]
theorem e_sameGraph (n : Int) (ls : List Lk) (hl : Fits ls) : sh_laws_sameGraph (n, ls, n, ls, ()) = some (true, ()) := by
  unfold sh_laws_sameGraph
  simp only [decide_true, Bool.not_true, cond_false]
  refine Sat.out (Sat.bnd (R := fun r => match r with | .inl _ => True | .inr _ => False) ?_ ?_)
  · refine Sat.count ls.length (fun k s => s = ((k : Int), n, ls, n, ls, ())) ?_ (Nat.zero_le _) (fuel_lt (by omega)) rfl
    rintro k s hk rfl
    simp (disch := omega) only [bo_laws_sameGraph_4, at_lk, toN, w64, nI_eq, eqInts_self, Bool.not_true, cond_false]
    repeat' (first
      | refine Sat.some ?_
      | fail
      | (refine Sat.gd (by first | exact inR_t (by omega) (by omega) | (simp (disch := omega) only [w64]; exact inR_t (by omega) (by omega))) ?_)
      | (refine Sat.ite (fun h => ?_) (fun h => ?_) <;> try simp only [decide_eq_true_eq, decide_eq_false_iff_not, Bool.not_eq_true', Bool.not_eq_false', inB_i, inB_j, Bool.and_eq_true, Bool.or_eq_true, Bool.and_eq_false_iff, Bool.or_eq_false_iff, El] at h))
    all_goals dsimp only
    · exact ⟨by omega, rfl⟩
  · rintro (r | r) hr
    · exact .some rfl
    · exact hr.elim
theorem e_sameInts (zs : List Int) (hl : Fits zs) : sh_laws_sameInts (zs, zs, ()) = some (true, ()) := by
  unfold sh_laws_sameInts
  simp only [decide_true, Bool.not_true, cond_false]
  refine Sat.out (Sat.bnd (R := fun r => match r with | .inl _ => True | .inr _ => False) ?_ ?_)
  · refine Sat.count zs.length (fun k s => s = (zs, zs, (k : Int), ())) ?_ (Nat.zero_le _) (fuel_lt (by omega)) rfl
    rintro k s hk rfl
    simp (disch := omega) only [bo_laws_sameInts_4, at_int, toN, w64, nI_eq, decide_true, Bool.not_true, cond_false]
    repeat' (first
      | refine Sat.some ?_
      | fail
      | (refine Sat.gd (by first | exact inR_t (by omega) (by omega) | (simp (disch := omega) only [w64]; exact inR_t (by omega) (by omega))) ?_)
      | (refine Sat.ite (fun h => ?_) (fun h => ?_) <;> try simp only [decide_eq_true_eq, decide_eq_false_iff_not, Bool.not_eq_true', Bool.not_eq_false', inB_i, inB_j, Bool.and_eq_true, Bool.or_eq_true, Bool.and_eq_false_iff, Bool.or_eq_false_iff, El] at h))
    all_goals dsimp only
    · exact ⟨by omega, rfl⟩
  · rintro (r | r) hr
    · exact .some rfl
    · exact hr.elim
end Go.Proofs.Ytjdebphkndfolaa

/- What the program's functions on links, neighbours and distances answer, in plain words. -/
namespace Go.Proofs.Ytjdebphkndfolaa
open Go.RowKit
set_option linter.unusedSimpArgs false
set_option linter.unusedVariables false

theorem e_l1Link (n : Int) (ls : List Lk) (a b : Int) (hl : Fits ls) : sh_spec_l1Link (n, ls, a, b, ()) = some (lof ls a b, ()) := by
  unfold sh_spec_l1Link
  refine Sat.out (Sat.bnd (R := fun r => match r with | .inl _ => lof ls a b = -1 | .inr y => y.1 = lof ls a b) ?_ ?_)
  · refine Sat.count ls.length (fun k s => s = (a, b, (k : Int), n, ls, ()) ∧ ∀ i, i < k → hitB (min a b) (max a b) (lk ls i) = false) ?_ (Nat.zero_le _) (fuel_lt (by omega)) ⟨rfl, fun i hi => by omega⟩
    rintro k s hk ⟨rfl, hok⟩
    simp (disch := omega) only [bo_spec_l1Link_2, at_lk, toN, w64, nI_eq]
    repeat' (first
      | refine Sat.some ?_
      | fail
      | (refine Sat.gd (by first | exact inR_t (by omega) (by omega) | (simp (disch := omega) only [w64]; exact inR_t (by omega) (by omega))) ?_)
      | (refine Sat.ite (fun h => ?_) (fun h => ?_) <;> try simp only [decide_eq_true_eq, decide_eq_false_iff_not, Bool.not_eq_true', Bool.not_eq_false', inB_i, inB_j, Bool.and_eq_true, Bool.or_eq_true, Bool.and_eq_false_iff, Bool.or_eq_false_iff, El] at h))
    all_goals try dsimp only
    all_goals first
      | (exact (lof_hit (by omega) (hit_yes (by assumption) (by assumption)) hok).symm)
      | (refine ⟨by omega, rfl, fun i hi => ?_⟩
         by_cases e : i < k
         · exact hok i e
         · obtain rfl : i = k := by omega
           exact hit_no (by omega))
      | exact lof_miss fun i hi => hok i (by omega)
  · rintro (r | r) hr
    · have hr : lof ls a b = -1 := hr
      exact .some (by rw [hr])
    · obtain ⟨z, u⟩ := r
      have hr : z = lof ls a b := hr
      exact .some (by rw [hr])
theorem e_linkOf (n : Int) (ls : List Lk) (a b : Int) (hl : Fits ls) : sh_impl_Graph_linkOf (n, ls, a, b, ()) = some (lof ls a b, ()) := by
  unfold sh_impl_Graph_linkOf sh_slices_IndexFunc_impl_Link_impl_Link_Graph_linkOf_1
  refine Sat.out (Sat.bnd (R := fun r => r.1 = lof ls a b) (Sat.bnd (R := fun r => match r with | .inl _ => lof ls a b = -1 | .inr y => y.1 = lof ls a b) ?_ ?_) ?_)
  · refine Sat.count ls.length (fun k s => s = (ls, a, b, (ls.length : Int), (k : Int), ()) ∧ ∀ i, i < k → hitB (min a b) (max a b) (lk ls i) = false) ?_ (Nat.zero_le _) (fuel_lt (by omega)) ⟨by simp [nI_eq], fun i hi => by omega⟩
    rintro k s hk ⟨rfl, hok⟩
    have e1 : ∀ x y z p q : Int, sh_impl_Graph_linkOf_1 (x, y, z, p, q, ()) = some (decide (x = min p q) && decide (y = max p q), ()) := fun x y z p q => by
      unfold sh_impl_Graph_linkOf_1
      by_cases h : x = min p q <;> simp [h]
    simp (disch := omega) only [bo_slices_IndexFunc_impl_Link_impl_Link_Graph_linkOf_1_2, at_lk, toN, w64, nI_eq, e1, Option.bind_some]
    repeat' (first
      | refine Sat.some ?_
      | fail
      | (refine Sat.gd (by first | exact inR_t (by omega) (by omega) | (simp (disch := omega) only [w64]; exact inR_t (by omega) (by omega))) ?_)
      | (refine Sat.ite (fun h => ?_) (fun h => ?_) <;> try simp only [decide_eq_true_eq, decide_eq_false_iff_not, Bool.not_eq_true', Bool.not_eq_false', inB_i, inB_j, Bool.and_eq_true, Bool.or_eq_true, Bool.and_eq_false_iff, Bool.or_eq_false_iff, El] at h))
    all_goals try dsimp only
    all_goals first
      | (exact (lof_hit (by omega) (hit_yes (by omega) (by omega)) hok).symm)
      | (refine ⟨by omega, rfl, fun i hi => ?_⟩
         by_cases e : i < k
         · exact hok i e
         · obtain rfl : i = k := by omega
           exact hit_no (by omega))
      | exact lof_miss fun i hi => hok i (by omega)
  · rintro (r | r) hr
    · have hr : lof ls a b = -1 := hr
      exact .some (by rw [hr])
    · exact .some hr
  · rintro ⟨z, u⟩ hr
    have hr : z = lof ls a b := hr
    exact .some (by rw [hr])
/-- The link's index, where the graph is valid. -/
def glink (n : Int) (ls : List Lk) (a b : Int) : Int := if gv n ls then lof ls a b else -1
theorem e_GraphLink (n : Int) (ls : List Lk) (a b : Int) (hl : Fits ls) : sh_impl_GraphLink (n, ls, a, b, ()) = some (glink n ls a b, ()) := by
  unfold sh_impl_GraphLink glink
  simp only [e_GraphValid n ls hl, e_linkOf n ls a b hl, Option.bind_some]
  cases gv n ls <;> rfl
theorem e_other (a b c n : Int) : sh_impl_Link_other (a, b, c, n, ()) = some (otherE ⟨a, b, c⟩ n, isEnd ⟨a, b, c⟩ n, ()) := by
  unfold sh_impl_Link_other otherE isEnd
  by_cases h : n = a
  · simp [h]
  · by_cases h' : n = b
    · subst h'; simp [h]
    · simp [h, h']
theorem lim {a : Nat} (h : a ≤ 33554431) : decide (a + 1 ≤ 33554432) = true := decide_eq_true (by omega)
theorem e_neighbours (n : Int) (ls : List Lk) (m : Int) (hl : ls.length ≤ 16777216) : sh_impl_Graph_neighbours (n, ls, m, ()) = some (sortI (others ls m ls.length), ()) := by
  unfold sh_impl_Graph_neighbours
  refine Sat.out (Sat.bnd (R := fun r => match r with | .inl x => x.1 = others ls m ls.length | .inr _ => False) ?_ ?_)
  · refine Sat.count ls.length (fun k s => s = (m, ls, (ls.length : Int), (k : Int), others ls m k, ())) ?_ (Nat.zero_le _) (fuel_lt (by omega)) (by simp [nI_eq, others])
    rintro k s hk rfl
    have hlen := others_len ls m k
    simp (disch := omega) only [bo_impl_Graph_neighbours_3, at_lk, toN, w64, nI_eq, e_other, Option.bind_some, List.length_singleton]
    repeat' (first
      | refine Sat.some ?_
      | (refine Sat.gd (decide_eq_true (by omega)) ?_)
      | (refine Sat.gd (by first | exact inR_t (by omega) (by omega) | (simp (disch := omega) only [w64]; exact inR_t (by omega) (by omega))) ?_)
      | (refine Sat.ite (fun h => ?_) (fun h => ?_) <;> try simp only [decide_eq_true_eq, decide_eq_false_iff_not, Bool.not_eq_true', Bool.not_eq_false', inB_i, inB_j, Bool.and_eq_true, Bool.or_eq_true, Bool.and_eq_false_iff, Bool.or_eq_false_iff, El] at h))
    all_goals try dsimp only
    all_goals first
      | (refine ⟨by omega, ?_⟩
         rw [others_succ ls m k (by omega)]
         simp [*])
      | (obtain rfl : k = ls.length := by omega
         rfl)
  · rintro (r | r) hr
    · have hr : r.1 = others ls m ls.length := hr
      show Sat ((sh_slices_Sort_int_int (r.1, ())).bind _) _
      rw [hr]
      have hlen := others_len ls m ls.length
      unfold sh_slices_Sort_int_int
      rw [decide_eq_true (show (others ls m ls.length).length ≤ 16777216 by omega)]
      exact .some rfl
    · exact hr.elim
theorem gv14 {n : Int} {ls : List Lk} (h : gv n ls = true) : ls.length ≤ 14 := (gv_t h).2.2.1
theorem e_GraphNeighbours (n : Int) (ls : List Lk) (m : Int) (hl : Fits ls) : sh_impl_GraphNeighbours (n, ls, m, ()) = some (if gv n ls && inB m 0 (n - 1) then sortI (others ls m ls.length) else [], ()) := by
  unfold sh_impl_GraphNeighbours
  simp only [e_hasNode n m ls hl, Option.bind_some]
  cases h : gv n ls with
  | false => rfl
  | true =>
    have := gv14 h
    rw [e_neighbours n ls m (by omega)]
    cases inB m 0 (n - 1) <;> rfl
theorem e_sGraphNeighbours (n : Int) (ls : List Lk) (m : Int) (hl : Fits ls) : sh_spec_GraphNeighbours (n, ls, m, ()) = some (if gv n ls then nbS ls m 8 else [], ()) := by
  unfold sh_spec_GraphNeighbours
  refine Sat.out (Sat.bnd (R := fun r => match r with | .inl x => x.1 = if gv n ls then nbS ls m 8 else [] | .inr _ => False) ?_ ?_)
  · cases hg : gv n ls with
    | false =>
      refine Sat.count 0 (fun k s => s = (m, (0 : Int), n, ls, ([] : List Int), ())) ?_ (Nat.zero_le _) (fuel_lt (by omega)) rfl
      rintro k s hk rfl
      simp only [bo_spec_GraphNeighbours_3, e_sGraphValid n ls hl, Option.bind_some, hg]
      exact .some (by simp)
    | true =>
      refine Sat.count 8 (fun k s => s = (m, (k : Int), n, ls, nbS ls m k, ())) ?_ (Nat.zero_le _) (fuel_lt (by omega)) rfl
      rintro k s hk rfl
      have hlen := nbS_len ls m k
      simp (disch := omega) only [bo_spec_GraphNeighbours_3, e_sGraphValid n ls hl, e_l1Link _ _ _ _ hl, Option.bind_some, hg, w64, List.length_singleton, cond_true]
      repeat' (first
        | refine Sat.some ?_
        | (refine Sat.gd (decide_eq_true (by omega)) ?_)
        | (refine Sat.gd (by first | exact inR_t (by omega) (by omega) | (simp (disch := omega) only [w64]; exact inR_t (by omega) (by omega))) ?_)
        | (refine Sat.ite (fun h => ?_) (fun h => ?_) <;> try simp only [decide_eq_true_eq, decide_eq_false_iff_not, Bool.not_eq_true', Bool.not_eq_false', inB_i, inB_j, Bool.and_eq_true, Bool.or_eq_true, Bool.and_eq_false_iff, Bool.or_eq_false_iff, El] at h))
      all_goals try dsimp only
      all_goals first
        | (refine ⟨by omega, ?_⟩
           rw [nbS_succ]
           simp [*])
        | (obtain rfl : k = 8 := by omega
           rfl)
  · rintro (r | r) hr
    · have hr : r.1 = if gv n ls then nbS ls m 8 else [] := hr
      exact .some (by rw [hr])
    · exact hr.elim
/-! ### Distances -/
/-- One relaxation, and what goes on behind it. -/
def rx {β : Type} (d : List Int) (x y : Nat) (c : Int) (K : List Int → Option β) : Option β := (bif decide (0 ≤ iz d x) then (bif decide (iz d y < 0) then K (d.set y (wrap64 (iz d x + c))) else (bif decide (wrap64 (iz d x + c) < iz d y) then K (d.set y (wrap64 (iz d x + c))) else K d)) else K d)
theorem rx_eq {β : Type} {d : List Int} {x y : Nat} {c : Int} (K : List Int → Option β) (h1 : iz d x ≤ 10000) (hc : 0 ≤ c ∧ c ≤ 20) : rx d x y c K = K (relax d x y c) := by
  unfold rx relax relaxB
  by_cases h0 : 0 ≤ iz d x
  · have e : wrap64 (iz d x + c) = iz d x + c := w64 (by omega) (by omega)
    by_cases h2 : iz d y < 0
    · simp [h0, h2, e]
    · by_cases h3 : iz d x + c < iz d y <;> simp [h0, h2, h3, e]
  · simp [h0]
end Go.Proofs.Ytjdebphkndfolaa

/- What the program's functions on distances and areas answer, in plain words. -/
namespace Go.Proofs.Ytjdebphkndfolaa
open Go.RowKit
set_option linter.unusedSimpArgs false
set_option linter.unusedVariables false
set_option maxRecDepth 100000

section
variable {n : Nat} {ls : List Lk}
theorem inR_f {z : Int} {n : Nat} (h : ¬ (0 ≤ z ∧ z < n)) : inR z n = false := by
  unfold inR
  by_cases h0 : 0 ≤ z
  · simp [h0, show ¬ z < (n : Int) from fun e => h ⟨h0, e⟩]
  · simp [h0]
theorem e_round_i (h : GV n ls) {d : List Int} (hd : d.length = n) {m : Int} (hb : Bd d m) (hm : m ≤ 9000) {k : Nat} (hk : k < ls.length) (p q r : Int) (t : List Lk) : bo_impl_Graph_distances_6 (p, q, ls, (ls.length : Int), (k : Int), r, t, d, ()) = some (.inl (p, q, ls, (ls.length : Int), ((k + 1 : Nat) : Int), r, t, relaxL d (lk ls k), ())) := by
  obtain ⟨x, y, hx, hy, hxy, hyn, hc1, hc2⟩ := h.at_ hk
  have h14 := h.2.2.1
  have gk : inR (k : Int) ls.length = true := inR_t (by omega) (by omega)
  have g1 : inR (lk ls k).a d.length = true := inR_t (by omega) (by omega)
  have g2 : inR (lk ls k).b d.length = true := inR_t (by omega) (by omega)
  have hlt : (k : Int) < ls.length := by omega
  have hA : iz d (lk ls k).a.toNat ≤ 10000 := by have := (hb (lk ls k).a.toNat).2; omega
  have hB : iz (relax d (lk ls k).a.toNat (lk ls k).b.toNat (lk ls k).c) (lk ls k).b.toNat ≤ 10000 := by have := (relax_bd hb (lk ls k).a.toNat (lk ls k).b.toNat (lk ls k).c hc1 hc2 (lk ls k).b.toNat).2; omega
  have hC : 0 ≤ (lk ls k).c ∧ (lk ls k).c ≤ 20 := by omega
  have ek : wrap64 ((k : Int) + 1) = (k : Int) + 1 := w64 (by omega) (by omega)
  simp only [bo_impl_Graph_distances_6, toN, at_lk, at_int, List.length_set, g1, g2, gk, cond_true, decide_eq_true hlt, ek]
  show rx (β := (Int × Int × List Lk × Int × Int × Int × List Lk × List Int × Unit) ⊕ ((Int × Int × Int × List Lk × List Int × Unit) ⊕ Unit)) d (lk ls k).a.toNat (lk ls k).b.toNat (lk ls k).c (fun d' => rx d' (lk ls k).b.toNat (lk ls k).a.toNat (lk ls k).c (fun d'' => some (.inl (p, q, ls, (ls.length : Int), (k : Int) + 1, r, t, d'', ())))) = _
  rw [rx_eq _ hA hC, rx_eq _ hB hC]
  rfl
theorem e_round_s (h : GV n ls) {d : List Int} (hd : d.length = n) {m : Int} (hb : Bd d m) (hm : m ≤ 9000) {k : Nat} (hk : k < ls.length) (p q : Int) : bo_spec_l2Distances_11 (p, (k : Int), q, ls, d, ()) = some (.inl (p, ((k + 1 : Nat) : Int), q, ls, relaxL d (lk ls k), ())) := by
  obtain ⟨x, y, hx, hy, hxy, hyn, hc1, hc2⟩ := h.at_ hk
  have h14 := h.2.2.1
  have gk : inR (k : Int) ls.length = true := inR_t (by omega) (by omega)
  have g1 : inR (lk ls k).a d.length = true := inR_t (by omega) (by omega)
  have g2 : inR (lk ls k).b d.length = true := inR_t (by omega) (by omega)
  have hlt : (k : Int) < ls.length := by omega
  have hA : iz d (lk ls k).a.toNat ≤ 10000 := by have := (hb (lk ls k).a.toNat).2; omega
  have hB : iz (relax d (lk ls k).a.toNat (lk ls k).b.toNat (lk ls k).c) (lk ls k).b.toNat ≤ 10000 := by have := (relax_bd hb (lk ls k).a.toNat (lk ls k).b.toNat (lk ls k).c hc1 hc2 (lk ls k).b.toNat).2; omega
  have hC : 0 ≤ (lk ls k).c ∧ (lk ls k).c ≤ 20 := by omega
  have ek : wrap64 ((k : Int) + 1) = (k : Int) + 1 := w64 (by omega) (by omega)
  simp only [bo_spec_l2Distances_11, toN, at_lk, at_int, List.length_set, g1, g2, gk, cond_true, nI_eq, decide_eq_true hlt, ek]
  show rx (β := (Int × Int × Int × List Lk × List Int × Unit) ⊕ ((Int × Int × List Lk × List Int × Unit) ⊕ Unit)) d (lk ls k).a.toNat (lk ls k).b.toNat (lk ls k).c (fun d' => rx d' (lk ls k).b.toNat (lk ls k).a.toNat (lk ls k).c (fun d'' => some (.inl (p, (k : Int) + 1, q, ls, d'', ())))) = _
  rw [rx_eq _ hA hC, rx_eq _ hB hC]
  rfl
end
end Go.Proofs.Ytjdebphkndfolaa

/- What more of the program's functions on distances and areas answer, in plain words. -/
namespace Go.Proofs.Ytjdebphkndfolaa
open Go.RowKit
set_option linter.unusedSimpArgs false
set_option linter.unusedVariables false
set_option maxRecDepth 100000

section
variable {n : Nat} {ls : List Lk}
theorem e_distances (h : GV n ls) {f : Nat} (hf : f < n) : sh_impl_Graph_distances ((n : Int), ls, (f : Int), ()) = some (dists n ls f, ()) := by
  have h14 := h.2.2.1
  have h8 := h.2.1
  unfold sh_impl_Graph_distances
  have er : sh_slices_Repeat_int_int ([-1], (n : Int), ()) = some (List.replicate n (-1), ()) := by
    show (bif decide ((0 : Int) < n ∧ (n : Int) ≤ 64) then _ else none) = _
    rw [decide_eq_true (show (0 : Int) < n ∧ (n : Int) ≤ 64 by omega)]
    rfl
  simp only [er, Option.bind_some, List.length_replicate, inR_t (show (0 : Int) ≤ f by omega) (show (f : Int) < n by omega), cond_true, toN]
  refine Sat.out (Sat.bnd (R := fun r => match r with | .inl x => x.1 = dists n ls f | .inr _ => False) ?_ ?_)
  · refine Sat.count n (fun k s => s = ((n : Int), (k : Int), (n : Int), ls, dst n ls f k 0, ())) ?_ (Nat.zero_le _) (fuel_lt (by omega)) rfl
    rintro k s hk rfl
    simp (disch := omega) only [bo_impl_Graph_distances_4, nI_eq]
    refine Sat.ite (fun hlt => ?_) (fun hlt => ?_)
    · have hlt := of_decide_eq_true hlt
      refine Sat.bnd (R := fun r => match r with | .inl x => x = ((n : Int), (k : Int), (n : Int), ls, dst n ls f k ls.length, ()) | .inr _ => False) ?_ ?_
      · refine Sat.count ls.length (fun i s => s = ((n : Int), (k : Int), ls, (ls.length : Int), (i : Int), (n : Int), ls, dst n ls f k i, ())) ?_ (Nat.zero_le _) (fuel_lt (by omega)) rfl
        rintro i s hi rfl
        by_cases hil : i < ls.length
        · rw [e_round_i h (dst_len _ _ _ _ _) (dst_bd n ls f k i h.cheap h14 (by omega)) (by omega) hil]
          exact .some ⟨hil, by rw [dst_succ _ _ _ _ _ hil]⟩
        · obtain rfl : i = ls.length := by omega
          unfold bo_impl_Graph_distances_6
          simp only [decide_eq_false (show ¬ (ls.length : Int) < ls.length by omega), cond_false]
          exact .some rfl
      · rintro (r | r) hr
        · obtain rfl := hr
          refine .some ⟨by omega, ?_⟩
          dsimp only
          rw [dst_end, w64 (by omega) (by omega)]
          rfl
        · exact hr.elim
    · have hlt := of_decide_eq_false hlt
      obtain rfl : k = n := by omega
      exact .some rfl
  · rintro (r | r) hr
    · have hr : r.1 = dists n ls f := hr
      exact .some (by rw [hr])
    · exact hr.elim
theorem e_l2Distances (h : GV n ls) {f : Nat} (hf : f < n) : sh_spec_l2Distances ((n : Int), ls, (f : Int), ()) = some (dists n ls f, ()) := by
  have h14 := h.2.2.1
  have h8 := h.2.1
  unfold sh_spec_l2Distances
  refine Sat.out (Sat.bnd (R := fun r => match r with | .inl x => x = ((f : Int), (n : Int), ls, List.replicate n (-1), ()) | .inr _ => False) ?_ ?_)
  · refine Sat.count n (fun k s => s = ((f : Int), (k : Int), (n : Int), ls, List.replicate k (-1), ())) ?_ (Nat.zero_le _) (fuel_lt (by omega)) rfl
    rintro k s hk rfl
    simp (disch := omega) only [bo_spec_l2Distances_3, w64, List.length_singleton, List.length_replicate]
    repeat' (first
      | refine Sat.some ?_
      | (refine Sat.gd (decide_eq_true (by omega)) ?_)
      | (refine Sat.gd (by first | exact inR_t (by omega) (by omega) | (simp (disch := omega) only [w64]; exact inR_t (by omega) (by omega))) ?_)
      | (refine Sat.ite (fun h => ?_) (fun h => ?_) <;> try simp only [decide_eq_true_eq, decide_eq_false_iff_not, Bool.not_eq_true', Bool.not_eq_false', inB_i, inB_j, Bool.and_eq_true, Bool.or_eq_true, Bool.and_eq_false_iff, Bool.or_eq_false_iff, El] at h))
    all_goals try dsimp only
    · exact ⟨by omega, by rw [List.replicate_succ']; rfl⟩
    · obtain rfl : k = n := by omega
      rfl
  rintro (r | r) hr
  case inr => exact hr.elim
  obtain rfl := hr
  simp only [List.length_replicate, inR_t (show (0 : Int) ≤ f by omega) (show (f : Int) < n by omega), cond_true, toN]
  refine Sat.bnd (R := fun r => match r with | .inl x => x.1 = dists n ls f | .inr _ => False) ?_ ?_
  · refine Sat.count n (fun k s => s = ((k : Int), (n : Int), ls, dst n ls f k 0, ())) ?_ (Nat.zero_le _) (fuel_lt (by omega)) rfl
    rintro k s hk rfl
    simp (disch := omega) only [bo_spec_l2Distances_8, nI_eq]
    refine Sat.ite (fun hlt => ?_) (fun hlt => ?_)
    · have hlt := of_decide_eq_true hlt
      refine Sat.bnd (R := fun r => match r with | .inl x => x = ((k : Int), (n : Int), ls, dst n ls f k ls.length, ()) | .inr _ => False) ?_ ?_
      · refine Sat.count ls.length (fun i s => s = ((k : Int), (i : Int), (n : Int), ls, dst n ls f k i, ())) ?_ (Nat.zero_le _) (fuel_lt (by omega)) rfl
        rintro i s hi rfl
        by_cases hil : i < ls.length
        · rw [e_round_s h (dst_len _ _ _ _ _) (dst_bd n ls f k i h.cheap h14 (by omega)) (by omega) hil]
          exact .some ⟨hil, by rw [dst_succ _ _ _ _ _ hil]⟩
        · obtain rfl : i = ls.length := by omega
          unfold bo_spec_l2Distances_11
          simp only [nI_eq, decide_eq_false (show ¬ (ls.length : Int) < ls.length by omega), cond_false]
          exact .some rfl
      · rintro (r | r) hr
        · obtain rfl := hr
          refine .some ⟨by omega, ?_⟩
          dsimp only
          rw [dst_end, w64 (by omega) (by omega)]
          rfl
        · exact hr.elim
    · have hlt := of_decide_eq_false hlt
      obtain rfl : k = n := by omega
      exact .some rfl
  · rintro (r | r) hr
    · have hr : r.1 = dists n ls f := hr
      exact .some (by rw [hr])
    · exact hr.elim
end
/-- The distances that the program answers. -/
def distsV (n : Int) (ls : List Lk) (t : Int) : List Int := if gv n ls && inB t 0 (n - 1) then dists n.toNat ls t.toNat else []
theorem gv_nat {n : Int} {ls : List Lk} (h : gv n ls = true) : ∃ N : Nat, n = N ∧ GV N ls := by
  have := gv_rng h
  exact ⟨n.toNat, by omega, by rw [show ((n.toNat : Nat) : Int) = n by omega]; exact gv_t h⟩
theorem e_Distances (n t : Int) (ls : List Lk) (hl : Fits ls) : sh_impl_Distances (n, ls, t, ()) = some (distsV n ls t, ()) := by
  unfold sh_impl_Distances distsV
  simp only [e_hasNode n t ls hl, Option.bind_some]
  cases h : gv n ls with
  | false => rfl
  | true =>
    obtain ⟨N, rfl, hG⟩ := gv_nat h
    cases ht : inB t 0 ((N : Int) - 1) with
    | false => rfl
    | true =>
      have ht := inB_t ht
      obtain ⟨T, rfl⟩ := Int.eq_ofNat_of_zero_le ht.1
      simp only [e_distances hG (show T < N by omega), Option.bind_some]
      rfl
theorem e_dist {n : Nat} {ls : List Lk} (h : GV n ls) {a b : Nat} (ha : a < n) (hb : b < n) : sh_laws_dist ((n : Int), ls, (a : Int), (b : Int), ()) = some (iz (dists n ls a) b, ()) := by
  unfold sh_laws_dist
  have hg : gv n ls = true := decide_eq_true h
  have hi : inB (a : Int) 0 ((n : Int) - 1) = true := inB_mk (by omega)
  have e : distsV (n : Int) ls (a : Int) = dists n ls a := by simp [distsV, hg, hi]
  simp only [e_Distances _ _ _ (show Fits ls by have := h.2.2.1; unfold Fits; omega), Option.bind_some, e, dists_len, inR_t (show (0 : Int) ≤ b by omega) (show (b : Int) < n by omega), cond_true, at_int, toN]
/-! ### Summaries and routes -/
theorem e_AreaSummary (n t : Int) (ls : List Lk) (bs : List Int) (hl : Fits ls) (hb : Fits bs) : sh_impl_AreaSummary (n, ls, bs, t, ()) = some (summ n ls bs t, ()) := by
  unfold sh_impl_AreaSummary
  simp only [e_bordersValid n ls bs hl hb, e_hasNode n t ls hl, Option.bind_some]
  cases hv : bv n ls bs with
  | false => rw [summ_no (by simp [hv])]; rfl
  | true =>
  obtain ⟨hg, h0, ha⟩ := bv_t hv
  have hgv : gv n ls = true := decide_eq_true hg
  obtain ⟨N, rfl, hG⟩ := gv_nat hgv
  cases ht : inB t 0 ((N : Int) - 1) with
  | false => rw [summ_no (by simp [ht])]; simp [hgv]
  | true =>
  have h8 := hG.2.1
  obtain ⟨T, rfl⟩ := Int.eq_ofNat_of_zero_le (inB_t ht).1
  rw [summ_ok hv ht rfl]
  have ht2 := ht
  have ht := inB_t ht
  simp only [hgv, Bool.and_self, Bool.not_true, cond_false, e_distances hG (show T < N by omega), Option.bind_some, nI_eq]
  have hbl : ∀ i, i < bs.length → i ≤ iz bs i := by
    intro i
    induction i with
    | zero => intro hi; exact (ha 0 hi).1
    | succ i ih => intro hi; have := ih (by omega); have := (ha (i + 1) hi).2.2 (by omega); simp only [Nat.add_sub_cancel] at this; omega
  have hb8 : bs.length ≤ 8 := by
    have := hbl (bs.length - 1) (by omega)
    have := (ha (bs.length - 1) (by omega)).2.1
    omega
  refine Sat.out (Sat.bnd (R := fun r => match r with | .inl x => x.1 = summL (dists N ls T) bs bs.length | .inr _ => False) ?_ ?_)
  · refine Sat.count bs.length (fun k s => s = (bs, (bs.length : Int), (k : Int), summL (dists N ls T) bs k, dists N ls T, ())) ?_ (Nat.zero_le _) (fuel_lt (by omega)) rfl
    rintro k s hk rfl
    have hlen := summL_len (dists N ls T) bs k hk
    by_cases hlt : k < bs.length
    · obtain ⟨j, hj⟩ := Int.eq_ofNat_of_zero_le (ha k hlt).1
      have hj2 := (ha k hlt).2.1
      simp (disch := omega) only [bo_impl_AreaSummary_5, at_int, toN, w64, List.length_singleton, hj, dists_len]
      repeat' (first
        | refine Sat.some ?_
        | (refine Sat.gd (decide_eq_true (by omega)) ?_)
        | (refine Sat.gd (by first | exact inR_t (by omega) (by omega) | (simp (disch := omega) only [w64]; exact inR_t (by omega) (by omega))) ?_)
        | (refine Sat.ite (fun h => ?_) (fun h => ?_) <;> try simp only [decide_eq_true_eq, decide_eq_false_iff_not, Bool.not_eq_true', Bool.not_eq_false', inB_i, inB_j, Bool.and_eq_true, Bool.or_eq_true, Bool.and_eq_false_iff, Bool.or_eq_false_iff, El] at h))
      all_goals try dsimp only
      · exact ⟨by omega, by rw [summL_succ _ _ _ _ hlt hj]; rfl⟩
    · obtain rfl : k = bs.length := by omega
      unfold bo_impl_AreaSummary_5
      simp only [decide_eq_false (show ¬ (bs.length : Int) < bs.length by omega), cond_false]
      exact .some rfl
  · rintro (r | r) hr
    · have hr : r.1 = summL (dists N ls T) bs bs.length := hr
      exact .some (by rw [hr])
    · exact hr.elim
theorem asc_len {zs : List Int} {n : Nat} (ha : Asc zs n) : zs.length ≤ n := by
  have hbl : ∀ i, i < zs.length → i ≤ iz zs i := by
    intro i
    induction i with
    | zero => intro hi; exact (ha 0 hi).1
    | succ i ih => intro hi; have := ih (by omega); have := (ha (i + 1) hi).2.2 (by omega); simp only [Nat.add_sub_cancel] at this; omega
  rcases Nat.eq_zero_or_pos zs.length with h | h
  · omega
  · have := hbl (zs.length - 1) (by omega)
    have := (ha (zs.length - 1) (by omega)).2.1
    omega
theorem e_sAreaSummary (n t : Int) (ls : List Lk) (bs : List Int) (hl : Fits ls) (hb : Fits bs) : sh_spec_AreaSummary (n, ls, bs, t, ()) = some (summ n ls bs t, ()) := by
  unfold sh_spec_AreaSummary
  refine Sat.out (Sat.bnd (R := fun r => match r with | .inl x => x.1 = summ n ls bs t | .inr _ => False) ?_ ?_)
  · cases hv : bv n ls bs with
    | false =>
      refine Sat.count 0 (fun k s => s = (bs, t, (0 : Int), n, ls, ([] : List Int), ())) ?_ (Nat.zero_le _) (fuel_lt (by omega)) rfl
      rintro k s hk rfl
      simp only [bo_spec_AreaSummary_3, e_l31Borders n ls bs hl hb, Option.bind_some, hv]
      rw [summ_no (by simp [hv])]
      cases decide ((0 : Int) < nI bs.length) <;> exact .some rfl
    | true =>
    obtain ⟨hg, h0, ha⟩ := bv_t hv
    have hgv : gv n ls = true := decide_eq_true hg
    obtain ⟨N, rfl, hG⟩ := gv_nat hgv
    have h8 := hG.2.1
    have hb8 := asc_len ha
    cases ht : inB t 0 ((N : Int) - 1) with
    | false =>
      refine Sat.count 0 (fun k s => s = (bs, t, (0 : Int), (N : Int), ls, ([] : List Int), ())) ?_ (Nat.zero_le _) (fuel_lt (by omega)) rfl
      rintro k s hk rfl
      simp only [bo_spec_AreaSummary_3, e_l31Borders _ ls bs hl hb, e_l1Node (N : Int) t ls (by omega) (by omega), Option.bind_some, hv, ht]
      rw [summ_no (by simp [ht])]
      cases decide ((0 : Int) < nI bs.length) <;> exact .some rfl
    | true =>
    obtain ⟨T, rfl⟩ := Int.eq_ofNat_of_zero_le (inB_t ht).1
    rw [summ_ok hv ht rfl]
    have ht2 := inB_t ht
    refine Sat.count bs.length (fun k s => s = (bs, (T : Int), (k : Int), (N : Int), ls, summL (dists N ls T) bs k, ())) ?_ (Nat.zero_le _) (fuel_lt (by omega)) rfl
    rintro k s hk rfl
    have hlen := summL_len (dists N ls T) bs k hk
    simp only [bo_spec_AreaSummary_3, e_l31Borders _ ls bs hl hb, e_l1Node (N : Int) T ls (by omega) (by omega), e_l2Distances hG (show T < N by omega), Option.bind_some, hv, ht, nI_eq, cond_true]
    by_cases hlt : k < bs.length
    · obtain ⟨j, hj⟩ := Int.eq_ofNat_of_zero_le (ha k hlt).1
      have hj2 := (ha k hlt).2.1
      simp (disch := omega) only [at_int, toN, w64, List.length_singleton, hj, dists_len]
      repeat' (first
        | refine Sat.some ?_
        | (refine Sat.gd (decide_eq_true (by omega)) ?_)
        | (refine Sat.gd (by first | exact inR_t (by omega) (by omega) | (simp (disch := omega) only [w64]; exact inR_t (by omega) (by omega))) ?_)
        | (refine Sat.ite (fun h => ?_) (fun h => ?_) <;> try simp only [decide_eq_true_eq, decide_eq_false_iff_not, Bool.not_eq_true', Bool.not_eq_false', inB_i, inB_j, Bool.and_eq_true, Bool.or_eq_true, Bool.and_eq_false_iff, Bool.or_eq_false_iff, El] at h))
      all_goals try dsimp only
      · exact ⟨by omega, by rw [summL_succ _ _ _ _ hlt hj]; rfl⟩
    · obtain rfl : k = bs.length := by omega
      simp only [decide_eq_false (show ¬ (bs.length : Int) < bs.length by omega), cond_false]
      exact .some rfl
  · rintro (r | r) hr
    · have hr : r.1 = summ n ls bs t := hr
      exact .some (by rw [hr])
    · exact hr.elim
end Go.Proofs.Ytjdebphkndfolaa

/- What the program's functions on routes between areas and on joined areas answer, in plain words. -/
namespace Go.Proofs.Ytjdebphkndfolaa
open Go.RowKit
set_option linter.unusedSimpArgs false
set_option linter.unusedVariables false
set_option maxRecDepth 100000

theorem summ_len {n t : Int} {ls : List Lk} {bs : List Int} : (summ n ls bs t).length ≤ bs.length := by
  unfold summ
  split
  · rw [summL_len _ _ _ (Nat.le_refl _)]; exact Nat.le_refl _
  · simp
theorem e_AreaRoute (na nb f t : Int) (la lb : List Lk) (bs : List Int) (ha : Fits la) (hb : Fits lb) (hs : Fits bs) : sh_impl_AreaRoute (na, la, nb, lb, bs, f, t, ()) = some ((route na la nb lb bs f t).1, (route na la nb lb bs f t).2, ()) := by
  unfold sh_impl_AreaRoute
  simp only [e_AreaSummary na f la bs ha hs, e_AreaSummary nb t lb bs hb hs, Option.bind_some, nI_eq]
  by_cases h1 : (summ na la bs f).length = 0
  · rw [route_no1 h1]; simp [h1]
  by_cases h2 : (summ nb lb bs t).length = 0
  · rw [route_no2 h2]; simp [h1, h2]
  obtain ⟨_, l1, l2, hA, hr⟩ := route_yes h1 h2
  rw [hr]
  simp only [decide_eq_false (show ¬ ((summ na la bs f).length : Int) = 0 by omega), decide_eq_false (show ¬ ((summ nb lb bs t).length : Int) = 0 by omega), cond_false]
  have r1 := fun i => summ_low (n := na) (ls := la) (bs := bs) (t := f) i
  have r2 := fun i => summ_low (n := nb) (ls := lb) (bs := bs) (t := t) i
  generalize summ na la bs f = one at *
  generalize summ nb lb bs t = two at *
  refine Sat.out (Sat.bnd (R := fun r => match r with | .inl x => x.1 = (rtN bs one two bs.length).1 ∧ x.2.1 = (rtN bs one two bs.length).2 | .inr _ => False) ?_ ?_)
  · refine Sat.count bs.length (fun k s => s = ((rtN bs one two k).1, (rtN bs one two k).2, bs, (bs.length : Int), (k : Int), one, two, ())) ?_ (Nat.zero_le _) (fuel_lt (by omega)) rfl
    rintro k s hk rfl
    have o1 := r1 k
    have o2 := r2 k
    have hstep : rtN bs one two (k + 1) = rtStep bs one two (rtN bs one two k) k := rfl
    unfold rtStep goB at hstep
    have hrng := rtN_rng r1 r2 hA k hk
    generalize hp : rtN bs one two k = p at *
    obtain ⟨p1, p2⟩ := p
    simp (disch := omega) only [bo_impl_AreaRoute_6, at_int, toN, w64]
    repeat' (first
      | refine Sat.some ?_
      | fail
      | (refine Sat.gd (by first | exact inR_t (by omega) (by omega) | (simp (disch := omega) only [w64]; exact inR_t (by omega) (by omega))) ?_)
      | (refine Sat.ite (fun h => ?_) (fun h => ?_) <;> try simp only [decide_eq_true_eq, decide_eq_false_iff_not, Bool.not_eq_true', Bool.not_eq_false', inB_i, inB_j, Bool.and_eq_true, Bool.or_eq_true, Bool.and_eq_false_iff, Bool.or_eq_false_iff, El] at h))
    all_goals try dsimp only
    all_goals first
      | exact ⟨rfl, by assumption⟩
      | (refine ⟨by omega, ?_⟩
         rw [hstep]
         clear hstep hrng
         dsimp only
         first
           | rw [if_pos (by simp only [Bool.and_eq_true, Bool.or_eq_true, decide_eq_true_eq]; omega)]; rfl
           | rw [if_neg (by simp only [Bool.and_eq_true, Bool.or_eq_true, decide_eq_true_eq]; omega)]; rfl)
      | (obtain rfl : k = bs.length := by omega
         rw [hp]
         exact ⟨rfl, rfl⟩)
  · rintro (r | r) hr
    · have hr : r.1 = (rtN bs one two bs.length).1 ∧ r.2.1 = (rtN bs one two bs.length).2 := hr
      exact .some (by rw [hr.1, hr.2])
    · exact hr.elim
/-! ### Joined areas -/
def joinF (la lb : List Lk) (a b : Nat) : Option Int := match lc la a b, lc lb a b with
  | some x, some y => some (min x y)
  | some x, none => some x
  | none, y => y
def clean (la lb : List Lk) (bs : List Int) (N : Nat) : Bool := (List.range N).all fun n => !clash la lb bs n
def joinOk (na : Int) (la : List Lk) (nb : Int) (lb : List Lk) (bs : List Int) : Bool := bv na la bs && bv nb lb bs && decide (na = nb) && clean la lb bs na.toNat && decide ((grid (joinF la lb) na.toNat).length ≤ 14)
def joinR (na : Int) (la : List Lk) (nb : Int) (lb : List Lk) (bs : List Int) : Int × List Lk × Bool := if joinOk na la nb lb bs then (na, grid (joinF la lb) na.toNat, true) else (0, [], false)
theorem sortI_len' (zs : List Int) : (sortI zs).length = zs.length := List.length_mergeSort zs
theorem busy_i (ls : List Lk) (m : Int) : decide ((0 : Int) < ((sortI (others ls m ls.length)).length : Int)) = busy ls m := by
  rw [sortI_len]; exact others_busy ls m _ rfl
theorem clean_all {la lb : List Lk} {bs : List Int} {N k : Nat} (hk : k < N) (h : clash la lb bs k = true) : clean la lb bs N = false := by
  unfold clean
  rw [List.all_eq_false]
  exact ⟨k, List.mem_range.2 hk, by simp [h]⟩
theorem clean_of {la lb : List Lk} {bs : List Int} {N : Nat} (h : ∀ k, k < N → clash la lb bs k = false) : clean la lb bs N = true := by
  unfold clean
  rw [List.all_eq_true]
  intro k hk
  simp [h k (List.mem_range.1 hk)]
section
variable {N : Nat} {la lb : List Lk} {bs : List Int}
theorem joinF_cost (ga : GV N la) (gb : GV N lb) {a b : Nat} {c : Int} (h : joinF la lb a b = some c) : 1 ≤ c ∧ c ≤ 20 := by
  unfold joinF at h
  split at h
  · rename_i x y e1 e2
    have := lc_cost ga e1
    have := lc_cost gb e2
    injection h with h
    omega
  · rename_i x e1 e2
    have := lc_cost ga e1
    injection h with h
    omega
  · rename_i e1
    exact lc_cost gb h
/-- The cheaper of two links, as the program finds it. -/
theorem e_cost (ga : GV N la) (gb : GV N lb) (n m : Nat) (x3 x4 x7 x8 x9 : Int) (xl : List Lk) (xo : List Lk) : Sat (lp bo_impl_AreaJoin_14 fuel (bs, (n : Int), (m : Int), 0, x3, x4, nI (List.length [Gr.mk N la, Gr.mk N lb]), 0, (N : Int), la, (N : Int), lb, x7, x8, [Gr.mk N la, Gr.mk N lb], xl, xo, ())) fun r => match r with
      | .inl x => x = (bs, (n : Int), (m : Int), (joinF la lb n m).getD 0, x3, x4, (N : Int), la, (N : Int), lb, x7, x8, xl, xo, ())
      | .inr _ => False := by
  refine Sat.count 2 (fun k s => s = (bs, (n : Int), (m : Int), (if k = 0 then 0 else if k = 1 then (lc la n m).getD 0 else (joinF la lb n m).getD 0), x3, x4, (2 : Int), (k : Int), (N : Int), la, (N : Int), lb, x7, x8, [Gr.mk N la, Gr.mk N lb], xl, xo, ())) ?_ (Nat.zero_le _) (fuel_lt (by omega)) rfl
  rintro k s hk rfl
  have fa : Fits la := by have := ga.2.2.1; unfold Fits; omega
  have fb : Fits lb := by have := gb.2.2.1; unfold Fits; omega
  rcases (show k = 0 ∨ k = 1 ∨ k = 2 by omega) with rfl | rfl | rfl
  · have e0 : (at! .gr [Gr.mk N la, Gr.mk N lb] (Int.toNat ((0 : Nat) : Int))) = Gr.mk N la := rfl
    simp (disch := omega) only [bo_impl_AreaJoin_14, e0, e_linkOf _ _ _ _ fa, Option.bind_some, at_lk, w64]
    cases e : lc la n m with
    | none =>
      rw [lc_no e]
      exact .some ⟨by omega, rfl⟩
    | some c =>
      obtain ⟨h1, h2, h3⟩ := lc_at e
      rw [decide_eq_true h1, inR_t h1 h2, h3]
      exact .some ⟨by omega, rfl⟩
  · have e0 : (at! .gr [Gr.mk N la, Gr.mk N lb] (Int.toNat ((1 : Nat) : Int))) = Gr.mk N lb := rfl
    simp (disch := omega) only [bo_impl_AreaJoin_14, e0, e_linkOf _ _ _ _ fb, Option.bind_some, at_lk, w64]
    cases e : lc lb n m with
    | none =>
      rw [lc_no e]
      refine .some ⟨by omega, ?_⟩
      have : joinF la lb n m = lc la n m := by unfold joinF; rw [e]; cases lc la n m <;> rfl
      simp [this]
    | some c =>
      obtain ⟨h1, h2, h3⟩ := lc_at e
      have hc := lc_cost gb e
      rw [decide_eq_true h1, inR_t h1 h2, h3]
      cases e2 : lc la n m with
      | none =>
        have : joinF la lb n m = some c := by unfold joinF; rw [e, e2]
        refine .some ⟨by omega, ?_⟩
        simp [this]
      | some d =>
        have hd := lc_cost ga e2
        have : joinF la lb n m = some (min d c) := by unfold joinF; rw [e, e2]
        have hd0 : ¬ d = 0 := by omega
        by_cases hcd : c < d
        · have hm : min d c = c := by omega
          refine Sat.gd (by simp [inR]) ?_
          simp only [if_neg (show ¬ 1 = 0 by omega), if_true, Option.getD_some, decide_eq_false hd0, decide_eq_true hcd, cond_true, cond_false]
          refine .some ⟨by omega, ?_⟩
          simp [this, hm]
        · have hm : min d c = d := by omega
          refine Sat.gd (by simp [inR]) ?_
          simp only [if_neg (show ¬ 1 = 0 by omega), if_true, Option.getD_some, decide_eq_false hd0, decide_eq_false hcd, cond_true, cond_false]
          refine .some ⟨by omega, ?_⟩
          simp [this, hm]
  · exact .some rfl
/-- What the program has behind j pairs of node n. -/
theorem e_row (ga : GV N la) (gb : GV N lb) {n : Nat} (hn : n < N) (x4 x9 : Int) (xl xo : List Lk) (ho : xo.length ≤ 1000) : Sat (lp bo_impl_AreaJoin_10 fuel (bs, (n : Int), wrap64 ((n : Int) + 1), x4, (n : Int), (N : Int), la, (N : Int), lb, x9, (N : Int), xl, xo, ())) fun r => match r with
      | .inl x => x = (bs, x4, (n : Int), (N : Int), la, (N : Int), lb, x9, (N : Int), xl, xo ++ gridR (joinF la lb) n (N - 1 - n), ())
      | .inr _ => False := by
  have h8 := ga.2.1
  refine Sat.count (N - 1 - n) (fun k s => s = (bs, (n : Int), ((n + 1 + k : Nat) : Int), x4, (n : Int), (N : Int), la, (N : Int), lb, x9, (N : Int), xl, xo ++ gridR (joinF la lb) n k, ())) ?_ (Nat.zero_le _) (fuel_lt (by omega)) (by rw [w64 (by omega) (by omega)]; simp [gridR])
  rintro k s hk rfl
  have hlen := gridR_len (joinF la lb) n k
  unfold bo_impl_AreaJoin_10
  dsimp only
  refine Sat.ite (fun hlt => ?_) (fun hlt => ?_)
  · have hlt := of_decide_eq_true hlt
    refine Sat.bnd (e_cost ga gb n (n + 1 + k) x4 (n : Int) x9 (N : Int) 0 xl _) ?_
    rintro (r | r) hr
    case inr => exact hr.elim
    obtain rfl := hr
    dsimp only
    cases e : joinF la lb n (n + 1 + k) with
    | none =>
      refine .some ⟨by omega, ?_⟩
      rw [gridR_succ, show cell (joinF la lb) n (n + 1 + k) = [] by unfold cell; rw [e], List.append_nil, w64 (by omega) (by omega)]
      rfl
    | some c =>
      have hc := joinF_cost ga gb e
      simp only [Option.getD_some, decide_eq_true (show 0 < c by omega), cond_true, List.length_append, List.length_singleton]
      refine Sat.gd (decide_eq_true (by omega)) ?_
      refine .some ⟨by omega, ?_⟩
      rw [gridR_succ, show cell (joinF la lb) n (n + 1 + k) = [⟨n, (n + 1 + k : Nat), c⟩] by unfold cell; rw [e], w64 (by omega) (by omega), List.append_assoc]
      rfl
  · have hlt := of_decide_eq_false hlt
    obtain rfl : k = N - 1 - n := by omega
    exact .some rfl
end
end Go.Proofs.Ytjdebphkndfolaa

/- What the program's functions on joined areas answer, in plain words. -/
namespace Go.Proofs.Ytjdebphkndfolaa
open Go.RowKit
set_option linter.unusedSimpArgs false
set_option linter.unusedVariables false
set_option maxRecDepth 100000

section
variable {N : Nat} {la lb : List Lk} {bs : List Int}
theorem bv_gv {n : Int} {ls : List Lk} {bs : List Int} (h : bv n ls bs = true) : gv n ls = true := decide_eq_true (bv_t h).1
theorem e_AreaJoin (na nb : Int) (ha : Fits la) (hb : Fits lb) (hs : Fits bs) : sh_impl_AreaJoin (na, la, nb, lb, bs, ()) = some ((joinR na la nb lb bs).1, (joinR na la nb lb bs).2.1, (joinR na la nb lb bs).2.2, ()) := by
  unfold sh_impl_AreaJoin joinR joinOk
  simp only [e_bordersValid na la bs ha hs, e_bordersValid nb lb bs hb hs, Option.bind_some]
  cases h1 : bv na la bs with
  | false => simp
  | true =>
  cases h2 : bv nb lb bs with
  | false => simp
  | true =>
  by_cases h3 : na = nb
  case neg => simp [h3]
  subst h3
  obtain ⟨N, rfl, ga⟩ := gv_nat (bv_gv h1)
  obtain ⟨N', e', gb⟩ := gv_nat (bv_gv h2)
  obtain rfl : N = N' := by omega
  clear e'
  have h8 := ga.2.1
  have fa : la.length ≤ 14 := ga.2.2.1
  have fb : lb.length ≤ 14 := gb.2.2.1
  simp only [Bool.not_true, cond_false, decide_true, Bool.true_and, Int.toNat_natCast]
  refine Sat.out (Sat.bnd (R := fun r => match r with | .inl x => x.2.1 = (N : Int) ∧ x.2.2.2.1 = grid (joinF la lb) N ∧ clean la lb bs N = true | .inr y => y = (false, 0, [], ()) ∧ clean la lb bs N = false) ?_ ?_)
  · refine Sat.count N (fun k s => s = (bs, (N : Int), (k : Int), (N : Int), la, (N : Int), lb, 0, (N : Int), [], gridK (joinF la lb) N k, ()) ∧ ∀ i, i < k → clash la lb bs i = false) ?_ (Nat.zero_le _) (fuel_lt (by omega)) ⟨rfl, fun i hi => by omega⟩
    rintro k s hk ⟨rfl, hok⟩
    have hlen := gridK_len (joinF la lb) N k
    have hkN : k * N ≤ 64 := Nat.le_trans (Nat.mul_le_mul hk (Nat.le_refl N)) (Nat.le_trans (Nat.mul_le_mul (show N ≤ 8 by omega) (show N ≤ 8 by omega)) (by omega))
    have nxt : clash la lb bs k = false → ∀ i, i < k + 1 → clash la lb bs i = false := fun hc i hi => by
      by_cases e : i < k
      · exact hok i e
      · obtain rfl : i = k := by omega
        exact hc
    unfold bo_impl_AreaJoin_5
    dsimp only
    refine Sat.ite (fun hlt => ?_) (fun hlt => ?_)
    · have hlt := of_decide_eq_true hlt
      have hkl : k < N := by omega
      simp only [e_Contains bs (k : Int) hs, e_neighbours (N : Int) la (k : Int) (show la.length ≤ 16777216 by omega), e_neighbours (N : Int) lb (k : Int) (show lb.length ≤ 16777216 by omega), Option.bind_some, nI_eq, busy_i]
      rcases cs_bool (bs.contains (k : Int)) with hc | hc
      · refine Sat.gd (by rw [hc]; rfl) ?_
        rcases cs_bool (busy la (k : Int)) with hd | hd
        · refine Sat.no hd ?_
          refine Sat.bnd (e_row ga gb hkl (N : Int) 0 [] _ (by omega)) ?_
          rintro (r | r) hr
          case inr => exact hr.elim
          obtain rfl := hr
          refine .some ⟨hkl, ?_, nxt (by simp only [clash, hc, hd]; rfl)⟩
          dsimp only
          rw [gridK_succ, w64 (by omega) (by omega)]
          rfl
        · refine Sat.gd hd ?_
          rcases cs_bool (busy lb (k : Int)) with he | he
          · refine Sat.no he ?_
            refine Sat.bnd (e_row ga gb hkl (N : Int) 0 [] _ (by omega)) ?_
            rintro (r | r) hr
            case inr => exact hr.elim
            obtain rfl := hr
            refine .some ⟨hkl, ?_, nxt (by simp only [clash, hc, hd, he]; rfl)⟩
            dsimp only
            rw [gridK_succ, w64 (by omega) (by omega)]
            rfl
          · exact Sat.gd he (.some ⟨rfl, clean_all hkl (by simp only [clash, hc, hd, he]; rfl)⟩)
      · refine Sat.no (by rw [hc]; rfl) ?_
        refine Sat.bnd (e_row ga gb hkl (N : Int) 0 [] _ (by omega)) ?_
        rintro (r | r) hr
        case inr => exact hr.elim
        obtain rfl := hr
        refine .some ⟨hkl, ?_, nxt (by simp only [clash, hc]; rfl)⟩
        dsimp only
        rw [gridK_succ, w64 (by omega) (by omega)]
        rfl
    · have hlt := of_decide_eq_false hlt
      obtain rfl : k = N := by omega
      exact .some ⟨rfl, rfl, clean_of hok⟩
  · rintro (r | r) hr
    · have hr : r.2.1 = (N : Int) ∧ r.2.2.2.1 = grid (joinF la lb) N ∧ clean la lb bs N = true := hr
      dsimp only
      rw [hr.1, hr.2.1, hr.2.2, nI_eq]
      by_cases h14 : (grid (joinF la lb) N).length ≤ 14
      · rw [decide_eq_true h14, decide_eq_false (show ¬ (14 : Int) < ((grid (joinF la lb) N).length : Int) by omega)]
        exact .some rfl
      · rw [decide_eq_false h14, decide_eq_true (show (14 : Int) < ((grid (joinF la lb) N).length : Int) by omega)]
        exact .some rfl
    · have hr : r = (false, 0, [], ()) ∧ clean la lb bs N = false := hr
      obtain ⟨rfl, hq⟩ := hr
      rw [hq]
      exact .some rfl
end
end Go.Proofs.Ytjdebphkndfolaa

/- The reference's joined area answers the same. -/
namespace Go.Proofs.Ytjdebphkndfolaa
open Go.RowKit
set_option linter.unusedSimpArgs false
set_option linter.unusedVariables false
set_option maxRecDepth 100000

section
variable {N : Nat} {la lb : List Lk} {bs : List Int}
theorem e_srow (ga : GV N la) (gb : GV N lb) {n : Nat} (hn : n < N) (x7 x9 : Int) (xl xo : List Lk) (ho : xo.length ≤ 1000) : Sat (lp bo_spec_AreaJoin_10 fuel (bs, (n : Int), wrap64 ((n : Int) + 1), (N : Int), la, (N : Int), lb, x7, xl, x9, xo, ())) fun r => match r with
      | .inl x => x = (bs, (n : Int), (N : Int), la, (N : Int), lb, x7, xl, x9, xo ++ gridR (joinF la lb) n (N - 1 - n), ())
      | .inr _ => False := by
  have h8 := ga.2.1
  have fa : Fits la := by have := ga.2.2.1; unfold Fits; omega
  have fb : Fits lb := by have := gb.2.2.1; unfold Fits; omega
  refine Sat.count (N - 1 - n) (fun k s => s = (bs, (n : Int), ((n + 1 + k : Nat) : Int), (N : Int), la, (N : Int), lb, x7, xl, x9, xo ++ gridR (joinF la lb) n k, ())) ?_ (Nat.zero_le _) (fuel_lt (by omega)) (by rw [w64 (by omega) (by omega)]; simp [gridR])
  rintro k s hk rfl
  have hlen := gridR_len (joinF la lb) n k
  have fin : ∀ c : List Lk, cell (joinF la lb) n (n + 1 + k) = c → k < N - 1 - n → (bs, (n : Int), wrap64 (((n + 1 + k : Nat) : Int) + 1), (N : Int), la, (N : Int), lb, x7, xl, x9, (xo ++ gridR (joinF la lb) n k) ++ c, ()) = (bs, (n : Int), ((n + 1 + (k + 1) : Nat) : Int), (N : Int), la, (N : Int), lb, x7, xl, x9, xo ++ gridR (joinF la lb) n (k + 1), ()) := fun c hc hk => by
    rw [gridR_succ, hc, w64 (by omega) (by omega), List.append_assoc]
    rfl
  simp only [bo_spec_AreaJoin_10, e_l1Link _ _ _ _ fa, e_l1Link _ _ _ _ fb, Option.bind_some, at_lk, List.length_singleton, List.length_append]
  refine Sat.ite (fun hlt => ?_) (fun hlt => ?_)
  · have hlt := of_decide_eq_true hlt
    have hkN : k < N - 1 - n := by omega
    have hmin : min (n : Int) ((n + 1 + k : Nat) : Int) = n := by omega
    have hmax : max (n : Int) ((n + 1 + k : Nat) : Int) = ((n + 1 + k : Nat) : Int) := by omega
    cases e1 : lc la n (n + 1 + k : Nat) with
    | none =>
      refine Sat.no (by rw [lc_no e1]; rfl) ?_
      cases e2 : lc lb n (n + 1 + k : Nat) with
      | none =>
        refine Sat.no (by rw [lc_no e2]; rfl) (.some ⟨hkN, ?_⟩)
        have := fin [] (by unfold cell joinF; rw [e1, e2]) hkN
        rwa [List.append_nil] at this
      | some c =>
        obtain ⟨h1, h2, h3⟩ := lc_at e2
        refine Sat.gd (decide_eq_true h1) (Sat.gd (inR_t h1 h2) (Sat.gd (decide_eq_true (by omega)) (.some ⟨hkN, ?_⟩)))
        rw [h3, hmin, hmax]
        exact fin _ (by unfold cell joinF; rw [e1, e2]) hkN
    | some d =>
      obtain ⟨h1, h2, h3⟩ := lc_at e1
      refine Sat.gd (decide_eq_true h1) ?_
      cases e2 : lc lb n (n + 1 + k : Nat) with
      | none =>
        refine Sat.gd (by rw [lc_no e2]; rfl) (Sat.gd (inR_t h1 h2) (Sat.gd (decide_eq_true (by omega)) (.some ⟨hkN, ?_⟩)))
        rw [h3, hmin, hmax]
        exact fin _ (by unfold cell joinF; rw [e1, e2]) hkN
      | some c =>
        obtain ⟨g1, g2, g3⟩ := lc_at e2
        refine Sat.no (decide_eq_false (by omega)) (Sat.gd (inR_t h1 h2) (Sat.gd (inR_t g1 g2) ?_))
        rw [h3, g3]
        by_cases hdc : d ≤ c
        · refine Sat.gd (decide_eq_true hdc) (Sat.gd (inR_t h1 h2) (Sat.gd (decide_eq_true (by omega)) (.some ⟨hkN, ?_⟩)))
          rw [hmin, hmax]
          exact fin _ (by unfold cell joinF; rw [e1, e2]; dsimp only; rw [show min d c = d by omega]) hkN
        · refine Sat.no (decide_eq_false hdc) (Sat.gd (decide_eq_true g1) (Sat.gd (inR_t g1 g2) (Sat.gd (decide_eq_true (by omega)) (.some ⟨hkN, ?_⟩))))
          rw [hmin, hmax]
          exact fin _ (by unfold cell joinF; rw [e1, e2]; dsimp only; rw [show min d c = c by omega]) hkN
  · have hlt := of_decide_eq_false hlt
    obtain rfl : k = N - 1 - n := by omega
    exact .some rfl
theorem grid_gvb (ga : GV N la) (gb : GV N lb) : gv N (grid (joinF la lb) N) = decide ((grid (joinF la lb) N).length ≤ 14) := by
  by_cases h : (grid (joinF la lb) N).length ≤ 14
  · rw [decide_eq_true h]
    exact decide_eq_true (grid_gv (by have := ga.1; omega) (by have := ga.2.1; omega) (fun a b c _ _ e => joinF_cost ga gb e) h)
  · rw [decide_eq_false h]
    exact gv_f fun g => h g.2.2.1
theorem e_sAreaJoin (na nb : Int) (ha : Fits la) (hb : Fits lb) (hs : Fits bs) : sh_spec_AreaJoin (na, la, nb, lb, bs, ()) = some ((joinR na la nb lb bs).1, (joinR na la nb lb bs).2.1, (joinR na la nb lb bs).2.2, ()) := by
  unfold sh_spec_AreaJoin joinR joinOk
  simp only [e_l31Borders na la bs ha hs, e_l31Borders nb lb bs hb hs, Option.bind_some]
  cases h1 : bv na la bs with
  | false => simp
  | true =>
  cases h2 : bv nb lb bs with
  | false => simp
  | true =>
  by_cases h3 : na = nb
  case neg => simp [h3]
  subst h3
  obtain ⟨N, rfl, ga⟩ := gv_nat (bv_gv h1)
  obtain ⟨N', e', gb⟩ := gv_nat (bv_gv h2)
  obtain rfl : N = N' := by omega
  clear e'
  have h8 := ga.2.1
  have fa : la.length ≤ 14 := ga.2.2.1
  have fb : lb.length ≤ 14 := gb.2.2.1
  have hva : gv N la = true := decide_eq_true ga
  have hvb : gv N lb = true := decide_eq_true gb
  simp only [Bool.not_true, cond_false, decide_true, Bool.true_and, Int.toNat_natCast]
  have hgl : (grid (joinF la lb) N).length ≤ 64 := Nat.le_trans (gridK_len (joinF la lb) N N) (Nat.le_trans (Nat.mul_le_mul (show N ≤ 8 by omega) (show N ≤ 8 by omega)) (by omega))
  refine Sat.out (Sat.bnd (R := fun r => match r with | .inl x => x.2.2.1 = (N : Int) ∧ x.2.2.2.1 = grid (joinF la lb) N ∧ clean la lb bs N = true | .inr y => y = (false, 0, [], ()) ∧ clean la lb bs N = false) ?_ ?_)
  · refine Sat.count N (fun k s => s = (bs, (k : Int), (N : Int), la, (N : Int), lb, 0, [], (N : Int), gridK (joinF la lb) N k, ()) ∧ ∀ i, i < k → clash la lb bs i = false) ?_ (Nat.zero_le _) (fuel_lt (by omega)) ⟨rfl, fun i hi => by omega⟩
    rintro k s hk ⟨rfl, hok⟩
    have hlen := gridK_len (joinF la lb) N k
    have hkN : k * N ≤ 64 := Nat.le_trans (Nat.mul_le_mul hk (Nat.le_refl N)) (Nat.le_trans (Nat.mul_le_mul (show N ≤ 8 by omega) (show N ≤ 8 by omega)) (by omega))
    have nxt : clash la lb bs k = false → ∀ i, i < k + 1 → clash la lb bs i = false := fun hc i hi => by
      by_cases e : i < k
      · exact hok i e
      · obtain rfl : i = k := by omega
        exact hc
    unfold bo_spec_AreaJoin_5
    dsimp only
    refine Sat.ite (fun hlt => ?_) (fun hlt => ?_)
    · have hlt := of_decide_eq_true hlt
      have hkl : k < N := by omega
      simp only [e_l1Has bs (k : Int) hs, e_sGraphNeighbours (N : Int) la (k : Int) ha, e_sGraphNeighbours (N : Int) lb (k : Int) hb, hva, hvb, if_true, Option.bind_some, nI_eq, nbS_busy ga, nbS_busy gb]
      rcases cs_bool (bs.contains (k : Int)) with hc | hc
      · refine Sat.gd (by rw [hc]; rfl) ?_
        rcases cs_bool (busy la (k : Int)) with hd | hd
        · refine Sat.no hd ?_
          refine Sat.bnd (e_srow ga gb hkl 0 (N : Int) [] _ (by omega)) ?_
          rintro (r | r) hr
          case inr => exact hr.elim
          obtain rfl := hr
          refine .some ⟨hkl, ?_, nxt (by simp only [clash, hc, hd]; rfl)⟩
          dsimp only
          rw [gridK_succ, w64 (by omega) (by omega)]
          rfl
        · refine Sat.gd hd ?_
          rcases cs_bool (busy lb (k : Int)) with he | he
          · refine Sat.no he ?_
            refine Sat.bnd (e_srow ga gb hkl 0 (N : Int) [] _ (by omega)) ?_
            rintro (r | r) hr
            case inr => exact hr.elim
            obtain rfl := hr
            refine .some ⟨hkl, ?_, nxt (by simp only [clash, hc, hd, he]; rfl)⟩
            dsimp only
            rw [gridK_succ, w64 (by omega) (by omega)]
            rfl
          · exact Sat.gd he (.some ⟨rfl, clean_all hkl (by simp only [clash, hc, hd, he]; rfl)⟩)
      · refine Sat.no (by rw [hc]; rfl) ?_
        refine Sat.bnd (e_srow ga gb hkl 0 (N : Int) [] _ (by omega)) ?_
        rintro (r | r) hr
        case inr => exact hr.elim
        obtain rfl := hr
        refine .some ⟨hkl, ?_, nxt (by simp only [clash, hc]; rfl)⟩
        dsimp only
        rw [gridK_succ, w64 (by omega) (by omega)]
        rfl
    · have hlt := of_decide_eq_false hlt
      obtain rfl : k = N := by omega
      exact .some ⟨rfl, rfl, clean_of hok⟩
  · rintro (r | r) hr
    · have hr : r.2.2.1 = (N : Int) ∧ r.2.2.2.1 = grid (joinF la lb) N ∧ clean la lb bs N = true := hr
      dsimp only
      rw [hr.1, hr.2.1, hr.2.2, e_sGraphValid _ _ (show Fits (grid (joinF la lb) N) by unfold Fits; omega), grid_gvb ga gb]
      by_cases h14 : (grid (joinF la lb) N).length ≤ 14
      · rw [decide_eq_true h14]
        exact .some rfl
      · rw [decide_eq_false h14]
        exact .some rfl
    · have hr : r = (false, 0, [], ()) ∧ clean la lb bs N = false := hr
      obtain ⟨rfl, hq⟩ := hr
      rw [hq]
      exact .some rfl
end
end Go.Proofs.Ytjdebphkndfolaa
