/- Part 6 of the proof: Pg Pt3 SM Pt4 Pt5 Ph Ph2 Pt7 Pnh Ph3 Pk3 KD KM Pk4. -/
import Derived.Test.YthcckenjkicmgaaQx5
set_option linter.unusedSimpArgs false
set_option linter.unusedVariables false
section
namespace Go.Proofs.Ythcckenjkicmgaa
open Go.RowKit
section
variable {N : Nat} {la lb : List Lk}
theorem adj_grid {f : Nat → Nat → Option Int} {x y : Nat} {c : Int} : Adj (grid f N) x y c ↔ (x < y ∧ y < N ∧ f x y = some c) ∨ (y < x ∧ x < N ∧ f y x = some c) := by
  constructor
  · rintro ⟨l, hl, rfl, h⟩
    obtain ⟨a, b, c, h1, h2, h3, rfl⟩ := mem_grid.1 hl
    dsimp only at h ⊢
    rcases h with ⟨e1, e2⟩ | ⟨e1, e2⟩
    · obtain rfl : a = x := by omega
      obtain rfl : b = y := by omega
      exact .inl ⟨h1, h2, h3⟩
    · obtain rfl : a = y := by omega
      obtain rfl : b = x := by omega
      exact .inr ⟨h1, h2, h3⟩
  · rintro (⟨h1, h2, h3⟩ | ⟨h1, h2, h3⟩)
    · exact ⟨⟨x, y, c⟩, mem_grid.2 ⟨x, y, c, h1, h2, h3, rfl⟩, rfl, .inl ⟨rfl, rfl⟩⟩
    · exact ⟨⟨y, x, c⟩, mem_grid.2 ⟨y, x, c, h1, h2, h3, rfl⟩, rfl, .inr ⟨rfl, rfl⟩⟩
theorem adj_lc (g : GV N la) {x y : Nat} {c : Int} : Adj la x y c ↔ (x < y ∧ y < N ∧ lc la x y = some c) ∨ (y < x ∧ x < N ∧ lc la y x = some c) := by
  have := adj_grid (N := N) (f := fun a b => lc la a b) (x := x) (y := y) (c := c)
  rwa [g.grid] at this
end
def hopB (ls : List Lk) (d : List Int) (f : Nat) (m : Int) : Bool := decide (iz d m.toNat + (lc ls f m).getD 0 = iz d f)
def hops (N : Nat) (ls : List Lk) (f t : Nat) : List Int := if f = t ∨ iz (dists N ls t) f < 0 then [] else (nbS ls f N).filter (hopB ls (dists N ls t) f)
section
variable {N : Nat} {ls : List Lk}
theorem hops_len (f t : Nat) : (hops N ls f t).length ≤ N := by
  unfold hops
  split
  · simp
  · exact Nat.le_trans (List.length_filter_le _ _) (nbS_len ls f N)
end
end Go.Proofs.Ythcckenjkicmgaa
end
section
namespace Go.Proofs.Ythcckenjkicmgaa
open Go.RowKit
set_option linter.unusedSimpArgs false
set_option linter.unusedVariables false
set_option maxRecDepth 100000

theorem Wk.dom {ls ls' : List Lk} (h : ∀ x y c, Adj ls x y c → ∃ c', c' ≤ c ∧ Adj ls' x y c') {u v k : Nat} {s : Int} (w : Wk ls u k v s) : ∃ s', s' ≤ s ∧ Wk ls' u k v s' := by
  induction w with
  | nil => exact ⟨0, Int.le_refl _, .nil⟩
  | step _ ha ih =>
    obtain ⟨s', h1, h2⟩ := ih
    obtain ⟨c', h3, h4⟩ := h _ _ _ ha
    exact ⟨s' + c', by omega, h2.step h4⟩
section
variable {N : Nat} {la lb : List Lk}
end
section
variable {N : Nat} {la lb : List Lk} {β : Nat}
end
end Go.Proofs.Ythcckenjkicmgaa
end
section
namespace Go.Proofs.Ythcckenjkicmgaa
open Go.RowKit
set_option maxRecDepth 100000
def bo_laws_FnClaimMovedUsed_9 (s : (Int × Int × Int × Int × List Lk × List Int × Unit)) : Option ((Int × Int × Int × Int × List Lk × List Int × Unit) ⊕ ((Unit) ⊕ (Bool × Unit))) := (bif decide ((s.2.2.1 < nI (List.length s.2.2.2.2.2.1))) then (bif inR s.2.2.1 (List.length s.2.2.2.2.2.1) then (sh_impl_NodeUsed ((s.2.2.2.1, (s.2.2.2.2.1, (at! .int s.2.2.2.2.2.1 (Int.toNat s.2.2.1), (s.2.1, (s.1, ()))))))).bind fun r0 => (bif (!r0.1) then some (Sum.inr (Sum.inr ((false, ())))) else some (Sum.inl ((s.1, s.2.1, wrap64 ((s.2.2.1 + (1 : Int))), s.2.2.2.1, s.2.2.2.2.1, s.2.2.2.2.2.1, ())))) else none) else some (Sum.inr (Sum.inl (()))))
def sh_laws_FnClaimMovedUsed (s : (List Int × Unit)) : Option (Bool × Unit) := (bif decide (((1048576 : Int) < nI (List.length s.1))) then some ((true, ())) else (sh_spec_DrawClaimMoved ((s.1, ()))).bind fun r0 => (sh_impl_ClaimMoved ((r0.1, (r0.2.1, (r0.2.2.1, (r0.2.2.2.2.1, (r0.2.2.2.1, ()))))))).bind fun r1 => (sh_spec_ClaimMoved ((r0.1, (r0.2.1, (r0.2.2.1, (r0.2.2.2.2.1, (r0.2.2.2.1, ()))))))).bind fun r2 => (sh_laws_sameInts ((r1.1, (r2.1, ())))).bind fun r3 => (bif (!r3.1) then (sh_laws_sameInts ((r1.1, (r2.1, ())))).bind fun r4 => some ((r4.1, ())) else (lp bo_laws_FnClaimMovedUsed_9 fuel ((r0.2.2.1, (r0.2.2.2.1, ((0 : Int), (r0.1, (r0.2.1, (r1.1, ())))))))).bind fun r5 => (match r5 with | .inl _ => some ((true, ())) | .inr y6 => some ((y6.1, ())))))
def bo_laws_FnClaimMoved_10 (s : (Int × Bool × Int × Int × List Lk × List Int × Int × List Lk × Unit)) : Option ((Int × Bool × Int × Int × List Lk × List Int × Int × List Lk × Unit) ⊕ ((Bool × List Int × Unit) ⊕ (Bool × Unit))) := (bif decide ((s.2.2.1 < s.2.2.2.1)) then (bif s.2.1 then (bif decide (((0 : Int) ≤ s.1)) then (bif decide ((s.1 < s.2.2.2.1)) then (sh_laws_hasInt ((s.2.2.2.2.2.1, (s.2.2.1, ())))).bind fun r0 => (sh_impl_NextHops ((s.2.2.2.1, (s.2.2.2.2.1, (s.2.2.1, (s.1, ())))))).bind fun r1 => (sh_impl_NextHops ((s.2.2.2.2.2.2.1, (s.2.2.2.2.2.2.2.1, (s.2.2.1, (s.1, ())))))).bind fun r2 => (sh_laws_sameInts ((r1.1, (r2.1, ())))).bind fun r3 => (bif (!((r0.1 == (!r3.1)))) then some (Sum.inr (Sum.inr ((false, ())))) else some (Sum.inl ((s.1, s.2.1, wrap64 ((s.2.2.1 + (1 : Int))), s.2.2.2.1, s.2.2.2.2.1, s.2.2.2.2.2.1, s.2.2.2.2.2.2.1, s.2.2.2.2.2.2.2.1, ())))) else some (Sum.inr (Sum.inl ((s.2.1, s.2.2.2.2.2.1, ()))))) else some (Sum.inr (Sum.inl ((s.2.1, s.2.2.2.2.2.1, ()))))) else some (Sum.inr (Sum.inl ((s.2.1, s.2.2.2.2.2.1, ()))))) else some (Sum.inr (Sum.inl ((s.2.1, s.2.2.2.2.2.1, ())))))
def sh_laws_FnClaimMoved (s : (List Int × Unit)) : Option (Bool × Unit) := (bif decide (((1048576 : Int) < nI (List.length s.1))) then some ((true, ())) else (sh_spec_DrawClaimMoved ((s.1, ()))).bind fun r0 => (sh_impl_ClaimMoved ((r0.1, (r0.2.1, (r0.2.2.1, (r0.2.2.2.2.1, (r0.2.2.2.1, ()))))))).bind fun r1 => (sh_spec_ClaimMoved ((r0.1, (r0.2.1, (r0.2.2.1, (r0.2.2.2.2.1, (r0.2.2.2.1, ()))))))).bind fun r2 => (sh_laws_sameInts ((r1.1, (r2.1, ())))).bind fun r3 => (bif (!r3.1) then (sh_laws_sameInts ((r1.1, (r2.1, ())))).bind fun r4 => some ((r4.1, ())) else (sh_impl_ClaimGraph ((r0.1, (r0.2.1, (r0.2.2.1, (r0.2.2.2.2.1, ())))))).bind fun r5 => (lp bo_laws_FnClaimMoved_10 fuel ((r0.2.2.2.1, (r5.2.1, ((0 : Int), (r0.1, (r0.2.1, (r1.1, (r5.1, (r5.2.2.1, ())))))))))).bind fun r6 => (match r6 with | .inl x7 => (sh_laws_ascending ((x7.2.1, ()))).bind fun r8 => (bif r8.1 then (bif x7.1 then some ((true, ())) else some ((decide ((nI (List.length x7.2.1) = (0 : Int))), ()))) else some ((false, ()))) | .inr y7 => some ((y7.1, ())))))
end Go.Proofs.Ythcckenjkicmgaa
end
section
namespace Go.Proofs.Ythcckenjkicmgaa
open Go.RowKit
set_option linter.unusedSimpArgs false
set_option linter.unusedVariables false
set_option maxRecDepth 100000

theorem d_Claim {b : List Int} (hB : Byt b) {p : Int} (h0 : 0 ≤ p) (h1 : p ≤ 70000000) : Sat (sh_spec_l92Claim (b, p, ())) fun r => ∃ n node p' ls ends, r = (n, ls, node, b, p', ends, ()) ∧ p ≤ p' ∧ p' ≤ p + 2000 ∧ ls.length ≤ 15 ∧ ends.length ≤ 10 ∧ 0 ≤ n ∧ n ≤ 9 ∧ -1 ≤ node ∧ node ≤ 10 := by
  unfold sh_spec_l92Claim
  dsimp only
  refine Sat.bnd (d_Spoilt hB h0 (by omega)) ?_
  rintro _ ⟨n, p1, ls, rfl, u1, u2, u3, u4, u5⟩
  dsimp only
  refine Sat.bnd (d_Node hB ls (by omega) (by omega)) ?_
  rintro _ ⟨node, p2, rfl, u6, u7, u8, u9⟩
  dsimp only
  refine Sat.bnd (R := fun r => match r with | .inl x => ∃ p' ends, x = (node, b, p', 0, [], n, ls, ends, ()) ∧ p2 ≤ p' ∧ p' ≤ p2 + 20 ∧ ends.length ≤ 9 | .inr _ => False) ?_ ?_
  · refine Sat.count n.toNat (fun k s => ∃ p' ends, s = (node, (k : Int), b, p', 0, [], n, ls, ends, ()) ∧ p2 ≤ p' ∧ p' ≤ p2 + 2 * k ∧ ends.length ≤ k) ?_ (Nat.zero_le _) (fuel_lt (by omega)) ⟨p2, [], rfl, by omega, by omega, by simp⟩
    rintro k s hk ⟨p', ends, rfl, g1, g2, g3⟩
    simp (disch := omega) only [bo_spec_l92Claim_5, w64, List.length_singleton]
    repeat' (first
      | refine Sat.some ?_
      | (refine Sat.pick hB (by omega) (by omega) (fun x _ _ _ => ?_) <;> dsimp only) | (refine Sat.gd (decide_eq_true (by omega)) ?_)
      | (refine Sat.gd (by first | exact inR_t (by omega) (by omega) | (simp (disch := omega) only [w64]; exact inR_t (by omega) (by omega))) ?_)
      | (refine Sat.ite (fun h => ?_) (fun h => ?_) <;> try simp only [decide_eq_true_eq, decide_eq_false_iff_not, Bool.not_eq_true', Bool.not_eq_false', inB_i, inB_j, Bool.and_eq_true, Bool.or_eq_true, Bool.and_eq_false_iff, Bool.or_eq_false_iff, El] at h))
    all_goals try dsimp only
    all_goals first
      | exact ⟨by omega, _, _, rfl, by omega, by omega, by (try simp only [List.length_append, List.length_singleton, List.length_nil]); omega⟩
      | exact ⟨_, _, rfl, by omega, by omega, by omega⟩
  · rintro (r | r) hr
    case inr => exact hr.elim
    obtain ⟨p', ends, rfl, g1, g2, g3⟩ := hr
    simp (disch := omega) only [List.length_singleton]
    repeat' (first
      | refine Sat.some ?_
      | (refine Sat.pick hB (by omega) (by omega) (fun x _ _ _ => ?_) <;> dsimp only) | (refine Sat.gd (decide_eq_true (by omega)) ?_)
      | (refine Sat.gd (by first | exact inR_t (by omega) (by omega) | (simp (disch := omega) only [w64]; exact inR_t (by omega) (by omega))) ?_)
      | (refine Sat.ite (fun h => ?_) (fun h => ?_) <;> try simp only [decide_eq_true_eq, decide_eq_false_iff_not, Bool.not_eq_true', Bool.not_eq_false', inB_i, inB_j, Bool.and_eq_true, Bool.or_eq_true, Bool.and_eq_false_iff, Bool.or_eq_false_iff, El] at h))
    all_goals exact ⟨_, _, _, _, _, rfl, by omega, by omega, by omega, by (try simp only [List.length_append, List.length_singleton, List.length_nil]); omega, by omega, by omega, by omega, by omega⟩
theorem clOk_t {n node : Int} {ls : List Lk} {ends : List En} (h : clOk n ls node ends = true) : ∃ N K : Nat, n = N ∧ node = K ∧ GV N ls ∧ K < N ∧ LsV ⟨K, 1, ends⟩ := by
  simp only [clOk, Bool.and_eq_true] at h
  obtain ⟨⟨h1, h2⟩, h3⟩ := h
  obtain ⟨N, rfl, g⟩ := gv_nat h1
  have h2 := inB_t h2
  obtain ⟨K, rfl⟩ := Int.eq_ofNat_of_zero_le h2.1
  exact ⟨N, K, rfl, rfl, g, by omega, of_decide_eq_true h3⟩
theorem clR_yes {n node : Int} {ls : List Lk} {ends : List En} (h : clOk n ls node ends = true) : clR n ls node ends = (n, true, grid (clF ls n.toNat node ends) n.toNat) := by unfold clR; rw [if_pos h]
theorem clR_ok {n node : Int} {ls : List Lk} {ends : List En} (h : (clR n ls node ends).2.1 = true) : clOk n ls node ends = true := by
  unfold clR at h
  split at h
  · assumption
  · cases h
theorem clR_len (n : Int) (ls : List Lk) (node : Int) (ends : List En) : (clR n ls node ends).2.2.length ≤ 14 := by
  unfold clR
  split
  · rename_i h
    obtain ⟨N, K, rfl, rfl, g, _, _⟩ := clOk_t h
    exact clF_len g
  · simp
section
variable {N K : Nat} {ls : List Lk} {ends : List En}
theorem clF_far (g : GV N ls) {a b : Nat} (hab : a < b) (hb : b < N) (ha : a ≠ K) (hbK : b ≠ K) : clF ls N K ends a b = lc ls a b := by
  unfold clF dbF
  rw [ann_cl g (by omega) hb, ann_cl g hb (by omega), lc_symm ls b a, if_neg (show ¬ (a : Int) = K by omega), if_neg (show ¬ (b : Int) = K by omega)]
  have key : ∀ o : Option Int, (∀ d, o = some d → 1 ≤ d) → (if 0 < o.getD 0 ∧ 0 < o.getD 0 then some (max (o.getD 0) (o.getD 0)) else none) = o := fun o h => by
    cases o with
    | none => rfl
    | some d =>
      have := h d rfl
      simp only [Option.getD_some, Int.max_self]
      rw [if_pos (by omega)]
  exact key _ fun d e => (lc_cost g e).1
end
end Go.Proofs.Ythcckenjkicmgaa
end
section
namespace Go.Proofs.Ythcckenjkicmgaa
open Go.RowKit
set_option linter.unusedSimpArgs false
set_option linter.unusedVariables false
set_option maxRecDepth 100000

section
variable {N K : Nat} {ls : List Lk} {ends : List En}
end
def usedB (N : Nat) (ls : List Lk) (a b n : Nat) : Bool := decide (0 ≤ iz (dists N ls a) b) && decide (0 ≤ iz (dists N ls a) n) && decide (iz (dists N ls a) n + iz (dists N ls b) n = iz (dists N ls a) b)
theorem dists_bd {N : Nat} {ls : List Lk} (g : GV N ls) (a : Nat) (j : Nat) : -1 ≤ iz (dists N ls a) j ∧ iz (dists N ls a) j ≤ 5100 := dst_bd N ls a N 0 g.cheap g.2.2.1 (by have := g.2.1; omega) j
theorem e_NodeUsed {N : Nat} {ls : List Lk} (g : GV N ls) {a b n : Nat} (ha : a < N) (hb : b < N) (hn : n < N) : sh_impl_NodeUsed ((N : Int), ls, (a : Int), (b : Int), (n : Int), ()) = some (usedB N ls a b n, ()) := by
  have h14 := g.2.2.1
  have fl : Fits ls := fits_of h14 (by omega)
  have hg : gv (N : Int) ls = true := decide_eq_true g
  have hi : ∀ x : Nat, x < N → inB (x : Int) 0 ((N : Int) - 1) = true := fun x hx => inB_mk (by omega)
  unfold sh_impl_NodeUsed usedB
  have b1 := dists_bd g a n
  have b2 := dists_bd g b n
  simp only [e_hasNode _ _ _ fl, hg, hi a ha, hi b hb, hi n hn, Bool.and_self, Bool.not_true, cond_false, Option.bind_some, e_distances g ha, e_distances g hb, dists_len, at_int, toN, inR_t (show (0 : Int) ≤ b by omega) (show (b : Int) < N by omega), inR_t (show (0 : Int) ≤ n by omega) (show (n : Int) < N by omega), cond_true]
  rw [w64 (by omega) (by omega)]
  by_cases h1 : 0 ≤ iz (dists N ls a) b
  · by_cases h2 : 0 ≤ iz (dists N ls a) n <;> simp [h1, h2]
  · simp [h1]
section
variable {N K : Nat} {ls : List Lk} {ends : List En}
theorem adj_cl (g : GV N ls) {x y : Nat} {c : Int} (h : Adj (grid (clF ls N K ends) N) x y c) : ∃ d, d ≤ c ∧ Adj ls x y d := by
  rcases adj_grid.1 h with ⟨h1, h2, h3⟩ | ⟨h1, h2, h3⟩
  · obtain ⟨d, q1, q2⟩ := clF_sub g h1 h2 h3
    exact ⟨d, q2, (adj_lc g).2 (.inl ⟨h1, h2, q1⟩)⟩
  · obtain ⟨d, q1, q2⟩ := clF_sub g h1 h2 h3
    exact ⟨d, q2, (adj_lc g).2 (.inr ⟨h1, h2, q1⟩)⟩
theorem adj_far (g : GV N ls) {x y : Nat} {c : Int} (hx : x ≠ K) (hy : y ≠ K) (h : Adj ls x y c) : Adj (grid (clF ls N K ends) N) x y c := by
  rcases (adj_lc g).1 h with ⟨h1, h2, h3⟩ | ⟨h1, h2, h3⟩
  · exact adj_grid.2 (.inl ⟨h1, h2, by rw [clF_far g h1 h2 hx hy]; exact h3⟩)
  · exact adj_grid.2 (.inr ⟨h1, h2, by rw [clF_far g h1 h2 hy hx]; exact h3⟩)
theorem cl_dist (g : GV N ls) (hV : LsV ⟨K, 1, ends⟩) {a b : Nat} (ha : a < N) (hb : b < N) (h : 0 ≤ iz (dists N (grid (clF ls N K ends) N) a) b) : 0 ≤ iz (dists N ls a) b ∧ iz (dists N ls a) b ≤ iz (dists N (grid (clF ls N K ends) N) a) b := by
  obtain ⟨k, w⟩ := dists_walk (clF_gv g hV) ha hb h
  obtain ⟨s, hs, w'⟩ := w.dom (ls' := ls) fun x y c h => adj_cl g h
  have := dists_le g ha w'
  omega
theorem cl_walk (g : GV N ls) {a k v : Nat} {s : Int} (w : Wk ls a k v s) : (∃ k1 s1 k2 s2, s1 + s2 = s ∧ Wk ls a k1 K s1 ∧ Wk ls K k2 v s2) ∨ (v ≠ K ∧ Wk (grid (clF ls N K ends) N) a k v s) := by
  induction w with
  | nil =>
    by_cases e : a = K
    · exact .inl ⟨0, 0, 0, 0, rfl, by rw [← e]; exact .nil, by rw [← e]; exact .nil⟩
    · exact .inr ⟨e, .nil⟩
  | @step k v x s c hw ha ih =>
    rcases ih with ⟨k1, s1, k2, s2, e, w1, w2⟩ | ⟨hv, w'⟩
    · exact .inl ⟨k1, s1, k2 + 1, s2 + c, by omega, w1, w2.step ha⟩
    · by_cases e : x = K
      · exact .inl ⟨k + 1, s + c, 0, 0, by omega, by rw [← e]; exact hw.step ha, by rw [e]; exact .nil⟩
      · exact .inr ⟨e, w'.step (adj_far g hv e ha)⟩
theorem cl_same (g : GV N ls) (hV : LsV ⟨K, 1, ends⟩) (hK : K < N) {a b : Nat} (ha : a < N) (hb : b < N) (hu : usedB N ls a b K = false) : iz (dists N ls a) b = iz (dists N (grid (clF ls N K ends) N) a) b := by
  have hg := clF_gv g hV
  have l1 := dists_low g.cheap ha b
  have l2 := dists_low hg.cheap ha b
  by_cases h : 0 ≤ iz (dists N ls a) b
  · obtain ⟨k, w⟩ := dists_walk g ha hb h
    rcases cl_walk (K := K) (ends := ends) g w with ⟨k1, s1, k2, s2, e, w1, w2⟩ | ⟨_, w'⟩
    · exfalso
      have d1 := dists_le g ha w1
      have d2 := dists_le g hb w2.symm
      obtain ⟨m1, v1⟩ := dists_walk g ha hK d1.1
      obtain ⟨m2, v2⟩ := dists_walk g hb hK d2.1
      have d3 := dists_le g ha (v1.append v2.symm)
      unfold usedB at hu
      rw [decide_eq_true h, decide_eq_true d1.1, decide_eq_true (show iz (dists N ls a) K + iz (dists N ls b) K = iz (dists N ls a) b by omega)] at hu
      cases hu
    · have d1 := dists_le hg ha w'
      have d2 := cl_dist g hV ha hb d1.1
      omega
  · by_cases h2 : 0 ≤ iz (dists N (grid (clF ls N K ends) N) a) b
    · have := cl_dist g hV ha hb h2; omega
    · omega
end
end Go.Proofs.Ythcckenjkicmgaa
end
section
namespace Go.Proofs.Ythcckenjkicmgaa
open Go.RowKit
set_option linter.unusedSimpArgs false
set_option linter.unusedVariables false

theorem adj_cost {N : Nat} {ls : List Lk} (g : GV N ls) {x y : Nat} {c : Int} (h : Adj ls x y c) : lc ls y x = some c ∧ x < N ∧ y < N := by
  rcases (adj_lc g).1 h with ⟨h1, h2, h3⟩ | ⟨h1, h2, h3⟩
  · exact ⟨by rw [lc_symm]; exact h3, by omega, h2⟩
  · exact ⟨h3, h2, by omega⟩
end Go.Proofs.Ythcckenjkicmgaa
end
section
namespace Go.Proofs.Ythcckenjkicmgaa
open Go.RowKit
set_option linter.unusedSimpArgs false
set_option linter.unusedVariables false

section
variable {N K : Nat} {ls : List Lk}
theorem adj_of_lc (g : GV N ls) {x y : Nat} {c : Int} (h : lc ls x y = some c) : Adj ls x y c := by
  have o := lc_none_out g (m := (x : Int)) (x := (y : Int)) (by rw [h]; rfl)
  rw [adj_lc g]
  rcases Nat.lt_trichotomy x y with e | e | e
  · exact .inl ⟨e, by omega, h⟩
  · omega
  · exact .inr ⟨e, by omega, by rw [lc_symm]; exact h⟩
theorem hops_iff (g : GV N ls) {f t : Nat} (hne : f ≠ t) (hd : 0 ≤ iz (dists N ls t) f) {x : Int} : x ∈ hops N ls f t ↔ ∃ (j : Nat) (c : Int), x = j ∧ j < N ∧ lc ls f j = some c ∧ iz (dists N ls t) j + c = iz (dists N ls t) f := by
  unfold hops
  rw [if_neg (by rintro (e | e); exact hne e; omega), List.mem_filter, nbS_mem]
  constructor
  · rintro ⟨⟨j, hj, rfl, hs⟩, hb⟩
    obtain ⟨c, hc⟩ := Option.isSome_iff_exists.1 hs
    unfold hopB at hb
    rw [toN, hc] at hb
    exact ⟨j, c, rfl, hj, hc, of_decide_eq_true hb⟩
  · rintro ⟨j, c, rfl, hj, hc, hb⟩
    refine ⟨⟨j, hj, rfl, by rw [hc]; rfl⟩, ?_⟩
    unfold hopB
    rw [toN, hc]
    exact decide_eq_true hb
theorem hops_asc (f t : Nat) : (hops N ls f t).Pairwise (· < ·) := by
  unfold hops
  split
  · exact List.Pairwise.nil
  · exact (nbS_asc ls f N).filter _
def stepB (ls : List Lk) (d : List Int) (f n : Nat) : Bool := decide (0 ≤ lof ls f n) && (decide (0 ≤ iz d n) && decide (iz d n + (lk ls (lof ls f n).toNat).c = iz d f))
def hopsR (N : Nat) (ls : List Lk) (d : List Int) (f : Nat) (k : Nat) : List Int := ((List.range k).filter (stepB ls d f)).map fun n : Nat => (n : Int)
theorem hopsR_succ (d : List Int) (f k : Nat) : hopsR N ls d f (k + 1) = hopsR N ls d f k ++ if stepB ls d f k = true then [(k : Int)] else [] := by
  unfold hopsR
  rw [List.range_succ, List.filter_append, List.map_append]
  congr 1
  by_cases h : stepB ls d f k = true <;> simp [h]
theorem hopsR_len (d : List Int) (f k : Nat) : (hopsR N ls d f k).length ≤ k := by
  unfold hopsR
  rw [List.length_map]
  exact Nat.le_trans (List.length_filter_le _ _) (by simp)
theorem stepB_lc (g : GV N ls) {f n : Nat} {d : List Int} : stepB ls d f n = true ↔ ∃ c, lc ls f n = some c ∧ 1 ≤ c ∧ 0 ≤ iz d n ∧ iz d n + c = iz d f := by
  unfold stepB
  simp only [Bool.and_eq_true, decide_eq_true_eq]
  constructor
  · rintro ⟨h1, h2, h3⟩
    have : (lc ls (f : Int) (n : Int)).isSome = true := by rw [lc_lof]; exact decide_eq_true h1
    obtain ⟨c, hc⟩ := Option.isSome_iff_exists.1 this
    have := (lc_at hc).2.2
    rw [this] at h3
    exact ⟨c, hc, (lc_cost g hc).1, h2, h3⟩
  · rintro ⟨c, hc, h1, h2, h3⟩
    refine ⟨(lc_at hc).1, h2, ?_⟩
    rw [(lc_at hc).2.2]
    exact h3
theorem hops_ref (g : GV N ls) {f t : Nat} (hf : f < N) (ht : t < N) : hopsR N ls (dists N ls t) f N = hops N ls f t := by
  by_cases h0 : f = t ∨ iz (dists N ls t) f < 0
  · unfold hops hopsR
    rw [if_pos h0, List.map_eq_nil_iff, List.filter_eq_nil_iff]
    intro n hn hb
    obtain ⟨c, h1, h2, h3, h4⟩ := (stepB_lc g).1 hb
    rcases h0 with rfl | h0
    · have := dists_le g hf (Wk.nil (ls := ls) (u := f))
      omega
    · omega
  · have hne : f ≠ t := fun e => h0 (.inl e)
    have hd : 0 ≤ iz (dists N ls t) f := by
      have : ¬ iz (dists N ls t) f < 0 := fun e => h0 (.inr e)
      omega
    have asc : (hopsR N ls (dists N ls t) f N).Pairwise (· < ·) := by
      unfold hopsR
      refine List.pairwise_map.2 ?_
      exact (List.pairwise_lt_range.filter _).imp fun h => by exact_mod_cast h
    refine asc_ext asc (hops_asc f t) fun x => ?_
    rw [hops_iff g hne hd]
    unfold hopsR
    rw [List.mem_map]
    constructor
    · rintro ⟨n, hn, rfl⟩
      obtain ⟨h1, h2⟩ := List.mem_filter.1 hn
      obtain ⟨c, q1, q2, q3, q4⟩ := (stepB_lc g).1 h2
      exact ⟨n, c, rfl, List.mem_range.1 h1, q1, q4⟩
    · rintro ⟨j, c, rfl, hj, hc, he⟩
      obtain ⟨k, wf⟩ := dists_walk g ht hf hd
      have a := adj_of_lc g hc
      have dj := dists_le g ht (wf.step a)
      exact ⟨j, List.mem_filter.2 ⟨List.mem_range.2 hj, (stepB_lc g).2 ⟨c, hc, (lc_cost g hc).1, dj.1, he⟩⟩, rfl⟩
end
end Go.Proofs.Ythcckenjkicmgaa
end
section
namespace Go.Proofs.Ythcckenjkicmgaa
open Go.RowKit
set_option linter.unusedSimpArgs false
set_option linter.unusedVariables false

section
variable {N K : Nat} {ls : List Lk} {ends : List En}
theorem cl_hops (g : GV N ls) (hV : LsV ⟨K, 1, ends⟩) (hK : K < N) {f t : Nat} (hf : f < N) (ht : t < N) (hu : usedB N ls f t K = false) : hops N (grid (clF ls N K ends) N) f t = hops N ls f t := by
  have hg := clF_gv g hV
  have s0 := cl_same g hV hK hf ht hu
  have y1 := dists_symm g hf ht
  have y2 := dists_symm hg hf ht
  have s1 : iz (dists N ls t) f = iz (dists N (grid (clF ls N K ends) N) t) f := by omega
  by_cases h0 : f = t ∨ iz (dists N ls t) f < 0
  · unfold hops
    rw [if_pos h0, if_pos (by rw [← s1]; exact h0)]
  have hne : f ≠ t := fun e => h0 (.inl e)
  have hd : 0 ≤ iz (dists N ls t) f := by
    have : ¬ iz (dists N ls t) f < 0 := fun e => h0 (.inr e)
    omega
  have nu : 0 ≤ iz (dists N ls f) K → iz (dists N ls f) K + iz (dists N ls t) K ≠ iz (dists N ls f) t := fun a b => by
    unfold usedB at hu
    rw [decide_eq_true (show 0 ≤ iz (dists N ls f) t by omega), decide_eq_true a, decide_eq_true b] at hu
    cases hu
  have fK : f ≠ K := fun e => by
    subst e
    have z := dists_le g hf (Wk.nil (ls := ls) (u := f))
    exact nu z.1 (by omega)
  have far : ∀ j : Nat, j < N → j ≠ K → lc (grid (clF ls N K ends) N) f j = lc ls f j := fun j hj hjK => by
    rcases Nat.lt_trichotomy f j with e | e | e
    · rw [lc_grid e hj, clF_far g e hj fK hjK]
    · subst e
      have n1 : lc ls (f : Int) (f : Int) = none := by
        cases q : lc ls (f : Int) (f : Int) with
        | none => rfl
        | some c => exact absurd rfl (lc_none_out g (m := (f : Int)) (x := (f : Int)) (by rw [q]; rfl)).2.2.2.2
      have n2 : lc (grid (clF ls N K ends) N) (f : Int) (f : Int) = none := by
        cases q : lc (grid (clF ls N K ends) N) (f : Int) (f : Int) with
        | none => rfl
        | some c => exact absurd rfl (lc_none_out hg (m := (f : Int)) (x := (f : Int)) (by rw [q]; rfl)).2.2.2.2
      rw [n1, n2]
    · rw [lc_symm, lc_grid e hf, clF_far g e hf hjK fK, lc_symm]
  obtain ⟨kf, wf⟩ := dists_walk g ht hf hd
  refine asc_ext (hops_asc f t) (hops_asc f t) fun x => ?_
  rw [hops_iff hg hne (by omega), hops_iff g hne hd]
  constructor
  · rintro ⟨j, c, rfl, hj, hc, he⟩
    have aX := adj_of_lc hg hc
    obtain ⟨c', hcc, a⟩ := adj_cl g aX
    obtain ⟨kX, wX⟩ := dists_walk hg ht hf (by omega)
    have dXj := dists_le hg ht (wX.step aX)
    have dj := cl_dist g hV ht hj dXj.1
    obtain ⟨k2, w2⟩ := dists_walk g ht hj dj.1
    have t1 := dists_le g ht (w2.step a.symm)
    by_cases e : j = K
    · exfalso
      subst e
      have dfK := dists_le g hf (Wk.one a)
      obtain ⟨m1, v1⟩ := dists_walk g hf hj dfK.1
      have d3 := dists_le g hf (v1.append w2.symm)
      exact nu dfK.1 (by omega)
    · have hc' : lc ls f j = some c := by rw [← far j hj e]; exact hc
      have hl := (adj_cost g a).1
      rw [lc_symm, hc'] at hl
      injection hl with hl
      exact ⟨j, c, rfl, hj, hc', by omega⟩
  · rintro ⟨j, c, rfl, hj, hc, he⟩
    have a := adj_of_lc g hc
    have dj := dists_le g ht (wf.step a)
    obtain ⟨k2, w2⟩ := dists_walk g ht hj dj.1
    by_cases e : j = K
    · exfalso
      subst e
      have dfK := dists_le g hf (Wk.one a)
      obtain ⟨m1, v1⟩ := dists_walk g hf hj dfK.1
      have d3 := dists_le g hf (v1.append w2.symm)
      exact nu dfK.1 (by omega)
    · have y3 := dists_symm g hj ht
      have hu2 : usedB N ls j t K = false := by
        rcases cs_bool (usedB N ls j t K) with hf2 | hf2
        · exact hf2
        · exfalso
          unfold usedB at hf2
          simp only [Bool.and_eq_true, decide_eq_true_eq] at hf2
          obtain ⟨⟨u1, u2⟩, u3⟩ := hf2
          obtain ⟨m2, v2⟩ := dists_walk g hj hK u2
          have dfK := dists_le g hf ((Wk.one a).append v2)
          obtain ⟨m1, v1⟩ := dists_walk g hf hK dfK.1
          have w3 := w2.symm
          have dtK : 0 ≤ iz (dists N ls t) K := (dists_le g ht (w2.append v2)).1
          obtain ⟨m4, v4⟩ := dists_walk g ht hK dtK
          have d3 := dists_le g hf (v1.append v4.symm)
          exact nu dfK.1 (by omega)
      have s2 := cl_same g hV hK hj ht hu2
      have y4 := dists_symm hg hj ht
      exact ⟨j, c, rfl, hj, by rw [far j hj e]; exact hc, by omega⟩
end
end Go.Proofs.Ythcckenjkicmgaa
end
section
namespace Go.Proofs.Ythcckenjkicmgaa
open Go.RowKit
set_option linter.unusedSimpArgs false
set_option linter.unusedVariables false
set_option maxRecDepth 100000

section
variable {N : Nat} {ls : List Lk}
theorem dists_bd5 {N : Nat} {ls : List Lk} (g : GV N ls) (a : Nat) (j : Nat) : -1 ≤ iz (dists N ls a) j ∧ iz (dists N ls a) j ≤ 5100 := dst_bd N ls a N 0 g.cheap g.2.2.1 (by have := g.2.1; omega) j
theorem e_nextHops (g : GV N ls) {f t : Nat} (hf : f < N) (ht : t < N) : sh_impl_Graph_nextHops ((N : Int), ls, (f : Int), (t : Int), ()) = some (hops N ls f t, ()) := by
  have h8 := g.2.1
  have h14 := g.2.2.1
  have fl : Fits ls := (show Fits ls by unfold Fits; omega)
  unfold sh_impl_Graph_nextHops hops
  rw [e_distances g ht]
  dsimp only [Option.bind_some]
  have bd := fun j => dists_bd5 g t j
  have hdl := dists_len N ls t
  generalize dists N ls t = d at *
  refine Sat.out ?_
  refine Sat.ite (fun h => ?_) (fun h => ?_)
  · have h := of_decide_eq_true h
    rw [if_pos (.inl (by omega))]
    exact .some rfl
  have h := of_decide_eq_false h
  refine Sat.gd (inR_t (by omega) (by omega)) (Sat.ite (fun h1 => ?_) (fun h1 => ?_))
  · rw [at_int, toN] at h1
    have h1 := of_decide_eq_true h1
    rw [if_pos (.inr h1)]
    exact .some rfl
  rw [at_int, toN] at h1
  have h1 := of_decide_eq_false h1
  rw [if_neg (by rintro (e | e); · omega
                 · exact h1 e)]
  rw [e_neighbours _ _ _ (by omega), sort_nb g]
  dsimp only [Option.bind_some]
  have hmem : ∀ x ∈ nbS ls f N, ∃ (j : Nat) (c : Int), x = j ∧ j < N ∧ lc ls f x = some c ∧ 1 ≤ c ∧ c ≤ 20 := fun x hx => by
    obtain ⟨j, hj, rfl, hs⟩ := nbS_mem.1 hx
    obtain ⟨c, hc⟩ := Option.isSome_iff_exists.1 hs
    have := lc_cost g hc
    exact ⟨j, c, rfl, hj, hc, this.1, this.2⟩
  have hnl := nbS_len ls f N
  generalize nbS ls f N = nb at *
  rw [nI_eq]
  refine Sat.bnd (R := fun r => match r with | .inl x => x.1 = nb.filter (hopB ls d f) | .inr _ => False) ?_ ?_
  · refine Sat.count nb.length (fun k s => s = ((f : Int), (nb.length : Int), (k : Int), (N : Int), ls, (nb.take k).filter (hopB ls d f), d, nb, ())) ?_ (Nat.zero_le _) (fuel_lt (by omega)) (by simp)
    rintro k s hk rfl
    have hle : ((nb.take k).filter (hopB ls d f)).length ≤ k := Nat.le_trans (List.length_filter_le _ _) (List.length_take_le _ _)
    by_cases hlt : k < nb.length
    · obtain ⟨j, c, hj, hjN, hc, hc1, hc2⟩ := hmem (iz nb k) (List.mem_of_getElem? (iz_get hlt))
      obtain ⟨p1, p2, p3⟩ := lc_at hc
      have bj := bd j
      have hB : hopB ls d f (iz nb k) = decide (iz d j + c = iz d f) := by unfold hopB; rw [hc, hj]; rfl
      simp (disch := omega) only [bo_impl_Graph_nextHops_5, at_int, at_lk, toN, w64, e_linkOf _ _ _ _ fl, Option.bind_some, List.length_singleton]
      refine Sat.gd (decide_eq_true (by omega)) (Sat.gd (inR_t (by omega) (by omega)) (Sat.gd (inR_t (by omega) (by omega)) (Sat.gd (inR_t (by omega) (by omega)) (Sat.gd (inR_t p1 p2) ?_))))
      rw [p3, hj, toN]
      dsimp only
      rw [w64 (by omega) (by omega), ← hB]
      refine Sat.ite (fun hu => Sat.gd (decide_eq_true (by omega)) (.some ⟨hlt, ?_⟩)) (fun hu => .some ⟨hlt, ?_⟩)
      · rw [List.take_add_one, iz_get hlt, List.filter_append]
        simp [hu, hj]
        rw [← hj]; simp [hu]
      · rw [List.take_add_one, iz_get hlt, List.filter_append]
        simp [hu]
    · obtain rfl : k = nb.length := by omega
      unfold bo_impl_Graph_nextHops_5
      simp only [decide_eq_false (show ¬ (nb.length : Int) < nb.length by omega), cond_false, List.take_length]
      exact .some rfl
  · rintro (r | r) hr
    case inr => exact hr.elim
    have hr : r.1 = nb.filter (hopB ls d f) := hr
    exact .some (by rw [hr])
end
end Go.Proofs.Ythcckenjkicmgaa
end
section
namespace Go.Proofs.Ythcckenjkicmgaa
open Go.RowKit
set_option linter.unusedSimpArgs false
set_option linter.unusedVariables false
set_option maxRecDepth 100000

section
variable {N : Nat} {ls : List Lk}
theorem lofLt (ls : List Lk) (a b : Int) : lof ls a b < ls.length := by
  rcases lof_cases ls a b with ⟨h, _⟩ | ⟨k, h, hk, _⟩ <;> omega
theorem e_l2Hops (g : GV N ls) {f t : Nat} (hf : f < N) (ht : t < N) : sh_spec_l2Hops ((N : Int), ls, (f : Int), (t : Int), ()) = some (hops N ls f t, ()) := by
  have h8 := g.2.1
  have h14 := g.2.2.1
  have fl : Fits ls := (show Fits ls by unfold Fits; omega)
  rw [← hops_ref g hf ht]
  unfold sh_spec_l2Hops
  rw [e_l2Distances g ht]
  dsimp only [Option.bind_some]
  have bd := fun j => dists_bd5 g t j
  have hdl := dists_len N ls t
  generalize dists N ls t = d at *
  refine Sat.out (Sat.bnd (R := fun r => r = .inl (hopsR N ls d f N, ())) ?_ ?_)
  · refine Sat.count N (fun k s => s = ((f : Int), (k : Int), (N : Int), ls, hopsR N ls d f k, d, ())) ?_ (Nat.zero_le _) (fuel_lt (by omega)) rfl
    rintro k s hk rfl
    have hle := hopsR_len (N := N) (ls := ls) d f k
    by_cases hlt : k < N
    · have bk := bd k
      have lf := lofLt ls (f : Int) (k : Int)
      have hs : ∀ b, stepB ls d f k = b → hopsR N ls d f (k + 1) = hopsR N ls d f k ++ if b = true then [(k : Int)] else [] := fun b e => by rw [hopsR_succ, e]
      simp (disch := omega) only [bo_spec_l2Hops_4, at_int, at_lk, toN, w64, e_l1Link _ _ _ _ fl, Option.bind_some, List.length_singleton]
      unfold stepB at hs
      refine Sat.gd (decide_eq_true (by omega)) (Sat.ite (fun h1 => ?_) (fun h1 => ?_))
      · have h1' := of_decide_eq_true h1
        obtain ⟨x, y, _, _, _, _, hc1, hc20⟩ := g.at_ (show (lof ls f k).toNat < ls.length by omega)
        have bf := bd f
        refine Sat.gd (inR_t (by omega) (by omega)) (Sat.ite (fun h2 => ?_) (fun h2 => ?_))
        · refine Sat.gd (inR_t (by omega) (by omega)) (Sat.gd (inR_t (by omega) (by omega)) (Sat.gd (inR_t (by omega) (by omega)) ?_))
          rw [w64 (by omega) (by omega)]
          refine Sat.ite (fun h3 => Sat.gd (decide_eq_true (by omega)) (.some ⟨hlt, ?_⟩)) (fun h3 => .some ⟨hlt, ?_⟩)
          · rw [hs true (by rw [h1, h2, h3]; rfl)]; rfl
          · rw [hs false (by rw [h1, h2, h3]; rfl), if_neg (by simp), List.append_nil]; rfl
        · exact .some ⟨hlt, by rw [hs false (by rw [h1, h2]; rfl), if_neg (by simp), List.append_nil]; rfl⟩
      · exact .some ⟨hlt, by rw [hs false (by rw [h1]; rfl), if_neg (by simp), List.append_nil]; rfl⟩
    · obtain rfl : k = N := by omega
      unfold bo_spec_l2Hops_4
      exact Sat.no (decide_eq_false (by first | omega | (dsimp only; omega))) (.some rfl)
  · rintro _ rfl
    exact .some rfl
end
end Go.Proofs.Ythcckenjkicmgaa
end
section
namespace Go.Proofs.Ythcckenjkicmgaa
open Go.RowKit
set_option linter.unusedSimpArgs false
set_option linter.unusedVariables false
set_option maxRecDepth 100000

theorem iz_ext {a b : List Int} (hl : a.length = b.length) (h : ∀ j, j < a.length → iz a j = iz b j) : a = b := by
  refine List.ext_getElem? fun j => ?_
  rcases Nat.lt_or_ge j a.length with hj | hj
  · rw [iz_get hj, iz_get (by omega), h j hj]
  · rw [List.getElem?_eq_none hj, List.getElem?_eq_none (by omega)]
theorem e_Equal (a b : List Int) (ha : Fits a) : sh_slices_Equal_int_int (a, b, ()) = some (decide (a = b), ()) := by
  unfold sh_slices_Equal_int_int
  unfold Fits at ha
  simp only [nI_eq]
  refine Sat.out (Sat.ite (fun h => .some ?_) (fun h => ?_))
  · have hne : a ≠ b := fun e => by subst e; simp at h
    rw [decide_eq_false hne]
  have hl : a.length = b.length := by
    have h : (a.length : Int) = b.length := by simpa using h
    omega
  refine Sat.bnd (R := fun r => match r with | .inl _ => a = b | .inr y => y = (false, ()) ∧ a ≠ b) ?_ ?_
  · refine Sat.count a.length (fun k s => s = (a, b, (a.length : Int), (k : Int), ()) ∧ ∀ j, j < k → iz a j = iz b j) ?_ (Nat.zero_le _) (fuel_lt (by omega)) ⟨rfl, fun j hj => by omega⟩
    rintro k s hk ⟨rfl, hj⟩
    by_cases hlt : k < a.length
    · simp (disch := omega) only [bo_slices_Equal_int_int_4, at_int, toN, w64, nI_eq]
      refine Sat.gd (decide_eq_true (by omega)) (Sat.gd (inR_t (by omega) (by omega)) (Sat.gd (inR_t (by omega) (by omega)) (Sat.ite (fun h => .some ⟨rfl, fun e => ?_⟩) (fun h => .some ⟨hlt, rfl, fun j q => ?_⟩))))
      · subst e; simp at h
      · by_cases e : j < k
        · exact hj j e
        · obtain rfl : j = k := by omega
          simpa using h
    · obtain rfl : k = a.length := by omega
      simp only [bo_slices_Equal_int_int_4, nI_eq]
      exact Sat.no (decide_eq_false (by omega)) (.some (iz_ext hl hj))
  · rintro (r | r) hr
    · exact .some (by rw [decide_eq_true hr])
    · obtain ⟨rfl, hr⟩ := hr
      exact .some (by rw [decide_eq_false hr])
theorem e_l32Same (a b : List Int) (ha : Fits a) : sh_spec_l32Same (a, b, ()) = some (decide (a = b), ()) := by
  unfold sh_spec_l32Same
  unfold Fits at ha
  simp only [nI_eq]
  refine Sat.out (Sat.ite (fun h => .some ?_) (fun h => ?_))
  · have hne : a ≠ b := fun e => by subst e; simp at h
    rw [decide_eq_false hne]
  have hl : a.length = b.length := by
    have h : (a.length : Int) = b.length := by simpa using h
    omega
  refine Sat.bnd (R := fun r => match r with | .inl _ => a = b | .inr y => y = (false, ()) ∧ a ≠ b) ?_ ?_
  · refine Sat.count a.length (fun k s => s = (a, b, (k : Int), ()) ∧ ∀ j, j < k → iz a j = iz b j) ?_ (Nat.zero_le _) (fuel_lt (by omega)) ⟨rfl, fun j hj => by omega⟩
    rintro k s hk ⟨rfl, hj⟩
    by_cases hlt : k < a.length
    · simp (disch := omega) only [bo_spec_l32Same_4, at_int, toN, w64, nI_eq]
      refine Sat.gd (decide_eq_true (by omega)) (Sat.gd (inR_t (by omega) (by omega)) (Sat.gd (inR_t (by omega) (by omega)) (Sat.ite (fun h => .some ⟨rfl, fun e => ?_⟩) (fun h => .some ⟨hlt, rfl, fun j q => ?_⟩))))
      · subst e; simp at h
      · by_cases e : j < k
        · exact hj j e
        · obtain rfl : j = k := by omega
          simpa using h
    · obtain rfl : k = a.length := by omega
      simp only [bo_spec_l32Same_4, nI_eq]
      exact Sat.no (decide_eq_false (by omega)) (.some (iz_ext hl hj))
  · rintro (r | r) hr
    · exact .some (by rw [decide_eq_true hr])
    · obtain ⟨rfl, hr⟩ := hr
      exact .some (by rw [decide_eq_false hr])
theorem e_sameInts2 (a b : List Int) (ha : Fits a) : Sat (sh_laws_sameInts (a, b, ())) fun r => r = (decide (a = b), ()) := by
  unfold sh_laws_sameInts
  unfold Fits at ha
  simp only [nI_eq]
  refine Sat.ite (fun h => .some ?_) (fun h => ?_)
  · have hne : a ≠ b := fun e => by subst e; simp at h
    rw [decide_eq_false hne]
  have hl : a.length = b.length := by
    have h : (a.length : Int) = b.length := by simpa using h
    omega
  refine Sat.bnd (R := fun r => match r with | .inl _ => a = b | .inr y => y = (false, ()) ∧ a ≠ b) ?_ ?_
  · refine Sat.count a.length (fun k s => s = (a, b, (k : Int), ()) ∧ ∀ j, j < k → iz a j = iz b j) ?_ (Nat.zero_le _) (fuel_lt (by omega)) ⟨rfl, fun j hj => by omega⟩
    rintro k s hk ⟨rfl, hj⟩
    by_cases hlt : k < a.length
    · simp (disch := omega) only [bo_laws_sameInts_4, at_int, toN, w64, nI_eq]
      refine Sat.gd (decide_eq_true (by omega)) (Sat.gd (inR_t (by omega) (by omega)) (Sat.gd (inR_t (by omega) (by omega)) (Sat.ite (fun h => .some ⟨rfl, fun e => ?_⟩) (fun h => .some ⟨hlt, rfl, fun j q => ?_⟩))))
      · subst e; simp at h
      · by_cases e : j < k
        · exact hj j e
        · obtain rfl : j = k := by omega
          simpa using h
    · obtain rfl : k = a.length := by omega
      simp only [bo_laws_sameInts_4, nI_eq]
      exact Sat.no (decide_eq_false (by omega)) (.some (iz_ext hl hj))
  · rintro (r | r) hr
    · exact .some (by rw [decide_eq_true hr])
    · obtain ⟨rfl, hr⟩ := hr
      exact .some (by rw [decide_eq_false hr])
section
variable {N : Nat} {ls X : List Lk}
def movB (N : Nat) (ls X : List Lk) (t i : Nat) : Bool := !decide (hops N ls i t = hops N X i t)
def movL (N : Nat) (ls X : List Lk) (t k : Nat) : List Int := ((List.range k).filter (movB N ls X t)).map fun n : Nat => (n : Int)
theorem movL_succ (t k : Nat) : movL N ls X t (k + 1) = movL N ls X t k ++ if movB N ls X t k = true then [(k : Int)] else [] := by
  unfold movL
  rw [List.range_succ, List.filter_append, List.map_append]
  congr 1
  by_cases h : movB N ls X t k = true <;> simp [h]
theorem movL_len (t k : Nat) : (movL N ls X t k).length ≤ k := by
  unfold movL
  rw [List.length_map]
  exact Nat.le_trans (List.length_filter_le _ _) (by simp)
theorem movL_mem {t k : Nat} {x : Int} : x ∈ movL N ls X t k ↔ ∃ i : Nat, x = i ∧ i < k ∧ movB N ls X t i = true := by
  unfold movL
  rw [List.mem_map]
  constructor
  · rintro ⟨i, hi, rfl⟩
    obtain ⟨h1, h2⟩ := List.mem_filter.1 hi
    exact ⟨i, rfl, List.mem_range.1 h1, h2⟩
  · rintro ⟨i, rfl, h1, h2⟩
    exact ⟨i, List.mem_filter.2 ⟨List.mem_range.2 h1, h2⟩, rfl⟩
theorem movL_asc (t k : Nat) : (movL N ls X t k).Pairwise (· < ·) := by
  unfold movL
  refine List.pairwise_map.2 ?_
  exact (List.pairwise_lt_range.filter _).imp fun h => by exact_mod_cast h
theorem e_moved1 (g : GV N ls) (gx : GV N X) {i t : Nat} (hi : i < N) (ht : t < N) : sh_impl_ClaimMoved_1 ((i : Int), (N : Int), ls, (t : Int), (N : Int), X, ()) = some (movB N ls X t i, ()) := by
  have h8 := g.2.1
  have hl := hops_len (N := N) (ls := ls) i t
  unfold sh_impl_ClaimMoved_1 movB
  exact Sat.out (sv (e_nextHops g hi ht) (sv (e_nextHops gx hi ht) (sv (e_Equal _ _ (show Fits (hops N ls i t) by unfold Fits; omega)) (.some rfl))))
theorem e_nodesBy (g : GV N ls) (gx : GV N X) {t : Nat} (ht : t < N) : sh_impl_Graph_nodesBy_ClaimMoved_1 ((N : Int), ls, (N : Int), ls, (t : Int), (N : Int), X, ()) = some (movL N ls X t N, ()) := by
  have h8 := g.2.1
  unfold sh_impl_Graph_nodesBy_ClaimMoved_1
  refine Sat.out (Sat.bnd (R := fun r => r = .inl (movL N ls X t N, ())) ?_ ?_)
  · refine Sat.count N (fun k s => s = ((N : Int), ls, (t : Int), (N : Int), X, (N : Int), (k : Int), movL N ls X t k, ())) ?_ (Nat.zero_le _) (fuel_lt (by omega)) rfl
    rintro k s hk rfl
    have hle := movL_len (N := N) (ls := ls) (X := X) t k
    by_cases hlt : k < N
    · simp (disch := omega) only [bo_impl_Graph_nodesBy_ClaimMoved_1_3, w64, List.length_singleton]
      refine Sat.gd (decide_eq_true (by omega)) (sv (e_moved1 g gx hlt ht) (Sat.ite (fun h => Sat.gd (decide_eq_true (by omega)) (.some ⟨hlt, ?_⟩)) (fun h => .some ⟨hlt, ?_⟩)))
      · rw [movL_succ, if_pos h]; rfl
      · rw [movL_succ, if_neg (by simpa using h), List.append_nil]; rfl
    · obtain rfl : k = N := by omega
      unfold bo_impl_Graph_nodesBy_ClaimMoved_1_3
      exact Sat.no (decide_eq_false (by first | omega | (dsimp only; omega))) (.some rfl)
  · rintro _ rfl
    exact .some rfl
end
def mvOk (n : Int) (ls : List Lk) (node : Int) (ends : List En) (q0 : Int) : Bool := clOk n ls node ends && inB q0 0 (n - 1)
def movR (n : Int) (ls : List Lk) (node : Int) (ends : List En) (q0 : Int) : List Int := if mvOk n ls node ends q0 = true then movL n.toNat ls (grid (clF ls n.toNat node ends) n.toNat) q0.toNat n.toNat else []
theorem movR_len (n : Int) (ls : List Lk) (node : Int) (ends : List En) (q0 : Int) : (movR n ls node ends q0).length ≤ 8 := by
  unfold movR
  split
  · rename_i h
    simp only [mvOk, Bool.and_eq_true] at h
    obtain ⟨N, K, rfl, rfl, g, _, _⟩ := clOk_t h.1
    have h8 := g.2.1
    have := movL_len (N := N) (ls := ls) (X := grid (clF ls N K ends) N) q0.toNat N
    rw [Int.toNat_natCast]
    omega
  · simp
theorem mvOk_t {n node q0 : Int} {ls : List Lk} {ends : List En} (h : mvOk n ls node ends q0 = true) : ∃ N K t : Nat, n = N ∧ node = K ∧ q0 = t ∧ GV N ls ∧ K < N ∧ t < N ∧ LsV ⟨K, 1, ends⟩ := by
  simp only [mvOk, Bool.and_eq_true] at h
  obtain ⟨N, K, rfl, rfl, g, h1, h2⟩ := clOk_t h.1
  have h3 := inB_t h.2
  obtain ⟨t, rfl⟩ := Int.eq_ofNat_of_zero_le h3.1
  exact ⟨N, K, t, rfl, rfl, rfl, g, h1, by omega, h2⟩
section
variable {ls : List Lk} {ends : List En}
theorem e_ClaimMoved (n node q0 : Int) (hl : Fits ls) (he : Fits ends) : sh_impl_ClaimMoved (n, ls, node, ends, q0, ()) = some (movR n ls node ends q0, ()) := by
  unfold sh_impl_ClaimMoved
  refine Sat.out (sv (e_ClaimGraph n node hl he) ?_)
  dsimp only
  cases hc : clOk n ls node ends with
  | false =>
    have e : movR n ls node ends q0 = [] := by unfold movR mvOk; rw [hc]; rfl
    have e2 : (clR n ls node ends).2.1 = false := by unfold clR; rw [hc]; rfl
    rw [e, e2]
    exact Sat.gd rfl (.some rfl)
  | true =>
    rw [clR_yes hc]
    refine Sat.no rfl (sv (e_hasNode n q0 ls hl) ?_)
    obtain ⟨N, K, rfl, rfl, g, h1, h2⟩ := clOk_t hc
    rw [show gv (N : Int) ls = true from decide_eq_true g, Bool.true_and]
    cases ht : inB q0 0 ((N : Int) - 1) with
    | false =>
      have e : movR N ls K ends q0 = [] := by unfold movR mvOk; rw [hc, ht]; rfl
      rw [e]
      exact Sat.gd rfl (.some rfl)
    | true =>
      have h3 := inB_t ht
      obtain ⟨t, rfl⟩ := Int.eq_ofNat_of_zero_le h3.1
      have e : movR N ls K ends t = movL N ls (grid (clF ls N K ends) N) t N := by unfold movR mvOk; rw [hc, ht]; rfl
      rw [e]
      exact Sat.no rfl (sv (e_nodesBy g (clF_gv g h2) (by omega)) (.some rfl))
theorem e_sClaimMoved (n node q0 : Int) (hl : Fits ls) (he : ends.length ≤ 2000000) : sh_spec_ClaimMoved (n, ls, node, ends, q0, ()) = some (movR n ls node ends q0, ()) := by
  have hfe : Fits ends := by unfold Fits; omega
  have h0 : sh_spec_l32Ok (n, ls, node, ends, ()) = some (clOk n ls node ends, ()) := by
    unfold sh_spec_l32Ok clOk
    simp only [e_sGraphValid n ls hl, Option.bind_some]
    cases h1 : gv n ls with
    | false => rfl
    | true =>
    obtain ⟨N, rfl, g⟩ := gv_nat h1
    have h8 := g.2.1
    simp only [e_l1Node (N : Int) node ls (by omega) (by omega), e_sLsaValid node 1 ends hfe, Option.bind_some, cond_true]
    cases h2 : inB node 0 ((N : Int) - 1) with
    | false => rfl
    | true => simp only [cond_true, Bool.and_self, Bool.true_and]
  unfold sh_spec_ClaimMoved
  refine Sat.out (sv h0 ?_)
  cases hc : clOk n ls node ends with
  | false =>
    have e : movR n ls node ends q0 = [] := by unfold movR mvOk; rw [hc]; rfl
    rw [e]
    exact Sat.gd rfl (.some rfl)
  | true =>
    obtain ⟨N, K, rfl, rfl, g, h1, h2⟩ := clOk_t hc
    have h8 := g.2.1
    refine Sat.no rfl (sv (e_l1Node (N : Int) q0 ls (by omega) (by omega)) ?_)
    cases ht : inB q0 0 ((N : Int) - 1) with
    | false =>
      have e : movR N ls K ends q0 = [] := by unfold movR mvOk; rw [hc, ht]; rfl
      rw [e]
      exact Sat.gd rfl (.some rfl)
    | true =>
      have h3 := inB_t ht
      obtain ⟨t, rfl⟩ := Int.eq_ofNat_of_zero_le h3.1
      have htN : t < N := by omega
      have e : movR N ls K ends t = movL N ls (grid (clF ls N K ends) N) t N := by unfold movR mvOk; rw [hc, ht]; rfl
      rw [e]
      have gx := clF_gv g h2
      have b4 : bo_spec_ClaimMoved_4 ((K : Int), ends, (t : Int), (N : Int), ls, [], ()) = some (.inl ((t : Int), (N : Int), ls, [], (N : Int), grid (clF ls N K ends) N, ())) := by
        unfold bo_spec_ClaimMoved_4
        exact Sat.out (sv (e_l32Db g K he) (sv (e_l11Graph (show Fits (clDb ls N K ends N) by unfold Fits; rw [clDb_len]; omega) (clDb_fits K hfe h8) (by omega)) (.some rfl)))
      refine Sat.no rfl (sv b4 ?_)
      dsimp only
      generalize grid (clF ls N K ends) N = X at *
      refine Sat.bnd (R := fun r => r = .inl (movL N ls X t N, ())) ?_ ?_
      · refine Sat.count N (fun k s => s = ((t : Int), (k : Int), (N : Int), ls, movL N ls X t k, (N : Int), X, ())) ?_ (Nat.zero_le _) (fuel_lt (by omega)) rfl
        rintro k s hk rfl
        have hle := movL_len (N := N) (ls := ls) (X := X) t k
        by_cases hlt : k < N
        · have hl1 := hops_len (N := N) (ls := ls) k t
          simp (disch := omega) only [bo_spec_ClaimMoved_6, w64, List.length_singleton]
          refine Sat.gd (decide_eq_true (by omega)) (sv (e_l2Hops g hlt htN) (sv (e_l2Hops gx hlt htN) (sv (e_l32Same _ _ (show Fits (hops N ls k t) by unfold Fits; omega)) (Sat.ite (fun h => Sat.gd (decide_eq_true (by omega)) (.some ⟨hlt, ?_⟩)) (fun h => .some ⟨hlt, ?_⟩)))))
          · rw [movL_succ, if_pos (by unfold movB; exact h)]; rfl
          · rw [movL_succ, if_neg (by unfold movB; simpa using h), List.append_nil]; rfl
        · obtain rfl : k = N := by omega
          unfold bo_spec_ClaimMoved_6
          exact Sat.no (decide_eq_false (by first | omega | (dsimp only; omega))) (.some rfl)
      · rintro _ rfl
        exact .some rfl
theorem law_ExactClaimGraph (n node : Int) (ml : Mxl ls) (me : Mxl ends) : sh_laws_FnExactClaimGraph (n, ls, node, ends, ()) = some (true, ()) := by
  unfold sh_laws_FnExactClaimGraph
  simp only [nI_eq]
  refine Sat.out (sv (e_szGraph n ls 1048576 ml (by omega)) (Sat.ite (fun _ => .some rfl) (fun h0 => ?_)))
  have h0 := sz_ok h0
  dsimp only
  rw [sz_val h0]
  refine sv (e_szE (ends, (1048576 - ls.length : Int), ()) me (by dsimp only; omega)) (Sat.ite (fun _ => .some rfl) (fun h1 => ?_))
  have h1 : (ends.length : Int) ≤ 1048576 - ls.length := sz_ok h1
  have fl : Fits ls := by unfold Fits; omega
  have fe : Fits ends := by unfold Fits; omega
  have hj := clR_len n ls node ends
  have gg := e_toGraph n ls (by omega)
  have ge := e_toEndS ends (by omega)
  have ej := e_ClaimGraph n node fl fe
  have es := e_sClaimGraph n node fl (show ends.length ≤ 2000000 by omega)
  obtain ⟨J, rj⟩ : ∃ J, clR n ls node ends = J := ⟨_, rfl⟩
  rw [rj] at hj ej es
  have fj : Fits J.2.2 := by unfold Fits; omega
  have eh := e_heldGraph J.1 1 J.2.2.length (by omega) (by omega) (by omega)
  refine sv gg (sv ge (sv es (sv gg (sv ge (sv ej (sv (e_eqGraph _ _ fj) (Sat.no rfl (Sat.no (by simp) ?_))))))))
  refine sv gg (sv (e_eqGraph n ls fl) (Sat.no rfl (sv ge (sv (e_eqEndS ends fe) (Sat.no rfl ?_)))))
  refine sv (e_markGraph n 1 ls (by omega) (by omega) (by omega)) (sv (e_markEndS (1 + 3 * ls.length) ends (by omega) (by omega) (by omega)) (Sat.no (decide_eq_false (by dsimp only; omega)) ?_))
  refine sv (e_eqGraph _ _ fj) (Sat.no rfl (Sat.no (by simp) (sv (e_markGraph J.1 1 J.2.2 (by omega) (by omega) (by omega)) (sv eh (Sat.no (decide_eq_false (by dsimp only; omega)) (Sat.no (by simp) ?_))))))
  exact sv gg (sv ge (sv ej (sv (e_eqGraph _ _ fj) (Sat.no rfl (Sat.no (by simp) (sv eh (Sat.no (decide_eq_false (by dsimp only; omega)) (Sat.no (by simp) (.some rfl)))))))))
theorem law_ExactClaimMoved (n node q0 : Int) (ml : Mxl ls) (me : Mxl ends) : sh_laws_FnExactClaimMoved (n, ls, node, ends, q0, ()) = some (true, ()) := by
  unfold sh_laws_FnExactClaimMoved
  simp only [nI_eq]
  refine Sat.out (sv (e_szGraph n ls 1048576 ml (by omega)) (Sat.ite (fun _ => .some rfl) (fun h0 => ?_)))
  have h0 := sz_ok h0
  dsimp only
  rw [sz_val h0]
  refine sv (e_szE (ends, (1048576 - ls.length : Int), ()) me (by dsimp only; omega)) (Sat.ite (fun _ => .some rfl) (fun h1 => ?_))
  have h1 : (ends.length : Int) ≤ 1048576 - ls.length := sz_ok h1
  have fl : Fits ls := by unfold Fits; omega
  have fe : Fits ends := by unfold Fits; omega
  have hj := movR_len n ls node ends q0
  have gg := e_toGraph n ls (by omega)
  have ge := e_toEndS ends (by omega)
  have ej := e_ClaimMoved n node q0 fl fe
  have es := e_sClaimMoved n node q0 fl (show ends.length ≤ 2000000 by omega)
  obtain ⟨J, rj⟩ : ∃ J, movR n ls node ends q0 = J := ⟨_, rfl⟩
  rw [rj] at hj ej es
  have fj : Fits J := by unfold Fits; omega
  have eh := e_heldIntS 1 J.length (by omega) (by omega) (by omega)
  refine sv gg (sv ge (sv es (sv gg (sv ge (sv ej (sv (e_eqIntS _ fj) (Sat.no rfl ?_)))))))
  refine sv gg (sv (e_eqGraph n ls fl) (Sat.no rfl (sv ge (sv (e_eqEndS ends fe) (Sat.no rfl ?_)))))
  refine sv (e_markGraph n 1 ls (by omega) (by omega) (by omega)) (sv (e_markEndS (1 + 3 * ls.length) ends (by omega) (by omega) (by omega)) (Sat.no (decide_eq_false (by dsimp only; omega)) ?_))
  refine sv (e_eqIntS _ fj) (Sat.no rfl (sv (e_markIntS 1 J (by omega) (by omega) (by omega)) (sv eh (Sat.no (decide_eq_false (by dsimp only; omega)) (Sat.no (by simp) ?_)))))
  exact sv gg (sv ge (sv ej (sv (e_eqIntS _ fj) (Sat.no rfl (sv eh (Sat.no (decide_eq_false (by dsimp only; omega)) (Sat.no (by simp) (.some rfl))))))))
end
end Go.Proofs.Ythcckenjkicmgaa
end
section
namespace Go.Proofs.Ythcckenjkicmgaa
open Go.RowKit
set_option maxRecDepth 100000
def e_spec_l6Rd_pick : Entry := ⟨⟨[.c (.one (.ptr 0 0)), .c (.one (.b (.int .i64)))], [.box 131 [(.b (.sl true .u8)), (.b (.int .i64))]]⟩, [.int, .ls .u8, .int], ⟨[.c (.one (.b (.int .i64)))], [.box 131 [(.b (.sl true .u8)), (.b (.int .i64))]]⟩, [.int, .ls .u8, .int], sh_spec_l6Rd_pick⟩
def g_spec_l6Rd_pick : Env := mkEnv tab [] 99 1 [(7, 44, [(0, true), (1, true), (2, true), (3, true), (4, true), (5, true), (6, true), (7, true), (8, true), (9, true), (10, true), (11, true), (12, true), (13, true), (14, true), (15, true), (16, true), (17, true), (18, true), (19, true), (20, true), (21, true), (22, true), (23, true), (24, true), (25, true), (26, true), (27, true), (28, true), (29, true), (30, true), (31, true), (32, true), (33, true), (34, true), (35, true), (36, true), (37, true), (38, true), (39, true), (40, true), (41, true), (42, true), (43, true)], [])] []
theorem t_spec_l6Rd_pick : CtrOk Try.prog g_spec_l6Rd_pick.Γ := ctr_ok (l := []) trivial
theorem p_spec_l6Rd_pick : GC Try.prog 102 e_spec_l6Rd_pick := gc_of (G := g_spec_l6Rd_pick) (c := Try.f102.body.getD .skip) bad_ok tabOk t_spec_l6Rd_pick mixed Try.func102 (by kernel_rfl) Try.ntmps102 (code_ok' (G := g_spec_l6Rd_pick) (n := 0) (by kernel_rfl) (by kernel_rfl) trivial (by kernel_rfl)) (fun s => by kernel_rfl)
def e_spec_l6Open : Entry := ⟨⟨[.c (.one (.b (.sl true .u8)))], []⟩, [.ls .u8], ⟨[.c (.one (.ptr 0 0))], [.box 131 [(.b (.sl true .u8)), (.b (.int .i64))]]⟩, [.ls .u8, .int], sh_spec_l6Open⟩
def g_spec_l6Open : Env := mkEnv tab [] 11 0 [] []
theorem t_spec_l6Open : CtrOk Try.prog g_spec_l6Open.Γ := ctr_ok (l := []) trivial
theorem p_spec_l6Open : GC Try.prog 42 e_spec_l6Open := gc_of (G := g_spec_l6Open) (c := Try.f42.body.getD .skip) bad_ok tabOk t_spec_l6Open mixed Try.func42 (by kernel_rfl) Try.ntmps42 (code_ok' (G := g_spec_l6Open) (n := 0) (by kernel_rfl) (by kernel_rfl) trivial (by kernel_rfl)) (fun s => by kernel_rfl)
def L_spec_l91Graph_9 : Loop := ⟨⟨[0, 2, 3, 4, 5, 6], ⟨[.c (.one (.ptr 0 0)), .c (.one (.ptr 1 0)), .c (.one (.ptr 2 0)), .c (.one (.b (.int .i64))), .c (.one (.b (.int .i64))), .c (.one (.b (.int .i64)))], [.box 131 [(.b (.sl true .u8)), (.b (.int .i64))], .box 25 [(.b (.int .i64)), (.b (.sl true .lk))], .box 25 [(.b (.int .i64)), (.own 3)], .row 105 .lk]⟩, [.int, .int, .int, .ls .u8, .int, .int, .ls .lk, .int, .ls .lk]⟩, 2, ⟨[0, 2, 3, 4, 5], ⟨[.c (.one (.ptr 0 0)), .c (.one (.ptr 1 0)), .c (.one (.ptr 2 0)), .c (.one (.b (.int .i64))), .c (.one (.b (.int .i64)))], [.box 131 [(.b (.sl true .u8)), (.b (.int .i64))], .box 25 [(.b (.int .i64)), (.b (.sl true .lk))], .box 25 [(.b (.int .i64)), (.own 3)], .row 105 .lk]⟩, [.int, .int, .ls .u8, .int, .int, .ls .lk, .int, .ls .lk]⟩, ⟨[999999], ⟨[.c (.one (.own 0))], []⟩, []⟩, lp bo_spec_l91Graph_9 fuel⟩
def L_spec_l91Graph_6 : Loop := ⟨⟨[0, 2, 3, 4, 5], ⟨[.c (.one (.ptr 0 0)), .c (.one (.ptr 1 0)), .c (.one (.ptr 2 0)), .c (.one (.b (.int .i64))), .c (.one (.b (.int .i64)))], [.box 131 [(.b (.sl true .u8)), (.b (.int .i64))], .box 25 [(.b (.int .i64)), (.b (.sl true .lk))], .box 25 [(.b (.int .i64)), (.own 3)], .row 105 .lk]⟩, [.int, .int, .ls .u8, .int, .int, .ls .lk, .int, .ls .lk]⟩, 0, ⟨[0, 2, 3], ⟨[.c (.one (.ptr 0 0)), .c (.one (.ptr 1 0)), .c (.one (.ptr 2 0))], [.box 131 [(.b (.sl true .u8)), (.b (.int .i64))], .box 25 [(.b (.int .i64)), (.b (.sl true .lk))], .box 25 [(.b (.int .i64)), (.own 3)], .row 105 .lk]⟩, [.ls .u8, .int, .int, .ls .lk, .int, .ls .lk]⟩, ⟨[999999], ⟨[.c (.one (.own 0))], []⟩, []⟩, lp bo_spec_l91Graph_6 fuel⟩
def e_spec_l91Graph : Entry := ⟨⟨[.c (.one (.ptr 0 0))], [.box 131 [(.b (.sl true .u8)), (.b (.int .i64))]]⟩, [.ls .u8, .int], ⟨[.c (.agg [(.b (.int .i64)), (.own 1)])], [.box 131 [(.b (.sl true .u8)), (.b (.int .i64))], .row 105 .lk]⟩, [.int, .ls .u8, .int, .ls .lk], sh_spec_l91Graph⟩
def g_spec_l91Graph : Env := mkEnv tab [(102, [], e_spec_l6Rd_pick)] 94 1 [(13, 16, [(0, true), (1, true), (2, true), (3, true), (4, true), (7, true), (10, true), (5, false), (6, true), (8, false), (9, true), (11, false), (12, true), (13, true), (14, true), (15, false)], [0])] [(9, L_spec_l91Graph_9), (6, L_spec_l91Graph_6)]
theorem t_spec_l91Graph : CtrOk Try.prog g_spec_l91Graph.Γ := ctr_ok (l := [(102, [], e_spec_l6Rd_pick)]) ⟨⟨p_spec_l6Rd_pick, Try.call102⟩, trivial⟩
theorem k_spec_l91Graph_9 : LoopOk Try.prog 1 94 (nthC (nthC (Try.f132.body.getD .skip) 0) 0) L_spec_l91Graph_9 := loop_ok (G := g_spec_l91Graph) (F := L_spec_l91Graph_9.F) (eid := L_spec_l91Graph_9.eid) (FX := L_spec_l91Graph_9.FX) (FR := L_spec_l91Graph_9.FR) (B := bo_spec_l91Graph_9) (n := fuel) bad_ok tabOk t_spec_l91Graph mixed (code_ok' (G := g_spec_l91Graph) (n := 0) (by kernel_rfl) (by kernel_rfl) trivial (by kernel_rfl)) (fun s => by kernel_rfl)
theorem k_spec_l91Graph_6 : LoopOk Try.prog 1 94 (nthC (Try.f132.body.getD .skip) 0) L_spec_l91Graph_6 := loop_ok (G := g_spec_l91Graph) (F := L_spec_l91Graph_6.F) (eid := L_spec_l91Graph_6.eid) (FX := L_spec_l91Graph_6.FX) (FR := L_spec_l91Graph_6.FR) (B := bo_spec_l91Graph_6) (n := fuel) bad_ok tabOk t_spec_l91Graph mixed (code_ok' (G := g_spec_l91Graph) (n := 1) (by kernel_rfl) (by kernel_rfl) ⟨trivial, loop_at (id := 9) (L0 := L_spec_l91Graph_9) (by kernel_rfl) (by kernel_rfl) k_spec_l91Graph_9⟩ (by kernel_rfl)) (fun s => by kernel_rfl)
theorem p_spec_l91Graph : GC Try.prog 132 e_spec_l91Graph := gc_of (G := g_spec_l91Graph) (c := Try.f132.body.getD .skip) bad_ok tabOk t_spec_l91Graph mixed Try.func132 (by kernel_rfl) Try.ntmps132 (code_ok' (G := g_spec_l91Graph) (n := 1) (by kernel_rfl) (by kernel_rfl) ⟨trivial, loop_at (id := 6) (L0 := L_spec_l91Graph_6) (by kernel_rfl) (by kernel_rfl) k_spec_l91Graph_6⟩ (by kernel_rfl)) (fun s => by kernel_rfl)
def e_spec_l91Node : Entry := ⟨⟨[.c (.one (.ptr 0 0)), .c (.agg [(.b (.int .i64)), (.b (.sl true .lk))])], [.box 131 [(.b (.sl true .u8)), (.b (.int .i64))]]⟩, [.int, .ls .lk, .ls .u8, .int], ⟨[.c (.one (.b (.int .i64)))], [.box 131 [(.b (.sl true .u8)), (.b (.int .i64))]]⟩, [.int, .ls .u8, .int], sh_spec_l91Node⟩
def g_spec_l91Node : Env := mkEnv tab [(102, [], e_spec_l6Rd_pick)] 16 1 [] []
theorem t_spec_l91Node : CtrOk Try.prog g_spec_l91Node.Γ := ctr_ok (l := [(102, [], e_spec_l6Rd_pick)]) ⟨⟨p_spec_l6Rd_pick, Try.call102⟩, trivial⟩
theorem p_spec_l91Node : GC Try.prog 44 e_spec_l91Node := gc_of (G := g_spec_l91Node) (c := Try.f44.body.getD .skip) bad_ok tabOk t_spec_l91Node mixed Try.func44 (by kernel_rfl) Try.ntmps44 (code_ok' (G := g_spec_l91Node) (n := 0) (by kernel_rfl) (by kernel_rfl) trivial (by kernel_rfl)) (fun s => by kernel_rfl)
def L_spec_l91Spoilt_7 : Loop := ⟨⟨[0, 2, 3, 4], ⟨[.c (.one (.ptr 0 0)), .c (.one (.ptr 1 0)), .c (.one (.ptr 2 0)), .c (.one (.b (.int .i64)))], [.box 131 [(.b (.sl true .u8)), (.b (.int .i64))], .box 25 [(.b (.int .i64)), (.b (.sl true .lk))], .box 25 [(.b (.int .i64)), (.own 3)], .row 105 .lk]⟩, [.int, .ls .u8, .int, .int, .ls .lk, .int, .ls .lk]⟩, 0, ⟨[2, 3], ⟨[.c (.one (.ptr 1 0)), .c (.one (.ptr 2 0))], [.box 131 [(.b (.sl true .u8)), (.b (.int .i64))], .box 25 [(.b (.int .i64)), (.b (.sl true .lk))], .box 25 [(.b (.int .i64)), (.own 3)], .row 105 .lk]⟩, [.ls .u8, .int, .int, .ls .lk, .int, .ls .lk]⟩, ⟨[999999], ⟨[.c (.one (.own 0))], []⟩, []⟩, bo_spec_l91Spoilt_7⟩
def e_spec_l91Spoilt : Entry := ⟨⟨[.c (.one (.ptr 0 0))], [.box 131 [(.b (.sl true .u8)), (.b (.int .i64))]]⟩, [.ls .u8, .int], ⟨[.c (.agg [(.b (.int .i64)), (.own 1)])], [.box 131 [(.b (.sl true .u8)), (.b (.int .i64))], .row 105 .lk]⟩, [.int, .ls .u8, .int, .ls .lk], sh_spec_l91Spoilt⟩
def g_spec_l91Spoilt : Env := mkEnv tab [(102, [], e_spec_l6Rd_pick), (132, [], e_spec_l91Graph)] 58 1 [(9, 5, [(0, true), (1, true), (2, true), (3, true), (4, false)], [0]), (13, 8, [(0, true), (1, true), (2, true), (3, true), (4, true), (5, true), (6, true), (7, false)], [])] [(7, L_spec_l91Spoilt_7)]
theorem t_spec_l91Spoilt : CtrOk Try.prog g_spec_l91Spoilt.Γ := ctr_ok (l := [(102, [], e_spec_l6Rd_pick), (132, [], e_spec_l91Graph)]) ⟨⟨p_spec_l6Rd_pick, Try.call102⟩, ⟨⟨p_spec_l91Graph, Try.call132⟩, trivial⟩⟩
theorem k_spec_l91Spoilt_7 : RegOk Try.prog 1 58 (nthR g_spec_l91Spoilt.plan (Try.f101.body.getD .skip) 0).1 (nthR g_spec_l91Spoilt.plan (Try.f101.body.getD .skip) 0).2 L_spec_l91Spoilt_7 := reg_ok (G := g_spec_l91Spoilt) (n := 8) (ks := [0]) (t := (.val 0 (.val 1 (.val 2 (.val 4 (.two 3 (.one 5 (.val 6 (.one 7 .done))) 5 (.one 3 (.val 6 (.one 7 .done))))))))) (F := L_spec_l91Spoilt_7.F) (eid := 0) (FX := L_spec_l91Spoilt_7.FX) (FR := L_spec_l91Spoilt_7.FR) (sh := bo_spec_l91Spoilt_7) bad_ok tabOk t_spec_l91Spoilt mixed (by kernel_rfl) (by kernel_rfl) ⟨fun s => by kernel_rfl, fun s => by kernel_rfl, trivial⟩
theorem p_spec_l91Spoilt : GC Try.prog 101 e_spec_l91Spoilt := gc_of (G := g_spec_l91Spoilt) (c := Try.f101.body.getD .skip) bad_ok tabOk t_spec_l91Spoilt mixed Try.func101 (by kernel_rfl) Try.ntmps101 (code_ok2 (G := g_spec_l91Spoilt) (n := 0) (m := 1) (by kernel_rfl) (by kernel_rfl) trivial (by kernel_rfl) ⟨trivial, reg_at (L0 := L_spec_l91Spoilt_7) (by kernel_rfl) k_spec_l91Spoilt_7⟩) (fun s => by kernel_rfl)
def L_spec_l92Claim_5 : Loop := ⟨⟨[0, 2, 5, 6, 7, 8], ⟨[.c (.one (.ptr 0 0)), .c (.one (.ptr 1 0)), .c (.one (.ptr 2 0)), .c (.one (.b (.int .i64))), .c (.one (.own 3)), .c (.one (.b (.int .i64)))], [.box 131 [(.b (.sl true .u8)), (.b (.int .i64))], .box 25 [(.b (.int .i64)), (.b (.sl true .lk))], .box 25 [(.b (.int .i64)), (.b (.sl true .lk))], .row 95 .en]⟩, [.int, .int, .ls .u8, .int, .int, .ls .lk, .int, .ls .lk, .ls .en]⟩, 0, ⟨[0, 2, 5, 6, 7], ⟨[.c (.one (.ptr 0 0)), .c (.one (.ptr 1 0)), .c (.one (.ptr 2 0)), .c (.one (.b (.int .i64))), .c (.one (.own 3))], [.box 131 [(.b (.sl true .u8)), (.b (.int .i64))], .box 25 [(.b (.int .i64)), (.b (.sl true .lk))], .box 25 [(.b (.int .i64)), (.b (.sl true .lk))], .row 95 .en]⟩, [.int, .ls .u8, .int, .int, .ls .lk, .int, .ls .lk, .ls .en]⟩, ⟨[999999], ⟨[.c (.one (.own 0))], []⟩, []⟩, lp bo_spec_l92Claim_5 fuel⟩
def e_spec_l92Claim : Entry := ⟨⟨[.c (.one (.ptr 0 0))], [.box 131 [(.b (.sl true .u8)), (.b (.int .i64))]]⟩, [.ls .u8, .int], ⟨[.tup [(.agg [(.b (.int .i64)), (.b (.sl true .lk))]), (.one (.b (.int .i64))), (.one (.own 1))]], [.box 131 [(.b (.sl true .u8)), (.b (.int .i64))], .row 95 .en]⟩, [.int, .ls .lk, .int, .ls .u8, .int, .ls .en], sh_spec_l92Claim⟩
def g_spec_l92Claim : Env := mkEnv tab [(102, [], e_spec_l6Rd_pick), (44, [], e_spec_l91Node), (101, [], e_spec_l91Spoilt)] 51 1 [] [(5, L_spec_l92Claim_5)]
theorem t_spec_l92Claim : CtrOk Try.prog g_spec_l92Claim.Γ := ctr_ok (l := [(102, [], e_spec_l6Rd_pick), (44, [], e_spec_l91Node), (101, [], e_spec_l91Spoilt)]) ⟨⟨p_spec_l6Rd_pick, Try.call102⟩, ⟨⟨p_spec_l91Node, Try.call44⟩, ⟨⟨p_spec_l91Spoilt, Try.call101⟩, trivial⟩⟩⟩
theorem k_spec_l92Claim_5 : LoopOk Try.prog 1 51 (nthC (Try.f43.body.getD .skip) 0) L_spec_l92Claim_5 := loop_ok (G := g_spec_l92Claim) (F := L_spec_l92Claim_5.F) (eid := L_spec_l92Claim_5.eid) (FX := L_spec_l92Claim_5.FX) (FR := L_spec_l92Claim_5.FR) (B := bo_spec_l92Claim_5) (n := fuel) bad_ok tabOk t_spec_l92Claim mixed (code_ok' (G := g_spec_l92Claim) (n := 0) (by kernel_rfl) (by kernel_rfl) trivial (by kernel_rfl)) (fun s => by kernel_rfl)
theorem p_spec_l92Claim : GC Try.prog 43 e_spec_l92Claim := gc_of (G := g_spec_l92Claim) (c := Try.f43.body.getD .skip) bad_ok tabOk t_spec_l92Claim mixed Try.func43 (by kernel_rfl) Try.ntmps43 (code_ok' (G := g_spec_l92Claim) (n := 1) (by kernel_rfl) (by kernel_rfl) ⟨trivial, loop_at (id := 5) (L0 := L_spec_l92Claim_5) (by kernel_rfl) (by kernel_rfl) k_spec_l92Claim_5⟩ (by kernel_rfl)) (fun s => by kernel_rfl)
def e_spec_DrawClaimMoved : Entry := ⟨⟨[.c (.one (.b (.sl true .u8)))], []⟩, [.ls .u8], ⟨[.tup [(.agg [(.b (.int .i64)), (.b (.sl true .lk))]), (.one (.b (.int .i64))), (.one (.own 0)), (.one (.b (.int .i64)))]], [.row 95 .en]⟩, [.int, .ls .lk, .int, .int, .ls .en], sh_spec_DrawClaimMoved⟩
def g_spec_DrawClaimMoved : Env := mkEnv tab [(42, [], e_spec_l6Open), (44, [], e_spec_l91Node), (43, [], e_spec_l92Claim)] 24 0 [(3, 8, [(0, true), (1, true), (2, true), (3, true), (4, true), (5, false), (6, false), (7, true)], [0, 1])] []
theorem t_spec_DrawClaimMoved : CtrOk Try.prog g_spec_DrawClaimMoved.Γ := ctr_ok (l := [(42, [], e_spec_l6Open), (44, [], e_spec_l91Node), (43, [], e_spec_l92Claim)]) ⟨⟨p_spec_l6Open, Try.call42⟩, ⟨⟨p_spec_l91Node, Try.call44⟩, ⟨⟨p_spec_l92Claim, Try.call43⟩, trivial⟩⟩⟩
theorem p_spec_DrawClaimMoved : GC Try.prog 10 e_spec_DrawClaimMoved := gc_of (G := g_spec_DrawClaimMoved) (c := Try.f10.body.getD .skip) bad_ok tabOk t_spec_DrawClaimMoved mixed Try.func10 (by kernel_rfl) Try.ntmps10 (code_ok' (G := g_spec_DrawClaimMoved) (n := 0) (by kernel_rfl) (by kernel_rfl) trivial (by kernel_rfl)) (fun s => by kernel_rfl)
end Go.Proofs.Ythcckenjkicmgaa
end
section
namespace Go.Proofs.Ythcckenjkicmgaa
open Go.RowKit
set_option maxRecDepth 100000
def L_laws_FnClaimMovedUsed_9 : Loop := ⟨⟨[3, 4, 6, 7, 9], ⟨[.c (.one (.ptr 0 0)), .c (.one (.b (.int .i64))), .c (.one (.b (.int .i64))), .c (.one (.own 1)), .c (.one (.b (.int .i64)))], [.box 25 [(.b (.int .i64)), (.b (.sl true .lk))], .row 3 .int]⟩, [.int, .int, .int, .int, .ls .lk, .ls .int]⟩, 0, ⟨[], ⟨[], []⟩, []⟩, ⟨[2], ⟨[.c (.one (.b .bool))], []⟩, [.bool]⟩, lp bo_laws_FnClaimMovedUsed_9 fuel⟩
def e_laws_FnClaimMovedUsed : Entry := ⟨⟨[.c (.one (.b (.sl true .u8)))], []⟩, [.ls .u8], ⟨[.c (.one (.b .bool))], []⟩, [.bool], sh_laws_FnClaimMovedUsed⟩
def g_laws_FnClaimMovedUsed : Env := mkEnv tab [(13, [], e_laws_sameInts), (14, [], e_impl_NodeUsed), (12, [], e_spec_ClaimMoved), (11, [], e_impl_ClaimMoved), (10, [], e_spec_DrawClaimMoved)] 52 0 [(11, 7, [(0, true), (1, true), (2, true), (3, true), (4, true), (5, true), (6, true)], [])] [(9, L_laws_FnClaimMovedUsed_9)]
theorem t_laws_FnClaimMovedUsed : CtrOk Try.prog g_laws_FnClaimMovedUsed.Γ := ctr_ok (l := [(13, [], e_laws_sameInts), (14, [], e_impl_NodeUsed), (12, [], e_spec_ClaimMoved), (11, [], e_impl_ClaimMoved), (10, [], e_spec_DrawClaimMoved)]) ⟨⟨p_laws_sameInts, Try.call13⟩, ⟨⟨p_impl_NodeUsed, Try.call14⟩, ⟨⟨p_spec_ClaimMoved, Try.call12⟩, ⟨⟨p_impl_ClaimMoved, Try.call11⟩, ⟨⟨p_spec_DrawClaimMoved, Try.call10⟩, trivial⟩⟩⟩⟩⟩
theorem k_laws_FnClaimMovedUsed_9 : LoopOk Try.prog 0 52 (nthC (Try.f3.body.getD .skip) 0) L_laws_FnClaimMovedUsed_9 := loop_ok (G := g_laws_FnClaimMovedUsed) (F := L_laws_FnClaimMovedUsed_9.F) (eid := L_laws_FnClaimMovedUsed_9.eid) (FX := L_laws_FnClaimMovedUsed_9.FX) (FR := L_laws_FnClaimMovedUsed_9.FR) (B := bo_laws_FnClaimMovedUsed_9) (n := fuel) bad_ok tabOk t_laws_FnClaimMovedUsed mixed (code_ok' (G := g_laws_FnClaimMovedUsed) (n := 0) (by kernel_rfl) (by kernel_rfl) trivial (by kernel_rfl)) (fun s => by kernel_rfl)
theorem p_laws_FnClaimMovedUsed : GC Try.prog 3 e_laws_FnClaimMovedUsed := gc_of (G := g_laws_FnClaimMovedUsed) (c := Try.f3.body.getD .skip) bad_ok tabOk t_laws_FnClaimMovedUsed mixed Try.func3 (by kernel_rfl) Try.ntmps3 (code_ok' (G := g_laws_FnClaimMovedUsed) (n := 1) (by kernel_rfl) (by kernel_rfl) ⟨trivial, loop_at (id := 9) (L0 := L_laws_FnClaimMovedUsed_9) (by kernel_rfl) (by kernel_rfl) k_laws_FnClaimMovedUsed_9⟩ (by kernel_rfl)) (fun s => by kernel_rfl)
def L_laws_FnClaimMoved_10 : Loop := ⟨⟨[3, 6, 7, 9, 10, 11], ⟨[.c (.one (.ptr 0 0)), .c (.one (.b (.int .i64))), .c (.one (.own 1)), .c (.one (.ptr 2 0)), .c (.one (.b .bool)), .c (.one (.b (.int .i64)))], [.box 25 [(.b (.int .i64)), (.b (.sl true .lk))], .row 3 .int, .box 25 [(.b (.int .i64)), (.own 3)], .row 105 .lk]⟩, [.int, .bool, .int, .int, .ls .lk, .ls .int, .int, .ls .lk]⟩, 0, ⟨[7, 10], ⟨[.c (.one (.own 0)), .c (.one (.b .bool))], [.row 3 .int]⟩, [.bool, .ls .int]⟩, ⟨[2], ⟨[.c (.one (.b .bool))], []⟩, [.bool]⟩, lp bo_laws_FnClaimMoved_10 fuel⟩
def e_laws_FnClaimMoved : Entry := ⟨⟨[.c (.one (.b (.sl true .u8)))], []⟩, [.ls .u8], ⟨[.c (.one (.b .bool))], []⟩, [.bool], sh_laws_FnClaimMoved⟩
def g_laws_FnClaimMoved : Env := mkEnv tab [(13, [], e_laws_sameInts), (17, [], e_impl_NextHops), (16, [], e_laws_hasInt), (18, [], e_laws_ascending), (12, [], e_spec_ClaimMoved), (15, [], e_impl_ClaimGraph), (11, [], e_impl_ClaimMoved), (10, [], e_spec_DrawClaimMoved)] 89 0 [(12, 10, [(0, true), (1, true), (3, true), (4, true), (5, true), (7, true), (8, true), (9, true), (2, false), (6, false)], [])] [(10, L_laws_FnClaimMoved_10)]
theorem t_laws_FnClaimMoved : CtrOk Try.prog g_laws_FnClaimMoved.Γ := ctr_ok (l := [(13, [], e_laws_sameInts), (17, [], e_impl_NextHops), (16, [], e_laws_hasInt), (18, [], e_laws_ascending), (12, [], e_spec_ClaimMoved), (15, [], e_impl_ClaimGraph), (11, [], e_impl_ClaimMoved), (10, [], e_spec_DrawClaimMoved)]) ⟨⟨p_laws_sameInts, Try.call13⟩, ⟨⟨p_impl_NextHops, Try.call17⟩, ⟨⟨p_laws_hasInt, Try.call16⟩, ⟨⟨p_laws_ascending, Try.call18⟩, ⟨⟨p_spec_ClaimMoved, Try.call12⟩, ⟨⟨p_impl_ClaimGraph, Try.call15⟩, ⟨⟨p_impl_ClaimMoved, Try.call11⟩, ⟨⟨p_spec_DrawClaimMoved, Try.call10⟩, trivial⟩⟩⟩⟩⟩⟩⟩⟩
theorem k_laws_FnClaimMoved_10 : LoopOk Try.prog 0 89 (nthC (Try.f4.body.getD .skip) 0) L_laws_FnClaimMoved_10 := loop_ok (G := g_laws_FnClaimMoved) (F := L_laws_FnClaimMoved_10.F) (eid := L_laws_FnClaimMoved_10.eid) (FX := L_laws_FnClaimMoved_10.FX) (FR := L_laws_FnClaimMoved_10.FR) (B := bo_laws_FnClaimMoved_10) (n := fuel) bad_ok tabOk t_laws_FnClaimMoved mixed (code_ok' (G := g_laws_FnClaimMoved) (n := 0) (by kernel_rfl) (by kernel_rfl) trivial (by kernel_rfl)) (fun s => by kernel_rfl)
theorem p_laws_FnClaimMoved : GC Try.prog 4 e_laws_FnClaimMoved := gc_of (G := g_laws_FnClaimMoved) (c := Try.f4.body.getD .skip) bad_ok tabOk t_laws_FnClaimMoved mixed Try.func4 (by kernel_rfl) Try.ntmps4 (code_ok' (G := g_laws_FnClaimMoved) (n := 1) (by kernel_rfl) (by kernel_rfl) ⟨trivial, loop_at (id := 10) (L0 := L_laws_FnClaimMoved_10) (by kernel_rfl) (by kernel_rfl) k_laws_FnClaimMoved_10⟩ (by kernel_rfl)) (fun s => by kernel_rfl)
end Go.Proofs.Ythcckenjkicmgaa
end
section
namespace Go.Proofs.Ythcckenjkicmgaa
open Go.RowKit
set_option linter.unusedSimpArgs false
set_option linter.unusedVariables false
set_option maxRecDepth 100000

theorem e_hasInt (zs : List Int) (n : Int) (hz : Fits zs) : sh_laws_hasInt (zs, n, ()) = some (zs.contains n, ()) := by
  unfold sh_laws_hasInt
  unfold Fits at hz
  refine Sat.out (Sat.bnd (R := fun r => match r with | .inl _ => n ∉ zs | .inr y => y = (true, ()) ∧ n ∈ zs) ?_ ?_)
  · refine Sat.count zs.length (fun k s => s = (zs, n, (k : Int), ()) ∧ n ∉ zs.take k) ?_ (Nat.zero_le _) (fuel_lt (by omega)) ⟨rfl, by simp⟩
    rintro k s hk ⟨rfl, hn⟩
    by_cases hlt : k < zs.length
    · simp (disch := omega) only [bo_laws_hasInt_2, at_int, toN, w64, nI_eq]
      refine Sat.gd (decide_eq_true (by omega)) (Sat.gd (inR_t (by omega) (by omega)) (Sat.ite (fun h => .some ⟨rfl, ?_⟩) (fun h => .some ⟨hlt, rfl, ?_⟩)))
      · have h := of_decide_eq_true h
        exact List.mem_of_getElem? (h ▸ iz_get hlt)
      · have h := of_decide_eq_false h
        rw [List.take_add_one, iz_get hlt]
        simp only [Option.toList_some, List.mem_append, List.mem_singleton, not_or]
        exact ⟨hn, fun e => h e.symm⟩
    · obtain rfl : k = zs.length := by omega
      simp only [bo_laws_hasInt_2, nI_eq]
      rw [List.take_length] at hn
      exact Sat.no (decide_eq_false (by omega)) (.some hn)
  · rintro (r | r) hr
    · have hr : n ∉ zs := hr
      exact .some (by rw [show zs.contains n = false by simpa using hr])
    · obtain ⟨rfl, hr⟩ := hr
      exact .some (by rw [show zs.contains n = true by simpa using hr])
theorem e_ascending (zs : List Int) (hz : Fits zs) (ha : zs.Pairwise (· < ·)) : sh_laws_ascending (zs, ()) = some (true, ()) := by
  unfold sh_laws_ascending
  unfold Fits at hz
  refine Sat.out (Sat.bnd (R := fun r => match r with | .inl _ => True | .inr _ => False) ?_ ?_)
  · rcases Nat.eq_zero_or_pos zs.length with h0 | h0
    · refine Sat.count 1 (fun k s => k = 1 ∧ s = (zs, (1 : Int), ())) ?_ (k := 1) (by omega) (fuel_lt (by omega)) ⟨rfl, rfl⟩
      rintro k s hk ⟨rfl, rfl⟩
      simp only [bo_laws_ascending_2, nI_eq]
      exact Sat.no (decide_eq_false (by omega)) (.some trivial)
    refine Sat.count zs.length (fun k s => s = (zs, (k : Int), ()) ∧ 1 ≤ k) ?_ (k := 1) (by omega) (fuel_lt (by omega)) ⟨rfl, by omega⟩
    rintro k s hk ⟨rfl, h1⟩
    by_cases hlt : k < zs.length
    · have hl : iz zs (k - 1) < iz zs k := by
        have := List.pairwise_iff_getElem.1 ha (k - 1) k (by omega) hlt (by omega)
        rwa [iz_of (List.getElem?_eq_getElem (show k - 1 < zs.length by omega)), iz_of (List.getElem?_eq_getElem hlt)]
      simp (disch := omega) only [bo_laws_ascending_2, at_int, toN, toN1, w64, nI_eq]
      refine Sat.gd (decide_eq_true (by omega)) (Sat.gd (inR_t (by omega) (by omega)) (Sat.gd (inR_t (by omega) (by omega)) (Sat.no (decide_eq_false ?_) (.some ⟨hlt, rfl, by omega⟩))))
      exact Int.not_le.2 hl
    · obtain rfl : k = zs.length := by omega
      simp only [bo_laws_ascending_2, nI_eq]
      exact Sat.no (decide_eq_false (by omega)) (.some trivial)
  · rintro (r | r) hr
    · exact .some rfl
    · exact hr.elim
section
variable {N : Nat} {ls : List Lk}
theorem e_NextHopsN (g : GV N ls) {f t : Nat} (hf : f < N) (ht : t < N) : sh_impl_NextHops ((N : Int), ls, (f : Int), (t : Int), ()) = some (hops N ls f t, ()) := by
  have h14 := g.2.2.1
  have fl : Fits ls := fits_of h14 (by omega)
  have h1 : ∀ a : Nat, a < N → sh_impl_Graph_hasNode ((N : Int), ls, (a : Int), ()) = some (true, ()) := fun a ha => by
    rw [e_hasNode _ _ _ fl, show gv (N : Int) ls = true from decide_eq_true g, inB_mk (show 0 ≤ (a : Int) ∧ (a : Int) ≤ (N : Int) - 1 by omega)]; rfl
  unfold sh_impl_NextHops
  exact Sat.out (sv (h1 f hf) (Sat.no rfl (sv (h1 t ht) (Sat.no rfl (sv (e_nextHops g hf ht) (.some rfl))))))
end
theorem d_ClaimMoved {c : List Int} (hc : Cod c) : Sat (sh_spec_DrawClaimMoved (c, ())) fun r => ∃ n node q0 ls ends, r = (n, ls, node, q0, ends, ()) ∧ ls.length ≤ 15 ∧ ends.length ≤ 10 ∧ n ≤ 9 := by
  unfold sh_spec_DrawClaimMoved
  obtain ⟨b, e, hB⟩ := byt_open hc.1 hc.2
  rw [e]
  dsimp only [Option.bind_some]
  refine Sat.bnd (d_Claim hB (by omega) (by omega)) ?_
  rintro _ ⟨n, node, p', ls, ends, rfl, _, _, q1, q2, q3, q4, q5, q6⟩
  dsimp only
  refine Sat.bnd (d_Node hB ls (by omega) (by omega)) ?_
  rintro _ ⟨z, p2, rfl, _⟩
  exact .some ⟨n, node, z, ls, ends, rfl, q1, q2, q4⟩
theorem law_ClaimMovedUsed {c : List Int} (hz : ∀ z ∈ c, 0 ≤ z ∧ z < 256) : sh_laws_FnClaimMovedUsed (c, ()) = some (true, ()) := by
  unfold sh_laws_FnClaimMovedUsed
  dsimp only
  refine Sat.out (Sat.ite (fun _ => .some rfl) (fun hlen => ?_))
  have hc : Cod c := cod_of hz hlen
  refine Sat.bnd (d_ClaimMoved hc) ?_
  rintro _ ⟨n, node, q0, ls, ends, rfl, hls, hen, hn9⟩
  have fl : Fits ls := fits_of hls (by omega)
  have hm := movR_len n ls node ends q0
  refine sv (e_ClaimMoved n node q0 fl (fits_of hen (by omega))) (sv (e_sClaimMoved n node q0 fl (show ends.length ≤ 2000000 by omega)) ?_)
  refine sv (e_sameInts _ (fits_of hm (by omega))) (Sat.no rfl ?_)
  dsimp only
  refine Sat.bnd (R := fun r => match r with | .inl _ => True | .inr _ => False) ?_ ?_
  · refine Sat.count (movR n ls node ends q0).length (fun k s => s = (node, q0, (k : Int), n, ls, movR n ls node ends q0, ())) ?_ (Nat.zero_le _) (fuel_lt (by omega)) rfl
    rintro k s hk rfl
    by_cases hlt : k < (movR n ls node ends q0).length
    · have hx := List.mem_of_getElem? (iz_get hlt)
      have hu : sh_impl_NodeUsed (n, ls, iz (movR n ls node ends q0) k, q0, node, ()) = some (true, ()) := by
        generalize iz (movR n ls node ends q0) k = x at hx
        unfold movR at hx
        split at hx
        case isFalse => simp at hx
        rename_i h
        obtain ⟨N, K, t, rfl, rfl, rfl, g, h1, h2, h3⟩ := mvOk_t h
        obtain ⟨i, rfl, hi, hb⟩ := movL_mem.1 hx
        simp only [Int.toNat_natCast] at hi hb
        rw [e_NodeUsed g hi h2 h1]
        cases hq : usedB N ls i t K with
        | true => rfl
        | false =>
          unfold movB at hb
          rw [cl_hops g h3 h1 hi h2 hq] at hb
          simp at hb
      simp (disch := omega) only [bo_laws_FnClaimMovedUsed_9, at_int, toN, w64, nI_eq]
      exact Sat.gd (decide_eq_true (by omega)) (Sat.gd (inR_t (by omega) (by omega)) (sv hu (Sat.no rfl (.some ⟨hlt, rfl⟩))))
    · obtain rfl : k = (movR n ls node ends q0).length := by omega
      simp only [bo_laws_FnClaimMovedUsed_9, nI_eq]
      exact Sat.no (decide_eq_false (by omega)) (.some trivial)
  · rintro (r | r) hr
    · exact .some rfl
    · exact hr.elim
theorem law_ClaimMoved {c : List Int} (hz : ∀ z ∈ c, 0 ≤ z ∧ z < 256) : sh_laws_FnClaimMoved (c, ()) = some (true, ()) := by
  unfold sh_laws_FnClaimMoved
  dsimp only
  refine Sat.out (Sat.ite (fun _ => .some rfl) (fun hlen => ?_))
  have hc : Cod c := cod_of hz hlen
  refine Sat.bnd (d_ClaimMoved hc) ?_
  rintro _ ⟨n, node, q0, ls, ends, rfl, hls, hen, hn9⟩
  have fl : Fits ls := fits_of hls (by omega)
  have hm := movR_len n ls node ends q0
  refine sv (e_ClaimMoved n node q0 fl (fits_of hen (by omega))) (sv (e_sClaimMoved n node q0 fl (show ends.length ≤ 2000000 by omega)) ?_)
  have fm : Fits (movR n ls node ends q0) := fits_of hm (by omega)
  refine sv (e_sameInts _ fm) (Sat.no rfl (sv (e_ClaimGraph n node fl (fits_of hen (by omega))) ?_))
  dsimp only
  have asc : (movR n ls node ends q0).Pairwise (· < ·) := by
    unfold movR
    split
    · exact movL_asc _ _
    · exact List.Pairwise.nil
  have fin : (clR n ls node ends).2.1 = false → (movR n ls node ends q0).length = 0 := fun h => by
    unfold movR
    rw [if_neg (fun e => ?_)]
    · rfl
    · simp only [mvOk, Bool.and_eq_true] at e
      rw [clR_yes e.1] at h
      cases h
  refine Sat.bnd (R := fun r => r = .inl ((clR n ls node ends).2.1, movR n ls node ends q0, ())) ?_ ?_
  · refine Sat.count n.toNat (fun k s => s = (q0, (clR n ls node ends).2.1, (k : Int), n, ls, movR n ls node ends q0, (clR n ls node ends).1, (clR n ls node ends).2.2, ())) ?_ (Nat.zero_le _) (fuel_lt (by omega)) rfl
    rintro k s hk rfl
    unfold bo_laws_FnClaimMoved_10
    refine Sat.ite (fun hkn0 => ?_) (fun _ => .some rfl)
    have hkn : (k : Int) < n := of_decide_eq_true hkn0
    clear hkn0
    refine Sat.ite (fun hok => ?_) (fun _ => .some rfl)
    refine Sat.ite (fun hq10 => ?_) (fun _ => .some rfl)
    have hq1 : 0 ≤ q0 := of_decide_eq_true hq10
    clear hq10
    refine Sat.ite (fun hq20 => ?_) (fun _ => .some rfl)
    have hq2 : q0 < n := of_decide_eq_true hq20
    clear hq20
    have hcl := clR_ok hok
    obtain ⟨N, K, rfl, rfl, g, h1, h2⟩ := clOk_t hcl
    obtain ⟨t, rfl⟩ := Int.eq_ofNat_of_zero_le hq1
    have h8 := g.2.1
    have hkN : k < N := by omega
    have htN : t < N := by omega
    have gx := clF_gv g h2
    have em : movR N ls K ends t = movL N ls (grid (clF ls N K ends) N) t N := by
      unfold movR mvOk
      rw [hcl, inB_mk (show 0 ≤ (t : Int) ∧ (t : Int) ≤ (N : Int) - 1 by omega)]; rfl
    have hl1 := hops_len (N := N) (ls := ls) k t
    refine sv (e_hasInt _ (k : Int) fm) (sv (e_NextHopsN g hkN htN) ?_)
    have e2 : sh_impl_NextHops ((clR N ls K ends).1, (clR N ls K ends).2.2, (k : Int), (t : Int), ()) = some (hops N (grid (clF ls N K ends) N) k t, ()) := by
      rw [clR_yes hcl]
      exact e_NextHopsN gx hkN htN
    refine sv e2 (Sat.bnd (e_sameInts2 (hops N ls k t) (hops N (grid (clF ls N K ends) N) k t) (fits_of hl1 (by omega))) ?_)
    rintro _ rfl
    have hh : (movR N ls K ends t).contains (k : Int) = !decide (hops N ls k t = hops N (grid (clF ls N K ends) N) k t) := by
      rw [em]
      have e3 : movB N ls (grid (clF ls N K ends) N) t k = !decide (hops N ls k t = hops N (grid (clF ls N K ends) N) k t) := rfl
      rw [← e3]
      refine Bool.eq_iff_iff.2 ?_
      rw [List.contains_iff_mem, movL_mem]
      constructor
      · rintro ⟨i, e, _, h⟩
        obtain rfl : k = i := by omega
        exact h
      · intro h
        exact ⟨k, rfl, hkN, h⟩
    refine Sat.no (by rw [hh]; simp) (.some ⟨by rw [Int.toNat_natCast]; exact hkN, ?_⟩)
    dsimp only
    rw [w64 (by omega) (by omega)]
    rfl
  · rintro _ rfl
    dsimp only
    refine sv (e_ascending _ fm asc) (Sat.gd rfl (Sat.ite (fun _ => .some rfl) (fun h => .some ?_)))
    rw [fin h]
    rfl
end Go.Proofs.Ythcckenjkicmgaa
end
