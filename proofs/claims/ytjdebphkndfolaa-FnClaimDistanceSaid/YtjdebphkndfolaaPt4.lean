/- Plain laws of claims: a claim makes no link and no link cheaper; who announces nothing is isolated; a claim draws nobody and makes no distance shorter. -/
import Derived.Test.YtjdebphkndfolaaPw
import Derived.Test.YtjdebphkndfolaaPt3
import Derived.Test.YtjdebphkndfolaaSM
namespace Go.Proofs.Ytjdebphkndfolaa
open Go.RowKit
set_option linter.unusedSimpArgs false
set_option linter.unusedVariables false
set_option maxRecDepth 100000

theorem d_Claim {b : List Int} (hB : Byt b) {p : Int} (h0 : 0 ≤ p) (h1 : p ≤ 70000000) : Sat (sh_spec_l92Claim (b, p, ())) fun r => ∃ n node p' ls ends, r = (n, node, b, p', ls, ends, ()) ∧ p ≤ p' ∧ p' ≤ p + 2000 ∧ ls.length ≤ 15 ∧ ends.length ≤ 10 ∧ 0 ≤ n ∧ n ≤ 9 ∧ -1 ≤ node ∧ node ≤ 10 := by
  unfold sh_spec_l92Claim
  dsimp only
  refine Sat.bnd (d_Spoilt hB h0 (by omega)) ?_
  rintro _ ⟨n, p1, ls, rfl, u1, u2, u3, u4, u5⟩
  dsimp only
  refine Sat.bnd (d_Node hB ls (by omega) (by omega)) ?_
  rintro _ ⟨node, p2, rfl, u6, u7, u8, u9⟩
  dsimp only
  refine Sat.bnd (R := fun r => match r with | .inl x => ∃ p' ends, x = (node, b, p', 0, [], n, ends, ls, ()) ∧ p2 ≤ p' ∧ p' ≤ p2 + 20 ∧ ends.length ≤ 9 | .inr _ => False) ?_ ?_
  · refine Sat.count n.toNat (fun k s => ∃ p' ends, s = (node, (k : Int), b, p', 0, [], n, ends, ls, ()) ∧ p2 ≤ p' ∧ p' ≤ p2 + 2 * k ∧ ends.length ≤ k) ?_ (Nat.zero_le _) (fuel_lt (by omega)) ⟨p2, [], rfl, by omega, by omega, by simp⟩
    rintro k s hk ⟨p', ends, rfl, g1, g2, g3⟩
    simp (disch := omega) only [bo_spec_l92Claim_5, w64, List.length_singleton]
    repeat' (first
      | refine Sat.some ?_
      | (refine Sat.pick hB (by omega) (by omega) (fun x _ _ _ => ?_) <;> dsimp only) | (refine Sat.gd (decide_eq_true (by omega)) ?_)
      | (refine Sat.gd (by first | exact inR_t (by omega) (by omega) | (simp (disch := omega) only [w64]; exact inR_t (by omega) (by omega))) ?_)
      | (refine Sat.ite (fun h => ?_) (fun h => ?_) <;> try simp only [decide_eq_true_eq, decide_eq_false_iff_not, Bool.not_eq_true', Bool.not_eq_false', inB_i, inB_j, Bool.and_eq_true, Bool.or_eq_true, Bool.and_eq_false_iff, Bool.or_eq_false_iff, El] at h))
    all_goals try dsimp only
    all_goals first
      | exact ⟨by omega, _, _, rfl, by omega, by omega, by (try simp only [List.length_append, List.length_singleton, List.length_nil]); omega⟩
      | exact ⟨_, _, rfl, by omega, by omega, by omega⟩
  · rintro (r | r) hr
    case inr => exact hr.elim
    obtain ⟨p', ends, rfl, g1, g2, g3⟩ := hr
    simp (disch := omega) only [List.length_singleton]
    repeat' (first
      | refine Sat.some ?_
      | (refine Sat.pick hB (by omega) (by omega) (fun x _ _ _ => ?_) <;> dsimp only) | (refine Sat.gd (decide_eq_true (by omega)) ?_)
      | (refine Sat.gd (by first | exact inR_t (by omega) (by omega) | (simp (disch := omega) only [w64]; exact inR_t (by omega) (by omega))) ?_)
      | (refine Sat.ite (fun h => ?_) (fun h => ?_) <;> try simp only [decide_eq_true_eq, decide_eq_false_iff_not, Bool.not_eq_true', Bool.not_eq_false', inB_i, inB_j, Bool.and_eq_true, Bool.or_eq_true, Bool.and_eq_false_iff, Bool.or_eq_false_iff, El] at h))
    all_goals exact ⟨_, _, _, _, _, rfl, by omega, by omega, by omega, by (try simp only [List.length_append, List.length_singleton, List.length_nil]); omega, by omega, by omega, by omega, by omega⟩
theorem d_ClaimGraph {c : List Int} (hc : Cod c) : Sat (sh_spec_DrawClaimGraph (c, ())) fun r => ∃ n node ls ends, r = (n, node, ls, ends, ()) ∧ ls.length ≤ 15 ∧ ends.length ≤ 10 ∧ 0 ≤ n ∧ n ≤ 9 ∧ -1 ≤ node ∧ node ≤ 10 := by
  unfold sh_spec_DrawClaimGraph
  obtain ⟨b, e, hB⟩ := byt_open hc.1 hc.2
  rw [e]
  dsimp only [Option.bind_some]
  refine Sat.bnd (d_Claim hB (by omega) (by omega)) ?_
  rintro _ ⟨n, node, p', ls, ends, rfl, _, _, q1, q2, q3, q4, q5, q6⟩
  exact .some ⟨n, node, ls, ends, rfl, q1, q2, q3, q4, q5, q6⟩
theorem clOk_t {n node : Int} {ls : List Lk} {ends : List En} (h : clOk n ls node ends = true) : ∃ N K : Nat, n = N ∧ node = K ∧ GV N ls ∧ K < N ∧ LsV ⟨K, 1, ends⟩ := by
  simp only [clOk, Bool.and_eq_true] at h
  obtain ⟨⟨h1, h2⟩, h3⟩ := h
  obtain ⟨N, rfl, g⟩ := gv_nat h1
  have h2 := inB_t h2
  obtain ⟨K, rfl⟩ := Int.eq_ofNat_of_zero_le h2.1
  exact ⟨N, K, rfl, rfl, g, by omega, of_decide_eq_true h3⟩
theorem clR_yes {n node : Int} {ls : List Lk} {ends : List En} (h : clOk n ls node ends = true) : clR n ls node ends = (n, true, grid (clF ls n.toNat node ends) n.toNat) := by unfold clR; rw [if_pos h]
theorem clR_ok {n node : Int} {ls : List Lk} {ends : List En} (h : (clR n ls node ends).2.1 = true) : clOk n ls node ends = true := by
  unfold clR at h
  split at h
  · assumption
  · cases h
theorem clR_len (n : Int) (ls : List Lk) (node : Int) (ends : List En) : (clR n ls node ends).2.2.length ≤ 14 := by
  unfold clR
  split
  · rename_i h
    obtain ⟨N, K, rfl, rfl, g, _, _⟩ := clOk_t h
    exact clF_len g
  · simp
section
variable {N K : Nat} {ls : List Lk} {ends : List En}
theorem clF_far (g : GV N ls) {a b : Nat} (hab : a < b) (hb : b < N) (ha : a ≠ K) (hbK : b ≠ K) : clF ls N K ends a b = lc ls a b := by
  unfold clF dbF
  rw [ann_cl g (by omega) hb, ann_cl g hb (by omega), lc_symm ls b a, if_neg (show ¬ (a : Int) = K by omega), if_neg (show ¬ (b : Int) = K by omega)]
  have key : ∀ o : Option Int, (∀ d, o = some d → 1 ≤ d) → (if 0 < o.getD 0 ∧ 0 < o.getD 0 then some (max (o.getD 0) (o.getD 0)) else none) = o := fun o h => by
    cases o with
    | none => rfl
    | some d =>
      have := h d rfl
      simp only [Option.getD_some, Int.max_self]
      rw [if_pos (by omega)]
  exact key _ fun d e => (lc_cost g e).1
end
theorem law_Claim {c : List Int} (hz : ∀ z ∈ c, 0 ≤ z ∧ z < 256) : sh_laws_FnClaim (c, ()) = some (true, ()) := by
  unfold sh_laws_FnClaim
  dsimp only
  refine Sat.out (Sat.ite (fun _ => .some rfl) (fun hlen => ?_))
  have hc : Cod c := cod_of hz hlen
  
  refine Sat.bnd (d_ClaimGraph hc) ?_
  rintro _ ⟨n, node, ls, ends, rfl, hls, hen, hn1, hn2, hm1, hm2⟩
  dsimp only
  have fl : Fits ls := fits_of hls (by omega)
  have fe : Fits ends := fits_of hen (by omega)
  rw [e_ClaimGraph n node fl fe, e_sClaimGraph n node fl (by omega)]
  dsimp only [Option.bind_some]
  rw [e_sameGraph _ _ (fits_of (clR_len n ls node ends) (by omega))]
  dsimp only [Option.bind_some]
  refine Sat.no (by simp) (Sat.no rfl (Sat.ite (fun hno => Sat.gd (by simp) (.some rfl)) (fun hok => ?_)))
  have hok : clOk n ls node ends = true := clR_ok (by simpa using hok)
  try rw [clR_yes hok]
  obtain ⟨N, K, rfl, rfl, g, hK, hV⟩ := clOk_t hok
  try rw [Int.toNat_natCast]
  have h8 := g.2.1
  have hg := clF_gv g hV
  have hsub := fun a b c' (h1 : a < b) (h2 : b < N) h => clF_sub (node := K) (ends := ends) g (a := a) (b := b) (c := c') h1 h2 h
  have hfar := fun a b (h1 : a < b) (h2 : b < N) (h3 : a ≠ K) (h4 : b ≠ K) => clF_far (ends := ends) g h1 h2 h3 h4
  have hlcg := fun a b (h1 : a < b) (h2 : b < N) => lc_grid (f := clF ls N K ends) h1 h2
  generalize hout : grid (clF ls N K ends) N = out at *
  have h14 := hg.2.2.1
  have h14' := g.2.2.1
  have fo : Fits out := fits_of h14 (by omega)
  have fl' : Fits ls := fits_of h14' (by omega)
  refine Sat.bnd (R := fun r => match r with | .inl x => x = ((K : Int), (N : Int), (N : Int), ls, out, ()) | .inr _ => False) ?_ ?_
  · refine Sat.count out.length (fun k s => s = ((K : Int), (k : Int), (N : Int), (N : Int), ls, out, ())) ?_ (Nat.zero_le _) (fuel_lt (by omega)) rfl
    rintro k s hk rfl
    by_cases hlt : k < out.length
    · have hm : lk out k ∈ out := lk_mem hlt
      have ho := hg.ok hm
      unfold okL at ho
      have e1 := hlcg (lk out k).a.toNat (lk out k).b.toNat (by omega) (by omega)
      rw [show (((lk out k).a.toNat : Nat) : Int) = (lk out k).a by omega, show (((lk out k).b.toNat : Nat) : Int) = (lk out k).b by omega, lc_mem hg.pw hm (by omega)] at e1
      obtain ⟨d, hd, hdc⟩ := hsub _ _ _ (by omega) (by omega) e1.symm
      rw [show (((lk out k).a.toNat : Nat) : Int) = (lk out k).a by omega, show (((lk out k).b.toNat : Nat) : Int) = (lk out k).b by omega] at hd
      obtain ⟨p1, p2, p3⟩ := lc_at hd
      simp only [bo_laws_FnClaim_9, at_lk, toN, nI_eq, e_GraphLink _ _ _ _ fl', Option.bind_some, glink_gv g]
      refine Sat.gd (decide_eq_true (by omega)) (Sat.gd (inR_t (by omega) (by omega)) (Sat.gd (inR_t (by omega) (by omega)) (Sat.no (decide_eq_false (by omega)) (Sat.gd (inR_t (by omega) (by omega)) (Sat.gd (inR_t p1 p2) (Sat.no ?_ (.some ⟨hlt, ?_⟩)))))))
      · rw [p3]; exact decide_eq_false (by dsimp only; omega)
      · rw [w64 (by omega) (by omega)]; rfl
    · obtain rfl : k = out.length := by omega
      unfold bo_laws_FnClaim_9
      simp only [nI_eq, decide_eq_false (show ¬ (out.length : Int) < out.length by omega), cond_false]
      exact .some rfl
  rintro (r | r) hr
  case inr => exact hr.elim
  obtain rfl := hr
  dsimp only
  refine Sat.bnd (R := fun r => match r with | .inl x => x = ((N : Int), out, ()) | .inr _ => False) ?_ ?_
  · refine Sat.count ls.length (fun k s => s = ((K : Int), (k : Int), (N : Int), (N : Int), ls, out, ())) ?_ (Nat.zero_le _) (fuel_lt (by omega)) rfl
    rintro k s hk rfl
    by_cases hlt : k < ls.length
    · have hm : lk ls k ∈ ls := lk_mem hlt
      have ho := g.ok hm
      unfold okL at ho
      simp only [bo_laws_FnClaim_15, at_lk, toN, nI_eq, e_GraphLink _ _ _ _ fo, Option.bind_some, glink_gv hg]
      have hw : wrap64 ((k : Int) + 1) = ((k + 1 : Nat) : Int) := by rw [w64 (by omega) (by omega)]; rfl
      rw [hw]
      clear hw
      refine Sat.gd (decide_eq_true (by omega)) (Sat.gd (inR_t (by omega) (by omega)) (Sat.gd (inR_t (by omega) (by omega)) (Sat.gd (inR_t (by omega) (by omega)) (Sat.ite (fun ha => Sat.gd (inR_t (by omega) (by omega)) (Sat.ite (fun hb => ?_) (fun _ => .some ⟨hlt, rfl⟩))) (fun _ => .some ⟨hlt, rfl⟩)))))
      have ha : ¬ (lk ls k).a = (K : Int) := by simpa using ha
      have hb : ¬ (lk ls k).b = (K : Int) := by simpa using hb
      have e1 := hlcg (lk ls k).a.toNat (lk ls k).b.toNat (by omega) (by omega)
      rw [hfar _ _ (by omega) (by omega) (by omega) (by omega), show (((lk ls k).a.toNat : Nat) : Int) = (lk ls k).a by omega, show (((lk ls k).b.toNat : Nat) : Int) = (lk ls k).b by omega, lc_mem g.pw hm (by omega)] at e1
      obtain ⟨p1, p2, p3⟩ := lc_at e1
      refine Sat.no (decide_eq_false (by omega)) (Sat.gd (inR_t p1 p2) (Sat.gd (inR_t (by omega) (by omega)) (Sat.no ?_ (.some ⟨hlt, rfl⟩))))
      rw [p3, show min (lk ls k).a (lk ls k).b = (lk ls k).a by omega, show max (lk ls k).a (lk ls k).b = (lk ls k).b by omega]
      simp [eqInts_self]
    · obtain rfl : k = ls.length := by omega
      unfold bo_laws_FnClaim_15
      simp only [nI_eq, decide_eq_false (show ¬ (ls.length : Int) < ls.length by omega), cond_false]
      exact .some rfl
  rintro (r | r) hr
  case inr => exact hr.elim
  obtain rfl := hr
  dsimp only
  rw [e_GraphValid _ _ fo, show gv (N : Int) out = true from decide_eq_true hg]
  exact .some rfl
end Go.Proofs.Ytjdebphkndfolaa
