/- Plain laws of claims: who announces nothing is isolated; a claim draws nobody and makes no distance shorter. -/
import Derived.Test.YtjdebphkndfolaaPt4
namespace Go.Proofs.Ytjdebphkndfolaa
open Go.RowKit
set_option linter.unusedSimpArgs false
set_option linter.unusedVariables false
set_option maxRecDepth 100000

/-! ### Who announces nothing -/
def farL (K : Nat) (l : Lk) : Bool := !decide (l.a = (K : Int)) && !decide (l.b = (K : Int))
section
variable {N K : Nat} {ls : List Lk} {ends : List En}
theorem far_gv (g : GV N ls) : GV N (ls.filter (farL K)) := by
  have := gv_pw.1 g
  exact gv_pw.2 ⟨this.1, this.2.1, Nat.le_trans (List.length_filter_le _ _) this.2.2.1, fun l hl => this.2.2.2.1 l (List.mem_filter.1 hl).1, this.2.2.2.2.filter _⟩
theorem cl_nothing (g : GV N ls) (hK : K < N) : grid (clF ls N K []) N = ls.filter (farL K) := by
  refine pw_ext (grid_pw _ N) (far_gv g).pw fun l => ?_
  rw [mem_grid, List.mem_filter]
  constructor
  · rintro ⟨a, b, c, h1, h2, h3, rfl⟩
    have hf : a ≠ K ∧ b ≠ K := by
      unfold clF dbF at h3
      rw [ann_cl g (by omega) h2, ann_cl g h2 (by omega)] at h3
      have e0 : ∀ z, ec [] z = 0 := fun z => rfl
      rw [e0, e0] at h3
      generalize hX : (if (a : Int) = K then (0 : Int) else (lc ls a b).getD 0) = X at h3
      generalize hY : (if (b : Int) = K then (0 : Int) else (lc ls b a).getD 0) = Y at h3
      split at h3
      · rename_i hp
        constructor
        · rintro rfl; rw [if_pos rfl] at hX; omega
        · rintro rfl; rw [if_pos rfl] at hY; omega
      · cases h3
    rw [clF_far g h1 h2 hf.1 hf.2] at h3
    have := lc_some h3
    rw [show min (a : Int) b = a by omega, show max (a : Int) b = b by omega] at this
    refine ⟨this, ?_⟩
    unfold farL
    dsimp only
    rw [decide_eq_false (show ¬ (a : Int) = K by omega), decide_eq_false (show ¬ (b : Int) = K by omega)]
    rfl
  · rintro ⟨hl, hf⟩
    have ho := g.ok hl
    unfold okL at ho
    unfold farL at hf
    simp only [Bool.and_eq_true, Bool.not_eq_true', decide_eq_false_iff_not] at hf
    refine ⟨l.a.toNat, l.b.toNat, l.c, by omega, by omega, ?_, ?_⟩
    · rw [clF_far g (by omega) (by omega) (by omega) (by omega), show ((l.a.toNat : Nat) : Int) = l.a by omega, show ((l.b.toNat : Nat) : Int) = l.b by omega]
      exact lc_mem g.pw hl (by omega)
    · rw [show ((l.a.toNat : Nat) : Int) = l.a by omega, show ((l.b.toNat : Nat) : Int) = l.b by omega]
theorem e_GraphIsolate (g : GV N ls) (hK : K < N) : sh_impl_GraphIsolate ((N : Int), ls, (K : Int), ()) = some ((N : Int), true, ls.filter (farL K), ()) := by
  have h14 := g.2.2.1
  unfold sh_impl_GraphIsolate
  rw [e_hasNode _ _ _ (fits_of h14 (by omega)), show gv (N : Int) ls = true from decide_eq_true g, inB_mk (show 0 ≤ (K : Int) ∧ (K : Int) ≤ (N : Int) - 1 by omega)]
  dsimp only [Option.bind_some]
  refine Sat.out (Sat.no rfl ?_)
  have e : sh_impl_Graph_keep_GraphIsolate_1 ((N : Int), ls, (K : Int), ()) = some ((N : Int), ls.filter (farL K), ()) := by
    unfold sh_impl_Graph_keep_GraphIsolate_1
    refine Sat.out (Sat.bnd (R := fun r => match r with | .inl x => x.2.1 = (N : Int) ∧ x.2.2.2.1 = ls.filter (farL K) | .inr _ => False) ?_ ?_)
    · refine Sat.count ls.length (fun k s => s = ((K : Int), ls, (ls.length : Int), (k : Int), 0, (N : Int), [], (ls.take k).filter (farL K), ())) ?_ (Nat.zero_le _) (fuel_lt (by omega)) (by simp [nI_eq])
      rintro k s hk rfl
      have hle : ((ls.take k).filter (farL K)).length ≤ k := Nat.le_trans (List.length_filter_le _ _) (List.length_take_le _ _)
      have ei : ∀ i a b c : Int, sh_impl_GraphIsolate_1 (i, a, b, c, (K : Int), ()) = some (farL K ⟨a, b, c⟩, ()) := fun i a b c => by
        unfold sh_impl_GraphIsolate_1 farL
        by_cases h : a = (K : Int) <;> simp [h]
      by_cases hlt : k < ls.length
      · simp (disch := omega) only [bo_impl_Graph_keep_GraphIsolate_1_3, at_lk, toN, w64, ei, Option.bind_some, List.length_singleton]
        refine Sat.gd (decide_eq_true (by omega)) (Sat.gd (inR_t (by omega) (by omega)) (Sat.ite (fun h => Sat.gd (decide_eq_true (by omega)) (.some ⟨hlt, ?_⟩)) (fun h => .some ⟨hlt, ?_⟩)))
        · have h : farL K (lk ls k) = true := h
          rw [List.take_add_one, lk_get hlt, List.filter_append]
          simp [h]
        · have h : farL K (lk ls k) = false := h
          rw [List.take_add_one, lk_get hlt, List.filter_append]
          simp [h]
      · obtain rfl : k = ls.length := by omega
        unfold bo_impl_Graph_keep_GraphIsolate_1_3
        simp only [decide_eq_false (show ¬ (ls.length : Int) < ls.length by omega), cond_false, List.take_length]
        exact .some ⟨rfl, rfl⟩
    · rintro (r | r) hr
      case inr => exact hr.elim
      have hr : r.2.1 = (N : Int) ∧ r.2.2.2.1 = ls.filter (farL K) := hr
      exact .some (by rw [hr.1, hr.2])
  rw [e]
  exact .some rfl
end
theorem law_ClaimNothing {c : List Int} (hz : ∀ z ∈ c, 0 ≤ z ∧ z < 256) : sh_laws_FnClaimNothing (c, ()) = some (true, ()) := by
  unfold sh_laws_FnClaimNothing
  dsimp only
  refine Sat.out (Sat.ite (fun _ => .some rfl) (fun hlen => ?_))
  have hc : Cod c := cod_of hz hlen
  
  refine Sat.bnd (d_ClaimGraph hc) ?_
  rintro _ ⟨n, node, ls, ends, rfl, hls, hen, hn1, hn2, hm1, hm2⟩
  dsimp only
  have fl : Fits ls := fits_of hls (by omega)
  have fe : Fits ends := fits_of hen (by omega)
  rw [e_ClaimGraph n node fl fe, e_sClaimGraph n node fl (by omega)]
  dsimp only [Option.bind_some]
  rw [e_sameGraph _ _ (fits_of (clR_len n ls node ends) (by omega))]
  dsimp only [Option.bind_some]
  refine Sat.no (by simp) (Sat.no rfl (Sat.ite (fun hno => Sat.gd (by simp) (.some rfl)) (fun hok => ?_)))
  have hok : clOk n ls node ends = true := clR_ok (by simpa using hok)
  try rw [clR_yes hok]
  obtain ⟨N, K, rfl, rfl, g, hK, hV⟩ := clOk_t hok
  try rw [Int.toNat_natCast]
  have h8 := g.2.1
  have h0 : clOk (N : Int) ls (K : Int) [] = true := by
    unfold clOk
    rw [show gv (N : Int) ls = true from decide_eq_true g, inB_mk (show 0 ≤ (K : Int) ∧ (K : Int) ≤ (N : Int) - 1 by omega), lsv_t ⟨by dsimp only; omega, by dsimp only; omega, by dsimp only; omega, by dsimp only; omega, fun i hi => by simp at hi⟩]
    rfl
  rw [e_ClaimGraph _ _ fl (by simp), clR_yes h0, e_GraphIsolate g hK]
  dsimp only [Option.bind_some]
  refine Sat.gd rfl (Sat.gd rfl ?_)
  rw [Int.toNat_natCast, cl_nothing g hK, e_sameGraph _ _ (fits_of (far_gv g).2.2.1 (by omega))]
  exact .some rfl
/-! ### Whether a node is used -/
def usedB (N : Nat) (ls : List Lk) (a b n : Nat) : Bool := decide (0 ≤ iz (dists N ls a) b) && decide (0 ≤ iz (dists N ls a) n) && decide (iz (dists N ls a) n + iz (dists N ls b) n = iz (dists N ls a) b)
theorem dists_bd {N : Nat} {ls : List Lk} (g : GV N ls) (a : Nat) (j : Nat) : -1 ≤ iz (dists N ls a) j ∧ iz (dists N ls a) j ≤ 5100 := dst_bd N ls a N 0 g.cheap g.2.2.1 (by have := g.2.1; omega) j
theorem e_NodeUsed {N : Nat} {ls : List Lk} (g : GV N ls) {a b n : Nat} (ha : a < N) (hb : b < N) (hn : n < N) : sh_impl_NodeUsed ((N : Int), ls, (a : Int), (b : Int), (n : Int), ()) = some (usedB N ls a b n, ()) := by
  have h14 := g.2.2.1
  have fl : Fits ls := fits_of h14 (by omega)
  have hg : gv (N : Int) ls = true := decide_eq_true g
  have hi : ∀ x : Nat, x < N → inB (x : Int) 0 ((N : Int) - 1) = true := fun x hx => inB_mk (by omega)
  unfold sh_impl_NodeUsed usedB
  have b1 := dists_bd g a n
  have b2 := dists_bd g b n
  simp only [e_hasNode _ _ _ fl, hg, hi a ha, hi b hb, hi n hn, Bool.and_self, Bool.not_true, cond_false, Option.bind_some, e_distances g ha, e_distances g hb, dists_len, at_int, toN, inR_t (show (0 : Int) ≤ b by omega) (show (b : Int) < N by omega), inR_t (show (0 : Int) ≤ n by omega) (show (n : Int) < N by omega), cond_true]
  rw [w64 (by omega) (by omega)]
  by_cases h1 : 0 ≤ iz (dists N ls a) b
  · by_cases h2 : 0 ≤ iz (dists N ls a) n <;> simp [h1, h2]
  · simp [h1]
section
variable {N K : Nat} {ls : List Lk} {ends : List En}
theorem adj_cl (g : GV N ls) {x y : Nat} {c : Int} (h : Adj (grid (clF ls N K ends) N) x y c) : ∃ d, d ≤ c ∧ Adj ls x y d := by
  rcases adj_grid.1 h with ⟨h1, h2, h3⟩ | ⟨h1, h2, h3⟩
  · obtain ⟨d, q1, q2⟩ := clF_sub g h1 h2 h3
    exact ⟨d, q2, (adj_lc g).2 (.inl ⟨h1, h2, q1⟩)⟩
  · obtain ⟨d, q1, q2⟩ := clF_sub g h1 h2 h3
    exact ⟨d, q2, (adj_lc g).2 (.inr ⟨h1, h2, q1⟩)⟩
theorem adj_far (g : GV N ls) {x y : Nat} {c : Int} (hx : x ≠ K) (hy : y ≠ K) (h : Adj ls x y c) : Adj (grid (clF ls N K ends) N) x y c := by
  rcases (adj_lc g).1 h with ⟨h1, h2, h3⟩ | ⟨h1, h2, h3⟩
  · exact adj_grid.2 (.inl ⟨h1, h2, by rw [clF_far g h1 h2 hx hy]; exact h3⟩)
  · exact adj_grid.2 (.inr ⟨h1, h2, by rw [clF_far g h1 h2 hy hx]; exact h3⟩)
/-- A claim makes no distance shorter. -/
theorem cl_dist (g : GV N ls) (hV : LsV ⟨K, 1, ends⟩) {a b : Nat} (ha : a < N) (hb : b < N) (h : 0 ≤ iz (dists N (grid (clF ls N K ends) N) a) b) : 0 ≤ iz (dists N ls a) b ∧ iz (dists N ls a) b ≤ iz (dists N (grid (clF ls N K ends) N) a) b := by
  obtain ⟨k, w⟩ := dists_walk (clF_gv g hV) ha hb h
  obtain ⟨s, hs, w'⟩ := w.dom (ls' := ls) fun x y c h => adj_cl g h
  have := dists_le g ha w'
  omega
/-- A walk leads over the node, or the claim leaves it. -/
theorem cl_walk (g : GV N ls) {a k v : Nat} {s : Int} (w : Wk ls a k v s) : (∃ k1 s1 k2 s2, s1 + s2 = s ∧ Wk ls a k1 K s1 ∧ Wk ls K k2 v s2) ∨ (v ≠ K ∧ Wk (grid (clF ls N K ends) N) a k v s) := by
  induction w with
  | nil =>
    by_cases e : a = K
    · exact .inl ⟨0, 0, 0, 0, rfl, by rw [← e]; exact .nil, by rw [← e]; exact .nil⟩
    · exact .inr ⟨e, .nil⟩
  | @step k v x s c hw ha ih =>
    rcases ih with ⟨k1, s1, k2, s2, e, w1, w2⟩ | ⟨hv, w'⟩
    · exact .inl ⟨k1, s1, k2 + 1, s2 + c, by omega, w1, w2.step ha⟩
    · by_cases e : x = K
      · exact .inl ⟨k + 1, s + c, 0, 0, by omega, by rw [← e]; exact hw.step ha, by rw [e]; exact .nil⟩
      · exact .inr ⟨e, w'.step (adj_far g hv e ha)⟩
/-- Where the node is not used, distances stay. -/
theorem cl_same (g : GV N ls) (hV : LsV ⟨K, 1, ends⟩) (hK : K < N) {a b : Nat} (ha : a < N) (hb : b < N) (hu : usedB N ls a b K = false) : iz (dists N ls a) b = iz (dists N (grid (clF ls N K ends) N) a) b := by
  have hg := clF_gv g hV
  have l1 := dists_low g.cheap ha b
  have l2 := dists_low hg.cheap ha b
  by_cases h : 0 ≤ iz (dists N ls a) b
  · obtain ⟨k, w⟩ := dists_walk g ha hb h
    rcases cl_walk (K := K) (ends := ends) g w with ⟨k1, s1, k2, s2, e, w1, w2⟩ | ⟨_, w'⟩
    · exfalso
      have d1 := dists_le g ha w1
      have d2 := dists_le g hb w2.symm
      obtain ⟨m1, v1⟩ := dists_walk g ha hK d1.1
      obtain ⟨m2, v2⟩ := dists_walk g hb hK d2.1
      have d3 := dists_le g ha (v1.append v2.symm)
      unfold usedB at hu
      rw [decide_eq_true h, decide_eq_true d1.1, decide_eq_true (show iz (dists N ls a) K + iz (dists N ls b) K = iz (dists N ls a) b by omega)] at hu
      cases hu
    · have d1 := dists_le hg ha w'
      have d2 := cl_dist g hV ha hb d1.1
      omega
  · by_cases h2 : 0 ≤ iz (dists N (grid (clF ls N K ends) N) a) b
    · have := cl_dist g hV ha hb h2; omega
    · omega
/-- A claim draws nobody. -/
theorem cl_used (g : GV N ls) (hV : LsV ⟨K, 1, ends⟩) (hK : K < N) {a b : Nat} (ha : a < N) (hb : b < N) (hu : usedB N (grid (clF ls N K ends) N) a b K = true) : usedB N ls a b K = true := by
  rcases cs_bool (usedB N ls a b K) with hf | hf
  · exfalso
    have hs := cl_same g hV hK ha hb hf
    unfold usedB at hu hf
    simp only [Bool.and_eq_true, decide_eq_true_eq] at hu
    obtain ⟨⟨u1, u2⟩, u3⟩ := hu
    have c1 := cl_dist g hV ha hK u2
    have u4 : 0 ≤ iz (dists N (grid (clF ls N K ends) N) b) K := by
      have q := dists_walk (clF_gv g hV) ha hb u1
      obtain ⟨k1, w1⟩ := q
      obtain ⟨k2, w2⟩ := dists_walk (clF_gv g hV) ha hK u2
      exact (dists_le (clF_gv g hV) hb (w1.symm.append w2)).1
    have c2 := cl_dist g hV hb hK u4
    obtain ⟨m1, v1⟩ := dists_walk g ha hK c1.1
    obtain ⟨m2, v2⟩ := dists_walk g hb hK c2.1
    have d3 := dists_le g ha (v1.append v2.symm)
    rw [decide_eq_true (show 0 ≤ iz (dists N ls a) b by omega), decide_eq_true c1.1, decide_eq_true (show iz (dists N ls a) K + iz (dists N ls b) K = iz (dists N ls a) b by omega)] at hf
    cases hf
  · exact hf
end
theorem law_ClaimDraws {c d : List Int} (hz : ∀ z ∈ c, 0 ≤ z ∧ z < 256) : sh_laws_FnClaimDraws (c, d, ()) = some (true, ()) := by
  unfold sh_laws_FnClaimDraws
  dsimp only
  refine Sat.out (Sat.ite (fun _ => .some rfl) (fun hlen => ?_))
  have hc : Cod c := cod_of hz hlen
  refine Sat.ite (fun _ => .some rfl) (fun hld => ?_)
  refine Sat.bnd (d_ClaimGraph hc) ?_
  rintro _ ⟨n, node, ls, ends, rfl, hls, hen, hn1, hn2, hm1, hm2⟩
  dsimp only
  have fl : Fits ls := fits_of hls (by omega)
  have fe : Fits ends := fits_of hen (by omega)
  rw [e_ClaimGraph n node fl fe, e_sClaimGraph n node fl (by omega)]
  dsimp only [Option.bind_some]
  rw [e_sameGraph _ _ (fits_of (clR_len n ls node ends) (by omega))]
  dsimp only [Option.bind_some]
  refine Sat.no (by simp) (Sat.no rfl (Sat.ite (fun hno => Sat.gd (by simp) (.some rfl)) (fun hok => ?_)))
  have hok : clOk n ls node ends = true := clR_ok (by simpa using hok)
  try rw [clR_yes hok]
  obtain ⟨N, K, rfl, rfl, g, hK, hV⟩ := clOk_t hok
  try rw [Int.toNat_natCast]
  have h8 := g.2.1
  have hld := of_decide_eq_false hld
  have hN : 0 < N := by omega
  have hg := clF_gv g hV
  have ha : d.length % N < N := Nat.mod_lt _ hN
  rw [nI_eq, tmodN]
  generalize d.length % N = a at *
  refine Sat.gd (by simp; omega) ?_
  refine Sat.bnd (R := fun r => match r with | .inl _ => True | .inr _ => False) ?_ ?_
  · refine Sat.count N (fun k s => s = ((K : Int), (a : Int), (k : Int), (N : Int), (N : Int), ls, grid (clF ls N K ends) N, ())) ?_ (Nat.zero_le _) (fuel_lt (by omega)) rfl
    rintro k s hk rfl
    unfold bo_laws_FnClaimDraws_10
    dsimp only
    refine Sat.ite (fun hlt => ?_) (fun _ => .some trivial)
    have hlt := of_decide_eq_true hlt
    have hkN : k < N := by omega
    rw [e_NodeUsed hg ha hkN hK, e_NodeUsed g ha hkN hK]
    dsimp only [Option.bind_some]
    rw [w64 (by omega) (by omega)]
    refine Sat.ite (fun hu => Sat.no ?_ (.some ⟨hkN, rfl⟩)) (fun _ => .some ⟨hkN, rfl⟩)
    rw [cl_used g hV hK ha hkN hu]; rfl
  · rintro (r | r) hr
    · exact .some rfl
    · exact hr.elim
theorem law_ClaimDistance {c d : List Int} (hz : ∀ z ∈ c, 0 ≤ z ∧ z < 256) : sh_laws_FnClaimDistance (c, d, ()) = some (true, ()) := by
  unfold sh_laws_FnClaimDistance
  dsimp only
  refine Sat.out (Sat.ite (fun _ => .some rfl) (fun hlen => ?_))
  have hc : Cod c := cod_of hz hlen
  refine Sat.ite (fun _ => .some rfl) (fun hld => ?_)
  refine Sat.bnd (d_ClaimGraph hc) ?_
  rintro _ ⟨n, node, ls, ends, rfl, hls, hen, hn1, hn2, hm1, hm2⟩
  dsimp only
  have fl : Fits ls := fits_of hls (by omega)
  have fe : Fits ends := fits_of hen (by omega)
  rw [e_ClaimGraph n node fl fe, e_sClaimGraph n node fl (by omega)]
  dsimp only [Option.bind_some]
  rw [e_sameGraph _ _ (fits_of (clR_len n ls node ends) (by omega))]
  dsimp only [Option.bind_some]
  refine Sat.no (by simp) (Sat.no rfl (Sat.ite (fun hno => Sat.gd (by simp) (.some rfl)) (fun hok => ?_)))
  have hok : clOk n ls node ends = true := clR_ok (by simpa using hok)
  try rw [clR_yes hok]
  obtain ⟨N, K, rfl, rfl, g, hK, hV⟩ := clOk_t hok
  try rw [Int.toNat_natCast]
  have h8 := g.2.1
  have hld := of_decide_eq_false hld
  have hN : 0 < N := by omega
  have hg := clF_gv g hV
  have ha : d.length % N < N := Nat.mod_lt _ hN
  rw [nI_eq, tmodN]
  generalize d.length % N = a at *
  refine Sat.gd (by simp; omega) ?_
  refine Sat.bnd (R := fun r => match r with | .inl _ => True | .inr _ => False) ?_ ?_
  · refine Sat.count N (fun k s => s = ((K : Int), (a : Int), (k : Int), (N : Int), (N : Int), ls, grid (clF ls N K ends) N, ())) ?_ (Nat.zero_le _) (fuel_lt (by omega)) rfl
    rintro k s hk rfl
    unfold bo_laws_FnClaimDistance_10
    dsimp only
    refine Sat.ite (fun hlt => ?_) (fun _ => .some trivial)
    have hlt := of_decide_eq_true hlt
    have hkN : k < N := by omega
    rw [e_dist g ha hkN, e_dist hg ha hkN, e_NodeUsed g ha hkN hK]
    dsimp only [Option.bind_some]
    rw [w64 (by omega) (by omega)]
    have fin : ∀ Q : ((Int × Int × Int × Int × Int × List Lk × List Lk × Unit) ⊕ (Unit ⊕ (Bool × Unit))) → Prop, Q (Sum.inl ((K : Int), (a : Int), ((k + 1 : Nat) : Int), (N : Int), (N : Int), ls, grid (clF ls N K ends) N, ())) → Sat (bif (!usedB N ls a k K) then (bif (!decide (iz (dists N ls a) k = iz (dists N (grid (clF ls N K ends) N) a) k)) then some (Sum.inr (Sum.inr (false, ()))) else some (Sum.inl ((K : Int), (a : Int), (k : Int) + 1, (N : Int), (N : Int), ls, grid (clF ls N K ends) N, ()))) else some (Sum.inl ((K : Int), (a : Int), (k : Int) + 1, (N : Int), (N : Int), ls, grid (clF ls N K ends) N, ()))) Q := fun Q hQ => by
      refine Sat.ite (fun hu => Sat.no ?_ (.some hQ)) (fun _ => .some hQ)
      rw [cl_same g hV hK ha hkN (by simpa using hu), decide_eq_true rfl]; rfl
    refine Sat.ite (fun h1 => ?_) (fun h1 => fin _ ⟨hkN, rfl⟩)
    have h1 := of_decide_eq_true h1
    have := cl_dist g hV ha hkN h1
    exact Sat.no (decide_eq_false (by omega)) (Sat.no (decide_eq_false (by omega)) (fin _ ⟨hkN, rfl⟩))
  · rintro (r | r) hr
    · exact .some rfl
    · exact hr.elim
end Go.Proofs.Ytjdebphkndfolaa
