/- Plain laws of claims: a true announcement changes nothing; next hops. -/
import Derived.Test.YtjdebphkndfolaaPt5
import Derived.Test.YtjdebphkndfolaaSO
import Derived.Test.YtjdebphkndfolaaSP
namespace Go.Proofs.Ytjdebphkndfolaa
open Go.RowKit
set_option linter.unusedSimpArgs false
set_option linter.unusedVariables false
set_option maxRecDepth 100000

/-- The neighbours over which shortest paths lead. -/
def hopB (ls : List Lk) (d : List Int) (f : Nat) (m : Int) : Bool := decide (iz d m.toNat + (lc ls f m).getD 0 = iz d f)
def hops (N : Nat) (ls : List Lk) (f t : Nat) : List Int := if f = t ∨ iz (dists N ls t) f < 0 then [] else (nbS ls f N).filter (hopB ls (dists N ls t) f)
section
variable {N : Nat} {ls : List Lk}
theorem hops_len (f t : Nat) : (hops N ls f t).length ≤ N := by
  unfold hops
  split
  · simp
  · exact Nat.le_trans (List.length_filter_le _ _) (nbS_len ls f N)
theorem e_nextHops (g : GV N ls) {f t : Nat} (hf : f < N) (ht : t < N) : sh_impl_Graph_nextHops ((N : Int), ls, (f : Int), (t : Int), ()) = some (hops N ls f t, ()) := by
  have h8 := g.2.1
  have h14 := g.2.2.1
  have fl : Fits ls := fits_of h14 (by omega)
  unfold sh_impl_Graph_nextHops hops
  rw [e_distances g ht]
  dsimp only [Option.bind_some]
  have bd := fun j => dists_bd g t j
  have hdl := dists_len N ls t
  generalize dists N ls t = d at *
  refine Sat.out ?_
  refine Sat.ite (fun h => ?_) (fun h => ?_)
  · have h := of_decide_eq_true h
    rw [if_pos (.inl (by omega))]
    exact .some rfl
  have h := of_decide_eq_false h
  refine Sat.gd (inR_t (by omega) (by omega)) (Sat.ite (fun h1 => ?_) (fun h1 => ?_))
  · rw [at_int, toN] at h1
    have h1 := of_decide_eq_true h1
    rw [if_pos (.inr h1)]
    exact .some rfl
  rw [at_int, toN] at h1
  have h1 := of_decide_eq_false h1
  rw [if_neg (by rintro (e | e); · omega
                 · exact h1 e)]
  rw [e_neighbours _ _ _ (by omega), sort_nb g]
  dsimp only [Option.bind_some]
  have hmem : ∀ x ∈ nbS ls f N, ∃ (j : Nat) (c : Int), x = j ∧ j < N ∧ lc ls f x = some c ∧ 1 ≤ c ∧ c ≤ 20 := fun x hx => by
    obtain ⟨j, hj, rfl, hs⟩ := nbS_mem.1 hx
    obtain ⟨c, hc⟩ := Option.isSome_iff_exists.1 hs
    have := lc_cost g hc
    exact ⟨j, c, rfl, hj, hc, this.1, this.2⟩
  have hnl := nbS_len ls f N
  generalize nbS ls f N = nb at *
  rw [nI_eq]
  refine Sat.bnd (R := fun r => match r with | .inl x => x.1 = nb.filter (hopB ls d f) | .inr _ => False) ?_ ?_
  · refine Sat.count nb.length (fun k s => s = ((f : Int), (nb.length : Int), (k : Int), (N : Int), ls, (nb.take k).filter (hopB ls d f), d, nb, ())) ?_ (Nat.zero_le _) (fuel_lt (by omega)) (by simp)
    rintro k s hk rfl
    have hle : ((nb.take k).filter (hopB ls d f)).length ≤ k := Nat.le_trans (List.length_filter_le _ _) (List.length_take_le _ _)
    by_cases hlt : k < nb.length
    · obtain ⟨j, c, hj, hjN, hc, hc1, hc2⟩ := hmem (iz nb k) (List.mem_of_getElem? (iz_get hlt))
      obtain ⟨p1, p2, p3⟩ := lc_at hc
      have bj := bd j
      have hB : hopB ls d f (iz nb k) = decide (iz d j + c = iz d f) := by unfold hopB; rw [hc, hj]; rfl
      simp (disch := omega) only [bo_impl_Graph_nextHops_5, at_int, at_lk, toN, w64, e_linkOf _ _ _ _ fl, Option.bind_some, List.length_singleton]
      refine Sat.gd (decide_eq_true (by omega)) (Sat.gd (inR_t (by omega) (by omega)) (Sat.gd (inR_t (by omega) (by omega)) (Sat.gd (inR_t (by omega) (by omega)) (Sat.gd (inR_t p1 p2) ?_))))
      rw [p3, hj, toN]
      dsimp only
      rw [w64 (by omega) (by omega), ← hB]
      refine Sat.ite (fun hu => Sat.gd (decide_eq_true (by omega)) (.some ⟨hlt, ?_⟩)) (fun hu => .some ⟨hlt, ?_⟩)
      · rw [List.take_add_one, iz_get hlt, List.filter_append]
        simp [hu, hj]
        rw [← hj]; simp [hu]
      · rw [List.take_add_one, iz_get hlt, List.filter_append]
        simp [hu]
    · obtain rfl : k = nb.length := by omega
      unfold bo_impl_Graph_nextHops_5
      simp only [decide_eq_false (show ¬ (nb.length : Int) < nb.length by omega), cond_false, List.take_length]
      exact .some rfl
  · rintro (r | r) hr
    case inr => exact hr.elim
    have hr : r.1 = nb.filter (hopB ls d f) := hr
    exact .some (by rw [hr])
theorem e_EqualSelf (zs : List Int) (hl : Fits zs) : sh_slices_Equal_int_int (zs, zs, ()) = some (true, ()) := by
  unfold sh_slices_Equal_int_int
  refine Sat.out (Sat.no (by simp) (Sat.bnd (R := fun r => match r with | .inl _ => True | .inr _ => False) ?_ ?_))
  · refine Sat.count zs.length (fun k s => s = (zs, zs, (zs.length : Int), (k : Int), ())) ?_ (Nat.zero_le _) (fuel_lt (by omega)) (by simp [nI_eq])
    rintro k s hk rfl
    simp (disch := omega) only [bo_slices_Equal_int_int_4, at_int, toN, w64, nI_eq, decide_true, Bool.not_true]
    repeat' (first
      | refine Sat.some ?_
      | (refine Sat.no rfl ?_)
      | (refine Sat.gd (by first | exact inR_t (by omega) (by omega) | (simp (disch := omega) only [w64]; exact inR_t (by omega) (by omega))) ?_)
      | (refine Sat.ite (fun h => ?_) (fun h => ?_) <;> try simp only [decide_eq_true_eq, decide_eq_false_iff_not, Bool.not_eq_true', Bool.not_eq_false', inB_i, inB_j, Bool.and_eq_true, Bool.or_eq_true, Bool.and_eq_false_iff, Bool.or_eq_false_iff, El] at h))
    all_goals try dsimp only
    · exact ⟨by omega, rfl⟩
  · rintro (r | r) hr
    · exact .some rfl
    · exact hr.elim
/-- A true announcement changes nothing. -/
theorem cl_true {K : Nat} (g : GV N ls) (hK : K < N) : grid (clF ls N K (endsOf ls N K)) N = ls := by
  conv => rhs; rw [← g.grid]
  refine grid_congr fun a b hab hb => ?_
  unfold clF dbF
  rw [ann_cl g (by omega) hb, ann_cl g hb (by omega), lc_symm ls b a]
  have e1 : (if (a : Int) = K then ec (endsOf ls N K) b else (lc ls a b).getD 0) = (lc ls a b).getD 0 := by
    split
    · rename_i h
      obtain rfl : a = K := by omega
      exact ec_endsOf g hb
    · rfl
  have e2 : (if (b : Int) = K then ec (endsOf ls N K) a else (lc ls a b).getD 0) = (lc ls a b).getD 0 := by
    split
    · rename_i h
      obtain rfl : b = K := by omega
      rw [ec_endsOf g (by omega), lc_symm]
    · rfl
  rw [e1, e2]
  have key : ∀ o : Option Int, (∀ d, o = some d → 1 ≤ d) → (if 0 < o.getD 0 ∧ 0 < o.getD 0 then some (max (o.getD 0) (o.getD 0)) else none) = o := fun o h => by
    cases o with
    | none => rfl
    | some d =>
      have := h d rfl
      simp only [Option.getD_some, Int.max_self]
      rw [if_pos (by omega)]
  exact key _ fun d e => (lc_cost g e).1
theorem e_movedNone (g : GV N ls) {t : Nat} (ht : t < N) : sh_impl_Graph_nodesBy_ClaimMoved_1 ((N : Int), ls, (N : Int), ls, (t : Int), (N : Int), ls, ()) = some ([], ()) := by
  have h8 := g.2.1
  unfold sh_impl_Graph_nodesBy_ClaimMoved_1
  refine Sat.out (Sat.bnd (R := fun r => match r with | .inl x => x.1 = [] | .inr _ => False) ?_ ?_)
  · refine Sat.count N (fun k s => s = ((N : Int), ls, (t : Int), (N : Int), ls, (N : Int), (k : Int), [], ())) ?_ (Nat.zero_le _) (fuel_lt (by omega)) rfl
    rintro k s hk rfl
    unfold bo_impl_Graph_nodesBy_ClaimMoved_1_3
    dsimp only
    refine Sat.ite (fun hlt => ?_) (fun _ => .some rfl)
    have hlt := of_decide_eq_true hlt
    have hkN : k < N := by omega
    have e : sh_impl_ClaimMoved_1 ((k : Int), (N : Int), ls, (t : Int), (N : Int), ls, ()) = some (false, ()) := by
      unfold sh_impl_ClaimMoved_1
      rw [e_nextHops g hkN ht]
      dsimp only [Option.bind_some]
      rw [e_EqualSelf _ (fits_of (hops_len k t) (by omega))]
      rfl
    rw [e]
    dsimp only [Option.bind_some]
    refine Sat.no rfl (.some ⟨hkN, ?_⟩)
    rw [w64 (by omega) (by omega)]
    rfl
  · rintro (r | r) hr
    case inr => exact hr.elim
    have hr : r.1 = [] := hr
    exact .some (by rw [hr])
end
theorem law_ClaimTrue {c d : List Int} (hz : ∀ z ∈ c, 0 ≤ z ∧ z < 256) : sh_laws_FnClaimTrue (c, d, ()) = some (true, ()) := by
  unfold sh_laws_FnClaimTrue
  dsimp only
  refine Sat.out (Sat.ite (fun _ => .some rfl) (fun hlen => ?_))
  have hc : Cod c := cod_of hz hlen
  refine Sat.ite (fun _ => .some rfl) (fun hld => ?_)
  refine Sat.bnd (d_ClaimGraph hc) ?_
  rintro _ ⟨n, node, ls, ends, rfl, hls, hen, hn1, hn2, hm1, hm2⟩
  dsimp only
  have fl : Fits ls := fits_of hls (by omega)
  have fe : Fits ends := fits_of hen (by omega)
  rw [e_ClaimGraph n node fl fe, e_sClaimGraph n node fl (by omega)]
  dsimp only [Option.bind_some]
  rw [e_sameGraph _ _ (fits_of (clR_len n ls node ends) (by omega))]
  dsimp only [Option.bind_some]
  refine Sat.no (by simp) (Sat.no rfl (Sat.ite (fun hno => Sat.gd (by simp) (.some rfl)) (fun hok => ?_)))
  have hok : clOk n ls node ends = true := clR_ok (by simpa using hok)
  try rw [clR_yes hok]
  obtain ⟨N, K, rfl, rfl, g, hK, hV⟩ := clOk_t hok
  try rw [Int.toNat_natCast]
  have h8 := g.2.1
  have hld := of_decide_eq_false hld
  have hN : 0 < N := by omega
  have ha : d.length % N < N := Nat.mod_lt _ hN
  have hi : inB (K : Int) 0 ((N : Int) - 1) = true := inB_mk (by omega)
  have hg : gv (N : Int) ls = true := decide_eq_true g
  rw [nI_eq, tmodN]
  generalize d.length % N = a at *
  have e1 : sh_impl_LsaOf ((N : Int), ls, (K : Int), 1, ()) = some ((K : Int), 1, true, endsOf ls N K, ()) := by
    unfold sh_impl_LsaOf
    rw [e_hasNode _ _ _ fl, hg, hi, e_within, e_lsaOf g]
    rfl
  have hel := endsOf_len (ls := ls) (N := N) (K : Int)
  have fe' : Fits (endsOf ls N K) := fits_of hel (by omega)
  have ho : clOk (N : Int) ls (K : Int) (endsOf ls N K) = true := by
    unfold clOk
    rw [hg, hi, lsv_t (endsOf_ok g hK)]
    rfl
  have e2 : sh_impl_ClaimGraph ((N : Int), ls, (K : Int), endsOf ls N K, ()) = some ((N : Int), true, ls, ()) := by
    rw [e_ClaimGraph _ _ fl fe', clR_yes ho, Int.toNat_natCast, cl_true g hK]
  rw [e1]
  dsimp only [Option.bind_some]
  rw [e2]
  dsimp only [Option.bind_some]
  refine Sat.gd rfl (Sat.gd rfl ?_)
  rw [e_sameGraph _ _ fl]
  dsimp only [Option.bind_some]
  refine Sat.gd rfl (Sat.gd (by simp; omega) ?_)
  have e3 : sh_impl_ClaimMoved ((N : Int), ls, (K : Int), endsOf ls N K, (a : Int), ()) = some ([], ()) := by
    unfold sh_impl_ClaimMoved
    rw [e2]
    dsimp only [Option.bind_some]
    refine Sat.out (Sat.no rfl ?_)
    rw [e_hasNode _ _ _ fl, hg, inB_mk (show 0 ≤ (a : Int) ∧ (a : Int) ≤ (N : Int) - 1 by omega)]
    dsimp only [Option.bind_some]
    refine Sat.no rfl ?_
    rw [e_movedNone g ha]
    exact .some rfl
  rw [e3]
  exact .some rfl
end Go.Proofs.Ytjdebphkndfolaa
