/- Plain laws of joined areas: a joined graph has the links of both areas. -/
import Derived.Test.YtjdebphkndfolaaPt1
namespace Go.Proofs.Ytjdebphkndfolaa
open Go.RowKit
set_option linter.unusedSimpArgs false
set_option linter.unusedVariables false
set_option maxRecDepth 100000

theorem glink_gv {n : Int} {ls : List Lk} (h : GV n ls) (a b : Int) : glink n ls a b = lof ls a b := by
  unfold glink
  rw [if_pos (show gv n ls = true from decide_eq_true h)]
section
variable {N : Nat} {la lb : List Lk}
theorem join_gv (ga : GV N la) (gb : GV N lb) (h : (grid (joinF la lb) N).length ≤ 14) : GV N (grid (joinF la lb) N) := grid_gv (by have := ga.1; omega) (by have := ga.2.1; omega) (fun a b c _ _ e => joinF_cost ga gb e) h
theorem t_inner (ga : GV N la) (gb : GV N lb) (h14 : (grid (joinF la lb) N).length ≤ 14) {i : Nat} (hi : i < N) : Sat (lp bo_laws_FnAreaJoin_12 fuel ((i : Int), wrap64 ((i : Int) + 1), (N : Int), la, (N : Int), lb, (N : Int), grid (joinF la lb) N, ())) fun r => match r with
      | .inl x => x = ((i : Int), (N : Int), la, (N : Int), lb, (N : Int), grid (joinF la lb) N, ())
      | .inr _ => False := by
  have g := join_gv ga gb h14
  have h8 := ga.2.1
  have fa : Fits la := by have := ga.2.2.1; unfold Fits; omega
  have fb : Fits lb := by have := gb.2.2.1; unfold Fits; omega
  have fo : Fits (grid (joinF la lb) N) := by unfold Fits; omega
  have eo := fun a b (h1 : a < b) (h2 : b < N) => lc_grid (f := joinF la lb) h1 h2
  generalize hout : grid (joinF la lb) N = out at *
  refine Sat.count (N - 1 - i) (fun k s => s = ((i : Int), ((i + 1 + k : Nat) : Int), (N : Int), la, (N : Int), lb, (N : Int), out, ())) ?_ (Nat.zero_le _) (fuel_lt (by omega)) (by rw [w64 (by omega) (by omega)]; rfl)
  rintro k s hk rfl
  simp only [bo_laws_FnAreaJoin_12, e_GraphLink _ _ _ _ fa, e_GraphLink _ _ _ _ fb, e_GraphLink _ _ _ _ fo, Option.bind_some, glink_gv ga, glink_gv gb, glink_gv g, at_lk]
  refine Sat.ite (fun hlt => ?_) (fun hlt => ?_)
  case refine_2 =>
    have hlt := of_decide_eq_false hlt
    obtain rfl : k = N - 1 - i := by omega
    exact .some rfl
  have hlt := of_decide_eq_true hlt
  have hkN : k < N - 1 - i := by omega
  have ej := eo i (i + 1 + k) (by omega) (by omega)
  have fin : ((i : Int), wrap64 (((i + 1 + k : Nat) : Int) + 1), (N : Int), la, (N : Int), lb, (N : Int), out, ()) = ((i : Int), ((i + 1 + (k + 1) : Nat) : Int), (N : Int), la, (N : Int), lb, (N : Int), out, ()) := by
    rw [w64 (by omega) (by omega)]; rfl
  cases e1 : lc la i (i + 1 + k : Nat) with
  | none =>
    have u1 : ¬ 0 ≤ lof la i (i + 1 + k : Nat) := by rw [lc_no e1]; omega
    cases e2 : lc lb i (i + 1 + k : Nat) with
    | none =>
      have u2 : ¬ 0 ≤ lof lb i (i + 1 + k : Nat) := by rw [lc_no e2]; omega
      have u3 : ¬ 0 ≤ lof out i (i + 1 + k : Nat) := by rw [lc_no (by rw [ej]; unfold joinF; rw [e1, e2])]; omega
      refine Sat.no (decide_eq_false u1) (Sat.no (decide_eq_false u2) (Sat.no (decide_eq_false u1) (Sat.no ?_ (Sat.no (decide_eq_false u3) (.some ⟨hkN, fin⟩)))))
      rw [decide_eq_false u2, decide_eq_false u3]; rfl
    | some c =>
      obtain ⟨p1, p2, p3⟩ := lc_at e2
      have hc := lc_cost gb e2
      have e3 : lc out i (i + 1 + k : Nat) = some c := by rw [ej]; unfold joinF; rw [e1, e2]
      obtain ⟨q1, q2, q3⟩ := lc_at e3
      refine Sat.no (decide_eq_false u1) (Sat.gd (decide_eq_true p1) (Sat.gd (inR_t p1 p2) (Sat.no (decide_eq_false u1) (Sat.no ?_ (Sat.gd (decide_eq_true q1) (Sat.gd (inR_t q1 q2) (Sat.no ?_ (.some ⟨hkN, fin⟩))))))))
      · rw [decide_eq_true p1, decide_eq_true q1]; rfl
      · rw [p3, q3, decide_eq_true (show c = min 21 c by omega)]; rfl
  | some d =>
    obtain ⟨r1, r2, r3⟩ := lc_at e1
    have hd := lc_cost ga e1
    cases e2 : lc lb i (i + 1 + k : Nat) with
    | none =>
      have u2 : ¬ 0 ≤ lof lb i (i + 1 + k : Nat) := by rw [lc_no e2]; omega
      have e3 : lc out i (i + 1 + k : Nat) = some d := by rw [ej]; unfold joinF; rw [e1, e2]
      obtain ⟨q1, q2, q3⟩ := lc_at e3
      refine Sat.gd (decide_eq_true r1) (Sat.gd (inR_t r1 r2) (Sat.no (decide_eq_false u2) (Sat.gd (decide_eq_true r1) (Sat.no ?_ (Sat.gd (decide_eq_true q1) (Sat.gd (inR_t q1 q2) (Sat.no ?_ (.some ⟨hkN, fin⟩))))))))
      · rw [decide_eq_true q1]; rfl
      · rw [r3, q3, decide_eq_true rfl]; rfl
    | some c =>
      obtain ⟨p1, p2, p3⟩ := lc_at e2
      have e3 : lc out i (i + 1 + k : Nat) = some (min d c) := by rw [ej]; unfold joinF; rw [e1, e2]
      obtain ⟨q1, q2, q3⟩ := lc_at e3
      refine Sat.gd (decide_eq_true r1) (Sat.gd (inR_t r1 r2) (Sat.gd (decide_eq_true p1) (Sat.gd (inR_t p1 p2) (Sat.gd (decide_eq_true r1) (Sat.no ?_ (Sat.gd (decide_eq_true q1) (Sat.gd (inR_t q1 q2) (Sat.no ?_ (.some ⟨hkN, fin⟩)))))))))
      · rw [decide_eq_true q1]; rfl
      · rw [p3, r3, q3, decide_eq_true rfl]; rfl
end
theorem law_AreaJoin {c : List Int} (hz : ∀ z ∈ c, 0 ≤ z ∧ z < 256) : sh_laws_FnAreaJoin (c, ()) = some (true, ()) := by
  unfold sh_laws_FnAreaJoin
  dsimp only
  refine Sat.out (Sat.ite (fun _ => .some rfl) (fun hlen => ?_))
  have hc : Cod c := cod_of hz hlen
  
  refine Sat.bnd (d_AreaJoin hc) ?_
  rintro _ ⟨n, m, bs, la, lb, rfl, hbs, hla, hlb, hn1, hn2, hm1, hm2⟩
  dsimp only
  have fa : Fits la := fits_of hla (by omega)
  have fb : Fits lb := fits_of hlb (by omega)
  have fs : Fits bs := fits_of hbs (by omega)
  rw [e_AreaJoin n m fa fb fs, e_sAreaJoin n m fa fb fs]
  dsimp only [Option.bind_some]
  rw [e_sameGraph _ _ (fits_of (joinR_len n m la lb bs) (by omega))]
  dsimp only [Option.bind_some]
  refine Sat.no (by simp) (Sat.no rfl (Sat.ite (fun hno => Sat.gd (by simp) (.some rfl)) (fun hok => ?_)))
  have hok : (joinR n la m lb bs).2.2 = true := by simpa using hok
  have hj := joinOk_t (joinR_ok hok)
  rw [joinR_yes (joinR_ok hok)]
  obtain ⟨N, rfl, rfl, ga, gb, v1, v2, hcl, h14⟩ := hj
  rw [Int.toNat_natCast]
  have h8 := ga.2.1
  refine Sat.bnd (R := fun r => match r with | .inl x => x = ((N : Int), grid (joinF la lb) N, ()) | .inr _ => False) ?_ ?_
  · refine Sat.count N (fun k s => s = ((k : Int), (N : Int), la, (N : Int), lb, (N : Int), grid (joinF la lb) N, ())) ?_ (Nat.zero_le _) (fuel_lt (by omega)) rfl
    rintro k s hk rfl
    unfold bo_laws_FnAreaJoin_9
    dsimp only
    refine Sat.ite (fun hlt => ?_) (fun hlt => ?_)
    · have hlt := of_decide_eq_true hlt
      refine Sat.bnd (t_inner ga gb h14 (show k < N by omega)) ?_
      rintro (r | r) hr
      case inr => exact hr.elim
      obtain rfl := hr
      refine .some ⟨by omega, ?_⟩
      dsimp only
      rw [w64 (by omega) (by omega)]
      rfl
    · have hlt := of_decide_eq_false hlt
      obtain rfl : k = N := by omega
      exact .some rfl
  · rintro (r | r) hr
    case inr => exact hr.elim
    obtain rfl := hr
    dsimp only
    rw [e_GraphValid _ _ (fits_of h14 (by omega)), show gv (N : Int) (grid (joinF la lb) N) = true from decide_eq_true (join_gv ga gb h14)]
    exact .some rfl
end Go.Proofs.Ytjdebphkndfolaa
