/- Plain contracts: the graph of announcements; claims. -/
import Derived.Test.YtjdebphkndfolaaPs
namespace Go.Proofs.Ytjdebphkndfolaa
open Go.RowKit
set_option linter.unusedSimpArgs false
set_option linter.unusedVariables false
set_option maxRecDepth 100000

theorem e_announced (db : List Ls) (a b : Int) (hs : Srt db) (hl : db.length ≤ 2000000000) (he : ∀ l ∈ db, Fits l.e) : sh_impl_announced (db, a, b, ()) = some (ann db a b, ()) := by
  obtain ⟨i, hi, e⟩ := e_dbPlace db a hs hl
  unfold sh_impl_announced
  rw [e]
  dsimp only [Option.bind_some]
  unfold ann
  rw [fd_place hs hi]
  refine Sat.out ?_
  rcases cs_bool (hasAt db a i) with h | h
  · refine Sat.gd (by rw [h]; rfl) ?_
    rw [h]
    exact .some rfl
  · refine Sat.no (by rw [h]; rfl) ?_
    have hh := of_decide_eq_true h
    refine Sat.gd (inR_t (by omega) (by omega)) ?_
    rw [if_pos h, at_ls, toN, nI_eq]
    dsimp only
    have hf : Fits (lsa db i).e := he _ (by rw [lsa_get hh.1]; exact List.getElem_mem hh.1)
    generalize (lsa db i).e = es at *
    refine Sat.bnd (R := fun r => match r with | .inl _ => ec es b = 0 | .inr z => z.1 = ec es b) ?_ ?_
    · refine Sat.count es.length (fun k t => t = (b, es, (es.length : Int), (k : Int), ()) ∧ ∀ i, i < k → (en es i).n ≠ b) ?_ (Nat.zero_le _) (fuel_lt (by omega)) ⟨rfl, fun i hi => by omega⟩
      rintro k t hk ⟨rfl, hok⟩
      simp (disch := omega) only [bo_impl_announced_5, at_en, toN, w64, nI_eq]
      repeat' (first
        | refine Sat.some ?_
        | fail
        | (refine Sat.gd (by first | exact inR_t (by omega) (by omega) | (simp (disch := omega) only [w64]; exact inR_t (by omega) (by omega))) ?_)
        | (refine Sat.ite (fun h => ?_) (fun h => ?_) <;> try simp only [decide_eq_true_eq, decide_eq_false_iff_not, Bool.not_eq_true', Bool.not_eq_false', inB_i, inB_j, Bool.and_eq_true, Bool.or_eq_true, Bool.and_eq_false_iff, Bool.or_eq_false_iff, El] at h))
      all_goals try dsimp only
      · have hlt : k < es.length := by omega
        unfold ec
        rw [find_hit (k := k) hlt (decide_eq_true (by rw [← en_get hlt]; assumption)) fun i hi hik => decide_eq_false (by rw [← en_get hi]; exact hok i hik), en_get hlt]
      · refine ⟨by omega, rfl, fun i hi => ?_⟩
        by_cases e : i < k
        · exact hok i e
        · obtain rfl : i = k := by omega
          assumption
      · unfold ec
        rw [find_miss (p := fun e : En => decide (e.n = b)) (l := es) fun i hi => decide_eq_false (by rw [← en_get hi]; exact hok i (by omega))]
    · rintro (r | r) hr
      · have hr : ec es b = 0 := hr
        exact .some (by rw [hr])
      · obtain ⟨z, u⟩ := r
        have hr : z = ec es b := hr
        exact .some (by rw [hr])
def dbF (db : List Ls) (a b : Nat) : Option Int := if 0 < ann db a b ∧ 0 < ann db b a then some (max (ann db a b) (ann db b a)) else none
section
variable {db : List Ls} {N : Nat}
theorem cell_db {a b : Nat} : cell (dbF db) a b = if 0 < ann db a b ∧ 0 < ann db b a then [⟨a, b, max (ann db a b) (ann db b a)⟩] else [] := by
  unfold cell dbF
  split <;> rename_i h
  · split at h
    · rename_i h2
      injection h with h
      rw [if_pos h2, ← h]
    · cases h
  · split at h
    · cases h
    · rename_i h2
      rw [if_neg h2]
theorem e_drow_s (hl : Fits db) (he : ∀ l ∈ db, Fits l.e) (h8 : N ≤ 8) {n : Nat} (hn : n < N) (x4 x6 : Int) (xl xo : List Lk) (ho : xo.length ≤ 1000) : Sat (lp bo_spec_l11Graph_6 fuel ((N : Int), db, (n : Int), wrap64 ((n : Int) + 1), x4, xl, x6, xo, ())) fun r => match r with
      | .inl x => x = ((N : Int), db, (n : Int), x4, xl, x6, xo ++ gridR (dbF db) n (N - 1 - n), ())
      | .inr _ => False := by
  refine Sat.count (N - 1 - n) (fun k s => s = ((N : Int), db, (n : Int), ((n + 1 + k : Nat) : Int), x4, xl, x6, xo ++ gridR (dbF db) n k, ())) ?_ (Nat.zero_le _) (fuel_lt (by omega)) (by rw [w64 (by omega) (by omega)]; simp [gridR])
  rintro k s hk rfl
  have hlen := gridR_len (dbF db) n k
  have fin : ∀ c : List Lk, cell (dbF db) n (n + 1 + k) = c → k < N - 1 - n → ((N : Int), db, (n : Int), wrap64 (((n + 1 + k : Nat) : Int) + 1), x4, xl, x6, (xo ++ gridR (dbF db) n k) ++ c, ()) = ((N : Int), db, (n : Int), ((n + 1 + (k + 1) : Nat) : Int), x4, xl, x6, xo ++ gridR (dbF db) n (k + 1), ()) := fun c hc hk => by
    rw [gridR_succ, hc, w64 (by omega) (by omega), List.append_assoc]
    rfl
  simp only [bo_spec_l11Graph_6, e_l11Cost _ _ _ hl he, Option.bind_some, List.length_singleton, List.length_append]
  refine Sat.ite (fun hlt => ?_) (fun hlt => ?_)
  · have hlt := of_decide_eq_true hlt
    have hkN : k < N - 1 - n := by omega
    have hcell := cell_db (db := db) (a := n) (b := n + 1 + k)
    refine Sat.ite (fun h1 => Sat.ite (fun h2 => ?_) (fun h2 => ?_)) (fun h1 => ?_)
    · have h1 := of_decide_eq_true h1
      have h2 := of_decide_eq_true h2
      rw [if_pos ⟨h1, h2⟩] at hcell
      exact Sat.gd (decide_eq_true (by omega)) (.some ⟨hkN, fin _ hcell hkN⟩)
    · have h2 := of_decide_eq_false h2
      rw [if_neg fun h => h2 h.2] at hcell
      have := fin _ hcell hkN
      rw [List.append_nil] at this
      exact .some ⟨hkN, this⟩
    · have h1 := of_decide_eq_false h1
      rw [if_neg fun h => h1 h.1] at hcell
      have := fin _ hcell hkN
      rw [List.append_nil] at this
      exact .some ⟨hkN, this⟩
  · have hlt := of_decide_eq_false hlt
    obtain rfl : k = N - 1 - n := by omega
    exact .some rfl
theorem le64 {k : Nat} (h8 : N ≤ 8) (hk : k ≤ N) : k * N ≤ 64 := Nat.le_trans (Nat.mul_le_mul hk (Nat.le_refl N)) (Nat.le_trans (Nat.mul_le_mul h8 h8) (by omega))
theorem grid_len (f : Nat → Nat → Option Int) (h8 : N ≤ 8) : (grid f N).length ≤ 64 := Nat.le_trans (gridK_len f N N) (le64 h8 (Nat.le_refl _))
theorem e_l11Graph (hl : Fits db) (he : ∀ l ∈ db, Fits l.e) (h8 : N ≤ 8) : sh_spec_l11Graph ((N : Int), db, ()) = some ((N : Int), grid (dbF db) N, ()) := by
  unfold sh_spec_l11Graph
  refine Sat.out (Sat.bnd (R := fun r => match r with | .inl x => x.2.2.1 = (N : Int) ∧ x.2.2.2.1 = grid (dbF db) N | .inr _ => False) ?_ ?_)
  · refine Sat.count N (fun k s => s = ((N : Int), db, (k : Int), 0, [], (N : Int), gridK (dbF db) N k, ())) ?_ (Nat.zero_le _) (fuel_lt (by omega)) rfl
    rintro k s hk rfl
    have hlen := gridK_len (dbF db) N k
    have hkN := le64 h8 hk
    unfold bo_spec_l11Graph_3
    dsimp only
    refine Sat.ite (fun hlt => ?_) (fun hlt => ?_)
    · have hlt := of_decide_eq_true hlt
      have hkl : k < N := by omega
      refine Sat.bnd (e_drow_s hl he h8 hkl 0 (N : Int) [] _ (by omega)) ?_
      rintro (r | r) hr
      case inr => exact hr.elim
      obtain rfl := hr
      refine .some ⟨hkl, ?_⟩
      dsimp only
      rw [gridK_succ, w64 (by omega) (by omega)]
      rfl
    · have hlt := of_decide_eq_false hlt
      obtain rfl : k = N := by omega
      exact .some ⟨rfl, rfl⟩
  · rintro (r | r) hr
    case inr => exact hr.elim
    have hr : r.2.2.1 = (N : Int) ∧ r.2.2.2.1 = grid (dbF db) N := hr
    exact .some (by rw [hr.1, hr.2])
theorem e_drow_i (hs : Srt db) (hl : db.length ≤ 2000000000) (he : ∀ l ∈ db, Fits l.e) (h8 : N ≤ 8) {n : Nat} (hn : n < N) (x4 x6 x7 : Int) (xl xo : List Lk) (ho : xo.length ≤ 1000) : Sat (lp bo_impl_DbGraph_8 fuel ((N : Int), db, (n : Int), wrap64 ((n : Int) + 1), x4, (n : Int), x6, x7, xl, xo, ())) fun r => match r with
      | .inl x => x = ((N : Int), db, x4, (n : Int), x6, x7, xl, xo ++ gridR (dbF db) n (N - 1 - n), ())
      | .inr _ => False := by
  refine Sat.count (N - 1 - n) (fun k s => s = ((N : Int), db, (n : Int), ((n + 1 + k : Nat) : Int), x4, (n : Int), x6, x7, xl, xo ++ gridR (dbF db) n k, ())) ?_ (Nat.zero_le _) (fuel_lt (by omega)) (by rw [w64 (by omega) (by omega)]; simp [gridR])
  rintro k s hk rfl
  have hlen := gridR_len (dbF db) n k
  have fin : ∀ c : List Lk, cell (dbF db) n (n + 1 + k) = c → k < N - 1 - n → ((N : Int), db, (n : Int), wrap64 (((n + 1 + k : Nat) : Int) + 1), x4, (n : Int), x6, x7, xl, (xo ++ gridR (dbF db) n k) ++ c, ()) = ((N : Int), db, (n : Int), ((n + 1 + (k + 1) : Nat) : Int), x4, (n : Int), x6, x7, xl, xo ++ gridR (dbF db) n (k + 1), ()) := fun c hc hk => by
    rw [gridR_succ, hc, w64 (by omega) (by omega), List.append_assoc]
    rfl
  simp only [bo_impl_DbGraph_8, e_announced _ _ _ hs hl he, Option.bind_some, List.length_singleton, List.length_append]
  refine Sat.ite (fun hlt => ?_) (fun hlt => ?_)
  · have hlt := of_decide_eq_true hlt
    have hkN : k < N - 1 - n := by omega
    have hcell := cell_db (db := db) (a := n) (b := n + 1 + k)
    refine Sat.ite (fun h1 => Sat.ite (fun h2 => ?_) (fun h2 => ?_)) (fun h1 => ?_)
    · have h1 := of_decide_eq_true h1
      have h2 := of_decide_eq_true h2
      rw [if_pos ⟨h1, h2⟩] at hcell
      exact Sat.gd (decide_eq_true (by omega)) (.some ⟨hkN, fin _ hcell hkN⟩)
    · have h2 := of_decide_eq_false h2
      rw [if_neg fun h => h2 h.2] at hcell
      have := fin _ hcell hkN
      rw [List.append_nil] at this
      exact .some ⟨hkN, this⟩
    · have h1 := of_decide_eq_false h1
      rw [if_neg fun h => h1 h.1] at hcell
      have := fin _ hcell hkN
      rw [List.append_nil] at this
      exact .some ⟨hkN, this⟩
  · have hlt := of_decide_eq_false hlt
    obtain rfl : k = N - 1 - n := by omega
    exact .some rfl
end
/-- The graph that the program makes of announcements. -/
def dbOk (n : Int) (db : List Ls) : Bool := inB n 1 8 && dbv db && decide ((grid (dbF db) n.toNat).length ≤ 14)
theorem e_DbGraph (n : Int) (db : List Ls) (hl : db.length ≤ 2000000000) (he : ∀ l ∈ db, Fits l.e) : sh_impl_DbGraph (n, db, ()) = some (if dbOk n db then (n, true, grid (dbF db) n.toNat, ()) else (0, false, [], ())) := by
  unfold sh_impl_DbGraph dbOk
  simp only [e_within, e_DbValid db (show Fits db by unfold Fits; omega) he, Option.bind_some]
  cases h1 : inB n 1 8 with
  | false => rfl
  | true =>
  cases h2 : dbv db with
  | false => rfl
  | true =>
  have h1 := inB_t h1
  have hs : Srt db := DbV.srt (of_decide_eq_true h2)
  obtain ⟨N, rfl⟩ := Int.eq_ofNat_of_zero_le (show 0 ≤ n by omega)
  have h8 : N ≤ 8 := by omega
  rw [Int.toNat_natCast]
  simp only [Bool.not_true, cond_false, Bool.true_and, Bool.and_self]
  refine Sat.out (Sat.bnd (R := fun r => match r with | .inl x => x.2.1 = (N : Int) ∧ x.2.2.2.1 = grid (dbF db) N | .inr _ => False) ?_ ?_)
  · refine Sat.count N (fun k s => s = ((N : Int), db, (N : Int), (k : Int), 0, (N : Int), [], gridK (dbF db) N k, ())) ?_ (Nat.zero_le _) (fuel_lt (by omega)) rfl
    rintro k s hk rfl
    have hlen := gridK_len (dbF db) N k
    have hkN := le64 h8 hk
    unfold bo_impl_DbGraph_5
    dsimp only
    refine Sat.ite (fun hlt => ?_) (fun hlt => ?_)
    · have hlt := of_decide_eq_true hlt
      have hkl : k < N := by omega
      refine Sat.bnd (e_drow_i hs hl he h8 hkl (N : Int) 0 (N : Int) [] _ (by omega)) ?_
      rintro (r | r) hr
      case inr => exact hr.elim
      obtain rfl := hr
      refine .some ⟨hkl, ?_⟩
      dsimp only
      rw [gridK_succ, w64 (by omega) (by omega)]
      rfl
    · have hlt := of_decide_eq_false hlt
      obtain rfl : k = N := by omega
      exact .some ⟨rfl, rfl⟩
  · rintro (r | r) hr
    case inr => exact hr.elim
    have hr : r.2.1 = (N : Int) ∧ r.2.2.2.1 = grid (dbF db) N := hr
    dsimp only
    rw [hr.1, hr.2, nI_eq]
    by_cases h14 : (grid (dbF db) N).length ≤ 14
    · refine Sat.no (decide_eq_false (by omega)) (.some ?_)
      rw [decide_eq_true h14]; rfl
    · refine Sat.gd (decide_eq_true (by omega)) (.some ?_)
      rw [decide_eq_false h14]; rfl
end Go.Proofs.Ytjdebphkndfolaa
