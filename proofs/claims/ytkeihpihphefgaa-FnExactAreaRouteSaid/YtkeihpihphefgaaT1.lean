/- Contracts of the abstract machine: the exact laws' helpers. -/
import Derived.Test.YtkeihpihphefgaaTab
import Derived.Test.YtkeihpihphefgaaEnc
namespace Go.Proofs.Ytkeihpihphefgaa
open Go.RowKit

set_option maxHeartbeats 4000000 in
theorem a_eqLink (a b c a' b' c' : Int) : AC Try.prog 54 [.agg [.im (iI a), .im (iI b), .im (iI c)], .agg [.im (iI a'), .im (iI b'), .im (iI c')]] (fun d h => d = .im (.s (.bool (decide (a = a' ∧ b = b' ∧ c = c')))) ∧ h = []) := by
  refine ac_go Try.func54 rfl Try.ntmps54 rfl ?_
  simp only [nums, Nat.reduceAdd]
  repeat' (first
    | (refine q_then_n ?_)
    | (refine q_go (by assumption) ?_)
    | (refine cw_seq fun K hK => ?_)
    | (refine cw_cond rfl (fun hb => ?_) (fun hb => ?_) <;> ((try simp only [hys] at hb) <;> (try (exfalso; first | exact hb | omega | contradiction; done))))
    | (refine cw_block ?_)
    | (refine cw_exit ?_)
    | (refine q_then_e ?_)
    | (refine q_blk_s ?_)
    | (refine q_blk_o rfl ?_)
    | (refine q_blk_n ?_)
    | (refine cw_ret ?_)
    | (refine q_then_r ?_)
    | (refine q_blk_r ?_)
    | (refine cw_skip ?_)
    | (refine cw_region (id := 0) ?_; (first
      | ((refine wl_e rfl rfl ⟨ef_box rfl rfl rfl rfl⟩ rfl ?_; rintro _ rfl; (try simp only [axh])); (refine wl_e rfl rfl ⟨ef_box rfl rfl rfl rfl⟩ rfl ?_; rintro _ rfl; (try simp only [axh])); (refine wl_v rfl rfl ⟨val_assign rfl rfl⟩ rfl ?_); (refine wl_nil ?_))
      | (repeat' (first
      | (refine wl_e rfl rfl ⟨ef_box rfl rfl rfl rfl⟩ rfl ?_; rintro _ rfl; (try simp only [axh]))
      | (refine wl_v rfl rfl ⟨val_assign rfl rfl⟩ rfl ?_)
      | (refine wl_nil ?_)))))
    | (refine cw_region (id := 1) ?_; (first
      | ((first | (refine wl_v rfl rfl ⟨val_fieldAddr rfl rfl⟩ rfl ?_) | (refine wl_v rfl rfl ⟨val_fieldAddr' rfl rfl⟩ rfl ?_)); (first | (refine wl_v rfl rfl ⟨val_loadO rfl rfl rfl rfl (by intro _ _ h; cases h)⟩ rfl ?_) | (refine wl_v rfl rfl ⟨val_loadOA rfl rfl rfl rfl rfl⟩ rfl ?_) | (refine wl_v rfl rfl ⟨val_load rfl rfl rfl⟩ rfl ?_) | (refine wl_v rfl rfl ⟨val_load rfl rfl (by first | exact ints_get (by omega) | exact lks_a (by omega) | exact lks_b (by omega) | exact lks_c (by omega))⟩ rfl ?_) | (refine wl_v rfl rfl ⟨val_loadA rfl rfl (by first | exact ints_get (by omega) | exact lks_a (by omega) | exact lks_b (by omega) | exact lks_c (by omega)) (by rfl)⟩ rfl ?_) | (refine wl_v rfl rfl ⟨val_loadO rfl rfl rfl (by first | exact ints_get (by omega) | exact lks_a (by omega) | exact lks_b (by omega) | exact lks_c (by omega)) (by intro _ _ h; cases h)⟩ rfl ?_) | (refine wl_v rfl rfl ⟨val_loadOA rfl rfl rfl (by first | exact ints_get (by omega) | exact lks_a (by omega) | exact lks_b (by omega) | exact lks_c (by omega)) (by rfl)⟩ rfl ?_)); (first | (refine wl_v rfl rfl ⟨val_fieldAddr rfl rfl⟩ rfl ?_) | (refine wl_v rfl rfl ⟨val_fieldAddr' rfl rfl⟩ rfl ?_)); (first | (refine wl_v rfl rfl ⟨val_loadO rfl rfl rfl rfl (by intro _ _ h; cases h)⟩ rfl ?_) | (refine wl_v rfl rfl ⟨val_loadOA rfl rfl rfl rfl rfl⟩ rfl ?_) | (refine wl_v rfl rfl ⟨val_load rfl rfl rfl⟩ rfl ?_) | (refine wl_v rfl rfl ⟨val_load rfl rfl (by first | exact ints_get (by omega) | exact lks_a (by omega) | exact lks_b (by omega) | exact lks_c (by omega))⟩ rfl ?_) | (refine wl_v rfl rfl ⟨val_loadA rfl rfl (by first | exact ints_get (by omega) | exact lks_a (by omega) | exact lks_b (by omega) | exact lks_c (by omega)) (by rfl)⟩ rfl ?_) | (refine wl_v rfl rfl ⟨val_loadO rfl rfl rfl (by first | exact ints_get (by omega) | exact lks_a (by omega) | exact lks_b (by omega) | exact lks_c (by omega)) (by intro _ _ h; cases h)⟩ rfl ?_) | (refine wl_v rfl rfl ⟨val_loadOA rfl rfl rfl (by first | exact ints_get (by omega) | exact lks_a (by omega) | exact lks_b (by omega) | exact lks_c (by omega)) (by rfl)⟩ rfl ?_)); (first | (refine wl_v rfl rfl ⟨bin_neq rfl rfl rfl⟩ rfl ?_) | (refine wl_v rfl rfl ⟨bin_neqB Try.underlying4 rfl rfl rfl⟩ rfl ?_)); (refine wl_nil ?_))
      | (repeat' (first
      | (refine wl_v rfl rfl ⟨val_fieldAddr rfl rfl⟩ rfl ?_)
      | (refine wl_v rfl rfl ⟨val_fieldAddr' rfl rfl⟩ rfl ?_)
      | (refine wl_v rfl rfl ⟨val_loadO rfl rfl rfl rfl (by intro _ _ h; cases h)⟩ rfl ?_)
      | (refine wl_v rfl rfl ⟨val_loadOA rfl rfl rfl rfl rfl⟩ rfl ?_)
      | (refine wl_v rfl rfl ⟨val_load rfl rfl rfl⟩ rfl ?_)
      | (refine wl_v rfl rfl ⟨val_load rfl rfl (by first | exact ints_get (by omega) | exact lks_a (by omega) | exact lks_b (by omega) | exact lks_c (by omega))⟩ rfl ?_)
      | (refine wl_v rfl rfl ⟨val_loadA rfl rfl (by first | exact ints_get (by omega) | exact lks_a (by omega) | exact lks_b (by omega) | exact lks_c (by omega)) (by rfl)⟩ rfl ?_)
      | (refine wl_v rfl rfl ⟨val_loadO rfl rfl rfl (by first | exact ints_get (by omega) | exact lks_a (by omega) | exact lks_b (by omega) | exact lks_c (by omega)) (by intro _ _ h; cases h)⟩ rfl ?_)
      | (refine wl_v rfl rfl ⟨val_loadOA rfl rfl rfl (by first | exact ints_get (by omega) | exact lks_a (by omega) | exact lks_b (by omega) | exact lks_c (by omega)) (by rfl)⟩ rfl ?_)
      | (refine wl_v rfl rfl ⟨bin_neq rfl rfl rfl⟩ rfl ?_)
      | (refine wl_v rfl rfl ⟨bin_neqB Try.underlying4 rfl rfl rfl⟩ rfl ?_)
      | (refine wl_nil ?_)))))
    | (refine cw_region (id := 2) ?_; (first
      | ((refine wl_v rfl rfl ⟨val_assign rfl rfl⟩ rfl ?_); (refine wl_nil ?_))
      | (repeat' (first
      | (refine wl_v rfl rfl ⟨val_assign rfl rfl⟩ rfl ?_)
      | (refine wl_nil ?_)))))
    | (refine cw_region (id := 3) ?_; (first
      | ((first | (refine wl_v rfl rfl ⟨val_fieldAddr rfl rfl⟩ rfl ?_) | (refine wl_v rfl rfl ⟨val_fieldAddr' rfl rfl⟩ rfl ?_)); (first | (refine wl_v rfl rfl ⟨val_loadO rfl rfl rfl rfl (by intro _ _ h; cases h)⟩ rfl ?_) | (refine wl_v rfl rfl ⟨val_loadOA rfl rfl rfl rfl rfl⟩ rfl ?_) | (refine wl_v rfl rfl ⟨val_load rfl rfl rfl⟩ rfl ?_) | (refine wl_v rfl rfl ⟨val_load rfl rfl (by first | exact ints_get (by omega) | exact lks_a (by omega) | exact lks_b (by omega) | exact lks_c (by omega))⟩ rfl ?_) | (refine wl_v rfl rfl ⟨val_loadA rfl rfl (by first | exact ints_get (by omega) | exact lks_a (by omega) | exact lks_b (by omega) | exact lks_c (by omega)) (by rfl)⟩ rfl ?_) | (refine wl_v rfl rfl ⟨val_loadO rfl rfl rfl (by first | exact ints_get (by omega) | exact lks_a (by omega) | exact lks_b (by omega) | exact lks_c (by omega)) (by intro _ _ h; cases h)⟩ rfl ?_) | (refine wl_v rfl rfl ⟨val_loadOA rfl rfl rfl (by first | exact ints_get (by omega) | exact lks_a (by omega) | exact lks_b (by omega) | exact lks_c (by omega)) (by rfl)⟩ rfl ?_)); (first | (refine wl_v rfl rfl ⟨val_fieldAddr rfl rfl⟩ rfl ?_) | (refine wl_v rfl rfl ⟨val_fieldAddr' rfl rfl⟩ rfl ?_)); (first | (refine wl_v rfl rfl ⟨val_loadO rfl rfl rfl rfl (by intro _ _ h; cases h)⟩ rfl ?_) | (refine wl_v rfl rfl ⟨val_loadOA rfl rfl rfl rfl rfl⟩ rfl ?_) | (refine wl_v rfl rfl ⟨val_load rfl rfl rfl⟩ rfl ?_) | (refine wl_v rfl rfl ⟨val_load rfl rfl (by first | exact ints_get (by omega) | exact lks_a (by omega) | exact lks_b (by omega) | exact lks_c (by omega))⟩ rfl ?_) | (refine wl_v rfl rfl ⟨val_loadA rfl rfl (by first | exact ints_get (by omega) | exact lks_a (by omega) | exact lks_b (by omega) | exact lks_c (by omega)) (by rfl)⟩ rfl ?_) | (refine wl_v rfl rfl ⟨val_loadO rfl rfl rfl (by first | exact ints_get (by omega) | exact lks_a (by omega) | exact lks_b (by omega) | exact lks_c (by omega)) (by intro _ _ h; cases h)⟩ rfl ?_) | (refine wl_v rfl rfl ⟨val_loadOA rfl rfl rfl (by first | exact ints_get (by omega) | exact lks_a (by omega) | exact lks_b (by omega) | exact lks_c (by omega)) (by rfl)⟩ rfl ?_)); (first | (refine wl_v rfl rfl ⟨bin_neq rfl rfl rfl⟩ rfl ?_) | (refine wl_v rfl rfl ⟨bin_neqB Try.underlying4 rfl rfl rfl⟩ rfl ?_)); (refine wl_nil ?_))
      | (repeat' (first
      | (refine wl_v rfl rfl ⟨val_fieldAddr rfl rfl⟩ rfl ?_)
      | (refine wl_v rfl rfl ⟨val_fieldAddr' rfl rfl⟩ rfl ?_)
      | (refine wl_v rfl rfl ⟨val_loadO rfl rfl rfl rfl (by intro _ _ h; cases h)⟩ rfl ?_)
      | (refine wl_v rfl rfl ⟨val_loadOA rfl rfl rfl rfl rfl⟩ rfl ?_)
      | (refine wl_v rfl rfl ⟨val_load rfl rfl rfl⟩ rfl ?_)
      | (refine wl_v rfl rfl ⟨val_load rfl rfl (by first | exact ints_get (by omega) | exact lks_a (by omega) | exact lks_b (by omega) | exact lks_c (by omega))⟩ rfl ?_)
      | (refine wl_v rfl rfl ⟨val_loadA rfl rfl (by first | exact ints_get (by omega) | exact lks_a (by omega) | exact lks_b (by omega) | exact lks_c (by omega)) (by rfl)⟩ rfl ?_)
      | (refine wl_v rfl rfl ⟨val_loadO rfl rfl rfl (by first | exact ints_get (by omega) | exact lks_a (by omega) | exact lks_b (by omega) | exact lks_c (by omega)) (by intro _ _ h; cases h)⟩ rfl ?_)
      | (refine wl_v rfl rfl ⟨val_loadOA rfl rfl rfl (by first | exact ints_get (by omega) | exact lks_a (by omega) | exact lks_b (by omega) | exact lks_c (by omega)) (by rfl)⟩ rfl ?_)
      | (refine wl_v rfl rfl ⟨bin_neq rfl rfl rfl⟩ rfl ?_)
      | (refine wl_v rfl rfl ⟨bin_neqB Try.underlying4 rfl rfl rfl⟩ rfl ?_)
      | (refine wl_nil ?_)))))
    | (refine cw_region (id := 4) ?_; (first
      | ((refine wl_v rfl rfl ⟨val_assign rfl rfl⟩ rfl ?_); (refine wl_nil ?_))
      | (repeat' (first
      | (refine wl_v rfl rfl ⟨val_assign rfl rfl⟩ rfl ?_)
      | (refine wl_nil ?_)))))
    | (refine cw_region (id := 5) ?_; (first
      | ((first | (refine wl_v rfl rfl ⟨val_fieldAddr rfl rfl⟩ rfl ?_) | (refine wl_v rfl rfl ⟨val_fieldAddr' rfl rfl⟩ rfl ?_)); (first | (refine wl_v rfl rfl ⟨val_loadO rfl rfl rfl rfl (by intro _ _ h; cases h)⟩ rfl ?_) | (refine wl_v rfl rfl ⟨val_loadOA rfl rfl rfl rfl rfl⟩ rfl ?_) | (refine wl_v rfl rfl ⟨val_load rfl rfl rfl⟩ rfl ?_) | (refine wl_v rfl rfl ⟨val_load rfl rfl (by first | exact ints_get (by omega) | exact lks_a (by omega) | exact lks_b (by omega) | exact lks_c (by omega))⟩ rfl ?_) | (refine wl_v rfl rfl ⟨val_loadA rfl rfl (by first | exact ints_get (by omega) | exact lks_a (by omega) | exact lks_b (by omega) | exact lks_c (by omega)) (by rfl)⟩ rfl ?_) | (refine wl_v rfl rfl ⟨val_loadO rfl rfl rfl (by first | exact ints_get (by omega) | exact lks_a (by omega) | exact lks_b (by omega) | exact lks_c (by omega)) (by intro _ _ h; cases h)⟩ rfl ?_) | (refine wl_v rfl rfl ⟨val_loadOA rfl rfl rfl (by first | exact ints_get (by omega) | exact lks_a (by omega) | exact lks_b (by omega) | exact lks_c (by omega)) (by rfl)⟩ rfl ?_)); (first | (refine wl_v rfl rfl ⟨val_fieldAddr rfl rfl⟩ rfl ?_) | (refine wl_v rfl rfl ⟨val_fieldAddr' rfl rfl⟩ rfl ?_)); (first | (refine wl_v rfl rfl ⟨val_loadO rfl rfl rfl rfl (by intro _ _ h; cases h)⟩ rfl ?_) | (refine wl_v rfl rfl ⟨val_loadOA rfl rfl rfl rfl rfl⟩ rfl ?_) | (refine wl_v rfl rfl ⟨val_load rfl rfl rfl⟩ rfl ?_) | (refine wl_v rfl rfl ⟨val_load rfl rfl (by first | exact ints_get (by omega) | exact lks_a (by omega) | exact lks_b (by omega) | exact lks_c (by omega))⟩ rfl ?_) | (refine wl_v rfl rfl ⟨val_loadA rfl rfl (by first | exact ints_get (by omega) | exact lks_a (by omega) | exact lks_b (by omega) | exact lks_c (by omega)) (by rfl)⟩ rfl ?_) | (refine wl_v rfl rfl ⟨val_loadO rfl rfl rfl (by first | exact ints_get (by omega) | exact lks_a (by omega) | exact lks_b (by omega) | exact lks_c (by omega)) (by intro _ _ h; cases h)⟩ rfl ?_) | (refine wl_v rfl rfl ⟨val_loadOA rfl rfl rfl (by first | exact ints_get (by omega) | exact lks_a (by omega) | exact lks_b (by omega) | exact lks_c (by omega)) (by rfl)⟩ rfl ?_)); (first | (refine wl_v rfl rfl ⟨bin_neq rfl rfl rfl⟩ rfl ?_) | (refine wl_v rfl rfl ⟨bin_neqB Try.underlying4 rfl rfl rfl⟩ rfl ?_)); (refine wl_nil ?_))
      | (repeat' (first
      | (refine wl_v rfl rfl ⟨val_fieldAddr rfl rfl⟩ rfl ?_)
      | (refine wl_v rfl rfl ⟨val_fieldAddr' rfl rfl⟩ rfl ?_)
      | (refine wl_v rfl rfl ⟨val_loadO rfl rfl rfl rfl (by intro _ _ h; cases h)⟩ rfl ?_)
      | (refine wl_v rfl rfl ⟨val_loadOA rfl rfl rfl rfl rfl⟩ rfl ?_)
      | (refine wl_v rfl rfl ⟨val_load rfl rfl rfl⟩ rfl ?_)
      | (refine wl_v rfl rfl ⟨val_load rfl rfl (by first | exact ints_get (by omega) | exact lks_a (by omega) | exact lks_b (by omega) | exact lks_c (by omega))⟩ rfl ?_)
      | (refine wl_v rfl rfl ⟨val_loadA rfl rfl (by first | exact ints_get (by omega) | exact lks_a (by omega) | exact lks_b (by omega) | exact lks_c (by omega)) (by rfl)⟩ rfl ?_)
      | (refine wl_v rfl rfl ⟨val_loadO rfl rfl rfl (by first | exact ints_get (by omega) | exact lks_a (by omega) | exact lks_b (by omega) | exact lks_c (by omega)) (by intro _ _ h; cases h)⟩ rfl ?_)
      | (refine wl_v rfl rfl ⟨val_loadOA rfl rfl rfl (by first | exact ints_get (by omega) | exact lks_a (by omega) | exact lks_b (by omega) | exact lks_c (by omega)) (by rfl)⟩ rfl ?_)
      | (refine wl_v rfl rfl ⟨bin_neq rfl rfl rfl⟩ rfl ?_)
      | (refine wl_v rfl rfl ⟨bin_neqB Try.underlying4 rfl rfl rfl⟩ rfl ?_)
      | (refine wl_nil ?_)))))
    | (refine cw_region (id := 6) ?_; (first
      | ((refine wl_v rfl rfl ⟨val_assign rfl rfl⟩ rfl ?_); (refine wl_nil ?_))
      | (repeat' (first
      | (refine wl_v rfl rfl ⟨val_assign rfl rfl⟩ rfl ?_)
      | (refine wl_nil ?_)))))
    | (refine cw_region (id := 7) ?_; (first
      | ((refine wl_v rfl rfl ⟨val_assign rfl rfl⟩ rfl ?_); (refine wl_nil ?_))
      | (repeat' (first
      | (refine wl_v rfl rfl ⟨val_assign rfl rfl⟩ rfl ?_)
      | (refine wl_nil ?_))))))
  all_goals
    refine end_s (.inr rfl) Try.results54 rfl ⟨im_bool ?_, rfl⟩
    first | exact (decide_eq_true (by omega)).symm | exact (decide_eq_false (by omega)).symm

theorem lk_ext {l l' : Lk} (h1 : l.a = l'.a) (h2 : l.b = l'.b) (h3 : l.c = l'.c) : l = l' := by cases l; cases l'; simp_all
theorem lk_all {xs ys : List Lk} (hl : xs.length = ys.length) (h : ∀ i, i < xs.length → lk xs i = lk ys i) : xs = ys := by
  refine List.ext_getElem? fun i => ?_
  rcases Nat.lt_or_ge i xs.length with hi | hi
  · rw [lk_get hi, lk_get (by omega), h i hi]
  · rw [List.getElem?_eq_none hi, List.getElem?_eq_none (by omega)]
set_option maxHeartbeats 4000000 in
theorem a_eqLinkS (g g' : Bool) (xs ys : List Lk) (n m : Nat) (hx : xs.length = n) (hy : ys.length = m) (hn : n ≤ 16777216) : AC Try.prog 41 [.im (.sl g (lksI xs) n), .im (.sl g' (lksI ys) m)] (fun d h => d = .im (.s (.bool (decide (xs = ys)))) ∧ h = []) := by
  refine ac_go Try.func41 rfl Try.ntmps41 rfl ?_
  simp only [nums, Nat.reduceAdd]
  repeat' (first
    | (refine q_then_n ?_)
    | (refine q_go (by assumption) ?_)
    | (refine cw_seq fun K hK => ?_)
    | (refine cw_cond rfl (fun hb => ?_) (fun hb => ?_) <;> ((try simp only [hys] at hb) <;> (try (exfalso; first | exact hb | omega | contradiction; done))))
    | (refine cw_block ?_)
    | (refine cw_exit ?_)
    | (refine q_then_e ?_)
    | (refine q_blk_s ?_)
    | (refine q_blk_o rfl ?_)
    | (refine q_blk_n ?_)
    | (refine cw_ret ?_)
    | (refine q_then_r ?_)
    | (refine q_blk_r ?_)
    | (refine cw_skip ?_)
    | (refine cw_region (id := 0) ?_; (first
      | ((refine wl_v rfl rfl ⟨val_assign rfl rfl⟩ rfl ?_); (refine wl_nil ?_))
      | (repeat' (first
      | (refine wl_v rfl rfl ⟨val_assign rfl rfl⟩ rfl ?_)
      | (refine wl_nil ?_)))))
    | (refine cw_region (id := 1) ?_; (first
      | ((refine wl_v rfl rfl ⟨val_move rfl rfl⟩ rfl ?_); (first | (refine wl_v rfl rfl ⟨len_sl rfl rfl⟩ rfl ?_) | (refine wl_v rfl rfl ⟨len_own rfl rfl⟩ rfl ?_) | (refine wl_v rfl rfl ⟨len_nil rfl rfl⟩ rfl ?_) | (refine wl_v rfl rfl ⟨val_lenS Try.runUnderlying9 rfl rfl⟩ rfl ?_)); (refine wl_v rfl rfl ⟨val_move rfl rfl⟩ rfl ?_); (first | (refine wl_v rfl rfl ⟨len_sl rfl rfl⟩ rfl ?_) | (refine wl_v rfl rfl ⟨len_own rfl rfl⟩ rfl ?_) | (refine wl_v rfl rfl ⟨len_nil rfl rfl⟩ rfl ?_) | (refine wl_v rfl rfl ⟨val_lenS Try.runUnderlying9 rfl rfl⟩ rfl ?_)); (first | (refine wl_v rfl rfl ⟨bin_neq rfl rfl rfl⟩ rfl ?_) | (refine wl_v rfl rfl ⟨bin_neqB Try.underlying4 rfl rfl rfl⟩ rfl ?_)); (refine wl_nil ?_))
      | (repeat' (first
      | (refine wl_v rfl rfl ⟨val_move rfl rfl⟩ rfl ?_)
      | (refine wl_v rfl rfl ⟨len_sl rfl rfl⟩ rfl ?_)
      | (refine wl_v rfl rfl ⟨len_own rfl rfl⟩ rfl ?_)
      | (refine wl_v rfl rfl ⟨len_nil rfl rfl⟩ rfl ?_)
      | (refine wl_v rfl rfl ⟨val_lenS Try.runUnderlying9 rfl rfl⟩ rfl ?_)
      | (refine wl_v rfl rfl ⟨bin_neq rfl rfl rfl⟩ rfl ?_)
      | (refine wl_v rfl rfl ⟨bin_neqB Try.underlying4 rfl rfl rfl⟩ rfl ?_)
      | (refine wl_nil ?_)))))
    | (refine cw_region (id := 2) ?_; (first
      | ((refine wl_v rfl rfl ⟨val_assign rfl rfl⟩ rfl ?_); (refine wl_nil ?_))
      | (repeat' (first
      | (refine wl_v rfl rfl ⟨val_assign rfl rfl⟩ rfl ?_)
      | (refine wl_nil ?_)))))
    | (refine cw_region (id := 3) ?_; (first
      | ((refine wl_v rfl rfl ⟨val_assign rfl rfl⟩ rfl ?_); (refine wl_nil ?_))
      | (repeat' (first
      | (refine wl_v rfl rfl ⟨val_assign rfl rfl⟩ rfl ?_)
      | (refine wl_nil ?_)))))
    | (refine cw_region (id := 4) ?_; (first
      | ((refine wl_v rfl rfl ⟨val_move rfl rfl⟩ rfl ?_); (refine wl_v rfl rfl ⟨val_move rfl rfl⟩ rfl ?_); (first | (refine wl_v rfl rfl ⟨len_sl rfl rfl⟩ rfl ?_) | (refine wl_v rfl rfl ⟨len_own rfl rfl⟩ rfl ?_) | (refine wl_v rfl rfl ⟨len_nil rfl rfl⟩ rfl ?_) | (refine wl_v rfl rfl ⟨val_lenS Try.runUnderlying9 rfl rfl⟩ rfl ?_)); (refine wl_v rfl rfl ⟨bin_lss rfl rfl rfl⟩ rfl ?_); (refine wl_nil ?_))
      | (repeat' (first
      | (refine wl_v rfl rfl ⟨val_move rfl rfl⟩ rfl ?_)
      | (refine wl_v rfl rfl ⟨len_sl rfl rfl⟩ rfl ?_)
      | (refine wl_v rfl rfl ⟨len_own rfl rfl⟩ rfl ?_)
      | (refine wl_v rfl rfl ⟨len_nil rfl rfl⟩ rfl ?_)
      | (refine wl_v rfl rfl ⟨val_lenS Try.runUnderlying9 rfl rfl⟩ rfl ?_)
      | (refine wl_v rfl rfl ⟨bin_lss rfl rfl rfl⟩ rfl ?_)
      | (refine wl_nil ?_)))))
    | (refine cw_region (id := 5) ?_; (first
      | ((refine wl_v rfl rfl ⟨val_move rfl rfl⟩ rfl ?_); (first | (refine wl_v rfl rfl ⟨bin_add rfl rfl rfl (by omega)⟩ rfl ?_) | (refine wl_v rfl rfl ⟨bin_addw rfl rfl rfl⟩ rfl ?_)); (refine wl_v rfl rfl ⟨val_assign rfl rfl⟩ rfl ?_); (refine wl_nil ?_))
      | (repeat' (first
      | (refine wl_v rfl rfl ⟨val_move rfl rfl⟩ rfl ?_)
      | (refine wl_v rfl rfl ⟨bin_add rfl rfl rfl (by omega)⟩ rfl ?_)
      | (refine wl_v rfl rfl ⟨bin_addw rfl rfl rfl⟩ rfl ?_)
      | (refine wl_v rfl rfl ⟨val_assign rfl rfl⟩ rfl ?_)
      | (refine wl_nil ?_)))))
    | (refine cw_plan 6 8 [(0, true), (1, true), (2, true), (3, true), (4, true), (5, true), (6, true), (7, true)] (by kernel_rfl) (by kernel_rfl) ?_; simp only [picked, List.filterMap_cons, List.filterMap_nil, List.getElem?_cons_zero, List.getElem?_cons_succ, Option.map_some, List.drop_succ_cons, List.drop_zero]; (first
      | ((first | (refine pl_v rfl rfl rfl ⟨val_move rfl rfl⟩ rfl ?_) | (refine pl_x rfl rfl rfl rfl ⟨val_move rfl rfl⟩ rfl rfl ?_) | (refine pl_e rfl rfl rfl ⟨ef_v rfl (val_move rfl rfl)⟩ rfl rfl ?_; rintro _ rfl)); (first | (refine pl_v rfl rfl rfl ⟨val_move rfl rfl⟩ rfl ?_) | (refine pl_x rfl rfl rfl rfl ⟨val_move rfl rfl⟩ rfl rfl ?_) | (refine pl_e rfl rfl rfl ⟨ef_v rfl (val_move rfl rfl)⟩ rfl rfl ?_; rintro _ rfl)); (first | (refine pl_v rfl rfl rfl ⟨idx_N rfl rfl rfl (by omega)⟩ rfl ?_) | (refine pl_e rfl rfl rfl ⟨ef_v rfl (idx_N rfl rfl rfl (by omega))⟩ rfl rfl ?_; rintro _ rfl) | (refine pl_v rfl rfl rfl ⟨idx_NO rfl rfl rfl (by omega)⟩ rfl ?_) | (refine pl_e rfl rfl rfl ⟨ef_v rfl (idx_NO rfl rfl rfl (by omega))⟩ rfl rfl ?_; rintro _ rfl)); (first | (refine pl_v rfl rfl rfl ⟨val_loadO rfl rfl rfl rfl (by intro _ _ h; cases h)⟩ rfl ?_) | (refine pl_e rfl rfl rfl ⟨ef_v rfl (val_loadO rfl rfl rfl rfl (by intro _ _ h; cases h))⟩ rfl rfl ?_; rintro _ rfl) | (refine pl_v rfl rfl rfl ⟨val_loadOA rfl rfl rfl rfl rfl⟩ rfl ?_) | (refine pl_e rfl rfl rfl ⟨ef_v rfl (val_loadOA rfl rfl rfl rfl rfl)⟩ rfl rfl ?_; rintro _ rfl) | (refine pl_v rfl rfl rfl ⟨val_load rfl rfl rfl⟩ rfl ?_) | (refine pl_e rfl rfl rfl ⟨ef_v rfl (val_load rfl rfl rfl)⟩ rfl rfl ?_; rintro _ rfl) | (refine pl_v rfl rfl rfl ⟨val_load rfl rfl (by first | exact ints_get (by omega) | exact lks_a (by omega) | exact lks_b (by omega) | exact lks_c (by omega))⟩ rfl ?_) | (refine pl_e rfl rfl rfl ⟨ef_v rfl (val_load rfl rfl (by first | exact ints_get (by omega) | exact lks_a (by omega) | exact lks_b (by omega) | exact lks_c (by omega)))⟩ rfl rfl ?_; rintro _ rfl) | (refine pl_v rfl rfl rfl ⟨val_loadA rfl rfl (by first | exact ints_get (by omega) | exact lks_a (by omega) | exact lks_b (by omega) | exact lks_c (by omega)) (by rfl)⟩ rfl ?_) | (refine pl_e rfl rfl rfl ⟨ef_v rfl (val_loadA rfl rfl (by first | exact ints_get (by omega) | exact lks_a (by omega) | exact lks_b (by omega) | exact lks_c (by omega)) (by rfl))⟩ rfl rfl ?_; rintro _ rfl) | (refine pl_v rfl rfl rfl ⟨val_loadO rfl rfl rfl (by first | exact ints_get (by omega) | exact lks_a (by omega) | exact lks_b (by omega) | exact lks_c (by omega)) (by intro _ _ h; cases h)⟩ rfl ?_) | (refine pl_e rfl rfl rfl ⟨ef_v rfl (val_loadO rfl rfl rfl (by first | exact ints_get (by omega) | exact lks_a (by omega) | exact lks_b (by omega) | exact lks_c (by omega)) (by intro _ _ h; cases h))⟩ rfl rfl ?_; rintro _ rfl) | (refine pl_v rfl rfl rfl ⟨val_loadOA rfl rfl rfl (by first | exact ints_get (by omega) | exact lks_a (by omega) | exact lks_b (by omega) | exact lks_c (by omega)) (by rfl)⟩ rfl ?_) | (refine pl_e rfl rfl rfl ⟨ef_v rfl (val_loadOA rfl rfl rfl (by first | exact ints_get (by omega) | exact lks_a (by omega) | exact lks_b (by omega) | exact lks_c (by omega)) (by rfl))⟩ rfl rfl ?_; rintro _ rfl)); (first | (refine pl_v rfl rfl rfl ⟨val_move rfl rfl⟩ rfl ?_) | (refine pl_x rfl rfl rfl rfl ⟨val_move rfl rfl⟩ rfl rfl ?_) | (refine pl_e rfl rfl rfl ⟨ef_v rfl (val_move rfl rfl)⟩ rfl rfl ?_; rintro _ rfl)); (first | (refine pl_v rfl rfl rfl ⟨val_move rfl rfl⟩ rfl ?_) | (refine pl_x rfl rfl rfl rfl ⟨val_move rfl rfl⟩ rfl rfl ?_) | (refine pl_e rfl rfl rfl ⟨ef_v rfl (val_move rfl rfl)⟩ rfl rfl ?_; rintro _ rfl)); (first | (refine pl_v rfl rfl rfl ⟨idx_N rfl rfl rfl (by omega)⟩ rfl ?_) | (refine pl_e rfl rfl rfl ⟨ef_v rfl (idx_N rfl rfl rfl (by omega))⟩ rfl rfl ?_; rintro _ rfl) | (refine pl_v rfl rfl rfl ⟨idx_NO rfl rfl rfl (by omega)⟩ rfl ?_) | (refine pl_e rfl rfl rfl ⟨ef_v rfl (idx_NO rfl rfl rfl (by omega))⟩ rfl rfl ?_; rintro _ rfl)); (first | (refine pl_v rfl rfl rfl ⟨val_loadO rfl rfl rfl rfl (by intro _ _ h; cases h)⟩ rfl ?_) | (refine pl_e rfl rfl rfl ⟨ef_v rfl (val_loadO rfl rfl rfl rfl (by intro _ _ h; cases h))⟩ rfl rfl ?_; rintro _ rfl) | (refine pl_v rfl rfl rfl ⟨val_loadOA rfl rfl rfl rfl rfl⟩ rfl ?_) | (refine pl_e rfl rfl rfl ⟨ef_v rfl (val_loadOA rfl rfl rfl rfl rfl)⟩ rfl rfl ?_; rintro _ rfl) | (refine pl_v rfl rfl rfl ⟨val_load rfl rfl rfl⟩ rfl ?_) | (refine pl_e rfl rfl rfl ⟨ef_v rfl (val_load rfl rfl rfl)⟩ rfl rfl ?_; rintro _ rfl) | (refine pl_v rfl rfl rfl ⟨val_load rfl rfl (by first | exact ints_get (by omega) | exact lks_a (by omega) | exact lks_b (by omega) | exact lks_c (by omega))⟩ rfl ?_) | (refine pl_e rfl rfl rfl ⟨ef_v rfl (val_load rfl rfl (by first | exact ints_get (by omega) | exact lks_a (by omega) | exact lks_b (by omega) | exact lks_c (by omega)))⟩ rfl rfl ?_; rintro _ rfl) | (refine pl_v rfl rfl rfl ⟨val_loadA rfl rfl (by first | exact ints_get (by omega) | exact lks_a (by omega) | exact lks_b (by omega) | exact lks_c (by omega)) (by rfl)⟩ rfl ?_) | (refine pl_e rfl rfl rfl ⟨ef_v rfl (val_loadA rfl rfl (by first | exact ints_get (by omega) | exact lks_a (by omega) | exact lks_b (by omega) | exact lks_c (by omega)) (by rfl))⟩ rfl rfl ?_; rintro _ rfl) | (refine pl_v rfl rfl rfl ⟨val_loadO rfl rfl rfl (by first | exact ints_get (by omega) | exact lks_a (by omega) | exact lks_b (by omega) | exact lks_c (by omega)) (by intro _ _ h; cases h)⟩ rfl ?_) | (refine pl_e rfl rfl rfl ⟨ef_v rfl (val_loadO rfl rfl rfl (by first | exact ints_get (by omega) | exact lks_a (by omega) | exact lks_b (by omega) | exact lks_c (by omega)) (by intro _ _ h; cases h))⟩ rfl rfl ?_; rintro _ rfl) | (refine pl_v rfl rfl rfl ⟨val_loadOA rfl rfl rfl (by first | exact ints_get (by omega) | exact lks_a (by omega) | exact lks_b (by omega) | exact lks_c (by omega)) (by rfl)⟩ rfl ?_) | (refine pl_e rfl rfl rfl ⟨ef_v rfl (val_loadOA rfl rfl rfl (by first | exact ints_get (by omega) | exact lks_a (by omega) | exact lks_b (by omega) | exact lks_c (by omega)) (by rfl))⟩ rfl rfl ?_; rintro _ rfl)); (refine pl_nil ?_); (refine wl_e rfl rfl ⟨ef_call rfl rfl (a_eqLink _ _ _ _ _ _) (by repeat (first | exact F2.nil | refine F2.cons ⟨_, rfl, ?_⟩ ?_ | refine F2.cons ?_ ?_ | exact fz_s | exact fz_sl (by first | rfl | exact ages_ints _ | exact ages_lks _) | exact fz_own rfl (by decide) (by first | rfl | exact Nat.le_of_ble_eq_true rfl | (simp only [axl]; omega)) (by first | rfl | exact ages_ints _ | exact ages_lks _) | refine fz_agg ?_ | refine fz_fn ?_ | exact fz1_s | exact fz1_sl (by first | rfl | exact ages_ints _ | exact ages_lks _) | exact fz1_ptr rfl | exact fz1_at rfl | exact fz1_own rfl (by decide) (by first | rfl | exact Nat.le_of_ble_eq_true rfl | (simp only [axl]; omega)) (by first | rfl | exact ages_ints _ | exact ages_lks _)))⟩ rfl ?_; rintro _ ⟨_, _, ⟨rfl, rfl⟩, rfl⟩; (try simp only [axh])); (refine wl_v rfl rfl ⟨un_not rfl rfl⟩ rfl ?_); (refine wl_nil ?_))
      | (repeat' (first
      | (refine pl_v rfl rfl rfl ⟨val_move rfl rfl⟩ rfl ?_)
      | (refine pl_x rfl rfl rfl rfl ⟨val_move rfl rfl⟩ rfl rfl ?_)
      | (refine pl_e rfl rfl rfl ⟨ef_v rfl (val_move rfl rfl)⟩ rfl rfl ?_; rintro _ rfl)
      | (refine pl_v rfl rfl rfl ⟨idx_N rfl rfl rfl (by omega)⟩ rfl ?_)
      | (refine pl_e rfl rfl rfl ⟨ef_v rfl (idx_N rfl rfl rfl (by omega))⟩ rfl rfl ?_; rintro _ rfl)
      | (refine pl_v rfl rfl rfl ⟨idx_NO rfl rfl rfl (by omega)⟩ rfl ?_)
      | (refine pl_e rfl rfl rfl ⟨ef_v rfl (idx_NO rfl rfl rfl (by omega))⟩ rfl rfl ?_; rintro _ rfl)
      | (refine pl_v rfl rfl rfl ⟨val_loadO rfl rfl rfl rfl (by intro _ _ h; cases h)⟩ rfl ?_)
      | (refine pl_e rfl rfl rfl ⟨ef_v rfl (val_loadO rfl rfl rfl rfl (by intro _ _ h; cases h))⟩ rfl rfl ?_; rintro _ rfl)
      | (refine pl_v rfl rfl rfl ⟨val_loadOA rfl rfl rfl rfl rfl⟩ rfl ?_)
      | (refine pl_e rfl rfl rfl ⟨ef_v rfl (val_loadOA rfl rfl rfl rfl rfl)⟩ rfl rfl ?_; rintro _ rfl)
      | (refine pl_v rfl rfl rfl ⟨val_load rfl rfl rfl⟩ rfl ?_)
      | (refine pl_e rfl rfl rfl ⟨ef_v rfl (val_load rfl rfl rfl)⟩ rfl rfl ?_; rintro _ rfl)
      | (refine pl_v rfl rfl rfl ⟨val_load rfl rfl (by first | exact ints_get (by omega) | exact lks_a (by omega) | exact lks_b (by omega) | exact lks_c (by omega))⟩ rfl ?_)
      | (refine pl_e rfl rfl rfl ⟨ef_v rfl (val_load rfl rfl (by first | exact ints_get (by omega) | exact lks_a (by omega) | exact lks_b (by omega) | exact lks_c (by omega)))⟩ rfl rfl ?_; rintro _ rfl)
      | (refine pl_v rfl rfl rfl ⟨val_loadA rfl rfl (by first | exact ints_get (by omega) | exact lks_a (by omega) | exact lks_b (by omega) | exact lks_c (by omega)) (by rfl)⟩ rfl ?_)
      | (refine pl_e rfl rfl rfl ⟨ef_v rfl (val_loadA rfl rfl (by first | exact ints_get (by omega) | exact lks_a (by omega) | exact lks_b (by omega) | exact lks_c (by omega)) (by rfl))⟩ rfl rfl ?_; rintro _ rfl)
      | (refine pl_v rfl rfl rfl ⟨val_loadO rfl rfl rfl (by first | exact ints_get (by omega) | exact lks_a (by omega) | exact lks_b (by omega) | exact lks_c (by omega)) (by intro _ _ h; cases h)⟩ rfl ?_)
      | (refine pl_e rfl rfl rfl ⟨ef_v rfl (val_loadO rfl rfl rfl (by first | exact ints_get (by omega) | exact lks_a (by omega) | exact lks_b (by omega) | exact lks_c (by omega)) (by intro _ _ h; cases h))⟩ rfl rfl ?_; rintro _ rfl)
      | (refine pl_v rfl rfl rfl ⟨val_loadOA rfl rfl rfl (by first | exact ints_get (by omega) | exact lks_a (by omega) | exact lks_b (by omega) | exact lks_c (by omega)) (by rfl)⟩ rfl ?_)
      | (refine pl_e rfl rfl rfl ⟨ef_v rfl (val_loadOA rfl rfl rfl (by first | exact ints_get (by omega) | exact lks_a (by omega) | exact lks_b (by omega) | exact lks_c (by omega)) (by rfl))⟩ rfl rfl ?_; rintro _ rfl)
      | (refine pl_e rfl rfl rfl ⟨ef_call rfl rfl (a_eqLink _ _ _ _ _ _) (by repeat (first | exact F2.nil | refine F2.cons ⟨_, rfl, ?_⟩ ?_ | refine F2.cons ?_ ?_ | exact fz_s | exact fz_sl (by first | rfl | exact ages_ints _ | exact ages_lks _) | exact fz_own rfl (by decide) (by first | rfl | exact Nat.le_of_ble_eq_true rfl | (simp only [axl]; omega)) (by first | rfl | exact ages_ints _ | exact ages_lks _) | refine fz_agg ?_ | refine fz_fn ?_ | exact fz1_s | exact fz1_sl (by first | rfl | exact ages_ints _ | exact ages_lks _) | exact fz1_ptr rfl | exact fz1_at rfl | exact fz1_own rfl (by decide) (by first | rfl | exact Nat.le_of_ble_eq_true rfl | (simp only [axl]; omega)) (by first | rfl | exact ages_ints _ | exact ages_lks _)))⟩ rfl rfl ?_; rintro _ ⟨_, _, ⟨rfl, rfl⟩, rfl⟩; (try simp only [axh]))
      | (refine pl_v rfl rfl rfl ⟨un_not rfl rfl⟩ rfl ?_)
      | (refine pl_e rfl rfl rfl ⟨ef_v rfl (un_not rfl rfl)⟩ rfl rfl ?_; rintro _ rfl)
      | (refine pl_nil ?_)
      | (refine wl_v rfl rfl ⟨val_move rfl rfl⟩ rfl ?_)
      | (refine wl_v rfl rfl ⟨idx_N rfl rfl rfl (by omega)⟩ rfl ?_)
      | (refine wl_v rfl rfl ⟨idx_NO rfl rfl rfl (by omega)⟩ rfl ?_)
      | (refine wl_v rfl rfl ⟨val_loadO rfl rfl rfl rfl (by intro _ _ h; cases h)⟩ rfl ?_)
      | (refine wl_v rfl rfl ⟨val_loadOA rfl rfl rfl rfl rfl⟩ rfl ?_)
      | (refine wl_v rfl rfl ⟨val_load rfl rfl rfl⟩ rfl ?_)
      | (refine wl_v rfl rfl ⟨val_load rfl rfl (by first | exact ints_get (by omega) | exact lks_a (by omega) | exact lks_b (by omega) | exact lks_c (by omega))⟩ rfl ?_)
      | (refine wl_v rfl rfl ⟨val_loadA rfl rfl (by first | exact ints_get (by omega) | exact lks_a (by omega) | exact lks_b (by omega) | exact lks_c (by omega)) (by rfl)⟩ rfl ?_)
      | (refine wl_v rfl rfl ⟨val_loadO rfl rfl rfl (by first | exact ints_get (by omega) | exact lks_a (by omega) | exact lks_b (by omega) | exact lks_c (by omega)) (by intro _ _ h; cases h)⟩ rfl ?_)
      | (refine wl_v rfl rfl ⟨val_loadOA rfl rfl rfl (by first | exact ints_get (by omega) | exact lks_a (by omega) | exact lks_b (by omega) | exact lks_c (by omega)) (by rfl)⟩ rfl ?_)
      | (refine wl_e rfl rfl ⟨ef_call rfl rfl (a_eqLink _ _ _ _ _ _) (by repeat (first | exact F2.nil | refine F2.cons ⟨_, rfl, ?_⟩ ?_ | refine F2.cons ?_ ?_ | exact fz_s | exact fz_sl (by first | rfl | exact ages_ints _ | exact ages_lks _) | exact fz_own rfl (by decide) (by first | rfl | exact Nat.le_of_ble_eq_true rfl | (simp only [axl]; omega)) (by first | rfl | exact ages_ints _ | exact ages_lks _) | refine fz_agg ?_ | refine fz_fn ?_ | exact fz1_s | exact fz1_sl (by first | rfl | exact ages_ints _ | exact ages_lks _) | exact fz1_ptr rfl | exact fz1_at rfl | exact fz1_own rfl (by decide) (by first | rfl | exact Nat.le_of_ble_eq_true rfl | (simp only [axl]; omega)) (by first | rfl | exact ages_ints _ | exact ages_lks _)))⟩ rfl ?_; rintro _ ⟨_, _, ⟨rfl, rfl⟩, rfl⟩; (try simp only [axh]))
      | (refine wl_v rfl rfl ⟨un_not rfl rfl⟩ rfl ?_)
      | (refine wl_nil ?_)))))
    | (refine cw_region (id := 7) ?_; (first
      | ((refine wl_v rfl rfl ⟨val_assign rfl rfl⟩ rfl ?_); (refine wl_nil ?_))
      | (repeat' (first
      | (refine wl_v rfl rfl ⟨val_assign rfl rfl⟩ rfl ?_)
      | (refine wl_nil ?_)))))
    | (refine cw_region (id := 8) ?_; (first
      | ((refine wl_v rfl rfl ⟨val_assign rfl rfl⟩ rfl ?_); (refine wl_nil ?_))
      | (repeat' (first
      | (refine wl_v rfl rfl ⟨val_assign rfl rfl⟩ rfl ?_)
      | (refine wl_nil ?_))))))
  · refine end_s (.inr rfl) Try.results41 rfl ⟨im_bool ?_, rfl⟩
    exact (decide_eq_false fun e => by rw [e] at hx; omega).symm
  · have hnm : n = m := by omega
    subst hnm
    refine cw_loop (fun nn st => ∃ k : Nat, k ≤ n ∧ nn = n - k ∧ st = St.mk [(4, .im (.s (.bool false))), (5, .im (iI k)), (0, .im (.sl g (lksI xs) n)), (1, .im (.sl g' (lksI ys) n))] [] ∧ (∀ i, i < k → lk xs i = lk ys i)) ⟨_, _, ⟨0, Nat.zero_le _, rfl, rfl, fun i hi => by omega⟩, (imp_go [] rfl rfl (by decide) (by repeat' (first | exact objs_nil | refine objs_dead ?_ | refine objs_cons rfl rfl (by first | rfl | exact ren_ims _ _) ?_)) (by repeat' (first | exact slots_nil | refine slots_cons rfl ?_)))⟩ ?_
    rintro nn _ ⟨k, hk, rfl, rfl, hf⟩ K hK
    repeat' (first
      | (refine q_then_n ?_)
      | (refine q_go (by assumption) ?_)
      | (refine cw_seq fun K hK => ?_)
      | (refine cw_cond rfl (fun hb => ?_) (fun hb => ?_) <;> ((try simp only [hys] at hb) <;> (try (exfalso; first | exact hb | omega | contradiction; done))))
      | (refine cw_block ?_)
      | (refine cw_exit ?_)
      | (refine q_then_e ?_)
      | (refine q_blk_s ?_)
      | (refine q_blk_o rfl ?_)
      | (refine q_blk_n ?_)
      | (refine cw_ret ?_)
      | (refine q_then_r ?_)
      | (refine q_blk_r ?_)
      | (refine cw_skip ?_)
      | (refine cw_region (id := 0) ?_; (first
        | ((refine wl_v rfl rfl ⟨val_assign rfl rfl⟩ rfl ?_); (refine wl_nil ?_))
        | (repeat' (first
        | (refine wl_v rfl rfl ⟨val_assign rfl rfl⟩ rfl ?_)
        | (refine wl_nil ?_)))))
      | (refine cw_region (id := 1) ?_; (first
        | ((refine wl_v rfl rfl ⟨val_move rfl rfl⟩ rfl ?_); (first | (refine wl_v rfl rfl ⟨len_sl rfl rfl⟩ rfl ?_) | (refine wl_v rfl rfl ⟨len_own rfl rfl⟩ rfl ?_) | (refine wl_v rfl rfl ⟨len_nil rfl rfl⟩ rfl ?_) | (refine wl_v rfl rfl ⟨val_lenS Try.runUnderlying9 rfl rfl⟩ rfl ?_)); (refine wl_v rfl rfl ⟨val_move rfl rfl⟩ rfl ?_); (first | (refine wl_v rfl rfl ⟨len_sl rfl rfl⟩ rfl ?_) | (refine wl_v rfl rfl ⟨len_own rfl rfl⟩ rfl ?_) | (refine wl_v rfl rfl ⟨len_nil rfl rfl⟩ rfl ?_) | (refine wl_v rfl rfl ⟨val_lenS Try.runUnderlying9 rfl rfl⟩ rfl ?_)); (first | (refine wl_v rfl rfl ⟨bin_neq rfl rfl rfl⟩ rfl ?_) | (refine wl_v rfl rfl ⟨bin_neqB Try.underlying4 rfl rfl rfl⟩ rfl ?_)); (refine wl_nil ?_))
        | (repeat' (first
        | (refine wl_v rfl rfl ⟨val_move rfl rfl⟩ rfl ?_)
        | (refine wl_v rfl rfl ⟨len_sl rfl rfl⟩ rfl ?_)
        | (refine wl_v rfl rfl ⟨len_own rfl rfl⟩ rfl ?_)
        | (refine wl_v rfl rfl ⟨len_nil rfl rfl⟩ rfl ?_)
        | (refine wl_v rfl rfl ⟨val_lenS Try.runUnderlying9 rfl rfl⟩ rfl ?_)
        | (refine wl_v rfl rfl ⟨bin_neq rfl rfl rfl⟩ rfl ?_)
        | (refine wl_v rfl rfl ⟨bin_neqB Try.underlying4 rfl rfl rfl⟩ rfl ?_)
        | (refine wl_nil ?_)))))
      | (refine cw_region (id := 2) ?_; (first
        | ((refine wl_v rfl rfl ⟨val_assign rfl rfl⟩ rfl ?_); (refine wl_nil ?_))
        | (repeat' (first
        | (refine wl_v rfl rfl ⟨val_assign rfl rfl⟩ rfl ?_)
        | (refine wl_nil ?_)))))
      | (refine cw_region (id := 3) ?_; (first
        | ((refine wl_v rfl rfl ⟨val_assign rfl rfl⟩ rfl ?_); (refine wl_nil ?_))
        | (repeat' (first
        | (refine wl_v rfl rfl ⟨val_assign rfl rfl⟩ rfl ?_)
        | (refine wl_nil ?_)))))
      | (refine cw_region (id := 4) ?_; (first
        | ((refine wl_v rfl rfl ⟨val_move rfl rfl⟩ rfl ?_); (refine wl_v rfl rfl ⟨val_move rfl rfl⟩ rfl ?_); (first | (refine wl_v rfl rfl ⟨len_sl rfl rfl⟩ rfl ?_) | (refine wl_v rfl rfl ⟨len_own rfl rfl⟩ rfl ?_) | (refine wl_v rfl rfl ⟨len_nil rfl rfl⟩ rfl ?_) | (refine wl_v rfl rfl ⟨val_lenS Try.runUnderlying9 rfl rfl⟩ rfl ?_)); (refine wl_v rfl rfl ⟨bin_lss rfl rfl rfl⟩ rfl ?_); (refine wl_nil ?_))
        | (repeat' (first
        | (refine wl_v rfl rfl ⟨val_move rfl rfl⟩ rfl ?_)
        | (refine wl_v rfl rfl ⟨len_sl rfl rfl⟩ rfl ?_)
        | (refine wl_v rfl rfl ⟨len_own rfl rfl⟩ rfl ?_)
        | (refine wl_v rfl rfl ⟨len_nil rfl rfl⟩ rfl ?_)
        | (refine wl_v rfl rfl ⟨val_lenS Try.runUnderlying9 rfl rfl⟩ rfl ?_)
        | (refine wl_v rfl rfl ⟨bin_lss rfl rfl rfl⟩ rfl ?_)
        | (refine wl_nil ?_)))))
      | (refine cw_region (id := 5) ?_; (first
        | ((refine wl_v rfl rfl ⟨val_move rfl rfl⟩ rfl ?_); (first | (refine wl_v rfl rfl ⟨bin_add rfl rfl rfl (by omega)⟩ rfl ?_) | (refine wl_v rfl rfl ⟨bin_addw rfl rfl rfl⟩ rfl ?_)); (refine wl_v rfl rfl ⟨val_assign rfl rfl⟩ rfl ?_); (refine wl_nil ?_))
        | (repeat' (first
        | (refine wl_v rfl rfl ⟨val_move rfl rfl⟩ rfl ?_)
        | (refine wl_v rfl rfl ⟨bin_add rfl rfl rfl (by omega)⟩ rfl ?_)
        | (refine wl_v rfl rfl ⟨bin_addw rfl rfl rfl⟩ rfl ?_)
        | (refine wl_v rfl rfl ⟨val_assign rfl rfl⟩ rfl ?_)
        | (refine wl_nil ?_)))))
      | (refine cw_plan 6 8 [(0, true), (1, true), (2, true), (3, true), (4, true), (5, true), (6, true), (7, true)] (by kernel_rfl) (by kernel_rfl) ?_; simp only [picked, List.filterMap_cons, List.filterMap_nil, List.getElem?_cons_zero, List.getElem?_cons_succ, Option.map_some, List.drop_succ_cons, List.drop_zero]; (first
        | ((first | (refine pl_v rfl rfl rfl ⟨val_move rfl rfl⟩ rfl ?_) | (refine pl_x rfl rfl rfl rfl ⟨val_move rfl rfl⟩ rfl rfl ?_) | (refine pl_e rfl rfl rfl ⟨ef_v rfl (val_move rfl rfl)⟩ rfl rfl ?_; rintro _ rfl)); (first | (refine pl_v rfl rfl rfl ⟨val_move rfl rfl⟩ rfl ?_) | (refine pl_x rfl rfl rfl rfl ⟨val_move rfl rfl⟩ rfl rfl ?_) | (refine pl_e rfl rfl rfl ⟨ef_v rfl (val_move rfl rfl)⟩ rfl rfl ?_; rintro _ rfl)); (first | (refine pl_v rfl rfl rfl ⟨idx_N rfl rfl rfl (by omega)⟩ rfl ?_) | (refine pl_e rfl rfl rfl ⟨ef_v rfl (idx_N rfl rfl rfl (by omega))⟩ rfl rfl ?_; rintro _ rfl) | (refine pl_v rfl rfl rfl ⟨idx_NO rfl rfl rfl (by omega)⟩ rfl ?_) | (refine pl_e rfl rfl rfl ⟨ef_v rfl (idx_NO rfl rfl rfl (by omega))⟩ rfl rfl ?_; rintro _ rfl)); (first | (refine pl_v rfl rfl rfl ⟨val_loadO rfl rfl rfl rfl (by intro _ _ h; cases h)⟩ rfl ?_) | (refine pl_e rfl rfl rfl ⟨ef_v rfl (val_loadO rfl rfl rfl rfl (by intro _ _ h; cases h))⟩ rfl rfl ?_; rintro _ rfl) | (refine pl_v rfl rfl rfl ⟨val_loadOA rfl rfl rfl rfl rfl⟩ rfl ?_) | (refine pl_e rfl rfl rfl ⟨ef_v rfl (val_loadOA rfl rfl rfl rfl rfl)⟩ rfl rfl ?_; rintro _ rfl) | (refine pl_v rfl rfl rfl ⟨val_load rfl rfl rfl⟩ rfl ?_) | (refine pl_e rfl rfl rfl ⟨ef_v rfl (val_load rfl rfl rfl)⟩ rfl rfl ?_; rintro _ rfl) | (refine pl_v rfl rfl rfl ⟨val_load rfl rfl (by first | exact lks_row (by omega) | exact ints_get (by omega) | exact lks_a (by omega) | exact lks_b (by omega) | exact lks_c (by omega))⟩ rfl ?_) | (refine pl_e rfl rfl rfl ⟨ef_v rfl (val_load rfl rfl (by first | exact lks_row (by omega) | exact ints_get (by omega) | exact lks_a (by omega) | exact lks_b (by omega) | exact lks_c (by omega)))⟩ rfl rfl ?_; rintro _ rfl) | (refine pl_v rfl rfl rfl ⟨val_loadA rfl rfl (by first | exact lks_row (by omega) | exact ints_get (by omega) | exact lks_a (by omega) | exact lks_b (by omega) | exact lks_c (by omega)) (by rfl)⟩ rfl ?_) | (refine pl_e rfl rfl rfl ⟨ef_v rfl (val_loadA rfl rfl (by first | exact lks_row (by omega) | exact ints_get (by omega) | exact lks_a (by omega) | exact lks_b (by omega) | exact lks_c (by omega)) (by rfl))⟩ rfl rfl ?_; rintro _ rfl) | (refine pl_v rfl rfl rfl ⟨val_loadO rfl rfl rfl (by first | exact lks_row (by omega) | exact ints_get (by omega) | exact lks_a (by omega) | exact lks_b (by omega) | exact lks_c (by omega)) (by intro _ _ h; cases h)⟩ rfl ?_) | (refine pl_e rfl rfl rfl ⟨ef_v rfl (val_loadO rfl rfl rfl (by first | exact lks_row (by omega) | exact ints_get (by omega) | exact lks_a (by omega) | exact lks_b (by omega) | exact lks_c (by omega)) (by intro _ _ h; cases h))⟩ rfl rfl ?_; rintro _ rfl) | (refine pl_v rfl rfl rfl ⟨val_loadOA rfl rfl rfl (by first | exact lks_row (by omega) | exact ints_get (by omega) | exact lks_a (by omega) | exact lks_b (by omega) | exact lks_c (by omega)) (by rfl)⟩ rfl ?_) | (refine pl_e rfl rfl rfl ⟨ef_v rfl (val_loadOA rfl rfl rfl (by first | exact lks_row (by omega) | exact ints_get (by omega) | exact lks_a (by omega) | exact lks_b (by omega) | exact lks_c (by omega)) (by rfl))⟩ rfl rfl ?_; rintro _ rfl)); (first | (refine pl_v rfl rfl rfl ⟨val_move rfl rfl⟩ rfl ?_) | (refine pl_x rfl rfl rfl rfl ⟨val_move rfl rfl⟩ rfl rfl ?_) | (refine pl_e rfl rfl rfl ⟨ef_v rfl (val_move rfl rfl)⟩ rfl rfl ?_; rintro _ rfl)); (first | (refine pl_v rfl rfl rfl ⟨val_move rfl rfl⟩ rfl ?_) | (refine pl_x rfl rfl rfl rfl ⟨val_move rfl rfl⟩ rfl rfl ?_) | (refine pl_e rfl rfl rfl ⟨ef_v rfl (val_move rfl rfl)⟩ rfl rfl ?_; rintro _ rfl)); (first | (refine pl_v rfl rfl rfl ⟨idx_N rfl rfl rfl (by omega)⟩ rfl ?_) | (refine pl_e rfl rfl rfl ⟨ef_v rfl (idx_N rfl rfl rfl (by omega))⟩ rfl rfl ?_; rintro _ rfl) | (refine pl_v rfl rfl rfl ⟨idx_NO rfl rfl rfl (by omega)⟩ rfl ?_) | (refine pl_e rfl rfl rfl ⟨ef_v rfl (idx_NO rfl rfl rfl (by omega))⟩ rfl rfl ?_; rintro _ rfl)); (first | (refine pl_v rfl rfl rfl ⟨val_loadO rfl rfl rfl rfl (by intro _ _ h; cases h)⟩ rfl ?_) | (refine pl_e rfl rfl rfl ⟨ef_v rfl (val_loadO rfl rfl rfl rfl (by intro _ _ h; cases h))⟩ rfl rfl ?_; rintro _ rfl) | (refine pl_v rfl rfl rfl ⟨val_loadOA rfl rfl rfl rfl rfl⟩ rfl ?_) | (refine pl_e rfl rfl rfl ⟨ef_v rfl (val_loadOA rfl rfl rfl rfl rfl)⟩ rfl rfl ?_; rintro _ rfl) | (refine pl_v rfl rfl rfl ⟨val_load rfl rfl rfl⟩ rfl ?_) | (refine pl_e rfl rfl rfl ⟨ef_v rfl (val_load rfl rfl rfl)⟩ rfl rfl ?_; rintro _ rfl) | (refine pl_v rfl rfl rfl ⟨val_load rfl rfl (by first | exact lks_row (by omega) | exact ints_get (by omega) | exact lks_a (by omega) | exact lks_b (by omega) | exact lks_c (by omega))⟩ rfl ?_) | (refine pl_e rfl rfl rfl ⟨ef_v rfl (val_load rfl rfl (by first | exact lks_row (by omega) | exact ints_get (by omega) | exact lks_a (by omega) | exact lks_b (by omega) | exact lks_c (by omega)))⟩ rfl rfl ?_; rintro _ rfl) | (refine pl_v rfl rfl rfl ⟨val_loadA rfl rfl (by first | exact lks_row (by omega) | exact ints_get (by omega) | exact lks_a (by omega) | exact lks_b (by omega) | exact lks_c (by omega)) (by rfl)⟩ rfl ?_) | (refine pl_e rfl rfl rfl ⟨ef_v rfl (val_loadA rfl rfl (by first | exact lks_row (by omega) | exact ints_get (by omega) | exact lks_a (by omega) | exact lks_b (by omega) | exact lks_c (by omega)) (by rfl))⟩ rfl rfl ?_; rintro _ rfl) | (refine pl_v rfl rfl rfl ⟨val_loadO rfl rfl rfl (by first | exact lks_row (by omega) | exact ints_get (by omega) | exact lks_a (by omega) | exact lks_b (by omega) | exact lks_c (by omega)) (by intro _ _ h; cases h)⟩ rfl ?_) | (refine pl_e rfl rfl rfl ⟨ef_v rfl (val_loadO rfl rfl rfl (by first | exact lks_row (by omega) | exact ints_get (by omega) | exact lks_a (by omega) | exact lks_b (by omega) | exact lks_c (by omega)) (by intro _ _ h; cases h))⟩ rfl rfl ?_; rintro _ rfl) | (refine pl_v rfl rfl rfl ⟨val_loadOA rfl rfl rfl (by first | exact lks_row (by omega) | exact ints_get (by omega) | exact lks_a (by omega) | exact lks_b (by omega) | exact lks_c (by omega)) (by rfl)⟩ rfl ?_) | (refine pl_e rfl rfl rfl ⟨ef_v rfl (val_loadOA rfl rfl rfl (by first | exact lks_row (by omega) | exact ints_get (by omega) | exact lks_a (by omega) | exact lks_b (by omega) | exact lks_c (by omega)) (by rfl))⟩ rfl rfl ?_; rintro _ rfl)); (refine pl_nil ?_); (refine wl_e rfl rfl ⟨ef_call rfl rfl (a_eqLink _ _ _ _ _ _) (by repeat (first | exact F2.nil | refine F2.cons ⟨_, rfl, ?_⟩ ?_ | refine F2.cons ?_ ?_ | exact fz_s | exact fz_sl (by first | rfl | exact ages_ints _ | exact ages_lks _) | exact fz_own rfl (by decide) (by first | rfl | exact Nat.le_of_ble_eq_true rfl | (simp only [axl]; omega)) (by first | rfl | exact ages_ints _ | exact ages_lks _) | refine fz_agg ?_ | refine fz_fn ?_ | exact fz1_s | exact fz1_sl (by first | rfl | exact ages_ints _ | exact ages_lks _) | exact fz1_ptr rfl | exact fz1_at rfl | exact fz1_own rfl (by decide) (by first | rfl | exact Nat.le_of_ble_eq_true rfl | (simp only [axl]; omega)) (by first | rfl | exact ages_ints _ | exact ages_lks _)))⟩ rfl ?_; rintro _ ⟨_, _, ⟨rfl, rfl⟩, rfl⟩; (try simp only [axh])); (refine wl_v rfl rfl ⟨un_not rfl rfl⟩ rfl ?_); (refine wl_nil ?_))
        | (repeat' (first
        | (refine pl_v rfl rfl rfl ⟨val_move rfl rfl⟩ rfl ?_)
        | (refine pl_x rfl rfl rfl rfl ⟨val_move rfl rfl⟩ rfl rfl ?_)
        | (refine pl_e rfl rfl rfl ⟨ef_v rfl (val_move rfl rfl)⟩ rfl rfl ?_; rintro _ rfl)
        | (refine pl_v rfl rfl rfl ⟨idx_N rfl rfl rfl (by omega)⟩ rfl ?_)
        | (refine pl_e rfl rfl rfl ⟨ef_v rfl (idx_N rfl rfl rfl (by omega))⟩ rfl rfl ?_; rintro _ rfl)
        | (refine pl_v rfl rfl rfl ⟨idx_NO rfl rfl rfl (by omega)⟩ rfl ?_)
        | (refine pl_e rfl rfl rfl ⟨ef_v rfl (idx_NO rfl rfl rfl (by omega))⟩ rfl rfl ?_; rintro _ rfl)
        | (refine pl_v rfl rfl rfl ⟨val_loadO rfl rfl rfl rfl (by intro _ _ h; cases h)⟩ rfl ?_)
        | (refine pl_e rfl rfl rfl ⟨ef_v rfl (val_loadO rfl rfl rfl rfl (by intro _ _ h; cases h))⟩ rfl rfl ?_; rintro _ rfl)
        | (refine pl_v rfl rfl rfl ⟨val_loadOA rfl rfl rfl rfl rfl⟩ rfl ?_)
        | (refine pl_e rfl rfl rfl ⟨ef_v rfl (val_loadOA rfl rfl rfl rfl rfl)⟩ rfl rfl ?_; rintro _ rfl)
        | (refine pl_v rfl rfl rfl ⟨val_load rfl rfl rfl⟩ rfl ?_)
        | (refine pl_e rfl rfl rfl ⟨ef_v rfl (val_load rfl rfl rfl)⟩ rfl rfl ?_; rintro _ rfl)
        | (refine pl_v rfl rfl rfl ⟨val_load rfl rfl (by first | exact lks_row (by omega) | exact ints_get (by omega) | exact lks_a (by omega) | exact lks_b (by omega) | exact lks_c (by omega))⟩ rfl ?_)
        | (refine pl_e rfl rfl rfl ⟨ef_v rfl (val_load rfl rfl (by first | exact lks_row (by omega) | exact ints_get (by omega) | exact lks_a (by omega) | exact lks_b (by omega) | exact lks_c (by omega)))⟩ rfl rfl ?_; rintro _ rfl)
        | (refine pl_v rfl rfl rfl ⟨val_loadA rfl rfl (by first | exact lks_row (by omega) | exact ints_get (by omega) | exact lks_a (by omega) | exact lks_b (by omega) | exact lks_c (by omega)) (by rfl)⟩ rfl ?_)
        | (refine pl_e rfl rfl rfl ⟨ef_v rfl (val_loadA rfl rfl (by first | exact lks_row (by omega) | exact ints_get (by omega) | exact lks_a (by omega) | exact lks_b (by omega) | exact lks_c (by omega)) (by rfl))⟩ rfl rfl ?_; rintro _ rfl)
        | (refine pl_v rfl rfl rfl ⟨val_loadO rfl rfl rfl (by first | exact lks_row (by omega) | exact ints_get (by omega) | exact lks_a (by omega) | exact lks_b (by omega) | exact lks_c (by omega)) (by intro _ _ h; cases h)⟩ rfl ?_)
        | (refine pl_e rfl rfl rfl ⟨ef_v rfl (val_loadO rfl rfl rfl (by first | exact lks_row (by omega) | exact ints_get (by omega) | exact lks_a (by omega) | exact lks_b (by omega) | exact lks_c (by omega)) (by intro _ _ h; cases h))⟩ rfl rfl ?_; rintro _ rfl)
        | (refine pl_v rfl rfl rfl ⟨val_loadOA rfl rfl rfl (by first | exact lks_row (by omega) | exact ints_get (by omega) | exact lks_a (by omega) | exact lks_b (by omega) | exact lks_c (by omega)) (by rfl)⟩ rfl ?_)
        | (refine pl_e rfl rfl rfl ⟨ef_v rfl (val_loadOA rfl rfl rfl (by first | exact lks_row (by omega) | exact ints_get (by omega) | exact lks_a (by omega) | exact lks_b (by omega) | exact lks_c (by omega)) (by rfl))⟩ rfl rfl ?_; rintro _ rfl)
        | (refine pl_e rfl rfl rfl ⟨ef_call rfl rfl (a_eqLink _ _ _ _ _ _) (by repeat (first | exact F2.nil | refine F2.cons ⟨_, rfl, ?_⟩ ?_ | refine F2.cons ?_ ?_ | exact fz_s | exact fz_sl (by first | rfl | exact ages_ints _ | exact ages_lks _) | exact fz_own rfl (by decide) (by first | rfl | exact Nat.le_of_ble_eq_true rfl | (simp only [axl]; omega)) (by first | rfl | exact ages_ints _ | exact ages_lks _) | refine fz_agg ?_ | refine fz_fn ?_ | exact fz1_s | exact fz1_sl (by first | rfl | exact ages_ints _ | exact ages_lks _) | exact fz1_ptr rfl | exact fz1_at rfl | exact fz1_own rfl (by decide) (by first | rfl | exact Nat.le_of_ble_eq_true rfl | (simp only [axl]; omega)) (by first | rfl | exact ages_ints _ | exact ages_lks _)))⟩ rfl rfl ?_; rintro _ ⟨_, _, ⟨rfl, rfl⟩, rfl⟩; (try simp only [axh]))
        | (refine pl_v rfl rfl rfl ⟨un_not rfl rfl⟩ rfl ?_)
        | (refine pl_e rfl rfl rfl ⟨ef_v rfl (un_not rfl rfl)⟩ rfl rfl ?_; rintro _ rfl)
        | (refine pl_nil ?_)
        | (refine wl_v rfl rfl ⟨val_move rfl rfl⟩ rfl ?_)
        | (refine wl_v rfl rfl ⟨idx_N rfl rfl rfl (by omega)⟩ rfl ?_)
        | (refine wl_v rfl rfl ⟨idx_NO rfl rfl rfl (by omega)⟩ rfl ?_)
        | (refine wl_v rfl rfl ⟨val_loadO rfl rfl rfl rfl (by intro _ _ h; cases h)⟩ rfl ?_)
        | (refine wl_v rfl rfl ⟨val_loadOA rfl rfl rfl rfl rfl⟩ rfl ?_)
        | (refine wl_v rfl rfl ⟨val_load rfl rfl rfl⟩ rfl ?_)
        | (refine wl_v rfl rfl ⟨val_load rfl rfl (by first | exact lks_row (by omega) | exact ints_get (by omega) | exact lks_a (by omega) | exact lks_b (by omega) | exact lks_c (by omega))⟩ rfl ?_)
        | (refine wl_v rfl rfl ⟨val_loadA rfl rfl (by first | exact lks_row (by omega) | exact ints_get (by omega) | exact lks_a (by omega) | exact lks_b (by omega) | exact lks_c (by omega)) (by rfl)⟩ rfl ?_)
        | (refine wl_v rfl rfl ⟨val_loadO rfl rfl rfl (by first | exact lks_row (by omega) | exact ints_get (by omega) | exact lks_a (by omega) | exact lks_b (by omega) | exact lks_c (by omega)) (by intro _ _ h; cases h)⟩ rfl ?_)
        | (refine wl_v rfl rfl ⟨val_loadOA rfl rfl rfl (by first | exact lks_row (by omega) | exact ints_get (by omega) | exact lks_a (by omega) | exact lks_b (by omega) | exact lks_c (by omega)) (by rfl)⟩ rfl ?_)
        | (refine wl_e rfl rfl ⟨ef_call rfl rfl (a_eqLink _ _ _ _ _ _) (by repeat (first | exact F2.nil | refine F2.cons ⟨_, rfl, ?_⟩ ?_ | refine F2.cons ?_ ?_ | exact fz_s | exact fz_sl (by first | rfl | exact ages_ints _ | exact ages_lks _) | exact fz_own rfl (by decide) (by first | rfl | exact Nat.le_of_ble_eq_true rfl | (simp only [axl]; omega)) (by first | rfl | exact ages_ints _ | exact ages_lks _) | refine fz_agg ?_ | refine fz_fn ?_ | exact fz1_s | exact fz1_sl (by first | rfl | exact ages_ints _ | exact ages_lks _) | exact fz1_ptr rfl | exact fz1_at rfl | exact fz1_own rfl (by decide) (by first | rfl | exact Nat.le_of_ble_eq_true rfl | (simp only [axl]; omega)) (by first | rfl | exact ages_ints _ | exact ages_lks _)))⟩ rfl ?_; rintro _ ⟨_, _, ⟨rfl, rfl⟩, rfl⟩; (try simp only [axh]))
        | (refine wl_v rfl rfl ⟨un_not rfl rfl⟩ rfl ?_)
        | (refine wl_nil ?_)))))
      | (refine cw_region (id := 7) ?_; (first
        | ((refine wl_v rfl rfl ⟨val_assign rfl rfl⟩ rfl ?_); (refine wl_nil ?_))
        | (repeat' (first
        | (refine wl_v rfl rfl ⟨val_assign rfl rfl⟩ rfl ?_)
        | (refine wl_nil ?_)))))
      | (refine cw_region (id := 8) ?_; (first
        | ((refine wl_v rfl rfl ⟨val_assign rfl rfl⟩ rfl ?_); (refine wl_nil ?_))
        | (repeat' (first
        | (refine wl_v rfl rfl ⟨val_assign rfl rfl⟩ rfl ?_)
        | (refine wl_nil ?_))))))
    · refine end_s (.inr rfl) Try.results41 rfl ⟨im_bool ?_, rfl⟩
      have hb' : ¬ ((lk xs k).a = (lk ys k).a ∧ (lk xs k).b = (lk ys k).b ∧ (lk xs k).c = (lk ys k).c) := by assumption
      exact (decide_eq_false fun e => hb' (by subst e; exact ⟨rfl, rfl, rfl⟩)).symm
    · have he : (lk xs k).a = (lk ys k).a ∧ (lk xs k).b = (lk ys k).b ∧ (lk xs k).c = (lk ys k).c := by assumption
      exact ⟨_, _, by omega, ⟨k + 1, by omega, rfl, rfl, fun i hi => by
              by_cases e : i < k
              · exact hf i e
              · obtain rfl : i = k := by omega
                exact lk_ext he.1 he.2.1 he.2.2⟩, (imp_go [] rfl rfl (by decide) (by repeat' (first | exact objs_nil | refine objs_dead ?_ | refine objs_cons rfl rfl (by first | rfl | exact ren_ims _ _) ?_)) (by repeat' (first | exact slots_nil | refine slots_cons rfl ?_)))⟩
    · refine end_s (.inr rfl) Try.results41 rfl ⟨im_bool ?_, rfl⟩
      obtain rfl : k = n := by omega
      exact (decide_eq_true (lk_all (hx.trans hy.symm) fun i hi => hf i (by omega))).symm

theorem iz_all {xs ys : List Int} (hl : xs.length = ys.length) (h : ∀ i, i < xs.length → iz xs i = iz ys i) : xs = ys := by
  refine List.ext_getElem? fun i => ?_
  rcases Nat.lt_or_ge i xs.length with hi | hi
  · rw [iz_get hi, iz_get (by omega), h i hi]
  · rw [List.getElem?_eq_none hi, List.getElem?_eq_none (by omega)]
set_option maxHeartbeats 4000000 in
theorem a_eqIntS (g g' : Bool) (xs ys : List Int) (n m : Nat) (hx : xs.length = n) (hy : ys.length = m) (hn : n ≤ 16777216) : AC Try.prog 22 [.im (.sl g (intsI xs) n), .im (.sl g' (intsI ys) m)] (fun d h => d = .im (.s (.bool (decide (xs = ys)))) ∧ h = []) := by
  refine ac_go Try.func22 rfl Try.ntmps22 rfl ?_
  simp only [nums]
  repeat' (first
    | (refine q_then_n ?_)
    | (refine q_go (by assumption) ?_)
    | (refine cw_seq fun K hK => ?_)
    | (refine cw_cond rfl (fun hb => ?_) (fun hb => ?_) <;> ((try simp only [hys] at hb) <;> (try (exfalso; first | exact hb | omega | contradiction; done))))
    | (refine cw_block ?_)
    | (refine cw_exit ?_)
    | (refine q_then_e ?_)
    | (refine q_blk_s ?_)
    | (refine q_blk_o rfl ?_)
    | (refine q_blk_n ?_)
    | (refine cw_ret ?_)
    | (refine q_then_r ?_)
    | (refine q_blk_r ?_)
    | (refine cw_skip ?_)
    | (refine cw_region (id := 0) ?_; (first
      | ((refine wl_v rfl rfl ⟨val_assign rfl rfl⟩ rfl ?_); (refine wl_nil ?_))
      | (repeat' (first
      | (refine wl_v rfl rfl ⟨val_assign rfl rfl⟩ rfl ?_)
      | (refine wl_nil ?_)))))
    | (refine cw_region (id := 1) ?_; (first
      | ((refine wl_v rfl rfl ⟨val_move rfl rfl⟩ rfl ?_); (first | (refine wl_v rfl rfl ⟨len_sl rfl rfl⟩ rfl ?_) | (refine wl_v rfl rfl ⟨len_own rfl rfl⟩ rfl ?_) | (refine wl_v rfl rfl ⟨len_nil rfl rfl⟩ rfl ?_) | (refine wl_v rfl rfl ⟨val_lenS Try.runUnderlying9 rfl rfl⟩ rfl ?_)); (refine wl_v rfl rfl ⟨val_move rfl rfl⟩ rfl ?_); (first | (refine wl_v rfl rfl ⟨len_sl rfl rfl⟩ rfl ?_) | (refine wl_v rfl rfl ⟨len_own rfl rfl⟩ rfl ?_) | (refine wl_v rfl rfl ⟨len_nil rfl rfl⟩ rfl ?_) | (refine wl_v rfl rfl ⟨val_lenS Try.runUnderlying9 rfl rfl⟩ rfl ?_)); (first | (refine wl_v rfl rfl ⟨bin_neq rfl rfl rfl⟩ rfl ?_) | (refine wl_v rfl rfl ⟨bin_neqB Try.underlying4 rfl rfl rfl⟩ rfl ?_)); (refine wl_nil ?_))
      | (repeat' (first
      | (refine wl_v rfl rfl ⟨val_move rfl rfl⟩ rfl ?_)
      | (refine wl_v rfl rfl ⟨len_sl rfl rfl⟩ rfl ?_)
      | (refine wl_v rfl rfl ⟨len_own rfl rfl⟩ rfl ?_)
      | (refine wl_v rfl rfl ⟨len_nil rfl rfl⟩ rfl ?_)
      | (refine wl_v rfl rfl ⟨val_lenS Try.runUnderlying9 rfl rfl⟩ rfl ?_)
      | (refine wl_v rfl rfl ⟨bin_neq rfl rfl rfl⟩ rfl ?_)
      | (refine wl_v rfl rfl ⟨bin_neqB Try.underlying4 rfl rfl rfl⟩ rfl ?_)
      | (refine wl_nil ?_)))))
    | (refine cw_region (id := 2) ?_; (first
      | ((refine wl_v rfl rfl ⟨val_assign rfl rfl⟩ rfl ?_); (refine wl_nil ?_))
      | (repeat' (first
      | (refine wl_v rfl rfl ⟨val_assign rfl rfl⟩ rfl ?_)
      | (refine wl_nil ?_)))))
    | (refine cw_region (id := 3) ?_; (first
      | ((refine wl_v rfl rfl ⟨val_assign rfl rfl⟩ rfl ?_); (refine wl_nil ?_))
      | (repeat' (first
      | (refine wl_v rfl rfl ⟨val_assign rfl rfl⟩ rfl ?_)
      | (refine wl_nil ?_)))))
    | (refine cw_region (id := 4) ?_; (first
      | ((refine wl_v rfl rfl ⟨val_move rfl rfl⟩ rfl ?_); (refine wl_v rfl rfl ⟨val_move rfl rfl⟩ rfl ?_); (first | (refine wl_v rfl rfl ⟨len_sl rfl rfl⟩ rfl ?_) | (refine wl_v rfl rfl ⟨len_own rfl rfl⟩ rfl ?_) | (refine wl_v rfl rfl ⟨len_nil rfl rfl⟩ rfl ?_) | (refine wl_v rfl rfl ⟨val_lenS Try.runUnderlying9 rfl rfl⟩ rfl ?_)); (refine wl_v rfl rfl ⟨bin_lss rfl rfl rfl⟩ rfl ?_); (refine wl_nil ?_))
      | (repeat' (first
      | (refine wl_v rfl rfl ⟨val_move rfl rfl⟩ rfl ?_)
      | (refine wl_v rfl rfl ⟨len_sl rfl rfl⟩ rfl ?_)
      | (refine wl_v rfl rfl ⟨len_own rfl rfl⟩ rfl ?_)
      | (refine wl_v rfl rfl ⟨len_nil rfl rfl⟩ rfl ?_)
      | (refine wl_v rfl rfl ⟨val_lenS Try.runUnderlying9 rfl rfl⟩ rfl ?_)
      | (refine wl_v rfl rfl ⟨bin_lss rfl rfl rfl⟩ rfl ?_)
      | (refine wl_nil ?_)))))
    | (refine cw_region (id := 5) ?_; (first
      | ((refine wl_v rfl rfl ⟨val_move rfl rfl⟩ rfl ?_); (first | (refine wl_v rfl rfl ⟨bin_add rfl rfl rfl (by omega)⟩ rfl ?_) | (refine wl_v rfl rfl ⟨bin_addw rfl rfl rfl⟩ rfl ?_)); (refine wl_v rfl rfl ⟨val_assign rfl rfl⟩ rfl ?_); (refine wl_nil ?_))
      | (repeat' (first
      | (refine wl_v rfl rfl ⟨val_move rfl rfl⟩ rfl ?_)
      | (refine wl_v rfl rfl ⟨bin_add rfl rfl rfl (by omega)⟩ rfl ?_)
      | (refine wl_v rfl rfl ⟨bin_addw rfl rfl rfl⟩ rfl ?_)
      | (refine wl_v rfl rfl ⟨val_assign rfl rfl⟩ rfl ?_)
      | (refine wl_nil ?_)))))
    | (refine cw_plan 6 8 [(0, true), (1, true), (2, true), (3, true), (4, true), (5, true), (6, true), (7, true)] (by kernel_rfl) (by kernel_rfl) ?_; simp only [picked, List.filterMap_cons, List.filterMap_nil, List.getElem?_cons_zero, List.getElem?_cons_succ, Option.map_some, List.drop_succ_cons, List.drop_zero]; (first
      | ((first | (refine pl_v rfl rfl rfl ⟨val_move rfl rfl⟩ rfl ?_) | (refine pl_x rfl rfl rfl rfl ⟨val_move rfl rfl⟩ rfl rfl ?_) | (refine pl_e rfl rfl rfl ⟨ef_v rfl (val_move rfl rfl)⟩ rfl rfl ?_; rintro _ rfl)); (first | (refine pl_v rfl rfl rfl ⟨val_move rfl rfl⟩ rfl ?_) | (refine pl_x rfl rfl rfl rfl ⟨val_move rfl rfl⟩ rfl rfl ?_) | (refine pl_e rfl rfl rfl ⟨ef_v rfl (val_move rfl rfl)⟩ rfl rfl ?_; rintro _ rfl)); (first | (refine pl_v rfl rfl rfl ⟨idx_N rfl rfl rfl (by omega)⟩ rfl ?_) | (refine pl_e rfl rfl rfl ⟨ef_v rfl (idx_N rfl rfl rfl (by omega))⟩ rfl rfl ?_; rintro _ rfl) | (refine pl_v rfl rfl rfl ⟨idx_NO rfl rfl rfl (by omega)⟩ rfl ?_) | (refine pl_e rfl rfl rfl ⟨ef_v rfl (idx_NO rfl rfl rfl (by omega))⟩ rfl rfl ?_; rintro _ rfl)); (first | (refine pl_v rfl rfl rfl ⟨val_loadO rfl rfl rfl rfl (by intro _ _ h; cases h)⟩ rfl ?_) | (refine pl_e rfl rfl rfl ⟨ef_v rfl (val_loadO rfl rfl rfl rfl (by intro _ _ h; cases h))⟩ rfl rfl ?_; rintro _ rfl) | (refine pl_v rfl rfl rfl ⟨val_loadOA rfl rfl rfl rfl rfl⟩ rfl ?_) | (refine pl_e rfl rfl rfl ⟨ef_v rfl (val_loadOA rfl rfl rfl rfl rfl)⟩ rfl rfl ?_; rintro _ rfl) | (refine pl_v rfl rfl rfl ⟨val_load rfl rfl rfl⟩ rfl ?_) | (refine pl_e rfl rfl rfl ⟨ef_v rfl (val_load rfl rfl rfl)⟩ rfl rfl ?_; rintro _ rfl) | (refine pl_v rfl rfl rfl ⟨val_load rfl rfl (by first | exact ints_get (by omega) | exact lks_a (by omega) | exact lks_b (by omega) | exact lks_c (by omega))⟩ rfl ?_) | (refine pl_e rfl rfl rfl ⟨ef_v rfl (val_load rfl rfl (by first | exact ints_get (by omega) | exact lks_a (by omega) | exact lks_b (by omega) | exact lks_c (by omega)))⟩ rfl rfl ?_; rintro _ rfl) | (refine pl_v rfl rfl rfl ⟨val_loadA rfl rfl (by first | exact ints_get (by omega) | exact lks_a (by omega) | exact lks_b (by omega) | exact lks_c (by omega)) (by rfl)⟩ rfl ?_) | (refine pl_e rfl rfl rfl ⟨ef_v rfl (val_loadA rfl rfl (by first | exact ints_get (by omega) | exact lks_a (by omega) | exact lks_b (by omega) | exact lks_c (by omega)) (by rfl))⟩ rfl rfl ?_; rintro _ rfl) | (refine pl_v rfl rfl rfl ⟨val_loadO rfl rfl rfl (by first | exact ints_get (by omega) | exact lks_a (by omega) | exact lks_b (by omega) | exact lks_c (by omega)) (by intro _ _ h; cases h)⟩ rfl ?_) | (refine pl_e rfl rfl rfl ⟨ef_v rfl (val_loadO rfl rfl rfl (by first | exact ints_get (by omega) | exact lks_a (by omega) | exact lks_b (by omega) | exact lks_c (by omega)) (by intro _ _ h; cases h))⟩ rfl rfl ?_; rintro _ rfl) | (refine pl_v rfl rfl rfl ⟨val_loadOA rfl rfl rfl (by first | exact ints_get (by omega) | exact lks_a (by omega) | exact lks_b (by omega) | exact lks_c (by omega)) (by rfl)⟩ rfl ?_) | (refine pl_e rfl rfl rfl ⟨ef_v rfl (val_loadOA rfl rfl rfl (by first | exact ints_get (by omega) | exact lks_a (by omega) | exact lks_b (by omega) | exact lks_c (by omega)) (by rfl))⟩ rfl rfl ?_; rintro _ rfl)); (first | (refine pl_v rfl rfl rfl ⟨val_move rfl rfl⟩ rfl ?_) | (refine pl_x rfl rfl rfl rfl ⟨val_move rfl rfl⟩ rfl rfl ?_) | (refine pl_e rfl rfl rfl ⟨ef_v rfl (val_move rfl rfl)⟩ rfl rfl ?_; rintro _ rfl)); (first | (refine pl_v rfl rfl rfl ⟨val_move rfl rfl⟩ rfl ?_) | (refine pl_x rfl rfl rfl rfl ⟨val_move rfl rfl⟩ rfl rfl ?_) | (refine pl_e rfl rfl rfl ⟨ef_v rfl (val_move rfl rfl)⟩ rfl rfl ?_; rintro _ rfl)); (first | (refine pl_v rfl rfl rfl ⟨idx_N rfl rfl rfl (by omega)⟩ rfl ?_) | (refine pl_e rfl rfl rfl ⟨ef_v rfl (idx_N rfl rfl rfl (by omega))⟩ rfl rfl ?_; rintro _ rfl) | (refine pl_v rfl rfl rfl ⟨idx_NO rfl rfl rfl (by omega)⟩ rfl ?_) | (refine pl_e rfl rfl rfl ⟨ef_v rfl (idx_NO rfl rfl rfl (by omega))⟩ rfl rfl ?_; rintro _ rfl)); (first | (refine pl_v rfl rfl rfl ⟨val_loadO rfl rfl rfl rfl (by intro _ _ h; cases h)⟩ rfl ?_) | (refine pl_e rfl rfl rfl ⟨ef_v rfl (val_loadO rfl rfl rfl rfl (by intro _ _ h; cases h))⟩ rfl rfl ?_; rintro _ rfl) | (refine pl_v rfl rfl rfl ⟨val_loadOA rfl rfl rfl rfl rfl⟩ rfl ?_) | (refine pl_e rfl rfl rfl ⟨ef_v rfl (val_loadOA rfl rfl rfl rfl rfl)⟩ rfl rfl ?_; rintro _ rfl) | (refine pl_v rfl rfl rfl ⟨val_load rfl rfl rfl⟩ rfl ?_) | (refine pl_e rfl rfl rfl ⟨ef_v rfl (val_load rfl rfl rfl)⟩ rfl rfl ?_; rintro _ rfl) | (refine pl_v rfl rfl rfl ⟨val_load rfl rfl (by first | exact ints_get (by omega) | exact lks_a (by omega) | exact lks_b (by omega) | exact lks_c (by omega))⟩ rfl ?_) | (refine pl_e rfl rfl rfl ⟨ef_v rfl (val_load rfl rfl (by first | exact ints_get (by omega) | exact lks_a (by omega) | exact lks_b (by omega) | exact lks_c (by omega)))⟩ rfl rfl ?_; rintro _ rfl) | (refine pl_v rfl rfl rfl ⟨val_loadA rfl rfl (by first | exact ints_get (by omega) | exact lks_a (by omega) | exact lks_b (by omega) | exact lks_c (by omega)) (by rfl)⟩ rfl ?_) | (refine pl_e rfl rfl rfl ⟨ef_v rfl (val_loadA rfl rfl (by first | exact ints_get (by omega) | exact lks_a (by omega) | exact lks_b (by omega) | exact lks_c (by omega)) (by rfl))⟩ rfl rfl ?_; rintro _ rfl) | (refine pl_v rfl rfl rfl ⟨val_loadO rfl rfl rfl (by first | exact ints_get (by omega) | exact lks_a (by omega) | exact lks_b (by omega) | exact lks_c (by omega)) (by intro _ _ h; cases h)⟩ rfl ?_) | (refine pl_e rfl rfl rfl ⟨ef_v rfl (val_loadO rfl rfl rfl (by first | exact ints_get (by omega) | exact lks_a (by omega) | exact lks_b (by omega) | exact lks_c (by omega)) (by intro _ _ h; cases h))⟩ rfl rfl ?_; rintro _ rfl) | (refine pl_v rfl rfl rfl ⟨val_loadOA rfl rfl rfl (by first | exact ints_get (by omega) | exact lks_a (by omega) | exact lks_b (by omega) | exact lks_c (by omega)) (by rfl)⟩ rfl ?_) | (refine pl_e rfl rfl rfl ⟨ef_v rfl (val_loadOA rfl rfl rfl (by first | exact ints_get (by omega) | exact lks_a (by omega) | exact lks_b (by omega) | exact lks_c (by omega)) (by rfl))⟩ rfl rfl ?_; rintro _ rfl)); (refine pl_nil ?_); (first | (refine wl_v rfl rfl ⟨bin_neq rfl rfl rfl⟩ rfl ?_) | (refine wl_v rfl rfl ⟨bin_neqB Try.underlying4 rfl rfl rfl⟩ rfl ?_)); (refine wl_nil ?_))
      | (repeat' (first
      | (refine pl_v rfl rfl rfl ⟨val_move rfl rfl⟩ rfl ?_)
      | (refine pl_x rfl rfl rfl rfl ⟨val_move rfl rfl⟩ rfl rfl ?_)
      | (refine pl_e rfl rfl rfl ⟨ef_v rfl (val_move rfl rfl)⟩ rfl rfl ?_; rintro _ rfl)
      | (refine pl_v rfl rfl rfl ⟨idx_N rfl rfl rfl (by omega)⟩ rfl ?_)
      | (refine pl_e rfl rfl rfl ⟨ef_v rfl (idx_N rfl rfl rfl (by omega))⟩ rfl rfl ?_; rintro _ rfl)
      | (refine pl_v rfl rfl rfl ⟨idx_NO rfl rfl rfl (by omega)⟩ rfl ?_)
      | (refine pl_e rfl rfl rfl ⟨ef_v rfl (idx_NO rfl rfl rfl (by omega))⟩ rfl rfl ?_; rintro _ rfl)
      | (refine pl_v rfl rfl rfl ⟨val_loadO rfl rfl rfl rfl (by intro _ _ h; cases h)⟩ rfl ?_)
      | (refine pl_e rfl rfl rfl ⟨ef_v rfl (val_loadO rfl rfl rfl rfl (by intro _ _ h; cases h))⟩ rfl rfl ?_; rintro _ rfl)
      | (refine pl_v rfl rfl rfl ⟨val_loadOA rfl rfl rfl rfl rfl⟩ rfl ?_)
      | (refine pl_e rfl rfl rfl ⟨ef_v rfl (val_loadOA rfl rfl rfl rfl rfl)⟩ rfl rfl ?_; rintro _ rfl)
      | (refine pl_v rfl rfl rfl ⟨val_load rfl rfl rfl⟩ rfl ?_)
      | (refine pl_e rfl rfl rfl ⟨ef_v rfl (val_load rfl rfl rfl)⟩ rfl rfl ?_; rintro _ rfl)
      | (refine pl_v rfl rfl rfl ⟨val_load rfl rfl (by first | exact ints_get (by omega) | exact lks_a (by omega) | exact lks_b (by omega) | exact lks_c (by omega))⟩ rfl ?_)
      | (refine pl_e rfl rfl rfl ⟨ef_v rfl (val_load rfl rfl (by first | exact ints_get (by omega) | exact lks_a (by omega) | exact lks_b (by omega) | exact lks_c (by omega)))⟩ rfl rfl ?_; rintro _ rfl)
      | (refine pl_v rfl rfl rfl ⟨val_loadA rfl rfl (by first | exact ints_get (by omega) | exact lks_a (by omega) | exact lks_b (by omega) | exact lks_c (by omega)) (by rfl)⟩ rfl ?_)
      | (refine pl_e rfl rfl rfl ⟨ef_v rfl (val_loadA rfl rfl (by first | exact ints_get (by omega) | exact lks_a (by omega) | exact lks_b (by omega) | exact lks_c (by omega)) (by rfl))⟩ rfl rfl ?_; rintro _ rfl)
      | (refine pl_v rfl rfl rfl ⟨val_loadO rfl rfl rfl (by first | exact ints_get (by omega) | exact lks_a (by omega) | exact lks_b (by omega) | exact lks_c (by omega)) (by intro _ _ h; cases h)⟩ rfl ?_)
      | (refine pl_e rfl rfl rfl ⟨ef_v rfl (val_loadO rfl rfl rfl (by first | exact ints_get (by omega) | exact lks_a (by omega) | exact lks_b (by omega) | exact lks_c (by omega)) (by intro _ _ h; cases h))⟩ rfl rfl ?_; rintro _ rfl)
      | (refine pl_v rfl rfl rfl ⟨val_loadOA rfl rfl rfl (by first | exact ints_get (by omega) | exact lks_a (by omega) | exact lks_b (by omega) | exact lks_c (by omega)) (by rfl)⟩ rfl ?_)
      | (refine pl_e rfl rfl rfl ⟨ef_v rfl (val_loadOA rfl rfl rfl (by first | exact ints_get (by omega) | exact lks_a (by omega) | exact lks_b (by omega) | exact lks_c (by omega)) (by rfl))⟩ rfl rfl ?_; rintro _ rfl)
      | (refine pl_v rfl rfl rfl ⟨bin_neq rfl rfl rfl⟩ rfl ?_)
      | (refine pl_e rfl rfl rfl ⟨ef_v rfl (bin_neq rfl rfl rfl)⟩ rfl rfl ?_; rintro _ rfl)
      | (refine pl_v rfl rfl rfl ⟨bin_neqB Try.underlying4 rfl rfl rfl⟩ rfl ?_)
      | (refine pl_e rfl rfl rfl ⟨ef_v rfl (bin_neqB Try.underlying4 rfl rfl rfl)⟩ rfl rfl ?_; rintro _ rfl)
      | (refine pl_nil ?_)
      | (refine wl_v rfl rfl ⟨val_move rfl rfl⟩ rfl ?_)
      | (refine wl_v rfl rfl ⟨idx_N rfl rfl rfl (by omega)⟩ rfl ?_)
      | (refine wl_v rfl rfl ⟨idx_NO rfl rfl rfl (by omega)⟩ rfl ?_)
      | (refine wl_v rfl rfl ⟨val_loadO rfl rfl rfl rfl (by intro _ _ h; cases h)⟩ rfl ?_)
      | (refine wl_v rfl rfl ⟨val_loadOA rfl rfl rfl rfl rfl⟩ rfl ?_)
      | (refine wl_v rfl rfl ⟨val_load rfl rfl rfl⟩ rfl ?_)
      | (refine wl_v rfl rfl ⟨val_load rfl rfl (by first | exact ints_get (by omega) | exact lks_a (by omega) | exact lks_b (by omega) | exact lks_c (by omega))⟩ rfl ?_)
      | (refine wl_v rfl rfl ⟨val_loadA rfl rfl (by first | exact ints_get (by omega) | exact lks_a (by omega) | exact lks_b (by omega) | exact lks_c (by omega)) (by rfl)⟩ rfl ?_)
      | (refine wl_v rfl rfl ⟨val_loadO rfl rfl rfl (by first | exact ints_get (by omega) | exact lks_a (by omega) | exact lks_b (by omega) | exact lks_c (by omega)) (by intro _ _ h; cases h)⟩ rfl ?_)
      | (refine wl_v rfl rfl ⟨val_loadOA rfl rfl rfl (by first | exact ints_get (by omega) | exact lks_a (by omega) | exact lks_b (by omega) | exact lks_c (by omega)) (by rfl)⟩ rfl ?_)
      | (refine wl_v rfl rfl ⟨bin_neq rfl rfl rfl⟩ rfl ?_)
      | (refine wl_v rfl rfl ⟨bin_neqB Try.underlying4 rfl rfl rfl⟩ rfl ?_)
      | (refine wl_nil ?_)))))
    | (refine cw_region (id := 7) ?_; (first
      | ((refine wl_v rfl rfl ⟨val_assign rfl rfl⟩ rfl ?_); (refine wl_nil ?_))
      | (repeat' (first
      | (refine wl_v rfl rfl ⟨val_assign rfl rfl⟩ rfl ?_)
      | (refine wl_nil ?_)))))
    | (refine cw_region (id := 8) ?_; (first
      | ((refine wl_v rfl rfl ⟨val_assign rfl rfl⟩ rfl ?_); (refine wl_nil ?_))
      | (repeat' (first
      | (refine wl_v rfl rfl ⟨val_assign rfl rfl⟩ rfl ?_)
      | (refine wl_nil ?_))))))
  · refine end_s (.inr rfl) Try.results22 rfl ⟨im_bool ?_, rfl⟩
    exact (decide_eq_false fun e => by rw [e] at hx; omega).symm
  · have hnm : n = m := by omega
    subst hnm
    refine cw_loop (fun nn st => ∃ k : Nat, k ≤ n ∧ nn = n - k ∧ st = St.mk [(4, .im (.s (.bool false))), (5, .im (iI k)), (0, .im (.sl g (intsI xs) n)), (1, .im (.sl g' (intsI ys) n))] [] ∧ (∀ i, i < k → iz xs i = iz ys i)) ⟨_, _, ⟨0, Nat.zero_le _, rfl, rfl, fun i hi => by omega⟩, (imp_go [] rfl rfl (by decide) (by repeat' (first | exact objs_nil | refine objs_dead ?_ | refine objs_cons rfl rfl (by first | rfl | exact ren_ims _ _) ?_)) (by repeat' (first | exact slots_nil | refine slots_cons rfl ?_)))⟩ ?_
    rintro nn _ ⟨k, hk, rfl, rfl, hf⟩ K hK
    repeat' (first
      | (refine q_then_n ?_)
      | (refine q_go (by assumption) ?_)
      | (refine cw_seq fun K hK => ?_)
      | (refine cw_cond rfl (fun hb => ?_) (fun hb => ?_) <;> ((try simp only [hys] at hb) <;> (try (exfalso; first | exact hb | omega | contradiction; done))))
      | (refine cw_block ?_)
      | (refine cw_exit ?_)
      | (refine q_then_e ?_)
      | (refine q_blk_s ?_)
      | (refine q_blk_o rfl ?_)
      | (refine q_blk_n ?_)
      | (refine cw_ret ?_)
      | (refine q_then_r ?_)
      | (refine q_blk_r ?_)
      | (refine cw_skip ?_)
      | (refine cw_region (id := 0) ?_; (first
        | ((refine wl_v rfl rfl ⟨val_assign rfl rfl⟩ rfl ?_); (refine wl_nil ?_))
        | (repeat' (first
        | (refine wl_v rfl rfl ⟨val_assign rfl rfl⟩ rfl ?_)
        | (refine wl_nil ?_)))))
      | (refine cw_region (id := 1) ?_; (first
        | ((refine wl_v rfl rfl ⟨val_move rfl rfl⟩ rfl ?_); (first | (refine wl_v rfl rfl ⟨len_sl rfl rfl⟩ rfl ?_) | (refine wl_v rfl rfl ⟨len_own rfl rfl⟩ rfl ?_) | (refine wl_v rfl rfl ⟨len_nil rfl rfl⟩ rfl ?_) | (refine wl_v rfl rfl ⟨val_lenS Try.runUnderlying9 rfl rfl⟩ rfl ?_)); (refine wl_v rfl rfl ⟨val_move rfl rfl⟩ rfl ?_); (first | (refine wl_v rfl rfl ⟨len_sl rfl rfl⟩ rfl ?_) | (refine wl_v rfl rfl ⟨len_own rfl rfl⟩ rfl ?_) | (refine wl_v rfl rfl ⟨len_nil rfl rfl⟩ rfl ?_) | (refine wl_v rfl rfl ⟨val_lenS Try.runUnderlying9 rfl rfl⟩ rfl ?_)); (first | (refine wl_v rfl rfl ⟨bin_neq rfl rfl rfl⟩ rfl ?_) | (refine wl_v rfl rfl ⟨bin_neqB Try.underlying4 rfl rfl rfl⟩ rfl ?_)); (refine wl_nil ?_))
        | (repeat' (first
        | (refine wl_v rfl rfl ⟨val_move rfl rfl⟩ rfl ?_)
        | (refine wl_v rfl rfl ⟨len_sl rfl rfl⟩ rfl ?_)
        | (refine wl_v rfl rfl ⟨len_own rfl rfl⟩ rfl ?_)
        | (refine wl_v rfl rfl ⟨len_nil rfl rfl⟩ rfl ?_)
        | (refine wl_v rfl rfl ⟨val_lenS Try.runUnderlying9 rfl rfl⟩ rfl ?_)
        | (refine wl_v rfl rfl ⟨bin_neq rfl rfl rfl⟩ rfl ?_)
        | (refine wl_v rfl rfl ⟨bin_neqB Try.underlying4 rfl rfl rfl⟩ rfl ?_)
        | (refine wl_nil ?_)))))
      | (refine cw_region (id := 2) ?_; (first
        | ((refine wl_v rfl rfl ⟨val_assign rfl rfl⟩ rfl ?_); (refine wl_nil ?_))
        | (repeat' (first
        | (refine wl_v rfl rfl ⟨val_assign rfl rfl⟩ rfl ?_)
        | (refine wl_nil ?_)))))
      | (refine cw_region (id := 3) ?_; (first
        | ((refine wl_v rfl rfl ⟨val_assign rfl rfl⟩ rfl ?_); (refine wl_nil ?_))
        | (repeat' (first
        | (refine wl_v rfl rfl ⟨val_assign rfl rfl⟩ rfl ?_)
        | (refine wl_nil ?_)))))
      | (refine cw_region (id := 4) ?_; (first
        | ((refine wl_v rfl rfl ⟨val_move rfl rfl⟩ rfl ?_); (refine wl_v rfl rfl ⟨val_move rfl rfl⟩ rfl ?_); (first | (refine wl_v rfl rfl ⟨len_sl rfl rfl⟩ rfl ?_) | (refine wl_v rfl rfl ⟨len_own rfl rfl⟩ rfl ?_) | (refine wl_v rfl rfl ⟨len_nil rfl rfl⟩ rfl ?_) | (refine wl_v rfl rfl ⟨val_lenS Try.runUnderlying9 rfl rfl⟩ rfl ?_)); (refine wl_v rfl rfl ⟨bin_lss rfl rfl rfl⟩ rfl ?_); (refine wl_nil ?_))
        | (repeat' (first
        | (refine wl_v rfl rfl ⟨val_move rfl rfl⟩ rfl ?_)
        | (refine wl_v rfl rfl ⟨len_sl rfl rfl⟩ rfl ?_)
        | (refine wl_v rfl rfl ⟨len_own rfl rfl⟩ rfl ?_)
        | (refine wl_v rfl rfl ⟨len_nil rfl rfl⟩ rfl ?_)
        | (refine wl_v rfl rfl ⟨val_lenS Try.runUnderlying9 rfl rfl⟩ rfl ?_)
        | (refine wl_v rfl rfl ⟨bin_lss rfl rfl rfl⟩ rfl ?_)
        | (refine wl_nil ?_)))))
      | (refine cw_region (id := 5) ?_; (first
        | ((refine wl_v rfl rfl ⟨val_move rfl rfl⟩ rfl ?_); (first | (refine wl_v rfl rfl ⟨bin_add rfl rfl rfl (by omega)⟩ rfl ?_) | (refine wl_v rfl rfl ⟨bin_addw rfl rfl rfl⟩ rfl ?_)); (refine wl_v rfl rfl ⟨val_assign rfl rfl⟩ rfl ?_); (refine wl_nil ?_))
        | (repeat' (first
        | (refine wl_v rfl rfl ⟨val_move rfl rfl⟩ rfl ?_)
        | (refine wl_v rfl rfl ⟨bin_add rfl rfl rfl (by omega)⟩ rfl ?_)
        | (refine wl_v rfl rfl ⟨bin_addw rfl rfl rfl⟩ rfl ?_)
        | (refine wl_v rfl rfl ⟨val_assign rfl rfl⟩ rfl ?_)
        | (refine wl_nil ?_)))))
      | (refine cw_plan 6 8 [(0, true), (1, true), (2, true), (3, true), (4, true), (5, true), (6, true), (7, true)] (by kernel_rfl) (by kernel_rfl) ?_; simp only [picked, List.filterMap_cons, List.filterMap_nil, List.getElem?_cons_zero, List.getElem?_cons_succ, Option.map_some, List.drop_succ_cons, List.drop_zero]; (first
        | ((first | (refine pl_v rfl rfl rfl ⟨val_move rfl rfl⟩ rfl ?_) | (refine pl_x rfl rfl rfl rfl ⟨val_move rfl rfl⟩ rfl rfl ?_) | (refine pl_e rfl rfl rfl ⟨ef_v rfl (val_move rfl rfl)⟩ rfl rfl ?_; rintro _ rfl)); (first | (refine pl_v rfl rfl rfl ⟨val_move rfl rfl⟩ rfl ?_) | (refine pl_x rfl rfl rfl rfl ⟨val_move rfl rfl⟩ rfl rfl ?_) | (refine pl_e rfl rfl rfl ⟨ef_v rfl (val_move rfl rfl)⟩ rfl rfl ?_; rintro _ rfl)); (first | (refine pl_v rfl rfl rfl ⟨idx_N rfl rfl rfl (by omega)⟩ rfl ?_) | (refine pl_e rfl rfl rfl ⟨ef_v rfl (idx_N rfl rfl rfl (by omega))⟩ rfl rfl ?_; rintro _ rfl) | (refine pl_v rfl rfl rfl ⟨idx_NO rfl rfl rfl (by omega)⟩ rfl ?_) | (refine pl_e rfl rfl rfl ⟨ef_v rfl (idx_NO rfl rfl rfl (by omega))⟩ rfl rfl ?_; rintro _ rfl)); (first | (refine pl_v rfl rfl rfl ⟨val_loadO rfl rfl rfl rfl (by intro _ _ h; cases h)⟩ rfl ?_) | (refine pl_e rfl rfl rfl ⟨ef_v rfl (val_loadO rfl rfl rfl rfl (by intro _ _ h; cases h))⟩ rfl rfl ?_; rintro _ rfl) | (refine pl_v rfl rfl rfl ⟨val_loadOA rfl rfl rfl rfl rfl⟩ rfl ?_) | (refine pl_e rfl rfl rfl ⟨ef_v rfl (val_loadOA rfl rfl rfl rfl rfl)⟩ rfl rfl ?_; rintro _ rfl) | (refine pl_v rfl rfl rfl ⟨val_load rfl rfl rfl⟩ rfl ?_) | (refine pl_e rfl rfl rfl ⟨ef_v rfl (val_load rfl rfl rfl)⟩ rfl rfl ?_; rintro _ rfl) | (refine pl_v rfl rfl rfl ⟨val_load rfl rfl (by first | exact ints_get (by omega) | exact lks_a (by omega) | exact lks_b (by omega) | exact lks_c (by omega))⟩ rfl ?_) | (refine pl_e rfl rfl rfl ⟨ef_v rfl (val_load rfl rfl (by first | exact ints_get (by omega) | exact lks_a (by omega) | exact lks_b (by omega) | exact lks_c (by omega)))⟩ rfl rfl ?_; rintro _ rfl) | (refine pl_v rfl rfl rfl ⟨val_loadA rfl rfl (by first | exact ints_get (by omega) | exact lks_a (by omega) | exact lks_b (by omega) | exact lks_c (by omega)) (by rfl)⟩ rfl ?_) | (refine pl_e rfl rfl rfl ⟨ef_v rfl (val_loadA rfl rfl (by first | exact ints_get (by omega) | exact lks_a (by omega) | exact lks_b (by omega) | exact lks_c (by omega)) (by rfl))⟩ rfl rfl ?_; rintro _ rfl) | (refine pl_v rfl rfl rfl ⟨val_loadO rfl rfl rfl (by first | exact ints_get (by omega) | exact lks_a (by omega) | exact lks_b (by omega) | exact lks_c (by omega)) (by intro _ _ h; cases h)⟩ rfl ?_) | (refine pl_e rfl rfl rfl ⟨ef_v rfl (val_loadO rfl rfl rfl (by first | exact ints_get (by omega) | exact lks_a (by omega) | exact lks_b (by omega) | exact lks_c (by omega)) (by intro _ _ h; cases h))⟩ rfl rfl ?_; rintro _ rfl) | (refine pl_v rfl rfl rfl ⟨val_loadOA rfl rfl rfl (by first | exact ints_get (by omega) | exact lks_a (by omega) | exact lks_b (by omega) | exact lks_c (by omega)) (by rfl)⟩ rfl ?_) | (refine pl_e rfl rfl rfl ⟨ef_v rfl (val_loadOA rfl rfl rfl (by first | exact ints_get (by omega) | exact lks_a (by omega) | exact lks_b (by omega) | exact lks_c (by omega)) (by rfl))⟩ rfl rfl ?_; rintro _ rfl)); (first | (refine pl_v rfl rfl rfl ⟨val_move rfl rfl⟩ rfl ?_) | (refine pl_x rfl rfl rfl rfl ⟨val_move rfl rfl⟩ rfl rfl ?_) | (refine pl_e rfl rfl rfl ⟨ef_v rfl (val_move rfl rfl)⟩ rfl rfl ?_; rintro _ rfl)); (first | (refine pl_v rfl rfl rfl ⟨val_move rfl rfl⟩ rfl ?_) | (refine pl_x rfl rfl rfl rfl ⟨val_move rfl rfl⟩ rfl rfl ?_) | (refine pl_e rfl rfl rfl ⟨ef_v rfl (val_move rfl rfl)⟩ rfl rfl ?_; rintro _ rfl)); (first | (refine pl_v rfl rfl rfl ⟨idx_N rfl rfl rfl (by omega)⟩ rfl ?_) | (refine pl_e rfl rfl rfl ⟨ef_v rfl (idx_N rfl rfl rfl (by omega))⟩ rfl rfl ?_; rintro _ rfl) | (refine pl_v rfl rfl rfl ⟨idx_NO rfl rfl rfl (by omega)⟩ rfl ?_) | (refine pl_e rfl rfl rfl ⟨ef_v rfl (idx_NO rfl rfl rfl (by omega))⟩ rfl rfl ?_; rintro _ rfl)); (first | (refine pl_v rfl rfl rfl ⟨val_loadO rfl rfl rfl rfl (by intro _ _ h; cases h)⟩ rfl ?_) | (refine pl_e rfl rfl rfl ⟨ef_v rfl (val_loadO rfl rfl rfl rfl (by intro _ _ h; cases h))⟩ rfl rfl ?_; rintro _ rfl) | (refine pl_v rfl rfl rfl ⟨val_loadOA rfl rfl rfl rfl rfl⟩ rfl ?_) | (refine pl_e rfl rfl rfl ⟨ef_v rfl (val_loadOA rfl rfl rfl rfl rfl)⟩ rfl rfl ?_; rintro _ rfl) | (refine pl_v rfl rfl rfl ⟨val_load rfl rfl rfl⟩ rfl ?_) | (refine pl_e rfl rfl rfl ⟨ef_v rfl (val_load rfl rfl rfl)⟩ rfl rfl ?_; rintro _ rfl) | (refine pl_v rfl rfl rfl ⟨val_load rfl rfl (by first | exact ints_get (by omega) | exact lks_a (by omega) | exact lks_b (by omega) | exact lks_c (by omega))⟩ rfl ?_) | (refine pl_e rfl rfl rfl ⟨ef_v rfl (val_load rfl rfl (by first | exact ints_get (by omega) | exact lks_a (by omega) | exact lks_b (by omega) | exact lks_c (by omega)))⟩ rfl rfl ?_; rintro _ rfl) | (refine pl_v rfl rfl rfl ⟨val_loadA rfl rfl (by first | exact ints_get (by omega) | exact lks_a (by omega) | exact lks_b (by omega) | exact lks_c (by omega)) (by rfl)⟩ rfl ?_) | (refine pl_e rfl rfl rfl ⟨ef_v rfl (val_loadA rfl rfl (by first | exact ints_get (by omega) | exact lks_a (by omega) | exact lks_b (by omega) | exact lks_c (by omega)) (by rfl))⟩ rfl rfl ?_; rintro _ rfl) | (refine pl_v rfl rfl rfl ⟨val_loadO rfl rfl rfl (by first | exact ints_get (by omega) | exact lks_a (by omega) | exact lks_b (by omega) | exact lks_c (by omega)) (by intro _ _ h; cases h)⟩ rfl ?_) | (refine pl_e rfl rfl rfl ⟨ef_v rfl (val_loadO rfl rfl rfl (by first | exact ints_get (by omega) | exact lks_a (by omega) | exact lks_b (by omega) | exact lks_c (by omega)) (by intro _ _ h; cases h))⟩ rfl rfl ?_; rintro _ rfl) | (refine pl_v rfl rfl rfl ⟨val_loadOA rfl rfl rfl (by first | exact ints_get (by omega) | exact lks_a (by omega) | exact lks_b (by omega) | exact lks_c (by omega)) (by rfl)⟩ rfl ?_) | (refine pl_e rfl rfl rfl ⟨ef_v rfl (val_loadOA rfl rfl rfl (by first | exact ints_get (by omega) | exact lks_a (by omega) | exact lks_b (by omega) | exact lks_c (by omega)) (by rfl))⟩ rfl rfl ?_; rintro _ rfl)); (refine pl_nil ?_); (first | (refine wl_v rfl rfl ⟨bin_neq rfl rfl rfl⟩ rfl ?_) | (refine wl_v rfl rfl ⟨bin_neqB Try.underlying4 rfl rfl rfl⟩ rfl ?_)); (refine wl_nil ?_))
        | (repeat' (first
        | (refine pl_v rfl rfl rfl ⟨val_move rfl rfl⟩ rfl ?_)
        | (refine pl_x rfl rfl rfl rfl ⟨val_move rfl rfl⟩ rfl rfl ?_)
        | (refine pl_e rfl rfl rfl ⟨ef_v rfl (val_move rfl rfl)⟩ rfl rfl ?_; rintro _ rfl)
        | (refine pl_v rfl rfl rfl ⟨idx_N rfl rfl rfl (by omega)⟩ rfl ?_)
        | (refine pl_e rfl rfl rfl ⟨ef_v rfl (idx_N rfl rfl rfl (by omega))⟩ rfl rfl ?_; rintro _ rfl)
        | (refine pl_v rfl rfl rfl ⟨idx_NO rfl rfl rfl (by omega)⟩ rfl ?_)
        | (refine pl_e rfl rfl rfl ⟨ef_v rfl (idx_NO rfl rfl rfl (by omega))⟩ rfl rfl ?_; rintro _ rfl)
        | (refine pl_v rfl rfl rfl ⟨val_loadO rfl rfl rfl rfl (by intro _ _ h; cases h)⟩ rfl ?_)
        | (refine pl_e rfl rfl rfl ⟨ef_v rfl (val_loadO rfl rfl rfl rfl (by intro _ _ h; cases h))⟩ rfl rfl ?_; rintro _ rfl)
        | (refine pl_v rfl rfl rfl ⟨val_loadOA rfl rfl rfl rfl rfl⟩ rfl ?_)
        | (refine pl_e rfl rfl rfl ⟨ef_v rfl (val_loadOA rfl rfl rfl rfl rfl)⟩ rfl rfl ?_; rintro _ rfl)
        | (refine pl_v rfl rfl rfl ⟨val_load rfl rfl rfl⟩ rfl ?_)
        | (refine pl_e rfl rfl rfl ⟨ef_v rfl (val_load rfl rfl rfl)⟩ rfl rfl ?_; rintro _ rfl)
        | (refine pl_v rfl rfl rfl ⟨val_load rfl rfl (by first | exact ints_get (by omega) | exact lks_a (by omega) | exact lks_b (by omega) | exact lks_c (by omega))⟩ rfl ?_)
        | (refine pl_e rfl rfl rfl ⟨ef_v rfl (val_load rfl rfl (by first | exact ints_get (by omega) | exact lks_a (by omega) | exact lks_b (by omega) | exact lks_c (by omega)))⟩ rfl rfl ?_; rintro _ rfl)
        | (refine pl_v rfl rfl rfl ⟨val_loadA rfl rfl (by first | exact ints_get (by omega) | exact lks_a (by omega) | exact lks_b (by omega) | exact lks_c (by omega)) (by rfl)⟩ rfl ?_)
        | (refine pl_e rfl rfl rfl ⟨ef_v rfl (val_loadA rfl rfl (by first | exact ints_get (by omega) | exact lks_a (by omega) | exact lks_b (by omega) | exact lks_c (by omega)) (by rfl))⟩ rfl rfl ?_; rintro _ rfl)
        | (refine pl_v rfl rfl rfl ⟨val_loadO rfl rfl rfl (by first | exact ints_get (by omega) | exact lks_a (by omega) | exact lks_b (by omega) | exact lks_c (by omega)) (by intro _ _ h; cases h)⟩ rfl ?_)
        | (refine pl_e rfl rfl rfl ⟨ef_v rfl (val_loadO rfl rfl rfl (by first | exact ints_get (by omega) | exact lks_a (by omega) | exact lks_b (by omega) | exact lks_c (by omega)) (by intro _ _ h; cases h))⟩ rfl rfl ?_; rintro _ rfl)
        | (refine pl_v rfl rfl rfl ⟨val_loadOA rfl rfl rfl (by first | exact ints_get (by omega) | exact lks_a (by omega) | exact lks_b (by omega) | exact lks_c (by omega)) (by rfl)⟩ rfl ?_)
        | (refine pl_e rfl rfl rfl ⟨ef_v rfl (val_loadOA rfl rfl rfl (by first | exact ints_get (by omega) | exact lks_a (by omega) | exact lks_b (by omega) | exact lks_c (by omega)) (by rfl))⟩ rfl rfl ?_; rintro _ rfl)
        | (refine pl_v rfl rfl rfl ⟨bin_neq rfl rfl rfl⟩ rfl ?_)
        | (refine pl_e rfl rfl rfl ⟨ef_v rfl (bin_neq rfl rfl rfl)⟩ rfl rfl ?_; rintro _ rfl)
        | (refine pl_v rfl rfl rfl ⟨bin_neqB Try.underlying4 rfl rfl rfl⟩ rfl ?_)
        | (refine pl_e rfl rfl rfl ⟨ef_v rfl (bin_neqB Try.underlying4 rfl rfl rfl)⟩ rfl rfl ?_; rintro _ rfl)
        | (refine pl_nil ?_)
        | (refine wl_v rfl rfl ⟨val_move rfl rfl⟩ rfl ?_)
        | (refine wl_v rfl rfl ⟨idx_N rfl rfl rfl (by omega)⟩ rfl ?_)
        | (refine wl_v rfl rfl ⟨idx_NO rfl rfl rfl (by omega)⟩ rfl ?_)
        | (refine wl_v rfl rfl ⟨val_loadO rfl rfl rfl rfl (by intro _ _ h; cases h)⟩ rfl ?_)
        | (refine wl_v rfl rfl ⟨val_loadOA rfl rfl rfl rfl rfl⟩ rfl ?_)
        | (refine wl_v rfl rfl ⟨val_load rfl rfl rfl⟩ rfl ?_)
        | (refine wl_v rfl rfl ⟨val_load rfl rfl (by first | exact ints_get (by omega) | exact lks_a (by omega) | exact lks_b (by omega) | exact lks_c (by omega))⟩ rfl ?_)
        | (refine wl_v rfl rfl ⟨val_loadA rfl rfl (by first | exact ints_get (by omega) | exact lks_a (by omega) | exact lks_b (by omega) | exact lks_c (by omega)) (by rfl)⟩ rfl ?_)
        | (refine wl_v rfl rfl ⟨val_loadO rfl rfl rfl (by first | exact ints_get (by omega) | exact lks_a (by omega) | exact lks_b (by omega) | exact lks_c (by omega)) (by intro _ _ h; cases h)⟩ rfl ?_)
        | (refine wl_v rfl rfl ⟨val_loadOA rfl rfl rfl (by first | exact ints_get (by omega) | exact lks_a (by omega) | exact lks_b (by omega) | exact lks_c (by omega)) (by rfl)⟩ rfl ?_)
        | (refine wl_v rfl rfl ⟨bin_neq rfl rfl rfl⟩ rfl ?_)
        | (refine wl_v rfl rfl ⟨bin_neqB Try.underlying4 rfl rfl rfl⟩ rfl ?_)
        | (refine wl_nil ?_)))))
      | (refine cw_region (id := 7) ?_; (first
        | ((refine wl_v rfl rfl ⟨val_assign rfl rfl⟩ rfl ?_); (refine wl_nil ?_))
        | (repeat' (first
        | (refine wl_v rfl rfl ⟨val_assign rfl rfl⟩ rfl ?_)
        | (refine wl_nil ?_)))))
      | (refine cw_region (id := 8) ?_; (first
        | ((refine wl_v rfl rfl ⟨val_assign rfl rfl⟩ rfl ?_); (refine wl_nil ?_))
        | (repeat' (first
        | (refine wl_v rfl rfl ⟨val_assign rfl rfl⟩ rfl ?_)
        | (refine wl_nil ?_))))))
    · refine end_s (.inr rfl) Try.results22 rfl ⟨im_bool ?_, rfl⟩
      have hb' : ¬ (iz xs k = iz ys k) := by assumption
      exact (decide_eq_false fun e => hb' (by subst e; rfl)).symm
    · have he : ¬ ¬ (iz xs k = iz ys k) := by assumption
      exact ⟨_, _, by omega, ⟨k + 1, by omega, rfl, rfl, fun i hi => by
              by_cases e : i < k
              · exact hf i e
              · obtain rfl : i = k := by omega
                omega⟩, (imp_go [] rfl rfl (by decide) (by repeat' (first | exact objs_nil | refine objs_dead ?_ | refine objs_cons rfl rfl (by first | rfl | exact ren_ims _ _) ?_)) (by repeat' (first | exact slots_nil | refine slots_cons rfl ?_)))⟩
    · refine end_s (.inr rfl) Try.results22 rfl ⟨im_bool ?_, rfl⟩
      obtain rfl : k = n := by omega
      exact (decide_eq_true (iz_all (hx.trans hy.symm) fun i hi => hf i (by omega))).symm
set_option maxHeartbeats 4000000 in
theorem a_eqGraph (g g' : Bool) (xs ys : List Lk) (p q : Int) (n m : Nat) (hx : xs.length = n) (hy : ys.length = m) (hn : n ≤ 16777216) : AC Try.prog 21 [.agg [.im (iI p), .im (.sl g (lksI xs) n)], .agg [.im (iI q), .im (.sl g' (lksI ys) m)]] (fun d h => d = .im (.s (.bool (decide (p = q ∧ xs = ys)))) ∧ h = []) := by
  refine ac_go Try.func21 rfl Try.ntmps21 rfl ?_
  simp only [nums]
  repeat' (first
    | (refine q_then_n ?_)
    | (refine q_go (by assumption) ?_)
    | (refine cw_seq fun K hK => ?_)
    | (refine cw_cond rfl (fun hb => ?_) (fun hb => ?_) <;> ((try simp only [hys] at hb) <;> (try (exfalso; first | exact hb | omega | contradiction; done))))
    | (refine cw_block ?_)
    | (refine cw_exit ?_)
    | (refine q_then_e ?_)
    | (refine q_blk_s ?_)
    | (refine q_blk_o rfl ?_)
    | (refine q_blk_n ?_)
    | (refine cw_ret ?_)
    | (refine q_then_r ?_)
    | (refine q_blk_r ?_)
    | (refine cw_skip ?_)
    | (refine cw_region (id := 0) ?_; (first
      | ((refine wl_e rfl rfl ⟨ef_box rfl rfl rfl rfl⟩ rfl ?_; rintro _ rfl; (try simp only [axh])); (refine wl_e rfl rfl ⟨ef_box rfl rfl rfl rfl⟩ rfl ?_; rintro _ rfl; (try simp only [axh])); (refine wl_v rfl rfl ⟨val_assign rfl rfl⟩ rfl ?_); (refine wl_nil ?_))
      | (repeat' (first
      | (refine wl_e rfl rfl ⟨ef_box rfl rfl rfl rfl⟩ rfl ?_; rintro _ rfl; (try simp only [axh]))
      | (refine wl_v rfl rfl ⟨val_assign rfl rfl⟩ rfl ?_)
      | (refine wl_nil ?_)))))
    | (refine cw_region (id := 1) ?_; (first
      | ((first | (refine wl_v rfl rfl ⟨val_fieldAddr rfl rfl⟩ rfl ?_) | (refine wl_v rfl rfl ⟨val_fieldAddr' rfl rfl⟩ rfl ?_)); (first | (refine wl_v rfl rfl ⟨val_loadO rfl rfl rfl rfl (by intro _ _ h; cases h)⟩ rfl ?_) | (refine wl_v rfl rfl ⟨val_loadOA rfl rfl rfl rfl rfl⟩ rfl ?_) | (refine wl_v rfl rfl ⟨val_load rfl rfl rfl⟩ rfl ?_) | (refine wl_v rfl rfl ⟨val_load rfl rfl (by first | exact ints_get (by omega) | exact lks_a (by omega) | exact lks_b (by omega) | exact lks_c (by omega))⟩ rfl ?_) | (refine wl_v rfl rfl ⟨val_loadA rfl rfl (by first | exact ints_get (by omega) | exact lks_a (by omega) | exact lks_b (by omega) | exact lks_c (by omega)) (by rfl)⟩ rfl ?_) | (refine wl_v rfl rfl ⟨val_loadO rfl rfl rfl (by first | exact ints_get (by omega) | exact lks_a (by omega) | exact lks_b (by omega) | exact lks_c (by omega)) (by intro _ _ h; cases h)⟩ rfl ?_) | (refine wl_v rfl rfl ⟨val_loadOA rfl rfl rfl (by first | exact ints_get (by omega) | exact lks_a (by omega) | exact lks_b (by omega) | exact lks_c (by omega)) (by rfl)⟩ rfl ?_)); (first | (refine wl_v rfl rfl ⟨val_fieldAddr rfl rfl⟩ rfl ?_) | (refine wl_v rfl rfl ⟨val_fieldAddr' rfl rfl⟩ rfl ?_)); (first | (refine wl_v rfl rfl ⟨val_loadO rfl rfl rfl rfl (by intro _ _ h; cases h)⟩ rfl ?_) | (refine wl_v rfl rfl ⟨val_loadOA rfl rfl rfl rfl rfl⟩ rfl ?_) | (refine wl_v rfl rfl ⟨val_load rfl rfl rfl⟩ rfl ?_) | (refine wl_v rfl rfl ⟨val_load rfl rfl (by first | exact ints_get (by omega) | exact lks_a (by omega) | exact lks_b (by omega) | exact lks_c (by omega))⟩ rfl ?_) | (refine wl_v rfl rfl ⟨val_loadA rfl rfl (by first | exact ints_get (by omega) | exact lks_a (by omega) | exact lks_b (by omega) | exact lks_c (by omega)) (by rfl)⟩ rfl ?_) | (refine wl_v rfl rfl ⟨val_loadO rfl rfl rfl (by first | exact ints_get (by omega) | exact lks_a (by omega) | exact lks_b (by omega) | exact lks_c (by omega)) (by intro _ _ h; cases h)⟩ rfl ?_) | (refine wl_v rfl rfl ⟨val_loadOA rfl rfl rfl (by first | exact ints_get (by omega) | exact lks_a (by omega) | exact lks_b (by omega) | exact lks_c (by omega)) (by rfl)⟩ rfl ?_)); (first | (refine wl_v rfl rfl ⟨bin_neq rfl rfl rfl⟩ rfl ?_) | (refine wl_v rfl rfl ⟨bin_neqB Try.underlying4 rfl rfl rfl⟩ rfl ?_)); (refine wl_nil ?_))
      | (repeat' (first
      | (refine wl_v rfl rfl ⟨val_fieldAddr rfl rfl⟩ rfl ?_)
      | (refine wl_v rfl rfl ⟨val_fieldAddr' rfl rfl⟩ rfl ?_)
      | (refine wl_v rfl rfl ⟨val_loadO rfl rfl rfl rfl (by intro _ _ h; cases h)⟩ rfl ?_)
      | (refine wl_v rfl rfl ⟨val_loadOA rfl rfl rfl rfl rfl⟩ rfl ?_)
      | (refine wl_v rfl rfl ⟨val_load rfl rfl rfl⟩ rfl ?_)
      | (refine wl_v rfl rfl ⟨val_load rfl rfl (by first | exact ints_get (by omega) | exact lks_a (by omega) | exact lks_b (by omega) | exact lks_c (by omega))⟩ rfl ?_)
      | (refine wl_v rfl rfl ⟨val_loadA rfl rfl (by first | exact ints_get (by omega) | exact lks_a (by omega) | exact lks_b (by omega) | exact lks_c (by omega)) (by rfl)⟩ rfl ?_)
      | (refine wl_v rfl rfl ⟨val_loadO rfl rfl rfl (by first | exact ints_get (by omega) | exact lks_a (by omega) | exact lks_b (by omega) | exact lks_c (by omega)) (by intro _ _ h; cases h)⟩ rfl ?_)
      | (refine wl_v rfl rfl ⟨val_loadOA rfl rfl rfl (by first | exact ints_get (by omega) | exact lks_a (by omega) | exact lks_b (by omega) | exact lks_c (by omega)) (by rfl)⟩ rfl ?_)
      | (refine wl_v rfl rfl ⟨bin_neq rfl rfl rfl⟩ rfl ?_)
      | (refine wl_v rfl rfl ⟨bin_neqB Try.underlying4 rfl rfl rfl⟩ rfl ?_)
      | (refine wl_nil ?_)))))
    | (refine cw_region (id := 2) ?_; (first
      | ((refine wl_v rfl rfl ⟨val_assign rfl rfl⟩ rfl ?_); (refine wl_nil ?_))
      | (repeat' (first
      | (refine wl_v rfl rfl ⟨val_assign rfl rfl⟩ rfl ?_)
      | (refine wl_nil ?_)))))
    | (refine cw_region (id := 3) ?_; (first
      | ((first | (refine wl_v rfl rfl ⟨val_fieldAddr rfl rfl⟩ rfl ?_) | (refine wl_v rfl rfl ⟨val_fieldAddr' rfl rfl⟩ rfl ?_)); (first | (refine wl_v rfl rfl ⟨val_loadO rfl rfl rfl rfl (by intro _ _ h; cases h)⟩ rfl ?_) | (refine wl_v rfl rfl ⟨val_loadOA rfl rfl rfl rfl rfl⟩ rfl ?_) | (refine wl_v rfl rfl ⟨val_load rfl rfl rfl⟩ rfl ?_) | (refine wl_v rfl rfl ⟨val_load rfl rfl (by first | exact ints_get (by omega) | exact lks_a (by omega) | exact lks_b (by omega) | exact lks_c (by omega))⟩ rfl ?_) | (refine wl_v rfl rfl ⟨val_loadA rfl rfl (by first | exact ints_get (by omega) | exact lks_a (by omega) | exact lks_b (by omega) | exact lks_c (by omega)) (by rfl)⟩ rfl ?_) | (refine wl_v rfl rfl ⟨val_loadO rfl rfl rfl (by first | exact ints_get (by omega) | exact lks_a (by omega) | exact lks_b (by omega) | exact lks_c (by omega)) (by intro _ _ h; cases h)⟩ rfl ?_) | (refine wl_v rfl rfl ⟨val_loadOA rfl rfl rfl (by first | exact ints_get (by omega) | exact lks_a (by omega) | exact lks_b (by omega) | exact lks_c (by omega)) (by rfl)⟩ rfl ?_)); (first | (refine wl_v rfl rfl ⟨val_fieldAddr rfl rfl⟩ rfl ?_) | (refine wl_v rfl rfl ⟨val_fieldAddr' rfl rfl⟩ rfl ?_)); (first | (refine wl_v rfl rfl ⟨val_loadO rfl rfl rfl rfl (by intro _ _ h; cases h)⟩ rfl ?_) | (refine wl_v rfl rfl ⟨val_loadOA rfl rfl rfl rfl rfl⟩ rfl ?_) | (refine wl_v rfl rfl ⟨val_load rfl rfl rfl⟩ rfl ?_) | (refine wl_v rfl rfl ⟨val_load rfl rfl (by first | exact ints_get (by omega) | exact lks_a (by omega) | exact lks_b (by omega) | exact lks_c (by omega))⟩ rfl ?_) | (refine wl_v rfl rfl ⟨val_loadA rfl rfl (by first | exact ints_get (by omega) | exact lks_a (by omega) | exact lks_b (by omega) | exact lks_c (by omega)) (by rfl)⟩ rfl ?_) | (refine wl_v rfl rfl ⟨val_loadO rfl rfl rfl (by first | exact ints_get (by omega) | exact lks_a (by omega) | exact lks_b (by omega) | exact lks_c (by omega)) (by intro _ _ h; cases h)⟩ rfl ?_) | (refine wl_v rfl rfl ⟨val_loadOA rfl rfl rfl (by first | exact ints_get (by omega) | exact lks_a (by omega) | exact lks_b (by omega) | exact lks_c (by omega)) (by rfl)⟩ rfl ?_)); (refine wl_e rfl rfl ⟨ef_call rfl rfl (a_eqLinkS _ _ xs ys n m hx hy hn) (by repeat (first | exact F2.nil | refine F2.cons ⟨_, rfl, ?_⟩ ?_ | refine F2.cons ?_ ?_ | exact fz_s | exact fz_sl (by first | rfl | exact ages_ints _ | exact ages_lks _) | exact fz_own rfl (by decide) (by first | rfl | exact Nat.le_of_ble_eq_true rfl | (simp only [axl]; omega)) (by first | rfl | exact ages_ints _ | exact ages_lks _) | refine fz_agg ?_ | refine fz_fn ?_ | exact fz1_s | exact fz1_sl (by first | rfl | exact ages_ints _ | exact ages_lks _) | exact fz1_ptr rfl | exact fz1_at rfl | exact fz1_own rfl (by decide) (by first | rfl | exact Nat.le_of_ble_eq_true rfl | (simp only [axl]; omega)) (by first | rfl | exact ages_ints _ | exact ages_lks _)))⟩ rfl ?_; rintro _ ⟨_, _, ⟨rfl, rfl⟩, rfl⟩; (try simp only [axh])); (refine wl_v rfl rfl ⟨un_not rfl rfl⟩ rfl ?_); (refine wl_nil ?_))
      | (repeat' (first
      | (refine wl_v rfl rfl ⟨val_fieldAddr rfl rfl⟩ rfl ?_)
      | (refine wl_v rfl rfl ⟨val_fieldAddr' rfl rfl⟩ rfl ?_)
      | (refine wl_v rfl rfl ⟨val_loadO rfl rfl rfl rfl (by intro _ _ h; cases h)⟩ rfl ?_)
      | (refine wl_v rfl rfl ⟨val_loadOA rfl rfl rfl rfl rfl⟩ rfl ?_)
      | (refine wl_v rfl rfl ⟨val_load rfl rfl rfl⟩ rfl ?_)
      | (refine wl_v rfl rfl ⟨val_load rfl rfl (by first | exact ints_get (by omega) | exact lks_a (by omega) | exact lks_b (by omega) | exact lks_c (by omega))⟩ rfl ?_)
      | (refine wl_v rfl rfl ⟨val_loadA rfl rfl (by first | exact ints_get (by omega) | exact lks_a (by omega) | exact lks_b (by omega) | exact lks_c (by omega)) (by rfl)⟩ rfl ?_)
      | (refine wl_v rfl rfl ⟨val_loadO rfl rfl rfl (by first | exact ints_get (by omega) | exact lks_a (by omega) | exact lks_b (by omega) | exact lks_c (by omega)) (by intro _ _ h; cases h)⟩ rfl ?_)
      | (refine wl_v rfl rfl ⟨val_loadOA rfl rfl rfl (by first | exact ints_get (by omega) | exact lks_a (by omega) | exact lks_b (by omega) | exact lks_c (by omega)) (by rfl)⟩ rfl ?_)
      | (refine wl_e rfl rfl ⟨ef_call rfl rfl (a_eqLinkS _ _ xs ys n m hx hy hn) (by repeat (first | exact F2.nil | refine F2.cons ⟨_, rfl, ?_⟩ ?_ | refine F2.cons ?_ ?_ | exact fz_s | exact fz_sl (by first | rfl | exact ages_ints _ | exact ages_lks _) | exact fz_own rfl (by decide) (by first | rfl | exact Nat.le_of_ble_eq_true rfl | (simp only [axl]; omega)) (by first | rfl | exact ages_ints _ | exact ages_lks _) | refine fz_agg ?_ | refine fz_fn ?_ | exact fz1_s | exact fz1_sl (by first | rfl | exact ages_ints _ | exact ages_lks _) | exact fz1_ptr rfl | exact fz1_at rfl | exact fz1_own rfl (by decide) (by first | rfl | exact Nat.le_of_ble_eq_true rfl | (simp only [axl]; omega)) (by first | rfl | exact ages_ints _ | exact ages_lks _)))⟩ rfl ?_; rintro _ ⟨_, _, ⟨rfl, rfl⟩, rfl⟩; (try simp only [axh]))
      | (refine wl_v rfl rfl ⟨un_not rfl rfl⟩ rfl ?_)
      | (refine wl_nil ?_)))))
    | (refine cw_region (id := 4) ?_; (first
      | ((refine wl_v rfl rfl ⟨val_assign rfl rfl⟩ rfl ?_); (refine wl_nil ?_))
      | (repeat' (first
      | (refine wl_v rfl rfl ⟨val_assign rfl rfl⟩ rfl ?_)
      | (refine wl_nil ?_)))))
    | (refine cw_region (id := 5) ?_; (first
      | ((refine wl_v rfl rfl ⟨val_assign rfl rfl⟩ rfl ?_); (refine wl_nil ?_))
      | (repeat' (first
      | (refine wl_v rfl rfl ⟨val_assign rfl rfl⟩ rfl ?_)
      | (refine wl_nil ?_))))))
  all_goals
    refine end_s (.inr rfl) Try.results21 rfl ⟨im_bool ?_, rfl⟩
    first | exact (decide_eq_false (fun ⟨h1, h2⟩ => by simp_all)).symm | exact (decide_eq_true (by simp_all)).symm
set_option maxHeartbeats 4000000 in
theorem a_szLinkS (g : Bool) (xs : List IV) (n : Nat) (l : Int) (hl : 0 ≤ l ∧ l ≤ 1000000000) (hn : n ≤ 9223372036854775807) : AC Try.prog 39 [.im (.sl g xs n), .im (iI l)] (fun d h => d = .im (iI (if l - n < 0 then -1 else l - n)) ∧ h = []) := by
  have h1 : -9223372036854775808 ≤ l - (n : Int) := by omega
  refine ac_go Try.func39 rfl Try.ntmps39 rfl ?_
  simp only [nums]
  repeat' (first
    | (refine q_then_n ?_)
    | (refine q_go (by assumption) ?_)
    | (refine cw_seq fun K hK => ?_)
    | (refine cw_cond rfl (fun hb => ?_) (fun hb => ?_) <;> ((try simp only [hys] at hb) <;> (try (exfalso; first | exact hb | omega | contradiction; done))))
    | (refine cw_block ?_)
    | (refine cw_exit ?_)
    | (refine q_then_e ?_)
    | (refine q_blk_s ?_)
    | (refine q_blk_o rfl ?_)
    | (refine q_blk_n ?_)
    | (refine cw_ret ?_)
    | (refine q_then_r ?_)
    | (refine q_blk_r ?_)
    | (refine cw_skip ?_)
    | (refine cw_region (id := 0) ?_; (first
      | ((refine wl_v rfl rfl ⟨val_assign rfl rfl⟩ rfl ?_); (refine wl_nil ?_))
      | (repeat' (first
      | (refine wl_v rfl rfl ⟨val_assign rfl rfl⟩ rfl ?_)
      | (refine wl_nil ?_)))))
    | (refine cw_region (id := 1) ?_; (first
      | ((refine wl_v rfl rfl ⟨val_move rfl rfl⟩ rfl ?_); (refine wl_v rfl rfl ⟨val_move rfl rfl⟩ rfl ?_); (first | (refine wl_v rfl rfl ⟨len_sl rfl rfl⟩ rfl ?_) | (refine wl_v rfl rfl ⟨len_own rfl rfl⟩ rfl ?_) | (refine wl_v rfl rfl ⟨len_nil rfl rfl⟩ rfl ?_) | (refine wl_v rfl rfl ⟨val_lenS Try.runUnderlying9 rfl rfl⟩ rfl ?_)); (first | (refine wl_v rfl rfl ⟨bin_sub rfl rfl rfl (by omega)⟩ rfl ?_) | (refine wl_v rfl rfl ⟨bin_subw rfl rfl rfl⟩ rfl ?_)); (refine wl_v rfl rfl ⟨val_assign rfl rfl⟩ rfl ?_); (refine wl_nil ?_))
      | (repeat' (first
      | (refine wl_v rfl rfl ⟨val_move rfl rfl⟩ rfl ?_)
      | (refine wl_v rfl rfl ⟨len_sl rfl rfl⟩ rfl ?_)
      | (refine wl_v rfl rfl ⟨len_own rfl rfl⟩ rfl ?_)
      | (refine wl_v rfl rfl ⟨len_nil rfl rfl⟩ rfl ?_)
      | (refine wl_v rfl rfl ⟨val_lenS Try.runUnderlying9 rfl rfl⟩ rfl ?_)
      | (refine wl_v rfl rfl ⟨bin_sub rfl rfl rfl (by omega)⟩ rfl ?_)
      | (refine wl_v rfl rfl ⟨bin_subw rfl rfl rfl⟩ rfl ?_)
      | (refine wl_v rfl rfl ⟨val_assign rfl rfl⟩ rfl ?_)
      | (refine wl_nil ?_)))))
    | (refine cw_region (id := 2) ?_; (first
      | ((refine wl_v rfl rfl ⟨val_move rfl rfl⟩ rfl ?_); (refine wl_v rfl rfl ⟨bin_lss rfl rfl rfl⟩ rfl ?_); (refine wl_nil ?_))
      | (repeat' (first
      | (refine wl_v rfl rfl ⟨val_move rfl rfl⟩ rfl ?_)
      | (refine wl_v rfl rfl ⟨bin_lss rfl rfl rfl⟩ rfl ?_)
      | (refine wl_nil ?_)))))
    | (refine cw_region (id := 3) ?_; (first
      | ((refine wl_v rfl rfl ⟨val_assign rfl rfl⟩ rfl ?_); (refine wl_nil ?_))
      | (repeat' (first
      | (refine wl_v rfl rfl ⟨val_assign rfl rfl⟩ rfl ?_)
      | (refine wl_nil ?_)))))
    | (refine cw_region (id := 4) ?_; (first
      | ((refine wl_v rfl rfl ⟨val_move rfl rfl⟩ rfl ?_); (refine wl_v rfl rfl ⟨val_assign rfl rfl⟩ rfl ?_); (refine wl_nil ?_))
      | (repeat' (first
      | (refine wl_v rfl rfl ⟨val_move rfl rfl⟩ rfl ?_)
      | (refine wl_v rfl rfl ⟨val_assign rfl rfl⟩ rfl ?_)
      | (refine wl_nil ?_))))))
  all_goals
    refine end_s (.inr rfl) Try.results39 rfl ⟨im_int ?_, rfl⟩
    first | rw [if_pos (by omega)] | rw [if_neg (by omega)]
set_option maxHeartbeats 4000000 in
theorem a_szGraph (g : Bool) (xs : List IV) (n : Nat) (p l : Int) (hl : 0 ≤ l ∧ l ≤ 1000000000) (hn : n ≤ 9223372036854775807) : AC Try.prog 16 [.agg [.im (iI p), .im (.sl g xs n)], .im (iI l)] (fun d h => d = .im (iI (if l - n < 0 then -1 else l - n)) ∧ h = []) := by
  refine ac_go Try.func16 rfl Try.ntmps16 rfl ?_
  simp only [nums]
  repeat' (first
    | (refine q_then_n ?_)
    | (refine q_go (by assumption) ?_)
    | (refine cw_seq fun K hK => ?_)
    | (refine cw_cond rfl (fun hb => ?_) (fun hb => ?_) <;> ((try simp only [hys] at hb) <;> (try (exfalso; first | exact hb | omega | contradiction; done))))
    | (refine cw_block ?_)
    | (refine cw_exit ?_)
    | (refine q_then_e ?_)
    | (refine q_blk_s ?_)
    | (refine q_blk_o rfl ?_)
    | (refine q_blk_n ?_)
    | (refine cw_ret ?_)
    | (refine q_then_r ?_)
    | (refine q_blk_r ?_)
    | (refine cw_skip ?_)
    | (refine cw_region (id := 0) ?_; (first
      | ((refine wl_e rfl rfl ⟨ef_box rfl rfl rfl rfl⟩ rfl ?_; rintro _ rfl; (try simp only [axh])); (refine wl_v rfl rfl ⟨val_assign rfl rfl⟩ rfl ?_); (refine wl_nil ?_))
      | (repeat' (first
      | (refine wl_e rfl rfl ⟨ef_box rfl rfl rfl rfl⟩ rfl ?_; rintro _ rfl; (try simp only [axh]))
      | (refine wl_v rfl rfl ⟨val_assign rfl rfl⟩ rfl ?_)
      | (refine wl_nil ?_)))))
    | (refine cw_region (id := 1) ?_; (first
      | ((first | (refine wl_v rfl rfl ⟨val_fieldAddr rfl rfl⟩ rfl ?_) | (refine wl_v rfl rfl ⟨val_fieldAddr' rfl rfl⟩ rfl ?_)); (first | (refine wl_v rfl rfl ⟨val_loadO rfl rfl rfl rfl (by intro _ _ h; cases h)⟩ rfl ?_) | (refine wl_v rfl rfl ⟨val_loadOA rfl rfl rfl rfl rfl⟩ rfl ?_) | (refine wl_v rfl rfl ⟨val_load rfl rfl rfl⟩ rfl ?_) | (refine wl_v rfl rfl ⟨val_load rfl rfl (by first | exact ints_get (by omega) | exact lks_a (by omega) | exact lks_b (by omega) | exact lks_c (by omega))⟩ rfl ?_) | (refine wl_v rfl rfl ⟨val_loadA rfl rfl (by first | exact ints_get (by omega) | exact lks_a (by omega) | exact lks_b (by omega) | exact lks_c (by omega)) (by rfl)⟩ rfl ?_) | (refine wl_v rfl rfl ⟨val_loadO rfl rfl rfl (by first | exact ints_get (by omega) | exact lks_a (by omega) | exact lks_b (by omega) | exact lks_c (by omega)) (by intro _ _ h; cases h)⟩ rfl ?_) | (refine wl_v rfl rfl ⟨val_loadOA rfl rfl rfl (by first | exact ints_get (by omega) | exact lks_a (by omega) | exact lks_b (by omega) | exact lks_c (by omega)) (by rfl)⟩ rfl ?_)); (refine wl_v rfl rfl ⟨val_move rfl rfl⟩ rfl ?_); (refine wl_e rfl rfl ⟨ef_call rfl rfl (a_szLinkS false (ages xs) n l hl hn) (by repeat (first | exact F2.nil | refine F2.cons ⟨_, rfl, ?_⟩ ?_ | refine F2.cons ?_ ?_ | exact fz_s | exact fz_sl (by first | rfl | exact ages_ints _ | exact ages_lks _) | exact fz_own rfl (by decide) (by first | rfl | exact Nat.le_of_ble_eq_true rfl | (simp only [axl]; omega)) (by first | rfl | exact ages_ints _ | exact ages_lks _) | refine fz_agg ?_ | refine fz_fn ?_ | exact fz1_s | exact fz1_sl (by first | rfl | exact ages_ints _ | exact ages_lks _) | exact fz1_ptr rfl | exact fz1_at rfl | exact fz1_own rfl (by decide) (by first | rfl | exact Nat.le_of_ble_eq_true rfl | (simp only [axl]; omega)) (by first | rfl | exact ages_ints _ | exact ages_lks _)))⟩ rfl ?_; rintro _ ⟨_, _, ⟨rfl, rfl⟩, rfl⟩; (try simp only [axh])); (refine wl_v rfl rfl ⟨val_assign rfl rfl⟩ rfl ?_); (refine wl_nil ?_))
      | (repeat' (first
      | (refine wl_v rfl rfl ⟨val_fieldAddr rfl rfl⟩ rfl ?_)
      | (refine wl_v rfl rfl ⟨val_fieldAddr' rfl rfl⟩ rfl ?_)
      | (refine wl_v rfl rfl ⟨val_loadO rfl rfl rfl rfl (by intro _ _ h; cases h)⟩ rfl ?_)
      | (refine wl_v rfl rfl ⟨val_loadOA rfl rfl rfl rfl rfl⟩ rfl ?_)
      | (refine wl_v rfl rfl ⟨val_load rfl rfl rfl⟩ rfl ?_)
      | (refine wl_v rfl rfl ⟨val_load rfl rfl (by first | exact ints_get (by omega) | exact lks_a (by omega) | exact lks_b (by omega) | exact lks_c (by omega))⟩ rfl ?_)
      | (refine wl_v rfl rfl ⟨val_loadA rfl rfl (by first | exact ints_get (by omega) | exact lks_a (by omega) | exact lks_b (by omega) | exact lks_c (by omega)) (by rfl)⟩ rfl ?_)
      | (refine wl_v rfl rfl ⟨val_loadO rfl rfl rfl (by first | exact ints_get (by omega) | exact lks_a (by omega) | exact lks_b (by omega) | exact lks_c (by omega)) (by intro _ _ h; cases h)⟩ rfl ?_)
      | (refine wl_v rfl rfl ⟨val_loadOA rfl rfl rfl (by first | exact ints_get (by omega) | exact lks_a (by omega) | exact lks_b (by omega) | exact lks_c (by omega)) (by rfl)⟩ rfl ?_)
      | (refine wl_v rfl rfl ⟨val_move rfl rfl⟩ rfl ?_)
      | (refine wl_e rfl rfl ⟨ef_call rfl rfl (a_szLinkS false (ages xs) n l hl hn) (by repeat (first | exact F2.nil | refine F2.cons ⟨_, rfl, ?_⟩ ?_ | refine F2.cons ?_ ?_ | exact fz_s | exact fz_sl (by first | rfl | exact ages_ints _ | exact ages_lks _) | exact fz_own rfl (by decide) (by first | rfl | exact Nat.le_of_ble_eq_true rfl | (simp only [axl]; omega)) (by first | rfl | exact ages_ints _ | exact ages_lks _) | refine fz_agg ?_ | refine fz_fn ?_ | exact fz1_s | exact fz1_sl (by first | rfl | exact ages_ints _ | exact ages_lks _) | exact fz1_ptr rfl | exact fz1_at rfl | exact fz1_own rfl (by decide) (by first | rfl | exact Nat.le_of_ble_eq_true rfl | (simp only [axl]; omega)) (by first | rfl | exact ages_ints _ | exact ages_lks _)))⟩ rfl ?_; rintro _ ⟨_, _, ⟨rfl, rfl⟩, rfl⟩; (try simp only [axh]))
      | (refine wl_v rfl rfl ⟨val_assign rfl rfl⟩ rfl ?_)
      | (refine wl_nil ?_)))))
    | (refine cw_region (id := 2) ?_; (first
      | ((refine wl_v rfl rfl ⟨val_move rfl rfl⟩ rfl ?_); (refine wl_v rfl rfl ⟨bin_lss rfl rfl rfl⟩ rfl ?_); (refine wl_nil ?_))
      | (repeat' (first
      | (refine wl_v rfl rfl ⟨val_move rfl rfl⟩ rfl ?_)
      | (refine wl_v rfl rfl ⟨bin_lss rfl rfl rfl⟩ rfl ?_)
      | (refine wl_nil ?_)))))
    | (refine cw_region (id := 3) ?_; (first
      | ((refine wl_v rfl rfl ⟨val_assign rfl rfl⟩ rfl ?_); (refine wl_nil ?_))
      | (repeat' (first
      | (refine wl_v rfl rfl ⟨val_assign rfl rfl⟩ rfl ?_)
      | (refine wl_nil ?_)))))
    | (refine cw_region (id := 4) ?_; (first
      | ((refine wl_v rfl rfl ⟨val_move rfl rfl⟩ rfl ?_); (refine wl_v rfl rfl ⟨val_assign rfl rfl⟩ rfl ?_); (refine wl_nil ?_))
      | (repeat' (first
      | (refine wl_v rfl rfl ⟨val_move rfl rfl⟩ rfl ?_)
      | (refine wl_v rfl rfl ⟨val_assign rfl rfl⟩ rfl ?_)
      | (refine wl_nil ?_))))))
  all_goals
    refine end_s (.inr rfl) Try.results16 rfl ⟨im_int ?_, rfl⟩
    split at * <;> first | rfl | omega
set_option maxHeartbeats 4000000 in
theorem a_toLink (a b c : Int) : AC Try.prog 53 [.agg [.im (iI a), .im (iI b), .im (iI c)]] (fun d h => d = .agg [.im (iI a), .im (iI b), .im (iI c)] ∧ h = []) := by
  refine ac_go Try.func53 rfl Try.ntmps53 rfl ?_
  simp only [nums]
  repeat' (first
    | (refine q_then_n ?_)
    | (refine q_go (by assumption) ?_)
    | (refine cw_seq fun K hK => ?_)
    | (refine cw_cond rfl (fun hb => ?_) (fun hb => ?_) <;> ((try simp only [hys] at hb) <;> (try (exfalso; first | exact hb | omega | contradiction; done))))
    | (refine cw_block ?_)
    | (refine cw_exit ?_)
    | (refine q_then_e ?_)
    | (refine q_blk_s ?_)
    | (refine q_blk_o rfl ?_)
    | (refine q_blk_n ?_)
    | (refine cw_ret ?_)
    | (refine q_then_r ?_)
    | (refine q_blk_r ?_)
    | (refine cw_skip ?_)
    | (refine cw_region (id := 0) ?_; (first
      | ((refine wl_e rfl rfl ⟨ef_box rfl rfl rfl rfl⟩ rfl ?_; rintro _ rfl; (try simp only [axh])); (refine wl_e rfl rfl ⟨ef_alloc rfl rfl⟩ rfl ?_; rintro _ rfl; (try simp only [axh])); (refine wl_nil ?_))
      | (repeat' (first
      | (refine wl_e rfl rfl ⟨ef_box rfl rfl rfl rfl⟩ rfl ?_; rintro _ rfl; (try simp only [axh]))
      | (refine wl_e rfl rfl ⟨ef_alloc rfl rfl⟩ rfl ?_; rintro _ rfl; (try simp only [axh]))
      | (refine wl_nil ?_)))))
    | (refine cw_region (id := 1) ?_; (first
      | ((refine wl_e rfl rfl ⟨ef_alloc rfl rfl⟩ rfl ?_; rintro _ rfl; (try simp only [axh])); (refine wl_nil ?_))
      | (repeat' (first
      | (refine wl_e rfl rfl ⟨ef_alloc rfl rfl⟩ rfl ?_; rintro _ rfl; (try simp only [axh]))
      | (refine wl_nil ?_)))))
    | (refine cw_region (id := 2) ?_; (first
      | ((first | (refine wl_v rfl rfl ⟨val_fieldAddr rfl rfl⟩ rfl ?_) | (refine wl_v rfl rfl ⟨val_fieldAddr' rfl rfl⟩ rfl ?_)); (first | (refine wl_v rfl rfl ⟨val_loadO rfl rfl rfl rfl (by intro _ _ h; cases h)⟩ rfl ?_) | (refine wl_v rfl rfl ⟨val_loadOA rfl rfl rfl rfl rfl⟩ rfl ?_) | (refine wl_v rfl rfl ⟨val_load rfl rfl rfl⟩ rfl ?_) | (refine wl_v rfl rfl ⟨val_load rfl rfl (by first | exact ints_get (by omega) | exact lks_a (by omega) | exact lks_b (by omega) | exact lks_c (by omega))⟩ rfl ?_) | (refine wl_v rfl rfl ⟨val_loadA rfl rfl (by first | exact ints_get (by omega) | exact lks_a (by omega) | exact lks_b (by omega) | exact lks_c (by omega)) (by rfl)⟩ rfl ?_) | (refine wl_v rfl rfl ⟨val_loadO rfl rfl rfl (by first | exact ints_get (by omega) | exact lks_a (by omega) | exact lks_b (by omega) | exact lks_c (by omega)) (by intro _ _ h; cases h)⟩ rfl ?_) | (refine wl_v rfl rfl ⟨val_loadOA rfl rfl rfl (by first | exact ints_get (by omega) | exact lks_a (by omega) | exact lks_b (by omega) | exact lks_c (by omega)) (by rfl)⟩ rfl ?_)); (first | (refine wl_v rfl rfl ⟨val_fieldAddr rfl rfl⟩ rfl ?_) | (refine wl_v rfl rfl ⟨val_fieldAddr' rfl rfl⟩ rfl ?_)); (refine wl_e0 rfl rfl ⟨ef_store rfl rfl rfl rfl rfl (by rfl) rfl (by first | rfl | exact Nat.le_of_ble_eq_true rfl | (simp only [axl]; omega))⟩ ?_; rintro _ rfl; (try simp only [axh]); (try simp only [axw])); (refine wl_nil ?_))
      | (repeat' (first
      | (refine wl_v rfl rfl ⟨val_fieldAddr rfl rfl⟩ rfl ?_)
      | (refine wl_v rfl rfl ⟨val_fieldAddr' rfl rfl⟩ rfl ?_)
      | (refine wl_v rfl rfl ⟨val_loadO rfl rfl rfl rfl (by intro _ _ h; cases h)⟩ rfl ?_)
      | (refine wl_v rfl rfl ⟨val_loadOA rfl rfl rfl rfl rfl⟩ rfl ?_)
      | (refine wl_v rfl rfl ⟨val_load rfl rfl rfl⟩ rfl ?_)
      | (refine wl_v rfl rfl ⟨val_load rfl rfl (by first | exact ints_get (by omega) | exact lks_a (by omega) | exact lks_b (by omega) | exact lks_c (by omega))⟩ rfl ?_)
      | (refine wl_v rfl rfl ⟨val_loadA rfl rfl (by first | exact ints_get (by omega) | exact lks_a (by omega) | exact lks_b (by omega) | exact lks_c (by omega)) (by rfl)⟩ rfl ?_)
      | (refine wl_v rfl rfl ⟨val_loadO rfl rfl rfl (by first | exact ints_get (by omega) | exact lks_a (by omega) | exact lks_b (by omega) | exact lks_c (by omega)) (by intro _ _ h; cases h)⟩ rfl ?_)
      | (refine wl_v rfl rfl ⟨val_loadOA rfl rfl rfl (by first | exact ints_get (by omega) | exact lks_a (by omega) | exact lks_b (by omega) | exact lks_c (by omega)) (by rfl)⟩ rfl ?_)
      | (refine wl_e0 rfl rfl ⟨ef_store rfl rfl rfl rfl rfl (by rfl) rfl (by first | rfl | exact Nat.le_of_ble_eq_true rfl | (simp only [axl]; omega))⟩ ?_; rintro _ rfl; (try simp only [axh]); (try simp only [axw]))
      | (refine wl_nil ?_)))))
    | (refine cw_region (id := 3) ?_; (first
      | ((first | (refine wl_v rfl rfl ⟨val_fieldAddr rfl rfl⟩ rfl ?_) | (refine wl_v rfl rfl ⟨val_fieldAddr' rfl rfl⟩ rfl ?_)); (first | (refine wl_v rfl rfl ⟨val_loadO rfl rfl rfl rfl (by intro _ _ h; cases h)⟩ rfl ?_) | (refine wl_v rfl rfl ⟨val_loadOA rfl rfl rfl rfl rfl⟩ rfl ?_) | (refine wl_v rfl rfl ⟨val_load rfl rfl rfl⟩ rfl ?_) | (refine wl_v rfl rfl ⟨val_load rfl rfl (by first | exact ints_get (by omega) | exact lks_a (by omega) | exact lks_b (by omega) | exact lks_c (by omega))⟩ rfl ?_) | (refine wl_v rfl rfl ⟨val_loadA rfl rfl (by first | exact ints_get (by omega) | exact lks_a (by omega) | exact lks_b (by omega) | exact lks_c (by omega)) (by rfl)⟩ rfl ?_) | (refine wl_v rfl rfl ⟨val_loadO rfl rfl rfl (by first | exact ints_get (by omega) | exact lks_a (by omega) | exact lks_b (by omega) | exact lks_c (by omega)) (by intro _ _ h; cases h)⟩ rfl ?_) | (refine wl_v rfl rfl ⟨val_loadOA rfl rfl rfl (by first | exact ints_get (by omega) | exact lks_a (by omega) | exact lks_b (by omega) | exact lks_c (by omega)) (by rfl)⟩ rfl ?_)); (first | (refine wl_v rfl rfl ⟨val_fieldAddr rfl rfl⟩ rfl ?_) | (refine wl_v rfl rfl ⟨val_fieldAddr' rfl rfl⟩ rfl ?_)); (refine wl_e0 rfl rfl ⟨ef_store rfl rfl rfl rfl rfl (by rfl) rfl (by first | rfl | exact Nat.le_of_ble_eq_true rfl | (simp only [axl]; omega))⟩ ?_; rintro _ rfl; (try simp only [axh]); (try simp only [axw])); (refine wl_nil ?_))
      | (repeat' (first
      | (refine wl_v rfl rfl ⟨val_fieldAddr rfl rfl⟩ rfl ?_)
      | (refine wl_v rfl rfl ⟨val_fieldAddr' rfl rfl⟩ rfl ?_)
      | (refine wl_v rfl rfl ⟨val_loadO rfl rfl rfl rfl (by intro _ _ h; cases h)⟩ rfl ?_)
      | (refine wl_v rfl rfl ⟨val_loadOA rfl rfl rfl rfl rfl⟩ rfl ?_)
      | (refine wl_v rfl rfl ⟨val_load rfl rfl rfl⟩ rfl ?_)
      | (refine wl_v rfl rfl ⟨val_load rfl rfl (by first | exact ints_get (by omega) | exact lks_a (by omega) | exact lks_b (by omega) | exact lks_c (by omega))⟩ rfl ?_)
      | (refine wl_v rfl rfl ⟨val_loadA rfl rfl (by first | exact ints_get (by omega) | exact lks_a (by omega) | exact lks_b (by omega) | exact lks_c (by omega)) (by rfl)⟩ rfl ?_)
      | (refine wl_v rfl rfl ⟨val_loadO rfl rfl rfl (by first | exact ints_get (by omega) | exact lks_a (by omega) | exact lks_b (by omega) | exact lks_c (by omega)) (by intro _ _ h; cases h)⟩ rfl ?_)
      | (refine wl_v rfl rfl ⟨val_loadOA rfl rfl rfl (by first | exact ints_get (by omega) | exact lks_a (by omega) | exact lks_b (by omega) | exact lks_c (by omega)) (by rfl)⟩ rfl ?_)
      | (refine wl_e0 rfl rfl ⟨ef_store rfl rfl rfl rfl rfl (by rfl) rfl (by first | rfl | exact Nat.le_of_ble_eq_true rfl | (simp only [axl]; omega))⟩ ?_; rintro _ rfl; (try simp only [axh]); (try simp only [axw]))
      | (refine wl_nil ?_)))))
    | (refine cw_region (id := 4) ?_; (first
      | ((first | (refine wl_v rfl rfl ⟨val_fieldAddr rfl rfl⟩ rfl ?_) | (refine wl_v rfl rfl ⟨val_fieldAddr' rfl rfl⟩ rfl ?_)); (first | (refine wl_v rfl rfl ⟨val_loadO rfl rfl rfl rfl (by intro _ _ h; cases h)⟩ rfl ?_) | (refine wl_v rfl rfl ⟨val_loadOA rfl rfl rfl rfl rfl⟩ rfl ?_) | (refine wl_v rfl rfl ⟨val_load rfl rfl rfl⟩ rfl ?_) | (refine wl_v rfl rfl ⟨val_load rfl rfl (by first | exact ints_get (by omega) | exact lks_a (by omega) | exact lks_b (by omega) | exact lks_c (by omega))⟩ rfl ?_) | (refine wl_v rfl rfl ⟨val_loadA rfl rfl (by first | exact ints_get (by omega) | exact lks_a (by omega) | exact lks_b (by omega) | exact lks_c (by omega)) (by rfl)⟩ rfl ?_) | (refine wl_v rfl rfl ⟨val_loadO rfl rfl rfl (by first | exact ints_get (by omega) | exact lks_a (by omega) | exact lks_b (by omega) | exact lks_c (by omega)) (by intro _ _ h; cases h)⟩ rfl ?_) | (refine wl_v rfl rfl ⟨val_loadOA rfl rfl rfl (by first | exact ints_get (by omega) | exact lks_a (by omega) | exact lks_b (by omega) | exact lks_c (by omega)) (by rfl)⟩ rfl ?_)); (first | (refine wl_v rfl rfl ⟨val_fieldAddr rfl rfl⟩ rfl ?_) | (refine wl_v rfl rfl ⟨val_fieldAddr' rfl rfl⟩ rfl ?_)); (refine wl_e0 rfl rfl ⟨ef_store rfl rfl rfl rfl rfl (by rfl) rfl (by first | rfl | exact Nat.le_of_ble_eq_true rfl | (simp only [axl]; omega))⟩ ?_; rintro _ rfl; (try simp only [axh]); (try simp only [axw])); (refine wl_nil ?_))
      | (repeat' (first
      | (refine wl_v rfl rfl ⟨val_fieldAddr rfl rfl⟩ rfl ?_)
      | (refine wl_v rfl rfl ⟨val_fieldAddr' rfl rfl⟩ rfl ?_)
      | (refine wl_v rfl rfl ⟨val_loadO rfl rfl rfl rfl (by intro _ _ h; cases h)⟩ rfl ?_)
      | (refine wl_v rfl rfl ⟨val_loadOA rfl rfl rfl rfl rfl⟩ rfl ?_)
      | (refine wl_v rfl rfl ⟨val_load rfl rfl rfl⟩ rfl ?_)
      | (refine wl_v rfl rfl ⟨val_load rfl rfl (by first | exact ints_get (by omega) | exact lks_a (by omega) | exact lks_b (by omega) | exact lks_c (by omega))⟩ rfl ?_)
      | (refine wl_v rfl rfl ⟨val_loadA rfl rfl (by first | exact ints_get (by omega) | exact lks_a (by omega) | exact lks_b (by omega) | exact lks_c (by omega)) (by rfl)⟩ rfl ?_)
      | (refine wl_v rfl rfl ⟨val_loadO rfl rfl rfl (by first | exact ints_get (by omega) | exact lks_a (by omega) | exact lks_b (by omega) | exact lks_c (by omega)) (by intro _ _ h; cases h)⟩ rfl ?_)
      | (refine wl_v rfl rfl ⟨val_loadOA rfl rfl rfl (by first | exact ints_get (by omega) | exact lks_a (by omega) | exact lks_b (by omega) | exact lks_c (by omega)) (by rfl)⟩ rfl ?_)
      | (refine wl_e0 rfl rfl ⟨ef_store rfl rfl rfl rfl rfl (by rfl) rfl (by first | rfl | exact Nat.le_of_ble_eq_true rfl | (simp only [axl]; omega))⟩ ?_; rintro _ rfl; (try simp only [axh]); (try simp only [axw]))
      | (refine wl_nil ?_)))))
    | (refine cw_region (id := 5) ?_; (first
      | ((first | (refine wl_v rfl rfl ⟨val_loadO rfl rfl rfl rfl (by intro _ _ h; cases h)⟩ rfl ?_) | (refine wl_v rfl rfl ⟨val_loadOA rfl rfl rfl rfl rfl⟩ rfl ?_) | (refine wl_v rfl rfl ⟨val_load rfl rfl rfl⟩ rfl ?_) | (refine wl_v rfl rfl ⟨val_load rfl rfl (by first | exact ints_get (by omega) | exact lks_a (by omega) | exact lks_b (by omega) | exact lks_c (by omega))⟩ rfl ?_) | (refine wl_v rfl rfl ⟨val_loadA rfl rfl (by first | exact ints_get (by omega) | exact lks_a (by omega) | exact lks_b (by omega) | exact lks_c (by omega)) (by rfl)⟩ rfl ?_) | (refine wl_v rfl rfl ⟨val_loadO rfl rfl rfl (by first | exact ints_get (by omega) | exact lks_a (by omega) | exact lks_b (by omega) | exact lks_c (by omega)) (by intro _ _ h; cases h)⟩ rfl ?_) | (refine wl_v rfl rfl ⟨val_loadOA rfl rfl rfl (by first | exact ints_get (by omega) | exact lks_a (by omega) | exact lks_b (by omega) | exact lks_c (by omega)) (by rfl)⟩ rfl ?_)); (refine wl_e0 rfl rfl ⟨ef_store rfl rfl rfl rfl rfl (by rfl) rfl (by first | rfl | exact Nat.le_of_ble_eq_true rfl | (simp only [axl]; omega))⟩ ?_; rintro _ rfl; (try simp only [axh]); (try simp only [axw])); (refine wl_nil ?_))
      | (repeat' (first
      | (refine wl_v rfl rfl ⟨val_loadO rfl rfl rfl rfl (by intro _ _ h; cases h)⟩ rfl ?_)
      | (refine wl_v rfl rfl ⟨val_loadOA rfl rfl rfl rfl rfl⟩ rfl ?_)
      | (refine wl_v rfl rfl ⟨val_load rfl rfl rfl⟩ rfl ?_)
      | (refine wl_v rfl rfl ⟨val_load rfl rfl (by first | exact ints_get (by omega) | exact lks_a (by omega) | exact lks_b (by omega) | exact lks_c (by omega))⟩ rfl ?_)
      | (refine wl_v rfl rfl ⟨val_loadA rfl rfl (by first | exact ints_get (by omega) | exact lks_a (by omega) | exact lks_b (by omega) | exact lks_c (by omega)) (by rfl)⟩ rfl ?_)
      | (refine wl_v rfl rfl ⟨val_loadO rfl rfl rfl (by first | exact ints_get (by omega) | exact lks_a (by omega) | exact lks_b (by omega) | exact lks_c (by omega)) (by intro _ _ h; cases h)⟩ rfl ?_)
      | (refine wl_v rfl rfl ⟨val_loadOA rfl rfl rfl (by first | exact ints_get (by omega) | exact lks_a (by omega) | exact lks_b (by omega) | exact lks_c (by omega)) (by rfl)⟩ rfl ?_)
      | (refine wl_e0 rfl rfl ⟨ef_store rfl rfl rfl rfl rfl (by rfl) rfl (by first | rfl | exact Nat.le_of_ble_eq_true rfl | (simp only [axl]; omega))⟩ ?_; rintro _ rfl; (try simp only [axh]); (try simp only [axw]))
      | (refine wl_nil ?_))))))
  exact end_box (.inr rfl) Try.results53 rfl rfl rfl (frz_cons (frz_cons (frz_cons frz_nil))) (new_cons new_s (new_cons new_s (new_cons new_s new_nil))) ⟨rfl, rfl⟩

/-- The first k of a list, zeros behind. -/
def part0 {α : Type} (z : α) (xs : List α) (n k : Nat) : List α := xs.take k ++ List.replicate (n - k) z
theorem part0_zero {α : Type} (z : α) (xs : List α) (n : Nat) : part0 z xs n 0 = List.replicate n z := by simp [part0]
theorem part0_all {α : Type} (z : α) (xs : List α) (n : Nat) (h : xs.length = n) : part0 z xs n n = xs := by simp [part0, ← h]
theorem part0_len {α : Type} (z : α) (xs : List α) (n k : Nat) (h : xs.length = n) (hk : k ≤ n) : (part0 z xs n k).length = n := by simp [part0]; omega
theorem part0_set {α : Type} (z : α) (xs : List α) (n k : Nat) (x : α) (h : xs.length = n) (hk : k < n) (hx : xs[k]? = some x) : (part0 z xs n k).set k x = part0 z xs n (k + 1) := by
  have hl : (xs.take k).length = k := by simp; omega
  unfold part0
  rw [List.set_append_right _ _ (by omega), hl, Nat.sub_self, show n - k = (n - (k + 1)) + 1 by omega, List.replicate_succ, List.set_cons_zero, List.take_add_one, hx]
  simp
set_option maxHeartbeats 4000000 in
theorem a_toLinkS (g : Bool) (ls : List Lk) (n : Nat) (hl : ls.length = n) (hn : n ≤ 16777216) : AC Try.prog 40 [.im (.sl g (lksI ls) n)] (fun d h => d = .own 0 n ∧ h = [.obj 70 (ims (lksI ls)) 3]) := by
  refine ac_go Try.func40 rfl Try.ntmps40 rfl ?_
  simp only [nums]
  repeat' (first
    | (refine q_then_n ?_)
    | (refine q_go (by assumption) ?_)
    | (refine cw_seq fun K hK => ?_)
    | (refine cw_cond rfl (fun hb => ?_) (fun hb => ?_) <;> ((try simp only [hys] at hb) <;> (try (exfalso; first | exact hb | omega | contradiction; done))))
    | (refine cw_block ?_)
    | (refine cw_exit ?_)
    | (refine q_then_e ?_)
    | (refine q_blk_s ?_)
    | (refine q_blk_o rfl ?_)
    | (refine q_blk_n ?_)
    | (refine cw_ret ?_)
    | (refine q_then_r ?_)
    | (refine q_blk_r ?_)
    | (refine cw_skip ?_)
    | (refine cw_region (id := 0) ?_; (first
      | ((refine wl_v rfl rfl ⟨val_assign rfl rfl⟩ rfl ?_); (refine wl_nil ?_))
      | (repeat' (first
      | (refine wl_v rfl rfl ⟨val_assign rfl rfl⟩ rfl ?_)
      | (refine wl_nil ?_)))))
    | (refine cw_region (id := 1) ?_; (first
      | ((refine wl_v rfl rfl ⟨val_move rfl rfl⟩ rfl ?_); (first | (refine wl_v rfl rfl ⟨len_sl rfl rfl⟩ rfl ?_) | (refine wl_v rfl rfl ⟨len_own rfl rfl⟩ rfl ?_) | (refine wl_v rfl rfl ⟨len_nil rfl rfl⟩ rfl ?_) | (refine wl_v rfl rfl ⟨val_lenS Try.runUnderlying9 rfl rfl⟩ rfl ?_)); (refine wl_e rfl rfl ⟨ef_make rfl rfl rfl rfl (by omega)⟩ rfl ?_; rintro _ rfl; (try simp only [axh])); (refine wl_v rfl rfl ⟨val_assign rfl rfl⟩ rfl ?_); (refine wl_nil ?_))
      | (repeat' (first
      | (refine wl_v rfl rfl ⟨val_move rfl rfl⟩ rfl ?_)
      | (refine wl_v rfl rfl ⟨len_sl rfl rfl⟩ rfl ?_)
      | (refine wl_v rfl rfl ⟨len_own rfl rfl⟩ rfl ?_)
      | (refine wl_v rfl rfl ⟨len_nil rfl rfl⟩ rfl ?_)
      | (refine wl_v rfl rfl ⟨val_lenS Try.runUnderlying9 rfl rfl⟩ rfl ?_)
      | (refine wl_e rfl rfl ⟨ef_make rfl rfl rfl rfl (by omega)⟩ rfl ?_; rintro _ rfl; (try simp only [axh]))
      | (refine wl_v rfl rfl ⟨val_assign rfl rfl⟩ rfl ?_)
      | (refine wl_nil ?_)))))
    | (refine cw_region (id := 2) ?_; (first
      | ((refine wl_v rfl rfl ⟨val_assign rfl rfl⟩ rfl ?_); (refine wl_nil ?_))
      | (repeat' (first
      | (refine wl_v rfl rfl ⟨val_assign rfl rfl⟩ rfl ?_)
      | (refine wl_nil ?_)))))
    | (refine cw_region (id := 3) ?_; (first
      | ((refine wl_v rfl rfl ⟨val_move rfl rfl⟩ rfl ?_); (refine wl_v rfl rfl ⟨val_move rfl rfl⟩ rfl ?_); (first | (refine wl_v rfl rfl ⟨len_sl rfl rfl⟩ rfl ?_) | (refine wl_v rfl rfl ⟨len_own rfl rfl⟩ rfl ?_) | (refine wl_v rfl rfl ⟨len_nil rfl rfl⟩ rfl ?_) | (refine wl_v rfl rfl ⟨val_lenS Try.runUnderlying9 rfl rfl⟩ rfl ?_)); (refine wl_v rfl rfl ⟨bin_lss rfl rfl rfl⟩ rfl ?_); (refine wl_nil ?_))
      | (repeat' (first
      | (refine wl_v rfl rfl ⟨val_move rfl rfl⟩ rfl ?_)
      | (refine wl_v rfl rfl ⟨len_sl rfl rfl⟩ rfl ?_)
      | (refine wl_v rfl rfl ⟨len_own rfl rfl⟩ rfl ?_)
      | (refine wl_v rfl rfl ⟨len_nil rfl rfl⟩ rfl ?_)
      | (refine wl_v rfl rfl ⟨val_lenS Try.runUnderlying9 rfl rfl⟩ rfl ?_)
      | (refine wl_v rfl rfl ⟨bin_lss rfl rfl rfl⟩ rfl ?_)
      | (refine wl_nil ?_)))))
    | (refine cw_region (id := 4) ?_; (first
      | ((refine wl_v rfl rfl ⟨val_move rfl rfl⟩ rfl ?_); (first | (refine wl_v rfl rfl ⟨bin_add rfl rfl rfl (by omega)⟩ rfl ?_) | (refine wl_v rfl rfl ⟨bin_addw rfl rfl rfl⟩ rfl ?_)); (refine wl_v rfl rfl ⟨val_assign rfl rfl⟩ rfl ?_); (refine wl_nil ?_))
      | (repeat' (first
      | (refine wl_v rfl rfl ⟨val_move rfl rfl⟩ rfl ?_)
      | (refine wl_v rfl rfl ⟨bin_add rfl rfl rfl (by omega)⟩ rfl ?_)
      | (refine wl_v rfl rfl ⟨bin_addw rfl rfl rfl⟩ rfl ?_)
      | (refine wl_v rfl rfl ⟨val_assign rfl rfl⟩ rfl ?_)
      | (refine wl_nil ?_)))))
    | (refine cw_region (id := 5) ?_; repeat' (first
      | (refine wl_v rfl rfl ⟨val_move rfl rfl⟩ rfl ?_)
      | (refine wl_v rfl rfl ⟨idx_N rfl rfl rfl (by omega)⟩ rfl ?_)
      | (refine wl_v rfl rfl ⟨idx_NO rfl rfl rfl (by omega)⟩ rfl ?_)
      | (refine wl_v rfl rfl ⟨val_loadO rfl rfl rfl rfl (by intro _ _ h; cases h)⟩ rfl ?_)
      | (refine wl_v rfl rfl ⟨val_loadOA rfl rfl rfl rfl rfl⟩ rfl ?_)
      | (refine wl_v rfl rfl ⟨val_load rfl rfl rfl⟩ rfl ?_)
      | (refine wl_v rfl rfl ⟨val_load rfl rfl (by first | exact ints_get (by omega) | exact lks_a (by omega) | exact lks_b (by omega) | exact lks_c (by omega))⟩ rfl ?_)
      | (refine wl_v rfl rfl ⟨val_loadA rfl rfl (by first | exact ints_get (by omega) | exact lks_a (by omega) | exact lks_b (by omega) | exact lks_c (by omega)) (by rfl)⟩ rfl ?_)
      | (refine wl_v rfl rfl ⟨val_loadO rfl rfl rfl (by first | exact ints_get (by omega) | exact lks_a (by omega) | exact lks_b (by omega) | exact lks_c (by omega)) (by intro _ _ h; cases h)⟩ rfl ?_)
      | (refine wl_v rfl rfl ⟨val_loadOA rfl rfl rfl (by first | exact ints_get (by omega) | exact lks_a (by omega) | exact lks_b (by omega) | exact lks_c (by omega)) (by rfl)⟩ rfl ?_)
      | (refine wl_e0 rfl rfl ⟨ef_store rfl rfl rfl rfl rfl (by rfl) rfl (by first | rfl | exact Nat.le_of_ble_eq_true rfl | (simp only [axl]; omega))⟩ ?_; rintro _ rfl; (try simp only [axh]); (try simp only [axw]))
      | (refine wl_nil ?_)))
    | (refine cw_region (id := 6) ?_; (first
      | ((refine wl_v rfl rfl ⟨val_move rfl rfl⟩ rfl ?_); (refine wl_v rfl rfl ⟨val_assign rfl rfl⟩ rfl ?_); (refine wl_nil ?_))
      | (repeat' (first
      | (refine wl_v rfl rfl ⟨val_move rfl rfl⟩ rfl ?_)
      | (refine wl_v rfl rfl ⟨val_assign rfl rfl⟩ rfl ?_)
      | (refine wl_nil ?_))))))
  rw [zero_lks, ← part0_zero ⟨0, 0, 0⟩ ls n]
  refine cw_loop (fun nn st => ∃ k : Nat, k ≤ n ∧ nn = n - k ∧ st = St.mk [(2, .im (.s (.slice none 0 0))), (3, .own 0 n), (4, .im (iI k)), (0, .im (.sl g (lksI ls) n))] [.obj 70 (ims (lksI (part0 ⟨0, 0, 0⟩ ls n k))) 3]) ⟨_, _, ⟨0, Nat.zero_le _, rfl, rfl⟩, (imp_go [0] rfl rfl (by decide) (by repeat' (first | exact objs_nil | refine objs_dead ?_ | refine objs_cons rfl rfl (by first | rfl | exact ren_ims _ _) ?_)) (by repeat' (first | exact slots_nil | refine slots_cons rfl ?_)))⟩ ?_
  rintro nn _ ⟨k, hk, rfl, rfl⟩ K hK
  have hpl : (part0 (⟨0, 0, 0⟩ : Lk) ls n k).length = n := part0_len _ _ _ _ hl hk
  repeat' (first
    | (refine q_then_n ?_)
    | (refine q_go (by assumption) ?_)
    | (refine cw_seq fun K hK => ?_)
    | (refine cw_cond rfl (fun hb => ?_) (fun hb => ?_) <;> ((try simp only [hys] at hb) <;> (try (exfalso; first | exact hb | omega | contradiction; done))))
    | (refine cw_block ?_)
    | (refine cw_exit ?_)
    | (refine q_then_e ?_)
    | (refine q_blk_s ?_)
    | (refine q_blk_o rfl ?_)
    | (refine q_blk_n ?_)
    | (refine cw_ret ?_)
    | (refine q_then_r ?_)
    | (refine q_blk_r ?_)
    | (refine cw_skip ?_)
    | (refine cw_region (id := 0) ?_; (first
      | ((refine wl_v rfl rfl ⟨val_assign rfl rfl⟩ rfl ?_); (refine wl_nil ?_))
      | (repeat' (first
      | (refine wl_v rfl rfl ⟨val_assign rfl rfl⟩ rfl ?_)
      | (refine wl_nil ?_)))))
    | (refine cw_region (id := 1) ?_; (first
      | ((refine wl_v rfl rfl ⟨val_move rfl rfl⟩ rfl ?_); (first | (refine wl_v rfl rfl ⟨len_sl rfl rfl⟩ rfl ?_) | (refine wl_v rfl rfl ⟨len_own rfl rfl⟩ rfl ?_) | (refine wl_v rfl rfl ⟨len_nil rfl rfl⟩ rfl ?_) | (refine wl_v rfl rfl ⟨val_lenS Try.runUnderlying9 rfl rfl⟩ rfl ?_)); (refine wl_e rfl rfl ⟨ef_make rfl rfl rfl rfl (by omega)⟩ rfl ?_; rintro _ rfl; (try simp only [axh])); (refine wl_v rfl rfl ⟨val_assign rfl rfl⟩ rfl ?_); (refine wl_nil ?_))
      | (repeat' (first
      | (refine wl_v rfl rfl ⟨val_move rfl rfl⟩ rfl ?_)
      | (refine wl_v rfl rfl ⟨len_sl rfl rfl⟩ rfl ?_)
      | (refine wl_v rfl rfl ⟨len_own rfl rfl⟩ rfl ?_)
      | (refine wl_v rfl rfl ⟨len_nil rfl rfl⟩ rfl ?_)
      | (refine wl_v rfl rfl ⟨val_lenS Try.runUnderlying9 rfl rfl⟩ rfl ?_)
      | (refine wl_e rfl rfl ⟨ef_make rfl rfl rfl rfl (by omega)⟩ rfl ?_; rintro _ rfl; (try simp only [axh]))
      | (refine wl_v rfl rfl ⟨val_assign rfl rfl⟩ rfl ?_)
      | (refine wl_nil ?_)))))
    | (refine cw_region (id := 2) ?_; (first
      | ((refine wl_v rfl rfl ⟨val_assign rfl rfl⟩ rfl ?_); (refine wl_nil ?_))
      | (repeat' (first
      | (refine wl_v rfl rfl ⟨val_assign rfl rfl⟩ rfl ?_)
      | (refine wl_nil ?_)))))
    | (refine cw_region (id := 3) ?_; (first
      | ((refine wl_v rfl rfl ⟨val_move rfl rfl⟩ rfl ?_); (refine wl_v rfl rfl ⟨val_move rfl rfl⟩ rfl ?_); (first | (refine wl_v rfl rfl ⟨len_sl rfl rfl⟩ rfl ?_) | (refine wl_v rfl rfl ⟨len_own rfl rfl⟩ rfl ?_) | (refine wl_v rfl rfl ⟨len_nil rfl rfl⟩ rfl ?_) | (refine wl_v rfl rfl ⟨val_lenS Try.runUnderlying9 rfl rfl⟩ rfl ?_)); (refine wl_v rfl rfl ⟨bin_lss rfl rfl rfl⟩ rfl ?_); (refine wl_nil ?_))
      | (repeat' (first
      | (refine wl_v rfl rfl ⟨val_move rfl rfl⟩ rfl ?_)
      | (refine wl_v rfl rfl ⟨len_sl rfl rfl⟩ rfl ?_)
      | (refine wl_v rfl rfl ⟨len_own rfl rfl⟩ rfl ?_)
      | (refine wl_v rfl rfl ⟨len_nil rfl rfl⟩ rfl ?_)
      | (refine wl_v rfl rfl ⟨val_lenS Try.runUnderlying9 rfl rfl⟩ rfl ?_)
      | (refine wl_v rfl rfl ⟨bin_lss rfl rfl rfl⟩ rfl ?_)
      | (refine wl_nil ?_)))))
    | (refine cw_region (id := 4) ?_; (first
      | ((refine wl_v rfl rfl ⟨val_move rfl rfl⟩ rfl ?_); (first | (refine wl_v rfl rfl ⟨bin_add rfl rfl rfl (by omega)⟩ rfl ?_) | (refine wl_v rfl rfl ⟨bin_addw rfl rfl rfl⟩ rfl ?_)); (refine wl_v rfl rfl ⟨val_assign rfl rfl⟩ rfl ?_); (refine wl_nil ?_))
      | (repeat' (first
      | (refine wl_v rfl rfl ⟨val_move rfl rfl⟩ rfl ?_)
      | (refine wl_v rfl rfl ⟨bin_add rfl rfl rfl (by omega)⟩ rfl ?_)
      | (refine wl_v rfl rfl ⟨bin_addw rfl rfl rfl⟩ rfl ?_)
      | (refine wl_v rfl rfl ⟨val_assign rfl rfl⟩ rfl ?_)
      | (refine wl_nil ?_)))))
    | (refine cw_region (id := 5) ?_; (first
      | ((refine wl_v rfl rfl ⟨val_move rfl rfl⟩ rfl ?_); (refine wl_v rfl rfl ⟨val_move rfl rfl⟩ rfl ?_); (refine wl_v rfl rfl ⟨val_move rfl rfl⟩ rfl ?_); (refine wl_v rfl rfl ⟨val_move rfl rfl⟩ rfl ?_); (first | (refine wl_v rfl rfl ⟨idx_N rfl rfl rfl (by omega)⟩ rfl ?_) | (refine wl_v rfl rfl ⟨idx_NO rfl rfl rfl (by omega)⟩ rfl ?_)); (first | (refine wl_v rfl rfl ⟨val_loadO rfl rfl rfl rfl (by intro _ _ h; cases h)⟩ rfl ?_) | (refine wl_v rfl rfl ⟨val_loadOA rfl rfl rfl rfl rfl⟩ rfl ?_) | (refine wl_v rfl rfl ⟨val_load rfl rfl rfl⟩ rfl ?_) | (refine wl_v rfl rfl ⟨val_load rfl rfl (by first | exact lks_row (by omega) | exact ints_get (by omega) | exact lks_a (by omega) | exact lks_b (by omega) | exact lks_c (by omega))⟩ rfl ?_) | (refine wl_v rfl rfl ⟨val_loadA rfl rfl (by first | exact lks_row (by omega) | exact ints_get (by omega) | exact lks_a (by omega) | exact lks_b (by omega) | exact lks_c (by omega)) (by rfl)⟩ rfl ?_) | (refine wl_v rfl rfl ⟨val_loadO rfl rfl rfl (by first | exact lks_row (by omega) | exact ints_get (by omega) | exact lks_a (by omega) | exact lks_b (by omega) | exact lks_c (by omega)) (by intro _ _ h; cases h)⟩ rfl ?_) | (refine wl_v rfl rfl ⟨val_loadOA rfl rfl rfl (by first | exact lks_row (by omega) | exact ints_get (by omega) | exact lks_a (by omega) | exact lks_b (by omega) | exact lks_c (by omega)) (by rfl)⟩ rfl ?_)); (refine wl_e rfl rfl ⟨ef_call rfl rfl (a_toLink _ _ _) (by repeat (first | exact F2.nil | refine F2.cons ⟨_, rfl, ?_⟩ ?_ | refine F2.cons ?_ ?_ | exact fz_s | exact fz_sl (by first | rfl | exact ages_ints _ | exact ages_lks _) | exact fz_own rfl (by decide) (by first | rfl | exact Nat.le_of_ble_eq_true rfl | (simp only [axl]; omega)) (by first | rfl | exact ages_ints _ | exact ages_lks _) | refine fz_agg ?_ | refine fz_fn ?_ | exact fz1_s | exact fz1_sl (by first | rfl | exact ages_ints _ | exact ages_lks _) | exact fz1_ptr rfl | exact fz1_at rfl | exact fz1_own rfl (by decide) (by first | rfl | exact Nat.le_of_ble_eq_true rfl | (simp only [axl]; omega)) (by first | rfl | exact ages_ints _ | exact ages_lks _)))⟩ rfl ?_; rintro _ ⟨_, _, ⟨rfl, rfl⟩, rfl⟩; (try simp only [axh])); (first | (refine wl_v rfl rfl ⟨idx_N rfl rfl rfl (by omega)⟩ rfl ?_) | (refine wl_v rfl rfl ⟨idx_NO rfl rfl rfl (by omega)⟩ rfl ?_)); (refine wl_e0 rfl rfl ⟨ef_store rfl rfl rfl rfl rfl (by rfl) rfl (by first | rfl | exact Nat.le_of_ble_eq_true rfl | (simp only [axl]; omega))⟩ ?_; rintro _ rfl; (try simp only [axh]); (try simp only [axw])); (refine wl_nil ?_))
      | (repeat' (first
      | (refine wl_v rfl rfl ⟨val_move rfl rfl⟩ rfl ?_)
      | (refine wl_v rfl rfl ⟨idx_N rfl rfl rfl (by omega)⟩ rfl ?_)
      | (refine wl_v rfl rfl ⟨idx_NO rfl rfl rfl (by omega)⟩ rfl ?_)
      | (refine wl_v rfl rfl ⟨val_loadO rfl rfl rfl rfl (by intro _ _ h; cases h)⟩ rfl ?_)
      | (refine wl_v rfl rfl ⟨val_loadOA rfl rfl rfl rfl rfl⟩ rfl ?_)
      | (refine wl_v rfl rfl ⟨val_load rfl rfl rfl⟩ rfl ?_)
      | (refine wl_v rfl rfl ⟨val_load rfl rfl (by first | exact lks_row (by omega) | exact ints_get (by omega) | exact lks_a (by omega) | exact lks_b (by omega) | exact lks_c (by omega))⟩ rfl ?_)
      | (refine wl_v rfl rfl ⟨val_loadA rfl rfl (by first | exact lks_row (by omega) | exact ints_get (by omega) | exact lks_a (by omega) | exact lks_b (by omega) | exact lks_c (by omega)) (by rfl)⟩ rfl ?_)
      | (refine wl_v rfl rfl ⟨val_loadO rfl rfl rfl (by first | exact lks_row (by omega) | exact ints_get (by omega) | exact lks_a (by omega) | exact lks_b (by omega) | exact lks_c (by omega)) (by intro _ _ h; cases h)⟩ rfl ?_)
      | (refine wl_v rfl rfl ⟨val_loadOA rfl rfl rfl (by first | exact lks_row (by omega) | exact ints_get (by omega) | exact lks_a (by omega) | exact lks_b (by omega) | exact lks_c (by omega)) (by rfl)⟩ rfl ?_)
      | (refine wl_e rfl rfl ⟨ef_call rfl rfl (a_toLink _ _ _) (by repeat (first | exact F2.nil | refine F2.cons ⟨_, rfl, ?_⟩ ?_ | refine F2.cons ?_ ?_ | exact fz_s | exact fz_sl (by first | rfl | exact ages_ints _ | exact ages_lks _) | exact fz_own rfl (by decide) (by first | rfl | exact Nat.le_of_ble_eq_true rfl | (simp only [axl]; omega)) (by first | rfl | exact ages_ints _ | exact ages_lks _) | refine fz_agg ?_ | refine fz_fn ?_ | exact fz1_s | exact fz1_sl (by first | rfl | exact ages_ints _ | exact ages_lks _) | exact fz1_ptr rfl | exact fz1_at rfl | exact fz1_own rfl (by decide) (by first | rfl | exact Nat.le_of_ble_eq_true rfl | (simp only [axl]; omega)) (by first | rfl | exact ages_ints _ | exact ages_lks _)))⟩ rfl ?_; rintro _ ⟨_, _, ⟨rfl, rfl⟩, rfl⟩; (try simp only [axh]))
      | (refine wl_e0 rfl rfl ⟨ef_store rfl rfl rfl rfl rfl (by rfl) rfl (by first | rfl | exact Nat.le_of_ble_eq_true rfl | (simp only [axl]; omega))⟩ ?_; rintro _ rfl; (try simp only [axh]); (try simp only [axw]))
      | (refine wl_nil ?_)))))
    | (refine cw_region (id := 6) ?_; (first
      | ((refine wl_v rfl rfl ⟨val_move rfl rfl⟩ rfl ?_); (refine wl_v rfl rfl ⟨val_assign rfl rfl⟩ rfl ?_); (refine wl_nil ?_))
      | (repeat' (first
      | (refine wl_v rfl rfl ⟨val_move rfl rfl⟩ rfl ?_)
      | (refine wl_v rfl rfl ⟨val_assign rfl rfl⟩ rfl ?_)
      | (refine wl_nil ?_))))))
  · rw [wr_lks _ _ _ (by omega), part0_set _ _ _ _ _ hl (by omega) (lk_get (by omega))]
    exact ⟨_, _, by omega, ⟨k + 1, by omega, rfl, rfl⟩, (imp_go [0] rfl rfl (by decide) (by repeat' (first | exact objs_nil | refine objs_dead ?_ | refine objs_cons rfl rfl (by first | rfl | exact ren_ims _ _) ?_)) (by repeat' (first | exact slots_nil | refine slots_cons rfl ?_)))⟩
  · obtain rfl : k = n := by omega
    refine end_own (.inr rfl) Try.results40 rfl rfl (newI_lks _) ⟨rfl, ?_⟩
    rw [part0_all _ _ _ hl]
set_option maxHeartbeats 4000000 in
theorem a_toIntS (g : Bool) (zs : List Int) (n : Nat) (hl : zs.length = n) (hn : n ≤ 16777216) : AC Try.prog 19 [.im (.sl g (intsI zs) n)] (fun d h => d = .own 0 n ∧ h = [.obj 3 (ims (intsI zs)) 1]) := by
  refine ac_go Try.func19 rfl Try.ntmps19 rfl ?_
  simp only [nums]
  repeat' (first
    | (refine q_then_n ?_)
    | (refine q_go (by assumption) ?_)
    | (refine cw_seq fun K hK => ?_)
    | (refine cw_cond rfl (fun hb => ?_) (fun hb => ?_) <;> ((try simp only [hys] at hb) <;> (try (exfalso; first | exact hb | omega | contradiction; done))))
    | (refine cw_block ?_)
    | (refine cw_exit ?_)
    | (refine q_then_e ?_)
    | (refine q_blk_s ?_)
    | (refine q_blk_o rfl ?_)
    | (refine q_blk_n ?_)
    | (refine cw_ret ?_)
    | (refine q_then_r ?_)
    | (refine q_blk_r ?_)
    | (refine cw_skip ?_)
    | (refine cw_region (id := 0) ?_; (first
      | ((refine wl_v rfl rfl ⟨val_assign rfl rfl⟩ rfl ?_); (refine wl_nil ?_))
      | (repeat' (first
      | (refine wl_v rfl rfl ⟨val_assign rfl rfl⟩ rfl ?_)
      | (refine wl_nil ?_)))))
    | (refine cw_region (id := 1) ?_; (first
      | ((refine wl_v rfl rfl ⟨val_move rfl rfl⟩ rfl ?_); (first | (refine wl_v rfl rfl ⟨len_sl rfl rfl⟩ rfl ?_) | (refine wl_v rfl rfl ⟨len_own rfl rfl⟩ rfl ?_) | (refine wl_v rfl rfl ⟨len_nil rfl rfl⟩ rfl ?_) | (refine wl_v rfl rfl ⟨val_lenS Try.runUnderlying9 rfl rfl⟩ rfl ?_)); (refine wl_e rfl rfl ⟨ef_make rfl rfl rfl rfl (by omega)⟩ rfl ?_; rintro _ rfl; (try simp only [axh])); (refine wl_v rfl rfl ⟨val_assign rfl rfl⟩ rfl ?_); (refine wl_nil ?_))
      | (repeat' (first
      | (refine wl_v rfl rfl ⟨val_move rfl rfl⟩ rfl ?_)
      | (refine wl_v rfl rfl ⟨len_sl rfl rfl⟩ rfl ?_)
      | (refine wl_v rfl rfl ⟨len_own rfl rfl⟩ rfl ?_)
      | (refine wl_v rfl rfl ⟨len_nil rfl rfl⟩ rfl ?_)
      | (refine wl_v rfl rfl ⟨val_lenS Try.runUnderlying9 rfl rfl⟩ rfl ?_)
      | (refine wl_e rfl rfl ⟨ef_make rfl rfl rfl rfl (by omega)⟩ rfl ?_; rintro _ rfl; (try simp only [axh]))
      | (refine wl_v rfl rfl ⟨val_assign rfl rfl⟩ rfl ?_)
      | (refine wl_nil ?_)))))
    | (refine cw_region (id := 2) ?_; (first
      | ((refine wl_v rfl rfl ⟨val_assign rfl rfl⟩ rfl ?_); (refine wl_nil ?_))
      | (repeat' (first
      | (refine wl_v rfl rfl ⟨val_assign rfl rfl⟩ rfl ?_)
      | (refine wl_nil ?_)))))
    | (refine cw_region (id := 3) ?_; (first
      | ((refine wl_v rfl rfl ⟨val_move rfl rfl⟩ rfl ?_); (refine wl_v rfl rfl ⟨val_move rfl rfl⟩ rfl ?_); (first | (refine wl_v rfl rfl ⟨len_sl rfl rfl⟩ rfl ?_) | (refine wl_v rfl rfl ⟨len_own rfl rfl⟩ rfl ?_) | (refine wl_v rfl rfl ⟨len_nil rfl rfl⟩ rfl ?_) | (refine wl_v rfl rfl ⟨val_lenS Try.runUnderlying9 rfl rfl⟩ rfl ?_)); (refine wl_v rfl rfl ⟨bin_lss rfl rfl rfl⟩ rfl ?_); (refine wl_nil ?_))
      | (repeat' (first
      | (refine wl_v rfl rfl ⟨val_move rfl rfl⟩ rfl ?_)
      | (refine wl_v rfl rfl ⟨len_sl rfl rfl⟩ rfl ?_)
      | (refine wl_v rfl rfl ⟨len_own rfl rfl⟩ rfl ?_)
      | (refine wl_v rfl rfl ⟨len_nil rfl rfl⟩ rfl ?_)
      | (refine wl_v rfl rfl ⟨val_lenS Try.runUnderlying9 rfl rfl⟩ rfl ?_)
      | (refine wl_v rfl rfl ⟨bin_lss rfl rfl rfl⟩ rfl ?_)
      | (refine wl_nil ?_)))))
    | (refine cw_region (id := 4) ?_; (first
      | ((refine wl_v rfl rfl ⟨val_move rfl rfl⟩ rfl ?_); (first | (refine wl_v rfl rfl ⟨bin_add rfl rfl rfl (by omega)⟩ rfl ?_) | (refine wl_v rfl rfl ⟨bin_addw rfl rfl rfl⟩ rfl ?_)); (refine wl_v rfl rfl ⟨val_assign rfl rfl⟩ rfl ?_); (refine wl_nil ?_))
      | (repeat' (first
      | (refine wl_v rfl rfl ⟨val_move rfl rfl⟩ rfl ?_)
      | (refine wl_v rfl rfl ⟨bin_add rfl rfl rfl (by omega)⟩ rfl ?_)
      | (refine wl_v rfl rfl ⟨bin_addw rfl rfl rfl⟩ rfl ?_)
      | (refine wl_v rfl rfl ⟨val_assign rfl rfl⟩ rfl ?_)
      | (refine wl_nil ?_)))))
    | (refine cw_region (id := 5) ?_; (first
      | ((refine wl_v rfl rfl ⟨val_move rfl rfl⟩ rfl ?_); (refine wl_v rfl rfl ⟨val_move rfl rfl⟩ rfl ?_); (refine wl_v rfl rfl ⟨val_move rfl rfl⟩ rfl ?_); (refine wl_v rfl rfl ⟨val_move rfl rfl⟩ rfl ?_); (first | (refine wl_v rfl rfl ⟨idx_N rfl rfl rfl (by omega)⟩ rfl ?_) | (refine wl_v rfl rfl ⟨idx_NO rfl rfl rfl (by omega)⟩ rfl ?_)); (first | (refine wl_v rfl rfl ⟨val_loadO rfl rfl rfl rfl (by intro _ _ h; cases h)⟩ rfl ?_) | (refine wl_v rfl rfl ⟨val_loadOA rfl rfl rfl rfl rfl⟩ rfl ?_) | (refine wl_v rfl rfl ⟨val_load rfl rfl rfl⟩ rfl ?_) | (refine wl_v rfl rfl ⟨val_load rfl rfl (by first | exact ints_get (by omega) | exact lks_a (by omega) | exact lks_b (by omega) | exact lks_c (by omega))⟩ rfl ?_) | (refine wl_v rfl rfl ⟨val_loadA rfl rfl (by first | exact ints_get (by omega) | exact lks_a (by omega) | exact lks_b (by omega) | exact lks_c (by omega)) (by rfl)⟩ rfl ?_) | (refine wl_v rfl rfl ⟨val_loadO rfl rfl rfl (by first | exact ints_get (by omega) | exact lks_a (by omega) | exact lks_b (by omega) | exact lks_c (by omega)) (by intro _ _ h; cases h)⟩ rfl ?_) | (refine wl_v rfl rfl ⟨val_loadOA rfl rfl rfl (by first | exact ints_get (by omega) | exact lks_a (by omega) | exact lks_b (by omega) | exact lks_c (by omega)) (by rfl)⟩ rfl ?_)); (first | (refine wl_v rfl rfl ⟨idx_N rfl rfl rfl (by omega)⟩ rfl ?_) | (refine wl_v rfl rfl ⟨idx_NO rfl rfl rfl (by omega)⟩ rfl ?_)); (refine wl_e0 rfl rfl ⟨ef_store rfl rfl rfl rfl rfl (by rfl) rfl (by first | rfl | exact Nat.le_of_ble_eq_true rfl | (simp only [axl]; omega))⟩ ?_; rintro _ rfl; (try simp only [axh]); (try simp only [axw])); (refine wl_nil ?_))
      | (repeat' (first
      | (refine wl_v rfl rfl ⟨val_move rfl rfl⟩ rfl ?_)
      | (refine wl_v rfl rfl ⟨idx_N rfl rfl rfl (by omega)⟩ rfl ?_)
      | (refine wl_v rfl rfl ⟨idx_NO rfl rfl rfl (by omega)⟩ rfl ?_)
      | (refine wl_v rfl rfl ⟨val_loadO rfl rfl rfl rfl (by intro _ _ h; cases h)⟩ rfl ?_)
      | (refine wl_v rfl rfl ⟨val_loadOA rfl rfl rfl rfl rfl⟩ rfl ?_)
      | (refine wl_v rfl rfl ⟨val_load rfl rfl rfl⟩ rfl ?_)
      | (refine wl_v rfl rfl ⟨val_load rfl rfl (by first | exact ints_get (by omega) | exact lks_a (by omega) | exact lks_b (by omega) | exact lks_c (by omega))⟩ rfl ?_)
      | (refine wl_v rfl rfl ⟨val_loadA rfl rfl (by first | exact ints_get (by omega) | exact lks_a (by omega) | exact lks_b (by omega) | exact lks_c (by omega)) (by rfl)⟩ rfl ?_)
      | (refine wl_v rfl rfl ⟨val_loadO rfl rfl rfl (by first | exact ints_get (by omega) | exact lks_a (by omega) | exact lks_b (by omega) | exact lks_c (by omega)) (by intro _ _ h; cases h)⟩ rfl ?_)
      | (refine wl_v rfl rfl ⟨val_loadOA rfl rfl rfl (by first | exact ints_get (by omega) | exact lks_a (by omega) | exact lks_b (by omega) | exact lks_c (by omega)) (by rfl)⟩ rfl ?_)
      | (refine wl_e0 rfl rfl ⟨ef_store rfl rfl rfl rfl rfl (by rfl) rfl (by first | rfl | exact Nat.le_of_ble_eq_true rfl | (simp only [axl]; omega))⟩ ?_; rintro _ rfl; (try simp only [axh]); (try simp only [axw]))
      | (refine wl_nil ?_)))))
    | (refine cw_region (id := 6) ?_; (first
      | ((refine wl_v rfl rfl ⟨val_move rfl rfl⟩ rfl ?_); (refine wl_v rfl rfl ⟨val_assign rfl rfl⟩ rfl ?_); (refine wl_nil ?_))
      | (repeat' (first
      | (refine wl_v rfl rfl ⟨val_move rfl rfl⟩ rfl ?_)
      | (refine wl_v rfl rfl ⟨val_assign rfl rfl⟩ rfl ?_)
      | (refine wl_nil ?_))))))
  rw [zero_ints, ← part0_zero 0 zs n]
  refine cw_loop (fun nn st => ∃ k : Nat, k ≤ n ∧ nn = n - k ∧ st = St.mk [(2, .im (.s (.slice none 0 0))), (3, .own 0 n), (4, .im (iI k)), (0, .im (.sl g (intsI zs) n))] [.obj 3 (ims (intsI (part0 0 zs n k))) 1]) ⟨_, _, ⟨0, Nat.zero_le _, rfl, rfl⟩, (imp_go [0] rfl rfl (by decide) (by repeat' (first | exact objs_nil | refine objs_dead ?_ | refine objs_cons rfl rfl (by first | rfl | exact ren_ims _ _) ?_)) (by repeat' (first | exact slots_nil | refine slots_cons rfl ?_)))⟩ ?_
  rintro nn _ ⟨k, hk, rfl, rfl⟩ K hK
  have hpl : (part0 0 zs n k).length = n := part0_len _ _ _ _ hl hk
  repeat' (first
    | (refine q_then_n ?_)
    | (refine q_go (by assumption) ?_)
    | (refine cw_seq fun K hK => ?_)
    | (refine cw_cond rfl (fun hb => ?_) (fun hb => ?_) <;> ((try simp only [hys] at hb) <;> (try (exfalso; first | exact hb | omega | contradiction; done))))
    | (refine cw_block ?_)
    | (refine cw_exit ?_)
    | (refine q_then_e ?_)
    | (refine q_blk_s ?_)
    | (refine q_blk_o rfl ?_)
    | (refine q_blk_n ?_)
    | (refine cw_ret ?_)
    | (refine q_then_r ?_)
    | (refine q_blk_r ?_)
    | (refine cw_skip ?_)
    | (refine cw_region (id := 0) ?_; (first
      | ((refine wl_v rfl rfl ⟨val_assign rfl rfl⟩ rfl ?_); (refine wl_nil ?_))
      | (repeat' (first
      | (refine wl_v rfl rfl ⟨val_assign rfl rfl⟩ rfl ?_)
      | (refine wl_nil ?_)))))
    | (refine cw_region (id := 1) ?_; (first
      | ((refine wl_v rfl rfl ⟨val_move rfl rfl⟩ rfl ?_); (first | (refine wl_v rfl rfl ⟨len_sl rfl rfl⟩ rfl ?_) | (refine wl_v rfl rfl ⟨len_own rfl rfl⟩ rfl ?_) | (refine wl_v rfl rfl ⟨len_nil rfl rfl⟩ rfl ?_) | (refine wl_v rfl rfl ⟨val_lenS Try.runUnderlying9 rfl rfl⟩ rfl ?_)); (refine wl_e rfl rfl ⟨ef_make rfl rfl rfl rfl (by omega)⟩ rfl ?_; rintro _ rfl; (try simp only [axh])); (refine wl_v rfl rfl ⟨val_assign rfl rfl⟩ rfl ?_); (refine wl_nil ?_))
      | (repeat' (first
      | (refine wl_v rfl rfl ⟨val_move rfl rfl⟩ rfl ?_)
      | (refine wl_v rfl rfl ⟨len_sl rfl rfl⟩ rfl ?_)
      | (refine wl_v rfl rfl ⟨len_own rfl rfl⟩ rfl ?_)
      | (refine wl_v rfl rfl ⟨len_nil rfl rfl⟩ rfl ?_)
      | (refine wl_v rfl rfl ⟨val_lenS Try.runUnderlying9 rfl rfl⟩ rfl ?_)
      | (refine wl_e rfl rfl ⟨ef_make rfl rfl rfl rfl (by omega)⟩ rfl ?_; rintro _ rfl; (try simp only [axh]))
      | (refine wl_v rfl rfl ⟨val_assign rfl rfl⟩ rfl ?_)
      | (refine wl_nil ?_)))))
    | (refine cw_region (id := 2) ?_; (first
      | ((refine wl_v rfl rfl ⟨val_assign rfl rfl⟩ rfl ?_); (refine wl_nil ?_))
      | (repeat' (first
      | (refine wl_v rfl rfl ⟨val_assign rfl rfl⟩ rfl ?_)
      | (refine wl_nil ?_)))))
    | (refine cw_region (id := 3) ?_; (first
      | ((refine wl_v rfl rfl ⟨val_move rfl rfl⟩ rfl ?_); (refine wl_v rfl rfl ⟨val_move rfl rfl⟩ rfl ?_); (first | (refine wl_v rfl rfl ⟨len_sl rfl rfl⟩ rfl ?_) | (refine wl_v rfl rfl ⟨len_own rfl rfl⟩ rfl ?_) | (refine wl_v rfl rfl ⟨len_nil rfl rfl⟩ rfl ?_) | (refine wl_v rfl rfl ⟨val_lenS Try.runUnderlying9 rfl rfl⟩ rfl ?_)); (refine wl_v rfl rfl ⟨bin_lss rfl rfl rfl⟩ rfl ?_); (refine wl_nil ?_))
      | (repeat' (first
      | (refine wl_v rfl rfl ⟨val_move rfl rfl⟩ rfl ?_)
      | (refine wl_v rfl rfl ⟨len_sl rfl rfl⟩ rfl ?_)
      | (refine wl_v rfl rfl ⟨len_own rfl rfl⟩ rfl ?_)
      | (refine wl_v rfl rfl ⟨len_nil rfl rfl⟩ rfl ?_)
      | (refine wl_v rfl rfl ⟨val_lenS Try.runUnderlying9 rfl rfl⟩ rfl ?_)
      | (refine wl_v rfl rfl ⟨bin_lss rfl rfl rfl⟩ rfl ?_)
      | (refine wl_nil ?_)))))
    | (refine cw_region (id := 4) ?_; (first
      | ((refine wl_v rfl rfl ⟨val_move rfl rfl⟩ rfl ?_); (first | (refine wl_v rfl rfl ⟨bin_add rfl rfl rfl (by omega)⟩ rfl ?_) | (refine wl_v rfl rfl ⟨bin_addw rfl rfl rfl⟩ rfl ?_)); (refine wl_v rfl rfl ⟨val_assign rfl rfl⟩ rfl ?_); (refine wl_nil ?_))
      | (repeat' (first
      | (refine wl_v rfl rfl ⟨val_move rfl rfl⟩ rfl ?_)
      | (refine wl_v rfl rfl ⟨bin_add rfl rfl rfl (by omega)⟩ rfl ?_)
      | (refine wl_v rfl rfl ⟨bin_addw rfl rfl rfl⟩ rfl ?_)
      | (refine wl_v rfl rfl ⟨val_assign rfl rfl⟩ rfl ?_)
      | (refine wl_nil ?_)))))
    | (refine cw_region (id := 5) ?_; (first
      | ((refine wl_v rfl rfl ⟨val_move rfl rfl⟩ rfl ?_); (refine wl_v rfl rfl ⟨val_move rfl rfl⟩ rfl ?_); (refine wl_v rfl rfl ⟨val_move rfl rfl⟩ rfl ?_); (refine wl_v rfl rfl ⟨val_move rfl rfl⟩ rfl ?_); (first | (refine wl_v rfl rfl ⟨idx_N rfl rfl rfl (by omega)⟩ rfl ?_) | (refine wl_v rfl rfl ⟨idx_NO rfl rfl rfl (by omega)⟩ rfl ?_)); (first | (refine wl_v rfl rfl ⟨val_loadO rfl rfl rfl rfl (by intro _ _ h; cases h)⟩ rfl ?_) | (refine wl_v rfl rfl ⟨val_loadOA rfl rfl rfl rfl rfl⟩ rfl ?_) | (refine wl_v rfl rfl ⟨val_load rfl rfl rfl⟩ rfl ?_) | (refine wl_v rfl rfl ⟨val_load rfl rfl (by first | exact ints_get (by omega) | exact lks_a (by omega) | exact lks_b (by omega) | exact lks_c (by omega))⟩ rfl ?_) | (refine wl_v rfl rfl ⟨val_loadA rfl rfl (by first | exact ints_get (by omega) | exact lks_a (by omega) | exact lks_b (by omega) | exact lks_c (by omega)) (by rfl)⟩ rfl ?_) | (refine wl_v rfl rfl ⟨val_loadO rfl rfl rfl (by first | exact ints_get (by omega) | exact lks_a (by omega) | exact lks_b (by omega) | exact lks_c (by omega)) (by intro _ _ h; cases h)⟩ rfl ?_) | (refine wl_v rfl rfl ⟨val_loadOA rfl rfl rfl (by first | exact ints_get (by omega) | exact lks_a (by omega) | exact lks_b (by omega) | exact lks_c (by omega)) (by rfl)⟩ rfl ?_)); (first | (refine wl_v rfl rfl ⟨idx_N rfl rfl rfl (by omega)⟩ rfl ?_) | (refine wl_v rfl rfl ⟨idx_NO rfl rfl rfl (by omega)⟩ rfl ?_)); (refine wl_e0 rfl rfl ⟨ef_store rfl rfl rfl rfl rfl (by rfl) rfl (by first | rfl | exact Nat.le_of_ble_eq_true rfl | (simp only [axl]; omega))⟩ ?_; rintro _ rfl; (try simp only [axh]); (try simp only [axw])); (refine wl_nil ?_))
      | (repeat' (first
      | (refine wl_v rfl rfl ⟨val_move rfl rfl⟩ rfl ?_)
      | (refine wl_v rfl rfl ⟨idx_N rfl rfl rfl (by omega)⟩ rfl ?_)
      | (refine wl_v rfl rfl ⟨idx_NO rfl rfl rfl (by omega)⟩ rfl ?_)
      | (refine wl_v rfl rfl ⟨val_loadO rfl rfl rfl rfl (by intro _ _ h; cases h)⟩ rfl ?_)
      | (refine wl_v rfl rfl ⟨val_loadOA rfl rfl rfl rfl rfl⟩ rfl ?_)
      | (refine wl_v rfl rfl ⟨val_load rfl rfl rfl⟩ rfl ?_)
      | (refine wl_v rfl rfl ⟨val_load rfl rfl (by first | exact ints_get (by omega) | exact lks_a (by omega) | exact lks_b (by omega) | exact lks_c (by omega))⟩ rfl ?_)
      | (refine wl_v rfl rfl ⟨val_loadA rfl rfl (by first | exact ints_get (by omega) | exact lks_a (by omega) | exact lks_b (by omega) | exact lks_c (by omega)) (by rfl)⟩ rfl ?_)
      | (refine wl_v rfl rfl ⟨val_loadO rfl rfl rfl (by first | exact ints_get (by omega) | exact lks_a (by omega) | exact lks_b (by omega) | exact lks_c (by omega)) (by intro _ _ h; cases h)⟩ rfl ?_)
      | (refine wl_v rfl rfl ⟨val_loadOA rfl rfl rfl (by first | exact ints_get (by omega) | exact lks_a (by omega) | exact lks_b (by omega) | exact lks_c (by omega)) (by rfl)⟩ rfl ?_)
      | (refine wl_e0 rfl rfl ⟨ef_store rfl rfl rfl rfl rfl (by rfl) rfl (by first | rfl | exact Nat.le_of_ble_eq_true rfl | (simp only [axl]; omega))⟩ ?_; rintro _ rfl; (try simp only [axh]); (try simp only [axw]))
      | (refine wl_nil ?_)))))
    | (refine cw_region (id := 6) ?_; (first
      | ((refine wl_v rfl rfl ⟨val_move rfl rfl⟩ rfl ?_); (refine wl_v rfl rfl ⟨val_assign rfl rfl⟩ rfl ?_); (refine wl_nil ?_))
      | (repeat' (first
      | (refine wl_v rfl rfl ⟨val_move rfl rfl⟩ rfl ?_)
      | (refine wl_v rfl rfl ⟨val_assign rfl rfl⟩ rfl ?_)
      | (refine wl_nil ?_))))))
  · rw [wr_ints _ (by omega), part0_set _ _ _ _ _ hl (by omega) (iz_get (by omega))]
    exact ⟨_, _, by omega, ⟨k + 1, by omega, rfl, rfl⟩, (imp_go [0] rfl rfl (by decide) (by repeat' (first | exact objs_nil | refine objs_dead ?_ | refine objs_cons rfl rfl (by first | rfl | exact ren_ims _ _) ?_)) (by repeat' (first | exact slots_nil | refine slots_cons rfl ?_)))⟩
  · obtain rfl : k = n := by omega
    refine end_own (.inr rfl) Try.results19 rfl rfl (newI_ints _) ⟨rfl, ?_⟩
    rw [part0_all _ _ _ hl]
set_option maxHeartbeats 4000000 in
theorem a_toGraph (g : Bool) (ls : List Lk) (p : Int) (n : Nat) (hl : ls.length = n) (hn : n ≤ 16777216) : AC Try.prog 18 [.agg [.im (iI p), .im (.sl g (lksI ls) n)]] (fun d h => d = .agg [.im (iI p), .own 0 n] ∧ h = [.obj 70 (ims (lksI ls)) 3, .dead]) := by
  refine ac_go Try.func18 rfl Try.ntmps18 rfl ?_
  simp only [nums]
  repeat' (first
    | (refine q_then_n ?_)
    | (refine q_go (by assumption) ?_)
    | (refine cw_seq fun K hK => ?_)
    | (refine cw_cond rfl (fun hb => ?_) (fun hb => ?_) <;> ((try simp only [hys] at hb) <;> (try (exfalso; first | exact hb | omega | contradiction; done))))
    | (refine cw_block ?_)
    | (refine cw_exit ?_)
    | (refine q_then_e ?_)
    | (refine q_blk_s ?_)
    | (refine q_blk_o rfl ?_)
    | (refine q_blk_n ?_)
    | (refine cw_ret ?_)
    | (refine q_then_r ?_)
    | (refine q_blk_r ?_)
    | (refine cw_skip ?_)
    | (refine cw_region (id := 0) ?_; (first
      | ((refine wl_e rfl rfl ⟨ef_box rfl rfl rfl rfl⟩ rfl ?_; rintro _ rfl; (try simp only [axh])); (refine wl_e rfl rfl ⟨ef_alloc rfl rfl⟩ rfl ?_; rintro _ rfl; (try simp only [axh])); (refine wl_nil ?_))
      | (repeat' (first
      | (refine wl_e rfl rfl ⟨ef_box rfl rfl rfl rfl⟩ rfl ?_; rintro _ rfl; (try simp only [axh]))
      | (refine wl_e rfl rfl ⟨ef_alloc rfl rfl⟩ rfl ?_; rintro _ rfl; (try simp only [axh]))
      | (refine wl_nil ?_)))))
    | (refine cw_region (id := 1) ?_; (first
      | ((refine wl_e rfl rfl ⟨ef_alloc rfl rfl⟩ rfl ?_; rintro _ rfl; (try simp only [axh])); (refine wl_nil ?_))
      | (repeat' (first
      | (refine wl_e rfl rfl ⟨ef_alloc rfl rfl⟩ rfl ?_; rintro _ rfl; (try simp only [axh]))
      | (refine wl_nil ?_)))))
    | (refine cw_region (id := 2) ?_; (first
      | ((first | (refine wl_v rfl rfl ⟨val_fieldAddr rfl rfl⟩ rfl ?_) | (refine wl_v rfl rfl ⟨val_fieldAddr' rfl rfl⟩ rfl ?_)); (first | (refine wl_v rfl rfl ⟨val_loadO rfl rfl rfl rfl (by intro _ _ h; cases h)⟩ rfl ?_) | (refine wl_v rfl rfl ⟨val_loadOA rfl rfl rfl rfl rfl⟩ rfl ?_) | (refine wl_v rfl rfl ⟨val_load rfl rfl rfl⟩ rfl ?_) | (refine wl_v rfl rfl ⟨val_load rfl rfl (by first | exact ints_get (by omega) | exact lks_a (by omega) | exact lks_b (by omega) | exact lks_c (by omega))⟩ rfl ?_) | (refine wl_v rfl rfl ⟨val_loadA rfl rfl (by first | exact ints_get (by omega) | exact lks_a (by omega) | exact lks_b (by omega) | exact lks_c (by omega)) (by rfl)⟩ rfl ?_) | (refine wl_v rfl rfl ⟨val_loadO rfl rfl rfl (by first | exact ints_get (by omega) | exact lks_a (by omega) | exact lks_b (by omega) | exact lks_c (by omega)) (by intro _ _ h; cases h)⟩ rfl ?_) | (refine wl_v rfl rfl ⟨val_loadOA rfl rfl rfl (by first | exact ints_get (by omega) | exact lks_a (by omega) | exact lks_b (by omega) | exact lks_c (by omega)) (by rfl)⟩ rfl ?_)); (first | (refine wl_v rfl rfl ⟨val_fieldAddr rfl rfl⟩ rfl ?_) | (refine wl_v rfl rfl ⟨val_fieldAddr' rfl rfl⟩ rfl ?_)); (refine wl_e0 rfl rfl ⟨ef_store rfl rfl rfl rfl rfl (by rfl) rfl (by first | rfl | exact Nat.le_of_ble_eq_true rfl | (simp only [axl]; omega))⟩ ?_; rintro _ rfl; (try simp only [axh]); (try simp only [axw])); (refine wl_nil ?_))
      | (repeat' (first
      | (refine wl_v rfl rfl ⟨val_fieldAddr rfl rfl⟩ rfl ?_)
      | (refine wl_v rfl rfl ⟨val_fieldAddr' rfl rfl⟩ rfl ?_)
      | (refine wl_v rfl rfl ⟨val_loadO rfl rfl rfl rfl (by intro _ _ h; cases h)⟩ rfl ?_)
      | (refine wl_v rfl rfl ⟨val_loadOA rfl rfl rfl rfl rfl⟩ rfl ?_)
      | (refine wl_v rfl rfl ⟨val_load rfl rfl rfl⟩ rfl ?_)
      | (refine wl_v rfl rfl ⟨val_load rfl rfl (by first | exact ints_get (by omega) | exact lks_a (by omega) | exact lks_b (by omega) | exact lks_c (by omega))⟩ rfl ?_)
      | (refine wl_v rfl rfl ⟨val_loadA rfl rfl (by first | exact ints_get (by omega) | exact lks_a (by omega) | exact lks_b (by omega) | exact lks_c (by omega)) (by rfl)⟩ rfl ?_)
      | (refine wl_v rfl rfl ⟨val_loadO rfl rfl rfl (by first | exact ints_get (by omega) | exact lks_a (by omega) | exact lks_b (by omega) | exact lks_c (by omega)) (by intro _ _ h; cases h)⟩ rfl ?_)
      | (refine wl_v rfl rfl ⟨val_loadOA rfl rfl rfl (by first | exact ints_get (by omega) | exact lks_a (by omega) | exact lks_b (by omega) | exact lks_c (by omega)) (by rfl)⟩ rfl ?_)
      | (refine wl_e0 rfl rfl ⟨ef_store rfl rfl rfl rfl rfl (by rfl) rfl (by first | rfl | exact Nat.le_of_ble_eq_true rfl | (simp only [axl]; omega))⟩ ?_; rintro _ rfl; (try simp only [axh]); (try simp only [axw]))
      | (refine wl_nil ?_)))))
    | (refine cw_region (id := 3) ?_; (first
      | ((first | (refine wl_v rfl rfl ⟨val_fieldAddr rfl rfl⟩ rfl ?_) | (refine wl_v rfl rfl ⟨val_fieldAddr' rfl rfl⟩ rfl ?_)); (first | (refine wl_v rfl rfl ⟨val_loadO rfl rfl rfl rfl (by intro _ _ h; cases h)⟩ rfl ?_) | (refine wl_v rfl rfl ⟨val_loadOA rfl rfl rfl rfl rfl⟩ rfl ?_) | (refine wl_v rfl rfl ⟨val_load rfl rfl rfl⟩ rfl ?_) | (refine wl_v rfl rfl ⟨val_load rfl rfl (by first | exact ints_get (by omega) | exact lks_a (by omega) | exact lks_b (by omega) | exact lks_c (by omega))⟩ rfl ?_) | (refine wl_v rfl rfl ⟨val_loadA rfl rfl (by first | exact ints_get (by omega) | exact lks_a (by omega) | exact lks_b (by omega) | exact lks_c (by omega)) (by rfl)⟩ rfl ?_) | (refine wl_v rfl rfl ⟨val_loadO rfl rfl rfl (by first | exact ints_get (by omega) | exact lks_a (by omega) | exact lks_b (by omega) | exact lks_c (by omega)) (by intro _ _ h; cases h)⟩ rfl ?_) | (refine wl_v rfl rfl ⟨val_loadOA rfl rfl rfl (by first | exact ints_get (by omega) | exact lks_a (by omega) | exact lks_b (by omega) | exact lks_c (by omega)) (by rfl)⟩ rfl ?_)); (refine wl_e rfl rfl ⟨ef_call rfl rfl (a_toLinkS _ ls n hl hn) (by repeat (first | exact F2.nil | refine F2.cons ⟨_, rfl, ?_⟩ ?_ | refine F2.cons ?_ ?_ | exact fz_s | exact fz_sl (by first | rfl | exact ages_ints _ | exact ages_lks _) | exact fz_own rfl (by decide) (by first | rfl | exact Nat.le_of_ble_eq_true rfl | (simp only [axl]; omega)) (by first | rfl | exact ages_ints _ | exact ages_lks _) | refine fz_agg ?_ | refine fz_fn ?_ | exact fz1_s | exact fz1_sl (by first | rfl | exact ages_ints _ | exact ages_lks _) | exact fz1_ptr rfl | exact fz1_at rfl | exact fz1_own rfl (by decide) (by first | rfl | exact Nat.le_of_ble_eq_true rfl | (simp only [axl]; omega)) (by first | rfl | exact ages_ints _ | exact ages_lks _)))⟩ rfl ?_; rintro _ ⟨_, _, ⟨rfl, rfl⟩, rfl⟩; (try simp only [axh])); (first | (refine wl_v rfl rfl ⟨val_fieldAddr rfl rfl⟩ rfl ?_) | (refine wl_v rfl rfl ⟨val_fieldAddr' rfl rfl⟩ rfl ?_)); (refine wl_e0 rfl rfl ⟨ef_store rfl rfl rfl rfl rfl (by rfl) rfl (by first | rfl | exact Nat.le_of_ble_eq_true rfl | (simp only [axl]; omega))⟩ ?_; rintro _ rfl; (try simp only [axh]); (try simp only [axw])); (refine wl_nil ?_))
      | (repeat' (first
      | (refine wl_v rfl rfl ⟨val_fieldAddr rfl rfl⟩ rfl ?_)
      | (refine wl_v rfl rfl ⟨val_fieldAddr' rfl rfl⟩ rfl ?_)
      | (refine wl_v rfl rfl ⟨val_loadO rfl rfl rfl rfl (by intro _ _ h; cases h)⟩ rfl ?_)
      | (refine wl_v rfl rfl ⟨val_loadOA rfl rfl rfl rfl rfl⟩ rfl ?_)
      | (refine wl_v rfl rfl ⟨val_load rfl rfl rfl⟩ rfl ?_)
      | (refine wl_v rfl rfl ⟨val_load rfl rfl (by first | exact ints_get (by omega) | exact lks_a (by omega) | exact lks_b (by omega) | exact lks_c (by omega))⟩ rfl ?_)
      | (refine wl_v rfl rfl ⟨val_loadA rfl rfl (by first | exact ints_get (by omega) | exact lks_a (by omega) | exact lks_b (by omega) | exact lks_c (by omega)) (by rfl)⟩ rfl ?_)
      | (refine wl_v rfl rfl ⟨val_loadO rfl rfl rfl (by first | exact ints_get (by omega) | exact lks_a (by omega) | exact lks_b (by omega) | exact lks_c (by omega)) (by intro _ _ h; cases h)⟩ rfl ?_)
      | (refine wl_v rfl rfl ⟨val_loadOA rfl rfl rfl (by first | exact ints_get (by omega) | exact lks_a (by omega) | exact lks_b (by omega) | exact lks_c (by omega)) (by rfl)⟩ rfl ?_)
      | (refine wl_e rfl rfl ⟨ef_call rfl rfl (a_toLinkS _ ls n hl hn) (by repeat (first | exact F2.nil | refine F2.cons ⟨_, rfl, ?_⟩ ?_ | refine F2.cons ?_ ?_ | exact fz_s | exact fz_sl (by first | rfl | exact ages_ints _ | exact ages_lks _) | exact fz_own rfl (by decide) (by first | rfl | exact Nat.le_of_ble_eq_true rfl | (simp only [axl]; omega)) (by first | rfl | exact ages_ints _ | exact ages_lks _) | refine fz_agg ?_ | refine fz_fn ?_ | exact fz1_s | exact fz1_sl (by first | rfl | exact ages_ints _ | exact ages_lks _) | exact fz1_ptr rfl | exact fz1_at rfl | exact fz1_own rfl (by decide) (by first | rfl | exact Nat.le_of_ble_eq_true rfl | (simp only [axl]; omega)) (by first | rfl | exact ages_ints _ | exact ages_lks _)))⟩ rfl ?_; rintro _ ⟨_, _, ⟨rfl, rfl⟩, rfl⟩; (try simp only [axh]))
      | (refine wl_e0 rfl rfl ⟨ef_store rfl rfl rfl rfl rfl (by rfl) rfl (by first | rfl | exact Nat.le_of_ble_eq_true rfl | (simp only [axl]; omega))⟩ ?_; rintro _ rfl; (try simp only [axh]); (try simp only [axw]))
      | (refine wl_nil ?_)))))
    | (refine cw_region (id := 4) ?_; (first
      | ((first | (refine wl_v rfl rfl ⟨val_loadO rfl rfl rfl rfl (by intro _ _ h; cases h)⟩ rfl ?_) | (refine wl_v rfl rfl ⟨val_loadOA rfl rfl rfl rfl rfl⟩ rfl ?_) | (refine wl_v rfl rfl ⟨val_load rfl rfl rfl⟩ rfl ?_) | (refine wl_v rfl rfl ⟨val_load rfl rfl (by first | exact ints_get (by omega) | exact lks_a (by omega) | exact lks_b (by omega) | exact lks_c (by omega))⟩ rfl ?_) | (refine wl_v rfl rfl ⟨val_loadA rfl rfl (by first | exact ints_get (by omega) | exact lks_a (by omega) | exact lks_b (by omega) | exact lks_c (by omega)) (by rfl)⟩ rfl ?_) | (refine wl_v rfl rfl ⟨val_loadO rfl rfl rfl (by first | exact ints_get (by omega) | exact lks_a (by omega) | exact lks_b (by omega) | exact lks_c (by omega)) (by intro _ _ h; cases h)⟩ rfl ?_) | (refine wl_v rfl rfl ⟨val_loadOA rfl rfl rfl (by first | exact ints_get (by omega) | exact lks_a (by omega) | exact lks_b (by omega) | exact lks_c (by omega)) (by rfl)⟩ rfl ?_)); (refine wl_e0 rfl rfl ⟨ef_store rfl rfl rfl rfl rfl (by rfl) rfl (by first | rfl | exact Nat.le_of_ble_eq_true rfl | (simp only [axl]; omega))⟩ ?_; rintro _ rfl; (try simp only [axh]); (try simp only [axw])); (refine wl_nil ?_))
      | (repeat' (first
      | (refine wl_v rfl rfl ⟨val_loadO rfl rfl rfl rfl (by intro _ _ h; cases h)⟩ rfl ?_)
      | (refine wl_v rfl rfl ⟨val_loadOA rfl rfl rfl rfl rfl⟩ rfl ?_)
      | (refine wl_v rfl rfl ⟨val_load rfl rfl rfl⟩ rfl ?_)
      | (refine wl_v rfl rfl ⟨val_load rfl rfl (by first | exact ints_get (by omega) | exact lks_a (by omega) | exact lks_b (by omega) | exact lks_c (by omega))⟩ rfl ?_)
      | (refine wl_v rfl rfl ⟨val_loadA rfl rfl (by first | exact ints_get (by omega) | exact lks_a (by omega) | exact lks_b (by omega) | exact lks_c (by omega)) (by rfl)⟩ rfl ?_)
      | (refine wl_v rfl rfl ⟨val_loadO rfl rfl rfl (by first | exact ints_get (by omega) | exact lks_a (by omega) | exact lks_b (by omega) | exact lks_c (by omega)) (by intro _ _ h; cases h)⟩ rfl ?_)
      | (refine wl_v rfl rfl ⟨val_loadOA rfl rfl rfl (by first | exact ints_get (by omega) | exact lks_a (by omega) | exact lks_b (by omega) | exact lks_c (by omega)) (by rfl)⟩ rfl ?_)
      | (refine wl_e0 rfl rfl ⟨ef_store rfl rfl rfl rfl rfl (by rfl) rfl (by first | rfl | exact Nat.le_of_ble_eq_true rfl | (simp only [axl]; omega))⟩ ?_; rintro _ rfl; (try simp only [axh]); (try simp only [axw]))
      | (refine wl_nil ?_))))))
  exact end_box2 (.inr rfl) Try.results18 rfl rfl rfl (by decide) (newI_lks _) ⟨rfl, rfl⟩
end Go.Proofs.Ytkeihpihphefgaa
