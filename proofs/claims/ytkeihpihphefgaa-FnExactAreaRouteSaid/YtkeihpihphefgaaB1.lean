/- Contracts: ranges; whether a graph is valid. -/
import Derived.Test.YtkeihpihphefgaaProg
import Derived.Test.YtkeihpihphefgaaGraph
import Derived.BigQuiet
import Derived.Deep.QuietTactic
import Derived.Deep.DeepCutAuto
import Derived.Deep.LoopGhost
namespace Go.Proofs.Ytkeihpihphefgaa
open Go.RowKit

set_option maxHeartbeats 400000 in
theorem s_In (a b c : Int) (w : World) :
    Calls Try.prog 52 #[.int .i64 a, .int .i64 b, .int .i64 c] w fun e w' => e = .returned (.bool (inB a b c)) ∧ w = w' := by
  go_enter Try.func52, Try.ntmps52
  go_wp2
  all_goals (go_ret; exact ⟨ret_bool (by simp [inB]; try omega), rfl⟩)

set_option maxHeartbeats 400000 in
theorem i_within (a b c : Int) (w : World) :
    Calls Try.prog 48 #[.int .i64 a, .int .i64 b, .int .i64 c] w fun e w' => e = .returned (.bool (inB a b c)) ∧ w = w' := by
  go_enter Try.func48, Try.ntmps48
  go_wp2
  all_goals (go_ret; exact ⟨ret_bool (by simp [inB]; try omega), rfl⟩)


set_option maxRecDepth 100000 in
set_option maxHeartbeats 1000000 in
theorem s_GraphValid (n : Int) (A : Option Addr) (len cap : Nat) (ls : List Lk) (w : World) (h : RdL w A len ls) :
    Calls Try.prog 50 #[.agg #[.int .i64 n, .slice A len cap]] w fun e w' => e = .returned (.bool (gv n ls)) ∧ Below w.heap.size w w' := by
  have hmax := h.2.1
  have HL := Lib.hid h.1
  have HR := Lib.hid h.rule; clear h
  go_enter Try.func50, Try.ntmps50
  go_wp2
  go_loopw [3] (fun i wr => ∃ k : Nat, k ≤ len ∧ i = .int .i64 k ∧ Below w.heap.size w wr ∧ Blk wr w.heap.size 25 #[.int .i64 n, .slice A len cap] ∧ Hid (1 ≤ n → n ≤ 8 → ∀ i, i < k → LkAt n ls i)) (fun i _ => len - (intOf i).toNat)
  case atStart => exact ⟨0, by omega, rfl, (Below.refl _ _).alloc (Nat.le_refl _) _, Blk.new _ _ _, fun _ _ i hi => by omega⟩
  case round =>
    obtain ⟨k, hk, rfl, hb, hB, HOK⟩ := hrel
    have hz := hB.lt
    have q0 := hB.cell 0
    have q1 := hB.cell 1
    have HB := Lib.hid hB; clear hB
    obtain ⟨hc, _⟩ := bcell hb
    have Hb := Lib.hid hb; clear hb
    by_cases hlt : k < len
    · obtain ⟨b, o, rfl, hbb, r0, r1, r2⟩ := HR.out (by omega)
      have hbz : b < wr.heap.size := by omega
      have hlt' : k - 1 < len := by omega
      go_wp2_with (first | (go_at_call 52; refine (s_In _ _ _ _).mono ?_; rintro e w' ⟨rfl, rfl⟩))
      all_goals first
        | (go_ret; refine ⟨ret_bool (gv_at (k := k) (by rw [HL.out]; exact hlt) fun h1 h2 g => ?_).symm, Hb.out.alloc (by omega) _⟩
           unfold LkAt at g
           simp only [wrap_sub1 h1 h2, IntWalk.wrap64_in ((lk ls k).a + 1) (by omega)] at *
           (try simp only [hys] at *)
           omega)
        | (rcases cs_aoa (decide (0 < k)) (decide ((lk ls k).a < (lk ls (k - 1)).a)) ((lk ls (k - 1)).a == (lk ls k).a) (decide ((lk ls k).b ≤ (lk ls (k - 1)).b)) with y0 | ⟨y0, y1⟩ | ⟨y0, y1, y2⟩ | ⟨y0, y1, y2, y3⟩ | ⟨y0, y1, y2, y3⟩
           all_goals
            try (have hk0 : 0 < k := by simpa using y0)
            go_quiet (fail)
            go_wp2
            first
              | (go_ret; refine ⟨ret_bool (gv_at (k := k) (by rw [HL.out]; exact hlt) fun h1 h2 g => ?_).symm, below_drewN (Hb.out.alloc (by omega) _) _⟩
                 have g := g.2.2.2.2.2
                 (try simp only [hys] at *)
                 omega)
              | (go_roundw
                 case rel =>
                   refine ⟨k + 1, by omega, by go_num, below_drewN (Hb.out.alloc (by omega) _) _, (HB.out.alloc _).drewN _, fun h1 h2 i hi => ?_⟩
                   by_cases e : i < k
                   · exact HOK.out h1 h2 i e
                   · obtain rfl : i = k := by omega
                     unfold LkAt
                     simp only [wrap_sub1 h1 h2] at *
                     (try simp only [hys] at *)
                     have e2 := IntWalk.wrap64_in ((lk ls i).a + 1) (by omega)
                     simp only [e2] at *
                     omega
                 case measure => simp [intOf]; omega))
    · obtain rfl : k = len := by omega
      have hfin := Lib.hid (gv_end HL.out HOK.out)
      go_wp2_with (first | (go_at_call 52; refine (s_In _ _ _ _).mono ?_; rintro e w' ⟨rfl, rfl⟩))
      all_goals
        go_ret
        refine ⟨ret_bool ?_, Hb.out⟩
        rw [hfin.out]
        simp [*]


set_option maxRecDepth 100000 in
set_option maxHeartbeats 1000000 in
theorem i_GraphValid (n : Int) (A : Option Addr) (len cap : Nat) (ls : List Lk) (w : World) (h : RdL w A len ls) :
    Calls Try.prog 46 #[.agg #[.int .i64 n, .slice A len cap]] w fun e w' => e = .returned (.bool (gv n ls)) ∧ Below w.heap.size w w' := by
  have hmax := h.2.1
  have HL := Lib.hid h.1
  have HR := Lib.hid h.rule; clear h
  rcases cs_and (inB n 1 8) (decide ((len : Int) ≤ 14)) with y0 | ⟨y0, y1⟩ | ⟨y0, y1⟩
  · go_enter Try.func46, Try.ntmps46
    go_wp2_with (first | (go_at_call 48; refine (i_within _ _ _ _).mono ?_; rintro e w' ⟨rfl, rfl⟩))
    go_ret
    refine ⟨ret_bool (gv_f fun g => ?_).symm, (Below.refl _ _).alloc (Nat.le_refl _) _⟩
    have := g.1; have := g.2.1
    (try simp only [hys] at *)
    omega
  · have z1 : (14 : Int) < len := by simpa using y1
    go_enter Try.func46, Try.ntmps46
    go_wp2_with (first | (go_at_call 48; refine (i_within _ _ _ _).mono ?_; rintro e w' ⟨rfl, rfl⟩))
    go_ret
    refine ⟨ret_bool (gv_f fun g => ?_).symm, (Below.refl _ _).alloc (Nat.le_refl _) _⟩
    have := g.2.2.1
    rw [HL.out] at this
    omega
  · have z1 : len ≤ 14 := by simp at y1; omega
    have hn := inB_t y0
    have hn1 := hn.1
    have hn2 := hn.2
    clear hn
    go_enter Try.func46, Try.ntmps46
    go_wp2_with (first | (go_at_call 48; refine (i_within _ _ _ _).mono ?_; rintro e w' ⟨rfl, rfl⟩))
    go_loopw [18] (fun i wr => ∃ k : Nat, k ≤ len ∧ i = .int .i64 k ∧ Below w.heap.size w wr ∧ Blk wr w.heap.size 25 #[.int .i64 n, .slice A len cap] ∧ Hid (∀ i, i < k → LkAt n ls i)) (fun i _ => len - (intOf i).toNat)
    case atStart => exact ⟨0, by omega, rfl, (Below.refl _ _).alloc (Nat.le_refl _) _, Blk.new _ _ _, fun i hi => by omega⟩
    case round =>
      obtain ⟨k, hk, rfl, hb, hB, HOK⟩ := hrel
      have hz := hB.lt
      have q0 := hB.cell 0
      have q1 := hB.cell 1
      have HB := Lib.hid hB; clear hB
      obtain ⟨hc, _⟩ := bcell hb
      have Hb := Lib.hid hb; clear hb
      by_cases hlt : k < len
      · obtain ⟨b, o, rfl, hbb, r0, r1, r2⟩ := HR.out (by omega)
        have hbz : b < wr.heap.size := by omega
        have hlt' : k - 1 < len := by omega
        go_wp2_with (first | (go_at_call 48; refine (i_within _ _ _ _).mono ?_; rintro e w' ⟨rfl, rfl⟩))
        all_goals first
          | (go_ret; refine ⟨ret_bool (gv_at (k := k) (by rw [HL.out]; exact hlt) fun h1 h2 g => ?_).symm, Hb.out.alloc (by omega) _⟩
             unfold LkAt at g
             (try simp only [hys] at *)
             omega)
          | (rcases cs_aoa (decide (0 < k)) (decide ((lk ls k).a < (lk ls (k - 1)).a)) ((lk ls (k - 1)).a == (lk ls k).a) (decide ((lk ls k).b ≤ (lk ls (k - 1)).b)) with y2 | ⟨y2, y3⟩ | ⟨y2, y3, y4⟩ | ⟨y2, y3, y4, y5⟩ | ⟨y2, y3, y4, y5⟩
             all_goals
              try (have hk0 : 0 < k := by simpa using y2)
              go_quiet (fail)
              go_wp2
              first
                | (go_ret; refine ⟨ret_bool (gv_at (k := k) (by rw [HL.out]; exact hlt) fun h1 h2 g => ?_).symm, below_drewN (Hb.out.alloc (by omega) _) _⟩
                   have g := g.2.2.2.2.2
                   (try simp only [hys] at *)
                   omega)
                | (go_roundw
                   case rel =>
                     refine ⟨k + 1, by omega, by go_num, below_drewN (Hb.out.alloc (by omega) _) _, (HB.out.alloc _).drewN _, fun i hi => ?_⟩
                     by_cases e : i < k
                     · exact HOK.out i e
                     · obtain rfl : i = k := by omega
                       unfold LkAt
                       (try simp only [hys] at *)
                       omega
                   case measure => simp [intOf]; omega))
      · obtain rfl : k = len := by omega
        go_wp2
        go_ret
        exact ⟨ret_bool (Eq.symm (decide_eq_true ⟨hn1, hn2, by rw [HL.out]; exact z1, fun i hi => HOK.out i (by rw [HL.out] at hi; exact hi)⟩)), Hb.out⟩
end Go.Proofs.Ytkeihpihphefgaa
