/- Contracts: nodes in order; border nodes; whether a graph has a node. -/
import Derived.Test.YtkeihpihphefgaaB1
namespace Go.Proofs.Ytkeihpihphefgaa
open Go.RowKit

/-- Nodes that ascend, below a bound. -/
def Asc (zs : List Int) (n : Int) : Prop := ∀ i, i < zs.length → 0 ≤ iz zs i ∧ iz zs i < n ∧ (0 < i → iz zs (i - 1) < iz zs i)
instance (zs : List Int) (n : Int) : Decidable (Asc zs n) := by unfold Asc; infer_instance
def asc (zs : List Int) (n : Int) : Bool := decide (Asc zs n)

theorem Asc.le {zs : List Int} {n : Int} (h : Asc zs n) {i : Nat} (j : Nat) (hj : i + j < zs.length) : iz zs i ≤ iz zs (i + j) := by
  induction j with
  | zero => exact Int.le_refl _
  | succ j ih =>
    have h1 := (h (i + (j + 1)) hj).2.2 (by omega)
    have h2 := ih (by omega)
    rw [show i + (j + 1) - 1 = i + j by omega] at h1
    omega
theorem asc_last {zs : List Int} {n : Int} {len : Nat} (hl : zs.length = len) (h0 : 0 < len) (h8 : asc zs 8 = true) (_ : n ≤ 8) : asc zs n = decide (iz zs (len - 1) < n) := by
  have h := of_decide_eq_true h8
  unfold asc
  by_cases e : iz zs (len - 1) < n
  · rw [decide_eq_true e, decide_eq_true_eq]
    intro i hi
    have h1 := h.le (i := i) (len - 1 - i) (by omega)
    rw [show i + (len - 1 - i) = len - 1 by omega] at h1
    have h2 := h i hi
    exact ⟨h2.1, by omega, h2.2.2⟩
  · rw [decide_eq_false e, decide_eq_false_iff_not]
    intro g
    have := g (len - 1) (by omega)
    omega
theorem asc_8 {zs : List Int} {n : Int} (_ : n ≤ 8) (h8 : asc zs 8 = false) : asc zs n = false := by
  refine decide_eq_false fun g => of_decide_eq_false h8 fun i hi => ?_
  have := g i hi
  exact ⟨this.1, by omega, this.2.2⟩

set_option maxRecDepth 100000 in
set_option maxHeartbeats 1000000 in
theorem i_nodesAscend (n : Int) (A : Option Addr) (len cap : Nat) (zs : List Int) (w : World) (h : RdI w A len zs) (h0 : 0 ≤ n) (h1 : n ≤ 10000) :
    Calls Try.prog 47 #[.slice A len cap, .int .i64 n] w fun e w' => e = .returned (.bool (asc zs n)) ∧ w = w' := by
  have hmax := h.2.1
  have HL := Lib.hid h.1
  have HR := Lib.hid h.rule; clear h
  go_enter Try.func47, Try.ntmps47
  go_wp2
  go_loop [9] (fun i => ∃ k : Nat, k ≤ len ∧ i = .int .i64 k ∧ Hid (∀ i, i < k → 0 ≤ iz zs i ∧ iz zs i < n ∧ (0 < i → iz zs (i - 1) < iz zs i))) (fun i => len - (intOf i).toNat)
  case atStart => exact ⟨0, by omega, rfl, fun i hi => by omega⟩
  case round =>
    obtain ⟨k, hk, rfl, HOK⟩ := hrel
    by_cases hlt : k < len
    · obtain ⟨b, o, rfl, hb, hc⟩ := HR.out (by omega)
      have hlt' : k - 1 < len := by omega
      go_wp2_with (first | (go_at_call 48; refine (i_within _ _ _ _).mono ?_; rintro e w' ⟨rfl, rfl⟩))
      all_goals
        first
          | (go_ret; refine ⟨ret_bool (Eq.symm (decide_eq_false fun g => ?_)), rfl⟩
             have g1 := g k (by rw [HL.out]; exact hlt)
             (try simp only [hys] at *)
             omega)
          | (go_round
             case rel =>
              refine ⟨k + 1, by omega, by go_num, fun i hi => ?_⟩
              by_cases e : i < k
              · exact HOK.out i e
              · obtain rfl : i = k := by omega
                (try simp only [hys] at *)
                omega
             case measure => simp [intOf]; omega)
    · go_wp2
      go_ret
      exact ⟨ret_bool (Eq.symm (decide_eq_true fun i hi => HOK.out i (by rw [HL.out] at hi; omega))), rfl⟩

set_option maxRecDepth 100000 in
set_option maxHeartbeats 1000000 in
theorem s_l12Nodes (A : Option Addr) (len cap : Nat) (zs : List Int) (w : World) (h : RdI w A len zs) :
    Calls Try.prog 51 #[.slice A len cap] w fun e w' => e = .returned (.bool (asc zs 8)) ∧ Drawn w w' := by
  have hmax := h.2.1
  have HL := Lib.hid h.1
  have HR := Lib.hid h.rule; clear h
  go_enter Try.func51, Try.ntmps51
  go_wp2
  go_loopw [3] (fun i wr => ∃ k : Nat, k ≤ len ∧ i = .int .i64 k ∧ Drawn w wr ∧ Hid (∀ i, i < k → 0 ≤ iz zs i ∧ iz zs i < 8 ∧ (0 < i → iz zs (i - 1) < iz zs i))) (fun i _ => len - (intOf i).toNat)
  case atStart => exact ⟨0, by omega, rfl, Drawn.refl _, fun i hi => by omega⟩
  case round =>
    obtain ⟨k, hk, rfl, ⟨n0, rfl⟩, HOK⟩ := hrel
    by_cases hlt : k < len
    · obtain ⟨b, o, rfl, hb, hc⟩ := HR.out (by omega)
      have hlt' : k - 1 < len := by omega
      go_wp2_with fail
      rcases cs_aa (inB (iz zs k) 0 7) (decide (0 < k)) (decide (iz zs k ≤ iz zs (k - 1))) with y0 | ⟨y0, y1⟩ | ⟨y0, y1, y2⟩ | ⟨y0, y1, y2⟩
      all_goals
        try (have hk0 : 0 < k := by simpa using y1)
        go_quiet ((go_at_call 52; exact q_add_left (s_In _ _ _ _)))
        go_wp2
        all_goals first
          | (go_ret; refine ⟨ret_bool (Eq.symm (decide_eq_false fun g => ?_)), by first | exact Drawn.more _ | exact Drawn.two _ _⟩
             have g1 := g k (by rw [HL.out]; exact hlt)
             (try simp only [hys] at *)
             omega)
          | (go_roundw
             case rel =>
              refine ⟨k + 1, by omega, by go_num, Drawn.more _, fun i hi => ?_⟩
              by_cases e : i < k
              · exact HOK.out i e
              · obtain rfl : i = k := by omega
                (try simp only [hys] at *)
                omega
             case measure => simp [intOf]; omega)
    · go_wp2
      go_ret
      exact ⟨ret_bool (Eq.symm (decide_eq_true fun i hi => HOK.out i (by rw [HL.out] at hi; omega))), Drawn.more _⟩

set_option maxHeartbeats 400000 in
theorem i_hasNode (n m : Int) (A : Option Addr) (len cap : Nat) (ls : List Lk) (w : World) (h : RdL w A len ls) :
    Calls Try.prog 33 #[.agg #[.int .i64 n, .slice A len cap], .int .i64 m] w fun e w' => e = .returned (.bool (gv n ls && inB m 0 (n - 1))) ∧ Below w.heap.size w w' := by
  have HR := Lib.hid h; clear h
  rcases cs_bool (gv n ls) with y0 | y0
  · go_enter Try.func33, Try.ntmps33
    go_wp2_with (first | (go_at_call 46; refine (i_GraphValid _ _ _ _ ls _ (HR.out.alloc _)).mono ?_; rintro e w1 ⟨rfl, hb⟩; obtain ⟨hc, _⟩ := bcell hb))
    go_ret
    exact ⟨ret_bool (by simp [y0]), ((Below.refl _ _).alloc (Nat.le_refl _) _).trans (hb.mono (by simp))⟩
  · have hn := gv_t y0
    have hn1 := hn.1
    have hn2 := hn.2.1
    clear hn
    go_enter Try.func33, Try.ntmps33
    go_wp2_with (first | (go_at_call 46; refine (i_GraphValid _ _ _ _ ls _ (HR.out.alloc _)).mono ?_; rintro e w1 ⟨rfl, hb⟩; obtain ⟨hc, _⟩ := bcell hb) | (go_at_call 48; refine (i_within _ _ _ _).mono ?_; rintro e w' ⟨rfl, rfl⟩))
    go_ret
    exact ⟨ret_bool (by simp [y0]), ((Below.refl _ _).alloc (Nat.le_refl _) _).trans (hb.mono (by simp))⟩

set_option maxHeartbeats 400000 in
theorem s_l1Node (n m : Int) (v : Value) (w : World) (hn1 : 1 ≤ n) (hn2 : n ≤ 8) :
    Calls Try.prog 36 #[.agg #[.int .i64 n, v], .int .i64 m] w fun e w' => e = .returned (.bool (inB m 0 (n - 1))) ∧ Below w.heap.size w w' := by
  go_enter Try.func36, Try.ntmps36
  go_wp2_with (first | (go_at_call 52; refine (s_In _ _ _ _).mono ?_; rintro e w' ⟨rfl, rfl⟩))
  go_ret
  exact ⟨rfl, (Below.refl _ _).alloc (Nat.le_refl _) _⟩

def bv (n : Int) (ls : List Lk) (bs : List Int) : Bool := gv n ls && decide (0 < bs.length) && asc bs n

set_option maxHeartbeats 400000 in
theorem i_bordersValid (n : Int) (A : Option Addr) (len cap : Nat) (ls : List Lk) (B : Option Addr) (lb cb : Nat) (bs : List Int) (w : World) (h : RdL w A len ls) (hB : RdI w B lb bs) :
    Calls Try.prog 32 #[.agg #[.int .i64 n, .slice A len cap], .slice B lb cb] w fun e w' => e = .returned (.bool (bv n ls bs)) ∧ Below w.heap.size w w' := by
  have HR := Lib.hid h; clear h
  have HS := Lib.hid hB
  have HL := Lib.hid hB.1
  have hbig := hB.2.1
  clear hB
  rcases cs_bool (gv n ls) with y0 | y0
  · go_enter Try.func32, Try.ntmps32
    go_wp2_with (first | (go_at_call 46; refine (i_GraphValid _ _ _ _ ls _ (HR.out.alloc _)).mono ?_; rintro e w1 ⟨rfl, hb⟩; obtain ⟨hc, _⟩ := bcell hb))
    go_ret
    exact ⟨ret_bool (by simp [bv, y0]), ((Below.refl _ _).alloc (Nat.le_refl _) _).trans (hb.mono (by simp))⟩
  · have hn := gv_t y0
    have hn1 := hn.1
    have hn2 := hn.2.1
    clear hn
    rcases Nat.eq_zero_or_pos lb with z0 | z0
    · subst z0
      go_enter Try.func32, Try.ntmps32
      go_wp2_with (first | (go_at_call 46; refine (i_GraphValid _ _ _ _ ls _ (HR.out.alloc _)).mono ?_; rintro e w1 ⟨rfl, hb⟩; obtain ⟨hc, _⟩ := bcell hb))
      go_ret
      exact ⟨ret_bool (by simp [bv, HL.out]), ((Below.refl _ _).alloc (Nat.le_refl _) _).trans (hb.mono (by simp))⟩
    · go_enter Try.func32, Try.ntmps32
      go_wp2_with (first | (go_at_call 46; refine (i_GraphValid _ _ _ _ ls _ (HR.out.alloc _)).mono ?_; rintro e w1 ⟨rfl, hb⟩; obtain ⟨hc, _⟩ := bcell hb) | (go_at_call 47; refine (i_nodesAscend _ _ _ _ bs _ ((HS.out.alloc _).below hb) (by omega) (by omega)).mono ?_; rintro e w' ⟨rfl, rfl⟩))
      go_ret
      exact ⟨ret_bool (by simp [bv, y0, HL.out, z0]), ((Below.refl _ _).alloc (Nat.le_refl _) _).trans (hb.mono (by simp))⟩

set_option maxHeartbeats 400000 in
theorem s_l31Borders (n : Int) (A : Option Addr) (len cap : Nat) (ls : List Lk) (B : Option Addr) (lb cb : Nat) (bs : List Int) (w : World) (h : RdL w A len ls) (hB : RdI w B lb bs) :
    Calls Try.prog 35 #[.agg #[.int .i64 n, .slice A len cap], .slice B lb cb] w fun e w' => e = .returned (.bool (bv n ls bs)) ∧ Below w.heap.size w w' := by
  have HR := Lib.hid h; clear h
  have HS := Lib.hid hB
  have HL := Lib.hid hB.1
  have hbig := hB.2.1
  clear hB
  have hv : gv n ls = true → 1 ≤ n ∧ n ≤ 8 := fun h => ⟨(gv_t h).1, (gv_t h).2.1⟩
  rcases cs_bool (gv n ls) with y0 | y0
  · go_enter Try.func35, Try.ntmps35
    go_wp2
    refine wp_region_calm (by kernel_rfl) (by kernel_rfl) fun hx9 => ?_
    repeat (go_big_quiet_step ((first | (go_at_call 50; exact calm_call (bool_as (s_GraphValid _ _ _ _ ls _ ((HR.out.alloc _).below (Lat.ok _))) y0)))))
    refine wpQuiet_nil ?_
    rintro w9 ⟨⟨_, hb9⟩, rfl⟩
    obtain ⟨hc9, _⟩ := bcell hb9
    go_wp2
    go_ret
    exact ⟨ret_bool (by simp [bv, y0]), ((Below.refl _ _).alloc (Nat.le_refl _) _).trans (hb9.mono (by simp))⟩
  obtain ⟨hn1, hn2⟩ := hv y0
  clear hv
  rcases cs_bool (asc bs 8) with y1 | y1
  · go_enter Try.func35, Try.ntmps35
    go_wp2
    refine wp_region_calm (by kernel_rfl) (by kernel_rfl) fun hx9 => ?_
    repeat (go_big_quiet_step ((first | (go_at_call 50; exact calm_call (bool_as (s_GraphValid _ _ _ _ ls _ ((HR.out.alloc _).below (Lat.ok _))) y0)) | (go_at_call 51; exact calm_drawn (bool_as (s_l12Nodes _ _ _ bs _ ((HS.out.alloc _).below (Lat.ok _))) y1)))))
    refine wpQuiet_nil ?_
    rintro w9 ⟨⟨_, hb9⟩, rfl⟩
    obtain ⟨hc9, _⟩ := bcell hb9
    go_wp2
    go_ret
    exact ⟨ret_bool (by simp [bv, asc_8 hn2 y1]), ((Below.refl _ _).alloc (Nat.le_refl _) _).trans (hb9.mono (by simp))⟩
  rcases Nat.eq_zero_or_pos lb with z0 | z0
  · subst z0
    go_enter Try.func35, Try.ntmps35
    go_wp2
    refine wp_region_calm (by kernel_rfl) (by kernel_rfl) fun hx9 => ?_
    repeat (go_big_quiet_step ((first | (go_at_call 50; exact calm_call (bool_as (s_GraphValid _ _ _ _ ls _ ((HR.out.alloc _).below (Lat.ok _))) y0)) | (go_at_call 51; exact calm_drawn (bool_as (s_l12Nodes _ _ _ bs _ ((HS.out.alloc _).below (Lat.ok _))) y1)))))
    refine wpQuiet_nil ?_
    rintro w9 ⟨⟨_, hb9⟩, rfl⟩
    obtain ⟨hc9, _⟩ := bcell hb9
    go_wp2
    go_ret
    exact ⟨ret_bool (by simp [bv, HL.out]), ((Below.refl _ _).alloc (Nat.le_refl _) _).trans (hb9.mono (by simp))⟩
  · have hq := Lib.hid (asc_last (n := n) HL.out z0 y1 hn2)
    obtain ⟨b, o, rfl, hbb, hc⟩ := HS.out.rule z0
    have z1 : lb - 1 < lb := by omega
    go_enter Try.func35, Try.ntmps35
    go_wp2
    refine wp_region_calm (by kernel_rfl) (by kernel_rfl) fun hx9 => ?_
    repeat (go_big_quiet_step ((first | (go_at_call 50; exact calm_call (bool_as (s_GraphValid _ _ _ _ ls _ ((HR.out.alloc _).below (Lat.ok _))) y0)) | (go_at_call 51; exact calm_drawn (bool_as (s_l12Nodes _ _ _ bs _ ((HS.out.alloc _).below (Lat.ok _))) y1)))))
    refine wpQuiet_nil ?_
    rintro w9 ⟨⟨_, hb9⟩, rfl⟩
    obtain ⟨hc9, _⟩ := bcell hb9
    go_wp2
    go_ret
    exact ⟨ret_bool (by simp [bv, y0, HL.out, z0, hq.out]), ((Below.refl _ _).alloc (Nat.le_refl _) _).trans (hb9.mono (by simp))⟩
end Go.Proofs.Ytkeihpihphefgaa
