/- Contracts: AreaSummary, the program's and the reference's. -/
import Derived.Test.YtkeihpihphefgaaB2
import Derived.Test.YtkeihpihphefgaaB5
namespace Go.Proofs.Ytkeihpihphefgaa
open Go.RowKit

/-- A summary. -/
def summL (d bs : List Int) (k : Nat) : List Int := (bs.take k).map fun b => iz d b.toNat
def summ (n : Int) (ls : List Lk) (bs : List Int) (t : Int) : List Int :=
  if bv n ls bs && inB t 0 (n - 1) then summL (dists n.toNat ls t.toNat) bs bs.length else []
theorem summ_no {n : Int} {ls : List Lk} {bs : List Int} {t : Int} (h : (bv n ls bs && inB t 0 (n - 1)) = false) : summ n ls bs t = [] := by simp [summ, h]
theorem summ_ok {n f len : Nat} {ls : List Lk} {bs : List Int} (h1 : bv n ls bs = true) (h2 : inB f 0 (n - 1) = true) (hl : bs.length = len) : summ n ls bs f = summL (dists n ls f) bs len := by
  simp [summ, h1, h2, hl]
theorem summL_zero (d bs : List Int) : summL d bs 0 = [] := by simp [summL]
theorem summL_succ (d bs : List Int) (k j : Nat) (h : k < bs.length) (hj : iz bs k = j) : summL d bs (k + 1) = summL d bs k ++ [iz d j] := by
  have e : bs[k]? = some (j : Int) := by rw [iz_get h, hj]
  simp [summL, List.take_add_one, e]
theorem summL_len (d bs : List Int) (k : Nat) (h : k ≤ bs.length) : (summL d bs k).length = k := by simp [summL]; omega
theorem bv_t {n : Int} {ls : List Lk} {bs : List Int} (h : bv n ls bs = true) : GV n ls ∧ 0 < bs.length ∧ Asc bs n := by
  simp only [bv, Bool.and_eq_true, decide_eq_true_eq] at h
  exact ⟨gv_t h.1.1, h.1.2, of_decide_eq_true h.2⟩
theorem RdI.grown {w w' : World} {A : Option Addr} {len : Nat} {zs : List Int} {row : Option Nat} (h : RdI w A len zs) (hg : w.grownBy w' row) (hr : ∀ b o, A = some ⟨b, o, none⟩ → row ≠ some b) : RdI w' A len zs := ⟨h.1, h.2.1, h.2.2.grown hg hr⟩
theorem RdL.grown {w w' : World} {A : Option Addr} {len : Nat} {ls : List Lk} {row : Option Nat} (h : RdL w A len ls) (hg : w.grownBy w' row) (hr : ∀ b o, A = some ⟨b, o, none⟩ → row ≠ some b) : RdL w' A len ls := ⟨h.1, h.2.1, h.2.2.grown hg hr⟩

set_option maxRecDepth 100000 in
set_option maxHeartbeats 1000000 in
theorem i_AreaSummary (n t : Int) (A : Option Addr) (len cap : Nat) (ls : List Lk) (B : Option Addr) (lb cb : Nat) (bs : List Int) (w : World) (h : RdL w A len ls) (hB : RdI w B lb bs) :
    Calls Try.prog 12 #[.agg #[.int .i64 n, .slice A len cap], .slice B lb cb, .int .i64 t] w fun e w' => ∃ v, e = .returned v ∧ w'.ownsRow w.heap.size 3 1 v (summ n ls bs t).length (ints (summ n ls bs t)) ∧ Below w.heap.size w w' := by
  have HR := Lib.hid h; clear h
  have HS := Lib.hid hB
  have HL := Lib.hid hB.1
  have hbig := hB.2.1
  clear hB
  rcases cs_bool (bv n ls bs) with y0 | y0
  · go_enter Try.func12, Try.ntmps12
    go_wp2_with (first | (go_at_call 32; refine (i_bordersValid _ _ _ _ ls _ _ _ bs _ (HR.out.alloc _) (HS.out.alloc _)).mono ?_; rintro e w1 ⟨rfl, hb⟩; obtain ⟨hc, _⟩ := bcell hb))
    go_ret
    rw [summ_no (by simp [y0])]
    exact ⟨_, rfl, World.ownsRow_nil _ _ _ _, ((Below.refl _ _).alloc (Nat.le_refl _) _).trans (hb.mono (by simp))⟩
  have hyg : gv n ls = true := by simp only [bv, Bool.and_eq_true] at y0; exact y0.1.1
  rcases cs_bool (inB t 0 (n - 1)) with y1 | y1
  · go_enter Try.func12, Try.ntmps12
    go_wp2_with (first | (go_at_call 32; refine (i_bordersValid _ _ _ _ ls _ _ _ bs _ (HR.out.alloc _) (HS.out.alloc _)).mono ?_; rintro e w1 ⟨rfl, hb⟩; obtain ⟨hc, _⟩ := bcell hb) | (go_at_call 33; refine (i_hasNode _ _ _ _ _ ls _ ((HR.out.alloc _).below hb)).mono ?_; rintro e w2 ⟨rfl, hb2⟩; obtain ⟨hc2, _⟩ := bcell hb2))
    go_ret
    rw [summ_no (by simp [y1])]
    exact ⟨_, rfl, World.ownsRow_nil _ _ _ _, (((Below.refl _ _).alloc (Nat.le_refl _) _).trans (hb.mono (by simp))).trans (hb2.mono (by have := hb.size; simp at this; omega))⟩
  obtain ⟨hv, hl0, hasc⟩ := bv_t y0
  obtain ⟨hn1, hn2, _⟩ := id hv
  have ht := inB_t y1
  obtain ⟨N, rfl⟩ := Int.eq_ofNat_of_zero_le (show 0 ≤ n by omega)
  obtain ⟨F, rfl⟩ := Int.eq_ofNat_of_zero_le (show 0 ≤ t by omega)
  have hF : F < N := by omega
  rw [summ_ok y0 y1 HL.out, summL_len _ _ _ (Nat.le_of_eq HL.out.symm)]
  have HV := Lib.hid hv; clear hv
  have HA := Lib.hid hasc; clear hasc
  have HT := Lib.hid ht; clear ht
  rw [HL.out] at hl0
  go_enter Try.func12, Try.ntmps12
  go_wp2_with (first | (go_at_call 32; refine (i_bordersValid _ _ _ _ ls _ _ _ bs _ (HR.out.alloc _) (HS.out.alloc _)).mono ?_; rintro e w1 ⟨rfl, hb⟩; obtain ⟨hc, _⟩ := bcell hb; have hg : w.heap.size < w1.heap.size := (by have := hb.size; simp only [World.size_alloc] at this; omega)) | (go_at_call 33; refine (i_hasNode _ _ _ _ _ ls _ ((HR.out.alloc _).below hb)).mono ?_; rintro e w2 ⟨rfl, hb2⟩; obtain ⟨hc2, _⟩ := bcell hb2; have hg2 : w.heap.size < w2.heap.size := (by have := hb2.size; omega)) | (go_at_call 34; refine (i_distances _ _ _ _ _ ls _ ((((HR.out.alloc _).below hb).below hb2).alloc _) HV.out hF).mono ?_; rintro e w3 ⟨D, cD, rfl, hD, hb3⟩; have hg3 := hb3.size; simp only [World.size_alloc] at hg3))
  have HD := Lib.hid hD; clear hD
  have HO : Hid (w3.ownsRow w.heap.size 3 1 (.slice (some ⟨w2.heap.size, 0, none⟩) 0 0) 0 []) := (own_made (by omega) rfl : (w2.alloc _).ownsRow w.heap.size 3 1 _ 0 []).kept (only_of_below hb3 none) (by right; simp [Value.ownBlock])
  have HN : Hid (∀ b o, D = some ⟨b, o, none⟩ → some w2.heap.size ≠ some b) := by
    rintro b o rfl e
    injection e with e
    subst e
    obtain ⟨b', o', e', hlt, r⟩ := HD.out.rule (show 0 < N by omega)
    injection e' with e'
    injection e' with e1 e2
    subst e1 e2
    have r0 := r 0 (by omega)
    rw [hb3.cell (p := ⟨w2.heap.size, o + 0, none⟩) (by simp), (Blk.new w2 _ #[]).cell] at r0
    simp at r0
  have HW : Hid (Below w.heap.size w w3) := ((((Below.refl _ _).alloc (Nat.le_refl _) _).trans (hb.mono (by simp))).trans (hb2.mono (by omega))).alloc (by omega) _ |>.trans (hb3.mono (by simp; omega))
  clear hb hb2 hb3 hc hc2 hg hg2 hg3
  generalize w2.heap.size = g2 at *
  obtain ⟨d, hdd⟩ : ∃ d, d = dists N ls F := ⟨_, rfl⟩
  rw [← hdd] at HD
  have Hdd := Lib.hid hdd; clear hdd
  go_loopw [7, 27] (fun v i wr => ∃ k : Nat, k ≤ lb ∧ i = .int .i64 k ∧ Hid (wr.ownsRow w.heap.size 3 1 v k (ints (summL d bs k))) ∧ Hid (RdI wr D N d) ∧ Hid (∀ b o, D = some ⟨b, o, none⟩ → v.ownBlock ≠ some b) ∧ Hid (Below w.heap.size w wr)) (fun _ i _ => lb - (intOf i).toNat)
  case atStart => exact ⟨0, by omega, rfl, by rw [summL_zero]; exact HO, HD, HN, HW⟩
  case round =>
    clear HO HD HN HW
    obtain ⟨k, hk, rfl, HO, HD, HN, HW⟩ := hrel
    by_cases hlt : k < lb
    · obtain ⟨hc, _⟩ := bcell HW.out
      have hsz := HW.out.size
      obtain ⟨bB, oB, rfl, hbB, rB⟩ := HS.out.rule hl0
      obtain ⟨gd, od, rfl, hgd, rD⟩ := HD.out.rule (show 0 < N by omega)
      obtain ⟨a1, a2, _⟩ := HA.out k (by rw [HL.out]; exact hlt)
      obtain ⟨j, hj⟩ := Int.eq_ofNat_of_zero_le a1
      have r0 := rB k hlt
      rw [hj] at r0 a2
      have hjN : j < N := by omega
      have r1 := rD j hjN
      have HJ := Lib.hid hj
      clear rB rD a1 a2 hj
      go_wp2_with (at_builtin; refine wpl_app el_int rfl (.tmp 31) (.tmp 36) rfl (w.heap.size) _ k _ rfl (HO.out.alloc _) _ 1 [.int .i64 (iz d j)] rfl rfl (heap_alloc_new _ _) (by simp [Value.oneCell']) (by omega) (by simp; omega) ?_; intro v1 w1 hown1 hg1 hor)
      have HO1 := Lib.hid hown1
      have HD1 : Hid (RdI w1 (some ⟨gd, od, none⟩) N d) := (HD.out.alloc _).grown hg1 HN.out
      have HN1 : Hid (∀ b o, (some ⟨gd, od, none⟩ : Option Addr) = some ⟨b, o, none⟩ → v1.ownBlock ≠ some b) := by
        intro b o e e1
        rcases hor with h1 | h1
        · exact HN.out b o e (h1 ▸ e1)
        · rw [h1] at e1
          injection e1 with e1
          injection e with e
          injection e with e e2
          simp at e1
          omega
      have HW1 : Hid (Below w.heap.size w w1) := (HW.out.alloc hsz _).grown hg1 (by simp; omega) (fun b e => (HO.out.lt b e).1)
      clear hown1 hg1 hor HO HD HN HW
      go_wp2_with fail
      go_roundw
      case rel =>
        refine ⟨k + 1, by omega, by go_num, ?_, HD1, HN1, HW1⟩
        rw [summL_succ d bs k j (by rw [HL.out]; exact hlt) HJ.out, ints_app]
        exact HO1
      case measure => simp [intOf]; omega
    · obtain rfl : k = lb := by omega
      go_wp2_with fail
      go_ret
      rw [← Hdd.out]
      exact ⟨_, rfl, HO.out, HW.out⟩

set_option maxRecDepth 100000 in
set_option maxHeartbeats 2000000 in
theorem s_AreaSummary (n t : Int) (A : Option Addr) (len cap : Nat) (ls : List Lk) (B : Option Addr) (lb cb : Nat) (bs : List Int) (w : World) (h : RdL w A len ls) (hB : RdI w B lb bs) :
    Calls Try.prog 13 #[.agg #[.int .i64 n, .slice A len cap], .slice B lb cb, .int .i64 t] w fun e w' => ∃ v, e = .returned v ∧ w'.ownsRow w.heap.size 3 1 v (summ n ls bs t).length (ints (summ n ls bs t)) ∧ Below w.heap.size w w' := by
  have HR := Lib.hid h; clear h
  have HS := Lib.hid hB
  have HL := Lib.hid hB.1
  have hbig := hB.2.1
  clear hB
  rcases Nat.eq_zero_or_pos lb with hl0 | hl0
  · subst hl0
    have hn : bs = [] := List.length_eq_zero_iff.1 HL.out
    subst hn
    go_enter Try.func13, Try.ntmps13
    go_wp2_with fail
    go_loopw [7, 8] (fun v i wr => v = .slice (some ⟨w.heap.size + 1, 0, none⟩) 0 0 ∧ i = .int .i64 0 ∧ Hid (wr.ownsRow w.heap.size 3 1 v 0 []) ∧ Hid (Below w.heap.size w wr)) (fun _ _ _ => 0)
    case atStart => exact ⟨rfl, rfl, Lib.hid (own_made (by simp) (by simp)), ((Below.refl _ _).alloc (Nat.le_refl _) _).alloc (by simp) _⟩
    case round =>
      obtain ⟨rfl, rfl, HO, HW⟩ := hrel
      go_wp2_with fail
      go_ret
      have e : summ n ls [] t = [] := by simp [summ, summL]
      rw [e]
      exact ⟨_, rfl, HO.out, HW.out⟩
  rcases cs_bool (bv n ls bs) with y0 | y0
  · go_enter Try.func13, Try.ntmps13
    go_wp2_with fail
    go_loopw [7, 8] (fun v i wr => v = .slice (some ⟨w.heap.size + 1, 0, none⟩) 0 0 ∧ i = .int .i64 0 ∧ Hid (wr.ownsRow w.heap.size 3 1 v 0 []) ∧ Hid (Blk wr w.heap.size 25 #[.int .i64 n, .slice A len cap]) ∧ Hid (Below w.heap.size w wr)) (fun _ _ _ => 0)
    case atStart => exact ⟨rfl, rfl, Lib.hid (own_made (by simp) (by simp)), (Blk.new _ _ _).alloc _, ((Below.refl _ _).alloc (Nat.le_refl _) _).alloc (by simp) _⟩
    case round =>
      obtain ⟨rfl, rfl, HO, HG, HW⟩ := hrel
      have q0 := HG.out.cell 0
      have q1 := HG.out.cell 1
      go_wp2_with (first | (go_at_call 35; refine (s_l31Borders _ _ _ _ ls _ _ _ bs _ (HR.out.below HW.out) (HS.out.below HW.out)).mono ?_; rintro e w1 ⟨rfl, hb⟩))
      go_ret
      rw [summ_no (by simp [y0])]
      exact ⟨_, rfl, HO.out.kept (only_of_below hb none) (by right; simp [Value.ownBlock]), HW.out.trans (hb.mono HW.out.size)⟩
  obtain ⟨hv, hl0', hasc⟩ := bv_t y0
  obtain ⟨hn1, hn2, _⟩ := id hv
  rcases cs_bool (inB t 0 (n - 1)) with y1 | y1
  · go_enter Try.func13, Try.ntmps13
    go_wp2_with fail
    go_loopw [7, 8] (fun v i wr => v = .slice (some ⟨w.heap.size + 1, 0, none⟩) 0 0 ∧ i = .int .i64 0 ∧ Hid (wr.ownsRow w.heap.size 3 1 v 0 []) ∧ Hid (Blk wr w.heap.size 25 #[.int .i64 n, .slice A len cap]) ∧ Hid (Below w.heap.size w wr)) (fun _ _ _ => 0)
    case atStart => exact ⟨rfl, rfl, Lib.hid (own_made (by simp) (by simp)), (Blk.new _ _ _).alloc _, ((Below.refl _ _).alloc (Nat.le_refl _) _).alloc (by simp) _⟩
    case round =>
      obtain ⟨rfl, rfl, HO, HG, HW⟩ := hrel
      have q0 := HG.out.cell 0
      have q1 := HG.out.cell 1
      have hz := HG.out.lt
      go_wp2_with (first | (go_at_call 35; refine (s_l31Borders _ _ _ _ ls _ _ _ bs _ (HR.out.below HW.out) (HS.out.below HW.out)).mono ?_; rintro e w1 ⟨rfl, hb⟩; obtain ⟨hc, _⟩ := bcell hb) | (go_at_call 36; refine (s_l1Node _ _ _ _ hn1 hn2).mono ?_; rintro e w2 ⟨rfl, hb2⟩))
      go_ret
      rw [summ_no (by simp [y1])]
      have hb3 := hb.trans (hb2.mono hb.size)
      exact ⟨_, rfl, HO.out.kept (only_of_below hb3 none) (by right; simp [Value.ownBlock]), HW.out.trans (hb3.mono HW.out.size)⟩
  have ht := inB_t y1
  obtain ⟨N, rfl⟩ := Int.eq_ofNat_of_zero_le (show 0 ≤ n by omega)
  obtain ⟨F, rfl⟩ := Int.eq_ofNat_of_zero_le (show 0 ≤ t by omega)
  have hF : F < N := by omega
  rw [summ_ok y0 y1 HL.out, summL_len _ _ _ (Nat.le_of_eq HL.out.symm)]
  have HV := Lib.hid hv; clear hv
  have HA := Lib.hid hasc; clear hasc
  have HT := Lib.hid ht; clear ht
  go_enter Try.func13, Try.ntmps13
  go_wp2_with fail
  obtain ⟨d, hdd⟩ : ∃ d, d = dists N ls F := ⟨_, rfl⟩
  have Hdd := Lib.hid hdd; clear hdd
  go_loopw [7, 8] (fun v i wr => ∃ k : Nat, k ≤ lb ∧ i = .int .i64 k ∧ Hid (wr.ownsRow w.heap.size 3 1 v k (ints (summL d bs k))) ∧ Hid (Blk wr w.heap.size 25 #[.int .i64 N, .slice A len cap]) ∧ Hid (∀ b, v.ownBlock = some b → w.heap.size < b) ∧ Hid (Below w.heap.size w wr)) (fun _ i _ => lb - (intOf i).toNat)
  case atStart => exact ⟨0, by omega, rfl, Lib.hid (by rw [summL_zero]; exact own_made (by simp) (by simp)), (Blk.new _ _ _).alloc _, Lib.hid (by intro b e; simp [Value.ownBlock] at e; omega), ((Below.refl _ _).alloc (Nat.le_refl _) _).alloc (by simp) _⟩
  case round =>
    obtain ⟨k, hk, rfl, HO, HG, HN, HW⟩ := hrel
    have q0 := HG.out.cell 0
    have q1 := HG.out.cell 1
    have hz := HG.out.lt
    by_cases hlt : k < lb
    · go_wp2_with (first | (go_at_call 35; refine (s_l31Borders _ _ _ _ ls _ _ _ bs _ (HR.out.below HW.out) (HS.out.below HW.out)).mono ?_; rintro e w1 ⟨rfl, hb⟩; obtain ⟨hc, _⟩ := bcell hb) | (go_at_call 36; refine (s_l1Node _ _ _ _ hn1 hn2).mono ?_; rintro e w2 ⟨rfl, hb2⟩))
      have hb3 := hb.trans (hb2.mono hb.size)
      have HO1 : Hid (w2.ownsRow w.heap.size 3 1 u7 k (ints (summL d bs k))) := own_below HO.out hb3
      have HG1 : Hid (Blk w2 w.heap.size 25 #[.int .i64 N, .slice A len cap]) := HG.out.below hb3
      have HW1 : Hid (Below w.heap.size w w2) := HW.out.trans (hb3.mono HW.out.size)
      clear HO HG HW q0 q1 hz hb hb2 hb3 hc
      have q0 := HG1.out.cell 0
      have q1 := HG1.out.cell 1
      have hz := HG1.out.lt
      obtain ⟨hc, _⟩ := bcell HW1.out
      have hsz := HW1.out.size
      obtain ⟨bB, oB, rfl, hbB, rB⟩ := HS.out.rule hl0
      obtain ⟨a1, a2, _⟩ := HA.out k (by rw [HL.out]; exact hlt)
      obtain ⟨j, hj⟩ := Int.eq_ofNat_of_zero_le a1
      have r0 := rB k hlt
      rw [hj] at r0 a2
      have hjN : j < N := by omega
      have HJ := Lib.hid hj
      have hbz : bB < w2.heap.size := by omega
      clear rB a1 a2 hj
      refine wp_plan 11 [(0, true), (1, true), (2, true), (4, true), (5, true), (6, true), (7, true), (3, true), (8, true), (9, false), (10, true)] (by kernel_rfl) (by kernel_rfl) fun hx9 => ?_
      simp only [picked, List.filterMap_cons, List.filterMap_nil, List.getElem?_cons_zero, List.getElem?_cons_succ, Option.map_some, List.drop_succ_cons, List.drop_zero]
      repeat (first | refine wpPlan_skip rfl ?_ | (refine wpPlan_val rfl rfl (fun K hK => ?_); go_big_quiet_op; refine hK _ ?_; clear hK K))
      try refine wpPlan_nil ?_
      refine wpPlan_eff rfl rfl (fun K hK => ?_); unfold Oper.wp; go_simp
      refine (s_l2Distances N F A len cap ls w2.drew ((HR.out.below HW1.out).drewN 1) HV.out hF).mono ?_
      rintro e w3 ⟨D, cD, rfl, hD, hb3⟩
      have hb4 : Below w2.heap.size w2 w3 := ((Below.refl _ w2).drew).trans hb3
      refine hK _ _ ⟨⟨w3, hb4⟩, rfl⟩ ?_
      clear hK K
      rw [← Hdd.out] at hD
      obtain ⟨gd, od, rfl, hgd, rD⟩ := hD.rule (show 0 < N by omega)
      have r1 := rD j hjN
      clear rD
      repeat (first | refine wpPlan_skip rfl ?_ | (refine wpPlan_val rfl rfl (fun K hK => ?_); go_big_quiet_op; refine hK _ ?_; clear hK K))
      try refine wpPlan_nil ?_
      refine wpPlan_eff rfl rfl (fun K hK => ?_); unfold Oper.wp; go_simp
      refine hK _ _ ⟨⟨w3, hb4⟩, rfl⟩ ?_
      clear hK K
      repeat (first | refine wpPlan_skip rfl ?_ | (refine wpPlan_val rfl rfl (fun K hK => ?_); go_big_quiet_op; refine hK _ ?_; clear hK K))
      try refine wpPlan_nil ?_
      refine wpPlan_eff rfl rfl (fun K hK => ?_); unfold Oper.wp; go_simp
      refine hK _ _ ⟨⟨w3.alloc (.cells #[.int .i64 (iz d j)] 3), hb4.alloc hb4.size _⟩, rfl⟩ ?_
      clear hK K
      repeat (first | refine wpPlan_skip rfl ?_ | (refine wpPlan_val rfl rfl (fun K hK => ?_); go_big_quiet_op; refine hK _ ?_; clear hK K))
      try refine wpPlan_nil ?_
      have HO3 := own_below HO1.out hb4
      have hz3 := hb4.size
      go_wp2_with (at_builtin; refine wpl_app el_int rfl (.tmp 26) (.tmp 36) rfl (w.heap.size) _ k _ rfl (HO3.alloc _) _ 1 [.int .i64 (iz d j)] rfl rfl (heap_alloc_new _ _) (by simp [Value.oneCell']) (by omega) (by simp; omega) ?_; intro v1 w1 hown1 hg1 hor)
      have HO4 := Lib.hid hown1
      have hlt3 := HO3.lt
      have HG4 : Hid (Blk w1 w.heap.size 25 #[.int .i64 N, .slice A len cap]) := ((HG1.out.below hb4).alloc _).grown hg1 (fun e => by have := HN.out _ e; omega)
      have HW4 : Hid (Below w.heap.size w w1) := ((HW1.out.trans (hb4.mono hsz)).alloc (by omega) _).grown hg1 (by simp; omega) (fun b e => (hlt3 b e).1)
      have HN4 : Hid (∀ b, v1.ownBlock = some b → w.heap.size < b) := by
        intro b e
        rcases hor with h1 | h1
        · exact HN.out b (h1 ▸ e)
        · rw [h1] at e
          injection e with e
          simp only [World.size_alloc] at e
          omega
      clear hown1 hg1 hor HO1 HG1 HW1 HN hb3 hb4 q0 q1 hz hD r0 r1 hx9 HO3 hlt3
      go_wp2_with fail
      go_roundw
      case rel =>
        refine ⟨k + 1, by omega, by go_num, ?_, HG4, HN4, HW4⟩
        rw [summL_succ d bs k j (by rw [HL.out]; exact hlt) HJ.out, ints_app]
        exact HO4
      case measure => simp [intOf]; omega
    · obtain rfl : k = lb := by omega
      go_wp2_with fail
      go_ret
      rw [← Hdd.out]
      exact ⟨_, rfl, HO.out, HW.out⟩
end Go.Proofs.Ytkeihpihphefgaa
