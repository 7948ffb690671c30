/- Contract: AreaRoute, the reference's. -/
import Derived.Test.YtkeihpihphefgaaA2
namespace Go.Proofs.Ytkeihpihphefgaa
open Go.RowKit

theorem route_n {na nb f t : Int} {la lb : List Lk} {bs : List Int} (h : routeOk na la nb lb bs f t = false) : route na la nb lb bs f t = (-1, -1) := by unfold route; rw [h]; rfl

set_option maxRecDepth 100000 in
set_option maxHeartbeats 4000000 in
theorem s_AreaRoute (na nb f t : Int) (A : Option Addr) (lena capa : Nat) (la : List Lk) (A' : Option Addr) (lenb capb : Nat) (lb : List Lk) (B : Option Addr) (lo cb : Nat) (bs : List Int) (w : World) (h : RdL w A lena la) (h' : RdL w A' lenb lb) (hB : RdI w B lo bs) :
    Calls Try.prog 17 #[.agg #[.int .i64 na, .slice A lena capa], .agg #[.int .i64 nb, .slice A' lenb capb], .slice B lo cb, .int .i64 f, .int .i64 t] w fun e w' => e = .returned (.tuple #[.int .i64 (route na la nb lb bs f t).1, .int .i64 (route na la nb lb bs f t).2]) ∧ Below w.heap.size w w' := by
  have HRa : Hid (RdL ((w.alloc (.cells #[.int .i64 na, .slice A lena capa] 25)).alloc (.cells #[.int .i64 nb, .slice A' lenb capb] 25)) A lena la) := (h.alloc _).alloc _
  have HRb : Hid (RdL ((w.alloc (.cells #[.int .i64 na, .slice A lena capa] 25)).alloc (.cells #[.int .i64 nb, .slice A' lenb capb] 25)) A' lenb lb) := (h'.alloc _).alloc _
  have HSd : Hid (RdI ((w.alloc (.cells #[.int .i64 na, .slice A lena capa] 25)).alloc (.cells #[.int .i64 nb, .slice A' lenb capb] 25)) B lo bs) := (hB.alloc _).alloc _
  have HWd : Hid (Below w.heap.size w ((w.alloc (.cells #[.int .i64 na, .slice A lena capa] 25)).alloc (.cells #[.int .i64 nb, .slice A' lenb capb] 25))) := ((Below.refl _ _).alloc (Nat.le_refl _) _).alloc (by simp) _
  have hsd : w.heap.size ≤ ((w.alloc (.cells #[.int .i64 na, .slice A lena capa] 25)).alloc (.cells #[.int .i64 nb, .slice A' lenb capb] 25)).heap.size := HWd.out.size
  have HL := Lib.hid hB.1
  have hbig' : bs.length ≤ 16777216 := by rw [hB.1]; exact hB.2.1
  clear h h' hB
  have hv : ∀ {n : Int} {ls : List Lk}, bv n ls bs = true → 1 ≤ n ∧ n ≤ 8 := fun h => by obtain ⟨hv, _, _⟩ := bv_t h; exact ⟨hv.1, hv.2.1⟩
  rcases cs_bool (bv na la bs) with y1 | y1
  · have hno := Lib.hid (route_n (na := na) (la := la) (nb := nb) (lb := lb) (bs := bs) (f := f) (t := t) (by simp [routeOk, y1]))
    go_enter Try.func17, Try.ntmps17
    go_wp2_with (first | (go_at_call 35; refine (s_l31Borders _ _ _ _ la _ _ _ bs _ HRa.out HSd.out).mono ?_; rintro e w1 ⟨rfl, hb1⟩))
    go_ret2
    rw [hno.out]
    exact ⟨rfl, HWd.out.trans (hb1.mono hsd)⟩
  rcases cs_bool (bv nb lb bs) with y2 | y2
  · have hno := Lib.hid (route_n (na := na) (la := la) (nb := nb) (lb := lb) (bs := bs) (f := f) (t := t) (by simp [routeOk, y2]))
    go_enter Try.func17, Try.ntmps17
    go_wp2_with (first | (go_at_call_of 35 (Value.agg #[.int .i64 na, .slice A lena capa]); refine (s_l31Borders _ _ _ _ la _ _ _ bs _ HRa.out HSd.out).mono ?_; rintro e w1 ⟨rfl, hb1⟩; obtain ⟨hc1, _⟩ := bcell hb1) | (go_at_call_of 35 (Value.agg #[.int .i64 nb, .slice A' lenb capb]); refine (s_l31Borders _ _ _ _ lb _ _ _ bs _ (HRb.out.below hb1) (HSd.out.below hb1)).mono ?_; rintro e w2 ⟨rfl, hb2⟩))
    go_ret2
    rw [hno.out]
    exact ⟨rfl, HWd.out.trans ((hb1.trans (hb2.mono hb1.size)).mono hsd)⟩
  obtain ⟨a1, a2⟩ := hv y1
  obtain ⟨b1, b2⟩ := hv y2
  clear hv
  rcases cs_bool (inB f 0 (na - 1)) with y3 | y3
  · have hno := Lib.hid (route_n (na := na) (la := la) (nb := nb) (lb := lb) (bs := bs) (f := f) (t := t) (by simp [routeOk, y3]))
    go_enter Try.func17, Try.ntmps17
    go_wp2_with (first | (go_at_call_of 35 (Value.agg #[.int .i64 na, .slice A lena capa]); refine (s_l31Borders _ _ _ _ la _ _ _ bs _ HRa.out HSd.out).mono ?_; rintro e w1 ⟨rfl, hb1⟩; obtain ⟨hc1, _⟩ := bcell hb1; have hy1 : w.heap.size < w1.heap.size := (by have := hb1.size; simp at this; omega); have hz1 : w.heap.size + 1 < w1.heap.size := (by have := hb1.size; simp at this; omega)) | (go_at_call_of 35 (Value.agg #[.int .i64 nb, .slice A' lenb capb]); refine (s_l31Borders _ _ _ _ lb _ _ _ bs _ (HRb.out.below hb1) (HSd.out.below hb1)).mono ?_; rintro e w2 ⟨rfl, hb2⟩; obtain ⟨hc2, _⟩ := bcell hb2; have hy2 : w.heap.size < w2.heap.size := (by have := hb2.size; omega); have hz2 : w.heap.size + 1 < w2.heap.size := (by have := hb2.size; omega)) | (go_at_call_of 36 (Value.agg #[.int .i64 na, .slice A lena capa]); refine (s_l1Node _ _ _ _ a1 a2).mono ?_; rintro e w3 ⟨rfl, hb3⟩; obtain ⟨hc3, _⟩ := bcell hb3; have hy3 : w.heap.size < w3.heap.size := (by have := hb3.size; omega); have hz3 : w.heap.size + 1 < w3.heap.size := (by have := hb3.size; omega)))
    go_ret2
    rw [hno.out]
    exact ⟨rfl, HWd.out.trans ((hb1.trans ((hb2.trans (hb3.mono hb2.size)).mono hb1.size)).mono hsd)⟩
  rcases cs_bool (inB t 0 (nb - 1)) with y4 | y4
  · have hno := Lib.hid (route_n (na := na) (la := la) (nb := nb) (lb := lb) (bs := bs) (f := f) (t := t) (by simp [routeOk, y4]))
    go_enter Try.func17, Try.ntmps17
    go_wp2_with (first | (go_at_call_of 35 (Value.agg #[.int .i64 na, .slice A lena capa]); refine (s_l31Borders _ _ _ _ la _ _ _ bs _ HRa.out HSd.out).mono ?_; rintro e w1 ⟨rfl, hb1⟩; obtain ⟨hc1, _⟩ := bcell hb1; have hy1 : w.heap.size < w1.heap.size := (by have := hb1.size; simp at this; omega); have hz1 : w.heap.size + 1 < w1.heap.size := (by have := hb1.size; simp at this; omega)) | (go_at_call_of 35 (Value.agg #[.int .i64 nb, .slice A' lenb capb]); refine (s_l31Borders _ _ _ _ lb _ _ _ bs _ (HRb.out.below hb1) (HSd.out.below hb1)).mono ?_; rintro e w2 ⟨rfl, hb2⟩; obtain ⟨hc2, _⟩ := bcell hb2; have hy2 : w.heap.size < w2.heap.size := (by have := hb2.size; omega); have hz2 : w.heap.size + 1 < w2.heap.size := (by have := hb2.size; omega)) | (go_at_call_of 36 (Value.agg #[.int .i64 na, .slice A lena capa]); refine (s_l1Node _ _ _ _ a1 a2).mono ?_; rintro e w3 ⟨rfl, hb3⟩; obtain ⟨hc3, _⟩ := bcell hb3; have hy3 : w.heap.size < w3.heap.size := (by have := hb3.size; omega); have hz3 : w.heap.size + 1 < w3.heap.size := (by have := hb3.size; omega)) | (go_at_call_of 36 (Value.agg #[.int .i64 nb, .slice A' lenb capb]); refine (s_l1Node _ _ _ _ b1 b2).mono ?_; rintro e w4 ⟨rfl, hb4⟩))
    go_ret2
    rw [hno.out]
    exact ⟨rfl, HWd.out.trans ((hb1.trans ((hb2.trans ((hb3.trans (hb4.mono hb3.size)).mono hb2.size)).mono hb1.size)).mono hsd)⟩
  have z1 := summ_zero (n := na) (ls := la) (bs := bs) (t := f) (by simp [y1, y3])
  have z2 := summ_zero (n := nb) (ls := lb) (bs := bs) (t := t) (by simp [y2, y4])
  obtain ⟨_, _, _, hasc, hro⟩ := route_yes (t := t) (nb := nb) (lb := lb) (f := f) (na := na) (la := la) (bs := bs) (by omega) (by omega)
  go_enter Try.func17, Try.ntmps17
  go_upto_region 3 with (first | (go_at_call_of 35 (Value.agg #[.int .i64 na, .slice A lena capa]); refine (s_l31Borders _ _ _ _ la _ _ _ bs _ HRa.out HSd.out).mono ?_; rintro e w1 ⟨rfl, hb1⟩; obtain ⟨hc1, _⟩ := bcell hb1; have hy1 : w.heap.size < w1.heap.size := (by have := hb1.size; simp at this; omega); have hz1 : w.heap.size + 1 < w1.heap.size := (by have := hb1.size; simp at this; omega)) | (go_at_call_of 35 (Value.agg #[.int .i64 nb, .slice A' lenb capb]); refine (s_l31Borders _ _ _ _ lb _ _ _ bs _ (HRb.out.below hb1) (HSd.out.below hb1)).mono ?_; rintro e w2 ⟨rfl, hb2⟩; obtain ⟨hc2, _⟩ := bcell hb2; have hy2 : w.heap.size < w2.heap.size := (by have := hb2.size; omega); have hz2 : w.heap.size + 1 < w2.heap.size := (by have := hb2.size; omega)) | (go_at_call_of 36 (Value.agg #[.int .i64 na, .slice A lena capa]); refine (s_l1Node _ _ _ _ a1 a2).mono ?_; rintro e w3 ⟨rfl, hb3⟩; obtain ⟨hc3, _⟩ := bcell hb3; have hy3 : w.heap.size < w3.heap.size := (by have := hb3.size; omega); have hz3 : w.heap.size + 1 < w3.heap.size := (by have := hb3.size; omega)) | (go_at_call_of 36 (Value.agg #[.int .i64 nb, .slice A' lenb capb]); refine (s_l1Node _ _ _ _ b1 b2).mono ?_; rintro e w4 ⟨rfl, hb4⟩))
  have HB4 : Hid (Below ((w.alloc (.cells #[.int .i64 na, .slice A lena capa] 25)).alloc (.cells #[.int .i64 nb, .slice A' lenb capb] 25)).heap.size ((w.alloc (.cells #[.int .i64 na, .slice A lena capa] 25)).alloc (.cells #[.int .i64 nb, .slice A' lenb capb] 25)) w4) := hb1.trans ((hb2.trans ((hb3.trans (hb4.mono hb3.size)).mono hb2.size)).mono hb1.size)
  have HW4 : Hid (Below w.heap.size w w4) := HWd.out.trans (HB4.out.mono hsd)
  have HR4 := Lib.hid (HRa.out.below HB4.out)
  have HS4 := Lib.hid (HRb.out.below HB4.out)
  have HI4 := Lib.hid (HSd.out.below HB4.out)
  have g0 : w4.cell? ⟨w.heap.size, 0, none⟩ = some (.int .i64 na) := (HB4.out.cell (p := ⟨w.heap.size, 0, none⟩) (by simp; omega)).trans (by go_simp)
  have g1 : w4.cell? ⟨w.heap.size, 1, none⟩ = some (.slice A lena capa) := (HB4.out.cell (p := ⟨w.heap.size, 1, none⟩) (by simp; omega)).trans (by go_simp)
  have g2 : w4.cell? ⟨w.heap.size + 1, 0, none⟩ = some (.int .i64 nb) := (HB4.out.cell (p := ⟨w.heap.size + 1, 0, none⟩) (by simp)).trans (by go_simp)
  have g3 : w4.cell? ⟨w.heap.size + 1, 1, none⟩ = some (.slice A' lenb capb) := (HB4.out.cell (p := ⟨w.heap.size + 1, 1, none⟩) (by simp)).trans (by go_simp)
  have g4 : w.heap.size + 1 < w4.heap.size := by have := HB4.out.size; simp at this; omega
  clear hb1 hb2 hb3 hb4 hc1 hc2 hc3 HRa HRb HSd HWd HB4 hsd y1 y2 y3 y4
  go_upto_region 5 with (first | (go_at_call_of 13 (Value.agg #[.int .i64 na, .slice A lena capa]); go_must (refine (s_AreaSummary _ _ _ _ _ la _ _ _ bs _ HR4.out HI4.out).mono ?_); intro e w5 h5; obtain ⟨O1, l1, c1, rfl, hO, hb5⟩ := summ_rd hbig' h5; clear h5; obtain ⟨hc5, _⟩ := bcell hb5) | (go_at_call_of 13 (Value.agg #[.int .i64 nb, .slice A' lenb capb]); go_must (refine (s_AreaSummary _ _ _ _ _ lb _ _ _ bs _ (HS4.out.below hb5) (HI4.out.below hb5)).mono ?_); intro e w6 h6; obtain ⟨O2, l2, c2, rfl, hP, hb6⟩ := summ_rd hbig' h6; clear h6))
  have HO : Hid (RdI w6 O1 l1 (summ na la bs f)) := hO.below hb6
  have HP : Hid (RdI w6 O2 l2 (summ nb lb bs t)) := hP
  have HSx : Hid (RdI w6 B lo bs) := (HI4.out.below hb5).below hb6
  have HW : Hid (Below w.heap.size w w6) := HW4.out.trans ((hb5.trans (hb6.mono hb5.size)).mono HW4.out.size)
  have e1 := HO.out.1
  have e2 := HP.out.1
  have e3 := HL.out
  have hone := Lib.hid (summ_low (n := na) (ls := la) (bs := bs) (t := f))
  have htwo := Lib.hid (summ_low (n := nb) (ls := lb) (bs := bs) (t := t))
  have HRO := Lib.hid hro
  have HA := Lib.hid hasc
  obtain rfl : l1 = lo := by omega
  obtain rfl : l2 = l1 := by omega
  have hl2 : l2 ≤ 16777216 := HP.out.2.1
  clear hro hasc e1 e2 e3 hb5 hb6 hc5 hO hP z1 z2 g0 g1 g2 g3 g4 HR4 HS4 HI4 HW4
  generalize summ na la bs f = one at *
  generalize summ nb lb bs t = two at *
  obtain ⟨wc, hwc⟩ : ∃ wc : World, wc = w6 := ⟨_, rfl⟩
  subst hwc
  go_wp2_with fail
  go_loopw [14, 15, 16] (fun a b i wr => ∃ k : Nat, k ≤ l2 ∧ i = .int .i64 k ∧ a = .int .i64 (rtN bs one two k).1 ∧ b = .int .i64 (rtN bs one two k).2 ∧ Drawn wc wr) (fun _ _ i _ => l2 - (intOf i).toNat)
  case atStart => exact ⟨0, by omega, rfl, rfl, rfl, by first | exact Drawn.refl _ | exact Drawn.more _⟩
  case round =>
    obtain ⟨k, hk, rfl, rfl, rfl, n0, rfl⟩ := hrel
    by_cases hlt : k < l2
    · skip
      have hp1 := (hone.out k).1
      have hp2 := (hone.out k).2
      have hq1 := (htwo.out k).1
      have hq2 := (htwo.out k).2
      obtain ⟨b1, o1, rfl, hb1, c1⟩ := HO.out.rule (by omega)
      obtain ⟨b2, o2, rfl, hb2, c2⟩ := HP.out.rule (by omega)
      obtain ⟨b3, o3, rfl, hb3, c3⟩ := HSx.out.rule (by omega)
      have r1 := c1 k hlt
      have r2 := c2 k hlt
      have r3 := c3 k hlt
      clear c1 c2 c3
      have hstep : Hid (rtN bs one two (k + 1) = if goB one two k (rtN bs one two k).2 then (iz bs k, iz one k + iz two k) else rtN bs one two k) := rfl
      obtain ⟨hd1, hd2, hsame⟩ := rtN_rng hone.out htwo.out HA.out k (by rw [HL.out]; omega)
      replace hsame := Lib.hid hsame
      obtain ⟨p, hp⟩ : ∃ p, p = (rtN bs one two k).1 := ⟨_, rfl⟩
      obtain ⟨q, hq⟩ : ∃ q, q = (rtN bs one two k).2 := ⟨_, rfl⟩
      rw [← hq] at hd1 hd2 hstep
      rw [← hp, ← hq] at hsame ⊢
      have HPQ := Lib.hid (And.intro hp hq)
      clear hp hq
      obtain ⟨x, hx⟩ : ∃ x, x = iz one k := ⟨_, rfl⟩
      obtain ⟨y, hy⟩ : ∃ y, y = iz two k := ⟨_, rfl⟩
      rw [← hx] at r1 hp1 hp2
      rw [← hy] at r2 hq1 hq2
      have HXY := Lib.hid (And.intro hx hy)
      clear hx hy
      go_upto_region 10 with (fail)
      go_cut [81] (fun s w' => s = .bool (goB one two k q) ∧ Drawn (wc.drewN n0) w')
      case first =>
        rcases cs_aao (decide (0 ≤ x)) (decide (0 ≤ y)) (decide (q < 0)) (decide (x + y < q)) with y0 | ⟨y0, y1⟩ | ⟨y0, y1, y2⟩ | ⟨y0, y1, y2, y3⟩ | ⟨y0, y1, y2, y3⟩
        all_goals
          try (have y2' := hsame.out.trans y2)
          go_quiet (fail)
          go_wp2_with fail
          go_meet
          refine ⟨?_, by first | exact Drawn.more _ | exact Drawn.two _ _⟩
          unfold goB
          rw [← HXY.out.1, ← HXY.out.2]
          simp [*]
      case rest =>
        obtain ⟨rfl, nq, rfl⟩ := hcut
        go_wp2_with fail
        · have yg : goB one two k q = true := by assumption
          refine wp_plan 9 [(0, true), (1, true), (2, true), (3, true), (4, true), (5, true), (6, true), (7, true), (8, true)] (by kernel_rfl) (by kernel_rfl) fun hx9 => ?_
          have k1 := fun x => (hx9 x b1 (o1 + k) hb1).trans r1
          have k2 := fun x => (hx9 x b2 (o2 + k) hb2).trans r2
          clear hx9
          simp only [picked, List.filterMap_cons, List.filterMap_nil, List.getElem?_cons_zero, List.getElem?_cons_succ, Option.map_some, List.drop_succ_cons, List.drop_zero]
          repeat (first | refine wpPlan_skip rfl ?_ | (refine wpPlan_val rfl rfl (fun K hK => ?_); go_big_quiet_op; refine hK _ ?_; clear hK K))
          try refine wpPlan_nil ?_
          go_wp2_with fail
          go_roundw
          case rel => exact ⟨k + 1, by omega, by go_num, by rw [hstep.out, yg]; rfl, by rw [hstep.out, yg, HXY.out.1, HXY.out.2]; rfl, by first | exact Drawn.more _ | exact Drawn.two _ _ | exact (Drawn.two _ _).trans (Drawn.more _) | exact (Drawn.two _ _).trans (Drawn.two _ _)⟩
          case measure => simp [intOf]; omega
        · have yg : goB one two k q = false := by assumption
          go_roundw
          case rel => exact ⟨k + 1, by omega, by go_num, by rw [hstep.out, yg, HPQ.out.1]; rfl, by rw [hstep.out, yg, HPQ.out.2]; rfl, by first | exact Drawn.more _ | exact Drawn.two _ _ | exact (Drawn.two _ _).trans (Drawn.more _) | exact (Drawn.two _ _).trans (Drawn.two _ _)⟩
          case measure => simp [intOf]; omega
      
    · obtain rfl : k = l2 := by omega
      go_wp2_with fail
      go_ret2
      rw [HRO.out, HL.out]
      exact ⟨rfl, below_drewN HW.out _⟩
end Go.Proofs.Ytkeihpihphefgaa
