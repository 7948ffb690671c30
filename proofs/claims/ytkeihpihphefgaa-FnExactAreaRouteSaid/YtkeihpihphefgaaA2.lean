/- Contracts: AreaRoute, the program's and the reference's. -/
import Derived.Test.YtkeihpihphefgaaS1
import Derived.Test.YtkeihpihphefgaaReg2
namespace Go.Proofs.Ytkeihpihphefgaa
open Go.RowKit

/-- Is the border node at i better than 'least'? -/
def goB (one two : List Int) (i : Nat) (least : Int) : Bool := decide (0 ≤ iz one i) && decide (0 ≤ iz two i) && (decide (least < 0) || decide (iz one i + iz two i < least))
def rtStep (bs one two : List Int) (s : Int × Int) (i : Nat) : Int × Int := if goB one two i s.2 then (iz bs i, iz one i + iz two i) else s
def rtN (bs one two : List Int) : Nat → Int × Int
  | 0 => (-1, -1)
  | k + 1 => rtStep bs one two (rtN bs one two k) k
def routeOk (na : Int) (la : List Lk) (nb : Int) (lb : List Lk) (bs : List Int) (f t : Int) : Bool := (bv na la bs && inB f 0 (na - 1)) && (bv nb lb bs && inB t 0 (nb - 1))
def route (na : Int) (la : List Lk) (nb : Int) (lb : List Lk) (bs : List Int) (f t : Int) : Int × Int :=
  if routeOk na la nb lb bs f t then rtN bs (summ na la bs f) (summ nb lb bs t) bs.length else (-1, -1)

theorem summ_low {n : Int} {ls : List Lk} {bs : List Int} {t : Int} (i : Nat) : -1 ≤ iz (summ n ls bs t) i ∧ iz (summ n ls bs t) i ≤ 5100 := by
  rcases cs_bool (bv n ls bs && inB t 0 (n - 1)) with y | y
  · rw [summ_no y]; simp [iz]
  · simp only [Bool.and_eq_true] at y
    obtain ⟨hv, h0, ha⟩ := bv_t y.1
    have ht := inB_t y.2
    obtain ⟨N, rfl⟩ := Int.eq_ofNat_of_zero_le (show 0 ≤ n by omega)
    obtain ⟨F, rfl⟩ := Int.eq_ofNat_of_zero_le ht.1
    rw [summ_ok y.1 y.2 rfl]
    rcases Nat.lt_or_ge i bs.length with hi | hi
    · obtain ⟨j, hj⟩ := Int.eq_ofNat_of_zero_le (ha i hi).1
      rw [iz_summL hi hj]
      have hn8 : N ≤ 8 := by have := hv.2.1; omega
      exact dst_bd N ls F N 0 hv.cheap hv.2.2.1 hn8 j
    · have : (summL (dists N ls F) bs bs.length).length = bs.length := summL_len _ _ _ (Nat.le_refl _)
      unfold iz
      rw [List.getD, List.getElem?_eq_none (by omega)]
      simp
/-- Along the way: both numbers of the pair are at least -1, in range, and one is below 0 where the other is. -/
theorem rtN_bd {bs one two : List Int} {n : Int} (h1 : ∀ i, -1 ≤ iz one i ∧ iz one i ≤ 5100) (h2 : ∀ i, -1 ≤ iz two i ∧ iz two i ≤ 5100) (ha : Asc bs n) (k : Nat) (hk : k ≤ bs.length) :
    (rtN bs one two k = (-1, -1)) ∨ (0 ≤ (rtN bs one two k).1 ∧ (rtN bs one two k).1 < n ∧ 0 ≤ (rtN bs one two k).2 ∧ (rtN bs one two k).2 ≤ 10200) := by
  induction k with
  | zero => exact .inl rfl
  | succ k ih =>
    have ih := ih (by omega)
    unfold rtN rtStep
    split
    · rename_i hg
      unfold goB at hg
      simp only [Bool.and_eq_true, decide_eq_true_eq] at hg
      have := ha k (by omega)
      have := h1 k
      have := h2 k
      right
      exact ⟨by omega, by omega, by dsimp only; omega, by dsimp only; omega⟩
    · exact ih

theorem rtN_rng {bs one two : List Int} {n : Int} (h1 : ∀ i, -1 ≤ iz one i ∧ iz one i ≤ 5100) (h2 : ∀ i, -1 ≤ iz two i ∧ iz two i ≤ 5100) (ha : Asc bs n) (k : Nat) (hk : k ≤ bs.length) :
    -1 ≤ (rtN bs one two k).2 ∧ (rtN bs one two k).2 ≤ 10200 ∧ decide ((rtN bs one two k).1 < 0) = decide ((rtN bs one two k).2 < 0) := by
  rcases rtN_bd h1 h2 ha k hk with e | ⟨e1, _, e2, e3⟩
  · rw [e]; exact ⟨by decide, by decide, by decide⟩
  · exact ⟨by omega, e3, (decide_eq_false (by omega)).trans (decide_eq_false (by omega)).symm⟩
theorem summ_zero {n : Int} {ls : List Lk} {bs : List Int} {t : Int} (h : (bv n ls bs && inB t 0 (n - 1)) = true) : (summ n ls bs t).length = bs.length ∧ 0 < bs.length := by
  simp only [Bool.and_eq_true] at h
  obtain ⟨hv, h0, _⟩ := bv_t h.1
  have hl : (summL (dists n.toNat ls t.toNat) bs bs.length).length = bs.length := summL_len _ _ _ (Nat.le_refl _)
  exact ⟨by unfold summ; rw [if_pos (by simp [h]), hl], h0⟩
theorem route_no1 {na nb f t : Int} {la lb : List Lk} {bs : List Int} (h : (summ na la bs f).length = 0) : route na la nb lb bs f t = (-1, -1) := by
  unfold route
  rw [if_neg]
  intro hc
  unfold routeOk at hc
  rw [Bool.and_eq_true] at hc
  have := summ_zero hc.1
  omega
theorem route_no2 {na nb f t : Int} {la lb : List Lk} {bs : List Int} (h : (summ nb lb bs t).length = 0) : route na la nb lb bs f t = (-1, -1) := by
  unfold route
  rw [if_neg]
  intro hc
  unfold routeOk at hc
  rw [Bool.and_eq_true] at hc
  have := summ_zero hc.2
  omega
theorem route_yes {na nb f t : Int} {la lb : List Lk} {bs : List Int} (h1 : (summ na la bs f).length ≠ 0) (h2 : (summ nb lb bs t).length ≠ 0) :
    routeOk na la nb lb bs f t = true ∧ (summ na la bs f).length = bs.length ∧ (summ nb lb bs t).length = bs.length ∧ Asc bs na ∧ route na la nb lb bs f t = rtN bs (summ na la bs f) (summ nb lb bs t) bs.length := by
  have y1 : (bv na la bs && inB f 0 (na - 1)) = true := by
    rcases cs_bool (bv na la bs && inB f 0 (na - 1)) with y | y
    · rw [summ_no y] at h1; simp at h1
    · exact y
  have y2 : (bv nb lb bs && inB t 0 (nb - 1)) = true := by
    rcases cs_bool (bv nb lb bs && inB t 0 (nb - 1)) with y | y
    · rw [summ_no y] at h2; simp at h2
    · exact y
  have y : routeOk na la nb lb bs f t = true := by unfold routeOk; rw [y1, y2]; rfl
  refine ⟨y, (summ_zero y1).1, (summ_zero y2).1, ?_, by unfold route; rw [if_pos y]⟩
  rw [Bool.and_eq_true] at y1
  exact (bv_t y1.1).2.2
/-- 'p && q && (r || s)' -/
theorem cs_aao (p q r s : Bool) : p = false ∨ (p = true ∧ q = false) ∨ (p = true ∧ q = true ∧ r = true) ∨ (p = true ∧ q = true ∧ r = false ∧ s = true) ∨ (p = true ∧ q = true ∧ r = false ∧ s = false) := by
  cases p <;> cases q <;> cases r <;> cases s <;> simp
theorem Drawn.trans {a b c : World} (h : Drawn a b) (k : Drawn b c) : Drawn a c := by
  obtain ⟨n, rfl⟩ := h
  obtain ⟨m, rfl⟩ := k
  exact Drawn.two _ _

set_option maxRecDepth 100000 in
set_option maxHeartbeats 2000000 in
theorem i_AreaRoute (na nb f t : Int) (A : Option Addr) (lena capa : Nat) (la : List Lk) (A' : Option Addr) (lenb capb : Nat) (lb : List Lk) (B : Option Addr) (lo cb : Nat) (bs : List Int) (w : World) (h : RdL w A lena la) (h' : RdL w A' lenb lb) (hB : RdI w B lo bs) :
    Calls Try.prog 20 #[.agg #[.int .i64 na, .slice A lena capa], .agg #[.int .i64 nb, .slice A' lenb capb], .slice B lo cb, .int .i64 f, .int .i64 t] w fun e w' => e = .returned (.tuple #[.int .i64 (route na la nb lb bs f t).1, .int .i64 (route na la nb lb bs f t).2]) ∧ Below w.heap.size w w' := by
  have HR := Lib.hid h; clear h
  have HR' := Lib.hid h'; clear h'
  have HS := Lib.hid hB
  have HL := Lib.hid hB.1
  have hbig := hB.2.1
  clear hB
  go_enter Try.func20, Try.ntmps20
  go_upto_region 2 with (fail)
  go_cut [14, 15] (fun s1 s2 w' => ∃ O l1 c1 P l2 c2, s1 = .slice O l1 c1 ∧ s2 = .slice P l2 c2 ∧ Hid (RdI w' O l1 (summ na la bs f)) ∧ Hid (RdI w' P l2 (summ nb lb bs t)) ∧ Hid (Below w.heap.size w w'))
  case first =>
    have HG5 : Blk ((w.alloc (.cells #[.int .i64 na, .slice A lena capa] 25)).alloc (.cells #[.int .i64 nb, .slice A' lenb capb] 25)) w.heap.size 25 #[.int .i64 na, .slice A lena capa] := (Blk.new _ _ _).alloc _
    have HG6 : Blk ((w.alloc (.cells #[.int .i64 na, .slice A lena capa] 25)).alloc (.cells #[.int .i64 nb, .slice A' lenb capb] 25)) (w.heap.size + 1) 25 #[.int .i64 nb, .slice A' lenb capb] := by
      have := Blk.new (w.alloc (.cells #[.int .i64 na, .slice A lena capa] 25)) 25 #[.int .i64 nb, .slice A' lenb capb]
      simpa using this
    have HRa : RdL ((w.alloc (.cells #[.int .i64 na, .slice A lena capa] 25)).alloc (.cells #[.int .i64 nb, .slice A' lenb capb] 25)) A lena la := (HR.out.alloc _).alloc _
    have HRb : RdL ((w.alloc (.cells #[.int .i64 na, .slice A lena capa] 25)).alloc (.cells #[.int .i64 nb, .slice A' lenb capb] 25)) A' lenb lb := (HR'.out.alloc _).alloc _
    have HSd : RdI ((w.alloc (.cells #[.int .i64 na, .slice A lena capa] 25)).alloc (.cells #[.int .i64 nb, .slice A' lenb capb] 25)) B lo bs := (HS.out.alloc _).alloc _
    have HWd : Below w.heap.size w ((w.alloc (.cells #[.int .i64 na, .slice A lena capa] 25)).alloc (.cells #[.int .i64 nb, .slice A' lenb capb] 25)) := ((Below.refl _ _).alloc (Nat.le_refl _) _).alloc (by simp) _
    generalize (w.alloc (.cells #[.int .i64 na, .slice A lena capa] 25)).alloc (.cells #[.int .i64 nb, .slice A' lenb capb] 25) = wd at *
    have hbig' : bs.length ≤ 16777216 := by rw [HL.out]; exact hbig
    have q0 := HG5.cell 0
    have q1 := HG5.cell 1
    have qz := HG5.lt
    have r0 := HG6.cell 0
    have r1 := HG6.cell 1
    have rz := HG6.lt
    refine wp_plan 8 [(0, true), (1, true), (2, true), (4, true), (5, true), (6, true), (3, false), (7, false)] (by kernel_rfl) (by kernel_rfl) fun hx9 => ?_
    simp only [picked, List.filterMap_cons, List.filterMap_nil, List.getElem?_cons_zero, List.getElem?_cons_succ, Option.map_some, List.drop_succ_cons, List.drop_zero]
    repeat (first | refine wpPlan_skip rfl ?_ | (refine wpPlan_val rfl rfl (fun K hK => ?_); go_big_quiet_op; refine hK _ ?_; clear hK K))
    try refine wpPlan_nil ?_
    refine wpPlan_eff rfl rfl (fun K hK => ?_); unfold Oper.wp; go_simp
    go_must (refine (i_AreaSummary _ _ _ _ _ la _ _ _ bs _ (HRa.drewN 1) (HSd.drewN 1)).mono ?_)
    intro e w2 h2
    obtain ⟨O1, l1, c1, rfl, k1, hb2⟩ := summ_rd hbig' h2
    clear h2
    have hb2 : Below wd.heap.size wd w2 := ((Below.refl _ wd).drew).trans hb2
    refine hK _ _ ⟨⟨w2, hb2⟩, rfl⟩ ?_
    clear hK K
    repeat (first | refine wpPlan_skip rfl ?_ | (refine wpPlan_val rfl rfl (fun K hK => ?_); go_big_quiet_op; refine hK _ ?_; clear hK K))
    try refine wpPlan_nil ?_
    refine wpPlan_eff rfl rfl (fun K hK => ?_); unfold Oper.wp; go_simp
    go_must (refine (i_AreaSummary _ _ _ _ _ lb _ _ _ bs _ (HRb.below hb2) (HSd.below hb2)).mono ?_)
    intro e w3 h3
    obtain ⟨O2, l2, c2, rfl, k2, hb3⟩ := summ_rd hbig' h3
    clear h3
    have hb3' : Below wd.heap.size wd w3 := hb2.trans (hb3.mono hb2.size)
    refine hK _ _ ⟨⟨w3, hb3'⟩, rfl⟩ ?_
    clear hK K
    have k1 := k1.below hb3
    repeat (first | refine wpPlan_skip rfl ?_ | (refine wpPlan_val rfl rfl (fun K hK => ?_); go_big_quiet_op; refine hK _ ?_; clear hK K))
    try refine wpPlan_nil ?_
    go_wp2_with fail
    go_meet
    exact ⟨O1, l1, c1, O2, l2, c2, rfl, rfl, k1, k2, HWd.trans (hb3'.mono HWd.size)⟩
  case rest =>
    obtain ⟨O1, l1, c1, O2, l2, c2, rfl, rfl, HO, HP, HW⟩ := hcut
    have e1 := HO.out.1
    have e2 := HP.out.1
    by_cases h1 : l1 = 0
    · have hno : Hid (route na la nb lb bs f t = (-1, -1)) := route_no1 (by omega)
      subst h1
      clear e1 e2
      go_wp2_with fail
      go_ret2
      rw [hno.out]
      exact ⟨rfl, HW.out⟩
    by_cases h2 : l2 = 0
    · have hno : Hid (route na la nb lb bs f t = (-1, -1)) := route_no2 (by omega)
      subst h2
      clear e1 e2
      go_wp2_with fail
      go_ret2
      rw [hno.out]
      exact ⟨rfl, HW.out⟩
    obtain ⟨y0, k1, k2, hasc, hro⟩ := route_yes (t := t) (nb := nb) (lb := lb) (f := f) (na := na) (la := la) (bs := bs) (by omega) (by omega)
    have hone := Lib.hid (summ_low (n := na) (ls := la) (bs := bs) (t := f))
    have htwo := Lib.hid (summ_low (n := nb) (ls := lb) (bs := bs) (t := t))
    have HRO := Lib.hid hro
    have HA := Lib.hid hasc
    have HSx : Hid (RdI wc B lo bs) := HS.out.below (HW.out.mono (Nat.le_refl _))
    clear hro hasc y0
    obtain rfl : l1 = lo := by rw [← e1, k1, HL.out]
    obtain rfl : l2 = l1 := by rw [← e2, k2, HL.out]
    clear e1 e2 k1 k2
    generalize summ na la bs f = one at *
    generalize summ nb lb bs t = two at *
    go_wp2_with fail
    go_loopw [12, 13, 36] (fun a b i wr => ∃ k : Nat, k ≤ l2 ∧ i = .int .i64 k ∧ a = .int .i64 (rtN bs one two k).1 ∧ b = .int .i64 (rtN bs one two k).2 ∧ Drawn wc wr) (fun _ _ i _ => l2 - (intOf i).toNat)
    case atStart => exact ⟨0, by omega, rfl, rfl, rfl, by first | exact Drawn.refl _ | exact Drawn.more _⟩
    case round =>
      obtain ⟨k, hk, rfl, rfl, rfl, n0, rfl⟩ := hrel
      by_cases hlt : k < l2
      · skip
        have hp1 := (hone.out k).1
        have hp2 := (hone.out k).2
        have hq1 := (htwo.out k).1
        have hq2 := (htwo.out k).2
        obtain ⟨b1, o1, rfl, hb1, c1⟩ := HO.out.rule (by omega)
        obtain ⟨b2, o2, rfl, hb2, c2⟩ := HP.out.rule (by omega)
        obtain ⟨b3, o3, rfl, hb3, c3⟩ := HSx.out.rule (by omega)
        have r1 := c1 k hlt
        have r2 := c2 k hlt
        have r3 := c3 k hlt
        clear c1 c2 c3
        have hstep : Hid (rtN bs one two (k + 1) = if goB one two k (rtN bs one two k).2 then (iz bs k, iz one k + iz two k) else rtN bs one two k) := rfl
        obtain ⟨hd1, hd2, hsame⟩ := rtN_rng hone.out htwo.out HA.out k (by rw [HL.out]; omega)
        replace hsame := Lib.hid hsame
        obtain ⟨p, hp⟩ : ∃ p, p = (rtN bs one two k).1 := ⟨_, rfl⟩
        obtain ⟨q, hq⟩ : ∃ q, q = (rtN bs one two k).2 := ⟨_, rfl⟩
        rw [← hq] at hd1 hd2 hstep
        rw [← hp, ← hq] at hsame ⊢
        have HPQ := Lib.hid (And.intro hp hq)
        clear hp hq
        obtain ⟨x, hx⟩ : ∃ x, x = iz one k := ⟨_, rfl⟩
        obtain ⟨y, hy⟩ : ∃ y, y = iz two k := ⟨_, rfl⟩
        rw [← hx] at r1 hp1 hp2
        rw [← hy] at r2 hq1 hq2
        have HXY := Lib.hid (And.intro hx hy)
        clear hx hy
        go_upto_region 8 with (fail)
        go_cut [69] (fun s w' => s = .bool (goB one two k q) ∧ Drawn (wc.drewN n0) w')
        case first =>
          rcases cs_aao (decide (0 ≤ x)) (decide (0 ≤ y)) (decide (q < 0)) (decide (x + y < q)) with y0 | ⟨y0, y1⟩ | ⟨y0, y1, y2⟩ | ⟨y0, y1, y2, y3⟩ | ⟨y0, y1, y2, y3⟩
          all_goals
            try (have y2' := hsame.out.trans y2)
            go_quiet (fail)
            go_wp2_with fail
            go_meet
            refine ⟨?_, by first | exact Drawn.more _ | exact Drawn.two _ _⟩
            unfold goB
            rw [← HXY.out.1, ← HXY.out.2]
            simp [*]
        case rest =>
          obtain ⟨rfl, nq, rfl⟩ := hcut
          go_wp2_with fail
          · have yg : goB one two k q = true := by assumption
            refine wp_plan 11 [(0, true), (1, true), (2, true), (3, true), (4, true), (5, true), (6, true), (7, true), (8, true), (9, true), (10, true)] (by kernel_rfl) (by kernel_rfl) fun hx9 => ?_
            have k1 := fun x => (hx9 x b1 (o1 + k) hb1).trans r1
            have k2 := fun x => (hx9 x b2 (o2 + k) hb2).trans r2
            clear hx9
            simp only [picked, List.filterMap_cons, List.filterMap_nil, List.getElem?_cons_zero, List.getElem?_cons_succ, Option.map_some, List.drop_succ_cons, List.drop_zero]
            repeat (first | refine wpPlan_skip rfl ?_ | (refine wpPlan_val rfl rfl (fun K hK => ?_); go_big_quiet_op; refine hK _ ?_; clear hK K))
            try refine wpPlan_nil ?_
            go_wp2_with fail
            go_roundw
            case rel => exact ⟨k + 1, by omega, by go_num, by rw [hstep.out, yg]; rfl, by rw [hstep.out, yg, HXY.out.1, HXY.out.2]; rfl, by first | exact Drawn.more _ | exact Drawn.two _ _ | exact (Drawn.two _ _).trans (Drawn.more _) | exact (Drawn.two _ _).trans (Drawn.two _ _)⟩
            case measure => simp [intOf]; omega
          · have yg : goB one two k q = false := by assumption
            go_roundw
            case rel => exact ⟨k + 1, by omega, by go_num, by rw [hstep.out, yg, HPQ.out.1]; rfl, by rw [hstep.out, yg, HPQ.out.2]; rfl, by first | exact Drawn.more _ | exact Drawn.two _ _ | exact (Drawn.two _ _).trans (Drawn.more _) | exact (Drawn.two _ _).trans (Drawn.two _ _)⟩
            case measure => simp [intOf]; omega
        
      · obtain rfl : k = l2 := by omega
        go_wp2_with fail
        go_ret2
        rw [HRO.out, HL.out]
        exact ⟨rfl, below_drewN HW.out _⟩
end Go.Proofs.Ytkeihpihphefgaa
