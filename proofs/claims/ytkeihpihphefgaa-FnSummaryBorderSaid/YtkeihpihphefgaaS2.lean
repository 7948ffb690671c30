/- The law FnSummaryBorder: for every input it returns true, and what came in reads as it did. No condition. -/
import Derived.Test.YtkeihpihphefgaaS1
namespace Go.Proofs.Ytkeihpihphefgaa
open Go.RowKit Go.ChangeShapes Go.WideShapes Go.ChangeAt

set_option maxRecDepth 100000 in
set_option maxHeartbeats 1000000 in
theorem law_FnSummaryBorder (C : Option Addr) (L cap : Nat) (M : Option Addr) (Km mcap : Nat) (w : World) (h : RdB w C L cap) (h' : RdB w M Km mcap) : Holds 3 #[.slice C L cap, .slice M Km mcap] w := by
  have H := Lib.hid h
  have hm : cap ≤ 9223372036854775807 := h.2.1
  have hm' := h.1
  have hk : mcap ≤ 9223372036854775807 := h'.2.1
  have hk' := h'.1
  clear h h'
  unfold Holds
  by_cases hL : 1048576 < L
  · go_enter Try.func3, Try.ntmps3
    go_wp2_with fail
    go_ret
    exact ⟨rfl, Below.refl _ _⟩
  by_cases hK : 1048576 < Km
  · go_enter Try.func3, Try.ntmps3
    go_wp2_with fail
    go_ret
    exact ⟨rfl, Below.refl _ _⟩
  go_enter Try.func3, Try.ntmps3
  go_upto_region 6 with (first | (go_at_call 11; go_must (refine (d_AreaSummary _ _ _ _ H.out).mono ?_); rintro e w1 ⟨n, A, len, cp, ls, Bd, lb, cb, bs, t, rfl, hA, hB, hlb, hb1⟩; have HA1 := Lib.hid hA; have HB1 := Lib.hid hB; have HW1 := Lib.hid hb1; clear hA hB hb1) | (go_at_call 12; go_must (refine (i_AreaSummary _ _ _ _ _ ls _ _ _ bs _ (HA1.out.alloc _) (HB1.out.alloc _)).mono ?_); intro e w2 h2; obtain ⟨O, lo, co, rfl, hO, hb2⟩ := summ_rd (by have := HB1.out.1; omega) h2; clear h2; obtain ⟨hc2, _⟩ := bcell hb2) | (go_at_call 13; go_must (refine (s_AreaSummary _ _ _ _ _ ls _ _ _ bs _ ((HA1.out.alloc _).below hb2) ((HB1.out.alloc _).below hb2)).mono ?_); intro e w3 h3; obtain ⟨P, lp, cq, rfl, hP, hb3⟩ := summ_rd (by have := HB1.out.1; omega) h3; clear h3))
  have HG : Hid (Blk w3 w1.heap.size 25 #[.int .i64 n, .slice A len cp]) := ((Blk.new _ _ _).below hb2).below hb3
  have HA : Hid (RdL w3 A len ls) := ((HA1.out.alloc _).below hb2).below hb3
  have HB : Hid (RdI w3 Bd lb bs) := ((HB1.out.alloc _).below hb2).below hb3
  have HO : Hid (RdI w3 O lo (summ n ls bs t)) := hO.below hb3
  have HP : Hid (RdI w3 P lp (summ n ls bs t)) := hP
  have hsz : w.heap.size ≤ w1.heap.size := HW1.out.size
  have HW : Hid (Below w.heap.size w w3) := (HW1.out.trans (((Below.refl _ _).alloc (Nat.le_refl _) _).mono hsz)).trans ((hb2.mono (by simp; omega)).trans (hb3.mono (by have := hb2.size; simp at this; omega)))
  clear HA1 HB1 HW1 hb2 hb3 hc2 hO hP
  have e1 := HO.out.1
  by_cases h0 : lo = 0
  · subst h0
    clear e1
    go_upto_region 7 with (first | (go_at_call 14; go_must (refine (l_sameInts _ _ _ _ _ _ _ _ _ HO.out HP.out).mono ?_); rintro e w4 ⟨rfl, n4, rfl⟩; rw [eqL_self]))
    go_wp2_with (first | (go_at_call 14; go_must (refine (l_sameInts _ _ _ _ _ _ _ _ _ (HO.out.drewN _) (HP.out.drewN _)).mono ?_); rintro e w4 ⟨rfl, n5, rfl⟩; rw [eqL_self]))
    go_ret
    exact ⟨rfl, below_drewN HW.out _⟩
  have hyy : (bv n ls bs && inB t 0 (n - 1)) = true := by
    rcases cs_bool (bv n ls bs && inB t 0 (n - 1)) with y | y
    · rw [summ_no y] at e1; simp at e1; omega
    · exact y
  simp only [Bool.and_eq_true] at hyy
  obtain ⟨y0, y1⟩ := hyy
  obtain ⟨hv, hl0, hasc⟩ := bv_t y0
  have ht := inB_t y1
  obtain ⟨F, rfl⟩ := Int.eq_ofNat_of_zero_le ht.1
  have HL := Lib.hid HB.out.1
  have hlo : lo = lb := by rw [← e1, summ_ok y0 y1 HL.out, summL_len _ _ _ (Nat.le_of_eq HL.out.symm)]
  subst hlo
  -- the border node
  obtain ⟨k, hkk⟩ : ∃ k, k = Km % lo := ⟨_, rfl⟩
  have hlt : k < lo := by rw [hkk]; exact Nat.mod_lt _ (by omega)
  obtain ⟨a1, a2, _⟩ := hasc k (by rw [HL.out]; exact hlt)
  obtain ⟨j, hj⟩ := Int.eq_ofNat_of_zero_le a1
  rw [hj] at a2
  have hjn : j < n := by omega
  have y2 : inB (j : Int) 0 ((n : Int) - 1) = true := inB_mk (by omega)
  have HS : Hid (summ n ls bs j = summL (dists n ls j) bs bs.length) := summ_ok y0 y2 rfl
  have HJ : Hid (iz (summ n ls bs j) k = 0) := by rw [HS.out, iz_summL (by rw [HL.out]; exact hlt) hj]; exact dists_self hv.cheap hjn
  have HLS : Hid ((summ n ls bs j).length = lo) := by rw [HS.out, summL_len _ _ _ (Nat.le_refl _)]; exact HL.out
  have HKK := Lib.hid hkk
  have HJJ := Lib.hid hj
  clear e1 hv hasc ht y0 y1 y2 hkk hj a1 a2 HS
  go_upto_region 9 with (first | (go_at_call 14; go_must (refine (l_sameInts _ _ _ _ _ _ _ _ _ HO.out HP.out).mono ?_); rintro e w4 ⟨rfl, n4, rfl⟩; rw [eqL_self]))
  have e1 : 0 ≤ (Km : Int) % (lo : Int) := Int.emod_nonneg _ (by omega)
  have e2 : (Km : Int) % (lo : Int) < lo := Int.emod_lt_of_pos _ (by omega)
  have e3 : ((Km : Int) % (lo : Int)).toNat = k := by rw [HKK.out, ← Int.natCast_emod]; exact Int.toNat_natCast _
  obtain ⟨wd, hwd⟩ : ∃ wd : World, wd = w3.drewN n4 := ⟨_, rfl⟩
  rw [← hwd]
  have HGd : Hid (Blk wd w1.heap.size 25 #[.int .i64 n, .slice A len cp]) := by rw [hwd]; exact HG.out.drewN _
  have HAd : Hid (RdL wd A len ls) := by rw [hwd]; exact HA.out.drewN _
  have HBd : Hid (RdI wd Bd lo bs) := by rw [hwd]; exact HB.out.drewN _
  have HWd : Hid (Below w.heap.size w wd) := by rw [hwd]; exact below_drewN HW.out _
  clear hwd HG HA HB HW HO HP
  generalize w1.heap.size = g1 at *
  have q0 := HGd.out.cell 0
  have q1 := HGd.out.cell 1
  have qz := HGd.out.lt
  obtain ⟨bB, oB, rfl, hbB, rB⟩ := HBd.out.rule (by omega)
  have r1 := rB k hlt
  rw [HJJ.out] at r1
  clear rB
  refine wp_plan 11 [(0, true), (1, true), (2, true), (3, true), (4, true), (5, true), (7, true), (6, false), (8, true), (9, false), (10, true)] (by kernel_rfl) (by kernel_rfl) fun hx9 => ?_
  simp only [picked, List.filterMap_cons, List.filterMap_nil, List.getElem?_cons_zero, List.getElem?_cons_succ, Option.map_some, List.drop_succ_cons, List.drop_zero]
  repeat (first | refine wpPlan_skip rfl ?_ | (refine wpPlan_val rfl rfl (fun K hK => ?_); go_big_quiet_op; refine hK _ ?_; clear hK K))
  try refine wpPlan_nil ?_
  refine wpPlan_eff rfl rfl (fun K hK => ?_); unfold Oper.wp; go_simp
  go_must (refine (i_AreaSummary _ _ _ _ _ ls _ _ _ bs _ (HAd.out.drewN 1) (HBd.out.drewN 1)).mono ?_)
  intro e w5 h5
  obtain ⟨R, lr, cr, rfl, hR, hb5⟩ := summ_rd (by have := HBd.out.1; omega) h5
  clear h5
  have hb6 : Below wd.heap.size wd w5 := ((Below.refl _ wd).drew).trans hb5
  refine hK _ _ ⟨⟨w5, hb6⟩, rfl⟩ ?_
  clear hK K
  have hlr : lr = lo := by have := hR.1; rw [HLS.out] at this; omega
  obtain ⟨bR, oR, rfl, hbR, rR⟩ := hR.rule (by omega)
  have r2 := rR k (by omega)
  rw [HJ.out] at r2
  have hkr : (Km : Int) % (lo : Int) < lr := by omega
  clear rR hlr hR
  repeat (first | refine wpPlan_skip rfl ?_ | (refine wpPlan_val rfl rfl (fun K hK => ?_); go_big_quiet_op; refine hK _ ?_; clear hK K))
  try refine wpPlan_nil ?_
  refine wpPlan_eff rfl rfl (fun K hK => ?_); unfold Oper.wp; go_simp
  refine hK _ _ ⟨⟨w5, hb6⟩, rfl⟩ ?_
  clear hK K
  repeat (first | refine wpPlan_skip rfl ?_ | (refine wpPlan_val rfl rfl (fun K hK => ?_); go_big_quiet_op; refine hK _ ?_; clear hK K))
  try refine wpPlan_nil ?_
  go_wp2_with fail
  go_ret
  exact ⟨rfl, HWd.out.trans (hb6.mono HWd.out.size)⟩

set_option maxHeartbeats 800000 in
set_option maxRecDepth 100000 in
theorem FnSummaryBorder_lifted (os : Os) (started : os.Started) (H : Type) (enc : TypeId × Value → H) :
    ReturnsInHanded {} Try.checked os 3 .any (Rows.fnSummaryBorderSpec.pre6 enc Try.prog Try.f3 Rows.fnSummaryBorderRow.domain false) (Rows.fnSummaryBorderSpec.post enc Try.prog Try.f3 false true false false) := by
  refine returnsInHanded_of_change (C := Try.checked) row_own started (by kernel_rfl) Try.func3
    (ChangeSpec.witness6 (enc := enc) (C := Try.checked) false ⟨#[], #[.slice none 0 0, .slice none 0 0], []⟩ 8 (by kernel_rfl) (by kernel_rfl) (by kernel_rfl) (by kernel_rfl)) ?_
  intro W base args ds gs before hval0 hW _ _
  have hval : ∀ (j : Nat) t v, Try.f3.params[j]? = some t → args[j]? = some v → Value.okWide Try.prog W .any base t v := hval0
  have hW' := hW
  obtain ⟨p, q, hA0, hV, rfl, _, _⟩ := hW
  have hA : DataW.TrodAll enc Try.prog W 0 (fun _ => true) true Try.f3.params.toList args.toList ds p := hA0
  rw [Try.params3] at hA hval
  obtain ⟨v0, vs0, d0, ds0, p0, q0, hargs, rfl, rfl, h0, r0⟩ := trodAll_cons hA
  obtain ⟨v1, vs1, d1, ds1, p1, q1, rfl, rfl, rfl, h1, r1⟩ := trodAll_cons r0
  obtain ⟨rfl, rfl, rfl⟩ := trodAll_nil r1
  obtain rfl : args = #[v0, v1] := by cases args; simp_all
  obtain ⟨rfl, rfl⟩ := trodVars_none hV
  obtain ⟨a0, len0, cap0, rfl⟩ := okWide_slice Try.underlying22 (hval 0 22 v0 rfl rfl)
  obtain ⟨a1, len1, cap1, rfl⟩ := okWide_slice Try.underlying22 (hval 1 22 v1 rfl rfl)
  clear hA0 hval0
  simp only [List.append_nil, List.append_assoc] at hW'
  have hlt : ∀ x ∈ p0 ++ (p1), x.block < W.heap.size := fun x hx => by simpa using hW'.lt x hx
  have k0 := fun (W' : World) (hb : Below W.heap.size W W') => Below.trod row_laid (by kernel_rfl) (of_decide_eq_true (by kernel_rfl)) h0 hb (fun x hx => hlt x (by simp [hx]))
  have k1 := fun (W' : World) (hb : Below W.heap.size W W') => Below.trod row_laid (by kernel_rfl) (of_decide_eq_true (by kernel_rfl)) h1 hb (fun x hx => hlt x (by simp [hx]))
  refine (law_FnSummaryBorder a0 len0 cap0 a1 len1 cap1 W (open_bytes h0) (open_bytes h1)).mono fun e W' ⟨he, hb⟩ => ?_
  subst he
  have hargs := (trodAll_cons_mk (k0 _ hb) (trodAll_cons_mk (k1 _ hb) trodAll_mk0))
  simp only [List.append_nil, List.append_assoc] at hargs
  exact ⟨_, rfl, _, _, _, [], _, [], hW', trodAll_mk1 (shut_bool Try.underlying4 _), hargs, rfl, hb.frame _, fun h => by cases h⟩
theorem FnSummaryBorder_holds : Rows.FnSummaryBorderSaid :=
  OpenClaim.holds_of_wide 3 Try.f3 rfl rfl rfl rfl rfl rfl rfl ⟨rfl, rfl, rfl, rfl, rfl⟩ rfl rfl rfl rfl rfl (by kernel_rfl) Try.func3 (by kernel_rfl)
    (of_decide_eq_true (by kernel_rfl)) (by unfold Func.isWrapper; first | (rw [if_pos (by decide +kernel)]; kernel_rfl) | (rw [if_neg (by decide +kernel)]; exact ⟨rfl, rfl⟩))
    (fun os started H enc _ => FnSummaryBorder_lifted os started H enc)
#print axioms FnSummaryBorder_holds
end Go.Proofs.Ytkeihpihphefgaa
