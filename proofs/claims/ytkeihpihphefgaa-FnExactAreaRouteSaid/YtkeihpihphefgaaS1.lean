/- The law FnSummary: for every input it returns true, and what came in reads as it did. No condition. -/
import Derived.Test.YtkeihpihphefgaaD6
import Derived.Test.YtkeihpihphefgaaL1
import Derived.Test.YtkeihpihphefgaaDist2
import Derived.Test.YtkeihpihphefgaaRow
namespace Go.Proofs.Ytkeihpihphefgaa
open Go.RowKit Go.ChangeShapes Go.WideShapes Go.ChangeAt

theorem summ_rd {w w' : World} {n : Int} {ls : List Lk} {bs : List Int} {t : Int} {e : Ending} (hb : bs.length ≤ 16777216)
    (h : ∃ v, e = .returned v ∧ w'.ownsRow w.heap.size 3 1 v (summ n ls bs t).length (ints (summ n ls bs t)) ∧ Below w.heap.size w w') : IntsRes w w' (summ n ls bs t) e := by
  obtain ⟨v, rfl, hO, hb'⟩ := h
  have hl : (summ n ls bs t).length ≤ 16777216 := by
    unfold summ
    split
    · rw [summL_len _ _ _ (Nat.le_refl _)]; exact hb
    · simp
  obtain ⟨A, cap, rfl, hr, _⟩ := own_rdI hO hl
  exact ⟨A, _, cap, rfl, hr, hb'⟩
theorem eqL_self (xs : List Int) : eqL xs xs = true := by simp [eqL]
theorem iz_summL {d bs : List Int} {k j : Nat} (hk : k < bs.length) (hj : iz bs k = j) : iz (summL d bs bs.length) k = iz d j := by
  refine iz_of ?_
  have : bs[k]? = some (j : Int) := by rw [iz_get hk, hj]
  simp [summL, this]

set_option maxRecDepth 100000 in
set_option maxHeartbeats 1000000 in
theorem law_FnSummary (C : Option Addr) (L cap : Nat) (w : World) (h : RdB w C L cap) : Holds 4 #[.slice C L cap] w := by
  have H := Lib.hid h
  have hm : cap ≤ 9223372036854775807 := h.2.1
  have hm' := h.1
  clear h
  unfold Holds
  by_cases hL : 1048576 < L
  · go_enter Try.func4, Try.ntmps4
    go_wp2_with fail
    go_ret
    exact ⟨rfl, Below.refl _ _⟩
  go_enter Try.func4, Try.ntmps4
  go_upto_region 6 with (first | (go_at_call 11; go_must (refine (d_AreaSummary _ _ _ _ H.out).mono ?_); rintro e w1 ⟨n, A, len, cp, ls, Bd, lb, cb, bs, t, rfl, hA, hB, hlb, hb1⟩; have HA1 := Lib.hid hA; have HB1 := Lib.hid hB; have HW1 := Lib.hid hb1; clear hA hB hb1) | (go_at_call 12; go_must (refine (i_AreaSummary _ _ _ _ _ ls _ _ _ bs _ (HA1.out.alloc _) (HB1.out.alloc _)).mono ?_); intro e w2 h2; obtain ⟨O, lo, co, rfl, hO, hb2⟩ := summ_rd (by have := HB1.out.1; omega) h2; clear h2; obtain ⟨hc2, _⟩ := bcell hb2) | (go_at_call 13; go_must (refine (s_AreaSummary _ _ _ _ _ ls _ _ _ bs _ ((HA1.out.alloc _).below hb2) ((HB1.out.alloc _).below hb2)).mono ?_); intro e w3 h3; obtain ⟨P, lp, cq, rfl, hP, hb3⟩ := summ_rd (by have := HB1.out.1; omega) h3; clear h3))
  have HG : Hid (Blk w3 w1.heap.size 25 #[.int .i64 n, .slice A len cp]) := ((Blk.new _ _ _).below hb2).below hb3
  have HA : Hid (RdL w3 A len ls) := ((HA1.out.alloc _).below hb2).below hb3
  have HB : Hid (RdI w3 Bd lb bs) := ((HB1.out.alloc _).below hb2).below hb3
  have HO : Hid (RdI w3 O lo (summ n ls bs t)) := hO.below hb3
  have HP : Hid (RdI w3 P lp (summ n ls bs t)) := hP
  have hsz : w.heap.size ≤ w1.heap.size := HW1.out.size
  have HW : Hid (Below w.heap.size w w3) := (HW1.out.trans (((Below.refl _ _).alloc (Nat.le_refl _) _).mono hsz)).trans ((hb2.mono (by simp; omega)).trans (hb3.mono (by have := hb2.size; simp at this; omega)))
  clear HA1 HB1 HW1 hb2 hb3 hc2 hO hP
  have e1 := HO.out.1
  by_cases h0 : lo = 0
  · subst h0
    clear e1
    go_upto_region 7 with (first | (go_at_call 14; go_must (refine (l_sameInts _ _ _ _ _ _ _ _ _ HO.out HP.out).mono ?_); rintro e w4 ⟨rfl, n4, rfl⟩; rw [eqL_self]))
    go_wp2_with (first | (go_at_call 14; go_must (refine (l_sameInts _ _ _ _ _ _ _ _ _ (HO.out.drewN _) (HP.out.drewN _)).mono ?_); rintro e w4 ⟨rfl, n5, rfl⟩; rw [eqL_self]))
    go_ret
    exact ⟨rfl, below_drewN HW.out _⟩
  have hyy : (bv n ls bs && inB t 0 (n - 1)) = true := by
    rcases cs_bool (bv n ls bs && inB t 0 (n - 1)) with y | y
    · rw [summ_no y] at e1; simp at e1; omega
    · exact y
  simp only [Bool.and_eq_true] at hyy
  obtain ⟨y0, y1⟩ := hyy
  obtain ⟨hv, hl0, hasc⟩ := bv_t y0
  have ht := inB_t y1
  obtain ⟨F, rfl⟩ := Int.eq_ofNat_of_zero_le ht.1
  have hF : F < n := by omega
  have HL := Lib.hid HB.out.1
  have hlo : lo = lb := by rw [← e1, summ_ok y0 y1 HL.out, summL_len _ _ _ (Nat.le_of_eq HL.out.symm)]
  subst hlo
  have HS := Lib.hid (summ_ok (n := n) (f := F) y0 y1 rfl)
  have HV := Lib.hid (show gv n ls = true by simp only [bv, Bool.and_eq_true] at y0; exact y0.1.1)
  have HC := Lib.hid hasc
  clear e1 hv hasc ht y0 y1
  go_wp2_with (first | (go_at_call 14; go_must (refine (l_sameInts _ _ _ _ _ _ _ _ _ HO.out HP.out).mono ?_); rintro e w4 ⟨rfl, n4, rfl⟩; rw [eqL_self]))
  go_loopw [8] (fun i wr => ∃ k : Nat, k ≤ lo ∧ i = .int .i64 k ∧ Hid (Below w3.heap.size w3 wr)) (fun i _ => lo - (intOf i).toNat)
  case atStart => exact ⟨0, by omega, rfl, below_drewN (Below.refl _ _) _⟩
  case round =>
    obtain ⟨k, hk, rfl, HX⟩ := hrel
    by_cases hlt : k < lo
    · obtain ⟨hc, _⟩ := bcell HX.out
      have hsx := HX.out.size
      have HGx := HG.out.below HX.out
      have q0 := HGx.cell 0
      have q1 := HGx.cell 1
      have hgz := HGx.lt
      obtain ⟨bO, oO, rfl, hbO, rO⟩ := (HO.out.below HX.out).rule (by omega)
      obtain ⟨bB, oB, rfl, hbB, rB⟩ := (HB.out.below HX.out).rule (by omega)
      have r0 := rO k hlt
      have r1 := rB k hlt
      clear rO rB
      obtain ⟨a1, a2, _⟩ := HC.out k (by rw [HL.out]; exact hlt)
      obtain ⟨j, hj⟩ := Int.eq_ofNat_of_zero_le a1
      rw [HS.out, iz_summL (by rw [HL.out]; exact hlt) hj] at r0
      rw [hj] at r1 a2
      have hjn : j < n := by omega
      clear hj a1 a2 HGx
      go_wp2_with fail
      refine wp_region_calm (by kernel_rfl) (by kernel_rfl) fun hx9 => ?_
      repeat (go_big_quiet_step ((first | (go_at_call 15; exact calm_call (l_dist n F j _ _ _ ls _ ((HA.out.below HX.out).below (Lat.ok _)) HV.out hF hjn)))))
      refine wpQuiet_nil ?_
      rintro w9 ⟨⟨_, hb9⟩, rfl⟩
      obtain ⟨hc9, _⟩ := bcell hb9
      go_wp2_with fail
      go_roundw
      case rel => exact ⟨k + 1, by omega, by go_num, HX.out.trans (hb9.mono hsx)⟩
      case measure => simp [intOf]; omega
    · obtain rfl : k = lo := by omega
      go_wp2_with fail
      go_ret
      exact ⟨rfl, HW.out.trans (HX.out.mono HW.out.size)⟩
set_option maxHeartbeats 800000 in
set_option maxRecDepth 100000 in
theorem FnSummary_lifted (os : Os) (started : os.Started) (H : Type) (enc : TypeId × Value → H) :
    ReturnsInHanded {} Try.checked os 4 .any (Rows.fnSummarySpec.pre6 enc Try.prog Try.f4 Rows.fnSummaryRow.domain false) (Rows.fnSummarySpec.post enc Try.prog Try.f4 false true false false) := by
  refine returnsInHanded_of_change (C := Try.checked) row_own started (by kernel_rfl) Try.func4
    (ChangeSpec.witness6 (enc := enc) (C := Try.checked) false ⟨#[], #[.slice none 0 0], []⟩ 8 (by kernel_rfl) (by kernel_rfl) (by kernel_rfl) (by kernel_rfl)) ?_
  intro W base args ds gs before hval0 hW _ _
  have hval : ∀ (j : Nat) t v, Try.f4.params[j]? = some t → args[j]? = some v → Value.okWide Try.prog W .any base t v := hval0
  have hW' := hW
  obtain ⟨p, q, hA0, hV, rfl, _, _⟩ := hW
  have hA : DataW.TrodAll enc Try.prog W 0 (fun _ => true) true Try.f4.params.toList args.toList ds p := hA0
  rw [Try.params4] at hA hval
  obtain ⟨v0, vs0, d0, ds0, p0, q0, hargs, rfl, rfl, h0, r0⟩ := trodAll_cons hA
  obtain ⟨rfl, rfl, rfl⟩ := trodAll_nil r0
  obtain rfl : args = #[v0] := by cases args; simp_all
  obtain ⟨rfl, rfl⟩ := trodVars_none hV
  obtain ⟨a0, len0, cap0, rfl⟩ := okWide_slice Try.underlying22 (hval 0 22 v0 rfl rfl)
  clear hA0 hval0
  simp only [List.append_nil] at hW'
  have hlt : ∀ x ∈ p0, x.block < W.heap.size := fun x hx => by simpa using hW'.lt x hx
  have k0 := fun (W' : World) (hb : Below W.heap.size W W') => Below.trod row_laid (by kernel_rfl) (of_decide_eq_true (by kernel_rfl)) h0 hb (fun x hx => hlt x hx)
  refine (law_FnSummary a0 len0 cap0 W (open_bytes h0)).mono fun e W' ⟨he, hb⟩ => ?_
  subst he
  have hargs := (trodAll_cons_mk (k0 _ hb) trodAll_mk0)
  simp only [List.append_nil] at hargs
  exact ⟨_, rfl, _, _, _, [], _, [], hW', trodAll_mk1 (shut_bool Try.underlying4 _), hargs, rfl, hb.frame _, fun h => by cases h⟩
theorem FnSummary_holds : Rows.FnSummarySaid :=
  OpenClaim.holds_of_wide 4 Try.f4 rfl rfl rfl rfl rfl rfl rfl ⟨rfl, rfl, rfl, rfl, rfl⟩ rfl rfl rfl rfl rfl (by kernel_rfl) Try.func4 (by kernel_rfl)
    (of_decide_eq_true (by kernel_rfl)) (by unfold Func.isWrapper; first | (rw [if_pos (by decide +kernel)]; kernel_rfl) | (rw [if_neg (by decide +kernel)]; exact ⟨rfl, rfl⟩))
    (fun os started H enc _ => FnSummary_lifted os started H enc)
#print axioms FnSummary_holds
end Go.Proofs.Ytkeihpihphefgaa
