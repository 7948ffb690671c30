/- The law FnAreaRouteMore: for every input it returns true, and what came in reads as it did. No condition. -/
import Derived.Test.YtkeihpihphefgaaS3
namespace Go.Proofs.Ytkeihpihphefgaa
open Go.RowKit Go.ChangeShapes Go.WideShapes Go.ChangeAt

theorem RdI.cut1 {w : World} {b o len : Nat} {zs : List Int} (h : RdI w (some ⟨b, o, none⟩) len zs) {k : Nat} (hk : k < len) : RdI w (some ⟨b, o + k, none⟩) 1 [iz zs k] := by
  obtain ⟨b', o', e, _, r⟩ := h.rule (by omega)
  injection e with e
  injection e with e1 e2
  subst e1 e2
  refine ⟨rfl, by omega, rfl, fun _ => ⟨b, o + k, rfl, fun j u hu => ?_⟩⟩
  have hj : j = 0 := by have := (List.getElem?_eq_some_iff.1 hu).1; simpa [ints] using this
  subst hj
  have hu' : Value.int .i64 (iz zs k) = u := by simpa [ints] using hu
  rw [← hu']
  exact r k hk

set_option maxRecDepth 100000 in
set_option maxHeartbeats 2000000 in
theorem law_FnAreaRouteMore (C : Option Addr) (L cap : Nat) (Mo : Option Addr) (Km mcap : Nat) (w : World) (h : RdB w C L cap) (h' : RdB w Mo Km mcap) : Holds 8 #[.slice C L cap, .slice Mo Km mcap] w := by
  have H := Lib.hid h
  have hm : cap ≤ 9223372036854775807 := h.2.1
  have hm' := h.1
  have hk : mcap ≤ 9223372036854775807 := h'.2.1
  have hk' := h'.1
  clear h h'
  unfold Holds
  by_cases hL : 1048576 < L
  · go_enter Try.func8, Try.ntmps8
    go_wp2_with fail
    go_ret
    exact ⟨rfl, Below.refl _ _⟩
  by_cases hK : 1048576 < Km
  · go_enter Try.func8, Try.ntmps8
    go_wp2_with fail
    go_ret
    exact ⟨rfl, Below.refl _ _⟩
  go_enter Try.func8, Try.ntmps8
  go_upto_region 6 with (first | (go_at_call 26; go_must (refine (d_AreaRoute _ _ _ _ H.out).mono ?_); rintro e w1 ⟨n, A, la, ca, xs, m, A', lb, cb, ys, Z, lz, cz, zs, f, t, rfl, hA, hB, hZ, hlz, hcz, hb1⟩; have HCZ := Lib.hid hcz; clear hcz; have HA1 := Lib.hid hA; have HB1 := Lib.hid hB; have HZ1 := Lib.hid hZ; have HW1 := Lib.hid hb1; clear hA hB hZ hb1; obtain ⟨⟨p, q⟩, hP⟩ : ∃ P : Int × Int, P = route n xs m ys zs f t := ⟨_, rfl⟩; have HP := Lib.hid hP; clear hP) | (go_at_call 20; go_must (refine (i_AreaRoute _ _ _ _ _ _ _ xs _ _ _ ys _ _ _ zs _ ((HA1.out.alloc _).alloc _) ((HB1.out.alloc _).alloc _) ((HZ1.out.alloc _).alloc _)).mono ?_); rw [← HP.out]; rintro e w2 ⟨rfl, hb2⟩; obtain ⟨hc2, _⟩ := bcell hb2) | (go_at_call 17; go_must (refine (s_AreaRoute _ _ _ _ _ _ _ xs _ _ _ ys _ _ _ zs _ (((HA1.out.alloc _).alloc _).below hb2) (((HB1.out.alloc _).alloc _).below hb2) (((HZ1.out.alloc _).alloc _).below hb2)).mono ?_); rw [← HP.out]; rintro e w3 ⟨rfl, hb3⟩))
  have HB23 := Lib.hid (hb2.trans (hb3.mono hb2.size))
  have hsz : w.heap.size ≤ w1.heap.size := HW1.out.size
  have H8 : Hid (Blk w3 w1.heap.size 25 #[.int .i64 n, .slice A la ca]) := Blk.below ((Blk.new _ _ _).alloc _) HB23.out
  have H9 : Hid (Blk w3 (w1.heap.size + 1) 25 #[.int .i64 m, .slice A' lb cb]) := Blk.below (by have := Blk.new (w1.alloc (.cells #[.int .i64 n, .slice A la ca] 25)) 25 #[.int .i64 m, .slice A' lb cb]; simpa using this) HB23.out
  have HA : Hid (RdL w3 A la xs) := ((HA1.out.alloc _).alloc _).below HB23.out
  have HB : Hid (RdL w3 A' lb ys) := ((HB1.out.alloc _).alloc _).below HB23.out
  have HZ : Hid (RdI w3 Z lz zs) := ((HZ1.out.alloc _).alloc _).below HB23.out
  have HW : Hid (Below w.heap.size w w3) := HW1.out.trans ((((Below.refl _ _).alloc (Nat.le_refl _) _).alloc (by simp) _ |>.mono hsz).trans (HB23.out.mono (by simp; omega)))
  clear HA1 HB1 HZ1 HW1 HB23 hb2 hb3 hc2
  generalize w1.heap.size = g8 at *
  have q80 := H8.out.cell 0; have q81 := H8.out.cell 1; have q8f := H8.out.frozen; have q8l := H8.out.lt
  have q90 := H9.out.cell 0; have q91 := H9.out.cell 1; have q9f := H9.out.frozen; have q9l := H9.out.lt
  by_cases hp : p < 0
  · go_wp2_with fail
    go_ret
    exact ⟨ret_bool (by simp), HW.out⟩
  have hpos : 0 ≤ (route n xs m ys zs f t).1 := by rw [← HP.out]; show 0 ≤ p; omega
  obtain ⟨F, T, rfl, rfl, hok⟩ := routeOk_t (route_pos hpos)
  have hz : zs.length = lz := HZ.out.1
  have hzl := Lib.hid hz
  have hlz0 : 0 < lz := by have := hok.pos; omega
  clear hz
  obtain ⟨k, hkk⟩ : ∃ k, k = Km % lz := ⟨_, rfl⟩
  have hlt : k < lz := by rw [hkk]; exact Nat.mod_lt _ hlz0
  obtain ⟨bB, oB, rfl, hbB, rB⟩ := HZ.out.rule hlz0
  clear rB
  have HZ1 := Lib.hid (HZ.out.cut1 hlt)
  have hc1 := HCZ.out.1
  have hc2 : cz ≤ 9223372036854775807 := HCZ.out.2
  have HRS := Lib.hid (route_single hok (i := k) (by rw [hzl.out]; exact hlt))
  have HQ : Hid (q = (route n xs m ys zs F T).2) := Lib.hid (by rw [← HP.out])
  have e1 : 0 ≤ (Km : Int) % (lz : Int) := Int.emod_nonneg _ (by omega)
  have e2 : (Km : Int) % (lz : Int) < lz := Int.emod_lt_of_pos _ (by omega)
  have e3 : ((Km : Int) % (lz : Int)).toNat = k := by rw [hkk, ← Int.natCast_emod]; exact Int.toNat_natCast _
  have e4 : ((Km : Int) % (lz : Int) + 1).toNat = k + 1 := by rw [hkk, ← Int.natCast_emod]; omega
  have e5 : (Km : Int) % (lz : Int) + 1 ≤ cz := by omega
  clear hkk hok HP
  obtain ⟨⟨p', q'⟩, hP'⟩ : ∃ P : Int × Int, P = route n xs m ys [iz zs k] F T := ⟨_, rfl⟩
  have HP' := Lib.hid hP'; clear hP'
  go_wp2_with fail
  refine wp_plan 14 [(0, true), (1, true), (2, true), (3, true), (4, true), (5, true), (6, true), (7, true), (8, true), (9, false), (10, true), (11, true), (12, true), (13, true)] (by kernel_rfl) (by kernel_rfl) fun hx9 => ?_
  simp only [picked, List.filterMap_cons, List.filterMap_nil, List.getElem?_cons_zero, List.getElem?_cons_succ, Option.map_some, List.drop_succ_cons, List.drop_zero]
  repeat (first | refine wpPlan_skip rfl ?_ | (refine wpPlan_val rfl rfl (fun K hK => ?_); go_big_quiet_op; refine hK _ ?_; clear hK K))
  try refine wpPlan_nil ?_
  refine wpPlan_eff rfl rfl (fun K hK => ?_); unfold Oper.wp; go_simp
  go_must (refine (i_AreaRoute _ _ _ _ _ _ _ xs _ _ _ ys _ _ _ [iz zs k] _ (HA.out.drewN 1) (HB.out.drewN 1) (HZ1.out.drewN 1)).mono ?_)
  rw [← HP'.out]
  rintro e w4 ⟨rfl, hb4⟩
  have hb5 : Below w3.heap.size w3 w4 := ((Below.refl _ w3).drew).trans hb4
  refine hK _ _ ⟨⟨w4, hb5⟩, rfl⟩ ?_
  clear hK K hb4
  repeat (first | refine wpPlan_skip rfl ?_ | (refine wpPlan_val rfl rfl (fun K hK => ?_); go_big_quiet_op; refine hK _ ?_; clear hK K))
  try refine wpPlan_nil ?_
  go_upto_region 10 with (fail)
  have hfin : p' < 0 ∨ q ≤ q' := by
    have := HRS.out
    rw [← HP'.out, ← HQ.out] at this
    exact this
  by_cases hp' : p' < 0
  · clear hfin
    go_wp2_with fail
    go_ret
    exact ⟨ret_bool (by simp), HW.out.trans (hb5.mono HW.out.size)⟩
  · have hq' : q ≤ q' := by omega
    clear hfin
    go_wp2_with fail
    go_ret
    exact ⟨ret_bool (by simp), HW.out.trans (hb5.mono HW.out.size)⟩

set_option maxHeartbeats 800000 in
set_option maxRecDepth 100000 in
theorem FnAreaRouteMore_lifted (os : Os) (started : os.Started) (H : Type) (enc : TypeId × Value → H) :
    ReturnsInHanded {} Try.checked os 8 .any (Rows.fnAreaRouteMoreSpec.pre6 enc Try.prog Try.f8 Rows.fnAreaRouteMoreRow.domain false) (Rows.fnAreaRouteMoreSpec.post enc Try.prog Try.f8 false true false false) := by
  refine returnsInHanded_of_change (C := Try.checked) row_own started (by kernel_rfl) Try.func8
    (ChangeSpec.witness6 (enc := enc) (C := Try.checked) false ⟨#[], #[.slice none 0 0, .slice none 0 0], []⟩ 8 (by kernel_rfl) (by kernel_rfl) (by kernel_rfl) (by kernel_rfl)) ?_
  intro W base args ds gs before hval0 hW _ _
  have hval : ∀ (j : Nat) t v, Try.f8.params[j]? = some t → args[j]? = some v → Value.okWide Try.prog W .any base t v := hval0
  have hW' := hW
  obtain ⟨p, q, hA0, hV, rfl, _, _⟩ := hW
  have hA : DataW.TrodAll enc Try.prog W 0 (fun _ => true) true Try.f8.params.toList args.toList ds p := hA0
  rw [Try.params8] at hA hval
  obtain ⟨v0, vs0, d0, ds0, p0, q0, hargs, rfl, rfl, h0, r0⟩ := trodAll_cons hA
  obtain ⟨v1, vs1, d1, ds1, p1, q1, rfl, rfl, rfl, h1, r1⟩ := trodAll_cons r0
  obtain ⟨rfl, rfl, rfl⟩ := trodAll_nil r1
  obtain rfl : args = #[v0, v1] := by cases args; simp_all
  obtain ⟨rfl, rfl⟩ := trodVars_none hV
  obtain ⟨a0, len0, cap0, rfl⟩ := okWide_slice Try.underlying22 (hval 0 22 v0 rfl rfl)
  obtain ⟨a1, len1, cap1, rfl⟩ := okWide_slice Try.underlying22 (hval 1 22 v1 rfl rfl)
  clear hA0 hval0
  simp only [List.append_nil] at hW'
  have hlt : ∀ x ∈ p0 ++ (p1), x.block < W.heap.size := fun x hx => by simpa using hW'.lt x hx
  have k0 := fun (W' : World) (hb : Below W.heap.size W W') => Below.trod row_laid (by kernel_rfl) (of_decide_eq_true (by kernel_rfl)) h0 hb (fun x hx => hlt x (by simp [hx]))
  have k1 := fun (W' : World) (hb : Below W.heap.size W W') => Below.trod row_laid (by kernel_rfl) (of_decide_eq_true (by kernel_rfl)) h1 hb (fun x hx => hlt x (by simp [hx]))
  refine (law_FnAreaRouteMore a0 len0 cap0 a1 len1 cap1 W (open_bytes h0) (open_bytes h1)).mono fun e W' ⟨he, hb⟩ => ?_
  subst he
  have hargs := (trodAll_cons_mk (k0 _ hb) (trodAll_cons_mk (k1 _ hb) trodAll_mk0))
  simp only [List.append_nil] at hargs
  exact ⟨_, rfl, _, _, _, [], _, [], hW', trodAll_mk1 (shut_bool Try.underlying4 _), hargs, rfl, hb.frame _, fun h => by cases h⟩
theorem FnAreaRouteMore_holds : Rows.FnAreaRouteMoreSaid :=
  OpenClaim.holds_of_wide 8 Try.f8 rfl rfl rfl rfl rfl rfl rfl ⟨rfl, rfl, rfl, rfl, rfl⟩ rfl rfl rfl rfl rfl (by kernel_rfl) Try.func8 (by kernel_rfl)
    (of_decide_eq_true (by kernel_rfl)) (by unfold Func.isWrapper; first | (rw [if_pos (by decide +kernel)]; kernel_rfl) | (rw [if_neg (by decide +kernel)]; exact ⟨rfl, rfl⟩))
    (fun os started H enc _ => FnAreaRouteMore_lifted os started H enc)
#print axioms FnAreaRouteMore_holds
end Go.Proofs.Ytkeihpihphefgaa
