/- The law FnAreaRoute: for every input it returns true, and what came in reads as it did. No condition. -/
import Derived.Test.YtkeihpihphefgaaA3
import Derived.Test.YtkeihpihphefgaaRt
import Derived.Test.YtkeihpihphefgaaD9
namespace Go.Proofs.Ytkeihpihphefgaa
open Go.RowKit Go.ChangeShapes Go.WideShapes Go.ChangeAt

theorem dists_bd {n f : Nat} {ls : List Lk} (h : GV n ls) (j : Nat) : -1 ≤ iz (dists n ls f) j ∧ iz (dists n ls f) j ≤ 5100 := dst_bd n ls f n 0 h.cheap h.2.2.1 (by have := h.2.1; omega) j

set_option maxRecDepth 100000 in
set_option maxHeartbeats 2000000 in
theorem law_FnAreaRoute (C : Option Addr) (L cap : Nat) (w : World) (h : RdB w C L cap) : Holds 10 #[.slice C L cap] w := by
  have H := Lib.hid h
  have hm : cap ≤ 9223372036854775807 := h.2.1
  have hm' := h.1
  clear h
  unfold Holds
  by_cases hL : 1048576 < L
  · go_enter Try.func10, Try.ntmps10
    go_wp2_with fail
    go_ret
    exact ⟨rfl, Below.refl _ _⟩
  go_enter Try.func10, Try.ntmps10
  go_upto_region 6 with (first | (go_at_call 26; go_must (refine (d_AreaRoute _ _ _ _ H.out).mono ?_); rintro e w1 ⟨n, A, la, ca, xs, m, A', lb, cb, ys, Z, lz, cz, zs, f, t, rfl, hA, hB, hZ, hlz, hcz, hb1⟩; have HCZ := Lib.hid hcz; clear hcz; have HA1 := Lib.hid hA; have HB1 := Lib.hid hB; have HZ1 := Lib.hid hZ; have HW1 := Lib.hid hb1; clear hA hB hZ hb1; obtain ⟨⟨p, q⟩, hP⟩ : ∃ P : Int × Int, P = route n xs m ys zs f t := ⟨_, rfl⟩; have HP := Lib.hid hP; clear hP) | (go_at_call 20; go_must (refine (i_AreaRoute _ _ _ _ _ _ _ xs _ _ _ ys _ _ _ zs _ ((HA1.out.alloc _).alloc _) ((HB1.out.alloc _).alloc _) ((HZ1.out.alloc _).alloc _)).mono ?_); rw [← HP.out]; rintro e w2 ⟨rfl, hb2⟩; obtain ⟨hc2, _⟩ := bcell hb2) | (go_at_call 17; go_must (refine (s_AreaRoute _ _ _ _ _ _ _ xs _ _ _ ys _ _ _ zs _ (((HA1.out.alloc _).alloc _).below hb2) (((HB1.out.alloc _).alloc _).below hb2) (((HZ1.out.alloc _).alloc _).below hb2)).mono ?_); rw [← HP.out]; rintro e w3 ⟨rfl, hb3⟩))
  have HB23 := Lib.hid (hb2.trans (hb3.mono hb2.size))
  have hsz : w.heap.size ≤ w1.heap.size := HW1.out.size
  have H8 : Hid (Blk w3 w1.heap.size 25 #[.int .i64 n, .slice A la ca]) := Blk.below ((Blk.new _ _ _).alloc _) HB23.out
  have H9 : Hid (Blk w3 (w1.heap.size + 1) 25 #[.int .i64 m, .slice A' lb cb]) := Blk.below (by have := Blk.new (w1.alloc (.cells #[.int .i64 n, .slice A la ca] 25)) 25 #[.int .i64 m, .slice A' lb cb]; simpa using this) HB23.out
  have HA : Hid (RdL w3 A la xs) := ((HA1.out.alloc _).alloc _).below HB23.out
  have HB : Hid (RdL w3 A' lb ys) := ((HB1.out.alloc _).alloc _).below HB23.out
  have HZ : Hid (RdI w3 Z lz zs) := ((HZ1.out.alloc _).alloc _).below HB23.out
  have HW : Hid (Below w.heap.size w w3) := HW1.out.trans ((((Below.refl _ _).alloc (Nat.le_refl _) _).alloc (by simp) _ |>.mono hsz).trans (HB23.out.mono (by simp; omega)))
  clear HA1 HB1 HZ1 HW1 HB23 hb2 hb3 hc2
  generalize w1.heap.size = g8 at *
  have q80 := H8.out.cell 0; have q81 := H8.out.cell 1; have q8f := H8.out.frozen; have q8l := H8.out.lt
  have q90 := H9.out.cell 0; have q91 := H9.out.cell 1; have q9f := H9.out.frozen; have q9l := H9.out.lt
  by_cases hp : p < 0
  · go_wp2_with fail
    go_ret
    exact ⟨ret_bool (by simp), HW.out⟩
  have hpos : 0 ≤ (route n xs m ys zs f t).1 := by rw [← HP.out]; show 0 ≤ p; omega
  obtain ⟨F, T, rfl, rfl, hok⟩ := routeOk_t (route_pos hpos)
  have hz : zs.length = lz := HZ.out.1
  have hzl := Lib.hid hz
  have hlz0 : 0 < lz := by have := hok.pos; omega
  clear hz
  obtain ⟨i, j, hi, hj, ja, jb, e1, e2⟩ := route_over hok hpos
  rw [← HP.out] at e1 e2
  dsimp only at e1 e2
  subst e1 e2
  have HH := Lib.hid (hasB_t hi hj)
  have b1 := (dists_bd (f := F) hok.ga j).1
  have b2 := (dists_bd (f := F) hok.ga j).2
  have b3 := (dists_bd (f := T) hok.gb j).1
  have b4 := (dists_bd (f := T) hok.gb j).2
  have HV := Lib.hid hok.va
  have HV' := Lib.hid hok.vb
  have hf := hok.hf
  have ht := hok.ht
  clear hj hi hok HP
  go_wp2_with fail
  refine wp_region_calm (by kernel_rfl) (by kernel_rfl) fun hx9 => ?_
  repeat (go_big_quiet_step ((first | (go_at_call 27; exact calm_same (bool_as (l_hasInt _ _ _ _ zs _ (HZ.out.below (Lat.ok _))) HH.out)) | (go_at_call_of 15 (Value.agg #[.int .i64 n, .slice A la ca]); exact calm_call (l_dist n F j _ _ _ xs _ (HA.out.below (Lat.ok _)) HV.out hf ja)) | (go_at_call_of 15 (Value.agg #[.int .i64 m, .slice A' lb cb]); exact calm_call (l_dist m T j _ _ _ ys _ (HB.out.below (Lat.ok _)) HV'.out ht jb)))))
  refine wpQuiet_nil ?_
  rintro w9 ⟨⟨_, hb9⟩, rfl⟩
  obtain ⟨hc9, _⟩ := bcell hb9
  go_wp2_with fail
  go_ret
  exact ⟨ret_bool (by simp), HW.out.trans (hb9.mono HW.out.size)⟩

set_option maxHeartbeats 800000 in
set_option maxRecDepth 100000 in
theorem FnAreaRoute_lifted (os : Os) (started : os.Started) (H : Type) (enc : TypeId × Value → H) :
    ReturnsInHanded {} Try.checked os 10 .any (Rows.fnAreaRouteSpec.pre6 enc Try.prog Try.f10 Rows.fnAreaRouteRow.domain false) (Rows.fnAreaRouteSpec.post enc Try.prog Try.f10 false true false false) := by
  refine returnsInHanded_of_change (C := Try.checked) row_own started (by kernel_rfl) Try.func10
    (ChangeSpec.witness6 (enc := enc) (C := Try.checked) false ⟨#[], #[.slice none 0 0], []⟩ 8 (by kernel_rfl) (by kernel_rfl) (by kernel_rfl) (by kernel_rfl)) ?_
  intro W base args ds gs before hval0 hW _ _
  have hval : ∀ (j : Nat) t v, Try.f10.params[j]? = some t → args[j]? = some v → Value.okWide Try.prog W .any base t v := hval0
  have hW' := hW
  obtain ⟨p, q, hA0, hV, rfl, _, _⟩ := hW
  have hA : DataW.TrodAll enc Try.prog W 0 (fun _ => true) true Try.f10.params.toList args.toList ds p := hA0
  rw [Try.params10] at hA hval
  obtain ⟨v0, vs0, d0, ds0, p0, q0, hargs, rfl, rfl, h0, r0⟩ := trodAll_cons hA
  obtain ⟨rfl, rfl, rfl⟩ := trodAll_nil r0
  obtain rfl : args = #[v0] := by cases args; simp_all
  obtain ⟨rfl, rfl⟩ := trodVars_none hV
  obtain ⟨a0, len0, cap0, rfl⟩ := okWide_slice Try.underlying22 (hval 0 22 v0 rfl rfl)
  clear hA0 hval0
  simp only [List.append_nil] at hW'
  have hlt : ∀ x ∈ p0, x.block < W.heap.size := fun x hx => by simpa using hW'.lt x hx
  have k0 := fun (W' : World) (hb : Below W.heap.size W W') => Below.trod row_laid (by kernel_rfl) (of_decide_eq_true (by kernel_rfl)) h0 hb (fun x hx => hlt x hx)
  refine (law_FnAreaRoute a0 len0 cap0 W (open_bytes h0)).mono fun e W' ⟨he, hb⟩ => ?_
  subst he
  have hargs := (trodAll_cons_mk (k0 _ hb) trodAll_mk0)
  simp only [List.append_nil] at hargs
  exact ⟨_, rfl, _, _, _, [], _, [], hW', trodAll_mk1 (shut_bool Try.underlying4 _), hargs, rfl, hb.frame _, fun h => by cases h⟩
theorem FnAreaRoute_holds : Rows.FnAreaRouteSaid :=
  OpenClaim.holds_of_wide 10 Try.f10 rfl rfl rfl rfl rfl rfl rfl ⟨rfl, rfl, rfl, rfl, rfl⟩ rfl rfl rfl rfl rfl (by kernel_rfl) Try.func10 (by kernel_rfl)
    (of_decide_eq_true (by kernel_rfl)) (by unfold Func.isWrapper; first | (rw [if_pos (by decide +kernel)]; kernel_rfl) | (rw [if_neg (by decide +kernel)]; exact ⟨rfl, rfl⟩))
    (fun os started H enc _ => FnAreaRoute_lifted os started H enc)
#print axioms FnAreaRoute_holds
end Go.Proofs.Ytkeihpihphefgaa
