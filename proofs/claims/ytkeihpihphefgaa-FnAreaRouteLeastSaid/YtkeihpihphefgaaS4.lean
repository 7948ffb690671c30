/- The law FnAreaRouteLeast: for every input it returns true, and what came in reads as it did. No condition. -/
import Derived.Test.YtkeihpihphefgaaS3
namespace Go.Proofs.Ytkeihpihphefgaa
open Go.RowKit Go.ChangeShapes Go.WideShapes Go.ChangeAt

set_option maxRecDepth 100000 in
set_option maxHeartbeats 2000000 in
theorem law_FnAreaRouteLeast (C : Option Addr) (L cap : Nat) (w : World) (h : RdB w C L cap) : Holds 9 #[.slice C L cap] w := by
  have H := Lib.hid h
  have hm : cap ≤ 9223372036854775807 := h.2.1
  have hm' := h.1
  clear h
  unfold Holds
  by_cases hL : 1048576 < L
  · go_enter Try.func9, Try.ntmps9
    go_wp2_with fail
    go_ret
    exact ⟨rfl, Below.refl _ _⟩
  go_enter Try.func9, Try.ntmps9
  go_upto_region 6 with (first | (go_at_call 26; go_must (refine (d_AreaRoute _ _ _ _ H.out).mono ?_); rintro e w1 ⟨n, A, la, ca, xs, m, A', lb, cb, ys, Z, lz, cz, zs, f, t, rfl, hA, hB, hZ, hlz, hb1⟩; have HA1 := Lib.hid hA; have HB1 := Lib.hid hB; have HZ1 := Lib.hid hZ; have HW1 := Lib.hid hb1; clear hA hB hZ hb1; obtain ⟨⟨p, q⟩, hP⟩ : ∃ P : Int × Int, P = route n xs m ys zs f t := ⟨_, rfl⟩; have HP := Lib.hid hP; clear hP) | (go_at_call 20; go_must (refine (i_AreaRoute _ _ _ _ _ _ _ xs _ _ _ ys _ _ _ zs _ ((HA1.out.alloc _).alloc _) ((HB1.out.alloc _).alloc _) ((HZ1.out.alloc _).alloc _)).mono ?_); rw [← HP.out]; rintro e w2 ⟨rfl, hb2⟩; obtain ⟨hc2, _⟩ := bcell hb2) | (go_at_call 17; go_must (refine (s_AreaRoute _ _ _ _ _ _ _ xs _ _ _ ys _ _ _ zs _ (((HA1.out.alloc _).alloc _).below hb2) (((HB1.out.alloc _).alloc _).below hb2) (((HZ1.out.alloc _).alloc _).below hb2)).mono ?_); rw [← HP.out]; rintro e w3 ⟨rfl, hb3⟩))
  have HB23 := Lib.hid (hb2.trans (hb3.mono hb2.size))
  have hsz : w.heap.size ≤ w1.heap.size := HW1.out.size
  have H8 : Hid (Blk w3 w1.heap.size 25 #[.int .i64 n, .slice A la ca]) := Blk.below ((Blk.new _ _ _).alloc _) HB23.out
  have H9 : Hid (Blk w3 (w1.heap.size + 1) 25 #[.int .i64 m, .slice A' lb cb]) := Blk.below (by have := Blk.new (w1.alloc (.cells #[.int .i64 n, .slice A la ca] 25)) 25 #[.int .i64 m, .slice A' lb cb]; simpa using this) HB23.out
  have HA : Hid (RdL w3 A la xs) := ((HA1.out.alloc _).alloc _).below HB23.out
  have HB : Hid (RdL w3 A' lb ys) := ((HB1.out.alloc _).alloc _).below HB23.out
  have HZ : Hid (RdI w3 Z lz zs) := ((HZ1.out.alloc _).alloc _).below HB23.out
  have HW : Hid (Below w.heap.size w w3) := HW1.out.trans ((((Below.refl _ _).alloc (Nat.le_refl _) _).alloc (by simp) _ |>.mono hsz).trans (HB23.out.mono (by simp; omega)))
  clear HA1 HB1 HZ1 HW1 HB23 hb2 hb3 hc2
  generalize w1.heap.size = g8 at *
  have q80 := H8.out.cell 0; have q81 := H8.out.cell 1; have q8f := H8.out.frozen; have q8l := H8.out.lt
  have q90 := H9.out.cell 0; have q91 := H9.out.cell 1; have q9f := H9.out.frozen; have q9l := H9.out.lt
  by_cases hp : p < 0
  · go_wp2_with fail
    go_ret
    exact ⟨ret_bool (by simp), HW.out⟩
  have hpos : 0 ≤ (route n xs m ys zs f t).1 := by rw [← HP.out]; show 0 ≤ p; omega
  obtain ⟨F, T, rfl, rfl, hok⟩ := routeOk_t (route_pos hpos)
  have hz : zs.length = lz := HZ.out.1
  have hzl := Lib.hid hz
  have hlz0 : 0 < lz := by have := hok.pos; omega
  clear hz
  have HLE : Hid (∀ i j : Nat, i < zs.length → iz zs i = j → 0 ≤ iz (dists n xs F) j → 0 ≤ iz (dists m ys T) j → q ≤ iz (dists n xs F) j + iz (dists m ys T) j ∧ (iz (dists n xs F) j + iz (dists m ys T) j = q → p ≤ j)) := by
    intro i j hi hj h1 h2
    have := route_least hok hi hj h1 h2
    rw [← HP.out] at this
    exact this.2
  have hok' := Lib.hid hok
  have hf := hok.hf
  have ht := hok.ht
  have hg8 : g8 + 1 < w3.heap.size := q9l
  clear hok
  go_wp2_with fail
  go_loopw [12] (fun i wr => ∃ k : Nat, k ≤ lz ∧ i = .int .i64 k ∧ Hid (Below w3.heap.size w3 wr)) (fun i _ => lz - (intOf i).toNat)
  case atStart => exact ⟨0, by omega, rfl, Below.refl _ _⟩
  case round =>
    obtain ⟨k, hk, rfl, HX⟩ := hrel
    clear q80 q81 q8f q8l
    clear q90 q91 q9f q9l
    have hsx := HX.out.size
    have K8 := H8.out.below HX.out
    have K9 := H9.out.below HX.out
    by_cases hlt : k < lz
    · obtain ⟨bB, oB, rfl, hbB, rB⟩ := (HZ.out.below HX.out).rule (by omega)
      have r1 := rB k hlt
      clear rB
      obtain ⟨a1, a2, _⟩ := hok'.out.aa k (by rw [hzl.out]; exact hlt)
      have a3 := (hok'.out.ab k (by rw [hzl.out]; exact hlt)).2.1
      obtain ⟨j, hj⟩ := Int.eq_ofNat_of_zero_le a1
      rw [hj] at r1 a2 a3
      have hjn : j < n := by omega
      have hjm : j < m := by omega
      have HLK := Lib.hid (HLE.out k j (by rw [hzl.out]; exact hlt) hj)
      have b1 := (dists_bd (f := F) hok'.out.ga j).1
      have b2 := (dists_bd (f := F) hok'.out.ga j).2
      have b3 := (dists_bd (f := T) hok'.out.gb j).1
      have b4 := (dists_bd (f := T) hok'.out.gb j).2
      clear hj a1 a2 a3
      have k80 := K8.cell 0
      have k81 := K8.cell 1
      have k8l := K8.lt
      have k90 := K9.cell 0
      have k91 := K9.cell 1
      have k9l := K9.lt
      clear K8 K9
      go_wp2_with fail
      refine wp_region_calm (by kernel_rfl) (by kernel_rfl) fun hx9 => ?_
      repeat (go_big_quiet_step ((first | (go_at_call 15; exact calm_call (l_dist n F j _ _ _ xs _ ((HA.out.below HX.out).below (Lat.ok _)) hok'.out.va hf hjn)))))
      refine wpQuiet_nil ?_
      rintro w9 ⟨⟨_, hb9⟩, rfl⟩
      obtain ⟨hc9, _⟩ := bcell hb9
      have z1 : g8 < w9.heap.size := by have := hb9.size; omega
      have z2 : g8 + 1 < w9.heap.size := by have := hb9.size; omega
      have z3 : bB < w9.heap.size := by have := hb9.size; omega
      have Hb9 := Lib.hid hb9; clear hb9
      go_wp2_with fail
      refine wp_region_calm (by kernel_rfl) (by kernel_rfl) fun hx9 => ?_
      repeat (go_big_quiet_step ((first | (go_at_call 15; exact calm_call (l_dist m T j _ _ _ ys _ (((HB.out.below HX.out).below Hb9.out).below (Lat.ok _)) hok'.out.vb ht hjm)))))
      refine wpQuiet_nil ?_
      rintro w8 ⟨⟨_, hb8⟩, rfl⟩
      obtain ⟨hc9, _⟩ := bcell hb8
      have z4 := hb8.size
      have z5 := Hb9.out.size
      have Hb8 := Lib.hid hb8; clear hb8
      have HB' : Hid (Below w3.heap.size w3 w8) := HX.out.trans ((Hb9.out.trans (Hb8.out.mono z5)).mono hsx)
      rcases cs_bool (decide (0 ≤ iz (dists n xs F) j)) with y0 | y0
      · go_wp2_with fail
        go_roundw
        case rel => exact ⟨k + 1, by omega, by go_num, HB'⟩
        case measure => simp [intOf]; omega
      rcases cs_bool (decide (0 ≤ iz (dists m ys T) j)) with y1 | y1
      · go_wp2_with fail
        go_roundw
        case rel => exact ⟨k + 1, by omega, by go_num, HB'⟩
        case measure => simp [intOf]; omega
      obtain ⟨l1, l2⟩ := HLK.out (by simpa using y0) (by simpa using y1)
      have y2 : decide (iz (dists n xs F) j + iz (dists m ys T) j < q) = false := by simpa using l1
      have L2 := Lib.hid l2; clear l2
      rcases cs_bool (iz (dists n xs F) j + iz (dists m ys T) j == q) with y3 | y3
      · go_wp2_with fail
        go_roundw
        case rel => exact ⟨k + 1, by omega, by go_num, HB'⟩
        case measure => simp [intOf]; omega
      · have y4 : decide ((j : Int) < p) = false := by simpa using L2.out (by simpa using y3)
        go_wp2_with fail
        go_roundw
        case rel => exact ⟨k + 1, by omega, by go_num, HB'⟩
        case measure => simp [intOf]; omega
    · obtain rfl : k = lz := by omega
      go_wp2_with fail
      go_ret
      exact ⟨rfl, HW.out.trans (HX.out.mono HW.out.size)⟩

set_option maxHeartbeats 800000 in
set_option maxRecDepth 100000 in
theorem FnAreaRouteLeast_lifted (os : Os) (started : os.Started) (H : Type) (enc : TypeId × Value → H) :
    ReturnsInHanded {} Try.checked os 9 .any (Rows.fnAreaRouteLeastSpec.pre6 enc Try.prog Try.f9 Rows.fnAreaRouteLeastRow.domain false) (Rows.fnAreaRouteLeastSpec.post enc Try.prog Try.f9 false true false false) := by
  refine returnsInHanded_of_change (C := Try.checked) row_own started (by kernel_rfl) Try.func9
    (ChangeSpec.witness6 (enc := enc) (C := Try.checked) false ⟨#[], #[.slice none 0 0], []⟩ 8 (by kernel_rfl) (by kernel_rfl) (by kernel_rfl) (by kernel_rfl)) ?_
  intro W base args ds gs before hval0 hW _ _
  have hval : ∀ (j : Nat) t v, Try.f9.params[j]? = some t → args[j]? = some v → Value.okWide Try.prog W .any base t v := hval0
  have hW' := hW
  obtain ⟨p, q, hA0, hV, rfl, _, _⟩ := hW
  have hA : DataW.TrodAll enc Try.prog W 0 (fun _ => true) true Try.f9.params.toList args.toList ds p := hA0
  rw [Try.params9] at hA hval
  obtain ⟨v0, vs0, d0, ds0, p0, q0, hargs, rfl, rfl, h0, r0⟩ := trodAll_cons hA
  obtain ⟨rfl, rfl, rfl⟩ := trodAll_nil r0
  obtain rfl : args = #[v0] := by cases args; simp_all
  obtain ⟨rfl, rfl⟩ := trodVars_none hV
  obtain ⟨a0, len0, cap0, rfl⟩ := okWide_slice Try.underlying22 (hval 0 22 v0 rfl rfl)
  clear hA0 hval0
  simp only [List.append_nil] at hW'
  have hlt : ∀ x ∈ p0, x.block < W.heap.size := fun x hx => by simpa using hW'.lt x hx
  have k0 := fun (W' : World) (hb : Below W.heap.size W W') => Below.trod row_laid (by kernel_rfl) (of_decide_eq_true (by kernel_rfl)) h0 hb (fun x hx => hlt x hx)
  refine (law_FnAreaRouteLeast a0 len0 cap0 W (open_bytes h0)).mono fun e W' ⟨he, hb⟩ => ?_
  subst he
  have hargs := (trodAll_cons_mk (k0 _ hb) trodAll_mk0)
  simp only [List.append_nil] at hargs
  exact ⟨_, rfl, _, _, _, [], _, [], hW', trodAll_mk1 (shut_bool Try.underlying4 _), hargs, rfl, hb.frame _, fun h => by cases h⟩
theorem FnAreaRouteLeast_holds : Rows.FnAreaRouteLeastSaid :=
  OpenClaim.holds_of_wide 9 Try.f9 rfl rfl rfl rfl rfl rfl rfl ⟨rfl, rfl, rfl, rfl, rfl⟩ rfl rfl rfl rfl rfl (by kernel_rfl) Try.func9 (by kernel_rfl)
    (of_decide_eq_true (by kernel_rfl)) (by unfold Func.isWrapper; first | (rw [if_pos (by decide +kernel)]; kernel_rfl) | (rw [if_neg (by decide +kernel)]; exact ⟨rfl, rfl⟩))
    (fun os started H enc _ => FnAreaRouteLeast_lifted os started H enc)
#print axioms FnAreaRouteLeast_holds
end Go.Proofs.Ytkeihpihphefgaa
