/- Contracts: distances, the reference's. -/
import Derived.Test.YtkeihpihphefgaaB4
namespace Go.Proofs.Ytkeihpihphefgaa
open Go.RowKit

theorem el_int : IsElem Try.prog 26 3 1 8 := by
  obtain ⟨i, h1, h2, h3, h4⟩ := info_parts int_info
  exact ⟨Try.underlying26, ⟨i, _, h1, h2, h3, h4, rfl⟩, by decide, by decide⟩

set_option maxRecDepth 100000 in
set_option maxHeartbeats 4000000 in
theorem s_l2Distances (n f : Nat) (A : Option Addr) (len cap : Nat) (ls : List Lk) (w : World) (h : RdL w A len ls) (hv : GV n ls) (hf : f < n) :
    Calls Try.prog 37 #[.agg #[.int .i64 n, .slice A len cap], .int .i64 f] w fun e w' => ∃ A' cap', e = .returned (.slice A' n cap') ∧ RdI w' A' n (dists n ls f) ∧ Below w.heap.size w w' := by
  have hmax := h.2.1
  have HL := Lib.hid h.1
  have HR := Lib.hid h.rule; clear h
  have HV := Lib.hid hv
  have hn8 : n ≤ 8 := by have := hv.2.1; omega
  have hl14 : len ≤ 14 := by have := hv.2.2.1; rw [HL.out] at this; exact this
  clear hv
  go_enter Try.func37, Try.ntmps37
  go_wp2_with fail
  go_loopw [5, 6] (fun v i wr => ∃ k : Nat, k ≤ n ∧ i = .int .i64 k ∧ Hid (wr.ownsRow (w.heap.size + 1) 3 1 v k (ints (List.replicate k (-1)))) ∧ Hid (Blk wr w.heap.size 25 #[.int .i64 n, .slice A len cap]) ∧ Hid (Below w.heap.size w wr)) (fun _ i _ => n - (intOf i).toNat)
  case atStart => exact ⟨0, by omega, rfl, Lib.hid (own_made (by simp) (by simp)), (Blk.new _ _ _).alloc _, ((Below.refl _ _).alloc (Nat.le_refl _) _).alloc (by simp) _⟩
  case round =>
    obtain ⟨k, hk, rfl, HO, HG, HW⟩ := hrel
    have q0 := HG.out.cell 0
    have q1 := HG.out.cell 1
    have hz0 := HG.out.lt
    by_cases hkn : k < n
    · go_wp2_with (at_builtin; refine wpl_app el_int rfl (.tmp 17) (.tmp 18) rfl (w.heap.size + 1) _ k _ rfl (HO.out.alloc _) _ 1 [.int .i64 (-1)] rfl rfl (heap_alloc_new _ _) (by simp [Value.oneCell']) (by omega) (by simp; omega) ?_; intro v1 w1 hown1 hg1 _)
      have hg2 := HO.out.lt
      have HO1 := Lib.hid hown1
      have HG1 : Hid (Blk w1 w.heap.size 25 #[.int .i64 n, .slice A len cap]) := (HG.out.alloc _).grown hg1 (fun e => by have := (hg2 _ e).1; omega)
      have HW1 : Hid (Below w.heap.size w w1) := (HW.out.alloc (by omega) _).grown hg1 (by simp; omega) (fun j e => by have := (hg2 _ e).1; omega)
      clear hown1 hg1 hg2 HO HG HW q0 q1
      go_wp2_with fail
      go_roundw
      case rel =>
        refine ⟨k + 1, by omega, by go_num, ?_, HG1, HW1⟩
        rw [List.replicate_succ', ints_app]
        exact HO1
      case measure => simp [intOf]; omega
    · obtain rfl : k = n := by omega
      obtain ⟨g, cap2, rfl, _, _⟩ := HO.out.form (by omega)
      obtain ⟨HB0, hg⟩ := RowI.of_own HO.out
      clear HO
      obtain ⟨hgz, hg1, hg2⟩ := HB0.rule (n := k) (by simp)
      go_wp2_with fail
      have HB1 : Hid (RowI (wr.setCell ⟨g, f, none⟩ (.int .i64 0)) g 3 (dst k ls f 0 0)) := HB0.set_ f (by simpa using hf) 0
      have HG1 : Hid (Blk (wr.setCell ⟨g, f, none⟩ (.int .i64 0)) w.heap.size 25 #[.int .i64 k, .slice A len cap]) := HG.out.far (by simp; omega) _
      have HW1 : Hid (Below w.heap.size w (wr.setCell ⟨g, f, none⟩ (.int .i64 0))) := HW.out.setCell (by simp; omega) _
      generalize wr.setCell ⟨g, f, none⟩ (.int .i64 0) = w2 at *
      clear hg1 hg2 HB0 HG HW hgz q0 q1 hz0
      obtain ⟨n, hN⟩ : ∃ n, n = k := ⟨_, rfl⟩
      subst hN
      go_loopw [7] (fun i wr => ∃ r : Nat, r ≤ n ∧ i = .int .i64 r ∧ Hid (RowI wr g 3 (dst n ls f r 0)) ∧ Hid (Blk wr w.heap.size 25 #[.int .i64 n, .slice A len cap]) ∧ Hid (Below w.heap.size w wr)) (fun i _ => n - (intOf i).toNat)
      case atStart => exact ⟨0, by omega, rfl, HB1, HG1, HW1⟩
      case round =>
        clear HB1 HG1 HW1
        obtain ⟨r, hr, rfl, HB, HG, HW⟩ := hrel
        obtain ⟨wo, rfl⟩ : ∃ wo : World, wo = wr := ⟨_, rfl⟩
        have q0 := HG.out.cell 0
        have q1 := HG.out.cell 1
        by_cases hrn : r < n
        · go_wp2_with fail
          go_loopw [8] (fun i wr => ∃ k : Nat, k ≤ len ∧ i = .int .i64 k ∧ Hid (RowI wr g 3 (dst n ls f r k)) ∧ Hid (Blk wr w.heap.size 25 #[.int .i64 n, .slice A len cap]) ∧ Hid (Below w.heap.size w wr)) (fun i _ => len - (intOf i).toNat)
          case atStart => exact ⟨0, by omega, rfl, HB, HG, HW⟩
          case round =>
            clear HB HG HW q0 q1
            obtain ⟨k, hk, rfl, HB, HG, HW⟩ := hrel
            by_cases hlt : k < len
            · have q0 := HG.out.cell 0
              have q1 := HG.out.cell 1
              have hz0 := HG.out.lt
              obtain ⟨hc, _⟩ := bcell HW.out
              obtain ⟨b, o, rfl, hbb, r0, r1, r2⟩ := HR.out (by omega)
              have a0 := r0 k hlt
              have a1 := r1 k hlt
              have a2 := r2 k hlt
              clear r0 r1 r2
              have hbz : b < wr.heap.size := by omega
              obtain ⟨x, y, hx, hy, hxy, hyn, hc1, hc2⟩ := HV.out.at_ (i := k) (by rw [HL.out]; exact hlt)
              have hbd := dst_bd n ls f r k HV.out.cheap (by rw [HL.out]; exact hl14) (by omega)
              have hsu := Lib.hid (dst_succ n ls f r k (by rw [HL.out]; exact hlt))
              have hdl := Lib.hid (dst_len n ls f r k)
              rw [hx] at a0
              rw [hy] at a1
              have Hx := Lib.hid hx
              have Hy := Lib.hid hy
              clear hx hy
              generalize dst n ls f r k = d at *
              have hdd : Hid (dst n ls f r (k + 1) = dst n ls f r (k + 1)) := rfl
              generalize hd' : dst n ls f r (k + 1) = d' at hsu
              replace hdd := Lib.hid hd'
              clear hd'
              obtain ⟨hgz, hg1, hg2⟩ := HB.out.rule hdl.out
              have hdx1 := (hbd x).1
              have hdx2 := (hbd x).2
              have hdy1 := (hbd y).1
              have hdy2 := (hbd y).2
              have hxn : x < n := by omega
              have hyn' : y < n := by omega
              generalize hcc : (lk ls k).c = c at *
              have Hc := Lib.hid hcc
              clear hcc
              go_upto_region 14 with (fail)
              go_cut [70] (fun s w' => s = .bool (relaxB d x y c) ∧ Drawn (wr.alloc (.cells #[.int .i64 x, .int .i64 y, .int .i64 c] 70)) w')
              case first =>
                rcases cs_ao (decide (0 ≤ iz d x)) (decide (iz d y < 0)) (decide (iz d x + c < iz d y)) with y0 | ⟨y0, y1⟩ | ⟨y0, y1, y2⟩ | ⟨y0, y1, y2⟩
                all_goals
                  go_quiet (fail)
                  go_wp2_with fail
                  go_meet
                  exact ⟨by simp [relaxB, *], Drawn.more _⟩
              case rest =>
                obtain ⟨rfl, nq, rfl⟩ := hcut
                have hgr : g < wr.heap.size := by omega
                have HB1 : Hid (RowI ((wr.alloc (.cells #[.int .i64 x, .int .i64 y, .int .i64 c] 70)).drewN nq) g 3 d) := (HB.out.alloc _).drewN _
                have HG1 : Hid (Blk ((wr.alloc (.cells #[.int .i64 x, .int .i64 y, .int .i64 c] 70)).drewN nq) w.heap.size 25 #[.int .i64 n, .slice (some ⟨b, o, none⟩) len cap]) := (HG.out.alloc _).drewN _
                have HW1 : Hid (Below w.heap.size w ((wr.alloc (.cells #[.int .i64 x, .int .i64 y, .int .i64 c] 70)).drewN nq)) := below_drewN (HW.out.alloc (by omega) _) _
                have HK1 : Hid (Blk ((wr.alloc (.cells #[.int .i64 x, .int .i64 y, .int .i64 c] 70)).drewN nq) wr.heap.size 70 #[.int .i64 x, .int .i64 y, .int .i64 c]) := (Blk.new _ _ _).drewN _
                generalize (wr.alloc (.cells #[.int .i64 x, .int .i64 y, .int .i64 c] 70)).drewN nq = wa at *
                clear HB HG HW q0 q1 hc hg1 hg2 hgz
                obtain ⟨hgz, hg1, hg2⟩ := HB1.out.rule hdl.out
                have k0 := HK1.out.cell 0
                have k1 := HK1.out.cell 1
                have k2 := HK1.out.cell 2
                go_upto_if 70 with (fail)
                go_cut [] (fun w' => Hid (RowI w' g 3 (relax d x y c)) ∧ Hid (Blk w' w.heap.size 25 #[.int .i64 n, .slice (some ⟨b, o, none⟩) len cap]) ∧ Hid (Below w.heap.size w w') ∧ Hid (Blk w' wr.heap.size 70 #[.int .i64 x, .int .i64 y, .int .i64 c]))
                case first =>
                  go_wp2_with fail
                  · have y0 : relaxB d x y c = true := by assumption
                    go_still_tail 12, (by kernel_rfl)
                    go_wp2_with fail
                    go_meet
                    have e : relax d x y c = d.set y (iz d x + c) := by simp [relax, y0]
                    rw [e]
                    exact ⟨HB1.out.drew.set_ y (by rw [hdl.out]; exact hyn') _, HG1.out.drew.far (by simp; omega) _, HW1.out.drew.setCell (by simp; omega) _, HK1.out.drew.far (by simp; omega) _⟩
                  · have y0 : relaxB d x y c = false := by assumption
                    go_meet
                    have e : relax d x y c = d := by simp [relax, y0]
                    rw [e]
                    exact ⟨HB1, HG1, HW1, HK1⟩
                case rest =>
                  obtain ⟨HB2, HG2, HW2, HK2⟩ := hcut
                  clear HB1 HG1 HW1 HK1 hgz hg1 hg2 k0 k1 k2
                  have hbe := relax_bd hbd x y c hc1 hc2
                  have hel := Lib.hid ((relax_len d x y c).trans hdl.out)
                  have HSU : Hid (d' = relax (relax d x y c) y x c) := by rw [hsu.out]; unfold relaxL; rw [Hx.out, Hy.out, Hc.out]; rfl
                  clear hdx1 hdx2 hdy1 hdy2 hbd hsu
                  generalize relax d x y c = d1 at *
                  have hdx1 := (hbe x).1
                  have hdx2 := (hbe x).2
                  have hdy1 := (hbe y).1
                  have hdy2 := (hbe y).2
                  obtain ⟨hgz, hg1, hg2⟩ := HB2.out.rule hel.out
                  have k0 := HK2.out.cell 0
                  have k1 := HK2.out.cell 1
                  have k2 := HK2.out.cell 2
                  go_upto_region 16 with (fail)
                  go_cut [112] (fun s w' => s = .bool (relaxB d1 y x c) ∧ Drawn wc w')
                  case first =>
                    rcases cs_ao (decide (0 ≤ iz d1 y)) (decide (iz d1 x < 0)) (decide (iz d1 y + c < iz d1 x)) with y0 | ⟨y0, y1⟩ | ⟨y0, y1, y2⟩ | ⟨y0, y1, y2⟩
                    all_goals
                      go_quiet (fail)
                      go_wp2_with fail
                      go_meet
                      exact ⟨by simp [relaxB, *], Drawn.more _⟩
                  case rest =>
                    obtain ⟨rfl, nq2, rfl⟩ := hcut
                    clear hgz hg1 hg2 k0 k1 k2
                    replace HB2 := Lib.hid (HB2.out.drewN nq2)
                    replace HG2 := Lib.hid (HG2.out.drewN nq2)
                    replace HW2 := Lib.hid (below_drewN HW2.out nq2)
                    replace HK2 := Lib.hid (HK2.out.drewN nq2)
                    generalize wc.drewN nq2 = wd at *
                    obtain ⟨hgz, hg1, hg2⟩ := HB2.out.rule hel.out
                    have k0 := HK2.out.cell 0
                    have k1 := HK2.out.cell 1
                    have k2 := HK2.out.cell 2
                    go_wp2_with fail
                    · have y0 : relaxB d1 y x c = true := by assumption
                      go_still_tail 12, (by kernel_rfl)
                      go_wp2_with fail
                      go_roundw
                      case rel =>
                        refine ⟨k + 1, by omega, by go_num, ?_, HG2.out.drew.far (by simp; omega) _, HW2.out.drew.setCell (by simp; omega) _⟩
                        have e : relax d1 y x c = d1.set x (iz d1 y + c) := by simp [relax, y0]
                        rw [hdd.out, HSU.out, e]
                        exact HB2.out.drew.set_ x (by rw [hel.out]; exact hxn) _
                      case measure => simp [intOf]; omega
                    · have y0 : relaxB d1 y x c = false := by assumption
                      go_roundw
                      case rel =>
                        refine ⟨k + 1, by omega, by go_num, ?_, HG2, HW2⟩
                        have e : relax d1 y x c = d1 := by simp [relax, y0]
                        rw [hdd.out, HSU.out, e]
                        exact HB2
                      case measure => simp [intOf]; omega
            · obtain rfl : k = len := by omega
              have he := Lib.hid (dst_end n ls f r)
              rw [HL.out] at he
              have q0 := HG.out.cell 0
              have q1 := HG.out.cell 1
              go_wp2_with fail
              go_roundw
              case rel => exact ⟨r + 1, by omega, by go_num, by rw [← he.out]; exact HB, HG, HW⟩
              case measure => simp [intOf]; omega
        · obtain rfl : r = n := by omega
          go_wp2_with fail
          go_ret
          exact ⟨_, _, rfl, HB.out.rd (dst_len _ _ _ _ _) (by omega), HW.out⟩
end Go.Proofs.Ytkeihpihphefgaa
