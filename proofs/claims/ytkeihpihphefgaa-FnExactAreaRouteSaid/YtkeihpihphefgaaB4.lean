/- Contracts: distances. -/
import Derived.Test.YtkeihpihphefgaaB3
import Derived.Test.YtkeihpihphefgaaDist
namespace Go.Proofs.Ytkeihpihphefgaa
open Go.RowKit

/-- A row of integers at the head of a block of the call's own; what lies behind them is of no matter. -/
def RowI (w : World) (g : Nat) (t : TypeId) (d : List Int) : Prop := ∃ junk : List Value, Blk w g t (ints d ++ junk).toArray
theorem RowI.of_blk {w : World} {g : Nat} {t : TypeId} {d : List Int} (h : Blk w g t (ints d).toArray) : RowI w g t d := ⟨[], by simpa using h⟩
theorem RowI.rule {w : World} {g : Nat} {t : TypeId} {d : List Int} {n : Nat} (h : RowI w g t d) (hn : d.length = n) : g < w.heap.size ∧ (∀ i, i < n → w.cell? ⟨g, i, none⟩ = some (.int .i64 (iz d i))) ∧ (∀ i, w.frozen? ⟨g, i, none⟩ = false) := by
  obtain ⟨junk, h⟩ := h
  refine ⟨h.lt, fun i hi => ?_, h.frozen⟩
  rw [h.cell, List.getElem?_toArray, List.getElem?_append_left (by simp [ints]; omega)]
  have := iz_get (zs := d) (i := i) (by omega)
  simp [ints, this]
theorem RowI.set_ {w : World} {g : Nat} {t : TypeId} {d : List Int} (h : RowI w g t d) (y : Nat) (hy : y < d.length) (v : Int) : RowI (w.setCell ⟨g, y, none⟩ (.int .i64 v)) g t (d.set y v) := by
  obtain ⟨junk, h⟩ := h
  refine ⟨junk, ?_⟩
  have := h.set_ y (.int .i64 v)
  have e : (ints d ++ junk).toArray.setIfInBounds y (.int .i64 v) = (ints (d.set y v) ++ junk).toArray := by
    simp [ints, List.map_set, hy]
  rwa [e] at this
theorem RowI.drew {w : World} {g : Nat} {t : TypeId} {d : List Int} (h : RowI w g t d) : RowI w.drew g t d := h
theorem RowI.drewN {w : World} {g : Nat} {t : TypeId} {d : List Int} (h : RowI w g t d) (k : Nat) : RowI (w.drewN k) g t d := h
theorem RowI.alloc {w : World} {g : Nat} {t : TypeId} {d : List Int} (h : RowI w g t d) (o : Obj) : RowI (w.alloc o) g t d := h.imp fun _ h => h.alloc o
theorem RowI.far {w : World} {g : Nat} {t : TypeId} {d : List Int} (h : RowI w g t d) {p : Addr} (hp : g ≠ p.block) (u : Value) : RowI (w.setCell p u) g t d := h.imp fun _ h => h.far hp u
theorem RowI.rd {w : World} {g : Nat} {t : TypeId} {d : List Int} {n : Nat} (h : RowI w g t d) (hn : d.length = n) (hb : n ≤ 16777216) : RdI w (some ⟨g, 0, none⟩) n d := by
  refine ⟨hn, hb, by simpa [ints] using hn, fun _ => ⟨g, 0, rfl, fun j u hu => ?_⟩⟩
  obtain ⟨junk, h⟩ := h
  have hj : j < (ints d).length := (List.getElem?_eq_some_iff.1 hu).1
  rw [Nat.zero_add, h.cell, List.getElem?_toArray, List.getElem?_append_left hj]
  exact hu
theorem RowI.of_own {w : World} {base g c n : Nat} {t : TypeId} {d : List Int} (h : w.ownsRow base t 1 (.slice (some ⟨g, 0, none⟩) n c) n (ints d)) : RowI w g t d ∧ base ≤ g := by
  obtain ⟨hl, h⟩ := h
  rcases h with ⟨h, _⟩ | ⟨g', cap, cur, hv, hb, hh, _, _, _, ht⟩
  · cases h
  · simp only [Value.slice.injEq, Option.some.injEq, Addr.mk.injEq] at hv
    obtain ⟨⟨rfl, _⟩, _, rfl⟩ := hv
    refine ⟨⟨cur.toList.drop n, ?_⟩, hb⟩
    unfold Blk
    rw [hh, ← ht, Nat.mul_one, List.take_append_drop]
theorem ints_rep (c : Nat) (v : Int) : (List.replicate c (Value.int .i64 v)).toArray = (ints (List.replicate c v)).toArray := by simp [ints]

set_option maxRecDepth 100000 in
set_option maxHeartbeats 4000000 in
theorem i_distances (n f : Nat) (A : Option Addr) (len cap : Nat) (ls : List Lk) (w : World) (h : RdL w A len ls) (hv : GV n ls) (hf : f < n) :
    Calls Try.prog 34 #[.agg #[.int .i64 n, .slice A len cap], .int .i64 f] w fun e w' => ∃ A' cap', e = .returned (.slice A' n cap') ∧ RdI w' A' n (dists n ls f) ∧ Below w.heap.size w w' := by
  have hmax := h.2.1
  have HL := Lib.hid h.1
  have HR := Lib.hid h.rule; clear h
  have HV := Lib.hid hv
  have hn8 : n ≤ 8 := by have := hv.2.1; omega
  have hl14 : len ≤ 14 := by have := hv.2.2.1; rw [HL.out] at this; exact this
  clear hv
  go_enter Try.func34, Try.ntmps34
  go_wp2_with (first | (go_at_call 49; refine (l_Repeat_int (-1) _ 0 1 n (by omega) (by omega) _ ?_).mono ?_; simp; rintro e w1 ⟨g, rfl, hg, hB1, hb1⟩; simp only [World.size_alloc] at hg; rw [ints_rep] at hB1; replace hB1 := RowI.of_blk hB1; obtain ⟨hgz, hg1, hg2⟩ := hB1.rule (n := n) (by simp); obtain ⟨hc1, _⟩ := bcell hb1; have HB1 := Lib.hid hB1; have Hb1 := Lib.hid hb1; clear hB1 hb1))
  have HB0 : Hid (RowI (w1.setCell ⟨g, f, none⟩ (.int .i64 0)) g 3 (dst n ls f 0 0)) := HB1.out.set_ f (by simpa using hf) 0
  have HG0 : Hid (Blk (w1.setCell ⟨g, f, none⟩ (.int .i64 0)) w.heap.size 25 #[.int .i64 n, .slice A len cap]) := (((Blk.new w _ _).alloc _).below Hb1.out).far (by simp; omega) _
  have HW0 : Hid (Below w.heap.size w (w1.setCell ⟨g, f, none⟩ (.int .i64 0))) := ((((Below.refl _ _).alloc (Nat.le_refl _) _).alloc (by simp) _).trans (Hb1.out.mono (by simp; omega))).setCell (by simp; omega) _
  generalize w1.setCell ⟨g, f, none⟩ (.int .i64 0) = w2 at *
  clear hg1 hg2 hc1 HB1 Hb1 hgz
  go_loopw [17] (fun i wr => ∃ r : Nat, r ≤ n ∧ i = .int .i64 r ∧ Hid (RowI wr g 3 (dst n ls f r 0)) ∧ Hid (Blk wr w.heap.size 25 #[.int .i64 n, .slice A len cap]) ∧ Hid (Below w.heap.size w wr)) (fun i _ => n - (intOf i).toNat)
  case atStart => exact ⟨0, by omega, rfl, HB0, HG0, HW0⟩
  case round =>
    clear HB0 HG0 HW0
    obtain ⟨r, hr, rfl, HB, HG, HW⟩ := hrel
    obtain ⟨wo, rfl⟩ : ∃ wo : World, wo = wr := ⟨_, rfl⟩
    have q0 := HG.out.cell 0
    have q1 := HG.out.cell 1
    by_cases hrn : r < n
    · go_wp2_with fail
      go_loopw [22] (fun i wr => ∃ k : Nat, k ≤ len ∧ i = .int .i64 k ∧ Hid (RowI wr g 3 (dst n ls f r k)) ∧ Hid (Blk wr w.heap.size 25 #[.int .i64 n, .slice A len cap]) ∧ Hid (Below w.heap.size w wr)) (fun i _ => len - (intOf i).toNat)
      case atStart => exact ⟨0, by omega, rfl, HB, HG, HW⟩
      case round =>
        clear HB HG HW q0 q1
        obtain ⟨k, hk, rfl, HB, HG, HW⟩ := hrel
        by_cases hlt : k < len
        · have q0 := HG.out.cell 0
          have q1 := HG.out.cell 1
          have hz0 := HG.out.lt
          obtain ⟨hc, _⟩ := bcell HW.out
          obtain ⟨b, o, rfl, hbb, r0, r1, r2⟩ := HR.out (by omega)
          have a0 := r0 k hlt
          have a1 := r1 k hlt
          have a2 := r2 k hlt
          clear r0 r1 r2
          have hbz : b < wr.heap.size := by omega
          obtain ⟨x, y, hx, hy, hxy, hyn, hc1, hc2⟩ := HV.out.at_ (i := k) (by rw [HL.out]; exact hlt)
          have hbd := dst_bd n ls f r k HV.out.cheap (by rw [HL.out]; exact hl14) (by omega)
          have hsu := Lib.hid (dst_succ n ls f r k (by rw [HL.out]; exact hlt))
          have hdl := Lib.hid (dst_len n ls f r k)
          rw [hx] at a0
          rw [hy] at a1
          have Hx := Lib.hid hx
          have Hy := Lib.hid hy
          clear hx hy
          generalize dst n ls f r k = d at *
          have hdd : Hid (dst n ls f r (k + 1) = dst n ls f r (k + 1)) := rfl
          generalize hd' : dst n ls f r (k + 1) = d' at hsu
          replace hdd := Lib.hid hd'
          clear hd'
          obtain ⟨hgz, hg1, hg2⟩ := HB.out.rule hdl.out
          have hdx1 := (hbd x).1
          have hdx2 := (hbd x).2
          have hdy1 := (hbd y).1
          have hdy2 := (hbd y).2
          have hxn : x < n := by omega
          have hyn' : y < n := by omega
          generalize hcc : (lk ls k).c = c at *
          have Hc := Lib.hid hcc
          clear hcc
          go_upto_region 8 with (fail)
          go_cut [55] (fun s w' => s = .bool (relaxB d x y c) ∧ Drawn (wr.alloc (.cells #[.int .i64 x, .int .i64 y, .int .i64 c] 70)) w')
          case first =>
            rcases cs_ao (decide (0 ≤ iz d x)) (decide (iz d y < 0)) (decide (iz d x + c < iz d y)) with y0 | ⟨y0, y1⟩ | ⟨y0, y1, y2⟩ | ⟨y0, y1, y2⟩
            all_goals
              go_quiet (fail)
              go_wp2_with fail
              go_meet
              exact ⟨by simp [relaxB, *], Drawn.more _⟩
          case rest =>
            obtain ⟨rfl, nq, rfl⟩ := hcut
            have hgr : g < wr.heap.size := by omega
            have HB1 : Hid (RowI ((wr.alloc (.cells #[.int .i64 x, .int .i64 y, .int .i64 c] 70)).drewN nq) g 3 d) := (HB.out.alloc _).drewN _
            have HG1 : Hid (Blk ((wr.alloc (.cells #[.int .i64 x, .int .i64 y, .int .i64 c] 70)).drewN nq) w.heap.size 25 #[.int .i64 n, .slice (some ⟨b, o, none⟩) len cap]) := (HG.out.alloc _).drewN _
            have HW1 : Hid (Below w.heap.size w ((wr.alloc (.cells #[.int .i64 x, .int .i64 y, .int .i64 c] 70)).drewN nq)) := below_drewN (HW.out.alloc (by omega) _) _
            have HK1 : Hid (Blk ((wr.alloc (.cells #[.int .i64 x, .int .i64 y, .int .i64 c] 70)).drewN nq) wr.heap.size 70 #[.int .i64 x, .int .i64 y, .int .i64 c]) := (Blk.new _ _ _).drewN _
            generalize (wr.alloc (.cells #[.int .i64 x, .int .i64 y, .int .i64 c] 70)).drewN nq = wa at *
            clear HB HG HW q0 q1 hc hg1 hg2 hgz
            obtain ⟨hgz, hg1, hg2⟩ := HB1.out.rule hdl.out
            have k0 := HK1.out.cell 0
            have k1 := HK1.out.cell 1
            have k2 := HK1.out.cell 2
            go_upto_if 55 with (fail)
            go_cut [] (fun w' => Hid (RowI w' g 3 (relax d x y c)) ∧ Hid (Blk w' w.heap.size 25 #[.int .i64 n, .slice (some ⟨b, o, none⟩) len cap]) ∧ Hid (Below w.heap.size w w') ∧ Hid (Blk w' wr.heap.size 70 #[.int .i64 x, .int .i64 y, .int .i64 c]))
            case first =>
              go_wp2_with fail
              · have y0 : relaxB d x y c = true := by assumption
                go_still_tail 12, (by kernel_rfl)
                go_wp2_with fail
                go_meet
                have e : relax d x y c = d.set y (iz d x + c) := by simp [relax, y0]
                rw [e]
                exact ⟨HB1.out.drew.set_ y (by rw [hdl.out]; exact hyn') _, HG1.out.drew.far (by simp; omega) _, HW1.out.drew.setCell (by simp; omega) _, HK1.out.drew.far (by simp; omega) _⟩
              · have y0 : relaxB d x y c = false := by assumption
                go_meet
                have e : relax d x y c = d := by simp [relax, y0]
                rw [e]
                exact ⟨HB1, HG1, HW1, HK1⟩
            case rest =>
              obtain ⟨HB2, HG2, HW2, HK2⟩ := hcut
              clear HB1 HG1 HW1 HK1 hgz hg1 hg2 k0 k1 k2
              have hbe := relax_bd hbd x y c hc1 hc2
              have hel := Lib.hid ((relax_len d x y c).trans hdl.out)
              have HSU : Hid (d' = relax (relax d x y c) y x c) := by rw [hsu.out]; unfold relaxL; rw [Hx.out, Hy.out, Hc.out]; rfl
              clear hdx1 hdx2 hdy1 hdy2 hbd hsu
              generalize relax d x y c = d1 at *
              have hdx1 := (hbe x).1
              have hdx2 := (hbe x).2
              have hdy1 := (hbe y).1
              have hdy2 := (hbe y).2
              obtain ⟨hgz, hg1, hg2⟩ := HB2.out.rule hel.out
              have k0 := HK2.out.cell 0
              have k1 := HK2.out.cell 1
              have k2 := HK2.out.cell 2
              go_upto_region 10 with (fail)
              go_cut [97] (fun s w' => s = .bool (relaxB d1 y x c) ∧ Drawn wc w')
              case first =>
                rcases cs_ao (decide (0 ≤ iz d1 y)) (decide (iz d1 x < 0)) (decide (iz d1 y + c < iz d1 x)) with y0 | ⟨y0, y1⟩ | ⟨y0, y1, y2⟩ | ⟨y0, y1, y2⟩
                all_goals
                  go_quiet (fail)
                  go_wp2_with fail
                  go_meet
                  exact ⟨by simp [relaxB, *], Drawn.more _⟩
              case rest =>
                obtain ⟨rfl, nq2, rfl⟩ := hcut
                clear hgz hg1 hg2 k0 k1 k2
                replace HB2 := Lib.hid (HB2.out.drewN nq2)
                replace HG2 := Lib.hid (HG2.out.drewN nq2)
                replace HW2 := Lib.hid (below_drewN HW2.out nq2)
                replace HK2 := Lib.hid (HK2.out.drewN nq2)
                generalize wc.drewN nq2 = wd at *
                obtain ⟨hgz, hg1, hg2⟩ := HB2.out.rule hel.out
                have k0 := HK2.out.cell 0
                have k1 := HK2.out.cell 1
                have k2 := HK2.out.cell 2
                go_wp2_with fail
                · have y0 : relaxB d1 y x c = true := by assumption
                  go_still_tail 12, (by kernel_rfl)
                  go_wp2_with fail
                  go_roundw
                  case rel =>
                    refine ⟨k + 1, by omega, by go_num, ?_, HG2.out.drew.far (by simp; omega) _, HW2.out.drew.setCell (by simp; omega) _⟩
                    have e : relax d1 y x c = d1.set x (iz d1 y + c) := by simp [relax, y0]
                    rw [hdd.out, HSU.out, e]
                    exact HB2.out.drew.set_ x (by rw [hel.out]; exact hxn) _
                  case measure => simp [intOf]; omega
                · have y0 : relaxB d1 y x c = false := by assumption
                  go_roundw
                  case rel =>
                    refine ⟨k + 1, by omega, by go_num, ?_, HG2, HW2⟩
                    have e : relax d1 y x c = d1 := by simp [relax, y0]
                    rw [hdd.out, HSU.out, e]
                    exact HB2
                  case measure => simp [intOf]; omega
        · obtain rfl : k = len := by omega
          have he := Lib.hid (dst_end n ls f r)
          rw [HL.out] at he
          have q0 := HG.out.cell 0
          have q1 := HG.out.cell 1
          go_wp2_with fail
          go_roundw
          case rel => exact ⟨r + 1, by omega, by go_num, by rw [← he.out]; exact HB, HG, HW⟩
          case measure => simp [intOf]; omega
    · obtain rfl : r = n := by omega
      go_wp2_with fail
      go_ret
      exact ⟨_, _, rfl, HB.out.rd (dst_len _ _ _ _ _) (by omega), HW.out⟩
end Go.Proofs.Ytkeihpihphefgaa
