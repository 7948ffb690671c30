/- Draws: what AreaRoute is asked; what AreaJoin is asked. -/
import Derived.Test.YtkeihpihphefgaaD8
namespace Go.Proofs.Ytkeihpihphefgaa
open Go.RowKit

/-- What is drawn for AreaRoute. -/
def DrawnAR (w w' : World) (e : Ending) : Prop :=
  ∃ (n : Nat) (A : Option Addr) (la ca : Nat) (xs : List Lk) (m : Nat) (A' : Option Addr) (lb cb : Nat) (ys : List Lk) (Z : Option Addr) (lz cz : Nat) (zs : List Int) (f t : Int), e = .returned (.tuple #[.agg #[.int .i64 n, .slice A la ca], .agg #[.int .i64 m, .slice A' lb cb], .slice Z lz cz, .int .i64 f, .int .i64 t]) ∧ RdL w' A la xs ∧ RdL w' A' lb ys ∧ RdI w' Z lz zs ∧ lz ≤ 102 ∧ (lz ≤ cz ∧ cz ≤ maxLen) ∧ Below w.heap.size w w'

set_option maxRecDepth 100000 in
set_option maxHeartbeats 1000000 in
theorem d_AreaRoute (w : World) (C : Option Addr) (L cap : Nat) (h : RdB w C L cap) :
    Calls Try.prog 26 #[.slice C L cap] w fun e w' => DrawnAR w w' e := by
  have H := Lib.hid h; clear h
  go_enter Try.func26, Try.ntmps26
  go_upto_region 3 with (first | (go_at_call 28; go_must (refine (s_Open _ _ _ _ (RdB.alloc (RdB.alloc H.out _) _)).mono ?_); rintro e w1 ⟨rfl, hb1, hs1, hR⟩; simp only [World.size_alloc] at hb1 hs1 hR; have HD1 := Lib.hid (DR.start hR); have HB1 := Lib.hid hb1; have HS1 := Lib.hid hs1; clear hR hb1 hs1) | (go_at_call 43; go_must (refine (d_Areas _ _ _ 0 HD1.out (by omega)).mono ?_); rintro e w2 ⟨n, A, la, ca, xs, m, A', lb, cb, ys, Z, lz, cz, zs, rfl, hn, hm, hA, hA', hZ, hlz, hcz, hnA, hnA', hnZ, h2⟩; have HCZ := Lib.hid hcz; clear hcz; have HA2 := Lib.hid hA; have HB2 := Lib.hid hA'; have HZ2 := Lib.hid hZ; have HNA := Lib.hid hnA; have HNB := Lib.hid hnA'; have HNZ := Lib.hid hnZ; have HD2 := Lib.hid h2; clear hA hA' hZ hnA hnA' hnZ h2))
  have hs1 := HS1.out
  have hz2 := HD2.out.size
  have hg2 : ¬ w2.heap.size = w.heap.size + 1 + 1 := by omega
  have hg3 : ¬ w2.heap.size + 1 = w.heap.size + 1 + 1 := by omega
  have hr0 : ¬ w.heap.size = w.heap.size + 1 + 1 := by omega
  have hr1 : ¬ w.heap.size + 1 = w.heap.size + 1 + 1 := by omega
  have H0 : Blk w1 w.heap.size 25 #[.int .i64 0, .slice none 0 0] := ((Blk.new w _ _).alloc _).belowB HB1.out (by omega)
  have H1 : Blk w1 (w.heap.size + 1) 25 #[.int .i64 0, .slice none 0 0] := Blk.belowB (by have := Blk.new (w.alloc (.cells #[.int .i64 0, .slice none 0 0] 25)) 25 #[.int .i64 0, .slice none 0 0]; simpa using this) HB1.out (by omega)
  have H02 := Lib.hid (((HD2.out.blk H0 hr0).alloc (.cells #[.int .i64 n, .slice A la ca] 25)).alloc (.cells #[.int .i64 m, .slice A' lb cb] 25))
  have H12 := Lib.hid (((HD2.out.blk H1 hr1).alloc (.cells #[.int .i64 n, .slice A la ca] 25)).alloc (.cells #[.int .i64 m, .slice A' lb cb] 25))
  have H82 : Hid (Blk ((w2.alloc (.cells #[.int .i64 n, .slice A la ca] 25)).alloc (.cells #[.int .i64 m, .slice A' lb cb] 25)) w2.heap.size 25 #[.int .i64 n, .slice A la ca]) := (Blk.new _ _ _).alloc _
  have H92 : Hid (Blk ((w2.alloc (.cells #[.int .i64 n, .slice A la ca] 25)).alloc (.cells #[.int .i64 m, .slice A' lb cb] 25)) (w2.heap.size + 1) 25 #[.int .i64 m, .slice A' lb cb]) := Lib.hid (by have := Blk.new (w2.alloc (.cells #[.int .i64 n, .slice A la ca] 25)) 25 #[.int .i64 m, .slice A' lb cb]; simpa using this)
  have HD3 := Lib.hid (((HD2.out.alloc (.cells #[.int .i64 n, .slice A la ca] 25)).alloc (.cells #[.int .i64 m, .slice A' lb cb] 25)).mono (q' := 3000) (by omega))
  have HA3 := Lib.hid ((HA2.out.alloc (.cells #[.int .i64 n, .slice A la ca] 25)).alloc (.cells #[.int .i64 m, .slice A' lb cb] 25))
  have HB3 := Lib.hid ((HB2.out.alloc (.cells #[.int .i64 n, .slice A la ca] 25)).alloc (.cells #[.int .i64 m, .slice A' lb cb] 25))
  have HZ3 := Lib.hid ((HZ2.out.alloc (.cells #[.int .i64 n, .slice A la ca] 25)).alloc (.cells #[.int .i64 m, .slice A' lb cb] 25))
  have hn1 : w.heap.size + 1 < w2.heap.size := by omega
  have HMA : Hid (New (w.heap.size + 1 + 1 + 1) A) := HNA.out.mono (by omega)
  have HMB : Hid (New (w.heap.size + 1 + 1 + 1) A') := HNB.out.mono (by omega)
  have HMZ : Hid (0 < lz → New (w.heap.size + 1 + 1 + 1) Z) := fun h0 => (HNZ.out h0).mono (by omega)
  clear H0 H1 HD2 HA2 HB2 HZ2 HNA HNB HNZ hs1 hz2
  generalize (w2.alloc (.cells #[.int .i64 n, .slice A la ca] 25)).alloc (.cells #[.int .i64 m, .slice A' lb cb] 25) = w3 at *
  generalize w2.heap.size = g8 at *
  have q0 := H82.out.cell 0; have q1 := H82.out.cell 1; have qf := H82.out.frozen; have ql := H82.out.lt
  have p0 := H92.out.cell 0; have p1 := H92.out.cell 1; have pf := H92.out.frozen; have pl := H92.out.lt
  go_upto_region 4 with (first | (go_at_call 31; go_must (refine (d_Node _ _ _ 3000 _ _ HD3.out.begin (by omega)).mono ?_); rintro e w4 ⟨f, rfl, hf0, hf1, h4⟩; have HD4 := Lib.hid h4; clear h4))
  clear q0 q1 qf ql
  clear p0 p1 pf pl
  have H04 := Lib.hid (HD4.out.blk H02.out hr0)
  have H14 := Lib.hid (HD4.out.blk H12.out hr1)
  have H84 := Lib.hid (HD4.out.blk H82.out hg2)
  have H94 := Lib.hid (HD4.out.blk H92.out hg3)
  have HDD := Lib.hid ((HD3.out.then HD4.out).mono (q' := 3002) (by omega))
  have HA4 := Lib.hid (HD4.out.rdL HA3.out HMA.out (by omega))
  have HB4 := Lib.hid (HD4.out.rdL HB3.out HMB.out (by omega))
  have HZ4 := Lib.hid (HZ3.out.grownP HD4.out.1 (fun h0 b o e e' => by have := HMZ.out h0 b o e; injection e' with e'; omega))
  clear H02 H12 H82 H92 HD3 HA3 HB3 HZ3 HD4
  have q0 := H84.out.cell 0; have q1 := H84.out.cell 1; have qf := H84.out.frozen; have ql := H84.out.lt
  have p0 := H94.out.cell 0; have p1 := H94.out.cell 1; have pf := H94.out.frozen; have pl := H94.out.lt
  refine wp_plan_in (fun w' => Blk w' g8 25 #[.int .i64 n, .slice A la ca] ∧ Blk w' (g8 + 1) 25 #[.int .i64 m, .slice A' lb cb]) 10 [(0, true), (1, true), (2, true), (3, true), (4, true), (5, true), (6, false), (7, false), (8, false), (9, true)] (by kernel_rfl) (by kernel_rfl) ⟨H84.out.drew, H94.out.drew⟩ fun hne9 => ?_
  have hx0 : ∀ x : LatP (fun w' => Blk w' g8 25 #[.int .i64 n, .slice A la ca] ∧ Blk w' (g8 + 1) 25 #[.int .i64 m, .slice A' lb cb]), x.now.cell? ⟨g8, 0, none⟩ = some (.int .i64 n) := fun x => x.ok.1.cell 0
  have hx1 : ∀ x : LatP (fun w' => Blk w' g8 25 #[.int .i64 n, .slice A la ca] ∧ Blk w' (g8 + 1) 25 #[.int .i64 m, .slice A' lb cb]), x.now.cell? ⟨g8, 1, none⟩ = some (.slice A la ca) := fun x => x.ok.1.cell 1
  have hx2 : ∀ x : LatP (fun w' => Blk w' g8 25 #[.int .i64 n, .slice A la ca] ∧ Blk w' (g8 + 1) 25 #[.int .i64 m, .slice A' lb cb]), x.now.cell? ⟨g8 + 1, 0, none⟩ = some (.int .i64 m) := fun x => x.ok.2.cell 0
  have hx3 : ∀ x : LatP (fun w' => Blk w' g8 25 #[.int .i64 n, .slice A la ca] ∧ Blk w' (g8 + 1) 25 #[.int .i64 m, .slice A' lb cb]), x.now.cell? ⟨g8 + 1, 1, none⟩ = some (.slice A' lb cb) := fun x => x.ok.2.cell 1
  simp only [picked, List.filterMap_cons, List.filterMap_nil, List.getElem?_cons_zero, List.getElem?_cons_succ, Option.map_some, List.drop_succ_cons, List.drop_zero]
  repeat (first | refine wpPlan_skip rfl ?_ | (refine wpPlan_val rfl rfl (fun K hK => ?_); go_big_quiet_op; refine hK _ ?_; clear hK K))
  try refine wpPlan_nil ?_
  refine wpPlan_eff rfl rfl (fun K hK => ?_); unfold Oper.wp; go_simp
  go_must (refine (d_Node _ _ _ 3002 _ _ HDD.out.drew.begin (by omega)).mono ?_)
  rintro e w5 ⟨t, rfl, ht0, ht1, h5⟩
  have HD5 := Lib.hid h5; clear h5
  have H05 := Lib.hid (HD5.out.blk (w := w4.drew) H04.out hr0)
  have H15 := Lib.hid (HD5.out.blk (w := w4.drew) H14.out hr1)
  have H85 := Lib.hid (HD5.out.blk (w := w4.drew) H84.out hg2)
  have H95 := Lib.hid (HD5.out.blk (w := w4.drew) H94.out hg3)
  clear q0 q1 qf ql
  clear p0 p1 pf pl
  have r0 := H05.out.cell 0; have r1 := H05.out.cell 1; have rf := H05.out.frozen; have rl := H05.out.lt
  have s0 := H15.out.cell 0; have s1 := H15.out.cell 1; have sf := H15.out.frozen; have sl := H15.out.lt
  refine hK _ _ ⟨⟨w5, ⟨H85.out, H95.out⟩⟩, rfl⟩ ?_
  clear hK K
  repeat (first | refine wpPlan_skip rfl ?_ | (refine wpPlan_val rfl rfl (fun K hK => ?_); go_big_quiet_op; refine hK _ ?_; clear hK K))
  try refine wpPlan_nil ?_
  refine wpPlan_eff rfl rfl (fun K hK => ?_); unfold Oper.wp; go_simp
  refine hK _ _ ⟨⟨_, ⟨(H85.out.far (by simp; omega) _).far (by simp; omega) _, (H95.out.far (by simp; omega) _).far (by simp; omega) _⟩⟩, rfl⟩ ?_
  clear hK K
  repeat (first | refine wpPlan_skip rfl ?_ | (refine wpPlan_val rfl rfl (fun K hK => ?_); go_big_quiet_op; refine hK _ ?_; clear hK K))
  try refine wpPlan_nil ?_
  refine wpPlan_eff rfl rfl (fun K hK => ?_); unfold Oper.wp; go_simp
  refine hK _ _ ⟨⟨_, ⟨(((H85.out.far (by simp; omega) _).far (by simp; omega) _).far (by simp; omega) _).far (by simp; omega) _, (((H95.out.far (by simp; omega) _).far (by simp; omega) _).far (by simp; omega) _).far (by simp; omega) _⟩⟩, rfl⟩ ?_
  clear hK K hx0 hx1 hx2 hx3
  repeat (first | refine wpPlan_skip rfl ?_ | (refine wpPlan_val rfl rfl (fun K hK => ?_); go_big_quiet_op; refine hK _ ?_; clear hK K))
  try refine wpPlan_nil ?_
  go_wp2_with fail
  (try simp only [Exit.inBlock, Exit.then])
  refine bodyPost_ret (v := .tuple #[.agg #[.int .i64 n, .slice A la ca], .agg #[.int .i64 m, .slice A' lb cb], .slice Z lz cz, .int .i64 f, .int .i64 t]) (by simp only [results, Try.results26]; go_simp) rfl ?_
  have hA5 := HD5.out.rdL (w := w4.drew) HA4.out HMA.out (by omega)
  have hB5 := HD5.out.rdL (w := w4.drew) HB4.out HMB.out (by omega)
  have hZ5 := RdI.grownP (w := w4.drew) HZ4.out HD5.out.1 (fun h0 b o e e' => by have := HMZ.out h0 b o e; injection e' with e'; omega)
  have hA6 := (((hA5.set_ HMA.out (p := ⟨w.heap.size, 0, none⟩) (by simp; omega) (.int .i64 n)).set_ HMA.out (p := ⟨w.heap.size, 1, none⟩) (by simp; omega) (.slice A la ca)).set_ HMA.out (p := ⟨w.heap.size + 1, 0, none⟩) (by simp) (.int .i64 m)).set_ HMA.out (p := ⟨w.heap.size + 1, 1, none⟩) (by simp) (.slice A' lb cb)
  have hB6 := (((hB5.set_ HMB.out (p := ⟨w.heap.size, 0, none⟩) (by simp; omega) (.int .i64 n)).set_ HMB.out (p := ⟨w.heap.size, 1, none⟩) (by simp; omega) (.slice A la ca)).set_ HMB.out (p := ⟨w.heap.size + 1, 0, none⟩) (by simp) (.int .i64 m)).set_ HMB.out (p := ⟨w.heap.size + 1, 1, none⟩) (by simp) (.slice A' lb cb)
  have hZ6 := (((hZ5.setP (p := ⟨w.heap.size, 0, none⟩) (fun h0 b o e => by have := HMZ.out h0 b o e; simp; omega) (.int .i64 n)).setP (p := ⟨w.heap.size, 1, none⟩) (fun h0 b o e => by have := HMZ.out h0 b o e; simp; omega) (.slice A la ca)).setP (p := ⟨w.heap.size + 1, 0, none⟩) (fun h0 b o e => by have := HMZ.out h0 b o e; simp; omega) (.int .i64 m)).setP (p := ⟨w.heap.size + 1, 1, none⟩) (fun h0 b o e => by have := HMZ.out h0 b o e; simp; omega) (.slice A' lb cb)
  have hu : Below w.heap.size w w5 := ((((Below.refl _ _).alloc (Nat.le_refl _) _).alloc (by simp) _).trans (HB1.out.mono (by omega))).trans ((HDD.out.drew.then HD5.out).under (by have := HS1.out; omega) (by omega))
  exact ⟨n, A, la, ca, xs, m, A', lb, cb, ys, Z, lz, cz, zs, f, t, rfl, hA6, hB6, hZ6, hlz, HCZ.out, (((hu.setCell (by simp) _).setCell (by simp) _).setCell (by simp) _).setCell (by simp) _⟩
end Go.Proofs.Ytkeihpihphefgaa
