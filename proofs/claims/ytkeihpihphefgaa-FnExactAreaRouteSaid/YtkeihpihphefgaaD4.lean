/- Draws: graphs. -/
import Derived.Test.YtkeihpihphefgaaD3
namespace Go.Proofs.Ytkeihpihphefgaa
open Go.RowKit

/-- The worlds in which the block g alone may have turned. -/
structure Latg (g : Nat) (w : World) where
  now : World
  ok : w.grownBy now (some g)
theorem wp_plan_row {P : Program} {Q : Exit → Act → World → Prop} {a : Act} {w : World} {id : Nat} {l : List Oper} (g n : Nat) (ord : List (Nat × Bool)) (hm : P.follows .mixedOrders = true) (hB : planB .any l.toArray n ord = true)
    (h : (∀ (x : Latg g w) b o, b < w.heap.size → ¬ b = g → x.now.cell? ⟨b, o, none⟩ = w.cell? ⟨b, o, none⟩) →
      wpPlan P l.toArray Q (fun w' => ∃ x : Latg g w, w' = x.now) (fun a' w' => wpList P l.toArray Q (l.drop n) a' w') (picked l ord) a w.drew) : (Code.region id l.toArray true).wp P Q a w :=
  wp_region_plan n ord (fun w' => ∃ x : Latg g w, w' = x.now) hm hB ⟨⟨w.drew, only_drew (only_of_below (Below.refl _ _) _)⟩, rfl⟩
    (h fun x b o hb hn => World.cell?_of_block (a := ⟨b, o, none⟩) (x.ok.block b hb (fun e => hn (by injection e))))
instance (g : Nat) (w : World) : Nonempty (Latg g w) := ⟨⟨w, only_of_below (Below.refl _ _) _⟩⟩

theorem el_Link : IsElem Try.prog 23 70 3 24 := by
  have e : (Try.prog.info? 70).map (fun i => (i.zero, i.size, i.bytes)) = some (some (.agg #[.int .i64 0, .int .i64 0, .int .i64 0]), 3, 24) := by kernel_rfl
  obtain ⟨i, h1, h2, h3, h4⟩ := info_parts e
  exact ⟨Try.underlying23, ⟨i, _, h1, h2, h3, h4, rfl⟩, by decide, by decide⟩

/-- A row's block is no block of another type. -/
theorem own_ne {w : World} {base : Nat} {E t : TypeId} {size n r : Nat} {v : Value} {xs : List Value} {cs : Array Value} (h : w.ownsRow base E size v n xs) (hb : Blk w r t cs) (hne : t ≠ E) : v.ownBlock ≠ some r := by
  rcases h.2 with ⟨rfl, rfl⟩ | ⟨g, cap, cur, rfl, h1, h2, _⟩
  · simp [Value.ownBlock]
  · intro e
    simp only [Value.ownBlock, Option.some.injEq] at e
    subst e
    unfold Blk at hb
    rw [hb] at h2
    injection h2 with h2
    injection h2 with _ h3
    exact hne h3

set_option maxRecDepth 100000 in
set_option maxHeartbeats 4000000 in
theorem d_Graph (w : World) (B g q : Nat) (h : DR w B g q w) (hq : q ≤ 800000) :
    Calls Try.prog 44 #[.pointer (some ⟨g, 0, none⟩)] w fun e w' => ∃ (n : Nat) (v : Value) (ls : List Lk), e = .returned (.agg #[.int .i64 n, v]) ∧ 1 ≤ n ∧ n ≤ 8 ∧ w'.ownsRow w.heap.size 70 3 v ls.length (lks ls) ∧ ls.length ≤ 14 ∧ DR w B g (q + 1000) w' := by
  have H := Lib.hid h; clear h
  have hgl := H.out.glt
  go_enter Try.func44, Try.ntmps44
  go_upto_if 15 with (first | (go_at_call_of 45 (Value.int IntKind.i64 7); go_must (refine (d_pickp _ _ g q 7 (H.out.alloc _).begin (by omega) (by omega)).mono ?_); rintro e w1 ⟨z, rfl, hz0, hz1, hs, h1⟩) | (go_at_call_of 45 (Value.int IntKind.i64 3); go_must (refine (d_pickp _ _ g (q + 1) 3 ((h1.alloc _).alloc _).begin (by omega) (by omega)).mono ?_); rintro e w2 ⟨y, rfl, hy0, hy1, hs2, h2⟩))
  have hw1 : w1.heap.size = w.heap.size + 1 := by rw [hs]; simp
  have HR : Hid (Blk w2 w.heap.size 25 #[.int .i64 0, .slice none 0 0]) := h2.blk (((h1.blk (Blk.new _ _ _) (by omega)).alloc _).alloc _) (by omega)
  have HG : Hid (Blk w2 (w.heap.size + 1 + 1) 25 #[.int .i64 (2 + z), .slice (some ⟨w.heap.size + 1, 0, none⟩) 0 0]) := h2.blk (by have := Blk.new (w1.alloc (.cells #[] 70)) 25 #[.int .i64 (2 + z), .slice (some ⟨w.heap.size + 1, 0, none⟩) 0 0]; simpa [hw1] using this) (by omega)
  have HO : Hid (w2.ownsRow w.heap.size 70 3 (.slice (some ⟨w.heap.size + 1, 0, none⟩) 0 0) 0 []) := h2.own (((own_made (by omega) hw1.symm : (w1.alloc _).ownsRow w.heap.size 70 3 _ 0 [])).alloc _) hgl
  have HD : Hid (DR w B g (q + 2) w2) := ((((H.out.alloc _).then h1).alloc _).alloc _).then h2
  clear hs hs2 h1 h2 hw1
  have q0 := HG.out.cell 0
  have q1 := HG.out.cell 1
  go_cut [] (fun w' => ∃ n : Nat, 2 ≤ n ∧ n ≤ 8 ∧ Hid (Blk w' w.heap.size 25 #[.int .i64 0, .slice none 0 0]) ∧ Hid (Blk w' (w.heap.size + 1 + 1) 25 #[.int .i64 n, .slice (some ⟨w.heap.size + 1, 0, none⟩) 0 0]) ∧ Hid (w'.ownsRow w.heap.size 70 3 (.slice (some ⟨w.heap.size + 1, 0, none⟩) 0 0) 0 []) ∧ Hid (DR w B g (q + 3) w'))
  case first =>
    go_wp2_with (first | (go_at_call_of 45 (Value.int IntKind.i64 4); go_must (refine (d_pickp _ _ g (q + 2) 4 HD.out.begin (by omega) (by omega)).mono ?_); rintro e w3 ⟨x, rfl, hx0, hx1, hs3, h3⟩; have hk3 := h3.blk HG.out (by omega); have c3 := hk3.cell 0; have f3 := hk3.frozen; have l3 := hk3.lt; have HS3 := Lib.hid hs3; have HK3 := Lib.hid hk3; clear hs3 hk3))
    · go_meet
      refine ⟨(4 + x).toNat, by omega, by omega, (h3.blk HR.out (by omega)).far (by simp; omega) _, ?_, (h3.own HO.out hgl).kept (only_setCell (only_of_below (Below.refl _ _) _) (.inl rfl) _) (by right; simp [Value.ownBlock]), ((HD.out.then h3).set_ (by simp; omega) _)⟩
      rw [Int.toNat_of_nonneg (by omega)]
      simpa using Lib.hid (HK3.out.set_ 0 (.int .i64 (4 + x)))
    · go_meet
      exact ⟨(2 + z).toNat, by omega, by omega, HR, by rw [Int.toNat_of_nonneg (by omega)]; exact HG, HO, HD.out.mono (by omega)⟩
  case rest =>
    clear HR HG HO HD q0 q1 hy0 hy1 hz0 hz1
    obtain ⟨n, hn1, hn2, HR, HG, HO, HD⟩ := hcut
    go_wp2_with (first | (go_at_call_of 45 (Value.int IntKind.i64 3); go_must (refine (d_pickp _ _ g (q + 3) 3 HD.out.begin (by omega) (by omega)).mono ?_); rintro e w4 ⟨x, rfl, hx0, hx1, hs4, h4⟩))
    have HD4 : Hid (DR w B g (q + 4) w4) := HD.out.then h4
    have HR4 := Lib.hid (h4.blk HR.out (by omega))
    have HG4 := Lib.hid (h4.blk HG.out (by omega))
    have HO4 := Lib.hid (h4.own HO.out hgl)
    clear HR HG HO HD hs4 h4
    go_loopw [5] (fun va wr => ∃ (a : Nat) (v : Value) (ls : List Lk), va = .int .i64 a ∧ a ≤ n ∧ ls.length ≤ 14 ∧ Hid (Blk wr w.heap.size 25 #[.int .i64 0, .slice none 0 0]) ∧ Hid (Blk wr (w.heap.size + 1 + 1) 25 #[.int .i64 n, v]) ∧ Hid (wr.ownsRow w.heap.size 70 3 v ls.length (lks ls)) ∧ Hid (DR w B g (q + 4 + 48 * a) wr)) (fun va _ => n - (intOf va).toNat)
    case atStart => exact ⟨0, _, [], rfl, by omega, by simp, HR4, HG4, HO4, HD4⟩
    case round =>
      clear HR4 HG4 HO4 HD4
      obtain ⟨a, v, ls, rfl, ha, hll, HR, HG, HO, HD⟩ := hrel
      have q0 := HG.out.cell 0
      have q1 := HG.out.cell 1
      by_cases han : a < n
      · go_wp2_with fail
        go_loopw [6] (fun vb wr => ∃ (b : Nat) (v : Value) (ls : List Lk), vb = .int .i64 b ∧ b ≤ n ∧ ls.length ≤ 14 ∧ Hid (Blk wr w.heap.size 25 #[.int .i64 0, .slice none 0 0]) ∧ Hid (Blk wr (w.heap.size + 1 + 1) 25 #[.int .i64 n, v]) ∧ Hid (wr.ownsRow w.heap.size 70 3 v ls.length (lks ls)) ∧ Hid (DR w B g (q + 4 + 48 * a + 5 * b) wr)) (fun vb _ => n - (intOf vb).toNat)
        case atStart => exact ⟨a + 1, v, ls, by go_num, by omega, hll, HR, HG, HO, HD.out.mono (by omega)⟩
        case round =>
          clear HR HG HO HD q0 q1 hll
          obtain ⟨b, v, ls, rfl, hb, hll, HR, HG, HO, HD⟩ := hrel
          have q0 := HG.out.cell 0
          have q1 := HG.out.cell 1
          by_cases hbn : b < n
          · go_upto_region 11 with (fail)
            go_cut [7] (fun s w' => (∃ bb, s = .bool bb) ∧ w' = wr)
            case first =>
              rcases cs_bool ((b : Int) == (a : Int) + 1) with y0 | y0
              · rcases cs_bool ((a : Int) == 0) with y1 | y1
                all_goals
                  go_wp2_with fail
                  go_meet
                  exact ⟨⟨_, rfl⟩, rfl⟩
              · go_wp2_with fail
                go_meet
                exact ⟨⟨_, rfl⟩, rfl⟩
            case rest =>
              obtain ⟨⟨bb, rfl⟩, rfl⟩ := hcut
              go_upto_region 12 with (fail)
              go_cut [7, 69] (fun s7 s w' => ∃ bb, s = .bool bb ∧ (∃ b7, s7 = .bool b7) ∧ (bb = true → ls.length < 14) ∧ Hid (Blk w' w.heap.size 25 #[.int .i64 0, .slice none 0 0]) ∧ Hid (Blk w' (w.heap.size + 1 + 1) 25 #[.int .i64 n, v]) ∧ Hid (w'.ownsRow w.heap.size 70 3 v ls.length (lks ls)) ∧ Hid (DR w B g (q + 4 + 48 * a + 5 * b + 2) w'))
              case first =>
                obtain ⟨A, cap, rfl, hcap, hmx, hnew⟩ := own_slice HO.out
                clear hnew
                go_wp2_with (first | (go_at_call_of 45 (Value.int IntKind.i64 8); go_must (refine (d_pickp _ _ g (q + 4 + 48 * a + 5 * b) 8 HD.out.begin (by omega) (by omega)).mono ?_); rintro e w5 ⟨x, rfl, hx0, hx1, hs5, h5⟩; have HS5 := Lib.hid hs5; clear hs5) | (go_at_call_of 45 (Value.int IntKind.i64 6); go_must (first | refine (d_pickp _ _ g (q + 4 + 48 * a + 5 * b + 1) 6 h5.begin (by omega) (by omega)).mono ?_ | refine (d_pickp _ _ g (q + 4 + 48 * a + 5 * b) 6 HD.out.begin (by omega) (by omega)).mono ?_); rintro e w6 ⟨x6, rfl, hx60, hx61, hs6, h6⟩; have HS6 := Lib.hid hs6; clear hs6))
                all_goals
                  go_meet
                  refine ⟨_, rfl, ⟨_, rfl⟩, fun h => (by first | omega | simp at h), ?_⟩
                  first
                    | exact ⟨h6.blk (h5.blk HR.out (by omega)) (by omega), h6.blk (h5.blk HG.out (by omega)) (by omega), h6.own (h5.own HO.out hgl) hgl, ((HD.out.then h5).then h6).mono (by omega)⟩
                    | exact ⟨h5.blk HR.out (by omega), h5.blk HG.out (by omega), h5.own HO.out hgl, (HD.out.then h5).mono (by omega)⟩
                    | exact ⟨h6.blk HR.out (by omega), h6.blk HG.out (by omega), h6.own HO.out hgl, (HD.out.then h6).mono (by omega)⟩
                    | exact ⟨HR, HG, HO, HD.out.mono (by omega)⟩
              case rest =>
                clear HR HG HO HD
                obtain ⟨bt, rfl, ⟨b7, rfl⟩, hbt, HR, HG, HO, HD⟩ := hcut
                clear q0 q1
                have q0 := HG.out.cell 0
                have q1 := HG.out.cell 1
                have hz := HG.out.lt
                have hgg : ¬ w.heap.size + 1 + 1 = g := by omega
                cases bt with
                | false =>
                  go_wp2_with fail
                  go_roundw
                  case rel => exact ⟨b + 1, v, ls, by go_num, by omega, hll, HR, HG, HO, HD.out.mono (by omega)⟩
                  case measure => simp [intOf]; omega
                | true =>
                  have hl14 := hbt rfl
                  clear hbt hll
                  go_wp2_with fail
                  refine wp_plan_row g 16 [(0, true), (1, true), (2, true), (3, true), (4, true), (7, true), (10, true), (5, false), (6, true), (8, false), (9, true), (11, false), (12, true), (13, true), (14, true), (15, true)] (by kernel_rfl) (by kernel_rfl) fun hx9 => ?_
                  simp only [picked, List.filterMap_cons, List.filterMap_nil, List.getElem?_cons_zero, List.getElem?_cons_succ, Option.map_some, List.drop_succ_cons, List.drop_zero]
                  repeat (first | refine wpPlan_skip rfl ?_ | (refine wpPlan_val rfl rfl (fun K hK => ?_); go_big_quiet_op; refine hK _ ?_; clear hK K))
                  try refine wpPlan_nil ?_
                  refine wpPlan_eff rfl rfl (fun K hK => ?_); unfold Oper.wp; go_simp
                  go_must (refine (d_pickp _ _ g (q + 4 + 48 * a + 5 * b + 2) 3 HD.out.drew.begin (by omega) (by omega)).mono ?_)
                  rintro e w5 ⟨x5, rfl, x50, x51, hsw5, kw5⟩
                  have HSw5 := Lib.hid hsw5; clear hsw5
                  have g5 : DR wc B g (q + 4 + 48 * a + 5 * b + 3) w5 := (HD.out.begin.drew).then kw5
                  refine hK _ _ ⟨⟨w5, g5.1⟩, rfl⟩ ?_
                  clear hK K
                  repeat (first | refine wpPlan_skip rfl ?_ | (refine wpPlan_val rfl rfl (fun K hK => ?_); go_big_quiet_op; refine hK _ ?_; clear hK K))
                  try refine wpPlan_nil ?_
                  refine wpPlan_eff rfl rfl (fun K hK => ?_); unfold Oper.wp; go_simp
                  go_must (refine (d_pickp _ _ g (q + 4 + 48 * a + 5 * b + 3) 4 kw5.begin (by omega) (by omega)).mono ?_)
                  rintro e w6 ⟨x6, rfl, x60, x61, hsw6, kw6⟩
                  have HSw6 := Lib.hid hsw6; clear hsw6
                  have g6 := g5.then kw6
                  refine hK _ _ ⟨⟨w6, g6.1⟩, rfl⟩ ?_
                  clear hK K
                  repeat (first | refine wpPlan_skip rfl ?_ | (refine wpPlan_val rfl rfl (fun K hK => ?_); go_big_quiet_op; refine hK _ ?_; clear hK K))
                  try refine wpPlan_nil ?_
                  refine wpPlan_eff rfl rfl (fun K hK => ?_); unfold Oper.wp; go_simp
                  go_must (refine (d_pickp _ _ g (q + 4 + 48 * a + 5 * b + 4) 8 kw6.begin (by omega) (by omega)).mono ?_)
                  rintro e w7 ⟨x7, rfl, x70, x71, hsw7, kw7⟩
                  have HSw7 := Lib.hid hsw7; clear hsw7
                  have g7 := g6.then kw7
                  refine hK _ _ ⟨⟨w7, g7.1⟩, rfl⟩ ?_
                  clear hK K
                  repeat (first | refine wpPlan_skip rfl ?_ | (refine wpPlan_val rfl rfl (fun K hK => ?_); go_big_quiet_op; refine hK _ ?_; clear hK K))
                  try refine wpPlan_nil ?_
                  refine wpPlan_eff rfl rfl (fun K hK => ?_); unfold Oper.wp; go_simp
                  refine hK _ _ ⟨⟨_, only_alloc g7.1 _⟩, rfl⟩ ?_
                  clear hK K
                  repeat (first | refine wpPlan_skip rfl ?_ | (refine wpPlan_val rfl rfl (fun K hK => ?_); go_big_quiet_op; refine hK _ ?_; clear hK K))
                  try refine wpPlan_nil ?_
                  have HO7 := g7.own HO.out hgl
                  have HG7 := g7.blk HG.out hgg
                  have HR7 := g7.blk HR.out (by omega)
                  have hz7 := (HD.out.then g7).size
                  have hor7 := HO7.lt
                  go_wp2_with (at_builtin; go_must (refine wpl_app el_Link rfl (.tmp 71) (.tmp 85) rfl w.heap.size _ ls.length _ rfl (HO7.alloc _) _ 1 [.int .i64 a, .int .i64 b, .int .i64 _] rfl rfl (heap_alloc_new _ _) (by simp [Value.oneCell']) (by omega) (by simp; omega) ?_); intro v1 w8 hown1 hg1 hor; clear hor; obtain ⟨A1, cap1, rfl, _, _, _⟩ := own_slice hown1; have HG8 := (Blk.alloc HG7 _).grown (show World.grownBy _ w8 v.ownBlock from hg1) (own_ne HO7 HG7 (by decide)); have HR8 := Lib.hid ((Blk.alloc HR7 _).grown (show World.grownBy _ w8 v.ownBlock from hg1) (own_ne HO7 HR7 (by decide))); have HD8 := Lib.hid ((((HD.out.then g7).alloc _).grown (show World.grownBy _ w8 v.ownBlock from hg1) (fun b e => (hor7 b e).1))); have HO8 := Lib.hid hown1; have HN8 := Lib.hid (own_ne hown1 HG8 (by decide)); have c8 := HG8.cell 1; have f8 := HG8.frozen; have l8 := HG8.lt; have HGG := Lib.hid HG8; clear HG8 hown1 hg1)
                  clear q0 q1 c8 f8 l8 HO7 HG7 HR7 hor7 g5 g6 g7 kw5 kw6 kw7 hx9
                  generalize wrap64 _ = c at *
                  go_roundw
                  case rel =>
                    refine ⟨b + 1, _, ls ++ [⟨a, b, c⟩], by go_num, by omega, by simp; omega, HR8.out.far (by simp; omega) _, Lib.hid (HGG.out.set_ 1 _), ?_, (HD8.out.set_ (by simp; omega) _).mono (by omega)⟩
                    rw [lks_app, List.length_append]
                    exact HO8.out.kept (only_setCell (only_of_below (Below.refl _ _) _) (.inl rfl) _) (.inr HN8.out)
                  case measure => simp [intOf]; omega
          · go_wp2_with fail
            go_roundw
            case rel => exact ⟨a + 1, v, ls, by go_num, by omega, hll, HR, HG, HO, HD.out.mono (by omega)⟩
            case measure => simp [intOf]; omega
      · obtain ⟨A, cap, rfl, _, _, _⟩ := own_slice HO.out
        have hgg : ¬ w.heap.size + 1 + 1 = g := by omega
        have hrg : ¬ w.heap.size = g := by omega
        have hrr : ¬ w.heap.size = w.heap.size + 1 + 1 := by omega
        go_wp2_with (first | (go_at_call_of 45 (Value.int IntKind.i64 24); go_must (refine (d_pickp _ _ g (q + 4 + 48 * a) 24 HD.out.begin (by omega) (by omega)).mono ?_); rintro e w5 ⟨x5, rfl, x50, x51, hs5, k5⟩; have HS5 := Lib.hid hs5; clear hs5; have HR5 := k5.blk HR.out hrg; have HG5 := k5.blk HG.out hgg; have r0 := HR5.cell 0; have r1 := HR5.cell 1; have rf := HR5.frozen; have rl := HR5.lt; have g0 := HG5.cell 0; have g1 := HG5.cell 1; have gf := HG5.frozen; have gl := HG5.lt; have HRR := Lib.hid HR5; have HGG := Lib.hid HG5; clear HR5 HG5))
        · (try simp only [Exit.inBlock, Exit.then])
          refine bodyPost_ret (v := .agg #[.int .i64 1, .slice (some ⟨w5.heap.size, 0, none⟩) 0 0]) (by simp only [results, Try.results44]; go_simp) rfl ?_
          exact ⟨1, _, [], rfl, by omega, by omega, own_made (by have := HD.out.size; have := k5.size; simp; omega) (by simp), by simp, ((((((HD.out.then k5).set_ (by simp; omega) _).set_ (by simp; omega) _).set_ (by simp) _).set_ (by simp) _).alloc _).mono (by omega)⟩
        · (try simp only [Exit.inBlock, Exit.then])
          refine bodyPost_ret (v := .agg #[.int .i64 n, .slice A ls.length cap]) (by simp only [results, Try.results44]; go_simp) rfl ?_
          refine ⟨n, _, ls, rfl, by omega, by omega, ?_, by omega, (((HD.out.then k5).set_ (by simp) _).set_ (by simp) _).mono (by omega)⟩
          have h1 := k5.own HO.out hgl
          have hne := own_ne h1 HRR.out (by decide)
          have h2 := h1.kept (only_setCell (a := w5) (g := w.heap.size) (only_of_below (Below.refl _ _) _) (p := ⟨w.heap.size, 0, none⟩) (.inl rfl) (.int .i64 n)) (.inr hne)
          exact h2.kept (only_setCell (g := w.heap.size) (only_of_below (Below.refl _ _) _) (.inl rfl) _) (.inr hne)
end Go.Proofs.Ytkeihpihphefgaa
