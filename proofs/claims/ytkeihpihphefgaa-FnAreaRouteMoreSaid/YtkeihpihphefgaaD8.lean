/- Draws: two areas; what AreaRoute is asked. -/
import Derived.Test.YtkeihpihphefgaaD7
namespace Go.Proofs.Ytkeihpihphefgaa
open Go.RowKit

theorem RdI.one_ (w : World) (z : Int) (t : TypeId) : RdI (w.alloc (.cells #[.int .i64 z] t)) (some ⟨w.heap.size, 0, none⟩) 1 [z] := by
  refine ⟨rfl, by omega, rfl, fun _ => ⟨_, _, rfl, fun j u hu => ?_⟩⟩
  rw [(Blk.new w t #[.int .i64 z]).cell]
  simpa [ints] using hu

theorem ASt.start {w wc : World} {B g q g5 n : Nat} {S : Option Addr} {len cap : Nat} {ls : List Lk} {Z : Option Addr} {lz : Nat} {zs : List Int} (hz : RdI wc Z lz zs) (hzn : 0 < lz → ∀ b o, Z = some ⟨b, o, none⟩ → w.heap.size + 1 < b ∧ b < wc.heap.size)
    (h0 : Blk wc w.heap.size 25 #[.int .i64 0, .slice none 0 0]) (h1 : Blk wc (w.heap.size + 1) 25 #[.int .i64 0, .slice none 0 0]) (h5 : Blk wc g5 25 #[.int .i64 n, .slice S len cap])
    (hs : RdL wc S len ls) (hsn : ∀ b o, S = some ⟨b, o, none⟩ → w.heap.size + 1 < b ∧ b < g5) (hd : DR w B g q wc) (hg5 : w.heap.size + 1 < g5) :
    ASt w B g q wc.heap.size (wc.heap.size + 1) (wc.heap.size + 1 + 1 + 1) g5 n S len cap ls Z lz zs [] [] (.slice (some ⟨wc.heap.size, 0, none⟩) 0 0) (.slice (some ⟨wc.heap.size + 1 + 1, 0, none⟩) 0 0) ((((wc.alloc (.cells #[] 70)).alloc (.cells #[.int .i64 n, .slice (some ⟨wc.heap.size, 0, none⟩) 0 0] 25)).alloc (.cells #[] 70)).alloc (.cells #[.int .i64 n, .slice (some ⟨wc.heap.size + 1 + 1, 0, none⟩) 0 0] 25)) := by
  have l5 := h5.lt
  have e8 := Blk.new (wc.alloc (.cells #[] 70)) 25 #[.int .i64 n, .slice (some ⟨wc.heap.size, 0, none⟩) 0 0]
  have e9 := Blk.new (((wc.alloc (.cells #[] 70)).alloc (.cells #[.int .i64 n, .slice (some ⟨wc.heap.size, 0, none⟩) 0 0] 25)).alloc (.cells #[] 70)) 25 #[.int .i64 n, .slice (some ⟨wc.heap.size + 1 + 1, 0, none⟩) 0 0]
  simp only [World.size_alloc] at e8 e9
  have oa : (wc.alloc (.cells #[] 70)).ownsRow wc.heap.size 70 3 (.slice (some ⟨wc.heap.size, 0, none⟩) 0 0) 0 [] := own_made (Nat.le_refl _) rfl
  have ob : (((wc.alloc (.cells #[] 70)).alloc (.cells #[.int .i64 n, .slice (some ⟨wc.heap.size, 0, none⟩) 0 0] 25)).alloc (.cells #[] 70)).ownsRow wc.heap.size 70 3 (.slice (some ⟨wc.heap.size + 1 + 1, 0, none⟩) 0 0) 0 [] := own_made (by simp; omega) (by simp)
  exact ⟨(((h0.alloc _).alloc _).alloc _).alloc _, (((h1.alloc _).alloc _).alloc _).alloc _, (((h5.alloc _).alloc _).alloc _).alloc _, (e8.alloc _).alloc _, e9, ((oa.alloc _).alloc _).alloc _, ob.alloc _, by simp [Value.ownBlock]; omega,
    (((hs.alloc _).alloc _).alloc _).alloc _, fun b o e => by have := hsn b o e; omega, (((hz.alloc _).alloc _).alloc _).alloc _, hzn, by omega, (((hd.alloc _).alloc _).alloc _).alloc _⟩

set_option maxRecDepth 100000 in
set_option maxHeartbeats 16000000 in
theorem d_Areas (w : World) (B g q : Nat) (h : DR w B g q w) (hq : q ≤ 600000) :
    Calls Try.prog 43 #[.pointer (some ⟨g, 0, none⟩)] w fun e w' => ∃ (n : Nat) (A : Option Addr) (la ca : Nat) (xs : List Lk) (m : Nat) (A' : Option Addr) (lb cb : Nat) (ys : List Lk) (Z : Option Addr) (lz cz : Nat) (zs : List Int), e = .returned (.tuple #[.agg #[.int .i64 n, .slice A la ca], .agg #[.int .i64 m, .slice A' lb cb], .slice Z lz cz]) ∧ n ≤ 9 ∧ m ≤ 9 ∧ RdL w' A la xs ∧ RdL w' A' lb ys ∧ RdI w' Z lz zs ∧ lz ≤ 102 ∧ (lz ≤ cz ∧ cz ≤ maxLen) ∧ New w.heap.size A ∧ New w.heap.size A' ∧ (0 < lz → New w.heap.size Z) ∧ DR w B g (q + 3000) w' := by
  have H := Lib.hid h; clear h
  have hgl := H.out.glt
  have hr0 : ¬ w.heap.size = g := by omega
  have hr1 : ¬ w.heap.size + 1 = g := by omega
  go_enter Try.func43, Try.ntmps43
  go_upto_region 3 with (first | (go_at_call 44; go_must (refine (d_Graph _ _ g q ((H.out.alloc _).alloc _).begin (by omega)).mono ?_); rintro e w1 ⟨n, v, ls, rfl, hn1, hn2, hO, hlen, h1⟩; obtain ⟨A, cap, rfl, _, _, _⟩ := own_slice hO; have HO1 := Lib.hid hO; have HD1 := Lib.hid h1; clear hO h1) | (go_at_call 30; go_must (refine (d_Borders _ _ g (q + 1000) _ (HD1.out.alloc _).begin (by omega) (by omega)).mono ?_); rintro e w2 ⟨Z, lz, cz, zs, rfl, hZ, hnz, hlz, hcz, h2⟩; have HCZ := Lib.hid hcz; clear hcz; have HZ2 := Lib.hid hZ; have HN2 := Lib.hid hnz; have HD2 := Lib.hid h2; clear hZ hnz h2))
  have z1 := HD1.out.size
  simp only [World.size_alloc] at z1
  have hg5 : ¬ w1.heap.size = g := by omega
  have HR0 : Hid (Blk w2 w.heap.size 25 #[.int .i64 0, .slice none 0 0]) := HD2.out.blk ((HD1.out.blk ((Blk.new _ _ _).alloc _) hr0).alloc _) hr0
  have HR1 : Hid (Blk w2 (w.heap.size + 1) 25 #[.int .i64 0, .slice none 0 0]) := HD2.out.blk ((HD1.out.blk (by have := Blk.new (w.alloc (.cells #[.int .i64 0, .slice none 0 0] 25)) 25 #[.int .i64 0, .slice none 0 0]; simpa using this) hr1).alloc _) hr1
  have HG : Hid (Blk w2 w1.heap.size 25 #[.int .i64 n, .slice A ls.length cap]) := HD2.out.blk (Blk.new _ _ _) hg5
  have HS : Hid (RdL w2 A ls.length ls) := HD2.out.rdL ((RdL.of_own HO1.out (by omega)).alloc _) (own_new HO1.out (Nat.le_refl _)) (by simp; omega)
  have HSN : Hid (∀ b o, A = some ⟨b, o, none⟩ → w.heap.size + 1 < b ∧ b < w1.heap.size) := Lib.hid (by
    obtain ⟨A', cap', e, _, _, hn⟩ := own_slice HO1.out
    injection e with e
    subst e
    intro b o e
    have := hn b o none e
    simp only [World.size_alloc] at this
    omega)
  have HD : Hid (DR w B g (q + 1103) w2) := (((((H.out.alloc _).alloc _).then HD1.out).alloc _).then HD2.out).mono (by omega)
  have hz5 := HG.out.lt
  have HZN : Hid (0 < lz → ∀ b o, Z = some ⟨b, o, none⟩ → w.heap.size + 1 < b ∧ b < w2.heap.size) := Lib.hid (by
    intro h0 b o e
    have h1 := HN2.out b o e
    simp only [World.size_alloc] at h1
    obtain ⟨b', o', e', hlt, _⟩ := HZ2.out.rule h0
    rw [e] at e'
    injection e' with e'
    injection e' with e1
    subst e1
    exact ⟨by omega, hlt⟩)
  clear HO1 HD1 HN2 HD2
  generalize w1.heap.size = g5 at *
  have q0 := HG.out.cell 0; have q1 := HG.out.cell 1; have qf := HG.out.frozen; have ql := HG.out.lt
  go_upto_region 4 with (first | (go_at_call 45; go_must (refine (d_pickp _ _ g (q + 1103) _ HD.out.begin (by omega) (by omega)).mono ?_); rintro e w3 ⟨ct, rfl, hct0, hct1, hs3, h3⟩; have HD3 := Lib.hid h3; have HS3 := Lib.hid hs3; clear h3 hs3))
  go_upto_if 29 with (first | (go_at_call 45; go_must (refine (d_pickp _ _ g (q + 1104) _ HD3.out.begin (by omega) (by omega)).mono ?_); rintro e w4 ⟨cu, rfl, hcu0, hcu1, hs4, h4⟩; have HD4 := Lib.hid h4; have HS4 := Lib.hid hs4; clear h4 hs4))
  have HG4 : Hid (Blk w4 g5 25 #[.int .i64 n, .slice A ls.length cap]) := HD4.out.blk (HD3.out.blk HG.out hg5) hg5
  have HR40 : Hid (Blk w4 w.heap.size 25 #[.int .i64 0, .slice none 0 0]) := HD4.out.blk (HD3.out.blk HR0.out hr0) hr0
  have HR41 : Hid (Blk w4 (w.heap.size + 1) 25 #[.int .i64 0, .slice none 0 0]) := HD4.out.blk (HD3.out.blk HR1.out hr1) hr1
  have HS4' : Hid (RdL w4 A ls.length ls) := (HS.out.grown HD3.out.1 (fun b o e e' => by have := HSN.out b o e; injection e' with e'; omega)).grown HD4.out.1 (fun b o e e' => by have := HSN.out b o e; injection e' with e'; omega)
  have HZ4 : Hid (RdI w4 Z lz zs) := (HZ2.out.grownP HD3.out.1 (fun h0 b o e e' => by have := HZN.out h0 b o e; injection e' with e'; omega)).grownP HD4.out.1 (fun h0 b o e e' => by have := HZN.out h0 b o e; injection e' with e'; omega)
  have HZN4 : Hid (0 < lz → ∀ b o, Z = some ⟨b, o, none⟩ → w.heap.size + 1 < b ∧ b < w4.heap.size) := Lib.hid (fun h0 b o e => by have := HZN.out h0 b o e; have := HD3.out.size; have := HD4.out.size; omega)
  have HDD : Hid (DR w B g (q + 1105) w4) := ((HD.out.then HD3.out).then HD4.out).mono (by omega)
  clear q0 q1 qf ql
  clear HD HD3 HD4 HG HR0 HR1 HS HS3 HS4 HZ2 HZN hz5
  have q0 := HG4.out.cell 0; have q1 := HG4.out.cell 1; have qf := HG4.out.frozen; have ql := HG4.out.lt
  go_cut [6] (fun v w' => ∃ (Z : Option Addr) (lz cz : Nat) (zs : List Int), v = .slice Z lz cz ∧ lz ≤ 102 ∧ Hid (lz ≤ cz ∧ cz ≤ maxLen) ∧ Hid (RdI w' Z lz zs) ∧ Hid (0 < lz → ∀ b o, Z = some ⟨b, o, none⟩ → w.heap.size + 1 < b ∧ b < w'.heap.size) ∧ Hid (Blk w' w.heap.size 25 #[.int .i64 0, .slice none 0 0]) ∧ Hid (Blk w' (w.heap.size + 1) 25 #[.int .i64 0, .slice none 0 0]) ∧ Hid (Blk w' g5 25 #[.int .i64 n, .slice A ls.length cap]) ∧ Hid (RdL w' A ls.length ls) ∧ Hid (DR w B g (q + 1106) w'))
  case first =>
    go_wp2_with (first | (go_at_call 45; go_must (refine (d_pickp _ _ g (q + 1105) _ HDD.out.begin (by omega) (by omega)).mono ?_); rintro e w5 ⟨cv, rfl, hcv0, hcv1, hs5, h5⟩; have HD5 := Lib.hid h5; have HS5 := Lib.hid hs5; clear h5 hs5))
    · go_meet
      refine ⟨_, _, _, [cv], rfl, by omega, ⟨Nat.le_refl _, by unfold maxLen; omega⟩, RdI.one_ _ _ _, fun _ b o e => ?_, (HD5.out.blk HR40.out hr0).alloc _, (HD5.out.blk HR41.out hr1).alloc _, (HD5.out.blk HG4.out hg5).alloc _, ?_, ((HDD.out.then HD5.out).alloc _).mono (by omega)⟩
      · injection e with e; injection e with e; have := HD5.out.size; simp; omega
      · exact (HS4'.out.grown HD5.out.1 (fun b o e e' => by have := HSN.out b o e; injection e' with e'; omega)).alloc _
    · go_meet
      exact ⟨Z, lz, cz, zs, rfl, hlz, HCZ, HZ4, HZN4, HR40, HR41, HG4, HS4', HDD.out.mono (by omega)⟩
  case rest =>
    clear HZ4 HZN4 HR40 HR41 HG4 HS4' HDD hlz hcu0 hcu1
    clear q0 q1 qf ql
    clear HCZ
    obtain ⟨Z, lz, cz, zs, rfl, hlz, HCZ, HZ, HZN, HR0, HR1, HG, HS, HD⟩ := hcut
    have q0 := HG.out.cell 0; have q1 := HG.out.cell 1; have qf := HG.out.frozen; have ql := HG.out.lt
    go_wp2_with fail
    clear q0 q1 qf ql
    obtain ⟨M, hM⟩ : ∃ M, M = wc.heap.size := ⟨_, rfl⟩
    have HST := Lib.hid (ASt.start (n := n) (cap := cap) HZ.out HZN.out HR0.out HR1.out HG.out HS.out HSN.out HD.out (by omega))
    rw [← hM] at *
    generalize hwd : (((wc.alloc (.cells #[] 70)).alloc (.cells #[.int .i64 n, .slice (some ⟨M, 0, none⟩) 0 0] 25)).alloc (.cells #[] 70)).alloc (.cells #[.int .i64 n, .slice (some ⟨M + 1 + 1, 0, none⟩) 0 0] 25) = wd at *
    clear hwd hM HZ HZN HR0 HR1 HG HS HD
    go_loopw [10] (fun i wr => ∃ (k : Nat) (xs ys : List Lk) (va vb : Value), i = .int .i64 k ∧ k ≤ ls.length ∧ xs.length ≤ k ∧ ys.length ≤ k ∧ Hid (ASt w B g (q + 1106 + k) M (M + 1) (M + 1 + 1 + 1) g5 n A ls.length cap ls Z lz zs xs ys va vb wr)) (fun i _ => ls.length - (intOf i).toNat)
    case atStart => exact ⟨0, [], [], _, _, rfl, by omega, by simp, by simp, HST⟩
    case round =>
      clear HST
      obtain ⟨k, xs, ys, va, vb, rfl, hk, hxl, hyl, HST⟩ := hrel
      have HG := Lib.hid HST.out.h5
      have q0 := HG.out.cell 0; have q1 := HG.out.cell 1; have qf := HG.out.frozen; have ql := HG.out.lt
      by_cases hlt : k < ls.length
      · have HSS := HST.out.src
        obtain ⟨bS, oS, rfl, hbS, r0, r1, r2⟩ := HSS.rule (by omega)
        have a0 := r0 k hlt
        have a1 := r1 k hlt
        have a2 := r2 k hlt
        clear r0 r1 r2 HSS
        generalize (lk ls k).a = a at *
        generalize (lk ls k).b = b at *
        generalize (lk ls k).c = c at *
        go_upto_region 12 with (fail)
        have HK : Hid (Blk (wr.alloc (.cells #[.int .i64 a, .int .i64 b, .int .i64 c] 70)) wr.heap.size 70 #[.int .i64 a, .int .i64 b, .int .i64 c]) := Blk.new _ _ _
        have HKF : Hid (wr.heap.size ≠ w.heap.size ∧ wr.heap.size ≠ w.heap.size + 1 ∧ wr.heap.size ≠ g5 ∧ wr.heap.size ≠ M + 1 ∧ wr.heap.size ≠ M + 1 + 1 + 1 ∧ M ≤ wr.heap.size) := Lib.hid (by
          have := HST.out.h1.lt; have := HST.out.h5.lt; have := HST.out.h8.lt; have := HST.out.h9.lt; have := HST.out.bM
          omega)
        have HNV : Hid (va.ownBlock ≠ some wr.heap.size ∧ vb.ownBlock ≠ some wr.heap.size) := Lib.hid ⟨fun e => by have := (HST.out.oa.lt _ e).2; omega, fun e => by have := (HST.out.ob.lt _ e).2; omega⟩
        replace HST := Lib.hid (HST.out.alloc (.cells #[.int .i64 a, .int .i64 b, .int .i64 c] 70))
        have hg11 : ¬ wr.heap.size = g := by have := HST.out.bM; have := HKF.out; omega
        clear HG a0 a1 a2 hbS
        clear q0 q1 qf ql
        generalize wr.alloc (.cells #[.int .i64 a, .int .i64 b, .int .i64 c] 70) = w5 at *
        generalize wr.heap.size = g11 at *
        have HZ := Lib.hid HST.out.z
        have k0 := HK.out.cell 0; have k1 := HK.out.cell 1; have k2 := HK.out.cell 2; have kf := HK.out.frozen; have kl := HK.out.lt
        go_cut [12] (fun s w' => (∃ bb, s = .bool bb) ∧ w5 = w')
        case first =>
          rcases cs_bool (decide (a < ct)) with y0 | y0
          all_goals
            go_wp2_with (first | (go_at_call 55; go_must (refine (s_l1Has _ _ _ _ zs _ HZ.out).mono ?_); rintro e w' ⟨rfl, rfl⟩))
            go_meet
            exact ⟨⟨_, rfl⟩, rfl⟩
        case rest =>
          obtain ⟨⟨b12, rfl⟩, rfl⟩ := hcut
          go_upto_region 13 with (fail)
          go_cut [13] (fun s w' => (∃ bb, s = .bool bb) ∧ w5 = w')
          case first =>
            rcases cs_bool (decide (b < ct)) with y0 | y0
            all_goals
              go_wp2_with (first | (go_at_call 55; go_must (refine (s_l1Has _ _ _ _ zs _ HZ.out).mono ?_); rintro e w' ⟨rfl, rfl⟩))
              go_meet
              exact ⟨⟨_, rfl⟩, rfl⟩
          case rest =>
            obtain ⟨⟨b13, rfl⟩, rfl⟩ := hcut
            go_upto_region 14 with (fail)
            go_cut [14] (fun s w' => (∃ bb, s = .bool bb) ∧ w5 = w')
            case first =>
              rcases cs_bool (decide (ct ≤ a)) with y0 | y0
              all_goals
                go_wp2_with (first | (go_at_call 55; go_must (refine (s_l1Has _ _ _ _ zs _ HZ.out).mono ?_); rintro e w' ⟨rfl, rfl⟩))
                go_meet
                exact ⟨⟨_, rfl⟩, rfl⟩
            case rest =>
              obtain ⟨⟨b14, rfl⟩, rfl⟩ := hcut
              go_upto_region 15 with (fail)
              go_cut [15] (fun s w' => (∃ bb, s = .bool bb) ∧ w5 = w')
              case first =>
                rcases cs_bool (decide (ct ≤ b)) with y0 | y0
                all_goals
                  go_wp2_with (first | (go_at_call 55; go_must (refine (s_l1Has _ _ _ _ zs _ HZ.out).mono ?_); rintro e w' ⟨rfl, rfl⟩))
                  go_meet
                  exact ⟨⟨_, rfl⟩, rfl⟩
              case rest =>
                obtain ⟨⟨b15, rfl⟩, rfl⟩ := hcut
                go_upto_region 16 with (fail)
                go_cut [98] (fun s w' => (∃ bb, s = .bool bb) ∧ w5 = w')
                case first =>
                  cases b12
                  all_goals
                    go_wp2_with fail
                    go_meet
                    exact ⟨⟨_, rfl⟩, rfl⟩
                case rest =>
                  obtain ⟨⟨b98, rfl⟩, rfl⟩ := hcut
                  clear HZ
                  clear hr0 hr1 z1 hct0 hct1
                  go_upto_if 98 with (fail)
                  go_cut [] (fun w' => ∃ (xs' : List Lk) (va' : Value), xs'.length ≤ k + 1 ∧ Hid (ASt w B g (q + 1106 + k) M (M + 1) (M + 1 + 1 + 1) g5 n (some ⟨bS, oS, none⟩) ls.length cap ls Z lz zs xs' ys va' vb w') ∧ Hid (Blk w' g11 70 #[.int .i64 a, .int .i64 b, .int .i64 c]) ∧ Hid (va'.ownBlock ≠ some g11 ∧ vb.ownBlock ≠ some g11))
                  case first =>
                    have H8 := Lib.hid HST.out.h8
                    have q0 := H8.out.cell 0; have q1 := H8.out.cell 1; have qf := H8.out.frozen; have ql := H8.out.lt
                    obtain ⟨A1, cap1, rfl, _, _, hn8⟩ := own_slice HST.out.oa
                    clear hn8
                    have hlM := HST.out.bM
                    have hsz := HST.out.dr.size
                    have hx16 : xs.length ≤ 16777216 := by omega
                    have hM5 : M ≤ (w5.alloc (.cells #[.int .i64 a, .int .i64 b, .int .i64 c] 70)).heap.size := by simp; omega
                    have HOA := Lib.hid (HST.out.alloc (.cells #[.int .i64 a, .int .i64 b, .int .i64 c] 70))
                    clear hlM hsz
                    go_wp2_with (at_builtin; go_must (refine wpl_app el_Link rfl (.tmp 100) (.tmp 102) rfl M _ xs.length _ rfl HOA.out.oa _ 1 [.int .i64 a, .int .i64 b, .int .i64 c] rfl rfl (heap_alloc_new _ _) (by simp [Value.oneCell']) hx16 hM5 ?_; intro v1 w8 hown1 hg1 hor; obtain ⟨A3, cap3, rfl, _, _, _⟩ := own_slice hown1; have K8 := HOA.out.h8.grown hg1 (own_ne HOA.out.oa HOA.out.h8 (by decide)); have p0 := K8.cell 0; have p1 := K8.cell 1; have pf := K8.frozen; have pl := K8.lt; clear K8; have HOR := Lib.hid (show (Value.slice A3 (xs.length + 1) cap3).ownBlock = (Value.slice A1 xs.length cap1).ownBlock ∨ (Value.slice A3 (xs.length + 1) cap3).ownBlock = some (w5.alloc (.cells #[.int .i64 a, .int .i64 b, .int .i64 c] 70)).heap.size from hor); have HGG := Lib.hid (show World.grownBy _ w8 (Value.slice A1 xs.length cap1).ownBlock from hg1); have HOWN := Lib.hid hown1; clear hor hg1 hown1))
                    · have hkl := HK.out.lt
                      have hA := Lib.hid (HOA.out.app (l := ⟨a, b, c⟩) HOWN.out HGG.out HOR.out)
                      have hKK := Lib.hid (((HK.out.alloc (.cells #[.int .i64 a, .int .i64 b, .int .i64 c] 70)).grown HGG.out HNV.out.1).far (p := ⟨M + 1, 1, none⟩) HKF.out.2.2.2.1 (.slice A3 (xs.length + 1) cap3))
                      have hNN : Hid ((Value.slice A3 (xs.length + 1) cap3).ownBlock ≠ some g11 ∧ vb.ownBlock ≠ some g11) := Lib.hid ⟨by
                        rcases HOR.out with e | e
                        · rw [e]; exact HNV.out.1
                        · rw [e]; intro e'; injection e' with e'; simp at e'; omega, HNV.out.2⟩
                      have hll : (xs ++ [(⟨a, b, c⟩ : Lk)]).length ≤ k + 1 := by simp; omega
                      clear HOA HOWN HGG HOR HST HK HNV
                      go_meet
                      exact ⟨xs ++ [⟨a, b, c⟩], .slice A3 (xs.length + 1) cap3, hll, hA, hKK, hNN⟩
                    · go_meet
                      exact ⟨xs, _, by omega, HST, HK, HNV⟩
                  case rest =>
                    clear HST HK HNV
                    clear k0 k1 k2 kf kl
                    obtain ⟨xs', va', hxl', HST, HK, HNV⟩ := hcut
                    have H9 := Lib.hid HST.out.h9
                    have q0 := H9.out.cell 0; have q1 := H9.out.cell 1; have qf := H9.out.frozen; have ql := H9.out.lt
                    have k0 := HK.out.cell 0; have k1 := HK.out.cell 1; have k2 := HK.out.cell 2; have kf := HK.out.frozen; have kl := HK.out.lt
                    obtain ⟨A2, cap2, rfl, _, _, hn9⟩ := own_slice HST.out.ob
                    clear hn9
                    have hlM := HST.out.bM
                    have hsz := HST.out.dr.size
                    generalize wc = w5 at *
                    go_upto_region 18 with (fail)
                    go_cut [108] (fun s w' => (∃ bb, s = .bool bb) ∧ w5 = w')
                    case first =>
                      cases b14
                      all_goals
                        go_wp2_with fail
                        go_meet
                        exact ⟨⟨_, rfl⟩, rfl⟩
                    case rest =>
                      obtain ⟨⟨b108, rfl⟩, rfl⟩ := hcut
                      cases b108
                      · go_wp2_with fail
                        go_roundw
                        case rel => exact ⟨k + 1, xs', ys, _, _, by go_num, by omega, hxl', by omega, HST.out.more (by omega)⟩
                        case measure => simp [intOf]; omega
                      · go_upto_region 19 with (fail)
                        refine wp_plan_row g 7 [(0, true), (1, true), (2, true), (3, false), (4, true), (5, true), (6, true)] (by kernel_rfl) (by kernel_rfl) fun hx9 => ?_
                        simp only [picked, List.filterMap_cons, List.filterMap_nil, List.getElem?_cons_zero, List.getElem?_cons_succ, Option.map_some, List.drop_succ_cons, List.drop_zero]
                        repeat (first | refine wpPlan_skip rfl ?_ | (refine wpPlan_val rfl rfl (fun K hK => ?_); go_big_quiet_op; refine hK _ ?_; clear hK K))
                        try refine wpPlan_nil ?_
                        refine wpPlan_eff rfl rfl (fun K hK => ?_); unfold Oper.wp; go_simp
                        go_must (refine (d_pickp _ _ g (q + 1106 + k) 2 HST.out.drew.dr.begin (by omega) (by omega)).mono ?_)
                        rintro e w6 ⟨x, rfl, hx0, hx1, hs6, h6⟩
                        clear hs6
                        refine hK _ _ ⟨⟨w6, only_trans (only_drew (only_of_below (Below.refl _ w5) (some g))) h6.1 (fun i e => .inl e)⟩, rfl⟩ ?_
                        clear hK K hx9
                        have HST6 := Lib.hid (HST.out.drew.pick h6)
                        have HK6 := Lib.hid (h6.blk (w := w5.drew) HK.out hg11)
                        have hsz6 := h6.size
                        clear k0 k1 k2 kf kl
                        clear q0 q1 qf ql
                        clear h6 H9 HST
                        have k0 := HK6.out.cell 0; have k1 := HK6.out.cell 1; have k2 := HK6.out.cell 2; have kf := HK6.out.frozen; have kl := HK6.out.lt
                        repeat (first | refine wpPlan_skip rfl ?_ | (refine wpPlan_val rfl rfl (fun K hK => ?_); go_big_quiet_op; refine hK _ ?_; clear hK K))
                        try refine wpPlan_nil ?_
                        go_upto_region 20 with (fail)
                        generalize (if wrap64 (c - x) < 1 then (1 : Int) else wrap64 (c - x)) = cc at *
                        have HSY := Lib.hid (HST6.out.own (p := ⟨g11, 2, none⟩) ⟨HKF.out.1, HKF.out.2.1, HKF.out.2.2.1, HKF.out.2.2.2.1, HKF.out.2.2.2.2.1, HNV.out.1, HNV.out.2, HKF.out.2.2.2.2.2⟩ (.int .i64 cc)).symm
                        have HK7 : Hid (Blk (w6.setCell ⟨g11, 2, none⟩ (.int .i64 cc)) g11 70 #[.int .i64 a, .int .i64 b, .int .i64 cc]) := Lib.hid (by simpa using HK6.out.set_ 2 (.int .i64 cc))
                        clear k0 k1 k2 kf kl
                        clear HST6 HK6
                        generalize w6.setCell ⟨g11, 2, none⟩ (.int .i64 cc) = w7 at *
                        have H9 := Lib.hid HSY.out.h8
                        have q0 := H9.out.cell 0; have q1 := H9.out.cell 1; have qf := H9.out.frozen; have ql := H9.out.lt
                        have k0 := HK7.out.cell 0; have k1 := HK7.out.cell 1; have k2 := HK7.out.cell 2; have kf := HK7.out.frozen; have kl := HK7.out.lt
                        have hy16 : ys.length ≤ 16777216 := by omega
                        have hM7 : M ≤ (w7.alloc (.cells #[.int .i64 a, .int .i64 b, .int .i64 cc] 70)).heap.size := by simp; omega
                        have HOA := Lib.hid (HSY.out.alloc (.cells #[.int .i64 a, .int .i64 b, .int .i64 cc] 70))
                        clear hlM hsz hsz6
                        go_wp2_with (at_builtin; go_must (refine wpl_app el_Link rfl (.tmp 117) (.tmp 119) rfl M _ ys.length _ rfl HOA.out.oa _ 1 [.int .i64 a, .int .i64 b, .int .i64 cc] rfl rfl (heap_alloc_new _ _) (by simp [Value.oneCell']) hy16 hM7 ?_; intro v1 w8 hown1 hg1 hor; obtain ⟨A3, cap3, rfl, _, _, _⟩ := own_slice hown1; have K8 := HOA.out.h8.grown hg1 (own_ne HOA.out.oa HOA.out.h8 (by decide)); have p0 := K8.cell 0; have p1 := K8.cell 1; have pf := K8.frozen; have pl := K8.lt; clear K8; have HOR := Lib.hid (show (Value.slice A3 (ys.length + 1) cap3).ownBlock = (Value.slice A2 ys.length cap2).ownBlock ∨ (Value.slice A3 (ys.length + 1) cap3).ownBlock = some (w7.alloc (.cells #[.int .i64 a, .int .i64 b, .int .i64 cc] 70)).heap.size from hor); have HGG := Lib.hid (show World.grownBy _ w8 (Value.slice A2 ys.length cap2).ownBlock from hg1); have HOWN := Lib.hid hown1; clear hor hg1 hown1))
                        have hA := Lib.hid ((HOA.out.app (l := ⟨a, b, cc⟩) HOWN.out HGG.out HOR.out).symm.more (q' := q + 1106 + (k + 1)) (by omega))
                        have hll : (ys ++ [(⟨a, b, cc⟩ : Lk)]).length ≤ k + 1 := by simp; omega
                        clear HOA HOWN HGG HOR HSY HK7 H9
                        clear k0 k1 k2 kf kl
                        clear q0 q1 qf ql
                        clear p0 p1 pf pl
                        go_roundw
                        case rel => exact ⟨k + 1, xs', ys ++ [⟨a, b, cc⟩], va', .slice A3 (ys.length + 1) cap3, by go_num, by omega, hxl', hll, hA⟩
                        case measure => simp [intOf]; omega
      · obtain rfl : k = ls.length := by omega
        go_upto_if 124 with (first | (go_at_call 45; go_must (refine (d_pickp _ _ g (q + 1106 + ls.length) 16 HST.out.dr.begin (by omega) (by omega)).mono ?_); rintro e w6 ⟨x, rfl, hx0, hx1, hs6, h6⟩; clear hs6; have HST6 := Lib.hid (HST.out.pick h6); clear h6))
        clear q0 q1 qf ql
        clear HST HG
        have hM1 : w.heap.size + 1 < M := by have := HST6.out.bM; omega
        have H9 := Lib.hid HST6.out.h9
        have q0 := H9.out.cell 0; have q1 := H9.out.cell 1; have qf := H9.out.frozen; have ql := H9.out.lt
        go_cut [] (fun w' => ∃ (m lb cb : Nat) (A' : Option Addr) (zz : List Lk) (la ca : Nat) (A1 : Option Addr) (xs : List Lk), m ≤ 9 ∧ n ≤ 8 ∧ Hid (Blk w' w.heap.size 25 #[.int .i64 0, .slice none 0 0]) ∧ Hid (Blk w' (w.heap.size + 1) 25 #[.int .i64 0, .slice none 0 0]) ∧ Hid (Blk w' (M + 1) 25 #[.int .i64 n, .slice A1 la ca]) ∧ Hid (Blk w' (M + 1 + 1 + 1) 25 #[.int .i64 m, .slice A' lb cb]) ∧ Hid (RdL w' A1 la xs) ∧ Hid (New (w.heap.size + 1 + 1) A1) ∧ Hid (RdL w' A' lb zz) ∧ Hid (New (w.heap.size + 1 + 1) A') ∧ Hid (RdI w' Z lz zs) ∧ Hid (0 < lz → ∀ b o, Z = some ⟨b, o, none⟩ → w.heap.size + 1 < b) ∧ Hid (DR w B g (q + 2900) w'))
        case first =>
          obtain ⟨A1, ca, rfl, _, _, _⟩ := own_slice HST6.out.oa
          obtain ⟨A2, cb, rfl, _, _, _⟩ := own_slice HST6.out.ob
          have hbM := HST6.out.bM
          have hgw := HST6.out.dr.glt
          go_wp2_with (first | (go_at_call 29; go_must (refine (d_Spoilt _ _ _ (q + 1106 + ls.length + 1) HST6.out.dr.begin (by omega)).mono ?_); rintro e w7 ⟨m, A', lb, cb', zz, rfl, hm, hA', hnew, hlb, h7⟩; have K9 := h7.blk H9.out (by omega); have p0 := K9.cell 0; have p1 := K9.cell 1; have pf := K9.frozen; have pl := K9.lt; have HK9 := Lib.hid K9; clear K9; have HA7 := Lib.hid hA'; have HN7 := Lib.hid hnew; have HD7 := Lib.hid h7; clear hA' hnew h7))
          · have hgM : g < M := by omega
            have oa7 := HD7.out.own HST6.out.oa hgM
            have ne7 := own_ne oa7 HK9.out (by decide)
            have oa8 := Lib.hid (ownsRow_setCell_other (a := ⟨M + 1 + 1 + 1, 1, none⟩) (ownsRow_setCell_other (a := ⟨M + 1 + 1 + 1, 0, none⟩) oa7 ne7 (.int .i64 m)) ne7 (.slice A' lb cb'))
            have hxx : xs.length ≤ 16777216 := by omega
            have e0 := Lib.hid (((HD7.out.blk HST6.out.h0 hr0).far (p := ⟨M + 1 + 1 + 1, 0, none⟩) (by simp; omega) (.int .i64 m)).far (p := ⟨M + 1 + 1 + 1, 1, none⟩) (by simp; omega) (.slice A' lb cb'))
            have e1 := Lib.hid (((HD7.out.blk HST6.out.h1 hr1).far (p := ⟨M + 1 + 1 + 1, 0, none⟩) (by simp; omega) (.int .i64 m)).far (p := ⟨M + 1 + 1 + 1, 1, none⟩) (by simp; omega) (.slice A' lb cb'))
            have e8 := Lib.hid (((HD7.out.blk HST6.out.h8 (by omega)).far (p := ⟨M + 1 + 1 + 1, 0, none⟩) (by simp) (.int .i64 m)).far (p := ⟨M + 1 + 1 + 1, 1, none⟩) (by simp) (.slice A' lb cb'))
            have e9 : Hid (Blk ((w7.setCell ⟨M + 1 + 1 + 1, 0, none⟩ (.int .i64 m)).setCell ⟨M + 1 + 1 + 1, 1, none⟩ (.slice A' lb cb')) (M + 1 + 1 + 1) 25 #[.int .i64 m, .slice A' lb cb']) := Lib.hid (by simpa using (HK9.out.set_ 0 (.int .i64 m)).set_ 1 (.slice A' lb cb'))
            have ez := Lib.hid (((HST6.out.z.grownP HD7.out.1 (fun h0 b o e e' => by have := HST6.out.zM h0 b o e; injection e' with e'; omega)).setP (p := ⟨M + 1 + 1 + 1, 0, none⟩) (fun h0 b o e => by have := HST6.out.zM h0 b o e; simp; omega) (.int .i64 m)).setP (p := ⟨M + 1 + 1 + 1, 1, none⟩) (fun h0 b o e => by have := HST6.out.zM h0 b o e; simp; omega) (.slice A' lb cb'))
            have ea := Lib.hid ((HA7.out.set_ HN7.out (p := ⟨M + 1 + 1 + 1, 0, none⟩) ql (.int .i64 m)).set_ HN7.out (p := ⟨M + 1 + 1 + 1, 1, none⟩) ql (.slice A' lb cb'))
            have ed := Lib.hid ((((HST6.out.dr.then HD7.out).set_ (a := ⟨M + 1 + 1 + 1, 0, none⟩) (by simp; omega) (.int .i64 m)).set_ (a := ⟨M + 1 + 1 + 1, 1, none⟩) (by simp; omega) (.slice A' lb cb')).mono (q' := q + 2900) (by omega))
            have en := Lib.hid (HN7.out.mono (base' := w.heap.size + 1 + 1) (by omega))
            have ezn : Hid (0 < lz → ∀ b o, Z = some ⟨b, o, none⟩ → w.heap.size + 1 < b) := fun h0 b o e => (HST6.out.zM h0 b o e).1
            have en1 : Hid (New (w.heap.size + 1 + 1) A1) := own_new HST6.out.oa (by omega)
            go_meet
            exact ⟨m, lb, cb', A', zz, xs.length, ca, A1, xs, hm, hn2, e0, e1, e8, e9, RdL.of_own oa8.out hxx, en1, ea, en, ez, ezn, ed⟩
          · go_meet
            exact ⟨n, ys.length, cb, A2, ys, xs.length, ca, A1, xs, by omega, hn2, HST6.out.h0, HST6.out.h1, HST6.out.h8, H9, RdL.of_own HST6.out.oa (by omega), own_new HST6.out.oa (by omega), RdL.of_own HST6.out.ob (by omega), own_new HST6.out.ob (by omega), HST6.out.z, fun h0 b o e => (HST6.out.zM h0 b o e).1, HST6.out.dr.mono (by omega)⟩
        case rest =>
          clear HST6 H9
          clear q0 q1 qf ql
          obtain ⟨m, lb, cb, A', zz, la, ca, A1, xs, hm, hn8, H0, H1, H8, H9, HA, HNA, HA', HNA', HZ, HZN, HD⟩ := hcut
          have q0 := H8.out.cell 0; have q1 := H8.out.cell 1; have qf := H8.out.frozen; have ql := H8.out.lt
          have p0 := H9.out.cell 0; have p1 := H9.out.cell 1; have pf := H9.out.frozen; have pl := H9.out.lt
          have r0 := H0.out.cell 0; have r1 := H0.out.cell 1; have rf := H0.out.frozen; have rl := H0.out.lt
          have s0 := H1.out.cell 0; have s1 := H1.out.cell 1; have sf := H1.out.frozen; have sl := H1.out.lt
          go_wp2_with fail
          refine wp_plan_in (fun w' => Blk w' (M + 1) 25 #[.int .i64 n, .slice A1 la ca] ∧ Blk w' (M + 1 + 1 + 1) 25 #[.int .i64 m, .slice A' lb cb]) 5 [(0, true), (1, true), (2, true), (3, false), (4, false)] (by kernel_rfl) (by kernel_rfl) ⟨H8.out.drew, H9.out.drew⟩ fun hne9 => ?_
          have hx0 : ∀ x : LatP (fun w' => Blk w' (M + 1) 25 #[.int .i64 n, .slice A1 la ca] ∧ Blk w' (M + 1 + 1 + 1) 25 #[.int .i64 m, .slice A' lb cb]), x.now.cell? ⟨M + 1, 0, none⟩ = some (.int .i64 n) := fun x => x.ok.1.cell 0
          have hx1 : ∀ x : LatP (fun w' => Blk w' (M + 1) 25 #[.int .i64 n, .slice A1 la ca] ∧ Blk w' (M + 1 + 1 + 1) 25 #[.int .i64 m, .slice A' lb cb]), x.now.cell? ⟨M + 1, 1, none⟩ = some (.slice A1 la ca) := fun x => x.ok.1.cell 1
          have hx2 : ∀ x : LatP (fun w' => Blk w' (M + 1) 25 #[.int .i64 n, .slice A1 la ca] ∧ Blk w' (M + 1 + 1 + 1) 25 #[.int .i64 m, .slice A' lb cb]), x.now.cell? ⟨M + 1 + 1 + 1, 0, none⟩ = some (.int .i64 m) := fun x => x.ok.2.cell 0
          have hx3 : ∀ x : LatP (fun w' => Blk w' (M + 1) 25 #[.int .i64 n, .slice A1 la ca] ∧ Blk w' (M + 1 + 1 + 1) 25 #[.int .i64 m, .slice A' lb cb]), x.now.cell? ⟨M + 1 + 1 + 1, 1, none⟩ = some (.slice A' lb cb) := fun x => x.ok.2.cell 1
          simp only [picked, List.filterMap_cons, List.filterMap_nil, List.getElem?_cons_zero, List.getElem?_cons_succ, Option.map_some, List.drop_succ_cons, List.drop_zero]
          repeat (first | refine wpPlan_skip rfl ?_ | (refine wpPlan_val rfl rfl (fun K hK => ?_); go_big_quiet_op; refine hK _ ?_; clear hK K))
          try refine wpPlan_nil ?_
          refine wpPlan_eff rfl rfl (fun K hK => ?_); unfold Oper.wp; go_simp
          refine hK _ _ ⟨⟨_, ⟨(H8.out.drew.far (by simp; omega) _).far (by simp; omega) _, (H9.out.drew.far (by simp; omega) _).far (by simp; omega) _⟩⟩, rfl⟩ ?_
          clear hK K
          repeat (first | refine wpPlan_skip rfl ?_ | (refine wpPlan_val rfl rfl (fun K hK => ?_); go_big_quiet_op; refine hK _ ?_; clear hK K))
          try refine wpPlan_nil ?_
          refine wpPlan_eff rfl rfl (fun K hK => ?_); unfold Oper.wp; go_simp
          refine hK _ _ ⟨⟨_, ⟨(((H8.out.drew.far (by simp; omega) _).far (by simp; omega) _).far (by simp; omega) _).far (by simp; omega) _, (((H9.out.drew.far (by simp; omega) _).far (by simp; omega) _).far (by simp; omega) _).far (by simp; omega) _⟩⟩, rfl⟩ ?_
          clear hK K hx0 hx1 hx2 hx3
          repeat (first | refine wpPlan_skip rfl ?_ | (refine wpPlan_val rfl rfl (fun K hK => ?_); go_big_quiet_op; refine hK _ ?_; clear hK K))
          try refine wpPlan_nil ?_
          go_wp2_with fail
          (try simp only [Exit.inBlock, Exit.then])
          refine bodyPost_ret (v := .tuple #[.agg #[.int .i64 n, .slice A1 la ca], .agg #[.int .i64 m, .slice A' lb cb], .slice Z lz cz]) (by simp only [results, Try.results43]; go_simp) rfl ?_
          have hA4 := (((HA.out.drewN 1).set_ HNA.out (p := ⟨w.heap.size, 0, none⟩) (by simp; omega) (.int .i64 n)).set_ HNA.out (p := ⟨w.heap.size, 1, none⟩) (by simp; omega) (.slice A1 la ca)).set_ HNA.out (p := ⟨w.heap.size + 1, 0, none⟩) (by simp) (.int .i64 m)
          have hA5 := hA4.set_ HNA.out (p := ⟨w.heap.size + 1, 1, none⟩) (by simp) (.slice A' lb cb)
          have hB4 := (((HA'.out.drewN 1).set_ HNA'.out (p := ⟨w.heap.size, 0, none⟩) (by simp; omega) (.int .i64 n)).set_ HNA'.out (p := ⟨w.heap.size, 1, none⟩) (by simp; omega) (.slice A1 la ca)).set_ HNA'.out (p := ⟨w.heap.size + 1, 0, none⟩) (by simp) (.int .i64 m)
          have hB5 := hB4.set_ HNA'.out (p := ⟨w.heap.size + 1, 1, none⟩) (by simp) (.slice A' lb cb)
          have hZ4 := (((HZ.out.drewN 1).setP (p := ⟨w.heap.size, 0, none⟩) (fun h0 b o e => by have := HZN.out h0 b o e; simp; omega) (.int .i64 n)).setP (p := ⟨w.heap.size, 1, none⟩) (fun h0 b o e => by have := HZN.out h0 b o e; simp; omega) (.slice A1 la ca)).setP (p := ⟨w.heap.size + 1, 0, none⟩) (fun h0 b o e => by have := HZN.out h0 b o e; simp; omega) (.int .i64 m)
          have hZ5 := hZ4.setP (p := ⟨w.heap.size + 1, 1, none⟩) (fun h0 b o e => by have := HZN.out h0 b o e; simp; omega) (.slice A' lb cb)
          have hD4 := (((HD.out.drewN 1).set_ (a := ⟨w.heap.size, 0, none⟩) (by simp) (.int .i64 n)).set_ (a := ⟨w.heap.size, 1, none⟩) (by simp) (.slice A1 la ca)).set_ (a := ⟨w.heap.size + 1, 0, none⟩) (by simp) (.int .i64 m)
          have hD5 := (hD4.set_ (a := ⟨w.heap.size + 1, 1, none⟩) (by simp) (.slice A' lb cb)).mono (q' := q + 3000) (by omega)
          exact ⟨n, A1, la, ca, xs, m, A', lb, cb, zz, Z, lz, cz, zs, rfl, by omega, hm, hA5, hB5, hZ5, hlz, HCZ.out, HNA.out.mono (by omega), HNA'.out.mono (by omega), fun h0 b o e => by have := HZN.out h0 b o e; omega, hD5⟩
end Go.Proofs.Ytkeihpihphefgaa
