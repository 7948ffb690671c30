/- Draws: border nodes. -/
import Derived.Test.YtkeihpihphefgaaB5
import Derived.Test.YtkeihpihphefgaaD2
namespace Go.Proofs.Ytkeihpihphefgaa
open Go.RowKit

theorem own_slice {w : World} {base : Nat} {E : TypeId} {size n : Nat} {v : Value} {xs : List Value} (h : w.ownsRow base E size v n xs) :
    ∃ A cap, v = .slice A n cap ∧ n ≤ cap ∧ cap ≤ maxLen ∧ (∀ b o s, A = some ⟨b, o, s⟩ → base ≤ b ∧ b < w.heap.size) := by
  rcases h.2 with ⟨rfl, rfl⟩ | ⟨g, cap, cur, rfl, h1, h2, h3, h4, _⟩
  · exact ⟨none, 0, rfl, Nat.le_refl _, Nat.zero_le _, fun _ _ _ e => by cases e⟩
  · refine ⟨some ⟨g, 0, none⟩, cap, rfl, h3, h4, fun b o s e => ?_⟩
    injection e with e
    injection e with e
    subst e
    refine ⟨h1, ?_⟩
    rcases Nat.lt_or_ge g w.heap.size with h | h
    · exact h
    · rw [Array.getElem?_eq_none h] at h2; cases h2
/-- What is read there is new since base. -/
def New (base : Nat) (A : Option Addr) : Prop := ∀ b o, A = some ⟨b, o, none⟩ → base ≤ b

theorem own_rdI {w : World} {base : Nat} {E : TypeId} {n : Nat} {v : Value} {zs : List Int} (h : w.ownsRow base E 1 v n (ints zs)) (hm : n ≤ 16777216) : ∃ A cap, v = .slice A n cap ∧ RdI w A n zs ∧ New base A ∧ n ≤ cap ∧ cap ≤ maxLen := by
  obtain ⟨A, cap, rfl, h1, h2, hn⟩ := own_slice h
  exact ⟨A, cap, rfl, RdI.of_own h hm, fun b o e => (hn b o none e).1, h1, h2⟩
theorem own_rdL {w : World} {base : Nat} {E : TypeId} {n : Nat} {v : Value} {ls : List Lk} (h : w.ownsRow base E 3 v n (lks ls)) (hm : n ≤ 16777216) : ∃ A cap, v = .slice A n cap ∧ RdL w A n ls ∧ New base A := by
  obtain ⟨A, cap, rfl, _, _, hn⟩ := own_slice h
  exact ⟨A, cap, rfl, RdL.of_own h hm, fun b o e => (hn b o none e).1⟩
theorem RdI.none_ {w : World} {A : Option Addr} : RdI w A 0 [] := ⟨rfl, by omega, by simp [ints], fun h => absurd h (by omega)⟩
theorem RdL.none_ {w : World} {A : Option Addr} : RdL w A 0 [] := ⟨rfl, by omega, by simp [lks], fun h => absurd h (by omega)⟩

set_option maxRecDepth 100000 in
set_option maxHeartbeats 1000000 in
theorem d_Borders (w : World) (B g q : Nat) (n : Int) (h : DR w B g q w) (hq : q ≤ 900000) (hn : n ≤ 100) :
    Calls Try.prog 30 #[.pointer (some ⟨g, 0, none⟩), .int .i64 n] w fun e w' => ∃ A len cap zs, e = .returned (.slice A len cap) ∧ RdI w' A len zs ∧ New w.heap.size A ∧ len ≤ 102 ∧ (len ≤ cap ∧ cap ≤ maxLen) ∧ DR w B g (q + 103) w' := by
  have H := Lib.hid h; clear h
  have hgl := H.out.glt
  go_enter Try.func30, Try.ntmps30
  go_wp2_with fail
  go_loopw [5, 6] (fun v i wr => ∃ (k : Nat) (zs : List Int), i = .int .i64 k ∧ k ≤ 100 ∧ zs.length ≤ k ∧ Hid (wr.ownsRow w.heap.size 3 1 v zs.length (ints zs)) ∧ Hid (DR w B g (q + k) wr)) (fun _ i _ => (n - intOf i).toNat)
  case atStart => exact ⟨0, [], rfl, by omega, by simp, Lib.hid (own_made (by simp) (by simp)), H.out.alloc _⟩
  case round =>
    obtain ⟨k, zs, rfl, hk, hlen, HO, HD⟩ := hrel
    by_cases hlt : (k : Int) < n
    · go_wp2_with (first | (go_at_call 45; refine (d_pickp _ _ g (q + k) 4 HD.out.begin (by omega) (by omega)).mono ?_; rintro e w1 ⟨z, rfl, hz0, hz1, hs, h1⟩; have HS := Lib.hid hs; clear hs) | (at_builtin; go_must (refine wpl_app el_int rfl (.tmp 16) (.tmp 18) rfl (w.heap.size) _ zs.length _ rfl ((h1.own HO.out hgl).alloc _) _ 1 [.int .i64 k] rfl rfl (heap_alloc_new _ _) (by simp [Value.oneCell']) (by omega) (by have := HD.out.size; have := h1.size; simp; omega) ?_); intro v1 w2 hown1 hg1 hor))
      · have HO2 := Lib.hid hown1
        have hsz := HD.out.size
        have hsz1 := h1.size
        have HD2 : Hid (DR w B g (q + (k + 1)) w2) := ((HD.out.then h1).alloc _).grown hg1 (fun b e => (HO.out.lt b e).1)
        clear hown1 hg1 hor HO HD h1
        go_wp2_with fail
        go_roundw
        case rel => exact ⟨k + 1, zs ++ [(k : Int)], by go_num, by omega, by simp; omega, by rw [ints_app, List.length_append]; exact HO2, HD2⟩
        case measure => simp [intOf]; omega
      · have HO2 := Lib.hid (h1.own HO.out hgl)
        have HD2 : Hid (DR w B g (q + (k + 1)) w1) := HD.out.then h1
        clear HO HD h1
        go_wp2_with fail
        go_roundw
        case rel => exact ⟨k + 1, zs, by go_num, by omega, by omega, HO2, HD2⟩
        case measure => simp [intOf]; omega
    · obtain ⟨A, cap, rfl, hcap, hmx, hnew⟩ := own_slice HO.out
      clear hnew
      have hsz := HD.out.size
      go_upto_if 22 with (fail)
      go_cut [5] (fun v w' => ∃ zs2 : List Int, zs2.length ≤ 101 ∧ Hid (w'.ownsRow w.heap.size 3 1 v zs2.length (ints zs2)) ∧ Hid (DR w B g (q + 101) w'))
      case first =>
        by_cases h0 : zs.length = 0
        · have hz0 : zs = [] := List.length_eq_zero_iff.1 h0
          have HO0 : Hid (wr.ownsRow w.heap.size 3 1 (.slice A 0 cap) 0 []) := by have := HO.out; rw [hz0] at this; exact this
          clear hz0
          go_wp2_with (first | (go_at_call 45; go_must (refine (d_pick _ _ g (q + k) _ HD.out.begin (by omega)).mono ?_); rintro e w1 ⟨z, rfl, hz0, hz1, hs, h1⟩; have HS := Lib.hid hs; clear hs hz1) | (at_builtin; go_must (refine wpl_app el_int rfl (.tmp 23) (.tmp 28) rfl (w.heap.size) _ 0 _ rfl ((h1.own HO0.out hgl).alloc _) _ 1 [.int .i64 z] rfl rfl (heap_alloc_new _ _) (by simp [Value.oneCell']) (by omega) (by have := h1.size; simp; omega) ?_); intro v1 w2 hown1 hg1 hor))
          all_goals
            have HD2 : Hid (DR w B g (q + (k + 1)) w2) := ((HD.out.then h1).alloc _).grown hg1 (fun b e => (HO0.out.lt b e).1)
            go_wp2_with fail
            go_meet
            exact ⟨[z], by simp, hown1, HD2.out.mono (by omega)⟩
        · go_wp2_with fail
          go_meet
          exact ⟨zs, by omega, HO, HD.out.mono (by omega)⟩
      case rest =>
        clear HO HD hlen hcap hmx hsz
        obtain ⟨zs2, hlen, HO, HD⟩ := hcut
        obtain ⟨A2, cap2, rfl, hcap, hmx, hnew⟩ := own_slice HO.out
        have HNEW : Hid (New w.heap.size A2) := fun b o e => (hnew b o none e).1
        clear hnew
        have hsz := HD.out.size
        have hmx2 : cap2 ≤ 9223372036854775807 := hmx
        go_wp2_with (first | (go_at_call_of 45 (Value.int IntKind.i64 24); go_must (refine (d_pickp _ _ g (q + 101) 24 HD.out.begin (by omega) (by omega)).mono ?_); rintro e w1 ⟨z, rfl, hz0, hz1, hs, h1⟩; have HS := Lib.hid hs; clear hs) | (go_at_call_of 45 (Value.int IntKind.i64 10); go_must (refine (d_pickp _ _ g (q + 102) 10 h1.begin (by omega) (by omega)).mono ?_); rintro e w2 ⟨y, rfl, hy0, hy1, hs, h2⟩; have HS2 := Lib.hid hs; clear hs) | (at_builtin; go_must (refine wpl_app el_int rfl (.tmp 34) (.tmp 38) rfl (w.heap.size) _ zs2.length _ rfl ((h2.own (h1.own HO.out hgl) hgl).alloc _) _ 1 [.int .i64 (y - 1)] rfl rfl (heap_alloc_new _ _) (by simp [Value.oneCell']) (by omega) (by have := h1.size; have := h2.size; simp; omega) ?_); intro v1 w3 hown1 hg1 hor))
        · go_ret
          obtain ⟨A3, cap3, rfl, hr, hn, hq1, hq2⟩ := own_rdI (zs := zs2 ++ [y - 1]) (by rw [ints_app]; exact hown1) (by omega)
          have hu := (((HD.out.then h1).then h2).alloc _).grown hg1 (fun b e => (HO.out.lt b e).1)
          exact ⟨_, _, _, _, rfl, hr, hn, by omega, ⟨hq1, hq2⟩, hu⟩
        · go_ret
          exact ⟨_, _, _, [], rfl, RdI.none_, HNEW.out, by omega, ⟨Nat.zero_le _, hmx⟩, (HD.out.then h1).mono (by omega)⟩
        · go_ret
          exact ⟨_, _, _, zs2, rfl, RdI.of_own (h1.own HO.out hgl) (by omega), HNEW.out, by omega, ⟨hcap, hmx⟩, (HD.out.then h1).mono (by omega)⟩
end Go.Proofs.Ytkeihpihphefgaa
