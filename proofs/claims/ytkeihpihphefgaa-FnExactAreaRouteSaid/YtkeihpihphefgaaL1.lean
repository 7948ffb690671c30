/- Contracts: the program's Distances; the laws' own helpers. -/
import Derived.Test.YtkeihpihphefgaaB5
import Derived.Test.YtkeihpihphefgaaB2
import Derived.Test.YtkeihpihphefgaaD3
namespace Go.Proofs.Ytkeihpihphefgaa
open Go.RowKit

/-- A list of numbers in new memory. -/
def IntsRes (w w' : World) (zs : List Int) (e : Ending) : Prop := ∃ A len cap, e = .returned (.slice A len cap) ∧ RdI w' A len zs ∧ Below w.heap.size w w'

def distsV (n : Int) (ls : List Lk) (t : Int) : List Int := if gv n ls && inB t 0 (n - 1) then dists n.toNat ls t.toNat else []

set_option maxHeartbeats 400000 in
theorem i_Distances (n t : Int) (A : Option Addr) (len cap : Nat) (ls : List Lk) (w : World) (h : RdL w A len ls) :
    Calls Try.prog 38 #[.agg #[.int .i64 n, .slice A len cap], .int .i64 t] w fun e w' => IntsRes w w' (distsV n ls t) e := by
  have HR := Lib.hid h; clear h
  rcases cs_bool (gv n ls && inB t 0 (n - 1)) with y0 | y0
  · go_enter Try.func38, Try.ntmps38
    go_wp2_with (first | (go_at_call 33; refine (i_hasNode _ _ _ _ _ ls _ (HR.out.alloc _)).mono ?_; rintro e w2 ⟨rfl, hb2⟩; obtain ⟨hc2, _⟩ := bcell hb2))
    go_ret
    rw [distsV, y0]
    exact ⟨_, _, _, rfl, RdI.none_, ((Below.refl _ _).alloc (Nat.le_refl _) _).trans (hb2.mono (by simp))⟩
  · have hv : GV n ls := by simp only [Bool.and_eq_true] at y0; exact gv_t y0.1
    have ht : 0 ≤ t ∧ t ≤ n - 1 := by simp only [Bool.and_eq_true] at y0; exact inB_t y0.2
    obtain ⟨hn1, hn2, _⟩ := id hv
    obtain ⟨N, rfl⟩ := Int.eq_ofNat_of_zero_le (show 0 ≤ n by omega)
    obtain ⟨F, rfl⟩ := Int.eq_ofNat_of_zero_le ht.1
    have hF : F < N := by omega
    have HV := Lib.hid hv; clear hv ht
    have e0 : distsV N ls F = dists N ls F := by simp [distsV, y0]
    rw [e0]
    clear e0
    go_enter Try.func38, Try.ntmps38
    go_wp2_with (first | (go_at_call 33; refine (i_hasNode _ _ _ _ _ ls _ (HR.out.alloc _)).mono ?_; rintro e w2 ⟨rfl, hb2⟩; obtain ⟨hc2, _⟩ := bcell hb2) | (go_at_call 34; refine (i_distances _ _ _ _ _ ls _ ((HR.out.alloc _).below hb2) HV.out hF).mono ?_; rintro e w3 ⟨D, cD, rfl, hD, hb3⟩))
    go_ret
    exact ⟨_, _, _, rfl, hD, ((Below.refl _ _).alloc (Nat.le_refl _) _).trans ((hb2.mono (by simp)).trans (hb3.mono (by have := hb2.size; simp at this; omega)))⟩
theorem distsV_ok {N F : Nat} {ls : List Lk} (h1 : gv N ls = true) (h2 : F < N) : distsV N ls F = dists N ls F := by
  have : inB (F : Int) 0 (N - 1) = true := inB_mk (by omega)
  simp [distsV, h1, this]

set_option maxHeartbeats 400000 in
theorem l_dist (n a b : Nat) (A : Option Addr) (len cap : Nat) (ls : List Lk) (w : World) (h : RdL w A len ls) (hv : gv n ls = true) (ha : a < n) (hb : b < n) :
    Calls Try.prog 15 #[.agg #[.int .i64 n, .slice A len cap], .int .i64 a, .int .i64 b] w fun e w' => e = .returned (.int .i64 (iz (dists n ls a) b)) ∧ Below w.heap.size w w' := by
  have HR := Lib.hid h; clear h
  have hl : (distsV n ls a).length = n := by rw [distsV_ok hv ha]; exact dists_len _ _ _
  have HV := Lib.hid hv; clear hv
  have HL := Lib.hid hl; clear hl
  go_enter Try.func15, Try.ntmps15
  go_wp2_with (first | (go_at_call 38; refine (i_Distances _ _ _ _ _ ls _ (HR.out.alloc _)).mono ?_; rintro e w2 ⟨D, L, cD, rfl, hD, hb2⟩; have hL := hD.1; have hbL : b < L := (by rw [← hL, HL.out]; exact hb); clear hL; obtain ⟨gd, od, rfl, hgd, rD⟩ := hD.rule (by omega); have r1 := rD b hbL; clear rD))
  go_ret
  rw [distsV_ok HV.out ha]
  exact ⟨rfl, ((Below.refl _ _).alloc (Nat.le_refl _) _).trans (hb2.mono (by simp))⟩

def eqL (xs ys : List Int) : Bool := decide (xs = ys)
theorem eqL_at {xs ys : List Int} {k : Nat} (h : iz xs k ≠ iz ys k) : eqL xs ys = false := decide_eq_false fun e => h (by rw [e])
theorem eqL_len {xs ys : List Int} (h : xs.length ≠ ys.length) : eqL xs ys = false := decide_eq_false fun e => h (by rw [e])
theorem eqL_all {xs ys : List Int} (hl : xs.length = ys.length) (h : ∀ i, i < xs.length → iz xs i = iz ys i) : eqL xs ys = true := by
  refine decide_eq_true (List.ext_getElem? fun i => ?_)
  rcases Nat.lt_or_ge i xs.length with hi | hi
  · rw [iz_get hi, iz_get (by omega), h i hi]
  · rw [List.getElem?_eq_none hi, List.getElem?_eq_none (by omega)]

set_option maxHeartbeats 400000 in
theorem l_sameInts (A : Option Addr) (la ca : Nat) (xs : List Int) (B : Option Addr) (lb cb : Nat) (ys : List Int) (w : World) (h : RdI w A la xs) (hB : RdI w B lb ys) :
    Calls Try.prog 14 #[.slice A la ca, .slice B lb cb] w fun e w' => e = .returned (.bool (eqL xs ys)) ∧ Drawn w w' := by
  have hx := Lib.hid h.1
  have hy := Lib.hid hB.1
  have hm := h.2.1
  have HX := Lib.hid h; clear h
  have HY := Lib.hid hB; clear hB
  by_cases hl : la = lb
  · subst hl
    go_enter Try.func14, Try.ntmps14
    go_wp2
    go_loopw [5] (fun i wr => ∃ k : Nat, k ≤ la ∧ i = .int .i64 k ∧ Drawn w wr ∧ Hid (∀ i, i < k → iz xs i = iz ys i)) (fun i _ => la - (intOf i).toNat)
    case atStart => exact ⟨0, by omega, rfl, Drawn.refl _, fun i hi => by omega⟩
    case round =>
      obtain ⟨k, hk, rfl, ⟨n0, rfl⟩, HOK⟩ := hrel
      by_cases hlt : k < la
      · obtain ⟨b1, o1, rfl, h1, c1⟩ := HX.out.rule (by omega)
        obtain ⟨b2, o2, rfl, h2, c2⟩ := HY.out.rule (by omega)
        have r1 := c1 k hlt
        have r2 := c2 k hlt
        clear c1 c2
        go_wp2_with fail
        rcases cs_bool (iz xs k == iz ys k) with y0 | y0
        all_goals
          go_quiet (fail)
          go_wp2
        · go_ret
          exact ⟨ret_bool (eqL_at (k := k) (by simpa using y0)).symm, by first | exact Drawn.more _ | exact Drawn.two _ _⟩
        · go_roundw
          case rel =>
            refine ⟨k + 1, by omega, by go_num, by first | exact Drawn.more _ | exact Drawn.two _ _, fun i hi => ?_⟩
            by_cases e : i < k
            · exact HOK.out i e
            · obtain rfl : i = k := by omega
              simpa using y0
          case measure => simp [intOf]; omega
      · obtain rfl : k = la := by omega
        go_wp2
        go_ret
        exact ⟨ret_bool (eqL_all (by rw [hx.out, hy.out]) (by rw [hx.out]; exact HOK.out)).symm, Drawn.more _⟩
  · go_enter Try.func14, Try.ntmps14
    go_wp2
    go_ret
    exact ⟨ret_bool (eqL_len (by rw [hx.out, hy.out]; exact hl)).symm, Drawn.refl _⟩
end Go.Proofs.Ytkeihpihphefgaa
