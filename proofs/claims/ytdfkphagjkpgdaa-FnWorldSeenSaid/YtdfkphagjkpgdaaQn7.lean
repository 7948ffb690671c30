/- Part 7 of the proof: Pc PeC PeF PeG PeH. -/
import Derived.Test.YtdfkphagjkpgdaaQn6
set_option linter.unusedSimpArgs false
set_option linter.unusedVariables false
section
namespace Go.Proofs.Ytdfkphagjkpgdaa
open Go.RowKit
set_option linter.unusedSimpArgs false
set_option linter.unusedVariables false
set_option maxRecDepth 100000

structure Byt (b : List Int) : Prop where
  len : b.length ≤ 2000
  rng : ∀ i, 0 ≤ iz b i ∧ iz b i ≤ 255
theorem at_u8 (zs : List Int) (i : Nat) : at! .u8 zs i = iz zs i := by
  induction zs generalizing i with
  | nil => rfl
  | cons z r ih => cases i with
    | zero => rfl
    | succ i => exact (ih i).trans (by simp [iz])
theorem tmod_rng {a b : Int} (h : 0 ≤ a) (hb : 0 < b) : 0 ≤ Int.tmod a b ∧ Int.tmod a b < b := ⟨Int.tmod_nonneg _ h, Int.tmod_lt_of_pos _ hb⟩
theorem xor_rng {x y : Int} (h : 0 ≤ x) (h1 : x < 1099511627776) (k : 0 ≤ y) (k1 : y < 1099511627776) : 0 ≤ xorK .i64 x y ∧ xorK .i64 x y < 1099511627776 := by
  obtain ⟨a, rfl⟩ := Int.eq_ofNat_of_zero_le h
  obtain ⟨b, rfl⟩ := Int.eq_ofNat_of_zero_le k
  have e : (BitVec.ofInt 64 (a : Int) ^^^ BitVec.ofInt 64 (b : Int)).toNat = a ^^^ b := by
    rw [BitVec.toNat_xor, BitVec.toNat_ofInt, BitVec.toNat_ofInt]
    have e1 : ((a : Int) % ((2 ^ 64 : Nat) : Int)).toNat = a := by omega
    have e2 : ((b : Int) % ((2 ^ 64 : Nat) : Int)).toNat = b := by omega
    rw [e1, e2]
  have hlt : a ^^^ b < 2 ^ 40 := Nat.xor_lt_two_pow (by omega) (by omega)
  unfold xorK
  rw [show IntKind.bits .i64 = 64 from rfl, e, wI (by omega) (by omega)]
  omega
theorem pick_ok {b : List Int} {p n : Int} (hB : Byt b) (h0 : 0 ≤ p) (h1 : p ≤ 1000000000) : ∃ x, sh_spec_l6Rd_pick (n, b, p, ()) = some (x, b, p + 1, ()) ∧ 0 ≤ x ∧ (1 ≤ n → x < n) ∧ (n < 1 → x = 0) := by
  have hl := hB.len
  have e1 : wrap64 (p + 1) = p + 1 := w64 (by omega) (by omega)
  have e2 : wrap64 (p + 1 - 1) = p := by rw [w64 (by omega) (by omega)]; omega
  unfold sh_spec_l6Rd_pick
  simp only [e1, e2, nI_eq]
  clear e1 e2
  by_cases hn : n < 1
  · exact ⟨0, by rw [decide_eq_true hn]; rfl, Int.le_refl _, fun h => by omega, fun _ => rfl⟩
  by_cases hb : b.length = 0
  · exact ⟨0, by simp [hn, hb], Int.le_refl _, fun h => by omega, fun h => by omega⟩
  have hb' : ¬ ((b.length : Nat) : Int) = 0 := by omega
  have hn0 : ¬ n = 0 := by omega
  simp only [decide_eq_false hn, decide_eq_false hb', decide_eq_false hn0, Bool.not_false, cond_true, cond_false]
  by_cases hk : p < b.length
  · have r := hB.rng p.toNat
    have ew : wrap64 (at! .u8 b p.toNat) = iz b p.toNat := by rw [at_u8]; exact w64 (by omega) (by omega)
    have := tmod_rng (a := iz b p.toNat) (b := n) r.1 (by omega)
    refine ⟨_, by rw [decide_eq_true hk, inR_t h0 hk]; rfl, ?_⟩
    rw [ew]
    exact ⟨this.1, fun _ => this.2, fun h => by omega⟩
  · have t1 := tmod_rng (a := p) (b := ((b.length : Nat) : Int)) h0 (by omega)
    have ep : wrap64 (wrap64 (p * 7) + 3) = p * 7 + 3 := by rw [w64 (x := p * 7) (by omega) (by omega)]; exact w64 (by omega) (by omega)
    have t2 := tmod_rng (a := p * 7 + 3) (b := ((b.length : Nat) : Int)) (by omega) (by omega)
    have r1 := hB.rng (Int.tmod p b.length).toNat
    have r2 := hB.rng (Int.tmod (p * 7 + 3) b.length).toNat
    simp only [ep, decide_eq_false hk, inR_t t1.1 t1.2, inR_t t2.1 t2.2, cond_true, cond_false, at_u8]
    generalize iz b (Int.tmod p b.length).toNat = u at *
    generalize iz b (Int.tmod (p * 7 + 3) b.length).toNat = v at *
    have hq : 0 ≤ Int.tdiv p b.length ∧ Int.tdiv p b.length ≤ 1000000000 := by
      rw [Int.tdiv_eq_ediv_of_nonneg h0]
      exact ⟨Int.ediv_nonneg h0 (by omega), Int.le_trans (Int.ediv_le_self _ h0) h1⟩
    generalize Int.tdiv p b.length = q at *
    have ex : wrap64 (wrap64 (wrap64 (wrap64 (wrap64 u * 131) + wrap64 (wrap64 v * 1117)) + wrap64 (p * 29)) + wrap64 (wrap64 q * 53)) = u * 131 + v * 1117 + p * 29 + q * 53 := by
      rw [w64 (x := u) (by omega) (by omega), w64 (x := v) (by omega) (by omega), w64 (x := q) (by omega) (by omega), w64 (x := u * 131) (by omega) (by omega), w64 (x := v * 1117) (by omega) (by omega), w64 (x := p * 29) (by omega) (by omega), w64 (x := q * 53) (by omega) (by omega)]
      rw [w64 (x := u * 131 + v * 1117) (by omega) (by omega), w64 (x := u * 131 + v * 1117 + p * 29) (by omega) (by omega), w64 (by omega) (by omega)]
    simp only [ex]
    clear ex ep
    have hx : 0 ≤ u * 131 + v * 1117 + p * 29 + q * 53 ∧ u * 131 + v * 1117 + p * 29 + q * 53 < 1099511627776 := by omega
    generalize u * 131 + v * 1117 + p * 29 + q * 53 = x at *
    have hd : 0 ≤ Int.tdiv x 64 ∧ Int.tdiv x 64 < 1099511627776 := by
      rw [Int.tdiv_eq_ediv_of_nonneg hx.1]
      omega
    have ed : wrap64 (Int.tdiv x 64) = Int.tdiv x 64 := w64 (by omega) (by omega)
    have hxr := xor_rng hx.1 hx.2 hd.1 hd.2
    have := tmod_rng (a := xorK .i64 x (Int.tdiv x 64)) (b := n) hxr.1 (by omega)
    rw [ed]
    exact ⟨_, rfl, this.1, fun _ => this.2, fun h => by omega⟩
theorem Sat.pick {β : Type} {b : List Int} {p n : Int} {f : Int × List Int × Int × Unit → Option β} {Q : β → Prop} (hB : Byt b) (h0 : 0 ≤ p) (h1 : p ≤ 1000000000) (k : ∀ x, 0 ≤ x → (1 ≤ n → x < n) → (n < 1 → x = 0) → Sat (f (x, b, p + 1, ())) Q) : Sat ((sh_spec_l6Rd_pick (n, b, p, ())).bind f) Q := by
  obtain ⟨x, e, q1, q2, q3⟩ := pick_ok (n := n) hB h0 h1
  rw [e]
  exact k x q1 q2 q3
structure Drw (n a m : Int) (l : List Lk) : Prop where
  pw : l.Pairwise lxl
  ok : ∀ x ∈ l, okL n x
  lt : ∀ x ∈ l, x.a < a ∨ x.a = a ∧ x.b < m
  len : l.length ≤ 14
theorem Drw.skip {n a m : Int} {l : List Lk} (h : Drw n a m l) : Drw n a (m + 1) l := ⟨h.pw, h.ok, fun x hx => by have := h.lt x hx; omega, h.len⟩
theorem Drw.app {n a m c : Int} {l : List Lk} (h : Drw n a m l) (h0 : 0 ≤ a) (h1 : a < m) (h2 : m < n) (hc : 1 ≤ c ∧ c ≤ 20) (hl : l.length < 14) : Drw n a (m + 1) (l ++ [⟨a, m, c⟩]) := by
  refine ⟨?_, fun x hx => ?_, fun x hx => ?_, by simp; omega⟩
  · rw [List.pairwise_append]
    refine ⟨h.pw, by simp, fun x hx y hy => ?_⟩
    obtain rfl := List.mem_singleton.1 hy
    have := h.lt x hx
    unfold lxl
    exact this
  · rcases List.mem_append.1 hx with hx | hx
    · exact h.ok x hx
    · obtain rfl := List.mem_singleton.1 hx
      exact ⟨h0, h1, h2, hc.1, hc.2⟩
  · rcases List.mem_append.1 hx with hx | hx
    · have := h.lt x hx
      omega
    · obtain rfl := List.mem_singleton.1 hx
      dsimp only
      omega
theorem Drw.row {n a m m' : Int} {l : List Lk} (h : Drw n a m l) : Drw n (a + 1) m' l := ⟨h.pw, h.ok, fun x hx => by have := h.lt x hx; omega, h.len⟩
theorem Drw.gv {n a m : Int} {l : List Lk} (h : Drw n a m l) (h1 : 1 ≤ n) (h8 : n ≤ 8) : GV n l := gv_pw.2 ⟨h1, h8, h.len, h.ok, h.pw⟩
theorem cost_ok {x y z : Int} (h1 : 0 ≤ x) (h2 : x < 3) (h3 : 0 ≤ y) (h4 : y < 4) (h5 : 0 ≤ z) (h6 : z < 8) : 1 ≤ wrap64 (wrap64 (1 + x) + wrap64 (wrap64 (Int.tdiv y 3) * z)) ∧ wrap64 (wrap64 (1 + x) + wrap64 (wrap64 (Int.tdiv y 3) * z)) ≤ 20 := by
  rw [Int.tdiv_eq_ediv_of_nonneg h3]
  rcases (show y / 3 = 0 ∨ y / 3 = 1 by omega) with e | e <;> rw [e]
  · rw [w64 (x := 1 + x) (by omega) (by omega), show wrap64 (wrap64 0 * z) = 0 by rw [w64 (x := 0) (by omega) (by omega), Int.zero_mul, w64 (by omega) (by omega)], w64 (by omega) (by omega)]
    omega
  · rw [w64 (x := 1 + x) (by omega) (by omega), show wrap64 (wrap64 1 * z) = z by rw [w64 (x := 1) (by omega) (by omega), Int.one_mul, w64 (by omega) (by omega)], w64 (by omega) (by omega)]
    omega
end Go.Proofs.Ytdfkphagjkpgdaa

namespace Go.Proofs.Ytdfkphagjkpgdaa
open Go.RowKit
set_option linter.unusedSimpArgs false
set_option linter.unusedVariables false
set_option maxRecDepth 100000

set_option maxHeartbeats 2000000 in
theorem d_inner {b : List Int} (hB : Byt b) {d a n p : Int} (ha : 0 ≤ a) (han : a < n) (hn : n ≤ 8) (x5 : Int) (x6 : List Lk) {l : List Lk} (hl : Drw n a (a + 1) l) (h0 : 0 ≤ p) (h1 : p ≤ 100000000) : Sat (lp bo_spec_l91Graph_9 fuel (d, a, wrap64 (a + 1), b, p, x5, x6, n, l, ())) fun r => match r with
      | .inl x => ∃ p' l', x = (d, a, b, p', x5, x6, n, l', ()) ∧ p ≤ p' ∧ p' ≤ p + 5 * 8 ∧ Drw n (a + 1) (a + 2) l'
      | .inr _ => False := by
  refine Sat.count (n - 1 - a).toNat (fun k s => ∃ p' l', s = (d, a, a + 1 + (k : Int), b, p', x5, x6, n, l', ()) ∧ p ≤ p' ∧ p' ≤ p + 5 * k ∧ Drw n a (a + 1 + (k : Int)) l') ?_ (Nat.zero_le _) (fuel_lt (by omega)) ⟨p, l, by rw [w64 (by omega) (by omega)]; simp, by omega, by omega, by simpa using hl⟩
  rintro k s hk ⟨p', l', rfl, hp1, hp2, hD⟩
  have hlen := hD.len
  simp (disch := omega) only [bo_spec_l91Graph_9, w64, nI_eq, List.length_singleton]
  repeat' (first
    | refine Sat.some ?_
    | (refine Sat.pick hB (by omega) (by omega) (fun x _ _ _ => ?_) <;> dsimp only) | (refine Sat.gd (decide_eq_true (by omega)) ?_)
    | (refine Sat.gd (by first | exact inR_t (by omega) (by omega) | (simp (disch := omega) only [w64]; exact inR_t (by omega) (by omega))) ?_)
    | (refine Sat.ite (fun h => ?_) (fun h => ?_) <;> try simp only [decide_eq_true_eq, decide_eq_false_iff_not, Bool.not_eq_true', Bool.not_eq_false', inB_i, inB_j, Bool.and_eq_true, Bool.or_eq_true, Bool.and_eq_false_iff, Bool.or_eq_false_iff, El] at h))
  all_goals try dsimp only
  all_goals first
    | exact ⟨by omega, _, _, by rw [show a + 1 + (k : Int) + 1 = a + 1 + ((k + 1 : Nat) : Int) by omega], by omega, by omega, by rw [show a + 1 + ((k + 1 : Nat) : Int) = a + 1 + (k : Int) + 1 by omega]; exact hD.skip⟩
    | exact ⟨by omega, _, _, by rw [show a + 1 + (k : Int) + 1 = a + 1 + ((k + 1 : Nat) : Int) by omega], by omega, by omega, by rw [show a + 1 + ((k + 1 : Nat) : Int) = a + 1 + (k : Int) + 1 by omega]; exact hD.app ha (by omega) (by omega) (cost_ok (by assumption) (by omega) (by assumption) (by omega) (by assumption) (by omega)) (by omega)⟩
    | exact ⟨_, _, rfl, hp1, by omega, hD.row⟩
theorem d_outer {b : List Int} (hB : Byt b) {d n p : Int} (hn0 : 0 ≤ n) (hn : n ≤ 8) (x5 : Int) (x6 : List Lk) (h0 : 0 ≤ p) (h1 : p ≤ 90000000) : Sat (lp bo_spec_l91Graph_6 fuel (d, 0, b, p, x5, x6, n, [], ())) fun r => match r with
      | .inl x => ∃ p' l', x = (b, p', x5, x6, n, l', ()) ∧ p ≤ p' ∧ p' ≤ p + 40 * 8 ∧ Drw n n (n + 1) l'
      | .inr _ => False := by
  refine Sat.count n.toNat (fun k s => ∃ p' l', s = (d, (k : Int), b, p', x5, x6, n, l', ()) ∧ p ≤ p' ∧ p' ≤ p + 40 * k ∧ Drw n k ((k : Int) + 1) l') ?_ (Nat.zero_le _) (fuel_lt (by omega)) ⟨p, [], rfl, by omega, by omega, ⟨by simp, by simp, by simp, by simp⟩⟩
  rintro k s hk ⟨p', l', rfl, hp1, hp2, hD⟩
  unfold bo_spec_l91Graph_6
  dsimp only
  refine Sat.ite (fun hlt => ?_) (fun hlt => ?_)
  · have hlt := of_decide_eq_true hlt
    refine Sat.bnd (d_inner hB (by omega) hlt hn x5 x6 hD (by omega) (by omega)) ?_
    rintro (r | r) hr
    case inr => exact hr.elim
    obtain ⟨p'', l'', rfl, q1, q2, hD'⟩ := hr
    refine .some ⟨by omega, p'', l'', ?_, by omega, by omega, hD'⟩
    dsimp only
    rw [w64 (by omega) (by omega)]
    rfl
  · have hlt := of_decide_eq_false hlt
    have e : (k : Int) = n := by omega
    rw [e] at hD
    exact .some ⟨p', l', rfl, hp1, by omega, hD⟩
def DG (b : List Int) (p : Int) (r : Int × List Int × Int × List Lk × Unit) : Prop := ∃ n p' ls, r = (n, b, p', ls, ()) ∧ p ≤ p' ∧ p' ≤ p + 400 ∧ GV n ls
theorem gv_one : GV 1 [] := ⟨by omega, by omega, by simp, fun i hi => by simp at hi⟩
theorem d_Graph {b : List Int} (hB : Byt b) {p : Int} (h0 : 0 ≤ p) (h1 : p ≤ 80000000) : Sat (sh_spec_l91Graph (b, p, ())) (DG b p) := by
  unfold sh_spec_l91Graph
  dsimp only
  refine Sat.pick hB (by omega) (by omega) (fun x1 _ q1 _ => ?_)
  dsimp only
  refine Sat.pick hB (by omega) (by omega) (fun x2 _ q2 _ => ?_)
  dsimp only
  refine Sat.ite (fun _ => ?_) (fun _ => ?_)
  · refine Sat.pick hB (by omega) (by omega) (fun x3 _ q3 _ => ?_)
    dsimp only
    refine Sat.pick hB (by omega) (by omega) (fun x4 _ _ _ => ?_)
    dsimp only
    rw [w64 (x := 4 + x3) (by omega) (by omega)]
    refine Sat.bnd (d_outer hB (by omega) (by omega) 0 [] (by omega) (by omega)) ?_
    rintro (r | r) hr
    case inr => exact hr.elim
    obtain ⟨p', l', rfl, q5, q6, hD⟩ := hr
    dsimp only
    refine Sat.pick hB (by omega) (by omega) (fun x5 _ _ _ => ?_)
    dsimp only
    refine Sat.ite (fun _ => ?_) (fun _ => ?_)
    · exact .some ⟨_, _, _, rfl, by omega, by omega, gv_one⟩
    · exact .some ⟨_, _, _, rfl, by omega, by omega, hD.gv (by omega) (by omega)⟩
  · refine Sat.pick hB (by omega) (by omega) (fun x3 _ q3 _ => ?_)
    dsimp only
    rw [w64 (x := 2 + x1) (by omega) (by omega)]
    refine Sat.bnd (d_outer hB (by omega) (by omega) 0 [] (by omega) (by omega)) ?_
    rintro (r | r) hr
    case inr => exact hr.elim
    obtain ⟨p', l', rfl, q5, q6, hD⟩ := hr
    dsimp only
    refine Sat.pick hB (by omega) (by omega) (fun x5 _ _ _ => ?_)
    dsimp only
    refine Sat.ite (fun _ => ?_) (fun _ => ?_)
    · exact .some ⟨_, _, _, rfl, by omega, by omega, gv_one⟩
    · exact .some ⟨_, _, _, rfl, by omega, by omega, hD.gv (by omega) (by omega)⟩
def DS (b : List Int) (p : Int) (r : Int × List Int × Int × List Lk × Unit) : Prop := ∃ n p' ls, r = (n, b, p', ls, ()) ∧ p ≤ p' ∧ p' ≤ p + 500 ∧ 0 ≤ n ∧ n ≤ 9 ∧ ls.length ≤ 15
theorem d_Spoilt {b : List Int} (hB : Byt b) {p : Int} (h0 : 0 ≤ p) (h1 : p ≤ 80000000) : Sat (sh_spec_l91Spoilt (b, p, ())) (DS b p) := by
  unfold sh_spec_l91Spoilt
  dsimp only
  refine Sat.bnd (d_Graph hB h0 h1) ?_
  rintro _ ⟨n, p', ls, rfl, g1, g2, hG⟩
  have h14 := hG.2.2.1
  have hn1 := hG.1
  have hn8 := hG.2.1
  dsimp only
  simp only [nI_eq]
  refine Sat.ite (fun _ => .some ⟨_, _, _, rfl, by omega, by omega, by omega, by omega, by omega⟩) (fun hne => ?_)
  have hne := of_decide_eq_false hne
  refine Sat.pick hB (by omega) (by omega) (fun k hk0 hk _ => ?_)
  dsimp only
  refine Sat.pick hB (by omega) (by omega) (fun x2 _ _ _ => ?_)
  dsimp only
  refine Sat.ite (fun _ => ?_) (fun _ => Sat.ite (fun _ => ?_) (fun _ => Sat.ite (fun _ => ?_) (fun _ => Sat.ite (fun _ => ?_) (fun _ => ?_))))
  · unfold bo_spec_l91Spoilt_7
    dsimp only
    refine Sat.bnd (R := fun r => match r with | .inl x => ∃ p'' l', x = (b, p'', 0, [], n, l', ()) ∧ l'.length = ls.length ∧ p'' = p' + 1 + 1 + 1 | .inr _ => False) ?_ ?_
    · refine Sat.pick hB (by omega) (by omega) (fun x3 _ _ _ => ?_)
      dsimp only
      refine Sat.gd (inR_t (by omega) (by simp; omega)) (Sat.gd (inR_t (by omega) (by omega)) (.some ⟨_, _, rfl, by simp, rfl⟩))
    · rintro (r | r) hr
      case inr => exact hr.elim
      obtain ⟨p'', l', rfl, e1, e2⟩ := hr
      exact .some ⟨n, p'', l', rfl, by omega, by omega, by omega, by omega, by omega⟩
  · refine Sat.pick hB (by omega) (by omega) (fun x3 _ _ _ => ?_)
    dsimp only
    exact Sat.gd (inR_t (by omega) (by omega)) (.some ⟨_, _, _, rfl, by omega, by omega, by omega, by omega, by simp; omega⟩)
  · refine Sat.pick hB (by omega) (by omega) (fun x3 _ _ _ => ?_)
    dsimp only
    exact .some ⟨_, _, _, rfl, by omega, by omega, by omega, by omega, by omega⟩
  · exact Sat.gd (inR_t (by omega) (by omega)) (Sat.gd (decide_eq_true (by simp; omega)) (.some ⟨_, _, _, rfl, by omega, by omega, by omega, by omega, by simp; omega⟩))
  · exact .some ⟨_, _, _, rfl, by omega, by omega, by omega, by omega, by omega⟩
theorem d_Node {b : List Int} (hB : Byt b) {n p : Int} (ls : List Lk) (h0 : 0 ≤ p) (h1 : p ≤ 90000000) : Sat (sh_spec_l91Node (n, ls, b, p, ())) fun r => ∃ z p', r = (z, b, p', ()) ∧ p ≤ p' ∧ p' ≤ p + 2 ∧ -1 ≤ z ∧ z ≤ max 10 n := by
  unfold sh_spec_l91Node
  dsimp only
  refine Sat.pick hB (by omega) (by omega) (fun x1 _ _ _ => ?_)
  dsimp only
  refine Sat.ite (fun _ => ?_) (fun _ => ?_)
  · refine Sat.pick hB (by omega) (by omega) (fun x2 _ q _ => ?_)
    dsimp only
    rw [w64 (by omega) (by omega)]
    exact .some ⟨_, _, rfl, by omega, by omega, by omega, by omega⟩
  · refine Sat.pick hB (by omega) (by omega) (fun x2 _ q _ => ?_)
    dsimp only
    exact .some ⟨_, _, rfl, by omega, by omega, by omega, by omega⟩
end Go.Proofs.Ytdfkphagjkpgdaa

namespace Go.Proofs.Ytdfkphagjkpgdaa
open Go.RowKit
set_option linter.unusedSimpArgs false
set_option linter.unusedVariables false
set_option maxRecDepth 100000

theorem byt_open {c : List Int} (h : ∀ z ∈ c, 0 ≤ z ∧ z < 256) (hl : Fits c) : ∃ b, sh_spec_l6Open (c, ()) = some (b, 0, ()) ∧ Byt b := by
  unfold sh_spec_l6Open
  dsimp only
  have rng : ∀ l : List Int, (∀ z ∈ l, 0 ≤ z ∧ z < 256) → ∀ i, 0 ≤ iz l i ∧ iz l i ≤ 255 := fun l hl i => by
    rcases Nat.lt_or_ge i l.length with hi | hi
    · have := hl (iz l i) (List.mem_of_getElem? (iz_get hi))
      omega
    · unfold iz
      rw [List.getD, List.getElem?_eq_none hi]
      simp
  by_cases h2 : c.length ≤ 2000
  · refine ⟨c, ?_, h2, rng c h⟩
    rw [nI_eq, decide_eq_false (show ¬ (2000 : Int) < c.length by omega)]
    rfl
  · refine ⟨c.take 2000, ?_, by simp; omega, rng _ fun z hz => h z (List.mem_of_mem_take hz)⟩
    rw [nI_eq, decide_eq_true (show (2000 : Int) < c.length by omega), bnd2_t (by omega) (by omega) (by omega)]
    rfl
def Cod (c : List Int) : Prop := (∀ z ∈ c, 0 ≤ z ∧ z < 256) ∧ Fits c
end Go.Proofs.Ytdfkphagjkpgdaa
end
section
namespace Go.Proofs.Ytdfkphagjkpgdaa
open Go.RowKit
set_option linter.unusedSimpArgs false
set_option linter.unusedVariables false
set_option maxRecDepth 100000

theorem cod_ofW {c : List Int} (hz : ∀ z ∈ c, 0 ≤ z ∧ z < 256) (h : decide ((1048576 : Int) < nI c.length) = false) : Cod c := ⟨hz, by have := of_decide_eq_false h; rw [nI_eq] at this; unfold Fits; omega⟩
set_option maxHeartbeats 1000000 in
theorem d_Event {b : List Int} (hB : Byt b) (w : Wd) {p : Int} (h0 : 0 ≤ p) (h1 : p ≤ 90000000) : Sat (sh_spec_l92Event (w.n, w.ls, w.up, w.sq, w.db, w.net, b, p, ())) fun r => ∃ k a p', r = (k, a, b, p', ()) ∧ p ≤ p' ∧ p' ≤ p + 6 := by
  unfold sh_spec_l92Event
  dsimp only
  refine Sat.pick hB (by omega) (by omega) (fun x1 _ _ _ => ?_)
  dsimp only
  refine Sat.pick hB (by omega) (by omega) (fun x2 _ _ _ => ?_)
  dsimp only
  refine Sat.pick hB (by omega) (by omega) (fun x3 _ _ _ => ?_)
  dsimp only
  repeat' first
    | exact .some ⟨_, _, _, rfl, by omega, by omega⟩
    | (refine Sat.pick hB (by omega) (by omega) (fun x _ _ _ => ?_); dsimp only)
    | (refine Sat.ite (fun _ => ?_) (fun _ => ?_))
theorem d_World {b : List Int} (hB : Byt b) {p : Int} (h0 : 0 ≤ p) (h1 : p ≤ 70000000) : Sat (sh_spec_l92World (b, p, ())) fun r => ∃ (W : Wd) (p' : Int), r = (W.n, W.ls, W.up, W.sq, W.db, W.net, b, p', ()) ∧ p ≤ p' ∧ p' ≤ p + 1000 ∧ WV W Nob := by
  unfold sh_spec_l92World
  dsimp only
  refine Sat.bnd (d_Graph hB h0 (by omega)) ?_
  rintro _ ⟨n, p1, ls, rfl, u1, u2, g⟩
  dsimp only
  have h14 := g.2.2.1
  refine sov (e_sWorldNew n ls (show Fits ls by unfold Fits; omega)) ?_
  have hg : gv n ls = true := decide_eq_true g
  have v := new_okI g
  dsimp only [wk7]
  unfold newV
  rw [if_pos hg]
  refine Sat.pick hB (by omega) (by omega) (fun x q0 q1 _ => ?_)
  have q1 := q1 (by omega)
  dsimp only
  refine Sat.bnd (R := fun r => match r with | .inl x => ∃ (W : Wd) (p' : Int), x = (b, p', 0, [], [], [], [], [], wt W) ∧ p1 + 1 ≤ p' ∧ p' ≤ p1 + 400 ∧ WV W Nob | .inr _ => False) ?_ ?_
  · refine Sat.count x.toNat (fun k t => ∃ (W : Wd) (p' : Int), t = (x, (k : Int), b, p', 0, [], [], [], [], [], wt W) ∧ p1 + 1 ≤ p' ∧ p' ≤ p1 + 1 + 6 * k ∧ WV W Nob) ?_ (Nat.zero_le _) (fuel_lt (by omega)) ⟨newW n ls, p1 + 1, rfl, by omega, by omega, v⟩
    rintro k t hk ⟨W, p', rfl, g1, g2, hW⟩
    unfold bo_spec_l92World_4
    dsimp only [wt]
    refine Sat.ite (fun hc => ?_) (fun hc => .some ⟨W, p', rfl, by omega, by omega, hW⟩)
    have hc := of_decide_eq_true hc
    refine Sat.bnd (d_Event hB W (by omega) (by omega)) ?_
    rintro _ ⟨kd, a, p2, rfl, u3, u4⟩
    dsimp only
    simp (disch := omega) only [w64]
    exact sov (e_l51Do hW kd a) (.some ⟨by omega, doW W kd a, p2, rfl, by omega, by omega, do_ok hW kd a⟩)
  · rintro (r | r) hr
    case inr => exact hr.elim
    obtain ⟨W, p', rfl, g1, g2, hW⟩ := hr
    exact .some ⟨W, p', rfl, by omega, by omega, hW⟩
theorem d_Lsa {b : List Int} (hB : Byt b) {p : Int} (h0 : 0 ≤ p) (h1 : p ≤ 90000000) : Sat (sh_spec_l91Lsa (b, p, ())) fun r => ∃ (o s p' : Int) (es : List En), r = (o, s, b, p', es, ()) ∧ p ≤ p' ∧ p' ≤ p + 30 ∧ es.length ≤ 8 := by
  unfold sh_spec_l91Lsa
  dsimp only
  refine Sat.pick hB (by omega) (by omega) (fun x1 _ _ _ => ?_)
  dsimp only
  refine Sat.pick hB (by omega) (by omega) (fun x2 _ _ _ => ?_)
  dsimp only
  refine Sat.bnd (R := fun r => match r with | .inl x => ∃ (p' o s : Int) (es : List En), x = (b, p', 0, 0, [], o, s, es, ()) ∧ p ≤ p' ∧ p' ≤ p + 20 ∧ es.length ≤ 6 | .inr _ => False) ?_ ?_
  · refine Sat.count 6 (fun k t => ∃ (p' o s : Int) (es : List En), t = ((k : Int), b, p', 0, 0, [], o, s, es, ()) ∧ p ≤ p' ∧ p' ≤ p + 2 + 2 * k ∧ es.length ≤ k) ?_ (Nat.zero_le _) (fuel_lt (by omega)) ⟨_, _, _, [], rfl, by omega, by omega, by simp⟩
    rintro k t hk ⟨p', o, s, es, rfl, g1, g2, g3⟩
    unfold bo_spec_l91Lsa_3
    dsimp only
    simp (disch := omega) only [w64, List.length_singleton]
    refine Sat.ite (fun hc => ?_) (fun hc => .some ⟨p', o, s, es, rfl, by omega, by omega, by omega⟩)
    have hc := of_decide_eq_true hc
    repeat' first
      | exact .some ⟨by omega, _, _, _, _, rfl, by omega, by omega, by (try simp only [List.length_append, List.length_singleton]); omega⟩
      | (refine Sat.pick hB (by omega) (by omega) (fun x _ _ _ => ?_); dsimp only)
      | (refine Sat.gd (decide_eq_true (by omega)) ?_)
      | (refine Sat.ite (fun _ => ?_) (fun _ => ?_))
  · rintro (r | r) hr
    case inr => exact hr.elim
    obtain ⟨p', o, s, es, rfl, g1, g2, g3⟩ := hr
    dsimp only
    simp only [List.length_singleton]
    refine Sat.pick hB (by omega) (by omega) (fun x _ _ _ => ?_)
    dsimp only
    refine Sat.ite (fun _ => ?_) (fun _ => ?_)
    · refine Sat.pick hB (by omega) (by omega) (fun y y0 y1 _ => ?_)
      have y1 := y1 (by omega)
      dsimp only
      exact Sat.gd (inR_t (by omega) (by simp; omega)) (.some ⟨_, _, _, _, rfl, by omega, by omega, by omega⟩)
    repeat' first
      | exact .some ⟨_, _, _, _, rfl, by omega, by omega, by (try simp only [List.length_append, List.length_singleton]); omega⟩
      | (refine Sat.pick hB (by omega) (by omega) (fun x _ _ _ => ?_); dsimp only)
      | (refine Sat.gd (decide_eq_true (by omega)) ?_)
      | (refine Sat.ite (fun _ => ?_) (fun _ => ?_))
theorem DbPut_sm (db : List Ls) (l : Ls) (h : SmD db) (hl : Sm l.e) (hn : db.length ≤ 1000) : Sat (sh_spec_DbPut (db, l.o, l.s, l.e, ())) fun r => SmD r.2.1 ∧ r.2.1.length ≤ db.length + 1 := by
  rw [e_DbPut db l h hl]
  refine .some ?_
  split
  · exact h.put hl (by omega)
  · exact ⟨⟨by unfold Sm; simp, fun l hl => by simp at hl⟩, by simp⟩
theorem d_Db {b : List Int} (hB : Byt b) {p : Int} (h0 : 0 ≤ p) (h1 : p ≤ 80000000) : Sat (sh_spec_l91Db (b, p, ())) fun r => ∃ (p' : Int) (d : List Ls), r = (b, p', d, ()) ∧ p ≤ p' ∧ p' ≤ p + 400 ∧ SmD d := by
  unfold sh_spec_l91Db
  dsimp only
  refine Sat.pick hB (by omega) (by omega) (fun x x0 x1 _ => ?_)
  have x1 := x1 (by omega)
  dsimp only
  refine Sat.bnd (R := fun r => match r with | .inl y => ∃ (p' : Int) (d : List Ls), y = (b, p', d, ()) ∧ p ≤ p' ∧ p' ≤ p + 300 ∧ SmD d ∧ d.length ≤ 8 | .inr _ => False) ?_ ?_
  · refine Sat.count x.toNat (fun k t => ∃ (p' : Int) (d : List Ls), t = (x, (k : Int), b, p', d, ()) ∧ p ≤ p' ∧ p' ≤ p + 1 + 30 * k ∧ SmD d ∧ d.length ≤ k) ?_ (Nat.zero_le _) (fuel_lt (by omega)) ⟨_, [], rfl, by omega, by omega, ⟨by unfold Sm; simp, fun l hl => by simp at hl⟩, by simp⟩
    rintro k t hk ⟨p', d, rfl, g1, g2, g3, g4⟩
    unfold bo_spec_l91Db_4
    dsimp only
    simp (disch := omega) only [w64]
    refine Sat.ite (fun hc => ?_) (fun hc => .some ⟨p', d, rfl, by omega, by omega, g3, by omega⟩)
    have hc := of_decide_eq_true hc
    refine Sat.bnd (d_Lsa hB (by omega) (by omega)) ?_
    rintro _ ⟨o, s, p2, es, rfl, u1, u2, u3⟩
    dsimp only
    refine Sat.bnd (DbPut_sm d ⟨o, s, es⟩ g3 (by unfold Sm; dsimp only; omega) (by omega)) ?_
    rintro r ⟨r1, r2⟩
    refine Sat.ite (fun _ => .some ⟨by omega, _, _, rfl, by omega, by omega, r1, by omega⟩) (fun _ => .some ⟨by omega, _, _, rfl, by omega, by omega, g3, by omega⟩)
  · rintro (r | r) hr
    case inr => exact hr.elim
    obtain ⟨p', d, rfl, g1, g2, g3, g4⟩ := hr
    dsimp only
    refine Sat.pick hB (by omega) (by omega) (fun y _ _ _ => ?_)
    dsimp only
    refine Sat.ite (fun _ => ?_) (fun _ => .some ⟨_, _, rfl, by omega, by omega, g3⟩)
    refine Sat.bnd (d_Lsa hB (by omega) (by omega)) ?_
    rintro _ ⟨o, s, p2, es, rfl, u1, u2, u3⟩
    dsimp only
    refine Sat.gd (decide_eq_true (by simp only [List.length_singleton]; omega)) (.some ⟨_, _, rfl, by omega, by omega, ?_⟩)
    refine ⟨by unfold Sm; simp only [List.length_append, List.length_singleton]; omega, fun l hl => ?_⟩
    rcases List.mem_append.1 hl with hl | hl
    · exact g3.2 l hl
    · obtain rfl := List.mem_singleton.1 hl
      unfold Sm; dsimp only; omega
theorem len_set {α : Type} {l : List α} {i n : Nat} {a : α} (h : l.length ≤ n) : (l.set i a).length ≤ n := by rw [List.length_set]; exact h
theorem len_app {α : Type} {l : List α} {n : Nat} {a : α} (h : l.length + 1 ≤ n) : (l ++ [a]).length ≤ n := by rw [List.length_append, List.length_singleton]; exact h
theorem SmW.ls' {w : Wd} (h : SmW w) (n : Int) {ls : List Lk} (hl : ls.length ≤ 1000) : SmW { w with n := n, ls := ls } := ⟨hl, h.up, h.sq, h.db, h.net, h.dbs, h.pks⟩
theorem SmW.up' {w : Wd} (h : SmW w) {up : List Bool} (hl : up.length ≤ 1000) : SmW { w with up := up } := ⟨h.ls, hl, h.sq, h.db, h.net, h.dbs, h.pks⟩
theorem SmW.sq' {w : Wd} (h : SmW w) {sq : List Int} (hl : sq.length ≤ 1000) : SmW { w with sq := sq } := ⟨h.ls, h.up, hl, h.db, h.net, h.dbs, h.pks⟩
theorem SmW.db' {w : Wd} (h : SmW w) {i : Nat} {d : List Ls} (hd : SmD d) : SmW { w with db := w.db.set i d } := by
  refine ⟨h.ls, h.up, h.sq, by show (w.db.set i d).length ≤ 1000; rw [List.length_set]; exact h.db, h.net, fun j hj => ?_, h.pks⟩
  have hj : j < w.db.length := by simpa using hj
  show SmD (dbx (w.db.set i d) j)
  rcases Nat.lt_or_ge i w.db.length with hi | hi
  · rw [dbx_set hi]
    split
    · exact hd
    · exact h.dbs j hj
  · rw [List.set_eq_of_length_le hi]
    exact h.dbs j hj
theorem SmW.net' {w : Wd} (h : SmW w) (hn : w.net.length ≤ 100) {t : Int} {l : Ls} (hl : Sm l.e) : SmW { w with net := w.net ++ [⟨t, l⟩] } := by
  refine ⟨h.ls, h.up, h.sq, h.db, by show (w.net ++ [_]).length ≤ 1000; rw [List.length_append, List.length_singleton]; omega, h.dbs, fun j hj => ?_⟩
  have hj : j < w.net.length + 1 := by simpa using hj
  show Sm (pkx (w.net ++ [_]) j).p.e
  rcases Nat.lt_or_ge j w.net.length with hi | hi
  · have : pkx (w.net ++ [⟨t, l⟩]) j = pkx w.net j := by unfold pkx; simp [List.getD, List.getElem?_append_left hi]
    rw [this]; exact h.pks j hi
  · obtain rfl : j = w.net.length := by omega
    have : pkx (w.net ++ [⟨t, l⟩]) w.net.length = ⟨t, l⟩ := by unfold pkx; simp [List.getD]
    rw [this]; exact hl
set_option maxHeartbeats 1000000 in
theorem d_Wrong {b : List Int} (hB : Byt b) {p : Int} (h0 : 0 ≤ p) (h1 : p ≤ 60000000) : Sat (sh_spec_l92Wrong (b, p, ())) fun r => ∃ (W : Wd) (p' : Int), r = (W.n, b, p', W.ls, W.up, W.sq, W.db, W.net, ()) ∧ SmW W ∧ p ≤ p' ∧ p' ≤ p + 5000 := by
  unfold sh_spec_l92Wrong
  dsimp only
  refine Sat.bnd (d_World hB h0 (by omega)) ?_
  rintro _ ⟨W, p1, rfl, u1, u2, v⟩
  dsimp only
  have hS := v.sm
  have hnn := v.nn
  have hsq := v.sq
  have hdb := v.db
  have hnet := v.net
  refine sov (e_l51Copy hS) ?_
  dsimp only
  refine Sat.pick hB (by omega) (by omega) (fun nd n0 n1 _ => ?_)
  have n1 := n1 (by omega)
  dsimp only
  refine Sat.pick hB (by omega) (by omega) (fun y _ _ _ => ?_)
  dsimp only
  refine Sat.ite (fun _ => ?_) (fun _ => ?_)
  · refine Sat.bnd (d_Spoilt hB (by omega) (by omega)) ?_
    rintro _ ⟨n, p2, ls, rfl, g1, g2, g3, g4, g5⟩
    exact .some ⟨{ W with n := n, ls := ls }, p2, rfl, hS.ls' n (by omega), by omega, by omega⟩
  refine Sat.ite (fun _ => ?_) (fun _ => ?_)
  · refine Sat.ite (fun hu => ?_) (fun _ => .some ⟨W, _, rfl, hS, by omega, by omega⟩)
    rw [nI_eq] at hu
    have hu := of_decide_eq_true hu
    simp only [nI_eq]
    refine Sat.pick hB (by omega) (by omega) (fun z z0 z1 _ => ?_)
    have z1 := z1 (by omega)
    dsimp only
    exact Sat.gd (inR_t (by omega) (by omega)) (Sat.gd (inR_t (by omega) (by omega)) (.some ⟨{ W with up := _ }, _, rfl, hS.up' (len_set hS.up), by omega, by omega⟩))
  refine Sat.ite (fun _ => ?_) (fun _ => ?_)
  · refine Sat.pick hB (by omega) (by omega) (fun z z0 z1 _ => ?_)
    dsimp only
    exact Sat.gd (inR_t (by omega) (by omega)) (.some ⟨{ W with sq := _ }, _, rfl, hS.sq' (len_set hS.sq), by omega, by omega⟩)
  refine Sat.ite (fun _ => ?_) (fun _ => ?_)
  · refine Sat.bnd (d_Db hB (by omega) (by omega)) ?_
    rintro _ ⟨p2, d, rfl, g1, g2, g3⟩
    dsimp only
    exact Sat.gd (inR_t (by omega) (by omega)) (.some ⟨{ W with db := _ }, _, rfl, hS.db' g3, by omega, by omega⟩)
  refine Sat.ite (fun _ => ?_) (fun _ => ?_)
  · refine Sat.pick hB (by omega) (by omega) (fun z z0 z1 _ => ?_)
    dsimp only
    refine Sat.bnd (d_Lsa hB (by omega) (by omega)) ?_
    rintro _ ⟨o, s, p2, es, rfl, g1, g2, g3⟩
    dsimp only
    exact Sat.gd (decide_eq_true (by simp only [List.length_singleton]; omega)) (.some ⟨{ W with net := _ }, _, rfl, hS.net' (by omega) (by unfold Sm; dsimp only; omega), by omega, by omega⟩)
  refine Sat.ite (fun _ => ?_) (fun _ => ?_)
  · simp only [at_db]
    refine Sat.gd (inR_t (by omega) (by omega)) (Sat.ite (fun hd => ?_) (fun _ => .some ⟨W, _, rfl, hS, by omega, by omega⟩))
    rw [nI_eq] at hd
    have hd := of_decide_eq_true hd
    have hi : nd.toNat < W.db.length := by omega
    have hs := hS.dbs nd.toNat hi
    refine Sat.gd (inR_t (by omega) (by omega)) (Sat.gd (bnd_t (by omega) (by omega) (by omega)) (Sat.gd (inR_t (by omega) (by omega)) (.some ⟨{ W with db := _ }, _, rfl, hS.db' ⟨?_, fun l hl => hs.2 l (List.mem_of_mem_drop (List.mem_of_mem_take hl))⟩, by omega, by omega⟩)))
    have := hs.1
    unfold Sm at this ⊢
    rw [List.length_take, List.length_drop]
    omega
  refine Sat.ite (fun _ => ?_) (fun _ => .some ⟨W, _, rfl, hS, by omega, by omega⟩)
  have := hS.up
  have hup := v.up
  have h14 := v.lsl
  exact Sat.gd (decide_eq_true (by simp only [List.length_singleton]; omega)) (.some ⟨{ W with up := _ }, _, rfl, hS.up' (len_app (by omega)), by omega, by omega⟩)
theorem d_WorldTruth {c : List Int} (hc : Cod c) : Sat (sh_spec_DrawWorldTruth (c, ())) fun r => ∃ W : Wd, r = wt W ∧ SmW W := by
  unfold sh_spec_DrawWorldTruth
  obtain ⟨b, e, hB⟩ := byt_open hc.1 hc.2
  refine sov e ?_
  dsimp only
  refine Sat.pick hB (by omega) (by omega) (fun x _ _ _ => ?_)
  dsimp only
  refine Sat.ite (fun _ => ?_) (fun _ => ?_)
  · refine Sat.bnd (d_Wrong hB (by omega) (by omega)) ?_
    rintro _ ⟨W, p', rfl, hW, _, _⟩
    exact .some ⟨W, rfl, hW⟩
  · refine Sat.bnd (d_World hB (by omega) (by omega)) ?_
    rintro _ ⟨W, p', rfl, _, _, hW⟩
    exact .some ⟨W, rfl, hW.sm⟩
end Go.Proofs.Ytdfkphagjkpgdaa
end
section
namespace Go.Proofs.Ytdfkphagjkpgdaa
open Go.RowKit
set_option linter.unusedSimpArgs false
set_option linter.unusedVariables false
set_option maxRecDepth 100000

section
variable {w : Wd}
def seenL (w : Wd) (i : Nat) : List Lk := grid (dbF (dbx w.db i)) w.n.toNat
theorem e_seen (h : WV w Nob) {i : Nat} (hi : i < w.db.length) : sh_impl_World_seen (w.n, w.ls, w.up, w.sq, w.db, w.net, (i : Int), ()) = some (w.n, seenL w i, ()) := by
  have hd := h.ok i hi
  have hdb := h.db
  have h8 := h.nn
  obtain ⟨N, hN⟩ := Int.eq_ofNat_of_zero_le (show 0 ≤ w.n by omega)
  have hg := seen_gv h hN (i := i) (by omega)
  have hok : dbOk w.n (dbx w.db i) = true := by
    unfold dbOk
    rw [inB_mk (by omega), show dbv (dbx w.db i) = true from decide_eq_true hd, decide_eq_true (by rw [hN, Int.toNat_natCast]; exact hg.2.2.1)]
    rfl
  have hlen := hd.len
  unfold sh_impl_World_seen bo_impl_World_seen_1
  simp only [toN, at_db]
  refine Sat.out (sov (Sat.out (Sat.gd (inR_t (by omega) (by omega)) (sov (e_DbGraph w.n (dbx w.db i) (by omega) hd.sm.fe) (.some rfl)))) ?_)
  rw [hok]
  exact .some rfl
theorem e_WorldSeen (h : WV w Nob) {i : Nat} (hi : i < w.db.length) : sh_impl_WorldSeen (w.n, w.ls, w.up, w.sq, w.db, w.net, (i : Int), ()) = some (w.n, seenL w i, ()) := by
  have hdb := h.db
  have h8 := h.nn
  unfold sh_impl_WorldSeen
  refine Sat.out (sov (e_WorldValid h.sm) ?_)
  dsimp only
  rw [wv_t.2 h]
  refine Sat.no rfl ?_
  simp (disch := omega) only [w64]
  refine sov (e_within _ _ _) ?_
  dsimp only
  rw [inB_mk (by omega)]
  exact Sat.no rfl (sov (e_seen h hi) (.some rfl))
theorem e_WorldTruth (h : WV w Nob) : sh_impl_WorldTruth (w.n, w.ls, w.up, w.sq, w.db, w.net, ()) = some (w.n, tru w.ls w.up, ()) := by
  have h14 := h.lsl
  unfold sh_impl_WorldTruth
  refine Sat.out (sov (e_WorldValid h.sm) ?_)
  dsimp only
  rw [wv_t.2 h]
  exact Sat.no rfl (sov (e_truth w h.up (by omega)) (.some rfl))
end
end Go.Proofs.Ytdfkphagjkpgdaa
end
section
namespace Go.Proofs.Ytdfkphagjkpgdaa
open Go.RowKit
set_option linter.unusedSimpArgs false
set_option linter.unusedVariables false
set_option maxRecDepth 100000

section
variable {w : Wd}
theorem lk_inj {n : Int} {ls : List Lk} (g : GV n ls) {i j : Nat} (hi : i < ls.length) (hj : j < ls.length) (e : lk ls i = lk ls j) : i = j := by
  have key : ∀ {a b : Nat}, a < ls.length → b < ls.length → a < b → lk ls a = lk ls b → False := fun {a b} ha hb hab q => by
    have := List.pairwise_iff_getElem.1 g.pw a b ha hb hab
    rw [← hit_lk ha, ← hit_lk hb, q] at this
    unfold lxl at this
    omega
  rcases Nat.lt_trichotomy i j with h | h | h
  · exact (key hi hj h e).elim
  · exact h
  · exact (key hj hi h e.symm).elim
theorem tru_link (h : WV w Nob) {i : Nat} (hi : i < w.ls.length) : (0 ≤ lof (tru w.ls w.up) (lk w.ls i).a (lk w.ls i).b ↔ w.up.getD i false = true) ∧ (0 ≤ lof (tru w.ls w.up) (lk w.ls i).a (lk w.ls i).b → lof (tru w.ls w.up) (lk w.ls i).a (lk w.ls i).b < (tru w.ls w.up).length ∧ lk (tru w.ls w.up) (lof (tru w.ls w.up) (lk w.ls i).a (lk w.ls i).b).toNat = lk w.ls i) := by
  have g := h.g
  have gt := tru_gv g w.up
  have ho := g.ok (lk_mem hi)
  unfold okL at ho
  have e1 : min (lk w.ls i).a (lk w.ls i).b = (lk w.ls i).a := by omega
  have e2 : max (lk w.ls i).a (lk w.ls i).b = (lk w.ls i).b := by omega
  have back : ∀ c, lc (tru w.ls w.up) (lk w.ls i).a (lk w.ls i).b = some c → c = (lk w.ls i).c ∧ w.up.getD i false = true := fun c hc => by
    have hm := (lc_iff gt.pw).1 hc
    rw [e1, e2] at hm
    obtain ⟨j, hj, hu, e⟩ := tru_mem.1 hm
    have h1 : lc w.ls (lk w.ls i).a (lk w.ls i).b = some c := (lc_iff g.pw).2 (by rw [e1, e2, e]; exact lk_mem hj)
    have h2 : lc w.ls (lk w.ls i).a (lk w.ls i).b = some (lk w.ls i).c := (lc_iff g.pw).2 (by rw [e1, e2]; exact lk_mem hi)
    rw [h1] at h2
    injection h2 with h2
    subst h2
    have : i = j := lk_inj g hi hj e
    rw [this]
    exact ⟨by rw [← this], hu⟩
  have some_of : 0 ≤ lof (tru w.ls w.up) (lk w.ls i).a (lk w.ls i).b → ∃ c, lc (tru w.ls w.up) (lk w.ls i).a (lk w.ls i).b = some c := fun hh => by
    have : (lc (tru w.ls w.up) (lk w.ls i).a (lk w.ls i).b).isSome = true := by rw [lc_lof]; exact decide_eq_true hh
    exact Option.isSome_iff_exists.1 this
  refine ⟨⟨fun hh => ?_, fun hu => ?_⟩, fun hh => ?_⟩
  · obtain ⟨c, hc⟩ := some_of hh
    exact (back c hc).2
  · have : lc (tru w.ls w.up) (lk w.ls i).a (lk w.ls i).b = some (lk w.ls i).c := (lc_iff gt.pw).2 (by rw [e1, e2]; exact tru_mem.2 ⟨i, hi, hu, rfl⟩)
    exact (lc_at this).1
  · obtain ⟨c, hc⟩ := some_of hh
    obtain ⟨rfl, _⟩ := back c hc
    obtain ⟨_, a2, a3⟩ := lc_at hc
    rw [e1, e2] at a3
    exact ⟨a2, a3⟩
theorem seen_link (h : WV w Nob) {i : Nat} (hi : i < w.db.length) {l : Lk} (hl : l ∈ seenL w i) : 0 ≤ lof w.ls l.a l.b ∧ lof w.ls l.a l.b < w.ls.length ∧ lk w.ls (lof w.ls l.a l.b).toNat = l := by
  have hdb := h.db
  have h8 := h.nn
  obtain ⟨N, hN⟩ := Int.eq_ofNat_of_zero_le (show 0 ≤ w.n by omega)
  have g := seen_gv h hN (i := i) (by omega)
  unfold seenL at hl
  rw [hN, Int.toNat_natCast] at hl
  have ho := g.ok hl
  unfold okL at ho
  have hc := lc_mem g.pw hl (by omega)
  obtain ⟨a, ha⟩ := Int.eq_ofNat_of_zero_le (show 0 ≤ l.a by omega)
  obtain ⟨b, hb⟩ := Int.eq_ofNat_of_zero_le (show 0 ≤ l.b by omega)
  rw [ha, hb] at hc
  have := seen_was h hN (i := i) (by omega) (show a < N by omega) (show b < N by omega) hc
  rw [← ha, ← hb] at this
  obtain ⟨a1, a2, a3⟩ := lc_at this
  refine ⟨a1, a2, ?_⟩
  rw [a3, show min l.a l.b = l.a by omega, show max l.a l.b = l.b by omega]
theorem own_link (h : WV w Nob) {i : Nat} (hi : i < w.db.length) {x : Int} (hx : x ∈ nbS (seenL w i) i w.n.toNat) : 0 ≤ lof (tru w.ls w.up) i x := by
  have hdb := h.db
  have h8 := h.nn
  obtain ⟨N, hN⟩ := Int.eq_ofNat_of_zero_le (show 0 ≤ w.n by omega)
  unfold seenL at hx
  rw [hN, Int.toNat_natCast] at hx
  obtain ⟨j, hj, rfl, hs⟩ := nbS_mem.1 hx
  have := own_links h hN (i := i) (by omega) hj hs
  rw [lc_lof] at this
  exact of_decide_eq_true this
theorem seen_g (h : WV w Nob) {i : Nat} (hi : i < w.db.length) : GV w.n (seenL w i) := by
  have hdb := h.db
  have h8 := h.nn
  obtain ⟨N, hN⟩ := Int.eq_ofNat_of_zero_le (show 0 ≤ w.n by omega)
  have := seen_gv h hN (i := i) (by omega)
  unfold seenL
  rw [hN, Int.toNat_natCast]
  exact this
noncomputable def trV (w : Wd) : Int × List Lk := if wv w = true then (w.n, tru w.ls w.up) else (0, [])
theorem e_WorldTruthV (h : SmW w) : sh_impl_WorldTruth (w.n, w.ls, w.up, w.sq, w.db, w.net, ()) = some ((trV w).1, (trV w).2, ()) := by
  unfold trV
  cases hv : wv w with
  | true => exact e_WorldTruth (wv_t.1 hv)
  | false =>
    unfold sh_impl_WorldTruth
    refine Sat.out (sov (e_WorldValid h) ?_)
    dsimp only
    rw [hv]
    exact Sat.gd rfl (.some rfl)
theorem e_sWorldTruthV (h : SmW w) : sh_spec_WorldTruth (w.n, w.ls, w.up, w.sq, w.db, w.net, ()) = some ((trV w).1, (trV w).2, ()) := by
  unfold sh_spec_WorldTruth trV
  refine Sat.out (sov (e_sWorldValid h) ?_)
  dsimp only
  cases hv : wv w with
  | true =>
    have v := wv_t.1 hv
    have h14 := v.lsl
    exact Sat.no rfl (sov (e_l51Truth w v.up (by omega)) (.some rfl))
  | false => exact Sat.gd rfl (.some rfl)
theorem trV_fits (h : SmW w) : Fits (trV w).2 := by
  unfold trV
  split
  · have := tru_len w.ls w.up
    have := h.ls
    unfold Fits; dsimp only; omega
  · unfold Fits; simp
noncomputable def seV (w : Wd) (i : Int) : Int × List Lk := if (wv w && inB i 0 (w.n - 1)) = true then (w.n, seenL w i.toNat) else (0, [])
theorem seV_cases (w : Wd) (i : Int) : (seV w i = (0, []) ∧ (wv w && inB i 0 (w.n - 1)) = false) ∨ ∃ k : Nat, i = k ∧ WV w Nob ∧ k < w.db.length ∧ seV w i = (w.n, seenL w k) := by
  unfold seV
  cases hb : (wv w && inB i 0 (w.n - 1)) with
  | false => exact .inl ⟨rfl, rfl⟩
  | true =>
    simp only [Bool.and_eq_true] at hb
    have v := wv_t.1 hb.1
    have hi := inB_t hb.2
    have hdb := v.db
    obtain ⟨k, rfl⟩ := Int.eq_ofNat_of_zero_le hi.1
    exact .inr ⟨k, rfl, v, by omega, rfl⟩
theorem seV_fits (w : Wd) (i : Int) : Fits (seV w i).2 := by
  rcases seV_cases w i with ⟨e, _⟩ | ⟨k, rfl, v, hk, e⟩
  · rw [e]; unfold Fits; simp
  · rw [e]
    have := (seen_g v hk).2.2.1
    unfold Fits; dsimp only; omega
theorem e_WorldSeenV (h : SmW w) (i : Int) : sh_impl_WorldSeen (w.n, w.ls, w.up, w.sq, w.db, w.net, i, ()) = some ((seV w i).1, (seV w i).2, ()) := by
  rcases seV_cases w i with ⟨e, hb⟩ | ⟨k, rfl, v, hk, e⟩
  · rw [e]
    unfold sh_impl_WorldSeen
    refine Sat.out (sov (e_WorldValid h) ?_)
    dsimp only
    cases hv : wv w with
    | false => exact Sat.gd rfl (.some rfl)
    | true =>
      rw [hv, Bool.true_and] at hb
      have h8 := (wv_t.1 hv).nn
      refine Sat.no rfl ?_
      simp (disch := omega) only [w64]
      refine sov (e_within _ _ _) ?_
      dsimp only
      rw [hb]
      exact Sat.gd rfl (.some rfl)
  · rw [e]; exact e_WorldSeen v hk
theorem e_sWorldSeenV (h : SmW w) (i : Int) : sh_spec_WorldSeen (w.n, w.ls, w.up, w.sq, w.db, w.net, i, ()) = some ((seV w i).1, (seV w i).2, ()) := by
  unfold sh_spec_WorldSeen
  refine Sat.out (sov (e_sWorldValid h) ?_)
  dsimp only
  cases hv : wv w with
  | false =>
    have e : seV w i = (0, []) := by unfold seV; rw [hv]; rfl
    rw [e]
    exact Sat.gd rfl (.some rfl)
  | true =>
    have v := wv_t.1 hv
    have h8 := v.nn
    refine Sat.no rfl (sov (e_l1Node w.n i w.ls (by omega) (by omega)) ?_)
    dsimp only
    rcases seV_cases w i with ⟨e, hb⟩ | ⟨k, rfl, v, hk, e⟩
    · rw [hv, Bool.true_and] at hb
      rw [hb, e]
      exact Sat.gd rfl (.some rfl)
    · have hdb := v.db
      have hd := v.ok k hk
      rw [inB_mk (by omega), e]
      obtain ⟨N, hN⟩ := Int.eq_ofNat_of_zero_le (show 0 ≤ w.n by omega)
      simp only [toN, at_db]
      refine Sat.no rfl (Sat.gd (inR_t (by omega) (by omega)) ?_)
      unfold seenL
      rw [hN, Int.toNat_natCast]
      exact sov (e_l11Graph hd.sm.fits hd.sm.fe (show N ≤ 8 by omega)) (.some rfl)
end
end Go.Proofs.Ytdfkphagjkpgdaa
end
section
namespace Go.Proofs.Ytdfkphagjkpgdaa
open Go.RowKit
set_option linter.unusedSimpArgs false
set_option linter.unusedVariables false
set_option maxRecDepth 100000

section
variable {w : Wd}
theorem eqI3 (l : Lk) : eqInts [l.a, l.b, l.c] [l.a, l.b, l.c] = true := by simp [eqInts]
theorem d_WorldNew {c : List Int} (hc : Cod c) : Sat (sh_spec_DrawWorldNew (c, ())) fun r => ∃ (n : Int) (ls : List Lk), r = (n, ls, ()) ∧ ls.length ≤ 15 := by
  unfold sh_spec_DrawWorldNew
  obtain ⟨b, e, hB⟩ := byt_open hc.1 hc.2
  refine sov e ?_
  dsimp only
  refine Sat.bnd (d_Spoilt hB (by omega) (by omega)) ?_
  rintro _ ⟨n2, p2, ls2, rfl, g1, g2, g3, g4, g5⟩
  exact .some ⟨_, _, rfl, g5⟩
theorem d_WorldSeen {c : List Int} (hc : Cod c) : Sat (sh_spec_DrawWorldSeen (c, ())) fun r => ∃ (W : Wd) (i : Int), r = (W.n, W.ls, W.up, W.sq, W.db, W.net, i, ()) ∧ SmW W := by
  unfold sh_spec_DrawWorldSeen
  obtain ⟨b, e, hB⟩ := byt_open hc.1 hc.2
  refine sov e ?_
  dsimp only
  refine Sat.bnd (d_World hB (by omega) (by omega)) ?_
  rintro _ ⟨W, p1, rfl, u1, u2, hW⟩
  dsimp only
  refine Sat.pick hB (by omega) (by omega) (fun x _ _ _ => ?_)
  dsimp only
  refine Sat.ite (fun _ => ?_) (fun _ => ?_)
  · refine Sat.bnd (d_Wrong hB (by omega) (by omega)) ?_
    rintro _ ⟨W2, p', rfl, hW2, q1, q2⟩
    dsimp only
    refine Sat.bnd (d_Node hB _ (by omega) (by omega)) ?_
    rintro _ ⟨z, p3, rfl, _, _, _, _⟩
    exact .some ⟨W2, z, rfl, hW2⟩
  · refine Sat.bnd (d_Node hB _ (by omega) (by omega)) ?_
    rintro _ ⟨z, p3, rfl, _, _, _, _⟩
    exact .some ⟨W, z, rfl, hW.sm⟩
theorem newV_sm (n : Int) (ls : List Lk) : SmW (newV n ls) := by
  unfold newV
  split
  · exact (new_okI (gv_t (by assumption))).sm
  · exact zW_sm
theorem law_WorldNew {c : List Int} (hz : ∀ z ∈ c, 0 ≤ z ∧ z < 256) : sh_laws_FnWorldNew (c, ()) = some (true, ()) := by
  unfold sh_laws_FnWorldNew
  dsimp only
  refine Sat.out (Sat.ite (fun _ => .some rfl) (fun hlen => ?_))
  have hc : Cod c := cod_ofW hz hlen
  refine Sat.bnd (d_WorldNew hc) ?_
  rintro _ ⟨n, ls, rfl, hls⟩
  dsimp only
  have fl : Fits ls := by unfold Fits; omega
  refine sov (e_WorldNew n ls fl) (sov (e_sWorldNew n ls fl) ?_)
  dsimp only [wk7]
  have hS := newV_sm n ls
  refine Sat.no (by simp) (sov (e_sameWorld hS) (Sat.no rfl ?_))
  cases hg : gv n ls with
  | false => exact Sat.gd rfl (Sat.gd rfl (sov (e_sameWorld hS) (.some rfl)))
  | true =>
    have g := gv_t hg
    have v := new_okI g
    have h1 := g.1
    have h8 := g.2.1
    have e : newV n ls = newW n ls := if_pos hg
    rw [e]
    obtain ⟨N, rfl⟩ := Int.eq_ofNat_of_zero_le (show 0 ≤ n by omega)
    have hdb := v.db
    have hn : (newW (N : Int) ls).n = N := rfl
    have seen : ∀ k : Nat, k < N → sh_impl_WorldSeen ((newW (N : Int) ls).n, (newW (N : Int) ls).ls, (newW (N : Int) ls).up, (newW (N : Int) ls).sq, (newW (N : Int) ls).db, (newW (N : Int) ls).net, (k : Int), ()) = some ((N : Int), ls, ()) := fun k hk => by
      rw [e_WorldSeen v (by omega)]
      unfold seenL
      rw [hn, Int.toNat_natCast, new_seen g hk]
    have tr : sh_impl_WorldTruth ((newW (N : Int) ls).n, (newW (N : Int) ls).ls, (newW (N : Int) ls).up, (newW (N : Int) ls).sq, (newW (N : Int) ls).db, (newW (N : Int) ls).net, ()) = some ((N : Int), ls, ()) := by
      rw [e_WorldTruth v]
      show some ((N : Int), tru ls (List.replicate ls.length true), ()) = _
      rw [tru_all]
    have vl := e_WorldValid v.sm
    rw [wv_t.2 v] at vl
    have hnet : (newW (N : Int) ls).net = [] := rfl
    generalize newW (N : Int) ls = W at seen tr vl hnet ⊢
    refine Sat.no rfl (Sat.bnd (R := fun r => match r with | .inl x => x = ((N : Int), W.n, ls, W.ls, W.up, W.sq, W.db, W.net, ()) | .inr _ => False) ?_ ?_)
    · refine Sat.count N (fun k t => t = ((k : Int), (N : Int), W.n, ls, W.ls, W.up, W.sq, W.db, W.net, ())) ?_ (Nat.zero_le _) (fuel_lt (by omega)) rfl
      rintro k t hk rfl
      by_cases hlt : k < N
      · unfold bo_laws_FnWorldNew_9
        simp (disch := omega) only [w64]
        exact Sat.gd (decide_eq_true (by omega)) (sov (seen k hlt) (sov (e_sameGraph _ _ fl) (Sat.no rfl (.some ⟨hlt, rfl⟩))))
      · obtain rfl : k = N := by omega
        unfold bo_laws_FnWorldNew_9
        exact Sat.no (decide_eq_false (by first | omega | (dsimp only; omega))) (.some rfl)
    · rintro (r | r) hr
      case inr => exact hr.elim
      obtain rfl := hr
      dsimp only
      exact sov vl (Sat.gd rfl (sov tr (sov (e_sameGraph _ _ fl) (Sat.gd rfl (.some (by rw [hnet]; rfl))))))
theorem law_WorldTruth {c : List Int} (hz : ∀ z ∈ c, 0 ≤ z ∧ z < 256) : sh_laws_FnWorldTruth (c, ()) = some (true, ()) := by
  unfold sh_laws_FnWorldTruth
  dsimp only
  refine Sat.out (Sat.ite (fun _ => .some rfl) (fun hlen => ?_))
  have hc : Cod c := cod_ofW hz hlen
  refine Sat.bnd (d_WorldTruth hc) ?_
  rintro _ ⟨W, rfl, hW⟩
  dsimp only [wt]
  refine sov (e_WorldTruthV hW) (sov (e_sWorldTruthV hW) ?_)
  dsimp only
  refine sov (e_sameGraph _ _ (trV_fits hW)) (Sat.no rfl (sov (e_sWorldValid hW) ?_))
  dsimp only
  rcases hv : wv W with _ | _
  · exact Sat.gd rfl (sov (e_sameGraph _ _ (trV_fits hW)) (.some rfl))
  have v := wv_t.1 hv
  have e : trV W = (W.n, tru W.ls W.up) := by unfold trV; rw [hv]; rfl
  rw [e]
  dsimp only
  have g := tru_gv v.g W.up
  have ft : Fits (tru W.ls W.up) := by have := g.2.2.1; unfold Fits; omega
  have hup := v.up
  have h14 := v.lsl
  refine Sat.no rfl (Sat.bnd (R := fun r => match r with | .inl x => x = (W.n, W.ls, W.up, W.sq, W.db, W.net, W.n, tru W.ls W.up, ()) | .inr _ => False) ?_ ?_)
  · refine Sat.count W.ls.length (fun k t => t = ((k : Int), W.n, W.ls, W.up, W.sq, W.db, W.net, W.n, tru W.ls W.up, ())) ?_ (Nat.zero_le _) (fuel_lt (by omega)) rfl
    rintro k t hk rfl
    by_cases hlt : k < W.ls.length
    · have hL := tru_link v hlt
      have eg : glink W.n (tru W.ls W.up) (lk W.ls k).a (lk W.ls k).b = lof (tru W.ls W.up) (lk W.ls k).a (lk W.ls k).b := if_pos (show gv _ _ = true from decide_eq_true g)
      unfold bo_laws_FnWorldTruth_9
      simp (disch := omega) only [at_lk, at_bo, toN, w64, nI_eq, e_GraphLink _ _ _ _ ft, eg, Option.bind_some]
      generalize lof (tru W.ls W.up) (lk W.ls k).a (lk W.ls k).b = z at hL ⊢
      refine Sat.gd (decide_eq_true (by omega)) (Sat.gd (inR_t (by omega) (by omega)) (Sat.gd (inR_t (by omega) (by omega)) (Sat.gd (inR_t (by omega) (by omega)) ?_)))
      cases hu : W.up.getD k false with
      | true =>
        have h0 := hL.1.2 hu
        obtain ⟨h1, h2⟩ := hL.2 h0
        rw [decide_eq_true h0, h2]
        exact Sat.no rfl (Sat.gd rfl (Sat.gd (inR_t h0 h1) (Sat.gd (inR_t (by omega) (by omega)) (Sat.no (by rw [eqI3]; rfl) (.some ⟨hlt, rfl⟩)))))
      | false =>
        have h0 : ¬ 0 ≤ z := fun q => by have := hL.1.1 q; rw [hu] at this; cases this
        rw [decide_eq_false h0]
        exact Sat.no rfl (Sat.no rfl (.some ⟨hlt, rfl⟩))
    · obtain rfl : k = W.ls.length := by omega
      unfold bo_laws_FnWorldTruth_9
      simp only [nI_eq]
      exact Sat.no (decide_eq_false (by first | omega | (dsimp only; omega))) (.some rfl)
  · rintro (r | r) hr
    case inr => exact hr.elim
    obtain rfl := hr
    dsimp only
    refine sov (e_GraphValid _ _ ft) ?_
    dsimp only
    rw [show gv W.n (tru W.ls W.up) = true from decide_eq_true g]
    exact Sat.gd rfl (.some (by simp))
theorem law_WorldSeen {c : List Int} (hz : ∀ z ∈ c, 0 ≤ z ∧ z < 256) : sh_laws_FnWorldSeen (c, ()) = some (true, ()) := by
  unfold sh_laws_FnWorldSeen
  dsimp only
  refine Sat.out (Sat.ite (fun _ => .some rfl) (fun hlen => ?_))
  have hc : Cod c := cod_ofW hz hlen
  refine Sat.bnd (d_WorldSeen hc) ?_
  rintro _ ⟨W, i, rfl, hW⟩
  dsimp only
  refine sov (e_WorldSeenV hW i) (sov (e_sWorldSeenV hW i) ?_)
  dsimp only
  have ft := seV_fits W i
  refine sov (e_sameGraph _ _ ft) (Sat.no rfl ?_)
  have key : ∀ k, k < (seV W i).2.length → glink W.n W.ls (lk (seV W i).2 k).a (lk (seV W i).2 k).b = lof W.ls (lk (seV W i).2 k).a (lk (seV W i).2 k).b ∧ 0 ≤ lof W.ls (lk (seV W i).2 k).a (lk (seV W i).2 k).b ∧ lof W.ls (lk (seV W i).2 k).a (lk (seV W i).2 k).b < W.ls.length ∧ lk W.ls (lof W.ls (lk (seV W i).2 k).a (lk (seV W i).2 k).b).toNat = lk (seV W i).2 k := fun k hk => by
    rcases seV_cases W i with ⟨e, _⟩ | ⟨j, rfl, v, hj, e⟩
    · rw [e] at hk; simp at hk
    · rw [e] at hk ⊢
      exact ⟨if_pos (show gv _ _ = true from decide_eq_true v.g), seen_link v hj (lk_mem hk)⟩
  have hln : (seV W i).2.length ≤ 1000 := by
    rcases seV_cases W i with ⟨e, _⟩ | ⟨j, rfl, v, hj, e⟩
    · rw [e]; simp
    · rw [e]
      have := (seen_g v hj).2.2.1
      dsimp only; omega
  have fl : Fits W.ls := by have := hW.ls; unfold Fits; omega
  generalize seV W i = S at ft key hln ⊢
  refine Sat.bnd (R := fun r => match r with | .inl _ => True | .inr _ => False) ?_ ?_
  · refine Sat.count S.2.length (fun k t => t = ((k : Int), W.n, W.ls, W.up, W.sq, W.db, W.net, S.1, S.2, ())) ?_ (Nat.zero_le _) (fuel_lt (by omega)) rfl
    rintro k t hk rfl
    by_cases hlt : k < S.2.length
    · obtain ⟨k1, k2, k3, k4⟩ := key k hlt
      unfold bo_laws_FnWorldSeen_9
      simp (disch := omega) only [at_lk, toN, w64, nI_eq, e_GraphLink _ _ _ _ fl, k1, k4, Option.bind_some]
      exact Sat.gd (decide_eq_true (by omega)) (Sat.gd (inR_t (by omega) (by omega)) (Sat.gd (inR_t (by omega) (by omega)) (Sat.no (decide_eq_false (by omega)) (Sat.gd (inR_t k2 k3) (Sat.gd (inR_t (by omega) (by omega)) (Sat.no (by rw [eqI3]; rfl) (.some ⟨hlt, rfl⟩)))))))
    · obtain rfl : k = S.2.length := by omega
      unfold bo_laws_FnWorldSeen_9
      simp only [nI_eq]
      exact Sat.no (decide_eq_false (by first | omega | (dsimp only; omega))) (.some trivial)
  · rintro (r | r) hr
    case inr => exact hr.elim
    exact .some rfl
theorem law_WorldOwn {c : List Int} (hz : ∀ z ∈ c, 0 ≤ z ∧ z < 256) : sh_laws_FnWorldOwn (c, ()) = some (true, ()) := by
  unfold sh_laws_FnWorldOwn
  dsimp only
  refine Sat.out (Sat.ite (fun _ => .some rfl) (fun hlen => ?_))
  have hc : Cod c := cod_ofW hz hlen
  refine Sat.bnd (d_WorldSeen hc) ?_
  rintro _ ⟨W, i, rfl, hW⟩
  dsimp only
  refine sov (e_WorldSeenV hW i) (sov (e_sWorldSeenV hW i) ?_)
  dsimp only
  have ft := seV_fits W i
  have same : Sat ((sh_laws_sameGraph ((seV W i).1, (seV W i).2, (seV W i).1, (seV W i).2, ())).bind fun r4 => some ((r4.1, ()))) (· = (true, ())) := sov (e_sameGraph _ _ ft) (.some rfl)
  refine sov (e_sameGraph _ _ ft) (Sat.no rfl (sov (e_sWorldValid hW) ?_))
  dsimp only
  rcases hv : wv W with _ | _
  · exact Sat.gd rfl same
  have v := wv_t.1 hv
  refine Sat.no rfl (Sat.ite (fun _ => same) (fun h0 => Sat.ite (fun _ => same) (fun h1 => ?_)))
  have h0 := of_decide_eq_false h0
  have h1 := of_decide_eq_false h1
  have hdb := v.db
  have h8 := v.nn
  rcases seV_cases W i with ⟨_, hb⟩ | ⟨k, rfl, _, hk, e⟩
  · rw [hv, Bool.true_and] at hb
    have := inB_f hb
    omega
  rw [e]
  dsimp only
  have g := seen_g v hk
  have fs : Fits (seenL W k) := by have := g.2.2.1; unfold Fits; omega
  have gt := tru_gv v.g W.up
  have ftr : Fits (tru W.ls W.up) := by have := gt.2.2.1; unfold Fits; omega
  have own : ∀ x ∈ nbS (seenL W k) k W.n.toNat, 0 ≤ lof (tru W.ls W.up) k x := fun x hx => own_link v hk hx
  have hlen := nbS_len (seenL W k) k W.n.toNat
  have enb : sh_impl_GraphNeighbours (W.n, seenL W k, (k : Int), ()) = some (nbS (seenL W k) k W.n.toNat, ()) := by
    obtain ⟨N, hN⟩ := Int.eq_ofNat_of_zero_le (show 0 ≤ W.n by omega)
    rw [hN] at g ⊢
    rw [e_GraphNeighbours _ _ _ fs, show gv (N : Int) (seenL W k) = true from decide_eq_true g, inB_mk (by omega), sort_nb g, Int.toNat_natCast]
    rfl
  refine sov enb (sov (e_WorldTruth v) ?_)
  dsimp only
  generalize nbS (seenL W k) k W.n.toNat = nb at own hlen ⊢
  refine Sat.bnd (R := fun r => match r with | .inl _ => True | .inr _ => False) ?_ ?_
  · refine Sat.count nb.length (fun j t => t = ((k : Int), (j : Int), nb, W.n, tru W.ls W.up, ())) ?_ (Nat.zero_le _) (fuel_lt (by omega)) rfl
    rintro j t hj rfl
    by_cases hlt : j < nb.length
    · have eg : glink W.n (tru W.ls W.up) (k : Int) (iz nb j) = lof (tru W.ls W.up) (k : Int) (iz nb j) := if_pos (show gv _ _ = true from decide_eq_true gt)
      have := own (iz nb j) (List.mem_of_getElem? (iz_get hlt))
      unfold bo_laws_FnWorldOwn_11
      simp (disch := omega) only [at_int, toN, w64, nI_eq, e_GraphLink _ _ _ _ ftr, eg, Option.bind_some]
      exact Sat.gd (decide_eq_true (by omega)) (Sat.gd (inR_t (by omega) (by omega)) (Sat.no (decide_eq_false (by omega)) (.some ⟨hlt, rfl⟩)))
    · obtain rfl : j = nb.length := by omega
      unfold bo_laws_FnWorldOwn_11
      simp only [nI_eq]
      exact Sat.no (decide_eq_false (by first | omega | (dsimp only; omega))) (.some trivial)
  · rintro (r | r) hr
    case inr => exact hr.elim
    exact .some rfl
end
end Go.Proofs.Ytdfkphagjkpgdaa
end
