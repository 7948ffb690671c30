/- What the rows' proofs of the exact laws share: numbers, slices of numbers and graphs that came in, as the abstract machine reads them. -/
import Derived.Test.YtkeihpihphefgaaRow
import Derived.Test.YtkeihpihphefgaaBr
import Derived.Deep.Slices
import Derived.Deep.Fields
import Derived.Deep.Strs
import Derived.Lib.SmallJoins
import Derived.ChangeSame
namespace Go.Proofs.Ytkeihpihphefgaa
open Go.ChangeShapes Go.WideShapes Go.ChangeAt Go.RowKit Go.Deep Go.Joins

/-- An argument as the abstract machine reads it. -/
def Opn (w : World) (v : Value) (d : PV) : Prop := Cv w (fun _ => False) w.heap.size [] d v
theorem ri_of {w : World} {A : Option Addr} {n cap size : Nat} {vs : List Value} {B : Nat} (h : Rd w size A n vs) (hs : 0 < size) (hc : Caps n cap) : Ri w (fun _ => False) B (.sl false (vs.map IV.s) n) (.slice A n cap) := by
  refine Ri.mk h hc fun h0 b o e => ⟨?_, id, fun h => by cases h⟩
  obtain ⟨b', o', e', hc'⟩ := h.2 h0
  rw [e] at e'
  injection e' with e'
  injection e' with e1 e2
  subst e1 e2
  have hl : 0 < vs.length := by rw [h.1]; exact Nat.mul_pos h0 hs
  exact cell_lt (hc' 0 vs[0] (List.getElem?_eq_getElem hl))
theorem addr_flat {w : World} {x : Addr} {v : Value} (h : w.cell? x = some v) : ∃ b o, x = ⟨b, o, none⟩ := by
  obtain ⟨b, o, s⟩ := x
  cases s with
  | none => exact ⟨b, o, rfl⟩
  | some t =>
    unfold World.cell? at h
    split at h <;> simp at h
section
variable {H : Type} {enc : TypeId × Value → H} {P : Program} {w : World}
theorem open_zs {t e : TypeId} {fuel : Nat} {cs : List Value} {x : DataW H × List MemPlace} (ht : P.underlying t = some (.slice e)) (he : P.underlying e = some (.int .i64)) (hc : P.cellsOf e = 1)
    (h : DataW.trod enc P w 0 (fun _ => true) true fuel t cs = some x) : ∃ A n cap zs, cs = [.slice A n cap] ∧ zs.length = n ∧ Caps n cap ∧ Rd w 1 A n (ints zs) := by
  rcases open_ints ht he hc h with ⟨rfl, _⟩ | ⟨a, len, cap, zs, rfl, _, hl, hm, hz, _, hcell, _⟩
  · exact ⟨none, 0, 0, [], rfl, rfl, ⟨Nat.le_refl _, Nat.zero_le _⟩, rfl, fun h => absurd h (by omega)⟩
  · simp only [if_true] at hz
    refine ⟨some a, len, cap, zs.take len, rfl, by simp; omega, ⟨hl, hm⟩, by simp [ints]; omega, fun h0 => ?_⟩
    have h1 := hcell 0 (by omega)
    rw [Addr.add_zero'] at h1
    obtain ⟨b, o, rfl⟩ := addr_flat h1
    refine ⟨b, o, rfl, fun j u hu => ?_⟩
    have hj : j < len := by
      have := (List.getElem?_eq_some_iff.1 hu).1
      simp [ints] at this
      omega
    have h2 := hcell j (by omega)
    rw [Addr.add_lit] at h2
    rw [h2]
    simp only [ints, List.getElem?_map, List.getElem?_take, hj, if_true] at hu
    obtain ⟨z, hz1, rfl⟩ := Option.map_eq_some_iff.1 hu
    simp [List.getD, hz1]
theorem pick_list {α : Type} {n : Nat} {p : Nat → α → Prop} (h : ∀ i, i < n → ∃ x, p i x) : ∃ l : List α, l.length = n ∧ ∀ (i : Nat) x, l[i]? = some x → p i x := by
  induction n with
  | zero => exact ⟨[], rfl, fun i x hx => by simp at hx⟩
  | succ n ih =>
    obtain ⟨l, hl, hp⟩ := ih fun i hi => h i (by omega)
    obtain ⟨x, hx⟩ := h n (by omega)
    refine ⟨l ++ [x], by simp [hl], fun i y hy => ?_⟩
    rcases Nat.lt_or_ge i n with hi | hi
    · rw [List.getElem?_append_left (by omega)] at hy
      exact hp i y hy
    · rw [List.getElem?_append_right (by omega)] at hy
      have hi' : i = n := by
        have := (List.getElem?_eq_some_iff.1 hy).1
        simp at this
        omega
      subst hi'
      rw [hl, Nat.sub_self] at hy
      simp at hy
      subst hy
      exact hx
theorem open_ls {t e : TypeId} {f0 f1 f2 : Field} {fuel : Nat} {cs : List Value} {x : DataW H × List MemPlace} (ht : P.underlying t = some (.slice e)) (he : P.underlying e = some (.struct #[f0, f1, f2])) (hC : P.cellsOf e = 3) (hone : oneCellFields P #[f0, f1, f2] = true)
    (h0 : P.underlying f0.type = some (.int .i64)) (h1 : P.underlying f1.type = some (.int .i64)) (h2 : P.underlying f2.type = some (.int .i64))
    (h : DataW.trod enc P w 0 (fun _ => true) true fuel t cs = some x) : ∃ A n cap ls, cs = [.slice A n cap] ∧ ls.length = n ∧ Caps n cap ∧ Rd w 3 A n (lks ls) := by
  rcases open_slice ht h with ⟨rfl, _⟩ | ⟨a, len, cap, m, n, D, Pl, rfl, _, hl, hm, hmm, _, hi⟩
  · exact ⟨none, 0, 0, [], rfl, rfl, ⟨Nat.le_refl _, Nat.zero_le _⟩, rfl, fun h => absurd h (by omega)⟩
  · simp only [if_true] at hmm
    have each : ∀ i, i < len → ∃ l : Lk, ∀ j u, l.row[j]? = some u → w.cell? (a.add (i * 3 + j)) = some u := fun i hil => by
      obtain ⟨cs', hc, htr⟩ := hi i (by omega)
      rw [hC] at hc
      obtain ⟨_, hcl, hat⟩ := World.cells?_some hc
      obtain ⟨y0, y1, y2, n', _, _, g0, g1, g2⟩ := trod_struct3 he htr
      obtain ⟨o0, k0⟩ := hone_of hone 0 f0 rfl
      obtain ⟨o1, k1⟩ := hone_of hone 1 f1 rfl
      obtain ⟨o2, k2⟩ := hone_of hone 2 f2 rfl
      rw [o0, k0] at g0
      rw [o1, k1] at g1
      rw [o2, k2] at g2
      obtain ⟨z0, e0, _⟩ := DataW.trod_int h0 g0
      obtain ⟨z1, e1, _⟩ := DataW.trod_int h1 g1
      obtain ⟨z2, e2, _⟩ := DataW.trod_int h2 g2
      match cs', hcl with
      | [c0, c1, c2], _ =>
        simp at e0 e1 e2
        subst e0 e1 e2
        refine ⟨⟨z0, z1, z2⟩, fun j u hu => ?_⟩
        have hj : j < 3 := by
          have := (List.getElem?_eq_some_iff.1 hu).1
          simpa [Lk.row] using this
        have := hat j hj
        rw [Go.Deep.add_add] at this
        rw [this]
        exact hu
    obtain ⟨ls, hls, hp⟩ := pick_list each
    refine ⟨some a, len, cap, ls, rfl, hls, ⟨hl, hm⟩, by rw [lks_len, hls], fun hpos => ?_⟩
    have q0 := hp 0 ls[0] (List.getElem?_eq_getElem (by omega)) 0 _ rfl
    simp only [Nat.zero_mul, Nat.add_zero, Addr.add_zero'] at q0
    obtain ⟨b, o, rfl⟩ := addr_flat q0
    refine ⟨b, o, rfl, fun j u hu => ?_⟩
    have hj : j < ls.length * 3 := by
      have := (List.getElem?_eq_some_iff.1 hu).1
      rwa [lks_len] at this
    have hk : j / 3 < ls.length := by omega
    have := hp (j / 3) ls[j / 3] (List.getElem?_eq_getElem hk) (j % 3) u (by
      rw [← hu]
      have e : j = j / 3 * 3 + j % 3 := by omega
      conv => rhs; rw [e]
      exact (flat_get Lk.row 3 (fun _ => rfl) ls (j / 3) (j % 3) _ (List.getElem?_eq_getElem hk) (by omega)).symm)
    rw [Addr.add_lit] at this
    rw [show j / 3 * 3 + j % 3 = j by omega] at this
    exact this
end
section
variable {H : Type} {enc : TypeId × Value → H} {W : World} {v : Value} {d : DataW H} {p : List MemPlace}
theorem opn_int {r : Reach} {b0 : Nat} (hv : Value.okWide Try.prog W r b0 3 v) (h : DataW.Trod enc Try.prog W 0 (fun _ => true) true 3 v d p) : ∃ z : Int, v = .int .i64 z := by
  obtain ⟨z, hz, _⟩ := open_int Try.underlying3 hv h
  exact ⟨z, hz⟩
theorem opn_ints {r : Reach} {b0 : Nat} (hv : Value.okWide Try.prog W r b0 26 v) (h : DataW.Trod enc Try.prog W 0 (fun _ => true) true 26 v d p) : ∃ (zs : List Int) (n : Nat), zs.length = n ∧ n ≤ 9223372036854775807 ∧ Opn W v (.im (.sl false (intsI zs) n)) := by
  obtain ⟨a, len, cap, rfl⟩ := okWide_slice Try.underlying26 hv
  obtain ⟨fuel, hf⟩ := h
  obtain ⟨A, n, cap', zs, e, hl, hc, hr⟩ := open_zs Try.underlying26 Try.underlying3 (by kernel_rfl) hf
  simp [Value.cells] at e
  obtain ⟨rfl, rfl, rfl⟩ := e
  refine ⟨zs, _, hl, Nat.le_trans hc.1 hc.2, ?_⟩
  rw [intsI_map]
  exact ri_of hr (by decide) hc
theorem opn_graph {r : Reach} {b0 : Nat} (hv : Value.okWide Try.prog W r b0 36 v) (h : DataW.Trod enc Try.prog W 0 (fun _ => true) true 36 v d p) : ∃ (z : Int) (ls : List Lk) (n : Nat), ls.length = n ∧ n ≤ 9223372036854775807 ∧ Opn W v (.agg [.im (iI z), .im (.sl false (lksI ls) n)]) := by
  obtain ⟨v0, v1, y0, y1, n, rfl, _, _, h0, h1⟩ := open_agg2 Try.underlying36 (by kernel_rfl) (by kernel_rfl) hv h
  obtain ⟨z, e0, _⟩ := DataW.trod_int Try.underlying3 h0
  obtain ⟨A, n, cap, ls, e1, hl, hc, hr⟩ := open_ls Try.underlying34 Try.underlying76 (by kernel_rfl) (by kernel_rfl) Try.underlying3 Try.underlying3 Try.underlying3 h1
  simp at e0 e1
  subst e0 e1
  refine ⟨z, ls, n, hl, Nat.le_trans hc.1 hc.2, _, rfl, F2.cons (Ri.s _) (F2.cons ?_ F2.nil)⟩
  show Ri W _ _ _ _
  rw [lksI_map]
  exact ri_of hr (by decide) hc
end
/-- The law's walk on the abstract machine, as a walk. -/
theorem holds_ac {f : FuncId} {ds : List PV} {args : List Value} {W : World} (h : AC Try.prog f ds (fun d h => d = .im (.s (.bool true)) ∧ h = [])) (hx : F2 (fun d v => Opn W v d) ds args) : Holds f args.toArray W := by
  refine (h W args hx).mono ?_
  rintro e w' ⟨u, d, hh, β, rfl, ⟨rfl, rfl⟩, r⟩
  have : u = .bool true := im_s r.val
  exact ⟨by rw [this], r.below⟩
end Go.Proofs.Ytkeihpihphefgaa
