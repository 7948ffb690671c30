/- The bridge: contracts that speak of worlds, as contracts of the abstract machine. No program is named here. -/
import Derived.Test.YtkeihpihphefgaaEnc
import Derived.Test.YtkeihpihphefgaaCaps
namespace Go.Proofs.Ytkeihpihphefgaa
open Go.RowKit

section
variable {w w' : World} {E : Nat → Prop} {B : Nat} {β : List (Nat × Nat)}
theorem Ri.flat {g : Bool} {vs : List Value} {n size : Nat} {u : Value} (h : Ri w E B (.sl g (vs.map IV.s) n) u) (hn : vs.length = n * size) : ∃ A cap, u = .slice A n cap ∧ Rd w size A n vs ∧ Caps n cap := by
  cases h with
  | sl _ _ _ A cap b o us h0 hA hcap hl hc hr =>
    have e : us = vs := by
      refine List.ext_getElem? fun i => ?_
      rcases Nat.lt_or_ge i us.length with hi | hi
      · have hi' : i < vs.length := by rw [hl] at hi; simpa using hi
        have hx : (vs.map IV.s)[i]? = some (.s vs[i]) := by rw [List.getElem?_map, List.getElem?_eq_getElem hi']; rfl
        have hu := List.getElem?_eq_getElem hi
        have := hr i _ _ hx hu
        rw [hu, List.getElem?_eq_getElem hi']
        generalize us[i] = q at *
        cases this
        rfl
      · have hi' : vs.length ≤ i := by rw [hl] at hi; simpa using hi
        rw [List.getElem?_eq_none hi, List.getElem?_eq_none hi']
    subst e
    exact ⟨A, cap, rfl, ⟨hn, fun h => ⟨b, o, (hA h).1, hc⟩⟩, hcap⟩
theorem Ri.mk {g : Bool} {A : Option Addr} {n cap size : Nat} {vs : List Value} (h : Rd w size A n vs) (hcap : Caps n cap) (hs : 0 < n → ∀ b o, A = some ⟨b, o, none⟩ → b < w.heap.size ∧ ¬ E b ∧ (g = true → B ≤ b)) : Ri w E B (.sl g (vs.map IV.s) n) (.slice A n cap) := by
  rcases Nat.eq_zero_or_pos n with h0 | h0
  · subst h0
    have hv : vs = [] := List.length_eq_zero_iff.1 (by rw [h.1, Nat.zero_mul])
    subst hv
    exact .sl g [] 0 A cap 0 0 [] (fun _ => rfl) (fun h => by omega) hcap rfl (fun j u hu => by simp at hu) (fun j x u hx => by simp at hx)
  · obtain ⟨b, o, hA, hc⟩ := h.2 h0
    refine .sl g _ n A cap b o vs (fun h => by omega) (fun _ => ⟨hA, hs h0 b o hA⟩) hcap (by simp) hc (fun j x u hx hu => ?_)
    rw [List.getElem?_map, hu] at hx
    injection hx with hx
    subst hx
    exact .s u
theorem intsI_map (zs : List Int) : intsI zs = (ints zs).map IV.s := by simp [intsI, ints]
theorem lksI_map (ls : List Lk) : lksI ls = (lks ls).map IV.s := by
  induction ls with
  | nil => rfl
  | cons l r ih =>
    have e1 : lksI (l :: r) = l.rowI ++ lksI r := by simp [lksI]
    have e2 : lks (l :: r) = l.row ++ lks r := by simp [lks]
    rw [e1, e2, List.map_append, ih]; rfl
theorem cv_i {z : Int} {u : Value} (h : Cv w E B β (.im (iI z)) u) : u = .int .i64 z := im_s h
theorem cv_ints {g : Bool} {zs : List Int} {n : Nat} {u : Value} (h : Cv w E B β (.im (.sl g (intsI zs) n)) u) (hl : zs.length = n) (hn : n ≤ 16777216) : ∃ A cap, u = .slice A n cap ∧ RdI w A n zs ∧ Caps n cap := by
  rw [intsI_map] at h
  obtain ⟨A, cap, h1, h2, h3⟩ := Ri.flat (size := 1) h (by simp [ints, hl])
  exact ⟨A, cap, h1, ⟨hl, hn, h2⟩, h3⟩
theorem c1_lks {g : Bool} {ls : List Lk} {n : Nat} {u : Value} (h : C1 w E B β (.im (.sl g (lksI ls) n)) u) (hl : ls.length = n) (hn : n ≤ 16777216) : ∃ A cap, u = .slice A n cap ∧ RdL w A n ls ∧ Caps n cap := by
  have h : Ri w E B (.sl g (lksI ls) n) u := h
  rw [lksI_map] at h
  obtain ⟨A, cap, h1, h2, h3⟩ := Ri.flat (size := 3) h (by rw [lks_len, hl])
  exact ⟨A, cap, h1, ⟨hl, hn, h2⟩, h3⟩
theorem cv_graph {g : Bool} {p : Int} {ls : List Lk} {n : Nat} {u : Value} (h : Cv w E B β (.agg [.im (iI p), .im (.sl g (lksI ls) n)]) u) (hl : ls.length = n) (hn : n ≤ 16777216) : ∃ A cap, u = .agg #[.int .i64 p, .slice A n cap] ∧ RdL w A n ls ∧ Caps n cap := by
  obtain ⟨us, rfl, hF⟩ := h
  obtain ⟨u0, h0, c0⟩ := hF.get (i := 0) rfl
  obtain ⟨u1, h1, c1⟩ := hF.get (i := 1) rfl
  obtain ⟨A, cap, rfl, h2, h3⟩ := c1_lks c1 hl hn
  have e0 : u0 = .int .i64 p := by
    have c0 : Ri w E B (iI p) u0 := c0
    cases c0; rfl
  subst e0
  have hus : us = [.int .i64 p, .slice A n cap] := by
    have := hF.1
    match us, this with
    | [a, b], _ =>
      simp at h0 h1
      rw [h0, h1]
  exact ⟨A, cap, by rw [hus], h2, h3⟩
/-- Plain results. -/
theorem res_s {v : Value} (hb : Below w.heap.size w w') : Res w w' [] [] (.im (.s v)) v :=
  ⟨hb, rfl, fun k t xs r hk => by simp at hk, fun j k t xs r t' xs' r' b c c' hj => by simp at hj, fun b ⟨k, t, xs, r, c, h1, _⟩ => by simp at h1, Ri.s v⟩
theorem res_s2 {v v' : Value} (hb : Below w.heap.size w w') : Res w w' [] [] (.tup [.im (.s v), .im (.s v')]) (.tuple #[v, v']) :=
  ⟨hb, rfl, fun k t xs r hk => by simp at hk, fun j k t xs r t' xs' r' b c c' hj => by simp at hj, fun b ⟨k, t, xs, r, c, h1, _⟩ => by simp at h1, [v, v'], rfl, F2.cons (Ri.s v) (F2.cons (Ri.s v') F2.nil)⟩
theorem args1 {α γ : Type} {R : α → γ → Prop} {a : α} {us : List γ} (h : F2 R [a] us) : ∃ u, us = [u] ∧ R a u := by
  match us, h.1 with
  | [u], _ => exact ⟨u, rfl, h.2 0 a u rfl rfl⟩
theorem args2 {α γ : Type} {R : α → γ → Prop} {a b : α} {us : List γ} (h : F2 R [a, b] us) : ∃ u v, us = [u, v] ∧ R a u ∧ R b v := by
  match us, h.1 with
  | [u, v], _ => exact ⟨u, v, rfl, h.2 0 a u rfl rfl, h.2 1 b v rfl rfl⟩
theorem args3 {α γ : Type} {R : α → γ → Prop} {a b c : α} {us : List γ} (h : F2 R [a, b, c] us) : ∃ u v x, us = [u, v, x] ∧ R a u ∧ R b v ∧ R c x := by
  match us, h.1 with
  | [u, v, x], _ => exact ⟨u, v, x, rfl, h.2 0 a u rfl rfl, h.2 1 b v rfl rfl, h.2 2 c x rfl rfl⟩
theorem args5 {α γ : Type} {R : α → γ → Prop} {a b c d e : α} {us : List γ} (h : F2 R [a, b, c, d, e] us) : ∃ u v x y z, us = [u, v, x, y, z] ∧ R a u ∧ R b v ∧ R c x ∧ R d y ∧ R e z := by
  match us, h.1 with
  | [u, v, x, y, z], _ => exact ⟨u, v, x, y, z, rfl, h.2 0 a u rfl rfl, h.2 1 b v rfl rfl, h.2 2 c x rfl rfl, h.2 3 d y rfl rfl, h.2 4 e z rfl rfl⟩
/-- A slice that the call owns. -/
theorem res_own {e : TypeId} {size n : Nat} {v : Value} {vs : List Value} (hb : Below w.heap.size w w') (h : w'.ownsRow w.heap.size e size v n vs) (hp : 0 < size) (h1 : ∀ u ∈ vs, u.oneCell' = true) (hv : v ≠ .slice none 0 0) :
    ∃ β, Res w w' [.obj e (ims (vs.map IV.s)) size] β (.own 0 n) v := by
  obtain ⟨g, c, junk, rfl, hh, hl, hm⟩ := own_split h hv
  have hg : w.heap.size ≤ g := (h.lt g rfl).1
  have liv : ∀ b, Liv [.obj e (ims (vs.map IV.s)) size] [(g, c)] b → b = g := fun b ⟨k, t, xs, r, c', h1, h2⟩ => by
    match k, h2 with
    | 0, h2 => simp at h2; exact h2.1.symm
    | k + 1, h2 => simp at h2
  refine ⟨[(g, c)], hb, rfl, fun k t xs r hk => ?_, fun j k t xs r t' xs' r' b c c' hj hk _ _ => ?_, fun b hb => by rw [liv b hb]; exact hg, g, c, rfl, rfl⟩
  · match k, hk with
    | 0, hk =>
      simp only [List.getElem?_cons_zero, Option.some.injEq, AObj.obj.injEq] at hk
      obtain ⟨rfl, rfl, rfl⟩ := hk
      refine ⟨g, c, vs, junk, rfl, hh, ⟨by simp [ims], fun i x u hx hu => ?_⟩, h1, fun e => by omega, fun _ => ⟨hl, hm⟩⟩
      rw [ims, List.map_map, List.getElem?_map, hu] at hx
      injection hx with hx
      subst hx
      exact Ri.s u
    | k + 1, hk => simp at hk
  · match j, k, hj, hk with
    | 0, 0, _, _ => rfl
    | j + 1, _, hj, _ => simp at hj
    | _, k + 1, _, hk => simp at hk
end
end Go.Proofs.Ytkeihpihphefgaa
