/- Plain laws of joined areas: a route between areas is a path of the joined graph; with one border node routes are shortest; an area joined with itself is itself. -/
import Derived.Test.YtjdebphkndfolaaPt2
namespace Go.Proofs.Ytjdebphkndfolaa
open Go.RowKit
set_option linter.unusedSimpArgs false
set_option linter.unusedVariables false
set_option maxRecDepth 100000

theorem Wk.dom {ls ls' : List Lk} (h : ∀ x y c, Adj ls x y c → ∃ c', c' ≤ c ∧ Adj ls' x y c') {u v k : Nat} {s : Int} (w : Wk ls u k v s) : ∃ s', s' ≤ s ∧ Wk ls' u k v s' := by
  induction w with
  | nil => exact ⟨0, Int.le_refl _, .nil⟩
  | step _ ha ih =>
    obtain ⟨s', h1, h2⟩ := ih
    obtain ⟨c', h3, h4⟩ := h _ _ _ ha
    exact ⟨s' + c', by omega, h2.step h4⟩
section
variable {N : Nat} {la lb : List Lk}
/-- A link of the grid is a link of two nodes, both ways. -/
theorem adj_grid {f : Nat → Nat → Option Int} {x y : Nat} {c : Int} : Adj (grid f N) x y c ↔ (x < y ∧ y < N ∧ f x y = some c) ∨ (y < x ∧ x < N ∧ f y x = some c) := by
  constructor
  · rintro ⟨l, hl, rfl, h⟩
    obtain ⟨a, b, c, h1, h2, h3, rfl⟩ := mem_grid.1 hl
    dsimp only at h ⊢
    rcases h with ⟨e1, e2⟩ | ⟨e1, e2⟩
    · obtain rfl : a = x := by omega
      obtain rfl : b = y := by omega
      exact .inl ⟨h1, h2, h3⟩
    · obtain rfl : a = y := by omega
      obtain rfl : b = x := by omega
      exact .inr ⟨h1, h2, h3⟩
  · rintro (⟨h1, h2, h3⟩ | ⟨h1, h2, h3⟩)
    · exact ⟨⟨x, y, c⟩, mem_grid.2 ⟨x, y, c, h1, h2, h3, rfl⟩, rfl, .inl ⟨rfl, rfl⟩⟩
    · exact ⟨⟨y, x, c⟩, mem_grid.2 ⟨y, x, c, h1, h2, h3, rfl⟩, rfl, .inr ⟨rfl, rfl⟩⟩
theorem adj_lc (g : GV N la) {x y : Nat} {c : Int} : Adj la x y c ↔ (x < y ∧ y < N ∧ lc la x y = some c) ∨ (y < x ∧ x < N ∧ lc la y x = some c) := by
  have := adj_grid (N := N) (f := fun a b => lc la a b) (x := x) (y := y) (c := c)
  rwa [g.grid] at this
theorem joinF_a {x y : Nat} {c : Int} (h : lc la x y = some c) : ∃ c', c' ≤ c ∧ joinF la lb x y = some c' := by
  unfold joinF
  rw [h]
  cases lc lb x y with
  | none => exact ⟨c, Int.le_refl _, rfl⟩
  | some d => exact ⟨min c d, by omega, rfl⟩
theorem adj_a (ga : GV N la) {x y : Nat} {c : Int} (h : Adj la x y c) : ∃ c', c' ≤ c ∧ Adj (grid (joinF la lb) N) x y c' := by
  rcases (adj_lc ga).1 h with ⟨h1, h2, h3⟩ | ⟨h1, h2, h3⟩
  · obtain ⟨c', q1, q2⟩ := joinF_a (lb := lb) h3
    exact ⟨c', q1, adj_grid.2 (.inl ⟨h1, h2, q2⟩)⟩
  · obtain ⟨c', q1, q2⟩ := joinF_a (lb := lb) h3
    exact ⟨c', q1, adj_grid.2 (.inr ⟨h1, h2, q2⟩)⟩
theorem grid_symm : grid (joinF la lb) N = grid (joinF lb la) N := grid_congr fun a b _ _ => joinF_symm la lb a b
theorem adj_b (gb : GV N lb) {x y : Nat} {c : Int} (h : Adj lb x y c) : ∃ c', c' ≤ c ∧ Adj (grid (joinF la lb) N) x y c' := by
  rw [grid_symm]; exact adj_a gb h
/-- What two areas reach over a node, the joined graph reaches. -/
theorem join_le (ga : GV N la) (gb : GV N lb) (h14 : (grid (joinF la lb) N).length ≤ 14) {f t j : Nat} (hf : f < N) (ht : t < N) (hj : j < N) (h1 : 0 ≤ iz (dists N la f) j) (h2 : 0 ≤ iz (dists N lb t) j) : 0 ≤ iz (dists N (grid (joinF la lb) N) f) t ∧ iz (dists N (grid (joinF la lb) N) f) t ≤ iz (dists N la f) j + iz (dists N lb t) j := by
  obtain ⟨k1, w1⟩ := dists_walk ga hf hj h1
  obtain ⟨k2, w2⟩ := dists_walk gb ht hj h2
  obtain ⟨s1, q1, w1⟩ := w1.dom (ls' := grid (joinF la lb) N) fun x y c h => adj_a ga h
  obtain ⟨s2, q2, w2⟩ := w2.dom (ls' := grid (joinF la lb) N) fun x y c h => adj_b gb h
  have := dists_le (join_gv ga gb h14) hf (w1.append w2.symm)
  omega
end
theorem tmodN (a n : Nat) : Int.tmod (a : Int) (n : Int) = ((a % n : Nat) : Int) := by
  rw [Int.tmod_eq_emod_of_nonneg (by omega)]
  rfl
theorem tdiv8 (a : Nat) : wrap64 (Int.tdiv (a : Int) 8) = ((a / 8 : Nat) : Int) ∨ 4611686018427387904 < a := by
  by_cases h : a ≤ 4611686018427387904
  · left
    rw [Int.tdiv_eq_ediv_of_nonneg (by omega), w64 (by omega) (by omega)]
    omega
  · right; omega
theorem law_AreaNotShorter {c d : List Int} (hz : ∀ z ∈ c, 0 ≤ z ∧ z < 256) : sh_laws_FnAreaNotShorter (c, d, ()) = some (true, ()) := by
  unfold sh_laws_FnAreaNotShorter
  dsimp only
  refine Sat.out (Sat.ite (fun _ => .some rfl) (fun hlen => ?_))
  have hc : Cod c := cod_of hz hlen
  refine Sat.ite (fun _ => .some rfl) (fun hld => ?_)
  refine Sat.bnd (d_AreaJoin hc) ?_
  rintro _ ⟨n, m, bs, la, lb, rfl, hbs, hla, hlb, hn1, hn2, hm1, hm2⟩
  dsimp only
  have fa : Fits la := fits_of hla (by omega)
  have fb : Fits lb := fits_of hlb (by omega)
  have fs : Fits bs := fits_of hbs (by omega)
  rw [e_AreaJoin n m fa fb fs, e_sAreaJoin n m fa fb fs]
  dsimp only [Option.bind_some]
  rw [e_sameGraph _ _ (fits_of (joinR_len n m la lb bs) (by omega))]
  dsimp only [Option.bind_some]
  refine Sat.no (by simp) (Sat.no rfl (Sat.ite (fun hno => Sat.gd (by simp) (.some rfl)) (fun hok => ?_)))
  have hok : (joinR n la m lb bs).2.2 = true := by simpa using hok
  have hld := of_decide_eq_false hld
  have hj := joinOk_t (joinR_ok hok)
  rw [joinR_yes (joinR_ok hok)]
  obtain ⟨N, rfl, rfl, ga, gb, v1, v2, hcl, h14⟩ := hj
  rw [Int.toNat_natCast]
  have h8 := ga.2.1
  have hN : 0 < N := by have := ga.1; omega
  rw [nI_eq] at hld ⊢
  have e8 : wrap64 (Int.tdiv (d.length : Int) 8) = ((d.length / 8 : Nat) : Int) := (tdiv8 d.length).resolve_right (by omega)
  rw [e8, tmodN, tmodN]
  clear e8
  have hf : d.length % N < N := Nat.mod_lt _ hN
  have ht : d.length / 8 % N < N := Nat.mod_lt _ hN
  generalize d.length % N = f at *
  generalize d.length / 8 % N = t at *
  refine Sat.gd (by simp; omega) (Sat.gd (by simp; omega) ?_)
  rw [e_AreaRoute _ _ _ _ _ _ _ fa fb fs]
  dsimp only [Option.bind_some]
  refine Sat.ite (fun _ => .some rfl) (fun hr => ?_)
  have hr := of_decide_eq_false hr
  obtain ⟨F, T, e1, e2, hR⟩ := routeOk_t (route_pos (show 0 ≤ (route N la N lb bs f t).1 by omega))
  obtain rfl : f = F := by omega
  obtain rfl : t = T := by omega
  obtain ⟨i, j, hi, hij, q1, q2, q3, q4⟩ := route_over2 hR (by omega)
  have hjN : j < N := by have := (hR.aa i hi).2.1; omega
  have := join_le ga gb h14 hf ht hjN q3 q4
  rw [e_dist (join_gv ga gb h14) hf ht]
  dsimp only [Option.bind_some]
  refine Sat.gd (decide_eq_true this.1) (.some ?_)
  rw [decide_eq_true (show iz (dists N (grid (joinF la lb) N) f) t ≤ (route N la N lb bs f t).2 by omega)]
/-! ### One border node -/
section
variable {N : Nat} {la lb : List Lk} {β : Nat}
theorem busy_lc (ga : GV N la) {x y : Nat} {c : Int} (h : Adj la x y c) : busy la x = true ∧ busy la y = true := by
  obtain ⟨l, hl, _, h⟩ := h
  unfold busy
  constructor
  · exact List.any_eq_true.2 ⟨l, hl, by unfold isEnd; exact decide_eq_true (by omega)⟩
  · exact List.any_eq_true.2 ⟨l, hl, by unfold isEnd; exact decide_eq_true (by omega)⟩
theorem clean_one (h : clean la lb [(β : Int)] N = true) {x : Nat} (hx : x < N) (hb : x ≠ β) (h1 : busy la x = true) : busy lb x = false := by
  unfold clean at h
  have := List.all_eq_true.1 h x (List.mem_range.2 hx)
  unfold clash at this
  have e : ([(β : Int)] : List Int).contains (x : Int) = false := by simp; omega
  rw [e, h1] at this
  cases hb : busy lb x with
  | false => rfl
  | true => rw [hb] at this; cases this
/-- A link of the joined graph belongs to one of the areas. -/
theorem adj_one (ga : GV N la) (gb : GV N lb) (x y : Nat) {c : Int} (h : Adj (grid (joinF la lb) N) x y c) : Adj la x y c ∨ Adj lb x y c := by
  have key : ∀ a b : Nat, joinF la lb a b = some c → lc la a b = some c ∨ lc lb a b = some c := fun a b h => by
    unfold joinF at h
    split at h
    · rename_i p q e1 e2
      injection h with h
      rcases (show c = p ∨ c = q by omega) with rfl | rfl
      · exact .inl e1
      · exact .inr e2
    · rename_i p e1 e2
      injection h with h
      subst h
      exact .inl e1
    · exact .inr h
  rcases adj_grid.1 h with ⟨h1, h2, h3⟩ | ⟨h1, h2, h3⟩
  · exact (key x y h3).imp (fun h => (adj_lc ga).2 (.inl ⟨h1, h2, h⟩)) (fun h => (adj_lc gb).2 (.inl ⟨h1, h2, h⟩))
  · exact (key y x h3).imp (fun h => (adj_lc ga).2 (.inr ⟨h1, h2, h⟩)) (fun h => (adj_lc gb).2 (.inr ⟨h1, h2, h⟩))
theorem adj_ltN (ga : GV N la) {x y : Nat} {c : Int} (h : Adj la x y c) : x < N ∧ y < N := h.lt ga.ends
theorem single_walk (ga : GV N la) (gb : GV N lb) (hc : clean la lb [(β : Int)] N = true) {f : Nat} (hf : f < N) (hfa : f = β ∨ busy la f = true) {k v : Nat} {s : Int} (w : Wk (grid (joinF la lb) N) f k v s) : (v = β → ∃ k1 s1, s1 ≤ s ∧ Wk la f k1 β s1) ∧ (v ≠ β → busy lb v = true → ∃ k1 s1 k2 s2, s1 + s2 ≤ s ∧ Wk la f k1 β s1 ∧ Wk lb β k2 v s2) ∧ (v ≠ β → busy lb v = false → ∃ k1 s1, s1 ≤ s ∧ Wk la f k1 v s1) := by
  induction w with
  | nil =>
    refine ⟨fun e => ⟨0, 0, Int.le_refl _, by rw [← e]; exact .nil⟩, fun hn hb => ?_, fun _ _ => ⟨0, 0, Int.le_refl _, .nil⟩⟩
    have := clean_one hc hf hn (hfa.resolve_left hn)
    rw [hb] at this; cases this
  | @step k v x s c hw ha ih =>
    obtain ⟨i1, i2, i3⟩ := ih
    rcases adj_one ga gb _ _ ha with h | h
    · obtain ⟨bv, bx⟩ := busy_lc ga h
      obtain ⟨lv, lx⟩ := adj_ltN ga h
      have hva : ∃ k1 s1, s1 ≤ s ∧ Wk la f k1 v s1 := by
        by_cases e : v = β
        · obtain ⟨k1, s1, q1, q2⟩ := i1 e
          exact ⟨k1, s1, q1, by rw [e]; exact q2⟩
        · exact i3 e (clean_one hc lv e bv)
      obtain ⟨k1, s1, q1, q2⟩ := hva
      refine ⟨fun e => ⟨k1 + 1, s1 + c, by omega, by rw [← e]; exact q2.step h⟩, fun hn hb => ?_, fun _ _ => ⟨k1 + 1, s1 + c, by omega, q2.step h⟩⟩
      have := clean_one hc lx hn bx
      rw [hb] at this; cases this
    · obtain ⟨bv, bx⟩ := busy_lc gb h
      obtain ⟨lv, lx⟩ := adj_ltN gb h
      have hcost : 0 ≤ c := by
        have := (Wk.one h).cost gb.cheap
        omega
      have hvb : ∃ k1 s1 k2 s2, s1 + s2 ≤ s ∧ Wk la f k1 β s1 ∧ Wk lb β k2 v s2 := by
        by_cases e : v = β
        · obtain ⟨k1, s1, q1, q2⟩ := i1 e
          exact ⟨k1, s1, 0, 0, by omega, q2, by rw [e]; exact .nil⟩
        · exact i2 e bv
      obtain ⟨k1, s1, k2, s2, q1, q2, q3⟩ := hvb
      refine ⟨fun e => ⟨k1, s1, ?_, q2⟩, fun hn hb => ⟨k1, s1, k2 + 1, s2 + c, by omega, q2, q3.step h⟩, fun hn hb => ?_⟩
      · have := q3.cost gb.cheap
        omega
      · rw [bx] at hb; cases hb
theorem join_one (ga : GV N la) (gb : GV N lb) (h14 : (grid (joinF la lb) N).length ≤ 14) (hc : clean la lb [(β : Int)] N = true) (hβ : β < N) {f t : Nat} (hf : f < N) (ht : t < N) (hfa : f = β ∨ busy la f = true) (htb : t = β ∨ busy lb t = true) : iz (dists N (grid (joinF la lb) N) f) t = if 0 ≤ iz (dists N la f) β ∧ 0 ≤ iz (dists N lb t) β then iz (dists N la f) β + iz (dists N lb t) β else -1 := by
  have g := join_gv ga gb h14
  have low := dists_low g.cheap hf t
  have key : 0 ≤ iz (dists N (grid (joinF la lb) N) f) t → 0 ≤ iz (dists N la f) β ∧ 0 ≤ iz (dists N lb t) β ∧ iz (dists N la f) β + iz (dists N lb t) β ≤ iz (dists N (grid (joinF la lb) N) f) t := fun h0 => by
    obtain ⟨k, w⟩ := dists_walk g hf ht h0
    obtain ⟨i1, i2, i3⟩ := single_walk ga gb hc hf hfa w
    by_cases e : t = β
    · subst e
      obtain ⟨k1, s1, q1, q2⟩ := i1 rfl
      have d1 := dists_le ga hf q2
      have d2 := dists_self gb.cheap ht
      rw [d2]
      omega
    · obtain ⟨k1, s1, k2, s2, q1, q2, q3⟩ := i2 e (htb.resolve_left e)
      have d1 := dists_le ga hf q2
      have d2 := dists_le gb ht q3.symm
      omega
  split
  · rename_i h
    have := join_le ga gb h14 hf ht hβ h.1 h.2
    have := key this.1
    omega
  · rename_i h
    by_cases h0 : 0 ≤ iz (dists N (grid (joinF la lb) N) f) t
    · have := key h0
      exact absurd ⟨this.1, this.2.1⟩ h
    · omega
end
theorem busy_nb {N : Nat} {ls : List Lk} (g : GV N ls) {x : Nat} (hx : x < N) : sh_impl_GraphNeighbours ((N : Int), ls, (x : Int), ()) = some (sortI (others ls x ls.length), ()) := by
  have hi : inB (x : Int) 0 ((N : Int) - 1) = true := inB_mk (by omega)
  rw [e_GraphNeighbours _ _ _ (fits_of g.2.2.1 (by omega)), show gv (N : Int) ls = true from decide_eq_true g, hi]
  rfl
theorem nb_zero {ls : List Lk} {x : Int} : decide (((sortI (others ls x ls.length)).length : Int) = 0) = !busy ls x := by
  rw [← busy_i]
  by_cases h : ((sortI (others ls x ls.length)).length : Int) = 0
  · rw [decide_eq_true h, decide_eq_false (by omega)]; rfl
  · rw [decide_eq_false h, decide_eq_true (by omega)]; rfl
theorem route_one {N f t β : Nat} {la lb : List Lk} (ga : GV N la) (gb : GV N lb) (hβ : β < N) (hf : f < N) (ht : t < N) : (route N la N lb [(β : Int)] f t).2 = if 0 ≤ iz (dists N la f) β ∧ 0 ≤ iz (dists N lb t) β then iz (dists N la f) β + iz (dists N lb t) β else -1 := by
  have hA : Asc [(β : Int)] N := fun i hi => by
    have : i = 0 := by simpa using hi
    subst this
    exact ⟨by simp [iz], by simp [iz]; omega, fun h => by omega⟩
  have va : gv (N : Int) la = true := decide_eq_true ga
  have vb : gv (N : Int) lb = true := decide_eq_true gb
  have bv1 : bv (N : Int) la [(β : Int)] = true := by simp [bv, va, asc, hA]
  have bv2 : bv (N : Int) lb [(β : Int)] = true := by simp [bv, vb, asc, hA]
  have i1 : inB (f : Int) 0 ((N : Int) - 1) = true := inB_mk (by omega)
  have i2 : inB (t : Int) 0 ((N : Int) - 1) = true := inB_mk (by omega)
  have hR : ROk N N f t la lb [(β : Int)] := ⟨va, vb, ga, gb, hA, hA, by simp, hf, ht, summ_ok bv1 i1 rfl, summ_ok bv2 i2 rfl⟩
  rw [route_eq hR]
  show (rtStep [(β : Int)] _ _ (-1, -1) 0).2 = _
  have s1 : iz (summ N la [(β : Int)] f) 0 = iz (dists N la f) β := by rw [hR.one]; exact iz_summL (by simp) rfl
  have s2 : iz (summ N lb [(β : Int)] t) 0 = iz (dists N lb t) β := by rw [hR.two]; exact iz_summL (by simp) rfl
  unfold rtStep goB
  rw [s1, s2]
  by_cases h1 : 0 ≤ iz (dists N la f) β
  · by_cases h2 : 0 ≤ iz (dists N lb t) β
    · simp [h1, h2]
    · simp [h1, h2]
  · simp [h1]
theorem law_AreaSingle {c d : List Int} (hz : ∀ z ∈ c, 0 ≤ z ∧ z < 256) : sh_laws_FnAreaSingle (c, d, ()) = some (true, ()) := by
  unfold sh_laws_FnAreaSingle
  dsimp only
  refine Sat.out (Sat.ite (fun _ => .some rfl) (fun hlen => ?_))
  have hc : Cod c := cod_of hz hlen
  refine Sat.ite (fun _ => .some rfl) (fun hld => ?_)
  refine Sat.bnd (d_AreaJoin hc) ?_
  rintro _ ⟨n, m, bs, la, lb, rfl, hbs, hla, hlb, hn1, hn2, hm1, hm2⟩
  dsimp only
  have fa : Fits la := fits_of hla (by omega)
  have fb : Fits lb := fits_of hlb (by omega)
  have fs : Fits bs := fits_of hbs (by omega)
  rw [e_AreaJoin n m fa fb fs, e_sAreaJoin n m fa fb fs]
  dsimp only [Option.bind_some]
  rw [e_sameGraph _ _ (fits_of (joinR_len n m la lb bs) (by omega))]
  dsimp only [Option.bind_some]
  refine Sat.no (by simp) (Sat.no rfl (Sat.ite (fun hno => Sat.gd (by simp) (.some rfl)) (fun hok => ?_)))
  have hok : (joinR n la m lb bs).2.2 = true := by simpa using hok
  have hld := of_decide_eq_false hld
  have hj := joinOk_t (joinR_ok hok)
  rw [joinR_yes (joinR_ok hok)]
  obtain ⟨N, rfl, rfl, ga, gb, v1, v2, hcl, h14⟩ := hj
  rw [Int.toNat_natCast]
  have h8 := ga.2.1
  have hN : 0 < N := by have := ga.1; omega
  rw [nI_eq, nI_eq] at *
  refine Sat.ite (fun _ => .some rfl) (fun hb1 => ?_)
  have hb1 : ((bs.length : Nat) : Int) = 1 := by simpa using hb1
  have hA := (bv_t v1).2.2 0 (by omega)
  obtain ⟨β, rfl⟩ : ∃ β : Nat, bs = [(β : Int)] := by
    match bs, hb1 with
    | [b], _ =>
      simp only [iz, List.getD_cons_zero] at hA
      exact ⟨b.toNat, by rw [show ((b.toNat : Nat) : Int) = b by omega]⟩
    | [], h => simp at h
    | _ :: _ :: _, h => simp at h; omega
  have hβ : β < N := by simp only [iz, List.getD_cons_zero] at hA; omega
  have e8 : wrap64 (Int.tdiv (d.length : Int) 8) = ((d.length / 8 : Nat) : Int) := (tdiv8 d.length).resolve_right (by omega)
  simp only [e8, tmodN]
  clear e8
  have hf : d.length % N < N := Nat.mod_lt _ hN
  have ht : d.length / 8 % N < N := Nat.mod_lt _ hN
  generalize d.length % N = f at *
  generalize d.length / 8 % N = t at *
  refine Sat.gd (by simp; omega) (Sat.gd (by simp; omega) (Sat.gd rfl ?_))
  have e0 : at! .int [(β : Int)] (Int.toNat 0) = (β : Int) := rfl
  have fin : (f = β ∨ busy la f = true) → (t = β ∨ busy lb t = true) → Sat ((sh_impl_AreaRoute ((N : Int), la, (N : Int), lb, [(β : Int)], (f : Int), (t : Int), ())).bind fun r10 => (sh_laws_dist ((N : Int), grid (joinF la lb) N, (f : Int), (t : Int), ())).bind fun r11 => some (decide (r10.2.1 = r11.1), ())) (· = (true, ())) := fun h1 h2 => by
    rw [e_AreaRoute _ _ _ _ _ _ _ fa fb fs, e_dist (join_gv ga gb h14) hf ht]
    dsimp only [Option.bind_some]
    refine .some ?_
    rw [route_one ga gb hβ hf ht, join_one ga gb h14 hcl hβ hf ht h1 h2, decide_eq_true rfl]
  rw [e0, busy_nb ga hf, busy_nb gb ht]
  dsimp only [Option.bind_some]
  rw [nI_eq, nI_eq, nb_zero, nb_zero]
  refine Sat.ite (fun h1 => ?_) (fun h1 => ?_)
  · refine Sat.ite (fun _ => .some rfl) (fun h2 => Sat.gd rfl (Sat.ite (fun h3 => Sat.ite (fun _ => .some rfl) (fun h4 => ?_)) (fun h3 => ?_)))
    · exact fin (.inr (by simpa using h2)) (.inr (by simpa using h4))
    · exact fin (.inr (by simpa using h2)) (.inl (by simp at h3; omega))
  · refine Sat.gd rfl (Sat.ite (fun h3 => Sat.ite (fun _ => .some rfl) (fun h4 => ?_)) (fun h3 => ?_))
    · exact fin (.inl (by simp at h1; omega)) (.inr (by simpa using h4))
    · exact fin (.inl (by simp at h1; omega)) (.inl (by simp at h3; omega))
/-! ### An area joined with itself -/
def allN (n : Nat) : List Int := (List.range n).map fun i : Nat => (i : Int)
theorem allN_len (n : Nat) : (allN n).length = n := by simp [allN]
theorem allN_succ (n : Nat) : allN (n + 1) = allN n ++ [(n : Int)] := by simp [allN, List.range_succ]
theorem allN_iz {n i : Nat} (h : i < n) : iz (allN n) i = i := iz_of (by simp [allN, h])
theorem join_self {N : Nat} {ls : List Lk} (g : GV N ls) : joinR N ls N ls (allN N) = ((N : Int), ls, true) := by
  have hA : Asc (allN N) N := fun i hi => by
    rw [allN_len] at hi
    rw [allN_iz hi]
    refine ⟨by omega, by omega, fun h => ?_⟩
    rw [allN_iz (show i - 1 < N by omega)]
    omega
  have va : gv (N : Int) ls = true := decide_eq_true g
  have hb : bv (N : Int) ls (allN N) = true := by
    have := g.1
    simp [bv, va, asc, hA, allN_len]
    omega
  have hc : clean ls ls (allN N) N = true := clean_of fun k hk => by
    unfold clash
    have : (allN N).contains (k : Int) = true := by
      rw [List.contains_eq_mem]
      exact decide_eq_true (List.mem_map.2 ⟨k, List.mem_range.2 hk, rfl⟩)
    rw [this]; rfl
  have hgr : grid (joinF ls ls) N = ls := by
    rw [← g.grid]
    conv => rhs; rw [← g.grid]
    refine grid_congr fun a b _ _ => ?_
    rw [g.grid]
    unfold joinF
    cases lc ls a b <;> simp
  have h14 := g.2.2.1
  have hok : joinOk N ls N ls (allN N) = true := by
    simp only [joinOk, hb, hc, decide_true, Bool.and_self, Int.toNat_natCast, hgr, Bool.true_and, decide_eq_true_eq]
    exact h14
  rw [joinR_yes hok, Int.toNat_natCast, hgr]
theorem law_AreaJoinSame {c : List Int} (hz : ∀ z ∈ c, 0 ≤ z ∧ z < 256) : sh_laws_FnAreaJoinSame (c, ()) = some (true, ()) := by
  unfold sh_laws_FnAreaJoinSame
  dsimp only
  refine Sat.out (Sat.ite (fun _ => .some rfl) (fun hlen => ?_))
  have hc : Cod c := cod_of hz hlen
  refine Sat.bnd (d_AreaSummary hc) ?_
  rintro _ ⟨n, bs, t, ls, rfl, q1, q2, q3, q4, q5, q6⟩
  dsimp only
  have fl : Fits ls := fits_of q2 (by omega)
  have fs : Fits bs := fits_of q1 (by omega)
  rw [e_AreaSummary n t ls bs fl fs, e_sAreaSummary n t ls bs fl fs]
  dsimp only [Option.bind_some]
  rw [e_sameInts _ (fits_of (Nat.le_trans summ_len q1) (by omega))]
  dsimp only [Option.bind_some]
  refine Sat.no rfl (Sat.ite (fun _ => .some rfl) (fun hs => ?_))
  rw [nI_eq] at hs
  have hs := of_decide_eq_false hs
  have hv : bv n ls bs = true := by
    rcases cs_bool (bv n ls bs) with h | h
    · rw [summ_no (by rw [h]; rfl)] at hs; simp at hs
    · exact h
  obtain ⟨N, rfl, g⟩ := gv_nat (bv_gv hv)
  have h8 := g.2.1
  refine Sat.bnd (R := fun r => match r with | .inl x => x = ((N : Int), allN N, ls, ()) | .inr _ => False) ?_ ?_
  · refine Sat.count N (fun k s => s = ((k : Int), (N : Int), allN k, ls, ())) ?_ (Nat.zero_le _) (fuel_lt (by omega)) rfl
    rintro k s hk rfl
    have hl := allN_len k
    simp (disch := omega) only [bo_laws_FnAreaJoinSame_10, w64, List.length_singleton]
    repeat' (first
      | refine Sat.some ?_
      | (refine Sat.gd (decide_eq_true (by omega)) ?_)
      | (refine Sat.gd (by first | exact inR_t (by omega) (by omega) | (simp (disch := omega) only [w64]; exact inR_t (by omega) (by omega))) ?_)
      | (refine Sat.ite (fun h => ?_) (fun h => ?_) <;> try simp only [decide_eq_true_eq, decide_eq_false_iff_not, Bool.not_eq_true', Bool.not_eq_false', inB_i, inB_j, Bool.and_eq_true, Bool.or_eq_true, Bool.and_eq_false_iff, Bool.or_eq_false_iff, El] at h))
    all_goals try dsimp only
    · exact ⟨by omega, by rw [allN_succ]; rfl⟩
    · obtain rfl : k = N := by omega
      rfl
  · rintro (r | r) hr
    case inr => exact hr.elim
    obtain rfl := hr
    dsimp only
    rw [e_AreaJoin _ _ fl fl (show Fits (allN N) by unfold Fits; rw [allN_len]; omega), join_self g]
    dsimp only [Option.bind_some]
    refine Sat.gd rfl ?_
    rw [e_sameGraph _ _ fl]
    exact .some rfl
end Go.Proofs.Ytjdebphkndfolaa
