/- Plain laws of routes between areas. -/
import Derived.Test.YtkeihpihphefgaaA2
import Derived.Test.YtkeihpihphefgaaDist2
namespace Go.Proofs.Ytkeihpihphefgaa
open Go.RowKit

/-- What routeOk says, in whole numbers. -/
structure ROk (na nb f t : Nat) (la lb : List Lk) (bs : List Int) : Prop where
  va : gv na la = true
  vb : gv nb lb = true
  ga : GV na la
  gb : GV nb lb
  aa : Asc bs na
  ab : Asc bs nb
  pos : 0 < bs.length
  hf : f < na
  ht : t < nb
  one : summ na la bs f = summL (dists na la f) bs bs.length
  two : summ nb lb bs t = summL (dists nb lb t) bs bs.length
theorem routeOk_t {na nb : Nat} {f t : Int} {la lb : List Lk} {bs : List Int} (h : routeOk na la nb lb bs f t = true) : ∃ F T : Nat, f = F ∧ t = T ∧ ROk na nb F T la lb bs := by
  unfold routeOk at h
  simp only [Bool.and_eq_true] at h
  obtain ⟨⟨h1, h2⟩, h3, h4⟩ := h
  obtain ⟨g1, p, a1⟩ := bv_t h1
  obtain ⟨g2, _, a2⟩ := bv_t h3
  have i1 := inB_t h2
  have i2 := inB_t h4
  obtain ⟨F, rfl⟩ := Int.eq_ofNat_of_zero_le i1.1
  obtain ⟨T, rfl⟩ := Int.eq_ofNat_of_zero_le i2.1
  have v1 : gv na la = true := by simp only [bv, Bool.and_eq_true] at h1; exact h1.1.1
  have v2 : gv nb lb = true := by simp only [bv, Bool.and_eq_true] at h3; exact h3.1.1
  exact ⟨F, T, rfl, rfl, v1, v2, g1, g2, a1, a2, p, by omega, by omega, summ_ok h1 h2 rfl, summ_ok h3 h4 rfl⟩
theorem ROk.ok {na nb f t : Nat} {la lb : List Lk} {bs : List Int} (h : ROk na nb f t la lb bs) : routeOk na la nb lb bs f t = true := by
  have i1 : inB (f : Int) 0 ((na : Int) - 1) = true := inB_mk (by have := h.hf; omega)
  have i2 : inB (t : Int) 0 ((nb : Int) - 1) = true := inB_mk (by have := h.ht; omega)
  simp [routeOk, bv, h.va, h.vb, i1, i2, h.pos, asc, h.aa, h.ab]
theorem route_eq {na nb f t : Nat} {la lb : List Lk} {bs : List Int} (h : ROk na nb f t la lb bs) : route na la nb lb bs f t = rtN bs (summ na la bs f) (summ nb lb bs t) bs.length := by unfold route; rw [if_pos h.ok]
theorem route_pos {na nb : Nat} {f t : Int} {la lb : List Lk} {bs : List Int} (h : 0 ≤ (route na la nb lb bs f t).1) : routeOk na la nb lb bs f t = true := by
  rcases cs_bool (routeOk na la nb lb bs f t) with y | y
  · unfold route at h; rw [y] at h; simp at h
  · exact y
/-- The pair is that of some border node, or there is none. -/
theorem rtN_mem (bs one two : List Int) (k : Nat) : rtN bs one two k = (-1, -1) ∨ ∃ i, i < k ∧ rtN bs one two k = (iz bs i, iz one i + iz two i) ∧ 0 ≤ iz one i ∧ 0 ≤ iz two i := by
  induction k with
  | zero => exact .inl rfl
  | succ k ih =>
    unfold rtN rtStep
    split
    · rename_i hg
      unfold goB at hg
      simp only [Bool.and_eq_true, decide_eq_true_eq] at hg
      exact .inr ⟨k, by omega, rfl, hg.1.1, hg.1.2⟩
    · rcases ih with e | ⟨i, hi, e⟩
      · exact .inl e
      · exact .inr ⟨i, by omega, e⟩
theorem asc_lt {bs : List Int} {n : Int} (h : Asc bs n) {i j : Nat} (hij : i < j) (hj : j < bs.length) : iz bs i < iz bs j := by
  have h1 := h.le (i := i) (j - 1 - i) (by omega)
  rw [show i + (j - 1 - i) = j - 1 by omega] at h1
  have := (h j hj).2.2 (by omega)
  omega
/-- No border node is better. -/
theorem rtN_least {bs one two : List Int} {n : Int} (ha : Asc bs n) (k : Nat) (hk : k ≤ bs.length) : ∀ i, i < k → 0 ≤ iz one i → 0 ≤ iz two i →
    0 ≤ (rtN bs one two k).2 ∧ (rtN bs one two k).2 ≤ iz one i + iz two i ∧ (iz one i + iz two i = (rtN bs one two k).2 → (rtN bs one two k).1 ≤ iz bs i) := by
  induction k with
  | zero => intro i hi; omega
  | succ k ih =>
    intro i hi h1 h2
    have ih := ih (by omega)
    unfold rtN rtStep
    split
    · rename_i hg
      unfold goB at hg
      simp only [Bool.and_eq_true, Bool.or_eq_true, decide_eq_true_eq] at hg
      dsimp only
      by_cases e : i = k
      · subst e; omega
      · have := ih i (by omega) h1 h2
        omega
    · rename_i hg
      by_cases e : i = k
      · subst e
        unfold goB at hg
        simp only [Bool.and_eq_true, Bool.or_eq_true, decide_eq_true_eq] at hg
        rcases rtN_mem bs one two i with e | ⟨j, hj, e, _⟩
        · rw [e] at hg; simp at hg; omega
        · have := asc_lt ha hj (by omega)
          have h3 : (rtN bs one two i).1 = iz bs j := by rw [e]
          omega
      · exact ih i (by omega) h1 h2

/-- A route leads over a border node; its cost is the sum. -/
theorem route_over {na nb f t : Nat} {la lb : List Lk} {bs : List Int} (h : ROk na nb f t la lb bs) (hp : 0 ≤ (route na la nb lb bs f t).1) :
    ∃ i j : Nat, i < bs.length ∧ iz bs i = j ∧ j < na ∧ j < nb ∧ (route na la nb lb bs f t).1 = j ∧ (route na la nb lb bs f t).2 = iz (dists na la f) j + iz (dists nb lb t) j := by
  rw [route_eq h] at hp ⊢
  rcases rtN_mem bs (summ na la bs f) (summ nb lb bs t) bs.length with e | ⟨i, hi, e, h1, h2⟩
  · rw [e] at hp; simp at hp
  · have ai := h.aa i hi
    have bi := h.ab i hi
    obtain ⟨j, hj⟩ := Int.eq_ofNat_of_zero_le ai.1
    refine ⟨i, j, hi, hj, by omega, by omega, by rw [e]; exact hj, ?_⟩
    rw [e]
    dsimp only
    rw [h.one, h.two, iz_summL hi hj, iz_summL hi hj]
theorem route_least {na nb f t : Nat} {la lb : List Lk} {bs : List Int} (h : ROk na nb f t la lb bs) {i j : Nat} (hi : i < bs.length) (hj : iz bs i = j) (h1 : 0 ≤ iz (dists na la f) j) (h2 : 0 ≤ iz (dists nb lb t) j) :
    0 ≤ (route na la nb lb bs f t).2 ∧ (route na la nb lb bs f t).2 ≤ iz (dists na la f) j + iz (dists nb lb t) j ∧ (iz (dists na la f) j + iz (dists nb lb t) j = (route na la nb lb bs f t).2 → (route na la nb lb bs f t).1 ≤ j) := by
  rw [route_eq h]
  have := rtN_least (one := summ na la bs f) (two := summ nb lb bs t) h.aa bs.length (Nat.le_refl _) i hi
  rw [h.one, h.two, iz_summL hi hj, iz_summL hi hj, hj] at this
  rw [h.one, h.two]
  exact this h1 h2
/-- A border node needs no detour. -/
theorem route_self {na nb f t : Nat} {la lb : List Lk} {bs : List Int} (h : ROk na nb f t la lb bs) {i j : Nat} (hi : i < bs.length) (hj : iz bs i = j) : route na la nb lb bs j j = ((j : Int), 0) := by
  have ja : j < na := by have := h.aa i hi; omega
  have jb : j < nb := by have := h.ab i hi; omega
  have i1 : inB (j : Int) 0 ((na : Int) - 1) = true := inB_mk (by omega)
  have i2 : inB (j : Int) 0 ((nb : Int) - 1) = true := inB_mk (by omega)
  obtain ⟨_, _, e1, e2, h'⟩ := routeOk_t (na := na) (nb := nb) (la := la) (lb := lb) (bs := bs) (f := j) (t := j) (by simp [routeOk, bv, h.va, h.vb, i1, i2, h.pos, asc, h.aa, h.ab])
  obtain rfl := Int.ofNat.inj e1
  obtain rfl := Int.ofNat.inj e2
  have z1 := dists_self (ls := la) h.ga.cheap ja
  have z2 := dists_self (ls := lb) h.gb.cheap jb
  obtain ⟨l1, l2, l3⟩ := route_least h' hi hj (by omega) (by omega)
  rw [z1, z2] at l2 l3
  have l3 := l3 (by omega)
  have hp : 0 ≤ (route na la nb lb bs j j).1 := by
    rw [route_eq h'] at l1 ⊢
    rcases rtN_bd (n := na) (fun i => summ_low (n := na) (ls := la) (bs := bs) (t := j) i) (fun i => summ_low (n := nb) (ls := lb) (bs := bs) (t := j) i) h.aa bs.length (Nat.le_refl _) with e | e
    · rw [e] at l1; simp at l1
    · exact e.1
  obtain ⟨i', j', hi', hj', ja', jb', e1, e2⟩ := route_over h' hp
  have n1 := dists_low (ls := la) h.ga.cheap ja j'
  have n2 := dists_low (ls := lb) h.gb.cheap jb j'
  have hk : 0 ≤ iz (dists na la j) j' := by
    rw [route_eq h'] at e1 e2
    rcases rtN_mem bs (summ na la bs j) (summ nb lb bs j) bs.length with e | ⟨i2, hi2, e, p1, p2⟩
    · rw [e] at e1; simp at e1
    · rw [e] at e1
      dsimp only at e1
      rw [h'.one, iz_summL hi2 e1] at p1
      exact p1
  have hk2 : 0 ≤ iz (dists nb lb j) j' := by
    rw [route_eq h'] at e1 e2
    rcases rtN_mem bs (summ na la bs j) (summ nb lb bs j) bs.length with e | ⟨i2, hi2, e, p1, p2⟩
    · rw [e] at e1; simp at e1
    · rw [e] at e1
      dsimp only at e1
      rw [h'.two, iz_summL hi2 e1] at p2
      exact p2
  have hz : iz (dists na la j) j' = 0 := by omega
  have := dists_only h.ga.cheap ja ja' hz
  subst this
  exact Prod.ext e1 (by rw [e2, z1, z2]; rfl)
theorem route_over2 {na nb f t : Nat} {la lb : List Lk} {bs : List Int} (h : ROk na nb f t la lb bs) (hp : 0 ≤ (route na la nb lb bs f t).1) :
    ∃ i j : Nat, i < bs.length ∧ iz bs i = j ∧ (route na la nb lb bs f t).1 = j ∧ (route na la nb lb bs f t).2 = iz (dists na la f) j + iz (dists nb lb t) j ∧ 0 ≤ iz (dists na la f) j ∧ 0 ≤ iz (dists nb lb t) j := by
  rw [route_eq h] at hp ⊢
  rcases rtN_mem bs (summ na la bs f) (summ nb lb bs t) bs.length with e | ⟨i, hi, e, h1, h2⟩
  · rw [e] at hp; simp at hp
  · have ai := h.aa i hi
    obtain ⟨j, hj⟩ := Int.eq_ofNat_of_zero_le ai.1
    rw [h.one, iz_summL hi hj] at h1
    rw [h.two, iz_summL hi hj] at h2
    refine ⟨i, j, hi, hj, by rw [e]; exact hj, ?_, h1, h2⟩
    rw [e]
    dsimp only
    rw [h.one, h.two, iz_summL hi hj, iz_summL hi hj]
/-- More border nodes make no route longer. -/
theorem route_single {na nb f t : Nat} {la lb : List Lk} {bs : List Int} (h : ROk na nb f t la lb bs) {i : Nat} (hi : i < bs.length) :
    (route na la nb lb [iz bs i] f t).1 < 0 ∨ (route na la nb lb bs f t).2 ≤ (route na la nb lb [iz bs i] f t).2 := by
  by_cases hp : 0 ≤ (route na la nb lb [iz bs i] f t).1
  · right
    obtain ⟨F, T, e1, e2, h'⟩ := routeOk_t (route_pos hp)
    obtain rfl := Int.ofNat.inj e1
    obtain rfl := Int.ofNat.inj e2
    obtain ⟨i', j, hi', hj, _, e, n1, n2⟩ := route_over2 h' hp
    have hi0 : i' = 0 := by simpa using hi'
    subst hi0
    have hj' : iz bs i = j := by simpa [iz] using hj
    rw [e]
    exact (route_least h hi hj' n1 n2).2.1
  · left; omega
end Go.Proofs.Ytkeihpihphefgaa
