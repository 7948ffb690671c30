/- Plain laws of joined areas: the order of both areas does not matter. -/
import Derived.Test.YtjdebphkndfolaaPb
import Derived.Test.YtjdebphkndfolaaPc
import Derived.Test.YtjdebphkndfolaaSL
namespace Go.Proofs.Ytjdebphkndfolaa
open Go.RowKit
set_option linter.unusedSimpArgs false
set_option linter.unusedVariables false
set_option maxRecDepth 100000

theorem joinOk_t {na nb : Int} {la lb : List Lk} {bs : List Int} (h : joinOk na la nb lb bs = true) : ∃ N : Nat, na = N ∧ nb = N ∧ GV N la ∧ GV N lb ∧ bv N la bs = true ∧ bv N lb bs = true ∧ clean la lb bs N = true ∧ (grid (joinF la lb) N).length ≤ 14 := by
  simp only [joinOk, Bool.and_eq_true, decide_eq_true_eq] at h
  obtain ⟨⟨⟨⟨h1, h2⟩, rfl⟩, h4⟩, h5⟩ := h
  obtain ⟨N, rfl, ga⟩ := gv_nat (bv_gv h1)
  exact ⟨N, rfl, rfl, ga, (bv_t h2).1, h1, h2, h4, h5⟩
theorem joinR_len (na nb : Int) (la lb : List Lk) (bs : List Int) : (joinR na la nb lb bs).2.1.length ≤ 14 := by
  unfold joinR
  split
  · rename_i h
    obtain ⟨N, rfl, _, _, _, _, _, _, h14⟩ := joinOk_t h
    exact h14
  · simp
theorem joinR_yes {na nb : Int} {la lb : List Lk} {bs : List Int} (h : joinOk na la nb lb bs = true) : joinR na la nb lb bs = (na, grid (joinF la lb) na.toNat, true) := by unfold joinR; rw [if_pos h]
theorem joinR_ok {na nb : Int} {la lb : List Lk} {bs : List Int} (h : (joinR na la nb lb bs).2.2 = true) : joinOk na la nb lb bs = true := by
  unfold joinR at h
  split at h
  · assumption
  · cases h
theorem joinF_symm (la lb : List Lk) (a b : Nat) : joinF la lb a b = joinF lb la a b := by
  unfold joinF
  cases lc la a b <;> cases lc lb a b <;> simp [Int.min_comm]
theorem clash_symm (la lb : List Lk) (bs : List Int) (n : Int) : clash la lb bs n = clash lb la bs n := by
  unfold clash
  cases bs.contains n <;> cases busy la n <;> cases busy lb n <;> rfl
theorem joinR_back {na nb : Int} {la lb : List Lk} {bs : List Int} (h : joinOk na la nb lb bs = true) : joinR nb lb na la bs = joinR na la nb lb bs := by
  obtain ⟨N, rfl, rfl, ga, gb, h1, h2, h3, h4⟩ := joinOk_t h
  have e : grid (joinF lb la) N = grid (joinF la lb) N := grid_congr fun a b _ _ => joinF_symm lb la a b
  rw [joinR_yes h]
  have hc : clean lb la bs N = true := by
    unfold clean at *
    simp only [clash_symm lb la]
    exact h3
  have h' : joinOk N lb N la bs = true := by
    simp only [joinOk, h1, h2, decide_true, Bool.and_self, Int.toNat_natCast, hc, Bool.true_and, e, decide_eq_true_eq]
    exact h4
  rw [joinR_yes h', Int.toNat_natCast, e]
theorem fits_of {α : Type} {l : List α} {n : Nat} (h : l.length ≤ n) (hn : n ≤ 4611686018427387904) : Fits l := Nat.le_trans h hn
theorem cod_of {c : List Int} (hz : ∀ z ∈ c, 0 ≤ z ∧ z < 256) (h : decide ((1048576 : Int) < nI c.length) = false) : Cod c := ⟨hz, by have := of_decide_eq_false h; rw [nI_eq] at this; unfold Fits; omega⟩
theorem law_AreaJoinBack {c : List Int} (hz : ∀ z ∈ c, 0 ≤ z ∧ z < 256) : sh_laws_FnAreaJoinBack (c, ()) = some (true, ()) := by
  unfold sh_laws_FnAreaJoinBack
  dsimp only
  refine Sat.out (Sat.ite (fun _ => .some rfl) (fun hlen => ?_))
  have hc : Cod c := cod_of hz hlen
  
  refine Sat.bnd (d_AreaJoin hc) ?_
  rintro _ ⟨n, m, bs, la, lb, rfl, hbs, hla, hlb, hn1, hn2, hm1, hm2⟩
  dsimp only
  have fa : Fits la := fits_of hla (by omega)
  have fb : Fits lb := fits_of hlb (by omega)
  have fs : Fits bs := fits_of hbs (by omega)
  rw [e_AreaJoin n m fa fb fs, e_sAreaJoin n m fa fb fs]
  dsimp only [Option.bind_some]
  rw [e_sameGraph _ _ (fits_of (joinR_len n m la lb bs) (by omega))]
  dsimp only [Option.bind_some]
  refine Sat.no (by simp) (Sat.no rfl (Sat.ite (fun hno => Sat.gd (by simp) (.some rfl)) (fun hok => ?_)))
  have hok : (joinR n la m lb bs).2.2 = true := by simpa using hok
  rw [e_AreaJoin m n fb fa fs, joinR_back (joinR_ok hok)]
  dsimp only [Option.bind_some]
  refine Sat.gd hok ?_
  rw [e_sameGraph _ _ (fits_of (joinR_len n m la lb bs) (by omega))]
  exact .some rfl
end Go.Proofs.Ytjdebphkndfolaa
