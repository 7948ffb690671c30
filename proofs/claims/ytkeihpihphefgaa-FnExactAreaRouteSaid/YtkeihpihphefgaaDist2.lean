/- Plain laws of distances: from itself 0, and from no other. No program is named here. -/
import Derived.Test.YtkeihpihphefgaaDist
namespace Go.Proofs.Ytkeihpihphefgaa
open Go.RowKit

structure Src (d : List Int) (f : Nat) : Prop where
  zero : iz d f = 0
  low : ∀ j, -1 ≤ iz d j
  only : ∀ j, j < d.length → iz d j = 0 → j = f
theorem Src.relax {d : List Int} {f : Nat} (h : Src d f) (x y : Nat) (c : Int) (hc : 1 ≤ c) : Src (relax d x y c) f := by
  unfold Go.Proofs.Ytkeihpihphefgaa.relax
  split
  · rename_i hb
    unfold relaxB at hb
    simp only [Bool.and_eq_true, Bool.or_eq_true, decide_eq_true_eq] at hb
    rcases Nat.lt_or_ge y d.length with hy | hy
    · have hyf : y ≠ f := by rintro rfl; have := h.zero; omega
      refine ⟨?_, fun j => ?_, fun j hj hz => ?_⟩
      · rw [iz_set _ _ _ _ hy, if_neg (fun e => hyf e.symm)]; exact h.zero
      · rw [iz_set _ _ _ _ hy]; have := h.low j; split <;> omega
      · rw [List.length_set] at hj
        rw [iz_set _ _ _ _ hy] at hz
        split at hz
        · omega
        · exact h.only j hj hz
    · rw [List.set_eq_of_length_le hy]; exact h
  · exact h
theorem Src.fold {f : Nat} (ls : List Lk) {d : List Int} (h : Src d f) (hc : Cheap ls) : Src (ls.foldl relaxL d) f := by
  induction ls generalizing d with
  | nil => exact h
  | cons l r ih =>
    have h1 := (hc l (List.mem_cons_self ..)).1
    exact ih ((h.relax _ _ _ h1).relax _ _ _ h1) (fun l' h' => hc l' (List.mem_cons_of_mem _ h'))
theorem Src.rounds {f : Nat} (ls : List Lk) {d : List Int} (h : Src d f) (hc : Cheap ls) (k : Nat) : Src (rounds ls d k) f := by
  induction k with
  | zero => exact h
  | succ k ih => exact ih.fold ls hc
theorem Src.init {n f : Nat} (hf : f < n) : Src (dinit n f) f := by
  have hr : ∀ j, j < n → iz (List.replicate n (-1)) j = -1 := by
    intro j hj
    simp [iz, List.getD, hj]
  refine ⟨?_, fun j => (dinit_bd n f j).1, fun j hj hz => ?_⟩
  · unfold dinit; rw [iz_set _ _ _ _ (by simpa using hf), if_pos rfl]
  · rw [dinit_len] at hj
    unfold dinit at hz
    rw [iz_set _ _ _ _ (by simpa using hf)] at hz
    split at hz
    · assumption
    · rw [hr j hj] at hz; omega
theorem dists_src {n f : Nat} {ls : List Lk} (hc : Cheap ls) (hf : f < n) : Src (dists n ls f) f := (Src.init hf).rounds ls hc n
theorem dists_self {n f : Nat} {ls : List Lk} (hc : Cheap ls) (hf : f < n) : iz (dists n ls f) f = 0 := (dists_src hc hf).zero
theorem dists_only {n f j : Nat} {ls : List Lk} (hc : Cheap ls) (hf : f < n) (hj : j < n) (h : iz (dists n ls f) j = 0) : j = f := (dists_src hc hf).only j (by rw [dists_len]; exact hj) h
theorem dists_low {n f : Nat} {ls : List Lk} (hc : Cheap ls) (hf : f < n) (j : Nat) : -1 ≤ iz (dists n ls f) j := (dists_src hc hf).low j
end Go.Proofs.Ytkeihpihphefgaa
