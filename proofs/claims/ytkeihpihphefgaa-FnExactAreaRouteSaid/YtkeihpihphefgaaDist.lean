/- Distances as a plain function: Go's own rounds. No program is named here. -/
import Derived.Test.YtkeihpihphefgaaGraph
namespace Go.Proofs.Ytkeihpihphefgaa
open Go.RowKit

def relaxB (d : List Int) (x y : Nat) (c : Int) : Bool := decide (0 ≤ iz d x) && (decide (iz d y < 0) || decide (iz d x + c < iz d y))
def relax (d : List Int) (x y : Nat) (c : Int) : List Int := if relaxB d x y c then d.set y (iz d x + c) else d
def relaxL (d : List Int) (l : Lk) : List Int := relax (relax d l.a.toNat l.b.toNat l.c) l.b.toNat l.a.toNat l.c
def sweep (ls : List Lk) (d : List Int) : List Int := ls.foldl relaxL d
def dinit (n f : Nat) : List Int := (List.replicate n (-1)).set f 0
def rounds (ls : List Lk) (d : List Int) : Nat → List Int
  | 0 => d
  | k + 1 => sweep ls (rounds ls d k)
/-- Behind r rounds and i links of the next. -/
def dst (n : Nat) (ls : List Lk) (f r i : Nat) : List Int := (ls.take i).foldl relaxL (rounds ls (dinit n f) r)
def dists (n : Nat) (ls : List Lk) (f : Nat) : List Int := rounds ls (dinit n f) n

theorem iz_set (d : List Int) (y j : Nat) (v : Int) (hy : y < d.length) : iz (d.set y v) j = if j = y then v else iz d j := by
  unfold iz
  simp only [List.getD, List.getElem?_set]
  by_cases h : y = j
  · subst h; simp [hy]
  · have h' : ¬ j = y := fun e => h e.symm
    simp [h, h']
theorem ints_set (d : List Int) (y : Nat) (v : Int) : (ints d).toArray.setIfInBounds y (.int .i64 v) = (ints (d.set y v)).toArray := by
  simp [ints, List.map_set]
theorem relax_len (d : List Int) (x y : Nat) (c : Int) : (relax d x y c).length = d.length := by unfold relax; split <;> simp
theorem relaxL_len (d : List Int) (l : Lk) : (relaxL d l).length = d.length := by unfold relaxL; rw [relax_len, relax_len]
theorem fold_len (ls : List Lk) (d : List Int) : (ls.foldl relaxL d).length = d.length := by
  induction ls generalizing d with
  | nil => rfl
  | cons l r ih => rw [List.foldl_cons, ih, relaxL_len]
theorem rounds_len (ls : List Lk) (d : List Int) (k : Nat) : (rounds ls d k).length = d.length := by
  induction k with
  | zero => rfl
  | succ k ih => rw [rounds, sweep, fold_len, ih]
theorem dinit_len (n f : Nat) : (dinit n f).length = n := by simp [dinit]
theorem dst_len (n : Nat) (ls : List Lk) (f r i : Nat) : (dst n ls f r i).length = n := by rw [dst, fold_len, rounds_len, dinit_len]
theorem dists_len (n : Nat) (ls : List Lk) (f : Nat) : (dists n ls f).length = n := by rw [dists, rounds_len, dinit_len]
theorem dst_succ (n : Nat) (ls : List Lk) (f r i : Nat) (h : i < ls.length) : dst n ls f r (i + 1) = relaxL (dst n ls f r i) (lk ls i) := by
  unfold dst
  rw [List.take_add_one, lk_get h, List.foldl_append]
  rfl
theorem dst_end (n : Nat) (ls : List Lk) (f r : Nat) : dst n ls f r ls.length = dst n ls f (r + 1) 0 := by
  unfold dst
  rw [List.take_length]
  rfl
theorem dst_all (n : Nat) (ls : List Lk) (f : Nat) : dst n ls f n 0 = dists n ls f := rfl

/-- The costs are small. -/
def Cheap (ls : List Lk) : Prop := ∀ l ∈ ls, 1 ≤ l.c ∧ l.c ≤ 20
def Bd (d : List Int) (m : Int) : Prop := ∀ j, -1 ≤ iz d j ∧ iz d j ≤ m
theorem relax_bd {d : List Int} {m : Int} (h : Bd d m) (x y : Nat) (c : Int) (hc : 1 ≤ c) (hc' : c ≤ 20) : Bd (relax d x y c) (m + 20) := by
  intro j
  unfold relax
  have hx := h x
  have hj := h j
  split
  · rename_i hb
    rcases Nat.lt_or_ge y d.length with hy | hy
    · rw [iz_set _ _ _ _ hy]
      unfold relaxB at hb
      simp only [Bool.and_eq_true, decide_eq_true_eq] at hb
      split
      · omega
      · omega
    · rw [List.set_eq_of_length_le hy]; omega
  · omega
theorem relaxL_bd {d : List Int} {m : Int} (h : Bd d m) (l : Lk) (hc : 1 ≤ l.c ∧ l.c ≤ 20) : Bd (relaxL d l) (m + 40) := by
  have := relax_bd (relax_bd h l.a.toNat l.b.toNat l.c hc.1 hc.2) l.b.toNat l.a.toNat l.c hc.1 hc.2
  intro j
  have := this j
  unfold relaxL
  omega
theorem fold_bd (ls : List Lk) {d : List Int} {m : Int} (h : Bd d m) (hc : Cheap ls) : Bd (ls.foldl relaxL d) (m + 40 * ls.length) := by
  induction ls generalizing d m with
  | nil => simpa using h
  | cons l r ih =>
    rw [List.foldl_cons]
    have := ih (relaxL_bd h l (hc l (List.mem_cons_self ..))) (fun l' h' => hc l' (List.mem_cons_of_mem _ h'))
    intro j
    have := this j
    simp only [List.length_cons]
    omega
theorem rounds_bd (ls : List Lk) {d : List Int} {m : Int} (h : Bd d m) (hc : Cheap ls) (k : Nat) (hl : ls.length ≤ 14) : Bd (rounds ls d k) (m + 560 * k) := by
  induction k with
  | zero => simpa [rounds] using h
  | succ k ih =>
    have := fold_bd ls ih hc
    intro j
    have := this j
    simp only [rounds, sweep]
    omega
theorem dinit_bd (n f : Nat) : Bd (dinit n f) 0 := by
  intro j
  unfold dinit
  have hr : ∀ j, iz (List.replicate n (-1)) j = -1 ∨ iz (List.replicate n (-1)) j = 0 := by
    intro j
    unfold iz
    simp only [List.getD, List.getElem?_replicate]
    split <;> simp
  rcases Nat.lt_or_ge f n with hf | hf
  · rw [iz_set _ _ _ _ (by simpa using hf)]
    have := hr j
    split <;> omega
  · rw [List.set_eq_of_length_le (by simpa using hf)]
    have := hr j
    omega
theorem dst_bd (n : Nat) (ls : List Lk) (f r i : Nat) (hc : Cheap ls) (hl : ls.length ≤ 14) (hr : r ≤ 8) : Bd (dst n ls f r i) 5100 := by
  have h1 := rounds_bd ls (dinit_bd n f) hc r hl
  have h2 := fold_bd (ls.take i) h1 (fun l h => hc l (List.mem_of_mem_take h))
  have h3 : (ls.take i).length ≤ 14 := by rw [List.length_take]; omega
  intro j
  have := h2 j
  unfold dst
  omega
theorem GV.cheap {n : Int} {ls : List Lk} (h : GV n ls) : Cheap ls := by
  intro l hl
  obtain ⟨i, hi, rfl⟩ := List.getElem_of_mem hl
  have := h.2.2.2 i hi
  rw [LkAt, lk_of (List.getElem?_eq_getElem hi)] at this
  omega
theorem GV.at_ {n : Int} {ls : List Lk} (h : GV n ls) {i : Nat} (hi : i < ls.length) : ∃ x y : Nat, (lk ls i).a = x ∧ (lk ls i).b = y ∧ x < y ∧ (y : Int) < n ∧ 1 ≤ (lk ls i).c ∧ (lk ls i).c ≤ 20 := by
  have := h.2.2.2 i hi
  unfold LkAt at this
  exact ⟨(lk ls i).a.toNat, (lk ls i).b.toNat, by omega, by omega, by omega, by omega, by omega, by omega⟩
end Go.Proofs.Ytkeihpihphefgaa
