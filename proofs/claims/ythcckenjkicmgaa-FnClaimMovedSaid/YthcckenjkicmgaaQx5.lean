/- Part 5 of the proof: Pa Pb Pq Pk1 SD Pc Pt1 Pk2 Pr Ps Pv Pw. -/
import Derived.Test.YthcckenjkicmgaaQx4
set_option linter.unusedSimpArgs false
set_option linter.unusedVariables false
section
namespace Go.Proofs.Ythcckenjkicmgaa
open Go.RowKit

def LkAt (n : Int) (ls : List Lk) (i : Nat) : Prop :=
  0 ≤ (lk ls i).a ∧ (lk ls i).a < (lk ls i).b ∧ (lk ls i).b < n ∧ 1 ≤ (lk ls i).c ∧ (lk ls i).c ≤ 20 ∧
    (0 < i → (lk ls (i - 1)).a < (lk ls i).a ∨ (lk ls (i - 1)).a = (lk ls i).a ∧ (lk ls (i - 1)).b < (lk ls i).b)
instance (n : Int) (ls : List Lk) (i : Nat) : Decidable (LkAt n ls i) := by unfold LkAt; infer_instance
def GV (n : Int) (ls : List Lk) : Prop := 1 ≤ n ∧ n ≤ 8 ∧ ls.length ≤ 14 ∧ ∀ i, i < ls.length → LkAt n ls i
instance (n : Int) (ls : List Lk) : Decidable (GV n ls) := by unfold GV; infer_instance
def gv (n : Int) (ls : List Lk) : Bool := decide (GV n ls)
theorem gv_t {n : Int} {ls : List Lk} (h : gv n ls = true) : GV n ls := of_decide_eq_true h
theorem gv_f {n : Int} {ls : List Lk} (h : ¬ GV n ls) : gv n ls = false := decide_eq_false h
theorem gv_at {n : Int} {ls : List Lk} {k : Nat} (hk : k < ls.length) (h : 1 ≤ n → n ≤ 8 → ¬ LkAt n ls k) : gv n ls = false :=
  gv_f fun g => h g.1 g.2.1 (g.2.2.2 k hk)
theorem gv_end {n : Int} {ls : List Lk} {k : Nat} (hl : ls.length = k) (h : 1 ≤ n → n ≤ 8 → ∀ i, i < k → LkAt n ls i) : gv n ls = (inB n 1 8 && decide ((k : Int) ≤ 14)) := by
  subst hl
  unfold gv GV inB
  by_cases h1 : 1 ≤ n ∧ n ≤ 8
  · by_cases h2 : ls.length ≤ 14
    · have h3 := h h1.1 h1.2
      have : ((ls.length : Nat) : Int) ≤ 14 := by omega
      simp [h1, h2, this]
      exact fun i hi => h3 i hi
    · have : ¬ ((ls.length : Nat) : Int) ≤ 14 := by omega
      simp [h1, h2, this]
  · have : ¬ (1 ≤ n ∧ n ≤ 8 ∧ ls.length ≤ 14 ∧ ∀ i, i < ls.length → LkAt n ls i) := fun g => h1 ⟨g.1, g.2.1⟩
    simp [this, h1]
end Go.Proofs.Ythcckenjkicmgaa

namespace Go.Proofs.Ythcckenjkicmgaa
open Go.RowKit

def relaxB (d : List Int) (x y : Nat) (c : Int) : Bool := decide (0 ≤ iz d x) && (decide (iz d y < 0) || decide (iz d x + c < iz d y))
def relax (d : List Int) (x y : Nat) (c : Int) : List Int := if relaxB d x y c then d.set y (iz d x + c) else d
def relaxL (d : List Int) (l : Lk) : List Int := relax (relax d l.a.toNat l.b.toNat l.c) l.b.toNat l.a.toNat l.c
def sweep (ls : List Lk) (d : List Int) : List Int := ls.foldl relaxL d
def dinit (n f : Nat) : List Int := (List.replicate n (-1)).set f 0
def rounds (ls : List Lk) (d : List Int) : Nat → List Int
  | 0 => d
  | k + 1 => sweep ls (rounds ls d k)
def dst (n : Nat) (ls : List Lk) (f r i : Nat) : List Int := (ls.take i).foldl relaxL (rounds ls (dinit n f) r)
def dists (n : Nat) (ls : List Lk) (f : Nat) : List Int := rounds ls (dinit n f) n

theorem iz_set (d : List Int) (y j : Nat) (v : Int) (hy : y < d.length) : iz (d.set y v) j = if j = y then v else iz d j := by
  unfold iz
  simp only [List.getD, List.getElem?_set]
  by_cases h : y = j
  · subst h; simp [hy]
  · have h' : ¬ j = y := fun e => h e.symm
    simp [h, h']
theorem relax_len (d : List Int) (x y : Nat) (c : Int) : (relax d x y c).length = d.length := by unfold relax; split <;> simp
theorem relaxL_len (d : List Int) (l : Lk) : (relaxL d l).length = d.length := by unfold relaxL; rw [relax_len, relax_len]
theorem fold_len (ls : List Lk) (d : List Int) : (ls.foldl relaxL d).length = d.length := by
  induction ls generalizing d with
  | nil => rfl
  | cons l r ih => rw [List.foldl_cons, ih, relaxL_len]
theorem rounds_len (ls : List Lk) (d : List Int) (k : Nat) : (rounds ls d k).length = d.length := by
  induction k with
  | zero => rfl
  | succ k ih => rw [rounds, sweep, fold_len, ih]
theorem dinit_len (n f : Nat) : (dinit n f).length = n := by simp [dinit]
theorem dst_len (n : Nat) (ls : List Lk) (f r i : Nat) : (dst n ls f r i).length = n := by rw [dst, fold_len, rounds_len, dinit_len]
theorem dists_len (n : Nat) (ls : List Lk) (f : Nat) : (dists n ls f).length = n := by rw [dists, rounds_len, dinit_len]
theorem dst_succ (n : Nat) (ls : List Lk) (f r i : Nat) (h : i < ls.length) : dst n ls f r (i + 1) = relaxL (dst n ls f r i) (lk ls i) := by
  unfold dst
  rw [List.take_add_one, lk_get h, List.foldl_append]
  rfl
theorem dst_end (n : Nat) (ls : List Lk) (f r : Nat) : dst n ls f r ls.length = dst n ls f (r + 1) 0 := by
  unfold dst
  rw [List.take_length]
  rfl
def Cheap (ls : List Lk) : Prop := ∀ l ∈ ls, 1 ≤ l.c ∧ l.c ≤ 20
def Bd (d : List Int) (m : Int) : Prop := ∀ j, -1 ≤ iz d j ∧ iz d j ≤ m
theorem relax_bd {d : List Int} {m : Int} (h : Bd d m) (x y : Nat) (c : Int) (hc : 1 ≤ c) (hc' : c ≤ 20) : Bd (relax d x y c) (m + 20) := by
  intro j
  unfold relax
  have hx := h x
  have hj := h j
  split
  · rename_i hb
    rcases Nat.lt_or_ge y d.length with hy | hy
    · rw [iz_set _ _ _ _ hy]
      unfold relaxB at hb
      simp only [Bool.and_eq_true, decide_eq_true_eq] at hb
      split
      · omega
      · omega
    · rw [List.set_eq_of_length_le hy]; omega
  · omega
theorem relaxL_bd {d : List Int} {m : Int} (h : Bd d m) (l : Lk) (hc : 1 ≤ l.c ∧ l.c ≤ 20) : Bd (relaxL d l) (m + 40) := by
  have := relax_bd (relax_bd h l.a.toNat l.b.toNat l.c hc.1 hc.2) l.b.toNat l.a.toNat l.c hc.1 hc.2
  intro j
  have := this j
  unfold relaxL
  omega
theorem fold_bd (ls : List Lk) {d : List Int} {m : Int} (h : Bd d m) (hc : Cheap ls) : Bd (ls.foldl relaxL d) (m + 40 * ls.length) := by
  induction ls generalizing d m with
  | nil => simpa using h
  | cons l r ih =>
    rw [List.foldl_cons]
    have := ih (relaxL_bd h l (hc l (List.mem_cons_self ..))) (fun l' h' => hc l' (List.mem_cons_of_mem _ h'))
    intro j
    have := this j
    simp only [List.length_cons]
    omega
theorem rounds_bd (ls : List Lk) {d : List Int} {m : Int} (h : Bd d m) (hc : Cheap ls) (k : Nat) (hl : ls.length ≤ 14) : Bd (rounds ls d k) (m + 560 * k) := by
  induction k with
  | zero => simpa [rounds] using h
  | succ k ih =>
    have := fold_bd ls ih hc
    intro j
    have := this j
    simp only [rounds, sweep]
    omega
theorem dinit_bd (n f : Nat) : Bd (dinit n f) 0 := by
  intro j
  unfold dinit
  have hr : ∀ j, iz (List.replicate n (-1)) j = -1 ∨ iz (List.replicate n (-1)) j = 0 := by
    intro j
    unfold iz
    simp only [List.getD, List.getElem?_replicate]
    split <;> simp
  rcases Nat.lt_or_ge f n with hf | hf
  · rw [iz_set _ _ _ _ (by simpa using hf)]
    have := hr j
    split <;> omega
  · rw [List.set_eq_of_length_le (by simpa using hf)]
    have := hr j
    omega
theorem dst_bd (n : Nat) (ls : List Lk) (f r i : Nat) (hc : Cheap ls) (hl : ls.length ≤ 14) (hr : r ≤ 8) : Bd (dst n ls f r i) 5100 := by
  have h1 := rounds_bd ls (dinit_bd n f) hc r hl
  have h2 := fold_bd (ls.take i) h1 (fun l h => hc l (List.mem_of_mem_take h))
  have h3 : (ls.take i).length ≤ 14 := by rw [List.length_take]; omega
  intro j
  have := h2 j
  unfold dst
  omega
theorem GV.cheap {n : Int} {ls : List Lk} (h : GV n ls) : Cheap ls := by
  intro l hl
  obtain ⟨i, hi, rfl⟩ := List.getElem_of_mem hl
  have := h.2.2.2 i hi
  rw [LkAt, lk_of (List.getElem?_eq_getElem hi)] at this
  omega
theorem GV.at_ {n : Int} {ls : List Lk} (h : GV n ls) {i : Nat} (hi : i < ls.length) : ∃ x y : Nat, (lk ls i).a = x ∧ (lk ls i).b = y ∧ x < y ∧ (y : Int) < n ∧ 1 ≤ (lk ls i).c ∧ (lk ls i).c ≤ 20 := by
  have := h.2.2.2 i hi
  unfold LkAt at this
  exact ⟨(lk ls i).a.toNat, (lk ls i).b.toNat, by omega, by omega, by omega, by omega, by omega, by omega⟩
end Go.Proofs.Ythcckenjkicmgaa

namespace Go.Proofs.Ythcckenjkicmgaa
open Go.RowKit

structure Src (d : List Int) (f : Nat) : Prop where
  zero : iz d f = 0
  low : ∀ j, -1 ≤ iz d j
  only : ∀ j, j < d.length → iz d j = 0 → j = f
theorem Src.relax {d : List Int} {f : Nat} (h : Src d f) (x y : Nat) (c : Int) (hc : 1 ≤ c) : Src (relax d x y c) f := by
  unfold Go.Proofs.Ythcckenjkicmgaa.relax
  split
  · rename_i hb
    unfold relaxB at hb
    simp only [Bool.and_eq_true, Bool.or_eq_true, decide_eq_true_eq] at hb
    rcases Nat.lt_or_ge y d.length with hy | hy
    · have hyf : y ≠ f := by rintro rfl; have := h.zero; omega
      refine ⟨?_, fun j => ?_, fun j hj hz => ?_⟩
      · rw [iz_set _ _ _ _ hy, if_neg (fun e => hyf e.symm)]; exact h.zero
      · rw [iz_set _ _ _ _ hy]; have := h.low j; split <;> omega
      · rw [List.length_set] at hj
        rw [iz_set _ _ _ _ hy] at hz
        split at hz
        · omega
        · exact h.only j hj hz
    · rw [List.set_eq_of_length_le hy]; exact h
  · exact h
theorem Src.fold {f : Nat} (ls : List Lk) {d : List Int} (h : Src d f) (hc : Cheap ls) : Src (ls.foldl relaxL d) f := by
  induction ls generalizing d with
  | nil => exact h
  | cons l r ih =>
    have h1 := (hc l (List.mem_cons_self ..)).1
    exact ih ((h.relax _ _ _ h1).relax _ _ _ h1) (fun l' h' => hc l' (List.mem_cons_of_mem _ h'))
theorem Src.rounds {f : Nat} (ls : List Lk) {d : List Int} (h : Src d f) (hc : Cheap ls) (k : Nat) : Src (rounds ls d k) f := by
  induction k with
  | zero => exact h
  | succ k ih => exact ih.fold ls hc
theorem Src.init {n f : Nat} (hf : f < n) : Src (dinit n f) f := by
  have hr : ∀ j, j < n → iz (List.replicate n (-1)) j = -1 := by
    intro j hj
    simp [iz, List.getD, hj]
  refine ⟨?_, fun j => (dinit_bd n f j).1, fun j hj hz => ?_⟩
  · unfold dinit; rw [iz_set _ _ _ _ (by simpa using hf), if_pos rfl]
  · rw [dinit_len] at hj
    unfold dinit at hz
    rw [iz_set _ _ _ _ (by simpa using hf)] at hz
    split at hz
    · assumption
    · rw [hr j hj] at hz; omega
theorem dists_src {n f : Nat} {ls : List Lk} (hc : Cheap ls) (hf : f < n) : Src (dists n ls f) f := (Src.init hf).rounds ls hc n
theorem dists_low {n f : Nat} {ls : List Lk} (hc : Cheap ls) (hf : f < n) (j : Nat) : -1 ≤ iz (dists n ls f) j := (dists_src hc hf).low j
end Go.Proofs.Ythcckenjkicmgaa

namespace Go.Proofs.Ythcckenjkicmgaa
open Go.RowKit

def Adj (ls : List Lk) (x y : Nat) (c : Int) : Prop := ∃ l, l ∈ ls ∧ l.c = c ∧ (l.a = x ∧ l.b = y ∨ l.a = y ∧ l.b = x)
theorem Adj.symm {ls : List Lk} {x y : Nat} {c : Int} (h : Adj ls x y c) : Adj ls y x c := by
  obtain ⟨l, h1, h2, h3⟩ := h
  exact ⟨l, h1, h2, h3.symm⟩
inductive Wk (ls : List Lk) (u : Nat) : Nat → Nat → Int → Prop
  | nil : Wk ls u 0 u 0
  | step {k x y : Nat} {s c : Int} : Wk ls u k x s → Adj ls x y c → Wk ls u (k + 1) y (s + c)
theorem Wk.append {ls : List Lk} {u v : Nat} {k : Nat} {s : Int} (h : Wk ls u k v s) {m w : Nat} {t : Int} (h' : Wk ls v m w t) : Wk ls u (k + m) w (s + t) := by
  induction h' with
  | nil => simpa using h
  | step _ ha ih => rw [← Int.add_assoc]; exact ih.step ha
theorem Wk.one {ls : List Lk} {x y : Nat} {c : Int} (h : Adj ls x y c) : Wk ls x 1 y c := by simpa using Wk.nil.step h
theorem Wk.symm {ls : List Lk} {u v k : Nat} {s : Int} (h : Wk ls u k v s) : Wk ls v k u s := by
  induction h with
  | nil => exact .nil
  | step _ ha ih =>
    have := (Wk.one ha.symm).append ih
    rwa [Nat.add_comm, Int.add_comm] at this
theorem Wk.mono {ls ls' : List Lk} (hs : ∀ x y c, Adj ls x y c → Adj ls' x y c) {u v k : Nat} {s : Int} (h : Wk ls u k v s) : Wk ls' u k v s := by
  induction h with
  | nil => exact .nil
  | step _ ha ih => exact ih.step (hs _ _ _ ha)
theorem Wk.cost {ls : List Lk} (hc : Cheap ls) {u v k : Nat} {s : Int} (h : Wk ls u k v s) : (k : Int) ≤ s := by
  induction h with
  | nil => simp
  | step _ ha ih =>
    obtain ⟨l, h1, h2, _⟩ := ha
    have := (hc l h1).1
    omega
theorem Wk.path {ls : List Lk} {u v k : Nat} {s : Int} (h : Wk ls u k v s) : ∃ (g : Nat → Nat) (t : Nat → Int), g 0 = u ∧ t 0 = 0 ∧ g k = v ∧ t k = s ∧ ∀ i, i < k → Adj ls (g i) (g (i + 1)) (t (i + 1) - t i) := by
  induction h with
  | nil => exact ⟨fun _ => u, fun _ => 0, rfl, rfl, rfl, rfl, fun i hi => by omega⟩
  | @step k x y s c _ ha ih =>
    obtain ⟨g, t, g0, t0, gk, tk, hs⟩ := ih
    refine ⟨fun i => if i ≤ k then g i else y, fun i => if i ≤ k then t i else s + c, by simp [g0], by simp [t0], by simp; intro h; omega, by simp; intro h; omega, fun i hi => ?_⟩
    by_cases e : i < k
    · have h1 : i ≤ k := by omega
      have h2 : i + 1 ≤ k := by omega
      simpa [h1, h2] using hs i e
    · obtain rfl : i = k := by omega
      have h2 : ¬ i + 1 ≤ i := by omega
      simp only [Nat.le_refl, if_true, h2, if_false, gk, tk]
      rwa [show s + c - s = c by omega]
theorem Wk.between {ls : List Lk} {g : Nat → Nat} {t : Nat → Int} {i : Nat} : ∀ m : Nat, (∀ j, i ≤ j → j < i + m → Adj ls (g j) (g (j + 1)) (t (j + 1) - t j)) → Wk ls (g i) m (g (i + m)) (t (i + m) - t i)
  | 0, _ => by simpa using Wk.nil
  | m + 1, h => by
    have := (Wk.between m (fun j h1 h2 => h j h1 (by omega))).step (h (i + m) (by omega) (by omega))
    rwa [show t (i + m) - t i + (t (i + m + 1) - t (i + m)) = t (i + (m + 1)) - t i by rw [← Nat.add_assoc]; omega] at this
theorem pigeon : ∀ (n : Nat) (g : Nat → Nat), (∀ i, i ≤ n → g i < n) → ∃ i j, i < j ∧ j ≤ n ∧ g i = g j
  | 0, g, h => by have := h 0 (Nat.le_refl _); omega
  | n + 1, g, h => by
    by_cases e : ∃ i, i ≤ n ∧ g i = g (n + 1)
    · obtain ⟨i, hi, he⟩ := e
      exact ⟨i, n + 1, by omega, Nat.le_refl _, he⟩
    · have hne : ∀ i, i ≤ n → g i ≠ g (n + 1) := fun i hi he => e ⟨i, hi, he⟩
      obtain ⟨i, j, h1, h2, h3⟩ := pigeon n (fun i => if g (n + 1) < g i then g i - 1 else g i) (fun i hi => by
        have a := h i (by omega)
        have b := h (n + 1) (Nat.le_refl _)
        have c := hne i hi
        show (if g (n + 1) < g i then g i - 1 else g i) < n
        split <;> omega)
      refine ⟨i, j, h1, by omega, ?_⟩
      have a := hne i (by omega)
      have b := hne j h2
      have h3 : (if g (n + 1) < g i then g i - 1 else g i) = (if g (n + 1) < g j then g j - 1 else g j) := h3
      split at h3 <;> split at h3 <;> omega
def Ends (n : Nat) (ls : List Lk) : Prop := ∀ l ∈ ls, ∃ x y : Nat, l.a = x ∧ l.b = y ∧ x < n ∧ y < n
theorem GV.ends {n : Nat} {ls : List Lk} (h : GV n ls) : Ends n ls := by
  intro l hl
  obtain ⟨i, hi, rfl⟩ := List.getElem_of_mem hl
  have := h.at_ hi
  rw [lk_of (List.getElem?_eq_getElem hi)] at this
  obtain ⟨x, y, h1, h2, h3, h4, _⟩ := this
  exact ⟨x, y, h1, h2, by omega, by omega⟩
theorem Adj.lt {n : Nat} {ls : List Lk} (he : Ends n ls) {x y : Nat} {c : Int} (h : Adj ls x y c) : x < n ∧ y < n := by
  obtain ⟨l, h1, _, h3⟩ := h
  obtain ⟨a, b, ha, hb, ha', hb'⟩ := he l h1
  rcases h3 with ⟨e1, e2⟩ | ⟨e1, e2⟩ <;> omega
theorem Wk.short {n : Nat} {ls : List Lk} (he : Ends n ls) (hc : Cheap ls) : ∀ (k : Nat) {u v : Nat} {s : Int}, Wk ls u k v s → u < n → ∃ k' s', k' < n ∧ s' ≤ s ∧ Wk ls u k' v s' := by
  intro k
  induction k using Nat.strongRecOn with
  | ind k ih =>
    intro u v s h hu
    by_cases hk : k < n
    · exact ⟨k, s, hk, Int.le_refl _, h⟩
    · obtain ⟨g, t, g0, t0, gk, tk, hs⟩ := h.path
      obtain ⟨i, j, h1, h2, h3⟩ := pigeon n g (fun i hi => by
        rcases Nat.eq_zero_or_pos i with e | e
        · rw [e, g0]; exact hu
        · have := (hs (i - 1) (by omega)).lt he
          rw [show i - 1 + 1 = i by omega] at this
          exact this.2)
      have w1 := Wk.between (ls := ls) (g := g) (t := t) (i := 0) i (fun m _ hm => hs m (by omega))
      have w2 := Wk.between (ls := ls) (g := g) (t := t) (i := i) (j - i) (fun m _ hm => hs m (by omega))
      have w3 := Wk.between (ls := ls) (g := g) (t := t) (i := j) (k - j) (fun m _ hm => hs m (by omega))
      rw [show i + (j - i) = j by omega] at w2
      rw [show j + (k - j) = k by omega, gk, tk, ← h3] at w3
      rw [Nat.zero_add, g0, t0] at w1
      have c2 := w2.cost hc
      obtain ⟨k', s', a, b, c⟩ := ih (i + (k - j)) (by omega) (w1.append w3) hu
      exact ⟨k', s', a, by omega, c⟩

def Snd (ls : List Lk) (f : Nat) (d : List Int) : Prop := ∀ v, v < d.length → 0 ≤ iz d v → ∃ k, Wk ls f k v (iz d v)
theorem Snd.relax {ls : List Lk} {f : Nat} {d : List Int} (h : Snd ls f d) {x y : Nat} {c : Int} (hx : x < d.length) (ha : Adj ls x y c) : Snd ls f (relax d x y c) := by
  unfold Go.Proofs.Ythcckenjkicmgaa.relax
  split
  · rename_i hb
    unfold relaxB at hb
    simp only [Bool.and_eq_true, decide_eq_true_eq] at hb
    intro v hv hz
    rw [List.length_set] at hv
    rcases Nat.lt_or_ge y d.length with hy | hy
    · rw [iz_set _ _ _ _ hy] at hz ⊢
      split
      · rename_i e; subst e
        obtain ⟨k, hw⟩ := h x hx hb.1
        exact ⟨k + 1, hw.step ha⟩
      · rename_i e
        rw [if_neg e] at hz
        exact h v hv hz
    · rw [List.set_eq_of_length_le hy] at hz ⊢
      exact h v hv hz
  · exact h
theorem Snd.fold {ls : List Lk} {f n : Nat} (he : Ends n ls) : ∀ (ms : List Lk) {d : List Int}, (∀ l ∈ ms, l ∈ ls) → d.length = n → Snd ls f d → Snd ls f (ms.foldl relaxL d)
  | [], _, _, _, h => h
  | l :: r, d, hm, hl, h => by
    obtain ⟨x, y, hx, hy, hxn, hyn⟩ := he l (hm l (List.mem_cons_self ..))
    have a1 : Adj ls x y l.c := ⟨l, hm l (List.mem_cons_self ..), rfl, .inl ⟨hx, hy⟩⟩
    refine Snd.fold he r (fun l' h' => hm l' (List.mem_cons_of_mem _ h')) (by rw [relaxL_len]; exact hl) ?_
    unfold relaxL
    rw [hx, hy, Int.toNat_natCast, Int.toNat_natCast]
    exact (h.relax (by omega) a1).relax (by rw [relax_len]; omega) a1.symm
theorem Snd.rounds {ls : List Lk} {f n : Nat} (he : Ends n ls) {d : List Int} (hl : d.length = n) (h : Snd ls f d) (k : Nat) : Snd ls f (rounds ls d k) := by
  induction k with
  | zero => exact h
  | succ k ih => exact Snd.fold he ls (fun l h => h) (by rw [rounds_len]; exact hl) ih
theorem Snd.init {ls : List Lk} {f n : Nat} (hf : f < n) : Snd ls f (dinit n f) := by
  intro v hv hz
  rw [dinit_len] at hv
  unfold dinit at hz ⊢
  rw [iz_set _ _ _ _ (by simpa using hf)] at hz ⊢
  by_cases e : v = f
  · subst e; rw [if_pos rfl]; exact ⟨0, .nil⟩
  · rw [if_neg e] at hz
    simp [iz, List.getD, hv] at hz
def Le (d' d : List Int) : Prop := ∀ v, 0 ≤ iz d v → 0 ≤ iz d' v ∧ iz d' v ≤ iz d v
theorem Le.refl (d : List Int) : Le d d := fun _ h => ⟨h, Int.le_refl _⟩
theorem Le.trans {a b c : List Int} (h : Le a b) (k : Le b c) : Le a c := fun v hv => by
  have h1 := k v hv
  have h2 := h v h1.1
  exact ⟨h2.1, by omega⟩
theorem Le.relax (d : List Int) (x y : Nat) (c : Int) (hc : 0 ≤ c) : Le (relax d x y c) d := by
  unfold Go.Proofs.Ythcckenjkicmgaa.relax
  split
  · rename_i hb
    unfold relaxB at hb
    simp only [Bool.and_eq_true, Bool.or_eq_true, decide_eq_true_eq] at hb
    intro v hv
    rcases Nat.lt_or_ge y d.length with hy | hy
    · rw [iz_set _ _ _ _ hy]
      split
      · rename_i e; subst e; omega
      · exact ⟨hv, Int.le_refl _⟩
    · rw [List.set_eq_of_length_le hy]; exact ⟨hv, Int.le_refl _⟩
  · exact Le.refl d
theorem relax_at (d : List Int) (x y : Nat) (c : Int) (hy : y < d.length) (hx : 0 ≤ iz d x) (hc : 0 ≤ c) : 0 ≤ iz (relax d x y c) y ∧ iz (relax d x y c) y ≤ iz d x + c := by
  unfold relax
  split
  · rw [iz_set _ _ _ _ hy, if_pos rfl]; omega
  · rename_i hb
    unfold relaxB at hb
    simp only [Bool.and_eq_true, Bool.or_eq_true, decide_eq_true_eq] at hb
    omega
theorem Le.link (d : List Int) (l : Lk) (hc : 0 ≤ l.c) : Le (relaxL d l) d := (Le.relax _ _ _ _ hc).trans (Le.relax _ _ _ _ hc)
theorem Le.fold (ms : List Lk) (hc : Cheap ms) : ∀ d, Le (ms.foldl relaxL d) d := by
  induction ms with
  | nil => exact Le.refl
  | cons l r ih => exact fun d => (ih (fun l' h' => hc l' (List.mem_cons_of_mem _ h')) _).trans (Le.link d l (by have := (hc l (List.mem_cons_self ..)).1; omega))
theorem sweep_at {n : Nat} (ms : List Lk) (he : Ends n ms) (hc : Cheap ms) {x y : Nat} {c : Int} (ha : Adj ms x y c) : ∀ d : List Int, d.length = n → 0 ≤ iz d x →
    0 ≤ iz (ms.foldl relaxL d) y ∧ iz (ms.foldl relaxL d) y ≤ iz d x + c := by
  induction ms with
  | nil => obtain ⟨l, h, _⟩ := ha; simp at h
  | cons l r ih =>
    intro d hl hx
    have hcl := hc l (List.mem_cons_self ..)
    obtain ⟨m, h1, h2, h3⟩ := ha
    rw [List.foldl_cons]
    have hle := Le.link d l (by omega)
    rcases List.mem_cons.1 h1 with e | e
    · subst e
      obtain ⟨a, b, e1, e2, han, hbn⟩ := he m (List.mem_cons_self ..)
      have key : 0 ≤ iz (relaxL d m) y ∧ iz (relaxL d m) y ≤ iz d x + c := by
        unfold relaxL
        rw [e1, e2, Int.toNat_natCast, Int.toNat_natCast]
        rcases h3 with ⟨h4, h5⟩ | ⟨h4, h5⟩
        · obtain rfl : a = x := by omega
          obtain rfl : b = y := by omega
          have p := relax_at d a b m.c (by omega) hx (by omega)
          have q := Le.relax (relax d a b m.c) b a m.c (by omega) b p.1
          omega
        · obtain rfl : a = y := by omega
          obtain rfl : b = x := by omega
          have p := Le.relax d a b m.c (by omega) b hx
          have q := relax_at (relax d a b m.c) b a m.c (by rw [relax_len]; omega) p.1 (by omega)
          omega
      have := Le.fold r (fun l' h' => hc l' (List.mem_cons_of_mem _ h')) (relaxL d m) y key.1
      omega
    · have hx' := hle x hx
      have := ih (fun l' h' => he l' (List.mem_cons_of_mem _ h')) (fun l' h' => hc l' (List.mem_cons_of_mem _ h')) ⟨m, e, h2, h3⟩ (relaxL d l) (by rw [relaxL_len]; exact hl) hx'.1
      omega
theorem rounds_reach {n f : Nat} {ls : List Lk} (he : Ends n ls) (hc : Cheap ls) (hf : f < n) {k v : Nat} {s : Int} (h : Wk ls f k v s) : ∀ r, k ≤ r → 0 ≤ iz (rounds ls (dinit n f) r) v ∧ iz (rounds ls (dinit n f) r) v ≤ s := by
  induction h with
  | nil =>
    intro r _
    have := ((Src.init hf).rounds ls hc r).zero
    omega
  | @step k x y s c hw ha ih =>
    intro r hr
    obtain ⟨r', rfl⟩ : ∃ r', r = r' + 1 := ⟨r - 1, by omega⟩
    have h1 := ih r' (by omega)
    have := sweep_at ls he hc ha (rounds ls (dinit n f) r') (by rw [rounds_len, dinit_len]) h1.1
    show 0 ≤ iz (sweep ls _) y ∧ iz (sweep ls _) y ≤ s + c
    unfold sweep
    omega
theorem dists_le {n f : Nat} {ls : List Lk} (h : GV n ls) (hf : f < n) {k v : Nat} {s : Int} (hw : Wk ls f k v s) : 0 ≤ iz (dists n ls f) v ∧ iz (dists n ls f) v ≤ s := by
  obtain ⟨k', s', hk', hs', hw'⟩ := Wk.short h.ends h.cheap k hw hf
  have := rounds_reach h.ends h.cheap hf hw' n (by omega)
  unfold dists
  omega
theorem dists_walk {n f : Nat} {ls : List Lk} (h : GV n ls) (hf : f < n) {v : Nat} (hv : v < n) (hz : 0 ≤ iz (dists n ls f) v) : ∃ k, Wk ls f k v (iz (dists n ls f) v) :=
  (Snd.rounds h.ends (dinit_len n f) (Snd.init hf) n) v (by rw [rounds_len, dinit_len]; exact hv) hz
theorem dists_symm {n u v : Nat} {ls : List Lk} (h : GV n ls) (hu : u < n) (hv : v < n) : iz (dists n ls u) v = iz (dists n ls v) u := by
  have low1 := dists_low (ls := ls) h.cheap hu v
  have low2 := dists_low (ls := ls) h.cheap hv u
  by_cases h1 : 0 ≤ iz (dists n ls u) v
  · obtain ⟨k, w⟩ := dists_walk h hu hv h1
    have a := dists_le h hv w.symm
    obtain ⟨k', w'⟩ := dists_walk h hv hu a.1
    have b := dists_le h hu w'.symm
    omega
  · by_cases h2 : 0 ≤ iz (dists n ls v) u
    · obtain ⟨k, w⟩ := dists_walk h hv hu h2
      have a := dists_le h hu w.symm
      omega
    · omega
end Go.Proofs.Ythcckenjkicmgaa

namespace Go.Proofs.Ythcckenjkicmgaa
open Go.RowKit

def Sat {α : Type} (o : Option α) (Q : α → Prop) : Prop := ∃ r, o = some r ∧ Q r
theorem Sat.some {α : Type} {x : α} {Q : α → Prop} (h : Q x) : Sat (some x) Q := ⟨x, rfl, h⟩
theorem Sat.mono {α : Type} {o : Option α} {Q R : α → Prop} (h : Sat o Q) (k : ∀ x, Q x → R x) : Sat o R := by
  obtain ⟨r, h1, h2⟩ := h; exact ⟨r, h1, k r h2⟩
theorem Sat.bind {α β : Type} {o : Option α} {f : α → Option β} {Q : β → Prop} (h : Sat o fun x => Sat (f x) Q) : Sat (o.bind f) Q := by
  obtain ⟨x, rfl, y, h1, h2⟩ := h; exact ⟨y, h1, h2⟩
theorem Sat.bnd {α β : Type} {o : Option α} {R : α → Prop} {f : α → Option β} {Q : β → Prop} (h : Sat o R) (k : ∀ x, R x → Sat (f x) Q) : Sat (o.bind f) Q := Sat.bind (h.mono k)
theorem Sat.ite {α : Type} {c : Bool} {a b : Option α} {Q : α → Prop} (h : c = true → Sat a Q) (k : c = false → Sat b Q) : Sat (bif c then a else b) Q := by
  cases c with
  | true => exact h rfl
  | false => exact k rfl
theorem Sat.gd {α : Type} {c : Bool} {a b : Option α} {Q : α → Prop} (hc : c = true) (h : Sat a Q) : Sat (bif c then a else b) Q := by subst hc; exact h
theorem Sat.no {α : Type} {c : Bool} {a b : Option α} {Q : α → Prop} (hc : c = false) (h : Sat b Q) : Sat (bif c then a else b) Q := by subst hc; exact h
theorem Sat.out {α : Type} {o : Option α} {x : α} (h : Sat o (· = x)) : o = Option.some x := by obtain ⟨r, h1, h2⟩ := h; rw [h1, h2]
theorem Sat.loop {σ τ : Type} {B : σ → Option (σ ⊕ τ)} (I : σ → Prop) (μ : σ → Nat) {Q : τ → Prop} (hB : ∀ s, I s → Sat (B s) fun r => match r with | .inl s' => I s' ∧ μ s' < μ s | .inr x => Q x) : ∀ (n : Nat) (s : σ), μ s < n → I s → Sat (lp B n s) Q
  | 0, _, h, _ => by omega
  | n + 1, s, h, hi => by
    unfold Go.Proofs.Ythcckenjkicmgaa.lp
    refine Sat.bnd (hB s hi) fun r hr => ?_
    cases r with
    | inl s' => exact Sat.loop I μ hB n s' (by have := hr.2; omega) hr.1
    | inr x => exact .some hr
theorem Sat.count {σ τ : Type} {B : σ → Option (σ ⊕ τ)} (n : Nat) (I : Nat → σ → Prop) {Q : τ → Prop} (hB : ∀ k s, k ≤ n → I k s → Sat (B s) fun r => match r with | .inl s' => k < n ∧ I (k + 1) s' | .inr x => Q x) {m : Nat} {s : σ} {k : Nat} (hk : k ≤ n) (hm : n - k < m) (h : I k s) : Sat (lp B m s) Q := by
  induction m generalizing s k with
  | zero => omega
  | succ m ih =>
    unfold Go.Proofs.Ythcckenjkicmgaa.lp
    refine Sat.bnd (hB k s hk h) fun r hr => ?_
    cases r with
    | inl s' => exact ih (k := k + 1) (by have := hr.1; omega) (by omega) hr.2
    | inr x => exact .some hr
theorem w64 {x : Int} (h1 : -9223372036854775808 ≤ x) (h2 : x ≤ 9223372036854775807) : wrap64 x = x := IntWalk.wrap64_in x (by omega)
theorem wI {x : Int} (h1 : -9223372036854775808 ≤ x) (h2 : x ≤ 9223372036854775807) : wrapK .i64 x = x := w64 h1 h2
theorem inR_t {z : Int} {n : Nat} (h1 : 0 ≤ z) (h2 : z < n) : inR z n = true := by simp [inR, h1, h2]
theorem bnd2_t {lo hi : Int} {n : Nat} (h1 : 0 ≤ lo) (h2 : lo ≤ hi) (h3 : hi ≤ n) : bnd2 lo hi n = true := by simp [bnd2, h1, h2, h3]
end Go.Proofs.Ythcckenjkicmgaa

namespace Go.Proofs.Ythcckenjkicmgaa
open Go.RowKit

def Asc (zs : List Int) (n : Int) : Prop := ∀ i, i < zs.length → 0 ≤ iz zs i ∧ iz zs i < n ∧ (0 < i → iz zs (i - 1) < iz zs i)
instance (zs : List Int) (n : Int) : Decidable (Asc zs n) := by unfold Asc; infer_instance
def asc (zs : List Int) (n : Int) : Bool := decide (Asc zs n)
theorem Asc.le {zs : List Int} {n : Int} (h : Asc zs n) {i : Nat} (j : Nat) (hj : i + j < zs.length) : iz zs i ≤ iz zs (i + j) := by
  induction j with
  | zero => exact Int.le_refl _
  | succ j ih =>
    have h1 := (h (i + (j + 1)) hj).2.2 (by omega)
    have h2 := ih (by omega)
    rw [show i + (j + 1) - 1 = i + j by omega] at h1
    omega
theorem asc_last {zs : List Int} {n : Int} {len : Nat} (hl : zs.length = len) (h0 : 0 < len) (h8 : asc zs 8 = true) (_ : n ≤ 8) : asc zs n = decide (iz zs (len - 1) < n) := by
  have h := of_decide_eq_true h8
  unfold asc
  by_cases e : iz zs (len - 1) < n
  · rw [decide_eq_true e, decide_eq_true_eq]
    intro i hi
    have h1 := h.le (i := i) (len - 1 - i) (by omega)
    rw [show i + (len - 1 - i) = len - 1 by omega] at h1
    have h2 := h i hi
    exact ⟨h2.1, by omega, h2.2.2⟩
  · rw [decide_eq_false e, decide_eq_false_iff_not]
    intro g
    have := g (len - 1) (by omega)
    omega
theorem asc_8 {zs : List Int} {n : Int} (_ : n ≤ 8) (h8 : asc zs 8 = false) : asc zs n = false := by
  refine decide_eq_false fun g => of_decide_eq_false h8 fun i hi => ?_
  have := g i hi
  exact ⟨this.1, by omega, this.2.2⟩
def bv (n : Int) (ls : List Lk) (bs : List Int) : Bool := gv n ls && decide (0 < bs.length) && asc bs n
def summL (d bs : List Int) (k : Nat) : List Int := (bs.take k).map fun b => iz d b.toNat
def summ (n : Int) (ls : List Lk) (bs : List Int) (t : Int) : List Int :=
  if bv n ls bs && inB t 0 (n - 1) then summL (dists n.toNat ls t.toNat) bs bs.length else []
theorem summ_no {n : Int} {ls : List Lk} {bs : List Int} {t : Int} (h : (bv n ls bs && inB t 0 (n - 1)) = false) : summ n ls bs t = [] := by simp [summ, h]
theorem summ_ok {n f len : Nat} {ls : List Lk} {bs : List Int} (h1 : bv n ls bs = true) (h2 : inB f 0 (n - 1) = true) (hl : bs.length = len) : summ n ls bs f = summL (dists n ls f) bs len := by
  simp [summ, h1, h2, hl]
theorem summL_succ (d bs : List Int) (k j : Nat) (h : k < bs.length) (hj : iz bs k = j) : summL d bs (k + 1) = summL d bs k ++ [iz d j] := by
  have e : bs[k]? = some (j : Int) := by rw [iz_get h, hj]
  simp [summL, List.take_add_one, e]
theorem summL_len (d bs : List Int) (k : Nat) (h : k ≤ bs.length) : (summL d bs k).length = k := by simp [summL]; omega
theorem bv_t {n : Int} {ls : List Lk} {bs : List Int} (h : bv n ls bs = true) : GV n ls ∧ 0 < bs.length ∧ Asc bs n := by
  simp only [bv, Bool.and_eq_true, decide_eq_true_eq] at h
  exact ⟨gv_t h.1.1, h.1.2, of_decide_eq_true h.2⟩
def routeOk (na : Int) (la : List Lk) (nb : Int) (lb : List Lk) (bs : List Int) (f t : Int) : Bool := (bv na la bs && inB f 0 (na - 1)) && (bv nb lb bs && inB t 0 (nb - 1))
structure ROk (na nb f t : Nat) (la lb : List Lk) (bs : List Int) : Prop where
  va : gv na la = true
  vb : gv nb lb = true
  ga : GV na la
  gb : GV nb lb
  aa : Asc bs na
  ab : Asc bs nb
  pos : 0 < bs.length
  hf : f < na
  ht : t < nb
  one : summ na la bs f = summL (dists na la f) bs bs.length
  two : summ nb lb bs t = summL (dists nb lb t) bs bs.length
theorem ROk.ok {na nb f t : Nat} {la lb : List Lk} {bs : List Int} (h : ROk na nb f t la lb bs) : routeOk na la nb lb bs f t = true := by
  have i1 : inB (f : Int) 0 ((na : Int) - 1) = true := inB_mk (by have := h.hf; omega)
  have i2 : inB (t : Int) 0 ((nb : Int) - 1) = true := inB_mk (by have := h.ht; omega)
  simp [routeOk, bv, h.va, h.vb, i1, i2, h.pos, asc, h.aa, h.ab]
def hitB (x y : Int) (l : Lk) : Bool := decide (l.a = x) && decide (l.b = y)
def lof (ls : List Lk) (a b : Int) : Int := if ls.findIdx (hitB (min a b) (max a b)) < ls.length then ls.findIdx (hitB (min a b) (max a b)) else -1
theorem hit_lk {ls : List Lk} {i : Nat} (h : i < ls.length) : lk ls i = ls[i] := by simp [lk, List.getD, List.getElem?_eq_getElem h]
theorem lof_hit {ls : List Lk} {a b : Int} {k : Nat} (hk : k < ls.length) (h1 : hitB (min a b) (max a b) (lk ls k) = true) (h : ∀ i, i < k → hitB (min a b) (max a b) (lk ls i) = false) : lof ls a b = k := by
  have e : ls.findIdx (hitB (min a b) (max a b)) = k := (List.findIdx_eq hk).2 ⟨by rw [← hit_lk hk]; exact h1, fun j hj => by rw [← hit_lk (by omega)]; exact h j hj⟩
  unfold lof
  rw [e, if_pos hk]
theorem lof_miss {ls : List Lk} {a b : Int} (h : ∀ i, i < ls.length → hitB (min a b) (max a b) (lk ls i) = false) : lof ls a b = -1 := by
  have e : ls.findIdx (hitB (min a b) (max a b)) = ls.length := List.findIdx_eq_length_of_false fun x hx => by
    obtain ⟨i, hi, rfl⟩ := List.mem_iff_getElem.1 hx
    rw [← hit_lk hi]; exact h i hi
  unfold lof
  rw [e, if_neg (by omega)]
theorem hit_t {x y : Int} {l : Lk} (h : hitB x y l = true) : l.a = x ∧ l.b = y := by simpa [hitB] using h
theorem lof_cases (ls : List Lk) (a b : Int) : (lof ls a b = -1 ∧ ∀ i, i < ls.length → hitB (min a b) (max a b) (lk ls i) = false) ∨ ∃ k : Nat, lof ls a b = k ∧ k < ls.length ∧ (lk ls k).a = min a b ∧ (lk ls k).b = max a b := by
  by_cases h : ls.findIdx (hitB (min a b) (max a b)) < ls.length
  · right
    refine ⟨ls.findIdx (hitB (min a b) (max a b)), by unfold lof; rw [if_pos h], h, ?_⟩
    have := (List.findIdx_getElem (w := h))
    rw [← hit_lk h] at this
    exact hit_t this
  · left
    refine ⟨by unfold lof; rw [if_neg h], fun i hi => ?_⟩
    have hle := List.findIdx_le_length (p := hitB (min a b) (max a b)) (xs := ls)
    have := List.not_of_lt_findIdx (p := hitB (min a b) (max a b)) (xs := ls) (i := i) (by omega)
    rw [hit_lk hi]
    simpa using this
theorem hit_no {x y : Int} {l : Lk} (h : ¬ (l.a = x ∧ l.b = y)) : hitB x y l = false := by
  unfold hitB
  rw [Bool.and_eq_false_iff]
  by_cases h1 : l.a = x
  · right; exact decide_eq_false fun e => h ⟨h1, e⟩
  · left; exact decide_eq_false h1
theorem hit_yes {x y : Int} {l : Lk} (h1 : l.a = x) (h2 : l.b = y) : hitB x y l = true := by simp [hitB, h1, h2]
def otherE (l : Lk) (n : Int) : Int := if n = l.a then l.b else if n = l.b then l.a else 0
def isEnd (l : Lk) (n : Int) : Bool := decide (n = l.a ∨ n = l.b)
def others (ls : List Lk) (n : Int) (k : Nat) : List Int := ((ls.take k).filter (fun l => isEnd l n)).map (fun l => otherE l n)
theorem others_succ (ls : List Lk) (n : Int) (k : Nat) (h : k < ls.length) : others ls n (k + 1) = if isEnd (lk ls k) n then others ls n k ++ [otherE (lk ls k) n] else others ls n k := by
  have e : ls[k]? = some (lk ls k) := lk_get h
  unfold others
  rw [List.take_add_one, e]
  cases hq : isEnd (lk ls k) n <;> simp [hq]
theorem others_len (ls : List Lk) (n : Int) (k : Nat) : (others ls n k).length ≤ k := by
  unfold others
  rw [List.length_map]
  exact Nat.le_trans (List.length_filter_le _ _) (List.length_take_le _ _)
def nbS (ls : List Lk) (m : Int) (k : Nat) : List Int := ((List.range k).filter (fun x : Nat => decide (0 ≤ lof ls m (x : Int)))).map fun x : Nat => (x : Int)
theorem nbS_succ (ls : List Lk) (m : Int) (k : Nat) : nbS ls m (k + 1) = if 0 ≤ lof ls m k then nbS ls m k ++ [(k : Int)] else nbS ls m k := by
  unfold nbS
  rw [List.range_succ, List.filter_append, List.map_append]
  by_cases h : 0 ≤ lof ls m k <;> simp [h]
theorem nbS_len (ls : List Lk) (m : Int) (k : Nat) : (nbS ls m k).length ≤ k := by
  unfold nbS
  rw [List.length_map]
  exact Nat.le_trans (List.length_filter_le _ _) (by simp)
def busy (ls : List Lk) (m : Int) : Bool := ls.any fun l => isEnd l m
theorem others_busy (ls : List Lk) (m : Int) (n : Nat) (hl : ls.length = n) : decide ((0 : Int) < ((others ls m n).length : Int)) = busy ls m := by
  unfold others busy
  rw [List.length_map, List.take_of_length_le (by omega)]
  cases hb : ls.any fun l => isEnd l m with
  | true =>
    obtain ⟨l, h1, h2⟩ := List.any_eq_true.1 hb
    have : 0 < (ls.filter fun l => isEnd l m).length := List.length_pos_of_mem (List.mem_filter.2 ⟨h1, h2⟩)
    exact decide_eq_true (by omega)
  | false =>
    have : (ls.filter fun l => isEnd l m) = [] := List.filter_eq_nil_iff.2 fun l hl => by
      have := List.any_eq_false.1 hb l hl
      exact this
    rw [this]; rfl
theorem nbS_busy {p : Int} {ls : List Lk} (h : GV p ls) (m : Int) : decide ((0 : Int) < ((nbS ls m 8).length : Int)) = busy ls m := by
  cases hb : busy ls m with
  | true =>
    obtain ⟨l, hl, he⟩ := List.any_eq_true.1 hb
    obtain ⟨i, hi, rfl⟩ := List.getElem_of_mem hl
    have ha := h.2.2.2 i hi
    have hp := h.2.1
    rw [LkAt, lk_of (List.getElem?_eq_getElem hi)] at ha
    have he : m = ls[i].a ∨ m = ls[i].b := of_decide_eq_true he
    have key : ∃ x : Nat, x < 8 ∧ min m x = ls[i].a ∧ max m x = ls[i].b := by
      rcases he with e | e
      · exact ⟨ls[i].b.toNat, by omega, by omega, by omega⟩
      · exact ⟨ls[i].a.toNat, by omega, by omega, by omega⟩
    obtain ⟨x, hx, h1, h2⟩ := key
    have hlof : 0 ≤ lof ls m (x : Int) := by
      rcases lof_cases ls m x with ⟨_, hn⟩ | ⟨k, e, _⟩
      · have := hn i hi
        rw [lk_of (List.getElem?_eq_getElem hi), hit_yes h1.symm h2.symm] at this
        cases this
      · omega
    have hm : (x : Int) ∈ nbS ls m 8 := List.mem_map.2 ⟨x, List.mem_filter.2 ⟨List.mem_range.2 hx, decide_eq_true hlof⟩, rfl⟩
    exact decide_eq_true (by have := List.length_pos_of_mem hm; omega)
  | false =>
    have hn : nbS ls m 8 = [] := by
      unfold nbS
      rw [List.map_eq_nil_iff, List.filter_eq_nil_iff]
      intro x hx hd
      have hlof : 0 ≤ lof ls m (x : Int) := of_decide_eq_true hd
      rcases lof_cases ls m x with ⟨e, _⟩ | ⟨k, _, hk, h1, h2⟩
      · omega
      · have hno := List.any_eq_false.1 hb ls[k] (List.getElem_mem hk)
        rw [lk_of (List.getElem?_eq_getElem hk)] at h1 h2
        exact hno (decide_eq_true (by omega))
    rw [hn]; rfl
def pk (la lb : List Lk) (n m : Int) : List Lk :=
  if 0 ≤ lof la n m ∧ (lof lb n m < 0 ∨ (lk la (lof la n m).toNat).c ≤ (lk lb (lof lb n m).toNat).c) then [⟨n, m, (lk la (lof la n m).toNat).c⟩]
  else if 0 ≤ lof lb n m then [⟨n, m, (lk lb (lof lb n m).toNat).c⟩] else []
def clash (la lb : List Lk) (bs : List Int) (n : Int) : Bool := !bs.contains n && busy la n && busy lb n
end Go.Proofs.Ythcckenjkicmgaa

namespace Go.Proofs.Ythcckenjkicmgaa
open Go.RowKit
set_option linter.unusedSimpArgs false
set_option linter.unusedVariables false

def okL (n : Int) (l : Lk) : Prop := 0 ≤ l.a ∧ l.a < l.b ∧ l.b < n ∧ 1 ≤ l.c ∧ l.c ≤ 20
def lxl (l m : Lk) : Prop := l.a < m.a ∨ l.a = m.a ∧ l.b < m.b
theorem lxl.trans {a b c : Lk} (h : lxl a b) (k : lxl b c) : lxl a c := by unfold lxl at *; omega
theorem lk_mem {ls : List Lk} {i : Nat} (h : i < ls.length) : lk ls i ∈ ls := List.mem_of_getElem? (lk_get h)
theorem mem_lk {ls : List Lk} {l : Lk} (h : l ∈ ls) : ∃ i, i < ls.length ∧ lk ls i = l := by
  obtain ⟨i, hi, rfl⟩ := List.getElem_of_mem h
  exact ⟨i, hi, hit_lk hi⟩
theorem lkAt_lt {n : Int} {ls : List Lk} (h : ∀ i, i < ls.length → LkAt n ls i) : ∀ (d i : Nat), i + d + 1 < ls.length → lxl (lk ls i) (lk ls (i + d + 1))
  | 0, i, hi => by
    have := (h (i + 1) hi).2.2.2.2.2 (by omega)
    simpa [lxl] using this
  | d + 1, i, hi => by
    have h1 := lkAt_lt h d i (by omega)
    have h2 := (h (i + (d + 1) + 1) hi).2.2.2.2.2 (by omega)
    rw [Nat.add_sub_cancel] at h2
    exact h1.trans h2
theorem gv_pw {n : Int} {ls : List Lk} : GV n ls ↔ 1 ≤ n ∧ n ≤ 8 ∧ ls.length ≤ 14 ∧ (∀ l ∈ ls, okL n l) ∧ ls.Pairwise lxl := by
  constructor
  · rintro ⟨h1, h2, h3, h⟩
    refine ⟨h1, h2, h3, fun l hl => ?_, List.pairwise_iff_getElem.2 fun i j hi hj hij => ?_⟩
    · obtain ⟨i, hi, rfl⟩ := mem_lk hl
      have := h i hi
      unfold LkAt at this
      unfold okL
      omega
    · have := lkAt_lt h (j - i - 1) i (by omega)
      rw [show i + (j - i - 1) + 1 = j by omega, hit_lk hi, hit_lk hj] at this
      exact this
  · rintro ⟨h1, h2, h3, h, hp⟩
    refine ⟨h1, h2, h3, fun i hi => ?_⟩
    have h4 := h _ (lk_mem hi)
    unfold okL at h4
    refine ⟨h4.1, h4.2.1, h4.2.2.1, h4.2.2.2.1, h4.2.2.2.2, fun h0 => ?_⟩
    have := List.pairwise_iff_getElem.1 hp (i - 1) i (by omega) hi (by omega)
    rw [← hit_lk, ← hit_lk] at this
    exact this
theorem GV.ok {n : Int} {ls : List Lk} (h : GV n ls) {l : Lk} (hl : l ∈ ls) : okL n l := (gv_pw.1 h).2.2.2.1 l hl
theorem pw_ext : ∀ {l l' : List Lk}, l.Pairwise lxl → l'.Pairwise lxl → (∀ x, x ∈ l ↔ x ∈ l') → l = l'
  | [], [], _, _, _ => rfl
  | [], y :: s, _, _, h => by have := (h y).2 (List.mem_cons_self ..); simp at this
  | x :: r, [], _, _, h => by have := (h x).1 (List.mem_cons_self ..); simp at this
  | x :: r, y :: s, h1, h2, h => by
    have h1 := List.pairwise_cons.1 h1
    have h2 := List.pairwise_cons.1 h2
    have e : x = y := by
      rcases List.mem_cons.1 ((h x).1 (List.mem_cons_self ..)) with e | hx
      · exact e
      · rcases List.mem_cons.1 ((h y).2 (List.mem_cons_self ..)) with e | hy
        · exact e.symm
        · have q1 := h1.1 y hy
          have q2 := h2.1 x hx
          unfold lxl at q1 q2
          omega
    subst e
    have : r = s := pw_ext h1.2 h2.2 fun z => by
      constructor
      · intro hz
        rcases List.mem_cons.1 ((h z).1 (List.mem_cons_of_mem _ hz)) with e | hz'
        · subst e
          have := h1.1 z hz
          unfold lxl at this
          omega
        · exact hz'
      · intro hz
        rcases List.mem_cons.1 ((h z).2 (List.mem_cons_of_mem _ hz)) with e | hz'
        · subst e
          have := h2.1 z hz
          unfold lxl at this
          omega
        · exact hz'
    rw [this]
def cell (f : Nat → Nat → Option Int) (a b : Nat) : List Lk := match f a b with | some c => [⟨a, b, c⟩] | none => []
def gridR (f : Nat → Nat → Option Int) (a j : Nat) : List Lk := (List.range j).flatMap fun t => cell f a (a + 1 + t)
def gridK (f : Nat → Nat → Option Int) (N k : Nat) : List Lk := (List.range k).flatMap fun a => gridR f a (N - 1 - a)
def grid (f : Nat → Nat → Option Int) (N : Nat) : List Lk := gridK f N N
theorem gridR_succ (f : Nat → Nat → Option Int) (a j : Nat) : gridR f a (j + 1) = gridR f a j ++ cell f a (a + 1 + j) := by
  unfold gridR
  rw [List.range_succ, List.flatMap_append]
  simp
theorem gridK_succ (f : Nat → Nat → Option Int) (N k : Nat) : gridK f N (k + 1) = gridK f N k ++ gridR f k (N - 1 - k) := by
  unfold gridK
  rw [List.range_succ, List.flatMap_append]
  simp
theorem cell_len (f : Nat → Nat → Option Int) (a b : Nat) : (cell f a b).length ≤ 1 := by
  unfold cell; split <;> simp
theorem gridR_len (f : Nat → Nat → Option Int) (a j : Nat) : (gridR f a j).length ≤ j := by
  induction j with
  | zero => simp [gridR]
  | succ j ih =>
    rw [gridR_succ, List.length_append]
    have := cell_len f a (a + 1 + j)
    omega
theorem gridK_len (f : Nat → Nat → Option Int) (N k : Nat) : (gridK f N k).length ≤ k * N := by
  induction k with
  | zero => simp [gridK]
  | succ k ih =>
    rw [gridK_succ, List.length_append, Nat.succ_mul]
    have := gridR_len f k (N - 1 - k)
    omega
theorem mem_cell {f : Nat → Nat → Option Int} {a b : Nat} {l : Lk} : l ∈ cell f a b ↔ ∃ c, f a b = some c ∧ l = ⟨a, b, c⟩ := by
  unfold cell
  split
  · rename_i c h
    rw [h]
    simp
  · rename_i h
    rw [h]
    simp
theorem mem_gridR {f : Nat → Nat → Option Int} {a j : Nat} {l : Lk} : l ∈ gridR f a j ↔ ∃ b c, a < b ∧ b ≤ a + j ∧ f a b = some c ∧ l = ⟨a, b, c⟩ := by
  unfold gridR
  rw [List.mem_flatMap]
  constructor
  · rintro ⟨t, ht, hl⟩
    obtain ⟨c, h1, h2⟩ := mem_cell.1 hl
    have := List.mem_range.1 ht
    exact ⟨a + 1 + t, c, by omega, by omega, h1, h2⟩
  · rintro ⟨b, c, h1, h2, h3, h4⟩
    refine ⟨b - a - 1, List.mem_range.2 (by omega), mem_cell.2 ⟨c, ?_, ?_⟩⟩
    · rw [show a + 1 + (b - a - 1) = b by omega]; exact h3
    · rw [show a + 1 + (b - a - 1) = b by omega]; exact h4
theorem mem_gridK {f : Nat → Nat → Option Int} {N k : Nat} {l : Lk} : l ∈ gridK f N k ↔ ∃ a b c, a < k ∧ a < b ∧ b < N ∧ f a b = some c ∧ l = ⟨a, b, c⟩ := by
  unfold gridK
  rw [List.mem_flatMap]
  constructor
  · rintro ⟨a, ha, hl⟩
    obtain ⟨b, c, h1, h2, h3, h4⟩ := mem_gridR.1 hl
    have := List.mem_range.1 ha
    exact ⟨a, b, c, this, h1, by omega, h3, h4⟩
  · rintro ⟨a, b, c, h1, h2, h3, h4, h5⟩
    exact ⟨a, List.mem_range.2 h1, mem_gridR.2 ⟨b, c, h2, by omega, h4, h5⟩⟩
theorem mem_grid {f : Nat → Nat → Option Int} {N : Nat} {l : Lk} : l ∈ grid f N ↔ ∃ a b c, a < b ∧ b < N ∧ f a b = some c ∧ l = ⟨a, b, c⟩ := by
  unfold grid
  rw [mem_gridK]
  constructor
  · rintro ⟨a, b, c, h1, h2, h3, h4, h5⟩; exact ⟨a, b, c, h2, h3, h4, h5⟩
  · rintro ⟨a, b, c, h2, h3, h4, h5⟩; exact ⟨a, b, c, by omega, h2, h3, h4, h5⟩
theorem gridR_pw (f : Nat → Nat → Option Int) (a j : Nat) : (gridR f a j).Pairwise lxl := by
  unfold gridR
  rw [List.pairwise_flatMap]
  refine ⟨fun t _ => ?_, ?_⟩
  · unfold cell; split <;> simp
  · refine List.Pairwise.imp ?_ (List.pairwise_lt_range (n := j))
    intro s t hst x hx y hy
    obtain ⟨c, _, rfl⟩ := mem_cell.1 hx
    obtain ⟨c', _, rfl⟩ := mem_cell.1 hy
    exact .inr ⟨rfl, by simp only []; omega⟩
theorem grid_pw (f : Nat → Nat → Option Int) (N : Nat) : (grid f N).Pairwise lxl := by
  unfold grid gridK
  rw [List.pairwise_flatMap]
  refine ⟨fun a _ => gridR_pw f a _, ?_⟩
  refine List.Pairwise.imp ?_ (List.pairwise_lt_range (n := N))
  intro s t hst x hx y hy
  obtain ⟨b, c, _, _, _, rfl⟩ := mem_gridR.1 hx
  obtain ⟨b', c', _, _, _, rfl⟩ := mem_gridR.1 hy
  exact .inl (by simp only []; omega)
theorem grid_gv {f : Nat → Nat → Option Int} {N : Nat} (h0 : 1 ≤ N) (h8 : N ≤ 8) (hc : ∀ a b c, a < b → b < N → f a b = some c → 1 ≤ c ∧ c ≤ 20) (hl : (grid f N).length ≤ 14) : GV N (grid f N) := by
  refine gv_pw.2 ⟨by omega, by omega, hl, fun l hm => ?_, grid_pw f N⟩
  obtain ⟨a, b, c, h1, h2, h3, rfl⟩ := mem_grid.1 hm
  have := hc a b c h1 h2 h3
  exact ⟨by simp only []; omega, by simp only []; omega, by simp only []; omega, this.1, this.2⟩
def lc (ls : List Lk) (a b : Int) : Option Int := if 0 ≤ lof ls a b then some (lk ls (lof ls a b).toNat).c else none
theorem lc_some {ls : List Lk} {a b c : Int} (h : lc ls a b = some c) : (⟨min a b, max a b, c⟩ : Lk) ∈ ls := by
  unfold lc at h
  rcases lof_cases ls a b with ⟨e, _⟩ | ⟨k, e, hk, h1, h2⟩
  · rw [e] at h; simp at h
  · rw [e] at h
    rw [if_pos (by omega)] at h
    injection h with h
    rw [Int.toNat_natCast] at h
    have : (⟨min a b, max a b, c⟩ : Lk) = lk ls k := by rw [← h1, ← h2, ← h]
    rw [this]
    exact lk_mem hk
theorem lc_none {ls : List Lk} {a b : Int} (h : lc ls a b = none) : ∀ c, (⟨min a b, max a b, c⟩ : Lk) ∉ ls := by
  intro c hm
  unfold lc at h
  rcases lof_cases ls a b with ⟨e, hn⟩ | ⟨k, e, hk, h1, h2⟩
  · obtain ⟨i, hi, e2⟩ := mem_lk hm
    have := hn i hi
    rw [e2, show hitB (min a b) (max a b) ⟨min a b, max a b, c⟩ = true from hit_yes rfl rfl] at this
    cases this
  · rw [e, if_pos (by omega)] at h
    cases h
theorem pw_uniq {ls : List Lk} (h : ls.Pairwise lxl) {x y : Lk} (hx : x ∈ ls) (hy : y ∈ ls) (ha : x.a = y.a) (hb : x.b = y.b) : x = y := by
  obtain ⟨i, hi, rfl⟩ := List.getElem_of_mem hx
  obtain ⟨j, hj, rfl⟩ := List.getElem_of_mem hy
  rcases Nat.lt_trichotomy i j with h1 | h1 | h1
  · have := List.pairwise_iff_getElem.1 h i j hi hj h1
    unfold lxl at this
    omega
  · subst h1; rfl
  · have := List.pairwise_iff_getElem.1 h j i hj hi h1
    unfold lxl at this
    omega
theorem GV.pw {n : Int} {ls : List Lk} (h : GV n ls) : ls.Pairwise lxl := (gv_pw.1 h).2.2.2.2
theorem lc_iff {ls : List Lk} (h : ls.Pairwise lxl) {a b c : Int} : lc ls a b = some c ↔ (⟨min a b, max a b, c⟩ : Lk) ∈ ls := by
  constructor
  · exact lc_some
  · intro hm
    cases e : lc ls a b with
    | none => exact absurd hm (lc_none e c)
    | some c' =>
      have := pw_uniq h (lc_some e) hm rfl rfl
      injection this with _ _ e3
      rw [e3]
theorem lc_symm (ls : List Lk) (a b : Int) : lc ls a b = lc ls b a := by
  have : lof ls a b = lof ls b a := by unfold lof; rw [show min a b = min b a by omega, show max a b = max b a by omega]
  unfold lc
  rw [this]
theorem lc_mem {ls : List Lk} (h : ls.Pairwise lxl) {l : Lk} (hl : l ∈ ls) (hab : l.a ≤ l.b) : lc ls l.a l.b = some l.c := (lc_iff h).2 (by rw [show min l.a l.b = l.a by omega, show max l.a l.b = l.b by omega]; exact hl)
theorem lc_cost {n : Int} {ls : List Lk} (h : GV n ls) {a b c : Int} (e : lc ls a b = some c) : 1 ≤ c ∧ c ≤ 20 := by
  have := h.ok (lc_some e)
  exact ⟨this.2.2.2.1, this.2.2.2.2⟩
theorem lc_lof {ls : List Lk} {a b : Int} : (lc ls a b).isSome = decide (0 ≤ lof ls a b) := by
  unfold lc
  by_cases h : 0 ≤ lof ls a b <;> simp [h]
theorem lc_at {ls : List Lk} {a b c : Int} (e : lc ls a b = some c) : 0 ≤ lof ls a b ∧ lof ls a b < ls.length ∧ lk ls (lof ls a b).toNat = ⟨min a b, max a b, c⟩ := by
  unfold lc at e
  rcases lof_cases ls a b with ⟨e1, hn⟩ | ⟨k, e1, hk, h1, h2⟩
  · rw [e1] at e; simp at e
  · rw [e1, if_pos (by omega), Int.toNat_natCast] at e
    injection e with e
    rw [e1, Int.toNat_natCast]
    exact ⟨by omega, by omega, by rw [← h1, ← h2, ← e]⟩
theorem lc_no {ls : List Lk} {a b : Int} (e : lc ls a b = none) : lof ls a b = -1 := by
  unfold lc at e
  rcases lof_cases ls a b with ⟨e1, hn⟩ | ⟨k, e1, hk, h1, h2⟩
  · exact e1
  · rw [e1, if_pos (by omega)] at e; cases e
theorem lc_grid {f : Nat → Nat → Option Int} {N a b : Nat} (hab : a < b) (hb : b < N) : lc (grid f N) a b = f a b := by
  cases e : f a b with
  | some c => exact (lc_iff (grid_pw f N)).2 (mem_grid.2 ⟨a, b, c, hab, hb, e, by rw [show min (a : Int) b = a by omega, show max (a : Int) b = b by omega]⟩)
  | none =>
    cases e2 : lc (grid f N) a b with
    | none => rfl
    | some c =>
      obtain ⟨x, y, z, h1, h2, h3, h4⟩ := mem_grid.1 (lc_some e2)
      injection h4 with q1 q2 q3
      have ex : x = a := by omega
      have ey : y = b := by omega
      rw [ex, ey, e] at h3
      cases h3
theorem GV.grid {N : Nat} {ls : List Lk} (h : GV N ls) : grid (fun a b => lc ls a b) N = ls := by
  refine pw_ext (grid_pw _ N) h.pw fun l => ?_
  rw [mem_grid]
  constructor
  · rintro ⟨a, b, c, h1, h2, h3, rfl⟩
    have := lc_some h3
    rwa [show min (a : Int) b = a by omega, show max (a : Int) b = b by omega] at this
  · intro hl
    have := h.ok hl
    unfold okL at this
    refine ⟨l.a.toNat, l.b.toNat, l.c, by omega, by omega, ?_, ?_⟩
    · rw [show ((l.a.toNat : Nat) : Int) = l.a by omega, show ((l.b.toNat : Nat) : Int) = l.b by omega]
      exact lc_mem h.pw hl (by omega)
    · rw [show ((l.a.toNat : Nat) : Int) = l.a by omega, show ((l.b.toNat : Nat) : Int) = l.b by omega]
end Go.Proofs.Ythcckenjkicmgaa
end
section
namespace Go.Proofs.Ythcckenjkicmgaa
open Go.RowKit
set_option linter.unusedSimpArgs false
set_option linter.unusedVariables false

theorem at_int (zs : List Int) (i : Nat) : at! .int zs i = iz zs i := by
  induction zs generalizing i with
  | nil => rfl
  | cons z r ih => cases i with
    | zero => rfl
    | succ i => exact (ih i).trans (by simp [iz])
theorem at_lk (ls : List Lk) (i : Nat) : at! .lk ls i = lk ls i := by
  induction ls generalizing i with
  | nil => rfl
  | cons z r ih => cases i with
    | zero => rfl
    | succ i => exact (ih i).trans (by simp [lk])
abbrev Fits {α : Type} (l : List α) : Prop := l.length ≤ 4611686018427387904
theorem e_within (a b c : Int) : sh_impl_within (a, b, c, ()) = some (inB a b c, ()) := by
  unfold sh_impl_within inB
  by_cases h : b ≤ a <;> simp [h]
theorem e_l6In (a b c : Int) : sh_spec_l6In (a, b, c, ()) = some (inB a b c, ()) := by
  unfold sh_spec_l6In inB
  by_cases h : b ≤ a <;> simp [h]
theorem fuel_lt {n : Nat} (h : n ≤ 4611686018427387904) : n < fuel := by unfold fuel; omega
theorem toN (k : Nat) : Int.toNat (k : Int) = k := rfl
theorem toN1 (k : Nat) : Int.toNat ((k : Int) - 1) = k - 1 := by omega

theorem e_GraphValid (n : Int) (ls : List Lk) (hl : Fits ls) : sh_impl_GraphValid (n, ls, ()) = some (gv n ls, ()) := by
  unfold sh_impl_GraphValid
  simp only [e_within, Option.bind_some, nI_eq]
  cases h1 : inB n 1 8 with
  | false => simp; rw [gv_f fun g => inB_f h1 ⟨g.1, g.2.1⟩]
  | true =>
  have h1 := inB_t h1
  by_cases h2 : ls.length ≤ 14
  case neg => 
    have : (14 : Int) < ls.length := by omega
    simp [this]; rw [gv_f fun g => h2 g.2.2.1]
  have h2' : ¬ (14 : Int) < ls.length := by omega
  simp only [h2', decide_false, cond_false, Bool.not_true]
  refine Sat.out (Sat.bnd (R := fun r => match r with | .inl _ => gv n ls = true | .inr y => y.1 = gv n ls) ?_ ?_)
  · refine Sat.count ls.length (fun k s => s = (ls, (ls.length : Int), (k : Int), n, ls, ()) ∧ ∀ i, i < k → LkAt n ls i) ?_ (Nat.zero_le _) (fuel_lt (by omega)) ⟨rfl, fun i hi => by omega⟩
    rintro k s hk ⟨rfl, hok⟩
    simp (disch := omega) only [bo_impl_GraphValid_4, at_lk, toN, toN1, w64, e_within, Option.bind_some]
    repeat' (first
      | refine Sat.some ?_
      | fail
      | (refine Sat.gd (by first | exact inR_t (by omega) (by omega) | (simp (disch := omega) only [w64]; exact inR_t (by omega) (by omega))) ?_)
      | (refine Sat.ite (fun h => ?_) (fun h => ?_) <;> try simp only [decide_eq_true_eq, decide_eq_false_iff_not, Bool.not_eq_true', Bool.not_eq_false', inB_i, inB_j, Bool.and_eq_true, Bool.or_eq_true, Bool.and_eq_false_iff, Bool.or_eq_false_iff, El] at h))
    all_goals dsimp only
    all_goals first
      | exact (gv_at (k := k) (by omega) fun _ _ g => by unfold LkAt at g; omega).symm
      | (refine ⟨by omega, rfl, fun i hi => ?_⟩
         by_cases e : i < k
         · exact hok i e
         · obtain rfl : i = k := by omega
           unfold LkAt
           omega)
      | (obtain rfl : k = ls.length := by omega
         exact decide_eq_true ⟨h1.1, h1.2, h2, hok⟩)
  · rintro (r | r) hr
    · exact .some (by simp [hr])
    · obtain ⟨b, u⟩ := r
      have hr : b = gv n ls := hr
      exact .some (by rw [hr])

theorem mem_iz {zs : List Int} {n : Int} : n ∈ zs ↔ ∃ i, i < zs.length ∧ iz zs i = n := by
  constructor
  · intro h
    obtain ⟨i, hi, rfl⟩ := List.getElem_of_mem h
    exact ⟨i, hi, by simp [iz, hi]⟩
  · rintro ⟨i, hi, rfl⟩
    exact List.mem_of_getElem? (iz_get hi)
theorem e_l1Has (zs : List Int) (n : Int) (hl : Fits zs) : sh_spec_l1Has (zs, n, ()) = some (zs.contains n, ()) := by
  unfold sh_spec_l1Has
  refine Sat.out (Sat.bnd (R := fun r => match r with | .inl _ => zs.contains n = false | .inr y => y.1 = true ∧ zs.contains n = true) ?_ ?_)
  · refine Sat.count zs.length (fun k s => s = (zs, n, (k : Int), ()) ∧ ∀ i, i < k → iz zs i ≠ n) ?_ (Nat.zero_le _) (fuel_lt (by omega)) ⟨rfl, fun i hi => by omega⟩
    rintro k s hk ⟨rfl, hok⟩
    simp (disch := omega) only [bo_spec_l1Has_2, at_int, toN, w64, nI_eq]
    repeat' (first
      | refine Sat.some ?_
      | fail
      | (refine Sat.gd (by first | exact inR_t (by omega) (by omega) | (simp (disch := omega) only [w64]; exact inR_t (by omega) (by omega))) ?_)
      | (refine Sat.ite (fun h => ?_) (fun h => ?_) <;> try simp only [decide_eq_true_eq, decide_eq_false_iff_not, Bool.not_eq_true', Bool.not_eq_false', inB_i, inB_j, Bool.and_eq_true, Bool.or_eq_true, Bool.and_eq_false_iff, Bool.or_eq_false_iff, El] at h))
    all_goals dsimp only
    · exact ⟨rfl, by rw [List.contains_eq_mem]; exact decide_eq_true (mem_iz.2 ⟨k, by omega, by assumption⟩)⟩
    · refine ⟨by omega, rfl, fun i hi => ?_⟩
      by_cases e : i < k
      · exact hok i e
      · obtain rfl : i = k := by omega
        assumption
    · rw [List.contains_eq_mem]
      refine decide_eq_false fun h => ?_
      obtain ⟨i, hi, e⟩ := mem_iz.1 h
      exact hok i (by omega) e
  · rintro (r | r) hr
    · have hr : zs.contains n = false := hr
      exact .some (by rw [hr])
    · obtain ⟨b, u⟩ := r
      have hr : b = true ∧ zs.contains n = true := hr
      exact .some (by rw [hr.1, hr.2])
theorem e_Contains (zs : List Int) (n : Int) (hl : Fits zs) : sh_slices_Contains_int_int (zs, n, ()) = some (zs.contains n, ()) := by
  unfold sh_slices_Contains_int_int sh_slices_Index_int_int
  refine Sat.out (Sat.bnd (R := fun r => decide (0 ≤ r.1) = zs.contains n) (Sat.bnd (R := fun r => match r with | .inl _ => zs.contains n = false | .inr y => 0 ≤ y.1 ∧ zs.contains n = true) ?_ ?_) ?_)
  · refine Sat.count zs.length (fun k s => s = (zs, n, (zs.length : Int), (k : Int), ()) ∧ ∀ i, i < k → iz zs i ≠ n) ?_ (Nat.zero_le _) (fuel_lt (by omega)) ⟨by simp [nI_eq], fun i hi => by omega⟩
    rintro k s hk ⟨rfl, hok⟩
    simp (disch := omega) only [bo_slices_Index_int_int_2, at_int, toN, w64, nI_eq]
    repeat' (first
      | refine Sat.some ?_
      | fail
      | (refine Sat.gd (by first | exact inR_t (by omega) (by omega) | (simp (disch := omega) only [w64]; exact inR_t (by omega) (by omega))) ?_)
      | (refine Sat.ite (fun h => ?_) (fun h => ?_) <;> try simp only [decide_eq_true_eq, decide_eq_false_iff_not, Bool.not_eq_true', Bool.not_eq_false', inB_i, inB_j, Bool.and_eq_true, Bool.or_eq_true, Bool.and_eq_false_iff, Bool.or_eq_false_iff, El] at h))
    all_goals dsimp only
    · exact ⟨by omega, by rw [List.contains_eq_mem]; exact decide_eq_true (mem_iz.2 ⟨k, by omega, by omega⟩)⟩
    · refine ⟨by omega, rfl, fun i hi => ?_⟩
      by_cases e : i < k
      · exact hok i e
      · obtain rfl : i = k := by omega
        omega
    · rw [List.contains_eq_mem]
      refine decide_eq_false fun h => ?_
      obtain ⟨i, hi, e⟩ := mem_iz.1 h
      exact hok i (by omega) e
  · rintro (r | r) hr
    · have hr : zs.contains n = false := hr
      exact .some (by rw [hr]; rfl)
    · have hr : 0 ≤ r.1 ∧ zs.contains n = true := hr
      exact .some (by rw [hr.2]; exact decide_eq_true hr.1)
  · rintro ⟨r, u⟩ hr
    have hr : decide (0 ≤ r) = zs.contains n := hr
    exact .some (by rw [hr])
theorem e_nodesAscend (zs : List Int) (n : Int) (hl : Fits zs) (h0 : 0 ≤ n) (h1 : n ≤ 10000) : sh_impl_nodesAscend (zs, n, ()) = some (asc zs n, ()) := by
  unfold sh_impl_nodesAscend
  refine Sat.out (Sat.bnd (R := fun r => match r with | .inl _ => asc zs n = true | .inr y => y.1 = false ∧ asc zs n = false) ?_ ?_)
  · refine Sat.count zs.length (fun k s => s = (zs, n, zs, (zs.length : Int), (k : Int), ()) ∧ ∀ i, i < k → 0 ≤ iz zs i ∧ iz zs i < n ∧ (0 < i → iz zs (i - 1) < iz zs i)) ?_ (Nat.zero_le _) (fuel_lt (by omega)) ⟨by simp [nI_eq], fun i hi => by omega⟩
    rintro k s hk ⟨rfl, hok⟩
    simp (disch := omega) only [bo_impl_nodesAscend_2, at_int, toN, toN1, w64, nI_eq, e_within, Option.bind_some]
    repeat' (first
      | refine Sat.some ?_
      | fail
      | (refine Sat.gd (by first | exact inR_t (by omega) (by omega) | (simp (disch := omega) only [w64]; exact inR_t (by omega) (by omega))) ?_)
      | (refine Sat.ite (fun h => ?_) (fun h => ?_) <;> try simp only [decide_eq_true_eq, decide_eq_false_iff_not, Bool.not_eq_true', Bool.not_eq_false', inB_i, inB_j, Bool.and_eq_true, Bool.or_eq_true, Bool.and_eq_false_iff, Bool.or_eq_false_iff, El] at h))
    all_goals dsimp only
    all_goals first
      | (refine ⟨by omega, rfl, fun i hi => ?_⟩
         by_cases e : i < k
         · exact hok i e
         · obtain rfl : i = k := by omega
           omega)
      | exact ⟨rfl, decide_eq_false fun g => by have := g k (by omega); omega⟩
      | exact decide_eq_true fun i hi => hok i (by omega)
  · rintro (r | r) hr
    · have hr : asc zs n = true := hr
      exact .some (by rw [hr])
    · obtain ⟨b, u⟩ := r
      have hr : b = false ∧ asc zs n = false := hr
      exact .some (by rw [hr.1, hr.2])
theorem e_l12Nodes (zs : List Int) (hl : Fits zs) : sh_spec_l12Nodes (zs, ()) = some (asc zs 8, ()) := by
  unfold sh_spec_l12Nodes
  refine Sat.out (Sat.bnd (R := fun r => match r with | .inl _ => asc zs 8 = true | .inr y => y.1 = false ∧ asc zs 8 = false) ?_ ?_)
  · refine Sat.count zs.length (fun k s => s = (zs, (k : Int), ()) ∧ ∀ i, i < k → 0 ≤ iz zs i ∧ iz zs i < 8 ∧ (0 < i → iz zs (i - 1) < iz zs i)) ?_ (Nat.zero_le _) (fuel_lt (by omega)) ⟨rfl, fun i hi => by omega⟩
    rintro k s hk ⟨rfl, hok⟩
    simp (disch := omega) only [bo_spec_l12Nodes_2, at_int, toN, toN1, w64, nI_eq, e_l6In, Option.bind_some]
    repeat' (first
      | refine Sat.some ?_
      | fail
      | (refine Sat.gd (by first | exact inR_t (by omega) (by omega) | (simp (disch := omega) only [w64]; exact inR_t (by omega) (by omega))) ?_)
      | (refine Sat.ite (fun h => ?_) (fun h => ?_) <;> try simp only [decide_eq_true_eq, decide_eq_false_iff_not, Bool.not_eq_true', Bool.not_eq_false', inB_i, inB_j, Bool.and_eq_true, Bool.or_eq_true, Bool.and_eq_false_iff, Bool.or_eq_false_iff, El] at h))
    all_goals dsimp only
    all_goals first
      | (refine ⟨by omega, rfl, fun i hi => ?_⟩
         by_cases e : i < k
         · exact hok i e
         · obtain rfl : i = k := by omega
           omega)
      | exact ⟨rfl, decide_eq_false fun g => by have := g k (by omega); omega⟩
      | exact decide_eq_true fun i hi => hok i (by omega)
  · rintro (r | r) hr
    · have hr : asc zs 8 = true := hr
      exact .some (by rw [hr])
    · obtain ⟨b, u⟩ := r
      have hr : b = false ∧ asc zs 8 = false := hr
      exact .some (by rw [hr.1, hr.2])
theorem e_sGraphValid (n : Int) (ls : List Lk) (hl : Fits ls) : sh_spec_GraphValid (n, ls, ()) = some (gv n ls, ()) := by
  unfold sh_spec_GraphValid
  refine Sat.out (Sat.bnd (R := fun r => match r with | .inl x => x = (n, ls, ()) ∧ gv n ls = (inB n 1 8 && decide ((ls.length : Int) ≤ 14)) | .inr y => y.1 = false ∧ gv n ls = false) ?_ ?_)
  · refine Sat.count ls.length (fun k s => s = ((k : Int), n, ls, ()) ∧ (1 ≤ n → n ≤ 8 → ∀ i, i < k → LkAt n ls i)) ?_ (Nat.zero_le _) (fuel_lt (by omega)) ⟨rfl, fun _ _ i hi => by omega⟩
    rintro k s hk ⟨rfl, hok⟩
    simp (disch := omega) only [bo_spec_GraphValid_2, at_lk, toN, toN1, w64, nI_eq, e_l6In, Option.bind_some]
    repeat' (first
      | refine Sat.some ?_
      | fail
      | (refine Sat.gd (by first | exact inR_t (by omega) (by omega) | (simp (disch := omega) only [w64]; exact inR_t (by omega) (by omega))) ?_)
      | (refine Sat.ite (fun h => ?_) (fun h => ?_) <;> try simp only [decide_eq_true_eq, decide_eq_false_iff_not, Bool.not_eq_true', Bool.not_eq_false', inB_i, inB_j, Bool.and_eq_true, Bool.or_eq_true, Bool.and_eq_false_iff, Bool.or_eq_false_iff, El] at h))
    all_goals dsimp only
    all_goals first
      | (refine ⟨rfl, gv_at (k := k) (by omega) fun h1 h2 g => ?_⟩
         unfold LkAt at g
         have e1 : wrap64 (n - 1) = n - 1 := w64 (by omega) (by omega)
         have e2 : wrap64 ((lk ls k).a + 1) = (lk ls k).a + 1 := w64 (by omega) (by omega)
         simp only [e1, e2] at *
         omega)
      | (refine ⟨by omega, rfl, fun h1 h2 i hi => ?_⟩
         by_cases e : i < k
         · exact hok h1 h2 i e
         · obtain rfl : i = k := by omega
           have e1 : wrap64 (n - 1) = n - 1 := w64 (by omega) (by omega)
           simp only [e1] at *
           have e2 : wrap64 ((lk ls i).a + 1) = (lk ls i).a + 1 := w64 (by omega) (by omega)
           simp only [e2] at *
           unfold LkAt
           omega)
      | exact ⟨rfl, gv_end (show ls.length = k by omega) hok ▸ (by rw [show ls.length = k by omega])⟩
  · rintro (r | r) hr
    · have hr : r = (n, ls, ()) ∧ gv n ls = (inB n 1 8 && decide ((ls.length : Int) ≤ 14)) := hr
      obtain ⟨rfl, hr⟩ := hr
      simp only [e_l6In, Option.bind_some, nI_eq, hr]
      cases inB n 1 8 <;> exact .some rfl
    · obtain ⟨b, u⟩ := r
      have hr : b = false ∧ gv n ls = false := hr
      exact .some (by rw [hr.1, hr.2])
theorem gv_rng {n : Int} {ls : List Lk} (h : gv n ls = true) : 1 ≤ n ∧ n ≤ 8 := ⟨(gv_t h).1, (gv_t h).2.1⟩
theorem e_bordersValid (n : Int) (ls : List Lk) (bs : List Int) (hl : Fits ls) (hb : Fits bs) : sh_impl_bordersValid (n, ls, bs, ()) = some (bv n ls bs, ()) := by
  unfold sh_impl_bordersValid
  simp only [e_GraphValid n ls hl, Option.bind_some, nI_eq]
  unfold bv
  cases h : gv n ls with
  | false => rfl
  | true =>
    have := gv_rng h
    simp (disch := omega) only [e_nodesAscend, Option.bind_some, cond_true, Bool.true_and]
    by_cases h0 : 0 < bs.length
    · simp [h0, show (0 : Int) < bs.length by omega]
    · simp [h0, show ¬ (0 : Int) < bs.length by omega]
theorem e_l31Borders (n : Int) (ls : List Lk) (bs : List Int) (hl : Fits ls) (hb : Fits bs) : sh_spec_l31Borders (n, ls, bs, ()) = some (bv n ls bs, ()) := by
  unfold sh_spec_l31Borders
  simp only [e_sGraphValid n ls hl, e_l12Nodes bs hb, Option.bind_some, nI_eq]
  unfold bv
  cases h : gv n ls with
  | false => rfl
  | true =>
    have := gv_rng h
    cases h8 : asc bs 8 with
    | false => simp [asc_8 this.2 h8]
    | true =>
      rcases Nat.eq_zero_or_pos bs.length with h0 | h0
      · simp [h0]
      · have e : wrap64 ((bs.length : Int) - 1) = ((bs.length : Int) - 1) := w64 (by omega) (by omega)
        simp only [e, at_int, toN1, inR_t (show (0 : Int) ≤ (bs.length : Int) - 1 by omega) (show (bs.length : Int) - 1 < bs.length by omega), asc_last rfl h0 h8 this.2]
        simp [h0, show (0 : Int) < bs.length by omega]
theorem e_l1Node (n m : Int) (ls : List Lk) (h0 : 0 ≤ n) (h1 : n ≤ 10000) : sh_spec_l1Node (n, ls, m, ()) = some (inB m 0 (n - 1), ()) := by
  unfold sh_spec_l1Node
  simp (disch := omega) only [e_l6In, w64, Option.bind_some]
theorem e_hasNode (n m : Int) (ls : List Lk) (hl : Fits ls) : sh_impl_Graph_hasNode (n, ls, m, ()) = some (gv n ls && inB m 0 (n - 1), ()) := by
  unfold sh_impl_Graph_hasNode
  simp only [e_GraphValid n ls hl, Option.bind_some]
  cases h : gv n ls with
  | false => rfl
  | true =>
    have := gv_rng h
    simp (disch := omega) only [e_within, w64, Option.bind_some, cond_true, Bool.true_and]
theorem e_sameInts (zs : List Int) (hl : Fits zs) : sh_laws_sameInts (zs, zs, ()) = some (true, ()) := by
  unfold sh_laws_sameInts
  simp only [decide_true, Bool.not_true, cond_false]
  refine Sat.out (Sat.bnd (R := fun r => match r with | .inl _ => True | .inr _ => False) ?_ ?_)
  · refine Sat.count zs.length (fun k s => s = (zs, zs, (k : Int), ())) ?_ (Nat.zero_le _) (fuel_lt (by omega)) rfl
    rintro k s hk rfl
    simp (disch := omega) only [bo_laws_sameInts_4, at_int, toN, w64, nI_eq, decide_true, Bool.not_true, cond_false]
    repeat' (first
      | refine Sat.some ?_
      | fail
      | (refine Sat.gd (by first | exact inR_t (by omega) (by omega) | (simp (disch := omega) only [w64]; exact inR_t (by omega) (by omega))) ?_)
      | (refine Sat.ite (fun h => ?_) (fun h => ?_) <;> try simp only [decide_eq_true_eq, decide_eq_false_iff_not, Bool.not_eq_true', Bool.not_eq_false', inB_i, inB_j, Bool.and_eq_true, Bool.or_eq_true, Bool.and_eq_false_iff, Bool.or_eq_false_iff, El] at h))
    all_goals dsimp only
    · exact ⟨by omega, rfl⟩
  · rintro (r | r) hr
    · exact .some rfl
    · exact hr.elim
end Go.Proofs.Ythcckenjkicmgaa

namespace Go.Proofs.Ythcckenjkicmgaa
open Go.RowKit
set_option linter.unusedSimpArgs false
set_option linter.unusedVariables false

theorem e_l1Link (n : Int) (ls : List Lk) (a b : Int) (hl : Fits ls) : sh_spec_l1Link (n, ls, a, b, ()) = some (lof ls a b, ()) := by
  unfold sh_spec_l1Link
  refine Sat.out (Sat.bnd (R := fun r => match r with | .inl _ => lof ls a b = -1 | .inr y => y.1 = lof ls a b) ?_ ?_)
  · refine Sat.count ls.length (fun k s => s = (a, b, (k : Int), n, ls, ()) ∧ ∀ i, i < k → hitB (min a b) (max a b) (lk ls i) = false) ?_ (Nat.zero_le _) (fuel_lt (by omega)) ⟨rfl, fun i hi => by omega⟩
    rintro k s hk ⟨rfl, hok⟩
    simp (disch := omega) only [bo_spec_l1Link_2, at_lk, toN, w64, nI_eq]
    repeat' (first
      | refine Sat.some ?_
      | fail
      | (refine Sat.gd (by first | exact inR_t (by omega) (by omega) | (simp (disch := omega) only [w64]; exact inR_t (by omega) (by omega))) ?_)
      | (refine Sat.ite (fun h => ?_) (fun h => ?_) <;> try simp only [decide_eq_true_eq, decide_eq_false_iff_not, Bool.not_eq_true', Bool.not_eq_false', inB_i, inB_j, Bool.and_eq_true, Bool.or_eq_true, Bool.and_eq_false_iff, Bool.or_eq_false_iff, El] at h))
    all_goals try dsimp only
    all_goals first
      | (exact (lof_hit (by omega) (hit_yes (by assumption) (by assumption)) hok).symm)
      | (refine ⟨by omega, rfl, fun i hi => ?_⟩
         by_cases e : i < k
         · exact hok i e
         · obtain rfl : i = k := by omega
           exact hit_no (by omega))
      | exact lof_miss fun i hi => hok i (by omega)
  · rintro (r | r) hr
    · have hr : lof ls a b = -1 := hr
      exact .some (by rw [hr])
    · obtain ⟨z, u⟩ := r
      have hr : z = lof ls a b := hr
      exact .some (by rw [hr])
theorem e_linkOf (n : Int) (ls : List Lk) (a b : Int) (hl : Fits ls) : sh_impl_Graph_linkOf (n, ls, a, b, ()) = some (lof ls a b, ()) := by
  unfold sh_impl_Graph_linkOf sh_slices_IndexFunc_impl_Link_impl_Link_Graph_linkOf_1
  refine Sat.out (Sat.bnd (R := fun r => r.1 = lof ls a b) (Sat.bnd (R := fun r => match r with | .inl _ => lof ls a b = -1 | .inr y => y.1 = lof ls a b) ?_ ?_) ?_)
  · refine Sat.count ls.length (fun k s => s = (ls, a, b, (ls.length : Int), (k : Int), ()) ∧ ∀ i, i < k → hitB (min a b) (max a b) (lk ls i) = false) ?_ (Nat.zero_le _) (fuel_lt (by omega)) ⟨by simp [nI_eq], fun i hi => by omega⟩
    rintro k s hk ⟨rfl, hok⟩
    have e1 : ∀ x y z p q : Int, sh_impl_Graph_linkOf_1 (x, y, z, p, q, ()) = some (decide (x = min p q) && decide (y = max p q), ()) := fun x y z p q => by
      unfold sh_impl_Graph_linkOf_1
      by_cases h : x = min p q <;> simp [h]
    simp (disch := omega) only [bo_slices_IndexFunc_impl_Link_impl_Link_Graph_linkOf_1_2, at_lk, toN, w64, nI_eq, e1, Option.bind_some]
    repeat' (first
      | refine Sat.some ?_
      | fail
      | (refine Sat.gd (by first | exact inR_t (by omega) (by omega) | (simp (disch := omega) only [w64]; exact inR_t (by omega) (by omega))) ?_)
      | (refine Sat.ite (fun h => ?_) (fun h => ?_) <;> try simp only [decide_eq_true_eq, decide_eq_false_iff_not, Bool.not_eq_true', Bool.not_eq_false', inB_i, inB_j, Bool.and_eq_true, Bool.or_eq_true, Bool.and_eq_false_iff, Bool.or_eq_false_iff, El] at h))
    all_goals try dsimp only
    all_goals first
      | (exact (lof_hit (by omega) (hit_yes (by omega) (by omega)) hok).symm)
      | (refine ⟨by omega, rfl, fun i hi => ?_⟩
         by_cases e : i < k
         · exact hok i e
         · obtain rfl : i = k := by omega
           exact hit_no (by omega))
      | exact lof_miss fun i hi => hok i (by omega)
  · rintro (r | r) hr
    · have hr : lof ls a b = -1 := hr
      exact .some (by rw [hr])
    · exact .some hr
  · rintro ⟨z, u⟩ hr
    have hr : z = lof ls a b := hr
    exact .some (by rw [hr])
theorem e_other (a b c n : Int) : sh_impl_Link_other (a, b, c, n, ()) = some (otherE ⟨a, b, c⟩ n, isEnd ⟨a, b, c⟩ n, ()) := by
  unfold sh_impl_Link_other otherE isEnd
  by_cases h : n = a
  · simp [h]
  · by_cases h' : n = b
    · subst h'; simp [h]
    · simp [h, h']
theorem e_neighbours (n : Int) (ls : List Lk) (m : Int) (hl : ls.length ≤ 16777216) : sh_impl_Graph_neighbours (n, ls, m, ()) = some (sortI (others ls m ls.length), ()) := by
  unfold sh_impl_Graph_neighbours
  refine Sat.out (Sat.bnd (R := fun r => match r with | .inl x => x.1 = others ls m ls.length | .inr _ => False) ?_ ?_)
  · refine Sat.count ls.length (fun k s => s = (m, ls, (ls.length : Int), (k : Int), others ls m k, ())) ?_ (Nat.zero_le _) (fuel_lt (by omega)) (by simp [nI_eq, others])
    rintro k s hk rfl
    have hlen := others_len ls m k
    simp (disch := omega) only [bo_impl_Graph_neighbours_3, at_lk, toN, w64, nI_eq, e_other, Option.bind_some, List.length_singleton]
    repeat' (first
      | refine Sat.some ?_
      | (refine Sat.gd (decide_eq_true (by omega)) ?_)
      | (refine Sat.gd (by first | exact inR_t (by omega) (by omega) | (simp (disch := omega) only [w64]; exact inR_t (by omega) (by omega))) ?_)
      | (refine Sat.ite (fun h => ?_) (fun h => ?_) <;> try simp only [decide_eq_true_eq, decide_eq_false_iff_not, Bool.not_eq_true', Bool.not_eq_false', inB_i, inB_j, Bool.and_eq_true, Bool.or_eq_true, Bool.and_eq_false_iff, Bool.or_eq_false_iff, El] at h))
    all_goals try dsimp only
    all_goals first
      | (refine ⟨by omega, ?_⟩
         rw [others_succ ls m k (by omega)]
         simp [*])
      | (obtain rfl : k = ls.length := by omega
         rfl)
  · rintro (r | r) hr
    · have hr : r.1 = others ls m ls.length := hr
      show Sat ((sh_slices_Sort_int_int (r.1, ())).bind _) _
      rw [hr]
      have hlen := others_len ls m ls.length
      unfold sh_slices_Sort_int_int
      rw [decide_eq_true (show (others ls m ls.length).length ≤ 16777216 by omega)]
      exact .some rfl
    · exact hr.elim
theorem e_sGraphNeighbours (n : Int) (ls : List Lk) (m : Int) (hl : Fits ls) : sh_spec_GraphNeighbours (n, ls, m, ()) = some (if gv n ls then nbS ls m 8 else [], ()) := by
  unfold sh_spec_GraphNeighbours
  refine Sat.out (Sat.bnd (R := fun r => match r with | .inl x => x.1 = if gv n ls then nbS ls m 8 else [] | .inr _ => False) ?_ ?_)
  · cases hg : gv n ls with
    | false =>
      refine Sat.count 0 (fun k s => s = (m, (0 : Int), n, ls, ([] : List Int), ())) ?_ (Nat.zero_le _) (fuel_lt (by omega)) rfl
      rintro k s hk rfl
      simp only [bo_spec_GraphNeighbours_3, e_sGraphValid n ls hl, Option.bind_some, hg]
      exact .some (by simp)
    | true =>
      refine Sat.count 8 (fun k s => s = (m, (k : Int), n, ls, nbS ls m k, ())) ?_ (Nat.zero_le _) (fuel_lt (by omega)) rfl
      rintro k s hk rfl
      have hlen := nbS_len ls m k
      simp (disch := omega) only [bo_spec_GraphNeighbours_3, e_sGraphValid n ls hl, e_l1Link _ _ _ _ hl, Option.bind_some, hg, w64, List.length_singleton, cond_true]
      repeat' (first
        | refine Sat.some ?_
        | (refine Sat.gd (decide_eq_true (by omega)) ?_)
        | (refine Sat.gd (by first | exact inR_t (by omega) (by omega) | (simp (disch := omega) only [w64]; exact inR_t (by omega) (by omega))) ?_)
        | (refine Sat.ite (fun h => ?_) (fun h => ?_) <;> try simp only [decide_eq_true_eq, decide_eq_false_iff_not, Bool.not_eq_true', Bool.not_eq_false', inB_i, inB_j, Bool.and_eq_true, Bool.or_eq_true, Bool.and_eq_false_iff, Bool.or_eq_false_iff, El] at h))
      all_goals try dsimp only
      all_goals first
        | (refine ⟨by omega, ?_⟩
           rw [nbS_succ]
           simp [*])
        | (obtain rfl : k = 8 := by omega
           rfl)
  · rintro (r | r) hr
    · have hr : r.1 = if gv n ls then nbS ls m 8 else [] := hr
      exact .some (by rw [hr])
    · exact hr.elim
def rx {β : Type} (d : List Int) (x y : Nat) (c : Int) (K : List Int → Option β) : Option β := (bif decide (0 ≤ iz d x) then (bif decide (iz d y < 0) then K (d.set y (wrap64 (iz d x + c))) else (bif decide (wrap64 (iz d x + c) < iz d y) then K (d.set y (wrap64 (iz d x + c))) else K d)) else K d)
theorem rx_eq {β : Type} {d : List Int} {x y : Nat} {c : Int} (K : List Int → Option β) (h1 : iz d x ≤ 10000) (hc : 0 ≤ c ∧ c ≤ 20) : rx d x y c K = K (relax d x y c) := by
  unfold rx relax relaxB
  by_cases h0 : 0 ≤ iz d x
  · have e : wrap64 (iz d x + c) = iz d x + c := w64 (by omega) (by omega)
    by_cases h2 : iz d y < 0
    · simp [h0, h2, e]
    · by_cases h3 : iz d x + c < iz d y <;> simp [h0, h2, h3, e]
  · simp [h0]
end Go.Proofs.Ythcckenjkicmgaa

namespace Go.Proofs.Ythcckenjkicmgaa
open Go.RowKit
set_option linter.unusedSimpArgs false
set_option linter.unusedVariables false
set_option maxRecDepth 100000

section
variable {n : Nat} {ls : List Lk}
theorem e_round_i (h : GV n ls) {d : List Int} (hd : d.length = n) {m : Int} (hb : Bd d m) (hm : m ≤ 9000) {k : Nat} (hk : k < ls.length) (p q r : Int) (t : List Lk) : bo_impl_Graph_distances_6 (p, q, ls, (ls.length : Int), (k : Int), r, t, d, ()) = some (.inl (p, q, ls, (ls.length : Int), ((k + 1 : Nat) : Int), r, t, relaxL d (lk ls k), ())) := by
  obtain ⟨x, y, hx, hy, hxy, hyn, hc1, hc2⟩ := h.at_ hk
  have h14 := h.2.2.1
  have gk : inR (k : Int) ls.length = true := inR_t (by omega) (by omega)
  have g1 : inR (lk ls k).a d.length = true := inR_t (by omega) (by omega)
  have g2 : inR (lk ls k).b d.length = true := inR_t (by omega) (by omega)
  have hlt : (k : Int) < ls.length := by omega
  have hA : iz d (lk ls k).a.toNat ≤ 10000 := by have := (hb (lk ls k).a.toNat).2; omega
  have hB : iz (relax d (lk ls k).a.toNat (lk ls k).b.toNat (lk ls k).c) (lk ls k).b.toNat ≤ 10000 := by have := (relax_bd hb (lk ls k).a.toNat (lk ls k).b.toNat (lk ls k).c hc1 hc2 (lk ls k).b.toNat).2; omega
  have hC : 0 ≤ (lk ls k).c ∧ (lk ls k).c ≤ 20 := by omega
  have ek : wrap64 ((k : Int) + 1) = (k : Int) + 1 := w64 (by omega) (by omega)
  simp only [bo_impl_Graph_distances_6, toN, at_lk, at_int, List.length_set, g1, g2, gk, cond_true, decide_eq_true hlt, ek]
  show rx (β := (Int × Int × List Lk × Int × Int × Int × List Lk × List Int × Unit) ⊕ ((Int × Int × Int × List Lk × List Int × Unit) ⊕ Unit)) d (lk ls k).a.toNat (lk ls k).b.toNat (lk ls k).c (fun d' => rx d' (lk ls k).b.toNat (lk ls k).a.toNat (lk ls k).c (fun d'' => some (.inl (p, q, ls, (ls.length : Int), (k : Int) + 1, r, t, d'', ())))) = _
  rw [rx_eq _ hA hC, rx_eq _ hB hC]
  rfl
theorem e_round_s (h : GV n ls) {d : List Int} (hd : d.length = n) {m : Int} (hb : Bd d m) (hm : m ≤ 9000) {k : Nat} (hk : k < ls.length) (p q : Int) : bo_spec_l2Distances_11 (p, (k : Int), q, ls, d, ()) = some (.inl (p, ((k + 1 : Nat) : Int), q, ls, relaxL d (lk ls k), ())) := by
  obtain ⟨x, y, hx, hy, hxy, hyn, hc1, hc2⟩ := h.at_ hk
  have h14 := h.2.2.1
  have gk : inR (k : Int) ls.length = true := inR_t (by omega) (by omega)
  have g1 : inR (lk ls k).a d.length = true := inR_t (by omega) (by omega)
  have g2 : inR (lk ls k).b d.length = true := inR_t (by omega) (by omega)
  have hlt : (k : Int) < ls.length := by omega
  have hA : iz d (lk ls k).a.toNat ≤ 10000 := by have := (hb (lk ls k).a.toNat).2; omega
  have hB : iz (relax d (lk ls k).a.toNat (lk ls k).b.toNat (lk ls k).c) (lk ls k).b.toNat ≤ 10000 := by have := (relax_bd hb (lk ls k).a.toNat (lk ls k).b.toNat (lk ls k).c hc1 hc2 (lk ls k).b.toNat).2; omega
  have hC : 0 ≤ (lk ls k).c ∧ (lk ls k).c ≤ 20 := by omega
  have ek : wrap64 ((k : Int) + 1) = (k : Int) + 1 := w64 (by omega) (by omega)
  simp only [bo_spec_l2Distances_11, toN, at_lk, at_int, List.length_set, g1, g2, gk, cond_true, nI_eq, decide_eq_true hlt, ek]
  show rx (β := (Int × Int × Int × List Lk × List Int × Unit) ⊕ ((Int × Int × List Lk × List Int × Unit) ⊕ Unit)) d (lk ls k).a.toNat (lk ls k).b.toNat (lk ls k).c (fun d' => rx d' (lk ls k).b.toNat (lk ls k).a.toNat (lk ls k).c (fun d'' => some (.inl (p, (k : Int) + 1, q, ls, d'', ())))) = _
  rw [rx_eq _ hA hC, rx_eq _ hB hC]
  rfl
end
end Go.Proofs.Ythcckenjkicmgaa

namespace Go.Proofs.Ythcckenjkicmgaa
open Go.RowKit
set_option linter.unusedSimpArgs false
set_option linter.unusedVariables false
set_option maxRecDepth 100000

section
variable {n : Nat} {ls : List Lk}
theorem e_distances (h : GV n ls) {f : Nat} (hf : f < n) : sh_impl_Graph_distances ((n : Int), ls, (f : Int), ()) = some (dists n ls f, ()) := by
  have h14 := h.2.2.1
  have h8 := h.2.1
  unfold sh_impl_Graph_distances
  have er : sh_slices_Repeat_int_int ([-1], (n : Int), ()) = some (List.replicate n (-1), ()) := by
    show (bif decide ((0 : Int) < n ∧ (n : Int) ≤ 64) then _ else none) = _
    rw [decide_eq_true (show (0 : Int) < n ∧ (n : Int) ≤ 64 by omega)]
    rfl
  simp only [er, Option.bind_some, List.length_replicate, inR_t (show (0 : Int) ≤ f by omega) (show (f : Int) < n by omega), cond_true, toN]
  refine Sat.out (Sat.bnd (R := fun r => match r with | .inl x => x.1 = dists n ls f | .inr _ => False) ?_ ?_)
  · refine Sat.count n (fun k s => s = ((n : Int), (k : Int), (n : Int), ls, dst n ls f k 0, ())) ?_ (Nat.zero_le _) (fuel_lt (by omega)) rfl
    rintro k s hk rfl
    simp (disch := omega) only [bo_impl_Graph_distances_4, nI_eq]
    refine Sat.ite (fun hlt => ?_) (fun hlt => ?_)
    · have hlt := of_decide_eq_true hlt
      refine Sat.bnd (R := fun r => match r with | .inl x => x = ((n : Int), (k : Int), (n : Int), ls, dst n ls f k ls.length, ()) | .inr _ => False) ?_ ?_
      · refine Sat.count ls.length (fun i s => s = ((n : Int), (k : Int), ls, (ls.length : Int), (i : Int), (n : Int), ls, dst n ls f k i, ())) ?_ (Nat.zero_le _) (fuel_lt (by omega)) rfl
        rintro i s hi rfl
        by_cases hil : i < ls.length
        · rw [e_round_i h (dst_len _ _ _ _ _) (dst_bd n ls f k i h.cheap h14 (by omega)) (by omega) hil]
          exact .some ⟨hil, by rw [dst_succ _ _ _ _ _ hil]⟩
        · obtain rfl : i = ls.length := by omega
          unfold bo_impl_Graph_distances_6
          simp only [decide_eq_false (show ¬ (ls.length : Int) < ls.length by omega), cond_false]
          exact .some rfl
      · rintro (r | r) hr
        · obtain rfl := hr
          refine .some ⟨by omega, ?_⟩
          dsimp only
          rw [dst_end, w64 (by omega) (by omega)]
          rfl
        · exact hr.elim
    · have hlt := of_decide_eq_false hlt
      obtain rfl : k = n := by omega
      exact .some rfl
  · rintro (r | r) hr
    · have hr : r.1 = dists n ls f := hr
      exact .some (by rw [hr])
    · exact hr.elim
theorem e_l2Distances (h : GV n ls) {f : Nat} (hf : f < n) : sh_spec_l2Distances ((n : Int), ls, (f : Int), ()) = some (dists n ls f, ()) := by
  have h14 := h.2.2.1
  have h8 := h.2.1
  unfold sh_spec_l2Distances
  refine Sat.out (Sat.bnd (R := fun r => match r with | .inl x => x = ((f : Int), (n : Int), ls, List.replicate n (-1), ()) | .inr _ => False) ?_ ?_)
  · refine Sat.count n (fun k s => s = ((f : Int), (k : Int), (n : Int), ls, List.replicate k (-1), ())) ?_ (Nat.zero_le _) (fuel_lt (by omega)) rfl
    rintro k s hk rfl
    simp (disch := omega) only [bo_spec_l2Distances_3, w64, List.length_singleton, List.length_replicate]
    repeat' (first
      | refine Sat.some ?_
      | (refine Sat.gd (decide_eq_true (by omega)) ?_)
      | (refine Sat.gd (by first | exact inR_t (by omega) (by omega) | (simp (disch := omega) only [w64]; exact inR_t (by omega) (by omega))) ?_)
      | (refine Sat.ite (fun h => ?_) (fun h => ?_) <;> try simp only [decide_eq_true_eq, decide_eq_false_iff_not, Bool.not_eq_true', Bool.not_eq_false', inB_i, inB_j, Bool.and_eq_true, Bool.or_eq_true, Bool.and_eq_false_iff, Bool.or_eq_false_iff, El] at h))
    all_goals try dsimp only
    · exact ⟨by omega, by rw [List.replicate_succ']; rfl⟩
    · obtain rfl : k = n := by omega
      rfl
  rintro (r | r) hr
  case inr => exact hr.elim
  obtain rfl := hr
  simp only [List.length_replicate, inR_t (show (0 : Int) ≤ f by omega) (show (f : Int) < n by omega), cond_true, toN]
  refine Sat.bnd (R := fun r => match r with | .inl x => x.1 = dists n ls f | .inr _ => False) ?_ ?_
  · refine Sat.count n (fun k s => s = ((k : Int), (n : Int), ls, dst n ls f k 0, ())) ?_ (Nat.zero_le _) (fuel_lt (by omega)) rfl
    rintro k s hk rfl
    simp (disch := omega) only [bo_spec_l2Distances_8, nI_eq]
    refine Sat.ite (fun hlt => ?_) (fun hlt => ?_)
    · have hlt := of_decide_eq_true hlt
      refine Sat.bnd (R := fun r => match r with | .inl x => x = ((k : Int), (n : Int), ls, dst n ls f k ls.length, ()) | .inr _ => False) ?_ ?_
      · refine Sat.count ls.length (fun i s => s = ((k : Int), (i : Int), (n : Int), ls, dst n ls f k i, ())) ?_ (Nat.zero_le _) (fuel_lt (by omega)) rfl
        rintro i s hi rfl
        by_cases hil : i < ls.length
        · rw [e_round_s h (dst_len _ _ _ _ _) (dst_bd n ls f k i h.cheap h14 (by omega)) (by omega) hil]
          exact .some ⟨hil, by rw [dst_succ _ _ _ _ _ hil]⟩
        · obtain rfl : i = ls.length := by omega
          unfold bo_spec_l2Distances_11
          simp only [nI_eq, decide_eq_false (show ¬ (ls.length : Int) < ls.length by omega), cond_false]
          exact .some rfl
      · rintro (r | r) hr
        · obtain rfl := hr
          refine .some ⟨by omega, ?_⟩
          dsimp only
          rw [dst_end, w64 (by omega) (by omega)]
          rfl
        · exact hr.elim
    · have hlt := of_decide_eq_false hlt
      obtain rfl : k = n := by omega
      exact .some rfl
  · rintro (r | r) hr
    · have hr : r.1 = dists n ls f := hr
      exact .some (by rw [hr])
    · exact hr.elim
end
theorem gv_nat {n : Int} {ls : List Lk} (h : gv n ls = true) : ∃ N : Nat, n = N ∧ GV N ls := by
  have := gv_rng h
  exact ⟨n.toNat, by omega, by rw [show ((n.toNat : Nat) : Int) = n by omega]; exact gv_t h⟩
theorem e_AreaSummary (n t : Int) (ls : List Lk) (bs : List Int) (hl : Fits ls) (hb : Fits bs) : sh_impl_AreaSummary (n, ls, bs, t, ()) = some (summ n ls bs t, ()) := by
  unfold sh_impl_AreaSummary
  simp only [e_bordersValid n ls bs hl hb, e_hasNode n t ls hl, Option.bind_some]
  cases hv : bv n ls bs with
  | false => rw [summ_no (by simp [hv])]; rfl
  | true =>
  obtain ⟨hg, h0, ha⟩ := bv_t hv
  have hgv : gv n ls = true := decide_eq_true hg
  obtain ⟨N, rfl, hG⟩ := gv_nat hgv
  cases ht : inB t 0 ((N : Int) - 1) with
  | false => rw [summ_no (by simp [ht])]; simp [hgv]
  | true =>
  have h8 := hG.2.1
  obtain ⟨T, rfl⟩ := Int.eq_ofNat_of_zero_le (inB_t ht).1
  rw [summ_ok hv ht rfl]
  have ht2 := ht
  have ht := inB_t ht
  simp only [hgv, Bool.and_self, Bool.not_true, cond_false, e_distances hG (show T < N by omega), Option.bind_some, nI_eq]
  have hbl : ∀ i, i < bs.length → i ≤ iz bs i := by
    intro i
    induction i with
    | zero => intro hi; exact (ha 0 hi).1
    | succ i ih => intro hi; have := ih (by omega); have := (ha (i + 1) hi).2.2 (by omega); simp only [Nat.add_sub_cancel] at this; omega
  have hb8 : bs.length ≤ 8 := by
    have := hbl (bs.length - 1) (by omega)
    have := (ha (bs.length - 1) (by omega)).2.1
    omega
  refine Sat.out (Sat.bnd (R := fun r => match r with | .inl x => x.1 = summL (dists N ls T) bs bs.length | .inr _ => False) ?_ ?_)
  · refine Sat.count bs.length (fun k s => s = (bs, (bs.length : Int), (k : Int), summL (dists N ls T) bs k, dists N ls T, ())) ?_ (Nat.zero_le _) (fuel_lt (by omega)) rfl
    rintro k s hk rfl
    have hlen := summL_len (dists N ls T) bs k hk
    by_cases hlt : k < bs.length
    · obtain ⟨j, hj⟩ := Int.eq_ofNat_of_zero_le (ha k hlt).1
      have hj2 := (ha k hlt).2.1
      simp (disch := omega) only [bo_impl_AreaSummary_5, at_int, toN, w64, List.length_singleton, hj, dists_len]
      repeat' (first
        | refine Sat.some ?_
        | (refine Sat.gd (decide_eq_true (by omega)) ?_)
        | (refine Sat.gd (by first | exact inR_t (by omega) (by omega) | (simp (disch := omega) only [w64]; exact inR_t (by omega) (by omega))) ?_)
        | (refine Sat.ite (fun h => ?_) (fun h => ?_) <;> try simp only [decide_eq_true_eq, decide_eq_false_iff_not, Bool.not_eq_true', Bool.not_eq_false', inB_i, inB_j, Bool.and_eq_true, Bool.or_eq_true, Bool.and_eq_false_iff, Bool.or_eq_false_iff, El] at h))
      all_goals try dsimp only
      · exact ⟨by omega, by rw [summL_succ _ _ _ _ hlt hj]; rfl⟩
    · obtain rfl : k = bs.length := by omega
      unfold bo_impl_AreaSummary_5
      simp only [decide_eq_false (show ¬ (bs.length : Int) < bs.length by omega), cond_false]
      exact .some rfl
  · rintro (r | r) hr
    · have hr : r.1 = summL (dists N ls T) bs bs.length := hr
      exact .some (by rw [hr])
    · exact hr.elim
theorem asc_len {zs : List Int} {n : Nat} (ha : Asc zs n) : zs.length ≤ n := by
  have hbl : ∀ i, i < zs.length → i ≤ iz zs i := by
    intro i
    induction i with
    | zero => intro hi; exact (ha 0 hi).1
    | succ i ih => intro hi; have := ih (by omega); have := (ha (i + 1) hi).2.2 (by omega); simp only [Nat.add_sub_cancel] at this; omega
  rcases Nat.eq_zero_or_pos zs.length with h | h
  · omega
  · have := hbl (zs.length - 1) (by omega)
    have := (ha (zs.length - 1) (by omega)).2.1
    omega
theorem e_sAreaSummary (n t : Int) (ls : List Lk) (bs : List Int) (hl : Fits ls) (hb : Fits bs) : sh_spec_AreaSummary (n, ls, bs, t, ()) = some (summ n ls bs t, ()) := by
  unfold sh_spec_AreaSummary
  refine Sat.out (Sat.bnd (R := fun r => match r with | .inl x => x.1 = summ n ls bs t | .inr _ => False) ?_ ?_)
  · cases hv : bv n ls bs with
    | false =>
      refine Sat.count 0 (fun k s => s = (bs, t, (0 : Int), n, ls, ([] : List Int), ())) ?_ (Nat.zero_le _) (fuel_lt (by omega)) rfl
      rintro k s hk rfl
      simp only [bo_spec_AreaSummary_3, e_l31Borders n ls bs hl hb, Option.bind_some, hv]
      rw [summ_no (by simp [hv])]
      cases decide ((0 : Int) < nI bs.length) <;> exact .some rfl
    | true =>
    obtain ⟨hg, h0, ha⟩ := bv_t hv
    have hgv : gv n ls = true := decide_eq_true hg
    obtain ⟨N, rfl, hG⟩ := gv_nat hgv
    have h8 := hG.2.1
    have hb8 := asc_len ha
    cases ht : inB t 0 ((N : Int) - 1) with
    | false =>
      refine Sat.count 0 (fun k s => s = (bs, t, (0 : Int), (N : Int), ls, ([] : List Int), ())) ?_ (Nat.zero_le _) (fuel_lt (by omega)) rfl
      rintro k s hk rfl
      simp only [bo_spec_AreaSummary_3, e_l31Borders _ ls bs hl hb, e_l1Node (N : Int) t ls (by omega) (by omega), Option.bind_some, hv, ht]
      rw [summ_no (by simp [ht])]
      cases decide ((0 : Int) < nI bs.length) <;> exact .some rfl
    | true =>
    obtain ⟨T, rfl⟩ := Int.eq_ofNat_of_zero_le (inB_t ht).1
    rw [summ_ok hv ht rfl]
    have ht2 := inB_t ht
    refine Sat.count bs.length (fun k s => s = (bs, (T : Int), (k : Int), (N : Int), ls, summL (dists N ls T) bs k, ())) ?_ (Nat.zero_le _) (fuel_lt (by omega)) rfl
    rintro k s hk rfl
    have hlen := summL_len (dists N ls T) bs k hk
    simp only [bo_spec_AreaSummary_3, e_l31Borders _ ls bs hl hb, e_l1Node (N : Int) T ls (by omega) (by omega), e_l2Distances hG (show T < N by omega), Option.bind_some, hv, ht, nI_eq, cond_true]
    by_cases hlt : k < bs.length
    · obtain ⟨j, hj⟩ := Int.eq_ofNat_of_zero_le (ha k hlt).1
      have hj2 := (ha k hlt).2.1
      simp (disch := omega) only [at_int, toN, w64, List.length_singleton, hj, dists_len]
      repeat' (first
        | refine Sat.some ?_
        | (refine Sat.gd (decide_eq_true (by omega)) ?_)
        | (refine Sat.gd (by first | exact inR_t (by omega) (by omega) | (simp (disch := omega) only [w64]; exact inR_t (by omega) (by omega))) ?_)
        | (refine Sat.ite (fun h => ?_) (fun h => ?_) <;> try simp only [decide_eq_true_eq, decide_eq_false_iff_not, Bool.not_eq_true', Bool.not_eq_false', inB_i, inB_j, Bool.and_eq_true, Bool.or_eq_true, Bool.and_eq_false_iff, Bool.or_eq_false_iff, El] at h))
      all_goals try dsimp only
      · exact ⟨by omega, by rw [summL_succ _ _ _ _ hlt hj]; rfl⟩
    · obtain rfl : k = bs.length := by omega
      simp only [decide_eq_false (show ¬ (bs.length : Int) < bs.length by omega), cond_false]
      exact .some rfl
  · rintro (r | r) hr
    · have hr : r.1 = summ n ls bs t := hr
      exact .some (by rw [hr])
    · exact hr.elim
end Go.Proofs.Ythcckenjkicmgaa

namespace Go.Proofs.Ythcckenjkicmgaa
open Go.RowKit
set_option linter.unusedSimpArgs false
set_option linter.unusedVariables false
set_option maxRecDepth 100000

theorem summ_len {n t : Int} {ls : List Lk} {bs : List Int} : (summ n ls bs t).length ≤ bs.length := by
  unfold summ
  split
  · rw [summL_len _ _ _ (Nat.le_refl _)]; exact Nat.le_refl _
  · simp
def joinF (la lb : List Lk) (a b : Nat) : Option Int := match lc la a b, lc lb a b with
  | some x, some y => some (min x y)
  | some x, none => some x
  | none, y => y
def clean (la lb : List Lk) (bs : List Int) (N : Nat) : Bool := (List.range N).all fun n => !clash la lb bs n
def joinOk (na : Int) (la : List Lk) (nb : Int) (lb : List Lk) (bs : List Int) : Bool := bv na la bs && bv nb lb bs && decide (na = nb) && clean la lb bs na.toNat && decide ((grid (joinF la lb) na.toNat).length ≤ 14)
def joinR (na : Int) (la : List Lk) (nb : Int) (lb : List Lk) (bs : List Int) : Int × List Lk × Bool := if joinOk na la nb lb bs then (na, grid (joinF la lb) na.toNat, true) else (0, [], false)
theorem busy_i (ls : List Lk) (m : Int) : decide ((0 : Int) < ((sortI (others ls m ls.length)).length : Int)) = busy ls m := by
  rw [sortI_len]; exact others_busy ls m _ rfl
theorem clean_all {la lb : List Lk} {bs : List Int} {N k : Nat} (hk : k < N) (h : clash la lb bs k = true) : clean la lb bs N = false := by
  unfold clean
  rw [List.all_eq_false]
  exact ⟨k, List.mem_range.2 hk, by simp [h]⟩
theorem clean_of {la lb : List Lk} {bs : List Int} {N : Nat} (h : ∀ k, k < N → clash la lb bs k = false) : clean la lb bs N = true := by
  unfold clean
  rw [List.all_eq_true]
  intro k hk
  simp [h k (List.mem_range.1 hk)]
section
variable {N : Nat} {la lb : List Lk} {bs : List Int}
theorem joinF_cost (ga : GV N la) (gb : GV N lb) {a b : Nat} {c : Int} (h : joinF la lb a b = some c) : 1 ≤ c ∧ c ≤ 20 := by
  unfold joinF at h
  split at h
  · rename_i x y e1 e2
    have := lc_cost ga e1
    have := lc_cost gb e2
    injection h with h
    omega
  · rename_i x e1 e2
    have := lc_cost ga e1
    injection h with h
    omega
  · rename_i e1
    exact lc_cost gb h
theorem e_cost (ga : GV N la) (gb : GV N lb) (n m : Nat) (x3 x4 x7 x8 x9 : Int) (xl : List Lk) (xo : List Lk) : Sat (lp bo_impl_AreaJoin_14 fuel (bs, (n : Int), (m : Int), 0, x3, x4, nI (List.length [Gr.mk N la, Gr.mk N lb]), 0, (N : Int), la, (N : Int), lb, x7, x8, [Gr.mk N la, Gr.mk N lb], xl, xo, ())) fun r => match r with
      | .inl x => x = (bs, (n : Int), (m : Int), (joinF la lb n m).getD 0, x3, x4, (N : Int), la, (N : Int), lb, x7, x8, xl, xo, ())
      | .inr _ => False := by
  refine Sat.count 2 (fun k s => s = (bs, (n : Int), (m : Int), (if k = 0 then 0 else if k = 1 then (lc la n m).getD 0 else (joinF la lb n m).getD 0), x3, x4, (2 : Int), (k : Int), (N : Int), la, (N : Int), lb, x7, x8, [Gr.mk N la, Gr.mk N lb], xl, xo, ())) ?_ (Nat.zero_le _) (fuel_lt (by omega)) rfl
  rintro k s hk rfl
  have fa : Fits la := by have := ga.2.2.1; unfold Fits; omega
  have fb : Fits lb := by have := gb.2.2.1; unfold Fits; omega
  rcases (show k = 0 ∨ k = 1 ∨ k = 2 by omega) with rfl | rfl | rfl
  · have e0 : (at! .gr [Gr.mk N la, Gr.mk N lb] (Int.toNat ((0 : Nat) : Int))) = Gr.mk N la := rfl
    simp (disch := omega) only [bo_impl_AreaJoin_14, e0, e_linkOf _ _ _ _ fa, Option.bind_some, at_lk, w64]
    cases e : lc la n m with
    | none =>
      rw [lc_no e]
      exact .some ⟨by omega, rfl⟩
    | some c =>
      obtain ⟨h1, h2, h3⟩ := lc_at e
      rw [decide_eq_true h1, inR_t h1 h2, h3]
      exact .some ⟨by omega, rfl⟩
  · have e0 : (at! .gr [Gr.mk N la, Gr.mk N lb] (Int.toNat ((1 : Nat) : Int))) = Gr.mk N lb := rfl
    simp (disch := omega) only [bo_impl_AreaJoin_14, e0, e_linkOf _ _ _ _ fb, Option.bind_some, at_lk, w64]
    cases e : lc lb n m with
    | none =>
      rw [lc_no e]
      refine .some ⟨by omega, ?_⟩
      have : joinF la lb n m = lc la n m := by unfold joinF; rw [e]; cases lc la n m <;> rfl
      simp [this]
    | some c =>
      obtain ⟨h1, h2, h3⟩ := lc_at e
      have hc := lc_cost gb e
      rw [decide_eq_true h1, inR_t h1 h2, h3]
      cases e2 : lc la n m with
      | none =>
        have : joinF la lb n m = some c := by unfold joinF; rw [e, e2]
        refine .some ⟨by omega, ?_⟩
        simp [this]
      | some d =>
        have hd := lc_cost ga e2
        have : joinF la lb n m = some (min d c) := by unfold joinF; rw [e, e2]
        have hd0 : ¬ d = 0 := by omega
        by_cases hcd : c < d
        · have hm : min d c = c := by omega
          refine Sat.gd (by simp [inR]) ?_
          simp only [if_neg (show ¬ 1 = 0 by omega), if_true, Option.getD_some, decide_eq_false hd0, decide_eq_true hcd, cond_true, cond_false]
          refine .some ⟨by omega, ?_⟩
          simp [this, hm]
        · have hm : min d c = d := by omega
          refine Sat.gd (by simp [inR]) ?_
          simp only [if_neg (show ¬ 1 = 0 by omega), if_true, Option.getD_some, decide_eq_false hd0, decide_eq_false hcd, cond_true, cond_false]
          refine .some ⟨by omega, ?_⟩
          simp [this, hm]
  · exact .some rfl
theorem e_row (ga : GV N la) (gb : GV N lb) {n : Nat} (hn : n < N) (x4 x9 : Int) (xl xo : List Lk) (ho : xo.length ≤ 1000) : Sat (lp bo_impl_AreaJoin_10 fuel (bs, (n : Int), wrap64 ((n : Int) + 1), x4, (n : Int), (N : Int), la, (N : Int), lb, x9, (N : Int), xl, xo, ())) fun r => match r with
      | .inl x => x = (bs, x4, (n : Int), (N : Int), la, (N : Int), lb, x9, (N : Int), xl, xo ++ gridR (joinF la lb) n (N - 1 - n), ())
      | .inr _ => False := by
  have h8 := ga.2.1
  refine Sat.count (N - 1 - n) (fun k s => s = (bs, (n : Int), ((n + 1 + k : Nat) : Int), x4, (n : Int), (N : Int), la, (N : Int), lb, x9, (N : Int), xl, xo ++ gridR (joinF la lb) n k, ())) ?_ (Nat.zero_le _) (fuel_lt (by omega)) (by rw [w64 (by omega) (by omega)]; simp [gridR])
  rintro k s hk rfl
  have hlen := gridR_len (joinF la lb) n k
  unfold bo_impl_AreaJoin_10
  dsimp only
  refine Sat.ite (fun hlt => ?_) (fun hlt => ?_)
  · have hlt := of_decide_eq_true hlt
    refine Sat.bnd (e_cost ga gb n (n + 1 + k) x4 (n : Int) x9 (N : Int) 0 xl _) ?_
    rintro (r | r) hr
    case inr => exact hr.elim
    obtain rfl := hr
    dsimp only
    cases e : joinF la lb n (n + 1 + k) with
    | none =>
      refine .some ⟨by omega, ?_⟩
      rw [gridR_succ, show cell (joinF la lb) n (n + 1 + k) = [] by unfold cell; rw [e], List.append_nil, w64 (by omega) (by omega)]
      rfl
    | some c =>
      have hc := joinF_cost ga gb e
      simp only [Option.getD_some, decide_eq_true (show 0 < c by omega), cond_true, List.length_append, List.length_singleton]
      refine Sat.gd (decide_eq_true (by omega)) ?_
      refine .some ⟨by omega, ?_⟩
      rw [gridR_succ, show cell (joinF la lb) n (n + 1 + k) = [⟨n, (n + 1 + k : Nat), c⟩] by unfold cell; rw [e], w64 (by omega) (by omega), List.append_assoc]
      rfl
  · have hlt := of_decide_eq_false hlt
    obtain rfl : k = N - 1 - n := by omega
    exact .some rfl
end
end Go.Proofs.Ythcckenjkicmgaa

namespace Go.Proofs.Ythcckenjkicmgaa
open Go.RowKit
set_option linter.unusedSimpArgs false
set_option linter.unusedVariables false
set_option maxRecDepth 100000

section
variable {N : Nat} {la lb : List Lk} {bs : List Int}
theorem bv_gv {n : Int} {ls : List Lk} {bs : List Int} (h : bv n ls bs = true) : gv n ls = true := decide_eq_true (bv_t h).1
theorem e_AreaJoin (na nb : Int) (ha : Fits la) (hb : Fits lb) (hs : Fits bs) : sh_impl_AreaJoin (na, la, nb, lb, bs, ()) = some ((joinR na la nb lb bs).1, (joinR na la nb lb bs).2.2, (joinR na la nb lb bs).2.1, ()) := by
  unfold sh_impl_AreaJoin joinR joinOk
  simp only [e_bordersValid na la bs ha hs, e_bordersValid nb lb bs hb hs, Option.bind_some]
  cases h1 : bv na la bs with
  | false => simp
  | true =>
  cases h2 : bv nb lb bs with
  | false => simp
  | true =>
  by_cases h3 : na = nb
  case neg => simp [h3]
  subst h3
  obtain ⟨N, rfl, ga⟩ := gv_nat (bv_gv h1)
  obtain ⟨N', e', gb⟩ := gv_nat (bv_gv h2)
  obtain rfl : N = N' := by omega
  clear e'
  have h8 := ga.2.1
  have fa : la.length ≤ 14 := ga.2.2.1
  have fb : lb.length ≤ 14 := gb.2.2.1
  simp only [Bool.not_true, cond_false, decide_true, Bool.true_and, Int.toNat_natCast]
  refine Sat.out (Sat.bnd (R := fun r => match r with | .inl x => x.2.1 = (N : Int) ∧ x.2.2.2.1 = grid (joinF la lb) N ∧ clean la lb bs N = true | .inr y => y = (false, 0, [], ()) ∧ clean la lb bs N = false) ?_ ?_)
  · refine Sat.count N (fun k s => s = (bs, (N : Int), (k : Int), (N : Int), la, (N : Int), lb, 0, (N : Int), [], gridK (joinF la lb) N k, ()) ∧ ∀ i, i < k → clash la lb bs i = false) ?_ (Nat.zero_le _) (fuel_lt (by omega)) ⟨rfl, fun i hi => by omega⟩
    rintro k s hk ⟨rfl, hok⟩
    have hlen := gridK_len (joinF la lb) N k
    have hkN : k * N ≤ 64 := Nat.le_trans (Nat.mul_le_mul hk (Nat.le_refl N)) (Nat.le_trans (Nat.mul_le_mul (show N ≤ 8 by omega) (show N ≤ 8 by omega)) (by omega))
    have nxt : clash la lb bs k = false → ∀ i, i < k + 1 → clash la lb bs i = false := fun hc i hi => by
      by_cases e : i < k
      · exact hok i e
      · obtain rfl : i = k := by omega
        exact hc
    unfold bo_impl_AreaJoin_5
    dsimp only
    refine Sat.ite (fun hlt => ?_) (fun hlt => ?_)
    · have hlt := of_decide_eq_true hlt
      have hkl : k < N := by omega
      simp only [e_Contains bs (k : Int) hs, e_neighbours (N : Int) la (k : Int) (show la.length ≤ 16777216 by omega), e_neighbours (N : Int) lb (k : Int) (show lb.length ≤ 16777216 by omega), Option.bind_some, nI_eq, busy_i]
      rcases cs_bool (bs.contains (k : Int)) with hc | hc
      · refine Sat.gd (by rw [hc]; rfl) ?_
        rcases cs_bool (busy la (k : Int)) with hd | hd
        · refine Sat.no hd ?_
          refine Sat.bnd (e_row ga gb hkl (N : Int) 0 [] _ (by omega)) ?_
          rintro (r | r) hr
          case inr => exact hr.elim
          obtain rfl := hr
          refine .some ⟨hkl, ?_, nxt (by simp only [clash, hc, hd]; rfl)⟩
          dsimp only
          rw [gridK_succ, w64 (by omega) (by omega)]
          rfl
        · refine Sat.gd hd ?_
          rcases cs_bool (busy lb (k : Int)) with he | he
          · refine Sat.no he ?_
            refine Sat.bnd (e_row ga gb hkl (N : Int) 0 [] _ (by omega)) ?_
            rintro (r | r) hr
            case inr => exact hr.elim
            obtain rfl := hr
            refine .some ⟨hkl, ?_, nxt (by simp only [clash, hc, hd, he]; rfl)⟩
            dsimp only
            rw [gridK_succ, w64 (by omega) (by omega)]
            rfl
          · exact Sat.gd he (.some ⟨rfl, clean_all hkl (by simp only [clash, hc, hd, he]; rfl)⟩)
      · refine Sat.no (by rw [hc]; rfl) ?_
        refine Sat.bnd (e_row ga gb hkl (N : Int) 0 [] _ (by omega)) ?_
        rintro (r | r) hr
        case inr => exact hr.elim
        obtain rfl := hr
        refine .some ⟨hkl, ?_, nxt (by simp only [clash, hc]; rfl)⟩
        dsimp only
        rw [gridK_succ, w64 (by omega) (by omega)]
        rfl
    · have hlt := of_decide_eq_false hlt
      obtain rfl : k = N := by omega
      exact .some ⟨rfl, rfl, clean_of hok⟩
  · rintro (r | r) hr
    · have hr : r.2.1 = (N : Int) ∧ r.2.2.2.1 = grid (joinF la lb) N ∧ clean la lb bs N = true := hr
      dsimp only
      rw [hr.1, hr.2.1, hr.2.2, nI_eq]
      by_cases h14 : (grid (joinF la lb) N).length ≤ 14
      · rw [decide_eq_true h14, decide_eq_false (show ¬ (14 : Int) < ((grid (joinF la lb) N).length : Int) by omega)]
        exact .some rfl
      · rw [decide_eq_false h14, decide_eq_true (show (14 : Int) < ((grid (joinF la lb) N).length : Int) by omega)]
        exact .some rfl
    · have hr : r = (false, 0, [], ()) ∧ clean la lb bs N = false := hr
      obtain ⟨rfl, hq⟩ := hr
      rw [hq]
      exact .some rfl
end
end Go.Proofs.Ythcckenjkicmgaa

namespace Go.Proofs.Ythcckenjkicmgaa
open Go.RowKit
set_option linter.unusedSimpArgs false
set_option linter.unusedVariables false
set_option maxRecDepth 100000

section
variable {N : Nat} {la lb : List Lk} {bs : List Int}
theorem e_srow (ga : GV N la) (gb : GV N lb) {n : Nat} (hn : n < N) (x7 x9 : Int) (xl xo : List Lk) (ho : xo.length ≤ 1000) : Sat (lp bo_spec_AreaJoin_10 fuel (bs, (n : Int), wrap64 ((n : Int) + 1), (N : Int), la, (N : Int), lb, x7, xl, x9, xo, ())) fun r => match r with
      | .inl x => x = (bs, (n : Int), (N : Int), la, (N : Int), lb, x7, xl, x9, xo ++ gridR (joinF la lb) n (N - 1 - n), ())
      | .inr _ => False := by
  have h8 := ga.2.1
  have fa : Fits la := by have := ga.2.2.1; unfold Fits; omega
  have fb : Fits lb := by have := gb.2.2.1; unfold Fits; omega
  refine Sat.count (N - 1 - n) (fun k s => s = (bs, (n : Int), ((n + 1 + k : Nat) : Int), (N : Int), la, (N : Int), lb, x7, xl, x9, xo ++ gridR (joinF la lb) n k, ())) ?_ (Nat.zero_le _) (fuel_lt (by omega)) (by rw [w64 (by omega) (by omega)]; simp [gridR])
  rintro k s hk rfl
  have hlen := gridR_len (joinF la lb) n k
  have fin : ∀ c : List Lk, cell (joinF la lb) n (n + 1 + k) = c → k < N - 1 - n → (bs, (n : Int), wrap64 (((n + 1 + k : Nat) : Int) + 1), (N : Int), la, (N : Int), lb, x7, xl, x9, (xo ++ gridR (joinF la lb) n k) ++ c, ()) = (bs, (n : Int), ((n + 1 + (k + 1) : Nat) : Int), (N : Int), la, (N : Int), lb, x7, xl, x9, xo ++ gridR (joinF la lb) n (k + 1), ()) := fun c hc hk => by
    rw [gridR_succ, hc, w64 (by omega) (by omega), List.append_assoc]
    rfl
  simp only [bo_spec_AreaJoin_10, e_l1Link _ _ _ _ fa, e_l1Link _ _ _ _ fb, Option.bind_some, at_lk, List.length_singleton, List.length_append]
  refine Sat.ite (fun hlt => ?_) (fun hlt => ?_)
  · have hlt := of_decide_eq_true hlt
    have hkN : k < N - 1 - n := by omega
    have hmin : min (n : Int) ((n + 1 + k : Nat) : Int) = n := by omega
    have hmax : max (n : Int) ((n + 1 + k : Nat) : Int) = ((n + 1 + k : Nat) : Int) := by omega
    cases e1 : lc la n (n + 1 + k : Nat) with
    | none =>
      refine Sat.no (by rw [lc_no e1]; rfl) ?_
      cases e2 : lc lb n (n + 1 + k : Nat) with
      | none =>
        refine Sat.no (by rw [lc_no e2]; rfl) (.some ⟨hkN, ?_⟩)
        have := fin [] (by unfold cell joinF; rw [e1, e2]) hkN
        rwa [List.append_nil] at this
      | some c =>
        obtain ⟨h1, h2, h3⟩ := lc_at e2
        refine Sat.gd (decide_eq_true h1) (Sat.gd (inR_t h1 h2) (Sat.gd (decide_eq_true (by omega)) (.some ⟨hkN, ?_⟩)))
        rw [h3, hmin, hmax]
        exact fin _ (by unfold cell joinF; rw [e1, e2]) hkN
    | some d =>
      obtain ⟨h1, h2, h3⟩ := lc_at e1
      refine Sat.gd (decide_eq_true h1) ?_
      cases e2 : lc lb n (n + 1 + k : Nat) with
      | none =>
        refine Sat.gd (by rw [lc_no e2]; rfl) (Sat.gd (inR_t h1 h2) (Sat.gd (decide_eq_true (by omega)) (.some ⟨hkN, ?_⟩)))
        rw [h3, hmin, hmax]
        exact fin _ (by unfold cell joinF; rw [e1, e2]) hkN
      | some c =>
        obtain ⟨g1, g2, g3⟩ := lc_at e2
        refine Sat.no (decide_eq_false (by omega)) (Sat.gd (inR_t h1 h2) (Sat.gd (inR_t g1 g2) ?_))
        rw [h3, g3]
        by_cases hdc : d ≤ c
        · refine Sat.gd (decide_eq_true hdc) (Sat.gd (inR_t h1 h2) (Sat.gd (decide_eq_true (by omega)) (.some ⟨hkN, ?_⟩)))
          rw [hmin, hmax]
          exact fin _ (by unfold cell joinF; rw [e1, e2]; dsimp only; rw [show min d c = d by omega]) hkN
        · refine Sat.no (decide_eq_false hdc) (Sat.gd (decide_eq_true g1) (Sat.gd (inR_t g1 g2) (Sat.gd (decide_eq_true (by omega)) (.some ⟨hkN, ?_⟩))))
          rw [hmin, hmax]
          exact fin _ (by unfold cell joinF; rw [e1, e2]; dsimp only; rw [show min d c = c by omega]) hkN
  · have hlt := of_decide_eq_false hlt
    obtain rfl : k = N - 1 - n := by omega
    exact .some rfl
theorem grid_gvb (ga : GV N la) (gb : GV N lb) : gv N (grid (joinF la lb) N) = decide ((grid (joinF la lb) N).length ≤ 14) := by
  by_cases h : (grid (joinF la lb) N).length ≤ 14
  · rw [decide_eq_true h]
    exact decide_eq_true (grid_gv (by have := ga.1; omega) (by have := ga.2.1; omega) (fun a b c _ _ e => joinF_cost ga gb e) h)
  · rw [decide_eq_false h]
    exact gv_f fun g => h g.2.2.1
theorem e_sAreaJoin (na nb : Int) (ha : Fits la) (hb : Fits lb) (hs : Fits bs) : sh_spec_AreaJoin (na, la, nb, lb, bs, ()) = some ((joinR na la nb lb bs).1, (joinR na la nb lb bs).2.2, (joinR na la nb lb bs).2.1, ()) := by
  unfold sh_spec_AreaJoin joinR joinOk
  simp only [e_l31Borders na la bs ha hs, e_l31Borders nb lb bs hb hs, Option.bind_some]
  cases h1 : bv na la bs with
  | false => simp
  | true =>
  cases h2 : bv nb lb bs with
  | false => simp
  | true =>
  by_cases h3 : na = nb
  case neg => simp [h3]
  subst h3
  obtain ⟨N, rfl, ga⟩ := gv_nat (bv_gv h1)
  obtain ⟨N', e', gb⟩ := gv_nat (bv_gv h2)
  obtain rfl : N = N' := by omega
  clear e'
  have h8 := ga.2.1
  have fa : la.length ≤ 14 := ga.2.2.1
  have fb : lb.length ≤ 14 := gb.2.2.1
  have hva : gv N la = true := decide_eq_true ga
  have hvb : gv N lb = true := decide_eq_true gb
  simp only [Bool.not_true, cond_false, decide_true, Bool.true_and, Int.toNat_natCast]
  have hgl : (grid (joinF la lb) N).length ≤ 64 := Nat.le_trans (gridK_len (joinF la lb) N N) (Nat.le_trans (Nat.mul_le_mul (show N ≤ 8 by omega) (show N ≤ 8 by omega)) (by omega))
  refine Sat.out (Sat.bnd (R := fun r => match r with | .inl x => x.2.2.1 = (N : Int) ∧ x.2.2.2.1 = grid (joinF la lb) N ∧ clean la lb bs N = true | .inr y => y = (false, 0, [], ()) ∧ clean la lb bs N = false) ?_ ?_)
  · refine Sat.count N (fun k s => s = (bs, (k : Int), (N : Int), la, (N : Int), lb, 0, [], (N : Int), gridK (joinF la lb) N k, ()) ∧ ∀ i, i < k → clash la lb bs i = false) ?_ (Nat.zero_le _) (fuel_lt (by omega)) ⟨rfl, fun i hi => by omega⟩
    rintro k s hk ⟨rfl, hok⟩
    have hlen := gridK_len (joinF la lb) N k
    have hkN : k * N ≤ 64 := Nat.le_trans (Nat.mul_le_mul hk (Nat.le_refl N)) (Nat.le_trans (Nat.mul_le_mul (show N ≤ 8 by omega) (show N ≤ 8 by omega)) (by omega))
    have nxt : clash la lb bs k = false → ∀ i, i < k + 1 → clash la lb bs i = false := fun hc i hi => by
      by_cases e : i < k
      · exact hok i e
      · obtain rfl : i = k := by omega
        exact hc
    unfold bo_spec_AreaJoin_5
    dsimp only
    refine Sat.ite (fun hlt => ?_) (fun hlt => ?_)
    · have hlt := of_decide_eq_true hlt
      have hkl : k < N := by omega
      simp only [e_l1Has bs (k : Int) hs, e_sGraphNeighbours (N : Int) la (k : Int) ha, e_sGraphNeighbours (N : Int) lb (k : Int) hb, hva, hvb, if_true, Option.bind_some, nI_eq, nbS_busy ga, nbS_busy gb]
      rcases cs_bool (bs.contains (k : Int)) with hc | hc
      · refine Sat.gd (by rw [hc]; rfl) ?_
        rcases cs_bool (busy la (k : Int)) with hd | hd
        · refine Sat.no hd ?_
          refine Sat.bnd (e_srow ga gb hkl 0 (N : Int) [] _ (by omega)) ?_
          rintro (r | r) hr
          case inr => exact hr.elim
          obtain rfl := hr
          refine .some ⟨hkl, ?_, nxt (by simp only [clash, hc, hd]; rfl)⟩
          dsimp only
          rw [gridK_succ, w64 (by omega) (by omega)]
          rfl
        · refine Sat.gd hd ?_
          rcases cs_bool (busy lb (k : Int)) with he | he
          · refine Sat.no he ?_
            refine Sat.bnd (e_srow ga gb hkl 0 (N : Int) [] _ (by omega)) ?_
            rintro (r | r) hr
            case inr => exact hr.elim
            obtain rfl := hr
            refine .some ⟨hkl, ?_, nxt (by simp only [clash, hc, hd, he]; rfl)⟩
            dsimp only
            rw [gridK_succ, w64 (by omega) (by omega)]
            rfl
          · exact Sat.gd he (.some ⟨rfl, clean_all hkl (by simp only [clash, hc, hd, he]; rfl)⟩)
      · refine Sat.no (by rw [hc]; rfl) ?_
        refine Sat.bnd (e_srow ga gb hkl 0 (N : Int) [] _ (by omega)) ?_
        rintro (r | r) hr
        case inr => exact hr.elim
        obtain rfl := hr
        refine .some ⟨hkl, ?_, nxt (by simp only [clash, hc]; rfl)⟩
        dsimp only
        rw [gridK_succ, w64 (by omega) (by omega)]
        rfl
    · have hlt := of_decide_eq_false hlt
      obtain rfl : k = N := by omega
      exact .some ⟨rfl, rfl, clean_of hok⟩
  · rintro (r | r) hr
    · have hr : r.2.2.1 = (N : Int) ∧ r.2.2.2.1 = grid (joinF la lb) N ∧ clean la lb bs N = true := hr
      dsimp only
      rw [hr.1, hr.2.1, hr.2.2, e_sGraphValid _ _ (show Fits (grid (joinF la lb) N) by unfold Fits; omega), grid_gvb ga gb]
      by_cases h14 : (grid (joinF la lb) N).length ≤ 14
      · rw [decide_eq_true h14]
        exact .some rfl
      · rw [decide_eq_false h14]
        exact .some rfl
    · have hr : r = (false, 0, [], ()) ∧ clean la lb bs N = false := hr
      obtain ⟨rfl, hq⟩ := hr
      rw [hq]
      exact .some rfl
end
end Go.Proofs.Ythcckenjkicmgaa
end
section
namespace Go.Proofs.Ythcckenjkicmgaa
open Go.RowKit
set_option linter.unusedSimpArgs false
set_option linter.unusedVariables false
set_option maxRecDepth 100000

def en (es : List En) (i : Nat) : En := es.getD i ⟨0, 0⟩
def lsa (db : List Ls) (i : Nat) : Ls := db.getD i ⟨0, 0, []⟩
theorem at_en (es : List En) (i : Nat) : at! .en es i = en es i := by
  induction es generalizing i with
  | nil => rfl
  | cons z r ih => cases i with
    | zero => rfl
    | succ i => exact (ih i).trans (by simp [en])
theorem at_ls (es : List Ls) (i : Nat) : at! .ls es i = lsa es i := by
  induction es generalizing i with
  | nil => rfl
  | cons z r ih => cases i with
    | zero => rfl
    | succ i => exact (ih i).trans (by simp [lsa])
theorem en_get {es : List En} {i : Nat} (h : i < es.length) : en es i = es[i] := by simp [en, h]
theorem lsa_get {es : List Ls} {i : Nat} (h : i < es.length) : lsa es i = es[i] := by simp [lsa, h]
def EnAt (o : Int) (es : List En) (i : Nat) : Prop := 0 ≤ (en es i).n ∧ (en es i).n ≤ 7 ∧ (en es i).n ≠ o ∧ 1 ≤ (en es i).c ∧ (en es i).c ≤ 20 ∧ (0 < i → (en es (i - 1)).n < (en es i).n)
instance (o : Int) (es : List En) (i : Nat) : Decidable (EnAt o es i) := by unfold EnAt; infer_instance
def LsV (l : Ls) : Prop := 0 ≤ l.o ∧ l.o ≤ 7 ∧ 1 ≤ l.s ∧ l.s ≤ 99 ∧ ∀ i, i < l.e.length → EnAt l.o l.e i
instance (l : Ls) : Decidable (LsV l) := by unfold LsV; infer_instance
def lsv (o s : Int) (es : List En) : Bool := decide (LsV ⟨o, s, es⟩)
theorem lsv_f {o s : Int} {es : List En} (h : ¬ LsV ⟨o, s, es⟩) : lsv o s es = false := decide_eq_false h
theorem e_LsaValid (o s : Int) (es : List En) (hl : Fits es) : sh_impl_LsaValid (o, s, es, ()) = some (lsv o s es, ()) := by
  unfold sh_impl_LsaValid
  simp only [e_within, Option.bind_some, nI_eq]
  cases h1 : inB o 0 7 with
  | false => simp; exact lsv_f fun g => inB_f h1 ⟨g.1, g.2.1⟩
  | true =>
  cases h2 : inB s 1 99 with
  | false => simp; exact lsv_f fun g => inB_f h2 ⟨g.2.2.1, g.2.2.2.1⟩
  | true =>
  have h1 := inB_t h1
  have h2 := inB_t h2
  simp only [Bool.not_true, cond_false]
  refine Sat.out (Sat.bnd (R := fun r => match r with | .inl _ => lsv o s es = true | .inr y => y.1 = false ∧ lsv o s es = false) ?_ ?_)
  · refine Sat.count es.length (fun k t => t = (es, (es.length : Int), (k : Int), o, s, es, ()) ∧ ∀ i, i < k → EnAt o es i) ?_ (Nat.zero_le _) (fuel_lt (by omega)) ⟨rfl, fun i hi => by omega⟩
    rintro k t hk ⟨rfl, hok⟩
    simp (disch := omega) only [bo_impl_LsaValid_4, at_en, toN, toN1, w64, e_within, Option.bind_some]
    repeat' (first
      | refine Sat.some ?_
      | fail
      | (refine Sat.gd (by first | exact inR_t (by omega) (by omega) | (simp (disch := omega) only [w64]; exact inR_t (by omega) (by omega))) ?_)
      | (refine Sat.ite (fun h => ?_) (fun h => ?_) <;> try simp only [decide_eq_true_eq, decide_eq_false_iff_not, Bool.not_eq_true', Bool.not_eq_false', inB_i, inB_j, Bool.and_eq_true, Bool.or_eq_true, Bool.and_eq_false_iff, Bool.or_eq_false_iff, El] at h))
    all_goals try dsimp only
    all_goals first
      | (refine ⟨rfl, decide_eq_false fun g => ?_⟩
         have := g.2.2.2.2 k (by dsimp only; omega)
         unfold EnAt at this
         dsimp only at this
         omega)
      | (refine ⟨by omega, rfl, fun i hi => ?_⟩
         by_cases e : i < k
         · exact hok i e
         · obtain rfl : i = k := by omega
           unfold EnAt
           omega)
      | exact decide_eq_true ⟨h1.1, h1.2, h2.1, h2.2, fun i hi => hok i (by dsimp only at hi; omega)⟩
  · rintro (r | r) hr
    · have hr : lsv o s es = true := hr
      exact .some (by rw [hr])
    · obtain ⟨b, u⟩ := r
      have hr : b = false ∧ lsv o s es = false := hr
      exact .some (by rw [hr.1, hr.2])
theorem e_sLsaValid (o s : Int) (es : List En) (hl : Fits es) : sh_spec_LsaValid (o, s, es, ()) = some (lsv o s es, ()) := by
  unfold sh_spec_LsaValid
  refine Sat.out (Sat.bnd (R := fun r => match r with | .inl x => x = (o, s, es, ()) ∧ ∀ i, i < es.length → EnAt o es i | .inr y => y.1 = false ∧ lsv o s es = false) ?_ ?_)
  · refine Sat.count es.length (fun k t => t = ((k : Int), o, s, es, ()) ∧ ∀ i, i < k → EnAt o es i) ?_ (Nat.zero_le _) (fuel_lt (by omega)) ⟨rfl, fun i hi => by omega⟩
    rintro k t hk ⟨rfl, hok⟩
    simp (disch := omega) only [bo_spec_LsaValid_2, at_en, toN, toN1, w64, nI_eq, e_l6In, Option.bind_some]
    repeat' (first
      | refine Sat.some ?_
      | fail
      | (refine Sat.gd (by first | exact inR_t (by omega) (by omega) | (simp (disch := omega) only [w64]; exact inR_t (by omega) (by omega))) ?_)
      | (refine Sat.ite (fun h => ?_) (fun h => ?_) <;> try simp only [decide_eq_true_eq, decide_eq_false_iff_not, Bool.not_eq_true', Bool.not_eq_false', inB_i, inB_j, Bool.and_eq_true, Bool.or_eq_true, Bool.and_eq_false_iff, Bool.or_eq_false_iff, El] at h))
    all_goals try dsimp only
    all_goals first
      | (refine ⟨rfl, decide_eq_false fun g => ?_⟩
         have := g.2.2.2.2 k (by dsimp only; omega)
         unfold EnAt at this
         dsimp only at this
         omega)
      | (refine ⟨by omega, rfl, fun i hi => ?_⟩
         by_cases e : i < k
         · exact hok i e
         · obtain rfl : i = k := by omega
           unfold EnAt
           omega)
      | exact ⟨rfl, fun i hi => hok i (by omega)⟩
  · rintro (r | r) hr
    · have hr : r = (o, s, es, ()) ∧ ∀ i, i < es.length → EnAt o es i := hr
      obtain ⟨rfl, hq⟩ := hr
      simp only [e_l6In, Option.bind_some]
      cases h1 : inB o 0 7 with
      | false => exact .some (by rw [show lsv o s es = false from decide_eq_false fun g => inB_f h1 ⟨g.1, g.2.1⟩])
      | true =>
        cases h2 : inB s 1 99 with
        | false => exact .some (by rw [show lsv o s es = false from decide_eq_false fun g => inB_f h2 ⟨g.2.2.1, g.2.2.2.1⟩])
        | true =>
          have h1 := inB_t h1
          have h2 := inB_t h2
          exact .some (by rw [show lsv o s es = true from decide_eq_true ⟨h1.1, h1.2, h2.1, h2.2, hq⟩])
    · obtain ⟨b, u⟩ := r
      have hr : b = false ∧ lsv o s es = false := hr
      exact .some (by rw [hr.1, hr.2])
def DbV (db : List Ls) : Prop := ∀ i, i < db.length → LsV (lsa db i) ∧ (0 < i → (lsa db (i - 1)).o < (lsa db i).o)
instance (db : List Ls) : Decidable (DbV db) := by unfold DbV; infer_instance
def dbv (db : List Ls) : Bool := decide (DbV db)
theorem e_DbValid (db : List Ls) (hl : Fits db) (he : ∀ l ∈ db, Fits l.e) : sh_impl_DbValid (db, ()) = some (dbv db, ()) := by
  unfold sh_impl_DbValid
  refine Sat.out (Sat.bnd (R := fun r => match r with | .inl _ => dbv db = true | .inr y => y.1 = false ∧ dbv db = false) ?_ ?_)
  · refine Sat.count db.length (fun k t => t = (db, db, (db.length : Int), (k : Int), ()) ∧ ∀ i, i < k → LsV (lsa db i) ∧ (0 < i → (lsa db (i - 1)).o < (lsa db i).o)) ?_ (Nat.zero_le _) (fuel_lt (by omega)) ⟨by simp [nI_eq], fun i hi => by omega⟩
    rintro k t hk ⟨rfl, hok⟩
    by_cases hlt : k < db.length
    · have hf : Fits (lsa db k).e := he _ (by rw [lsa_get hlt]; exact List.getElem_mem hlt)
      simp (disch := omega) only [bo_impl_DbValid_2, at_ls, toN, toN1, w64, e_LsaValid _ _ _ hf, Option.bind_some]
      repeat' (first
        | refine Sat.some ?_
        | fail
        | (refine Sat.gd (by first | exact inR_t (by omega) (by omega) | (simp (disch := omega) only [w64]; exact inR_t (by omega) (by omega))) ?_)
        | (refine Sat.ite (fun h => ?_) (fun h => ?_) <;> try simp only [decide_eq_true_eq, decide_eq_false_iff_not, Bool.not_eq_true', Bool.not_eq_false', inB_i, inB_j, Bool.and_eq_true, Bool.or_eq_true, Bool.and_eq_false_iff, Bool.or_eq_false_iff, El] at h))
      all_goals try dsimp only
      all_goals first
        | (refine ⟨rfl, decide_eq_false fun g => ?_⟩
           have := g k hlt
           first | exact of_decide_eq_false (by assumption) this.1 | omega)
        | (refine ⟨by omega, rfl, fun i hi => ?_⟩
           by_cases e : i < k
           · exact hok i e
           · obtain rfl : i = k := by omega
             exact ⟨of_decide_eq_true (by assumption), fun _ => by omega⟩)
        | omega
    · obtain rfl : k = db.length := by omega
      unfold bo_impl_DbValid_2
      simp only [decide_eq_false (show ¬ (db.length : Int) < db.length by omega), cond_false]
      exact .some (decide_eq_true hok)
  · rintro (r | r) hr
    · have hr : dbv db = true := hr
      exact .some (by rw [hr])
    · obtain ⟨b, u⟩ := r
      have hr : b = false ∧ dbv db = false := hr
      exact .some (by rw [hr.1, hr.2])
def fd (db : List Ls) (o : Int) : Option Ls := db.find? fun l => decide (l.o = o)
def ec (es : List En) (b : Int) : Int := match es.find? (fun e => decide (e.n = b)) with | some e => e.c | none => 0
def ann (db : List Ls) (a b : Int) : Int := match fd db a with | some l => ec l.e b | none => 0
theorem find_hit {α : Type} {p : α → Bool} {l : List α} {k : Nat} (hk : k < l.length) (h : p l[k] = true) (hn : ∀ i (hi : i < l.length), i < k → p l[i] = false) : l.find? p = some l[k] := by
  rw [List.find?_eq_some_iff_getElem]
  exact ⟨h, k, hk, rfl, fun j hj => by simp [hn j (by omega) hj]⟩
theorem find_miss {α : Type} {p : α → Bool} {l : List α} (hn : ∀ i (hi : i < l.length), p l[i] = false) : l.find? p = none := by
  rw [List.find?_eq_none]
  intro x hx
  obtain ⟨i, hi, rfl⟩ := List.getElem_of_mem hx
  simp [hn i hi]
theorem e_l11Find (db : List Ls) (o : Int) (hl : Fits db) : sh_spec_l11Find (db, o, ()) = some (match fd db o with | some l => (l.o, l.s, l.e, true, ()) | none => (0, 0, [], false, ())) := by
  unfold sh_spec_l11Find
  refine Sat.out (Sat.bnd (R := fun r => match r with | .inl _ => fd db o = none | .inr y => ∃ l, fd db o = some l ∧ y = (true, l.o, l.s, l.e, ())) ?_ ?_)
  · refine Sat.count db.length (fun k t => t = (db, o, (k : Int), 0, 0, [], ()) ∧ ∀ i, i < k → (lsa db i).o ≠ o) ?_ (Nat.zero_le _) (fuel_lt (by omega)) ⟨rfl, fun i hi => by omega⟩
    rintro k t hk ⟨rfl, hok⟩
    simp (disch := omega) only [bo_spec_l11Find_2, at_ls, toN, w64, nI_eq]
    repeat' (first
      | refine Sat.some ?_
      | fail
      | (refine Sat.gd (by first | exact inR_t (by omega) (by omega) | (simp (disch := omega) only [w64]; exact inR_t (by omega) (by omega))) ?_)
      | (refine Sat.ite (fun h => ?_) (fun h => ?_) <;> try simp only [decide_eq_true_eq, decide_eq_false_iff_not, Bool.not_eq_true', Bool.not_eq_false', inB_i, inB_j, Bool.and_eq_true, Bool.or_eq_true, Bool.and_eq_false_iff, Bool.or_eq_false_iff, El] at h))
    all_goals try dsimp only
    · have hlt : k < db.length := by omega
      refine ⟨lsa db k, ?_, rfl⟩
      unfold fd
      rw [lsa_get hlt]
      exact find_hit hlt (decide_eq_true (by rw [← lsa_get hlt]; assumption)) fun i hi hik => decide_eq_false (by rw [← lsa_get hi]; exact hok i hik)
    · refine ⟨by omega, rfl, fun i hi => ?_⟩
      by_cases e : i < k
      · exact hok i e
      · obtain rfl : i = k := by omega
        assumption
    · exact find_miss fun i hi => decide_eq_false (by rw [← lsa_get hi]; exact hok i (by omega))
  · rintro (r | r) hr
    · have hr : fd db o = none := hr
      exact .some (by rw [hr])
    · obtain ⟨l, h1, rfl⟩ := hr
      exact .some (by rw [h1])
theorem e_l11Cost (db : List Ls) (a b : Int) (hl : Fits db) (he : ∀ l ∈ db, Fits l.e) : sh_spec_l11Cost (db, a, b, ()) = some (ann db a b, ()) := by
  unfold sh_spec_l11Cost
  simp only [e_l11Find db a hl, Option.bind_some]
  have loop : ∀ (x y : Int) (es : List En), Fits es → Sat (lp bo_spec_l11Cost_3 fuel (b, 0, x, y, es, ())) fun r => match r with | .inl _ => ec es b = 0 | .inr z => z.1 = ec es b := fun x y es hf => by
    refine Sat.count es.length (fun k t => t = (b, (k : Int), x, y, es, ()) ∧ ∀ i, i < k → (en es i).n ≠ b) ?_ (Nat.zero_le _) (fuel_lt (by omega)) ⟨rfl, fun i hi => by omega⟩
    rintro k t hk ⟨rfl, hok⟩
    simp (disch := omega) only [bo_spec_l11Cost_3, at_en, toN, w64, nI_eq]
    repeat' (first
      | refine Sat.some ?_
      | fail
      | (refine Sat.gd (by first | exact inR_t (by omega) (by omega) | (simp (disch := omega) only [w64]; exact inR_t (by omega) (by omega))) ?_)
      | (refine Sat.ite (fun h => ?_) (fun h => ?_) <;> try simp only [decide_eq_true_eq, decide_eq_false_iff_not, Bool.not_eq_true', Bool.not_eq_false', inB_i, inB_j, Bool.and_eq_true, Bool.or_eq_true, Bool.and_eq_false_iff, Bool.or_eq_false_iff, El] at h))
    all_goals try dsimp only
    · have hlt : k < es.length := by omega
      unfold ec
      rw [find_hit (k := k) hlt (decide_eq_true (by rw [← en_get hlt]; assumption)) fun i hi hik => decide_eq_false (by rw [← en_get hi]; exact hok i hik), en_get hlt]
    · refine ⟨by omega, rfl, fun i hi => ?_⟩
      by_cases e : i < k
      · exact hok i e
      · obtain rfl : i = k := by omega
        assumption
    · unfold ec
      rw [find_miss (p := fun e : En => decide (e.n = b)) (l := es) fun i hi => decide_eq_false (by rw [← en_get hi]; exact hok i (by omega))]
  unfold ann
  cases h : fd db a with
  | none =>
    refine Sat.out (Sat.bnd (loop 0 0 [] (by simp)) ?_)
    rintro (r | r) hr
    · exact .some rfl
    · obtain ⟨z, u⟩ := r
      have hr : z = ec [] b := hr
      exact .some (by rw [hr]; rfl)
  | some l =>
    have hm : l ∈ db := List.mem_of_find?_eq_some h
    refine Sat.out (Sat.bnd (loop l.o l.s l.e (he l hm)) ?_)
    rintro (r | r) hr
    · have hr : ec l.e b = 0 := hr
      exact .some (by dsimp only; rw [hr])
    · obtain ⟨z, u⟩ := r
      have hr : z = ec l.e b := hr
      exact .some (by rw [hr])
end Go.Proofs.Ythcckenjkicmgaa
end
section
namespace Go.Proofs.Ythcckenjkicmgaa
open Go.RowKit
set_option linter.unusedSimpArgs false
set_option linter.unusedVariables false
set_option maxRecDepth 100000

theorem sv {α β : Type} {o : Option α} {f : α → Option β} {r : α} {Q : β → Prop} (h : o = some r) (k : Sat (f r) Q) : Sat (o.bind f) Q := by subst h; exact k
theorem at_set_self (τ : Ty) (xs : List (El τ)) (i : Nat) (v : El τ) (h : i < xs.length) : at! τ (xs.set i v) i = v := by
  have h1 := at_get τ (xs.set i v) i (by rw [List.length_set]; exact h)
  rw [List.getElem?_set_self h] at h1
  exact (Option.some.inj h1).symm
theorem fill_step {α : Type} (xs : List α) (d : α) {x : α} {k : Nat} (hx : xs[k]? = some x) : (xs.take k ++ List.replicate (xs.length - k) d).set k x = xs.take (k + 1) ++ List.replicate (xs.length - (k + 1)) d := by
  have hk := (List.getElem?_eq_some_iff.1 hx).1
  rw [List.set_append_right _ _ (by rw [List.length_take]; omega), List.length_take, Nat.min_eq_left (by omega), Nat.sub_self, show xs.length - k = (xs.length - (k + 1)) + 1 by omega, List.replicate_succ, List.set_cons_zero, List.take_add_one, hx]
  simp
theorem lk_set_self (ls : List Lk) (i : Nat) (v : Lk) (h : i < ls.length) : lk (ls.set i v) i = v := by rw [← at_lk]; exact at_set_self .lk ls i v h
theorem en_set_self (ls : List En) (i : Nat) (v : En) (h : i < ls.length) : en (ls.set i v) i = v := by rw [← at_en]; exact at_set_self .en ls i v h
theorem int_set_self (ls : List Int) (i : Nat) (v : Int) (h : i < ls.length) : iz (ls.set i v) i = v := by rw [← at_int]; exact at_set_self .int ls i v h
theorem to_gen {α : Type} {B : (List α × Int × List α × Unit) → Option ((List α × Int × List α × Unit) ⊕ ((List α × Unit) ⊕ Unit))} (xs : List α) (d : α) (hx : xs.length ≤ 16777216)
    (hB : ∀ (k : Nat) (x : α) (out : List α), xs[k]? = some x → out.length = xs.length → B (xs, (k : Int), out, ()) = some (.inl (xs, ((k + 1 : Nat) : Int), out.set k x, ())))
    (hE : ∀ out : List α, B (xs, (xs.length : Int), out, ()) = some (.inr (.inl (out, ())))) : lp B fuel (xs, (0 : Int), List.replicate xs.length d, ()) = some (.inl (xs, ())) := by
  refine Sat.out (Sat.count xs.length (fun k t => t = (xs, (k : Int), xs.take k ++ List.replicate (xs.length - k) d, ())) ?_ (Nat.zero_le _) (fuel_lt (by omega)) (by simp))
  rintro k t hk rfl
  by_cases hlt : k < xs.length
  · have hx := List.getElem?_eq_getElem hlt
    rw [hB k _ _ hx (by simp; omega)]
    exact .some ⟨hlt, by rw [fill_step xs d hx]⟩
  · obtain rfl : k = xs.length := by omega
    rw [hE]
    exact .some (by simp)
theorem eq_gen {α : Type} {B : (List α × List α × Int × Unit) → Option ((List α × List α × Int × Unit) ⊕ (Unit ⊕ (Bool × Unit)))} (xs : List α) (hx : Fits xs)
    (hB : ∀ (k : Nat) (x : α), xs[k]? = some x → B (xs, xs, (k : Int), ()) = some (.inl (xs, xs, ((k + 1 : Nat) : Int), ())))
    (hE : B (xs, xs, (xs.length : Int), ()) = some (.inr (.inl ()))) : lp B fuel (xs, xs, (0 : Int), ()) = some (.inl ()) := by
  refine Sat.out (Sat.count xs.length (fun k t => t = (xs, xs, (k : Int), ())) ?_ (Nat.zero_le _) (fuel_lt hx) rfl)
  rintro k t hk rfl
  by_cases hlt : k < xs.length
  · rw [hB k _ (List.getElem?_eq_getElem hlt)]
    exact .some ⟨hlt, rfl⟩
  · obtain rfl : k = xs.length := by omega
    rw [hE]
    exact .some rfl
def mkF {α : Type} (c : Nat) (f : Int → α) (k : Int) (n : Nat) : List α := (List.range n).map fun i : Nat => f (k + c * i)
theorem mkF_len {α : Type} (c : Nat) (f : Int → α) (k : Int) (n : Nat) : (mkF c f k n).length = n := by simp [mkF]
theorem mkF_succ {α : Type} (c : Nat) (f : Int → α) (k : Int) (n : Nat) : mkF c f k (n + 1) = mkF c f k n ++ [f (k + c * n)] := by simp [mkF, List.range_succ]
theorem mkF_get {α : Type} (c : Nat) (f : Int → α) (k : Int) (n i : Nat) (h : i < n) : (mkF c f k n)[i]? = some (f (k + c * i)) := by simp [mkF, h]
theorem mark_gen {α : Type} {B : (Int × Int × List α × Unit) → Option ((Int × Int × List α × Unit) ⊕ ((Int × List α × Unit) ⊕ Unit))} (c : Nat) (f : Int → α) (xs : List α) (k : Int) (h0 : 0 ≤ k) (hx : xs.length ≤ 4000000000) (hk : k + c * xs.length ≤ 1000000000000)
    (hB : ∀ (i : Nat) (q : Int) (l : List α), i < l.length → l.length ≤ 4000000000 → 0 ≤ q → q ≤ 1000000000000 → B (q, (i : Int), l, ()) = some (.inl (q + c, ((i + 1 : Nat) : Int), l.set i (f q), ())))
    (hE : ∀ (q : Int) (l : List α), B (q, (l.length : Int), l, ()) = some (.inr (.inl (q, l, ())))) : lp B fuel (k, (0 : Int), xs, ()) = some (.inl (k + c * xs.length, mkF c f k xs.length, ())) := by
  refine Sat.out (Sat.count xs.length (fun i t => t = (k + c * i, (i : Int), mkF c f k i ++ xs.drop i, ())) ?_ (Nat.zero_le _) (fuel_lt (by omega)) (by simp [mkF]))
  rintro i t hi rfl
  have hl : (mkF c f k i ++ xs.drop i).length = xs.length := by rw [List.length_append, mkF_len, List.length_drop]; omega
  have hci : (c : Int) * i ≤ c * xs.length := Int.mul_le_mul_of_nonneg_left (by omega) (by omega)
  have hc0 : 0 ≤ (c : Int) * i := Int.mul_nonneg (by omega) (by omega)
  by_cases hlt : i < xs.length
  · rw [hB i _ _ (by omega) (by omega) (by omega) (by omega)]
    refine .some ⟨hlt, ?_⟩
    have e : (mkF c f k i ++ xs.drop i).set i (f (k + c * i)) = mkF c f k (i + 1) ++ xs.drop (i + 1) := by
      rw [List.set_append_right _ _ (by rw [mkF_len]; exact Nat.le_refl _), mkF_len, Nat.sub_self, mkF_succ, List.drop_eq_getElem_cons hlt, List.set_cons_zero, List.append_assoc]
      rfl
    rw [e, show k + (c : Int) * i + c = k + c * ((i + 1 : Nat) : Int) by rw [Int.natCast_add, Int.mul_add]; simp; omega]
  · obtain rfl : i = xs.length := by omega
    have := hE (k + c * xs.length) (mkF c f k xs.length ++ xs.drop xs.length)
    rw [hl] at this
    rw [this]
    exact .some (by simp)
theorem held_gen {α : Type} {B : (List α × Int × Int × Unit) → Option ((List α × Int × Int × Unit) ⊕ ((Int × Unit) ⊕ (Int × Unit)))} (c : Nat) (f : Int → α) (n : Nat) (k : Int) (h0 : 0 ≤ k) (hx : n ≤ 4000000000) (hk : k + c * n ≤ 1000000000000)
    (hB : ∀ (i : Nat) (q : Int) (l : List α), l[i]? = some (f q) → l.length ≤ 4000000000 → 0 ≤ q → q ≤ 1000000000000 → B (l, q, (i : Int), ()) = some (.inl (l, q + c, ((i + 1 : Nat) : Int), ())))
    (hE : ∀ (q : Int) (l : List α), B (l, q, (l.length : Int), ()) = some (.inr (.inl (q, ())))) : lp B fuel (mkF c f k n, k, (0 : Int), ()) = some (.inl (k + c * n, ())) := by
  refine Sat.out (Sat.count n (fun i t => t = (mkF c f k n, k + c * i, (i : Int), ())) ?_ (Nat.zero_le _) (fuel_lt (by omega)) (by simp))
  rintro i t hi rfl
  have hci : (c : Int) * i ≤ c * n := Int.mul_le_mul_of_nonneg_left (by omega) (by omega)
  have hc0 : 0 ≤ (c : Int) * i := Int.mul_nonneg (by omega) (by omega)
  by_cases hlt : i < n
  · rw [hB i _ _ (mkF_get c f k n i hlt) (by rw [mkF_len]; omega) (by omega) (by omega)]
    refine .some ⟨hlt, ?_⟩
    rw [show k + (c : Int) * i + c = k + c * ((i + 1 : Nat) : Int) by rw [Int.natCast_add, Int.mul_add]; simp; omega]
  · obtain rfl : i = n := by omega
    have := hE (k + c * i) (mkF c f k i)
    rw [mkF_len] at this
    rw [this]
    exact .some rfl
theorem at_of {τ : Ty} {xs : List (El τ)} {i : Nat} {x : El τ} (h : xs[i]? = some x) : at! τ xs i = x := by
  have := at_get τ xs i (List.getElem?_eq_some_iff.1 h).1
  rw [h] at this
  exact (Option.some.inj this).symm
theorem lt_of {α : Type} {xs : List α} {i : Nat} {x : α} (h : xs[i]? = some x) : i < xs.length := (List.getElem?_eq_some_iff.1 h).1
def lkM (q : Int) : Lk := ⟨q, q + 1, q + 2⟩
def enM (q : Int) : En := ⟨q, q + 1⟩
theorem e_toLinkS (xs : List Lk) (h : xs.length ≤ 16777216) : sh_laws_toLinkS (xs, ()) = some (xs, ()) := by
  unfold sh_laws_toLinkS
  simp only [nI_eq, toN]
  refine Sat.out (Sat.gd (by simp; omega) (sv (to_gen xs _ h (fun k x out hx ho => ?_) (fun out => ?_)) (.some rfl)))
  · have hk := lt_of hx
    simp (disch := omega) only [bo_laws_toLinkS_3, at_of (τ := .lk) hx, toN, w64, nI_eq, Option.bind_some, sh_laws_toLink]
    exact Sat.out (Sat.gd (decide_eq_true (by omega)) (Sat.gd (inR_t (by omega) (by omega)) (Sat.gd (inR_t (by omega) (by omega)) (.some rfl))))
  · simp only [bo_laws_toLinkS_3, nI_eq]
    exact Sat.out (Sat.no (decide_eq_false (by omega)) (.some rfl))
theorem e_toIntS (xs : List Int) (h : xs.length ≤ 16777216) : sh_laws_toIntS (xs, ()) = some (xs, ()) := by
  unfold sh_laws_toIntS
  simp only [nI_eq, toN]
  refine Sat.out (Sat.gd (by simp; omega) (sv (to_gen xs _ h (fun k x out hx ho => ?_) (fun out => ?_)) (.some rfl)))
  · have hk := lt_of hx
    simp (disch := omega) only [bo_laws_toIntS_3, at_of (τ := .int) hx, toN, w64, nI_eq, Option.bind_some]
    exact Sat.out (Sat.gd (decide_eq_true (by omega)) (Sat.gd (inR_t (by omega) (by omega)) (Sat.gd (inR_t (by omega) (by omega)) (.some rfl))))
  · simp only [bo_laws_toIntS_3, nI_eq]
    exact Sat.out (Sat.no (decide_eq_false (by omega)) (.some rfl))
theorem e_toEndS (xs : List En) (h : xs.length ≤ 16777216) : sh_laws_toEndS (xs, ()) = some (xs, ()) := by
  unfold sh_laws_toEndS
  simp only [nI_eq, toN]
  refine Sat.out (Sat.gd (by simp; omega) (sv (to_gen xs _ h (fun k x out hx ho => ?_) (fun out => ?_)) (.some rfl)))
  · have hk := lt_of hx
    simp (disch := omega) only [bo_laws_toEndS_3, at_of (τ := .en) hx, toN, w64, nI_eq, Option.bind_some, sh_laws_toEnd]
    exact Sat.out (Sat.gd (decide_eq_true (by omega)) (Sat.gd (inR_t (by omega) (by omega)) (Sat.gd (inR_t (by omega) (by omega)) (.some rfl))))
  · simp only [bo_laws_toEndS_3, nI_eq]
    exact Sat.out (Sat.no (decide_eq_false (by omega)) (.some rfl))
theorem e_eqLinkS (xs : List Lk) (h : Fits xs) : sh_laws_eqLinkS (xs, xs, ()) = some (true, ()) := by
  unfold sh_laws_eqLinkS
  unfold Fits at h
  simp only [nI_eq]
  refine Sat.out (Sat.no (by simp) (sv (eq_gen xs h (fun k x hx => ?_) ?_) (.some rfl)))
  · have hk := lt_of hx
    simp (disch := omega) only [bo_laws_eqLinkS_4, at_of (τ := .lk) hx, toN, w64, nI_eq, Option.bind_some, decide_true, Bool.not_true, cond_false, sh_laws_eqLink]
    exact Sat.out (Sat.gd (decide_eq_true (by omega)) (Sat.gd (inR_t (by omega) (by omega)) (Sat.gd (inR_t (by omega) (by omega)) (.some rfl))))
  · simp only [bo_laws_eqLinkS_4, nI_eq]
    exact Sat.out (Sat.no (decide_eq_false (by omega)) (.some rfl))
theorem e_eqIntS (xs : List Int) (h : Fits xs) : sh_laws_eqIntS (xs, xs, ()) = some (true, ()) := by
  unfold sh_laws_eqIntS
  unfold Fits at h
  simp only [nI_eq]
  refine Sat.out (Sat.no (by simp) (sv (eq_gen xs h (fun k x hx => ?_) ?_) (.some rfl)))
  · have hk := lt_of hx
    simp (disch := omega) only [bo_laws_eqIntS_4, at_of (τ := .int) hx, toN, w64, nI_eq, Option.bind_some, decide_true, Bool.not_true, cond_false]
    exact Sat.out (Sat.gd (decide_eq_true (by omega)) (Sat.gd (inR_t (by omega) (by omega)) (Sat.gd (inR_t (by omega) (by omega)) (.some rfl))))
  · simp only [bo_laws_eqIntS_4, nI_eq]
    exact Sat.out (Sat.no (decide_eq_false (by omega)) (.some rfl))
theorem e_eqEndS (xs : List En) (h : Fits xs) : sh_laws_eqEndS (xs, xs, ()) = some (true, ()) := by
  unfold sh_laws_eqEndS
  unfold Fits at h
  simp only [nI_eq]
  refine Sat.out (Sat.no (by simp) (sv (eq_gen xs h (fun k x hx => ?_) ?_) (.some rfl)))
  · have hk := lt_of hx
    simp (disch := omega) only [bo_laws_eqEndS_4, at_of (τ := .en) hx, toN, w64, nI_eq, Option.bind_some, decide_true, Bool.not_true, cond_false, sh_laws_eqEnd]
    exact Sat.out (Sat.gd (decide_eq_true (by omega)) (Sat.gd (inR_t (by omega) (by omega)) (Sat.gd (inR_t (by omega) (by omega)) (.some rfl))))
  · simp only [bo_laws_eqEndS_4, nI_eq]
    exact Sat.out (Sat.no (decide_eq_false (by omega)) (.some rfl))
theorem e_markLinkS (k : Int) (xs : List Lk) (h0 : 0 ≤ k) (hx : xs.length ≤ 4000000000) (hk : k + 3 * xs.length ≤ 1000000000000) : sh_laws_markLinkS (k, xs, ()) = some (k + 3 * xs.length, mkF 3 lkM k xs.length, ()) := by
  unfold sh_laws_markLinkS
  refine Sat.out (sv (mark_gen 3 lkM xs k h0 hx hk (fun i q l hi hl hq0 hq1 => ?_) (fun q l => ?_)) (.some rfl))
  · simp (disch := first | omega | assumption | (simp only [List.length_set]; omega)) only [bo_laws_markLinkS_2, toN, w64, nI_eq, at_lk, lk_set_self, List.set_set, Int.add_assoc, Int.reduceAdd]
    refine Sat.out (Sat.gd (decide_eq_true (by omega)) (Sat.gd (inR_t (by omega) (by (try simp only [List.length_set]); omega)) (Sat.gd (inR_t (by omega) (by (try simp only [List.length_set]); omega)) (Sat.gd (inR_t (by omega) (by (try simp only [List.length_set]); omega)) (.some ?_)))))
    first | rfl | (simp [lkM]; done) | (unfold lkM; congr 2; omega)
  · simp only [bo_laws_markLinkS_2, nI_eq]
    exact Sat.out (Sat.no (decide_eq_false (by omega)) (.some rfl))
theorem e_heldLinkS (k : Int) (n : Nat) (h0 : 0 ≤ k) (hx : n ≤ 4000000000) (hk : k + 3 * n ≤ 1000000000000) : sh_laws_heldLinkS (mkF 3 lkM k n, k, ()) = some (k + 3 * n, ()) := by
  unfold sh_laws_heldLinkS
  refine Sat.out (sv (held_gen 3 lkM n k h0 hx hk (fun i q l hi hl hq0 hq1 => ?_) (fun q l => ?_)) (.some rfl))
  · have hlt := lt_of hi
    simp (disch := omega) only [bo_laws_heldLinkS_2, toN, w64, nI_eq, at_of (τ := .lk) hi, Int.add_assoc, Int.reduceAdd]
    refine Sat.out (Sat.gd (decide_eq_true (by omega)) (Sat.gd (inR_t (by omega) (by omega)) (Sat.no (by simp [lkM]) (Sat.gd (inR_t (by omega) (by omega)) (Sat.no (by simp [lkM]) (Sat.gd (inR_t (by omega) (by omega)) (Sat.no (by simp [lkM]) (.some ?_))))))))
    first | rfl | (simp; omega)
  · simp only [bo_laws_heldLinkS_2, nI_eq]
    exact Sat.out (Sat.no (decide_eq_false (by omega)) (.some rfl))
theorem e_markIntS (k : Int) (xs : List Int) (h0 : 0 ≤ k) (hx : xs.length ≤ 4000000000) (hk : k + 1 * xs.length ≤ 1000000000000) : sh_laws_markIntS (k, xs, ()) = some (k + 1 * xs.length, mkF 1 id k xs.length, ()) := by
  unfold sh_laws_markIntS
  refine Sat.out (sv (mark_gen 1 id xs k h0 hx hk (fun i q l hi hl hq0 hq1 => ?_) (fun q l => ?_)) (.some rfl))
  · simp (disch := first | omega | assumption | (simp only [List.length_set]; omega)) only [bo_laws_markIntS_2, toN, w64, nI_eq, at_int, int_set_self, List.set_set, Int.add_assoc, Int.reduceAdd]
    refine Sat.out (Sat.gd (decide_eq_true (by omega)) (Sat.gd (inR_t (by omega) (by (try simp only [List.length_set]); omega)) (.some ?_)))
    first | rfl | (simp [id]; done) | (unfold id; congr 2; omega)
  · simp only [bo_laws_markIntS_2, nI_eq]
    exact Sat.out (Sat.no (decide_eq_false (by omega)) (.some rfl))
theorem e_heldIntS (k : Int) (n : Nat) (h0 : 0 ≤ k) (hx : n ≤ 4000000000) (hk : k + 1 * n ≤ 1000000000000) : sh_laws_heldIntS (mkF 1 id k n, k, ()) = some (k + 1 * n, ()) := by
  unfold sh_laws_heldIntS
  refine Sat.out (sv (held_gen 1 id n k h0 hx hk (fun i q l hi hl hq0 hq1 => ?_) (fun q l => ?_)) (.some rfl))
  · have hlt := lt_of hi
    simp (disch := omega) only [bo_laws_heldIntS_2, toN, w64, nI_eq, at_of (τ := .int) hi, Int.add_assoc, Int.reduceAdd]
    refine Sat.out (Sat.gd (decide_eq_true (by omega)) (Sat.gd (inR_t (by omega) (by omega)) (Sat.no (by simp [id]) (.some ?_))))
    first | rfl | (simp; omega)
  · simp only [bo_laws_heldIntS_2, nI_eq]
    exact Sat.out (Sat.no (decide_eq_false (by omega)) (.some rfl))
theorem e_markEndS (k : Int) (xs : List En) (h0 : 0 ≤ k) (hx : xs.length ≤ 4000000000) (hk : k + 2 * xs.length ≤ 1000000000000) : sh_laws_markEndS (k, xs, ()) = some (k + 2 * xs.length, mkF 2 enM k xs.length, ()) := by
  unfold sh_laws_markEndS
  refine Sat.out (sv (mark_gen 2 enM xs k h0 hx hk (fun i q l hi hl hq0 hq1 => ?_) (fun q l => ?_)) (.some rfl))
  · simp (disch := first | omega | assumption | (simp only [List.length_set]; omega)) only [bo_laws_markEndS_2, toN, w64, nI_eq, at_en, en_set_self, List.set_set, Int.add_assoc, Int.reduceAdd]
    refine Sat.out (Sat.gd (decide_eq_true (by omega)) (Sat.gd (inR_t (by omega) (by (try simp only [List.length_set]); omega)) (Sat.gd (inR_t (by omega) (by (try simp only [List.length_set]); omega)) (.some ?_))))
    first | rfl | (simp [enM]; done) | (unfold enM; congr 2; omega)
  · simp only [bo_laws_markEndS_2, nI_eq]
    exact Sat.out (Sat.no (decide_eq_false (by omega)) (.some rfl))
theorem e_toGraph (n : Int) (ls : List Lk) (h : ls.length ≤ 16777216) : sh_laws_toGraph (n, ls, ()) = some (n, ls, ()) := by
  unfold sh_laws_toGraph
  rw [e_toLinkS ls h]; rfl
theorem e_eqGraph (n : Int) (ls : List Lk) (h : Fits ls) : sh_laws_eqGraph (n, ls, n, ls, ()) = some (true, ()) := by
  unfold sh_laws_eqGraph
  refine Sat.out (Sat.no (by simp) (sv (e_eqLinkS ls h) (Sat.no rfl (.some rfl))))
theorem e_markGraph (n k : Int) (ls : List Lk) (h0 : 0 ≤ k) (h1 : k ≤ 100000000000) (h : ls.length ≤ 16777216) : sh_laws_markGraph (n, k, ls, ()) = some (k + 3 * ls.length, mkF 3 lkM k ls.length, ()) := by
  unfold sh_laws_markGraph
  rw [e_markLinkS k ls h0 (by omega) (by omega)]; rfl
theorem e_heldGraph (n k : Int) (m : Nat) (h0 : 0 ≤ k) (h1 : k ≤ 100000000000) (h : m ≤ 16777216) : sh_laws_heldGraph (n, mkF 3 lkM k m, k, ()) = some (k + 3 * m, ()) := by
  unfold sh_laws_heldGraph
  refine Sat.out (sv (e_heldLinkS k m h0 (by omega) (by omega)) (Sat.no (decide_eq_false (by dsimp only; omega)) (.some rfl)))
abbrev Mxl {α : Type} (l : List α) : Prop := l.length ≤ 9223372036854775807
theorem e_szL (s : List Lk × Int × Unit) (h : Mxl s.1) (h1 : -1 ≤ s.2.1 ∧ s.2.1 ≤ 2000000) : sh_laws_szLinkS s = some (if s.2.1 - s.1.length < 0 then -1 else s.2.1 - s.1.length, ()) := by
  unfold Mxl at h
  unfold sh_laws_szLinkS
  simp (disch := omega) only [nI_eq, w64]
  by_cases e : s.2.1 - (s.1.length : Int) < 0
  · rw [if_pos e, decide_eq_true e]; rfl
  · rw [if_neg e, decide_eq_false e]; rfl
theorem e_szGraph (n : Int) (ls : List Lk) (left : Int) (h : Mxl ls) (h1 : -1 ≤ left ∧ left ≤ 2000000) : sh_laws_szGraph (n, ls, left, ()) = some (if left - ls.length < 0 then -1 else left - ls.length, ()) := by
  unfold sh_laws_szGraph
  rw [e_szL _ h h1]
  dsimp only [Option.bind_some]
  by_cases e : left - (ls.length : Int) < 0
  · rw [if_pos e]; rfl
  · rw [if_neg e]
    exact Sat.out (Sat.no (decide_eq_false e) (.some rfl))
theorem e_szE (s : List En × Int × Unit) (h : Mxl s.1) (h1 : -1 ≤ s.2.1 ∧ s.2.1 ≤ 2000000) : sh_laws_szEndS s = some (if s.2.1 - s.1.length < 0 then -1 else s.2.1 - s.1.length, ()) := by
  unfold Mxl at h
  unfold sh_laws_szEndS
  simp (disch := omega) only [nI_eq, w64]
  by_cases e : s.2.1 - (s.1.length : Int) < 0
  · rw [if_pos e, decide_eq_true e]; rfl
  · rw [if_neg e, decide_eq_false e]; rfl
end Go.Proofs.Ythcckenjkicmgaa
end
section
namespace Go.Proofs.Ythcckenjkicmgaa
open Go.RowKit
set_option maxRecDepth 100000
def sh_spec_l6Rd_pick (s : (Int × List Int × Int × Unit)) : Option (Int × List Int × Int × Unit) := (bif decide ((s.1 < (1 : Int))) then some (((0 : Int), s.2.1, wrap64 ((s.2.2.1 + (1 : Int))), ())) else (bif decide ((nI (List.length s.2.1) = (0 : Int))) then some (((0 : Int), s.2.1, wrap64 ((s.2.2.1 + (1 : Int))), ())) else (bif decide ((wrap64 ((wrap64 ((s.2.2.1 + (1 : Int))) - (1 : Int))) < nI (List.length s.2.1))) then (bif inR (wrap64 ((wrap64 ((s.2.2.1 + (1 : Int))) - (1 : Int)))) (List.length s.2.1) then (bif (!(decide ((s.1 = (0 : Int))))) then some ((Int.tmod (wrap64 (at! .u8 s.2.1 (Int.toNat (wrap64 ((wrap64 ((s.2.2.1 + (1 : Int))) - (1 : Int))))))) s.1, s.2.1, wrap64 ((s.2.2.1 + (1 : Int))), ())) else none) else none) else (bif (!(decide ((nI (List.length s.2.1) = (0 : Int))))) then (bif inR (Int.tmod (wrap64 ((wrap64 ((s.2.2.1 + (1 : Int))) - (1 : Int)))) (nI (List.length s.2.1))) (List.length s.2.1) then (bif (!(decide ((nI (List.length s.2.1) = (0 : Int))))) then (bif inR (Int.tmod (wrap64 ((wrap64 ((wrap64 ((wrap64 ((s.2.2.1 + (1 : Int))) - (1 : Int))) * (7 : Int))) + (3 : Int)))) (nI (List.length s.2.1))) (List.length s.2.1) then (bif (!(decide ((nI (List.length s.2.1) = (0 : Int))))) then (bif (!(decide ((s.1 = (0 : Int))))) then some ((Int.tmod (xorK .i64 (wrap64 ((wrap64 ((wrap64 ((wrap64 ((wrap64 (at! .u8 s.2.1 (Int.toNat (Int.tmod (wrap64 ((wrap64 ((s.2.2.1 + (1 : Int))) - (1 : Int)))) (nI (List.length s.2.1))))) * (131 : Int))) + wrap64 ((wrap64 (at! .u8 s.2.1 (Int.toNat (Int.tmod (wrap64 ((wrap64 ((wrap64 ((wrap64 ((s.2.2.1 + (1 : Int))) - (1 : Int))) * (7 : Int))) + (3 : Int)))) (nI (List.length s.2.1))))) * (1117 : Int))))) + wrap64 ((wrap64 ((wrap64 ((s.2.2.1 + (1 : Int))) - (1 : Int))) * (29 : Int))))) + wrap64 ((wrap64 (Int.tdiv (wrap64 ((wrap64 ((s.2.2.1 + (1 : Int))) - (1 : Int)))) (nI (List.length s.2.1))) * (53 : Int)))))) (wrap64 (Int.tdiv (wrap64 ((wrap64 ((wrap64 ((wrap64 ((wrap64 (at! .u8 s.2.1 (Int.toNat (Int.tmod (wrap64 ((wrap64 ((s.2.2.1 + (1 : Int))) - (1 : Int)))) (nI (List.length s.2.1))))) * (131 : Int))) + wrap64 ((wrap64 (at! .u8 s.2.1 (Int.toNat (Int.tmod (wrap64 ((wrap64 ((wrap64 ((wrap64 ((s.2.2.1 + (1 : Int))) - (1 : Int))) * (7 : Int))) + (3 : Int)))) (nI (List.length s.2.1))))) * (1117 : Int))))) + wrap64 ((wrap64 ((wrap64 ((s.2.2.1 + (1 : Int))) - (1 : Int))) * (29 : Int))))) + wrap64 ((wrap64 (Int.tdiv (wrap64 ((wrap64 ((s.2.2.1 + (1 : Int))) - (1 : Int)))) (nI (List.length s.2.1))) * (53 : Int)))))) ((64 : Int))))) s.1, s.2.1, wrap64 ((s.2.2.1 + (1 : Int))), ())) else none) else none) else none) else none) else none) else none))))
def sh_spec_l6Open (s : (List Int × Unit)) : Option (List Int × Int × Unit) := (bif decide (((2000 : Int) < nI (List.length s.1))) then (bif bnd2 ((0 : Int)) ((2000 : Int)) (List.length s.1) then some ((List.take ((Int.toNat ((2000 : Int)) - Int.toNat ((0 : Int)))) (List.drop (Int.toNat ((0 : Int))) s.1), (0 : Int), ())) else none) else some ((s.1, (0 : Int), ())))
def bo_spec_l91Graph_9 (s : (Int × Int × Int × List Int × Int × Int × List Lk × Int × List Lk × Unit)) : Option ((Int × Int × Int × List Int × Int × Int × List Lk × Int × List Lk × Unit) ⊕ ((Int × Int × List Int × Int × Int × List Lk × Int × List Lk × Unit) ⊕ Unit)) := (bif decide ((s.2.2.1 < s.2.2.2.2.2.2.2.1)) then (bif decide ((s.2.2.1 = wrap64 ((s.2.1 + (1 : Int))))) then (bif decide ((nI (List.length s.2.2.2.2.2.2.2.2.1) < (14 : Int))) then (sh_spec_l6Rd_pick (((8 : Int), (s.2.2.2.1, (s.2.2.2.2.1, ()))))).bind fun r0 => (bif decide (((0 : Int) < r0.1)) then (sh_spec_l6Rd_pick (((3 : Int), (r0.2.1, (r0.2.2.1, ()))))).bind fun r1 => (sh_spec_l6Rd_pick (((4 : Int), (r1.2.1, (r1.2.2.1, ()))))).bind fun r2 => (sh_spec_l6Rd_pick (((8 : Int), (r2.2.1, (r2.2.2.1, ()))))).bind fun r3 => (bif decide (((List.length s.2.2.2.2.2.2.2.2.1 + List.length ([(Lk.mk s.2.1 s.2.2.1 (wrap64 ((wrap64 (((1 : Int) + r1.1)) + wrap64 ((wrap64 (Int.tdiv r2.1 ((3 : Int))) * r3.1))))))])) ≤ (33554432 : Nat))) then some (Sum.inl ((s.1, s.2.1, wrap64 ((s.2.2.1 + (1 : Int))), r3.2.1, r3.2.2.1, s.2.2.2.2.2.1, s.2.2.2.2.2.2.1, s.2.2.2.2.2.2.2.1, (s.2.2.2.2.2.2.2.2.1 ++ [(Lk.mk s.2.1 s.2.2.1 (wrap64 ((wrap64 (((1 : Int) + r1.1)) + wrap64 ((wrap64 (Int.tdiv r2.1 ((3 : Int))) * r3.1))))))]), ()))) else none) else (sh_spec_l6Rd_pick (((6 : Int), (r0.2.1, (r0.2.2.1, ()))))).bind fun r4 => (bif decide ((r4.1 < s.1)) then (sh_spec_l6Rd_pick (((3 : Int), (r4.2.1, (r4.2.2.1, ()))))).bind fun r5 => (sh_spec_l6Rd_pick (((4 : Int), (r5.2.1, (r5.2.2.1, ()))))).bind fun r6 => (sh_spec_l6Rd_pick (((8 : Int), (r6.2.1, (r6.2.2.1, ()))))).bind fun r7 => (bif decide (((List.length s.2.2.2.2.2.2.2.2.1 + List.length ([(Lk.mk s.2.1 s.2.2.1 (wrap64 ((wrap64 (((1 : Int) + r5.1)) + wrap64 ((wrap64 (Int.tdiv r6.1 ((3 : Int))) * r7.1))))))])) ≤ (33554432 : Nat))) then some (Sum.inl ((s.1, s.2.1, wrap64 ((s.2.2.1 + (1 : Int))), r7.2.1, r7.2.2.1, s.2.2.2.2.2.1, s.2.2.2.2.2.2.1, s.2.2.2.2.2.2.2.1, (s.2.2.2.2.2.2.2.2.1 ++ [(Lk.mk s.2.1 s.2.2.1 (wrap64 ((wrap64 (((1 : Int) + r5.1)) + wrap64 ((wrap64 (Int.tdiv r6.1 ((3 : Int))) * r7.1))))))]), ()))) else none) else some (Sum.inl ((s.1, s.2.1, wrap64 ((s.2.2.1 + (1 : Int))), r4.2.1, r4.2.2.1, s.2.2.2.2.2.1, s.2.2.2.2.2.2.1, s.2.2.2.2.2.2.2.1, s.2.2.2.2.2.2.2.2.1, ()))))) else some (Sum.inl ((s.1, s.2.1, wrap64 ((s.2.2.1 + (1 : Int))), s.2.2.2.1, s.2.2.2.2.1, s.2.2.2.2.2.1, s.2.2.2.2.2.2.1, s.2.2.2.2.2.2.2.1, s.2.2.2.2.2.2.2.2.1, ())))) else (bif decide ((s.2.1 = (0 : Int))) then (bif decide ((nI (List.length s.2.2.2.2.2.2.2.2.1) < (14 : Int))) then (bif decide ((s.2.2.1 = wrap64 ((s.2.2.2.2.2.2.2.1 - (1 : Int))))) then (sh_spec_l6Rd_pick (((8 : Int), (s.2.2.2.1, (s.2.2.2.2.1, ()))))).bind fun r8 => (bif decide (((0 : Int) < r8.1)) then (sh_spec_l6Rd_pick (((3 : Int), (r8.2.1, (r8.2.2.1, ()))))).bind fun r9 => (sh_spec_l6Rd_pick (((4 : Int), (r9.2.1, (r9.2.2.1, ()))))).bind fun r10 => (sh_spec_l6Rd_pick (((8 : Int), (r10.2.1, (r10.2.2.1, ()))))).bind fun r11 => (bif decide (((List.length s.2.2.2.2.2.2.2.2.1 + List.length ([(Lk.mk s.2.1 s.2.2.1 (wrap64 ((wrap64 (((1 : Int) + r9.1)) + wrap64 ((wrap64 (Int.tdiv r10.1 ((3 : Int))) * r11.1))))))])) ≤ (33554432 : Nat))) then some (Sum.inl ((s.1, s.2.1, wrap64 ((s.2.2.1 + (1 : Int))), r11.2.1, r11.2.2.1, s.2.2.2.2.2.1, s.2.2.2.2.2.2.1, s.2.2.2.2.2.2.2.1, (s.2.2.2.2.2.2.2.2.1 ++ [(Lk.mk s.2.1 s.2.2.1 (wrap64 ((wrap64 (((1 : Int) + r9.1)) + wrap64 ((wrap64 (Int.tdiv r10.1 ((3 : Int))) * r11.1))))))]), ()))) else none) else (sh_spec_l6Rd_pick (((6 : Int), (r8.2.1, (r8.2.2.1, ()))))).bind fun r12 => (bif decide ((r12.1 < s.1)) then (sh_spec_l6Rd_pick (((3 : Int), (r12.2.1, (r12.2.2.1, ()))))).bind fun r13 => (sh_spec_l6Rd_pick (((4 : Int), (r13.2.1, (r13.2.2.1, ()))))).bind fun r14 => (sh_spec_l6Rd_pick (((8 : Int), (r14.2.1, (r14.2.2.1, ()))))).bind fun r15 => (bif decide (((List.length s.2.2.2.2.2.2.2.2.1 + List.length ([(Lk.mk s.2.1 s.2.2.1 (wrap64 ((wrap64 (((1 : Int) + r13.1)) + wrap64 ((wrap64 (Int.tdiv r14.1 ((3 : Int))) * r15.1))))))])) ≤ (33554432 : Nat))) then some (Sum.inl ((s.1, s.2.1, wrap64 ((s.2.2.1 + (1 : Int))), r15.2.1, r15.2.2.1, s.2.2.2.2.2.1, s.2.2.2.2.2.2.1, s.2.2.2.2.2.2.2.1, (s.2.2.2.2.2.2.2.2.1 ++ [(Lk.mk s.2.1 s.2.2.1 (wrap64 ((wrap64 (((1 : Int) + r13.1)) + wrap64 ((wrap64 (Int.tdiv r14.1 ((3 : Int))) * r15.1))))))]), ()))) else none) else some (Sum.inl ((s.1, s.2.1, wrap64 ((s.2.2.1 + (1 : Int))), r12.2.1, r12.2.2.1, s.2.2.2.2.2.1, s.2.2.2.2.2.2.1, s.2.2.2.2.2.2.2.1, s.2.2.2.2.2.2.2.2.1, ()))))) else (sh_spec_l6Rd_pick (((6 : Int), (s.2.2.2.1, (s.2.2.2.2.1, ()))))).bind fun r16 => (bif decide ((r16.1 < s.1)) then (sh_spec_l6Rd_pick (((3 : Int), (r16.2.1, (r16.2.2.1, ()))))).bind fun r17 => (sh_spec_l6Rd_pick (((4 : Int), (r17.2.1, (r17.2.2.1, ()))))).bind fun r18 => (sh_spec_l6Rd_pick (((8 : Int), (r18.2.1, (r18.2.2.1, ()))))).bind fun r19 => (bif decide (((List.length s.2.2.2.2.2.2.2.2.1 + List.length ([(Lk.mk s.2.1 s.2.2.1 (wrap64 ((wrap64 (((1 : Int) + r17.1)) + wrap64 ((wrap64 (Int.tdiv r18.1 ((3 : Int))) * r19.1))))))])) ≤ (33554432 : Nat))) then some (Sum.inl ((s.1, s.2.1, wrap64 ((s.2.2.1 + (1 : Int))), r19.2.1, r19.2.2.1, s.2.2.2.2.2.1, s.2.2.2.2.2.2.1, s.2.2.2.2.2.2.2.1, (s.2.2.2.2.2.2.2.2.1 ++ [(Lk.mk s.2.1 s.2.2.1 (wrap64 ((wrap64 (((1 : Int) + r17.1)) + wrap64 ((wrap64 (Int.tdiv r18.1 ((3 : Int))) * r19.1))))))]), ()))) else none) else some (Sum.inl ((s.1, s.2.1, wrap64 ((s.2.2.1 + (1 : Int))), r16.2.1, r16.2.2.1, s.2.2.2.2.2.1, s.2.2.2.2.2.2.1, s.2.2.2.2.2.2.2.1, s.2.2.2.2.2.2.2.2.1, ()))))) else some (Sum.inl ((s.1, s.2.1, wrap64 ((s.2.2.1 + (1 : Int))), s.2.2.2.1, s.2.2.2.2.1, s.2.2.2.2.2.1, s.2.2.2.2.2.2.1, s.2.2.2.2.2.2.2.1, s.2.2.2.2.2.2.2.2.1, ())))) else (bif decide ((nI (List.length s.2.2.2.2.2.2.2.2.1) < (14 : Int))) then (sh_spec_l6Rd_pick (((6 : Int), (s.2.2.2.1, (s.2.2.2.2.1, ()))))).bind fun r20 => (bif decide ((r20.1 < s.1)) then (sh_spec_l6Rd_pick (((3 : Int), (r20.2.1, (r20.2.2.1, ()))))).bind fun r21 => (sh_spec_l6Rd_pick (((4 : Int), (r21.2.1, (r21.2.2.1, ()))))).bind fun r22 => (sh_spec_l6Rd_pick (((8 : Int), (r22.2.1, (r22.2.2.1, ()))))).bind fun r23 => (bif decide (((List.length s.2.2.2.2.2.2.2.2.1 + List.length ([(Lk.mk s.2.1 s.2.2.1 (wrap64 ((wrap64 (((1 : Int) + r21.1)) + wrap64 ((wrap64 (Int.tdiv r22.1 ((3 : Int))) * r23.1))))))])) ≤ (33554432 : Nat))) then some (Sum.inl ((s.1, s.2.1, wrap64 ((s.2.2.1 + (1 : Int))), r23.2.1, r23.2.2.1, s.2.2.2.2.2.1, s.2.2.2.2.2.2.1, s.2.2.2.2.2.2.2.1, (s.2.2.2.2.2.2.2.2.1 ++ [(Lk.mk s.2.1 s.2.2.1 (wrap64 ((wrap64 (((1 : Int) + r21.1)) + wrap64 ((wrap64 (Int.tdiv r22.1 ((3 : Int))) * r23.1))))))]), ()))) else none) else some (Sum.inl ((s.1, s.2.1, wrap64 ((s.2.2.1 + (1 : Int))), r20.2.1, r20.2.2.1, s.2.2.2.2.2.1, s.2.2.2.2.2.2.1, s.2.2.2.2.2.2.2.1, s.2.2.2.2.2.2.2.2.1, ())))) else some (Sum.inl ((s.1, s.2.1, wrap64 ((s.2.2.1 + (1 : Int))), s.2.2.2.1, s.2.2.2.2.1, s.2.2.2.2.2.1, s.2.2.2.2.2.2.1, s.2.2.2.2.2.2.2.1, s.2.2.2.2.2.2.2.2.1, ())))))) else some (Sum.inr (Sum.inl ((s.1, s.2.1, s.2.2.2.1, s.2.2.2.2.1, s.2.2.2.2.2.1, s.2.2.2.2.2.2.1, s.2.2.2.2.2.2.2.1, s.2.2.2.2.2.2.2.2.1, ())))))
def bo_spec_l91Graph_6 (s : (Int × Int × List Int × Int × Int × List Lk × Int × List Lk × Unit)) : Option ((Int × Int × List Int × Int × Int × List Lk × Int × List Lk × Unit) ⊕ ((List Int × Int × Int × List Lk × Int × List Lk × Unit) ⊕ Unit)) := (bif decide ((s.2.1 < s.2.2.2.2.2.2.1)) then (lp bo_spec_l91Graph_9 fuel ((s.1, (s.2.1, (wrap64 ((s.2.1 + (1 : Int))), (s.2.2.1, (s.2.2.2.1, (s.2.2.2.2.1, (s.2.2.2.2.2.1, (s.2.2.2.2.2.2.1, (s.2.2.2.2.2.2.2.1, ()))))))))))).bind fun r0 => (match r0 with | .inl x1 => some (Sum.inl ((x1.1, wrap64 ((x1.2.1 + (1 : Int))), x1.2.2.1, x1.2.2.2.1, x1.2.2.2.2.1, x1.2.2.2.2.2.1, x1.2.2.2.2.2.2.1, x1.2.2.2.2.2.2.2.1, ()))) | .inr _ => none) else some (Sum.inr (Sum.inl ((s.2.2.1, s.2.2.2.1, s.2.2.2.2.1, s.2.2.2.2.2.1, s.2.2.2.2.2.2.1, s.2.2.2.2.2.2.2.1, ())))))
def sh_spec_l91Graph (s : (List Int × Int × Unit)) : Option (Int × List Int × Int × List Lk × Unit) := (sh_spec_l6Rd_pick (((7 : Int), (s.1, (s.2.1, ()))))).bind fun r0 => (sh_spec_l6Rd_pick (((3 : Int), (r0.2.1, (r0.2.2.1, ()))))).bind fun r1 => (bif decide (((0 : Int) < r1.1)) then (sh_spec_l6Rd_pick (((4 : Int), (r1.2.1, (r1.2.2.1, ()))))).bind fun r2 => (sh_spec_l6Rd_pick (((3 : Int), (r2.2.1, (r2.2.2.1, ()))))).bind fun r3 => (lp bo_spec_l91Graph_6 fuel ((wrap64 (((1 : Int) + r3.1)), ((0 : Int), (r3.2.1, (r3.2.2.1, ((0 : Int), (([] : List Lk), (wrap64 (((4 : Int) + r2.1)), (([] : List Lk), ())))))))))).bind fun r4 => (match r4 with | .inl x5 => (sh_spec_l6Rd_pick (((24 : Int), (x5.1, (x5.2.1, ()))))).bind fun r6 => (bif decide ((r6.1 = (0 : Int))) then some (((1 : Int), r6.2.1, r6.2.2.1, ([] : List Lk), ())) else some ((x5.2.2.2.2.1, r6.2.1, r6.2.2.1, x5.2.2.2.2.2.1, ()))) | .inr _ => none) else (sh_spec_l6Rd_pick (((3 : Int), (r1.2.1, (r1.2.2.1, ()))))).bind fun r7 => (lp bo_spec_l91Graph_6 fuel ((wrap64 (((1 : Int) + r7.1)), ((0 : Int), (r7.2.1, (r7.2.2.1, ((0 : Int), (([] : List Lk), (wrap64 (((2 : Int) + r0.1)), (([] : List Lk), ())))))))))).bind fun r8 => (match r8 with | .inl x9 => (sh_spec_l6Rd_pick (((24 : Int), (x9.1, (x9.2.1, ()))))).bind fun r10 => (bif decide ((r10.1 = (0 : Int))) then some (((1 : Int), r10.2.1, r10.2.2.1, ([] : List Lk), ())) else some ((x9.2.2.2.2.1, r10.2.1, r10.2.2.1, x9.2.2.2.2.2.1, ()))) | .inr _ => none))
def sh_spec_l91Node (s : (Int × List Lk × List Int × Int × Unit)) : Option (Int × List Int × Int × Unit) := (sh_spec_l6Rd_pick (((20 : Int), (s.2.2.1, (s.2.2.2.1, ()))))).bind fun r0 => (bif decide ((r0.1 = (0 : Int))) then (sh_spec_l6Rd_pick (((11 : Int), (r0.2.1, (r0.2.2.1, ()))))).bind fun r1 => some ((wrap64 ((r1.1 - (1 : Int))), r1.2.1, r1.2.2.1, ())) else (sh_spec_l6Rd_pick ((max s.1 ((1 : Int)), (r0.2.1, (r0.2.2.1, ()))))).bind fun r2 => some ((r2.1, r2.2.1, r2.2.2.1, ())))
def bo_spec_l91Spoilt_7 (s : (Int × List Int × Int × Int × List Lk × Int × List Lk × Unit)) : Option ((List Int × Int × Int × List Lk × Int × List Lk × Unit) ⊕ Unit) := (sh_spec_l6Rd_pick (((3 : Int), (s.2.1, (s.2.2.1, ()))))).bind fun r0 => (bif inR r0.1 (List.length ([(0 : Int), (20 : Int), (21 : Int)])) then (bif inR s.1 (List.length s.2.2.2.2.2.2.1) then some (Sum.inl ((r0.2.1, r0.2.2.1, s.2.2.2.1, s.2.2.2.2.1, s.2.2.2.2.2.1, List.set s.2.2.2.2.2.2.1 (Int.toNat s.1) ((Lk.mk ((at! .lk s.2.2.2.2.2.2.1 (Int.toNat s.1)).a) ((at! .lk s.2.2.2.2.2.2.1 (Int.toNat s.1)).b) (at! .int ([(0 : Int), (20 : Int), (21 : Int)]) (Int.toNat r0.1)))), ()))) else none) else none)
def sh_spec_l91Spoilt (s : (List Int × Int × Unit)) : Option (Int × List Int × Int × List Lk × Unit) := (sh_spec_l91Graph ((s.1, (s.2.1, ())))).bind fun r0 => (bif decide ((nI (List.length r0.2.2.2.1) = (0 : Int))) then some ((r0.1, r0.2.1, r0.2.2.1, r0.2.2.2.1, ())) else (sh_spec_l6Rd_pick ((nI (List.length r0.2.2.2.1), (r0.2.1, (r0.2.2.1, ()))))).bind fun r1 => (sh_spec_l6Rd_pick (((24 : Int), (r1.2.1, (r1.2.2.1, ()))))).bind fun r2 => (bif decide ((r2.1 = (0 : Int))) then (bo_spec_l91Spoilt_7 ((r1.1, (r2.2.1, (r2.2.2.1, ((0 : Int), (([] : List Lk), (r0.1, (r0.2.2.2.1, ()))))))))).bind fun r3 => (match r3 with | .inl x4 => some ((x4.2.2.2.2.1, x4.1, x4.2.1, x4.2.2.2.2.2.1, ())) | .inr _ => none) else (bif decide ((r2.1 = (1 : Int))) then (sh_spec_l6Rd_pick (((10 : Int), (r2.2.1, (r2.2.2.1, ()))))).bind fun r5 => (bif inR r1.1 (List.length r0.2.2.2.1) then some ((r0.1, r5.2.1, r5.2.2.1, List.set r0.2.2.2.1 (Int.toNat r1.1) ((Lk.mk ((at! .lk r0.2.2.2.1 (Int.toNat r1.1)).a) r5.1 ((at! .lk r0.2.2.2.1 (Int.toNat r1.1)).c))), ())) else none) else (bif decide ((r2.1 = (2 : Int))) then (sh_spec_l6Rd_pick (((10 : Int), (r2.2.1, (r2.2.2.1, ()))))).bind fun r6 => some ((r6.1, r6.2.1, r6.2.2.1, r0.2.2.2.1, ())) else (bif decide ((r2.1 = (3 : Int))) then (bif inR r1.1 (List.length r0.2.2.2.1) then (bif decide (((List.length r0.2.2.2.1 + List.length ([(Lk.mk ((at! .lk r0.2.2.2.1 (Int.toNat r1.1)).a) ((at! .lk r0.2.2.2.1 (Int.toNat r1.1)).b) ((at! .lk r0.2.2.2.1 (Int.toNat r1.1)).c))])) ≤ (33554432 : Nat))) then some ((r0.1, r2.2.1, r2.2.2.1, (r0.2.2.2.1 ++ [(Lk.mk ((at! .lk r0.2.2.2.1 (Int.toNat r1.1)).a) ((at! .lk r0.2.2.2.1 (Int.toNat r1.1)).b) ((at! .lk r0.2.2.2.1 (Int.toNat r1.1)).c))]), ())) else none) else none) else some ((r0.1, r2.2.1, r2.2.2.1, r0.2.2.2.1, ())))))))
def bo_spec_l92Claim_5 (s : (Int × Int × List Int × Int × Int × List Lk × Int × List Lk × List En × Unit)) : Option ((Int × Int × List Int × Int × Int × List Lk × Int × List Lk × List En × Unit) ⊕ ((Int × List Int × Int × Int × List Lk × Int × List Lk × List En × Unit) ⊕ Unit)) := (bif decide ((s.2.1 < s.2.2.2.2.2.2.1)) then (bif (!(decide ((s.2.1 = s.1)))) then (sh_spec_l6Rd_pick (((3 : Int), (s.2.2.1, (s.2.2.2.1, ()))))).bind fun r0 => (bif decide (((0 : Int) < r0.1)) then (sh_spec_l6Rd_pick (((9 : Int), (r0.2.1, (r0.2.2.1, ()))))).bind fun r1 => (bif decide (((List.length s.2.2.2.2.2.2.2.2.1 + List.length ([(En.mk s.2.1 (wrap64 (((1 : Int) + r1.1))))])) ≤ (33554432 : Nat))) then some (Sum.inl ((s.1, wrap64 ((s.2.1 + (1 : Int))), r1.2.1, r1.2.2.1, s.2.2.2.2.1, s.2.2.2.2.2.1, s.2.2.2.2.2.2.1, s.2.2.2.2.2.2.2.1, (s.2.2.2.2.2.2.2.2.1 ++ [(En.mk s.2.1 (wrap64 (((1 : Int) + r1.1))))]), ()))) else none) else some (Sum.inl ((s.1, wrap64 ((s.2.1 + (1 : Int))), r0.2.1, r0.2.2.1, s.2.2.2.2.1, s.2.2.2.2.2.1, s.2.2.2.2.2.2.1, s.2.2.2.2.2.2.2.1, s.2.2.2.2.2.2.2.2.1, ())))) else some (Sum.inl ((s.1, wrap64 ((s.2.1 + (1 : Int))), s.2.2.1, s.2.2.2.1, s.2.2.2.2.1, s.2.2.2.2.2.1, s.2.2.2.2.2.2.1, s.2.2.2.2.2.2.2.1, s.2.2.2.2.2.2.2.2.1, ())))) else some (Sum.inr (Sum.inl ((s.1, s.2.2.1, s.2.2.2.1, s.2.2.2.2.1, s.2.2.2.2.2.1, s.2.2.2.2.2.2.1, s.2.2.2.2.2.2.2.1, s.2.2.2.2.2.2.2.2.1, ())))))
def sh_spec_l92Claim (s : (List Int × Int × Unit)) : Option (Int × List Lk × Int × List Int × Int × List En × Unit) := (sh_spec_l91Spoilt ((s.1, (s.2.1, ())))).bind fun r0 => (sh_spec_l91Node ((r0.1, (r0.2.2.2.1, (r0.2.1, (r0.2.2.1, ())))))).bind fun r1 => (lp bo_spec_l92Claim_5 fuel ((r1.1, ((0 : Int), (r1.2.1, (r1.2.2.1, ((0 : Int), (([] : List Lk), (r0.1, (r0.2.2.2.1, (([] : List En), ()))))))))))).bind fun r2 => (match r2 with | .inl x3 => (sh_spec_l6Rd_pick (((20 : Int), (x3.2.1, (x3.2.2.1, ()))))).bind fun r4 => (bif decide ((r4.1 = (0 : Int))) then (sh_spec_l6Rd_pick (((9 : Int), (r4.2.1, (r4.2.2.1, ()))))).bind fun r5 => (sh_spec_l6Rd_pick (((22 : Int), (r5.2.1, (r5.2.2.1, ()))))).bind fun r6 => (bif decide (((List.length x3.2.2.2.2.2.2.2.1 + List.length ([(En.mk r5.1 r6.1)])) ≤ (33554432 : Nat))) then some ((x3.2.2.2.2.2.1, x3.2.2.2.2.2.2.1, x3.1, r6.2.1, r6.2.2.1, (x3.2.2.2.2.2.2.2.1 ++ [(En.mk r5.1 r6.1)]), ())) else none) else some ((x3.2.2.2.2.2.1, x3.2.2.2.2.2.2.1, x3.1, r4.2.1, r4.2.2.1, x3.2.2.2.2.2.2.2.1, ()))) | .inr _ => none)
def sh_spec_DrawClaimMoved (s : (List Int × Unit)) : Option (Int × List Lk × Int × Int × List En × Unit) := (sh_spec_l6Open ((s.1, ()))).bind fun r0 => (sh_spec_l92Claim ((r0.1, (r0.2.1, ())))).bind fun r1 => (sh_spec_l91Node ((r1.1, (r1.2.1, (r1.2.2.2.1, (r1.2.2.2.2.1, ())))))).bind fun r2 => some ((r1.1, r1.2.1, r1.2.2.1, r2.1, r1.2.2.2.2.2.1, ()))
end Go.Proofs.Ythcckenjkicmgaa
end
section
namespace Go.Proofs.Ythcckenjkicmgaa
open Go.RowKit
set_option linter.unusedSimpArgs false
set_option linter.unusedVariables false
set_option maxRecDepth 100000

structure Byt (b : List Int) : Prop where
  len : b.length ≤ 2000
  rng : ∀ i, 0 ≤ iz b i ∧ iz b i ≤ 255
theorem at_u8 (zs : List Int) (i : Nat) : at! .u8 zs i = iz zs i := by
  induction zs generalizing i with
  | nil => rfl
  | cons z r ih => cases i with
    | zero => rfl
    | succ i => exact (ih i).trans (by simp [iz])
theorem tmod_rng {a b : Int} (h : 0 ≤ a) (hb : 0 < b) : 0 ≤ Int.tmod a b ∧ Int.tmod a b < b := ⟨Int.tmod_nonneg _ h, Int.tmod_lt_of_pos _ hb⟩
theorem xor_rng {x y : Int} (h : 0 ≤ x) (h1 : x < 1099511627776) (k : 0 ≤ y) (k1 : y < 1099511627776) : 0 ≤ xorK .i64 x y ∧ xorK .i64 x y < 1099511627776 := by
  obtain ⟨a, rfl⟩ := Int.eq_ofNat_of_zero_le h
  obtain ⟨b, rfl⟩ := Int.eq_ofNat_of_zero_le k
  have e : (BitVec.ofInt 64 (a : Int) ^^^ BitVec.ofInt 64 (b : Int)).toNat = a ^^^ b := by
    rw [BitVec.toNat_xor, BitVec.toNat_ofInt, BitVec.toNat_ofInt]
    have e1 : ((a : Int) % ((2 ^ 64 : Nat) : Int)).toNat = a := by omega
    have e2 : ((b : Int) % ((2 ^ 64 : Nat) : Int)).toNat = b := by omega
    rw [e1, e2]
  have hlt : a ^^^ b < 2 ^ 40 := Nat.xor_lt_two_pow (by omega) (by omega)
  unfold xorK
  rw [show IntKind.bits .i64 = 64 from rfl, e, wI (by omega) (by omega)]
  omega
theorem pick_ok {b : List Int} {p n : Int} (hB : Byt b) (h0 : 0 ≤ p) (h1 : p ≤ 1000000000) : ∃ x, sh_spec_l6Rd_pick (n, b, p, ()) = some (x, b, p + 1, ()) ∧ 0 ≤ x ∧ (1 ≤ n → x < n) ∧ (n < 1 → x = 0) := by
  have hl := hB.len
  have e1 : wrap64 (p + 1) = p + 1 := w64 (by omega) (by omega)
  have e2 : wrap64 (p + 1 - 1) = p := by rw [w64 (by omega) (by omega)]; omega
  unfold sh_spec_l6Rd_pick
  simp only [e1, e2, nI_eq]
  clear e1 e2
  by_cases hn : n < 1
  · exact ⟨0, by rw [decide_eq_true hn]; rfl, Int.le_refl _, fun h => by omega, fun _ => rfl⟩
  by_cases hb : b.length = 0
  · exact ⟨0, by simp [hn, hb], Int.le_refl _, fun h => by omega, fun h => by omega⟩
  have hb' : ¬ ((b.length : Nat) : Int) = 0 := by omega
  have hn0 : ¬ n = 0 := by omega
  simp only [decide_eq_false hn, decide_eq_false hb', decide_eq_false hn0, Bool.not_false, cond_true, cond_false]
  by_cases hk : p < b.length
  · have r := hB.rng p.toNat
    have ew : wrap64 (at! .u8 b p.toNat) = iz b p.toNat := by rw [at_u8]; exact w64 (by omega) (by omega)
    have := tmod_rng (a := iz b p.toNat) (b := n) r.1 (by omega)
    refine ⟨_, by rw [decide_eq_true hk, inR_t h0 hk]; rfl, ?_⟩
    rw [ew]
    exact ⟨this.1, fun _ => this.2, fun h => by omega⟩
  · have t1 := tmod_rng (a := p) (b := ((b.length : Nat) : Int)) h0 (by omega)
    have ep : wrap64 (wrap64 (p * 7) + 3) = p * 7 + 3 := by rw [w64 (x := p * 7) (by omega) (by omega)]; exact w64 (by omega) (by omega)
    have t2 := tmod_rng (a := p * 7 + 3) (b := ((b.length : Nat) : Int)) (by omega) (by omega)
    have r1 := hB.rng (Int.tmod p b.length).toNat
    have r2 := hB.rng (Int.tmod (p * 7 + 3) b.length).toNat
    simp only [ep, decide_eq_false hk, inR_t t1.1 t1.2, inR_t t2.1 t2.2, cond_true, cond_false, at_u8]
    generalize iz b (Int.tmod p b.length).toNat = u at *
    generalize iz b (Int.tmod (p * 7 + 3) b.length).toNat = v at *
    have hq : 0 ≤ Int.tdiv p b.length ∧ Int.tdiv p b.length ≤ 1000000000 := by
      rw [Int.tdiv_eq_ediv_of_nonneg h0]
      exact ⟨Int.ediv_nonneg h0 (by omega), Int.le_trans (Int.ediv_le_self _ h0) h1⟩
    generalize Int.tdiv p b.length = q at *
    have ex : wrap64 (wrap64 (wrap64 (wrap64 (wrap64 u * 131) + wrap64 (wrap64 v * 1117)) + wrap64 (p * 29)) + wrap64 (wrap64 q * 53)) = u * 131 + v * 1117 + p * 29 + q * 53 := by
      rw [w64 (x := u) (by omega) (by omega), w64 (x := v) (by omega) (by omega), w64 (x := q) (by omega) (by omega), w64 (x := u * 131) (by omega) (by omega), w64 (x := v * 1117) (by omega) (by omega), w64 (x := p * 29) (by omega) (by omega), w64 (x := q * 53) (by omega) (by omega)]
      rw [w64 (x := u * 131 + v * 1117) (by omega) (by omega), w64 (x := u * 131 + v * 1117 + p * 29) (by omega) (by omega), w64 (by omega) (by omega)]
    simp only [ex]
    clear ex ep
    have hx : 0 ≤ u * 131 + v * 1117 + p * 29 + q * 53 ∧ u * 131 + v * 1117 + p * 29 + q * 53 < 1099511627776 := by omega
    generalize u * 131 + v * 1117 + p * 29 + q * 53 = x at *
    have hd : 0 ≤ Int.tdiv x 64 ∧ Int.tdiv x 64 < 1099511627776 := by
      rw [Int.tdiv_eq_ediv_of_nonneg hx.1]
      omega
    have ed : wrap64 (Int.tdiv x 64) = Int.tdiv x 64 := w64 (by omega) (by omega)
    have hxr := xor_rng hx.1 hx.2 hd.1 hd.2
    have := tmod_rng (a := xorK .i64 x (Int.tdiv x 64)) (b := n) hxr.1 (by omega)
    rw [ed]
    exact ⟨_, rfl, this.1, fun _ => this.2, fun h => by omega⟩
theorem Sat.pick {β : Type} {b : List Int} {p n : Int} {f : Int × List Int × Int × Unit → Option β} {Q : β → Prop} (hB : Byt b) (h0 : 0 ≤ p) (h1 : p ≤ 1000000000) (k : ∀ x, 0 ≤ x → (1 ≤ n → x < n) → (n < 1 → x = 0) → Sat (f (x, b, p + 1, ())) Q) : Sat ((sh_spec_l6Rd_pick (n, b, p, ())).bind f) Q := by
  obtain ⟨x, e, q1, q2, q3⟩ := pick_ok (n := n) hB h0 h1
  rw [e]
  exact k x q1 q2 q3
structure Drw (n a m : Int) (l : List Lk) : Prop where
  pw : l.Pairwise lxl
  ok : ∀ x ∈ l, okL n x
  lt : ∀ x ∈ l, x.a < a ∨ x.a = a ∧ x.b < m
  len : l.length ≤ 14
theorem Drw.skip {n a m : Int} {l : List Lk} (h : Drw n a m l) : Drw n a (m + 1) l := ⟨h.pw, h.ok, fun x hx => by have := h.lt x hx; omega, h.len⟩
theorem Drw.app {n a m c : Int} {l : List Lk} (h : Drw n a m l) (h0 : 0 ≤ a) (h1 : a < m) (h2 : m < n) (hc : 1 ≤ c ∧ c ≤ 20) (hl : l.length < 14) : Drw n a (m + 1) (l ++ [⟨a, m, c⟩]) := by
  refine ⟨?_, fun x hx => ?_, fun x hx => ?_, by simp; omega⟩
  · rw [List.pairwise_append]
    refine ⟨h.pw, by simp, fun x hx y hy => ?_⟩
    obtain rfl := List.mem_singleton.1 hy
    have := h.lt x hx
    unfold lxl
    exact this
  · rcases List.mem_append.1 hx with hx | hx
    · exact h.ok x hx
    · obtain rfl := List.mem_singleton.1 hx
      exact ⟨h0, h1, h2, hc.1, hc.2⟩
  · rcases List.mem_append.1 hx with hx | hx
    · have := h.lt x hx
      omega
    · obtain rfl := List.mem_singleton.1 hx
      dsimp only
      omega
theorem Drw.row {n a m m' : Int} {l : List Lk} (h : Drw n a m l) : Drw n (a + 1) m' l := ⟨h.pw, h.ok, fun x hx => by have := h.lt x hx; omega, h.len⟩
theorem Drw.gv {n a m : Int} {l : List Lk} (h : Drw n a m l) (h1 : 1 ≤ n) (h8 : n ≤ 8) : GV n l := gv_pw.2 ⟨h1, h8, h.len, h.ok, h.pw⟩
theorem cost_ok {x y z : Int} (h1 : 0 ≤ x) (h2 : x < 3) (h3 : 0 ≤ y) (h4 : y < 4) (h5 : 0 ≤ z) (h6 : z < 8) : 1 ≤ wrap64 (wrap64 (1 + x) + wrap64 (wrap64 (Int.tdiv y 3) * z)) ∧ wrap64 (wrap64 (1 + x) + wrap64 (wrap64 (Int.tdiv y 3) * z)) ≤ 20 := by
  rw [Int.tdiv_eq_ediv_of_nonneg h3]
  rcases (show y / 3 = 0 ∨ y / 3 = 1 by omega) with e | e <;> rw [e]
  · rw [w64 (x := 1 + x) (by omega) (by omega), show wrap64 (wrap64 0 * z) = 0 by rw [w64 (x := 0) (by omega) (by omega), Int.zero_mul, w64 (by omega) (by omega)], w64 (by omega) (by omega)]
    omega
  · rw [w64 (x := 1 + x) (by omega) (by omega), show wrap64 (wrap64 1 * z) = z by rw [w64 (x := 1) (by omega) (by omega), Int.one_mul, w64 (by omega) (by omega)], w64 (by omega) (by omega)]
    omega
end Go.Proofs.Ythcckenjkicmgaa

namespace Go.Proofs.Ythcckenjkicmgaa
open Go.RowKit
set_option linter.unusedSimpArgs false
set_option linter.unusedVariables false
set_option maxRecDepth 100000

set_option maxHeartbeats 2000000 in
theorem d_inner {b : List Int} (hB : Byt b) {d a n p : Int} (ha : 0 ≤ a) (han : a < n) (hn : n ≤ 8) (x5 : Int) (x6 : List Lk) {l : List Lk} (hl : Drw n a (a + 1) l) (h0 : 0 ≤ p) (h1 : p ≤ 100000000) : Sat (lp bo_spec_l91Graph_9 fuel (d, a, wrap64 (a + 1), b, p, x5, x6, n, l, ())) fun r => match r with
      | .inl x => ∃ p' l', x = (d, a, b, p', x5, x6, n, l', ()) ∧ p ≤ p' ∧ p' ≤ p + 5 * 8 ∧ Drw n (a + 1) (a + 2) l'
      | .inr _ => False := by
  refine Sat.count (n - 1 - a).toNat (fun k s => ∃ p' l', s = (d, a, a + 1 + (k : Int), b, p', x5, x6, n, l', ()) ∧ p ≤ p' ∧ p' ≤ p + 5 * k ∧ Drw n a (a + 1 + (k : Int)) l') ?_ (Nat.zero_le _) (fuel_lt (by omega)) ⟨p, l, by rw [w64 (by omega) (by omega)]; simp, by omega, by omega, by simpa using hl⟩
  rintro k s hk ⟨p', l', rfl, hp1, hp2, hD⟩
  have hlen := hD.len
  simp (disch := omega) only [bo_spec_l91Graph_9, w64, nI_eq, List.length_singleton]
  repeat' (first
    | refine Sat.some ?_
    | (refine Sat.pick hB (by omega) (by omega) (fun x _ _ _ => ?_) <;> dsimp only) | (refine Sat.gd (decide_eq_true (by omega)) ?_)
    | (refine Sat.gd (by first | exact inR_t (by omega) (by omega) | (simp (disch := omega) only [w64]; exact inR_t (by omega) (by omega))) ?_)
    | (refine Sat.ite (fun h => ?_) (fun h => ?_) <;> try simp only [decide_eq_true_eq, decide_eq_false_iff_not, Bool.not_eq_true', Bool.not_eq_false', inB_i, inB_j, Bool.and_eq_true, Bool.or_eq_true, Bool.and_eq_false_iff, Bool.or_eq_false_iff, El] at h))
  all_goals try dsimp only
  all_goals first
    | exact ⟨by omega, _, _, by rw [show a + 1 + (k : Int) + 1 = a + 1 + ((k + 1 : Nat) : Int) by omega], by omega, by omega, by rw [show a + 1 + ((k + 1 : Nat) : Int) = a + 1 + (k : Int) + 1 by omega]; exact hD.skip⟩
    | exact ⟨by omega, _, _, by rw [show a + 1 + (k : Int) + 1 = a + 1 + ((k + 1 : Nat) : Int) by omega], by omega, by omega, by rw [show a + 1 + ((k + 1 : Nat) : Int) = a + 1 + (k : Int) + 1 by omega]; exact hD.app ha (by omega) (by omega) (cost_ok (by assumption) (by omega) (by assumption) (by omega) (by assumption) (by omega)) (by omega)⟩
    | exact ⟨_, _, rfl, hp1, by omega, hD.row⟩
theorem d_outer {b : List Int} (hB : Byt b) {d n p : Int} (hn0 : 0 ≤ n) (hn : n ≤ 8) (x5 : Int) (x6 : List Lk) (h0 : 0 ≤ p) (h1 : p ≤ 90000000) : Sat (lp bo_spec_l91Graph_6 fuel (d, 0, b, p, x5, x6, n, [], ())) fun r => match r with
      | .inl x => ∃ p' l', x = (b, p', x5, x6, n, l', ()) ∧ p ≤ p' ∧ p' ≤ p + 40 * 8 ∧ Drw n n (n + 1) l'
      | .inr _ => False := by
  refine Sat.count n.toNat (fun k s => ∃ p' l', s = (d, (k : Int), b, p', x5, x6, n, l', ()) ∧ p ≤ p' ∧ p' ≤ p + 40 * k ∧ Drw n k ((k : Int) + 1) l') ?_ (Nat.zero_le _) (fuel_lt (by omega)) ⟨p, [], rfl, by omega, by omega, ⟨by simp, by simp, by simp, by simp⟩⟩
  rintro k s hk ⟨p', l', rfl, hp1, hp2, hD⟩
  unfold bo_spec_l91Graph_6
  dsimp only
  refine Sat.ite (fun hlt => ?_) (fun hlt => ?_)
  · have hlt := of_decide_eq_true hlt
    refine Sat.bnd (d_inner hB (by omega) hlt hn x5 x6 hD (by omega) (by omega)) ?_
    rintro (r | r) hr
    case inr => exact hr.elim
    obtain ⟨p'', l'', rfl, q1, q2, hD'⟩ := hr
    refine .some ⟨by omega, p'', l'', ?_, by omega, by omega, hD'⟩
    dsimp only
    rw [w64 (by omega) (by omega)]
    rfl
  · have hlt := of_decide_eq_false hlt
    have e : (k : Int) = n := by omega
    rw [e] at hD
    exact .some ⟨p', l', rfl, hp1, by omega, hD⟩
def DG (b : List Int) (p : Int) (r : Int × List Int × Int × List Lk × Unit) : Prop := ∃ n p' ls, r = (n, b, p', ls, ()) ∧ p ≤ p' ∧ p' ≤ p + 400 ∧ GV n ls
theorem gv_one : GV 1 [] := ⟨by omega, by omega, by simp, fun i hi => by simp at hi⟩
theorem d_Graph {b : List Int} (hB : Byt b) {p : Int} (h0 : 0 ≤ p) (h1 : p ≤ 80000000) : Sat (sh_spec_l91Graph (b, p, ())) (DG b p) := by
  unfold sh_spec_l91Graph
  dsimp only
  refine Sat.pick hB (by omega) (by omega) (fun x1 _ q1 _ => ?_)
  dsimp only
  refine Sat.pick hB (by omega) (by omega) (fun x2 _ q2 _ => ?_)
  dsimp only
  refine Sat.ite (fun _ => ?_) (fun _ => ?_)
  · refine Sat.pick hB (by omega) (by omega) (fun x3 _ q3 _ => ?_)
    dsimp only
    refine Sat.pick hB (by omega) (by omega) (fun x4 _ _ _ => ?_)
    dsimp only
    rw [w64 (x := 4 + x3) (by omega) (by omega)]
    refine Sat.bnd (d_outer hB (by omega) (by omega) 0 [] (by omega) (by omega)) ?_
    rintro (r | r) hr
    case inr => exact hr.elim
    obtain ⟨p', l', rfl, q5, q6, hD⟩ := hr
    dsimp only
    refine Sat.pick hB (by omega) (by omega) (fun x5 _ _ _ => ?_)
    dsimp only
    refine Sat.ite (fun _ => ?_) (fun _ => ?_)
    · exact .some ⟨_, _, _, rfl, by omega, by omega, gv_one⟩
    · exact .some ⟨_, _, _, rfl, by omega, by omega, hD.gv (by omega) (by omega)⟩
  · refine Sat.pick hB (by omega) (by omega) (fun x3 _ q3 _ => ?_)
    dsimp only
    rw [w64 (x := 2 + x1) (by omega) (by omega)]
    refine Sat.bnd (d_outer hB (by omega) (by omega) 0 [] (by omega) (by omega)) ?_
    rintro (r | r) hr
    case inr => exact hr.elim
    obtain ⟨p', l', rfl, q5, q6, hD⟩ := hr
    dsimp only
    refine Sat.pick hB (by omega) (by omega) (fun x5 _ _ _ => ?_)
    dsimp only
    refine Sat.ite (fun _ => ?_) (fun _ => ?_)
    · exact .some ⟨_, _, _, rfl, by omega, by omega, gv_one⟩
    · exact .some ⟨_, _, _, rfl, by omega, by omega, hD.gv (by omega) (by omega)⟩
def DS (b : List Int) (p : Int) (r : Int × List Int × Int × List Lk × Unit) : Prop := ∃ n p' ls, r = (n, b, p', ls, ()) ∧ p ≤ p' ∧ p' ≤ p + 500 ∧ 0 ≤ n ∧ n ≤ 9 ∧ ls.length ≤ 15
theorem d_Spoilt {b : List Int} (hB : Byt b) {p : Int} (h0 : 0 ≤ p) (h1 : p ≤ 80000000) : Sat (sh_spec_l91Spoilt (b, p, ())) (DS b p) := by
  unfold sh_spec_l91Spoilt
  dsimp only
  refine Sat.bnd (d_Graph hB h0 h1) ?_
  rintro _ ⟨n, p', ls, rfl, g1, g2, hG⟩
  have h14 := hG.2.2.1
  have hn1 := hG.1
  have hn8 := hG.2.1
  dsimp only
  simp only [nI_eq]
  refine Sat.ite (fun _ => .some ⟨_, _, _, rfl, by omega, by omega, by omega, by omega, by omega⟩) (fun hne => ?_)
  have hne := of_decide_eq_false hne
  refine Sat.pick hB (by omega) (by omega) (fun k hk0 hk _ => ?_)
  dsimp only
  refine Sat.pick hB (by omega) (by omega) (fun x2 _ _ _ => ?_)
  dsimp only
  refine Sat.ite (fun _ => ?_) (fun _ => Sat.ite (fun _ => ?_) (fun _ => Sat.ite (fun _ => ?_) (fun _ => Sat.ite (fun _ => ?_) (fun _ => ?_))))
  · unfold bo_spec_l91Spoilt_7
    dsimp only
    refine Sat.bnd (R := fun r => match r with | .inl x => ∃ p'' l', x = (b, p'', 0, [], n, l', ()) ∧ l'.length = ls.length ∧ p'' = p' + 1 + 1 + 1 | .inr _ => False) ?_ ?_
    · refine Sat.pick hB (by omega) (by omega) (fun x3 _ _ _ => ?_)
      dsimp only
      refine Sat.gd (inR_t (by omega) (by simp; omega)) (Sat.gd (inR_t (by omega) (by omega)) (.some ⟨_, _, rfl, by simp, rfl⟩))
    · rintro (r | r) hr
      case inr => exact hr.elim
      obtain ⟨p'', l', rfl, e1, e2⟩ := hr
      exact .some ⟨n, p'', l', rfl, by omega, by omega, by omega, by omega, by omega⟩
  · refine Sat.pick hB (by omega) (by omega) (fun x3 _ _ _ => ?_)
    dsimp only
    exact Sat.gd (inR_t (by omega) (by omega)) (.some ⟨_, _, _, rfl, by omega, by omega, by omega, by omega, by simp; omega⟩)
  · refine Sat.pick hB (by omega) (by omega) (fun x3 _ _ _ => ?_)
    dsimp only
    exact .some ⟨_, _, _, rfl, by omega, by omega, by omega, by omega, by omega⟩
  · exact Sat.gd (inR_t (by omega) (by omega)) (Sat.gd (decide_eq_true (by simp; omega)) (.some ⟨_, _, _, rfl, by omega, by omega, by omega, by omega, by simp; omega⟩))
  · exact .some ⟨_, _, _, rfl, by omega, by omega, by omega, by omega, by omega⟩
theorem d_Node {b : List Int} (hB : Byt b) {n p : Int} (ls : List Lk) (h0 : 0 ≤ p) (h1 : p ≤ 90000000) : Sat (sh_spec_l91Node (n, ls, b, p, ())) fun r => ∃ z p', r = (z, b, p', ()) ∧ p ≤ p' ∧ p' ≤ p + 2 ∧ -1 ≤ z ∧ z ≤ max 10 n := by
  unfold sh_spec_l91Node
  dsimp only
  refine Sat.pick hB (by omega) (by omega) (fun x1 _ _ _ => ?_)
  dsimp only
  refine Sat.ite (fun _ => ?_) (fun _ => ?_)
  · refine Sat.pick hB (by omega) (by omega) (fun x2 _ q _ => ?_)
    dsimp only
    rw [w64 (by omega) (by omega)]
    exact .some ⟨_, _, rfl, by omega, by omega, by omega, by omega⟩
  · refine Sat.pick hB (by omega) (by omega) (fun x2 _ q _ => ?_)
    dsimp only
    exact .some ⟨_, _, rfl, by omega, by omega, by omega, by omega⟩
end Go.Proofs.Ythcckenjkicmgaa

namespace Go.Proofs.Ythcckenjkicmgaa
open Go.RowKit
set_option linter.unusedSimpArgs false
set_option linter.unusedVariables false
set_option maxRecDepth 100000

theorem byt_open {c : List Int} (h : ∀ z ∈ c, 0 ≤ z ∧ z < 256) (hl : Fits c) : ∃ b, sh_spec_l6Open (c, ()) = some (b, 0, ()) ∧ Byt b := by
  unfold sh_spec_l6Open
  dsimp only
  have rng : ∀ l : List Int, (∀ z ∈ l, 0 ≤ z ∧ z < 256) → ∀ i, 0 ≤ iz l i ∧ iz l i ≤ 255 := fun l hl i => by
    rcases Nat.lt_or_ge i l.length with hi | hi
    · have := hl (iz l i) (List.mem_of_getElem? (iz_get hi))
      omega
    · unfold iz
      rw [List.getD, List.getElem?_eq_none hi]
      simp
  by_cases h2 : c.length ≤ 2000
  · refine ⟨c, ?_, h2, rng c h⟩
    rw [nI_eq, decide_eq_false (show ¬ (2000 : Int) < c.length by omega)]
    rfl
  · refine ⟨c.take 2000, ?_, by simp; omega, rng _ fun z hz => h z (List.mem_of_mem_take hz)⟩
    rw [nI_eq, decide_eq_true (show (2000 : Int) < c.length by omega), bnd2_t (by omega) (by omega) (by omega)]
    rfl
def Cod (c : List Int) : Prop := (∀ z ∈ c, 0 ≤ z ∧ z < 256) ∧ Fits c
end Go.Proofs.Ythcckenjkicmgaa
end
section
namespace Go.Proofs.Ythcckenjkicmgaa
open Go.RowKit
set_option linter.unusedSimpArgs false
set_option linter.unusedVariables false
set_option maxRecDepth 100000

theorem joinOk_t {na nb : Int} {la lb : List Lk} {bs : List Int} (h : joinOk na la nb lb bs = true) : ∃ N : Nat, na = N ∧ nb = N ∧ GV N la ∧ GV N lb ∧ bv N la bs = true ∧ bv N lb bs = true ∧ clean la lb bs N = true ∧ (grid (joinF la lb) N).length ≤ 14 := by
  simp only [joinOk, Bool.and_eq_true, decide_eq_true_eq] at h
  obtain ⟨⟨⟨⟨h1, h2⟩, rfl⟩, h4⟩, h5⟩ := h
  obtain ⟨N, rfl, ga⟩ := gv_nat (bv_gv h1)
  exact ⟨N, rfl, rfl, ga, (bv_t h2).1, h1, h2, h4, h5⟩
theorem joinR_len (na nb : Int) (la lb : List Lk) (bs : List Int) : (joinR na la nb lb bs).2.1.length ≤ 14 := by
  unfold joinR
  split
  · rename_i h
    obtain ⟨N, rfl, _, _, _, _, _, _, h14⟩ := joinOk_t h
    exact h14
  · simp
theorem fits_of {α : Type} {l : List α} {n : Nat} (h : l.length ≤ n) (hn : n ≤ 4611686018427387904) : Fits l := Nat.le_trans h hn
theorem cod_of {c : List Int} (hz : ∀ z ∈ c, 0 ≤ z ∧ z < 256) (h : decide ((1048576 : Int) < nI c.length) = false) : Cod c := ⟨hz, by have := of_decide_eq_false h; rw [nI_eq] at this; unfold Fits; omega⟩
end Go.Proofs.Ythcckenjkicmgaa
end
section
namespace Go.Proofs.Ythcckenjkicmgaa
open Go.RowKit
set_option linter.unusedSimpArgs false
set_option linter.unusedVariables false
set_option maxRecDepth 100000

theorem sz_ok {left : Int} {m : Nat} (h : decide ((if left - (m : Int) < 0 then (-1 : Int) else left - m) < 0) = false) : (m : Int) ≤ left := by
  have h := of_decide_eq_false h
  split at h <;> omega
theorem sz_val {left : Int} {m : Nat} (h : (m : Int) ≤ left) : (if left - (m : Int) < 0 then (-1 : Int) else left - m) = left - m := if_neg (by omega)
theorem law_ExactAreaSummary (n t : Int) {ls : List Lk} {bs : List Int} (ml : Mxl ls) : sh_laws_FnExactAreaSummary (n, ls, bs, t, ()) = some (true, ()) := by
  unfold sh_laws_FnExactAreaSummary
  simp only [nI_eq]
  refine Sat.out (Sat.ite (fun _ => .some rfl) (fun hb => ?_))
  have hb := of_decide_eq_false hb
  refine sv (e_szGraph n ls 1048576 ml (by omega)) (Sat.ite (fun _ => .some rfl) (fun h0 => ?_))
  have h0 := sz_ok h0
  have fl : Fits ls := by unfold Fits; omega
  have fb : Fits bs := by unfold Fits; omega
  have hs := summ_len (n := n) (t := t) (ls := ls) (bs := bs)
  have fs : Fits (summ n ls bs t) := by unfold Fits; omega
  have eg := e_toGraph n ls (by omega)
  have ei := e_toIntS bs (by omega)
  have eh := e_heldIntS 1 (summ n ls bs t).length (by omega) (by omega) (by omega)
  refine sv eg (sv ei (sv (e_sAreaSummary n t ls bs fl fb) (sv eg (sv ei (sv (e_AreaSummary n t ls bs fl fb) (sv (e_eqIntS _ fs) (Sat.no rfl ?_)))))))
  refine sv eg (sv (e_eqGraph n ls fl) (Sat.no rfl (sv ei (sv (e_eqIntS _ fb) (Sat.no rfl ?_)))))
  refine sv (e_markGraph n 1 ls (by omega) (by omega) (by omega)) (sv (e_markIntS (1 + 3 * ls.length) bs (by omega) (by omega) (by omega)) (Sat.no (decide_eq_false (by dsimp only; omega)) ?_))
  refine sv (e_eqIntS _ fs) (Sat.no rfl (sv (e_markIntS 1 (summ n ls bs t) (by omega) (by omega) (by omega)) (sv eh (Sat.no (decide_eq_false (by dsimp only; omega)) (Sat.no (by simp) ?_)))))
  exact sv eg (sv ei (sv (e_AreaSummary n t ls bs fl fb) (sv (e_eqIntS _ fs) (Sat.no rfl (sv eh (Sat.no (decide_eq_false (by dsimp only; omega)) (Sat.no (by simp) (.some rfl))))))))
theorem law_ExactAreaJoin (n m : Int) {la lb : List Lk} {bs : List Int} (ma : Mxl la) (mb : Mxl lb) : sh_laws_FnExactAreaJoin (n, la, m, lb, bs, ()) = some (true, ()) := by
  unfold sh_laws_FnExactAreaJoin
  simp only [nI_eq]
  refine Sat.out (Sat.ite (fun _ => .some rfl) (fun hb => ?_))
  have hb := of_decide_eq_false hb
  refine sv (e_szGraph n la 1048576 ma (by omega)) (Sat.ite (fun _ => .some rfl) (fun h0 => ?_))
  have h0 := sz_ok h0
  dsimp only
  rw [sz_val h0]
  refine sv (e_szGraph m lb (1048576 - la.length) mb (by omega)) (Sat.ite (fun _ => .some rfl) (fun h1 => ?_))
  have h1 := sz_ok h1
  have fa : Fits la := by unfold Fits; omega
  have fb : Fits lb := by unfold Fits; omega
  have fs : Fits bs := by unfold Fits; omega
  have hj := joinR_len n m la lb bs
  have ga := e_toGraph n la (by omega)
  have gb := e_toGraph m lb (by omega)
  have ei := e_toIntS bs (by omega)
  have ej := e_AreaJoin n m fa fb fs
  have es := e_sAreaJoin n m fa fb fs
  obtain ⟨J, rj⟩ : ∃ J, joinR n la m lb bs = J := ⟨_, rfl⟩
  rw [rj] at hj ej es
  have fj : Fits J.2.1 := by unfold Fits; omega
  have eh := e_heldGraph J.1 1 J.2.1.length (by omega) (by omega) (by omega)
  have b1 : bo_laws_FnExactAreaJoin_10 (bs, n, la, m, lb, ()) = some (.inl (bs, J.2.2, n, la, m, lb, J.1, J.2.1, ())) := by
    unfold bo_laws_FnExactAreaJoin_10
    exact Sat.out (sv ga (sv gb (sv ei (sv es (.some rfl)))))
  refine sv b1 ?_
  dsimp only
  refine sv ga (sv gb (sv ei (sv ej (sv (e_eqGraph _ _ fj) (Sat.no rfl (Sat.no (by simp) ?_))))))
  refine sv ga (sv (e_eqGraph n la fa) (Sat.no rfl (sv gb (sv (e_eqGraph m lb fb) (Sat.no rfl (sv ei (sv (e_eqIntS bs fs) (Sat.no rfl ?_))))))))
  refine sv (e_markGraph n 1 la (by omega) (by omega) (by omega)) (sv (e_markGraph m (1 + 3 * la.length) lb (by omega) (by omega) (by omega)) (sv (e_markIntS (1 + 3 * la.length + 3 * lb.length) bs (by omega) (by omega) (by omega)) (Sat.no (decide_eq_false (by dsimp only; omega)) ?_)))
  refine sv (e_eqGraph _ _ fj) (Sat.no rfl (Sat.no (by simp) (sv (e_markGraph J.1 1 J.2.1 (by omega) (by omega) (by omega)) (sv eh (Sat.no (decide_eq_false (by dsimp only; omega)) (Sat.no (by simp) ?_))))))
  have b2 : bo_laws_FnExactAreaJoin_37 (bs, J.2.2, 1 + 3 * J.2.1.length, n, la, m, lb, J.1, J.1, J.2.1, mkF 3 lkM 1 J.2.1.length, ()) = some (.inl (J.2.2, 1 + 3 * (J.2.1.length : Int), J.2.2, J.1, J.1, J.1, J.2.1, mkF 3 lkM 1 J.2.1.length, J.2.1, ())) := by
    unfold bo_laws_FnExactAreaJoin_37
    exact Sat.out (sv ga (sv gb (sv ei (sv ej (.some rfl)))))
  refine sv b2 ?_
  dsimp only
  exact sv (e_eqGraph _ _ fj) (Sat.no rfl (Sat.no (by simp) (sv eh (Sat.no (decide_eq_false (by dsimp only; omega)) (Sat.no (by simp) (.some rfl))))))
end Go.Proofs.Ythcckenjkicmgaa
end
section
namespace Go.Proofs.Ythcckenjkicmgaa
open Go.RowKit
set_option linter.unusedSimpArgs false
set_option linter.unusedVariables false
set_option maxRecDepth 100000

theorem half {i j : Nat} (h : i + j ≤ 4611686018427387904) : wrap64 (shrK .u64 (wrapK .u64 (wrap64 ((i : Int) + (j : Int)))) 1) = (((i + j) / 2 : Nat) : Int) := by
  rw [w64 (x := (i : Int) + j) (by omega) (by omega)]
  have e : wrapK .u64 ((i : Int) + j) = (i : Int) + j := by
    simp [wrapK, IntKind.wrap, IntKind.signed, IntKind.bits]
    omega
  rw [e]
  unfold shrK
  rw [show (1 : Int).toNat = 1 from rfl, show min 1 (IntKind.bits .u64) = 1 from rfl]
  rw [Int.fdiv_eq_ediv_of_nonneg _ (by decide)]
  rw [w64 (by omega) (by omega)]
  omega
def IsPl (db : List Ls) (o : Int) (i : Nat) : Prop := i ≤ db.length ∧ (∀ x, x < i → (lsa db x).o < o) ∧ ∀ x, i ≤ x → x < db.length → o ≤ (lsa db x).o
def hasAt (db : List Ls) (o : Int) (i : Nat) : Bool := decide (i < db.length ∧ (lsa db i).o = o)
def Srt (db : List Ls) : Prop := ∀ i j, i < j → j < db.length → (lsa db i).o < (lsa db j).o
theorem DbV.srt {db : List Ls} (h : DbV db) : Srt db := by
  have step : ∀ d i, i + d + 1 < db.length → (lsa db i).o < (lsa db (i + d + 1)).o := fun d => by
    induction d with
    | zero => intro i hi; exact (h (i + 1) hi).2 (by omega)
    | succ d ih =>
      intro i hi
      have h1 := ih i (by omega)
      have h2 := (h (i + (d + 1) + 1) hi).2 (by omega)
      rw [Nat.add_sub_cancel] at h2
      rw [show i + (d + 1) = i + d + 1 by omega] at h2 ⊢
      omega
  intro i j hij hj
  have := step (j - i - 1) i (by omega)
  rwa [show i + (j - i - 1) + 1 = j by omega] at this
theorem e_cmp (a b : Int) : sh_cmp_Compare_int (a, b, ()) = some (if a < b then -1 else if b < a then 1 else 0, ()) := by
  have e : ∀ x : Int, sh_cmp_isNaN_int (x, ()) = some (false, ()) := fun x => by simp [sh_cmp_isNaN_int]
  unfold sh_cmp_Compare_int
  simp only [e, Option.bind_some, cond_false]
  by_cases h1 : a < b
  · simp [h1]
  · by_cases h2 : b < a <;> simp [h1, h2]
theorem e_dbPlace (db : List Ls) (o : Int) (hs : Srt db) (hl : db.length ≤ 2000000000) : ∃ i : Nat, IsPl db o i ∧ sh_impl_dbPlace (db, o, ()) = some ((i : Int), hasAt db o i, ()) := by
  have hmono : ∀ i j, i ≤ j → j < db.length → (lsa db i).o ≤ (lsa db j).o := fun i j hij hj => by
    rcases Nat.eq_or_lt_of_le hij with e | e
    · subst e; exact Int.le_refl _
    · have := hs i j e hj; omega
  have key : Sat (sh_impl_dbPlace (db, o, ())) fun r => ∃ i : Nat, IsPl db o i ∧ r = ((i : Int), hasAt db o i, ()) := by
    unfold sh_impl_dbPlace sh_slices_BinarySearchFunc_impl_Lsa_impl_Lsa_int_dbPlace_1
    refine Sat.bnd (R := fun r => ∃ i : Nat, IsPl db o i ∧ r = ((i : Int), hasAt db o i, ())) (Sat.bnd (R := fun r => match r with | .inl x => ∃ i : Nat, IsPl db o i ∧ x = (db, o, (db.length : Int), (i : Int), ()) | .inr _ => False) ?_ ?_) ?_
    · refine Sat.loop (fun s => ∃ i j : Nat, s = (db, o, (db.length : Int), (i : Int), (j : Int), ()) ∧ i ≤ j ∧ j ≤ db.length ∧ (∀ x, x < i → (lsa db x).o < o) ∧ ∀ x, j ≤ x → x < db.length → o ≤ (lsa db x).o) (fun s => (s.2.2.2.2.1 - s.2.2.2.1).toNat) ?_ fuel _ ?_ ?_
      · rintro _ ⟨i, j, rfl, hij, hj, h1, h2⟩
        simp only [bo_slices_BinarySearchFunc_impl_Lsa_impl_Lsa_int_dbPlace_1_3, half (show i + j ≤ 4611686018427387904 by omega), at_ls, toN, sh_impl_dbPlace_1, e_cmp, Option.bind_some]
        refine Sat.ite (fun hlt => ?_) (fun hlt => ?_)
        · have hlt := of_decide_eq_true hlt
          have hm : (i + j) / 2 < j ∧ i ≤ (i + j) / 2 := by omega
          generalize (i + j) / 2 = m at *
          refine Sat.gd (inR_t (by omega) (by omega)) (Sat.ite (fun hc => ?_) (fun hc => ?_))
          · have hc := of_decide_eq_true hc
            have hc : (lsa db m).o < o := by
              by_cases h : (lsa db m).o < o
              · exact h
              · rw [if_neg h] at hc
                split at hc <;> omega
            rw [w64 (by omega) (by omega)]
            refine .some ⟨⟨m + 1, j, rfl, by omega, hj, fun x hx => ?_, h2⟩, by dsimp only; omega⟩
            have := hmono x m (by omega) (by omega)
            omega
          · have hc := of_decide_eq_false hc
            have hc : o ≤ (lsa db m).o := by
              by_cases h : (lsa db m).o < o
              · rw [if_pos h] at hc; omega
              · omega
            refine .some ⟨⟨i, m, rfl, by omega, by omega, h1, fun x hx hxl => ?_⟩, by dsimp only; omega⟩
            have := hmono m x hx hxl
            omega
        · have hlt := of_decide_eq_false hlt
          obtain rfl : i = j := by omega
          exact .some ⟨i, ⟨hj, h1, h2⟩, rfl⟩
      · rw [nI_eq]; dsimp only; unfold fuel; omega
      · exact ⟨0, db.length, by rw [nI_eq]; rfl, by omega, by omega, fun x hx => by omega, fun x hx hxl => by omega⟩
    · rintro (r | r) hr
      case inr => exact hr.elim
      obtain ⟨i, hi, rfl⟩ := hr
      simp only [at_ls, toN, sh_impl_dbPlace_1, e_cmp, Option.bind_some]
      refine Sat.ite (fun hlt => ?_) (fun hlt => ?_)
      · have hlt := of_decide_eq_true hlt
        refine Sat.gd (inR_t (by omega) (by omega)) (.some ⟨i, hi, ?_⟩)
        have hge := hi.2.2 i (Nat.le_refl _) (by omega)
        unfold hasAt
        by_cases h : (lsa db i).o = o
        · rw [decide_eq_true (show i < db.length ∧ (lsa db i).o = o from ⟨by omega, h⟩), h, if_neg (by omega), if_neg (by omega)]; rfl
        · rw [decide_eq_false (show ¬ (i < db.length ∧ (lsa db i).o = o) from fun g => h g.2), if_neg (by omega), if_pos (by omega)]; rfl
      · have hlt := of_decide_eq_false hlt
        refine .some ⟨i, hi, ?_⟩
        unfold hasAt
        rw [decide_eq_false (show ¬ (i < db.length ∧ (lsa db i).o = o) from fun g => by omega)]
    · rintro _ ⟨i, hi, rfl⟩
      exact .some ⟨i, hi, rfl⟩
  obtain ⟨r, h1, i, h2, h3⟩ := key
  exact ⟨i, h2, by rw [h1, h3]⟩
theorem fd_place {db : List Ls} {o : Int} {i : Nat} (hs : Srt db) (h : IsPl db o i) : fd db o = if hasAt db o i then some (lsa db i) else none := by
  unfold hasAt
  by_cases hc : i < db.length ∧ (lsa db i).o = o
  · rw [decide_eq_true hc, if_pos rfl]
    unfold fd
    rw [lsa_get hc.1]
    exact find_hit hc.1 (decide_eq_true (by rw [← lsa_get hc.1]; exact hc.2)) fun x hx hxi => decide_eq_false (by rw [← lsa_get hx]; have := h.2.1 x hxi; omega)
  · rw [decide_eq_false hc]
    unfold fd
    refine find_miss (p := fun l : Ls => decide (l.o = o)) (l := db) fun x hx => decide_eq_false ?_
    rw [← lsa_get hx]
    rcases Nat.lt_or_ge x i with h1 | h1
    · have := h.2.1 x h1; omega
    · intro e
      have h2 := h.2.2 x h1 hx
      have h3 := h.2.2 i (Nat.le_refl _) (by omega)
      rcases Nat.eq_or_lt_of_le h1 with e2 | e2
      · subst e2; exact hc ⟨hx, e⟩
      · have := hs i x e2 hx; omega
end Go.Proofs.Ythcckenjkicmgaa
end
section
namespace Go.Proofs.Ythcckenjkicmgaa
open Go.RowKit
set_option linter.unusedSimpArgs false
set_option linter.unusedVariables false
set_option maxRecDepth 100000

theorem asc_ext : ∀ {l l' : List Int}, l.Pairwise (· < ·) → l'.Pairwise (· < ·) → (∀ x, x ∈ l ↔ x ∈ l') → l = l'
  | [], [], _, _, _ => rfl
  | [], y :: s, _, _, h => by have := (h y).2 (List.mem_cons_self ..); simp at this
  | x :: r, [], _, _, h => by have := (h x).1 (List.mem_cons_self ..); simp at this
  | x :: r, y :: s, h1, h2, h => by
    have h1 := List.pairwise_cons.1 h1
    have h2 := List.pairwise_cons.1 h2
    have e : x = y := by
      rcases List.mem_cons.1 ((h x).1 (List.mem_cons_self ..)) with e | hx
      · exact e
      · rcases List.mem_cons.1 ((h y).2 (List.mem_cons_self ..)) with e | hy
        · exact e.symm
        · have q1 := h1.1 y hy
          have q2 := h2.1 x hx
          omega
    subst e
    have : r = s := asc_ext h1.2 h2.2 fun z => by
      constructor
      · intro hz
        rcases List.mem_cons.1 ((h z).1 (List.mem_cons_of_mem _ hz)) with e | hz'
        · subst e; have := h1.1 z hz; omega
        · exact hz'
      · intro hz
        rcases List.mem_cons.1 ((h z).2 (List.mem_cons_of_mem _ hz)) with e | hz'
        · subst e; have := h2.1 z hz; omega
        · exact hz'
    rw [this]
theorem sortI_mem {x : Int} {l : List Int} : x ∈ sortI l ↔ x ∈ l := List.mem_mergeSort
theorem sortI_asc {l : List Int} (h : l.Pairwise (· ≠ ·)) : (sortI l).Pairwise (· < ·) := by
  have h1 : (sortI l).Pairwise (fun a b => decide (a ≤ b) = true) := List.pairwise_mergeSort (fun a b c h1 h2 => decide_eq_true (by have := of_decide_eq_true h1; have := of_decide_eq_true h2; omega)) (fun a b => by simp; omega) l
  have h2 : (sortI l).Nodup := (List.mergeSort_perm l _).nodup_iff.2 h
  refine List.Pairwise.imp ?_ (List.Pairwise.and h1 h2)
  rintro a b ⟨q1, q2⟩
  have := of_decide_eq_true q1
  omega
theorem nbS_asc (ls : List Lk) (m : Int) (k : Nat) : (nbS ls m k).Pairwise (· < ·) := by
  unfold nbS
  rw [List.pairwise_map]
  refine List.Pairwise.imp ?_ (List.Pairwise.filter _ (List.pairwise_lt_range (n := k)))
  intro a b h
  omega
theorem nbS_mem {ls : List Lk} {m x : Int} {k : Nat} : x ∈ nbS ls m k ↔ ∃ j : Nat, j < k ∧ x = j ∧ (lc ls m j).isSome = true := by
  unfold nbS
  rw [List.mem_map]
  constructor
  · rintro ⟨j, hj, rfl⟩
    obtain ⟨h1, h2⟩ := List.mem_filter.1 hj
    exact ⟨j, List.mem_range.1 h1, rfl, by rw [lc_lof]; exact h2⟩
  · rintro ⟨j, h1, rfl, h2⟩
    rw [lc_lof] at h2
    exact ⟨j, List.mem_filter.2 ⟨List.mem_range.2 h1, h2⟩, rfl⟩
section
variable {N : Nat} {ls : List Lk}
theorem others_mem (g : GV N ls) {m : Int} {x : Int} : x ∈ others ls m ls.length ↔ (lc ls m x).isSome = true := by
  unfold others
  rw [List.mem_map, List.take_of_length_le (Nat.le_refl _)]
  constructor
  · rintro ⟨l, hl, rfl⟩
    obtain ⟨h1, h2⟩ := List.mem_filter.1 hl
    have ho := g.ok h1
    unfold okL at ho
    have h2 : m = l.a ∨ m = l.b := of_decide_eq_true h2
    unfold otherE
    by_cases e : m = l.a
    · rw [if_pos e, e, lc_mem g.pw h1 (by omega)]; rfl
    · have e2 := h2.resolve_left e
      rw [if_neg e, if_pos e2, e2, lc_symm, lc_mem g.pw h1 (by omega)]; rfl
  · intro h
    obtain ⟨c, hc⟩ := Option.isSome_iff_exists.1 h
    have hm := lc_some hc
    have ho := g.ok hm
    unfold okL at ho
    dsimp only at ho
    refine ⟨_, List.mem_filter.2 ⟨hm, decide_eq_true (by dsimp only; omega)⟩, ?_⟩
    unfold otherE
    dsimp only
    split
    · omega
    · rw [if_pos (by omega)]; omega
theorem others_nodup (g : GV N ls) (m : Int) : (others ls m ls.length).Pairwise (· ≠ ·) := by
  unfold others
  rw [List.take_of_length_le (Nat.le_refl _), List.pairwise_map]
  refine List.Pairwise.imp_of_mem ?_ (List.Pairwise.filter _ g.pw)
  intro a b ha hb hab
  obtain ⟨ha, ea⟩ := List.mem_filter.1 ha
  obtain ⟨hb, eb⟩ := List.mem_filter.1 hb
  have oa := g.ok ha
  have ob := g.ok hb
  have ea : m = a.a ∨ m = a.b := of_decide_eq_true ea
  have eb : m = b.a ∨ m = b.b := of_decide_eq_true eb
  unfold okL at oa ob
  unfold lxl at hab
  unfold otherE
  split <;> split <;> (try split) <;> (try split) <;> omega
theorem lc_none_out (g : GV N ls) {m x : Int} (h : (lc ls m x).isSome = true) : 0 ≤ x ∧ x < N ∧ 0 ≤ m ∧ m < N ∧ x ≠ m := by
  obtain ⟨c, hc⟩ := Option.isSome_iff_exists.1 h
  have ho := g.ok (lc_some hc)
  unfold okL at ho
  dsimp only at ho
  omega
theorem sort_nb (g : GV N ls) (m : Int) : sortI (others ls m ls.length) = nbS ls m N := by
  refine asc_ext (sortI_asc (others_nodup g m)) (nbS_asc ls m N) fun x => ?_
  rw [sortI_mem, others_mem g, nbS_mem]
  constructor
  · intro h
    have := lc_none_out g h
    exact ⟨x.toNat, by omega, by omega, by rw [show ((x.toNat : Nat) : Int) = x by omega]; exact h⟩
  · rintro ⟨j, _, rfl, h⟩; exact h
def endsOf (ls : List Lk) (N : Nat) (o : Int) : List En := (nbS ls o N).map fun n => ⟨n, (lc ls o n).getD 0⟩
theorem e_lsaOf (g : GV N ls) (o s : Int) : sh_impl_Graph_lsaOf ((N : Int), ls, o, s, ()) = some (o, s, endsOf ls N o, ()) := by
  have h8 := g.2.1
  have fl : Fits ls := (show Fits ls by have := g.2.2.1; unfold Fits; omega)
  unfold sh_impl_Graph_lsaOf
  simp only [e_neighbours (N : Int) ls o (by have := g.2.2.1; omega), sort_nb g o, Option.bind_some, nI_eq]
  have hlen := nbS_len ls o N
  have hmem : ∀ x ∈ nbS ls o N, ∃ c, lc ls o x = some c := fun x hx => by
    obtain ⟨j, _, rfl, h⟩ := nbS_mem.1 hx
    exact Option.isSome_iff_exists.1 h
  unfold endsOf
  generalize nbS ls o N = nb at *
  refine Sat.out (Sat.bnd (R := fun r => match r with | .inl x => x = (0, 0, o, s, [], nb.map fun n => ⟨n, (lc ls o n).getD 0⟩, ()) | .inr _ => False) ?_ ?_)
  · refine Sat.count nb.length (fun k t => t = (o, (nb.length : Int), (k : Int), (N : Int), ls, 0, 0, o, s, nb, [], (nb.take k).map (fun n => (⟨n, (lc ls o n).getD 0⟩ : En)), ())) ?_ (Nat.zero_le _) (fuel_lt (by omega)) (by simp)
    rintro k t hk rfl
    by_cases hlt : k < nb.length
    · obtain ⟨c, hc⟩ := hmem (iz nb k) (List.mem_of_getElem? (iz_get hlt))
      obtain ⟨h1, h2, h3⟩ := lc_at hc
      simp (disch := omega) only [bo_impl_Graph_lsaOf_3, at_int, at_lk, toN, w64, e_linkOf _ _ _ _ fl, Option.bind_some, List.length_singleton, List.length_map]
      refine Sat.gd (decide_eq_true (by omega)) (Sat.gd (inR_t (by omega) (by omega)) (Sat.gd (inR_t h1 h2) (Sat.gd (decide_eq_true (by simp; omega)) (.some ⟨hlt, ?_⟩))))
      rw [h3, List.take_add_one, iz_get hlt]
      simp [hc]
    · obtain rfl : k = nb.length := by omega
      unfold bo_impl_Graph_lsaOf_3
      simp only [decide_eq_false (show ¬ (nb.length : Int) < nb.length by omega), cond_false, List.take_length]
      exact .some rfl
  · rintro (r | r) hr
    case inr => exact hr.elim
    obtain rfl := hr
    exact .some rfl
theorem endsOf_len (o : Int) : (endsOf ls N o).length ≤ N := by unfold endsOf; rw [List.length_map]; exact nbS_len ls o N
theorem e_l11Of (g : GV N ls) (o s : Int) : sh_spec_l11Of ((N : Int), ls, o, s, ()) = some (o, s, endsOf ls N o, ()) := by
  have h8 := g.2.1
  have fl : Fits ls := (show Fits ls by have := g.2.2.1; unfold Fits; omega)
  unfold sh_spec_l11Of
  refine Sat.out (Sat.bnd (R := fun r => match r with | .inl x => x = (0, 0, [], o, s, endsOf ls N o, ()) | .inr _ => False) ?_ ?_)
  · refine Sat.count N (fun k t => t = (o, (k : Int), (N : Int), ls, 0, 0, [], o, s, (nbS ls o k).map (fun n => (⟨n, (lc ls o n).getD 0⟩ : En)), ())) ?_ (Nat.zero_le _) (fuel_lt (by omega)) (by simp [nbS])
    rintro k t hk rfl
    have hlen := nbS_len ls o k
    simp (disch := omega) only [bo_spec_l11Of_3, at_lk, toN, w64, e_l1Link _ _ _ _ fl, Option.bind_some, List.length_singleton, List.length_map]
    refine Sat.ite (fun hlt => ?_) (fun hlt => ?_)
    · have hlt := of_decide_eq_true hlt
      cases hc : lc ls o k with
      | none =>
        refine Sat.no (by rw [lc_no hc]; rfl) (.some ⟨by omega, ?_⟩)
        rw [nbS_succ, if_neg (by rw [lc_no hc]; omega)]
        rfl
      | some c =>
        obtain ⟨h1, h2, h3⟩ := lc_at hc
        refine Sat.gd (decide_eq_true h1) (Sat.gd (inR_t h1 h2) (Sat.gd (decide_eq_true (by omega)) (.some ⟨by omega, ?_⟩)))
        rw [nbS_succ, if_pos h1, h3]
        simp [hc]
    · have hlt := of_decide_eq_false hlt
      obtain rfl : k = N := by omega
      exact .some rfl
  · rintro (r | r) hr
    case inr => exact hr.elim
    obtain rfl := hr
    exact .some rfl
end
end Go.Proofs.Ythcckenjkicmgaa
end
section
namespace Go.Proofs.Ythcckenjkicmgaa
open Go.RowKit
set_option linter.unusedSimpArgs false
set_option linter.unusedVariables false
set_option maxRecDepth 100000

theorem e_announced (db : List Ls) (a b : Int) (hs : Srt db) (hl : db.length ≤ 2000000000) (he : ∀ l ∈ db, Fits l.e) : sh_impl_announced (db, a, b, ()) = some (ann db a b, ()) := by
  obtain ⟨i, hi, e⟩ := e_dbPlace db a hs hl
  unfold sh_impl_announced
  rw [e]
  dsimp only [Option.bind_some]
  unfold ann
  rw [fd_place hs hi]
  refine Sat.out ?_
  rcases cs_bool (hasAt db a i) with h | h
  · refine Sat.gd (by rw [h]; rfl) ?_
    rw [h]
    exact .some rfl
  · refine Sat.no (by rw [h]; rfl) ?_
    have hh := of_decide_eq_true h
    refine Sat.gd (inR_t (by omega) (by omega)) ?_
    rw [if_pos h, at_ls, toN, nI_eq]
    dsimp only
    have hf : Fits (lsa db i).e := he _ (by rw [lsa_get hh.1]; exact List.getElem_mem hh.1)
    generalize (lsa db i).e = es at *
    refine Sat.bnd (R := fun r => match r with | .inl _ => ec es b = 0 | .inr z => z.1 = ec es b) ?_ ?_
    · refine Sat.count es.length (fun k t => t = (b, es, (es.length : Int), (k : Int), ()) ∧ ∀ i, i < k → (en es i).n ≠ b) ?_ (Nat.zero_le _) (fuel_lt (by omega)) ⟨rfl, fun i hi => by omega⟩
      rintro k t hk ⟨rfl, hok⟩
      simp (disch := omega) only [bo_impl_announced_5, at_en, toN, w64, nI_eq]
      repeat' (first
        | refine Sat.some ?_
        | fail
        | (refine Sat.gd (by first | exact inR_t (by omega) (by omega) | (simp (disch := omega) only [w64]; exact inR_t (by omega) (by omega))) ?_)
        | (refine Sat.ite (fun h => ?_) (fun h => ?_) <;> try simp only [decide_eq_true_eq, decide_eq_false_iff_not, Bool.not_eq_true', Bool.not_eq_false', inB_i, inB_j, Bool.and_eq_true, Bool.or_eq_true, Bool.and_eq_false_iff, Bool.or_eq_false_iff, El] at h))
      all_goals try dsimp only
      · have hlt : k < es.length := by omega
        unfold ec
        rw [find_hit (k := k) hlt (decide_eq_true (by rw [← en_get hlt]; assumption)) fun i hi hik => decide_eq_false (by rw [← en_get hi]; exact hok i hik), en_get hlt]
      · refine ⟨by omega, rfl, fun i hi => ?_⟩
        by_cases e : i < k
        · exact hok i e
        · obtain rfl : i = k := by omega
          assumption
      · unfold ec
        rw [find_miss (p := fun e : En => decide (e.n = b)) (l := es) fun i hi => decide_eq_false (by rw [← en_get hi]; exact hok i (by omega))]
    · rintro (r | r) hr
      · have hr : ec es b = 0 := hr
        exact .some (by rw [hr])
      · obtain ⟨z, u⟩ := r
        have hr : z = ec es b := hr
        exact .some (by rw [hr])
def dbF (db : List Ls) (a b : Nat) : Option Int := if 0 < ann db a b ∧ 0 < ann db b a then some (max (ann db a b) (ann db b a)) else none
section
variable {db : List Ls} {N : Nat}
theorem cell_db {a b : Nat} : cell (dbF db) a b = if 0 < ann db a b ∧ 0 < ann db b a then [⟨a, b, max (ann db a b) (ann db b a)⟩] else [] := by
  unfold cell dbF
  split <;> rename_i h
  · split at h
    · rename_i h2
      injection h with h
      rw [if_pos h2, ← h]
    · cases h
  · split at h
    · cases h
    · rename_i h2
      rw [if_neg h2]
theorem e_drow_s (hl : Fits db) (he : ∀ l ∈ db, Fits l.e) (h8 : N ≤ 8) {n : Nat} (hn : n < N) (x4 x6 : Int) (xl xo : List Lk) (ho : xo.length ≤ 1000) : Sat (lp bo_spec_l11Graph_6 fuel ((N : Int), db, (n : Int), wrap64 ((n : Int) + 1), x4, xl, x6, xo, ())) fun r => match r with
      | .inl x => x = ((N : Int), db, (n : Int), x4, xl, x6, xo ++ gridR (dbF db) n (N - 1 - n), ())
      | .inr _ => False := by
  refine Sat.count (N - 1 - n) (fun k s => s = ((N : Int), db, (n : Int), ((n + 1 + k : Nat) : Int), x4, xl, x6, xo ++ gridR (dbF db) n k, ())) ?_ (Nat.zero_le _) (fuel_lt (by omega)) (by rw [w64 (by omega) (by omega)]; simp [gridR])
  rintro k s hk rfl
  have hlen := gridR_len (dbF db) n k
  have fin : ∀ c : List Lk, cell (dbF db) n (n + 1 + k) = c → k < N - 1 - n → ((N : Int), db, (n : Int), wrap64 (((n + 1 + k : Nat) : Int) + 1), x4, xl, x6, (xo ++ gridR (dbF db) n k) ++ c, ()) = ((N : Int), db, (n : Int), ((n + 1 + (k + 1) : Nat) : Int), x4, xl, x6, xo ++ gridR (dbF db) n (k + 1), ()) := fun c hc hk => by
    rw [gridR_succ, hc, w64 (by omega) (by omega), List.append_assoc]
    rfl
  simp only [bo_spec_l11Graph_6, e_l11Cost _ _ _ hl he, Option.bind_some, List.length_singleton, List.length_append]
  refine Sat.ite (fun hlt => ?_) (fun hlt => ?_)
  · have hlt := of_decide_eq_true hlt
    have hkN : k < N - 1 - n := by omega
    have hcell := cell_db (db := db) (a := n) (b := n + 1 + k)
    refine Sat.ite (fun h1 => Sat.ite (fun h2 => ?_) (fun h2 => ?_)) (fun h1 => ?_)
    · have h1 := of_decide_eq_true h1
      have h2 := of_decide_eq_true h2
      rw [if_pos ⟨h1, h2⟩] at hcell
      exact Sat.gd (decide_eq_true (by omega)) (.some ⟨hkN, fin _ hcell hkN⟩)
    · have h2 := of_decide_eq_false h2
      rw [if_neg fun h => h2 h.2] at hcell
      have := fin _ hcell hkN
      rw [List.append_nil] at this
      exact .some ⟨hkN, this⟩
    · have h1 := of_decide_eq_false h1
      rw [if_neg fun h => h1 h.1] at hcell
      have := fin _ hcell hkN
      rw [List.append_nil] at this
      exact .some ⟨hkN, this⟩
  · have hlt := of_decide_eq_false hlt
    obtain rfl : k = N - 1 - n := by omega
    exact .some rfl
theorem le64 {k : Nat} (h8 : N ≤ 8) (hk : k ≤ N) : k * N ≤ 64 := Nat.le_trans (Nat.mul_le_mul hk (Nat.le_refl N)) (Nat.le_trans (Nat.mul_le_mul h8 h8) (by omega))
theorem e_l11Graph (hl : Fits db) (he : ∀ l ∈ db, Fits l.e) (h8 : N ≤ 8) : sh_spec_l11Graph ((N : Int), db, ()) = some ((N : Int), grid (dbF db) N, ()) := by
  unfold sh_spec_l11Graph
  refine Sat.out (Sat.bnd (R := fun r => match r with | .inl x => x.2.2.1 = (N : Int) ∧ x.2.2.2.1 = grid (dbF db) N | .inr _ => False) ?_ ?_)
  · refine Sat.count N (fun k s => s = ((N : Int), db, (k : Int), 0, [], (N : Int), gridK (dbF db) N k, ())) ?_ (Nat.zero_le _) (fuel_lt (by omega)) rfl
    rintro k s hk rfl
    have hlen := gridK_len (dbF db) N k
    have hkN := le64 h8 hk
    unfold bo_spec_l11Graph_3
    dsimp only
    refine Sat.ite (fun hlt => ?_) (fun hlt => ?_)
    · have hlt := of_decide_eq_true hlt
      have hkl : k < N := by omega
      refine Sat.bnd (e_drow_s hl he h8 hkl 0 (N : Int) [] _ (by omega)) ?_
      rintro (r | r) hr
      case inr => exact hr.elim
      obtain rfl := hr
      refine .some ⟨hkl, ?_⟩
      dsimp only
      rw [gridK_succ, w64 (by omega) (by omega)]
      rfl
    · have hlt := of_decide_eq_false hlt
      obtain rfl : k = N := by omega
      exact .some ⟨rfl, rfl⟩
  · rintro (r | r) hr
    case inr => exact hr.elim
    have hr : r.2.2.1 = (N : Int) ∧ r.2.2.2.1 = grid (dbF db) N := hr
    exact .some (by rw [hr.1, hr.2])
theorem e_drow_i (hs : Srt db) (hl : db.length ≤ 2000000000) (he : ∀ l ∈ db, Fits l.e) (h8 : N ≤ 8) {n : Nat} (hn : n < N) (x4 x6 x7 : Int) (xl xo : List Lk) (ho : xo.length ≤ 1000) : Sat (lp bo_impl_DbGraph_8 fuel ((N : Int), db, (n : Int), wrap64 ((n : Int) + 1), x4, (n : Int), x6, x7, xl, xo, ())) fun r => match r with
      | .inl x => x = ((N : Int), db, x4, (n : Int), x6, x7, xl, xo ++ gridR (dbF db) n (N - 1 - n), ())
      | .inr _ => False := by
  refine Sat.count (N - 1 - n) (fun k s => s = ((N : Int), db, (n : Int), ((n + 1 + k : Nat) : Int), x4, (n : Int), x6, x7, xl, xo ++ gridR (dbF db) n k, ())) ?_ (Nat.zero_le _) (fuel_lt (by omega)) (by rw [w64 (by omega) (by omega)]; simp [gridR])
  rintro k s hk rfl
  have hlen := gridR_len (dbF db) n k
  have fin : ∀ c : List Lk, cell (dbF db) n (n + 1 + k) = c → k < N - 1 - n → ((N : Int), db, (n : Int), wrap64 (((n + 1 + k : Nat) : Int) + 1), x4, (n : Int), x6, x7, xl, (xo ++ gridR (dbF db) n k) ++ c, ()) = ((N : Int), db, (n : Int), ((n + 1 + (k + 1) : Nat) : Int), x4, (n : Int), x6, x7, xl, xo ++ gridR (dbF db) n (k + 1), ()) := fun c hc hk => by
    rw [gridR_succ, hc, w64 (by omega) (by omega), List.append_assoc]
    rfl
  simp only [bo_impl_DbGraph_8, e_announced _ _ _ hs hl he, Option.bind_some, List.length_singleton, List.length_append]
  refine Sat.ite (fun hlt => ?_) (fun hlt => ?_)
  · have hlt := of_decide_eq_true hlt
    have hkN : k < N - 1 - n := by omega
    have hcell := cell_db (db := db) (a := n) (b := n + 1 + k)
    refine Sat.ite (fun h1 => Sat.ite (fun h2 => ?_) (fun h2 => ?_)) (fun h1 => ?_)
    · have h1 := of_decide_eq_true h1
      have h2 := of_decide_eq_true h2
      rw [if_pos ⟨h1, h2⟩] at hcell
      exact Sat.gd (decide_eq_true (by omega)) (.some ⟨hkN, fin _ hcell hkN⟩)
    · have h2 := of_decide_eq_false h2
      rw [if_neg fun h => h2 h.2] at hcell
      have := fin _ hcell hkN
      rw [List.append_nil] at this
      exact .some ⟨hkN, this⟩
    · have h1 := of_decide_eq_false h1
      rw [if_neg fun h => h1 h.1] at hcell
      have := fin _ hcell hkN
      rw [List.append_nil] at this
      exact .some ⟨hkN, this⟩
  · have hlt := of_decide_eq_false hlt
    obtain rfl : k = N - 1 - n := by omega
    exact .some rfl
end
def dbOk (n : Int) (db : List Ls) : Bool := inB n 1 8 && dbv db && decide ((grid (dbF db) n.toNat).length ≤ 14)
theorem e_DbGraph (n : Int) (db : List Ls) (hl : db.length ≤ 2000000000) (he : ∀ l ∈ db, Fits l.e) : sh_impl_DbGraph (n, db, ()) = some (if dbOk n db then (n, true, grid (dbF db) n.toNat, ()) else (0, false, [], ())) := by
  unfold sh_impl_DbGraph dbOk
  simp only [e_within, e_DbValid db (show Fits db by unfold Fits; omega) he, Option.bind_some]
  cases h1 : inB n 1 8 with
  | false => rfl
  | true =>
  cases h2 : dbv db with
  | false => rfl
  | true =>
  have h1 := inB_t h1
  have hs : Srt db := DbV.srt (of_decide_eq_true h2)
  obtain ⟨N, rfl⟩ := Int.eq_ofNat_of_zero_le (show 0 ≤ n by omega)
  have h8 : N ≤ 8 := by omega
  rw [Int.toNat_natCast]
  simp only [Bool.not_true, cond_false, Bool.true_and, Bool.and_self]
  refine Sat.out (Sat.bnd (R := fun r => match r with | .inl x => x.2.1 = (N : Int) ∧ x.2.2.2.1 = grid (dbF db) N | .inr _ => False) ?_ ?_)
  · refine Sat.count N (fun k s => s = ((N : Int), db, (N : Int), (k : Int), 0, (N : Int), [], gridK (dbF db) N k, ())) ?_ (Nat.zero_le _) (fuel_lt (by omega)) rfl
    rintro k s hk rfl
    have hlen := gridK_len (dbF db) N k
    have hkN := le64 h8 hk
    unfold bo_impl_DbGraph_5
    dsimp only
    refine Sat.ite (fun hlt => ?_) (fun hlt => ?_)
    · have hlt := of_decide_eq_true hlt
      have hkl : k < N := by omega
      refine Sat.bnd (e_drow_i hs hl he h8 hkl (N : Int) 0 (N : Int) [] _ (by omega)) ?_
      rintro (r | r) hr
      case inr => exact hr.elim
      obtain rfl := hr
      refine .some ⟨hkl, ?_⟩
      dsimp only
      rw [gridK_succ, w64 (by omega) (by omega)]
      rfl
    · have hlt := of_decide_eq_false hlt
      obtain rfl : k = N := by omega
      exact .some ⟨rfl, rfl⟩
  · rintro (r | r) hr
    case inr => exact hr.elim
    have hr : r.2.1 = (N : Int) ∧ r.2.2.2.1 = grid (dbF db) N := hr
    dsimp only
    rw [hr.1, hr.2, nI_eq]
    by_cases h14 : (grid (dbF db) N).length ≤ 14
    · refine Sat.no (decide_eq_false (by omega)) (.some ?_)
      rw [decide_eq_true h14]; rfl
    · refine Sat.gd (decide_eq_true (by omega)) (.some ?_)
      rw [decide_eq_false h14]; rfl
end Go.Proofs.Ythcckenjkicmgaa
end
section
namespace Go.Proofs.Ythcckenjkicmgaa
open Go.RowKit
set_option linter.unusedSimpArgs false
set_option linter.unusedVariables false
set_option maxRecDepth 100000

def clE (ls : List Lk) (N : Nat) (node : Int) (ends : List En) (n : Nat) : Ls := ⟨n, 1, if (n : Int) = node then ends else endsOf ls N n⟩
def clDb (ls : List Lk) (N : Nat) (node : Int) (ends : List En) (k : Nat) : List Ls := (List.range k).map (clE ls N node ends)
theorem clDb_len (ls : List Lk) (N : Nat) (node : Int) (ends : List En) (k : Nat) : (clDb ls N node ends k).length = k := by simp [clDb]
theorem clDb_succ (ls : List Lk) (N : Nat) (node : Int) (ends : List En) (k : Nat) : clDb ls N node ends (k + 1) = clDb ls N node ends k ++ [clE ls N node ends k] := by simp [clDb, List.range_succ]
theorem clDb_at {ls : List Lk} {N : Nat} {node : Int} {ends : List En} {k i : Nat} (h : i < k) : lsa (clDb ls N node ends k) i = clE ls N node ends i := by simp [lsa, clDb, h]
section
variable {N : Nat} {ls : List Lk} {node : Int} {ends : List En}
theorem en_map {l : List Int} {f : Int → En} {i : Nat} (h : i < l.length) : en (l.map f) i = f (iz l i) := by simp [en, iz, h]
theorem pw_iz {l : List Int} (h : l.Pairwise (· < ·)) {i j : Nat} (hij : i < j) (hj : j < l.length) : iz l i < iz l j := by
  have := List.pairwise_iff_getElem.1 h i j (by omega) hj hij
  simpa [iz, hj, show i < l.length by omega] using this
theorem endsOf_ok (g : GV N ls) {n : Nat} (hn : n < N) : LsV ⟨n, 1, endsOf ls N n⟩ := by
  have h8 := g.2.1
  refine ⟨by dsimp only; omega, by dsimp only; omega, by dsimp only; omega, by dsimp only; omega, fun i hi => ?_⟩
  dsimp only at hi ⊢
  have hi' : i < (nbS ls n N).length := by unfold endsOf at hi; simpa using hi
  have hm : iz (nbS ls n N) i ∈ nbS ls n N := List.mem_of_getElem? (iz_get hi')
  obtain ⟨j, hj, e, hs⟩ := nbS_mem.1 hm
  obtain ⟨c, hc⟩ := Option.isSome_iff_exists.1 hs
  have hcc := lc_cost g hc
  have hne := (lc_none_out g hs).2.2.2.2
  unfold EnAt endsOf
  rw [en_map hi', e, hc]
  refine ⟨by dsimp only; omega, by dsimp only; omega, by dsimp only; omega, hcc.1, hcc.2, fun h0 => ?_⟩
  rw [en_map (show i - 1 < (nbS ls n N).length by omega)]
  have := pw_iz (nbS_asc ls n N) (show i - 1 < i by omega) hi'
  dsimp only
  omega
theorem clDb_ok (g : GV N ls) (he : LsV ⟨node, 1, ends⟩) : DbV (clDb ls N node ends N) := by
  intro i hi
  rw [clDb_len] at hi
  rw [clDb_at hi]
  refine ⟨?_, fun h => ?_⟩
  · unfold clE
    by_cases e : (i : Int) = node
    · rw [if_pos e, e]; exact he
    · rw [if_neg e]; exact endsOf_ok g hi
  · rw [clDb_at (show i - 1 < N by omega)]
    unfold clE
    dsimp only
    omega
theorem ec_endsOf (g : GV N ls) {a b : Nat} (hb : b < N) : ec (endsOf ls N a) b = (lc ls a b).getD 0 := by
  unfold ec endsOf
  rw [List.find?_map]
  cases hc : lc ls a b with
  | none =>
    have : List.find? ((fun e : En => decide (e.n = (b : Int))) ∘ fun n => (⟨n, (lc ls a n).getD 0⟩ : En)) (nbS ls a N) = none := by
      rw [List.find?_eq_none]
      intro x hx
      simp only [Function.comp]
      intro e
      have e := of_decide_eq_true e
      obtain ⟨j, _, rfl, hs⟩ := nbS_mem.1 hx
      rw [e, hc] at hs
      cases hs
    rw [this]; rfl
  | some c =>
    have hm : (b : Int) ∈ nbS ls a N := nbS_mem.2 ⟨b, hb, rfl, by rw [hc]; rfl⟩
    obtain ⟨y, hy⟩ : ∃ y, List.find? ((fun e : En => decide (e.n = (b : Int))) ∘ fun n => (⟨n, (lc ls a n).getD 0⟩ : En)) (nbS ls a N) = some y := by
      rw [← Option.isSome_iff_exists, List.find?_isSome]
      exact ⟨b, hm, by simp⟩
    rw [hy]
    have := List.find?_some hy
    simp only [Function.comp] at this
    have := of_decide_eq_true this
    subst this
    simp [hc]
theorem fd_cl {a : Nat} (ha : a < N) : fd (clDb ls N node ends N) a = some (clE ls N node ends a) := by
  unfold fd
  have hl : a < (clDb ls N node ends N).length := by rw [clDb_len]; exact ha
  have := find_hit (p := fun l : Ls => decide (l.o = (a : Int))) (l := clDb ls N node ends N) (k := a) hl (by rw [← lsa_get hl, clDb_at ha]; simp [clE]) fun i hi hia => decide_eq_false (by rw [← lsa_get hi, clDb_at (by omega)]; unfold clE; dsimp only; omega)
  rw [this, ← lsa_get hl, clDb_at ha]
theorem ann_cl (g : GV N ls) {a b : Nat} (ha : a < N) (hb : b < N) : ann (clDb ls N node ends N) a b = if (a : Int) = node then ec ends b else (lc ls a b).getD 0 := by
  unfold ann
  rw [fd_cl ha]
  unfold clE
  dsimp only
  split
  · rfl
  · exact ec_endsOf g hb
def clF (ls : List Lk) (N : Nat) (node : Int) (ends : List En) : Nat → Nat → Option Int := dbF (clDb ls N node ends N)
theorem clF_sub (g : GV N ls) {a b : Nat} {c : Int} (hab : a < b) (hb : b < N) (h : clF ls N node ends a b = some c) : ∃ d, lc ls a b = some d ∧ d ≤ c := by
  unfold clF dbF at h
  rw [ann_cl g (by omega) hb, ann_cl g hb (by omega), lc_symm ls b a] at h
  generalize hX : (if (a : Int) = node then ec ends b else (lc ls a b).getD 0) = X at h
  generalize hY : (if (b : Int) = node then ec ends a else (lc ls a b).getD 0) = Y at h
  split at h
  · rename_i hp
    injection h with h
    cases e : lc ls a b with
    | none =>
      rw [e] at hX hY
      simp only [Option.getD_none] at hX hY
      exfalso
      split at hX <;> split at hY <;> omega
    | some d =>
      rw [e] at hX hY
      simp only [Option.getD_some] at hX hY
      refine ⟨d, rfl, ?_⟩
      split at hX <;> split at hY <;> omega
  · cases h
theorem ec_le {o : Int} {es : List En} {s : Int} (h : LsV ⟨o, s, es⟩) (b : Int) : 0 ≤ ec es b ∧ ec es b ≤ 20 := by
  unfold ec
  split
  · rename_i e he
    obtain ⟨i, hi, rfl⟩ := List.getElem_of_mem (List.mem_of_find?_eq_some he)
    have := h.2.2.2.2 i hi
    unfold EnAt at this
    rw [en_get hi] at this
    dsimp only at this
    omega
  · omega
theorem clF_cost (g : GV N ls) (he : LsV ⟨node, 1, ends⟩) {a b : Nat} {c : Int} (hab : a < b) (hb : b < N) (h : clF ls N node ends a b = some c) : 1 ≤ c ∧ c ≤ 20 := by
  obtain ⟨d, hd, hdc⟩ := clF_sub g hab hb h
  have hd2 := lc_cost g hd
  unfold clF dbF at h
  rw [ann_cl g (by omega) hb, ann_cl g hb (by omega), lc_symm ls b a, hd] at h
  have q1 := ec_le he b
  have q2 := ec_le he a
  simp only [Option.getD_some] at h
  generalize hX : (if (a : Int) = node then ec ends b else d) = X at h
  generalize hY : (if (b : Int) = node then ec ends a else d) = Y at h
  split at h
  · injection h with h
    split at hX <;> split at hY <;> omega
  · cases h
theorem gridR_le {f g : Nat → Nat → Option Int} {a : Nat} : ∀ {j : Nat}, (∀ b, a < b → b ≤ a + j → (f a b).isSome = true → (g a b).isSome = true) → (gridR f a j).length ≤ (gridR g a j).length
  | 0, _ => by simp [gridR]
  | j + 1, h => by
    rw [gridR_succ, gridR_succ, List.length_append, List.length_append]
    have h1 := gridR_le (j := j) fun b h1 h2 => h b h1 (by omega)
    have h2 := h (a + 1 + j) (by omega) (by omega)
    have : (cell f a (a + 1 + j)).length ≤ (cell g a (a + 1 + j)).length := by
      unfold cell
      cases e : f a (a + 1 + j) with
      | none => simp
      | some c =>
        rw [e] at h2
        obtain ⟨d, hd⟩ := Option.isSome_iff_exists.1 (h2 rfl)
        simp [hd]
    omega
theorem gridK_le {f g : Nat → Nat → Option Int} : ∀ {k : Nat}, (∀ a b, a < k → a < b → b < N → (f a b).isSome = true → (g a b).isSome = true) → (gridK f N k).length ≤ (gridK g N k).length
  | 0, _ => by simp [gridK]
  | k + 1, h => by
    rw [gridK_succ, gridK_succ, List.length_append, List.length_append]
    have h1 := gridK_le (k := k) fun a b ha => h a b (by omega)
    have h2 := gridR_le (f := f) (g := g) (a := k) (j := N - 1 - k) fun b hb1 hb2 => h k b (by omega) hb1 (by omega)
    omega
theorem clF_len (g : GV N ls) : (grid (clF ls N node ends) N).length ≤ 14 := by
  have h := gridK_le (N := N) (f := clF ls N node ends) (g := fun a b => lc ls a b) (k := N) fun a b ha hab hb h => by
    obtain ⟨c, hc⟩ := Option.isSome_iff_exists.1 h
    obtain ⟨d, hd, _⟩ := clF_sub g hab hb hc
    rw [hd]; rfl
  have e : (grid (fun a b => lc ls a b) N).length ≤ 14 := by rw [g.grid]; exact g.2.2.1
  exact Nat.le_trans h e
theorem clF_gv (g : GV N ls) (he : LsV ⟨node, 1, ends⟩) : GV N (grid (clF ls N node ends) N) := grid_gv (by have := g.1; omega) (by have := g.2.1; omega) (fun a b c h1 h2 h3 => clF_cost g he h1 h2 h3) (clF_len g)
end
def clOk (n : Int) (ls : List Lk) (node : Int) (ends : List En) : Bool := gv n ls && inB node 0 (n - 1) && lsv node 1 ends
def clR (n : Int) (ls : List Lk) (node : Int) (ends : List En) : Int × Bool × List Lk := if clOk n ls node ends then (n, true, grid (clF ls n.toNat node ends) n.toNat) else (0, false, [])
theorem dfl_set {db : List Ls} {i : Nat} {l : Ls} {j : Nat} (hi : i < db.length) : lsa (db.set i l) j = if j = i then l else lsa db j := by
  unfold lsa
  simp only [List.getD, List.getElem?_set]
  by_cases h : i = j
  · subst h; simp [hi]
  · rw [if_neg h, if_neg (fun e => h e.symm)]
section
variable {ls : List Lk} {ends : List En}
theorem e_ClaimGraph (n node : Int) (hl : Fits ls) (he : Fits ends) : sh_impl_ClaimGraph (n, ls, node, ends, ()) = some ((clR n ls node ends).1, (clR n ls node ends).2.1, (clR n ls node ends).2.2, ()) := by
  unfold sh_impl_ClaimGraph clR clOk
  simp only [e_hasNode n node ls hl, e_LsaValid node 1 ends he, Option.bind_some]
  cases h1 : gv n ls with
  | false => rfl
  | true =>
  cases h2 : inB node 0 (n - 1) with
  | false => rfl
  | true =>
  cases h3 : lsv node 1 ends with
  | false => rfl
  | true =>
  have hV : LsV ⟨node, 1, ends⟩ := of_decide_eq_true h3
  obtain ⟨N, rfl, g⟩ := gv_nat h1
  have h8 := g.2.1
  have h2 := inB_t h2
  obtain ⟨K, rfl⟩ := Int.eq_ofNat_of_zero_le h2.1
  simp only [Bool.and_self, Bool.not_true, cond_false, if_true, Int.toNat_natCast]
  refine Sat.out (Sat.bnd (R := fun r => match r with | .inl x => x = ((K : Int), ends, (N : Int), ls, 0, [], (List.range N).map (fun n : Nat => (⟨n, 1, endsOf ls N n⟩ : Ls)), ()) | .inr _ => False) ?_ ?_)
  · refine Sat.count N (fun k s => s = ((K : Int), ends, (N : Int), (k : Int), (N : Int), ls, 0, [], (List.range k).map (fun n : Nat => (⟨n, 1, endsOf ls N n⟩ : Ls)), ())) ?_ (Nat.zero_le _) (fuel_lt (by omega)) rfl
    rintro k s hk rfl
    simp (disch := omega) only [bo_impl_ClaimGraph_5, e_lsaOf g, Option.bind_some, w64, List.length_singleton, List.length_map, List.length_range]
    repeat' (first
      | refine Sat.some ?_
      | (refine Sat.gd (decide_eq_true (by omega)) ?_)
      | (refine Sat.gd (by first | exact inR_t (by omega) (by omega) | (simp (disch := omega) only [w64]; exact inR_t (by omega) (by omega))) ?_)
      | (refine Sat.ite (fun h => ?_) (fun h => ?_) <;> try simp only [decide_eq_true_eq, decide_eq_false_iff_not, Bool.not_eq_true', Bool.not_eq_false', inB_i, inB_j, Bool.and_eq_true, Bool.or_eq_true, Bool.and_eq_false_iff, Bool.or_eq_false_iff, El] at h))
    all_goals try dsimp only
    · exact ⟨by omega, by rw [List.range_succ, List.map_append]; rfl⟩
    · obtain rfl : k = N := by omega
      rfl
  · rintro (r | r) hr
    case inr => exact hr.elim
    obtain rfl := hr
    dsimp only
    have hlen : ((List.range N).map (fun n : Nat => (⟨n, 1, endsOf ls N n⟩ : Ls))).length = N := by simp
    have hat : ∀ i, i < N → lsa ((List.range N).map (fun n : Nat => (⟨n, 1, endsOf ls N n⟩ : Ls))) i = ⟨i, 1, endsOf ls N i⟩ := fun i hi => by simp [lsa, hi]
    refine Sat.gd (inR_t (by omega) (by rw [hlen]; omega)) ?_
    rw [toN, at_ls, hat K (by omega)]
    have e : ((List.range N).map (fun n : Nat => (⟨n, 1, endsOf ls N n⟩ : Ls))).set K ⟨(K : Int), 1, ends⟩ = clDb ls N K ends N := by
      refine List.ext_getElem (by simp [clDb]) fun i h1 h2 => ?_
      rw [← lsa_get h1, ← lsa_get h2, dfl_set (by rw [hlen]; omega), clDb_at (by simpa using h1)]
      unfold clE
      by_cases hi : i = K
      · subst hi; simp
      · rw [if_neg hi, if_neg (by omega), hat i (by simpa using h1)]
    rw [e]
    have hd : DbV (clDb ls N K ends N) := clDb_ok g hV
    have hf : ∀ l ∈ clDb ls N K ends N, Fits l.e := fun l hl => by
      obtain ⟨i, hi, rfl⟩ := List.mem_map.1 hl
      unfold clE
      dsimp only
      split
      · exact he
      · have := endsOf_len (ls := ls) (N := N) (i : Int)
        unfold Fits; omega
    rw [e_DbGraph _ _ (by rw [clDb_len]; omega) hf]
    have ho : dbOk (N : Int) (clDb ls N K ends N) = true := by
      unfold dbOk
      rw [inB_mk (show 1 ≤ (N : Int) ∧ (N : Int) ≤ 8 by have := g.1; omega), show dbv (clDb ls N K ends N) = true from decide_eq_true hd, Int.toNat_natCast]
      exact decide_eq_true (clF_len g)
    rw [if_pos ho]
    exact .some rfl
theorem e_l32Db {N : Nat} (g : GV N ls) (node : Int) (he : ends.length ≤ 2000000) : sh_spec_l32Db ((N : Int), ls, node, ends, ()) = some (clDb ls N node ends N, ()) := by
  have h8 := g.2.1
  unfold sh_spec_l32Db
  refine Sat.out (Sat.bnd (R := fun r => match r with | .inl x => x.1 = clDb ls N node ends N | .inr _ => False) ?_ ?_)
  · refine Sat.count N (fun k s => s = (node, ends, (k : Int), (N : Int), ls, clDb ls N node ends k, ())) ?_ (Nat.zero_le _) (fuel_lt (by omega)) rfl
    rintro k s hk rfl
    have hcl := clDb_len ls N node ends k
    simp (disch := omega) only [bo_spec_l32Db_3, e_l11Of g, Option.bind_some, w64, List.length_singleton, List.length_nil, List.nil_append, Nat.zero_add]
    repeat' (first
      | refine Sat.some ?_
      | (refine Sat.gd (decide_eq_true (by omega)) ?_)
      | (refine Sat.gd (by first | exact inR_t (by omega) (by omega) | (simp (disch := omega) only [w64]; exact inR_t (by omega) (by omega))) ?_)
      | (refine Sat.ite (fun h => ?_) (fun h => ?_) <;> try simp only [decide_eq_true_eq, decide_eq_false_iff_not, Bool.not_eq_true', Bool.not_eq_false', inB_i, inB_j, Bool.and_eq_true, Bool.or_eq_true, Bool.and_eq_false_iff, Bool.or_eq_false_iff, El] at h))
    all_goals try dsimp only
    all_goals first
      | (refine ⟨by omega, ?_⟩
         rw [clDb_succ]
         unfold clE
         first
           | rw [if_pos (by assumption)]; rfl
           | rw [if_neg (by assumption)]; rfl)
      | (obtain rfl : k = N := by omega
         rfl)
  · rintro (r | r) hr
    case inr => exact hr.elim
    have hr : r.1 = clDb ls N node ends N := hr
    exact .some (by rw [hr])
theorem clDb_fits {N : Nat} (node : Int) (hfe : Fits ends) (h8 : (N : Int) ≤ 8) : ∀ l ∈ clDb ls N node ends N, Fits l.e := fun l hl => by
  obtain ⟨i, hi, rfl⟩ := List.mem_map.1 hl
  unfold clE
  dsimp only
  split
  · exact hfe
  · have := endsOf_len (ls := ls) (N := N) (i : Int)
    unfold Fits; omega
theorem e_sClaimGraph (n node : Int) (hl : Fits ls) (he : ends.length ≤ 2000000) : sh_spec_ClaimGraph (n, ls, node, ends, ()) = some ((clR n ls node ends).1, (clR n ls node ends).2.1, (clR n ls node ends).2.2, ()) := by
  have hfe : Fits ends := by unfold Fits; omega
  unfold sh_spec_ClaimGraph sh_spec_l32Ok clR clOk
  simp only [e_sGraphValid n ls hl, e_sLsaValid node 1 ends hfe, Option.bind_some]
  cases h1 : gv n ls with
  | false => rfl
  | true =>
  obtain ⟨N, rfl, g⟩ := gv_nat h1
  have h8 := g.2.1
  simp only [e_l1Node (N : Int) node ls (by omega) (by omega), Option.bind_some, cond_true]
  cases h2 : inB node 0 ((N : Int) - 1) with
  | false => rfl
  | true =>
  cases h3 : lsv node 1 ends with
  | false => rfl
  | true =>
  simp only [Option.bind_some, cond_true, Bool.and_self, Bool.not_true, cond_false, if_true, Int.toNat_natCast]
  have e := e_l32Db g node he
  have hf := clDb_fits (ls := ls) (ends := ends) node hfe h8
  rw [e]
  dsimp only [Option.bind_some]
  rw [e_l11Graph (show Fits (clDb ls N node ends N) by unfold Fits; rw [clDb_len]; omega) hf (by omega)]
  rfl
end
end Go.Proofs.Ythcckenjkicmgaa
end
