/- Several texts in one.  Graphs as plain data: what is valid. No program is named here. Distances as a plain function: Go's own rounds. No program is named here. Plain laws of distances: from itself 0, and from no other. No program is named here. Distances are least costs of walks: the theorem of Bellman and Ford, in plain words. No program is named here. Plain rules for what functions compute: a computation answers, and its answer satisfies something. No program is named here. Plain laws: border nodes, summaries, routes, links between two nodes, neighbours, joined areas. No program is named here. Plain laws: valid graphs are sorted lists; a graph told pair by pair. No program is named here. -/
import Derived.Test.YtjdebphkndfolaaKa
import Derived.Test.YtjdebphkndfolaaKb

/- Graphs as plain data: what is valid. No program is named here. -/
namespace Go.Proofs.Ytjdebphkndfolaa
open Go.RowKit

/-- The link at i is in order. -/
def LkAt (n : Int) (ls : List Lk) (i : Nat) : Prop :=
  0 ≤ (lk ls i).a ∧ (lk ls i).a < (lk ls i).b ∧ (lk ls i).b < n ∧ 1 ≤ (lk ls i).c ∧ (lk ls i).c ≤ 20 ∧
    (0 < i → (lk ls (i - 1)).a < (lk ls i).a ∨ (lk ls (i - 1)).a = (lk ls i).a ∧ (lk ls (i - 1)).b < (lk ls i).b)
instance (n : Int) (ls : List Lk) (i : Nat) : Decidable (LkAt n ls i) := by unfold LkAt; infer_instance
def GV (n : Int) (ls : List Lk) : Prop := 1 ≤ n ∧ n ≤ 8 ∧ ls.length ≤ 14 ∧ ∀ i, i < ls.length → LkAt n ls i
instance (n : Int) (ls : List Lk) : Decidable (GV n ls) := by unfold GV; infer_instance
def gv (n : Int) (ls : List Lk) : Bool := decide (GV n ls)
theorem gv_t {n : Int} {ls : List Lk} (h : gv n ls = true) : GV n ls := of_decide_eq_true h
theorem gv_f {n : Int} {ls : List Lk} (h : ¬ GV n ls) : gv n ls = false := decide_eq_false h
theorem gv_at {n : Int} {ls : List Lk} {k : Nat} (hk : k < ls.length) (h : 1 ≤ n → n ≤ 8 → ¬ LkAt n ls k) : gv n ls = false :=
  gv_f fun g => h g.1 g.2.1 (g.2.2.2 k hk)
theorem wrap_sub1 {n : Int} (h : 1 ≤ n) (h' : n ≤ 8) : wrap64 (n - 1) = n - 1 := IntWalk.wrap64_in _ (by omega)
theorem gv_end {n : Int} {ls : List Lk} {k : Nat} (hl : ls.length = k) (h : 1 ≤ n → n ≤ 8 → ∀ i, i < k → LkAt n ls i) : gv n ls = (inB n 1 8 && decide ((k : Int) ≤ 14)) := by
  subst hl
  unfold gv GV inB
  by_cases h1 : 1 ≤ n ∧ n ≤ 8
  · by_cases h2 : ls.length ≤ 14
    · have h3 := h h1.1 h1.2
      have : ((ls.length : Nat) : Int) ≤ 14 := by omega
      simp [h1, h2, this]
      exact fun i hi => h3 i hi
    · have : ¬ ((ls.length : Nat) : Int) ≤ 14 := by omega
      simp [h1, h2, this]
  · have : ¬ (1 ≤ n ∧ n ≤ 8 ∧ ls.length ≤ 14 ∧ ∀ i, i < ls.length → LkAt n ls i) := fun g => h1 ⟨g.1, g.2.1⟩
    simp [this, h1]
end Go.Proofs.Ytjdebphkndfolaa

/- Distances as a plain function: Go's own rounds. No program is named here. -/
namespace Go.Proofs.Ytjdebphkndfolaa
open Go.RowKit

def relaxB (d : List Int) (x y : Nat) (c : Int) : Bool := decide (0 ≤ iz d x) && (decide (iz d y < 0) || decide (iz d x + c < iz d y))
def relax (d : List Int) (x y : Nat) (c : Int) : List Int := if relaxB d x y c then d.set y (iz d x + c) else d
def relaxL (d : List Int) (l : Lk) : List Int := relax (relax d l.a.toNat l.b.toNat l.c) l.b.toNat l.a.toNat l.c
def sweep (ls : List Lk) (d : List Int) : List Int := ls.foldl relaxL d
def dinit (n f : Nat) : List Int := (List.replicate n (-1)).set f 0
def rounds (ls : List Lk) (d : List Int) : Nat → List Int
  | 0 => d
  | k + 1 => sweep ls (rounds ls d k)
/-- Behind r rounds and i links of the next. -/
def dst (n : Nat) (ls : List Lk) (f r i : Nat) : List Int := (ls.take i).foldl relaxL (rounds ls (dinit n f) r)
def dists (n : Nat) (ls : List Lk) (f : Nat) : List Int := rounds ls (dinit n f) n

theorem iz_set (d : List Int) (y j : Nat) (v : Int) (hy : y < d.length) : iz (d.set y v) j = if j = y then v else iz d j := by
  unfold iz
  simp only [List.getD, List.getElem?_set]
  by_cases h : y = j
  · subst h; simp [hy]
  · have h' : ¬ j = y := fun e => h e.symm
    simp [h, h']
theorem ints_set (d : List Int) (y : Nat) (v : Int) : (ints d).toArray.setIfInBounds y (.int .i64 v) = (ints (d.set y v)).toArray := by
  simp [ints, List.map_set]
theorem relax_len (d : List Int) (x y : Nat) (c : Int) : (relax d x y c).length = d.length := by unfold relax; split <;> simp
theorem relaxL_len (d : List Int) (l : Lk) : (relaxL d l).length = d.length := by unfold relaxL; rw [relax_len, relax_len]
theorem fold_len (ls : List Lk) (d : List Int) : (ls.foldl relaxL d).length = d.length := by
  induction ls generalizing d with
  | nil => rfl
  | cons l r ih => rw [List.foldl_cons, ih, relaxL_len]
theorem rounds_len (ls : List Lk) (d : List Int) (k : Nat) : (rounds ls d k).length = d.length := by
  induction k with
  | zero => rfl
  | succ k ih => rw [rounds, sweep, fold_len, ih]
theorem dinit_len (n f : Nat) : (dinit n f).length = n := by simp [dinit]
theorem dst_len (n : Nat) (ls : List Lk) (f r i : Nat) : (dst n ls f r i).length = n := by rw [dst, fold_len, rounds_len, dinit_len]
theorem dists_len (n : Nat) (ls : List Lk) (f : Nat) : (dists n ls f).length = n := by rw [dists, rounds_len, dinit_len]
theorem dst_succ (n : Nat) (ls : List Lk) (f r i : Nat) (h : i < ls.length) : dst n ls f r (i + 1) = relaxL (dst n ls f r i) (lk ls i) := by
  unfold dst
  rw [List.take_add_one, lk_get h, List.foldl_append]
  rfl
theorem dst_end (n : Nat) (ls : List Lk) (f r : Nat) : dst n ls f r ls.length = dst n ls f (r + 1) 0 := by
  unfold dst
  rw [List.take_length]
  rfl
theorem dst_all (n : Nat) (ls : List Lk) (f : Nat) : dst n ls f n 0 = dists n ls f := rfl

/-- The costs are small. -/
def Cheap (ls : List Lk) : Prop := ∀ l ∈ ls, 1 ≤ l.c ∧ l.c ≤ 20
def Bd (d : List Int) (m : Int) : Prop := ∀ j, -1 ≤ iz d j ∧ iz d j ≤ m
theorem relax_bd {d : List Int} {m : Int} (h : Bd d m) (x y : Nat) (c : Int) (hc : 1 ≤ c) (hc' : c ≤ 20) : Bd (relax d x y c) (m + 20) := by
  intro j
  unfold relax
  have hx := h x
  have hj := h j
  split
  · rename_i hb
    rcases Nat.lt_or_ge y d.length with hy | hy
    · rw [iz_set _ _ _ _ hy]
      unfold relaxB at hb
      simp only [Bool.and_eq_true, decide_eq_true_eq] at hb
      split
      · omega
      · omega
    · rw [List.set_eq_of_length_le hy]; omega
  · omega
theorem relaxL_bd {d : List Int} {m : Int} (h : Bd d m) (l : Lk) (hc : 1 ≤ l.c ∧ l.c ≤ 20) : Bd (relaxL d l) (m + 40) := by
  have := relax_bd (relax_bd h l.a.toNat l.b.toNat l.c hc.1 hc.2) l.b.toNat l.a.toNat l.c hc.1 hc.2
  intro j
  have := this j
  unfold relaxL
  omega
theorem fold_bd (ls : List Lk) {d : List Int} {m : Int} (h : Bd d m) (hc : Cheap ls) : Bd (ls.foldl relaxL d) (m + 40 * ls.length) := by
  induction ls generalizing d m with
  | nil => simpa using h
  | cons l r ih =>
    rw [List.foldl_cons]
    have := ih (relaxL_bd h l (hc l (List.mem_cons_self ..))) (fun l' h' => hc l' (List.mem_cons_of_mem _ h'))
    intro j
    have := this j
    simp only [List.length_cons]
    omega
theorem rounds_bd (ls : List Lk) {d : List Int} {m : Int} (h : Bd d m) (hc : Cheap ls) (k : Nat) (hl : ls.length ≤ 14) : Bd (rounds ls d k) (m + 560 * k) := by
  induction k with
  | zero => simpa [rounds] using h
  | succ k ih =>
    have := fold_bd ls ih hc
    intro j
    have := this j
    simp only [rounds, sweep]
    omega
theorem dinit_bd (n f : Nat) : Bd (dinit n f) 0 := by
  intro j
  unfold dinit
  have hr : ∀ j, iz (List.replicate n (-1)) j = -1 ∨ iz (List.replicate n (-1)) j = 0 := by
    intro j
    unfold iz
    simp only [List.getD, List.getElem?_replicate]
    split <;> simp
  rcases Nat.lt_or_ge f n with hf | hf
  · rw [iz_set _ _ _ _ (by simpa using hf)]
    have := hr j
    split <;> omega
  · rw [List.set_eq_of_length_le (by simpa using hf)]
    have := hr j
    omega
theorem dst_bd (n : Nat) (ls : List Lk) (f r i : Nat) (hc : Cheap ls) (hl : ls.length ≤ 14) (hr : r ≤ 8) : Bd (dst n ls f r i) 5100 := by
  have h1 := rounds_bd ls (dinit_bd n f) hc r hl
  have h2 := fold_bd (ls.take i) h1 (fun l h => hc l (List.mem_of_mem_take h))
  have h3 : (ls.take i).length ≤ 14 := by rw [List.length_take]; omega
  intro j
  have := h2 j
  unfold dst
  omega
theorem GV.cheap {n : Int} {ls : List Lk} (h : GV n ls) : Cheap ls := by
  intro l hl
  obtain ⟨i, hi, rfl⟩ := List.getElem_of_mem hl
  have := h.2.2.2 i hi
  rw [LkAt, lk_of (List.getElem?_eq_getElem hi)] at this
  omega
theorem GV.at_ {n : Int} {ls : List Lk} (h : GV n ls) {i : Nat} (hi : i < ls.length) : ∃ x y : Nat, (lk ls i).a = x ∧ (lk ls i).b = y ∧ x < y ∧ (y : Int) < n ∧ 1 ≤ (lk ls i).c ∧ (lk ls i).c ≤ 20 := by
  have := h.2.2.2 i hi
  unfold LkAt at this
  exact ⟨(lk ls i).a.toNat, (lk ls i).b.toNat, by omega, by omega, by omega, by omega, by omega, by omega⟩
end Go.Proofs.Ytjdebphkndfolaa

/- Plain laws of distances: from itself 0, and from no other. No program is named here. -/
namespace Go.Proofs.Ytjdebphkndfolaa
open Go.RowKit

structure Src (d : List Int) (f : Nat) : Prop where
  zero : iz d f = 0
  low : ∀ j, -1 ≤ iz d j
  only : ∀ j, j < d.length → iz d j = 0 → j = f
theorem Src.relax {d : List Int} {f : Nat} (h : Src d f) (x y : Nat) (c : Int) (hc : 1 ≤ c) : Src (relax d x y c) f := by
  unfold Go.Proofs.Ytjdebphkndfolaa.relax
  split
  · rename_i hb
    unfold relaxB at hb
    simp only [Bool.and_eq_true, Bool.or_eq_true, decide_eq_true_eq] at hb
    rcases Nat.lt_or_ge y d.length with hy | hy
    · have hyf : y ≠ f := by rintro rfl; have := h.zero; omega
      refine ⟨?_, fun j => ?_, fun j hj hz => ?_⟩
      · rw [iz_set _ _ _ _ hy, if_neg (fun e => hyf e.symm)]; exact h.zero
      · rw [iz_set _ _ _ _ hy]; have := h.low j; split <;> omega
      · rw [List.length_set] at hj
        rw [iz_set _ _ _ _ hy] at hz
        split at hz
        · omega
        · exact h.only j hj hz
    · rw [List.set_eq_of_length_le hy]; exact h
  · exact h
theorem Src.fold {f : Nat} (ls : List Lk) {d : List Int} (h : Src d f) (hc : Cheap ls) : Src (ls.foldl relaxL d) f := by
  induction ls generalizing d with
  | nil => exact h
  | cons l r ih =>
    have h1 := (hc l (List.mem_cons_self ..)).1
    exact ih ((h.relax _ _ _ h1).relax _ _ _ h1) (fun l' h' => hc l' (List.mem_cons_of_mem _ h'))
theorem Src.rounds {f : Nat} (ls : List Lk) {d : List Int} (h : Src d f) (hc : Cheap ls) (k : Nat) : Src (rounds ls d k) f := by
  induction k with
  | zero => exact h
  | succ k ih => exact ih.fold ls hc
theorem Src.init {n f : Nat} (hf : f < n) : Src (dinit n f) f := by
  have hr : ∀ j, j < n → iz (List.replicate n (-1)) j = -1 := by
    intro j hj
    simp [iz, List.getD, hj]
  refine ⟨?_, fun j => (dinit_bd n f j).1, fun j hj hz => ?_⟩
  · unfold dinit; rw [iz_set _ _ _ _ (by simpa using hf), if_pos rfl]
  · rw [dinit_len] at hj
    unfold dinit at hz
    rw [iz_set _ _ _ _ (by simpa using hf)] at hz
    split at hz
    · assumption
    · rw [hr j hj] at hz; omega
theorem dists_src {n f : Nat} {ls : List Lk} (hc : Cheap ls) (hf : f < n) : Src (dists n ls f) f := (Src.init hf).rounds ls hc n
theorem dists_self {n f : Nat} {ls : List Lk} (hc : Cheap ls) (hf : f < n) : iz (dists n ls f) f = 0 := (dists_src hc hf).zero
theorem dists_only {n f j : Nat} {ls : List Lk} (hc : Cheap ls) (hf : f < n) (hj : j < n) (h : iz (dists n ls f) j = 0) : j = f := (dists_src hc hf).only j (by rw [dists_len]; exact hj) h
theorem dists_low {n f : Nat} {ls : List Lk} (hc : Cheap ls) (hf : f < n) (j : Nat) : -1 ≤ iz (dists n ls f) j := (dists_src hc hf).low j
end Go.Proofs.Ytjdebphkndfolaa

/- Distances are least costs of walks: the theorem of Bellman and Ford, in plain words. No program is named here. -/
namespace Go.Proofs.Ytjdebphkndfolaa
open Go.RowKit

/-- Two nodes are the ends of a link of that cost. -/
def Adj (ls : List Lk) (x y : Nat) (c : Int) : Prop := ∃ l, l ∈ ls ∧ l.c = c ∧ (l.a = x ∧ l.b = y ∨ l.a = y ∧ l.b = x)
theorem Adj.symm {ls : List Lk} {x y : Nat} {c : Int} (h : Adj ls x y c) : Adj ls y x c := by
  obtain ⟨l, h1, h2, h3⟩ := h
  exact ⟨l, h1, h2, h3.symm⟩
/-- A walk of k links from u to v, of cost s. -/
inductive Wk (ls : List Lk) (u : Nat) : Nat → Nat → Int → Prop
  | nil : Wk ls u 0 u 0
  | step {k x y : Nat} {s c : Int} : Wk ls u k x s → Adj ls x y c → Wk ls u (k + 1) y (s + c)
theorem Wk.append {ls : List Lk} {u v : Nat} {k : Nat} {s : Int} (h : Wk ls u k v s) {m w : Nat} {t : Int} (h' : Wk ls v m w t) : Wk ls u (k + m) w (s + t) := by
  induction h' with
  | nil => simpa using h
  | step _ ha ih => rw [← Int.add_assoc]; exact ih.step ha
theorem Wk.one {ls : List Lk} {x y : Nat} {c : Int} (h : Adj ls x y c) : Wk ls x 1 y c := by simpa using Wk.nil.step h
theorem Wk.symm {ls : List Lk} {u v k : Nat} {s : Int} (h : Wk ls u k v s) : Wk ls v k u s := by
  induction h with
  | nil => exact .nil
  | step _ ha ih =>
    have := (Wk.one ha.symm).append ih
    rwa [Nat.add_comm, Int.add_comm] at this
theorem Wk.mono {ls ls' : List Lk} (hs : ∀ x y c, Adj ls x y c → Adj ls' x y c) {u v k : Nat} {s : Int} (h : Wk ls u k v s) : Wk ls' u k v s := by
  induction h with
  | nil => exact .nil
  | step _ ha ih => exact ih.step (hs _ _ _ ha)
theorem Wk.cost {ls : List Lk} (hc : Cheap ls) {u v k : Nat} {s : Int} (h : Wk ls u k v s) : (k : Int) ≤ s := by
  induction h with
  | nil => simp
  | step _ ha ih =>
    obtain ⟨l, h1, h2, _⟩ := ha
    have := (hc l h1).1
    omega
/-- A walk as a row of nodes and of sums. -/
theorem Wk.path {ls : List Lk} {u v k : Nat} {s : Int} (h : Wk ls u k v s) : ∃ (g : Nat → Nat) (t : Nat → Int), g 0 = u ∧ t 0 = 0 ∧ g k = v ∧ t k = s ∧ ∀ i, i < k → Adj ls (g i) (g (i + 1)) (t (i + 1) - t i) := by
  induction h with
  | nil => exact ⟨fun _ => u, fun _ => 0, rfl, rfl, rfl, rfl, fun i hi => by omega⟩
  | @step k x y s c _ ha ih =>
    obtain ⟨g, t, g0, t0, gk, tk, hs⟩ := ih
    refine ⟨fun i => if i ≤ k then g i else y, fun i => if i ≤ k then t i else s + c, by simp [g0], by simp [t0], by simp; intro h; omega, by simp; intro h; omega, fun i hi => ?_⟩
    by_cases e : i < k
    · have h1 : i ≤ k := by omega
      have h2 : i + 1 ≤ k := by omega
      simpa [h1, h2] using hs i e
    · obtain rfl : i = k := by omega
      have h2 : ¬ i + 1 ≤ i := by omega
      simp only [Nat.le_refl, if_true, h2, if_false, gk, tk]
      rwa [show s + c - s = c by omega]
theorem Wk.between {ls : List Lk} {g : Nat → Nat} {t : Nat → Int} {i : Nat} : ∀ m : Nat, (∀ j, i ≤ j → j < i + m → Adj ls (g j) (g (j + 1)) (t (j + 1) - t j)) → Wk ls (g i) m (g (i + m)) (t (i + m) - t i)
  | 0, _ => by simpa using Wk.nil
  | m + 1, h => by
    have := (Wk.between m (fun j h1 h2 => h j h1 (by omega))).step (h (i + m) (by omega) (by omega))
    rwa [show t (i + m) - t i + (t (i + m + 1) - t (i + m)) = t (i + (m + 1)) - t i by rw [← Nat.add_assoc]; omega] at this
/-- Of more nodes than there are two are the same. -/
theorem pigeon : ∀ (n : Nat) (g : Nat → Nat), (∀ i, i ≤ n → g i < n) → ∃ i j, i < j ∧ j ≤ n ∧ g i = g j
  | 0, g, h => by have := h 0 (Nat.le_refl _); omega
  | n + 1, g, h => by
    by_cases e : ∃ i, i ≤ n ∧ g i = g (n + 1)
    · obtain ⟨i, hi, he⟩ := e
      exact ⟨i, n + 1, by omega, Nat.le_refl _, he⟩
    · have hne : ∀ i, i ≤ n → g i ≠ g (n + 1) := fun i hi he => e ⟨i, hi, he⟩
      obtain ⟨i, j, h1, h2, h3⟩ := pigeon n (fun i => if g (n + 1) < g i then g i - 1 else g i) (fun i hi => by
        have a := h i (by omega)
        have b := h (n + 1) (Nat.le_refl _)
        have c := hne i hi
        show (if g (n + 1) < g i then g i - 1 else g i) < n
        split <;> omega)
      refine ⟨i, j, h1, by omega, ?_⟩
      have a := hne i (by omega)
      have b := hne j h2
      have h3 : (if g (n + 1) < g i then g i - 1 else g i) = (if g (n + 1) < g j then g j - 1 else g j) := h3
      split at h3 <;> split at h3 <;> omega
/-- All ends are nodes. -/
def Ends (n : Nat) (ls : List Lk) : Prop := ∀ l ∈ ls, ∃ x y : Nat, l.a = x ∧ l.b = y ∧ x < n ∧ y < n
theorem GV.ends {n : Nat} {ls : List Lk} (h : GV n ls) : Ends n ls := by
  intro l hl
  obtain ⟨i, hi, rfl⟩ := List.getElem_of_mem hl
  have := h.at_ hi
  rw [lk_of (List.getElem?_eq_getElem hi)] at this
  obtain ⟨x, y, h1, h2, h3, h4, _⟩ := this
  exact ⟨x, y, h1, h2, by omega, by omega⟩
theorem Adj.lt {n : Nat} {ls : List Lk} (he : Ends n ls) {x y : Nat} {c : Int} (h : Adj ls x y c) : x < n ∧ y < n := by
  obtain ⟨l, h1, _, h3⟩ := h
  obtain ⟨a, b, ha, hb, ha', hb'⟩ := he l h1
  rcases h3 with ⟨e1, e2⟩ | ⟨e1, e2⟩ <;> omega
/-- A walk can be made short. -/
theorem Wk.short {n : Nat} {ls : List Lk} (he : Ends n ls) (hc : Cheap ls) : ∀ (k : Nat) {u v : Nat} {s : Int}, Wk ls u k v s → u < n → ∃ k' s', k' < n ∧ s' ≤ s ∧ Wk ls u k' v s' := by
  intro k
  induction k using Nat.strongRecOn with
  | ind k ih =>
    intro u v s h hu
    by_cases hk : k < n
    · exact ⟨k, s, hk, Int.le_refl _, h⟩
    · obtain ⟨g, t, g0, t0, gk, tk, hs⟩ := h.path
      obtain ⟨i, j, h1, h2, h3⟩ := pigeon n g (fun i hi => by
        rcases Nat.eq_zero_or_pos i with e | e
        · rw [e, g0]; exact hu
        · have := (hs (i - 1) (by omega)).lt he
          rw [show i - 1 + 1 = i by omega] at this
          exact this.2)
      have w1 := Wk.between (ls := ls) (g := g) (t := t) (i := 0) i (fun m _ hm => hs m (by omega))
      have w2 := Wk.between (ls := ls) (g := g) (t := t) (i := i) (j - i) (fun m _ hm => hs m (by omega))
      have w3 := Wk.between (ls := ls) (g := g) (t := t) (i := j) (k - j) (fun m _ hm => hs m (by omega))
      rw [show i + (j - i) = j by omega] at w2
      rw [show j + (k - j) = k by omega, gk, tk, ← h3] at w3
      rw [Nat.zero_add, g0, t0] at w1
      have c2 := w2.cost hc
      obtain ⟨k', s', a, b, c⟩ := ih (i + (k - j)) (by omega) (w1.append w3) hu
      exact ⟨k', s', a, by omega, c⟩

/-! ### What the rounds do -/
def Snd (ls : List Lk) (f : Nat) (d : List Int) : Prop := ∀ v, v < d.length → 0 ≤ iz d v → ∃ k, Wk ls f k v (iz d v)
theorem Snd.relax {ls : List Lk} {f : Nat} {d : List Int} (h : Snd ls f d) {x y : Nat} {c : Int} (hx : x < d.length) (ha : Adj ls x y c) : Snd ls f (relax d x y c) := by
  unfold Go.Proofs.Ytjdebphkndfolaa.relax
  split
  · rename_i hb
    unfold relaxB at hb
    simp only [Bool.and_eq_true, decide_eq_true_eq] at hb
    intro v hv hz
    rw [List.length_set] at hv
    rcases Nat.lt_or_ge y d.length with hy | hy
    · rw [iz_set _ _ _ _ hy] at hz ⊢
      split
      · rename_i e; subst e
        obtain ⟨k, hw⟩ := h x hx hb.1
        exact ⟨k + 1, hw.step ha⟩
      · rename_i e
        rw [if_neg e] at hz
        exact h v hv hz
    · rw [List.set_eq_of_length_le hy] at hz ⊢
      exact h v hv hz
  · exact h
theorem Snd.fold {ls : List Lk} {f n : Nat} (he : Ends n ls) : ∀ (ms : List Lk) {d : List Int}, (∀ l ∈ ms, l ∈ ls) → d.length = n → Snd ls f d → Snd ls f (ms.foldl relaxL d)
  | [], _, _, _, h => h
  | l :: r, d, hm, hl, h => by
    obtain ⟨x, y, hx, hy, hxn, hyn⟩ := he l (hm l (List.mem_cons_self ..))
    have a1 : Adj ls x y l.c := ⟨l, hm l (List.mem_cons_self ..), rfl, .inl ⟨hx, hy⟩⟩
    refine Snd.fold he r (fun l' h' => hm l' (List.mem_cons_of_mem _ h')) (by rw [relaxL_len]; exact hl) ?_
    unfold relaxL
    rw [hx, hy, Int.toNat_natCast, Int.toNat_natCast]
    exact (h.relax (by omega) a1).relax (by rw [relax_len]; omega) a1.symm
theorem Snd.rounds {ls : List Lk} {f n : Nat} (he : Ends n ls) {d : List Int} (hl : d.length = n) (h : Snd ls f d) (k : Nat) : Snd ls f (rounds ls d k) := by
  induction k with
  | zero => exact h
  | succ k ih => exact Snd.fold he ls (fun l h => h) (by rw [rounds_len]; exact hl) ih
theorem Snd.init {ls : List Lk} {f n : Nat} (hf : f < n) : Snd ls f (dinit n f) := by
  intro v hv hz
  rw [dinit_len] at hv
  unfold dinit at hz ⊢
  rw [iz_set _ _ _ _ (by simpa using hf)] at hz ⊢
  by_cases e : v = f
  · subst e; rw [if_pos rfl]; exact ⟨0, .nil⟩
  · rw [if_neg e] at hz
    simp [iz, List.getD, hv] at hz
/-- Nothing is worse. -/
def Le (d' d : List Int) : Prop := ∀ v, 0 ≤ iz d v → 0 ≤ iz d' v ∧ iz d' v ≤ iz d v
theorem Le.refl (d : List Int) : Le d d := fun _ h => ⟨h, Int.le_refl _⟩
theorem Le.trans {a b c : List Int} (h : Le a b) (k : Le b c) : Le a c := fun v hv => by
  have h1 := k v hv
  have h2 := h v h1.1
  exact ⟨h2.1, by omega⟩
theorem Le.relax (d : List Int) (x y : Nat) (c : Int) (hc : 0 ≤ c) : Le (relax d x y c) d := by
  unfold Go.Proofs.Ytjdebphkndfolaa.relax
  split
  · rename_i hb
    unfold relaxB at hb
    simp only [Bool.and_eq_true, Bool.or_eq_true, decide_eq_true_eq] at hb
    intro v hv
    rcases Nat.lt_or_ge y d.length with hy | hy
    · rw [iz_set _ _ _ _ hy]
      split
      · rename_i e; subst e; omega
      · exact ⟨hv, Int.le_refl _⟩
    · rw [List.set_eq_of_length_le hy]; exact ⟨hv, Int.le_refl _⟩
  · exact Le.refl d
theorem relax_at (d : List Int) (x y : Nat) (c : Int) (hy : y < d.length) (hx : 0 ≤ iz d x) (hc : 0 ≤ c) : 0 ≤ iz (relax d x y c) y ∧ iz (relax d x y c) y ≤ iz d x + c := by
  unfold relax
  split
  · rw [iz_set _ _ _ _ hy, if_pos rfl]; omega
  · rename_i hb
    unfold relaxB at hb
    simp only [Bool.and_eq_true, Bool.or_eq_true, decide_eq_true_eq] at hb
    omega
theorem Le.link (d : List Int) (l : Lk) (hc : 0 ≤ l.c) : Le (relaxL d l) d := (Le.relax _ _ _ _ hc).trans (Le.relax _ _ _ _ hc)
theorem Le.fold (ms : List Lk) (hc : Cheap ms) : ∀ d, Le (ms.foldl relaxL d) d := by
  induction ms with
  | nil => exact Le.refl
  | cons l r ih => exact fun d => (ih (fun l' h' => hc l' (List.mem_cons_of_mem _ h')) _).trans (Le.link d l (by have := (hc l (List.mem_cons_self ..)).1; omega))
/-- Behind a sweep each link is relaxed. -/
theorem sweep_at {n : Nat} (ms : List Lk) (he : Ends n ms) (hc : Cheap ms) {x y : Nat} {c : Int} (ha : Adj ms x y c) : ∀ d : List Int, d.length = n → 0 ≤ iz d x →
    0 ≤ iz (ms.foldl relaxL d) y ∧ iz (ms.foldl relaxL d) y ≤ iz d x + c := by
  induction ms with
  | nil => obtain ⟨l, h, _⟩ := ha; simp at h
  | cons l r ih =>
    intro d hl hx
    have hcl := hc l (List.mem_cons_self ..)
    obtain ⟨m, h1, h2, h3⟩ := ha
    rw [List.foldl_cons]
    have hle := Le.link d l (by omega)
    rcases List.mem_cons.1 h1 with e | e
    · subst e
      obtain ⟨a, b, e1, e2, han, hbn⟩ := he m (List.mem_cons_self ..)
      have key : 0 ≤ iz (relaxL d m) y ∧ iz (relaxL d m) y ≤ iz d x + c := by
        unfold relaxL
        rw [e1, e2, Int.toNat_natCast, Int.toNat_natCast]
        rcases h3 with ⟨h4, h5⟩ | ⟨h4, h5⟩
        · obtain rfl : a = x := by omega
          obtain rfl : b = y := by omega
          have p := relax_at d a b m.c (by omega) hx (by omega)
          have q := Le.relax (relax d a b m.c) b a m.c (by omega) b p.1
          omega
        · obtain rfl : a = y := by omega
          obtain rfl : b = x := by omega
          have p := Le.relax d a b m.c (by omega) b hx
          have q := relax_at (relax d a b m.c) b a m.c (by rw [relax_len]; omega) p.1 (by omega)
          omega
      have := Le.fold r (fun l' h' => hc l' (List.mem_cons_of_mem _ h')) (relaxL d m) y key.1
      omega
    · have hx' := hle x hx
      have := ih (fun l' h' => he l' (List.mem_cons_of_mem _ h')) (fun l' h' => hc l' (List.mem_cons_of_mem _ h')) ⟨m, e, h2, h3⟩ (relaxL d l) (by rw [relaxL_len]; exact hl) hx'.1
      omega
theorem rounds_reach {n f : Nat} {ls : List Lk} (he : Ends n ls) (hc : Cheap ls) (hf : f < n) {k v : Nat} {s : Int} (h : Wk ls f k v s) : ∀ r, k ≤ r → 0 ≤ iz (rounds ls (dinit n f) r) v ∧ iz (rounds ls (dinit n f) r) v ≤ s := by
  induction h with
  | nil =>
    intro r _
    have := ((Src.init hf).rounds ls hc r).zero
    omega
  | @step k x y s c hw ha ih =>
    intro r hr
    obtain ⟨r', rfl⟩ : ∃ r', r = r' + 1 := ⟨r - 1, by omega⟩
    have h1 := ih r' (by omega)
    have := sweep_at ls he hc ha (rounds ls (dinit n f) r') (by rw [rounds_len, dinit_len]) h1.1
    show 0 ≤ iz (sweep ls _) y ∧ iz (sweep ls _) y ≤ s + c
    unfold sweep
    omega
/-- DISTANCES ARE LEAST COSTS: where there is a walk, the distance is at most its cost; and it is the cost of a walk. -/
theorem dists_le {n f : Nat} {ls : List Lk} (h : GV n ls) (hf : f < n) {k v : Nat} {s : Int} (hw : Wk ls f k v s) : 0 ≤ iz (dists n ls f) v ∧ iz (dists n ls f) v ≤ s := by
  obtain ⟨k', s', hk', hs', hw'⟩ := Wk.short h.ends h.cheap k hw hf
  have := rounds_reach h.ends h.cheap hf hw' n (by omega)
  unfold dists
  omega
theorem dists_walk {n f : Nat} {ls : List Lk} (h : GV n ls) (hf : f < n) {v : Nat} (hv : v < n) (hz : 0 ≤ iz (dists n ls f) v) : ∃ k, Wk ls f k v (iz (dists n ls f) v) :=
  (Snd.rounds h.ends (dinit_len n f) (Snd.init hf) n) v (by rw [rounds_len, dinit_len]; exact hv) hz
theorem dists_symm {n u v : Nat} {ls : List Lk} (h : GV n ls) (hu : u < n) (hv : v < n) : iz (dists n ls u) v = iz (dists n ls v) u := by
  have low1 := dists_low (ls := ls) h.cheap hu v
  have low2 := dists_low (ls := ls) h.cheap hv u
  by_cases h1 : 0 ≤ iz (dists n ls u) v
  · obtain ⟨k, w⟩ := dists_walk h hu hv h1
    have a := dists_le h hv w.symm
    obtain ⟨k', w'⟩ := dists_walk h hv hu a.1
    have b := dists_le h hu w'.symm
    omega
  · by_cases h2 : 0 ≤ iz (dists n ls v) u
    · obtain ⟨k, w⟩ := dists_walk h hv hu h2
      have a := dists_le h hu w.symm
      omega
    · omega
end Go.Proofs.Ytjdebphkndfolaa

/- Plain rules for what functions compute: a computation answers, and its answer satisfies something. No program is named here. -/
namespace Go.Proofs.Ytjdebphkndfolaa
open Go.RowKit

/-- The computation answers, and so. -/
def Sat {α : Type} (o : Option α) (Q : α → Prop) : Prop := ∃ r, o = some r ∧ Q r
theorem Sat.some {α : Type} {x : α} {Q : α → Prop} (h : Q x) : Sat (some x) Q := ⟨x, rfl, h⟩
theorem Sat.mono {α : Type} {o : Option α} {Q R : α → Prop} (h : Sat o Q) (k : ∀ x, Q x → R x) : Sat o R := by
  obtain ⟨r, h1, h2⟩ := h; exact ⟨r, h1, k r h2⟩
theorem Sat.bind {α β : Type} {o : Option α} {f : α → Option β} {Q : β → Prop} (h : Sat o fun x => Sat (f x) Q) : Sat (o.bind f) Q := by
  obtain ⟨x, rfl, y, h1, h2⟩ := h; exact ⟨y, h1, h2⟩
theorem Sat.bnd {α β : Type} {o : Option α} {R : α → Prop} {f : α → Option β} {Q : β → Prop} (h : Sat o R) (k : ∀ x, R x → Sat (f x) Q) : Sat (o.bind f) Q := Sat.bind (h.mono k)
theorem Sat.ite {α : Type} {c : Bool} {a b : Option α} {Q : α → Prop} (h : c = true → Sat a Q) (k : c = false → Sat b Q) : Sat (bif c then a else b) Q := by
  cases c with
  | true => exact h rfl
  | false => exact k rfl
theorem Sat.gd {α : Type} {c : Bool} {a b : Option α} {Q : α → Prop} (hc : c = true) (h : Sat a Q) : Sat (bif c then a else b) Q := by subst hc; exact h
theorem Sat.no {α : Type} {c : Bool} {a b : Option α} {Q : α → Prop} (hc : c = false) (h : Sat b Q) : Sat (bif c then a else b) Q := by subst hc; exact h
theorem Sat.eq {α : Type} {o : Option α} {x : α} (h : o = Option.some x) : Sat o (· = x) := ⟨x, h, rfl⟩
theorem Sat.out {α : Type} {o : Option α} {x : α} (h : Sat o (· = x)) : o = Option.some x := by obtain ⟨r, h1, h2⟩ := h; rw [h1, h2]
/-- A loop: an invariant and a measure. -/
theorem Sat.loop {σ τ : Type} {B : σ → Option (σ ⊕ τ)} (I : σ → Prop) (μ : σ → Nat) {Q : τ → Prop} (hB : ∀ s, I s → Sat (B s) fun r => match r with | .inl s' => I s' ∧ μ s' < μ s | .inr x => Q x) : ∀ (n : Nat) (s : σ), μ s < n → I s → Sat (lp B n s) Q
  | 0, _, h, _ => by omega
  | n + 1, s, h, hi => by
    unfold Go.Proofs.Ytjdebphkndfolaa.lp
    refine Sat.bnd (hB s hi) fun r hr => ?_
    cases r with
    | inl s' => exact Sat.loop I μ hB n s' (by have := hr.2; omega) hr.1
    | inr x => exact .some hr
/-- A loop that counts from k to n: what it holds at each count. -/
theorem Sat.count {σ τ : Type} {B : σ → Option (σ ⊕ τ)} (n : Nat) (I : Nat → σ → Prop) {Q : τ → Prop} (hB : ∀ k s, k ≤ n → I k s → Sat (B s) fun r => match r with | .inl s' => k < n ∧ I (k + 1) s' | .inr x => Q x) {m : Nat} {s : σ} {k : Nat} (hk : k ≤ n) (hm : n - k < m) (h : I k s) : Sat (lp B m s) Q := by
  induction m generalizing s k with
  | zero => omega
  | succ m ih =>
    unfold Go.Proofs.Ytjdebphkndfolaa.lp
    refine Sat.bnd (hB k s hk h) fun r hr => ?_
    cases r with
    | inl s' => exact ih (k := k + 1) (by have := hr.1; omega) (by omega) hr.2
    | inr x => exact .some hr
/-! ### Numbers -/
theorem w64 {x : Int} (h1 : -9223372036854775808 ≤ x) (h2 : x ≤ 9223372036854775807) : wrap64 x = x := IntWalk.wrap64_in x (by omega)
theorem wI {x : Int} (h1 : -9223372036854775808 ≤ x) (h2 : x ≤ 9223372036854775807) : wrapK .i64 x = x := w64 h1 h2
theorem inR_t {z : Int} {n : Nat} (h1 : 0 ≤ z) (h2 : z < n) : inR z n = true := by simp [inR, h1, h2]
theorem bnd2_t {lo hi : Int} {n : Nat} (h1 : 0 ≤ lo) (h2 : lo ≤ hi) (h3 : hi ≤ n) : bnd2 lo hi n = true := by simp [bnd2, h1, h2, h3]
theorem bif_dec {p : Prop} [Decidable p] {α : Type} {a b : α} : (bif decide p then a else b) = if p then a else b := by by_cases h : p <;> simp [h]
end Go.Proofs.Ytjdebphkndfolaa

/- Plain laws: border nodes, summaries, routes, links between two nodes, neighbours, joined areas. No program is named here. -/
namespace Go.Proofs.Ytjdebphkndfolaa
open Go.RowKit

/-- Nodes that ascend, below a bound. -/
def Asc (zs : List Int) (n : Int) : Prop := ∀ i, i < zs.length → 0 ≤ iz zs i ∧ iz zs i < n ∧ (0 < i → iz zs (i - 1) < iz zs i)
instance (zs : List Int) (n : Int) : Decidable (Asc zs n) := by unfold Asc; infer_instance
def asc (zs : List Int) (n : Int) : Bool := decide (Asc zs n)
theorem Asc.le {zs : List Int} {n : Int} (h : Asc zs n) {i : Nat} (j : Nat) (hj : i + j < zs.length) : iz zs i ≤ iz zs (i + j) := by
  induction j with
  | zero => exact Int.le_refl _
  | succ j ih =>
    have h1 := (h (i + (j + 1)) hj).2.2 (by omega)
    have h2 := ih (by omega)
    rw [show i + (j + 1) - 1 = i + j by omega] at h1
    omega
theorem asc_last {zs : List Int} {n : Int} {len : Nat} (hl : zs.length = len) (h0 : 0 < len) (h8 : asc zs 8 = true) (_ : n ≤ 8) : asc zs n = decide (iz zs (len - 1) < n) := by
  have h := of_decide_eq_true h8
  unfold asc
  by_cases e : iz zs (len - 1) < n
  · rw [decide_eq_true e, decide_eq_true_eq]
    intro i hi
    have h1 := h.le (i := i) (len - 1 - i) (by omega)
    rw [show i + (len - 1 - i) = len - 1 by omega] at h1
    have h2 := h i hi
    exact ⟨h2.1, by omega, h2.2.2⟩
  · rw [decide_eq_false e, decide_eq_false_iff_not]
    intro g
    have := g (len - 1) (by omega)
    omega
theorem asc_8 {zs : List Int} {n : Int} (_ : n ≤ 8) (h8 : asc zs 8 = false) : asc zs n = false := by
  refine decide_eq_false fun g => of_decide_eq_false h8 fun i hi => ?_
  have := g i hi
  exact ⟨this.1, by omega, this.2.2⟩
def bv (n : Int) (ls : List Lk) (bs : List Int) : Bool := gv n ls && decide (0 < bs.length) && asc bs n
/-- A summary. -/
def summL (d bs : List Int) (k : Nat) : List Int := (bs.take k).map fun b => iz d b.toNat
def summ (n : Int) (ls : List Lk) (bs : List Int) (t : Int) : List Int :=
  if bv n ls bs && inB t 0 (n - 1) then summL (dists n.toNat ls t.toNat) bs bs.length else []
theorem summ_no {n : Int} {ls : List Lk} {bs : List Int} {t : Int} (h : (bv n ls bs && inB t 0 (n - 1)) = false) : summ n ls bs t = [] := by simp [summ, h]
theorem summ_ok {n f len : Nat} {ls : List Lk} {bs : List Int} (h1 : bv n ls bs = true) (h2 : inB f 0 (n - 1) = true) (hl : bs.length = len) : summ n ls bs f = summL (dists n ls f) bs len := by
  simp [summ, h1, h2, hl]
theorem summL_zero (d bs : List Int) : summL d bs 0 = [] := by simp [summL]
theorem summL_succ (d bs : List Int) (k j : Nat) (h : k < bs.length) (hj : iz bs k = j) : summL d bs (k + 1) = summL d bs k ++ [iz d j] := by
  have e : bs[k]? = some (j : Int) := by rw [iz_get h, hj]
  simp [summL, List.take_add_one, e]
theorem summL_len (d bs : List Int) (k : Nat) (h : k ≤ bs.length) : (summL d bs k).length = k := by simp [summL]; omega
theorem bv_t {n : Int} {ls : List Lk} {bs : List Int} (h : bv n ls bs = true) : GV n ls ∧ 0 < bs.length ∧ Asc bs n := by
  simp only [bv, Bool.and_eq_true, decide_eq_true_eq] at h
  exact ⟨gv_t h.1.1, h.1.2, of_decide_eq_true h.2⟩
theorem iz_summL {d bs : List Int} {i j : Nat} (hi : i < bs.length) (hj : iz bs i = (j : Int)) : iz (summL d bs bs.length) i = iz d j := by
  have e : bs[i]? = some (j : Int) := by rw [iz_get hi, hj]
  have : (summL d bs bs.length)[i]? = some (iz d j) := by simp [summL, e]
  exact iz_of this
/-- Is the border node at i better than 'least'? -/
def goB (one two : List Int) (i : Nat) (least : Int) : Bool := decide (0 ≤ iz one i) && decide (0 ≤ iz two i) && (decide (least < 0) || decide (iz one i + iz two i < least))
def rtStep (bs one two : List Int) (s : Int × Int) (i : Nat) : Int × Int := if goB one two i s.2 then (iz bs i, iz one i + iz two i) else s
def rtN (bs one two : List Int) : Nat → Int × Int
  | 0 => (-1, -1)
  | k + 1 => rtStep bs one two (rtN bs one two k) k
def routeOk (na : Int) (la : List Lk) (nb : Int) (lb : List Lk) (bs : List Int) (f t : Int) : Bool := (bv na la bs && inB f 0 (na - 1)) && (bv nb lb bs && inB t 0 (nb - 1))
def route (na : Int) (la : List Lk) (nb : Int) (lb : List Lk) (bs : List Int) (f t : Int) : Int × Int :=
  if routeOk na la nb lb bs f t then rtN bs (summ na la bs f) (summ nb lb bs t) bs.length else (-1, -1)
theorem summ_low {n : Int} {ls : List Lk} {bs : List Int} {t : Int} (i : Nat) : -1 ≤ iz (summ n ls bs t) i ∧ iz (summ n ls bs t) i ≤ 5100 := by
  rcases cs_bool (bv n ls bs && inB t 0 (n - 1)) with y | y
  · rw [summ_no y]; simp [iz]
  · simp only [Bool.and_eq_true] at y
    obtain ⟨hv, h0, ha⟩ := bv_t y.1
    have ht := inB_t y.2
    obtain ⟨N, rfl⟩ := Int.eq_ofNat_of_zero_le (show 0 ≤ n by omega)
    obtain ⟨F, rfl⟩ := Int.eq_ofNat_of_zero_le ht.1
    rw [summ_ok y.1 y.2 rfl]
    rcases Nat.lt_or_ge i bs.length with hi | hi
    · obtain ⟨j, hj⟩ := Int.eq_ofNat_of_zero_le (ha i hi).1
      rw [iz_summL hi hj]
      have hn8 : N ≤ 8 := by have := hv.2.1; omega
      exact dst_bd N ls F N 0 hv.cheap hv.2.2.1 hn8 j
    · have : (summL (dists N ls F) bs bs.length).length = bs.length := summL_len _ _ _ (Nat.le_refl _)
      unfold iz
      rw [List.getD, List.getElem?_eq_none (by omega)]
      simp
/-- Along the way: both numbers of the pair are at least -1, in range, and one is below 0 where the other is. -/
theorem rtN_bd {bs one two : List Int} {n : Int} (h1 : ∀ i, -1 ≤ iz one i ∧ iz one i ≤ 5100) (h2 : ∀ i, -1 ≤ iz two i ∧ iz two i ≤ 5100) (ha : Asc bs n) (k : Nat) (hk : k ≤ bs.length) :
    (rtN bs one two k = (-1, -1)) ∨ (0 ≤ (rtN bs one two k).1 ∧ (rtN bs one two k).1 < n ∧ 0 ≤ (rtN bs one two k).2 ∧ (rtN bs one two k).2 ≤ 10200) := by
  induction k with
  | zero => exact .inl rfl
  | succ k ih =>
    have ih := ih (by omega)
    unfold rtN rtStep
    split
    · rename_i hg
      unfold goB at hg
      simp only [Bool.and_eq_true, decide_eq_true_eq] at hg
      have := ha k (by omega)
      have := h1 k
      have := h2 k
      right
      exact ⟨by omega, by omega, by dsimp only; omega, by dsimp only; omega⟩
    · exact ih
theorem rtN_rng {bs one two : List Int} {n : Int} (h1 : ∀ i, -1 ≤ iz one i ∧ iz one i ≤ 5100) (h2 : ∀ i, -1 ≤ iz two i ∧ iz two i ≤ 5100) (ha : Asc bs n) (k : Nat) (hk : k ≤ bs.length) :
    -1 ≤ (rtN bs one two k).2 ∧ (rtN bs one two k).2 ≤ 10200 ∧ decide ((rtN bs one two k).1 < 0) = decide ((rtN bs one two k).2 < 0) := by
  rcases rtN_bd h1 h2 ha k hk with e | ⟨e1, _, e2, e3⟩
  · rw [e]; exact ⟨by decide, by decide, by decide⟩
  · exact ⟨by omega, e3, (decide_eq_false (by omega)).trans (decide_eq_false (by omega)).symm⟩
theorem summ_zero {n : Int} {ls : List Lk} {bs : List Int} {t : Int} (h : (bv n ls bs && inB t 0 (n - 1)) = true) : (summ n ls bs t).length = bs.length ∧ 0 < bs.length := by
  simp only [Bool.and_eq_true] at h
  obtain ⟨hv, h0, _⟩ := bv_t h.1
  have hl : (summL (dists n.toNat ls t.toNat) bs bs.length).length = bs.length := summL_len _ _ _ (Nat.le_refl _)
  exact ⟨by unfold summ; rw [if_pos (by simp [h]), hl], h0⟩
theorem route_no1 {na nb f t : Int} {la lb : List Lk} {bs : List Int} (h : (summ na la bs f).length = 0) : route na la nb lb bs f t = (-1, -1) := by
  unfold route
  rw [if_neg]
  intro hc
  unfold routeOk at hc
  rw [Bool.and_eq_true] at hc
  have := summ_zero hc.1
  omega
theorem route_no2 {na nb f t : Int} {la lb : List Lk} {bs : List Int} (h : (summ nb lb bs t).length = 0) : route na la nb lb bs f t = (-1, -1) := by
  unfold route
  rw [if_neg]
  intro hc
  unfold routeOk at hc
  rw [Bool.and_eq_true] at hc
  have := summ_zero hc.2
  omega
theorem route_yes {na nb f t : Int} {la lb : List Lk} {bs : List Int} (h1 : (summ na la bs f).length ≠ 0) (h2 : (summ nb lb bs t).length ≠ 0) :
    routeOk na la nb lb bs f t = true ∧ (summ na la bs f).length = bs.length ∧ (summ nb lb bs t).length = bs.length ∧ Asc bs na ∧ route na la nb lb bs f t = rtN bs (summ na la bs f) (summ nb lb bs t) bs.length := by
  have y1 : (bv na la bs && inB f 0 (na - 1)) = true := by
    rcases cs_bool (bv na la bs && inB f 0 (na - 1)) with y | y
    · rw [summ_no y] at h1; simp at h1
    · exact y
  have y2 : (bv nb lb bs && inB t 0 (nb - 1)) = true := by
    rcases cs_bool (bv nb lb bs && inB t 0 (nb - 1)) with y | y
    · rw [summ_no y] at h2; simp at h2
    · exact y
  have y : routeOk na la nb lb bs f t = true := by unfold routeOk; rw [y1, y2]; rfl
  refine ⟨y, (summ_zero y1).1, (summ_zero y2).1, ?_, by unfold route; rw [if_pos y]⟩
  rw [Bool.and_eq_true] at y1
  exact (bv_t y1.1).2.2
/-- 'p && q && (r || s)' -/
theorem cs_aao (p q r s : Bool) : p = false ∨ (p = true ∧ q = false) ∨ (p = true ∧ q = true ∧ r = true) ∨ (p = true ∧ q = true ∧ r = false ∧ s = true) ∨ (p = true ∧ q = true ∧ r = false ∧ s = false) := by
  cases p <;> cases q <;> cases r <;> cases s <;> simp
/-- What routeOk says, in whole numbers. -/
structure ROk (na nb f t : Nat) (la lb : List Lk) (bs : List Int) : Prop where
  va : gv na la = true
  vb : gv nb lb = true
  ga : GV na la
  gb : GV nb lb
  aa : Asc bs na
  ab : Asc bs nb
  pos : 0 < bs.length
  hf : f < na
  ht : t < nb
  one : summ na la bs f = summL (dists na la f) bs bs.length
  two : summ nb lb bs t = summL (dists nb lb t) bs bs.length
theorem routeOk_t {na nb : Nat} {f t : Int} {la lb : List Lk} {bs : List Int} (h : routeOk na la nb lb bs f t = true) : ∃ F T : Nat, f = F ∧ t = T ∧ ROk na nb F T la lb bs := by
  unfold routeOk at h
  simp only [Bool.and_eq_true] at h
  obtain ⟨⟨h1, h2⟩, h3, h4⟩ := h
  obtain ⟨g1, p, a1⟩ := bv_t h1
  obtain ⟨g2, _, a2⟩ := bv_t h3
  have i1 := inB_t h2
  have i2 := inB_t h4
  obtain ⟨F, rfl⟩ := Int.eq_ofNat_of_zero_le i1.1
  obtain ⟨T, rfl⟩ := Int.eq_ofNat_of_zero_le i2.1
  have v1 : gv na la = true := by simp only [bv, Bool.and_eq_true] at h1; exact h1.1.1
  have v2 : gv nb lb = true := by simp only [bv, Bool.and_eq_true] at h3; exact h3.1.1
  exact ⟨F, T, rfl, rfl, v1, v2, g1, g2, a1, a2, p, by omega, by omega, summ_ok h1 h2 rfl, summ_ok h3 h4 rfl⟩
theorem ROk.ok {na nb f t : Nat} {la lb : List Lk} {bs : List Int} (h : ROk na nb f t la lb bs) : routeOk na la nb lb bs f t = true := by
  have i1 : inB (f : Int) 0 ((na : Int) - 1) = true := inB_mk (by have := h.hf; omega)
  have i2 : inB (t : Int) 0 ((nb : Int) - 1) = true := inB_mk (by have := h.ht; omega)
  simp [routeOk, bv, h.va, h.vb, i1, i2, h.pos, asc, h.aa, h.ab]
theorem route_eq {na nb f t : Nat} {la lb : List Lk} {bs : List Int} (h : ROk na nb f t la lb bs) : route na la nb lb bs f t = rtN bs (summ na la bs f) (summ nb lb bs t) bs.length := by unfold route; rw [if_pos h.ok]
theorem route_pos {na nb : Nat} {f t : Int} {la lb : List Lk} {bs : List Int} (h : 0 ≤ (route na la nb lb bs f t).1) : routeOk na la nb lb bs f t = true := by
  rcases cs_bool (routeOk na la nb lb bs f t) with y | y
  · unfold route at h; rw [y] at h; simp at h
  · exact y
/-- The pair is that of some border node, or there is none. -/
theorem rtN_mem (bs one two : List Int) (k : Nat) : rtN bs one two k = (-1, -1) ∨ ∃ i, i < k ∧ rtN bs one two k = (iz bs i, iz one i + iz two i) ∧ 0 ≤ iz one i ∧ 0 ≤ iz two i := by
  induction k with
  | zero => exact .inl rfl
  | succ k ih =>
    unfold rtN rtStep
    split
    · rename_i hg
      unfold goB at hg
      simp only [Bool.and_eq_true, decide_eq_true_eq] at hg
      exact .inr ⟨k, by omega, rfl, hg.1.1, hg.1.2⟩
    · rcases ih with e | ⟨i, hi, e⟩
      · exact .inl e
      · exact .inr ⟨i, by omega, e⟩
theorem asc_lt {bs : List Int} {n : Int} (h : Asc bs n) {i j : Nat} (hij : i < j) (hj : j < bs.length) : iz bs i < iz bs j := by
  have h1 := h.le (i := i) (j - 1 - i) (by omega)
  rw [show i + (j - 1 - i) = j - 1 by omega] at h1
  have := (h j hj).2.2 (by omega)
  omega
/-- No border node is better. -/
theorem rtN_least {bs one two : List Int} {n : Int} (ha : Asc bs n) (k : Nat) (hk : k ≤ bs.length) : ∀ i, i < k → 0 ≤ iz one i → 0 ≤ iz two i →
    0 ≤ (rtN bs one two k).2 ∧ (rtN bs one two k).2 ≤ iz one i + iz two i ∧ (iz one i + iz two i = (rtN bs one two k).2 → (rtN bs one two k).1 ≤ iz bs i) := by
  induction k with
  | zero => intro i hi; omega
  | succ k ih =>
    intro i hi h1 h2
    have ih := ih (by omega)
    unfold rtN rtStep
    split
    · rename_i hg
      unfold goB at hg
      simp only [Bool.and_eq_true, Bool.or_eq_true, decide_eq_true_eq] at hg
      dsimp only
      by_cases e : i = k
      · subst e; omega
      · have := ih i (by omega) h1 h2
        omega
    · rename_i hg
      by_cases e : i = k
      · subst e
        unfold goB at hg
        simp only [Bool.and_eq_true, Bool.or_eq_true, decide_eq_true_eq] at hg
        rcases rtN_mem bs one two i with e | ⟨j, hj, e, _⟩
        · rw [e] at hg; simp at hg; omega
        · have := asc_lt ha hj (by omega)
          have h3 : (rtN bs one two i).1 = iz bs j := by rw [e]
          omega
      · exact ih i (by omega) h1 h2
/-- A route leads over a border node; its cost is the sum. -/
theorem route_over {na nb f t : Nat} {la lb : List Lk} {bs : List Int} (h : ROk na nb f t la lb bs) (hp : 0 ≤ (route na la nb lb bs f t).1) :
    ∃ i j : Nat, i < bs.length ∧ iz bs i = j ∧ j < na ∧ j < nb ∧ (route na la nb lb bs f t).1 = j ∧ (route na la nb lb bs f t).2 = iz (dists na la f) j + iz (dists nb lb t) j := by
  rw [route_eq h] at hp ⊢
  rcases rtN_mem bs (summ na la bs f) (summ nb lb bs t) bs.length with e | ⟨i, hi, e, h1, h2⟩
  · rw [e] at hp; simp at hp
  · have ai := h.aa i hi
    have bi := h.ab i hi
    obtain ⟨j, hj⟩ := Int.eq_ofNat_of_zero_le ai.1
    refine ⟨i, j, hi, hj, by omega, by omega, by rw [e]; exact hj, ?_⟩
    rw [e]
    dsimp only
    rw [h.one, h.two, iz_summL hi hj, iz_summL hi hj]
theorem route_least {na nb f t : Nat} {la lb : List Lk} {bs : List Int} (h : ROk na nb f t la lb bs) {i j : Nat} (hi : i < bs.length) (hj : iz bs i = j) (h1 : 0 ≤ iz (dists na la f) j) (h2 : 0 ≤ iz (dists nb lb t) j) :
    0 ≤ (route na la nb lb bs f t).2 ∧ (route na la nb lb bs f t).2 ≤ iz (dists na la f) j + iz (dists nb lb t) j ∧ (iz (dists na la f) j + iz (dists nb lb t) j = (route na la nb lb bs f t).2 → (route na la nb lb bs f t).1 ≤ j) := by
  rw [route_eq h]
  have := rtN_least (one := summ na la bs f) (two := summ nb lb bs t) h.aa bs.length (Nat.le_refl _) i hi
  rw [h.one, h.two, iz_summL hi hj, iz_summL hi hj, hj] at this
  rw [h.one, h.two]
  exact this h1 h2
/-- A border node needs no detour. -/
theorem route_self {na nb f t : Nat} {la lb : List Lk} {bs : List Int} (h : ROk na nb f t la lb bs) {i j : Nat} (hi : i < bs.length) (hj : iz bs i = j) : route na la nb lb bs j j = ((j : Int), 0) := by
  have ja : j < na := by have := h.aa i hi; omega
  have jb : j < nb := by have := h.ab i hi; omega
  have i1 : inB (j : Int) 0 ((na : Int) - 1) = true := inB_mk (by omega)
  have i2 : inB (j : Int) 0 ((nb : Int) - 1) = true := inB_mk (by omega)
  obtain ⟨_, _, e1, e2, h'⟩ := routeOk_t (na := na) (nb := nb) (la := la) (lb := lb) (bs := bs) (f := j) (t := j) (by simp [routeOk, bv, h.va, h.vb, i1, i2, h.pos, asc, h.aa, h.ab])
  obtain rfl := Int.ofNat.inj e1
  obtain rfl := Int.ofNat.inj e2
  have z1 := dists_self (ls := la) h.ga.cheap ja
  have z2 := dists_self (ls := lb) h.gb.cheap jb
  obtain ⟨l1, l2, l3⟩ := route_least h' hi hj (by omega) (by omega)
  rw [z1, z2] at l2 l3
  have l3 := l3 (by omega)
  have hp : 0 ≤ (route na la nb lb bs j j).1 := by
    rw [route_eq h'] at l1 ⊢
    rcases rtN_bd (n := na) (fun i => summ_low (n := na) (ls := la) (bs := bs) (t := j) i) (fun i => summ_low (n := nb) (ls := lb) (bs := bs) (t := j) i) h.aa bs.length (Nat.le_refl _) with e | e
    · rw [e] at l1; simp at l1
    · exact e.1
  obtain ⟨i', j', hi', hj', ja', jb', e1, e2⟩ := route_over h' hp
  have n1 := dists_low (ls := la) h.ga.cheap ja j'
  have n2 := dists_low (ls := lb) h.gb.cheap jb j'
  have hk : 0 ≤ iz (dists na la j) j' := by
    rw [route_eq h'] at e1 e2
    rcases rtN_mem bs (summ na la bs j) (summ nb lb bs j) bs.length with e | ⟨i2, hi2, e, p1, p2⟩
    · rw [e] at e1; simp at e1
    · rw [e] at e1
      dsimp only at e1
      rw [h'.one, iz_summL hi2 e1] at p1
      exact p1
  have hk2 : 0 ≤ iz (dists nb lb j) j' := by
    rw [route_eq h'] at e1 e2
    rcases rtN_mem bs (summ na la bs j) (summ nb lb bs j) bs.length with e | ⟨i2, hi2, e, p1, p2⟩
    · rw [e] at e1; simp at e1
    · rw [e] at e1
      dsimp only at e1
      rw [h'.two, iz_summL hi2 e1] at p2
      exact p2
  have hz : iz (dists na la j) j' = 0 := by omega
  have := dists_only h.ga.cheap ja ja' hz
  subst this
  exact Prod.ext e1 (by rw [e2, z1, z2]; rfl)
theorem route_over2 {na nb f t : Nat} {la lb : List Lk} {bs : List Int} (h : ROk na nb f t la lb bs) (hp : 0 ≤ (route na la nb lb bs f t).1) :
    ∃ i j : Nat, i < bs.length ∧ iz bs i = j ∧ (route na la nb lb bs f t).1 = j ∧ (route na la nb lb bs f t).2 = iz (dists na la f) j + iz (dists nb lb t) j ∧ 0 ≤ iz (dists na la f) j ∧ 0 ≤ iz (dists nb lb t) j := by
  rw [route_eq h] at hp ⊢
  rcases rtN_mem bs (summ na la bs f) (summ nb lb bs t) bs.length with e | ⟨i, hi, e, h1, h2⟩
  · rw [e] at hp; simp at hp
  · have ai := h.aa i hi
    obtain ⟨j, hj⟩ := Int.eq_ofNat_of_zero_le ai.1
    rw [h.one, iz_summL hi hj] at h1
    rw [h.two, iz_summL hi hj] at h2
    refine ⟨i, j, hi, hj, by rw [e]; exact hj, ?_, h1, h2⟩
    rw [e]
    dsimp only
    rw [h.one, h.two, iz_summL hi hj, iz_summL hi hj]
/-- More border nodes make no route longer. -/
theorem route_single {na nb f t : Nat} {la lb : List Lk} {bs : List Int} (h : ROk na nb f t la lb bs) {i : Nat} (hi : i < bs.length) :
    (route na la nb lb [iz bs i] f t).1 < 0 ∨ (route na la nb lb bs f t).2 ≤ (route na la nb lb [iz bs i] f t).2 := by
  by_cases hp : 0 ≤ (route na la nb lb [iz bs i] f t).1
  · right
    obtain ⟨F, T, e1, e2, h'⟩ := routeOk_t (route_pos hp)
    obtain rfl := Int.ofNat.inj e1
    obtain rfl := Int.ofNat.inj e2
    obtain ⟨i', j, hi', hj, _, e, n1, n2⟩ := route_over2 h' hp
    have hi0 : i' = 0 := by simpa using hi'
    subst hi0
    have hj' : iz bs i = j := by simpa [iz] using hj
    rw [e]
    exact (route_least h hi hj' n1 n2).2.1
  · left; omega
def hitB (x y : Int) (l : Lk) : Bool := decide (l.a = x) && decide (l.b = y)
def lof (ls : List Lk) (a b : Int) : Int := if ls.findIdx (hitB (min a b) (max a b)) < ls.length then ls.findIdx (hitB (min a b) (max a b)) else -1
theorem hit_lk {ls : List Lk} {i : Nat} (h : i < ls.length) : lk ls i = ls[i] := by simp [lk, List.getD, List.getElem?_eq_getElem h]
theorem lof_hit {ls : List Lk} {a b : Int} {k : Nat} (hk : k < ls.length) (h1 : hitB (min a b) (max a b) (lk ls k) = true) (h : ∀ i, i < k → hitB (min a b) (max a b) (lk ls i) = false) : lof ls a b = k := by
  have e : ls.findIdx (hitB (min a b) (max a b)) = k := (List.findIdx_eq hk).2 ⟨by rw [← hit_lk hk]; exact h1, fun j hj => by rw [← hit_lk (by omega)]; exact h j hj⟩
  unfold lof
  rw [e, if_pos hk]
theorem lof_miss {ls : List Lk} {a b : Int} (h : ∀ i, i < ls.length → hitB (min a b) (max a b) (lk ls i) = false) : lof ls a b = -1 := by
  have e : ls.findIdx (hitB (min a b) (max a b)) = ls.length := List.findIdx_eq_length_of_false fun x hx => by
    obtain ⟨i, hi, rfl⟩ := List.mem_iff_getElem.1 hx
    rw [← hit_lk hi]; exact h i hi
  unfold lof
  rw [e, if_neg (by omega)]
theorem hit_t {x y : Int} {l : Lk} (h : hitB x y l = true) : l.a = x ∧ l.b = y := by simpa [hitB] using h
theorem lof_cases (ls : List Lk) (a b : Int) : (lof ls a b = -1 ∧ ∀ i, i < ls.length → hitB (min a b) (max a b) (lk ls i) = false) ∨ ∃ k : Nat, lof ls a b = k ∧ k < ls.length ∧ (lk ls k).a = min a b ∧ (lk ls k).b = max a b := by
  by_cases h : ls.findIdx (hitB (min a b) (max a b)) < ls.length
  · right
    refine ⟨ls.findIdx (hitB (min a b) (max a b)), by unfold lof; rw [if_pos h], h, ?_⟩
    have := (List.findIdx_getElem (w := h))
    rw [← hit_lk h] at this
    exact hit_t this
  · left
    refine ⟨by unfold lof; rw [if_neg h], fun i hi => ?_⟩
    have hle := List.findIdx_le_length (p := hitB (min a b) (max a b)) (xs := ls)
    have := List.not_of_lt_findIdx (p := hitB (min a b) (max a b)) (xs := ls) (i := i) (by omega)
    rw [hit_lk hi]
    simpa using this
theorem hit_no {x y : Int} {l : Lk} (h : ¬ (l.a = x ∧ l.b = y)) : hitB x y l = false := by
  unfold hitB
  rw [Bool.and_eq_false_iff]
  by_cases h1 : l.a = x
  · right; exact decide_eq_false fun e => h ⟨h1, e⟩
  · left; exact decide_eq_false h1
theorem hit_yes {x y : Int} {l : Lk} (h1 : l.a = x) (h2 : l.b = y) : hitB x y l = true := by simp [hitB, h1, h2]
def otherE (l : Lk) (n : Int) : Int := if n = l.a then l.b else if n = l.b then l.a else 0
def isEnd (l : Lk) (n : Int) : Bool := decide (n = l.a ∨ n = l.b)
def others (ls : List Lk) (n : Int) (k : Nat) : List Int := ((ls.take k).filter (fun l => isEnd l n)).map (fun l => otherE l n)
theorem others_succ (ls : List Lk) (n : Int) (k : Nat) (h : k < ls.length) : others ls n (k + 1) = if isEnd (lk ls k) n then others ls n k ++ [otherE (lk ls k) n] else others ls n k := by
  have e : ls[k]? = some (lk ls k) := lk_get h
  unfold others
  rw [List.take_add_one, e]
  cases hq : isEnd (lk ls k) n <;> simp [hq]
theorem others_len (ls : List Lk) (n : Int) (k : Nat) : (others ls n k).length ≤ k := by
  unfold others
  rw [List.length_map]
  exact Nat.le_trans (List.length_filter_le _ _) (List.length_take_le _ _)
/-- The neighbours below k, as the reference lists them. -/
def nbS (ls : List Lk) (m : Int) (k : Nat) : List Int := ((List.range k).filter (fun x : Nat => decide (0 ≤ lof ls m (x : Int)))).map fun x : Nat => (x : Int)
theorem nbS_succ (ls : List Lk) (m : Int) (k : Nat) : nbS ls m (k + 1) = if 0 ≤ lof ls m k then nbS ls m k ++ [(k : Int)] else nbS ls m k := by
  unfold nbS
  rw [List.range_succ, List.filter_append, List.map_append]
  by_cases h : 0 ≤ lof ls m k <;> simp [h]
theorem nbS_len (ls : List Lk) (m : Int) (k : Nat) : (nbS ls m k).length ≤ k := by
  unfold nbS
  rw [List.length_map]
  exact Nat.le_trans (List.length_filter_le _ _) (by simp)
/-- A node has a link. -/
def busy (ls : List Lk) (m : Int) : Bool := ls.any fun l => isEnd l m
theorem others_busy (ls : List Lk) (m : Int) (n : Nat) (hl : ls.length = n) : decide ((0 : Int) < ((others ls m n).length : Int)) = busy ls m := by
  unfold others busy
  rw [List.length_map, List.take_of_length_le (by omega)]
  cases hb : ls.any fun l => isEnd l m with
  | true =>
    obtain ⟨l, h1, h2⟩ := List.any_eq_true.1 hb
    have : 0 < (ls.filter fun l => isEnd l m).length := List.length_pos_of_mem (List.mem_filter.2 ⟨h1, h2⟩)
    exact decide_eq_true (by omega)
  | false =>
    have : (ls.filter fun l => isEnd l m) = [] := List.filter_eq_nil_iff.2 fun l hl => by
      have := List.any_eq_false.1 hb l hl
      exact this
    rw [this]; rfl
theorem nbS_busy {p : Int} {ls : List Lk} (h : GV p ls) (m : Int) : decide ((0 : Int) < ((nbS ls m 8).length : Int)) = busy ls m := by
  cases hb : busy ls m with
  | true =>
    obtain ⟨l, hl, he⟩ := List.any_eq_true.1 hb
    obtain ⟨i, hi, rfl⟩ := List.getElem_of_mem hl
    have ha := h.2.2.2 i hi
    have hp := h.2.1
    rw [LkAt, lk_of (List.getElem?_eq_getElem hi)] at ha
    have he : m = ls[i].a ∨ m = ls[i].b := of_decide_eq_true he
    have key : ∃ x : Nat, x < 8 ∧ min m x = ls[i].a ∧ max m x = ls[i].b := by
      rcases he with e | e
      · exact ⟨ls[i].b.toNat, by omega, by omega, by omega⟩
      · exact ⟨ls[i].a.toNat, by omega, by omega, by omega⟩
    obtain ⟨x, hx, h1, h2⟩ := key
    have hlof : 0 ≤ lof ls m (x : Int) := by
      rcases lof_cases ls m x with ⟨_, hn⟩ | ⟨k, e, _⟩
      · have := hn i hi
        rw [lk_of (List.getElem?_eq_getElem hi), hit_yes h1.symm h2.symm] at this
        cases this
      · omega
    have hm : (x : Int) ∈ nbS ls m 8 := List.mem_map.2 ⟨x, List.mem_filter.2 ⟨List.mem_range.2 hx, decide_eq_true hlof⟩, rfl⟩
    exact decide_eq_true (by have := List.length_pos_of_mem hm; omega)
  | false =>
    have hn : nbS ls m 8 = [] := by
      unfold nbS
      rw [List.map_eq_nil_iff, List.filter_eq_nil_iff]
      intro x hx hd
      have hlof : 0 ≤ lof ls m (x : Int) := of_decide_eq_true hd
      rcases lof_cases ls m x with ⟨e, _⟩ | ⟨k, _, hk, h1, h2⟩
      · omega
      · have hno := List.any_eq_false.1 hb ls[k] (List.getElem_mem hk)
        rw [lk_of (List.getElem?_eq_getElem hk)] at h1 h2
        exact hno (decide_eq_true (by omega))
    rw [hn]; rfl
/-- The link of two nodes in the joined graph: the cheaper one. -/
def pk (la lb : List Lk) (n m : Int) : List Lk :=
  if 0 ≤ lof la n m ∧ (lof lb n m < 0 ∨ (lk la (lof la n m).toNat).c ≤ (lk lb (lof lb n m).toNat).c) then [⟨n, m, (lk la (lof la n m).toNat).c⟩]
  else if 0 ≤ lof lb n m then [⟨n, m, (lk lb (lof lb n m).toNat).c⟩] else []
/-- The links of n with the j nodes behind it. -/
def rowJ (la lb : List Lk) (n j : Nat) : List Lk := (List.range j).flatMap fun t => pk la lb (n : Int) (n + 1 + t : Nat)
/-- The links of the first k nodes. -/
def joinL (la lb : List Lk) (N k : Nat) : List Lk := (List.range k).flatMap fun n => rowJ la lb n (N - 1 - n)
theorem rowJ_succ (la lb : List Lk) (n j : Nat) : rowJ la lb n (j + 1) = rowJ la lb n j ++ pk la lb (n : Int) (n + 1 + j : Nat) := by
  unfold rowJ
  rw [List.range_succ, List.flatMap_append]
  simp
theorem joinL_succ (la lb : List Lk) (N k : Nat) : joinL la lb N (k + 1) = joinL la lb N k ++ rowJ la lb k (N - 1 - k) := by
  unfold joinL
  rw [List.range_succ, List.flatMap_append]
  simp
theorem pk_len (la lb : List Lk) (n m : Int) : (pk la lb n m).length ≤ 1 := by
  unfold pk
  split
  · simp
  · split <;> simp
theorem rowJ_len (la lb : List Lk) (n j : Nat) : (rowJ la lb n j).length ≤ j := by
  induction j with
  | zero => simp [rowJ]
  | succ j ih =>
    rw [rowJ_succ, List.length_append]
    have := pk_len la lb (n : Int) (n + 1 + j : Nat)
    omega
theorem joinL_len (la lb : List Lk) (N k : Nat) : (joinL la lb N k).length ≤ k * N := by
  induction k with
  | zero => simp [joinL]
  | succ k ih =>
    rw [joinL_succ, List.length_append, Nat.succ_mul]
    have := rowJ_len la lb k (N - 1 - k)
    omega
/-- A node that no border node is and that has links in both areas. -/
def clash (la lb : List Lk) (bs : List Int) (n : Int) : Bool := !bs.contains n && busy la n && busy lb n
/-- The cost that the program computes: the first area's first, then the second's where it is less. -/
def cst1 (la : List Lk) (n m : Int) : Int := if 0 ≤ lof la n m then (lk la (lof la n m).toNat).c else 0
def cst (la lb : List Lk) (n m : Int) : Int := if 0 ≤ lof lb n m ∧ (cst1 la n m = 0 ∨ (lk lb (lof lb n m).toNat).c < cst1 la n m) then (lk lb (lof lb n m).toNat).c else cst1 la n m
theorem cst_pk {la lb : List Lk} {n m : Int} (ha : 0 ≤ lof la n m → 1 ≤ (lk la (lof la n m).toNat).c) (hb : 0 ≤ lof lb n m → 1 ≤ (lk lb (lof lb n m).toNat).c) : (if 0 < cst la lb n m then [(⟨n, m, cst la lb n m⟩ : Lk)] else []) = pk la lb n m := by
  unfold pk cst cst1
  by_cases h1 : 0 ≤ lof la n m <;> by_cases h2 : 0 ≤ lof lb n m
  · have h3 := ha h1
    have h4 := hb h2
    by_cases h5 : (lk la (lof la n m).toNat).c ≤ (lk lb (lof lb n m).toNat).c
    · have h6 : ¬ ((lk la (lof la n m).toNat).c = 0 ∨ (lk lb (lof lb n m).toNat).c < (lk la (lof la n m).toNat).c) := by omega
      simp only [h1, h2, h5, h6, if_true, true_and, or_true, if_false, and_false]
      rw [if_pos (by omega)]
    · have h6 : (lk la (lof la n m).toNat).c = 0 ∨ (lk lb (lof lb n m).toNat).c < (lk la (lof la n m).toNat).c := by omega
      have h7 : ¬ (lof lb n m < 0 ∨ (lk la (lof la n m).toNat).c ≤ (lk lb (lof lb n m).toNat).c) := by omega
      simp only [h1, h2, h6, h7, if_true, and_self, if_false, and_false]
      rw [if_pos (by omega)]
  · have h3 := ha h1
    have h7 : lof lb n m < 0 ∨ (lk la (lof la n m).toNat).c ≤ (lk lb (lof lb n m).toNat).c := by omega
    simp only [h1, h2, h7, if_true, and_self, if_false, false_and]
    rw [if_pos (by omega)]
  · have h4 := hb h2
    simp only [h1, h2, if_true, if_false, true_and, false_and, true_or]
    rw [if_pos (by omega)]
  · simp only [h1, h2, if_false, false_and]
    rfl
end Go.Proofs.Ytjdebphkndfolaa

/- Plain laws: valid graphs are sorted lists; a graph told pair by pair. No program is named here. -/
namespace Go.Proofs.Ytjdebphkndfolaa
open Go.RowKit
set_option linter.unusedSimpArgs false
set_option linter.unusedVariables false

def okL (n : Int) (l : Lk) : Prop := 0 ≤ l.a ∧ l.a < l.b ∧ l.b < n ∧ 1 ≤ l.c ∧ l.c ≤ 20
def lxl (l m : Lk) : Prop := l.a < m.a ∨ l.a = m.a ∧ l.b < m.b
theorem lxl.trans {a b c : Lk} (h : lxl a b) (k : lxl b c) : lxl a c := by unfold lxl at *; omega
theorem lk_mem {ls : List Lk} {i : Nat} (h : i < ls.length) : lk ls i ∈ ls := List.mem_of_getElem? (lk_get h)
theorem mem_lk {ls : List Lk} {l : Lk} (h : l ∈ ls) : ∃ i, i < ls.length ∧ lk ls i = l := by
  obtain ⟨i, hi, rfl⟩ := List.getElem_of_mem h
  exact ⟨i, hi, hit_lk hi⟩
theorem lkAt_lt {n : Int} {ls : List Lk} (h : ∀ i, i < ls.length → LkAt n ls i) : ∀ (d i : Nat), i + d + 1 < ls.length → lxl (lk ls i) (lk ls (i + d + 1))
  | 0, i, hi => by
    have := (h (i + 1) hi).2.2.2.2.2 (by omega)
    simpa [lxl] using this
  | d + 1, i, hi => by
    have h1 := lkAt_lt h d i (by omega)
    have h2 := (h (i + (d + 1) + 1) hi).2.2.2.2.2 (by omega)
    rw [Nat.add_sub_cancel] at h2
    exact h1.trans h2
theorem gv_pw {n : Int} {ls : List Lk} : GV n ls ↔ 1 ≤ n ∧ n ≤ 8 ∧ ls.length ≤ 14 ∧ (∀ l ∈ ls, okL n l) ∧ ls.Pairwise lxl := by
  constructor
  · rintro ⟨h1, h2, h3, h⟩
    refine ⟨h1, h2, h3, fun l hl => ?_, List.pairwise_iff_getElem.2 fun i j hi hj hij => ?_⟩
    · obtain ⟨i, hi, rfl⟩ := mem_lk hl
      have := h i hi
      unfold LkAt at this
      unfold okL
      omega
    · have := lkAt_lt h (j - i - 1) i (by omega)
      rw [show i + (j - i - 1) + 1 = j by omega, hit_lk hi, hit_lk hj] at this
      exact this
  · rintro ⟨h1, h2, h3, h, hp⟩
    refine ⟨h1, h2, h3, fun i hi => ?_⟩
    have h4 := h _ (lk_mem hi)
    unfold okL at h4
    refine ⟨h4.1, h4.2.1, h4.2.2.1, h4.2.2.2.1, h4.2.2.2.2, fun h0 => ?_⟩
    have := List.pairwise_iff_getElem.1 hp (i - 1) i (by omega) hi (by omega)
    rw [← hit_lk, ← hit_lk] at this
    exact this
theorem GV.ok {n : Int} {ls : List Lk} (h : GV n ls) {l : Lk} (hl : l ∈ ls) : okL n l := (gv_pw.1 h).2.2.2.1 l hl
theorem pw_ext : ∀ {l l' : List Lk}, l.Pairwise lxl → l'.Pairwise lxl → (∀ x, x ∈ l ↔ x ∈ l') → l = l'
  | [], [], _, _, _ => rfl
  | [], y :: s, _, _, h => by have := (h y).2 (List.mem_cons_self ..); simp at this
  | x :: r, [], _, _, h => by have := (h x).1 (List.mem_cons_self ..); simp at this
  | x :: r, y :: s, h1, h2, h => by
    have h1 := List.pairwise_cons.1 h1
    have h2 := List.pairwise_cons.1 h2
    have e : x = y := by
      rcases List.mem_cons.1 ((h x).1 (List.mem_cons_self ..)) with e | hx
      · exact e
      · rcases List.mem_cons.1 ((h y).2 (List.mem_cons_self ..)) with e | hy
        · exact e.symm
        · have q1 := h1.1 y hy
          have q2 := h2.1 x hx
          unfold lxl at q1 q2
          omega
    subst e
    have : r = s := pw_ext h1.2 h2.2 fun z => by
      constructor
      · intro hz
        rcases List.mem_cons.1 ((h z).1 (List.mem_cons_of_mem _ hz)) with e | hz'
        · subst e
          have := h1.1 z hz
          unfold lxl at this
          omega
        · exact hz'
      · intro hz
        rcases List.mem_cons.1 ((h z).2 (List.mem_cons_of_mem _ hz)) with e | hz'
        · subst e
          have := h2.1 z hz
          unfold lxl at this
          omega
        · exact hz'
    rw [this]
theorem GV.ext {n m : Int} {l l' : List Lk} (h : GV n l) (h' : GV m l') (e : ∀ x, x ∈ l ↔ x ∈ l') : l = l' := pw_ext (gv_pw.1 h).2.2.2.2 (gv_pw.1 h').2.2.2.2 e
/-! ### A graph told pair by pair -/
def cell (f : Nat → Nat → Option Int) (a b : Nat) : List Lk := match f a b with | some c => [⟨a, b, c⟩] | none => []
def gridR (f : Nat → Nat → Option Int) (a j : Nat) : List Lk := (List.range j).flatMap fun t => cell f a (a + 1 + t)
def gridK (f : Nat → Nat → Option Int) (N k : Nat) : List Lk := (List.range k).flatMap fun a => gridR f a (N - 1 - a)
def grid (f : Nat → Nat → Option Int) (N : Nat) : List Lk := gridK f N N
theorem gridR_succ (f : Nat → Nat → Option Int) (a j : Nat) : gridR f a (j + 1) = gridR f a j ++ cell f a (a + 1 + j) := by
  unfold gridR
  rw [List.range_succ, List.flatMap_append]
  simp
theorem gridK_succ (f : Nat → Nat → Option Int) (N k : Nat) : gridK f N (k + 1) = gridK f N k ++ gridR f k (N - 1 - k) := by
  unfold gridK
  rw [List.range_succ, List.flatMap_append]
  simp
theorem cell_len (f : Nat → Nat → Option Int) (a b : Nat) : (cell f a b).length ≤ 1 := by
  unfold cell; split <;> simp
theorem gridR_len (f : Nat → Nat → Option Int) (a j : Nat) : (gridR f a j).length ≤ j := by
  induction j with
  | zero => simp [gridR]
  | succ j ih =>
    rw [gridR_succ, List.length_append]
    have := cell_len f a (a + 1 + j)
    omega
theorem gridK_len (f : Nat → Nat → Option Int) (N k : Nat) : (gridK f N k).length ≤ k * N := by
  induction k with
  | zero => simp [gridK]
  | succ k ih =>
    rw [gridK_succ, List.length_append, Nat.succ_mul]
    have := gridR_len f k (N - 1 - k)
    omega
theorem mem_cell {f : Nat → Nat → Option Int} {a b : Nat} {l : Lk} : l ∈ cell f a b ↔ ∃ c, f a b = some c ∧ l = ⟨a, b, c⟩ := by
  unfold cell
  split
  · rename_i c h
    rw [h]
    simp
  · rename_i h
    rw [h]
    simp
theorem mem_gridR {f : Nat → Nat → Option Int} {a j : Nat} {l : Lk} : l ∈ gridR f a j ↔ ∃ b c, a < b ∧ b ≤ a + j ∧ f a b = some c ∧ l = ⟨a, b, c⟩ := by
  unfold gridR
  rw [List.mem_flatMap]
  constructor
  · rintro ⟨t, ht, hl⟩
    obtain ⟨c, h1, h2⟩ := mem_cell.1 hl
    have := List.mem_range.1 ht
    exact ⟨a + 1 + t, c, by omega, by omega, h1, h2⟩
  · rintro ⟨b, c, h1, h2, h3, h4⟩
    refine ⟨b - a - 1, List.mem_range.2 (by omega), mem_cell.2 ⟨c, ?_, ?_⟩⟩
    · rw [show a + 1 + (b - a - 1) = b by omega]; exact h3
    · rw [show a + 1 + (b - a - 1) = b by omega]; exact h4
theorem mem_gridK {f : Nat → Nat → Option Int} {N k : Nat} {l : Lk} : l ∈ gridK f N k ↔ ∃ a b c, a < k ∧ a < b ∧ b < N ∧ f a b = some c ∧ l = ⟨a, b, c⟩ := by
  unfold gridK
  rw [List.mem_flatMap]
  constructor
  · rintro ⟨a, ha, hl⟩
    obtain ⟨b, c, h1, h2, h3, h4⟩ := mem_gridR.1 hl
    have := List.mem_range.1 ha
    exact ⟨a, b, c, this, h1, by omega, h3, h4⟩
  · rintro ⟨a, b, c, h1, h2, h3, h4, h5⟩
    exact ⟨a, List.mem_range.2 h1, mem_gridR.2 ⟨b, c, h2, by omega, h4, h5⟩⟩
theorem mem_grid {f : Nat → Nat → Option Int} {N : Nat} {l : Lk} : l ∈ grid f N ↔ ∃ a b c, a < b ∧ b < N ∧ f a b = some c ∧ l = ⟨a, b, c⟩ := by
  unfold grid
  rw [mem_gridK]
  constructor
  · rintro ⟨a, b, c, h1, h2, h3, h4, h5⟩; exact ⟨a, b, c, h2, h3, h4, h5⟩
  · rintro ⟨a, b, c, h2, h3, h4, h5⟩; exact ⟨a, b, c, by omega, h2, h3, h4, h5⟩
theorem gridR_pw (f : Nat → Nat → Option Int) (a j : Nat) : (gridR f a j).Pairwise lxl := by
  unfold gridR
  rw [List.pairwise_flatMap]
  refine ⟨fun t _ => ?_, ?_⟩
  · unfold cell; split <;> simp
  · refine List.Pairwise.imp ?_ (List.pairwise_lt_range (n := j))
    intro s t hst x hx y hy
    obtain ⟨c, _, rfl⟩ := mem_cell.1 hx
    obtain ⟨c', _, rfl⟩ := mem_cell.1 hy
    exact .inr ⟨rfl, by simp only []; omega⟩
theorem grid_pw (f : Nat → Nat → Option Int) (N : Nat) : (grid f N).Pairwise lxl := by
  unfold grid gridK
  rw [List.pairwise_flatMap]
  refine ⟨fun a _ => gridR_pw f a _, ?_⟩
  refine List.Pairwise.imp ?_ (List.pairwise_lt_range (n := N))
  intro s t hst x hx y hy
  obtain ⟨b, c, _, _, _, rfl⟩ := mem_gridR.1 hx
  obtain ⟨b', c', _, _, _, rfl⟩ := mem_gridR.1 hy
  exact .inl (by simp only []; omega)
theorem grid_gv {f : Nat → Nat → Option Int} {N : Nat} (h0 : 1 ≤ N) (h8 : N ≤ 8) (hc : ∀ a b c, a < b → b < N → f a b = some c → 1 ≤ c ∧ c ≤ 20) (hl : (grid f N).length ≤ 14) : GV N (grid f N) := by
  refine gv_pw.2 ⟨by omega, by omega, hl, fun l hm => ?_, grid_pw f N⟩
  obtain ⟨a, b, c, h1, h2, h3, rfl⟩ := mem_grid.1 hm
  have := hc a b c h1 h2 h3
  exact ⟨by simp only []; omega, by simp only []; omega, by simp only []; omega, this.1, this.2⟩
/-! ### The link between two nodes -/
/-- What the link between two nodes costs. -/
def lc (ls : List Lk) (a b : Int) : Option Int := if 0 ≤ lof ls a b then some (lk ls (lof ls a b).toNat).c else none
theorem lc_some {ls : List Lk} {a b c : Int} (h : lc ls a b = some c) : (⟨min a b, max a b, c⟩ : Lk) ∈ ls := by
  unfold lc at h
  rcases lof_cases ls a b with ⟨e, _⟩ | ⟨k, e, hk, h1, h2⟩
  · rw [e] at h; simp at h
  · rw [e] at h
    rw [if_pos (by omega)] at h
    injection h with h
    rw [Int.toNat_natCast] at h
    have : (⟨min a b, max a b, c⟩ : Lk) = lk ls k := by rw [← h1, ← h2, ← h]
    rw [this]
    exact lk_mem hk
theorem lc_none {ls : List Lk} {a b : Int} (h : lc ls a b = none) : ∀ c, (⟨min a b, max a b, c⟩ : Lk) ∉ ls := by
  intro c hm
  unfold lc at h
  rcases lof_cases ls a b with ⟨e, hn⟩ | ⟨k, e, hk, h1, h2⟩
  · obtain ⟨i, hi, e2⟩ := mem_lk hm
    have := hn i hi
    rw [e2, show hitB (min a b) (max a b) ⟨min a b, max a b, c⟩ = true from hit_yes rfl rfl] at this
    cases this
  · rw [e, if_pos (by omega)] at h
    cases h
theorem pw_uniq {ls : List Lk} (h : ls.Pairwise lxl) {x y : Lk} (hx : x ∈ ls) (hy : y ∈ ls) (ha : x.a = y.a) (hb : x.b = y.b) : x = y := by
  obtain ⟨i, hi, rfl⟩ := List.getElem_of_mem hx
  obtain ⟨j, hj, rfl⟩ := List.getElem_of_mem hy
  rcases Nat.lt_trichotomy i j with h1 | h1 | h1
  · have := List.pairwise_iff_getElem.1 h i j hi hj h1
    unfold lxl at this
    omega
  · subst h1; rfl
  · have := List.pairwise_iff_getElem.1 h j i hj hi h1
    unfold lxl at this
    omega
theorem GV.pw {n : Int} {ls : List Lk} (h : GV n ls) : ls.Pairwise lxl := (gv_pw.1 h).2.2.2.2
theorem lc_iff {ls : List Lk} (h : ls.Pairwise lxl) {a b c : Int} : lc ls a b = some c ↔ (⟨min a b, max a b, c⟩ : Lk) ∈ ls := by
  constructor
  · exact lc_some
  · intro hm
    cases e : lc ls a b with
    | none => exact absurd hm (lc_none e c)
    | some c' =>
      have := pw_uniq h (lc_some e) hm rfl rfl
      injection this with _ _ e3
      rw [e3]
theorem lc_symm (ls : List Lk) (a b : Int) : lc ls a b = lc ls b a := by
  have : lof ls a b = lof ls b a := by unfold lof; rw [show min a b = min b a by omega, show max a b = max b a by omega]
  unfold lc
  rw [this]
theorem lc_mem {ls : List Lk} (h : ls.Pairwise lxl) {l : Lk} (hl : l ∈ ls) (hab : l.a ≤ l.b) : lc ls l.a l.b = some l.c := (lc_iff h).2 (by rw [show min l.a l.b = l.a by omega, show max l.a l.b = l.b by omega]; exact hl)
theorem lc_cost {n : Int} {ls : List Lk} (h : GV n ls) {a b c : Int} (e : lc ls a b = some c) : 1 ≤ c ∧ c ≤ 20 := by
  have := h.ok (lc_some e)
  exact ⟨this.2.2.2.1, this.2.2.2.2⟩
theorem lc_lof {ls : List Lk} {a b : Int} : (lc ls a b).isSome = decide (0 ≤ lof ls a b) := by
  unfold lc
  by_cases h : 0 ≤ lof ls a b <;> simp [h]
theorem lc_at {ls : List Lk} {a b c : Int} (e : lc ls a b = some c) : 0 ≤ lof ls a b ∧ lof ls a b < ls.length ∧ lk ls (lof ls a b).toNat = ⟨min a b, max a b, c⟩ := by
  unfold lc at e
  rcases lof_cases ls a b with ⟨e1, hn⟩ | ⟨k, e1, hk, h1, h2⟩
  · rw [e1] at e; simp at e
  · rw [e1, if_pos (by omega), Int.toNat_natCast] at e
    injection e with e
    rw [e1, Int.toNat_natCast]
    exact ⟨by omega, by omega, by rw [← h1, ← h2, ← e]⟩
theorem lc_no {ls : List Lk} {a b : Int} (e : lc ls a b = none) : lof ls a b = -1 := by
  unfold lc at e
  rcases lof_cases ls a b with ⟨e1, hn⟩ | ⟨k, e1, hk, h1, h2⟩
  · exact e1
  · rw [e1, if_pos (by omega)] at e; cases e
/-- The link of two nodes of a grid. -/
theorem lc_grid {f : Nat → Nat → Option Int} {N a b : Nat} (hab : a < b) (hb : b < N) : lc (grid f N) a b = f a b := by
  cases e : f a b with
  | some c => exact (lc_iff (grid_pw f N)).2 (mem_grid.2 ⟨a, b, c, hab, hb, e, by rw [show min (a : Int) b = a by omega, show max (a : Int) b = b by omega]⟩)
  | none =>
    cases e2 : lc (grid f N) a b with
    | none => rfl
    | some c =>
      obtain ⟨x, y, z, h1, h2, h3, h4⟩ := mem_grid.1 (lc_some e2)
      injection h4 with q1 q2 q3
      have ex : x = a := by omega
      have ey : y = b := by omega
      rw [ex, ey, e] at h3
      cases h3
/-- A valid graph is the grid of its own links. -/
theorem GV.grid {N : Nat} {ls : List Lk} (h : GV N ls) : grid (fun a b => lc ls a b) N = ls := by
  refine pw_ext (grid_pw _ N) h.pw fun l => ?_
  rw [mem_grid]
  constructor
  · rintro ⟨a, b, c, h1, h2, h3, rfl⟩
    have := lc_some h3
    rwa [show min (a : Int) b = a by omega, show max (a : Int) b = b by omega] at this
  · intro hl
    have := h.ok hl
    unfold okL at this
    refine ⟨l.a.toNat, l.b.toNat, l.c, by omega, by omega, ?_, ?_⟩
    · rw [show ((l.a.toNat : Nat) : Int) = l.a by omega, show ((l.b.toNat : Nat) : Int) = l.b by omega]
      exact lc_mem h.pw hl (by omega)
    · rw [show ((l.a.toNat : Nat) : Int) = l.a by omega, show ((l.b.toNat : Nat) : Int) = l.b by omega]
theorem grid_congr {f g : Nat → Nat → Option Int} {N : Nat} (h : ∀ a b, a < b → b < N → f a b = g a b) : grid f N = grid g N := by
  refine pw_ext (grid_pw f N) (grid_pw g N) fun l => ?_
  rw [mem_grid, mem_grid]
  constructor
  · rintro ⟨a, b, c, h1, h2, h3, h4⟩; exact ⟨a, b, c, h1, h2, by rw [← h a b h1 h2]; exact h3, h4⟩
  · rintro ⟨a, b, c, h1, h2, h3, h4⟩; exact ⟨a, b, c, h1, h2, by rw [h a b h1 h2]; exact h3, h4⟩
end Go.Proofs.Ytjdebphkndfolaa
