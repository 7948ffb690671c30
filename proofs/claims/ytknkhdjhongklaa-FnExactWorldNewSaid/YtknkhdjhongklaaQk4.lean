/- Part 4 of the proof: Pa Shelf Mso B3 Mrp Ml Mrb Mlb SA Pb SC Pq SX Pk1 UD Pr Ps Py SW Pe1 Pz Px Pw1 Pw Pw2 Pw3 Pw4 Pw5 Pw8 Pe3 Pe4 Pe7 Pe8 Pe9 Pk5 KX UE KA. -/
import Derived.Shelf.Small.Bits
import Derived.Shelf.Small.Wraps
import Derived.Shelf.Strconv.Itoa0
import Derived.Shelf.Sort.Plain
import Derived.Shelf.Bits.Mul64
import Derived.Ground.Names2Prog
import Derived.Shelf.Slices.SearchI
import Derived.Shelf.Slices.In.SortNone
import Derived.Test.YtknkhdjhongklaaProg
import Derived.Sort.OwnSortedInts
import Derived.BigQuiet
import Derived.Deep.QuietTactic
import Derived.Deep.DeepCutAuto
import Derived.Deep.LoopGhost
import Derived.Laws.CopyOwn
import Derived.Deep.OwnRows
import Derived.Deep.AppendSrc
import Derived.Laws.CopyRow
import Derived.Test.YtknkhdjhongklaaQk3
set_option linter.unusedSimpArgs false
set_option linter.unusedVariables false
section
namespace Go.Proofs.Ytknkhdjhongklaa
open Go.RowKit

def LkAt (n : Int) (ls : List Lk) (i : Nat) : Prop :=
  0 ≤ (lk ls i).a ∧ (lk ls i).a < (lk ls i).b ∧ (lk ls i).b < n ∧ 1 ≤ (lk ls i).c ∧ (lk ls i).c ≤ 20 ∧
    (0 < i → (lk ls (i - 1)).a < (lk ls i).a ∨ (lk ls (i - 1)).a = (lk ls i).a ∧ (lk ls (i - 1)).b < (lk ls i).b)
instance (n : Int) (ls : List Lk) (i : Nat) : Decidable (LkAt n ls i) := by unfold LkAt; infer_instance
def GV (n : Int) (ls : List Lk) : Prop := 1 ≤ n ∧ n ≤ 8 ∧ ls.length ≤ 14 ∧ ∀ i, i < ls.length → LkAt n ls i
instance (n : Int) (ls : List Lk) : Decidable (GV n ls) := by unfold GV; infer_instance
def gv (n : Int) (ls : List Lk) : Bool := decide (GV n ls)
theorem gv_t {n : Int} {ls : List Lk} (h : gv n ls = true) : GV n ls := of_decide_eq_true h
theorem gv_f {n : Int} {ls : List Lk} (h : ¬ GV n ls) : gv n ls = false := decide_eq_false h
theorem gv_at {n : Int} {ls : List Lk} {k : Nat} (hk : k < ls.length) (h : 1 ≤ n → n ≤ 8 → ¬ LkAt n ls k) : gv n ls = false :=
  gv_f fun g => h g.1 g.2.1 (g.2.2.2 k hk)
theorem gv_end {n : Int} {ls : List Lk} {k : Nat} (hl : ls.length = k) (h : 1 ≤ n → n ≤ 8 → ∀ i, i < k → LkAt n ls i) : gv n ls = (inB n 1 8 && decide ((k : Int) ≤ 14)) := by
  subst hl
  unfold gv GV inB
  by_cases h1 : 1 ≤ n ∧ n ≤ 8
  · by_cases h2 : ls.length ≤ 14
    · have h3 := h h1.1 h1.2
      have : ((ls.length : Nat) : Int) ≤ 14 := by omega
      simp [h1, h2, this]
      exact fun i hi => h3 i hi
    · have : ¬ ((ls.length : Nat) : Int) ≤ 14 := by omega
      simp [h1, h2, this]
  · have : ¬ (1 ≤ n ∧ n ≤ 8 ∧ ls.length ≤ 14 ∧ ∀ i, i < ls.length → LkAt n ls i) := fun g => h1 ⟨g.1, g.2.1⟩
    simp [this, h1]
end Go.Proofs.Ytknkhdjhongklaa

namespace Go.Proofs.Ytknkhdjhongklaa
open Go.RowKit

def relaxB (d : List Int) (x y : Nat) (c : Int) : Bool := decide (0 ≤ iz d x) && (decide (iz d y < 0) || decide (iz d x + c < iz d y))
def relax (d : List Int) (x y : Nat) (c : Int) : List Int := if relaxB d x y c then d.set y (iz d x + c) else d
def relaxL (d : List Int) (l : Lk) : List Int := relax (relax d l.a.toNat l.b.toNat l.c) l.b.toNat l.a.toNat l.c
def sweep (ls : List Lk) (d : List Int) : List Int := ls.foldl relaxL d
def dinit (n f : Nat) : List Int := (List.replicate n (-1)).set f 0
def rounds (ls : List Lk) (d : List Int) : Nat → List Int
  | 0 => d
  | k + 1 => sweep ls (rounds ls d k)
def dst (n : Nat) (ls : List Lk) (f r i : Nat) : List Int := (ls.take i).foldl relaxL (rounds ls (dinit n f) r)
def dists (n : Nat) (ls : List Lk) (f : Nat) : List Int := rounds ls (dinit n f) n

theorem GV.at_ {n : Int} {ls : List Lk} (h : GV n ls) {i : Nat} (hi : i < ls.length) : ∃ x y : Nat, (lk ls i).a = x ∧ (lk ls i).b = y ∧ x < y ∧ (y : Int) < n ∧ 1 ≤ (lk ls i).c ∧ (lk ls i).c ≤ 20 := by
  have := h.2.2.2 i hi
  unfold LkAt at this
  exact ⟨(lk ls i).a.toNat, (lk ls i).b.toNat, by omega, by omega, by omega, by omega, by omega, by omega⟩
end Go.Proofs.Ytknkhdjhongklaa

namespace Go.Proofs.Ytknkhdjhongklaa
open Go.RowKit

structure Src (d : List Int) (f : Nat) : Prop where
  zero : iz d f = 0
  low : ∀ j, -1 ≤ iz d j
  only : ∀ j, j < d.length → iz d j = 0 → j = f
end Go.Proofs.Ytknkhdjhongklaa

namespace Go.Proofs.Ytknkhdjhongklaa
open Go.RowKit

def Adj (ls : List Lk) (x y : Nat) (c : Int) : Prop := ∃ l, l ∈ ls ∧ l.c = c ∧ (l.a = x ∧ l.b = y ∨ l.a = y ∧ l.b = x)
theorem Adj.symm {ls : List Lk} {x y : Nat} {c : Int} (h : Adj ls x y c) : Adj ls y x c := by
  obtain ⟨l, h1, h2, h3⟩ := h
  exact ⟨l, h1, h2, h3.symm⟩
inductive Wk (ls : List Lk) (u : Nat) : Nat → Nat → Int → Prop
  | nil : Wk ls u 0 u 0
  | step {k x y : Nat} {s c : Int} : Wk ls u k x s → Adj ls x y c → Wk ls u (k + 1) y (s + c)
theorem Wk.append {ls : List Lk} {u v : Nat} {k : Nat} {s : Int} (h : Wk ls u k v s) {m w : Nat} {t : Int} (h' : Wk ls v m w t) : Wk ls u (k + m) w (s + t) := by
  induction h' with
  | nil => simpa using h
  | step _ ha ih => rw [← Int.add_assoc]; exact ih.step ha
theorem Wk.one {ls : List Lk} {x y : Nat} {c : Int} (h : Adj ls x y c) : Wk ls x 1 y c := by simpa using Wk.nil.step h
theorem Wk.symm {ls : List Lk} {u v k : Nat} {s : Int} (h : Wk ls u k v s) : Wk ls v k u s := by
  induction h with
  | nil => exact .nil
  | step _ ha ih =>
    have := (Wk.one ha.symm).append ih
    rwa [Nat.add_comm, Int.add_comm] at this
theorem Wk.mono {ls ls' : List Lk} (hs : ∀ x y c, Adj ls x y c → Adj ls' x y c) {u v k : Nat} {s : Int} (h : Wk ls u k v s) : Wk ls' u k v s := by
  induction h with
  | nil => exact .nil
  | step _ ha ih => exact ih.step (hs _ _ _ ha)
def Ends (n : Nat) (ls : List Lk) : Prop := ∀ l ∈ ls, ∃ x y : Nat, l.a = x ∧ l.b = y ∧ x < n ∧ y < n
theorem Adj.lt {n : Nat} {ls : List Lk} (he : Ends n ls) {x y : Nat} {c : Int} (h : Adj ls x y c) : x < n ∧ y < n := by
  obtain ⟨l, h1, _, h3⟩ := h
  obtain ⟨a, b, ha, hb, ha', hb'⟩ := he l h1
  rcases h3 with ⟨e1, e2⟩ | ⟨e1, e2⟩ <;> omega
def Le (d' d : List Int) : Prop := ∀ v, 0 ≤ iz d v → 0 ≤ iz d' v ∧ iz d' v ≤ iz d v
theorem Le.refl (d : List Int) : Le d d := fun _ h => ⟨h, Int.le_refl _⟩
theorem Le.trans {a b c : List Int} (h : Le a b) (k : Le b c) : Le a c := fun v hv => by
  have h1 := k v hv
  have h2 := h v h1.1
  exact ⟨h2.1, by omega⟩
end Go.Proofs.Ytknkhdjhongklaa

namespace Go.Proofs.Ytknkhdjhongklaa
open Go.RowKit

def Sat {α : Type} (o : Option α) (Q : α → Prop) : Prop := ∃ r, o = some r ∧ Q r
theorem Sat.some {α : Type} {x : α} {Q : α → Prop} (h : Q x) : Sat (some x) Q := ⟨x, rfl, h⟩
theorem Sat.mono {α : Type} {o : Option α} {Q R : α → Prop} (h : Sat o Q) (k : ∀ x, Q x → R x) : Sat o R := by
  obtain ⟨r, h1, h2⟩ := h; exact ⟨r, h1, k r h2⟩
theorem Sat.bind {α β : Type} {o : Option α} {f : α → Option β} {Q : β → Prop} (h : Sat o fun x => Sat (f x) Q) : Sat (o.bind f) Q := by
  obtain ⟨x, rfl, y, h1, h2⟩ := h; exact ⟨y, h1, h2⟩
theorem Sat.bnd {α β : Type} {o : Option α} {R : α → Prop} {f : α → Option β} {Q : β → Prop} (h : Sat o R) (k : ∀ x, R x → Sat (f x) Q) : Sat (o.bind f) Q := Sat.bind (h.mono k)
theorem Sat.ite {α : Type} {c : Bool} {a b : Option α} {Q : α → Prop} (h : c = true → Sat a Q) (k : c = false → Sat b Q) : Sat (bif c then a else b) Q := by
  cases c with
  | true => exact h rfl
  | false => exact k rfl
theorem Sat.gd {α : Type} {c : Bool} {a b : Option α} {Q : α → Prop} (hc : c = true) (h : Sat a Q) : Sat (bif c then a else b) Q := by subst hc; exact h
theorem Sat.no {α : Type} {c : Bool} {a b : Option α} {Q : α → Prop} (hc : c = false) (h : Sat b Q) : Sat (bif c then a else b) Q := by subst hc; exact h
theorem Sat.out {α : Type} {o : Option α} {x : α} (h : Sat o (· = x)) : o = Option.some x := by obtain ⟨r, h1, h2⟩ := h; rw [h1, h2]
theorem Sat.loop {σ τ : Type} {B : σ → Option (σ ⊕ τ)} (I : σ → Prop) (μ : σ → Nat) {Q : τ → Prop} (hB : ∀ s, I s → Sat (B s) fun r => match r with | .inl s' => I s' ∧ μ s' < μ s | .inr x => Q x) : ∀ (n : Nat) (s : σ), μ s < n → I s → Sat (lp B n s) Q
  | 0, _, h, _ => by omega
  | n + 1, s, h, hi => by
    unfold Go.Proofs.Ytknkhdjhongklaa.lp
    refine Sat.bnd (hB s hi) fun r hr => ?_
    cases r with
    | inl s' => exact Sat.loop I μ hB n s' (by have := hr.2; omega) hr.1
    | inr x => exact .some hr
theorem Sat.count {σ τ : Type} {B : σ → Option (σ ⊕ τ)} (n : Nat) (I : Nat → σ → Prop) {Q : τ → Prop} (hB : ∀ k s, k ≤ n → I k s → Sat (B s) fun r => match r with | .inl s' => k < n ∧ I (k + 1) s' | .inr x => Q x) {m : Nat} {s : σ} {k : Nat} (hk : k ≤ n) (hm : n - k < m) (h : I k s) : Sat (lp B m s) Q := by
  induction m generalizing s k with
  | zero => omega
  | succ m ih =>
    unfold Go.Proofs.Ytknkhdjhongklaa.lp
    refine Sat.bnd (hB k s hk h) fun r hr => ?_
    cases r with
    | inl s' => exact ih (k := k + 1) (by have := hr.1; omega) (by omega) hr.2
    | inr x => exact .some hr
theorem w64 {x : Int} (h1 : -9223372036854775808 ≤ x) (h2 : x ≤ 9223372036854775807) : wrap64 x = x := IntWalk.wrap64_in x (by omega)
theorem inR_t {z : Int} {n : Nat} (h1 : 0 ≤ z) (h2 : z < n) : inR z n = true := by simp [inR, h1, h2]
end Go.Proofs.Ytknkhdjhongklaa

namespace Go.Proofs.Ytknkhdjhongklaa
open Go.RowKit

def Asc (zs : List Int) (n : Int) : Prop := ∀ i, i < zs.length → 0 ≤ iz zs i ∧ iz zs i < n ∧ (0 < i → iz zs (i - 1) < iz zs i)
instance (zs : List Int) (n : Int) : Decidable (Asc zs n) := by unfold Asc; infer_instance
def asc (zs : List Int) (n : Int) : Bool := decide (Asc zs n)
theorem Asc.le {zs : List Int} {n : Int} (h : Asc zs n) {i : Nat} (j : Nat) (hj : i + j < zs.length) : iz zs i ≤ iz zs (i + j) := by
  induction j with
  | zero => exact Int.le_refl _
  | succ j ih =>
    have h1 := (h (i + (j + 1)) hj).2.2 (by omega)
    have h2 := ih (by omega)
    rw [show i + (j + 1) - 1 = i + j by omega] at h1
    omega
def bv (n : Int) (ls : List Lk) (bs : List Int) : Bool := gv n ls && decide (0 < bs.length) && asc bs n
def summL (d bs : List Int) (k : Nat) : List Int := (bs.take k).map fun b => iz d b.toNat
def summ (n : Int) (ls : List Lk) (bs : List Int) (t : Int) : List Int :=
  if bv n ls bs && inB t 0 (n - 1) then summL (dists n.toNat ls t.toNat) bs bs.length else []
def routeOk (na : Int) (la : List Lk) (nb : Int) (lb : List Lk) (bs : List Int) (f t : Int) : Bool := (bv na la bs && inB f 0 (na - 1)) && (bv nb lb bs && inB t 0 (nb - 1))
structure ROk (na nb f t : Nat) (la lb : List Lk) (bs : List Int) : Prop where
  va : gv na la = true
  vb : gv nb lb = true
  ga : GV na la
  gb : GV nb lb
  aa : Asc bs na
  ab : Asc bs nb
  pos : 0 < bs.length
  hf : f < na
  ht : t < nb
  one : summ na la bs f = summL (dists na la f) bs bs.length
  two : summ nb lb bs t = summL (dists nb lb t) bs bs.length
theorem ROk.ok {na nb f t : Nat} {la lb : List Lk} {bs : List Int} (h : ROk na nb f t la lb bs) : routeOk na la nb lb bs f t = true := by
  have i1 : inB (f : Int) 0 ((na : Int) - 1) = true := inB_mk (by have := h.hf; omega)
  have i2 : inB (t : Int) 0 ((nb : Int) - 1) = true := inB_mk (by have := h.ht; omega)
  simp [routeOk, bv, h.va, h.vb, i1, i2, h.pos, asc, h.aa, h.ab]
def hitB (x y : Int) (l : Lk) : Bool := decide (l.a = x) && decide (l.b = y)
def lof (ls : List Lk) (a b : Int) : Int := if ls.findIdx (hitB (min a b) (max a b)) < ls.length then ls.findIdx (hitB (min a b) (max a b)) else -1
theorem hit_lk {ls : List Lk} {i : Nat} (h : i < ls.length) : lk ls i = ls[i] := by simp [lk, List.getD, List.getElem?_eq_getElem h]
theorem lof_hit {ls : List Lk} {a b : Int} {k : Nat} (hk : k < ls.length) (h1 : hitB (min a b) (max a b) (lk ls k) = true) (h : ∀ i, i < k → hitB (min a b) (max a b) (lk ls i) = false) : lof ls a b = k := by
  have e : ls.findIdx (hitB (min a b) (max a b)) = k := (List.findIdx_eq hk).2 ⟨by rw [← hit_lk hk]; exact h1, fun j hj => by rw [← hit_lk (by omega)]; exact h j hj⟩
  unfold lof
  rw [e, if_pos hk]
theorem lof_miss {ls : List Lk} {a b : Int} (h : ∀ i, i < ls.length → hitB (min a b) (max a b) (lk ls i) = false) : lof ls a b = -1 := by
  have e : ls.findIdx (hitB (min a b) (max a b)) = ls.length := List.findIdx_eq_length_of_false fun x hx => by
    obtain ⟨i, hi, rfl⟩ := List.mem_iff_getElem.1 hx
    rw [← hit_lk hi]; exact h i hi
  unfold lof
  rw [e, if_neg (by omega)]
theorem hit_t {x y : Int} {l : Lk} (h : hitB x y l = true) : l.a = x ∧ l.b = y := by simpa [hitB] using h
theorem lof_cases (ls : List Lk) (a b : Int) : (lof ls a b = -1 ∧ ∀ i, i < ls.length → hitB (min a b) (max a b) (lk ls i) = false) ∨ ∃ k : Nat, lof ls a b = k ∧ k < ls.length ∧ (lk ls k).a = min a b ∧ (lk ls k).b = max a b := by
  by_cases h : ls.findIdx (hitB (min a b) (max a b)) < ls.length
  · right
    refine ⟨ls.findIdx (hitB (min a b) (max a b)), by unfold lof; rw [if_pos h], h, ?_⟩
    have := (List.findIdx_getElem (w := h))
    rw [← hit_lk h] at this
    exact hit_t this
  · left
    refine ⟨by unfold lof; rw [if_neg h], fun i hi => ?_⟩
    have hle := List.findIdx_le_length (p := hitB (min a b) (max a b)) (xs := ls)
    have := List.not_of_lt_findIdx (p := hitB (min a b) (max a b)) (xs := ls) (i := i) (by omega)
    rw [hit_lk hi]
    simpa using this
theorem hit_no {x y : Int} {l : Lk} (h : ¬ (l.a = x ∧ l.b = y)) : hitB x y l = false := by
  unfold hitB
  rw [Bool.and_eq_false_iff]
  by_cases h1 : l.a = x
  · right; exact decide_eq_false fun e => h ⟨h1, e⟩
  · left; exact decide_eq_false h1
theorem hit_yes {x y : Int} {l : Lk} (h1 : l.a = x) (h2 : l.b = y) : hitB x y l = true := by simp [hitB, h1, h2]
def otherE (l : Lk) (n : Int) : Int := if n = l.a then l.b else if n = l.b then l.a else 0
def isEnd (l : Lk) (n : Int) : Bool := decide (n = l.a ∨ n = l.b)
def others (ls : List Lk) (n : Int) (k : Nat) : List Int := ((ls.take k).filter (fun l => isEnd l n)).map (fun l => otherE l n)
theorem others_succ (ls : List Lk) (n : Int) (k : Nat) (h : k < ls.length) : others ls n (k + 1) = if isEnd (lk ls k) n then others ls n k ++ [otherE (lk ls k) n] else others ls n k := by
  have e : ls[k]? = some (lk ls k) := lk_get h
  unfold others
  rw [List.take_add_one, e]
  cases hq : isEnd (lk ls k) n <;> simp [hq]
theorem others_len (ls : List Lk) (n : Int) (k : Nat) : (others ls n k).length ≤ k := by
  unfold others
  rw [List.length_map]
  exact Nat.le_trans (List.length_filter_le _ _) (List.length_take_le _ _)
def nbS (ls : List Lk) (m : Int) (k : Nat) : List Int := ((List.range k).filter (fun x : Nat => decide (0 ≤ lof ls m (x : Int)))).map fun x : Nat => (x : Int)
theorem nbS_succ (ls : List Lk) (m : Int) (k : Nat) : nbS ls m (k + 1) = if 0 ≤ lof ls m k then nbS ls m k ++ [(k : Int)] else nbS ls m k := by
  unfold nbS
  rw [List.range_succ, List.filter_append, List.map_append]
  by_cases h : 0 ≤ lof ls m k <;> simp [h]
theorem nbS_len (ls : List Lk) (m : Int) (k : Nat) : (nbS ls m k).length ≤ k := by
  unfold nbS
  rw [List.length_map]
  exact Nat.le_trans (List.length_filter_le _ _) (by simp)
def pk (la lb : List Lk) (n m : Int) : List Lk :=
  if 0 ≤ lof la n m ∧ (lof lb n m < 0 ∨ (lk la (lof la n m).toNat).c ≤ (lk lb (lof lb n m).toNat).c) then [⟨n, m, (lk la (lof la n m).toNat).c⟩]
  else if 0 ≤ lof lb n m then [⟨n, m, (lk lb (lof lb n m).toNat).c⟩] else []
end Go.Proofs.Ytknkhdjhongklaa

namespace Go.Proofs.Ytknkhdjhongklaa
open Go.RowKit
set_option linter.unusedSimpArgs false
set_option linter.unusedVariables false

def okL (n : Int) (l : Lk) : Prop := 0 ≤ l.a ∧ l.a < l.b ∧ l.b < n ∧ 1 ≤ l.c ∧ l.c ≤ 20
def lxl (l m : Lk) : Prop := l.a < m.a ∨ l.a = m.a ∧ l.b < m.b
theorem lxl.trans {a b c : Lk} (h : lxl a b) (k : lxl b c) : lxl a c := by unfold lxl at *; omega
theorem lk_mem {ls : List Lk} {i : Nat} (h : i < ls.length) : lk ls i ∈ ls := List.mem_of_getElem? (lk_get h)
theorem mem_lk {ls : List Lk} {l : Lk} (h : l ∈ ls) : ∃ i, i < ls.length ∧ lk ls i = l := by
  obtain ⟨i, hi, rfl⟩ := List.getElem_of_mem h
  exact ⟨i, hi, hit_lk hi⟩
theorem lkAt_lt {n : Int} {ls : List Lk} (h : ∀ i, i < ls.length → LkAt n ls i) : ∀ (d i : Nat), i + d + 1 < ls.length → lxl (lk ls i) (lk ls (i + d + 1))
  | 0, i, hi => by
    have := (h (i + 1) hi).2.2.2.2.2 (by omega)
    simpa [lxl] using this
  | d + 1, i, hi => by
    have h1 := lkAt_lt h d i (by omega)
    have h2 := (h (i + (d + 1) + 1) hi).2.2.2.2.2 (by omega)
    rw [Nat.add_sub_cancel] at h2
    exact h1.trans h2
theorem gv_pw {n : Int} {ls : List Lk} : GV n ls ↔ 1 ≤ n ∧ n ≤ 8 ∧ ls.length ≤ 14 ∧ (∀ l ∈ ls, okL n l) ∧ ls.Pairwise lxl := by
  constructor
  · rintro ⟨h1, h2, h3, h⟩
    refine ⟨h1, h2, h3, fun l hl => ?_, List.pairwise_iff_getElem.2 fun i j hi hj hij => ?_⟩
    · obtain ⟨i, hi, rfl⟩ := mem_lk hl
      have := h i hi
      unfold LkAt at this
      unfold okL
      omega
    · have := lkAt_lt h (j - i - 1) i (by omega)
      rw [show i + (j - i - 1) + 1 = j by omega, hit_lk hi, hit_lk hj] at this
      exact this
  · rintro ⟨h1, h2, h3, h, hp⟩
    refine ⟨h1, h2, h3, fun i hi => ?_⟩
    have h4 := h _ (lk_mem hi)
    unfold okL at h4
    refine ⟨h4.1, h4.2.1, h4.2.2.1, h4.2.2.2.1, h4.2.2.2.2, fun h0 => ?_⟩
    have := List.pairwise_iff_getElem.1 hp (i - 1) i (by omega) hi (by omega)
    rw [← hit_lk, ← hit_lk] at this
    exact this
theorem GV.ok {n : Int} {ls : List Lk} (h : GV n ls) {l : Lk} (hl : l ∈ ls) : okL n l := (gv_pw.1 h).2.2.2.1 l hl
theorem pw_ext : ∀ {l l' : List Lk}, l.Pairwise lxl → l'.Pairwise lxl → (∀ x, x ∈ l ↔ x ∈ l') → l = l'
  | [], [], _, _, _ => rfl
  | [], y :: s, _, _, h => by have := (h y).2 (List.mem_cons_self ..); simp at this
  | x :: r, [], _, _, h => by have := (h x).1 (List.mem_cons_self ..); simp at this
  | x :: r, y :: s, h1, h2, h => by
    have h1 := List.pairwise_cons.1 h1
    have h2 := List.pairwise_cons.1 h2
    have e : x = y := by
      rcases List.mem_cons.1 ((h x).1 (List.mem_cons_self ..)) with e | hx
      · exact e
      · rcases List.mem_cons.1 ((h y).2 (List.mem_cons_self ..)) with e | hy
        · exact e.symm
        · have q1 := h1.1 y hy
          have q2 := h2.1 x hx
          unfold lxl at q1 q2
          omega
    subst e
    have : r = s := pw_ext h1.2 h2.2 fun z => by
      constructor
      · intro hz
        rcases List.mem_cons.1 ((h z).1 (List.mem_cons_of_mem _ hz)) with e | hz'
        · subst e
          have := h1.1 z hz
          unfold lxl at this
          omega
        · exact hz'
      · intro hz
        rcases List.mem_cons.1 ((h z).2 (List.mem_cons_of_mem _ hz)) with e | hz'
        · subst e
          have := h2.1 z hz
          unfold lxl at this
          omega
        · exact hz'
    rw [this]
theorem GV.ext {n m : Int} {l l' : List Lk} (h : GV n l) (h' : GV m l') (e : ∀ x, x ∈ l ↔ x ∈ l') : l = l' := pw_ext (gv_pw.1 h).2.2.2.2 (gv_pw.1 h').2.2.2.2 e
def cell (f : Nat → Nat → Option Int) (a b : Nat) : List Lk := match f a b with | some c => [⟨a, b, c⟩] | none => []
def lc (ls : List Lk) (a b : Int) : Option Int := if 0 ≤ lof ls a b then some (lk ls (lof ls a b).toNat).c else none
theorem lc_some {ls : List Lk} {a b c : Int} (h : lc ls a b = some c) : (⟨min a b, max a b, c⟩ : Lk) ∈ ls := by
  unfold lc at h
  rcases lof_cases ls a b with ⟨e, _⟩ | ⟨k, e, hk, h1, h2⟩
  · rw [e] at h; simp at h
  · rw [e] at h
    rw [if_pos (by omega)] at h
    injection h with h
    rw [Int.toNat_natCast] at h
    have : (⟨min a b, max a b, c⟩ : Lk) = lk ls k := by rw [← h1, ← h2, ← h]
    rw [this]
    exact lk_mem hk
theorem lc_none {ls : List Lk} {a b : Int} (h : lc ls a b = none) : ∀ c, (⟨min a b, max a b, c⟩ : Lk) ∉ ls := by
  intro c hm
  unfold lc at h
  rcases lof_cases ls a b with ⟨e, hn⟩ | ⟨k, e, hk, h1, h2⟩
  · obtain ⟨i, hi, e2⟩ := mem_lk hm
    have := hn i hi
    rw [e2, show hitB (min a b) (max a b) ⟨min a b, max a b, c⟩ = true from hit_yes rfl rfl] at this
    cases this
  · rw [e, if_pos (by omega)] at h
    cases h
theorem pw_uniq {ls : List Lk} (h : ls.Pairwise lxl) {x y : Lk} (hx : x ∈ ls) (hy : y ∈ ls) (ha : x.a = y.a) (hb : x.b = y.b) : x = y := by
  obtain ⟨i, hi, rfl⟩ := List.getElem_of_mem hx
  obtain ⟨j, hj, rfl⟩ := List.getElem_of_mem hy
  rcases Nat.lt_trichotomy i j with h1 | h1 | h1
  · have := List.pairwise_iff_getElem.1 h i j hi hj h1
    unfold lxl at this
    omega
  · subst h1; rfl
  · have := List.pairwise_iff_getElem.1 h j i hj hi h1
    unfold lxl at this
    omega
theorem GV.pw {n : Int} {ls : List Lk} (h : GV n ls) : ls.Pairwise lxl := (gv_pw.1 h).2.2.2.2
theorem lc_iff {ls : List Lk} (h : ls.Pairwise lxl) {a b c : Int} : lc ls a b = some c ↔ (⟨min a b, max a b, c⟩ : Lk) ∈ ls := by
  constructor
  · exact lc_some
  · intro hm
    cases e : lc ls a b with
    | none => exact absurd hm (lc_none e c)
    | some c' =>
      have := pw_uniq h (lc_some e) hm rfl rfl
      injection this with _ _ e3
      rw [e3]
theorem lc_symm (ls : List Lk) (a b : Int) : lc ls a b = lc ls b a := by
  have : lof ls a b = lof ls b a := by unfold lof; rw [show min a b = min b a by omega, show max a b = max b a by omega]
  unfold lc
  rw [this]
theorem lc_mem {ls : List Lk} (h : ls.Pairwise lxl) {l : Lk} (hl : l ∈ ls) (hab : l.a ≤ l.b) : lc ls l.a l.b = some l.c := (lc_iff h).2 (by rw [show min l.a l.b = l.a by omega, show max l.a l.b = l.b by omega]; exact hl)
theorem lc_cost {n : Int} {ls : List Lk} (h : GV n ls) {a b c : Int} (e : lc ls a b = some c) : 1 ≤ c ∧ c ≤ 20 := by
  have := h.ok (lc_some e)
  exact ⟨this.2.2.2.1, this.2.2.2.2⟩
theorem lc_lof {ls : List Lk} {a b : Int} : (lc ls a b).isSome = decide (0 ≤ lof ls a b) := by
  unfold lc
  by_cases h : 0 ≤ lof ls a b <;> simp [h]
theorem lc_at {ls : List Lk} {a b c : Int} (e : lc ls a b = some c) : 0 ≤ lof ls a b ∧ lof ls a b < ls.length ∧ lk ls (lof ls a b).toNat = ⟨min a b, max a b, c⟩ := by
  unfold lc at e
  rcases lof_cases ls a b with ⟨e1, hn⟩ | ⟨k, e1, hk, h1, h2⟩
  · rw [e1] at e; simp at e
  · rw [e1, if_pos (by omega), Int.toNat_natCast] at e
    injection e with e
    rw [e1, Int.toNat_natCast]
    exact ⟨by omega, by omega, by rw [← h1, ← h2, ← e]⟩
theorem lc_no {ls : List Lk} {a b : Int} (e : lc ls a b = none) : lof ls a b = -1 := by
  unfold lc at e
  rcases lof_cases ls a b with ⟨e1, hn⟩ | ⟨k, e1, hk, h1, h2⟩
  · exact e1
  · rw [e1, if_pos (by omega)] at e; cases e
end Go.Proofs.Ytknkhdjhongklaa
end
section
namespace Go.Proofs
open Go.Shelf
def Try.lays189_ren : Go.Shelf.Ren := ⟨fun | 189 => 59 | 125 => 64 | 257 => 63 | 128 => 75 | 129 => 76 | 294 => 66 | 295 => 67 | 296 => 68 | 297 => 69 | 298 => 70 | 299 => 71 | 216 => 72 | 300 => 73 | 301 => 74 | 328 => 78 | 329 => 79 | 330 => 80 | 331 => 81 | 332 => 82 | 215 => 83 | 343 => 84 | n => n, fun | 28 => 30 | 3 => 3 | 46 => 77 | 0 => 0 | 51 => 89 | 53 => 92 | 4 => 4 | 183 => 106 | 182 => 105 | 131 => 95 | 5 => 5 | 9 => 9 | 218 => 115 | 222 => 119 | 228 => 122 | 229 => 123 | n => n, fun | n => n⟩
theorem Try.lays189 : Go.Proofs.Lays.n189 Try.prog Try.lays189_ren := {
  mixed := by kernel_rfl
  f125 := Try.func64.trans (congrArg some (by kernel_rfl))
  f128 := Try.func75.trans (congrArg some (by kernel_rfl))
  f129 := Try.func76.trans (congrArg some (by kernel_rfl))
  f189 := Try.func59.trans (congrArg some (by kernel_rfl))
  f215 := Try.func83.trans (congrArg some (by kernel_rfl))
  f216 := Try.func72.trans (congrArg some (by kernel_rfl))
  f257 := Try.func63.trans (congrArg some (by kernel_rfl))
  f294 := Try.func66.trans (congrArg some (by kernel_rfl))
  f295 := Try.func67.trans (congrArg some (by kernel_rfl))
  f296 := Try.func68.trans (congrArg some (by kernel_rfl))
  f297 := Try.func69.trans (congrArg some (by kernel_rfl))
  f298 := Try.func70.trans (congrArg some (by kernel_rfl))
  f299 := Try.func71.trans (congrArg some (by kernel_rfl))
  f300 := Try.func73.trans (congrArg some (by kernel_rfl))
  f301 := Try.func74.trans (congrArg some (by kernel_rfl))
  f328 := Try.func78.trans (congrArg some (by kernel_rfl))
  f329 := Try.func79.trans (congrArg some (by kernel_rfl))
  f330 := Try.func80.trans (congrArg some (by kernel_rfl))
  f331 := Try.func81.trans (congrArg some (by kernel_rfl))
  f332 := Try.func82.trans (congrArg some (by kernel_rfl))
  f343 := Try.func84.trans (congrArg some (by kernel_rfl))
  t0 := Try.underlying0
  a0 := Try.isAgg0
  z0 := Try.sizeOf0
  v0 := Try.zeroValue0
  t3 := Try.underlying3
  a3 := Try.isAgg3
  z3 := Try.sizeOf3
  v3 := Try.zeroValue3
  t4 := Try.underlying4
  a4 := Try.isAgg4
  z4 := Try.sizeOf4
  v4 := Try.zeroValue4
  t5 := Try.underlying5
  a5 := Try.isAgg5
  z5 := Try.sizeOf5
  v5 := Try.zeroValue5
  t9 := Try.underlying9
  a9 := Try.isAgg9
  z9 := Try.sizeOf9
  v9 := Try.zeroValue9
  t28 := Try.underlying30
  a28 := Try.isAgg30
  z28 := Try.sizeOf30
  v28 := Try.zeroValue30
  t46 := Try.underlying77
  a46 := Try.isAgg77
  z46 := Try.sizeOf77
  v46 := Try.zeroValue77
  t51 := Try.underlying89
  a51 := Try.isAgg89
  z51 := Try.sizeOf89
  v51 := Try.zeroValue89
  t53 := Try.underlying92
  a53 := Try.isAgg92
  z53 := Try.sizeOf92
  v53 := Try.zeroValue92
  t131 := Try.underlying95
  a131 := Try.isAgg95
  z131 := Try.sizeOf95
  v131 := Try.zeroValue95
  t182 := Try.underlying105
  a182 := Try.isAgg105
  z182 := Try.sizeOf105
  v182 := Try.zeroValue105
  t183 := Try.underlying106
  a183 := Try.isAgg106
  z183 := Try.sizeOf106
  v183 := Try.zeroValue106
  t218 := Try.underlying115
  a218 := Try.isAgg115
  z218 := Try.sizeOf115
  v218 := Try.zeroValue115
  t222 := Try.underlying119
  a222 := Try.isAgg119
  z222 := Try.sizeOf119
  v222 := Try.zeroValue119
  t228 := Try.underlying122
  a228 := Try.isAgg122
  z228 := Try.sizeOf122
  v228 := Try.zeroValue122
  t229 := Try.underlying123
  a229 := Try.isAgg123
  z229 := Try.sizeOf123
  v229 := Try.zeroValue123 }
open Go.Sort Go.RowKit in
theorem Try.slices_Sort_int (blk off cap : Nat) (zs : List Int) (w : World) (hH : Holds (Value.int .i64) w blk off zs.toArray) (hblk : blk < w.heap.size) (hsz : zs.length < 4611686018427387904) :
    Calls Try.prog 59 #[.slice (some ⟨blk, off, none⟩) zs.length cap] w fun e w' =>
      e = .returned (.tuple #[]) ∧ ∃ n os, w' = grow (putRow (Value.int .i64) (Sort.ahead w n) blk off (zs.mergeSort fun x y => decide (x ≤ y)).toArray) os := Any.slices_Sort_int Try.lays189 blk off cap zs w hH hblk hsz
def Try.lays212_ren : Go.Shelf.Ren := ⟨fun | 212 => 45 | 263 => 56 | 264 => 57 | n => n, fun | 46 => 77 | 51 => 89 | 146 => 90 | 53 => 92 | 148 => 93 | n => n, fun | n => n⟩
theorem Try.lays212 : Go.Proofs.Lays.n212 Try.prog Try.lays212_ren := {
  mixed := by kernel_rfl
  f212 := Try.func45.trans (congrArg some (by kernel_rfl))
  f263 := Try.func56.trans (congrArg some (by kernel_rfl))
  f264 := Try.func57.trans (congrArg some (by kernel_rfl))
  t46 := Try.underlying77
  a46 := Try.isAgg77
  z46 := Try.sizeOf77
  v46 := Try.zeroValue77
  t51 := Try.underlying89
  a51 := Try.isAgg89
  z51 := Try.sizeOf89
  v51 := Try.zeroValue89
  t53 := Try.underlying92
  a53 := Try.isAgg92
  z53 := Try.sizeOf92
  v53 := Try.zeroValue92
  t146 := Try.underlying90
  a146 := Try.isAgg90
  z146 := Try.sizeOf90
  v146 := Try.zeroValue90
  t148 := Try.underlying93
  a148 := Try.isAgg93
  z148 := Try.sizeOf93
  v148 := Try.zeroValue93 }
open Go.RowKit Go.Lib in
theorem Try.bits_Mul (x y : Nat) (hx : x < 18446744073709551616) (hy : y < 18446744073709551616) (w : World) :
    Calls Try.prog 45 #[.int .u64 x, .int .u64 y] w fun e w' => e = .returned (.tuple #[.int .u64 ((x * y / 18446744073709551616 : Nat) : Int), .int .u64 ((x * y % 18446744073709551616 : Nat) : Int)]) ∧ w' = w := Any.bits_Mul Try.lays212 x y hx hy w
open Go.RowKit Go.Sort in
theorem Try.slices_Sort_int_none (p : Option Addr) (cap : Nat) (w : World) :
    Calls Try.prog 59 #[.slice p 0 cap] w fun e w' => e = .returned (.tuple #[]) ∧ w' = w := Any.slices_Sort_int_none Try.lays189 p cap w
end Go.Proofs
end
section
namespace Go.Proofs.Ytknkhdjhongklaa
open Go.RowKit

def sortI (zs : List Int) : List Int := zs.mergeSort fun x y => decide (x ≤ y)
theorem sortI_len (zs : List Int) : (sortI zs).length = zs.length := List.length_mergeSort zs
theorem flt_int (zs : List Int) : flt .int zs = zs.map iI := by
  induction zs with
  | nil => rfl
  | cons z r ih => rw [flt_cons, ih]; rfl
theorem flt_int_us {w : World} {E X : Nat → Prop} {zs : List Int} {us : List Value} (h : F2 (Ri w E X) (flt .int zs) us) : us = zs.map (Value.int .i64) := by
  rw [flt_int] at h
  refine List.ext_getElem? fun i => ?_
  have hlen := h.1
  simp only [List.length_map] at hlen
  rcases Nat.lt_or_ge i us.length with hi | hi
  · have hu : us[i]? = some us[i] := List.getElem?_eq_getElem hi
    have hz : zs[i]? = some zs[i] := List.getElem?_eq_getElem (by omega)
    have h1 : Ri w E X (iI zs[i]) us[i] := h.2 i (iI zs[i]) us[i] (by rw [List.getElem?_map, hz]; rfl) hu
    rw [hu]
    generalize us[i] = q at *
    cases h1
    simp [hz]
  · rw [List.getElem?_eq_none hi, List.getElem?_eq_none (by simp; omega)]
def zFN (s : List Int × Unit) : Option (List Int × Unit) := bif decide (s.1.length ≤ 16777216) then some (sortI s.1, ()) else none
def zCC : Entry := ⟨⟨[.c (.one (.own 0))], [.row 3 .int]⟩, [.ls .int], ⟨[.tup []], [.row 3 .int]⟩, [.ls .int], zFN⟩
theorem zEV : GC Try.prog 59 zCC := by
  intro s r hs ds os hf d h' hr w X β args hX hH hargs _
  obtain ⟨xs, _⟩ := s
  have hs : (bif decide (xs.length ≤ 16777216) then some (sortI xs, ()) else none) = some r := hs
  cases hd : decide (xs.length ≤ 16777216) with
  | false => rw [hd] at hs; cases hs
  | true =>
  rw [hd] at hs
  injection hs with hs
  subst hs
  have hn := of_decide_eq_true hd
  have hf : some ([PV.own 0], [AObj.row 3 .int xs]) = some (ds, os) := hf
  injection hf with hf
  injection hf with hf1 hf2
  subst hf1 hf2
  have hr : some ([PV.tup []], [AObj.row 3 .int (sortI xs)]) = some ([d], h') := hr
  injection hr with hr
  injection hr with hr1 hr2
  injection hr1 with hr1
  subst hr1 hr2
  obtain ⟨u, _, rfl, hu, hnil⟩ := hargs.cons_inv
  obtain rfl := hnil.nil_inv
  obtain ⟨h0, hv, ⟨_, _, _, rfl⟩, h2⟩ := hu
  obtain ⟨b, c, A, hb, hue, hA, hE⟩ := h2 3 .int xs rfl
  obtain ⟨b', c', hb', hc0, hcm, hrow⟩ := hH.ok 0 _ rfl
  rw [hb] at hb'
  injection hb' with hb'
  injection hb' with e1 e2
  subst e1 e2
  rw [hue]
  rcases Nat.eq_zero_or_pos c with hc | hc
  · obtain rfl : xs = [] := hc0 hc
    refine (Try.slices_Sort_int_none A c w).mono ?_
    rintro ex w' ⟨rfl, rfl⟩
    have e : sortI [] = [] := by simp [sortI]
    rw [e]
    exact ⟨_, β, rfl, Step.refl _ _ _, hH, [], rfl, F2.nil⟩
  · obtain ⟨us, junk, hblk, hF, hone, hlen⟩ := hrow hc
    have hus := flt_int_us hF
    subst hus
    have hA := hA hc
    subst hA
    have hbl : b < w.heap.size := (Array.getElem?_eq_some_iff.1 hblk).1
    have hlen' : xs.length + junk.length = c := by
      have : ((xs.map (Value.int .i64)) ++ junk).length = c * 1 := hlen
      simpa using this
    have hold : Go.Sort.Holds (Value.int .i64) w b 0 xs.toArray := holds_of_blockI (e := 3) hblk (by simp)
    refine (Try.slices_Sort_int b 0 c xs w hold hbl (by omega)).mono ?_
    rintro ex w' ⟨rfl, m, os, rfl⟩
    have how := ownsRow_sortedI (w := w) (base := 0) (g := b) (cap := c) (n := m) (os := os) (ss := xs) (ts := sortI xs) (e := 3) (sortI_len xs) (Nat.zero_le _) hblk (by omega) hcm (by simp; omega)
    have hgr := grownBy_sortedI (w := w) (g := b) (n := m) (os := os) (sortI xs).toArray
    obtain ⟨g2, c2, junk2, hv2, hh2, hl2, hm2, _⟩ := own_split how (by intro h; cases h)
    injection hv2 with q1 q2 q3
    injection q1 with q1
    injection q1 with q1
    subst q1 q3
    generalize hw' : Go.Sort.grow (Go.Sort.putRow (Value.int .i64) (Go.Sort.ahead w m) b 0 (xs.mergeSort fun x y => decide (x ≤ y)).toArray) os = w' at *
    rw [show (xs.mergeSort fun x y => decide (x ≤ y)) = sortI xs from rfl] at hw'
    rw [hw'] at hh2 hgr how
    have live1 : ∀ b', Liv [AObj.row 3 .int (sortI xs)] β b' → Liv [AObj.row 3 .int xs] β b' := fun b' ⟨k, o, c', h1, h2, h3⟩ => by
      match k, h1 with
      | 0, h1 =>
        simp at h1
        subst h1
        exact ⟨0, _, c', rfl, h2, h3⟩
      | k + 1, h1 => simp at h1
    have liveB : Liv [AObj.row 3 .int xs] β b := ⟨0, _, c, rfl, hc, hb⟩
    have onlyB : ∀ b', Liv [AObj.row 3 .int xs] β b' → b' = b := fun b' ⟨k, o, c', h1, h2, h3⟩ => by
      match k, h1 with
      | 0, h1 => rw [hb] at h3; injection h3 with h3; injection h3 with h3; exact h3.symm
      | k + 1, h1 => simp at h1
    have noocc : ∀ {w2 : World} {β2 : List (Nat × Nat)} {k : Nat} {p : Nat × Nat} {σ : Ty} {u : Value}, OccV w2 [AObj.row 3 .int (sortI xs)] β2 k p σ u → False := fun {w2 β2 k p σ u} ⟨t, τ, ys, b, c, us, junk, z1, _, _, _, _, z6⟩ => by
      have hτ : Ty.int = τ := by
        cases k with
        | zero => simp at z1; exact z1.2.1
        | succ k => simp at z1
      subst hτ
      rcases z6 with ⟨z, _⟩ | ⟨z, _⟩ <;> cases z
    refine ⟨_, β, rfl, ⟨hgr.os, hgr.tape, hgr.output, hgr.size, fun i hi hne => hgr.block i hi (fun e => hne (by injection e with e; subst e; exact liveB)), fun i _ h => live1 i h, fun _ _ h => h, ⟨Nat.le_refl _, fun k t τ ys hk e => ?_, fun k hk e => ?_⟩, fun _ _ _ _ ⟨_, _, z, _⟩ => (noocc z).elim⟩, ⟨hH.len, fun i h => h, fun i h => hH.nx i (live1 i h), fun k o hk => ?_, fun j k o o' b1 c1 c2 hj hk _ _ _ _ => ?_, fun _ _ _ _ _ ⟨_, _, z, _⟩ => (noocc z).elim, fun _ _ _ _ _ z => (noocc z).elim⟩, [], rfl, F2.nil⟩
    · cases k with
      | zero =>
        simp at e
        obtain ⟨rfl, e⟩ := e
        obtain ⟨rfl, e⟩ := e
        obtain rfl := eq_of_heq e
        exact .inl ⟨xs, rfl, (sortI_len xs).symm⟩
      | succ k => simp at e
    · match k, e with
      | 0, e => simp [isV] at e
      | k + 1, e => simp at hk
    · match k, hk with
      | 0, hk =>
        simp at hk
        subst hk
        refine ⟨b, c, hb, fun h => by omega, hcm, fun _ => ⟨(sortI xs).map (Value.int .i64), junk2, hh2, ?_, fun u hu => ?_, by simpa [sz] using hl2⟩⟩
        · rw [flt_int]
          refine ⟨by simp, fun i x u hx hu => ?_⟩
          simp only [List.getElem?_map] at hx hu
          obtain ⟨z, hz, rfl⟩ := Option.map_eq_some_iff.1 hx
          rw [hz] at hu
          injection hu with hu
          subst hu
          exact Ri.s _
        · obtain ⟨z, _, rfl⟩ := List.mem_map.1 hu; rfl
      | k + 1, hk => simp at hk
    · match j, k, hj, hk with
      | 0, 0, _, _ => rfl
      | 0, k + 1, _, hk => simp at hk
      | j + 1, _, hj, _ => simp at hj
end Go.Proofs.Ytknkhdjhongklaa
end
section
namespace Go.Proofs.Ytknkhdjhongklaa
open Go.RowKit

theorem int_info : (Try.prog.info? 3).map (fun i => (i.zero, i.size, i.bytes)) = some (some (.int .i64 0), 1, 8) := by kernel_rfl

theorem l_mul1 (c : Nat) (hc : c ≤ 64) (w : World) : Calls Try.prog 45 #[.int .u64 1, .int .u64 (c : Int)] w fun e w' => e = .returned (.tuple #[.int .u64 0, .int .u64 (c : Int)]) ∧ w = w' := by
  refine (Try.bits_Mul 1 c (by decide) (by omega) w).mono ?_
  rintro e w' ⟨he, hw⟩
  refine ⟨?_, hw.symm⟩
  rw [he, Nat.one_mul, Nat.div_eq_of_lt (by omega), Nat.mod_eq_of_lt (by omega)]
  rfl

def filled (v z : Value) (n m : Nat) : List Value := List.replicate n v ++ List.replicate m z
theorem filled_len (v z : Value) (n m : Nat) : (filled v z n m).length = n + m := by simp [filled]
theorem filled_get (v z : Value) (n m j : Nat) (h : j < n) : (filled v z n m)[j]? = some v := by simp [filled, List.getElem?_append, h]
theorem filled_splice (v z : Value) (n m k : Nat) (hk : k ≤ m) : Go.splice (filled v z n m) n (List.replicate k v) = filled v z (n + k) (m - k) := by
  simp only [Go.splice, filled, List.length_replicate]
  rw [List.take_left' (by simp), List.drop_append, List.drop_of_length_le (by simp), List.nil_append, List.length_replicate, List.drop_replicate, ← List.append_assoc, List.replicate_append_replicate]
  congr 2
  omega

theorem made_filled (w : World) (v z : Value) (c : Nat) (t : TypeId) : (w.alloc (.cells (madeCells #[z] c) t)).heap[w.heap.size]? = some (.cells (filled v z 0 c).toArray t (0, 0)) := by
  have h := heap_alloc_new w (.cells (madeCells #[z] c) t)
  have e : madeCells #[z] c = (filled v z 0 c).toArray := by
    apply Array.toList_inj.1
    rw [toList_madeCells_one]
    simp [filled]
  rw [← e]
  exact h
theorem new_one (w : World) (O : Obj) {b o : Nat} {v : Value} (h : w.cell? ⟨b, o, none⟩ = some v) : ∀ j u, [v][j]? = some u → (w.alloc O).cell? ((⟨b, o, none⟩ : Addr).add j) = some u := by
  intro j u hu
  cases j with
  | zero =>
    simp at hu
    subst hu
    rw [Addr.add_lit, Nat.add_zero, World.cell?_alloc_lt w O _ (cell_lt h)]
    exact h
  | succ j => simp at hu

theorem filled_src {w : World} {g n m k : Nat} {v z : Value} {t : TypeId} (h : w.heap[g]? = some (.cells (filled v z n m).toArray t (0, 0))) (hk : k ≤ n) : ∀ j u, (List.replicate k v)[j]? = some u → w.cell? ((⟨g, 0, none⟩ : Addr).add j) = some u := by
  intro j u hu
  obtain ⟨hj, rfl⟩ := List.getElem?_eq_some_iff.1 hu
  simp only [List.length_replicate] at hj
  rw [Addr.add_lit, Nat.zero_add, cell_of_row w g j _ t (0, 0) h, List.getElem?_toArray, filled_get _ _ _ _ _ (by omega)]
  simp

set_option maxRecDepth 100000 in
set_option maxHeartbeats 1000000 in
theorem l_Repeat_int (v : Int) (b o cap c : Nat) (hc0 : 0 < c) (hc : c ≤ 64) (w : World) (hcell : w.cell? ⟨b, o, none⟩ = some (.int .i64 v)) :
    Calls Try.prog 23 #[.slice (some ⟨b, o, none⟩) 1 cap, .int .i64 (c : Int)] w fun e w' => ∃ g, e = .returned (.slice (some ⟨g, 0, none⟩) c c) ∧ w.heap.size ≤ g ∧ Blk w' g 3 (List.replicate c (.int .i64 v)).toArray ∧ Below w.heap.size w w' := by
  have hb := cell_lt hcell
  have hmk := run_make_row' (P := Try.prog) 30 3 (.int .i64 0) 8 Try.underlying30 int_info rfl .i64 .i64 c (by omega) (by omega)
  have e1 : ((0 : Int) < 0) = False := by simp
  go_enter Try.func23, Try.ntmps23
  go_wp2_with (first
    | (go_at_call 45; refine (l_mul1 c hc _).mono ?_; rintro e w' ⟨rfl, rfl⟩)
    | (with_reducible show wpList _ _ _ (⟨some 33, _, _, _, _, _⟩ :: _) _ _
       go_must (refine wpList_copy_splice (o := ⟨some 33, _, _, _, _, _⟩) rfl (.tmp 31) (.tmp 32) 30 30 rfl 3 Try.underlying30 (by kernel_rfl) (some ⟨w.heap.size, 0, none⟩) (some ⟨b, o, none⟩) c c 1 cap rfl rfl w.heap.size 0 (filled (.int .i64 v) (.int .i64 0) 0 c) 3 (made_filled _ _ _ _ _) [.int .i64 v] (Nat.min_eq_left hc0).symm (fun _ => ⟨rfl, _, rfl, new_one _ _ hcell⟩) (by simp [filled]; omega) (by simp [Value.oneCell']) w.heap.size w ((Below.refl _ _).alloc (Nat.le_refl _) _) (Nat.le_refl _) ?_)
       intro w1 hg1 hb1))
  rw [show Go.splice (filled (.int .i64 v) (.int .i64 0) 0 c) 0 [.int .i64 v] = filled (.int .i64 v) (.int .i64 0) 1 (c - 1) from by have := filled_splice (.int .i64 v) (.int .i64 0) 0 c 1 (by omega); simpa using this] at hg1
  go_loopw [8] (fun i wr => ∃ n : Nat, 0 < n ∧ n ≤ c ∧ i = .int .i64 n ∧ Below w.heap.size w wr ∧ Hid (wr.heap[w.heap.size]? = some (.cells (filled (.int .i64 v) (.int .i64 0) n (c - n)).toArray 3 (0, 0)))) (fun i _ => c - (intOf i).toNat)
  case atStart => exact ⟨1, by omega, by omega, rfl, hb1, hg1⟩
  case round =>
    clear hg1 hb1
    obtain ⟨n, hn0, hn, rfl, hb2, hg2⟩ := hrel
    have Hb := Lib.hid hb2; clear hb2
    by_cases hlt : n < c
    · have hne : ¬ c = n := by omega
      have hg4 : Hid (wr.drew.heap[w.heap.size]? = some (.cells (filled (.int .i64 v) (.int .i64 0) n (c - n)).toArray 3 (0, 0))) := hg2
      go_wp2_with fail
      obtain ⟨m, hme, hmn, hmp⟩ : ∃ m, Hid (m = Nat.min n (c - n)) ∧ m ≤ c - n ∧ 0 < m := ⟨_, rfl, Nat.min_le_right _ _, Nat.lt_min.2 ⟨hn0, by omega⟩⟩
      refine wp_plan_any 9 [(0, true), (1, true), (2, true), (3, true), (4, true), (5, true), (6, true), (7, true), (8, true)] (by kernel_rfl) (by kernel_rfl) ?_
      simp only [picked, List.filterMap_cons, List.filterMap_nil, List.getElem?_cons_zero, List.getElem?_cons_succ, Option.map_some, List.drop_succ_cons, List.drop_zero]
      repeat (first | refine wpPlan_skip rfl ?_ | (refine wpPlan_val rfl rfl (fun K hK => ?_); go_big_quiet_op; refine hK _ ?_; clear hK K))
      try refine wpPlan_nil ?_
      refine wpPlan_eff rfl rfl (fun K hK => ?_)
      refine wp_of_step rfl (step_copy_splice rfl (.tmp 41) (.tmp 44) 30 30 rfl 3 Try.underlying30 (by kernel_rfl) (some ⟨w.heap.size, n, none⟩) (some ⟨w.heap.size, 0, none⟩) (c - n) (c - n) n c rfl rfl w.heap.size n (filled (.int .i64 v) (.int .i64 0) n (c - n)) 3 hg2.out (List.replicate m (.int .i64 v)) (by rw [List.length_replicate]; exact hme.out) (fun _ => ⟨rfl, _, rfl, filled_src hg2.out (hme.out ▸ Nat.min_le_left _ _)⟩) (by rw [filled_len, List.length_replicate]; omega) (fun u hu => by rw [List.eq_of_mem_replicate hu]; rfl) w.heap.size w Hb.out.drew (Nat.le_refl _) ?_)
      intro w2 hg3 hb3
      rw [List.length_replicate]
      go_simp
      refine hK _ _ trivial ?_
      clear hK K
      repeat (first | refine wpPlan_skip rfl ?_ | (refine wpPlan_val rfl rfl (fun K hK => ?_); go_big_quiet_op; refine hK _ ?_; clear hK K))
      try refine wpPlan_nil ?_
      rw [filled_splice _ _ _ _ _ hmn] at hg3
      go_wp2_with fail
      go_roundw
      case rel =>
        refine ⟨n + m, by omega, by omega, by go_num, hb3, ?_⟩
        rw [show c - (n + m) = c - n - m by omega]
        exact hg3
      case measure => simp [intOf]; omega
    · obtain rfl : n = c := by omega
      go_wp2_with fail
      go_ret
      refine ⟨w.heap.size, rfl, Nat.le_refl _, ?_, Hb.out⟩
      have := hg2.out
      simpa [filled, Blk] using this
end Go.Proofs.Ytknkhdjhongklaa
end
section
namespace Go.Proofs.Ytknkhdjhongklaa
open Go.RowKit

def one! : List Int → Option Int
  | [v] => some v
  | _ => none
def zFM (s : List Int × Int × Unit) : Option (List Int × Unit) := match one! s.1 with
  | some v => bif decide (0 < s.2.1 ∧ s.2.1 ≤ 64) then some (List.replicate s.2.1.toNat v, ()) else none
  | none => none
def zCB : Entry := ⟨⟨[.c (.one (.b (.sl false .int))), .c (.one (.b (.int .i64)))], []⟩, [.ls .int, .int], ⟨[.c (.one (.own 0))], [.row 3 .int]⟩, [.ls .int], zFM⟩
theorem zEU : GC Try.prog 23 zCB := by
  intro s r hs ds os hf d h' hr w X β args hX hH hargs _
  obtain ⟨xs, n, _⟩ := s
  change Int at n
  change List Int at xs
  have hs : (match one! xs with | some v => (bif decide (0 < n ∧ n ≤ 64) then some (List.replicate n.toNat v, ()) else none) | none => none) = some r := hs
  split at hs
  case h_2 => cases hs
  rename_i v hv
  obtain rfl : xs = [v] := by
    unfold one! at hv
    split at hv
    · injection hv with hv; subst hv; rfl
    · cases hv
  have hs : (bif decide (0 < n ∧ n ≤ 64) then some (List.replicate n.toNat v, ()) else none) = some r := hs
  cases hd : decide (0 < n ∧ n ≤ 64) with
  | false => rw [hd] at hs; cases hs
  | true =>
  rw [hd] at hs
  injection hs with hs
  subst hs
  have hn : 0 < n ∧ n ≤ 64 := of_decide_eq_true hd
  obtain ⟨c, rfl⟩ : ∃ c : Nat, n = (c : Int) := ⟨n.toNat, by omega⟩
  have hf : some ([PV.im (.sl false .int [v]), PV.im (iI (c : Int))], ([] : List AObj)) = some (ds, os) := hf
  injection hf with hf
  injection hf with hf1 hf2
  subst hf1 hf2
  have hr : some ([PV.own 0], [AObj.row 3 .int (List.replicate (c : Int).toNat v)]) = some ([d], h') := hr
  rw [Int.toNat_natCast] at hr
  injection hr with hr
  injection hr with hr1 hr2
  injection hr1 with hr1
  subst hr1 hr2
  obtain ⟨u, _, rfl, hu, hr⟩ := hargs.cons_inv
  obtain ⟨u2, _, rfl, hu2, hnil⟩ := hr.cons_inv
  obtain rfl := hnil.nil_inv
  obtain rfl : u2 = .int .i64 (c : Int) := im_s hu2
  have hu : Ri w (Liv [] β) X (.sl false .int [v]) u := hu
  cases hu with
  | sl g τ xs A cap b o us hA hcap hl hc hr =>
  have hus : us = [v].map (Value.int .i64) := flt_int_us ⟨hl, hr⟩
  subst hus
  obtain ⟨rfl, hb, _, _⟩ := hA (by simp)
  have hcell := hc 0 (.int .i64 v) rfl
  refine (l_Repeat_int v b o cap c (by omega) (by omega) w hcell).mono ?_
  rintro ex w' ⟨g, rfl, hg, hblk, hbl⟩
  have hgl : g < w'.heap.size := (Array.getElem?_eq_some_iff.1 hblk).1
  have hβ : β = [] := List.length_eq_zero_iff.1 hH.len
  subst hβ
  have hcm : c ≤ maxLen := by unfold maxLen; omega
  have liv : ∀ b', Liv [AObj.row 3 .int (List.replicate c v)] [(g, c)] b' → b' = g := fun b' ⟨k, o, c', h1, h2, h3⟩ => by
    cases k with
    | zero => simp at h3; exact h3.1.symm
    | succ k => simp at h3
  have noocc : ∀ {w2 : World} {β2 : List (Nat × Nat)} {k : Nat} {p : Nat × Nat} {σ : Ty} {u : Value}, OccV w2 [AObj.row 3 .int (List.replicate c v)] β2 k p σ u → False := fun {w2 β2 k p σ u} ⟨t, τ, ys, b, c, us, junk, z1, _, _, _, _, z6⟩ => by
    have hτ : Ty.int = τ := by
      cases k with
      | zero => simp at z1; exact z1.2.1
      | succ k => simp at z1
    subst hτ
    rcases z6 with ⟨z, _⟩ | ⟨z, _⟩ <;> cases z
  refine ⟨_, [(g, c)], rfl, ⟨hbl.os, hbl.tape, hbl.output, hbl.size, fun i hi _ => hbl.block i hi, fun i hi h => ?_, fun k p h => by simp at h, ⟨Nat.zero_le _, fun k t τ ys hk e => by simp at hk, fun k hk e => by simp at hk⟩, fun _ _ _ _ ⟨_, _, z, _⟩ => (noocc z).elim⟩, ⟨rfl, fun i h => h, fun i h hx => ?_, fun k o hk => ?_, fun j k o o' b1 c1 c2 hj hk _ _ _ _ => ?_, fun _ _ _ _ _ ⟨_, _, z, _⟩ => (noocc z).elim, fun _ _ _ _ _ z => (noocc z).elim⟩, ?_⟩
  · rw [liv i h] at hi; omega
  · rw [liv i h] at hx; have := hX g hx; omega
  · cases k with
    | succ k => simp at hk
    | zero =>
      simp at hk
      subst hk
      refine ⟨g, c, rfl, fun h => by omega, hcm, fun _ => ⟨(List.replicate c v).map (Value.int .i64), [], by rw [List.append_nil, List.map_replicate]; exact hblk, ?_, fun u hu => ?_, by simp [sz]⟩⟩
      · rw [flt_int]
        refine ⟨by simp, fun i x u hx hu => ?_⟩
        simp only [List.getElem?_map] at hx hu
        obtain ⟨z, hz, rfl⟩ := Option.map_eq_some_iff.1 hx
        rw [hz] at hu
        injection hu with hu
        subst hu
        exact Ri.s _
      · obtain ⟨z, _, rfl⟩ := List.mem_map.1 hu; rfl
  · cases j with
    | succ j => simp at hj
    | zero => cases k with
      | zero => rfl
      | succ k => simp at hk
  · refine ⟨by simp, rfl, ⟨_, _, _, rfl⟩, fun t τ ys e => ?_⟩
    simp at e
    obtain ⟨rfl, e⟩ := e
    obtain ⟨rfl, e⟩ := e
    obtain rfl := eq_of_heq e
    exact ⟨g, c, some ⟨g, 0, none⟩, rfl, by rw [List.length_replicate], fun _ => rfl, fun h => by omega⟩
end Go.Proofs.Ytknkhdjhongklaa
end
section
namespace Go.Proofs.Ytknkhdjhongklaa
open Go.RowKit

theorem end_rowU {h : List AObj} {β : List (Nat × Nat)} {w w' : World} {X : Nat → Prop} {τ : Ty} {e : TypeId} {ys : List (El τ)} {g c : Nat} {A : Option Addr} (hH : HeapOk w (Liv h β) X h β) (hX : ∀ b, X b → b < w.heap.size) (hos : w'.os = w.os) (hta : w'.tape = w.tape) (hou : w'.output = w.output) (hsz : w.heap.size ≤ w'.heap.size)
    (hblk : ∀ b, b < w.heap.size → ¬ Liv h β b → w'.heap[b]? = w.heap[b]?) (hg : Liv h β g ∨ w.heap.size ≤ g) (hc : c = 0 → ys = []) (hcm : c ≤ maxLen)
    (hrow : 0 < c → ∃ us junk, w'.heap[g]? = some (.cells (us ++ junk).toArray e (0, 0)) ∧ F2 (Ri w (Liv h β) X) (flt τ ys) us ∧ (us ++ junk).length = c * sz τ) (hA : 0 < c → A = some ⟨g, 0, none⟩)
    (ψ : Nat → Nat × Nat) (hψ : ∀ (us' junk' : List Value), 0 < c → w'.heap[g]? = some (.cells (us' ++ junk').toArray e (0, 0)) → us'.length = ys.length * sz τ → ∀ q σ u n, NzV w' τ us' q σ u → SlV u n → q.2 = 0 ∧ OccV w h β (ψ q.1).1 ((ψ q.1).2, 0) σ u) (hψi : ∀ q q', q < ys.length * sz τ → q' < ys.length * sz τ → ψ q = ψ q' → q = q') :
    Step w h β w' (h.map (fun _ => AObj.dead) ++ [.row e τ ys]) (β ++ [(g, c)]) ∧ HeapOk w' (Liv (h.map (fun _ => AObj.dead) ++ [.row e τ ys]) (β ++ [(g, c)])) X (h.map (fun _ => AObj.dead) ++ [.row e τ ys]) (β ++ [(g, c)]) ∧ Cv w' (Liv (h.map (fun _ => AObj.dead) ++ [.row e τ ys]) (β ++ [(g, c)])) X (h.map (fun _ => AObj.dead) ++ [.row e τ ys]) (β ++ [(g, c)]) (.own h.length) (.slice A ys.length c) := by
  have hlen := hH.len
  have hat : ∀ k, k < h.length → (h.map (fun _ => AObj.dead) ++ [AObj.row e τ ys])[k]? = some .dead := fun k hk => by
    rw [List.getElem?_append_left (by simpa using hk), List.getElem?_map, List.getElem?_eq_getElem hk]; rfl
  have hlast : (h.map (fun _ => AObj.dead) ++ [AObj.row e τ ys])[h.length]? = some (.row e τ ys) := by
    rw [List.getElem?_append_right (by simp)]; simp
  have hβl : (β ++ [(g, c)])[h.length]? = some (g, c) := by
    rw [List.getElem?_append_right (by omega), hlen, Nat.sub_self]; rfl
  have hbe : ∀ k, h.length < k → (h.map (fun _ => AObj.dead) ++ [AObj.row e τ ys])[k]? = none := fun k hk => by
    rw [List.getElem?_eq_none]; simp; omega
  have only : ∀ k o, (h.map (fun _ => AObj.dead) ++ [AObj.row e τ ys])[k]? = some o → (k < h.length ∧ o = .dead) ∨ (k = h.length ∧ o = .row e τ ys) := fun k o hk => by
    rcases Nat.lt_trichotomy k h.length with h1 | h1 | h1
    · rw [hat k h1] at hk; injection hk with hk; exact .inl ⟨h1, hk.symm⟩
    · subst h1; rw [hlast] at hk; injection hk with hk; exact .inr ⟨rfl, hk.symm⟩
    · rw [hbe k h1] at hk; cases hk
  have liv : ∀ b, Liv (h.map (fun _ => AObj.dead) ++ [AObj.row e τ ys]) (β ++ [(g, c)]) b → b = g := fun b ⟨k, o, c', h1, h2, h3⟩ => by
    rcases only k o h1 with ⟨_, rfl⟩ | ⟨rfl, rfl⟩
    · exact h2.elim
    · rw [hβl] at h3; injection h3 with h3; injection h3 with h3; exact h3.symm
  have keepβ : ∀ (k : Nat) p, β[k]? = some p → (β ++ [(g, c)])[k]? = some p := fun k p hk => by
    rw [List.getElem?_append_left (List.getElem?_eq_some_iff.1 hk).1]; exact hk
  have new : ∀ b, b < w.heap.size → Liv (h.map (fun _ => AObj.dead) ++ [AObj.row e τ ys]) (β ++ [(g, c)]) b → Liv h β b := fun b hb hl => by
    have := liv b hl
    subst this
    exact hg.resolve_right (by omega)
  have occ : ∀ {k : Nat} {q : Nat × Nat} {σ : Ty} {u : Value} {n : Nat}, OccV w' (h.map (fun _ => AObj.dead) ++ [.row e τ ys]) (β ++ [(g, c)]) k q σ u → SlV u n → k = h.length ∧ q.2 = 0 ∧ q.1 < ys.length * sz τ ∧ OccV w h β (ψ q.1).1 ((ψ q.1).2, 0) σ u := fun {k q σ u n} ⟨t, τ', xs', b1, c1, us, junk, z1, z2, z3, z4, z5, z6⟩ hs => by
    rcases only k _ z1 with ⟨_, z⟩ | ⟨rfl, z⟩
    · cases z
    · injection z with e1 e2 e3
      subst e1 e2
      have e3 := eq_of_heq e3
      subst e3
      rw [hβl] at z2
      injection z2 with z2; injection z2 with e1 e2
      subst e1 e2
      obtain ⟨y1, y2⟩ := hψ us junk z3 z4 z5 q σ u n z6 hs
      refine ⟨rfl, y1, ?_, y2⟩
      rw [← z5]
      rcases z6 with ⟨_, _, z, _⟩ | ⟨_, _, _, _, _, _, _, z, _⟩ <;> exact (List.getElem?_eq_some_iff.1 z).1
  refine ⟨⟨hos, hta, hou, hsz, hblk, new, keepβ, ⟨by simp, fun k t τ' xs' hk e' => ?_, fun k hk e' => ?_⟩, fun k q n _ ⟨σ, u, z1, z2⟩ => .inl ⟨_, _, σ, u, (occ z1 z2).2.2.2, z2⟩⟩, ⟨by simp [hlen], fun b hb => hb, fun b hl hx => ?_, fun k o hk => ?_, fun j k o o' b c1 c2 hj hk l1 l2 b1 b2 => ?_, fun k p k' p' n ⟨σ, u, z1, z2⟩ ⟨σ', u', y1, y2⟩ => by
    obtain ⟨z3, z4, z5, z6⟩ := occ z1 z2
    obtain ⟨y3, y4, y5, y6⟩ := occ y1 y2
    obtain ⟨e1, e2⟩ := hH.uq _ _ _ _ n ⟨σ, u, z6, z2⟩ ⟨σ', u', y6, y2⟩
    exact ⟨z3.trans y3.symm, Prod.ext (hψi _ _ z5 y5 (Prod.ext e1 (Prod.mk.inj e2).1)) (z4.trans y4.symm)⟩, fun k p σ u n z1 z2 => by
    obtain ⟨z3, z4, z5, z6⟩ := occ z1 z2
    have z7 := occ_at hH.ok z6 z2
    exact (hH.pl _ _ σ u n z6 z2).keep z2 (hblk n z7.1 z7.2)⟩, ⟨by simp, ?_, ⟨_, _, _, rfl⟩, fun t τ' xs' e' => ?_⟩⟩
  · rw [hat k hk] at e'; cases e'
  · simp [isV, hat k hk] at e'
  · have := liv b hl
    subst this
    rcases hg with hg | hg
    · exact hH.nx _ hg hx
    · have := hX _ hx; omega
  · rcases only k o hk with ⟨_, rfl⟩ | ⟨rfl, rfl⟩
    · trivial
    · refine ⟨g, c, hβl, hc, hcm, fun h0 => ?_⟩
      obtain ⟨us, junk, q1, q2, q3⟩ := hrow h0
      exact ⟨us, junk, q1, q2.mono fun x u hx => hx.keep hblk hsz (fun b hb hn hl => hn (new b hb hl)) (fun _ _ _ hx => hx), flt_one q2, q3⟩
  · rcases only j o hj with ⟨_, rfl⟩ | ⟨rfl, rfl⟩
    · exact l1.elim
    · rcases only k o' hk with ⟨_, rfl⟩ | ⟨rfl, rfl⟩
      · exact l2.elim
      · rfl
  · simp [isV, hlast]
  · rw [hlast] at e'
    injection e' with e'
    cases e'
    exact ⟨g, c, A, hβl, rfl, hA, fun _ => trivial⟩
theorem end_row {h : List AObj} {β : List (Nat × Nat)} {w w' : World} {X : Nat → Prop} {τ : Ty} {e : TypeId} {ys : List (El τ)} {g c : Nat} {A : Option Addr} (hH : HeapOk w (Liv h β) X h β) (hX : ∀ b, X b → b < w.heap.size) (hos : w'.os = w.os) (hta : w'.tape = w.tape) (hou : w'.output = w.output) (hsz : w.heap.size ≤ w'.heap.size)
    (hblk : ∀ b, b < w.heap.size → ¬ Liv h β b → w'.heap[b]? = w.heap[b]?) (hg : Liv h β g ∨ w.heap.size ≤ g) (hc : c = 0 → ys = []) (hcm : c ≤ maxLen)
    (hrow : 0 < c → ∃ us junk, w'.heap[g]? = some (.cells (us ++ junk).toArray e (0, 0)) ∧ F2 (Ri w (Liv h β) X) (flt τ ys) us ∧ (us ++ junk).length = c * sz τ) (hA : 0 < c → A = some ⟨g, 0, none⟩) (hN : τ.u = false) :
    Step w h β w' (h.map (fun _ => AObj.dead) ++ [.row e τ ys]) (β ++ [(g, c)]) ∧ HeapOk w' (Liv (h.map (fun _ => AObj.dead) ++ [.row e τ ys]) (β ++ [(g, c)])) X (h.map (fun _ => AObj.dead) ++ [.row e τ ys]) (β ++ [(g, c)]) ∧ Cv w' (Liv (h.map (fun _ => AObj.dead) ++ [.row e τ ys]) (β ++ [(g, c)])) X (h.map (fun _ => AObj.dead) ++ [.row e τ ys]) (β ++ [(g, c)]) (.own h.length) (.slice A ys.length c) := by
  exact end_rowU hH hX hos hta hou hsz hblk hg hc hcm hrow hA (fun q => (0, q)) (fun us' junk' _ _ _ q σ u n hz _ => by
    rcases hz with ⟨z, _⟩ | ⟨rfl, _⟩
    · rw [hN] at z; cases z
    · cases hN) (fun q q' _ _ h => (Prod.mk.inj h).2)
end Go.Proofs.Ytknkhdjhongklaa
end
section
namespace Go.Proofs.Ytknkhdjhongklaa
open Go.RowKit

theorem bool_info : (Try.prog.info? 4).map (fun i => (i.zero, i.size, i.bytes)) = some (some (.bool false), 1, 1) := by kernel_rfl
set_option maxRecDepth 100000 in
set_option maxHeartbeats 1000000 in
theorem l_Repeat_bool (v : Bool) (b o cap c : Nat) (hc0 : 0 < c) (hc : c ≤ 64) (w : World) (hcell : w.cell? ⟨b, o, none⟩ = some (.bool v)) :
    Calls Try.prog 22 #[.slice (some ⟨b, o, none⟩) 1 cap, .int .i64 (c : Int)] w fun e w' => ∃ g, e = .returned (.slice (some ⟨g, 0, none⟩) c c) ∧ w.heap.size ≤ g ∧ Blk w' g 4 (List.replicate c (.bool v)).toArray ∧ Below w.heap.size w w' := by
  have hb := cell_lt hcell
  have hmk := run_make_row' (P := Try.prog) 29 4 (.bool false) 1 Try.underlying29 bool_info rfl .i64 .i64 c (by omega) (by omega)
  have e1 : ((0 : Int) < 0) = False := by simp
  go_enter Try.func22, Try.ntmps22
  go_wp2_with (first
    | (go_at_call 45; refine (l_mul1 c hc _).mono ?_; rintro e w' ⟨rfl, rfl⟩)
    | (with_reducible show wpList _ _ _ (⟨some 33, _, _, _, _, _⟩ :: _) _ _
       go_must (refine wpList_copy_splice (o := ⟨some 33, _, _, _, _, _⟩) rfl (.tmp 31) (.tmp 32) 29 29 rfl 4 Try.underlying29 (by kernel_rfl) (some ⟨w.heap.size, 0, none⟩) (some ⟨b, o, none⟩) c c 1 cap rfl rfl w.heap.size 0 (filled (.bool v) (.bool false) 0 c) 4 (made_filled _ _ _ _ _) [.bool v] (Nat.min_eq_left hc0).symm (fun _ => ⟨rfl, _, rfl, new_one _ _ hcell⟩) (by simp [filled]; omega) (by simp [Value.oneCell']) w.heap.size w ((Below.refl _ _).alloc (Nat.le_refl _) _) (Nat.le_refl _) ?_)
       intro w1 hg1 hb1))
  rw [show Go.splice (filled (.bool v) (.bool false) 0 c) 0 [.bool v] = filled (.bool v) (.bool false) 1 (c - 1) from by have := filled_splice (.bool v) (.bool false) 0 c 1 (by omega); simpa using this] at hg1
  go_loopw [8] (fun i wr => ∃ n : Nat, 0 < n ∧ n ≤ c ∧ i = .int .i64 n ∧ Below w.heap.size w wr ∧ Hid (wr.heap[w.heap.size]? = some (.cells (filled (.bool v) (.bool false) n (c - n)).toArray 4 (0, 0)))) (fun i _ => c - (intOf i).toNat)
  case atStart => exact ⟨1, by omega, by omega, rfl, hb1, hg1⟩
  case round =>
    clear hg1 hb1
    obtain ⟨n, hn0, hn, rfl, hb2, hg2⟩ := hrel
    have Hb := Lib.hid hb2; clear hb2
    by_cases hlt : n < c
    · have hne : ¬ c = n := by omega
      have hg4 : Hid (wr.drew.heap[w.heap.size]? = some (.cells (filled (.bool v) (.bool false) n (c - n)).toArray 4 (0, 0))) := hg2
      go_wp2_with fail
      obtain ⟨m, hme, hmn, hmp⟩ : ∃ m, Hid (m = Nat.min n (c - n)) ∧ m ≤ c - n ∧ 0 < m := ⟨_, rfl, Nat.min_le_right _ _, Nat.lt_min.2 ⟨hn0, by omega⟩⟩
      refine wp_plan_any 9 [(0, true), (1, true), (2, true), (3, true), (4, true), (5, true), (6, true), (7, true), (8, true)] (by kernel_rfl) (by kernel_rfl) ?_
      simp only [picked, List.filterMap_cons, List.filterMap_nil, List.getElem?_cons_zero, List.getElem?_cons_succ, Option.map_some, List.drop_succ_cons, List.drop_zero]
      repeat (first | refine wpPlan_skip rfl ?_ | (refine wpPlan_val rfl rfl (fun K hK => ?_); go_big_quiet_op; refine hK _ ?_; clear hK K))
      try refine wpPlan_nil ?_
      refine wpPlan_eff rfl rfl (fun K hK => ?_)
      refine wp_of_step rfl (step_copy_splice rfl (.tmp 41) (.tmp 44) 29 29 rfl 4 Try.underlying29 (by kernel_rfl) (some ⟨w.heap.size, n, none⟩) (some ⟨w.heap.size, 0, none⟩) (c - n) (c - n) n c rfl rfl w.heap.size n (filled (.bool v) (.bool false) n (c - n)) 4 hg2.out (List.replicate m (.bool v)) (by rw [List.length_replicate]; exact hme.out) (fun _ => ⟨rfl, _, rfl, filled_src hg2.out (hme.out ▸ Nat.min_le_left _ _)⟩) (by rw [filled_len, List.length_replicate]; omega) (fun u hu => by rw [List.eq_of_mem_replicate hu]; rfl) w.heap.size w Hb.out.drew (Nat.le_refl _) ?_)
      intro w2 hg3 hb3
      rw [List.length_replicate]
      go_simp
      refine hK _ _ trivial ?_
      clear hK K
      repeat (first | refine wpPlan_skip rfl ?_ | (refine wpPlan_val rfl rfl (fun K hK => ?_); go_big_quiet_op; refine hK _ ?_; clear hK K))
      try refine wpPlan_nil ?_
      rw [filled_splice _ _ _ _ _ hmn] at hg3
      go_wp2_with fail
      go_roundw
      case rel =>
        refine ⟨n + m, by omega, by omega, by go_num, hb3, ?_⟩
        rw [show c - (n + m) = c - n - m by omega]
        exact hg3
      case measure => simp [intOf]; omega
    · obtain rfl : n = c := by omega
      go_wp2_with fail
      go_ret
      refine ⟨w.heap.size, rfl, Nat.le_refl _, ?_, Hb.out⟩
      have := hg2.out
      simpa [filled, Blk] using this
set_option maxRecDepth 100000 in
set_option maxHeartbeats 1000000 in
theorem l_Repeat_bool0 (v : Bool) (b o cap : Nat) (w : World) : Calls Try.prog 22 #[.slice (some ⟨b, o, none⟩) 1 cap, .int .i64 0] w fun e w' => e = .returned (.slice (some ⟨w.heap.size, 0, none⟩) 0 0) ∧ Below w.heap.size w w' := by
  have hmk := run_make_row' (P := Try.prog) 29 4 (.bool false) 1 Try.underlying29 bool_info rfl .i64 .i64 0 (by omega) (by omega)
  have hmk0 : ∀ w, Sem.run Try.prog (Instr.makeSlice 29 (.int .i64 0) (.int .i64 0)) w = Result.ok (.slice (some ⟨w.heap.size, 0, none⟩) 0 0) (w.alloc (.cells (madeCells #[Value.bool false] 0) 4)) := hmk
  clear hmk
  have hmul := l_mul1 0 (by omega)
  go_enter Try.func22, Try.ntmps22
  go_wp2_with (first
    | (go_at_call 45; refine (hmul _).mono ?_; rintro e w' ⟨rfl, rfl⟩)
    | (with_reducible show wpList _ _ _ (⟨some 33, _, _, _, _, _⟩ :: _) _ _
       go_must (refine wpList_copy_splice (o := ⟨some 33, _, _, _, _, _⟩) rfl (.tmp 31) (.tmp 32) 29 29 rfl 4 Try.underlying29 (by kernel_rfl) (some ⟨w.heap.size, 0, none⟩) (some ⟨b, o, none⟩) 0 0 1 cap rfl rfl w.heap.size 0 (filled (.bool v) (.bool false) 0 0) 4 (made_filled _ _ _ _ _) [] rfl (fun h => by simp at h) (by simp [filled]) (by simp) w.heap.size w ((Below.refl _ _).alloc (Nat.le_refl _) _) (Nat.le_refl _) ?_)
       intro w1 hg1 hb1))
  go_loopw [8] (fun i wr => i = .int .i64 0 ∧ Below w.heap.size w wr) (fun i _ => 0)
  case atStart => exact ⟨rfl, hb1⟩
  case round =>
    clear hg1 hb1
    obtain ⟨rfl, hb2⟩ := hrel
    go_wp2_with fail
    go_ret
    exact ⟨rfl, hb2⟩
end Go.Proofs.Ytknkhdjhongklaa
end
section
namespace Go.Proofs.Ytknkhdjhongklaa
open Go.RowKit

def oneB : List Bool → Option Bool
  | [v] => some v
  | _ => none
def zFL (s : List Bool × Int × Unit) : Option (List Bool × Unit) := match oneB s.1 with
  | some v => bif decide (0 ≤ s.2.1 ∧ s.2.1 ≤ 64) then some (List.replicate s.2.1.toNat v, ()) else none
  | none => none
def zCA : Entry := ⟨⟨[.c (.one (.b (.sl false .bool))), .c (.one (.b (.int .i64)))], []⟩, [.ls .bool, .int], ⟨[.c (.one (.own 0))], [.row 4 .bool]⟩, [.ls .bool], zFL⟩
theorem flt_bool (zs : List Bool) : flt .bool zs = zs.map fun b => IV.s (.bool b) := by
  induction zs with
  | nil => rfl
  | cons z r ih => rw [flt_cons, ih]; rfl
theorem bools_ok {w : World} {E X : Nat → Prop} (zs : List Bool) : F2 (Ri w E X) (flt .bool zs) (zs.map Value.bool) := by
  rw [flt_bool]
  refine ⟨by simp, fun i x u hx hu => ?_⟩
  simp only [List.getElem?_map] at hx hu
  obtain ⟨z, hz, rfl⟩ := Option.map_eq_some_iff.1 hx
  rw [hz] at hu
  injection hu with hu
  subst hu
  exact Ri.s _
theorem zET : GC Try.prog 22 zCA := by
  intro s r hs ds os hf d h' hr w X β args hX hH hargs _
  obtain ⟨xs, n, _⟩ := s
  change Int at n
  change List Bool at xs
  have hs : (match oneB xs with | some v => (bif decide (0 ≤ n ∧ n ≤ 64) then some (List.replicate n.toNat v, ()) else none) | none => none) = some r := hs
  split at hs
  case h_2 => cases hs
  rename_i v hv
  obtain rfl : xs = [v] := by
    unfold oneB at hv
    split at hv
    · injection hv with hv; subst hv; rfl
    · cases hv
  have hs : (bif decide (0 ≤ n ∧ n ≤ 64) then some (List.replicate n.toNat v, ()) else none) = some r := hs
  cases hd : decide (0 ≤ n ∧ n ≤ 64) with
  | false => rw [hd] at hs; cases hs
  | true =>
  rw [hd] at hs
  injection hs with hs
  subst hs
  have hn : 0 ≤ n ∧ n ≤ 64 := of_decide_eq_true hd
  obtain ⟨c, rfl⟩ : ∃ c : Nat, n = (c : Int) := ⟨n.toNat, by omega⟩
  have hf : some ([PV.im (.sl false .bool [v]), PV.im (iI (c : Int))], ([] : List AObj)) = some (ds, os) := hf
  injection hf with hf
  injection hf with hf1 hf2
  subst hf1 hf2
  have hr : some ([PV.own 0], [AObj.row 4 .bool (List.replicate (c : Int).toNat v)]) = some ([d], h') := hr
  rw [Int.toNat_natCast] at hr
  injection hr with hr
  injection hr with hr1 hr2
  injection hr1 with hr1
  subst hr1 hr2
  obtain ⟨u, _, rfl, hu, hr⟩ := hargs.cons_inv
  obtain ⟨u2, _, rfl, hu2, hnil⟩ := hr.cons_inv
  obtain rfl := hnil.nil_inv
  obtain rfl : u2 = .int .i64 (c : Int) := im_s hu2
  have hu : Ri w (Liv [] β) X (.sl false .bool [v]) u := hu
  have hlen : (List.replicate c v).length = c := List.length_replicate
  cases hu with
  | sl g τ xs A cap b o us hA hcap hl hc hr =>
  have hF : F2 (Ri w (Liv [] β) X) [IV.s (.bool v)] us := ⟨hl, hr⟩
  obtain ⟨u0, us0, rfl, hu0, hF0⟩ := hF.cons_inv
  obtain rfl := hF0.nil_inv
  obtain rfl : u0 = .bool v := by cases hu0; rfl
  obtain ⟨rfl, hb, _, _⟩ := hA (by simp)
  have hcell := hc 0 (.bool v) rfl
  rcases Nat.eq_zero_or_pos c with h0 | h0
  · subst h0
    refine (l_Repeat_bool0 v b o cap w).mono ?_
    rintro ex w' ⟨rfl, hbl⟩
    obtain ⟨q1, q2, q3⟩ := end_row (h := []) (e := 4) (τ := .bool) (ys := []) (g := w.heap.size) (c := 0) (A := some ⟨w.heap.size, 0, none⟩) hH hX hbl.os hbl.tape hbl.output hbl.size (fun i hi _ => hbl.block i hi) (.inr (Nat.le_refl _)) (fun _ => rfl) (Nat.zero_le _) (fun h => by omega) (fun h => by omega) rfl
    exact ⟨_, _, rfl, q1, q2, q3⟩
  · refine (l_Repeat_bool v b o cap c h0 (by omega) w hcell).mono ?_
    rintro ex w' ⟨g, rfl, hg, hblk, hbl⟩
    obtain ⟨q1, q2, q3⟩ := end_row (h := []) (e := 4) (τ := .bool) (ys := List.replicate c v) (g := g) (c := c) (A := some ⟨g, 0, none⟩) hH hX hbl.os hbl.tape hbl.output hbl.size (fun i hi _ => hbl.block i hi) (.inr hg) (fun h => by omega) (by unfold maxLen; omega) (fun _ => ⟨(List.replicate c v).map Value.bool, [], by rw [List.append_nil, List.map_replicate]; exact hblk, bools_ok _, by simp [sz]⟩) (fun _ => rfl) rfl
    rw [hlen] at q3
    exact ⟨_, _, rfl, q1, q2, q3⟩
end Go.Proofs.Ytknkhdjhongklaa
end
section
namespace Go.Proofs.Ytknkhdjhongklaa
open Go.RowKit
set_option maxRecDepth 100000
def zFa (s : (Int × Int × Int × Int × Unit)) : Option (Int × Bool × Unit) := (bif decide ((s.2.2.2.1 = s.1)) then some ((s.2.1, true, ())) else (bif decide ((s.2.2.2.1 = s.2.1)) then some ((s.1, true, ())) else some (((0 : Int), false, ()))))
def zFd (s : (Int × Int × Int × Unit)) : Option (Bool × Unit) := (bif decide ((s.2.1 ≤ s.1)) then some ((decide ((s.1 ≤ s.2.2.1)), ())) else some ((false, ())))
def zFV (s : (Int × Int × Int × Unit)) : Option (Bool × Unit) := (bif decide ((s.2.1 ≤ s.1)) then some ((decide ((s.1 ≤ s.2.2.1)), ())) else some ((false, ())))
def zE7 (s : (Int × Int × Int × Int × Int × Unit)) : Option (Bool × Unit) := (bif decide ((s.1 = min s.2.2.2.1 s.2.2.2.2.1)) then some ((decide ((s.2.1 = max s.2.2.2.1 s.2.2.2.2.1)), ())) else some ((false, ())))
def zBf (s : (Int × Int × Int × Int × List Lk × Unit)) : Option ((Int × Int × Int × Int × List Lk × Unit) ⊕ ((Unit) ⊕ (Int × Unit))) := (bif decide ((s.2.2.1 < nI (List.length s.2.2.2.2.1))) then (bif inR s.2.2.1 (List.length s.2.2.2.2.1) then (bif decide (((at! .lk s.2.2.2.2.1 (Int.toNat s.2.2.1)).a = min s.1 s.2.1)) then (bif inR s.2.2.1 (List.length s.2.2.2.2.1) then (bif decide (((at! .lk s.2.2.2.2.1 (Int.toNat s.2.2.1)).b = max s.1 s.2.1)) then some (Sum.inr (Sum.inr ((s.2.2.1, ())))) else some (Sum.inl ((s.1, s.2.1, wrap64 ((s.2.2.1 + (1 : Int))), s.2.2.2.1, s.2.2.2.2.1, ())))) else none) else some (Sum.inl ((s.1, s.2.1, wrap64 ((s.2.2.1 + (1 : Int))), s.2.2.2.1, s.2.2.2.2.1, ())))) else none) else some (Sum.inr (Sum.inl (()))))
def zFU (s : (Int × List Lk × Int × Int × Unit)) : Option (Int × Unit) := (lp zBf fuel ((s.2.2.1, (s.2.2.2.1, ((0 : Int), (s.1, (s.2.1, ()))))))).bind fun r0 => (match r0 with | .inl _ => some (((-((1 : Int))), ())) | .inr y1 => some ((y1.1, ())))
def zAL (s : (Int × List Lk × Int × Int × List Int × Unit)) : Option ((Int × List Lk × Int × Int × List Int × Unit) ⊕ ((List Int × Unit) ⊕ Unit)) := (bif decide ((s.2.2.2.1 < s.2.2.1)) then (bif inR s.2.2.2.1 (List.length s.2.1) then (zFa (((at! .lk s.2.1 (Int.toNat s.2.2.2.1)).a, ((at! .lk s.2.1 (Int.toNat s.2.2.2.1)).b, ((at! .lk s.2.1 (Int.toNat s.2.2.2.1)).c, (s.1, ())))))).bind fun r0 => (bif r0.2.1 then (bif decide (((List.length s.2.2.2.2.1 + List.length ([r0.1])) ≤ (33554432 : Nat))) then some (Sum.inl ((s.1, s.2.1, s.2.2.1, wrap64 ((s.2.2.2.1 + (1 : Int))), (s.2.2.2.2.1 ++ [r0.1]), ()))) else none) else some (Sum.inl ((s.1, s.2.1, s.2.2.1, wrap64 ((s.2.2.2.1 + (1 : Int))), s.2.2.2.2.1, ())))) else none) else some (Sum.inr (Sum.inl ((s.2.2.2.2.1, ())))))
def zE9 (s : (Int × List Lk × Int × Unit)) : Option (List Int × Unit) := (lp zAL fuel ((s.2.2.1, (s.2.1, (nI (List.length s.2.1), ((0 : Int), (([] : List Int), ()))))))).bind fun r0 => (match r0 with | .inl x1 => (zFN ((x1.1, ()))).bind fun r2 => some ((r2.1, ())) | .inr _ => none)
def zA9 (s : (Int × Int × List Lk × Unit)) : Option ((Int × Int × List Lk × Unit) ⊕ ((Int × List Lk × Unit) ⊕ (Bool × Unit))) := (bif decide ((s.1 < nI (List.length s.2.2.1))) then (bif inR s.1 (List.length s.2.2.1) then (zFV (((at! .lk s.2.2.1 (Int.toNat s.1)).a, ((0 : Int), (wrap64 ((s.2.1 - (1 : Int))), ()))))).bind fun r0 => (bif (!r0.1) then some (Sum.inr (Sum.inr ((false, ())))) else (zFV (((at! .lk s.2.2.1 (Int.toNat s.1)).b, (wrap64 (((at! .lk s.2.2.1 (Int.toNat s.1)).a + (1 : Int))), (wrap64 ((s.2.1 - (1 : Int))), ()))))).bind fun r1 => (bif (!r1.1) then some (Sum.inr (Sum.inr ((false, ())))) else (zFV (((at! .lk s.2.2.1 (Int.toNat s.1)).c, ((1 : Int), ((20 : Int), ()))))).bind fun r2 => (bif (!r2.1) then some (Sum.inr (Sum.inr ((false, ())))) else (bif decide (((0 : Int) < s.1)) then (bif inR (wrap64 ((s.1 - (1 : Int)))) (List.length s.2.2.1) then (bif decide (((at! .lk s.2.2.1 (Int.toNat s.1)).a < (at! .lk s.2.2.1 (Int.toNat (wrap64 ((s.1 - (1 : Int)))))).a)) then some (Sum.inr (Sum.inr ((false, ())))) else (bif inR (wrap64 ((s.1 - (1 : Int)))) (List.length s.2.2.1) then (bif decide (((at! .lk s.2.2.1 (Int.toNat (wrap64 ((s.1 - (1 : Int)))))).a = (at! .lk s.2.2.1 (Int.toNat s.1)).a)) then (bif inR (wrap64 ((s.1 - (1 : Int)))) (List.length s.2.2.1) then (bif decide (((at! .lk s.2.2.1 (Int.toNat s.1)).b ≤ (at! .lk s.2.2.1 (Int.toNat (wrap64 ((s.1 - (1 : Int)))))).b)) then some (Sum.inr (Sum.inr ((false, ())))) else some (Sum.inl ((wrap64 ((s.1 + (1 : Int))), s.2.1, s.2.2.1, ())))) else none) else some (Sum.inl ((wrap64 ((s.1 + (1 : Int))), s.2.1, s.2.2.1, ())))) else none)) else none) else some (Sum.inl ((wrap64 ((s.1 + (1 : Int))), s.2.1, s.2.2.1, ()))))))) else none) else some (Sum.inr (Sum.inl ((s.2.1, s.2.2.1, ())))))
def zFO (s : (Int × List Lk × Unit)) : Option (Bool × Unit) := (lp zA9 fuel (((0 : Int), (s.1, (s.2.1, ()))))).bind fun r0 => (match r0 with | .inl x1 => (zFV ((x1.1, ((1 : Int), ((8 : Int), ()))))).bind fun r2 => (bif r2.1 then some ((decide ((nI (List.length x1.2.1) ≤ (14 : Int))), ())) else some ((false, ()))) | .inr y1 => some ((y1.1, ())))
def zAI (s : (List Lk × Int × Int × Int × List Lk × Unit)) : Option ((List Lk × Int × Int × Int × List Lk × Unit) ⊕ ((Unit) ⊕ (Bool × Unit))) := (bif decide ((s.2.2.1 < s.2.1)) then (bif inR s.2.2.1 (List.length s.1) then (bif decide (((at! .lk s.1 (Int.toNat s.2.2.1)).a < (0 : Int))) then some (Sum.inr (Sum.inr ((false, ())))) else (bif decide (((at! .lk s.1 (Int.toNat s.2.2.1)).b ≤ (at! .lk s.1 (Int.toNat s.2.2.1)).a)) then some (Sum.inr (Sum.inr ((false, ())))) else (bif decide ((s.2.2.2.1 ≤ (at! .lk s.1 (Int.toNat s.2.2.1)).b)) then some (Sum.inr (Sum.inr ((false, ())))) else (zFd (((at! .lk s.1 (Int.toNat s.2.2.1)).c, ((1 : Int), ((20 : Int), ()))))).bind fun r0 => (bif (!r0.1) then some (Sum.inr (Sum.inr ((false, ())))) else (bif decide (((0 : Int) < s.2.2.1)) then (bif inR (wrap64 ((s.2.2.1 - (1 : Int)))) (List.length s.2.2.2.2.1) then (bif decide (((at! .lk s.1 (Int.toNat s.2.2.1)).a < (at! .lk s.2.2.2.2.1 (Int.toNat (wrap64 ((s.2.2.1 - (1 : Int)))))).a)) then some (Sum.inr (Sum.inr ((false, ())))) else (bif inR (wrap64 ((s.2.2.1 - (1 : Int)))) (List.length s.2.2.2.2.1) then (bif decide (((at! .lk s.2.2.2.2.1 (Int.toNat (wrap64 ((s.2.2.1 - (1 : Int)))))).a = (at! .lk s.1 (Int.toNat s.2.2.1)).a)) then (bif inR (wrap64 ((s.2.2.1 - (1 : Int)))) (List.length s.2.2.2.2.1) then (bif decide (((at! .lk s.1 (Int.toNat s.2.2.1)).b ≤ (at! .lk s.2.2.2.2.1 (Int.toNat (wrap64 ((s.2.2.1 - (1 : Int)))))).b)) then some (Sum.inr (Sum.inr ((false, ())))) else some (Sum.inl ((s.1, s.2.1, wrap64 ((s.2.2.1 + (1 : Int))), s.2.2.2.1, s.2.2.2.2.1, ())))) else none) else some (Sum.inl ((s.1, s.2.1, wrap64 ((s.2.2.1 + (1 : Int))), s.2.2.2.1, s.2.2.2.2.1, ())))) else none)) else none) else some (Sum.inl ((s.1, s.2.1, wrap64 ((s.2.2.1 + (1 : Int))), s.2.2.2.1, s.2.2.2.2.1, ())))))))) else none) else some (Sum.inr (Sum.inl (()))))
def zE4 (s : (Int × List Lk × Unit)) : Option (Bool × Unit) := (zFd ((s.1, ((1 : Int), ((8 : Int), ()))))).bind fun r0 => (bif (!r0.1) then some ((false, ())) else (bif decide (((14 : Int) < nI (List.length s.2.1))) then some ((false, ())) else (lp zAI fuel ((s.2.1, (nI (List.length s.2.1), ((0 : Int), (s.1, (s.2.1, ()))))))).bind fun r1 => (match r1 with | .inl _ => some ((true, ())) | .inr y2 => some ((y2.1, ())))))
def zA8 (s : (List Lk × Int × Int × Int × Int × Unit)) : Option ((List Lk × Int × Int × Int × Int × Unit) ⊕ ((Unit) ⊕ (Int × Unit))) := (bif decide ((s.2.2.2.2.1 < s.2.2.2.1)) then (bif inR s.2.2.2.2.1 (List.length s.1) then (zE7 (((at! .lk s.1 (Int.toNat s.2.2.2.2.1)).a, ((at! .lk s.1 (Int.toNat s.2.2.2.2.1)).b, ((at! .lk s.1 (Int.toNat s.2.2.2.2.1)).c, (s.2.1, (s.2.2.1, ()))))))).bind fun r0 => (bif r0.1 then some (Sum.inr (Sum.inr ((s.2.2.2.2.1, ())))) else some (Sum.inl ((s.1, s.2.1, s.2.2.1, s.2.2.2.1, wrap64 ((s.2.2.2.2.1 + (1 : Int))), ())))) else none) else some (Sum.inr (Sum.inl (()))))
def zFK (s : (List Lk × Int × Int × Unit)) : Option (Int × Unit) := (lp zA8 fuel ((s.1, (s.2.1, (s.2.2.1, (nI (List.length s.1), ((0 : Int), ()))))))).bind fun r0 => (match r0 with | .inl _ => some (((-((1 : Int))), ())) | .inr y1 => some ((y1.1, ())))
def zE6 (s : (Int × List Lk × Int × Int × Unit)) : Option (Int × Unit) := (zFK ((s.2.1, (s.2.2.1, (s.2.2.2.1, ()))))).bind fun r0 => some ((r0.1, ()))
end Go.Proofs.Ytknkhdjhongklaa
end
section
namespace Go.Proofs.Ytknkhdjhongklaa
open Go.RowKit
set_option linter.unusedSimpArgs false
set_option linter.unusedVariables false

theorem at_int (zs : List Int) (i : Nat) : at! .int zs i = iz zs i := by
  induction zs generalizing i with
  | nil => rfl
  | cons z r ih => cases i with
    | zero => rfl
    | succ i => exact (ih i).trans (by simp [iz])
theorem at_lk (ls : List Lk) (i : Nat) : at! .lk ls i = lk ls i := by
  induction ls generalizing i with
  | nil => rfl
  | cons z r ih => cases i with
    | zero => rfl
    | succ i => exact (ih i).trans (by simp [lk])
abbrev Fits {α : Type} (l : List α) : Prop := l.length ≤ 4611686018427387904
theorem zCO (a b c : Int) : zFd (a, b, c, ()) = some (inB a b c, ()) := by
  unfold zFd inB
  by_cases h : b ≤ a <;> simp [h]
theorem e_l6In (a b c : Int) : zFV (a, b, c, ()) = some (inB a b c, ()) := by
  unfold zFV inB
  by_cases h : b ≤ a <;> simp [h]
theorem fuel_lt {n : Nat} (h : n ≤ 4611686018427387904) : n < fuel := by unfold fuel; omega
theorem toN (k : Nat) : Int.toNat (k : Int) = k := rfl
theorem toN1 (k : Nat) : Int.toNat ((k : Int) - 1) = k - 1 := by omega

theorem zBg (n : Int) (ls : List Lk) (hl : Fits ls) : zE4 (n, ls, ()) = some (gv n ls, ()) := by
  unfold zE4
  simp only [zCO, Option.bind_some, nI_eq]
  cases h1 : inB n 1 8 with
  | false => simp; rw [gv_f fun g => inB_f h1 ⟨g.1, g.2.1⟩]
  | true =>
  have h1 := inB_t h1
  by_cases h2 : ls.length ≤ 14
  case neg => 
    have : (14 : Int) < ls.length := by omega
    simp [this]; rw [gv_f fun g => h2 g.2.2.1]
  have h2' : ¬ (14 : Int) < ls.length := by omega
  simp only [h2', decide_false, cond_false, Bool.not_true]
  refine Sat.out (Sat.bnd (R := fun r => match r with | .inl _ => gv n ls = true | .inr y => y.1 = gv n ls) ?_ ?_)
  · refine Sat.count ls.length (fun k s => s = (ls, (ls.length : Int), (k : Int), n, ls, ()) ∧ ∀ i, i < k → LkAt n ls i) ?_ (Nat.zero_le _) (fuel_lt (by omega)) ⟨rfl, fun i hi => by omega⟩
    rintro k s hk ⟨rfl, hok⟩
    simp (disch := omega) only [zAI, at_lk, toN, toN1, w64, zCO, Option.bind_some]
    repeat' (first
      | refine Sat.some ?_
      | fail
      | (refine Sat.gd (by first | exact inR_t (by omega) (by omega) | (simp (disch := omega) only [w64]; exact inR_t (by omega) (by omega))) ?_)
      | (refine Sat.ite (fun h => ?_) (fun h => ?_) <;> try simp only [decide_eq_true_eq, decide_eq_false_iff_not, Bool.not_eq_true', Bool.not_eq_false', inB_i, inB_j, Bool.and_eq_true, Bool.or_eq_true, Bool.and_eq_false_iff, Bool.or_eq_false_iff, El] at h))
    all_goals dsimp only
    all_goals first
      | exact (gv_at (k := k) (by omega) fun _ _ g => by unfold LkAt at g; omega).symm
      | (refine ⟨by omega, rfl, fun i hi => ?_⟩
         by_cases e : i < k
         · exact hok i e
         · obtain rfl : i = k := by omega
           unfold LkAt
           omega)
      | (obtain rfl : k = ls.length := by omega
         exact decide_eq_true ⟨h1.1, h1.2, h2, hok⟩)
  · rintro (r | r) hr
    · exact .some (by simp [hr])
    · obtain ⟨b, u⟩ := r
      have hr : b = gv n ls := hr
      exact .some (by first | rw [hr] | exact Prod.ext hr rfl)

theorem zCx (n : Int) (ls : List Lk) (hl : Fits ls) : zFO (n, ls, ()) = some (gv n ls, ()) := by
  unfold zFO
  refine Sat.out (Sat.bnd (R := fun r => match r with | .inl x => x = (n, ls, ()) ∧ gv n ls = (inB n 1 8 && decide ((ls.length : Int) ≤ 14)) | .inr y => y.1 = false ∧ gv n ls = false) ?_ ?_)
  · refine Sat.count ls.length (fun k s => s = ((k : Int), n, ls, ()) ∧ (1 ≤ n → n ≤ 8 → ∀ i, i < k → LkAt n ls i)) ?_ (Nat.zero_le _) (fuel_lt (by omega)) ⟨rfl, fun _ _ i hi => by omega⟩
    rintro k s hk ⟨rfl, hok⟩
    simp (disch := omega) only [zA9, at_lk, toN, toN1, w64, nI_eq, e_l6In, Option.bind_some]
    repeat' (first
      | refine Sat.some ?_
      | fail
      | (refine Sat.gd (by first | exact inR_t (by omega) (by omega) | (simp (disch := omega) only [w64]; exact inR_t (by omega) (by omega))) ?_)
      | (refine Sat.ite (fun h => ?_) (fun h => ?_) <;> try simp only [decide_eq_true_eq, decide_eq_false_iff_not, Bool.not_eq_true', Bool.not_eq_false', inB_i, inB_j, Bool.and_eq_true, Bool.or_eq_true, Bool.and_eq_false_iff, Bool.or_eq_false_iff, El] at h))
    all_goals dsimp only
    all_goals first
      | (refine ⟨rfl, gv_at (k := k) (by omega) fun h1 h2 g => ?_⟩
         unfold LkAt at g
         have e1 : wrap64 (n - 1) = n - 1 := w64 (by omega) (by omega)
         have e2 : wrap64 ((lk ls k).a + 1) = (lk ls k).a + 1 := w64 (by omega) (by omega)
         simp only [e1, e2] at *
         omega)
      | (refine ⟨by omega, rfl, fun h1 h2 i hi => ?_⟩
         by_cases e : i < k
         · exact hok h1 h2 i e
         · obtain rfl : i = k := by omega
           have e1 : wrap64 (n - 1) = n - 1 := w64 (by omega) (by omega)
           simp only [e1] at *
           have e2 : wrap64 ((lk ls i).a + 1) = (lk ls i).a + 1 := w64 (by omega) (by omega)
           simp only [e2] at *
           unfold LkAt
           omega)
      | exact ⟨rfl, gv_end (show ls.length = k by omega) hok ▸ (by rw [show ls.length = k by omega])⟩
  · rintro (r | r) hr
    · have hr : r = (n, ls, ()) ∧ gv n ls = (inB n 1 8 && decide ((ls.length : Int) ≤ 14)) := hr
      obtain ⟨rfl, hr⟩ := hr
      simp only [e_l6In, Option.bind_some, nI_eq, hr]
      cases inB n 1 8 <;> exact .some rfl
    · obtain ⟨b, u⟩ := r
      have hr : b = false ∧ gv n ls = false := hr
      exact .some (by first | rw [hr.1, hr.2] | exact Prod.ext hr.1 (Prod.ext hr.2 rfl))
end Go.Proofs.Ytknkhdjhongklaa

namespace Go.Proofs.Ytknkhdjhongklaa
open Go.RowKit
set_option linter.unusedSimpArgs false
set_option linter.unusedVariables false

theorem zBR (n : Int) (ls : List Lk) (a b : Int) (hl : Fits ls) : zFU (n, ls, a, b, ()) = some (lof ls a b, ()) := by
  unfold zFU
  refine Sat.out (Sat.bnd (R := fun r => match r with | .inl _ => lof ls a b = -1 | .inr y => y.1 = lof ls a b) ?_ ?_)
  · refine Sat.count ls.length (fun k s => s = (a, b, (k : Int), n, ls, ()) ∧ ∀ i, i < k → hitB (min a b) (max a b) (lk ls i) = false) ?_ (Nat.zero_le _) (fuel_lt (by omega)) ⟨rfl, fun i hi => by omega⟩
    rintro k s hk ⟨rfl, hok⟩
    simp (disch := omega) only [zBf, at_lk, toN, w64, nI_eq]
    repeat' (first
      | refine Sat.some ?_
      | fail
      | (refine Sat.gd (by first | exact inR_t (by omega) (by omega) | (simp (disch := omega) only [w64]; exact inR_t (by omega) (by omega))) ?_)
      | (refine Sat.ite (fun h => ?_) (fun h => ?_) <;> try simp only [decide_eq_true_eq, decide_eq_false_iff_not, Bool.not_eq_true', Bool.not_eq_false', inB_i, inB_j, Bool.and_eq_true, Bool.or_eq_true, Bool.and_eq_false_iff, Bool.or_eq_false_iff, El] at h))
    all_goals try dsimp only
    all_goals first
      | (exact (lof_hit (by omega) (hit_yes (by assumption) (by assumption)) hok).symm)
      | (refine ⟨by omega, rfl, fun i hi => ?_⟩
         by_cases e : i < k
         · exact hok i e
         · obtain rfl : i = k := by omega
           exact hit_no (by omega))
      | exact lof_miss fun i hi => hok i (by omega)
  · rintro (r | r) hr
    · have hr : lof ls a b = -1 := hr
      exact .some (by first | rw [hr] | exact Prod.ext hr rfl)
    · obtain ⟨z, u⟩ := r
      have hr : z = lof ls a b := hr
      exact .some (by first | rw [hr] | exact Prod.ext hr rfl)
theorem zCo (n : Int) (ls : List Lk) (a b : Int) (hl : Fits ls) : zE6 (n, ls, a, b, ()) = some (lof ls a b, ()) := by
  unfold zE6 zFK
  refine Sat.out (Sat.bnd (R := fun r => r.1 = lof ls a b) (Sat.bnd (R := fun r => match r with | .inl _ => lof ls a b = -1 | .inr y => y.1 = lof ls a b) ?_ ?_) ?_)
  · refine Sat.count ls.length (fun k s => s = (ls, a, b, (ls.length : Int), (k : Int), ()) ∧ ∀ i, i < k → hitB (min a b) (max a b) (lk ls i) = false) ?_ (Nat.zero_le _) (fuel_lt (by omega)) ⟨by simp [nI_eq], fun i hi => by omega⟩
    rintro k s hk ⟨rfl, hok⟩
    have e1 : ∀ x y z p q : Int, zE7 (x, y, z, p, q, ()) = some (decide (x = min p q) && decide (y = max p q), ()) := fun x y z p q => by
      unfold zE7
      by_cases h : x = min p q <;> simp [h]
    simp (disch := omega) only [zA8, at_lk, toN, w64, nI_eq, e1, Option.bind_some]
    repeat' (first
      | refine Sat.some ?_
      | fail
      | (refine Sat.gd (by first | exact inR_t (by omega) (by omega) | (simp (disch := omega) only [w64]; exact inR_t (by omega) (by omega))) ?_)
      | (refine Sat.ite (fun h => ?_) (fun h => ?_) <;> try simp only [decide_eq_true_eq, decide_eq_false_iff_not, Bool.not_eq_true', Bool.not_eq_false', inB_i, inB_j, Bool.and_eq_true, Bool.or_eq_true, Bool.and_eq_false_iff, Bool.or_eq_false_iff, El] at h))
    all_goals try dsimp only
    all_goals first
      | (exact (lof_hit (by omega) (hit_yes (by omega) (by omega)) hok).symm)
      | (refine ⟨by omega, rfl, fun i hi => ?_⟩
         by_cases e : i < k
         · exact hok i e
         · obtain rfl : i = k := by omega
           exact hit_no (by omega))
      | exact lof_miss fun i hi => hok i (by omega)
  · rintro (r | r) hr
    · have hr : lof ls a b = -1 := hr
      exact .some (by first | rw [hr] | exact Prod.ext hr rfl)
    · exact .some hr
  · rintro ⟨z, u⟩ hr
    have hr : z = lof ls a b := hr
    exact .some (by first | rw [hr] | exact Prod.ext hr rfl)
theorem zCw (a b c n : Int) : zFa (a, b, c, n, ()) = some (otherE ⟨a, b, c⟩ n, isEnd ⟨a, b, c⟩ n, ()) := by
  unfold zFa otherE isEnd
  by_cases h : n = a
  · simp [h]
  · by_cases h' : n = b
    · subst h'; simp [h]
    · simp [h, h']
theorem zCv (n : Int) (ls : List Lk) (m : Int) (hl : ls.length ≤ 16777216) : zE9 (n, ls, m, ()) = some (sortI (others ls m ls.length), ()) := by
  unfold zE9
  refine Sat.out (Sat.bnd (R := fun r => match r with | .inl x => x.1 = others ls m ls.length | .inr _ => False) ?_ ?_)
  · refine Sat.count ls.length (fun k s => s = (m, ls, (ls.length : Int), (k : Int), others ls m k, ())) ?_ (Nat.zero_le _) (fuel_lt (by omega)) (by simp [nI_eq, others])
    rintro k s hk rfl
    have hlen := others_len ls m k
    simp (disch := omega) only [zAL, at_lk, toN, w64, nI_eq, zCw, Option.bind_some, List.length_singleton]
    repeat' (first
      | refine Sat.some ?_
      | (refine Sat.gd (decide_eq_true (by omega)) ?_)
      | (refine Sat.gd (by first | exact inR_t (by omega) (by omega) | (simp (disch := omega) only [w64]; exact inR_t (by omega) (by omega))) ?_)
      | (refine Sat.ite (fun h => ?_) (fun h => ?_) <;> try simp only [decide_eq_true_eq, decide_eq_false_iff_not, Bool.not_eq_true', Bool.not_eq_false', inB_i, inB_j, Bool.and_eq_true, Bool.or_eq_true, Bool.and_eq_false_iff, Bool.or_eq_false_iff, El] at h))
    all_goals try dsimp only
    all_goals first
      | (refine ⟨by omega, ?_⟩
         rw [others_succ ls m k (by omega)]
         simp [*])
      | (obtain rfl : k = ls.length := by omega
         rfl)
  · rintro (r | r) hr
    · have hr : r.1 = others ls m ls.length := hr
      show Sat ((zFN (r.1, ())).bind _) _
      rw [hr]
      have hlen := others_len ls m ls.length
      unfold zFN
      rw [decide_eq_true (show (others ls m ls.length).length ≤ 16777216 by omega)]
      exact .some rfl
    · exact hr.elim
end Go.Proofs.Ytknkhdjhongklaa

namespace Go.Proofs.Ytknkhdjhongklaa
open Go.RowKit
set_option linter.unusedSimpArgs false
set_option linter.unusedVariables false
set_option maxRecDepth 100000

section
variable {n : Nat} {ls : List Lk}
end
end Go.Proofs.Ytknkhdjhongklaa

namespace Go.Proofs.Ytknkhdjhongklaa
open Go.RowKit
set_option linter.unusedSimpArgs false
set_option linter.unusedVariables false
set_option maxRecDepth 100000

section
variable {n : Nat} {ls : List Lk}
end
end Go.Proofs.Ytknkhdjhongklaa

namespace Go.Proofs.Ytknkhdjhongklaa
open Go.RowKit
set_option linter.unusedSimpArgs false
set_option linter.unusedVariables false
set_option maxRecDepth 100000

section
variable {N : Nat} {la lb : List Lk} {bs : List Int}
end
end Go.Proofs.Ytknkhdjhongklaa

namespace Go.Proofs.Ytknkhdjhongklaa
open Go.RowKit
set_option linter.unusedSimpArgs false
set_option linter.unusedVariables false
set_option maxRecDepth 100000

section
variable {N : Nat} {la lb : List Lk} {bs : List Int}
end
end Go.Proofs.Ytknkhdjhongklaa

namespace Go.Proofs.Ytknkhdjhongklaa
open Go.RowKit
set_option linter.unusedSimpArgs false
set_option linter.unusedVariables false
set_option maxRecDepth 100000

section
variable {N : Nat} {la lb : List Lk} {bs : List Int}
end
end Go.Proofs.Ytknkhdjhongklaa
end
section
namespace Go.Proofs.Ytknkhdjhongklaa
open Go.RowKit
set_option maxRecDepth 100000
def zBe (s : (Int × Int × Int × List Lk × Int × Int × List En × Int × Int × List En × Unit)) : Option ((Int × Int × Int × List Lk × Int × Int × List En × Int × Int × List En × Unit) ⊕ ((Int × Int × List En × Int × Int × List En × Unit) ⊕ Unit)) := (bif decide ((s.2.1 < s.2.2.1)) then (zFU ((s.2.2.1, (s.2.2.2.1, (s.1, (s.2.1, ())))))).bind fun r0 => (bif decide (((0 : Int) ≤ r0.1)) then (bif inR r0.1 (List.length s.2.2.2.1) then (bif decide (((List.length s.2.2.2.2.2.2.2.2.2.1 + List.length ([(En.mk s.2.1 ((at! .lk s.2.2.2.1 (Int.toNat r0.1)).c))])) ≤ (33554432 : Nat))) then some (Sum.inl ((s.1, wrap64 ((s.2.1 + (1 : Int))), s.2.2.1, s.2.2.2.1, s.2.2.2.2.1, s.2.2.2.2.2.1, s.2.2.2.2.2.2.1, s.2.2.2.2.2.2.2.1, s.2.2.2.2.2.2.2.2.1, (s.2.2.2.2.2.2.2.2.2.1 ++ [(En.mk s.2.1 ((at! .lk s.2.2.2.1 (Int.toNat r0.1)).c))]), ()))) else none) else none) else some (Sum.inl ((s.1, wrap64 ((s.2.1 + (1 : Int))), s.2.2.1, s.2.2.2.1, s.2.2.2.2.1, s.2.2.2.2.2.1, s.2.2.2.2.2.2.1, s.2.2.2.2.2.2.2.1, s.2.2.2.2.2.2.2.2.1, s.2.2.2.2.2.2.2.2.2.1, ())))) else some (Sum.inr (Sum.inl ((s.2.2.2.2.1, s.2.2.2.2.2.1, s.2.2.2.2.2.2.1, s.2.2.2.2.2.2.2.1, s.2.2.2.2.2.2.2.2.1, s.2.2.2.2.2.2.2.2.2.1, ())))))
def zFR (s : (Int × List Lk × Int × Int × Unit)) : Option (Int × Int × List En × Unit) := (lp zBe fuel ((s.2.2.1, ((0 : Int), (s.1, (s.2.1, ((0 : Int), ((0 : Int), (([] : List En), (s.2.2.1, (s.2.2.2.1, (([] : List En), ())))))))))))).bind fun r0 => (match r0 with | .inl x1 => some ((x1.2.2.2.1, x1.2.2.2.2.1, x1.2.2.2.2.2.1, ())) | .inr _ => none)
def zAK (s : (Int × Int × Int × Int × List Lk × Int × Int × Int × Int × List Int × List En × List En × Unit)) : Option ((Int × Int × Int × Int × List Lk × Int × Int × Int × Int × List Int × List En × List En × Unit) ⊕ ((Int × Int × Int × Int × List En × List En × Unit) ⊕ Unit)) := (bif decide ((s.2.2.1 < s.2.1)) then (bif inR s.2.2.1 (List.length s.2.2.2.2.2.2.2.2.2.1) then (zE6 ((s.2.2.2.1, (s.2.2.2.2.1, (s.1, (at! .int s.2.2.2.2.2.2.2.2.2.1 (Int.toNat s.2.2.1), ())))))).bind fun r0 => (bif inR r0.1 (List.length s.2.2.2.2.1) then (bif decide (((List.length s.2.2.2.2.2.2.2.2.2.2.2.1 + List.length ([(En.mk (at! .int s.2.2.2.2.2.2.2.2.2.1 (Int.toNat s.2.2.1)) ((at! .lk s.2.2.2.2.1 (Int.toNat r0.1)).c))])) ≤ (33554432 : Nat))) then some (Sum.inl ((s.1, s.2.1, wrap64 ((s.2.2.1 + (1 : Int))), s.2.2.2.1, s.2.2.2.2.1, s.2.2.2.2.2.1, s.2.2.2.2.2.2.1, s.2.2.2.2.2.2.2.1, s.2.2.2.2.2.2.2.2.1, s.2.2.2.2.2.2.2.2.2.1, s.2.2.2.2.2.2.2.2.2.2.1, (s.2.2.2.2.2.2.2.2.2.2.2.1 ++ [(En.mk (at! .int s.2.2.2.2.2.2.2.2.2.1 (Int.toNat s.2.2.1)) ((at! .lk s.2.2.2.2.1 (Int.toNat r0.1)).c))]), ()))) else none) else none) else none) else some (Sum.inr (Sum.inl ((s.2.2.2.2.2.1, s.2.2.2.2.2.2.1, s.2.2.2.2.2.2.2.1, s.2.2.2.2.2.2.2.2.1, s.2.2.2.2.2.2.2.2.2.2.1, s.2.2.2.2.2.2.2.2.2.2.2.1, ())))))
def zE8 (s : (Int × List Lk × Int × Int × Unit)) : Option (Int × Int × List En × Unit) := (zE9 ((s.1, (s.2.1, (s.2.2.1, ()))))).bind fun r0 => (lp zAK fuel ((s.2.2.1, (nI (List.length r0.1), ((0 : Int), (s.1, (s.2.1, ((0 : Int), ((0 : Int), (s.2.2.1, (s.2.2.2.1, (r0.1, (([] : List En), (([] : List En), ())))))))))))))).bind fun r1 => (match r1 with | .inl x2 => some ((x2.2.2.1, x2.2.2.2.1, x2.2.2.2.2.2.1, ())) | .inr _ => none)
end Go.Proofs.Ytknkhdjhongklaa
end
section
namespace Go.Proofs.Ytknkhdjhongklaa
open Go.RowKit
set_option linter.unusedSimpArgs false
set_option linter.unusedVariables false
set_option maxRecDepth 100000

def en (es : List En) (i : Nat) : En := es.getD i ⟨0, 0⟩
def lsa (db : List Ls) (i : Nat) : Ls := db.getD i ⟨0, 0, []⟩
theorem at_en (es : List En) (i : Nat) : at! .en es i = en es i := by
  induction es generalizing i with
  | nil => rfl
  | cons z r ih => cases i with
    | zero => rfl
    | succ i => exact (ih i).trans (by simp [en])
theorem at_ls (es : List Ls) (i : Nat) : at! .ls es i = lsa es i := by
  induction es generalizing i with
  | nil => rfl
  | cons z r ih => cases i with
    | zero => rfl
    | succ i => exact (ih i).trans (by simp [lsa])
theorem lsa_get {es : List Ls} {i : Nat} (h : i < es.length) : lsa es i = es[i] := by simp [lsa, h]
def EnAt (o : Int) (es : List En) (i : Nat) : Prop := 0 ≤ (en es i).n ∧ (en es i).n ≤ 7 ∧ (en es i).n ≠ o ∧ 1 ≤ (en es i).c ∧ (en es i).c ≤ 20 ∧ (0 < i → (en es (i - 1)).n < (en es i).n)
instance (o : Int) (es : List En) (i : Nat) : Decidable (EnAt o es i) := by unfold EnAt; infer_instance
def LsV (l : Ls) : Prop := 0 ≤ l.o ∧ l.o ≤ 7 ∧ 1 ≤ l.s ∧ l.s ≤ 99 ∧ ∀ i, i < l.e.length → EnAt l.o l.e i
instance (l : Ls) : Decidable (LsV l) := by unfold LsV; infer_instance
def DbV (db : List Ls) : Prop := ∀ i, i < db.length → LsV (lsa db i) ∧ (0 < i → (lsa db (i - 1)).o < (lsa db i).o)
instance (db : List Ls) : Decidable (DbV db) := by unfold DbV; infer_instance
def fd (db : List Ls) (o : Int) : Option Ls := db.find? fun l => decide (l.o = o)
def ec (es : List En) (b : Int) : Int := match es.find? (fun e => decide (e.n = b)) with | some e => e.c | none => 0
end Go.Proofs.Ytknkhdjhongklaa
end
section
namespace Go.Proofs.Ytknkhdjhongklaa
open Go.RowKit
set_option maxRecDepth 100000
def zFG (s : (List Lk × Int × Unit)) : Option (Int × Unit) := (bif decide ((wrap64 ((s.2.1 - nI (List.length s.1))) < (0 : Int))) then some (((-((1 : Int))), ())) else some ((wrap64 ((s.2.1 - nI (List.length s.1))), ())))
def zFj (s : (Int × Int × Int × Int × Int × Int × Unit)) : Option (Bool × Unit) := (bif (!(decide ((s.1 = s.2.2.2.1)))) then some ((false, ())) else (bif (!(decide ((s.2.1 = s.2.2.2.2.1)))) then some ((false, ())) else (bif (!(decide ((s.2.2.1 = s.2.2.2.2.2.1)))) then some ((false, ())) else some ((true, ())))))
def zFI (s : (Int × Int × Int × Unit)) : Option (Int × Int × Int × Unit) := some ((s.1, s.2.1, s.2.2.1, ()))
def zFF (s : (Int × List Lk × Int × Unit)) : Option (Int × Unit) := (zFG ((s.2.1, (s.2.2.1, ())))).bind fun r0 => (bif decide ((r0.1 < (0 : Int))) then some (((-((1 : Int))), ())) else some ((r0.1, ())))
def zA7 (s : (List Lk × Int × List Lk × Unit)) : Option ((List Lk × Int × List Lk × Unit) ⊕ ((List Lk × Unit) ⊕ Unit)) := (bif decide ((s.2.1 < nI (List.length s.1))) then (bif inR s.2.1 (List.length s.1) then (zFI (((at! .lk s.1 (Int.toNat s.2.1)).a, ((at! .lk s.1 (Int.toNat s.2.1)).b, ((at! .lk s.1 (Int.toNat s.2.1)).c, ()))))).bind fun r0 => (bif inR s.2.1 (List.length s.2.2.1) then some (Sum.inl ((s.1, wrap64 ((s.2.1 + (1 : Int))), List.set s.2.2.1 (Int.toNat s.2.1) ((Lk.mk r0.1 r0.2.1 r0.2.2.1)), ()))) else none) else none) else some (Sum.inr (Sum.inl ((s.2.2.1, ())))))
def zFJ (s : (List Lk × Unit)) : Option (List Lk × Unit) := (bif (decide ((nI (List.length s.1) = nI (List.length s.1))) && (decide (((0 : Int) ≤ nI (List.length s.1))) && decide ((nI (List.length s.1) ≤ (16777216 : Int))))) then (lp zA7 fuel ((s.1, ((0 : Int), (List.replicate (Int.toNat (nI (List.length s.1))) (dfl .lk), ()))))).bind fun r0 => (match r0 with | .inl x1 => some ((x1.1, ())) | .inr _ => none) else none)
def zFf (s : (Int × Int × Int × Int × Unit)) : Option (Bool × Unit) := (bif (!(decide ((s.1 = s.2.2.1)))) then some ((false, ())) else (bif (!(decide ((s.2.1 = s.2.2.2.1)))) then some ((false, ())) else some ((true, ()))))
def zAS (s : (List Lk × List Lk × Int × Unit)) : Option ((List Lk × List Lk × Int × Unit) ⊕ ((Unit) ⊕ (Bool × Unit))) := (bif decide ((s.2.2.1 < nI (List.length s.1))) then (bif inR s.2.2.1 (List.length s.1) then (bif inR s.2.2.1 (List.length s.2.1) then (zFj (((at! .lk s.1 (Int.toNat s.2.2.1)).a, ((at! .lk s.1 (Int.toNat s.2.2.1)).b, ((at! .lk s.1 (Int.toNat s.2.2.1)).c, ((at! .lk s.2.1 (Int.toNat s.2.2.1)).a, ((at! .lk s.2.1 (Int.toNat s.2.2.1)).b, ((at! .lk s.2.1 (Int.toNat s.2.2.1)).c, ())))))))).bind fun r0 => (bif (!r0.1) then some (Sum.inr (Sum.inr ((false, ())))) else some (Sum.inl ((s.1, s.2.1, wrap64 ((s.2.2.1 + (1 : Int))), ())))) else none) else none) else some (Sum.inr (Sum.inl (()))))
def zFk (s : (List Lk × List Lk × Unit)) : Option (Bool × Unit) := (bif (!(decide ((nI (List.length s.1) = nI (List.length s.2.1))))) then some ((false, ())) else (lp zAS fuel ((s.1, (s.2.1, ((0 : Int), ()))))).bind fun r0 => (match r0 with | .inl _ => some ((true, ())) | .inr y1 => some ((y1.1, ()))))
def zFH (s : (Int × List Lk × Unit)) : Option (Int × List Lk × Unit) := (zFJ ((s.2.1, ()))).bind fun r0 => some ((s.1, r0.1, ()))
def zAR (s : (List Int × List Int × Int × Unit)) : Option ((List Int × List Int × Int × Unit) ⊕ ((Unit) ⊕ (Bool × Unit))) := (bif decide ((s.2.2.1 < nI (List.length s.1))) then (bif inR s.2.2.1 (List.length s.1) then (bif inR s.2.2.1 (List.length s.2.1) then (bif (!(decide ((at! .int s.1 (Int.toNat s.2.2.1) = at! .int s.2.1 (Int.toNat s.2.2.1))))) then some (Sum.inr (Sum.inr ((false, ())))) else some (Sum.inl ((s.1, s.2.1, wrap64 ((s.2.2.1 + (1 : Int))), ())))) else none) else none) else some (Sum.inr (Sum.inl (()))))
def zFi (s : (List Int × List Int × Unit)) : Option (Bool × Unit) := (bif (!(decide ((nI (List.length s.1) = nI (List.length s.2.1))))) then some ((false, ())) else (lp zAR fuel ((s.1, (s.2.1, ((0 : Int), ()))))).bind fun r0 => (match r0 with | .inl _ => some ((true, ())) | .inr y1 => some ((y1.1, ()))))
def zFh (s : (Int × List Lk × Int × List Lk × Unit)) : Option (Bool × Unit) := (bif (!(decide ((s.1 = s.2.2.1)))) then some ((false, ())) else (zFk ((s.2.1, (s.2.2.2.1, ())))).bind fun r0 => (bif (!r0.1) then some ((false, ())) else some ((true, ()))))
def zAQ (s : (List En × List En × Int × Unit)) : Option ((List En × List En × Int × Unit) ⊕ ((Unit) ⊕ (Bool × Unit))) := (bif decide ((s.2.2.1 < nI (List.length s.1))) then (bif inR s.2.2.1 (List.length s.1) then (bif inR s.2.2.1 (List.length s.2.1) then (zFf (((at! .en s.1 (Int.toNat s.2.2.1)).n, ((at! .en s.1 (Int.toNat s.2.2.1)).c, ((at! .en s.2.1 (Int.toNat s.2.2.1)).n, ((at! .en s.2.1 (Int.toNat s.2.2.1)).c, ())))))).bind fun r0 => (bif (!r0.1) then some (Sum.inr (Sum.inr ((false, ())))) else some (Sum.inl ((s.1, s.2.1, wrap64 ((s.2.2.1 + (1 : Int))), ())))) else none) else none) else some (Sum.inr (Sum.inl (()))))
def zFg (s : (List En × List En × Unit)) : Option (Bool × Unit) := (bif (!(decide ((nI (List.length s.1) = nI (List.length s.2.1))))) then some ((false, ())) else (lp zAQ fuel ((s.1, (s.2.1, ((0 : Int), ()))))).bind fun r0 => (match r0 with | .inl _ => some ((true, ())) | .inr y1 => some ((y1.1, ()))))
def zAP (s : (List Bool × List Bool × Int × Unit)) : Option ((List Bool × List Bool × Int × Unit) ⊕ ((Unit) ⊕ (Bool × Unit))) := (bif decide ((s.2.2.1 < nI (List.length s.1))) then (bif inR s.2.2.1 (List.length s.1) then (bif inR s.2.2.1 (List.length s.2.1) then (bif (!((at! .bool s.1 (Int.toNat s.2.2.1) == at! .bool s.2.1 (Int.toNat s.2.2.1)))) then some (Sum.inr (Sum.inr ((false, ())))) else some (Sum.inl ((s.1, s.2.1, wrap64 ((s.2.2.1 + (1 : Int))), ())))) else none) else none) else some (Sum.inr (Sum.inl (()))))
def zFe (s : (List Bool × List Bool × Unit)) : Option (Bool × Unit) := (bif (!(decide ((nI (List.length s.1) = nI (List.length s.2.1))))) then some ((false, ())) else (lp zAP fuel ((s.1, (s.2.1, ((0 : Int), ()))))).bind fun r0 => (match r0 with | .inl _ => some ((true, ())) | .inr y1 => some ((y1.1, ()))))
def zA6 (s : (Int × Int × List Lk × Unit)) : Option ((Int × Int × List Lk × Unit) ⊕ ((Int × List Lk × Unit) ⊕ Unit)) := (bif decide ((s.2.1 < nI (List.length s.2.2.1))) then (bif inR s.2.1 (List.length s.2.2.1) then (bif inR s.2.1 (List.length (List.set s.2.2.1 (Int.toNat s.2.1) ((Lk.mk s.1 ((at! .lk s.2.2.1 (Int.toNat s.2.1)).b) ((at! .lk s.2.2.1 (Int.toNat s.2.1)).c))))) then (bif inR s.2.1 (List.length (List.set (List.set s.2.2.1 (Int.toNat s.2.1) ((Lk.mk s.1 ((at! .lk s.2.2.1 (Int.toNat s.2.1)).b) ((at! .lk s.2.2.1 (Int.toNat s.2.1)).c)))) (Int.toNat s.2.1) ((Lk.mk ((at! .lk (List.set s.2.2.1 (Int.toNat s.2.1) ((Lk.mk s.1 ((at! .lk s.2.2.1 (Int.toNat s.2.1)).b) ((at! .lk s.2.2.1 (Int.toNat s.2.1)).c)))) (Int.toNat s.2.1)).a) (wrap64 ((s.1 + (1 : Int)))) ((at! .lk (List.set s.2.2.1 (Int.toNat s.2.1) ((Lk.mk s.1 ((at! .lk s.2.2.1 (Int.toNat s.2.1)).b) ((at! .lk s.2.2.1 (Int.toNat s.2.1)).c)))) (Int.toNat s.2.1)).c))))) then some (Sum.inl ((wrap64 ((wrap64 ((wrap64 ((s.1 + (1 : Int))) + (1 : Int))) + (1 : Int))), wrap64 ((s.2.1 + (1 : Int))), List.set (List.set (List.set s.2.2.1 (Int.toNat s.2.1) ((Lk.mk s.1 ((at! .lk s.2.2.1 (Int.toNat s.2.1)).b) ((at! .lk s.2.2.1 (Int.toNat s.2.1)).c)))) (Int.toNat s.2.1) ((Lk.mk ((at! .lk (List.set s.2.2.1 (Int.toNat s.2.1) ((Lk.mk s.1 ((at! .lk s.2.2.1 (Int.toNat s.2.1)).b) ((at! .lk s.2.2.1 (Int.toNat s.2.1)).c)))) (Int.toNat s.2.1)).a) (wrap64 ((s.1 + (1 : Int)))) ((at! .lk (List.set s.2.2.1 (Int.toNat s.2.1) ((Lk.mk s.1 ((at! .lk s.2.2.1 (Int.toNat s.2.1)).b) ((at! .lk s.2.2.1 (Int.toNat s.2.1)).c)))) (Int.toNat s.2.1)).c)))) (Int.toNat s.2.1) ((Lk.mk ((at! .lk (List.set (List.set s.2.2.1 (Int.toNat s.2.1) ((Lk.mk s.1 ((at! .lk s.2.2.1 (Int.toNat s.2.1)).b) ((at! .lk s.2.2.1 (Int.toNat s.2.1)).c)))) (Int.toNat s.2.1) ((Lk.mk ((at! .lk (List.set s.2.2.1 (Int.toNat s.2.1) ((Lk.mk s.1 ((at! .lk s.2.2.1 (Int.toNat s.2.1)).b) ((at! .lk s.2.2.1 (Int.toNat s.2.1)).c)))) (Int.toNat s.2.1)).a) (wrap64 ((s.1 + (1 : Int)))) ((at! .lk (List.set s.2.2.1 (Int.toNat s.2.1) ((Lk.mk s.1 ((at! .lk s.2.2.1 (Int.toNat s.2.1)).b) ((at! .lk s.2.2.1 (Int.toNat s.2.1)).c)))) (Int.toNat s.2.1)).c)))) (Int.toNat s.2.1)).a) ((at! .lk (List.set (List.set s.2.2.1 (Int.toNat s.2.1) ((Lk.mk s.1 ((at! .lk s.2.2.1 (Int.toNat s.2.1)).b) ((at! .lk s.2.2.1 (Int.toNat s.2.1)).c)))) (Int.toNat s.2.1) ((Lk.mk ((at! .lk (List.set s.2.2.1 (Int.toNat s.2.1) ((Lk.mk s.1 ((at! .lk s.2.2.1 (Int.toNat s.2.1)).b) ((at! .lk s.2.2.1 (Int.toNat s.2.1)).c)))) (Int.toNat s.2.1)).a) (wrap64 ((s.1 + (1 : Int)))) ((at! .lk (List.set s.2.2.1 (Int.toNat s.2.1) ((Lk.mk s.1 ((at! .lk s.2.2.1 (Int.toNat s.2.1)).b) ((at! .lk s.2.2.1 (Int.toNat s.2.1)).c)))) (Int.toNat s.2.1)).c)))) (Int.toNat s.2.1)).b) (wrap64 ((wrap64 ((s.1 + (1 : Int))) + (1 : Int)))))), ()))) else none) else none) else none) else some (Sum.inr (Sum.inl ((s.1, s.2.2.1, ())))))
def zFE (s : (Int × List Lk × Unit)) : Option (Int × List Lk × Unit) := (lp zA6 fuel ((s.1, ((0 : Int), (s.2.1, ()))))).bind fun r0 => (match r0 with | .inl x1 => some ((x1.1, x1.2.1, ())) | .inr _ => none)
def zFl (s : (Int × Int × List En × Int × Int × List En × Unit)) : Option (Bool × Unit) := (bif (!(decide ((s.1 = s.2.2.2.1)))) then some ((false, ())) else (bif (!(decide ((s.2.1 = s.2.2.2.2.1)))) then some ((false, ())) else (zFg ((s.2.2.1, (s.2.2.2.2.2.1, ())))).bind fun r0 => (bif (!r0.1) then some ((false, ())) else some ((true, ())))))
def zAZ (s : (List Lk × Int × Int × Unit)) : Option ((List Lk × Int × Int × Unit) ⊕ ((Int × Unit) ⊕ (Int × Unit))) := (bif decide ((s.2.2.1 < nI (List.length s.1))) then (bif inR s.2.2.1 (List.length s.1) then (bif (!(decide (((at! .lk s.1 (Int.toNat s.2.2.1)).a = s.2.1)))) then some (Sum.inr (Sum.inr (((-((1 : Int))), ())))) else (bif inR s.2.2.1 (List.length s.1) then (bif (!(decide (((at! .lk s.1 (Int.toNat s.2.2.1)).b = wrap64 ((s.2.1 + (1 : Int))))))) then some (Sum.inr (Sum.inr (((-((1 : Int))), ())))) else (bif inR s.2.2.1 (List.length s.1) then (bif (!(decide (((at! .lk s.1 (Int.toNat s.2.2.1)).c = wrap64 ((wrap64 ((s.2.1 + (1 : Int))) + (1 : Int))))))) then some (Sum.inr (Sum.inr (((-((1 : Int))), ())))) else some (Sum.inl ((s.1, wrap64 ((wrap64 ((wrap64 ((s.2.1 + (1 : Int))) + (1 : Int))) + (1 : Int))), wrap64 ((s.2.2.1 + (1 : Int))), ())))) else none)) else none)) else none) else some (Sum.inr (Sum.inl ((s.2.1, ())))))
def zFv (s : (List Lk × Int × Unit)) : Option (Int × Unit) := (lp zAZ fuel ((s.1, (s.2.1, ((0 : Int), ()))))).bind fun r0 => (match r0 with | .inl x1 => some ((x1.1, ())) | .inr y1 => some ((y1.1, ())))
def zFo (s : (Int × Int × Int × List En × Int × Int × Int × List En × Unit)) : Option (Bool × Unit) := (bif (!(decide ((s.1 = s.2.2.2.2.1)))) then some ((false, ())) else (zFl ((s.2.1, (s.2.2.1, (s.2.2.2.1, (s.2.2.2.2.2.1, (s.2.2.2.2.2.2.1, (s.2.2.2.2.2.2.2.1, ())))))))).bind fun r0 => (bif (!r0.1) then some ((false, ())) else some ((true, ()))))
def zA5 (s : (Int × Int × List Int × Unit)) : Option ((Int × Int × List Int × Unit) ⊕ ((Int × List Int × Unit) ⊕ Unit)) := (bif decide ((s.2.1 < nI (List.length s.2.2.1))) then (bif inR s.2.1 (List.length s.2.2.1) then some (Sum.inl ((wrap64 ((s.1 + (1 : Int))), wrap64 ((s.2.1 + (1 : Int))), List.set s.2.2.1 (Int.toNat s.2.1) s.1, ()))) else none) else some (Sum.inr (Sum.inl ((s.1, s.2.2.1, ())))))
def zFD (s : (Int × List Int × Unit)) : Option (Int × List Int × Unit) := (lp zA5 fuel ((s.1, ((0 : Int), (s.2.1, ()))))).bind fun r0 => (match r0 with | .inl x1 => some ((x1.1, x1.2.1, ())) | .inr _ => none)
def zA4 (s : (Int × Int × List En × Unit)) : Option ((Int × Int × List En × Unit) ⊕ ((Int × List En × Unit) ⊕ Unit)) := (bif decide ((s.2.1 < nI (List.length s.2.2.1))) then (bif inR s.2.1 (List.length s.2.2.1) then (bif inR s.2.1 (List.length (List.set s.2.2.1 (Int.toNat s.2.1) ((En.mk s.1 ((at! .en s.2.2.1 (Int.toNat s.2.1)).c))))) then some (Sum.inl ((wrap64 ((wrap64 ((s.1 + (1 : Int))) + (1 : Int))), wrap64 ((s.2.1 + (1 : Int))), List.set (List.set s.2.2.1 (Int.toNat s.2.1) ((En.mk s.1 ((at! .en s.2.2.1 (Int.toNat s.2.1)).c)))) (Int.toNat s.2.1) ((En.mk ((at! .en (List.set s.2.2.1 (Int.toNat s.2.1) ((En.mk s.1 ((at! .en s.2.2.1 (Int.toNat s.2.1)).c)))) (Int.toNat s.2.1)).n) (wrap64 ((s.1 + (1 : Int)))))), ()))) else none) else none) else some (Sum.inr (Sum.inl ((s.1, s.2.2.1, ())))))
def zFB (s : (Int × List En × Unit)) : Option (Int × List En × Unit) := (lp zA4 fuel ((s.1, ((0 : Int), (s.2.1, ()))))).bind fun r0 => (match r0 with | .inl x1 => some ((x1.1, x1.2.1, ())) | .inr _ => none)
def zAY (s : (List Int × Int × Int × Unit)) : Option ((List Int × Int × Int × Unit) ⊕ ((Int × Unit) ⊕ (Int × Unit))) := (bif decide ((s.2.2.1 < nI (List.length s.1))) then (bif inR s.2.2.1 (List.length s.1) then (bif (!(decide ((at! .int s.1 (Int.toNat s.2.2.1) = s.2.1)))) then some (Sum.inr (Sum.inr (((-((1 : Int))), ())))) else some (Sum.inl ((s.1, wrap64 ((s.2.1 + (1 : Int))), wrap64 ((s.2.2.1 + (1 : Int))), ())))) else none) else some (Sum.inr (Sum.inl ((s.2.1, ())))))
def zFu (s : (List Int × Int × Unit)) : Option (Int × Unit) := (lp zAY fuel ((s.1, (s.2.1, ((0 : Int), ()))))).bind fun r0 => (match r0 with | .inl x1 => some ((x1.1, ())) | .inr y1 => some ((y1.1, ())))
def zAU (s : (List Ls × List Ls × Int × Unit)) : Option ((List Ls × List Ls × Int × Unit) ⊕ ((Unit) ⊕ (Bool × Unit))) := (bif decide ((s.2.2.1 < nI (List.length s.1))) then (bif inR s.2.2.1 (List.length s.1) then (bif inR s.2.2.1 (List.length s.2.1) then (zFl (((at! .ls s.1 (Int.toNat s.2.2.1)).o, ((at! .ls s.1 (Int.toNat s.2.2.1)).s, ((at! .ls s.1 (Int.toNat s.2.2.1)).e, ((at! .ls s.2.1 (Int.toNat s.2.2.1)).o, ((at! .ls s.2.1 (Int.toNat s.2.2.1)).s, ((at! .ls s.2.1 (Int.toNat s.2.2.1)).e, ())))))))).bind fun r0 => (bif (!r0.1) then some (Sum.inr (Sum.inr ((false, ())))) else some (Sum.inl ((s.1, s.2.1, wrap64 ((s.2.2.1 + (1 : Int))), ())))) else none) else none) else some (Sum.inr (Sum.inl (()))))
def zFm (s : (List Ls × List Ls × Unit)) : Option (Bool × Unit) := (bif (!(decide ((nI (List.length s.1) = nI (List.length s.2.1))))) then some ((false, ())) else (lp zAU fuel ((s.1, (s.2.1, ((0 : Int), ()))))).bind fun r0 => (match r0 with | .inl _ => some ((true, ())) | .inr y1 => some ((y1.1, ()))))
def zAV (s : (List Pk × List Pk × Int × Unit)) : Option ((List Pk × List Pk × Int × Unit) ⊕ ((Unit) ⊕ (Bool × Unit))) := (bif decide ((s.2.2.1 < nI (List.length s.1))) then (bif inR s.2.2.1 (List.length s.1) then (bif inR s.2.2.1 (List.length s.2.1) then (zFo (((at! .pk s.1 (Int.toNat s.2.2.1)).t, (((at! .pk s.1 (Int.toNat s.2.2.1)).p).o, (((at! .pk s.1 (Int.toNat s.2.2.1)).p).s, (((at! .pk s.1 (Int.toNat s.2.2.1)).p).e, ((at! .pk s.2.1 (Int.toNat s.2.2.1)).t, (((at! .pk s.2.1 (Int.toNat s.2.2.1)).p).o, (((at! .pk s.2.1 (Int.toNat s.2.2.1)).p).s, (((at! .pk s.2.1 (Int.toNat s.2.2.1)).p).e, ())))))))))).bind fun r0 => (bif (!r0.1) then some (Sum.inr (Sum.inr ((false, ())))) else some (Sum.inl ((s.1, s.2.1, wrap64 ((s.2.2.1 + (1 : Int))), ())))) else none) else none) else some (Sum.inr (Sum.inl (()))))
def zFp (s : (List Pk × List Pk × Unit)) : Option (Bool × Unit) := (bif (!(decide ((nI (List.length s.1) = nI (List.length s.2.1))))) then some ((false, ())) else (lp zAV fuel ((s.1, (s.2.1, ((0 : Int), ()))))).bind fun r0 => (match r0 with | .inl _ => some ((true, ())) | .inr y1 => some ((y1.1, ()))))
def zFC (s : (Int × Int × List Lk × Unit)) : Option (Int × List Lk × Unit) := (zFE ((s.2.1, (s.2.2.1, ())))).bind fun r0 => some ((r0.1, r0.2.1, ()))
def zA3 (s : (Int × Int × List Bool × Unit)) : Option ((Int × Int × List Bool × Unit) ⊕ ((Int × List Bool × Unit) ⊕ Unit)) := (bif decide ((s.2.1 < nI (List.length s.2.2.1))) then (bif inR s.2.1 (List.length s.2.2.1) then some (Sum.inl ((wrap64 ((s.1 + (1 : Int))), wrap64 ((s.2.1 + (1 : Int))), List.set s.2.2.1 (Int.toNat s.2.1) (decide ((Int.tmod s.1 ((3 : Int)) = (0 : Int)))), ()))) else none) else some (Sum.inr (Sum.inl ((s.1, s.2.2.1, ())))))
def zFA (s : (Int × List Bool × Unit)) : Option (Int × List Bool × Unit) := (lp zA3 fuel ((s.1, ((0 : Int), (s.2.1, ()))))).bind fun r0 => (match r0 with | .inl x1 => some ((x1.1, x1.2.1, ())) | .inr _ => none)
def zAX (s : (List En × Int × Int × Unit)) : Option ((List En × Int × Int × Unit) ⊕ ((Int × Unit) ⊕ (Int × Unit))) := (bif decide ((s.2.2.1 < nI (List.length s.1))) then (bif inR s.2.2.1 (List.length s.1) then (bif (!(decide (((at! .en s.1 (Int.toNat s.2.2.1)).n = s.2.1)))) then some (Sum.inr (Sum.inr (((-((1 : Int))), ())))) else (bif inR s.2.2.1 (List.length s.1) then (bif (!(decide (((at! .en s.1 (Int.toNat s.2.2.1)).c = wrap64 ((s.2.1 + (1 : Int))))))) then some (Sum.inr (Sum.inr (((-((1 : Int))), ())))) else some (Sum.inl ((s.1, wrap64 ((wrap64 ((s.2.1 + (1 : Int))) + (1 : Int))), wrap64 ((s.2.2.1 + (1 : Int))), ())))) else none)) else none) else some (Sum.inr (Sum.inl ((s.2.1, ())))))
def zFs (s : (List En × Int × Unit)) : Option (Int × Unit) := (lp zAX fuel ((s.1, (s.2.1, ((0 : Int), ()))))).bind fun r0 => (match r0 with | .inl x1 => some ((x1.1, ())) | .inr y1 => some ((y1.1, ())))
def zFt (s : (Int × List Lk × Int × Unit)) : Option (Int × Unit) := (zFv ((s.2.1, (s.2.2.1, ())))).bind fun r0 => (bif decide ((r0.1 < (0 : Int))) then some (((-((1 : Int))), ())) else some ((r0.1, ())))
def zAW (s : (List Bool × Int × Int × Unit)) : Option ((List Bool × Int × Int × Unit) ⊕ ((Int × Unit) ⊕ (Int × Unit))) := (bif decide ((s.2.2.1 < nI (List.length s.1))) then (bif inR s.2.2.1 (List.length s.1) then (bif (!((at! .bool s.1 (Int.toNat s.2.2.1) == decide ((Int.tmod s.2.1 ((3 : Int)) = (0 : Int)))))) then some (Sum.inr (Sum.inr (((-((1 : Int))), ())))) else some (Sum.inl ((s.1, wrap64 ((s.2.1 + (1 : Int))), wrap64 ((s.2.2.1 + (1 : Int))), ())))) else none) else some (Sum.inr (Sum.inl ((s.2.1, ())))))
def zFr (s : (List Bool × Int × Unit)) : Option (Int × Unit) := (lp zAW fuel ((s.1, (s.2.1, ((0 : Int), ()))))).bind fun r0 => (match r0 with | .inl x1 => some ((x1.1, ())) | .inr y1 => some ((y1.1, ())))
def zAT (s : (List (List Ls) × List (List Ls) × Int × Unit)) : Option ((List (List Ls) × List (List Ls) × Int × Unit) ⊕ ((Unit) ⊕ (Bool × Unit))) := (bif decide ((s.2.2.1 < nI (List.length s.1))) then (bif inR s.2.2.1 (List.length s.1) then (bif inR s.2.2.1 (List.length s.2.1) then (zFm ((at! .db s.1 (Int.toNat s.2.2.1), (at! .db s.2.1 (Int.toNat s.2.2.1), ())))).bind fun r0 => (bif (!r0.1) then some (Sum.inr (Sum.inr ((false, ())))) else some (Sum.inl ((s.1, s.2.1, wrap64 ((s.2.2.1 + (1 : Int))), ())))) else none) else none) else some (Sum.inr (Sum.inl (()))))
def zFn (s : (List (List Ls) × List (List Ls) × Unit)) : Option (Bool × Unit) := (bif (!(decide ((nI (List.length s.1) = nI (List.length s.2.1))))) then some ((false, ())) else (lp zAT fuel ((s.1, (s.2.1, ((0 : Int), ()))))).bind fun r0 => (match r0 with | .inl _ => some ((true, ())) | .inr y1 => some ((y1.1, ()))))
def zFq (s : (Int × List Lk × List Bool × List Int × List (List Ls) × List Pk × Int × List Lk × List Bool × List Int × List (List Ls) × List Pk × Unit)) : Option (Bool × Unit) := (zFh ((s.1, (s.2.1, (s.2.2.2.2.2.2.1, (s.2.2.2.2.2.2.2.1, ())))))).bind fun r0 => (bif (!r0.1) then some ((false, ())) else (zFe ((s.2.2.1, (s.2.2.2.2.2.2.2.2.1, ())))).bind fun r1 => (bif (!r1.1) then some ((false, ())) else (zFi ((s.2.2.2.1, (s.2.2.2.2.2.2.2.2.2.1, ())))).bind fun r2 => (bif (!r2.1) then some ((false, ())) else (zFn ((s.2.2.2.2.1, (s.2.2.2.2.2.2.2.2.2.2.1, ())))).bind fun r3 => (bif (!r3.1) then some ((false, ())) else (zFp ((s.2.2.2.2.2.1, (s.2.2.2.2.2.2.2.2.2.2.2.1, ())))).bind fun r4 => (bif (!r4.1) then some ((false, ())) else some ((true, ())))))))
def zA2 (s : (List Pk × Int × Int × Unit)) : Option ((List Pk × Int × Int × Unit) ⊕ ((Int × Unit) ⊕ (Int × Unit))) := (bif decide ((s.2.2.1 < nI (List.length s.1))) then (bif inR s.2.2.1 (List.length s.1) then (bif (!(decide (((at! .pk s.1 (Int.toNat s.2.2.1)).t = s.2.1)))) then some (Sum.inr (Sum.inr (((-((1 : Int))), ())))) else (bif inR s.2.2.1 (List.length s.1) then (bif (!(decide ((((at! .pk s.1 (Int.toNat s.2.2.1)).p).o = wrap64 ((s.2.1 + (1 : Int))))))) then some (Sum.inr (Sum.inr (((-((1 : Int))), ())))) else (bif inR s.2.2.1 (List.length s.1) then (bif (!(decide ((((at! .pk s.1 (Int.toNat s.2.2.1)).p).s = wrap64 ((wrap64 ((s.2.1 + (1 : Int))) + (1 : Int))))))) then some (Sum.inr (Sum.inr (((-((1 : Int))), ())))) else (bif inR s.2.2.1 (List.length s.1) then (zFs ((((at! .pk s.1 (Int.toNat s.2.2.1)).p).e, (wrap64 ((wrap64 ((wrap64 ((s.2.1 + (1 : Int))) + (1 : Int))) + (1 : Int))), ())))).bind fun r0 => (bif decide ((r0.1 < (0 : Int))) then some (Sum.inr (Sum.inr (((-((1 : Int))), ())))) else some (Sum.inl ((s.1, r0.1, wrap64 ((s.2.2.1 + (1 : Int))), ())))) else none)) else none)) else none)) else none) else some (Sum.inr (Sum.inl ((s.2.1, ())))))
def zFy (s : (List Pk × Int × Unit)) : Option (Int × Unit) := (lp zA2 fuel ((s.1, (s.2.1, ((0 : Int), ()))))).bind fun r0 => (match r0 with | .inl x1 => some ((x1.1, ())) | .inr y1 => some ((y1.1, ())))
def zA1 (s : (List Ls × Int × Int × Unit)) : Option ((List Ls × Int × Int × Unit) ⊕ ((Int × Unit) ⊕ (Int × Unit))) := (bif decide ((s.2.2.1 < nI (List.length s.1))) then (bif inR s.2.2.1 (List.length s.1) then (bif (!(decide (((at! .ls s.1 (Int.toNat s.2.2.1)).o = s.2.1)))) then some (Sum.inr (Sum.inr (((-((1 : Int))), ())))) else (bif inR s.2.2.1 (List.length s.1) then (bif (!(decide (((at! .ls s.1 (Int.toNat s.2.2.1)).s = wrap64 ((s.2.1 + (1 : Int))))))) then some (Sum.inr (Sum.inr (((-((1 : Int))), ())))) else (bif inR s.2.2.1 (List.length s.1) then (zFs (((at! .ls s.1 (Int.toNat s.2.2.1)).e, (wrap64 ((wrap64 ((s.2.1 + (1 : Int))) + (1 : Int))), ())))).bind fun r0 => (bif decide ((r0.1 < (0 : Int))) then some (Sum.inr (Sum.inr (((-((1 : Int))), ())))) else some (Sum.inl ((s.1, r0.1, wrap64 ((s.2.2.1 + (1 : Int))), ())))) else none)) else none)) else none) else some (Sum.inr (Sum.inl ((s.2.1, ())))))
def zFw (s : (List Ls × Int × Unit)) : Option (Int × Unit) := (lp zA1 fuel ((s.1, (s.2.1, ((0 : Int), ()))))).bind fun r0 => (match r0 with | .inl x1 => some ((x1.1, ())) | .inr y1 => some ((y1.1, ())))
def zA0 (s : (List (List Ls) × Int × Int × Unit)) : Option ((List (List Ls) × Int × Int × Unit) ⊕ ((Int × Unit) ⊕ (Int × Unit))) := (bif decide ((s.2.2.1 < nI (List.length s.1))) then (bif inR s.2.2.1 (List.length s.1) then (zFw ((at! .db s.1 (Int.toNat s.2.2.1), (s.2.1, ())))).bind fun r0 => (bif decide ((r0.1 < (0 : Int))) then some (Sum.inr (Sum.inr (((-((1 : Int))), ())))) else some (Sum.inl ((s.1, r0.1, wrap64 ((s.2.2.1 + (1 : Int))), ())))) else none) else some (Sum.inr (Sum.inl ((s.2.1, ())))))
def zFx (s : (List (List Ls) × Int × Unit)) : Option (Int × Unit) := (lp zA0 fuel ((s.1, (s.2.1, ((0 : Int), ()))))).bind fun r0 => (match r0 with | .inl x1 => some ((x1.1, ())) | .inr y1 => some ((y1.1, ())))
def zFz (s : (Int × List Lk × List Bool × List Int × List (List Ls) × List Pk × Int × Unit)) : Option (Int × Unit) := (zFt ((s.1, (s.2.1, (s.2.2.2.2.2.2.1, ()))))).bind fun r0 => (bif decide ((r0.1 < (0 : Int))) then some (((-((1 : Int))), ())) else (zFr ((s.2.2.1, (r0.1, ())))).bind fun r1 => (bif decide ((r1.1 < (0 : Int))) then some (((-((1 : Int))), ())) else (zFu ((s.2.2.2.1, (r1.1, ())))).bind fun r2 => (bif decide ((r2.1 < (0 : Int))) then some (((-((1 : Int))), ())) else (zFx ((s.2.2.2.2.1, (r2.1, ())))).bind fun r3 => (bif decide ((r3.1 < (0 : Int))) then some (((-((1 : Int))), ())) else (zFy ((s.2.2.2.2.2.1, (r3.1, ())))).bind fun r4 => (bif decide ((r4.1 < (0 : Int))) then some (((-((1 : Int))), ())) else some ((r4.1, ())))))))
end Go.Proofs.Ytknkhdjhongklaa
end
section
namespace Go.Proofs.Ytknkhdjhongklaa
open Go.RowKit
set_option linter.unusedSimpArgs false
set_option linter.unusedVariables false
set_option maxRecDepth 100000

theorem sv {α β : Type} {o : Option α} {f : α → Option β} {r : α} {Q : β → Prop} (h : o = some r) (k : Sat (f r) Q) : Sat (o.bind f) Q := by subst h; exact k
theorem at_set_self (τ : Ty) (xs : List (El τ)) (i : Nat) (v : El τ) (h : i < xs.length) : at! τ (xs.set i v) i = v := by
  have h1 := at_get τ (xs.set i v) i (by rw [List.length_set]; exact h)
  rw [List.getElem?_set_self h] at h1
  exact (Option.some.inj h1).symm
theorem fill_step {α : Type} (xs : List α) (d : α) {x : α} {k : Nat} (hx : xs[k]? = some x) : (xs.take k ++ List.replicate (xs.length - k) d).set k x = xs.take (k + 1) ++ List.replicate (xs.length - (k + 1)) d := by
  have hk := (List.getElem?_eq_some_iff.1 hx).1
  rw [List.set_append_right _ _ (by rw [List.length_take]; omega), List.length_take, Nat.min_eq_left (by omega), Nat.sub_self, show xs.length - k = (xs.length - (k + 1)) + 1 by omega, List.replicate_succ, List.set_cons_zero, List.take_add_one, hx]
  simp
theorem lk_set_self (ls : List Lk) (i : Nat) (v : Lk) (h : i < ls.length) : lk (ls.set i v) i = v := by rw [← at_lk]; exact at_set_self .lk ls i v h
theorem en_set_self (ls : List En) (i : Nat) (v : En) (h : i < ls.length) : en (ls.set i v) i = v := by rw [← at_en]; exact at_set_self .en ls i v h
theorem int_set_self (ls : List Int) (i : Nat) (v : Int) (h : i < ls.length) : iz (ls.set i v) i = v := by rw [← at_int]; exact at_set_self .int ls i v h
theorem to_gen {α : Type} {B : (List α × Int × List α × Unit) → Option ((List α × Int × List α × Unit) ⊕ ((List α × Unit) ⊕ Unit))} (xs : List α) (d : α) (hx : xs.length ≤ 16777216)
    (hB : ∀ (k : Nat) (x : α) (out : List α), xs[k]? = some x → out.length = xs.length → B (xs, (k : Int), out, ()) = some (.inl (xs, ((k + 1 : Nat) : Int), out.set k x, ())))
    (hE : ∀ out : List α, B (xs, (xs.length : Int), out, ()) = some (.inr (.inl (out, ())))) : lp B fuel (xs, (0 : Int), List.replicate xs.length d, ()) = some (.inl (xs, ())) := by
  refine Sat.out (Sat.count xs.length (fun k t => t = (xs, (k : Int), xs.take k ++ List.replicate (xs.length - k) d, ())) ?_ (Nat.zero_le _) (fuel_lt (by omega)) (by simp))
  rintro k t hk rfl
  by_cases hlt : k < xs.length
  · have hx := List.getElem?_eq_getElem hlt
    rw [hB k _ _ hx (by simp; omega)]
    exact .some ⟨hlt, by rw [fill_step xs d hx]⟩
  · obtain rfl : k = xs.length := by omega
    rw [hE]
    exact .some (by simp)
theorem eq_gen {α : Type} {B : (List α × List α × Int × Unit) → Option ((List α × List α × Int × Unit) ⊕ (Unit ⊕ (Bool × Unit)))} (xs : List α) (hx : Fits xs)
    (hB : ∀ (k : Nat) (x : α), xs[k]? = some x → B (xs, xs, (k : Int), ()) = some (.inl (xs, xs, ((k + 1 : Nat) : Int), ())))
    (hE : B (xs, xs, (xs.length : Int), ()) = some (.inr (.inl ()))) : lp B fuel (xs, xs, (0 : Int), ()) = some (.inl ()) := by
  refine Sat.out (Sat.count xs.length (fun k t => t = (xs, xs, (k : Int), ())) ?_ (Nat.zero_le _) (fuel_lt hx) rfl)
  rintro k t hk rfl
  by_cases hlt : k < xs.length
  · rw [hB k _ (List.getElem?_eq_getElem hlt)]
    exact .some ⟨hlt, rfl⟩
  · obtain rfl : k = xs.length := by omega
    rw [hE]
    exact .some rfl
def mkF {α : Type} (c : Nat) (f : Int → α) (k : Int) (n : Nat) : List α := (List.range n).map fun i : Nat => f (k + c * i)
theorem mkF_len {α : Type} (c : Nat) (f : Int → α) (k : Int) (n : Nat) : (mkF c f k n).length = n := by simp [mkF]
theorem mkF_succ {α : Type} (c : Nat) (f : Int → α) (k : Int) (n : Nat) : mkF c f k (n + 1) = mkF c f k n ++ [f (k + c * n)] := by simp [mkF, List.range_succ]
theorem mkF_get {α : Type} (c : Nat) (f : Int → α) (k : Int) (n i : Nat) (h : i < n) : (mkF c f k n)[i]? = some (f (k + c * i)) := by simp [mkF, h]
theorem mark_gen {α : Type} {B : (Int × Int × List α × Unit) → Option ((Int × Int × List α × Unit) ⊕ ((Int × List α × Unit) ⊕ Unit))} (c : Nat) (f : Int → α) (xs : List α) (k : Int) (h0 : 0 ≤ k) (hx : xs.length ≤ 4000000000) (hk : k + c * xs.length ≤ 1000000000000)
    (hB : ∀ (i : Nat) (q : Int) (l : List α), i < l.length → l.length ≤ 4000000000 → 0 ≤ q → q ≤ 1000000000000 → B (q, (i : Int), l, ()) = some (.inl (q + c, ((i + 1 : Nat) : Int), l.set i (f q), ())))
    (hE : ∀ (q : Int) (l : List α), B (q, (l.length : Int), l, ()) = some (.inr (.inl (q, l, ())))) : lp B fuel (k, (0 : Int), xs, ()) = some (.inl (k + c * xs.length, mkF c f k xs.length, ())) := by
  refine Sat.out (Sat.count xs.length (fun i t => t = (k + c * i, (i : Int), mkF c f k i ++ xs.drop i, ())) ?_ (Nat.zero_le _) (fuel_lt (by omega)) (by simp [mkF]))
  rintro i t hi rfl
  have hl : (mkF c f k i ++ xs.drop i).length = xs.length := by rw [List.length_append, mkF_len, List.length_drop]; omega
  have hci : (c : Int) * i ≤ c * xs.length := Int.mul_le_mul_of_nonneg_left (by omega) (by omega)
  have hc0 : 0 ≤ (c : Int) * i := Int.mul_nonneg (by omega) (by omega)
  by_cases hlt : i < xs.length
  · rw [hB i _ _ (by omega) (by omega) (by omega) (by omega)]
    refine .some ⟨hlt, ?_⟩
    have e : (mkF c f k i ++ xs.drop i).set i (f (k + c * i)) = mkF c f k (i + 1) ++ xs.drop (i + 1) := by
      rw [List.set_append_right _ _ (by rw [mkF_len]; exact Nat.le_refl _), mkF_len, Nat.sub_self, mkF_succ, List.drop_eq_getElem_cons hlt, List.set_cons_zero, List.append_assoc]
      rfl
    rw [e, show k + (c : Int) * i + c = k + c * ((i + 1 : Nat) : Int) by rw [Int.natCast_add, Int.mul_add]; simp; omega]
  · obtain rfl : i = xs.length := by omega
    have := hE (k + c * xs.length) (mkF c f k xs.length ++ xs.drop xs.length)
    rw [hl] at this
    rw [this]
    exact .some (by simp)
theorem held_gen {α : Type} {B : (List α × Int × Int × Unit) → Option ((List α × Int × Int × Unit) ⊕ ((Int × Unit) ⊕ (Int × Unit)))} (c : Nat) (f : Int → α) (n : Nat) (k : Int) (h0 : 0 ≤ k) (hx : n ≤ 4000000000) (hk : k + c * n ≤ 1000000000000)
    (hB : ∀ (i : Nat) (q : Int) (l : List α), l[i]? = some (f q) → l.length ≤ 4000000000 → 0 ≤ q → q ≤ 1000000000000 → B (l, q, (i : Int), ()) = some (.inl (l, q + c, ((i + 1 : Nat) : Int), ())))
    (hE : ∀ (q : Int) (l : List α), B (l, q, (l.length : Int), ()) = some (.inr (.inl (q, ())))) : lp B fuel (mkF c f k n, k, (0 : Int), ()) = some (.inl (k + c * n, ())) := by
  refine Sat.out (Sat.count n (fun i t => t = (mkF c f k n, k + c * i, (i : Int), ())) ?_ (Nat.zero_le _) (fuel_lt (by omega)) (by simp))
  rintro i t hi rfl
  have hci : (c : Int) * i ≤ c * n := Int.mul_le_mul_of_nonneg_left (by omega) (by omega)
  have hc0 : 0 ≤ (c : Int) * i := Int.mul_nonneg (by omega) (by omega)
  by_cases hlt : i < n
  · rw [hB i _ _ (mkF_get c f k n i hlt) (by rw [mkF_len]; omega) (by omega) (by omega)]
    refine .some ⟨hlt, ?_⟩
    rw [show k + (c : Int) * i + c = k + c * ((i + 1 : Nat) : Int) by rw [Int.natCast_add, Int.mul_add]; simp; omega]
  · obtain rfl : i = n := by omega
    have := hE (k + c * i) (mkF c f k i)
    rw [mkF_len] at this
    rw [this]
    exact .some rfl
theorem at_of {τ : Ty} {xs : List (El τ)} {i : Nat} {x : El τ} (h : xs[i]? = some x) : at! τ xs i = x := by
  have := at_get τ xs i (List.getElem?_eq_some_iff.1 h).1
  rw [h] at this
  exact (Option.some.inj this).symm
theorem lt_of {α : Type} {xs : List α} {i : Nat} {x : α} (h : xs[i]? = some x) : i < xs.length := (List.getElem?_eq_some_iff.1 h).1
def lkM (q : Int) : Lk := ⟨q, q + 1, q + 2⟩
def enM (q : Int) : En := ⟨q, q + 1⟩
theorem zCN (xs : List Lk) (h : xs.length ≤ 16777216) : zFJ (xs, ()) = some (xs, ()) := by
  unfold zFJ
  simp only [nI_eq, toN]
  refine Sat.out (Sat.gd (by simp; omega) (sv (to_gen xs _ h (fun k x out hx ho => ?_) (fun out => ?_)) (.some rfl)))
  · have hk := lt_of hx
    simp (disch := omega) only [zA7, at_of (τ := .lk) hx, toN, w64, nI_eq, Option.bind_some, zFI]
    exact Sat.out (Sat.gd (decide_eq_true (by omega)) (Sat.gd (inR_t (by omega) (by omega)) (Sat.gd (inR_t (by omega) (by omega)) (.some rfl))))
  · simp only [zA7, nI_eq]
    exact Sat.out (Sat.no (decide_eq_false (by omega)) (.some rfl))
theorem zBm (xs : List Lk) (h : Fits xs) : zFk (xs, xs, ()) = some (true, ()) := by
  unfold zFk
  unfold Fits at h
  simp only [nI_eq]
  refine Sat.out (Sat.no (by simp) (sv (eq_gen xs h (fun k x hx => ?_) ?_) (.some rfl)))
  · have hk := lt_of hx
    simp (disch := omega) only [zAS, at_of (τ := .lk) hx, toN, w64, nI_eq, Option.bind_some, decide_true, Bool.not_true, cond_false, zFj]
    exact Sat.out (Sat.gd (decide_eq_true (by omega)) (Sat.gd (inR_t (by omega) (by omega)) (Sat.gd (inR_t (by omega) (by omega)) (.some rfl))))
  · simp only [zAS, nI_eq]
    exact Sat.out (Sat.no (decide_eq_false (by omega)) (.some rfl))
theorem zBl (xs : List Int) (h : Fits xs) : zFi (xs, xs, ()) = some (true, ()) := by
  unfold zFi
  unfold Fits at h
  simp only [nI_eq]
  refine Sat.out (Sat.no (by simp) (sv (eq_gen xs h (fun k x hx => ?_) ?_) (.some rfl)))
  · have hk := lt_of hx
    simp (disch := omega) only [zAR, at_of (τ := .int) hx, toN, w64, nI_eq, Option.bind_some, decide_true, Bool.not_true, cond_false]
    exact Sat.out (Sat.gd (decide_eq_true (by omega)) (Sat.gd (inR_t (by omega) (by omega)) (Sat.gd (inR_t (by omega) (by omega)) (.some rfl))))
  · simp only [zAR, nI_eq]
    exact Sat.out (Sat.no (decide_eq_false (by omega)) (.some rfl))
theorem zBj (xs : List En) (h : Fits xs) : zFg (xs, xs, ()) = some (true, ()) := by
  unfold zFg
  unfold Fits at h
  simp only [nI_eq]
  refine Sat.out (Sat.no (by simp) (sv (eq_gen xs h (fun k x hx => ?_) ?_) (.some rfl)))
  · have hk := lt_of hx
    simp (disch := omega) only [zAQ, at_of (τ := .en) hx, toN, w64, nI_eq, Option.bind_some, decide_true, Bool.not_true, cond_false, zFf]
    exact Sat.out (Sat.gd (decide_eq_true (by omega)) (Sat.gd (inR_t (by omega) (by omega)) (Sat.gd (inR_t (by omega) (by omega)) (.some rfl))))
  · simp only [zAQ, nI_eq]
    exact Sat.out (Sat.no (decide_eq_false (by omega)) (.some rfl))
theorem zCu (k : Int) (xs : List Lk) (h0 : 0 ≤ k) (hx : xs.length ≤ 4000000000) (hk : k + 3 * xs.length ≤ 1000000000000) : zFE (k, xs, ()) = some (k + 3 * xs.length, mkF 3 lkM k xs.length, ()) := by
  unfold zFE
  refine Sat.out (sv (mark_gen 3 lkM xs k h0 hx hk (fun i q l hi hl hq0 hq1 => ?_) (fun q l => ?_)) (.some rfl))
  · simp (disch := first | omega | assumption | (simp only [List.length_set]; omega)) only [zA6, toN, w64, nI_eq, at_lk, lk_set_self, List.set_set, Int.add_assoc, Int.reduceAdd]
    refine Sat.out (Sat.gd (decide_eq_true (by omega)) (Sat.gd (inR_t (by omega) (by (try simp only [List.length_set]); omega)) (Sat.gd (inR_t (by omega) (by (try simp only [List.length_set]); omega)) (Sat.gd (inR_t (by omega) (by (try simp only [List.length_set]); omega)) (.some ?_)))))
    first | rfl | (simp [lkM]; done) | (unfold lkM; congr 2; omega)
  · simp only [zA6, nI_eq]
    exact Sat.out (Sat.no (decide_eq_false (by omega)) (.some rfl))
theorem zBx (k : Int) (n : Nat) (h0 : 0 ≤ k) (hx : n ≤ 4000000000) (hk : k + 3 * n ≤ 1000000000000) : zFv (mkF 3 lkM k n, k, ()) = some (k + 3 * n, ()) := by
  unfold zFv
  refine Sat.out (sv (held_gen 3 lkM n k h0 hx hk (fun i q l hi hl hq0 hq1 => ?_) (fun q l => ?_)) (.some rfl))
  · have hlt := lt_of hi
    simp (disch := omega) only [zAZ, toN, w64, nI_eq, at_of (τ := .lk) hi, Int.add_assoc, Int.reduceAdd]
    refine Sat.out (Sat.gd (decide_eq_true (by omega)) (Sat.gd (inR_t (by omega) (by omega)) (Sat.no (by simp [lkM]) (Sat.gd (inR_t (by omega) (by omega)) (Sat.no (by simp [lkM]) (Sat.gd (inR_t (by omega) (by omega)) (Sat.no (by simp [lkM]) (.some ?_))))))))
    first | rfl | (simp; omega)
  · simp only [zAZ, nI_eq]
    exact Sat.out (Sat.no (decide_eq_false (by omega)) (.some rfl))
theorem zCt (k : Int) (xs : List Int) (h0 : 0 ≤ k) (hx : xs.length ≤ 4000000000) (hk : k + 1 * xs.length ≤ 1000000000000) : zFD (k, xs, ()) = some (k + 1 * xs.length, mkF 1 id k xs.length, ()) := by
  unfold zFD
  refine Sat.out (sv (mark_gen 1 id xs k h0 hx hk (fun i q l hi hl hq0 hq1 => ?_) (fun q l => ?_)) (.some rfl))
  · simp (disch := first | omega | assumption | (simp only [List.length_set]; omega)) only [zA5, toN, w64, nI_eq, at_int, int_set_self, List.set_set, Int.add_assoc, Int.reduceAdd]
    refine Sat.out (Sat.gd (decide_eq_true (by omega)) (Sat.gd (inR_t (by omega) (by (try simp only [List.length_set]); omega)) (.some ?_)))
    first | rfl | (simp [id]; done) | (unfold id; congr 2; omega)
  · simp only [zA5, nI_eq]
    exact Sat.out (Sat.no (decide_eq_false (by omega)) (.some rfl))
theorem zBw (k : Int) (n : Nat) (h0 : 0 ≤ k) (hx : n ≤ 4000000000) (hk : k + 1 * n ≤ 1000000000000) : zFu (mkF 1 id k n, k, ()) = some (k + 1 * n, ()) := by
  unfold zFu
  refine Sat.out (sv (held_gen 1 id n k h0 hx hk (fun i q l hi hl hq0 hq1 => ?_) (fun q l => ?_)) (.some rfl))
  · have hlt := lt_of hi
    simp (disch := omega) only [zAY, toN, w64, nI_eq, at_of (τ := .int) hi, Int.add_assoc, Int.reduceAdd]
    refine Sat.out (Sat.gd (decide_eq_true (by omega)) (Sat.gd (inR_t (by omega) (by omega)) (Sat.no (by simp [id]) (.some ?_))))
    first | rfl | (simp; omega)
  · simp only [zAY, nI_eq]
    exact Sat.out (Sat.no (decide_eq_false (by omega)) (.some rfl))
theorem zCr (k : Int) (xs : List En) (h0 : 0 ≤ k) (hx : xs.length ≤ 4000000000) (hk : k + 2 * xs.length ≤ 1000000000000) : zFB (k, xs, ()) = some (k + 2 * xs.length, mkF 2 enM k xs.length, ()) := by
  unfold zFB
  refine Sat.out (sv (mark_gen 2 enM xs k h0 hx hk (fun i q l hi hl hq0 hq1 => ?_) (fun q l => ?_)) (.some rfl))
  · simp (disch := first | omega | assumption | (simp only [List.length_set]; omega)) only [zA4, toN, w64, nI_eq, at_en, en_set_self, List.set_set, Int.add_assoc, Int.reduceAdd]
    refine Sat.out (Sat.gd (decide_eq_true (by omega)) (Sat.gd (inR_t (by omega) (by (try simp only [List.length_set]); omega)) (Sat.gd (inR_t (by omega) (by (try simp only [List.length_set]); omega)) (.some ?_))))
    first | rfl | (simp [enM]; done) | (unfold enM; congr 2; omega)
  · simp only [zA4, nI_eq]
    exact Sat.out (Sat.no (decide_eq_false (by omega)) (.some rfl))
theorem zBu (k : Int) (n : Nat) (h0 : 0 ≤ k) (hx : n ≤ 4000000000) (hk : k + 2 * n ≤ 1000000000000) : zFs (mkF 2 enM k n, k, ()) = some (k + 2 * n, ()) := by
  unfold zFs
  refine Sat.out (sv (held_gen 2 enM n k h0 hx hk (fun i q l hi hl hq0 hq1 => ?_) (fun q l => ?_)) (.some rfl))
  · have hlt := lt_of hi
    simp (disch := omega) only [zAX, toN, w64, nI_eq, at_of (τ := .en) hi, Int.add_assoc, Int.reduceAdd]
    refine Sat.out (Sat.gd (decide_eq_true (by omega)) (Sat.gd (inR_t (by omega) (by omega)) (Sat.no (by simp [enM]) (Sat.gd (inR_t (by omega) (by omega)) (Sat.no (by simp [enM]) (.some ?_))))))
    first | rfl | (simp; omega)
  · simp only [zAX, nI_eq]
    exact Sat.out (Sat.no (decide_eq_false (by omega)) (.some rfl))
theorem zCM (n : Int) (ls : List Lk) (h : ls.length ≤ 16777216) : zFH (n, ls, ()) = some (n, ls, ()) := by
  unfold zFH
  rw [zCN ls h]; rfl
theorem zBk (n : Int) (ls : List Lk) (h : Fits ls) : zFh (n, ls, n, ls, ()) = some (true, ()) := by
  unfold zFh
  refine Sat.out (Sat.no (by simp) (sv (zBm ls h) (Sat.no rfl (.some rfl))))
theorem zCs (n k : Int) (ls : List Lk) (h0 : 0 ≤ k) (h1 : k ≤ 100000000000) (h : ls.length ≤ 16777216) : zFC (n, k, ls, ()) = some (k + 3 * ls.length, mkF 3 lkM k ls.length, ()) := by
  unfold zFC
  rw [zCu k ls h0 (by omega) (by omega)]; rfl
theorem zBv (n k : Int) (m : Nat) (h0 : 0 ≤ k) (h1 : k ≤ 100000000000) (h : m ≤ 16777216) : zFt (n, mkF 3 lkM k m, k, ()) = some (k + 3 * m, ()) := by
  unfold zFt
  refine Sat.out (sv (zBx k m h0 (by omega) (by omega)) (Sat.no (decide_eq_false (by dsimp only; omega)) (.some rfl)))
abbrev Mxl {α : Type} (l : List α) : Prop := l.length ≤ 9223372036854775807
theorem e_szL (s : List Lk × Int × Unit) (h : Mxl s.1) (h1 : -1 ≤ s.2.1 ∧ s.2.1 ≤ 2000000) : zFG s = some (if s.2.1 - s.1.length < 0 then -1 else s.2.1 - s.1.length, ()) := by
  unfold Mxl at h
  unfold zFG
  simp (disch := omega) only [nI_eq, w64]
  by_cases e : s.2.1 - (s.1.length : Int) < 0
  · rw [if_pos e, decide_eq_true e]; rfl
  · rw [if_neg e, decide_eq_false e]; rfl
theorem zCL (n : Int) (ls : List Lk) (left : Int) (h : Mxl ls) (h1 : -1 ≤ left ∧ left ≤ 2000000) : zFF (n, ls, left, ()) = some (if left - ls.length < 0 then -1 else left - ls.length, ()) := by
  unfold zFF
  rw [e_szL _ h h1]
  dsimp only [Option.bind_some]
  by_cases e : left - (ls.length : Int) < 0
  · rw [if_pos e]; rfl
  · rw [if_neg e]
    exact Sat.out (Sat.no (decide_eq_false e) (.some rfl))
end Go.Proofs.Ytknkhdjhongklaa
end
section
namespace Go.Proofs.Ytknkhdjhongklaa
open Go.RowKit
set_option linter.unusedSimpArgs false
set_option linter.unusedVariables false
set_option maxRecDepth 100000

theorem mkF_cons {α : Type} (c : Nat) (f : Int → α) (k : Int) (n : Nat) : mkF c f k (n + 1) = f k :: mkF c f (k + c) n := by
  refine List.ext_getElem? fun i => ?_
  rcases Nat.lt_or_ge i (n + 1) with h | h
  · rw [mkF_get c f k (n + 1) i h]
    cases i with
    | zero => simp
    | succ i =>
      rw [List.getElem?_cons_succ, mkF_get c f (k + c) n i (by omega), show k + (c : Int) + (c : Int) * (i : Int) = k + (c : Int) * ((i + 1 : Nat) : Int) by rw [Int.natCast_add, Int.mul_add]; simp; omega]
  · rw [List.getElem?_eq_none (by rw [mkF_len]; omega), List.getElem?_eq_none (by rw [List.length_cons, mkF_len]; omega)]
theorem mkE_F : ∀ (k : Int) (xs : List En), mkE k xs = mkF 2 enM k xs.length
  | _, [] => rfl
  | k, x :: r => by
    rw [List.length_cons, mkF_cons, mkE, mkE_F (k + 2) r]; rfl
def mL1 (k : Int) (l : Ls) : Ls := ⟨k, k + 1, mkE (k + 2) l.e⟩
def cL1 (l : Ls) : Nat := 2 + 2 * l.e.length
theorem cntL_G : ∀ xs : List Ls, cntL xs = cntG cL1 xs
  | [] => rfl
  | l :: r => by rw [cntL, cntG, cntL_G r]; rfl
theorem mkL_G : ∀ (k : Int) (xs : List Ls), mkL k xs = mkG mL1 cL1 k xs
  | _, [] => rfl
  | k, l :: r => by
    rw [mkL, mkG, mkL_G _ r, show k + 2 + 2 * (l.e.length : Int) = k + (cL1 l : Int) by unfold cL1; omega]; rfl
theorem mkG_get {α : Type} {m : Int → α → α} {c : α → Nat} : ∀ (xs : List α) (k : Int) (i : Nat) (x : α), xs[i]? = some x → (mkG m c k xs)[i]? = some (m (k + cntG c (xs.take i)) x)
  | [], _, _, _, h => by simp at h
  | y :: r, k, 0, x, h => by simp at h; subst h; simp [mkG, cntG]
  | y :: r, k, i + 1, x, h => by
    rw [List.getElem?_cons_succ] at h
    rw [mkG, List.getElem?_cons_succ, mkG_get r (k + c y) i x h, List.take_succ_cons, cntG, show k + (c y : Int) + (cntG c (r.take i) : Int) = k + ((c y + cntG c (r.take i) : Nat) : Int) by omega]
theorem heldG_gen {α : Type} {B : (List α × Int × Int × Unit) → Option ((List α × Int × Int × Unit) ⊕ ((Int × Unit) ⊕ (Int × Unit)))} (m : Int → α → α) (c : α → Nat) (xs : List α) (k : Int) (h0 : 0 ≤ k) (hx : xs.length ≤ 4000000000) (hk : k + cntG c xs ≤ 4000000000)
    (hB : ∀ (i : Nat) (q : Int) (l : List α) (x : α), l[i]? = some (m q x) → x ∈ xs → l.length ≤ 4000000000 → 0 ≤ q → q + c x ≤ 4000000000 → B (l, q, (i : Int), ()) = some (.inl (l, q + c x, ((i + 1 : Nat) : Int), ())))
    (hE : ∀ (q : Int) (l : List α), B (l, q, (l.length : Int), ()) = some (.inr (.inl (q, ())))) : lp B fuel (mkG m c k xs, k, (0 : Int), ()) = some (.inl (k + cntG c xs, ())) := by
  refine Sat.out (Sat.count xs.length (fun i t => t = (mkG m c k xs, k + cntG c (xs.take i), (i : Int), ())) ?_ (Nat.zero_le _) (fuel_lt (by omega)) (by simp [cntG]))
  rintro i t hi rfl
  by_cases hlt : i < xs.length
  · have hxi := List.getElem?_eq_getElem hlt
    have h1 := cntG_take (c := c) xs i _ hxi
    rw [hB i _ _ _ (mkG_get xs k i _ hxi) (List.getElem_mem hlt) (by rw [mkG_len]; exact hx) (by omega) (by omega)]
    exact .some ⟨hlt, by rw [h1.2]; congr 2; omega⟩
  · obtain rfl : i = xs.length := by omega
    have := hE (k + cntG c (xs.take xs.length)) (mkG m c k xs)
    rw [mkG_len] at this
    rw [this]
    exact .some (by simp)
def boM (q : Int) : Bool := decide (Int.tmod q 3 = 0)
theorem bool_set_self (ls : List Bool) (i : Nat) (v : Bool) (h : i < ls.length) : at! .bool (ls.set i v) i = v := at_set_self .bool ls i v h
theorem at_bool (ls : List Bool) (i : Nat) (v : Bool) (h : i < ls.length) : at! .bool (ls.set i v) i = v := at_set_self .bool ls i v h
theorem zCq (k : Int) (xs : List Bool) (h0 : 0 ≤ k) (hx : xs.length ≤ 4000000000) (hk : k + 1 * xs.length ≤ 1000000000000) : zFA (k, xs, ()) = some (k + 1 * xs.length, mkF 1 boM k xs.length, ()) := by
  unfold zFA
  refine Sat.out (sv (mark_gen 1 boM xs k h0 hx hk (fun i q l hi hl hq0 hq1 => ?_) (fun q l => ?_)) (.some rfl))
  · simp (disch := first | omega | assumption | (simp only [List.length_set]; omega)) only [zA3, toN, w64, nI_eq, at_bool, bool_set_self, List.set_set, Int.add_assoc, Int.reduceAdd]
    refine Sat.out (Sat.gd (decide_eq_true (by omega)) (Sat.gd (inR_t (by omega) (by (try simp only [List.length_set]); omega)) (.some ?_)))
    first | rfl | (simp [boM]; done) | (unfold boM; congr 2; omega)
  · simp only [zA3, nI_eq]
    exact Sat.out (Sat.no (decide_eq_false (by omega)) (.some rfl))
theorem zBt (k : Int) (n : Nat) (h0 : 0 ≤ k) (hx : n ≤ 4000000000) (hk : k + 1 * n ≤ 1000000000000) : zFr (mkF 1 boM k n, k, ()) = some (k + 1 * n, ()) := by
  unfold zFr
  refine Sat.out (sv (held_gen 1 boM n k h0 hx hk (fun i q l hi hl hq0 hq1 => ?_) (fun q l => ?_)) (.some rfl))
  · have hlt := lt_of hi
    simp (disch := omega) only [zAW, toN, w64, nI_eq, at_of (τ := .bool) hi, Int.add_assoc, Int.reduceAdd]
    refine Sat.out (Sat.gd (decide_eq_true (by omega)) (Sat.gd (inR_t (by omega) (by omega)) (Sat.no (by simp [boM]) (.some ?_))))
    first | rfl | (simp; omega)
  · simp only [zAW, nI_eq]
    exact Sat.out (Sat.no (decide_eq_false (by omega)) (.some rfl))
theorem zBy (k : Int) (xs : List Ls) (h0 : 0 ≤ k) (hx : xs.length ≤ 4000000000) (hk : k + cntL xs ≤ 4000000000) (he : ∀ l ∈ xs, l.e.length ≤ 4000000000) : zFw (mkL k xs, k, ()) = some (k + cntL xs, ()) := by
  rw [cntL_G] at hk ⊢
  rw [mkL_G]
  unfold zFw
  refine Sat.out (sv (heldG_gen mL1 cL1 xs k h0 hx hk (fun i q l x hi hm hl hq0 hq1 => ?_) (fun q l => ?_)) (.some rfl))
  · have hlt := lt_of hi
    have hxe := he x hm
    unfold cL1 at hq1 ⊢
    have e1 := zBu (q + 2) x.e.length (by omega) hxe (by omega)
    simp (disch := omega) only [zA1, toN, w64, nI_eq, at_of (τ := .ls) hi, Int.add_assoc, Int.reduceAdd]
    refine Sat.out (Sat.gd (decide_eq_true (by omega)) (Sat.gd (inR_t (by omega) (by omega)) (Sat.no (by simp [mL1]) (Sat.gd (inR_t (by omega) (by omega)) (Sat.no (by simp [mL1]) (Sat.gd (inR_t (by omega) (by omega)) (sv (by dsimp only [mL1]; rw [mkE_F]; exact e1) (Sat.no (decide_eq_false (by dsimp only; omega)) (.some ?_)))))))))
    congr 3; dsimp only; omega
  · simp only [zA1, nI_eq]
    exact Sat.out (Sat.no (decide_eq_false (by omega)) (.some rfl))
theorem zBz (k : Int) (xs : List (List Ls)) (h0 : 0 ≤ k) (hx : xs.length ≤ 4000000000) (hk : k + cntD xs ≤ 4000000000) (he : ∀ d ∈ xs, List.length (α := Ls) d ≤ 4000000000 ∧ ∀ l ∈ (d : List Ls), l.e.length ≤ 4000000000) : zFx (mkD k xs, k, ()) = some (k + cntD xs, ()) := by
  unfold zFx
  refine Sat.out (sv (heldG_gen mkL cntL xs k h0 hx hk (fun i q l x hi hm hl hq0 hq1 => ?_) (fun q l => ?_)) (.some rfl))
  · have hlt := lt_of hi
    have hxe := he x hm
    have e1 := zBy q x hq0 hxe.1 hq1 hxe.2
    simp (disch := omega) only [zA0, toN, w64, nI_eq, at_of (τ := .db) hi, Int.add_assoc, Int.reduceAdd]
    exact Sat.out (Sat.gd (decide_eq_true (by omega)) (Sat.gd (inR_t (by omega) (by omega)) (sv e1 (Sat.no (decide_eq_false (by dsimp only; omega)) (.some rfl)))))
  · simp only [zA0, nI_eq]
    exact Sat.out (Sat.no (decide_eq_false (by omega)) (.some rfl))
theorem zBA (k : Int) (xs : List Pk) (h0 : 0 ≤ k) (hx : xs.length ≤ 4000000000) (hk : k + cntP xs ≤ 4000000000) (he : ∀ p ∈ xs, p.p.e.length ≤ 4000000000) : zFy (mkP k xs, k, ()) = some (k + cntP xs, ()) := by
  unfold zFy
  refine Sat.out (sv (heldG_gen mkP1 cntP1 xs k h0 hx hk (fun i q l x hi hm hl hq0 hq1 => ?_) (fun q l => ?_)) (.some rfl))
  · have hlt := lt_of hi
    have hxe := he x hm
    unfold cntP1 at hq1 ⊢
    have e1 := zBu (q + 3) x.p.e.length (by omega) hxe (by omega)
    simp (disch := omega) only [zA2, toN, w64, nI_eq, at_of (τ := .pk) hi, Int.add_assoc, Int.reduceAdd]
    refine Sat.out (Sat.gd (decide_eq_true (by omega)) (Sat.gd (inR_t (by omega) (by omega)) (Sat.no (by simp [mkP1]) (Sat.gd (inR_t (by omega) (by omega)) (Sat.no (by simp [mkP1]) (Sat.gd (inR_t (by omega) (by omega)) (Sat.no (by simp [mkP1]) (Sat.gd (inR_t (by omega) (by omega)) (sv (by dsimp only [mkP1]; rw [mkE_F]; exact e1) (Sat.no (decide_eq_false (by dsimp only; omega)) (.some ?_)))))))))))
    congr 3; dsimp only; omega
  · simp only [zA2, nI_eq]
    exact Sat.out (Sat.no (decide_eq_false (by omega)) (.some rfl))
abbrev mgL (k : Int) (xs : List Lk) : List Lk := mkF 3 lkM k xs.length
abbrev mgB (k : Int) (xs : List Bool) : List Bool := mkF 1 boM k xs.length
abbrev mgI (k : Int) (xs : List Int) : List Int := mkF 1 id k xs.length
structure FV (W : Wl) : Prop where
  ls : W.2.1.length ≤ 16777216
  up : W.2.2.1.length ≤ 16777216
  sq : W.2.2.2.1.length ≤ 16777216
  db : W.2.2.2.2.1.length ≤ 16777216
  net : W.2.2.2.2.2.length ≤ 16777216
  dbs : ∀ d ∈ W.2.2.2.2.1, List.length (α := Ls) d ≤ 16777216 ∧ ∀ l ∈ (d : List Ls), l.e.length ≤ 16777216
  pks : ∀ p ∈ W.2.2.2.2.2, p.p.e.length ≤ 16777216
  cnt : cntW W ≤ 3999999999
theorem zBB (W : Wl) (h : FV W) : zFz ((mkW mgL mgB mgI 1 W).1, (mkW mgL mgB mgI 1 W).2.1, (mkW mgL mgB mgI 1 W).2.2.1, (mkW mgL mgB mgI 1 W).2.2.2.1, (mkW mgL mgB mgI 1 W).2.2.2.2.1, (mkW mgL mgB mgI 1 W).2.2.2.2.2, 1, ()) = some (1 + (cntW W : Int), ()) := by
  obtain ⟨n, ls, up, sq, db, net⟩ := W
  obtain ⟨h1, h2, h3, h4, h5, h6, h7, h8⟩ := h
  unfold cntW at h8 ⊢
  dsimp only [mkW] at *
  unfold zFz
  dsimp only
  have e1 := zBv n 1 ls.length (by omega) (by omega) h1
  have e2 := zBt (1 + 3 * ls.length) up.length (by omega) (by omega) (by omega)
  have e3 := zBw (1 + 3 * ls.length + up.length) sq.length (by omega) (by omega) (by omega)
  have e4 := zBz (1 + 3 * ls.length + up.length + sq.length) db (by omega) (by omega) (by omega) (fun d hd => ⟨by have := (h6 d hd).1; omega, fun l hl => by have := (h6 d hd).2 l hl; omega⟩)
  have e5 := zBA (1 + 3 * ls.length + up.length + sq.length + cntD db) net (by omega) (by omega) (by omega) (fun p hp => by have := h7 p hp; omega)
  simp only [Int.one_mul] at e2 e3
  refine Sat.out (sv e1 (Sat.no (decide_eq_false (by dsimp only; omega)) (sv e2 (Sat.no (decide_eq_false (by dsimp only; omega)) (sv e3 (Sat.no (decide_eq_false (by dsimp only; omega)) (sv e4 (Sat.no (decide_eq_false (by dsimp only; omega)) (sv e5 (Sat.no (decide_eq_false (by dsimp only; omega)) (.some ?_)))))))))))
  congr 1; (try dsimp only); omega
end Go.Proofs.Ytknkhdjhongklaa
end
section
namespace Go.Proofs.Ytknkhdjhongklaa
open Go.RowKit
set_option linter.unusedSimpArgs false
set_option linter.unusedVariables false
set_option maxRecDepth 100000

def Srt (db : List Ls) : Prop := ∀ i j, i < j → j < db.length → (lsa db i).o < (lsa db j).o
theorem DbV.srt {db : List Ls} (h : DbV db) : Srt db := by
  have step : ∀ d i, i + d + 1 < db.length → (lsa db i).o < (lsa db (i + d + 1)).o := fun d => by
    induction d with
    | zero => intro i hi; exact (h (i + 1) hi).2 (by omega)
    | succ d ih =>
      intro i hi
      have h1 := ih i (by omega)
      have h2 := (h (i + (d + 1) + 1) hi).2 (by omega)
      rw [Nat.add_sub_cancel] at h2
      rw [show i + (d + 1) = i + d + 1 by omega] at h2 ⊢
      omega
  intro i j hij hj
  have := step (j - i - 1) i (by omega)
  rwa [show i + (j - i - 1) + 1 = j by omega] at this
end Go.Proofs.Ytknkhdjhongklaa
end
section
namespace Go.Proofs.Ytknkhdjhongklaa
open Go.RowKit
set_option linter.unusedSimpArgs false
set_option linter.unusedVariables false
set_option maxRecDepth 100000

theorem asc_ext : ∀ {l l' : List Int}, l.Pairwise (· < ·) → l'.Pairwise (· < ·) → (∀ x, x ∈ l ↔ x ∈ l') → l = l'
  | [], [], _, _, _ => rfl
  | [], y :: s, _, _, h => by have := (h y).2 (List.mem_cons_self ..); simp at this
  | x :: r, [], _, _, h => by have := (h x).1 (List.mem_cons_self ..); simp at this
  | x :: r, y :: s, h1, h2, h => by
    have h1 := List.pairwise_cons.1 h1
    have h2 := List.pairwise_cons.1 h2
    have e : x = y := by
      rcases List.mem_cons.1 ((h x).1 (List.mem_cons_self ..)) with e | hx
      · exact e
      · rcases List.mem_cons.1 ((h y).2 (List.mem_cons_self ..)) with e | hy
        · exact e.symm
        · have q1 := h1.1 y hy
          have q2 := h2.1 x hx
          omega
    subst e
    have : r = s := asc_ext h1.2 h2.2 fun z => by
      constructor
      · intro hz
        rcases List.mem_cons.1 ((h z).1 (List.mem_cons_of_mem _ hz)) with e | hz'
        · subst e; have := h1.1 z hz; omega
        · exact hz'
      · intro hz
        rcases List.mem_cons.1 ((h z).2 (List.mem_cons_of_mem _ hz)) with e | hz'
        · subst e; have := h2.1 z hz; omega
        · exact hz'
    rw [this]
theorem sortI_mem {x : Int} {l : List Int} : x ∈ sortI l ↔ x ∈ l := List.mem_mergeSort
theorem sortI_asc {l : List Int} (h : l.Pairwise (· ≠ ·)) : (sortI l).Pairwise (· < ·) := by
  have h1 : (sortI l).Pairwise (fun a b => decide (a ≤ b) = true) := List.pairwise_mergeSort (fun a b c h1 h2 => decide_eq_true (by have := of_decide_eq_true h1; have := of_decide_eq_true h2; omega)) (fun a b => by simp; omega) l
  have h2 : (sortI l).Nodup := (List.mergeSort_perm l _).nodup_iff.2 h
  refine List.Pairwise.imp ?_ (List.Pairwise.and h1 h2)
  rintro a b ⟨q1, q2⟩
  have := of_decide_eq_true q1
  omega
theorem nbS_asc (ls : List Lk) (m : Int) (k : Nat) : (nbS ls m k).Pairwise (· < ·) := by
  unfold nbS
  rw [List.pairwise_map]
  refine List.Pairwise.imp ?_ (List.Pairwise.filter _ (List.pairwise_lt_range (n := k)))
  intro a b h
  omega
theorem nbS_mem {ls : List Lk} {m x : Int} {k : Nat} : x ∈ nbS ls m k ↔ ∃ j : Nat, j < k ∧ x = j ∧ (lc ls m j).isSome = true := by
  unfold nbS
  rw [List.mem_map]
  constructor
  · rintro ⟨j, hj, rfl⟩
    obtain ⟨h1, h2⟩ := List.mem_filter.1 hj
    exact ⟨j, List.mem_range.1 h1, rfl, by rw [lc_lof]; exact h2⟩
  · rintro ⟨j, h1, rfl, h2⟩
    rw [lc_lof] at h2
    exact ⟨j, List.mem_filter.2 ⟨List.mem_range.2 h1, h2⟩, rfl⟩
section
variable {N : Nat} {ls : List Lk}
theorem others_mem (g : GV N ls) {m : Int} {x : Int} : x ∈ others ls m ls.length ↔ (lc ls m x).isSome = true := by
  unfold others
  rw [List.mem_map, List.take_of_length_le (Nat.le_refl _)]
  constructor
  · rintro ⟨l, hl, rfl⟩
    obtain ⟨h1, h2⟩ := List.mem_filter.1 hl
    have ho := g.ok h1
    unfold okL at ho
    have h2 : m = l.a ∨ m = l.b := of_decide_eq_true h2
    unfold otherE
    by_cases e : m = l.a
    · rw [if_pos e, e, lc_mem g.pw h1 (by omega)]; rfl
    · have e2 := h2.resolve_left e
      rw [if_neg e, if_pos e2, e2, lc_symm, lc_mem g.pw h1 (by omega)]; rfl
  · intro h
    obtain ⟨c, hc⟩ := Option.isSome_iff_exists.1 h
    have hm := lc_some hc
    have ho := g.ok hm
    unfold okL at ho
    dsimp only at ho
    refine ⟨_, List.mem_filter.2 ⟨hm, decide_eq_true (by dsimp only; omega)⟩, ?_⟩
    unfold otherE
    dsimp only
    split
    · omega
    · rw [if_pos (by omega)]; omega
theorem others_nodup (g : GV N ls) (m : Int) : (others ls m ls.length).Pairwise (· ≠ ·) := by
  unfold others
  rw [List.take_of_length_le (Nat.le_refl _), List.pairwise_map]
  refine List.Pairwise.imp_of_mem ?_ (List.Pairwise.filter _ g.pw)
  intro a b ha hb hab
  obtain ⟨ha, ea⟩ := List.mem_filter.1 ha
  obtain ⟨hb, eb⟩ := List.mem_filter.1 hb
  have oa := g.ok ha
  have ob := g.ok hb
  have ea : m = a.a ∨ m = a.b := of_decide_eq_true ea
  have eb : m = b.a ∨ m = b.b := of_decide_eq_true eb
  unfold okL at oa ob
  unfold lxl at hab
  unfold otherE
  split <;> split <;> (try split) <;> (try split) <;> omega
theorem lc_none_out (g : GV N ls) {m x : Int} (h : (lc ls m x).isSome = true) : 0 ≤ x ∧ x < N ∧ 0 ≤ m ∧ m < N ∧ x ≠ m := by
  obtain ⟨c, hc⟩ := Option.isSome_iff_exists.1 h
  have ho := g.ok (lc_some hc)
  unfold okL at ho
  dsimp only at ho
  omega
theorem sort_nb (g : GV N ls) (m : Int) : sortI (others ls m ls.length) = nbS ls m N := by
  refine asc_ext (sortI_asc (others_nodup g m)) (nbS_asc ls m N) fun x => ?_
  rw [sortI_mem, others_mem g, nbS_mem]
  constructor
  · intro h
    have := lc_none_out g h
    exact ⟨x.toNat, by omega, by omega, by rw [show ((x.toNat : Nat) : Int) = x by omega]; exact h⟩
  · rintro ⟨j, _, rfl, h⟩; exact h
def endsOf (ls : List Lk) (N : Nat) (o : Int) : List En := (nbS ls o N).map fun n => ⟨n, (lc ls o n).getD 0⟩
theorem zCp (g : GV N ls) (o s : Int) : zE8 ((N : Int), ls, o, s, ()) = some (o, s, endsOf ls N o, ()) := by
  have h8 := g.2.1
  have fl : Fits ls := (show Fits ls by have := g.2.2.1; unfold Fits; omega)
  unfold zE8
  simp only [zCv (N : Int) ls o (by have := g.2.2.1; omega), sort_nb g o, Option.bind_some, nI_eq]
  have hlen := nbS_len ls o N
  have hmem : ∀ x ∈ nbS ls o N, ∃ c, lc ls o x = some c := fun x hx => by
    obtain ⟨j, _, rfl, h⟩ := nbS_mem.1 hx
    exact Option.isSome_iff_exists.1 h
  unfold endsOf
  generalize nbS ls o N = nb at *
  refine Sat.out (Sat.bnd (R := fun r => match r with | .inl x => x = (0, 0, o, s, [], nb.map fun n => ⟨n, (lc ls o n).getD 0⟩, ()) | .inr _ => False) ?_ ?_)
  · refine Sat.count nb.length (fun k t => t = (o, (nb.length : Int), (k : Int), (N : Int), ls, 0, 0, o, s, nb, [], (nb.take k).map (fun n => (⟨n, (lc ls o n).getD 0⟩ : En)), ())) ?_ (Nat.zero_le _) (fuel_lt (by omega)) (by simp)
    rintro k t hk rfl
    by_cases hlt : k < nb.length
    · obtain ⟨c, hc⟩ := hmem (iz nb k) (List.mem_of_getElem? (iz_get hlt))
      obtain ⟨h1, h2, h3⟩ := lc_at hc
      simp (disch := omega) only [zAK, at_int, at_lk, toN, w64, zCo _ _ _ _ fl, Option.bind_some, List.length_singleton, List.length_map]
      refine Sat.gd (decide_eq_true (by omega)) (Sat.gd (inR_t (by omega) (by omega)) (Sat.gd (inR_t h1 h2) (Sat.gd (decide_eq_true (by simp; omega)) (.some ⟨hlt, ?_⟩))))
      rw [h3, List.take_add_one, iz_get hlt]
      simp [hc]
    · obtain rfl : k = nb.length := by omega
      unfold zAK
      simp only [decide_eq_false (show ¬ (nb.length : Int) < nb.length by omega), cond_false, List.take_length]
      exact .some rfl
  · rintro (r | r) hr
    case inr => exact hr.elim
    obtain rfl := hr
    exact .some rfl
theorem endsOf_len (o : Int) : (endsOf ls N o).length ≤ N := by unfold endsOf; rw [List.length_map]; exact nbS_len ls o N
theorem zBO (g : GV N ls) (o s : Int) : zFR ((N : Int), ls, o, s, ()) = some (o, s, endsOf ls N o, ()) := by
  have h8 := g.2.1
  have fl : Fits ls := (show Fits ls by have := g.2.2.1; unfold Fits; omega)
  unfold zFR
  refine Sat.out (Sat.bnd (R := fun r => match r with | .inl x => x = (0, 0, [], o, s, endsOf ls N o, ()) | .inr _ => False) ?_ ?_)
  · refine Sat.count N (fun k t => t = (o, (k : Int), (N : Int), ls, 0, 0, [], o, s, (nbS ls o k).map (fun n => (⟨n, (lc ls o n).getD 0⟩ : En)), ())) ?_ (Nat.zero_le _) (fuel_lt (by omega)) (by simp [nbS])
    rintro k t hk rfl
    have hlen := nbS_len ls o k
    simp (disch := omega) only [zBe, at_lk, toN, w64, zBR _ _ _ _ fl, Option.bind_some, List.length_singleton, List.length_map]
    refine Sat.ite (fun hlt => ?_) (fun hlt => ?_)
    · have hlt := of_decide_eq_true hlt
      cases hc : lc ls o k with
      | none =>
        refine Sat.no (by rw [lc_no hc]; rfl) (.some ⟨by omega, ?_⟩)
        rw [nbS_succ, if_neg (by rw [lc_no hc]; omega)]
        rfl
      | some c =>
        obtain ⟨h1, h2, h3⟩ := lc_at hc
        refine Sat.gd (decide_eq_true h1) (Sat.gd (inR_t h1 h2) (Sat.gd (decide_eq_true (by omega)) (.some ⟨by omega, ?_⟩)))
        rw [nbS_succ, if_pos h1, h3]
        simp [hc]
    · have hlt := of_decide_eq_false hlt
      obtain rfl : k = N := by omega
      exact .some rfl
  · rintro (r | r) hr
    case inr => exact hr.elim
    obtain rfl := hr
    exact .some rfl
end
end Go.Proofs.Ytknkhdjhongklaa
end
section
namespace Go.Proofs.Ytknkhdjhongklaa
open Go.RowKit
set_option linter.unusedSimpArgs false
set_option linter.unusedVariables false

abbrev SrtP (db : List Ls) : Prop := db.Pairwise fun x y => x.o < y.o
theorem srt_iff {db : List Ls} : Srt db ↔ SrtP db := by
  unfold SrtP
  rw [List.pairwise_iff_getElem]
  constructor
  · intro h i j hi hj hij
    have := h i j hij hj
    rwa [lsa_get hi, lsa_get hj] at this
  · intro h i j hij hj
    rw [lsa_get (show i < db.length by omega), lsa_get hj]
    exact h i j (by omega) hj hij
theorem dbV_iff {db : List Ls} : DbV db ↔ (∀ l ∈ db, LsV l) ∧ SrtP db := by
  constructor
  · intro h
    refine ⟨fun l hl => ?_, srt_iff.1 h.srt⟩
    obtain ⟨i, hi, rfl⟩ := List.getElem_of_mem hl
    have := (h i hi).1
    rwa [lsa_get hi] at this
  · rintro ⟨h1, h2⟩ i hi
    refine ⟨?_, fun h0 => srt_iff.2 h2 (i - 1) i (by omega) hi⟩
    rw [lsa_get hi]
    exact h1 _ (List.getElem_mem hi)
def putL (db : List Ls) (l : Ls) : List Ls := db.filter (fun x => decide (x.o < l.o)) ++ l :: db.filter (fun x => decide (l.o < x.o))
def putC (db : List Ls) (l : Ls) : Int := match fd db l.o with | some old => if old.s = l.s then 1 else if l.s < old.s then 2 else 0 | none => 0
def putD (db : List Ls) (l : Ls) : List Ls := if putC db l = 0 then putL db l else db
theorem putL_mem {db : List Ls} {l x : Ls} : x ∈ putL db l ↔ x = l ∨ x ∈ db ∧ x.o ≠ l.o := by
  unfold putL
  rw [List.mem_append, List.mem_cons, List.mem_filter, List.mem_filter]
  simp only [decide_eq_true_eq]
  constructor
  · rintro (⟨h1, h2⟩ | rfl | ⟨h1, h2⟩)
    · exact .inr ⟨h1, by omega⟩
    · exact .inl rfl
    · exact .inr ⟨h1, by omega⟩
  · rintro (rfl | ⟨h1, h2⟩)
    · exact .inr (.inl rfl)
    · rcases Int.lt_or_gt_of_ne h2 with h | h
      · exact .inl ⟨h1, h⟩
      · exact .inr (.inr ⟨h1, h⟩)
theorem putL_srt {db : List Ls} (h : SrtP db) (l : Ls) : SrtP (putL db l) := by
  unfold putL SrtP
  rw [List.pairwise_append, List.pairwise_cons]
  refine ⟨List.Pairwise.filter _ h, ⟨fun x hx => ?_, List.Pairwise.filter _ h⟩, fun x hx y hy => ?_⟩
  · exact of_decide_eq_true (List.mem_filter.1 hx).2
  · have h1 : x.o < l.o := of_decide_eq_true (List.mem_filter.1 hx).2
    rcases List.mem_cons.1 hy with rfl | hy
    · exact h1
    · have h2 : l.o < y.o := of_decide_eq_true (List.mem_filter.1 hy).2
      omega
theorem putD_srt {db : List Ls} (h : SrtP db) (l : Ls) : SrtP (putD db l) := by
  unfold putD
  split
  · exact putL_srt h l
  · exact h
theorem srt_uniq {db : List Ls} (h : SrtP db) {x y : Ls} (hx : x ∈ db) (hy : y ∈ db) (e : x.o = y.o) : x = y := by
  obtain ⟨i, hi, rfl⟩ := List.getElem_of_mem hx
  obtain ⟨j, hj, rfl⟩ := List.getElem_of_mem hy
  rcases Nat.lt_trichotomy i j with h1 | h1 | h1
  · have := List.pairwise_iff_getElem.1 h i j hi hj h1; omega
  · subst h1; rfl
  · have := List.pairwise_iff_getElem.1 h j i hj hi h1; omega
theorem fd_some {db : List Ls} (h : SrtP db) {o : Int} {x : Ls} : fd db o = some x ↔ x ∈ db ∧ x.o = o := by
  unfold fd
  constructor
  · intro e
    exact ⟨List.mem_of_find?_eq_some e, of_decide_eq_true (List.find?_some (p := fun l : Ls => decide (l.o = o)) e)⟩
  · rintro ⟨hx, rfl⟩
    cases e : db.find? (fun l => decide (l.o = x.o)) with
    | none =>
      have := List.find?_eq_none.1 e x hx
      simp at this
    | some y =>
      have h1 := List.mem_of_find?_eq_some e
      have h2 : y.o = x.o := of_decide_eq_true (List.find?_some (p := fun l : Ls => decide (l.o = x.o)) e)
      rw [srt_uniq h h1 hx h2]
theorem fd_none {db : List Ls} {o : Int} : fd db o = none ↔ ∀ x ∈ db, x.o ≠ o := by
  unfold fd
  rw [List.find?_eq_none]
  constructor
  · intro h x hx e; exact h x hx (decide_eq_true e)
  · intro h x hx e; exact h x hx (of_decide_eq_true e)
theorem fd_put {db : List Ls} (h : SrtP db) (l : Ls) (o : Int) : fd (putD db l) o = if o = l.o ∧ putC db l = 0 then some l else fd db o := by
  unfold putD
  by_cases hc : putC db l = 0
  · rw [if_pos hc]
    by_cases ho : o = l.o
    · rw [if_pos ⟨ho, hc⟩]
      exact (fd_some (putL_srt h l)).2 ⟨putL_mem.2 (.inl rfl), ho.symm⟩
    · rw [if_neg fun g => ho g.1]
      cases e : fd db o with
      | none =>
        rw [fd_none] at e ⊢
        intro x hx
        rcases putL_mem.1 hx with rfl | ⟨hx, _⟩
        · exact fun g => ho g.symm
        · exact e x hx
      | some y =>
        obtain ⟨h1, h2⟩ := (fd_some h).1 e
        exact (fd_some (putL_srt h l)).2 ⟨putL_mem.2 (.inr ⟨h1, by omega⟩), h2⟩
  · rw [if_neg hc, if_neg fun g => hc g.2]
def mergeD (db other : List Ls) : List Ls := other.foldl putD db
def seqD (db : List Ls) (o : Int) : Int := match fd db o with | some l => l.s | none => -1
theorem mergeD_srt {db : List Ls} (h : SrtP db) (other : List Ls) : SrtP (mergeD db other) := by
  unfold mergeD
  induction other generalizing db with
  | nil => exact h
  | cons l r ih => exact ih (putD_srt h l)
theorem seq_put {db : List Ls} (h : SrtP db) {l : Ls} (hl : 0 ≤ l.s) (o : Int) : seqD (putD db l) o = if o = l.o then max (seqD db o) l.s else seqD db o := by
  unfold seqD
  rw [fd_put h l o]
  by_cases ho : o = l.o
  · subst ho
    rw [if_pos rfl]
    cases e : fd db l.o with
    | none =>
      have hc : putC db l = 0 := by unfold putC; rw [e]
      rw [hc, if_pos ⟨rfl, rfl⟩]
      dsimp only
      omega
    | some old =>
      by_cases h1 : old.s = l.s
      · have hc : putC db l = 1 := by unfold putC; rw [e]; exact if_pos h1
        rw [hc, if_neg (fun g => by have := g.2; omega)]
        dsimp only
        omega
      · by_cases h2 : l.s < old.s
        · have hc : putC db l = 2 := by unfold putC; rw [e]; dsimp only; rw [if_neg h1, if_pos h2]
          rw [hc, if_neg (fun g => by have := g.2; omega)]
          dsimp only
          omega
        · have hc : putC db l = 0 := by unfold putC; rw [e]; dsimp only; rw [if_neg h1, if_neg h2]
          rw [hc, if_pos ⟨rfl, rfl⟩]
          dsimp only
          omega
  · rw [if_neg fun g => ho g.1, if_neg ho]
theorem putC_zero {db : List Ls} {l : Ls} (hl : 0 ≤ l.s) : putC db l = 0 ↔ seqD db l.o < l.s := by
  unfold putC seqD
  cases fd db l.o with
  | none => simp; omega
  | some old =>
    dsimp only
    by_cases h1 : old.s = l.s
    · rw [if_pos h1]; omega
    · rw [if_neg h1]
      by_cases h2 : l.s < old.s
      · rw [if_pos h2]; omega
      · rw [if_neg h2]; omega
theorem fd_cons (l : Ls) (r : List Ls) (o : Int) : fd (l :: r) o = if l.o = o then some l else fd r o := by
  unfold fd
  rw [List.find?_cons]
  by_cases h : l.o = o
  · rw [if_pos h, decide_eq_true h]
  · rw [if_neg h, decide_eq_false h]
theorem seq_low {db : List Ls} (h : ∀ l ∈ db, 0 ≤ l.s) (o : Int) : -1 ≤ seqD db o := by
  unfold seqD
  cases e : fd db o with
  | none => simp
  | some l => have := h l (List.mem_of_find?_eq_some e); dsimp only; omega
theorem fd_merge {a b : List Ls} (ha : SrtP a) (hb : SrtP b) (hs : ∀ l ∈ b, 0 ≤ l.s) (hsa : ∀ l ∈ a, 0 ≤ l.s) (o : Int) : fd (mergeD a b) o = if seqD a o < seqD b o then fd b o else fd a o := by
  unfold mergeD
  induction b generalizing a with
  | nil =>
    have : seqD [] o = -1 := rfl
    rw [if_neg (by have := seq_low hsa o; omega)]
    rfl
  | cons l r ih =>
    have hb' := List.pairwise_cons.1 hb
    have hl := hs l (List.mem_cons_self ..)
    have hsa' : ∀ x ∈ putD a l, 0 ≤ x.s := fun x hx => by
      unfold putD at hx
      split at hx
      · rcases putL_mem.1 hx with rfl | hx
        · exact hl
        · exact hsa x hx.1
      · exact hsa x hx
    have ih := ih (putD_srt ha l) hb'.2 (fun x hx => hs x (List.mem_cons_of_mem _ hx)) hsa'
    rw [List.foldl_cons, ih, seq_put ha hl, fd_put ha, fd_cons]
    have hq : seqD (l :: r) o = if l.o = o then l.s else seqD r o := by
      unfold seqD
      rw [fd_cons]
      by_cases e : l.o = o
      · rw [if_pos e, if_pos e]
      · rw [if_neg e, if_neg e]
    rw [hq]
    by_cases ho : o = l.o
    · subst ho
      have hr : seqD r l.o = -1 := by
        unfold seqD
        rw [fd_none.2 fun x hx e => by have := hb'.1 x hx; omega]
      have hla := seq_low hsa l.o
      rw [if_pos rfl, if_pos rfl, if_pos rfl, hr, if_neg (by omega)]
      by_cases hc : putC a l = 0
      · rw [if_pos ⟨rfl, hc⟩, if_pos ((putC_zero hl).1 hc)]
      · rw [if_neg fun g => hc g.2, if_neg fun g => hc ((putC_zero hl).2 g)]
    · have h1 : ¬ l.o = o := fun g => ho g.symm
      have h2 : ¬ (o = l.o ∧ putC a l = 0) := fun g => ho g.1
      simp only [if_neg ho, if_neg h1, if_neg h2]
theorem seq_merge {a b : List Ls} (ha : SrtP a) (hb : SrtP b) (hs : ∀ l ∈ b, 0 ≤ l.s) (hsa : ∀ l ∈ a, 0 ≤ l.s) (o : Int) : seqD (mergeD a b) o = max (seqD a o) (seqD b o) := by
  have h := fd_merge ha hb hs hsa o
  by_cases hc : seqD a o < seqD b o
  · rw [if_pos hc] at h
    have : seqD (mergeD a b) o = seqD b o := by unfold seqD; rw [h]
    omega
  · rw [if_neg hc] at h
    have : seqD (mergeD a b) o = seqD a o := by unfold seqD; rw [h]
    omega
def Agree (a b : List Ls) : Prop := ∀ x ∈ a, ∀ y ∈ b, x.o = y.o → x.s = y.s → x = y
theorem merge_mem {a b : List Ls} {x : Ls} (hx : x ∈ mergeD a b) : x ∈ a ∨ x ∈ b := by
  unfold mergeD at hx
  induction b generalizing a with
  | nil => exact .inl hx
  | cons l r ih =>
    rcases ih hx with h | h
    · unfold putD at h
      split at h
      · rcases putL_mem.1 h with rfl | h
        · exact .inr (List.mem_cons_self ..)
        · exact .inl h.1
      · exact .inl h
    · exact .inr (List.mem_cons_of_mem _ h)
end Go.Proofs.Ytknkhdjhongklaa
end
section
namespace Go.Proofs.Ytknkhdjhongklaa
open Go.RowKit
set_option maxRecDepth 100000
def zFT (s : (Int × List Lk × Unit)) : Option (Int × List Lk × Unit) := (bif decide (((List.length (([] : List Lk)) + List.length s.2.1) ≤ (33554432 : Nat))) then some ((s.1, (([] : List Lk) ++ s.2.1), ())) else none)
def zFS (s : (Int × Int × List En × Unit)) : Option (Int × Int × List En × Unit) := (bif decide (((List.length (([] : List En)) + List.length s.2.2.1) ≤ (33554432 : Nat))) then some ((s.1, s.2.1, (([] : List En) ++ s.2.2.1), ())) else none)
def zFc (_ : (Int × Int × Int × Int × Unit)) : Option (Bool × Unit) := some ((true, ()))
def zBd (s : (List Ls × Int × List Ls × Unit)) : Option ((List Ls × Int × List Ls × Unit) ⊕ ((List Ls × Unit) ⊕ Unit)) := (bif decide ((s.2.1 < nI (List.length s.1))) then (bif inR s.2.1 (List.length s.1) then (zFS (((at! .ls s.1 (Int.toNat s.2.1)).o, ((at! .ls s.1 (Int.toNat s.2.1)).s, ((at! .ls s.1 (Int.toNat s.2.1)).e, ()))))).bind fun r0 => (bif decide (((List.length s.2.2.1 + List.length ([(Ls.mk r0.1 r0.2.1 r0.2.2.1)])) ≤ (33554432 : Nat))) then some (Sum.inl ((s.1, wrap64 ((s.2.1 + (1 : Int))), (s.2.2.1 ++ [(Ls.mk r0.1 r0.2.1 r0.2.2.1)]), ()))) else none) else none) else some (Sum.inr (Sum.inl ((s.2.2.1, ())))))
def zFQ (s : (List Ls × Unit)) : Option (List Ls × Unit) := (lp zBd fuel ((s.1, ((0 : Int), (([] : List Ls), ()))))).bind fun r0 => (match r0 with | .inl x1 => some ((x1.1, ())) | .inr _ => none)
def zAJ (s : (List Lk × Int × Int × Int × Int × List Lk × List Lk × Unit)) : Option ((List Lk × Int × Int × Int × Int × List Lk × List Lk × Unit) ⊕ ((Int × Int × List Lk × List Lk × Unit) ⊕ Unit)) := (bif decide ((s.2.2.1 < s.2.1)) then (bif inR s.2.2.1 (List.length s.1) then (zFc ((s.2.2.1, ((at! .lk s.1 (Int.toNat s.2.2.1)).a, ((at! .lk s.1 (Int.toNat s.2.2.1)).b, ((at! .lk s.1 (Int.toNat s.2.2.1)).c, ())))))).bind fun r0 => (bif r0.1 then (bif decide (((List.length s.2.2.2.2.2.2.1 + List.length ([(Lk.mk ((at! .lk s.1 (Int.toNat s.2.2.1)).a) ((at! .lk s.1 (Int.toNat s.2.2.1)).b) ((at! .lk s.1 (Int.toNat s.2.2.1)).c))])) ≤ (33554432 : Nat))) then some (Sum.inl ((s.1, s.2.1, wrap64 ((s.2.2.1 + (1 : Int))), s.2.2.2.1, s.2.2.2.2.1, s.2.2.2.2.2.1, (s.2.2.2.2.2.2.1 ++ [(Lk.mk ((at! .lk s.1 (Int.toNat s.2.2.1)).a) ((at! .lk s.1 (Int.toNat s.2.2.1)).b) ((at! .lk s.1 (Int.toNat s.2.2.1)).c))]), ()))) else none) else some (Sum.inl ((s.1, s.2.1, wrap64 ((s.2.2.1 + (1 : Int))), s.2.2.2.1, s.2.2.2.2.1, s.2.2.2.2.2.1, s.2.2.2.2.2.2.1, ())))) else none) else some (Sum.inr (Sum.inl ((s.2.2.2.1, s.2.2.2.2.1, s.2.2.2.2.2.1, s.2.2.2.2.2.2.1, ())))))
def zE5 (s : (Int × List Lk × Unit)) : Option (Int × List Lk × Unit) := (lp zAJ fuel ((s.2.1, (nI (List.length s.2.1), ((0 : Int), ((0 : Int), (s.1, (([] : List Lk), (([] : List Lk), ()))))))))).bind fun r0 => (match r0 with | .inl x1 => some ((x1.2.1, x1.2.2.2.1, ())) | .inr _ => none)
def zBc (s : (Int × Int × List Lk × Int × List Lk × List Bool × List Int × List (List Ls) × List Pk × List Ls × Int × List Lk × List Bool × List Int × List (List Ls) × List Pk × Unit)) : Option ((Int × Int × List Lk × Int × List Lk × List Bool × List Int × List (List Ls) × List Pk × List Ls × Int × List Lk × List Bool × List Int × List (List Ls) × List Pk × Unit) ⊕ ((Int × List Lk × Int × List Lk × List Bool × List Int × List (List Ls) × List Pk × List Ls × Int × List Lk × List Bool × List Int × List (List Ls) × List Pk × Unit) ⊕ Unit)) := (bif decide ((s.1 < s.2.1)) then (zFR ((s.2.1, (s.2.2.1, (s.1, ((1 : Int), ())))))).bind fun r0 => (bif decide (((List.length s.2.2.2.2.2.2.2.2.2.1 + List.length ([(Ls.mk r0.1 r0.2.1 r0.2.2.1)])) ≤ (33554432 : Nat))) then (bif decide (((List.length s.2.2.2.2.2.2.2.2.2.2.2.2.2.1 + List.length ([(1 : Int)])) ≤ (33554432 : Nat))) then some (Sum.inl ((wrap64 ((s.1 + (1 : Int))), s.2.1, s.2.2.1, s.2.2.2.1, s.2.2.2.2.1, s.2.2.2.2.2.1, s.2.2.2.2.2.2.1, s.2.2.2.2.2.2.2.1, s.2.2.2.2.2.2.2.2.1, (s.2.2.2.2.2.2.2.2.2.1 ++ [(Ls.mk r0.1 r0.2.1 r0.2.2.1)]), s.2.2.2.2.2.2.2.2.2.2.1, s.2.2.2.2.2.2.2.2.2.2.2.1, s.2.2.2.2.2.2.2.2.2.2.2.2.1, (s.2.2.2.2.2.2.2.2.2.2.2.2.2.1 ++ [(1 : Int)]), s.2.2.2.2.2.2.2.2.2.2.2.2.2.2.1, s.2.2.2.2.2.2.2.2.2.2.2.2.2.2.2.1, ()))) else none) else none) else some (Sum.inr (Sum.inl ((s.2.1, s.2.2.1, s.2.2.2.1, s.2.2.2.2.1, s.2.2.2.2.2.1, s.2.2.2.2.2.2.1, s.2.2.2.2.2.2.2.1, s.2.2.2.2.2.2.2.2.1, s.2.2.2.2.2.2.2.2.2.1, s.2.2.2.2.2.2.2.2.2.2.1, s.2.2.2.2.2.2.2.2.2.2.2.1, s.2.2.2.2.2.2.2.2.2.2.2.2.1, s.2.2.2.2.2.2.2.2.2.2.2.2.2.1, s.2.2.2.2.2.2.2.2.2.2.2.2.2.2.1, s.2.2.2.2.2.2.2.2.2.2.2.2.2.2.2.1, ())))))
def zBa (s : (Int × Int × List Lk × Int × List Lk × List Bool × List Int × List (List Ls) × List Pk × List Ls × Int × List Lk × List Bool × List Int × List (List Ls) × List Pk × Unit)) : Option ((Int × Int × List Lk × Int × List Lk × List Bool × List Int × List (List Ls) × List Pk × List Ls × Int × List Lk × List Bool × List Int × List (List Ls) × List Pk × Unit) ⊕ ((Int × List Lk × Int × List Lk × List Bool × List Int × List (List Ls) × List Pk × Int × List Lk × List Bool × List Int × List (List Ls) × List Pk × Unit) ⊕ Unit)) := (bif decide ((s.1 < s.2.1)) then (zFQ ((s.2.2.2.2.2.2.2.2.2.1, ()))).bind fun r0 => (bif decide (((List.length s.2.2.2.2.2.2.2.2.2.2.2.2.2.2.1 + List.length ([r0.1])) ≤ (33554432 : Nat))) then some (Sum.inl ((wrap64 ((s.1 + (1 : Int))), s.2.1, s.2.2.1, s.2.2.2.1, s.2.2.2.2.1, s.2.2.2.2.2.1, s.2.2.2.2.2.2.1, s.2.2.2.2.2.2.2.1, s.2.2.2.2.2.2.2.2.1, s.2.2.2.2.2.2.2.2.2.1, s.2.2.2.2.2.2.2.2.2.2.1, s.2.2.2.2.2.2.2.2.2.2.2.1, s.2.2.2.2.2.2.2.2.2.2.2.2.1, s.2.2.2.2.2.2.2.2.2.2.2.2.2.1, (s.2.2.2.2.2.2.2.2.2.2.2.2.2.2.1 ++ [r0.1]), s.2.2.2.2.2.2.2.2.2.2.2.2.2.2.2.1, ()))) else none) else some (Sum.inr (Sum.inl ((s.2.1, s.2.2.1, s.2.2.2.1, s.2.2.2.2.1, s.2.2.2.2.2.1, s.2.2.2.2.2.2.1, s.2.2.2.2.2.2.2.1, s.2.2.2.2.2.2.2.2.1, s.2.2.2.2.2.2.2.2.2.2.1, s.2.2.2.2.2.2.2.2.2.2.2.1, s.2.2.2.2.2.2.2.2.2.2.2.2.1, s.2.2.2.2.2.2.2.2.2.2.2.2.2.1, s.2.2.2.2.2.2.2.2.2.2.2.2.2.2.1, s.2.2.2.2.2.2.2.2.2.2.2.2.2.2.2.1, ())))))
def zBb (s : (Int × Int × List Lk × Int × List Lk × List Bool × List Int × List (List Ls) × List Pk × Int × List Lk × List Bool × List Int × List (List Ls) × List Pk × Unit)) : Option ((Int × Int × List Lk × Int × List Lk × List Bool × List Int × List (List Ls) × List Pk × Int × List Lk × List Bool × List Int × List (List Ls) × List Pk × Unit) ⊕ ((Int × List Lk × List Bool × List Int × List (List Ls) × List Pk × Int × List Lk × List Bool × List Int × List (List Ls) × List Pk × Unit) ⊕ Unit)) := (bif decide ((s.1 < nI (List.length s.2.2.1))) then (bif decide (((List.length s.2.2.2.2.2.2.2.2.2.2.2.1 + List.length ([true])) ≤ (33554432 : Nat))) then some (Sum.inl ((wrap64 ((s.1 + (1 : Int))), s.2.1, s.2.2.1, s.2.2.2.1, s.2.2.2.2.1, s.2.2.2.2.2.1, s.2.2.2.2.2.2.1, s.2.2.2.2.2.2.2.1, s.2.2.2.2.2.2.2.2.1, s.2.2.2.2.2.2.2.2.2.1, s.2.2.2.2.2.2.2.2.2.2.1, (s.2.2.2.2.2.2.2.2.2.2.2.1 ++ [true]), s.2.2.2.2.2.2.2.2.2.2.2.2.1, s.2.2.2.2.2.2.2.2.2.2.2.2.2.1, s.2.2.2.2.2.2.2.2.2.2.2.2.2.2.1, ()))) else none) else some (Sum.inr (Sum.inl ((s.2.2.2.1, s.2.2.2.2.1, s.2.2.2.2.2.1, s.2.2.2.2.2.2.1, s.2.2.2.2.2.2.2.1, s.2.2.2.2.2.2.2.2.1, s.2.2.2.2.2.2.2.2.2.1, s.2.2.2.2.2.2.2.2.2.2.1, s.2.2.2.2.2.2.2.2.2.2.2.1, s.2.2.2.2.2.2.2.2.2.2.2.2.1, s.2.2.2.2.2.2.2.2.2.2.2.2.2.1, s.2.2.2.2.2.2.2.2.2.2.2.2.2.2.1, ())))))
def zFP (s : (Int × List Lk × Unit)) : Option (Int × Bool × List Lk × List Bool × List Int × List (List Ls) × List Pk × Unit) := (zFO ((s.1, (s.2.1, ())))).bind fun r0 => (bif (!r0.1) then some (((0 : Int), false, ([] : List Lk), ([] : List Bool), ([] : List Int), ([] : List (List Ls)), ([] : List Pk), ())) else (zFT ((s.1, (s.2.1, ())))).bind fun r1 => (lp zBc fuel (((0 : Int), (s.1, (s.2.1, ((0 : Int), (([] : List Lk), (([] : List Bool), (([] : List Int), (([] : List (List Ls)), (([] : List Pk), (([] : List Ls), (r1.1, (r1.2.1, (([] : List Bool), (([] : List Int), (([] : List (List Ls)), (([] : List Pk), ())))))))))))))))))).bind fun r2 => (match r2 with | .inl x3 => (lp zBa fuel (((0 : Int), (x3.1, (x3.2.1, (x3.2.2.1, (x3.2.2.2.1, (x3.2.2.2.2.1, (x3.2.2.2.2.2.1, (x3.2.2.2.2.2.2.1, (x3.2.2.2.2.2.2.2.1, (x3.2.2.2.2.2.2.2.2.1, (x3.2.2.2.2.2.2.2.2.2.1, (x3.2.2.2.2.2.2.2.2.2.2.1, (x3.2.2.2.2.2.2.2.2.2.2.2.1, (x3.2.2.2.2.2.2.2.2.2.2.2.2.1, (x3.2.2.2.2.2.2.2.2.2.2.2.2.2.1, (x3.2.2.2.2.2.2.2.2.2.2.2.2.2.2.1, ())))))))))))))))))).bind fun r4 => (match r4 with | .inl x5 => (lp zBb fuel (((0 : Int), (x5.1, (x5.2.1, (x5.2.2.1, (x5.2.2.2.1, (x5.2.2.2.2.1, (x5.2.2.2.2.2.1, (x5.2.2.2.2.2.2.1, (x5.2.2.2.2.2.2.2.1, (x5.2.2.2.2.2.2.2.2.1, (x5.2.2.2.2.2.2.2.2.2.1, (x5.2.2.2.2.2.2.2.2.2.2.1, (x5.2.2.2.2.2.2.2.2.2.2.2.1, (x5.2.2.2.2.2.2.2.2.2.2.2.2.1, (x5.2.2.2.2.2.2.2.2.2.2.2.2.2.1, ()))))))))))))))))).bind fun r6 => (match r6 with | .inl x7 => some ((x7.2.2.2.2.2.2.1, true, x7.2.2.2.2.2.2.2.1, x7.2.2.2.2.2.2.2.2.1, x7.2.2.2.2.2.2.2.2.2.1, x7.2.2.2.2.2.2.2.2.2.2.1, x7.2.2.2.2.2.2.2.2.2.2.2.1, ())) | .inr _ => none) | .inr _ => none) | .inr _ => none))
def zAM (s : (Int × List Lk × Int × List Lk × List Bool × List Int × List (List Ls) × List Pk × Unit)) : Option ((Int × List Lk × Int × List Lk × List Bool × List Int × List (List Ls) × List Pk × Int × List Lk × List Bool × List Int × List (List Ls) × List Pk × Unit) ⊕ Unit) := (zE5 ((s.1, (s.2.1, ())))).bind fun r0 => (zFL (([true], (nI (List.length s.2.1), ())))).bind fun r1 => (zFM (([(1 : Int)], (s.1, ())))).bind fun r2 => some (Sum.inl ((s.1, s.2.1, s.2.2.1, s.2.2.2.1, s.2.2.2.2.1, s.2.2.2.2.2.1, s.2.2.2.2.2.2.1, s.2.2.2.2.2.2.2.1, r0.1, r0.2.1, r1.1, r2.1, ([] : List (List Ls)), ([] : List Pk), ())))
def zAO (s : (Int × Int × Int × Int × Int × List Lk × Int × List Lk × List Bool × List Int × List (List Ls) × List Pk × Int × List Ls × List Lk × List Bool × List Int × List (List Ls) × List Pk × Unit)) : Option ((Int × Int × Int × Int × Int × List Lk × Int × List Lk × List Bool × List Int × List (List Ls) × List Pk × Int × List Ls × List Lk × List Bool × List Int × List (List Ls) × List Pk × Unit) ⊕ ((Int × Int × Int × List Lk × Int × List Lk × List Bool × List Int × List (List Ls) × List Pk × Int × List Ls × List Lk × List Bool × List Int × List (List Ls) × List Pk × Unit) ⊕ Unit)) := (bif decide ((s.2.2.2.1 < s.2.2.1)) then (zE8 ((s.2.2.2.2.1, (s.2.2.2.2.2.1, (s.2.2.2.1, ((1 : Int), ())))))).bind fun r0 => (bif decide (((List.length s.2.2.2.2.2.2.2.2.2.2.2.2.2.1 + List.length ([(Ls.mk r0.1 r0.2.1 r0.2.2.1)])) ≤ (33554432 : Nat))) then some (Sum.inl ((s.1, s.2.1, s.2.2.1, wrap64 ((s.2.2.2.1 + (1 : Int))), s.2.2.2.2.1, s.2.2.2.2.2.1, s.2.2.2.2.2.2.1, s.2.2.2.2.2.2.2.1, s.2.2.2.2.2.2.2.2.1, s.2.2.2.2.2.2.2.2.2.1, s.2.2.2.2.2.2.2.2.2.2.1, s.2.2.2.2.2.2.2.2.2.2.2.1, s.2.2.2.2.2.2.2.2.2.2.2.2.1, (s.2.2.2.2.2.2.2.2.2.2.2.2.2.1 ++ [(Ls.mk r0.1 r0.2.1 r0.2.2.1)]), s.2.2.2.2.2.2.2.2.2.2.2.2.2.2.1, s.2.2.2.2.2.2.2.2.2.2.2.2.2.2.2.1, s.2.2.2.2.2.2.2.2.2.2.2.2.2.2.2.2.1, s.2.2.2.2.2.2.2.2.2.2.2.2.2.2.2.2.2.1, s.2.2.2.2.2.2.2.2.2.2.2.2.2.2.2.2.2.2.1, ()))) else none) else some (Sum.inr (Sum.inl ((s.1, s.2.1, s.2.2.2.2.1, s.2.2.2.2.2.1, s.2.2.2.2.2.2.1, s.2.2.2.2.2.2.2.1, s.2.2.2.2.2.2.2.2.1, s.2.2.2.2.2.2.2.2.2.1, s.2.2.2.2.2.2.2.2.2.2.1, s.2.2.2.2.2.2.2.2.2.2.2.1, s.2.2.2.2.2.2.2.2.2.2.2.2.1, s.2.2.2.2.2.2.2.2.2.2.2.2.2.1, s.2.2.2.2.2.2.2.2.2.2.2.2.2.2.1, s.2.2.2.2.2.2.2.2.2.2.2.2.2.2.2.1, s.2.2.2.2.2.2.2.2.2.2.2.2.2.2.2.2.1, s.2.2.2.2.2.2.2.2.2.2.2.2.2.2.2.2.2.1, s.2.2.2.2.2.2.2.2.2.2.2.2.2.2.2.2.2.2.1, ())))))
def zAN (s : (Int × Int × Int × List Lk × Int × List Lk × List Bool × List Int × List (List Ls) × List Pk × Int × List Lk × List Bool × List Int × List (List Ls) × List Pk × Unit)) : Option ((Int × Int × Int × List Lk × Int × List Lk × List Bool × List Int × List (List Ls) × List Pk × Int × List Lk × List Bool × List Int × List (List Ls) × List Pk × Unit) ⊕ ((Int × List Lk × List Bool × List Int × List (List Ls) × List Pk × Int × List Lk × List Bool × List Int × List (List Ls) × List Pk × Unit) ⊕ Unit)) := (bif decide ((s.2.1 < s.1)) then (lp zAO fuel ((s.1, (s.2.1, (s.2.2.1, ((0 : Int), (s.2.2.1, (s.2.2.2.1, (s.2.2.2.2.1, (s.2.2.2.2.2.1, (s.2.2.2.2.2.2.1, (s.2.2.2.2.2.2.2.1, (s.2.2.2.2.2.2.2.2.1, (s.2.2.2.2.2.2.2.2.2.1, (s.2.2.2.2.2.2.2.2.2.2.1, (([] : List Ls), (s.2.2.2.2.2.2.2.2.2.2.2.1, (s.2.2.2.2.2.2.2.2.2.2.2.2.1, (s.2.2.2.2.2.2.2.2.2.2.2.2.2.1, (s.2.2.2.2.2.2.2.2.2.2.2.2.2.2.1, (s.2.2.2.2.2.2.2.2.2.2.2.2.2.2.2.1, ()))))))))))))))))))))).bind fun r0 => (match r0 with | .inl x1 => (bif decide (((List.length x1.2.2.2.2.2.2.2.2.2.2.2.2.2.2.2.1 + List.length ([x1.2.2.2.2.2.2.2.2.2.2.2.1])) ≤ (33554432 : Nat))) then some (Sum.inl ((x1.1, wrap64 ((x1.2.1 + (1 : Int))), x1.2.2.1, x1.2.2.2.1, x1.2.2.2.2.1, x1.2.2.2.2.2.1, x1.2.2.2.2.2.2.1, x1.2.2.2.2.2.2.2.1, x1.2.2.2.2.2.2.2.2.1, x1.2.2.2.2.2.2.2.2.2.1, x1.2.2.2.2.2.2.2.2.2.2.1, x1.2.2.2.2.2.2.2.2.2.2.2.2.1, x1.2.2.2.2.2.2.2.2.2.2.2.2.2.1, x1.2.2.2.2.2.2.2.2.2.2.2.2.2.2.1, (x1.2.2.2.2.2.2.2.2.2.2.2.2.2.2.2.1 ++ [x1.2.2.2.2.2.2.2.2.2.2.2.1]), x1.2.2.2.2.2.2.2.2.2.2.2.2.2.2.2.2.1, ()))) else none) | .inr _ => none) else some (Sum.inr (Sum.inl ((s.2.2.2.2.1, s.2.2.2.2.2.1, s.2.2.2.2.2.2.1, s.2.2.2.2.2.2.2.1, s.2.2.2.2.2.2.2.2.1, s.2.2.2.2.2.2.2.2.2.1, s.2.2.2.2.2.2.2.2.2.2.1, s.2.2.2.2.2.2.2.2.2.2.2.1, s.2.2.2.2.2.2.2.2.2.2.2.2.1, s.2.2.2.2.2.2.2.2.2.2.2.2.2.1, s.2.2.2.2.2.2.2.2.2.2.2.2.2.2.1, s.2.2.2.2.2.2.2.2.2.2.2.2.2.2.2.1, ())))))
def zFb (s : (Int × List Lk × Unit)) : Option (Int × Bool × List Lk × List Bool × List Int × List (List Ls) × List Pk × Unit) := (zE4 ((s.1, (s.2.1, ())))).bind fun r0 => (bif (!r0.1) then some (((0 : Int), false, ([] : List Lk), ([] : List Bool), ([] : List Int), ([] : List (List Ls)), ([] : List Pk), ())) else (zAM ((s.1, (s.2.1, ((0 : Int), (([] : List Lk), (([] : List Bool), (([] : List Int), (([] : List (List Ls)), (([] : List Pk), ())))))))))).bind fun r1 => (match r1 with | .inl x2 => (lp zAN fuel ((x2.1, ((0 : Int), (x2.1, (x2.2.1, (x2.2.2.1, (x2.2.2.2.1, (x2.2.2.2.2.1, (x2.2.2.2.2.2.1, (x2.2.2.2.2.2.2.1, (x2.2.2.2.2.2.2.2.1, (x2.2.2.2.2.2.2.2.2.1, (x2.2.2.2.2.2.2.2.2.2.1, (x2.2.2.2.2.2.2.2.2.2.2.1, (x2.2.2.2.2.2.2.2.2.2.2.2.1, (x2.2.2.2.2.2.2.2.2.2.2.2.2.1, (x2.2.2.2.2.2.2.2.2.2.2.2.2.2.1, ())))))))))))))))))).bind fun r3 => (match r3 with | .inl x4 => some ((x4.2.2.2.2.2.2.1, true, x4.2.2.2.2.2.2.2.1, x4.2.2.2.2.2.2.2.2.1, x4.2.2.2.2.2.2.2.2.2.1, x4.2.2.2.2.2.2.2.2.2.2.1, x4.2.2.2.2.2.2.2.2.2.2.2.1, ())) | .inr _ => none) | .inr _ => none))
end Go.Proofs.Ytknkhdjhongklaa
end
section
namespace Go.Proofs.Ytknkhdjhongklaa
open Go.RowKit
set_option linter.unusedSimpArgs false
set_option linter.unusedVariables false
set_option maxRecDepth 100000

instance : DecidableEq En := fun a b => decidable_of_iff (a.n = b.n ∧ a.c = b.c) ⟨fun ⟨h1, h2⟩ => by cases a; cases b; simp_all, fun h => by subst h; exact ⟨rfl, rfl⟩⟩
instance : DecidableEq Ls := fun a b => decidable_of_iff (a.o = b.o ∧ a.s = b.s ∧ a.e = b.e) ⟨fun ⟨h1, h2, h3⟩ => by cases a; cases b; simp_all, fun h => by subst h; exact ⟨rfl, rfl, rfl⟩⟩
abbrev Sm {α : Type} (l : List α) : Prop := l.length ≤ 16000000
def SmD (db : List Ls) : Prop := Sm db ∧ ∀ l ∈ db, Sm l.e
theorem lsa_mem {db : List Ls} {k : Nat} (h : k < db.length) : lsa db k ∈ db := by rw [lsa_get h]; exact List.getElem_mem h
theorem take_lsa {db : List Ls} {k : Nat} (h : k < db.length) : db.take k ++ [⟨(lsa db k).o, (lsa db k).s, (lsa db k).e⟩] = db.take (k + 1) := by
  rw [List.take_add_one, List.getElem?_eq_getElem h, lsa_get h]; rfl
theorem zBP (o s : Int) (es : List En) (h : Sm es) : zFS (o, s, es, ()) = some (o, s, es, ()) := by
  unfold zFS
  rw [decide_eq_true (by unfold Sm at h; simp; omega)]
  rfl
theorem zBN (db : List Ls) (h : SmD db) : zFQ (db, ()) = some (db, ()) := by
  have h1 := h.1
  unfold Sm at h1
  unfold zFQ
  refine Sat.out (Sat.bnd (R := fun r => match r with | .inl x => x = (db, ()) | .inr _ => False) ?_ ?_)
  · refine Sat.count db.length (fun k t => t = (db, (k : Int), db.take k, ())) ?_ (Nat.zero_le _) (fuel_lt (by omega)) (by simp [nI_eq])
    rintro k t hk rfl
    by_cases hlt : k < db.length
    · simp (disch := omega) only [zBd, at_ls, toN, w64, nI_eq, zBP _ _ _ (h.2 _ (lsa_mem hlt)), Option.bind_some]
      refine Sat.gd (decide_eq_true (by omega)) (Sat.gd (inR_t (by omega) (by omega)) (Sat.gd (decide_eq_true (by simp; omega)) (.some ⟨hlt, ?_⟩)))
      rw [take_lsa hlt]
      rfl
    · obtain rfl : k = db.length := by omega
      unfold zBd
      simp only [nI_eq, decide_eq_false (show ¬ (db.length : Int) < db.length by omega), cond_false, List.take_length]
      exact .some rfl
  · rintro (r | r) hr
    case inr => exact hr.elim
    obtain rfl := hr
    exact .some rfl
theorem SmD.put {db : List Ls} (h : SmD db) {l : Ls} (hl : Sm l.e) (hs : db.length ≤ 1000000) : SmD (putD db l) ∧ (putD db l).length ≤ db.length + 1 := by
  have hlen : (putL db l).length ≤ db.length + 1 := by
    unfold putL
    have h1 : ∀ ds : List Ls, (ds.filter fun x => decide (x.o < l.o)).length + (ds.filter fun x => decide (l.o < x.o)).length ≤ ds.length := fun ds => by
      induction ds with
      | nil => simp
      | cons x r ih =>
        simp only [List.filter_cons]
        by_cases a : x.o < l.o
        · have b : ¬ l.o < x.o := by omega
          simp [a, b]; omega
        · by_cases b : l.o < x.o
          · simp [a, b]; omega
          · simp [a, b]; omega
    have := h1 db
    simp only [List.length_append, List.length_cons]
    omega
  unfold putD
  split
  · refine ⟨⟨by unfold Sm; omega, fun x hx => ?_⟩, hlen⟩
    rcases putL_mem.1 hx with rfl | ⟨hx, _⟩
    · exact hl
    · exact h.2 x hx
  · exact ⟨h, by omega⟩
end Go.Proofs.Ytknkhdjhongklaa
end
section
namespace Go.Proofs.Ytknkhdjhongklaa
open Go.RowKit
set_option linter.unusedSimpArgs false
set_option linter.unusedVariables false

def sy (f : Nat → Int) (e : Nat × Nat) : Nat → Int := fun n => if n = e.1 ∨ n = e.2 then max (f e.1) (f e.2) else f n
def Jn (ls : List Lk) (u v : Nat) : Prop := ∃ k s, Wk ls u k v s
theorem Jn.refl (ls : List Lk) (u : Nat) : Jn ls u u := ⟨0, 0, .nil⟩
theorem Jn.symm {ls : List Lk} {u v : Nat} (h : Jn ls u v) : Jn ls v u := by
  obtain ⟨k, s, w⟩ := h
  exact ⟨k, s, w.symm⟩
theorem Jn.trans {ls : List Lk} {u v x : Nat} (h : Jn ls u v) (h' : Jn ls v x) : Jn ls u x := by
  obtain ⟨k, s, w⟩ := h
  obtain ⟨k', s', w'⟩ := h'
  exact ⟨_, _, w.append w'⟩
section
variable {N : Nat} {ls : List Lk}
end
end Go.Proofs.Ytknkhdjhongklaa
end
section
namespace Go.Proofs.Ytknkhdjhongklaa
open Go.RowKit
set_option linter.unusedSimpArgs false
set_option linter.unusedVariables false

structure Know (D : Nat → List Ls) : Prop where
  srt : ∀ n, SrtP (D n)
  pos : ∀ n, ∀ l ∈ D n, 0 ≤ l.s
  agr : ∀ m n, Agree (D m) (D n)
def syD (D : Nat → List Ls) (e : Nat × Nat) : Nat → List Ls := fun n => if n = e.1 ∨ n = e.2 then mergeD (D e.1) (D e.2) else D n
theorem syD_mem {D : Nat → List Ls} {e : Nat × Nat} {n : Nat} {x : Ls} (h : x ∈ syD D e n) : ∃ m, x ∈ D m := by
  unfold syD at h
  split at h
  · rcases merge_mem h with h | h
    · exact ⟨_, h⟩
    · exact ⟨_, h⟩
  · exact ⟨n, h⟩
theorem Know.sy {D : Nat → List Ls} (K : Know D) (e : Nat × Nat) : Know (syD D e) := by
  refine ⟨fun n => ?_, fun n l hl => ?_, fun m n x hx y hy => ?_⟩
  · unfold syD
    split
    · exact mergeD_srt (K.srt _) _
    · exact K.srt n
  · obtain ⟨m, hm⟩ := syD_mem hl
    exact K.pos m l hm
  · obtain ⟨i, hi⟩ := syD_mem hx
    obtain ⟨j, hj⟩ := syD_mem hy
    exact K.agr i j x hi y hj
theorem Know.seq {D : Nat → List Ls} (K : Know D) (e : Nat × Nat) (o : Int) (n : Nat) : seqD (syD D e n) o = Go.Proofs.Ytknkhdjhongklaa.sy (fun n => seqD (D n) o) e n := by
  unfold syD Go.Proofs.Ytknkhdjhongklaa.sy
  split
  · exact seq_merge (K.srt _) (K.srt _) (K.pos _) (K.pos _) o
  · rfl
section
variable {N : Nat} {ls : List Lk} {D : Nat → List Ls}
end
end Go.Proofs.Ytknkhdjhongklaa
end
section
namespace Go.Proofs.Ytknkhdjhongklaa
open Go.RowKit
set_option linter.unusedSimpArgs false
set_option linter.unusedVariables false

structure Wd where
  n : Int
  ls : List Lk
  up : List Bool
  sq : List Int
  db : List (List Ls)
  net : List Pk
def dbx (db : List (List Ls)) (i : Nat) : List Ls := db.getD i []
def trK (ls : List Lk) (up : List Bool) (k : Nat) : List Lk := ((List.range k).filter fun i => up.getD i false).map (lk ls)
def tru (ls : List Lk) (up : List Bool) : List Lk := trK ls up ls.length
def Poss (w : Wd) (A : Int → Prop) (l : Ls) : Prop := LsV l ∧ l.o < w.n ∧ l.s ≤ iz w.sq l.o.toNat ∧ (∀ e ∈ l.e, lc w.ls l.o e.n = some e.c) ∧ (l.s < iz w.sq l.o.toNat ∨ l.e = endsOf (tru w.ls w.up) w.n.toNat l.o ∨ A l.o)
def Said (w : Wd) (l : Ls) : Prop := (∃ i, i < w.db.length ∧ l ∈ dbx w.db i) ∨ ∃ p ∈ w.net, l = p.p
structure WV (w : Wd) (A : Int → Prop) : Prop where
  g : GV w.n w.ls
  up : w.up.length = w.ls.length
  sq : (w.sq.length : Int) = w.n
  db : (w.db.length : Int) = w.n
  net : w.net.length ≤ 16
  rng : ∀ i, i < w.sq.length → 1 ≤ iz w.sq i ∧ iz w.sq i ≤ 99
  ok : ∀ i, i < w.db.length → DbV (dbx w.db i)
  own : ∀ i, i < w.db.length → ∃ l ∈ dbx w.db i, l.o = i ∧ l.s = iz w.sq i
  poss : ∀ l, Said w l → Poss w A l
  agr : ∀ x y, Said w x → Said w y → x.o = y.o → x.s = y.s → x = y
  tgt : ∀ p ∈ w.net, 0 ≤ p.t ∧ p.t < w.n
end Go.Proofs.Ytknkhdjhongklaa
end
section
namespace Go.Proofs.Ytknkhdjhongklaa
open Go.RowKit
set_option linter.unusedSimpArgs false
set_option linter.unusedVariables false
set_option maxRecDepth 100000

section
variable {N : Nat} {ls : List Lk} {node : Int} {ends : List En}
theorem en_map {l : List Int} {f : Int → En} {i : Nat} (h : i < l.length) : en (l.map f) i = f (iz l i) := by simp [en, iz, h]
theorem pw_iz {l : List Int} (h : l.Pairwise (· < ·)) {i j : Nat} (hij : i < j) (hj : j < l.length) : iz l i < iz l j := by
  have := List.pairwise_iff_getElem.1 h i j (by omega) hj hij
  simpa [iz, hj, show i < l.length by omega] using this
theorem endsOf_ok (g : GV N ls) {n : Nat} (hn : n < N) : LsV ⟨n, 1, endsOf ls N n⟩ := by
  have h8 := g.2.1
  refine ⟨by dsimp only; omega, by dsimp only; omega, by dsimp only; omega, by dsimp only; omega, fun i hi => ?_⟩
  dsimp only at hi ⊢
  have hi' : i < (nbS ls n N).length := by unfold endsOf at hi; simpa using hi
  have hm : iz (nbS ls n N) i ∈ nbS ls n N := List.mem_of_getElem? (iz_get hi')
  obtain ⟨j, hj, e, hs⟩ := nbS_mem.1 hm
  obtain ⟨c, hc⟩ := Option.isSome_iff_exists.1 hs
  have hcc := lc_cost g hc
  have hne := (lc_none_out g hs).2.2.2.2
  unfold EnAt endsOf
  rw [en_map hi', e, hc]
  refine ⟨by dsimp only; omega, by dsimp only; omega, by dsimp only; omega, hcc.1, hcc.2, fun h0 => ?_⟩
  rw [en_map (show i - 1 < (nbS ls n N).length by omega)]
  have := pw_iz (nbS_asc ls n N) (show i - 1 < i by omega) hi'
  dsimp only
  omega
end
section
variable {ls : List Lk} {ends : List En}
end
end Go.Proofs.Ytknkhdjhongklaa
end
section
namespace Go.Proofs.Ytknkhdjhongklaa
open Go.RowKit
set_option linter.unusedSimpArgs false
set_option linter.unusedVariables false

theorem endsOf_mem {ls : List Lk} {N : Nat} {o : Int} {e : En} (h : e ∈ endsOf ls N o) : lc ls o e.n = some e.c := by
  unfold endsOf at h
  obtain ⟨x, hx, rfl⟩ := List.mem_map.1 h
  obtain ⟨j, _, rfl, hs⟩ := nbS_mem.1 hx
  obtain ⟨c, hc⟩ := Option.isSome_iff_exists.1 hs
  dsimp only
  rw [hc]; rfl
end Go.Proofs.Ytknkhdjhongklaa
end
section
namespace Go.Proofs.Ytknkhdjhongklaa
open Go.RowKit
set_option linter.unusedSimpArgs false
set_option linter.unusedVariables false

abbrev Nob : Int → Prop := fun _ => False
theorem WV.mono {w : Wd} {A B : Int → Prop} (h : WV w A) (k : ∀ o, A o → B o) : WV w B :=
  ⟨h.g, h.up, h.sq, h.db, h.net, h.rng, h.ok, h.own, fun l hl => by
    obtain ⟨p1, p2, p3, p4, p5⟩ := h.poss l hl
    exact ⟨p1, p2, p3, p4, p5.imp id fun q => q.imp id (k _)⟩, h.agr, h.tgt⟩
section
variable {w : Wd}
theorem DbV.pos {db : List Ls} (h : DbV db) : ∀ l ∈ db, 0 ≤ l.s := fun l hl => by
  have := ((dbV_iff.1 h).1 l hl).2.2.1
  omega
end
end Go.Proofs.Ytknkhdjhongklaa
end
section
namespace Go.Proofs.Ytknkhdjhongklaa
open Go.RowKit
set_option linter.unusedSimpArgs false
set_option linter.unusedVariables false

def newW (n : Int) (ls : List Lk) : Wd := ⟨n, ls, List.replicate ls.length true, List.replicate n.toNat 1, List.replicate n.toNat ((List.range n.toNat).map fun i : Nat => (⟨i, 1, endsOf ls n.toNat i⟩ : Ls)), []⟩
theorem tru_all (ls : List Lk) : tru ls (List.replicate ls.length true) = ls := by
  unfold tru trK
  have : (List.range ls.length).filter (fun i => (List.replicate ls.length true).getD i false) = List.range ls.length := by
    rw [List.filter_eq_self]
    intro i hi
    have := List.mem_range.1 hi
    simp [List.getD, this]
  rw [this]
  refine List.ext_getElem (by simp) fun i h1 h2 => ?_
  rw [List.getElem_map, List.getElem_range, hit_lk h2]
theorem new_ok {N : Nat} {ls : List Lk} (g : GV N ls) : WV (newW N ls) Nob := by
  have hr : ∀ i, i < N → iz (List.replicate N (1 : Int)) i = 1 := fun i hi => by simp [iz, List.getD, hi]
  have hd : ∀ i, i < N → dbx (newW N ls).db i = (List.range N).map fun i : Nat => (⟨i, 1, endsOf ls N i⟩ : Ls) := fun i hi => by
    show dbx (List.replicate (N : Int).toNat _) i = _
    rw [Int.toNat_natCast]
    simp [dbx, List.getD, hi]
  have hm : ∀ i, i < N → ∀ l, l ∈ dbx (newW N ls).db i ↔ ∃ j, j < N ∧ l = ⟨j, 1, endsOf ls N j⟩ := fun i hi l => by
    rw [hd i hi, List.mem_map]
    constructor
    · rintro ⟨j, hj, rfl⟩; exact ⟨j, List.mem_range.1 hj, rfl⟩
    · rintro ⟨j, hj, rfl⟩; exact ⟨j, List.mem_range.2 hj, rfl⟩
  have hlen : (newW N ls).db.length = N := by simp [newW]
  have said : ∀ l, Said (newW N ls) l → ∃ j, j < N ∧ l = ⟨j, 1, endsOf ls N j⟩ := fun l hl => by
    rcases hl with ⟨i, hi, hl⟩ | ⟨p, hp, _⟩
    · rw [hlen] at hi
      exact (hm i hi l).1 hl
    · simp [newW] at hp
  have h1 := g.1
  refine ⟨g, by simp [newW], by simp [newW], by simp [newW], by simp [newW], fun i hi => ?_, fun i hi => ?_, fun i hi => ?_, fun l hl => ?_, fun x y hx hy e1 e2 => ?_, fun p hp => by simp [newW] at hp⟩
  · have hi : i < N := by simpa [newW] using hi
    show 1 ≤ iz (List.replicate (N : Int).toNat 1) i ∧ iz (List.replicate (N : Int).toNat 1) i ≤ 99
    rw [Int.toNat_natCast, hr i hi]
    omega
  · rw [hlen] at hi
    rw [hd i hi]
    refine dbV_iff.2 ⟨fun l hl => ?_, ?_⟩
    · obtain ⟨j, hj, rfl⟩ := List.mem_map.1 hl
      exact endsOf_ok g (List.mem_range.1 hj)
    · unfold SrtP
      rw [List.pairwise_map]
      refine List.Pairwise.imp ?_ (List.pairwise_lt_range (n := N))
      intro a b hab
      show (a : Int) < b
      omega
  · rw [hlen] at hi
    refine ⟨⟨i, 1, endsOf ls N i⟩, (hm i hi _).2 ⟨i, hi, rfl⟩, rfl, ?_⟩
    show 1 = iz (List.replicate (N : Int).toNat 1) i
    rw [Int.toNat_natCast, hr i hi]
  · obtain ⟨j, hj, rfl⟩ := said l hl
    have hs : iz (newW N ls).sq ((j : Nat) : Int).toNat = 1 := by
      show iz (List.replicate (N : Int).toNat 1) ((j : Nat) : Int).toNat = 1
      rw [Int.toNat_natCast, Int.toNat_natCast, hr j hj]
    refine ⟨endsOf_ok g hj, ?_, ?_, fun e he => endsOf_mem he, .inr (.inl ?_)⟩
    · show (j : Int) < N; omega
    · rw [hs]; exact Int.le_refl _
    · show endsOf ls N j = endsOf (tru ls (List.replicate ls.length true)) (N : Int).toNat j
      rw [tru_all, Int.toNat_natCast]
  · obtain ⟨i, _, rfl⟩ := said x hx
    obtain ⟨j, _, rfl⟩ := said y hy
    dsimp only at e1
    obtain rfl : i = j := by omega
    rfl
end Go.Proofs.Ytknkhdjhongklaa
end
section
namespace Go.Proofs.Ytknkhdjhongklaa
open Go.RowKit
set_option linter.unusedSimpArgs false
set_option linter.unusedVariables false

def pkx (net : List Pk) (i : Nat) : Pk := net.getD i ⟨0, ⟨0, 0, []⟩⟩
end Go.Proofs.Ytknkhdjhongklaa
end
section
namespace Go.Proofs.Ytknkhdjhongklaa
open Go.RowKit
set_option linter.unusedSimpArgs false
set_option linter.unusedVariables false

theorem Wd.same {a b : Wd} (h1 : a.n = b.n) (h2 : a.ls = b.ls) (h3 : a.up = b.up) (h4 : a.sq = b.sq) (h5 : a.db = b.db) (h6 : a.net = b.net) : a = b := by
  cases a; cases b; dsimp only at h1 h2 h3 h4 h5 h6; subst h1 h2 h3 h4 h5 h6; rfl
section
variable {w : Wd} {N : Nat}
end
end Go.Proofs.Ytknkhdjhongklaa
end
section
namespace Go.Proofs.Ytknkhdjhongklaa
open Go.RowKit
set_option linter.unusedSimpArgs false
set_option linter.unusedVariables false
set_option maxRecDepth 100000

theorem take_lk {ls : List Lk} {k : Nat} (h : k < ls.length) : ls.take k ++ [lk ls k] = ls.take (k + 1) := by
  rw [List.take_add_one, List.getElem?_eq_getElem h, hit_lk h]; rfl
theorem zBM (n : Int) (ls : List Lk) (hl : ls.length ≤ 2000000) : zE5 (n, ls, ()) = some (n, ls, ()) := by
  unfold zE5
  refine Sat.out (Sat.bnd (R := fun r => match r with | .inl x => x = (0, n, [], ls, ()) | .inr _ => False) ?_ ?_)
  · refine Sat.count ls.length (fun k t => t = (ls, (ls.length : Int), (k : Int), 0, n, [], ls.take k, ())) ?_ (Nat.zero_le _) (fuel_lt (by omega)) (by simp [nI_eq])
    rintro k t hk rfl
    simp (disch := omega) only [zAJ, zFc, at_lk, toN, w64, nI_eq, Option.bind_some]
    by_cases hlt : k < ls.length
    · refine Sat.gd (decide_eq_true (by omega)) (Sat.gd (inR_t (by omega) (by omega)) (Sat.ite (fun _ => Sat.gd (decide_eq_true (by simp only [List.length_take, List.length_singleton]; omega)) (.some ⟨hlt, ?_⟩)) (fun hh => by cases hh)))
      rw [← take_lk hlt]; rfl
    · obtain rfl : k = ls.length := by omega
      rw [List.take_length]
      exact Sat.no (decide_eq_false (by omega)) (.some rfl)
  · rintro (r | r) hr
    case inr => exact hr.elim
    obtain rfl := hr
    exact .some rfl
theorem DbV.len {db : List Ls} (h : DbV db) : db.length ≤ 8 := by
  have key : ∀ i, i < db.length → (i : Int) ≤ (lsa db i).o := fun i => by
    induction i with
    | zero => intro hi; exact (h 0 hi).1.1
    | succ i ih =>
      intro hi
      have h1 := ih (by omega)
      have h2 := (h (i + 1) hi).2 (by omega)
      rw [Nat.add_sub_cancel] at h2
      omega
  rcases Nat.lt_or_ge 8 db.length with h8 | h8
  · have h1 := key 8 h8
    have h2 := (h 8 h8).1.2.1
    omega
  · exact h8
theorem LsV.len {l : Ls} (h : LsV l) : l.e.length ≤ 8 := by
  have key : ∀ i, i < l.e.length → (i : Int) ≤ (en l.e i).n := fun i => by
    induction i with
    | zero => intro hi; exact (h.2.2.2.2 0 hi).1
    | succ i ih =>
      intro hi
      have h1 := ih (by omega)
      have h2 := (h.2.2.2.2 (i + 1) hi).2.2.2.2.2 (by omega)
      rw [Nat.add_sub_cancel] at h2
      omega
  rcases Nat.lt_or_ge 8 l.e.length with h8 | h8
  · have h1 := key 8 h8
    have h2 := (h.2.2.2.2 8 h8).2.1
    omega
  · exact h8
theorem WV.nn {w : Wd} {A : Int → Prop} (h : WV w A) : 1 ≤ w.n ∧ w.n ≤ 8 := ⟨h.g.1, h.g.2.1⟩
theorem WV.lsl {w : Wd} {A : Int → Prop} (h : WV w A) : w.ls.length ≤ 14 := h.g.2.2.1
end Go.Proofs.Ytknkhdjhongklaa
end
section
namespace Go.Proofs.Ytknkhdjhongklaa
open Go.RowKit
set_option linter.unusedSimpArgs false
set_option linter.unusedVariables false
set_option maxRecDepth 100000

theorem sov {α β : Type} {o : Option α} {f : α → Option β} {r : α} {Q : β → Prop} (h : o = some r) (k : Sat (f r) Q) : Sat (o.bind f) Q := by subst h; exact k
section
variable {w : Wd} {A : Int → Prop}
structure SmW (w : Wd) : Prop where
  ls : w.ls.length ≤ 2000000
  up : w.up.length ≤ 2000000
  sq : w.sq.length ≤ 2000000
  db : w.db.length ≤ 2000000
  net : w.net.length ≤ 2000000
  dbs : ∀ i, i < w.db.length → SmD (dbx w.db i)
  pks : ∀ i, i < w.net.length → Sm (pkx w.net i).p.e
theorem zBQ (n : Int) (ls : List Lk) (hl : ls.length ≤ 2000000) : zFT (n, ls, ()) = some (n, ls, ()) := by
  unfold zFT
  exact Sat.out (Sat.gd (decide_eq_true (by simp only [List.length_nil]; omega)) (.some rfl))
end
end Go.Proofs.Ytknkhdjhongklaa
end
section
namespace Go.Proofs.Ytknkhdjhongklaa
open Go.RowKit
set_option linter.unusedSimpArgs false
set_option linter.unusedVariables false
set_option maxRecDepth 100000

noncomputable def poss (w : Wd) (l : Ls) : Bool := @decide (Poss w Nob l) (Classical.propDecidable _)
section
variable {w : Wd}
end
end Go.Proofs.Ytknkhdjhongklaa
end
section
namespace Go.Proofs.Ytknkhdjhongklaa
open Go.RowKit
set_option linter.unusedSimpArgs false
set_option linter.unusedVariables false
set_option maxRecDepth 100000

def allW (w : Wd) : List Ls := w.db.flatten ++ w.net.map (·.p)
theorem dbx_mem {db : List (List Ls)} {i : Nat} (h : i < db.length) : dbx db i ∈ db := by
  unfold dbx; rw [List.getD, List.getElem?_eq_getElem h]; exact List.getElem_mem h
theorem said_iff {w : Wd} {l : Ls} : Said w l ↔ l ∈ allW w := by
  unfold Said allW
  rw [List.mem_append, List.mem_flatten, List.mem_map]
  constructor
  · rintro (⟨i, hi, h⟩ | ⟨p, hp, rfl⟩)
    · exact .inl ⟨_, dbx_mem hi, h⟩
    · exact .inr ⟨p, hp, rfl⟩
  · rintro (⟨d, hd, h⟩ | ⟨p, hp, rfl⟩)
    · obtain ⟨i, hi, rfl⟩ := List.getElem_of_mem hd
      refine .inl ⟨i, hi, ?_⟩
      unfold dbx; rw [List.getD, List.getElem?_eq_getElem hi]; exact h
    · exact .inr ⟨p, hp, rfl⟩
def NdW (w : Wd) (i : Nat) : Prop := (1 ≤ iz w.sq i ∧ iz w.sq i ≤ 99) ∧ DbV (dbx w.db i)
def AgW (xs : List Ls) (i : Nat) : Prop := ∀ j, j < i → (lsa xs j).o = (lsa xs i).o → (lsa xs j).s = (lsa xs i).s → lsa xs j = lsa xs i
section
variable {w : Wd}
theorem WV.ag (h : WV w Nob) {i : Nat} (hi : i < (allW w).length) : AgW (allW w) i := fun j hj e1 e2 => h.agr _ _ (said_iff.2 (lsa_mem (by omega))) (said_iff.2 (lsa_mem hi)) e1 e2
end
end Go.Proofs.Ytknkhdjhongklaa
end
section
namespace Go.Proofs.Ytknkhdjhongklaa
open Go.RowKit
set_option linter.unusedSimpArgs false
set_option linter.unusedVariables false
set_option maxRecDepth 100000

section
variable {w : Wd}
structure Shp (w : Wd) : Prop where
  g : GV w.n w.ls
  up : w.up.length = w.ls.length
  sq : (w.sq.length : Int) = w.n
  db : (w.db.length : Int) = w.n
  net : w.net.length ≤ 16
  nd : ∀ i, i < w.db.length → NdW w i
end
end Go.Proofs.Ytknkhdjhongklaa
end
section
namespace Go.Proofs.Ytknkhdjhongklaa
open Go.RowKit
set_option linter.unusedSimpArgs false
set_option linter.unusedVariables false
set_option maxRecDepth 100000

def FD (db : List Ls) : Prop := Fits db ∧ ∀ l ∈ db, Fits l.e
theorem zBi (xs : List Bool) (h : Fits xs) : zFe (xs, xs, ()) = some (true, ()) := by
  unfold zFe
  unfold Fits at h
  simp only [nI_eq]
  refine Sat.out (Sat.no (by simp) (sv (eq_gen xs h (fun k x hx => ?_) ?_) (.some rfl)))
  · have hk := lt_of hx
    simp (disch := omega) only [zAP, at_of (τ := .bool) hx, toN, w64, nI_eq, Option.bind_some, decide_true, Bool.not_true, cond_false, beq_self_eq_true]
    exact Sat.out (Sat.gd (decide_eq_true (by omega)) (Sat.gd (inR_t (by omega) (by omega)) (Sat.gd (inR_t (by omega) (by omega)) (.some rfl))))
  · simp only [zAP, nI_eq]
    exact Sat.out (Sat.no (decide_eq_false (by omega)) (.some rfl))
theorem zBn (o s : Int) (es : List En) (h : Fits es) : zFl (o, s, es, o, s, es, ()) = some (true, ()) := by
  unfold zFl
  exact Sat.out (Sat.no (by simp) (Sat.no (by simp) (sv (zBj es h) (Sat.no rfl (.some rfl)))))
theorem zBq (t o s : Int) (es : List En) (h : Fits es) : zFo (t, o, s, es, t, o, s, es, ()) = some (true, ()) := by
  unfold zFo
  exact Sat.out (Sat.no (by simp) (sv (zBn o s es h) (Sat.no rfl (.some rfl))))
theorem zBo (xs : List Ls) (h : FD xs) : zFm (xs, xs, ()) = some (true, ()) := by
  unfold zFm
  have h1 := h.1
  unfold Fits at h1
  simp only [nI_eq]
  refine Sat.out (Sat.no (by simp) (sv (eq_gen xs h.1 (fun k x hx => ?_) ?_) (.some rfl)))
  · have hk := lt_of hx
    simp (disch := omega) only [zAU, at_of (τ := .ls) hx, toN, w64, nI_eq]
    exact Sat.out (Sat.gd (decide_eq_true (by omega)) (Sat.gd (inR_t (by omega) (by omega)) (Sat.gd (inR_t (by omega) (by omega)) (sv (zBn _ _ _ (h.2 x (List.mem_of_getElem? hx))) (Sat.no rfl (.some rfl))))))
  · simp only [zAU, nI_eq]
    exact Sat.out (Sat.no (decide_eq_false (by omega)) (.some rfl))
theorem zBp (xs : List (List Ls)) (h : Fits xs) (he : ∀ d ∈ xs, FD d) : zFn (xs, xs, ()) = some (true, ()) := by
  unfold zFn
  have h1 := h
  unfold Fits at h1
  simp only [nI_eq]
  refine Sat.out (Sat.no (by simp) (sv (eq_gen xs h (fun k x hx => ?_) ?_) (.some rfl)))
  · have hk := lt_of hx
    simp (disch := omega) only [zAT, at_of (τ := .db) hx, toN, w64, nI_eq]
    exact Sat.out (Sat.gd (decide_eq_true (by omega)) (Sat.gd (inR_t (by omega) (by omega)) (Sat.gd (inR_t (by omega) (by omega)) (sv (zBo x (he x (List.mem_of_getElem? hx))) (Sat.no rfl (.some rfl))))))
  · simp only [zAT, nI_eq]
    exact Sat.out (Sat.no (decide_eq_false (by omega)) (.some rfl))
theorem zBr (xs : List Pk) (h : Fits xs) (he : ∀ p ∈ xs, Fits p.p.e) : zFp (xs, xs, ()) = some (true, ()) := by
  unfold zFp
  have h1 := h
  unfold Fits at h1
  simp only [nI_eq]
  refine Sat.out (Sat.no (by simp) (sv (eq_gen xs h (fun k x hx => ?_) ?_) (.some rfl)))
  · have hk := lt_of hx
    simp (disch := omega) only [zAV, at_of (τ := .pk) hx, toN, w64, nI_eq]
    exact Sat.out (Sat.gd (decide_eq_true (by omega)) (Sat.gd (inR_t (by omega) (by omega)) (Sat.gd (inR_t (by omega) (by omega)) (sv (zBq _ _ _ _ (he x (List.mem_of_getElem? hx))) (Sat.no rfl (.some rfl))))))
  · simp only [zAV, nI_eq]
    exact Sat.out (Sat.no (decide_eq_false (by omega)) (.some rfl))
def MD (db : List Ls) : Prop := Mxl db ∧ ∀ l ∈ db, Mxl l.e
def SzR (left : Int) (tot : Nat) (P : Prop) (r : Int × Unit) : Prop := r = (-1, ()) ∨ ∃ z, r = (z, ()) ∧ 0 ≤ z ∧ z + tot ≤ left ∧ P
theorem s_Link (n : Int) (xs : List Lk) (left : Int) (h : Mxl xs) (h1 : 0 ≤ left ∧ left ≤ 2000000) : Sat (zFF (n, xs, left, ())) (SzR left xs.length (xs.length ≤ 2000000)) := by
  rw [zCL n xs left h (by omega)]
  by_cases e : left - (xs.length : Int) < 0
  · rw [if_pos e]; exact .some (.inl rfl)
  · rw [if_neg e]; exact .some (.inr ⟨_, rfl, by omega, by omega, by omega⟩)
structure MxW (w : Wd) : Prop where
  ls : Mxl w.ls
  up : Mxl w.up
  sq : Mxl w.sq
  db : Mxl w.db
  net : Mxl w.net
  dbs : ∀ d ∈ w.db, MD d
  pks : ∀ p ∈ w.net, Mxl p.p.e
structure FitW (w : Wd) : Prop where
  ls : Fits w.ls
  up : Fits w.up
  sq : Fits w.sq
  db : Fits w.db
  net : Fits w.net
  dbs : ∀ d ∈ w.db, FD d
  pks : ∀ p ∈ w.net, Fits p.p.e
structure SzW (w : Wd) : Prop where
  ls : w.ls.length ≤ 2000000
  up : w.up.length ≤ 2000000
  sq : w.sq.length ≤ 2000000
  db : w.db.length ≤ 2000000
  net : w.net.length ≤ 2000000
  dbs : ∀ d ∈ w.db, d.length ≤ 2000000 ∧ ∀ l ∈ d, l.e.length ≤ 2000000
  pks : ∀ p ∈ w.net, p.p.e.length ≤ 2000000
theorem SzW.fit {w : Wd} (h : SzW w) : FitW w := ⟨by have := h.ls; unfold Fits; omega, by have := h.up; unfold Fits; omega, by have := h.sq; unfold Fits; omega, by have := h.db; unfold Fits; omega, by have := h.net; unfold Fits; omega, fun d hd => ⟨by have := (h.dbs d hd).1; unfold Fits; omega, fun l hl => by have := (h.dbs d hd).2 l hl; unfold Fits; omega⟩, fun p hp => by have := h.pks p hp; unfold Fits; omega⟩
theorem zBs (w : Wd) (h : FitW w) : zFq (w.n, w.ls, w.up, w.sq, w.db, w.net, w.n, w.ls, w.up, w.sq, w.db, w.net, ()) = some (true, ()) := by
  unfold zFq
  exact Sat.out (sv (zBk _ _ h.ls) (Sat.no rfl (sv (zBi _ h.up) (Sat.no rfl (sv (zBl _ h.sq) (Sat.no rfl (sv (zBp _ h.db h.dbs) (Sat.no rfl (sv (zBr _ h.net h.pks) (Sat.no rfl (.some rfl)))))))))))
end Go.Proofs.Ytknkhdjhongklaa
end
section
namespace Go.Proofs.Ytknkhdjhongklaa
open Go.RowKit
set_option maxRecDepth 100000
def zCk : Entry := ⟨⟨[.c (.one (.b (.sl false .lk))), .c (.one (.b (.int .i64)))], []⟩, [.ls .lk, .int], ⟨[.c (.one (.b (.int .i64)))], []⟩, [.int], zFG⟩
def zDr : Env := mkEnv tab [] 12 0 [] []
theorem zGy : CtrOk Try.prog zDr.Γ := ctr_ok (l := []) trivial
theorem zEO : GC Try.prog 13 zCk := gc_of (G := zDr) (c := Try.f13.body.getD .skip) bad_ok tabOk zGy mixed Try.func13 (by kernel_rfl) Try.ntmps13 (code_ok' (G := zDr) (n := 0) (by kernel_rfl) (by kernel_rfl) trivial (by kernel_rfl)) (fun s => by kernel_rfl)
def zBX : Entry := ⟨⟨[.c (.agg [(.b (.int .i64)), (.b (.int .i64)), (.b (.int .i64))]), .c (.agg [(.b (.int .i64)), (.b (.int .i64)), (.b (.int .i64))])], []⟩, [.int, .int, .int, .int, .int, .int], ⟨[.c (.one (.b .bool))], []⟩, [.bool], zFj⟩
def zC4 : Env := mkEnv tab [] 20 0 [] []
theorem zGb : CtrOk Try.prog zC4.Γ := ctr_ok (l := []) trivial
theorem zEr : GC Try.prog 50 zBX := gc_of (G := zC4) (c := Try.f50.body.getD .skip) bad_ok tabOk zGb mixed Try.func50 (by kernel_rfl) Try.ntmps50 (code_ok' (G := zC4) (n := 0) (by kernel_rfl) (by kernel_rfl) trivial (by kernel_rfl)) (fun s => by kernel_rfl)
def zCm : Entry := ⟨⟨[.c (.agg [(.b (.int .i64)), (.b (.int .i64)), (.b (.int .i64))])], []⟩, [.int, .int, .int], ⟨[.c (.agg [(.b (.int .i64)), (.b (.int .i64)), (.b (.int .i64))])], []⟩, [.int, .int, .int], zFI⟩
def zDt : Env := mkEnv tab [] 14 0 [] []
theorem zGA : CtrOk Try.prog zDt.Γ := ctr_ok (l := []) trivial
theorem zEQ : GC Try.prog 43 zCm := gc_of (G := zDt) (c := Try.f43.body.getD .skip) bad_ok tabOk zGA mixed Try.func43 (by kernel_rfl) Try.ntmps43 (code_ok' (G := zDt) (n := 0) (by kernel_rfl) (by kernel_rfl) trivial (by kernel_rfl)) (fun s => by kernel_rfl)
def zCj : Entry := ⟨⟨[.c (.agg [(.b (.int .i64)), (.b (.sl false .lk))]), .c (.one (.b (.int .i64)))], []⟩, [.int, .ls .lk, .int], ⟨[.c (.one (.b (.int .i64)))], []⟩, [.int], zFF⟩
def zDq : Env := mkEnv tab [(13, [], zCk)] 12 0 [] []
theorem zGx : CtrOk Try.prog zDq.Γ := ctr_ok (l := [(13, [], zCk)]) ⟨⟨zEO, Try.call13⟩, trivial⟩
theorem zEN : GC Try.prog 4 zCj := gc_of (G := zDq) (c := Try.f4.body.getD .skip) bad_ok tabOk zGx mixed Try.func4 (by kernel_rfl) Try.ntmps4 (code_ok' (G := zDq) (n := 0) (by kernel_rfl) (by kernel_rfl) trivial (by kernel_rfl)) (fun s => by kernel_rfl)
def zAz : Loop := ⟨⟨[0, 3, 4], ⟨[.c (.one (.b (.sl false .lk))), .c (.one (.own 0)), .c (.one (.b (.int .i64)))], [.row 55 .lk]⟩, [.ls .lk, .int, .ls .lk]⟩, 0, ⟨[3], ⟨[.c (.one (.own 0))], [.row 55 .lk]⟩, [.ls .lk]⟩, ⟨[999999], ⟨[.c (.one (.own 0))], []⟩, []⟩, lp zA7 fuel⟩
def zCn : Entry := ⟨⟨[.c (.one (.b (.sl false .lk)))], []⟩, [.ls .lk], ⟨[.c (.one (.own 0))], [.row 55 .lk]⟩, [.ls .lk], zFJ⟩
def zDu : Env := mkEnv tab [(43, [], zCm)] 23 0 [] [(3, zAz)]
theorem zGB : CtrOk Try.prog zDu.Γ := ctr_ok (l := [(43, [], zCm)]) ⟨⟨zEQ, Try.call43⟩, trivial⟩
theorem zD3 : LoopOk Try.prog 0 23 (nthC (Try.f18.body.getD .skip) 0) zAz := loop_ok (G := zDu) (F := zAz.F) (eid := zAz.eid) (FX := zAz.FX) (FR := zAz.FR) (B := zA7) (n := fuel) bad_ok tabOk zGB mixed (code_ok' (G := zDu) (n := 0) (by kernel_rfl) (by kernel_rfl) trivial (by kernel_rfl)) (fun s => by kernel_rfl)
theorem zER : GC Try.prog 18 zCn := gc_of (G := zDu) (c := Try.f18.body.getD .skip) bad_ok tabOk zGB mixed Try.func18 (by kernel_rfl) Try.ntmps18 (code_ok' (G := zDu) (n := 1) (by kernel_rfl) (by kernel_rfl) ⟨trivial, loop_at (id := 3) (L0 := zAz) (by kernel_rfl) (by kernel_rfl) zD3⟩ (by kernel_rfl)) (fun s => by kernel_rfl)
def zBT : Entry := ⟨⟨[.c (.agg [(.b (.int .i64)), (.b (.int .i64))]), .c (.agg [(.b (.int .i64)), (.b (.int .i64))])], []⟩, [.int, .int, .int, .int], ⟨[.c (.one (.b .bool))], []⟩, [.bool], zFf⟩
def zC0 : Env := mkEnv tab [] 15 0 [] []
theorem zF7 : CtrOk Try.prog zC0.Γ := ctr_ok (l := []) trivial
theorem zEn : GC Try.prog 77 zBT := gc_of (G := zC0) (c := Try.f77.body.getD .skip) bad_ok tabOk zF7 mixed Try.func77 (by kernel_rfl) Try.ntmps77 (code_ok' (G := zC0) (n := 0) (by kernel_rfl) (by kernel_rfl) trivial (by kernel_rfl)) (fun s => by kernel_rfl)
def zAk : Loop := ⟨⟨[0, 1, 5], ⟨[.c (.one (.b (.sl false .lk))), .c (.one (.b (.sl false .lk))), .c (.one (.b (.int .i64)))], []⟩, [.ls .lk, .ls .lk, .int]⟩, 0, ⟨[], ⟨[], []⟩, []⟩, ⟨[4], ⟨[.c (.one (.b .bool))], []⟩, [.bool]⟩, lp zAS fuel⟩
def zBY : Entry := ⟨⟨[.c (.one (.b (.sl false .lk))), .c (.one (.b (.sl false .lk)))], []⟩, [.ls .lk, .ls .lk], ⟨[.c (.one (.b .bool))], []⟩, [.bool], zFk⟩
def zC5 : Env := mkEnv tab [(50, [], zBX)] 27 0 [(6, 8, [(0, true), (1, true), (2, true), (3, true), (4, true), (5, true), (6, true), (7, true)], [])] [(4, zAk)]
theorem zGc : CtrOk Try.prog zC5.Γ := ctr_ok (l := [(50, [], zBX)]) ⟨⟨zEr, Try.call50⟩, trivial⟩
theorem zDO : LoopOk Try.prog 0 27 (nthC (Try.f29.body.getD .skip) 0) zAk := loop_ok (G := zC5) (F := zAk.F) (eid := zAk.eid) (FX := zAk.FX) (FR := zAk.FR) (B := zAS) (n := fuel) bad_ok tabOk zGc mixed (code_ok' (G := zC5) (n := 0) (by kernel_rfl) (by kernel_rfl) trivial (by kernel_rfl)) (fun s => by kernel_rfl)
theorem zEs : GC Try.prog 29 zBY := gc_of (G := zC5) (c := Try.f29.body.getD .skip) bad_ok tabOk zGc mixed Try.func29 (by kernel_rfl) Try.ntmps29 (code_ok' (G := zC5) (n := 1) (by kernel_rfl) (by kernel_rfl) ⟨trivial, loop_at (id := 4) (L0 := zAk) (by kernel_rfl) (by kernel_rfl) zDO⟩ (by kernel_rfl)) (fun s => by kernel_rfl)
def zCl : Entry := ⟨⟨[.c (.agg [(.b (.int .i64)), (.b (.sl false .lk))])], []⟩, [.int, .ls .lk], ⟨[.c (.agg [(.b (.int .i64)), (.own 0)])], [.row 55 .lk]⟩, [.int, .ls .lk], zFH⟩
def zDs : Env := mkEnv tab [(18, [], zCn)] 12 0 [] []
theorem zGz : CtrOk Try.prog zDs.Γ := ctr_ok (l := [(18, [], zCn)]) ⟨⟨zER, Try.call18⟩, trivial⟩
theorem zEP : GC Try.prog 6 zCl := gc_of (G := zDs) (c := Try.f6.body.getD .skip) bad_ok tabOk zGz mixed Try.func6 (by kernel_rfl) Try.ntmps6 (code_ok' (G := zDs) (n := 0) (by kernel_rfl) (by kernel_rfl) trivial (by kernel_rfl)) (fun s => by kernel_rfl)
def zAj : Loop := ⟨⟨[0, 1, 5], ⟨[.c (.one (.b (.sl false .int))), .c (.one (.b (.sl false .int))), .c (.one (.b (.int .i64)))], []⟩, [.ls .int, .ls .int, .int]⟩, 0, ⟨[], ⟨[], []⟩, []⟩, ⟨[4], ⟨[.c (.one (.b .bool))], []⟩, [.bool]⟩, lp zAR fuel⟩
def zBW : Entry := ⟨⟨[.c (.one (.b (.sl false .int))), .c (.one (.b (.sl false .int)))], []⟩, [.ls .int, .ls .int], ⟨[.c (.one (.b .bool))], []⟩, [.bool], zFi⟩
def zC3 : Env := mkEnv tab [] 26 0 [(6, 8, [(0, true), (1, true), (2, true), (3, true), (4, true), (5, true), (6, true), (7, true)], [])] [(4, zAj)]
theorem zGa : CtrOk Try.prog zC3.Γ := ctr_ok (l := []) trivial
theorem zDN : LoopOk Try.prog 0 26 (nthC (Try.f26.body.getD .skip) 0) zAj := loop_ok (G := zC3) (F := zAj.F) (eid := zAj.eid) (FX := zAj.FX) (FR := zAj.FR) (B := zAR) (n := fuel) bad_ok tabOk zGa mixed (code_ok' (G := zC3) (n := 0) (by kernel_rfl) (by kernel_rfl) trivial (by kernel_rfl)) (fun s => by kernel_rfl)
theorem zEq : GC Try.prog 26 zBW := gc_of (G := zC3) (c := Try.f26.body.getD .skip) bad_ok tabOk zGa mixed Try.func26 (by kernel_rfl) Try.ntmps26 (code_ok' (G := zC3) (n := 1) (by kernel_rfl) (by kernel_rfl) ⟨trivial, loop_at (id := 4) (L0 := zAj) (by kernel_rfl) (by kernel_rfl) zDN⟩ (by kernel_rfl)) (fun s => by kernel_rfl)
def zBV : Entry := ⟨⟨[.c (.agg [(.b (.int .i64)), (.b (.sl false .lk))]), .c (.agg [(.b (.int .i64)), (.b (.sl false .lk))])], []⟩, [.int, .ls .lk, .int, .ls .lk], ⟨[.c (.one (.b .bool))], []⟩, [.bool], zFh⟩
def zC2 : Env := mkEnv tab [(29, [], zBY)] 16 0 [] []
theorem zF9 : CtrOk Try.prog zC2.Γ := ctr_ok (l := [(29, [], zBY)]) ⟨⟨zEs, Try.call29⟩, trivial⟩
theorem zEp : GC Try.prog 9 zBV := gc_of (G := zC2) (c := Try.f9.body.getD .skip) bad_ok tabOk zF9 mixed Try.func9 (by kernel_rfl) Try.ntmps9 (code_ok' (G := zC2) (n := 0) (by kernel_rfl) (by kernel_rfl) trivial (by kernel_rfl)) (fun s => by kernel_rfl)
def zAi : Loop := ⟨⟨[0, 1, 5], ⟨[.c (.one (.b (.sl false .en))), .c (.one (.b (.sl false .en))), .c (.one (.b (.int .i64)))], []⟩, [.ls .en, .ls .en, .int]⟩, 0, ⟨[], ⟨[], []⟩, []⟩, ⟨[4], ⟨[.c (.one (.b .bool))], []⟩, [.bool]⟩, lp zAQ fuel⟩
def zBU : Entry := ⟨⟨[.c (.one (.b (.sl false .en))), .c (.one (.b (.sl false .en)))], []⟩, [.ls .en, .ls .en], ⟨[.c (.one (.b .bool))], []⟩, [.bool], zFg⟩
def zC1 : Env := mkEnv tab [(77, [], zBT)] 27 0 [(6, 8, [(0, true), (1, true), (2, true), (3, true), (4, true), (5, true), (6, true), (7, true)], [])] [(4, zAi)]
theorem zF8 : CtrOk Try.prog zC1.Γ := ctr_ok (l := [(77, [], zBT)]) ⟨⟨zEn, Try.call77⟩, trivial⟩
theorem zDM : LoopOk Try.prog 0 27 (nthC (Try.f65.body.getD .skip) 0) zAi := loop_ok (G := zC1) (F := zAi.F) (eid := zAi.eid) (FX := zAi.FX) (FR := zAi.FR) (B := zAQ) (n := fuel) bad_ok tabOk zF8 mixed (code_ok' (G := zC1) (n := 0) (by kernel_rfl) (by kernel_rfl) trivial (by kernel_rfl)) (fun s => by kernel_rfl)
theorem zEo : GC Try.prog 65 zBU := gc_of (G := zC1) (c := Try.f65.body.getD .skip) bad_ok tabOk zF8 mixed Try.func65 (by kernel_rfl) Try.ntmps65 (code_ok' (G := zC1) (n := 1) (by kernel_rfl) (by kernel_rfl) ⟨trivial, loop_at (id := 4) (L0 := zAi) (by kernel_rfl) (by kernel_rfl) zDM⟩ (by kernel_rfl)) (fun s => by kernel_rfl)
def zAh : Loop := ⟨⟨[0, 1, 5], ⟨[.c (.one (.b (.sl false .bool))), .c (.one (.b (.sl false .bool))), .c (.one (.b (.int .i64)))], []⟩, [.ls .bool, .ls .bool, .int]⟩, 0, ⟨[], ⟨[], []⟩, []⟩, ⟨[4], ⟨[.c (.one (.b .bool))], []⟩, [.bool]⟩, lp zAP fuel⟩
def zBS : Entry := ⟨⟨[.c (.one (.b (.sl false .bool))), .c (.one (.b (.sl false .bool)))], []⟩, [.ls .bool, .ls .bool], ⟨[.c (.one (.b .bool))], []⟩, [.bool], zFe⟩
def zCZ : Env := mkEnv tab [] 26 0 [(6, 8, [(0, true), (1, true), (2, true), (3, true), (4, true), (5, true), (6, true), (7, true)], [])] [(4, zAh)]
theorem zF6 : CtrOk Try.prog zCZ.Γ := ctr_ok (l := []) trivial
theorem zDL : LoopOk Try.prog 0 26 (nthC (Try.f25.body.getD .skip) 0) zAh := loop_ok (G := zCZ) (F := zAh.F) (eid := zAh.eid) (FX := zAh.FX) (FR := zAh.FR) (B := zAP) (n := fuel) bad_ok tabOk zF6 mixed (code_ok' (G := zCZ) (n := 0) (by kernel_rfl) (by kernel_rfl) trivial (by kernel_rfl)) (fun s => by kernel_rfl)
theorem zEm : GC Try.prog 25 zBS := gc_of (G := zCZ) (c := Try.f25.body.getD .skip) bad_ok tabOk zF6 mixed Try.func25 (by kernel_rfl) Try.ntmps25 (code_ok' (G := zCZ) (n := 1) (by kernel_rfl) (by kernel_rfl) ⟨trivial, loop_at (id := 4) (L0 := zAh) (by kernel_rfl) (by kernel_rfl) zDL⟩ (by kernel_rfl)) (fun s => by kernel_rfl)
def zAy : Loop := ⟨⟨[0, 1, 5], ⟨[.c (.one (.own 0)), .c (.one (.b (.int .i64))), .c (.one (.b (.int .i64)))], [.row 55 .lk]⟩, [.int, .int, .ls .lk]⟩, 0, ⟨[1], ⟨[.c (.one (.b (.int .i64)))], [.row 55 .lk]⟩, [.int, .ls .lk]⟩, ⟨[999999], ⟨[.c (.one (.own 0))], []⟩, []⟩, lp zA6 fuel⟩
def zCi : Entry := ⟨⟨[.c (.one (.own 0)), .c (.one (.b (.int .i64)))], [.row 55 .lk]⟩, [.int, .ls .lk], ⟨[.c (.one (.b (.int .i64)))], [.row 55 .lk]⟩, [.int, .ls .lk], zFE⟩
def zDp : Env := mkEnv tab [] 34 1 [] [(2, zAy)]
theorem zGw : CtrOk Try.prog zDp.Γ := ctr_ok (l := []) trivial
theorem zD2 : LoopOk Try.prog 1 34 (nthC (Try.f30.body.getD .skip) 0) zAy := loop_ok (G := zDp) (F := zAy.F) (eid := zAy.eid) (FX := zAy.FX) (FR := zAy.FR) (B := zA6) (n := fuel) bad_ok tabOk zGw mixed (code_ok' (G := zDp) (n := 0) (by kernel_rfl) (by kernel_rfl) trivial (by kernel_rfl)) (fun s => by kernel_rfl)
theorem zEM : GC Try.prog 30 zCi := gc_of (G := zDp) (c := Try.f30.body.getD .skip) bad_ok tabOk zGw mixed Try.func30 (by kernel_rfl) Try.ntmps30 (code_ok' (G := zDp) (n := 1) (by kernel_rfl) (by kernel_rfl) ⟨trivial, loop_at (id := 2) (L0 := zAy) (by kernel_rfl) (by kernel_rfl) zD2⟩ (by kernel_rfl)) (fun s => by kernel_rfl)
def zBZ : Entry := ⟨⟨[.c (.agg [(.b (.int .i64)), (.b (.int .i64)), (.b (.sl false .en))]), .c (.agg [(.b (.int .i64)), (.b (.int .i64)), (.b (.sl false .en))])], []⟩, [.int, .int, .ls .en, .int, .int, .ls .en], ⟨[.c (.one (.b .bool))], []⟩, [.bool], zFl⟩
def zC6 : Env := mkEnv tab [(65, [], zBU)] 21 0 [] []
theorem zGd : CtrOk Try.prog zC6.Γ := ctr_ok (l := [(65, [], zBU)]) ⟨⟨zEo, Try.call65⟩, trivial⟩
theorem zEt : GC Try.prog 62 zBZ := gc_of (G := zC6) (c := Try.f62.body.getD .skip) bad_ok tabOk zGd mixed Try.func62 (by kernel_rfl) Try.ntmps62 (code_ok' (G := zC6) (n := 0) (by kernel_rfl) (by kernel_rfl) trivial (by kernel_rfl)) (fun s => by kernel_rfl)
def zAr : Loop := ⟨⟨[0, 1, 5], ⟨[.c (.one (.b (.sl false .lk))), .c (.one (.b (.int .i64))), .c (.one (.b (.int .i64)))], []⟩, [.ls .lk, .int, .int]⟩, 0, ⟨[1], ⟨[.c (.one (.b (.int .i64)))], []⟩, [.int]⟩, ⟨[4], ⟨[.c (.one (.b (.int .i64)))], []⟩, [.int]⟩, lp zAZ fuel⟩
def zB9 : Entry := ⟨⟨[.c (.one (.b (.sl false .lk))), .c (.one (.b (.int .i64)))], []⟩, [.ls .lk, .int], ⟨[.c (.one (.b (.int .i64)))], []⟩, [.int], zFv⟩
def zDg : Env := mkEnv tab [] 40 0 [] [(2, zAr)]
theorem zGn : CtrOk Try.prog zDg.Γ := ctr_ok (l := []) trivial
theorem zDV : LoopOk Try.prog 0 40 (nthC (Try.f53.body.getD .skip) 0) zAr := loop_ok (G := zDg) (F := zAr.F) (eid := zAr.eid) (FX := zAr.FX) (FR := zAr.FR) (B := zAZ) (n := fuel) bad_ok tabOk zGn mixed (code_ok' (G := zDg) (n := 0) (by kernel_rfl) (by kernel_rfl) trivial (by kernel_rfl)) (fun s => by kernel_rfl)
theorem zED : GC Try.prog 53 zB9 := gc_of (G := zDg) (c := Try.f53.body.getD .skip) bad_ok tabOk zGn mixed Try.func53 (by kernel_rfl) Try.ntmps53 (code_ok' (G := zDg) (n := 1) (by kernel_rfl) (by kernel_rfl) ⟨trivial, loop_at (id := 2) (L0 := zAr) (by kernel_rfl) (by kernel_rfl) zDV⟩ (by kernel_rfl)) (fun s => by kernel_rfl)
def zB2 : Entry := ⟨⟨[.c (.agg [(.b (.int .i64)), (.b (.int .i64)), (.b (.int .i64)), (.b (.sl false .en))]), .c (.agg [(.b (.int .i64)), (.b (.int .i64)), (.b (.int .i64)), (.b (.sl false .en))])], []⟩, [.int, .int, .int, .ls .en, .int, .int, .int, .ls .en], ⟨[.c (.one (.b .bool))], []⟩, [.bool], zFo⟩
def zC9 : Env := mkEnv tab [(62, [], zBZ)] 16 0 [] []
theorem zGg : CtrOk Try.prog zC9.Γ := ctr_ok (l := [(62, [], zBZ)]) ⟨⟨zEt, Try.call62⟩, trivial⟩
theorem zEw : GC Try.prog 49 zB2 := gc_of (G := zC9) (c := Try.f49.body.getD .skip) bad_ok tabOk zGg mixed Try.func49 (by kernel_rfl) Try.ntmps49 (code_ok' (G := zC9) (n := 0) (by kernel_rfl) (by kernel_rfl) trivial (by kernel_rfl)) (fun s => by kernel_rfl)
def zAx : Loop := ⟨⟨[0, 1, 5], ⟨[.c (.one (.own 0)), .c (.one (.b (.int .i64))), .c (.one (.b (.int .i64)))], [.row 3 .int]⟩, [.int, .int, .ls .int]⟩, 0, ⟨[1], ⟨[.c (.one (.b (.int .i64)))], [.row 3 .int]⟩, [.int, .ls .int]⟩, ⟨[999999], ⟨[.c (.one (.own 0))], []⟩, []⟩, lp zA5 fuel⟩
def zCh : Entry := ⟨⟨[.c (.one (.own 0)), .c (.one (.b (.int .i64)))], [.row 3 .int]⟩, [.int, .ls .int], ⟨[.c (.one (.b (.int .i64)))], [.row 3 .int]⟩, [.int, .ls .int], zFD⟩
def zDo : Env := mkEnv tab [] 19 1 [] [(2, zAx)]
theorem zGv : CtrOk Try.prog zDo.Γ := ctr_ok (l := []) trivial
theorem zD1 : LoopOk Try.prog 1 19 (nthC (Try.f32.body.getD .skip) 0) zAx := loop_ok (G := zDo) (F := zAx.F) (eid := zAx.eid) (FX := zAx.FX) (FR := zAx.FR) (B := zA5) (n := fuel) bad_ok tabOk zGv mixed (code_ok' (G := zDo) (n := 0) (by kernel_rfl) (by kernel_rfl) trivial (by kernel_rfl)) (fun s => by kernel_rfl)
theorem zEL : GC Try.prog 32 zCh := gc_of (G := zDo) (c := Try.f32.body.getD .skip) bad_ok tabOk zGv mixed Try.func32 (by kernel_rfl) Try.ntmps32 (code_ok' (G := zDo) (n := 1) (by kernel_rfl) (by kernel_rfl) ⟨trivial, loop_at (id := 2) (L0 := zAx) (by kernel_rfl) (by kernel_rfl) zD1⟩ (by kernel_rfl)) (fun s => by kernel_rfl)
def zAw : Loop := ⟨⟨[0, 1, 5], ⟨[.c (.one (.own 0)), .c (.one (.b (.int .i64))), .c (.one (.b (.int .i64)))], [.row 73 .en]⟩, [.int, .int, .ls .en]⟩, 0, ⟨[1], ⟨[.c (.one (.b (.int .i64)))], [.row 73 .en]⟩, [.int, .ls .en]⟩, ⟨[999999], ⟨[.c (.one (.own 0))], []⟩, []⟩, lp zA4 fuel⟩
def zCf : Entry := ⟨⟨[.c (.one (.own 0)), .c (.one (.b (.int .i64)))], [.row 73 .en]⟩, [.int, .ls .en], ⟨[.c (.one (.b (.int .i64)))], [.row 73 .en]⟩, [.int, .ls .en], zFB⟩
def zDm : Env := mkEnv tab [] 27 1 [] [(2, zAw)]
theorem zGt : CtrOk Try.prog zDm.Γ := ctr_ok (l := []) trivial
theorem zD0 : LoopOk Try.prog 1 27 (nthC (Try.f52.body.getD .skip) 0) zAw := loop_ok (G := zDm) (F := zAw.F) (eid := zAw.eid) (FX := zAw.FX) (FR := zAw.FR) (B := zA4) (n := fuel) bad_ok tabOk zGt mixed (code_ok' (G := zDm) (n := 0) (by kernel_rfl) (by kernel_rfl) trivial (by kernel_rfl)) (fun s => by kernel_rfl)
theorem zEJ : GC Try.prog 52 zCf := gc_of (G := zDm) (c := Try.f52.body.getD .skip) bad_ok tabOk zGt mixed Try.func52 (by kernel_rfl) Try.ntmps52 (code_ok' (G := zDm) (n := 1) (by kernel_rfl) (by kernel_rfl) ⟨trivial, loop_at (id := 2) (L0 := zAw) (by kernel_rfl) (by kernel_rfl) zD0⟩ (by kernel_rfl)) (fun s => by kernel_rfl)
def zAq : Loop := ⟨⟨[0, 1, 5], ⟨[.c (.one (.b (.sl false .int))), .c (.one (.b (.int .i64))), .c (.one (.b (.int .i64)))], []⟩, [.ls .int, .int, .int]⟩, 0, ⟨[1], ⟨[.c (.one (.b (.int .i64)))], []⟩, [.int]⟩, ⟨[4], ⟨[.c (.one (.b (.int .i64)))], []⟩, [.int]⟩, lp zAY fuel⟩
def zB8 : Entry := ⟨⟨[.c (.one (.b (.sl false .int))), .c (.one (.b (.int .i64)))], []⟩, [.ls .int, .int], ⟨[.c (.one (.b (.int .i64)))], []⟩, [.int], zFu⟩
def zDf : Env := mkEnv tab [] 21 0 [] [(2, zAq)]
theorem zGm : CtrOk Try.prog zDf.Γ := ctr_ok (l := []) trivial
theorem zDU : LoopOk Try.prog 0 21 (nthC (Try.f37.body.getD .skip) 0) zAq := loop_ok (G := zDf) (F := zAq.F) (eid := zAq.eid) (FX := zAq.FX) (FR := zAq.FR) (B := zAY) (n := fuel) bad_ok tabOk zGm mixed (code_ok' (G := zDf) (n := 0) (by kernel_rfl) (by kernel_rfl) trivial (by kernel_rfl)) (fun s => by kernel_rfl)
theorem zEC : GC Try.prog 37 zB8 := gc_of (G := zDf) (c := Try.f37.body.getD .skip) bad_ok tabOk zGm mixed Try.func37 (by kernel_rfl) Try.ntmps37 (code_ok' (G := zDf) (n := 1) (by kernel_rfl) (by kernel_rfl) ⟨trivial, loop_at (id := 2) (L0 := zAq) (by kernel_rfl) (by kernel_rfl) zDU⟩ (by kernel_rfl)) (fun s => by kernel_rfl)
def zAm : Loop := ⟨⟨[0, 1, 5], ⟨[.c (.one (.b (.sl false .ls))), .c (.one (.b (.sl false .ls))), .c (.one (.b (.int .i64)))], []⟩, [.ls .ls, .ls .ls, .int]⟩, 0, ⟨[], ⟨[], []⟩, []⟩, ⟨[4], ⟨[.c (.one (.b .bool))], []⟩, [.bool]⟩, lp zAU fuel⟩
def zB0 : Entry := ⟨⟨[.c (.one (.b (.sl false .ls))), .c (.one (.b (.sl false .ls)))], []⟩, [.ls .ls, .ls .ls], ⟨[.c (.one (.b .bool))], []⟩, [.bool], zFm⟩
def zC7 : Env := mkEnv tab [(62, [], zBZ)] 27 0 [(6, 8, [(0, true), (1, true), (2, true), (3, true), (4, true), (5, true), (6, true), (7, true)], [])] [(4, zAm)]
theorem zGe : CtrOk Try.prog zC7.Γ := ctr_ok (l := [(62, [], zBZ)]) ⟨⟨zEt, Try.call62⟩, trivial⟩
theorem zDQ : LoopOk Try.prog 0 27 (nthC (Try.f48.body.getD .skip) 0) zAm := loop_ok (G := zC7) (F := zAm.F) (eid := zAm.eid) (FX := zAm.FX) (FR := zAm.FR) (B := zAU) (n := fuel) bad_ok tabOk zGe mixed (code_ok' (G := zC7) (n := 0) (by kernel_rfl) (by kernel_rfl) trivial (by kernel_rfl)) (fun s => by kernel_rfl)
theorem zEu : GC Try.prog 48 zB0 := gc_of (G := zC7) (c := Try.f48.body.getD .skip) bad_ok tabOk zGe mixed Try.func48 (by kernel_rfl) Try.ntmps48 (code_ok' (G := zC7) (n := 1) (by kernel_rfl) (by kernel_rfl) ⟨trivial, loop_at (id := 4) (L0 := zAm) (by kernel_rfl) (by kernel_rfl) zDQ⟩ (by kernel_rfl)) (fun s => by kernel_rfl)
def zAn : Loop := ⟨⟨[0, 1, 5], ⟨[.c (.one (.b (.sl false .pk))), .c (.one (.b (.sl false .pk))), .c (.one (.b (.int .i64)))], []⟩, [.ls .pk, .ls .pk, .int]⟩, 0, ⟨[], ⟨[], []⟩, []⟩, ⟨[4], ⟨[.c (.one (.b .bool))], []⟩, [.bool]⟩, lp zAV fuel⟩
def zB3 : Entry := ⟨⟨[.c (.one (.b (.sl false .pk))), .c (.one (.b (.sl false .pk)))], []⟩, [.ls .pk, .ls .pk], ⟨[.c (.one (.b .bool))], []⟩, [.bool], zFp⟩
def zDa : Env := mkEnv tab [(49, [], zB2)] 27 0 [(6, 8, [(0, true), (1, true), (2, true), (3, true), (4, true), (5, true), (6, true), (7, true)], [])] [(4, zAn)]
theorem zGh : CtrOk Try.prog zDa.Γ := ctr_ok (l := [(49, [], zB2)]) ⟨⟨zEw, Try.call49⟩, trivial⟩
theorem zDR : LoopOk Try.prog 0 27 (nthC (Try.f28.body.getD .skip) 0) zAn := loop_ok (G := zDa) (F := zAn.F) (eid := zAn.eid) (FX := zAn.FX) (FR := zAn.FR) (B := zAV) (n := fuel) bad_ok tabOk zGh mixed (code_ok' (G := zDa) (n := 0) (by kernel_rfl) (by kernel_rfl) trivial (by kernel_rfl)) (fun s => by kernel_rfl)
theorem zEx : GC Try.prog 28 zB3 := gc_of (G := zDa) (c := Try.f28.body.getD .skip) bad_ok tabOk zGh mixed Try.func28 (by kernel_rfl) Try.ntmps28 (code_ok' (G := zDa) (n := 1) (by kernel_rfl) (by kernel_rfl) ⟨trivial, loop_at (id := 4) (L0 := zAn) (by kernel_rfl) (by kernel_rfl) zDR⟩ (by kernel_rfl)) (fun s => by kernel_rfl)
def zCg : Entry := ⟨⟨[.c (.agg [(.b (.int .i64)), (.own 0)]), .c (.one (.b (.int .i64)))], [.row 55 .lk]⟩, [.int, .int, .ls .lk], ⟨[.c (.one (.b (.int .i64)))], [.row 55 .lk]⟩, [.int, .ls .lk], zFC⟩
def zDn : Env := mkEnv tab [(30, [], zCi)] 10 1 [] []
theorem zGu : CtrOk Try.prog zDn.Γ := ctr_ok (l := [(30, [], zCi)]) ⟨⟨zEM, Try.call30⟩, trivial⟩
theorem zEK : GC Try.prog 10 zCg := gc_of (G := zDn) (c := Try.f10.body.getD .skip) bad_ok tabOk zGu mixed Try.func10 (by kernel_rfl) Try.ntmps10 (code_ok' (G := zDn) (n := 0) (by kernel_rfl) (by kernel_rfl) trivial (by kernel_rfl)) (fun s => by kernel_rfl)
def zAv : Loop := ⟨⟨[0, 1, 5], ⟨[.c (.one (.own 0)), .c (.one (.b (.int .i64))), .c (.one (.b (.int .i64)))], [.row 4 .bool]⟩, [.int, .int, .ls .bool]⟩, 0, ⟨[1], ⟨[.c (.one (.b (.int .i64)))], [.row 4 .bool]⟩, [.int, .ls .bool]⟩, ⟨[999999], ⟨[.c (.one (.own 0))], []⟩, []⟩, lp zA3 fuel⟩
def zCe : Entry := ⟨⟨[.c (.one (.own 0)), .c (.one (.b (.int .i64)))], [.row 4 .bool]⟩, [.int, .ls .bool], ⟨[.c (.one (.b (.int .i64)))], [.row 4 .bool]⟩, [.int, .ls .bool], zFA⟩
def zDl : Env := mkEnv tab [] 21 1 [] [(2, zAv)]
theorem zGs : CtrOk Try.prog zDl.Γ := ctr_ok (l := []) trivial
theorem zDZ : LoopOk Try.prog 1 21 (nthC (Try.f31.body.getD .skip) 0) zAv := loop_ok (G := zDl) (F := zAv.F) (eid := zAv.eid) (FX := zAv.FX) (FR := zAv.FR) (B := zA3) (n := fuel) bad_ok tabOk zGs mixed (code_ok' (G := zDl) (n := 0) (by kernel_rfl) (by kernel_rfl) trivial (by kernel_rfl)) (fun s => by kernel_rfl)
theorem zEI : GC Try.prog 31 zCe := gc_of (G := zDl) (c := Try.f31.body.getD .skip) bad_ok tabOk zGs mixed Try.func31 (by kernel_rfl) Try.ntmps31 (code_ok' (G := zDl) (n := 1) (by kernel_rfl) (by kernel_rfl) ⟨trivial, loop_at (id := 2) (L0 := zAv) (by kernel_rfl) (by kernel_rfl) zDZ⟩ (by kernel_rfl)) (fun s => by kernel_rfl)
def zAp : Loop := ⟨⟨[0, 1, 5], ⟨[.c (.one (.b (.sl false .en))), .c (.one (.b (.int .i64))), .c (.one (.b (.int .i64)))], []⟩, [.ls .en, .int, .int]⟩, 0, ⟨[1], ⟨[.c (.one (.b (.int .i64)))], []⟩, [.int]⟩, ⟨[4], ⟨[.c (.one (.b (.int .i64)))], []⟩, [.int]⟩, lp zAX fuel⟩
def zB6 : Entry := ⟨⟨[.c (.one (.b (.sl false .en))), .c (.one (.b (.int .i64)))], []⟩, [.ls .en, .int], ⟨[.c (.one (.b (.int .i64)))], []⟩, [.int], zFs⟩
def zDd : Env := mkEnv tab [] 31 0 [] [(2, zAp)]
theorem zGk : CtrOk Try.prog zDd.Γ := ctr_ok (l := []) trivial
theorem zDT : LoopOk Try.prog 0 31 (nthC (Try.f55.body.getD .skip) 0) zAp := loop_ok (G := zDd) (F := zAp.F) (eid := zAp.eid) (FX := zAp.FX) (FR := zAp.FR) (B := zAX) (n := fuel) bad_ok tabOk zGk mixed (code_ok' (G := zDd) (n := 0) (by kernel_rfl) (by kernel_rfl) trivial (by kernel_rfl)) (fun s => by kernel_rfl)
theorem zEA : GC Try.prog 55 zB6 := gc_of (G := zDd) (c := Try.f55.body.getD .skip) bad_ok tabOk zGk mixed Try.func55 (by kernel_rfl) Try.ntmps55 (code_ok' (G := zDd) (n := 1) (by kernel_rfl) (by kernel_rfl) ⟨trivial, loop_at (id := 2) (L0 := zAp) (by kernel_rfl) (by kernel_rfl) zDT⟩ (by kernel_rfl)) (fun s => by kernel_rfl)
def zB7 : Entry := ⟨⟨[.c (.agg [(.b (.int .i64)), (.b (.sl false .lk))]), .c (.one (.b (.int .i64)))], []⟩, [.int, .ls .lk, .int], ⟨[.c (.one (.b (.int .i64)))], []⟩, [.int], zFt⟩
def zDe : Env := mkEnv tab [(53, [], zB9)] 12 0 [] []
theorem zGl : CtrOk Try.prog zDe.Γ := ctr_ok (l := [(53, [], zB9)]) ⟨⟨zED, Try.call53⟩, trivial⟩
theorem zEB : GC Try.prog 35 zB7 := gc_of (G := zDe) (c := Try.f35.body.getD .skip) bad_ok tabOk zGl mixed Try.func35 (by kernel_rfl) Try.ntmps35 (code_ok' (G := zDe) (n := 0) (by kernel_rfl) (by kernel_rfl) trivial (by kernel_rfl)) (fun s => by kernel_rfl)
def zAo : Loop := ⟨⟨[0, 1, 5], ⟨[.c (.one (.b (.sl false .bool))), .c (.one (.b (.int .i64))), .c (.one (.b (.int .i64)))], []⟩, [.ls .bool, .int, .int]⟩, 0, ⟨[1], ⟨[.c (.one (.b (.int .i64)))], []⟩, [.int]⟩, ⟨[4], ⟨[.c (.one (.b (.int .i64)))], []⟩, [.int]⟩, lp zAW fuel⟩
def zB5 : Entry := ⟨⟨[.c (.one (.b (.sl false .bool))), .c (.one (.b (.int .i64)))], []⟩, [.ls .bool, .int], ⟨[.c (.one (.b (.int .i64)))], []⟩, [.int], zFr⟩
def zDc : Env := mkEnv tab [] 23 0 [] [(2, zAo)]
theorem zGj : CtrOk Try.prog zDc.Γ := ctr_ok (l := []) trivial
theorem zDS : LoopOk Try.prog 0 23 (nthC (Try.f36.body.getD .skip) 0) zAo := loop_ok (G := zDc) (F := zAo.F) (eid := zAo.eid) (FX := zAo.FX) (FR := zAo.FR) (B := zAW) (n := fuel) bad_ok tabOk zGj mixed (code_ok' (G := zDc) (n := 0) (by kernel_rfl) (by kernel_rfl) trivial (by kernel_rfl)) (fun s => by kernel_rfl)
theorem zEz : GC Try.prog 36 zB5 := gc_of (G := zDc) (c := Try.f36.body.getD .skip) bad_ok tabOk zGj mixed Try.func36 (by kernel_rfl) Try.ntmps36 (code_ok' (G := zDc) (n := 1) (by kernel_rfl) (by kernel_rfl) ⟨trivial, loop_at (id := 2) (L0 := zAo) (by kernel_rfl) (by kernel_rfl) zDS⟩ (by kernel_rfl)) (fun s => by kernel_rfl)
def zAl : Loop := ⟨⟨[0, 1, 5], ⟨[.c (.one (.b (.sl false .db))), .c (.one (.b (.sl false .db))), .c (.one (.b (.int .i64)))], []⟩, [.ls .db, .ls .db, .int]⟩, 0, ⟨[], ⟨[], []⟩, []⟩, ⟨[4], ⟨[.c (.one (.b .bool))], []⟩, [.bool]⟩, lp zAT fuel⟩
def zB1 : Entry := ⟨⟨[.c (.one (.b (.sl false .db))), .c (.one (.b (.sl false .db)))], []⟩, [.ls .db, .ls .db], ⟨[.c (.one (.b .bool))], []⟩, [.bool], zFn⟩
def zC8 : Env := mkEnv tab [(48, [], zB0)] 27 0 [(6, 8, [(0, true), (1, true), (2, true), (3, true), (4, true), (5, true), (6, true), (7, true)], [])] [(4, zAl)]
theorem zGf : CtrOk Try.prog zC8.Γ := ctr_ok (l := [(48, [], zB0)]) ⟨⟨zEu, Try.call48⟩, trivial⟩
theorem zDP : LoopOk Try.prog 0 27 (nthC (Try.f27.body.getD .skip) 0) zAl := loop_ok (G := zC8) (F := zAl.F) (eid := zAl.eid) (FX := zAl.FX) (FR := zAl.FR) (B := zAT) (n := fuel) bad_ok tabOk zGf mixed (code_ok' (G := zC8) (n := 0) (by kernel_rfl) (by kernel_rfl) trivial (by kernel_rfl)) (fun s => by kernel_rfl)
theorem zEv : GC Try.prog 27 zB1 := gc_of (G := zC8) (c := Try.f27.body.getD .skip) bad_ok tabOk zGf mixed Try.func27 (by kernel_rfl) Try.ntmps27 (code_ok' (G := zC8) (n := 1) (by kernel_rfl) (by kernel_rfl) ⟨trivial, loop_at (id := 4) (L0 := zAl) (by kernel_rfl) (by kernel_rfl) zDP⟩ (by kernel_rfl)) (fun s => by kernel_rfl)
def zB4 : Entry := ⟨⟨[.c (.agg [(.b (.int .i64)), (.b (.sl false .lk)), (.b (.sl false .bool)), (.b (.sl false .int)), (.b (.sl false .db)), (.b (.sl false .pk))]), .c (.agg [(.b (.int .i64)), (.b (.sl false .lk)), (.b (.sl false .bool)), (.b (.sl false .int)), (.b (.sl false .db)), (.b (.sl false .pk))])], []⟩, [.int, .ls .lk, .ls .bool, .ls .int, .ls .db, .ls .pk, .int, .ls .lk, .ls .bool, .ls .int, .ls .db, .ls .pk], ⟨[.c (.one (.b .bool))], []⟩, [.bool], zFq⟩
def zDb : Env := mkEnv tab [(26, [], zBW), (9, [], zBV), (25, [], zBS), (28, [], zB3), (27, [], zB1)] 35 0 [] []
theorem zGi : CtrOk Try.prog zDb.Γ := ctr_ok (l := [(26, [], zBW), (9, [], zBV), (25, [], zBS), (28, [], zB3), (27, [], zB1)]) ⟨⟨zEq, Try.call26⟩, ⟨⟨zEp, Try.call9⟩, ⟨⟨zEm, Try.call25⟩, ⟨⟨zEx, Try.call28⟩, ⟨⟨zEv, Try.call27⟩, trivial⟩⟩⟩⟩⟩
theorem zEy : GC Try.prog 8 zB4 := gc_of (G := zDb) (c := Try.f8.body.getD .skip) bad_ok tabOk zGi mixed Try.func8 (by kernel_rfl) Try.ntmps8 (code_ok' (G := zDb) (n := 0) (by kernel_rfl) (by kernel_rfl) trivial (by kernel_rfl)) (fun s => by kernel_rfl)
def zAu : Loop := ⟨⟨[0, 1, 5], ⟨[.c (.one (.b (.sl false .pk))), .c (.one (.b (.int .i64))), .c (.one (.b (.int .i64)))], []⟩, [.ls .pk, .int, .int]⟩, 0, ⟨[1], ⟨[.c (.one (.b (.int .i64)))], []⟩, [.int]⟩, ⟨[4], ⟨[.c (.one (.b (.int .i64)))], []⟩, [.int]⟩, lp zA2 fuel⟩
def zCc : Entry := ⟨⟨[.c (.one (.b (.sl false .pk))), .c (.one (.b (.int .i64)))], []⟩, [.ls .pk, .int], ⟨[.c (.one (.b (.int .i64)))], []⟩, [.int], zFy⟩
def zDj : Env := mkEnv tab [(55, [], zB6)] 52 0 [] [(2, zAu)]
theorem zGq : CtrOk Try.prog zDj.Γ := ctr_ok (l := [(55, [], zB6)]) ⟨⟨zEA, Try.call55⟩, trivial⟩
theorem zDY : LoopOk Try.prog 0 52 (nthC (Try.f39.body.getD .skip) 0) zAu := loop_ok (G := zDj) (F := zAu.F) (eid := zAu.eid) (FX := zAu.FX) (FR := zAu.FR) (B := zA2) (n := fuel) bad_ok tabOk zGq mixed (code_ok' (G := zDj) (n := 0) (by kernel_rfl) (by kernel_rfl) trivial (by kernel_rfl)) (fun s => by kernel_rfl)
theorem zEG : GC Try.prog 39 zCc := gc_of (G := zDj) (c := Try.f39.body.getD .skip) bad_ok tabOk zGq mixed Try.func39 (by kernel_rfl) Try.ntmps39 (code_ok' (G := zDj) (n := 1) (by kernel_rfl) (by kernel_rfl) ⟨trivial, loop_at (id := 2) (L0 := zAu) (by kernel_rfl) (by kernel_rfl) zDY⟩ (by kernel_rfl)) (fun s => by kernel_rfl)
def zAt : Loop := ⟨⟨[0, 1, 5], ⟨[.c (.one (.b (.sl false .ls))), .c (.one (.b (.int .i64))), .c (.one (.b (.int .i64)))], []⟩, [.ls .ls, .int, .int]⟩, 0, ⟨[1], ⟨[.c (.one (.b (.int .i64)))], []⟩, [.int]⟩, ⟨[4], ⟨[.c (.one (.b (.int .i64)))], []⟩, [.int]⟩, lp zA1 fuel⟩
def zCa : Entry := ⟨⟨[.c (.one (.b (.sl false .ls))), .c (.one (.b (.int .i64)))], []⟩, [.ls .ls, .int], ⟨[.c (.one (.b (.int .i64)))], []⟩, [.int], zFw⟩
def zDh : Env := mkEnv tab [(55, [], zB6)] 40 0 [] [(2, zAt)]
theorem zGo : CtrOk Try.prog zDh.Γ := ctr_ok (l := [(55, [], zB6)]) ⟨⟨zEA, Try.call55⟩, trivial⟩
theorem zDX : LoopOk Try.prog 0 40 (nthC (Try.f54.body.getD .skip) 0) zAt := loop_ok (G := zDh) (F := zAt.F) (eid := zAt.eid) (FX := zAt.FX) (FR := zAt.FR) (B := zA1) (n := fuel) bad_ok tabOk zGo mixed (code_ok' (G := zDh) (n := 0) (by kernel_rfl) (by kernel_rfl) trivial (by kernel_rfl)) (fun s => by kernel_rfl)
theorem zEE : GC Try.prog 54 zCa := gc_of (G := zDh) (c := Try.f54.body.getD .skip) bad_ok tabOk zGo mixed Try.func54 (by kernel_rfl) Try.ntmps54 (code_ok' (G := zDh) (n := 1) (by kernel_rfl) (by kernel_rfl) ⟨trivial, loop_at (id := 2) (L0 := zAt) (by kernel_rfl) (by kernel_rfl) zDX⟩ (by kernel_rfl)) (fun s => by kernel_rfl)
def zAs : Loop := ⟨⟨[0, 1, 5], ⟨[.c (.one (.b (.sl false .db))), .c (.one (.b (.int .i64))), .c (.one (.b (.int .i64)))], []⟩, [.ls .db, .int, .int]⟩, 0, ⟨[1], ⟨[.c (.one (.b (.int .i64)))], []⟩, [.int]⟩, ⟨[4], ⟨[.c (.one (.b (.int .i64)))], []⟩, [.int]⟩, lp zA0 fuel⟩
def zCb : Entry := ⟨⟨[.c (.one (.b (.sl false .db))), .c (.one (.b (.int .i64)))], []⟩, [.ls .db, .int], ⟨[.c (.one (.b (.int .i64)))], []⟩, [.int], zFx⟩
def zDi : Env := mkEnv tab [(54, [], zCa)] 21 0 [] [(2, zAs)]
theorem zGp : CtrOk Try.prog zDi.Γ := ctr_ok (l := [(54, [], zCa)]) ⟨⟨zEE, Try.call54⟩, trivial⟩
theorem zDW : LoopOk Try.prog 0 21 (nthC (Try.f38.body.getD .skip) 0) zAs := loop_ok (G := zDi) (F := zAs.F) (eid := zAs.eid) (FX := zAs.FX) (FR := zAs.FR) (B := zA0) (n := fuel) bad_ok tabOk zGp mixed (code_ok' (G := zDi) (n := 0) (by kernel_rfl) (by kernel_rfl) trivial (by kernel_rfl)) (fun s => by kernel_rfl)
theorem zEF : GC Try.prog 38 zCb := gc_of (G := zDi) (c := Try.f38.body.getD .skip) bad_ok tabOk zGp mixed Try.func38 (by kernel_rfl) Try.ntmps38 (code_ok' (G := zDi) (n := 1) (by kernel_rfl) (by kernel_rfl) ⟨trivial, loop_at (id := 2) (L0 := zAs) (by kernel_rfl) (by kernel_rfl) zDW⟩ (by kernel_rfl)) (fun s => by kernel_rfl)
def zCd : Entry := ⟨⟨[.c (.agg [(.b (.int .i64)), (.b (.sl false .lk)), (.b (.sl false .bool)), (.b (.sl false .int)), (.b (.sl false .db)), (.b (.sl false .pk))]), .c (.one (.b (.int .i64)))], []⟩, [.int, .ls .lk, .ls .bool, .ls .int, .ls .db, .ls .pk, .int], ⟨[.c (.one (.b (.int .i64)))], []⟩, [.int], zFz⟩
def zDk : Env := mkEnv tab [(37, [], zB8), (35, [], zB7), (36, [], zB5), (39, [], zCc), (38, [], zCb)] 36 0 [] []
theorem zGr : CtrOk Try.prog zDk.Γ := ctr_ok (l := [(37, [], zB8), (35, [], zB7), (36, [], zB5), (39, [], zCc), (38, [], zCb)]) ⟨⟨zEC, Try.call37⟩, ⟨⟨zEB, Try.call35⟩, ⟨⟨zEz, Try.call36⟩, ⟨⟨zEG, Try.call39⟩, ⟨⟨zEF, Try.call38⟩, trivial⟩⟩⟩⟩⟩
theorem zEH : GC Try.prog 12 zCd := gc_of (G := zDk) (c := Try.f12.body.getD .skip) bad_ok tabOk zGr mixed Try.func12 (by kernel_rfl) Try.ntmps12 (code_ok' (G := zDk) (n := 0) (by kernel_rfl) (by kernel_rfl) trivial (by kernel_rfl)) (fun s => by kernel_rfl)
end Go.Proofs.Ytknkhdjhongklaa
end
section
namespace Go.Proofs.Ytknkhdjhongklaa
open Go.RowKit
set_option maxRecDepth 100000

def wd (W : Wl) : Wd := ⟨W.1, W.2.1, W.2.2.1, W.2.2.2.1, W.2.2.2.2.1, W.2.2.2.2.2⟩
def lw (w : Wd) : Wl := (w.n, w.ls, w.up, w.sq, w.db, w.net)
def FW (W : Wl) : Prop := SzW (wd W) ∧ cntW W ≤ 3999999999
theorem FW.fv {W : Wl} (h : FW W) : FV W := by
  obtain ⟨⟨h1, h2, h3, h4, h5, h6, h7⟩, h8⟩ := h
  dsimp only [wd] at *
  exact ⟨by omega, by omega, by omega, by omega, by omega, fun d hd => ⟨by have := (h6 d hd).1; omega, fun l hl => by have := (h6 d hd).2 l hl; omega⟩, fun p hp => by have := h7 p hp; omega, h8⟩
theorem FV.fit {W : Wl} (h : FV W) : FitW (wd W) := by
  obtain ⟨h1, h2, h3, h4, h5, h6, h7, h8⟩ := h
  exact ⟨by dsimp only [wd]; unfold Fits; omega, by dsimp only [wd]; unfold Fits; omega, by dsimp only [wd]; unfold Fits; omega, by dsimp only [wd]; unfold Fits; omega, by dsimp only [wd]; unfold Fits; omega, fun d hd => ⟨by have := (h6 d hd).1; unfold Fits; omega, fun l hl => by have := (h6 d hd).2 l hl; unfold Fits; omega⟩, fun p hp => by have := h7 p hp; unfold Fits; omega⟩
theorem glb0 (w : World) (h : List AObj) (β : List (Nat × Nat)) : Glb w h β := fun g cs hg => by
  unfold globs at hg
  cases hg
theorem l_markE : MarkE Try.prog 52 := fun w E ys b c u k h0 h1 hc H =>
  (mark_gc zEJ (s := (k, ys, ())) (r := (k + 2 * ys.length, mkE k ys, ())) (by rw [mkE_F]; exact zCr k ys h0 (by omega) (by omega)) (d := .own 0) rfl rfl rfl (mkE_len _ _) (fun h β => glb0 w h β) H (own_cv H)).mono fun e w' h => ⟨h.1, h.2.1, h.2.2.mono fun _ _ h => h.2⟩
theorem l_markB : MarkR Try.prog 31 4 .bool mgB List.length (fun _ => True) := fun w E xs b c u k h0 h1 h2 _ H =>
  (mark_gc zEI (s := (k, xs, ())) (r := (k + xs.length, mgB k xs, ())) (by have h := zCq k xs h0 (by omega) (by omega); simp only [Int.one_mul] at h; exact h) (d := .own 0) rfl rfl rfl (mkF_len _ _ _ _) (fun h β => glb0 w h β) H (own_cv H)).mono fun e w' h => ⟨h.1, mkd_flat rfl h.2.1 h.2.2⟩
theorem l_markI : MarkR Try.prog 32 3 .int mgI List.length (fun _ => True) := fun w E xs b c u k h0 h1 h2 _ H =>
  (mark_gc zEL (s := (k, xs, ())) (r := (k + xs.length, mgI k xs, ())) (by have h := zCt k xs h0 (by omega) (by omega); simp only [Int.one_mul] at h; exact h) (d := .own 0) rfl rfl rfl (mkF_len _ _ _ _) (fun h β => glb0 w h β) H (own_cv H)).mono fun e w' h => ⟨h.1, mkd_flat rfl h.2.1 h.2.2⟩
theorem l_markG : MarkG Try.prog 10 mgL := fun w E n xs b c u k h0 h1 h2 H =>
  (mark_gc zEK (s := (n, k, xs, ())) (r := (k + 3 * xs.length, mgL k xs, ())) (zCs n k xs h0 (by omega) h2) (d := .agg [.im (iI n), .own 0]) rfl rfl rfl (mkF_len _ _ _ _) (fun h β => glb0 w h β) H ⟨[.int .i64 n, u], rfl, F2.cons (Ri.s _) (F2.cons (own_cv H) F2.nil)⟩).mono fun e w' h => ⟨h.1, mkd_flat rfl h.2.1 h.2.2⟩
abbrev mkM (W : Wl) : Wl := mkW mgL mgB mgI 1 W
theorem c_mark : CMk Try.prog 11 FV mkM := fun w lo hi A a hf H =>
  l_markWorld l_markG l_markB l_markI l_markE (fun _ _ => mkF_len _ _ _ _) (fun _ _ => mkF_len _ _ _ _) (fun _ _ => mkF_len _ _ _ _) w lo hi A a 1 (by omega) (by have := hf.cnt; omega) ⟨hf.ls, hf.up, hf.sq, hf.db, hf.net, fun d hd => (hf.dbs d hd).1⟩ H
theorem c_held : CHd Try.prog 12 FV mkM := fun w lo hi A a hf H =>
  (gc_call zEH (s := ((mkM A).1, (mkM A).2.1, (mkM A).2.2.1, (mkM A).2.2.2.1, (mkM A).2.2.2.2.1, (mkM A).2.2.2.2.2, 1, ())) (r := (1 + (cntW A : Int), ())) (zBB A hf) (ds := [wArg (mkM A), .im (iI 1)]) rfl (d := .im (iI (1 + cntW A))) (h' := []) rfl (args := [a, .int .i64 1]) (F2.cons H.arg (F2.cons (Ri.s _) F2.nil)) (glb0 _ _ _)).mono fun ex w' ⟨u, β', h1, h2, h3, h4⟩ => by
    have h4 : Ri w' _ _ (iI (1 + cntW A)) u := h4
    cases h4
    exact ⟨h1, h2.below⟩
theorem c_eq : CEq Try.prog 8 FV := fun w lo hi lo' hi' A a b hf ha hb =>
  (gc_call zEy (s := (A.1, A.2.1, A.2.2.1, A.2.2.2.1, A.2.2.2.2.1, A.2.2.2.2.2, A.1, A.2.1, A.2.2.1, A.2.2.2.1, A.2.2.2.2.1, A.2.2.2.2.2, ())) (r := (true, ())) (zBs (wd A) hf.fit) (ds := [wArg A, wArg A]) rfl (d := .im (.s (.bool true))) (h' := []) rfl (args := [a, b]) (F2.cons ha.arg (F2.cons hb.arg F2.nil)) (glb0 _ _ _)).mono fun ex w' ⟨u, β', h1, h2, h3, h4⟩ => by
    have h4 : Ri w' _ _ (.s (.bool true)) u := h4
    cases h4
    exact ⟨h1, h2.below⟩
end Go.Proofs.Ytknkhdjhongklaa
end
section
namespace Go.Proofs.Ytknkhdjhongklaa
open Go.RowKit
set_option maxRecDepth 100000
def zBI : Entry := ⟨⟨[.c (.agg [(.b (.int .i64)), (.b (.int .i64)), (.b (.int .i64))]), .c (.one (.b (.int .i64)))], []⟩, [.int, .int, .int, .int], ⟨[.tup [(.one (.b (.int .i64))), (.one (.b .bool))]], []⟩, [.int, .bool], zFa⟩
def zCV : Env := mkEnv tab [] 19 0 [] []
theorem zF2 : CtrOk Try.prog zCV.Γ := ctr_ok (l := []) trivial
theorem zEi : GC Try.prog 58 zBI := gc_of (G := zCV) (c := Try.f58.body.getD .skip) bad_ok tabOk zF2 mixed Try.func58 (by kernel_rfl) Try.ntmps58 (code_ok' (G := zCV) (n := 0) (by kernel_rfl) (by kernel_rfl) trivial (by kernel_rfl)) (fun s => by kernel_rfl)
def zBL : Entry := ⟨⟨[.c (.one (.b (.int .i64))), .c (.one (.b (.int .i64))), .c (.one (.b (.int .i64)))], []⟩, [.int, .int, .int], ⟨[.c (.one (.b .bool))], []⟩, [.bool], zFd⟩
def zCY : Env := mkEnv tab [] 15 0 [] []
theorem zF5 : CtrOk Try.prog zCY.Γ := ctr_ok (l := []) trivial
theorem zEl : GC Try.prog 44 zBL := gc_of (G := zCY) (c := Try.f44.body.getD .skip) bad_ok tabOk zF5 mixed Try.func44 (by kernel_rfl) Try.ntmps44 (code_ok' (G := zCY) (n := 0) (by kernel_rfl) (by kernel_rfl) trivial (by kernel_rfl)) (fun s => by kernel_rfl)
def zCK : Entry := ⟨⟨[.c (.one (.b (.int .i64))), .c (.one (.b (.int .i64))), .c (.one (.b (.int .i64)))], []⟩, [.int, .int, .int], ⟨[.c (.one (.b .bool))], []⟩, [.bool], zFV⟩
def zDD : Env := mkEnv tab [] 15 0 [] []
theorem zGK : CtrOk Try.prog zDD.Γ := ctr_ok (l := []) trivial
theorem zE3 : GC Try.prog 40 zCK := gc_of (G := zDD) (c := Try.f40.body.getD .skip) bad_ok tabOk zGK mixed Try.func40 (by kernel_rfl) Try.ntmps40 (code_ok' (G := zDD) (n := 0) (by kernel_rfl) (by kernel_rfl) trivial (by kernel_rfl)) (fun s => by kernel_rfl)
def zBF : Entry := ⟨⟨[.c (.agg [(.b (.int .i64)), (.b (.int .i64)), (.b (.int .i64))]), .c (.one (.at_ [(.int .i64)] 0)), .c (.one (.at_ [(.int .i64)] 0))], []⟩, [.int, .int, .int, .int, .int], ⟨[.c (.one (.b .bool))], []⟩, [.bool], zE7⟩
def zCS : Env := mkEnv tab [] 19 0 [] []
theorem zFZ : CtrOk Try.prog zCS.Γ := ctr_ok (l := []) trivial
theorem zEf : GC Try.prog 61 zBF := gc_of (G := zCS) (c := Try.f61.body.getD .skip) bad_ok tabOk zFZ mixed Try.func61 (by kernel_rfl) Try.ntmps61 (code_ok' (G := zCS) (n := 0) (by kernel_rfl) (by kernel_rfl) trivial (by kernel_rfl)) (fun s => by kernel_rfl)
def zAH : Loop := ⟨⟨[1, 2, 3, 7], ⟨[.c (.one (.b (.int .i64))), .c (.one (.b (.int .i64))), .c (.one (.ptr 0 0)), .c (.one (.b (.int .i64)))], [.box 28 [(.b (.int .i64)), (.b (.sl false .lk))]]⟩, [.int, .int, .int, .int, .ls .lk]⟩, 0, ⟨[], ⟨[], []⟩, []⟩, ⟨[6], ⟨[.c (.one (.b (.int .i64)))], []⟩, [.int]⟩, lp zBf fuel⟩
def zCJ : Entry := ⟨⟨[.c (.agg [(.b (.int .i64)), (.b (.sl false .lk))]), .c (.one (.b (.int .i64))), .c (.one (.b (.int .i64)))], []⟩, [.int, .ls .lk, .int, .int], ⟨[.c (.one (.b (.int .i64)))], []⟩, [.int], zFU⟩
def zDC : Env := mkEnv tab [] 38 0 [] [(2, zAH)]
theorem zGJ : CtrOk Try.prog zDC.Γ := ctr_ok (l := []) trivial
theorem zEb : LoopOk Try.prog 0 38 (nthC (Try.f41.body.getD .skip) 0) zAH := loop_ok (G := zDC) (F := zAH.F) (eid := zAH.eid) (FX := zAH.FX) (FR := zAH.FR) (B := zBf) (n := fuel) bad_ok tabOk zGJ mixed (code_ok' (G := zDC) (n := 0) (by kernel_rfl) (by kernel_rfl) trivial (by kernel_rfl)) (fun s => by kernel_rfl)
theorem zE2 : GC Try.prog 41 zCJ := gc_of (G := zDC) (c := Try.f41.body.getD .skip) bad_ok tabOk zGJ mixed Try.func41 (by kernel_rfl) Try.ntmps41 (code_ok' (G := zDC) (n := 1) (by kernel_rfl) (by kernel_rfl) ⟨trivial, loop_at (id := 2) (L0 := zAH) (by kernel_rfl) (by kernel_rfl) zEb⟩ (by kernel_rfl)) (fun s => by kernel_rfl)
def zAd : Loop := ⟨⟨[1, 5, 12, 13, 14], ⟨[.c (.one (.b (.int .i64))), .c (.one (.own 0)), .c (.one (.b (.sl false .lk))), .c (.one (.b (.int .i64))), .c (.one (.b (.int .i64)))], [.row 3 .int]⟩, [.int, .ls .lk, .int, .int, .ls .int]⟩, 0, ⟨[5], ⟨[.c (.one (.own 0))], [.row 3 .int]⟩, [.ls .int]⟩, ⟨[999999], ⟨[.c (.one (.own 0))], []⟩, []⟩, lp zAL fuel⟩
def zBH : Entry := ⟨⟨[.c (.agg [(.b (.int .i64)), (.b (.sl false .lk))]), .c (.one (.b (.int .i64)))], []⟩, [.int, .ls .lk, .int], ⟨[.c (.one (.own 0))], [.row 3 .int]⟩, [.ls .int], zE9⟩
def zCU : Env := mkEnv tab [(59, [], zCC), (58, [], zBI)] 33 0 [] [(3, zAd)]
theorem zF1 : CtrOk Try.prog zCU.Γ := ctr_ok (l := [(59, [], zCC), (58, [], zBI)]) ⟨⟨zEV, Try.call59⟩, ⟨⟨zEi, Try.call58⟩, trivial⟩⟩
theorem zDH : LoopOk Try.prog 0 33 (nthC (Try.f46.body.getD .skip) 0) zAd := loop_ok (G := zCU) (F := zAd.F) (eid := zAd.eid) (FX := zAd.FX) (FR := zAd.FR) (B := zAL) (n := fuel) bad_ok tabOk zF1 mixed (code_ok' (G := zCU) (n := 0) (by kernel_rfl) (by kernel_rfl) trivial (by kernel_rfl)) (fun s => by kernel_rfl)
theorem zEh : GC Try.prog 46 zBH := gc_of (G := zCU) (c := Try.f46.body.getD .skip) bad_ok tabOk zF1 mixed Try.func46 (by kernel_rfl) Try.ntmps46 (code_ok' (G := zCU) (n := 1) (by kernel_rfl) (by kernel_rfl) ⟨trivial, loop_at (id := 3) (L0 := zAd) (by kernel_rfl) (by kernel_rfl) zDH⟩ (by kernel_rfl)) (fun s => by kernel_rfl)
def zAB : Loop := ⟨⟨[1, 3], ⟨[.c (.one (.ptr 0 0)), .c (.one (.b (.int .i64)))], [.box 28 [(.b (.int .i64)), (.b (.sl false .lk))]]⟩, [.int, .int, .ls .lk]⟩, 0, ⟨[1], ⟨[.c (.one (.ptr 0 0))], [.box 28 [(.b (.int .i64)), (.b (.sl false .lk))]]⟩, [.int, .ls .lk]⟩, ⟨[2], ⟨[.c (.one (.b .bool))], []⟩, [.bool]⟩, lp zA9 fuel⟩
def zCD : Entry := ⟨⟨[.c (.agg [(.b (.int .i64)), (.b (.sl false .lk))])], []⟩, [.int, .ls .lk], ⟨[.c (.one (.b .bool))], []⟩, [.bool], zFO⟩
def zDw : Env := mkEnv tab [(40, [], zCK)] 89 0 [(7, 34, [(0, true), (1, true), (2, true), (3, true), (4, true), (5, true), (6, true), (7, true), (8, true), (9, true), (10, true), (11, true), (12, true), (13, true), (14, true), (15, true), (16, true), (17, true), (18, true), (19, true), (20, true), (21, true), (22, true), (23, true), (24, true), (25, true), (26, true), (27, true), (28, true), (29, true), (30, true), (31, true), (32, true), (33, true)], [])] [(2, zAB)]
theorem zGD : CtrOk Try.prog zDw.Γ := ctr_ok (l := [(40, [], zCK)]) ⟨⟨zE3, Try.call40⟩, trivial⟩
theorem zD5 : LoopOk Try.prog 0 89 (nthC (Try.f14.body.getD .skip) 0) zAB := loop_ok (G := zDw) (F := zAB.F) (eid := zAB.eid) (FX := zAB.FX) (FR := zAB.FR) (B := zA9) (n := fuel) bad_ok tabOk zGD mixed (code_ok' (G := zDw) (n := 0) (by kernel_rfl) (by kernel_rfl) trivial (by kernel_rfl)) (fun s => by kernel_rfl)
theorem zEW : GC Try.prog 14 zCD := gc_of (G := zDw) (c := Try.f14.body.getD .skip) bad_ok tabOk zGD mixed Try.func14 (by kernel_rfl) Try.ntmps14 (code_ok' (G := zDw) (n := 1) (by kernel_rfl) (by kernel_rfl) ⟨trivial, loop_at (id := 2) (L0 := zAB) (by kernel_rfl) (by kernel_rfl) zD5⟩ (by kernel_rfl)) (fun s => by kernel_rfl)
def zAa : Loop := ⟨⟨[1, 16, 17, 18], ⟨[.c (.one (.ptr 0 0)), .c (.one (.b (.sl false .lk))), .c (.one (.b (.int .i64))), .c (.one (.b (.int .i64)))], [.box 28 [(.b (.int .i64)), (.b (.sl false .lk))]]⟩, [.ls .lk, .int, .int, .int, .ls .lk]⟩, 0, ⟨[], ⟨[], []⟩, []⟩, ⟨[2], ⟨[.c (.one (.b .bool))], []⟩, [.bool]⟩, lp zAI fuel⟩
def zBC : Entry := ⟨⟨[.c (.agg [(.b (.int .i64)), (.b (.sl false .lk))])], []⟩, [.int, .ls .lk], ⟨[.c (.one (.b .bool))], []⟩, [.bool], zE4⟩
def zCP : Env := mkEnv tab [(44, [], zBL)] 85 0 [(8, 34, [(0, true), (1, true), (2, true), (3, true), (4, true), (5, true), (6, true), (7, true), (8, true), (9, true), (10, true), (11, true), (12, true), (13, true), (14, true), (15, true), (16, true), (17, true), (18, true), (19, true), (20, true), (21, true), (22, true), (23, true), (24, true), (25, true), (26, true), (27, true), (28, true), (29, true), (30, true), (31, true), (32, true), (33, true)], [])] [(4, zAa)]
theorem zFW : CtrOk Try.prog zCP.Γ := ctr_ok (l := [(44, [], zBL)]) ⟨⟨zEl, Try.call44⟩, trivial⟩
theorem zDE : LoopOk Try.prog 0 85 (nthC (Try.f19.body.getD .skip) 0) zAa := loop_ok (G := zCP) (F := zAa.F) (eid := zAa.eid) (FX := zAa.FX) (FR := zAa.FR) (B := zAI) (n := fuel) bad_ok tabOk zFW mixed (code_ok' (G := zCP) (n := 0) (by kernel_rfl) (by kernel_rfl) trivial (by kernel_rfl)) (fun s => by kernel_rfl)
theorem zEc : GC Try.prog 19 zBC := gc_of (G := zCP) (c := Try.f19.body.getD .skip) bad_ok tabOk zFW mixed Try.func19 (by kernel_rfl) Try.ntmps19 (code_ok' (G := zCP) (n := 1) (by kernel_rfl) (by kernel_rfl) ⟨trivial, loop_at (id := 4) (L0 := zAa) (by kernel_rfl) (by kernel_rfl) zDE⟩ (by kernel_rfl)) (fun s => by kernel_rfl)
def zAA : Loop := ⟨⟨[0, 1, 7, 8], ⟨[.c (.one (.b (.sl false .lk))), .c (.fn 61 [(.at_ [(.int .i64)] 0), (.at_ [(.int .i64)] 0)]), .c (.one (.b (.int .i64))), .c (.one (.b (.int .i64)))], []⟩, [.ls .lk, .int, .int, .int, .int]⟩, 0, ⟨[], ⟨[], []⟩, []⟩, ⟨[4], ⟨[.c (.one (.b (.int .i64)))], []⟩, [.int]⟩, lp zA8 fuel⟩
def zCz : Entry := ⟨⟨[.c (.one (.b (.sl false .lk))), .c (.fn 61 [(.at_ [(.int .i64)] 0), (.at_ [(.int .i64)] 0)])], []⟩, [.ls .lk, .int, .int], ⟨[.c (.one (.b (.int .i64)))], []⟩, [.int], zFK⟩
def zDv : Env := mkEnv tab [(61, [], zBF)] 19 0 [] [(2, zAA)]
theorem zGC : CtrOk Try.prog zDv.Γ := ctr_ok (l := [(61, [], zBF)]) ⟨⟨zEf, Try.call61⟩, trivial⟩
theorem zD4 : LoopOk Try.prog 0 19 (nthC (Try.f60.body.getD .skip) 0) zAA := loop_ok (G := zDv) (F := zAA.F) (eid := zAA.eid) (FX := zAA.FX) (FR := zAA.FR) (B := zA8) (n := fuel) bad_ok tabOk zGC mixed (code_ok' (G := zDv) (n := 0) (by kernel_rfl) (by kernel_rfl) trivial (by kernel_rfl)) (fun s => by kernel_rfl)
theorem zES : GC Try.prog 60 zCz := gc_of (G := zDv) (c := Try.f60.body.getD .skip) bad_ok tabOk zGC mixed Try.func60 (by kernel_rfl) Try.ntmps60 (code_ok' (G := zDv) (n := 1) (by kernel_rfl) (by kernel_rfl) ⟨trivial, loop_at (id := 2) (L0 := zAA) (by kernel_rfl) (by kernel_rfl) zD4⟩ (by kernel_rfl)) (fun s => by kernel_rfl)
def zBE : Entry := ⟨⟨[.c (.agg [(.b (.int .i64)), (.b (.sl false .lk))]), .c (.one (.b (.int .i64))), .c (.one (.b (.int .i64)))], []⟩, [.int, .ls .lk, .int, .int], ⟨[.c (.one (.b (.int .i64)))], []⟩, [.int], zE6⟩
def zCR : Env := mkEnv tab [(61, [], zBF), (60, [61], zCz)] 11 0 [] []
theorem zFY : CtrOk Try.prog zCR.Γ := ctr_ok (l := [(61, [], zBF), (60, [61], zCz)]) ⟨⟨zEf, Try.call61⟩, ⟨⟨zES, Try.call60⟩, trivial⟩⟩
theorem zEe : GC Try.prog 47 zBE := gc_of (G := zCR) (c := Try.f47.body.getD .skip) bad_ok tabOk zFY mixed Try.func47 (by kernel_rfl) Try.ntmps47 (code_ok' (G := zCR) (n := 0) (by kernel_rfl) (by kernel_rfl) trivial (by kernel_rfl)) (fun s => by kernel_rfl)
end Go.Proofs.Ytknkhdjhongklaa
end
