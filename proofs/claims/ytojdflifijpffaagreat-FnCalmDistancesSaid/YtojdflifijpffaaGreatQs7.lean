/- Part 7 of the proof: Pw4 Pw5 Pg Pw6 Pw8 Pe3 Pe4 Pe5 Pe6 Pe7 Pe8 Pe9 PeA PeB Pc PeC PeD PeF PeI PeL. -/
import Derived.Test.YtojdflifijpffaaGreatQs6
set_option linter.unusedSimpArgs false
set_option linter.unusedVariables false
section
namespace Go.Proofs.YtojdflifijpffaaGreat
open Go.RowKit
set_option linter.unusedSimpArgs false
set_option linter.unusedVariables false

theorem nbS_congr {ls ls' : List Lk} {m : Int} (h : ∀ x : Int, lc ls m x = lc ls' m x) (k : Nat) : nbS ls m k = nbS ls' m k := by
  unfold nbS
  congr 1
  refine List.filter_congr fun x _ => ?_
  rw [← lc_lof, ← lc_lof, h]
theorem endsOf_congr {ls ls' : List Lk} {m : Int} (h : ∀ x : Int, lc ls m x = lc ls' m x) (N : Nat) : endsOf ls N m = endsOf ls' N m := by
  unfold endsOf
  rw [nbS_congr h N]
  exact List.map_congr_left fun x _ => by rw [h]
theorem upd_get {up : List Bool} {k i : Nat} {u : Bool} (h : i ≠ k) : (up.set k u).getD i false = up.getD i false := by
  simp only [List.getD, List.getElem?_set]
  rw [if_neg (fun e => h e.symm)]
theorem tru_far {n : Int} {ls : List Lk} (g : GV n ls) {up : List Bool} {k : Nat} {u : Bool} {o : Int} (ha : o ≠ (lk ls k).a) (hb : o ≠ (lk ls k).b) (x : Int) : lc (tru ls (up.set k u)) o x = lc (tru ls up) o x := by
  have key : ∀ c, (⟨min o x, max o x, c⟩ : Lk) ∈ tru ls (up.set k u) ↔ (⟨min o x, max o x, c⟩ : Lk) ∈ tru ls up := fun c => by
    rw [tru_mem, tru_mem]
    have ne : ∀ i, (⟨min o x, max o x, c⟩ : Lk) = lk ls i → i ≠ k := fun i e hik => by
      subst hik
      rw [← e] at ha hb
      dsimp only at ha hb
      omega
    constructor
    · rintro ⟨i, h1, h2, h3⟩
      exact ⟨i, h1, by rwa [upd_get (ne i h3)] at h2, h3⟩
    · rintro ⟨i, h1, h2, h3⟩
      exact ⟨i, h1, by rwa [upd_get (ne i h3)], h3⟩
  refine Option.ext fun c => ?_
  have h1 := lc_iff (tru_gv g (up.set k u)).pw (a := o) (b := x) (c := c)
  have h2 := lc_iff (tru_gv g up).pw (a := o) (b := x) (c := c)
  exact (h1.trans (key c)).trans h2.symm
theorem up_ok {w : Wd} (h : WV w Nob) {k : Nat} (hk : k < w.ls.length) (u : Bool) : WV { w with up := w.up.set k u } (fun o => o = (lk w.ls k).a ∨ o = (lk w.ls k).b) :=
  ⟨h.g, by show (w.up.set k u).length = w.ls.length; rw [List.length_set]; exact h.up, h.sq, h.db, h.net, h.rng, h.ok, h.own, fun l hl => by
    obtain ⟨p1, p2, p3, p4, p5⟩ := h.poss l hl
    refine ⟨p1, p2, p3, p4, ?_⟩
    by_cases hA : l.o = (lk w.ls k).a ∨ l.o = (lk w.ls k).b
    · exact .inr (.inr hA)
    · refine p5.imp id fun q => .inl ?_
      have q := q.resolve_right id
      show l.e = endsOf (tru w.ls (w.up.set k u)) w.n.toNat l.o
      rw [q]
      exact (endsOf_congr (tru_far h.g (fun e => hA (.inl e)) (fun e => hA (.inr e))) _).symm, h.agr, h.tgt⟩
def turnW (w : Wd) (k : Nat) (u : Bool) : Wd := if w.up.getD k false = u ∨ 99 ≤ iz w.sq (lk w.ls k).a.toNat ∨ 99 ≤ iz w.sq (lk w.ls k).b.toNat then w else annW (annW { w with up := w.up.set k u } (lk w.ls k).a.toNat) (lk w.ls k).b.toNat
theorem turn_ok {w : Wd} (h : WV w Nob) {k : Nat} (hk : k < w.ls.length) (u : Bool) : WV (turnW w k u) Nob := by
  unfold turnW
  split
  · exact h
  · rename_i hn
    have hdb := h.db
    have hsq := h.sq
    have ho := h.g.ok (lk_mem hk)
    unfold okL at ho
    have h1 := ann_ok (up_ok h hk u) (i := (lk w.ls k).a.toNat) (by show _ < w.db.length; omega) (by show iz w.sq _ < 99; omega)
    have h2 := ann_ok h1 (i := (lk w.ls k).b.toNat) (by show _ < (w.db.set _ _).length; rw [List.length_set]; omega) (by
      show iz (w.sq.set (lk w.ls k).a.toNat _) (lk w.ls k).b.toNat < 99
      rw [iz_set' (by omega), if_neg (by omega)]
      omega)
    refine h2.mono fun o ho' => ?_
    obtain ⟨⟨q, q1⟩, q2⟩ := ho'
    rcases q with e | e
    · exact q1 (by omega)
    · exact q2 (by omega)
def newW (n : Int) (ls : List Lk) : Wd := ⟨n, ls, List.replicate ls.length true, List.replicate n.toNat 1, List.replicate n.toNat ((List.range n.toNat).map fun i : Nat => (⟨i, 1, endsOf ls n.toNat i⟩ : Ls)), []⟩
theorem tru_all (ls : List Lk) : tru ls (List.replicate ls.length true) = ls := by
  unfold tru trK
  have : (List.range ls.length).filter (fun i => (List.replicate ls.length true).getD i false) = List.range ls.length := by
    rw [List.filter_eq_self]
    intro i hi
    have := List.mem_range.1 hi
    simp [List.getD, this]
  rw [this]
  refine List.ext_getElem (by simp) fun i h1 h2 => ?_
  rw [List.getElem_map, List.getElem_range, hit_lk h2]
theorem new_ok {N : Nat} {ls : List Lk} (g : GV N ls) : WV (newW N ls) Nob := by
  have hr : ∀ i, i < N → iz (List.replicate N (1 : Int)) i = 1 := fun i hi => by simp [iz, List.getD, hi]
  have hd : ∀ i, i < N → dbx (newW N ls).db i = (List.range N).map fun i : Nat => (⟨i, 1, endsOf ls N i⟩ : Ls) := fun i hi => by
    show dbx (List.replicate (N : Int).toNat _) i = _
    rw [Int.toNat_natCast]
    simp [dbx, List.getD, hi]
  have hm : ∀ i, i < N → ∀ l, l ∈ dbx (newW N ls).db i ↔ ∃ j, j < N ∧ l = ⟨j, 1, endsOf ls N j⟩ := fun i hi l => by
    rw [hd i hi, List.mem_map]
    constructor
    · rintro ⟨j, hj, rfl⟩; exact ⟨j, List.mem_range.1 hj, rfl⟩
    · rintro ⟨j, hj, rfl⟩; exact ⟨j, List.mem_range.2 hj, rfl⟩
  have hlen : (newW N ls).db.length = N := by simp [newW]
  have said : ∀ l, Said (newW N ls) l → ∃ j, j < N ∧ l = ⟨j, 1, endsOf ls N j⟩ := fun l hl => by
    rcases hl with ⟨i, hi, hl⟩ | ⟨p, hp, _⟩
    · rw [hlen] at hi
      exact (hm i hi l).1 hl
    · simp [newW] at hp
  have h1 := g.1
  refine ⟨g, by simp [newW], by simp [newW], by simp [newW], by simp [newW], fun i hi => ?_, fun i hi => ?_, fun i hi => ?_, fun l hl => ?_, fun x y hx hy e1 e2 => ?_, fun p hp => by simp [newW] at hp⟩
  · have hi : i < N := by simpa [newW] using hi
    show 1 ≤ iz (List.replicate (N : Int).toNat 1) i ∧ iz (List.replicate (N : Int).toNat 1) i ≤ 99
    rw [Int.toNat_natCast, hr i hi]
    omega
  · rw [hlen] at hi
    rw [hd i hi]
    refine dbV_iff.2 ⟨fun l hl => ?_, ?_⟩
    · obtain ⟨j, hj, rfl⟩ := List.mem_map.1 hl
      exact endsOf_ok g (List.mem_range.1 hj)
    · unfold SrtP
      rw [List.pairwise_map]
      refine List.Pairwise.imp ?_ (List.pairwise_lt_range (n := N))
      intro a b hab
      show (a : Int) < b
      omega
  · rw [hlen] at hi
    refine ⟨⟨i, 1, endsOf ls N i⟩, (hm i hi _).2 ⟨i, hi, rfl⟩, rfl, ?_⟩
    show 1 = iz (List.replicate (N : Int).toNat 1) i
    rw [Int.toNat_natCast, hr i hi]
  · obtain ⟨j, hj, rfl⟩ := said l hl
    have hs : iz (newW N ls).sq ((j : Nat) : Int).toNat = 1 := by
      show iz (List.replicate (N : Int).toNat 1) ((j : Nat) : Int).toNat = 1
      rw [Int.toNat_natCast, Int.toNat_natCast, hr j hj]
    refine ⟨endsOf_ok g hj, ?_, ?_, fun e he => endsOf_mem he, .inr (.inl ?_)⟩
    · show (j : Int) < N; omega
    · rw [hs]; exact Int.le_refl _
    · show endsOf ls N j = endsOf (tru ls (List.replicate ls.length true)) (N : Int).toNat j
      rw [tru_all, Int.toNat_natCast]
  · obtain ⟨i, _, rfl⟩ := said x hx
    obtain ⟨j, _, rfl⟩ := said y hy
    dsimp only at e1
    obtain rfl : i = j := by omega
    rfl
end Go.Proofs.YtojdflifijpffaaGreat
end
section
namespace Go.Proofs.YtojdflifijpffaaGreat
open Go.RowKit
set_option linter.unusedSimpArgs false
set_option linter.unusedVariables false

def pkx (net : List Pk) (i : Nat) : Pk := net.getD i ⟨0, ⟨0, 0, []⟩⟩
theorem pkx_mem {net : List Pk} {i : Nat} (h : i < net.length) : pkx net i ∈ net := by
  unfold pkx
  rw [List.getD, List.getElem?_eq_getElem h]
  exact List.getElem_mem h
def syncW (w : Wd) (k : Nat) : Wd := if w.up.getD k false then synW w (lk w.ls k).a.toNat (lk w.ls k).b.toNat else w
def doW (w : Wd) (kind a : Int) : Wd :=
  if (kind = 1 ∨ kind = 2) ∧ 0 ≤ a ∧ a < w.up.length then turnW w a.toNat (decide (kind = 2))
  else if kind = 3 ∧ 0 ≤ a ∧ a < w.net.length then hearW { w with net := w.net.eraseIdx a.toNat } (pkx w.net a.toNat).t.toNat (pkx w.net a.toNat).p
  else if kind = 4 ∧ 0 ≤ a ∧ a < w.net.length then { w with net := w.net.eraseIdx a.toNat }
  else if kind = 5 ∧ 0 ≤ a ∧ a < w.net.length then (if w.net.length < 16 then { w with net := w.net ++ [pkx w.net a.toNat] } else w)
  else if kind = 6 ∧ 0 ≤ a ∧ a < w.up.length then syncW w a.toNat
  else w
theorem sync_ok {w : Wd} (h : WV w Nob) {k : Nat} (hk : k < w.ls.length) : WV (syncW w k) Nob := by
  unfold syncW
  split
  · have ho := h.g.ok (lk_mem hk)
    have hdb := h.db
    unfold okL at ho
    exact syn_ok h (by omega) (by omega)
  · exact h
theorem do_ok {w : Wd} (h : WV w Nob) (kind a : Int) : WV (doW w kind a) Nob := by
  have hup := h.up
  unfold doW
  split
  · exact turn_ok h (by omega) _
  split
  · rename_i hp
    have hm : pkx w.net a.toNat ∈ w.net := pkx_mem (by omega)
    have hs : Said w (pkx w.net a.toNat).p := .inr ⟨_, hm, rfl⟩
    have hP := h.poss _ hs
    have ht := h.tgt _ hm
    have hdb := h.db
    refine hear_ok (lose_ok h a.toNat) (by show _ < w.db.length; omega) hP.1 hP.2.1 hP.2.2.1 hP fun y hy e1 e2 => ?_
    refine h.agr _ y hs ?_ e1 e2
    rcases hy with hy | ⟨p, hp, rfl⟩
    · exact .inl hy
    · exact .inr ⟨p, List.mem_of_mem_eraseIdx hp, rfl⟩
  split
  · exact lose_ok h _
  split
  · split
    · exact twice_ok h (pkx_mem (by omega)) (by assumption)
    · exact h
  split
  · exact sync_ok h (by omega)
  · exact h
def swpK (w : Wd) : Nat → Wd
  | 0 => w
  | k + 1 => syncW (swpK w k) k
def swpW (w : Wd) : Wd := swpK w w.ls.length
def calK (w : Wd) : Nat → Wd
  | 0 => w
  | k + 1 => swpW (calK w k)
def calW (w : Wd) : Wd := calK { w with net := [] } w.n.toNat
theorem sync_same (w : Wd) (k : Nat) : (syncW w k).n = w.n ∧ (syncW w k).ls = w.ls ∧ (syncW w k).up = w.up ∧ (syncW w k).sq = w.sq ∧ (syncW w k).net = w.net ∧ (syncW w k).db.length = w.db.length := by
  unfold syncW
  split
  · exact ⟨rfl, rfl, rfl, rfl, rfl, by simp [synW]⟩
  · exact ⟨rfl, rfl, rfl, rfl, rfl, rfl⟩
theorem swp_same (w : Wd) (k : Nat) : (swpK w k).n = w.n ∧ (swpK w k).ls = w.ls ∧ (swpK w k).up = w.up ∧ (swpK w k).sq = w.sq ∧ (swpK w k).net = w.net ∧ (swpK w k).db.length = w.db.length := by
  induction k with
  | zero => exact ⟨rfl, rfl, rfl, rfl, rfl, rfl⟩
  | succ k ih =>
    have h := sync_same (swpK w k) k
    exact ⟨h.1.trans ih.1, h.2.1.trans ih.2.1, h.2.2.1.trans ih.2.2.1, h.2.2.2.1.trans ih.2.2.2.1, h.2.2.2.2.1.trans ih.2.2.2.2.1, h.2.2.2.2.2.trans ih.2.2.2.2.2⟩
theorem cal_same (w : Wd) (k : Nat) : (calK w k).n = w.n ∧ (calK w k).ls = w.ls ∧ (calK w k).up = w.up ∧ (calK w k).sq = w.sq ∧ (calK w k).net = w.net ∧ (calK w k).db.length = w.db.length := by
  induction k with
  | zero => exact ⟨rfl, rfl, rfl, rfl, rfl, rfl⟩
  | succ k ih =>
    have h := swp_same (calK w k) (calK w k).ls.length
    exact ⟨h.1.trans ih.1, h.2.1.trans ih.2.1, h.2.2.1.trans ih.2.2.1, h.2.2.2.1.trans ih.2.2.2.1, h.2.2.2.2.1.trans ih.2.2.2.2.1, h.2.2.2.2.2.trans ih.2.2.2.2.2⟩
theorem swp_ok {w : Wd} (h : WV w Nob) : ∀ k, k ≤ w.ls.length → WV (swpK w k) Nob
  | 0, _ => h
  | k + 1, hk => sync_ok (swp_ok h k (by omega)) (by rw [(swp_same w k).2.1]; omega)
theorem cal_ok {w : Wd} (h : WV w Nob) : ∀ k, WV (calK w k) Nob
  | 0 => h
  | k + 1 => swp_ok (cal_ok h k) _ (Nat.le_refl _)
theorem calW_ok {w : Wd} (h : WV w Nob) : WV (calW w) Nob := by
  refine cal_ok (h.less (db' := w.db) rfl (by simp) h.ok h.own (fun l hl => ?_) (by simp)) _
  rcases hl with hl | ⟨p, hp, _⟩
  · exact .inl hl
  · simp at hp
theorem swp_db {w : Wd} (h : WV w Nob) : ∀ k, k ≤ w.ls.length → (fun n => dbx (swpK w k).db n) = swD (prs (trK w.ls w.up k)) (fun n => dbx w.db n)
  | 0, _ => rfl
  | k + 1, hk => by
    have ih := swp_db h k (by omega)
    have hs := swp_same w k
    have ho := h.g.ok (lk_mem (show k < w.ls.length by omega))
    have hdb := h.db
    unfold okL at ho
    show (fun n => dbx (syncW (swpK w k) k).db n) = _
    unfold syncW
    rw [hs.2.2.1, hs.2.1, trK_succ]
    cases hu : w.up.getD k false with
    | false => rw [if_neg (by simp), if_neg (by simp)]; exact ih
    | true =>
      rw [if_pos rfl, if_pos rfl]
      unfold swD prs at *
      rw [List.map_append, List.foldl_append, ← ih]
      funext n
      rw [syn_dbx (by rw [hs.2.2.2.2.2]; omega) (by rw [hs.2.2.2.2.2]; omega)]
      rfl
theorem cal_db {w : Wd} (h : WV w Nob) : ∀ k, (fun n => dbx (calK w k).db n) = swDK (prs (tru w.ls w.up)) (fun n => dbx w.db n) k
  | 0 => rfl
  | k + 1 => by
    have ih := cal_db h k
    have hs := cal_same w k
    have := swp_db (cal_ok h k) (calK w k).ls.length (Nat.le_refl _)
    show (fun n => dbx (swpK (calK w k) (calK w k).ls.length).db n) = swD (prs (tru w.ls w.up)) (swDK (prs (tru w.ls w.up)) (fun n => dbx w.db n) k)
    rw [this, ih, hs.2.1, hs.2.2.1]
    rfl
theorem WV.know {w : Wd} (h : WV w Nob) : Know fun n => dbx w.db n := by
  have out : ∀ n, w.db.length ≤ n → dbx w.db n = [] := fun n hn => by
    unfold dbx
    rw [List.getD, List.getElem?_eq_none hn]; rfl
  refine ⟨fun n => ?_, fun n l hl => ?_, fun m n x hx y hy => ?_⟩
  · rcases Nat.lt_or_ge n w.db.length with hn | hn
    · exact srt_iff.1 (h.ok n hn).srt
    · show SrtP (dbx w.db n)
      rw [out n hn]; exact List.Pairwise.nil
  · rcases Nat.lt_or_ge n w.db.length with hn | hn
    · exact (h.ok n hn).pos l hl
    · have hl : l ∈ dbx w.db n := hl
      rw [out n hn] at hl; simp at hl
  · have hx : x ∈ dbx w.db m := hx
    have hy : y ∈ dbx w.db n := hy
    rcases Nat.lt_or_ge m w.db.length with hm | hm
    · rcases Nat.lt_or_ge n w.db.length with hn | hn
      · exact h.agr x y (.inl ⟨m, hm, hx⟩) (.inl ⟨n, hn, hy⟩)
      · rw [out n hn] at hy; simp at hy
    · rw [out m hm] at hx; simp at hx
end Go.Proofs.YtojdflifijpffaaGreat
end
section
namespace Go.Proofs.YtojdflifijpffaaGreat
open Go.RowKit
section
variable {N : Nat} {la lb : List Lk}
theorem adj_grid {f : Nat → Nat → Option Int} {x y : Nat} {c : Int} : Adj (grid f N) x y c ↔ (x < y ∧ y < N ∧ f x y = some c) ∨ (y < x ∧ x < N ∧ f y x = some c) := by
  constructor
  · rintro ⟨l, hl, rfl, h⟩
    obtain ⟨a, b, c, h1, h2, h3, rfl⟩ := mem_grid.1 hl
    dsimp only at h ⊢
    rcases h with ⟨e1, e2⟩ | ⟨e1, e2⟩
    · obtain rfl : a = x := by omega
      obtain rfl : b = y := by omega
      exact .inl ⟨h1, h2, h3⟩
    · obtain rfl : a = y := by omega
      obtain rfl : b = x := by omega
      exact .inr ⟨h1, h2, h3⟩
  · rintro (⟨h1, h2, h3⟩ | ⟨h1, h2, h3⟩)
    · exact ⟨⟨x, y, c⟩, mem_grid.2 ⟨x, y, c, h1, h2, h3, rfl⟩, rfl, .inl ⟨rfl, rfl⟩⟩
    · exact ⟨⟨y, x, c⟩, mem_grid.2 ⟨y, x, c, h1, h2, h3, rfl⟩, rfl, .inr ⟨rfl, rfl⟩⟩
theorem adj_lc (g : GV N la) {x y : Nat} {c : Int} : Adj la x y c ↔ (x < y ∧ y < N ∧ lc la x y = some c) ∨ (y < x ∧ x < N ∧ lc la y x = some c) := by
  have := adj_grid (N := N) (f := fun a b => lc la a b) (x := x) (y := y) (c := c)
  rwa [g.grid] at this
end
section
variable {N : Nat} {ls : List Lk}
end
end Go.Proofs.YtojdflifijpffaaGreat
end
section
namespace Go.Proofs.YtojdflifijpffaaGreat
open Go.RowKit
set_option linter.unusedSimpArgs false
set_option linter.unusedVariables false

theorem calW_db {w : Wd} (h : WV w Nob) (n : Nat) : dbx (calW w).db n = swDK (prs (tru w.ls w.up)) (fun n => dbx w.db n) w.n.toNat n := by
  have h0 : WV { w with net := [] } Nob := by
    refine h.less (db' := w.db) rfl (by simp) h.ok h.own (fun l hl => ?_) (by simp)
    rcases hl with hl | ⟨p, hp, _⟩
    · exact .inl hl
    · simp at hp
  exact congrFun (cal_db h0 w.n.toNat) n
theorem calW_same (w : Wd) : (calW w).n = w.n ∧ (calW w).ls = w.ls ∧ (calW w).up = w.up ∧ (calW w).sq = w.sq ∧ (calW w).net = [] ∧ (calW w).db.length = w.db.length := cal_same { w with net := [] } w.n.toNat
section
variable {w : Wd} {N : Nat}
theorem tru_N (h : WV w Nob) (hN : w.n = N) : GV (N : Int) (tru w.ls w.up) := by
  have := tru_gv h.g w.up
  rwa [hN] at this
theorem calm_known (h : WV w Nob) (hN : w.n = N) {u v : Nat} (hu : u < N) (hv : v < N) (hj : Jn (tru w.ls w.up) u v) : dbx (calW w).db u = dbx (calW w).db v := by
  have g := tru_N h hN
  rw [calW_db h, calW_db h, hN, Int.toNat_natCast]
  exact calm_eq h.know g.ends g.cheap hu hv hj
theorem calm_true (h : WV w Nob) (hN : w.n = N) {u v : Nat} (hu : u < N) (hv : v < N) (hj : Jn (tru w.ls w.up) u v) : seqD (dbx (calW w).db u) v = iz w.sq v := by
  have g := tru_N h hN
  have hdb := h.db
  have hs := calW_same w
  have h1 : iz w.sq v ≤ seqD (dbx (calW w).db u) v := by
    rw [calW_db h, hN, Int.toNat_natCast, ← h.seq_own (show v < w.db.length by omega)]
    exact calm_ge h.know g.ends g.cheap hv hj.symm v
  have h2 := (calW_ok h).seq_le (i := u) (o := v) (by omega) (by omega)
  rw [hs.2.2.2.1] at h2
  omega
theorem last_true (h : WV w Nob) {i : Nat} (hi : i < w.db.length) {l : Ls} (hl : l ∈ dbx w.db i) {v : Nat} (ho : l.o = v) (hs : l.s = iz w.sq v) : l.e = endsOf (tru w.ls w.up) w.n.toNat v := by
  have hp := (h.poss l (.inl ⟨i, hi, hl⟩)).2.2.2.2
  rw [ho, Int.toNat_natCast] at hp
  rcases hp with e | e | e
  · omega
  · exact e
  · exact e.elim
theorem ann_true (h : WV w Nob) (hN : w.n = N) {i v x : Nat} (hi : i < N) (hv : v < N) (hx : x < N) (hq : seqD (dbx w.db i) v = iz w.sq v) : ann (dbx w.db i) v x = (lc (tru w.ls w.up) v x).getD 0 := by
  have hdb := h.db
  have hsq := h.sq
  have hr := h.rng v (by omega)
  obtain ⟨l, hl, ho, hs⟩ := own_of_seq (srt_iff.1 (h.ok i (by omega)).srt) (show 0 ≤ iz w.sq v by omega) hq
  have e := last_true h (by omega) hl ho hs
  unfold ann
  rw [(fd_some (srt_iff.1 (h.ok i (by omega)).srt)).2 ⟨hl, ho⟩]
  dsimp only
  rw [e, hN, Int.toNat_natCast]
  exact ec_endsOf (tru_N h hN) hx
theorem ann_poss (h : WV w Nob) (hN : w.n = N) {i a b : Nat} (hi : i < N) (hp : 0 < ann (dbx w.db i) a b) : lc w.ls a b = some (ann (dbx w.db i) a b) := by
  have hdb := h.db
  unfold ann at hp ⊢
  cases e : fd (dbx w.db i) a with
  | none => rw [e] at hp; simp at hp
  | some l =>
    rw [e] at hp
    dsimp only at hp ⊢
    obtain ⟨h1, h2⟩ := (fd_some (srt_iff.1 (h.ok i (by omega)).srt)).1 e
    have hP := (h.poss l (.inl ⟨i, by omega, h1⟩)).2.2.2.1
    unfold ec at hp ⊢
    cases e2 : l.e.find? (fun e => decide (e.n = (b : Int))) with
    | none => rw [e2] at hp; simp at hp
    | some en =>
      have hm := List.mem_of_find?_eq_some e2
      have hb : en.n = b := of_decide_eq_true (List.find?_some (p := fun e : En => decide (e.n = (b : Int))) e2)
      have := hP en hm
      rw [h2, hb] at this
      exact this
theorem seen_cost (h : WV w Nob) (hN : w.n = N) {i a b : Nat} {c : Int} (hi : i < N) (e : dbF (dbx w.db i) a b = some c) : lc w.ls a b = some c := by
  unfold dbF at e
  split at e
  · rename_i hp
    injection e with e
    have h1 := ann_poss h hN hi hp.1
    have h2 := ann_poss h hN hi hp.2
    rw [lc_symm] at h2
    rw [h1] at h2
    injection h2 with h2
    rw [h1]
    congr 1
    omega
  · cases e
theorem seen_gv (h : WV w Nob) (hN : w.n = N) {i : Nat} (hi : i < N) : GV N (grid (dbF (dbx w.db i)) N) := by
  have g : GV (N : Int) w.ls := by have := h.g; rwa [hN] at this
  refine grid_gv (by have := g.1; omega) (by have := g.2.1; omega) (fun a b c _ _ e => lc_cost g (seen_cost h hN hi e)) ?_
  have hle := gridK_le (N := N) (f := dbF (dbx w.db i)) (g := fun a b => lc w.ls a b) (k := N) fun a b _ _ _ hs => by
    obtain ⟨c, hc⟩ := Option.isSome_iff_exists.1 hs
    rw [seen_cost h hN hi hc]; rfl
  have e : (grid (fun a b => lc w.ls a b) N).length ≤ 14 := by rw [g.grid]; exact g.2.2.1
  exact Nat.le_trans hle e
theorem seen_near (h : WV w Nob) (hN : w.n = N) {i : Nat} (hi : i < N) (hq : ∀ v, v < N → Jn (tru w.ls w.up) i v → seqD (dbx w.db i) v = iz w.sq v) {a b : Nat} (ha : a < N) (hb : b < N) (hj : Jn (tru w.ls w.up) i a ∨ Jn (tru w.ls w.up) i b) (hab : a < b) : dbF (dbx w.db i) a b = lc (tru w.ls w.up) a b := by
  have g := tru_N h hN
  have adj : ∀ c, lc (tru w.ls w.up) a b = some c → Adj (tru w.ls w.up) a b c := fun c e => (adj_lc g).2 (.inl ⟨hab, hb, e⟩)
  have both : ∀ c, lc (tru w.ls w.up) a b = some c → Jn (tru w.ls w.up) i a ∧ Jn (tru w.ls w.up) i b := fun c e => by
    have h1 : Jn (tru w.ls w.up) a b := ⟨1, c, Wk.one (adj c e)⟩
    rcases hj with hj | hj
    · exact ⟨hj, hj.trans h1⟩
    · exact ⟨hj.trans h1.symm, hj⟩
  cases e : lc (tru w.ls w.up) a b with
  | none =>
    have e' : lc (tru w.ls w.up) b a = none := by rw [lc_symm]; exact e
    unfold dbF
    refine if_neg fun hp => ?_
    rcases hj with hj | hj
    · have := ann_true h hN hi ha hb (hq a ha hj)
      rw [e] at this
      simp only [Option.getD_none] at this
      omega
    · have := ann_true h hN hi hb ha (hq b hb hj)
      rw [e'] at this
      simp only [Option.getD_none] at this
      omega
  | some c =>
    obtain ⟨ja, jb⟩ := both c e
    have h1 := ann_true h hN hi ha hb (hq a ha ja)
    have h2 := ann_true h hN hi hb ha (hq b hb jb)
    rw [lc_symm] at h2
    rw [e] at h1 h2
    simp only [Option.getD_some] at h1 h2
    have hc := lc_cost g e
    unfold dbF
    rw [h1, h2, if_pos ⟨by omega, by omega⟩, Int.max_self]
theorem seen_adj (h : WV w Nob) (hN : w.n = N) {i : Nat} (hi : i < N) (hq : ∀ v, v < N → Jn (tru w.ls w.up) i v → seqD (dbx w.db i) v = iz w.sq v) {x y : Nat} {c : Int} (hx : Jn (tru w.ls w.up) i x) : Adj (grid (dbF (dbx w.db i)) N) x y c ↔ Adj (tru w.ls w.up) x y c := by
  have g := tru_N h hN
  rw [adj_grid, adj_lc g]
  constructor
  · rintro (⟨h1, h2, h3⟩ | ⟨h1, h2, h3⟩)
    · exact .inl ⟨h1, h2, by rw [← seen_near h hN hi hq (by omega) h2 (.inl hx) h1]; exact h3⟩
    · exact .inr ⟨h1, h2, by rw [← seen_near h hN hi hq (by omega) h2 (.inr hx) h1]; exact h3⟩
  · rintro (⟨h1, h2, h3⟩ | ⟨h1, h2, h3⟩)
    · exact .inl ⟨h1, h2, by rw [seen_near h hN hi hq (by omega) h2 (.inl hx) h1]; exact h3⟩
    · exact .inr ⟨h1, h2, by rw [seen_near h hN hi hq (by omega) h2 (.inr hx) h1]; exact h3⟩
theorem seen_walk (h : WV w Nob) (hN : w.n = N) {i : Nat} (hi : i < N) (hq : ∀ v, v < N → Jn (tru w.ls w.up) i v → seqD (dbx w.db i) v = iz w.sq v) {k v : Nat} {s : Int} : Wk (grid (dbF (dbx w.db i)) N) i k v s ↔ Wk (tru w.ls w.up) i k v s := by
  constructor
  · intro q
    induction q with
    | nil => exact .nil
    | step _ ha ih => exact ih.step ((seen_adj h hN hi hq ⟨_, _, ih⟩).1 ha)
  · intro q
    induction q with
    | nil => exact .nil
    | step hw ha ih => exact ih.step ((seen_adj h hN hi hq ⟨_, _, hw⟩).2 ha)
theorem dists_walks {n f : Nat} {ls ls' : List Lk} (g : GV n ls) (g' : GV n ls') (hf : f < n) (hw : ∀ k v s, Wk ls f k v s ↔ Wk ls' f k v s) : dists n ls f = dists n ls' f := by
  have one : ∀ {ls ls' : List Lk}, GV n ls → GV n ls' → (∀ k v s, Wk ls f k v s ↔ Wk ls' f k v s) → ∀ v, v < n → 0 ≤ iz (dists n ls f) v → 0 ≤ iz (dists n ls' f) v ∧ iz (dists n ls' f) v ≤ iz (dists n ls f) v := fun {ls ls'} g g' hw v hv h => by
    obtain ⟨k, w⟩ := dists_walk g hf hv h
    exact dists_le g' hf ((hw _ _ _).1 w)
  refine List.ext_getElem (by rw [dists_len, dists_len]) fun v h1 h2 => ?_
  rw [dists_len] at h1
  have e1 : ∀ d : List Int, ∀ hv : v < d.length, d[v] = iz d v := fun d hv => by simp [iz, hv]
  rw [e1, e1]
  have l1 := dists_low g.cheap hf v
  have l2 := dists_low g'.cheap hf v
  have q1 := one g g' hw v h1
  have q2 := one g' g (fun k v s => (hw k v s).symm) v h1
  omega
theorem calm_dist (h : WV w Nob) (hN : w.n = N) {i : Nat} (hi : i < N) : dists N (grid (dbF (dbx (calW w).db i)) N) i = dists N (tru w.ls w.up) i := by
  have hc := calW_ok h
  have hs := calW_same w
  have hN' : (calW w).n = N := by rw [hs.1]; exact hN
  have ht : tru (calW w).ls (calW w).up = tru w.ls w.up := by rw [hs.2.1, hs.2.2.1]
  have hq : ∀ v, v < N → Jn (tru (calW w).ls (calW w).up) i v → seqD (dbx (calW w).db i) v = iz (calW w).sq v := fun v hv hj => by
    rw [hs.2.2.2.1]
    exact calm_true h hN hi hv (by rw [← ht]; exact hj)
  refine dists_walks (seen_gv hc hN' hi) (tru_N h hN) hi fun k v s => ?_
  rw [← ht]
  exact seen_walk hc hN' hi hq
end
end Go.Proofs.YtojdflifijpffaaGreat
end
section
namespace Go.Proofs.YtojdflifijpffaaGreat
open Go.RowKit
set_option linter.unusedSimpArgs false
set_option linter.unusedVariables false

theorem Wd.same {a b : Wd} (h1 : a.n = b.n) (h2 : a.ls = b.ls) (h3 : a.up = b.up) (h4 : a.sq = b.sq) (h5 : a.db = b.db) (h6 : a.net = b.net) : a = b := by
  cases a; cases b; dsimp only at h1 h2 h3 h4 h5 h6; subst h1 h2 h3 h4 h5 h6; rfl
section
variable {w : Wd} {N : Nat}
end
end Go.Proofs.YtojdflifijpffaaGreat
end
section
namespace Go.Proofs.YtojdflifijpffaaGreat
open Go.RowKit
set_option linter.unusedSimpArgs false
set_option linter.unusedVariables false
set_option maxRecDepth 100000

theorem at_bo (es : List Bool) (i : Nat) : at! .bool es i = es.getD i false := by
  induction es generalizing i with
  | nil => rfl
  | cons z r ih => cases i with
    | zero => rfl
    | succ i => exact (ih i).trans (by simp)
theorem at_db (es : List (List Ls)) (i : Nat) : at! .db es i = dbx es i := by
  induction es generalizing i with
  | nil => rfl
  | cons z r ih => cases i with
    | zero => rfl
    | succ i => exact (ih i).trans (by simp [dbx])
theorem at_pk (es : List Pk) (i : Nat) : at! .pk es i = pkx es i := by
  induction es generalizing i with
  | nil => rfl
  | cons z r ih => cases i with
    | zero => rfl
    | succ i => exact (ih i).trans (by simp [pkx])
abbrev Wt := Int × List Lk × List Bool × List Int × List (List Ls) × List Pk × Unit
def wt (w : Wd) : Wt := (w.n, w.ls, w.up, w.sq, w.db, w.net, ())
theorem take_lk {ls : List Lk} {k : Nat} (h : k < ls.length) : ls.take k ++ [lk ls k] = ls.take (k + 1) := by
  rw [List.take_add_one, List.getElem?_eq_getElem h, hit_lk h]; rfl
theorem zD9 (n : Int) (ls : List Lk) (hl : ls.length ≤ 1000) : zKT (n, ls, ()) = some (n, ls, ()) := by
  unfold zKT
  refine Sat.out (Sat.bnd (R := fun r => match r with | .inl x => x = (0, n, [], ls, ()) | .inr _ => False) ?_ ?_)
  · refine Sat.count ls.length (fun k t => t = (ls, (ls.length : Int), (k : Int), 0, n, [], ls.take k, ())) ?_ (Nat.zero_le _) (fuel_lt (by omega)) (by simp [nI_eq])
    rintro k t hk rfl
    simp (disch := omega) only [zBJ, zLi, at_lk, toN, w64, nI_eq, Option.bind_some]
    by_cases hlt : k < ls.length
    · refine Sat.gd (decide_eq_true (by omega)) (Sat.gd (inR_t (by omega) (by omega)) (Sat.ite (fun _ => Sat.gd (decide_eq_true (by simp only [List.length_take, List.length_singleton]; omega)) (.some ⟨hlt, ?_⟩)) (fun hh => by cases hh)))
      rw [← take_lk hlt]; rfl
    · obtain rfl : k = ls.length := by omega
      rw [List.take_length]
      exact Sat.no (decide_eq_false (by omega)) (.some rfl)
  · rintro (r | r) hr
    case inr => exact hr.elim
    obtain rfl := hr
    exact .some rfl
theorem trK_len (ls : List Lk) (up : List Bool) (k : Nat) : (trK ls up k).length ≤ k := by
  unfold trK
  rw [List.length_map]
  exact Nat.le_trans (List.length_filter_le _ _) (by simp)
theorem zFX (w : Wd) (h : w.up.length = w.ls.length) (hl : w.ls.length ≤ 1000) : zLc (w.n, w.ls, w.up, w.sq, w.db, w.net, ()) = some (w.n, tru w.ls w.up, ()) := by
  cases w with | mk n ls up sq db net =>
  dsimp only at h hl
  unfold zLc zKU
  refine Sat.out (Sat.bnd (R := fun r => r = (n, tru ls up, ())) (Sat.bnd (R := fun r => match r with | .inl x => x = (0, n, [], tru ls up, ()) | .inr _ => False) ?_ ?_) ?_)
  · refine Sat.count ls.length (fun k t => t = (n, ls, up, sq, db, net, ls, (ls.length : Int), (k : Int), 0, n, [], trK ls up k, ())) ?_ (Nat.zero_le _) (fuel_lt (by omega)) (by simp [nI_eq, trK])
    rintro k t hk rfl
    have hq := trK_len ls up k
    simp (disch := omega) only [zBK, zLd, at_lk, at_bo, toN, w64, nI_eq]
    by_cases hlt : k < ls.length
    · refine Sat.gd (decide_eq_true (by omega)) (Sat.gd (inR_t (by omega) (by omega)) (Sat.bnd (R := fun r => r = (up.getD k false, ())) (Sat.gd (inR_t (by omega) (by omega)) (.some rfl)) ?_))
      rintro _ rfl
      refine Sat.ite (fun hu => Sat.gd (decide_eq_true (by simp only [List.length_singleton]; omega)) (.some ⟨hlt, ?_⟩)) (fun hu => .some ⟨hlt, ?_⟩)
      · have hu : up.getD k false = true := hu
        rw [trK_succ, if_pos hu]; rfl
      · have hu : up.getD k false = false := hu
        rw [trK_succ, hu]; rfl
    · obtain rfl : k = ls.length := by omega
      refine Sat.no (decide_eq_false (by omega)) (.some rfl)
  · rintro (r | r) hr
    case inr => exact hr.elim
    obtain rfl := hr
    exact .some rfl
  · rintro _ rfl
    exact .some rfl
theorem zEv (w : Wd) (h : w.up.length = w.ls.length) (hl : w.ls.length ≤ 1000) : zMg (w.n, w.ls, w.up, w.sq, w.db, w.net, ()) = some (w.n, tru w.ls w.up, ()) := by
  cases w with | mk n ls up sq db net =>
  dsimp only at h hl
  unfold zMg
  refine Sat.out (Sat.bnd (R := fun r => match r with | .inl x => x = (0, [], n, tru ls up, ()) | .inr _ => False) ?_ ?_)
  · refine Sat.count ls.length (fun k t => t = ((k : Int), n, ls, up, sq, db, net, 0, [], n, trK ls up k, ())) ?_ (Nat.zero_le _) (fuel_lt (by omega)) (by simp [nI_eq, trK])
    rintro k t hk rfl
    have hq := trK_len ls up k
    simp (disch := omega) only [zCW, at_lk, at_bo, toN, w64, nI_eq]
    by_cases hlt : k < ls.length
    · refine Sat.gd (decide_eq_true (by omega)) (Sat.gd (inR_t (by omega) (by omega)) ?_)
      refine Sat.ite (fun hu => Sat.gd (inR_t (by omega) (by omega)) (Sat.gd (decide_eq_true (by simp only [List.length_singleton]; omega)) (.some ⟨hlt, ?_⟩))) (fun hu => .some ⟨hlt, ?_⟩)
      · have hu : up.getD k false = true := hu
        rw [trK_succ, if_pos hu]; rfl
      · have hu : up.getD k false = false := hu
        rw [trK_succ, hu]; rfl
    · obtain rfl : k = ls.length := by omega
      refine Sat.no (decide_eq_false (by omega)) (.some rfl)
  · rintro (r | r) hr
    case inr => exact hr.elim
    obtain rfl := hr
    exact .some rfl
theorem DbV.len {db : List Ls} (h : DbV db) : db.length ≤ 8 := by
  have key : ∀ i, i < db.length → (i : Int) ≤ (lsa db i).o := fun i => by
    induction i with
    | zero => intro hi; exact (h 0 hi).1.1
    | succ i ih =>
      intro hi
      have h1 := ih (by omega)
      have h2 := (h (i + 1) hi).2 (by omega)
      rw [Nat.add_sub_cancel] at h2
      omega
  rcases Nat.lt_or_ge 8 db.length with h8 | h8
  · have h1 := key 8 h8
    have h2 := (h 8 h8).1.2.1
    omega
  · exact h8
theorem LsV.len {l : Ls} (h : LsV l) : l.e.length ≤ 8 := by
  have key : ∀ i, i < l.e.length → (i : Int) ≤ (en l.e i).n := fun i => by
    induction i with
    | zero => intro hi; exact (h.2.2.2.2 0 hi).1
    | succ i ih =>
      intro hi
      have h1 := ih (by omega)
      have h2 := (h.2.2.2.2 (i + 1) hi).2.2.2.2.2 (by omega)
      rw [Nat.add_sub_cancel] at h2
      omega
  rcases Nat.lt_or_ge 8 l.e.length with h8 | h8
  · have h1 := key 8 h8
    have h2 := (h.2.2.2.2 8 h8).2.1
    omega
  · exact h8
theorem DbV.sm {db : List Ls} (h : DbV db) : SmD db := ⟨by have := h.len; unfold Sm; omega, fun l hl => by
  have := ((dbV_iff.1 h).1 l hl).len
  unfold Sm; omega⟩
theorem LsV.sm {l : Ls} (h : LsV l) : Sm l.e := by have := h.len; unfold Sm; omega
theorem DbV.so {db : List Ls} (h : DbV db) : SrtP db := srt_iff.1 h.srt
theorem WV.nn {w : Wd} {A : Int → Prop} (h : WV w A) : 1 ≤ w.n ∧ w.n ≤ 8 := ⟨h.g.1, h.g.2.1⟩
theorem WV.lsl {w : Wd} {A : Int → Prop} (h : WV w A) : w.ls.length ≤ 14 := h.g.2.2.1
theorem nb_i {n : Int} {ls : List Lk} (g : GV n ls) (m : Int) : zKY (n, ls, m, ()) = some (nbS ls m n.toNat, ()) := by
  have h1 := g.1
  have h3 := g.2.2.1
  obtain ⟨N, rfl⟩ := Int.eq_ofNat_of_zero_le (show 0 ≤ n by omega)
  rw [zEL _ _ _ (by omega), sort_nb g, Int.toNat_natCast]
theorem nb8 {N : Nat} {ls : List Lk} (g : GV N ls) (m : Int) : nbS ls m 8 = nbS ls m N := by
  have h2 := g.2.1
  refine asc_ext (nbS_asc ls m 8) (nbS_asc ls m N) fun x => ?_
  rw [nbS_mem, nbS_mem]
  constructor
  · rintro ⟨j, _, rfl, h⟩
    have := lc_none_out g h
    exact ⟨j, by omega, rfl, h⟩
  · rintro ⟨j, hj, rfl, h⟩
    exact ⟨j, by omega, rfl, h⟩
theorem nb_s {n : Int} {ls : List Lk} (g : GV n ls) (m : Int) : zLQ (n, ls, m, ()) = some (nbS ls m n.toNat, ()) := by
  have h1 := g.1
  have h3 := g.2.2.1
  obtain ⟨N, rfl⟩ := Int.eq_ofNat_of_zero_le (show 0 ≤ n by omega)
  rw [zEQ _ _ _ (show Fits ls by unfold Fits; omega), if_pos (show gv (N : Int) ls = true from decide_eq_true g), Int.toNat_natCast, nb8 g m]
theorem flN_take {l : Ls} {ex : Int} {net : List Pk} {nb : List Int} {k : Nat} (h : k < nb.length) : flN l ex net (nb.take (k + 1)) = fl1 l ex (flN l ex net (nb.take k)) (iz nb k) := by
  unfold flN
  rw [List.take_add_one, List.getElem?_eq_getElem h, List.foldl_append]
  congr 1
  simp [iz, List.getD, h]
theorem fl1_full {l : Ls} {ex : Int} {net : List Pk} {m : Int} (h : 16 ≤ net.length) : fl1 l ex net m = net := if_neg (by omega)
theorem flN_full {l : Ls} {ex : Int} {net : List Pk} (h : 16 ≤ net.length) : ∀ nb : List Int, flN l ex net nb = net
  | [] => rfl
  | m :: r => by
    show flN l ex (fl1 l ex net m) r = net
    rw [fl1_full h, flN_full h r]
theorem flN_stop {l : Ls} {ex : Int} {net : List Pk} {nb : List Int} {k : Nat} (h : 16 ≤ (flN l ex net (nb.take k)).length) : flN l ex net (nb.take k) = flN l ex net nb := by
  have : flN l ex net nb = flN l ex (flN l ex net (nb.take k)) (nb.drop k) := by
    conv => lhs; rw [← List.take_append_drop k nb]
    unfold flN
    rw [List.foldl_append]
  rw [this, flN_full h]
theorem zDu (w : Wd) (i ex : Int) (l : Ls) (g : GV w.n w.ls) (hu : w.up.length = w.ls.length) (hn : w.net.length ≤ 16) (hl : Sm l.e) : zK9 (i, l.o, l.s, l.e, ex, w.n, w.ls, w.up, w.sq, w.db, w.net, ()) = some (w.n, w.ls, w.up, w.sq, w.db, flN l ex w.net (nbS (tru w.ls w.up) i w.n.toNat), ()) := by
  have h14 := g.2.2.1
  unfold zK9
  dsimp only
  rw [zFX w hu (by omega)]
  simp only [Option.bind_some, nb_i (tru_gv g w.up)]
  have h8 := nbS_len (tru w.ls w.up) i w.n.toNat
  have hn8 := g.2.1
  generalize nbS (tru w.ls w.up) i w.n.toNat = nb at h8 ⊢
  refine Sat.out (Sat.bnd (R := fun r => match r with | .inl x => x = (w.n, w.ls, w.up, w.sq, w.db, flN l ex w.net nb, ()) | .inr _ => False) ?_ ?_)
  · refine Sat.count nb.length (fun k t => t = (ex, (nb.length : Int), (k : Int), w.n, w.ls, w.up, w.sq, w.db, l.o, l.s, l.e, nb, flN l ex w.net (nb.take k), ())) ?_ (Nat.zero_le _) (fuel_lt (by omega)) (by simp [nI_eq, flN])
    rintro k t hk rfl
    simp (disch := omega) only [zBZ, zB0, at_int, toN, w64, nI_eq, zDo _ _ _ hl, Option.bind_some]
    by_cases hlt : k < nb.length
    · refine Sat.gd (decide_eq_true (by omega)) (Sat.gd (inR_t (by omega) (by omega)) (Sat.ite (fun he => Sat.ite (fun hf => ?_) (fun hf => ?_)) (fun he => ?_)))
      · have he : ¬ iz nb k = ex := by simpa using he
        have hf := of_decide_eq_true hf
        refine Sat.bnd (R := fun r => r = .inl (ex, (nb.length : Int), (k : Int), w.n, w.ls, w.up, w.sq, w.db, l.o, l.s, l.e, nb, flN l ex w.net (nb.take k) ++ [⟨iz nb k, l⟩], ())) (Sat.gd (decide_eq_true (by simp only [List.length_singleton]; omega)) (.some rfl)) ?_
        rintro _ rfl
        simp (disch := omega) only [w64]
        refine .some ⟨hlt, ?_⟩
        rw [flN_take hlt, fl1, if_pos ⟨he, by omega⟩]
        rfl
      · have hf := of_decide_eq_false hf
        refine .some ⟨hlt, ?_⟩
        rw [flN_take hlt, fl1, if_neg (by omega)]
        rfl
      · have he : iz nb k = ex := by simpa using he
        refine .some ⟨hlt, ?_⟩
        rw [flN_take hlt, fl1, if_neg (fun hh => hh.1 he)]
        rfl
    · obtain rfl : k = nb.length := by omega
      rw [List.take_length]
      exact Sat.no (decide_eq_false (by omega)) (.some rfl)
  · rintro (r | r) hr
    case inr => exact hr.elim
    obtain rfl := hr
    exact .some rfl
theorem zEn (w : Wd) (i ex : Int) (l : Ls) (g : GV w.n w.ls) (hu : w.up.length = w.ls.length) (hn : w.net.length ≤ 16) (hl : Sm l.e) : zL8 (w.n, i, l.o, l.s, l.e, ex, w.ls, w.up, w.sq, w.db, w.net, ()) = some (w.n, w.ls, w.up, w.sq, w.db, flN l ex w.net (nbS (tru w.ls w.up) i w.n.toNat), ()) := by
  have h14 := g.2.2.1
  unfold zL8
  dsimp only
  rw [zEv w hu (by omega)]
  simp only [Option.bind_some, nb_s (tru_gv g w.up)]
  have h8 := nbS_len (tru w.ls w.up) i w.n.toNat
  have hn8 := g.2.1
  generalize nbS (tru w.ls w.up) i w.n.toNat = nb at h8 ⊢
  refine Sat.out (Sat.bnd (R := fun r => match r with | .inl x => x = (w.ls, w.up, w.sq, w.db, w.n, 0, [], [], [], [], [], flN l ex w.net nb, ()) | .inr _ => False) ?_ ?_)
  · refine Sat.count nb.length (fun k t => t = (ex, (k : Int), w.ls, w.up, w.sq, w.db, w.n, l.o, l.s, l.e, 0, [], [], [], [], [], nb, flN l ex w.net (nb.take k), ())) ?_ (Nat.zero_le _) (fuel_lt (by omega)) (by simp [nI_eq, flN])
    rintro k t hk rfl
    simp (disch := omega) only [zCP, at_int, toN, w64, nI_eq, zEe _ _ _ hl, Option.bind_some]
    by_cases hlt : k < nb.length
    · refine Sat.gd (decide_eq_true (by omega)) (Sat.ite (fun hf => ?_) (fun hf => ?_))
      · have hf := of_decide_eq_true hf
        refine Sat.gd (inR_t (by omega) (by omega)) (Sat.ite (fun he => ?_) (fun he => ?_))
        · have he : ¬ iz nb k = ex := by simpa using he
          refine Sat.gd (inR_t (by omega) (by omega)) (Sat.gd (decide_eq_true (by simp only [List.length_nil]; omega)) (Sat.gd (decide_eq_true (by simp only [List.nil_append, List.length_singleton]; omega)) (.some ⟨hlt, ?_⟩)))
          rw [flN_take hlt, fl1, if_pos ⟨he, by omega⟩]
          rfl
        · have he : iz nb k = ex := by simpa using he
          refine .some ⟨hlt, ?_⟩
          rw [flN_take hlt, fl1, if_neg (fun hh => hh.1 he)]
          rfl
      · have hf := of_decide_eq_false hf
        exact .some (by rw [flN_stop (by omega)])
    · obtain rfl : k = nb.length := by omega
      rw [List.take_length]
      exact Sat.no (decide_eq_false (by omega)) (.some rfl)
  · rintro (r | r) hr
    case inr => exact hr.elim
    obtain rfl := hr
    exact .some rfl
end Go.Proofs.YtojdflifijpffaaGreat
end
section
namespace Go.Proofs.YtojdflifijpffaaGreat
open Go.RowKit
set_option linter.unusedSimpArgs false
set_option linter.unusedVariables false
set_option maxRecDepth 100000

theorem sov {α β : Type} {o : Option α} {f : α → Option β} {r : α} {Q : β → Prop} (h : o = some r) (k : Sat (f r) Q) : Sat (o.bind f) Q := by subst h; exact k
theorem set_same {α : Type} {l : List α} {i : Nat} {d : α} (h : i < l.length) : l.set i (l.getD i d) = l := by
  rw [List.getD, List.getElem?_eq_getElem h]
  exact List.set_getElem_self h
theorem lsa_i {n : Int} {ls : List Lk} (g : GV n ls) (o s : Int) : zKX (n, ls, o, s, ()) = some (o, s, endsOf ls n.toNat o, ()) := by
  have h1 := g.1
  obtain ⟨N, rfl⟩ := Int.eq_ofNat_of_zero_le (show 0 ≤ n by omega)
  exact zEJ g o s
theorem lsa_s {n : Int} {ls : List Lk} (g : GV n ls) (o s : Int) : zLZ (n, ls, o, s, ()) = some (o, s, endsOf ls n.toNat o, ()) := by
  have h1 := g.1
  obtain ⟨N, rfl⟩ := Int.eq_ofNat_of_zero_le (show 0 ≤ n by omega)
  exact zEd g o s
section
variable {w : Wd} {A : Int → Prop}
theorem zDg (h : WV w A) {i : Nat} (hi : i < w.db.length) (h99 : iz w.sq i < 99) : zK6 ((i : Int), w.n, w.ls, w.up, w.sq, w.db, w.net, ()) = some (wt (annW w i)) := by
  have hsq := h.sq
  have hdb := h.db
  have his : i < w.sq.length := by omega
  have hr := h.rng i his
  have h14 := h.lsl
  have hd := h.ok i hi
  have hnw := newL_ok h hi h99
  have hlen := hd.len
  have b1 : zBR ((i : Int), w.n, w.ls, w.up, w.sq.set i (iz w.sq i + 1), w.db, w.net, ()) = some (.inl ((i : Int), w.n, w.ls, w.up, w.sq.set i (iz w.sq i + 1), w.db, (i : Int), iz w.sq i + 1, w.net, endsOf (tru w.ls w.up) w.n.toNat i, ())) := by
    unfold zBR
    simp only [toN, at_int]
    refine Sat.out (Sat.gd (inR_t (by omega) (by rw [List.length_set]; omega)) (sov (zFX { w with sq := w.sq.set i (iz w.sq i + 1) } h.up (by show w.ls.length ≤ 1000; omega)) ?_))
    dsimp only
    refine sov (lsa_i (tru_gv h.g w.up) _ _) (.some ?_)
    dsimp only
    rw [iz_set' his, if_pos rfl]
  have b2 : zBS ((i : Int), w.n, w.ls, w.up, w.sq.set i (iz w.sq i + 1), w.db, (i : Int), iz w.sq i + 1, w.net, endsOf (tru w.ls w.up) w.n.toNat i, ()) = some (.inl ((i : Int), w.n, w.ls, w.up, w.sq.set i (iz w.sq i + 1), w.db.set i (putD (dbx w.db i) (newL w i)), (i : Int), iz w.sq i + 1, w.net, endsOf (tru w.ls w.up) w.n.toNat i, ())) := by
    unfold zBS
    simp only [toN, at_db]
    exact Sat.out (Sat.gd (inR_t (by omega) (by omega)) (sov (e_put (dbx w.db i) (newL w i) hd.so hd.sm hnw.sm (by omega)) (Sat.gd (inR_t (by omega) (by omega)) (.some rfl))))
  unfold zK6
  simp (disch := omega) only [toN, at_int, w64]
  refine Sat.out (Sat.gd (inR_t (by omega) (by omega)) (Sat.gd (inR_t (by omega) (by omega)) (sov b1 ?_)))
  dsimp only
  refine sov b2 ?_
  dsimp only
  exact sov (zDu { w with sq := w.sq.set i (iz w.sq i + 1), db := w.db.set i (putD (dbx w.db i) (newL w i)) } (i : Int) (-1) (newL w i) h.g h.up h.net hnw.sm) (.some rfl)
theorem zEj (h : WV w A) {i : Nat} (hi : i < w.db.length) (h99 : iz w.sq i < 99) : zL5 (w.n, (i : Int), w.ls, w.up, w.sq, w.db, w.net, ()) = some (wt (annW w i)) := by
  have hsq := h.sq
  have hdb := h.db
  have his : i < w.sq.length := by omega
  have hr := h.rng i his
  have h14 := h.lsl
  have hd := h.ok i hi
  have hnw := newL_ok h hi h99
  have b1 : zCL ((i : Int), w.ls, w.up, w.sq.set i (iz w.sq i + 1), w.db, w.n, 0, [], [], [], [], [], w.net, ()) = some (.inl ((i : Int), w.ls, w.up, w.sq.set i (iz w.sq i + 1), w.db, w.n, 0, [], [], [], [], [], (i : Int), iz w.sq i + 1, w.net, endsOf (tru w.ls w.up) w.n.toNat i, ())) := by
    unfold zCL
    simp only [toN, at_int]
    refine Sat.out (Sat.gd (inR_t (by omega) (by rw [List.length_set]; omega)) (sov (zEv { w with sq := w.sq.set i (iz w.sq i + 1) } h.up (by show w.ls.length ≤ 1000; omega)) ?_))
    dsimp only
    refine sov (lsa_s (tru_gv h.g w.up) _ _) (.some ?_)
    dsimp only
    rw [iz_set' his, if_pos rfl]
  unfold zL5
  simp (disch := omega) only [toN, at_int, w64]
  refine Sat.out (Sat.gd (inR_t (by omega) (by omega)) (Sat.gd (inR_t (by omega) (by omega)) (sov b1 ?_)))
  simp only [toN, at_db]
  refine Sat.gd (inR_t (by omega) (by omega)) (sov (zEf (dbx w.db i) (newL w i) hd.so hd.sm hnw.sm) (Sat.gd (inR_t (by omega) (by omega)) ?_))
  exact sov (zEn { w with sq := w.sq.set i (iz w.sq i + 1), db := w.db.set i (putD (dbx w.db i) (newL w i)) } (i : Int) (-1) (newL w i) h.g h.up h.net hnw.sm) (.some rfl)
theorem zDh (h : WV w A) {i : Int} (h0 : 0 ≤ i) (hi : i < w.n) (h99 : iz w.sq i.toNat < 99) : zK6 (i, w.n, w.ls, w.up, w.sq, w.db, w.net, ()) = some (wt (annW w i.toNat)) := by
  have hdb := h.db
  obtain ⟨k, rfl⟩ := Int.eq_ofNat_of_zero_le h0
  exact zDg h (by omega) h99
theorem zEk (h : WV w A) {i : Int} (h0 : 0 ≤ i) (hi : i < w.n) (h99 : iz w.sq i.toNat < 99) : zL5 (w.n, i, w.ls, w.up, w.sq, w.db, w.net, ()) = some (wt (annW w i.toNat)) := by
  have hdb := h.db
  obtain ⟨k, rfl⟩ := Int.eq_ofNat_of_zero_le h0
  exact zEj h (by omega) h99
structure SmW (w : Wd) : Prop where
  ls : w.ls.length ≤ 1000
  up : w.up.length ≤ 1000
  sq : w.sq.length ≤ 1000
  db : w.db.length ≤ 1000
  net : w.net.length ≤ 1000
  dbs : ∀ i, i < w.db.length → SmD (dbx w.db i)
  pks : ∀ i, i < w.net.length → Sm (pkx w.net i).p.e
theorem WV.sm (h : WV w A) : SmW w := by
  have h1 := h.lsl
  have h2 := h.up
  have h3 := h.sq
  have h4 := h.db
  have h5 := h.net
  have h6 := h.nn
  exact ⟨by omega, by omega, by omega, by omega, by omega, fun i hi => (h.ok i hi).sm, fun i hi => (h.poss _ (.inr ⟨_, pkx_mem hi, rfl⟩)).1.sm⟩
theorem take_dbx {db : List (List Ls)} {k : Nat} (h : k < db.length) : db.take k ++ [dbx db k] = db.take (k + 1) := by
  rw [List.take_add_one, List.getElem?_eq_getElem h]; simp [dbx, List.getD, h]
theorem take_pkx {net : List Pk} {k : Nat} (h : k < net.length) : net.take k ++ [⟨(pkx net k).t, ⟨(pkx net k).p.o, (pkx net k).p.s, (pkx net k).p.e⟩⟩] = net.take (k + 1) := by
  rw [List.take_add_one, List.getElem?_eq_getElem h]
  have : pkx net k = net[k] := by simp [pkx, List.getD, h]
  rw [this]; rfl
theorem zDp (h : SmW w) : zLh (w.n, w.ls, w.up, w.sq, w.db, w.net, ()) = some (w.n, w.ls, w.up, w.sq, w.db, w.net, ()) := by
  have h1 := h.ls
  have h2 := h.up
  have h3 := h.sq
  have h4 := h.db
  have h5 := h.net
  cases w with | mk n ls up sq db net =>
  dsimp only at h1 h2 h3 h4 h5 ⊢
  have b1 : zB5 (n, ls, up, sq, db, net, 0, [], [], [], [], [], ()) = some (.inl (n, ls, up, sq, db, net, 0, [], [], [], [], [], n, ls, up, sq, [], [], ())) := by
    unfold zB5
    refine Sat.out (sov (zD9 n ls h1) ?_)
    unfold zLB zLD
    rw [decide_eq_true (show up.length ≤ 16777216 by omega), decide_eq_true (show sq.length ≤ 16777216 by omega)]
    exact .some rfl
  unfold zLh
  refine Sat.out (sov b1 ?_)
  refine Sat.bnd (R := fun r => match r with | .inl x => x = (n, ls, up, sq, db, net, 0, [], [], [], [], [], n, ls, up, sq, db, [], ()) | .inr _ => False) ?_ ?_
  · refine Sat.count db.length (fun k t => t = (db, (db.length : Int), (k : Int), n, ls, up, sq, db, net, 0, [], [], [], [], [], n, ls, up, sq, db.take k, [], ())) ?_ (Nat.zero_le _) (fuel_lt (by omega)) (by simp [nI_eq])
    rintro k t hk rfl
    by_cases hlt : k < db.length
    · have e1 := zDn _ (h.dbs k hlt)
      simp (disch := omega) only [zB6, at_db, toN, w64, e1, Option.bind_some]
      refine Sat.gd (decide_eq_true (by omega)) (Sat.gd (inR_t (by omega) (by omega)) (Sat.gd (decide_eq_true (by simp; omega)) (.some ⟨hlt, ?_⟩)))
      rw [← take_dbx hlt]; rfl
    · obtain rfl : k = db.length := by omega
      unfold zB6
      refine Sat.no (decide_eq_false (by first | omega | (dsimp only; omega))) (.some ?_)
      rw [List.take_length]
  rintro (r | r) hr
  case inr => exact hr.elim
  obtain rfl := hr
  refine Sat.bnd (R := fun r => match r with | .inl x => x = (0, [], [], [], [], [], n, ls, up, sq, db, net, ()) | .inr _ => False) ?_ ?_
  · refine Sat.count net.length (fun k t => t = (net, (net.length : Int), (k : Int), 0, [], [], [], [], [], n, ls, up, sq, db, net.take k, ())) ?_ (Nat.zero_le _) (fuel_lt (by omega)) (by simp [nI_eq])
    rintro k t hk rfl
    by_cases hlt : k < net.length
    · have e1 := zDo (pkx net k).p.o (pkx net k).p.s _ (h.pks k hlt)
      simp (disch := omega) only [zB7, at_pk, toN, w64, e1, Option.bind_some]
      refine Sat.gd (decide_eq_true (by omega)) (Sat.gd (inR_t (by omega) (by omega)) ?_)
      refine Sat.gd (decide_eq_true (by simp; omega)) (.some ⟨hlt, ?_⟩)
      rw [← take_pkx hlt]; rfl
    · obtain rfl : k = net.length := by omega
      unfold zB7
      refine Sat.no (decide_eq_false (by first | omega | (dsimp only; omega))) (.some ?_)
      rw [List.take_length]
  rintro (r | r) hr
  case inr => exact hr.elim
  obtain rfl := hr
  exact .some rfl
theorem zEg (n : Int) (ls : List Lk) (hl : ls.length ≤ 1000) : zL2 (n, ls, ()) = some (n, ls, ()) := by
  unfold zL2
  exact Sat.out (Sat.gd (decide_eq_true (by simp only [List.length_nil]; omega)) (.some rfl))
theorem zEl (h : SmW w) : zL6 (w.n, w.ls, w.up, w.sq, w.db, w.net, ()) = some (w.n, w.ls, w.up, w.sq, w.db, w.net, ()) := by
  have h1 := h.ls
  have h2 := h.up
  have h3 := h.sq
  have h4 := h.db
  have h5 := h.net
  cases w with | mk n ls up sq db net =>
  dsimp only at h1 h2 h3 h4 h5 ⊢
  have b1 : zCM (n, ls, up, sq, db, net, 0, [], [], [], [], [], ()) = some (.inl (n, ls, up, sq, db, net, 0, [], [], [], [], [], n, ls, up, sq, [], [], ())) := by
    unfold zCM
    exact Sat.out (sov (zEg n ls h1) (Sat.gd (decide_eq_true (by simp; omega)) (Sat.gd (decide_eq_true (by simp; omega)) (.some (by simp)))))
  unfold zL6
  refine Sat.out (sov b1 ?_)
  refine Sat.bnd (R := fun r => match r with | .inl x => x = (n, ls, up, sq, db, net, 0, [], [], [], [], [], n, ls, up, sq, db, [], ()) | .inr _ => False) ?_ ?_
  · refine Sat.count db.length (fun k t => t = ((k : Int), n, ls, up, sq, db, net, 0, [], [], [], [], [], n, ls, up, sq, db.take k, [], ())) ?_ (Nat.zero_le _) (fuel_lt (by omega)) (by simp [nI_eq])
    rintro k t hk rfl
    by_cases hlt : k < db.length
    · have e1 := zEa _ (h.dbs k hlt)
      simp (disch := omega) only [zCN, at_db, toN, w64, nI_eq, e1, Option.bind_some]
      refine Sat.gd (decide_eq_true (by omega)) (Sat.gd (inR_t (by omega) (by omega)) (Sat.gd (decide_eq_true (by simp; omega)) (.some ⟨hlt, ?_⟩)))
      rw [← take_dbx hlt]; rfl
    · obtain rfl : k = db.length := by omega
      unfold zCN
      simp only [nI_eq]
      refine Sat.no (decide_eq_false (by first | omega | (dsimp only; omega))) (.some ?_)
      rw [List.take_length]
  rintro (r | r) hr
  case inr => exact hr.elim
  obtain rfl := hr
  refine Sat.bnd (R := fun r => match r with | .inl x => x = (0, [], [], [], [], [], n, ls, up, sq, db, net, ()) | .inr _ => False) ?_ ?_
  · refine Sat.count net.length (fun k t => t = ((k : Int), n, ls, up, sq, db, net, 0, [], [], [], [], [], n, ls, up, sq, db, net.take k, ())) ?_ (Nat.zero_le _) (fuel_lt (by omega)) (by simp [nI_eq])
    rintro k t hk rfl
    by_cases hlt : k < net.length
    · have e1 := zEe (pkx net k).p.o (pkx net k).p.s _ (h.pks k hlt)
      simp (disch := omega) only [zCO, at_pk, toN, w64, nI_eq, e1, Option.bind_some]
      refine Sat.gd (decide_eq_true (by omega)) (Sat.gd (inR_t (by omega) (by omega)) (Sat.gd (inR_t (by omega) (by omega)) ?_))
      refine Sat.gd (decide_eq_true (by simp; omega)) (.some ⟨hlt, ?_⟩)
      rw [← take_pkx hlt]; rfl
    · obtain rfl : k = net.length := by omega
      unfold zCO
      simp only [nI_eq]
      refine Sat.no (decide_eq_false (by first | omega | (dsimp only; omega))) (.some ?_)
      rw [List.take_length]
  rintro (r | r) hr
  case inr => exact hr.elim
  obtain rfl := hr
  exact .some rfl
end
end Go.Proofs.YtojdflifijpffaaGreat
end
section
namespace Go.Proofs.YtojdflifijpffaaGreat
open Go.RowKit
set_option linter.unusedSimpArgs false
set_option linter.unusedVariables false
set_option maxRecDepth 100000

section
variable {w : Wd} {A : Int → Prop}
theorem do12 {kind a : Int} (hk : kind = 1 ∨ kind = 2) : doW w kind a = if 0 ≤ a ∧ a < w.up.length then turnW w a.toNat (decide (kind = 2)) else w := by
  unfold doW
  rcases hk with rfl | rfl <;> simp
theorem do3 {a : Int} : doW w 3 a = if 0 ≤ a ∧ a < w.net.length then hearW { w with net := w.net.eraseIdx a.toNat } (pkx w.net a.toNat).t.toNat (pkx w.net a.toNat).p else w := by
  unfold doW; simp
theorem do4 {a : Int} : doW w 4 a = if 0 ≤ a ∧ a < w.net.length then { w with net := w.net.eraseIdx a.toNat } else w := by
  unfold doW; simp
theorem do5 {a : Int} : doW w 5 a = if 0 ≤ a ∧ a < w.net.length then (if w.net.length < 16 then { w with net := w.net ++ [pkx w.net a.toNat] } else w) else w := by
  unfold doW; simp
theorem do6 {a : Int} : doW w 6 a = if 0 ≤ a ∧ a < w.up.length then syncW w a.toNat else w := by
  unfold doW; simp
theorem doX {kind a : Int} (h1 : kind ≠ 1) (h2 : kind ≠ 2) (h3 : kind ≠ 3) (h4 : kind ≠ 4) (h5 : kind ≠ 5) (h6 : kind ≠ 6) : doW w kind a = w := by
  unfold doW; simp [h1, h2, h3, h4, h5, h6]
theorem turn_pre (h : WV w Nob) {k : Nat} (hk : k < w.ls.length) (u : Bool) (ha : iz w.sq (lk w.ls k).a.toNat < 99) (hb : iz w.sq (lk w.ls k).b.toNat < 99) : ∃ A, WV (annW { w with up := w.up.set k u } (lk w.ls k).a.toNat) A ∧ iz (annW { w with up := w.up.set k u } (lk w.ls k).a.toNat).sq (lk w.ls k).b.toNat < 99 := by
  have hdb := h.db
  have hsq := h.sq
  have ho := h.g.ok (lk_mem hk)
  unfold okL at ho
  refine ⟨_, ann_ok (up_ok h hk u) (i := (lk w.ls k).a.toNat) (by show _ < w.db.length; omega) (by show iz w.sq _ < 99; omega), ?_⟩
  show iz (w.sq.set (lk w.ls k).a.toNat _) (lk w.ls k).b.toNat < 99
  rw [iz_set' (by omega), if_neg (by omega)]
  omega
theorem zEw (h : WV w Nob) {k : Nat} (hk : k < w.ls.length) (u : Bool) : zMh (w.n, w.ls, w.up, w.sq, w.db, w.net, (k : Int), u, ()) = some (wt (turnW w k u)) := by
  have hdb := h.db
  have hsq := h.sq
  have hup := h.up
  have ho := h.g.ok (lk_mem hk)
  unfold okL at ho
  have main : w.up.getD k false ≠ u → iz w.sq (lk w.ls k).a.toNat < 99 → iz w.sq (lk w.ls k).b.toNat < 99 → zCX (w.n, 0, [], [], [], [], [], (lk w.ls k).a, (lk w.ls k).b, (lk w.ls k).c, w.ls, w.up.set k u, w.sq, w.db, w.net, ()) = some (.inl (wt (turnW w k u))) := fun hu ha hb => by
    obtain ⟨A, v, hv⟩ := turn_pre h hk u ha hb
    unfold zCX
    refine Sat.out (sov (zEk (up_ok h hk u) (i := (lk w.ls k).a) (by omega) (by show _ < w.n; omega) ha) ?_)
    dsimp only [wt]
    refine sov (zEk v (i := (lk w.ls k).b) (by omega) (by show _ < w.n; omega) hv) (.some ?_)
    unfold turnW
    rw [if_neg (by rintro (e | e | e); exact hu e; omega; omega)]
    rfl
  unfold zMh
  simp only [toN, at_lk, at_bo, at_int]
  refine Sat.out (Sat.gd (inR_t (by omega) (by omega)) (Sat.gd (inR_t (by omega) (by omega)) (Sat.ite (fun hc => .some ?_) (fun hc => ?_))))
  · have hc : w.up.getD k false = u := by simpa using hc
    unfold turnW; rw [if_pos (.inl hc)]; rfl
  have hc : w.up.getD k false ≠ u := by simpa using hc
  refine Sat.gd (inR_t (by omega) (by omega)) (Sat.ite (fun ha => .some ?_) (fun ha => ?_))
  · have ha := of_decide_eq_true ha
    unfold turnW; rw [if_pos (.inr (.inl ha))]; rfl
  have ha := of_decide_eq_false ha
  refine Sat.gd (inR_t (by omega) (by omega)) (Sat.ite (fun hb => .some ?_) (fun hb => ?_))
  · have hb := of_decide_eq_true hb
    unfold turnW; rw [if_pos (.inr (.inr hb))]; rfl
  have hb := of_decide_eq_false hb
  refine sov (zEl h.sm) ?_
  dsimp only
  refine Sat.gd (inR_t (by omega) (by omega)) (sov (main hc (by omega) (by omega)) (.some rfl))
theorem zEo (h : WV w A) {t : Nat} (ht : t < w.db.length) {l : Ls} (hl : LsV l) : zL9 (w.n, w.ls, w.up, w.sq, w.db, w.net, (t : Int), l.o, l.s, l.e, ()) = some (wt (hearW w t l)) := by
  have hd := h.ok t ht
  unfold zL9
  simp only [toN, at_db]
  refine Sat.out (Sat.gd (inR_t (by omega) (by omega)) (sov (zEf (dbx w.db t) l hd.so hd.sm hl.sm) ?_))
  dsimp only
  unfold hearW
  refine Sat.ite (fun hc => .some ?_) (fun hc => ?_)
  · have hc : ¬ putC (dbx w.db t) l = 0 := by simpa using hc
    rw [if_neg hc]; rfl
  · have hc : putC (dbx w.db t) l = 0 := by simpa using hc
    rw [if_pos hc]
    refine sov (zEl h.sm) ?_
    dsimp only
    refine Sat.gd (inR_t (by omega) (by omega)) ?_
    exact sov (zEn { w with db := w.db.set t (putD (dbx w.db t) l) } (t : Int) l.o l h.g h.up h.net hl.sm) (.some rfl)
theorem zEu (h : WV w A) {k : Nat} (hk : k < w.ls.length) : zMf (w.n, w.ls, w.up, w.sq, w.db, w.net, (k : Int), ()) = some (wt (syncW w k)) := by
  have hdb := h.db
  have hup := h.up
  have ho := h.g.ok (lk_mem hk)
  unfold okL at ho
  have va := h.ok (lk w.ls k).a.toNat (by omega)
  have vb := h.ok (lk w.ls k).b.toNat (by omega)
  have vm := mergeD_ok va (dbV_iff.1 vb).1
  have la := va.len
  have lb := vb.len
  unfold zMf syncW
  simp only [toN, at_db, at_lk, at_bo]
  refine Sat.out (Sat.gd (inR_t (by omega) (by omega)) (Sat.gd (inR_t (by omega) (by omega)) (Sat.ite (fun hc => .some ?_) (fun hc => ?_))))
  · have hc : ¬ w.up.getD k false = true := by simpa using hc
    rw [if_neg hc]; rfl
  · have hc : w.up.getD k false = true := by simpa using hc
    rw [if_pos hc]
    refine sov (zEl h.sm) ?_
    dsimp only
    refine Sat.gd (inR_t (by omega) (by omega)) (Sat.gd (inR_t (by omega) (by omega)) (sov (zEc _ _ va.so va.sm vb.sm (by omega) (by omega)) ?_))
    dsimp only
    refine Sat.gd (inR_t (by omega) (by omega)) (sov (zEa _ vm.sm) ?_)
    refine Sat.gd (inR_t (by omega) (by rw [List.length_set]; omega)) (.some rfl)
theorem toS (k : Nat) : Int.toNat ((k : Int) + 1) = k + 1 := by omega
theorem tkd {α : Type} (l : List α) (j : Nat) : List.take (l.length - j) (List.drop j l) = List.drop j l := List.take_of_length_le (by simp)
theorem bnd_t {lo hi : Int} {n : Nat} (h1 : 0 ≤ lo) (h2 : lo ≤ hi) (h3 : hi ≤ n) : bnd2 lo hi n = true := by unfold bnd2; simp; omega
theorem zEq (h : WV w Nob) {kind : Int} (hk : kind = 3 ∨ kind = 4 ∨ kind = 5) (a : Int) : zMb (w.n, w.ls, w.up, w.sq, w.db, w.net, kind, a, ()) = some (wt (doW w kind a)) := by
  have hnet := h.net
  have hdb := h.db
  unfold zMb
  simp (disch := omega) only [e_l6In, Option.bind_some, nI_eq, w64]
  refine Sat.out (Sat.ite (fun hc => .some ?_) (fun hc => ?_))
  · have hc := inB_f (show inB a 0 ((w.net.length : Int) - 1) = false by simpa using hc)
    rcases hk with rfl | rfl | rfl
    · rw [do3, if_neg (by omega)]; rfl
    · rw [do4, if_neg (by omega)]; rfl
    · rw [do5, if_neg (by omega)]; rfl
  have hc : 0 ≤ a ∧ a ≤ (w.net.length : Int) - 1 := by simpa [inB] using hc
  obtain ⟨k, rfl⟩ := Int.eq_ofNat_of_zero_le hc.1
  have hkn : k < w.net.length := by omega
  have hm : pkx w.net k ∈ w.net := pkx_mem hkn
  have hP := h.poss _ (.inr ⟨_, hm, rfl⟩)
  have ht := h.tgt _ hm
  have hV := hP.1
  have w1 : wrap64 ((k : Int) + 1) = ((k : Int) + 1) := w64 (by omega) (by omega)
  simp only [w1, toN, toS, at_pk, Int.toNat_zero, List.drop_zero, Nat.sub_zero, List.nil_append, tkd, ← List.eraseIdx_eq_take_drop_succ]
  clear w1
  refine Sat.gd (inR_t (by omega) (by omega)) ?_
  by_cases h5 : kind = 5
  · subst h5
    rw [do5, if_pos ⟨by omega, by omega⟩, toN]
    refine Sat.gd rfl (Sat.ite (fun hf => ?_) (fun hf => ?_))
    · have hf := of_decide_eq_true hf
      rw [if_pos (by omega)]
      have e : zCR (w.n, w.ls, w.up, w.sq, w.db, w.net, 0, [], [], [], [], [], (pkx w.net k).t, (pkx w.net k).p.o, (pkx w.net k).p.s, (pkx w.net k).p.e, ()) = some (.inl (w.n, w.ls, w.up, w.sq, w.db, 0, [], [], [], [], [], w.net ++ [pkx w.net k], ())) := by
        unfold zCR
        refine Sat.out (Sat.gd (decide_eq_true (by simp only [List.length_nil]; omega)) (Sat.gd (decide_eq_true (by simp only [List.nil_append, List.length_singleton]; omega)) (.some (by simp))))
      exact sov e (.some rfl)
    · have hf := of_decide_eq_false hf
      rw [if_neg (by omega)]
      exact .some rfl
  refine Sat.no (decide_eq_false h5) (Sat.gd (bnd_t (by omega) (by omega) (by omega)) (Sat.gd (bnd_t (by omega) (by omega) (by omega)) ?_))
  refine Sat.gd (decide_eq_true (by simp only [List.length_nil, List.length_take]; omega)) (Sat.gd (decide_eq_true (by simp only [List.length_take, List.length_drop]; omega)) ?_)
  by_cases h3 : kind = 3
  · subst h3
    rw [do3, if_pos ⟨by omega, by omega⟩, toN]
    refine Sat.gd rfl ?_
    obtain ⟨t, ht'⟩ := Int.eq_ofNat_of_zero_le ht.1
    rw [ht']
    exact sov (zEo (lose_ok h k) (t := t) (by show t < w.db.length; omega) hV) (.some rfl)
  · have h4 : kind = 4 := by omega
    subst h4
    rw [do4, if_pos ⟨by omega, by omega⟩, toN]
    exact Sat.no rfl (.some rfl)
theorem zEm (h : WV w Nob) (kind a : Int) : zL7 (w.n, w.ls, w.up, w.sq, w.db, w.net, kind, a, ()) = some (wt (doW w kind a)) := by
  have hup := h.up
  have h14 := h.lsl
  have hnet : ∀ kind, kind = 3 ∨ kind = 4 ∨ kind = 5 → Sat ((zMb (w.n, w.ls, w.up, w.sq, w.db, w.net, kind, a, ())).bind fun r0 => some ((r0.1, r0.2.1, r0.2.2.1, r0.2.2.2.1, r0.2.2.2.2.1, r0.2.2.2.2.2.1, ()))) (· = wt (doW w kind a)) := fun kind hk => sov (zEq h hk a) (.some rfl)
  unfold zL7
  dsimp only
  by_cases h3 : kind = 3
  · subst h3; exact Sat.out (Sat.gd rfl (Sat.gd rfl (hnet 3 (.inl rfl))))
  by_cases h4 : kind = 4
  · subst h4; exact Sat.out (Sat.no rfl (Sat.gd rfl (Sat.gd rfl (hnet 4 (.inr (.inl rfl))))))
  by_cases h5 : kind = 5
  · subst h5; exact Sat.out (Sat.no rfl (Sat.no rfl (Sat.gd rfl (hnet 5 (.inr (.inr rfl))))))
  refine Sat.out (Sat.no (decide_eq_false h3) (Sat.no (decide_eq_false h4) (Sat.no (decide_eq_false h5) (sov (e_l6In _ _ _) ?_))))
  simp (disch := omega) only [nI_eq, w64]
  have out : ¬ (0 ≤ a ∧ a < w.up.length) → doW w kind a = w := fun hh => by
    unfold doW
    simp only [h3, h4, h5, false_and, if_false]
    rw [if_neg (fun q => hh q.2), if_neg (fun q => hh q.2)]
  refine Sat.ite (fun hc => .some ?_) (fun hc => ?_)
  · have hc := inB_f (show inB a 0 ((w.up.length : Int) - 1) = false by simpa using hc)
    rw [out (by omega)]; rfl
  have hc : 0 ≤ a ∧ a ≤ (w.up.length : Int) - 1 := by simpa [inB] using hc
  obtain ⟨k, rfl⟩ := Int.eq_ofNat_of_zero_le hc.1
  by_cases h1 : kind = 1
  · subst h1
    rw [do12 (.inl rfl), if_pos ⟨by omega, by omega⟩, toN]
    exact Sat.gd rfl (Sat.gd rfl (sov (zEw h (by omega) _) (.some rfl)))
  by_cases h2 : kind = 2
  · subst h2
    rw [do12 (.inr rfl), if_pos ⟨by omega, by omega⟩, toN]
    exact Sat.no rfl (Sat.gd rfl (sov (zEw h (by omega) _) (.some rfl)))
  refine Sat.no (decide_eq_false h1) (Sat.no (decide_eq_false h2) ?_)
  by_cases h6 : kind = 6
  · subst h6
    rw [do6, if_pos ⟨by omega, by omega⟩, toN]
    exact Sat.gd rfl (sov (zEu h (by omega)) (.some rfl))
  · refine Sat.no (decide_eq_false h6) (.some ?_)
    rw [doX h1 h2 h3 h4 h5 h6]; rfl
end
end Go.Proofs.YtojdflifijpffaaGreat
end
section
namespace Go.Proofs.YtojdflifijpffaaGreat
open Go.RowKit
set_option linter.unusedSimpArgs false
set_option linter.unusedVariables false
set_option maxRecDepth 100000

section
variable {w : Wd} {A : Int → Prop}
theorem e_del (net : List Pk) (k : Nat) (hk : k < net.length) (hn : net.length ≤ 16) : zLF ((k : Int), (k : Int) + 1, net, ()) = some (net.eraseIdx k, ()) := by
  unfold zLF
  rw [List.eraseIdx_eq_take_drop_succ]
  exact Sat.out (Sat.gd (decide_eq_true ⟨by omega, rfl, by show (k : Int) < (net.length : Int); omega, by show net.length ≤ 16777216; omega⟩) (.some rfl))
theorem zDj (h : WV w Nob) (kind a : Int) : zK7 (kind, a, w.n, w.ls, w.up, w.sq, w.db, w.net, ()) = some (wt (doW w kind a)) := by
  have hup := h.up
  have h14 := h.lsl
  have hnet := h.net
  have hdb := h.db
  have hsq := h.sq
  unfold zK7
  simp (disch := omega) only [zFY, Option.bind_some, nI_eq, w64]
  by_cases h12 : kind = 1 ∨ kind = 2
  · rw [do12 h12]
    cases hin : inB a 0 ((w.up.length : Int) - 1) with
    | false =>
      have hc := inB_f hin
      rw [if_neg (by omega)]
      rcases h12 with rfl | rfl
      · exact Sat.out (Sat.gd rfl (Sat.no rfl (Sat.no rfl (Sat.no rfl (Sat.no rfl (Sat.no rfl (.some rfl)))))))
      · exact Sat.out (Sat.no rfl (Sat.gd rfl (Sat.no rfl (Sat.no rfl (Sat.no rfl (Sat.no rfl (Sat.no rfl (.some rfl))))))))
    | true =>
      have hc := inB_t hin
      obtain ⟨k, rfl⟩ := Int.eq_ofNat_of_zero_le hc.1
      have hk : k < w.ls.length := by omega
      have ho := h.g.ok (lk_mem hk)
      unfold okL at ho
      rw [if_pos ⟨by omega, by omega⟩, toN]
      have main : ∀ u : Bool, w.up.getD k false ≠ u → iz w.sq (lk w.ls k).a.toNat < 99 → iz w.sq (lk w.ls k).b.toNat < 99 → Sat ((zK6 ((lk w.ls k).a, w.n, w.ls, w.up.set k u, w.sq, w.db, w.net, ())).bind fun r2 => (zK6 (((lk w.ls k).b, (r2.1, (r2.2.1, (r2.2.2.1, (r2.2.2.2.1, (r2.2.2.2.2.1, (r2.2.2.2.2.2.1, ()))))))))).bind fun r3 => some ((r3.1, r3.2.1, r3.2.2.1, r3.2.2.2.1, r3.2.2.2.2.1, r3.2.2.2.2.2.1, ()))) (· = wt (turnW w k u)) := fun u hu ha hb => by
        obtain ⟨A, v, hv⟩ := turn_pre h hk u ha hb
        refine sov (zDh (up_ok h hk u) (i := (lk w.ls k).a) (by omega) (by show _ < w.n; omega) ha) ?_
        dsimp only [wt]
        refine sov (zDh v (i := (lk w.ls k).b) (by omega) (by show _ < w.n; omega) hv) (.some ?_)
        unfold turnW
        rw [if_neg (by rintro (e | e | e); exact hu e; omega; omega)]
        rfl
      have same : ∀ u : Bool, ¬ (w.up.getD k false ≠ u ∧ iz w.sq (lk w.ls k).a.toNat < 99 ∧ iz w.sq (lk w.ls k).b.toNat < 99) → (w.n, w.ls, w.up, w.sq, w.db, w.net, ()) = wt (turnW w k u) := fun u hh => by
        unfold turnW
        rw [if_pos (by
          by_cases e1 : w.up.getD k false = u
          · exact .inl e1
          · by_cases e2 : iz w.sq (lk w.ls k).a.toNat < 99
            · exact .inr (.inr (by
                by_cases e3 : iz w.sq (lk w.ls k).b.toNat < 99
                · exact (hh ⟨e1, e2, e3⟩).elim
                · omega))
            · exact .inr (.inl (by omega)))]
        rfl
      simp only [toN, at_lk, at_bo, at_int]
      rcases h12 with rfl | rfl
      · refine Sat.out (Sat.gd rfl (Sat.gd rfl (Sat.gd (inR_t (by omega) (by omega)) (Sat.gd (inR_t (by omega) (by omega)) ?_))))
        refine Sat.ite (fun hu => ?_) (fun hu => .some (same _ (fun q => q.1 (by simpa using hu))))
        refine Sat.gd (inR_t (by omega) (by omega)) (Sat.ite (fun ha => ?_) (fun ha => .some (same _ (fun q => of_decide_eq_false ha q.2.1))))
        refine Sat.gd (inR_t (by omega) (by omega)) (Sat.ite (fun hb => ?_) (fun hb => .some (same _ (fun q => of_decide_eq_false hb q.2.2))))
        exact Sat.gd (inR_t (by omega) (by omega)) (main _ (by simpa using hu) (of_decide_eq_true ha) (of_decide_eq_true hb))
      · refine Sat.out (Sat.no rfl (Sat.gd rfl (Sat.gd rfl (Sat.gd (inR_t (by omega) (by omega)) (Sat.gd (inR_t (by omega) (by omega)) ?_)))))
        refine Sat.ite (fun hu => ?_) (fun hu => .some (same _ (fun q => q.1 (by simpa using hu))))
        refine Sat.gd (inR_t (by omega) (by omega)) (Sat.ite (fun ha => ?_) (fun ha => .some (same _ (fun q => of_decide_eq_false ha q.2.1))))
        refine Sat.gd (inR_t (by omega) (by omega)) (Sat.ite (fun hb => ?_) (fun hb => .some (same _ (fun q => of_decide_eq_false hb q.2.2))))
        exact Sat.gd (inR_t (by omega) (by omega)) (main _ (by simpa using hu) (of_decide_eq_true ha) (of_decide_eq_true hb))
  have h1 : kind ≠ 1 := fun e => h12 (.inl e)
  have h2 : kind ≠ 2 := fun e => h12 (.inr e)
  refine Sat.out (Sat.no (decide_eq_false h1) (Sat.no (decide_eq_false h2) ?_))
  by_cases h6 : kind = 6
  · subst h6
    rw [do6]
    cases hin : inB a 0 ((w.up.length : Int) - 1) with
    | false =>
      have hc := inB_f hin
      rw [if_neg (by omega)]
      exact Sat.no rfl (Sat.no rfl (Sat.no rfl (Sat.gd rfl (Sat.no rfl (.some rfl)))))
    | true =>
      have hc := inB_t hin
      obtain ⟨k, rfl⟩ := Int.eq_ofNat_of_zero_le hc.1
      have hk : k < w.ls.length := by omega
      have ho := h.g.ok (lk_mem hk)
      unfold okL at ho
      rw [if_pos ⟨by omega, by omega⟩, toN]
      have va := h.ok (lk w.ls k).a.toNat (by omega)
      have vb := h.ok (lk w.ls k).b.toNat (by omega)
      have vm := mergeD_ok va (dbV_iff.1 vb).1
      have la := va.len
      have lb := vb.len
      have b25 : zBW (w.n, w.ls, w.up, w.sq, w.db, (lk w.ls k).a, (lk w.ls k).b, (lk w.ls k).c, mergeD (dbx w.db (lk w.ls k).a.toNat) (dbx w.db (lk w.ls k).b.toNat), w.net, ()) = some (.inl (wt (synW w (lk w.ls k).a.toNat (lk w.ls k).b.toNat))) := by
        unfold zBW
        dsimp only
        refine Sat.out (sov (zDn _ vm.sm) (Sat.gd (inR_t (by omega) (by omega)) (Sat.gd (inR_t (by omega) (by rw [List.length_set]; omega)) (.some rfl))))
      unfold syncW
      simp only [toN, at_lk, at_bo, at_db]
      refine Sat.no rfl (Sat.no rfl (Sat.no rfl (Sat.gd rfl (Sat.gd rfl (Sat.gd (inR_t (by omega) (by omega)) (Sat.gd (inR_t (by omega) (by omega)) (Sat.ite (fun hc => ?_) (fun hc => .some ?_))))))))
      · rw [if_pos hc]
        refine Sat.gd (inR_t (by omega) (by omega)) (Sat.gd (inR_t (by omega) (by omega)) (sov (zEK _ _ va.so va.sm vb.sm (by omega) (by omega)) ?_))
        exact sov b25 (.some rfl)
      · rw [if_neg (by rw [hc]; simp)]; rfl
  by_cases h345 : kind = 3 ∨ kind = 4 ∨ kind = 5
  case neg =>
    have h3 : kind ≠ 3 := fun e => h345 (.inl e)
    have h4 : kind ≠ 4 := fun e => h345 (.inr (.inl e))
    have h5 : kind ≠ 5 := fun e => h345 (.inr (.inr e))
    refine Sat.no (decide_eq_false h3) (Sat.no (decide_eq_false h4) (Sat.no (decide_eq_false h5) (Sat.no (decide_eq_false h6) (.some ?_))))
    rw [doX h1 h2 h3 h4 h5 h6]; rfl
  cases hin : inB a 0 ((w.net.length : Int) - 1) with
  | false =>
    have hc := inB_f hin
    rcases h345 with rfl | rfl | rfl
    · rw [do3, if_neg (by omega)]
      exact Sat.gd rfl (Sat.no rfl (Sat.no rfl (Sat.no rfl (Sat.no rfl (.some rfl)))))
    · rw [do4, if_neg (by omega)]
      exact Sat.no rfl (Sat.gd rfl (Sat.no rfl (Sat.no rfl (Sat.no rfl (.some rfl)))))
    · rw [do5, if_neg (by omega)]
      exact Sat.no rfl (Sat.no rfl (Sat.gd rfl (Sat.no rfl (Sat.no rfl (.some rfl)))))
  | true =>
    have hc := inB_t hin
    obtain ⟨k, rfl⟩ := Int.eq_ofNat_of_zero_le hc.1
    have hkn : k < w.net.length := by omega
    have hm : pkx w.net k ∈ w.net := pkx_mem hkn
    have hP := h.poss _ (.inr ⟨_, hm, rfl⟩)
    have ht := h.tgt _ hm
    have hV := hP.1
    have w1 : wrap64 ((k : Int) + 1) = ((k : Int) + 1) := w64 (by omega) (by omega)
    rcases h345 with rfl | rfl | rfl
    · rw [do3, if_pos ⟨by omega, by omega⟩, toN]
      obtain ⟨t, ht'⟩ := Int.eq_ofNat_of_zero_le ht.1
      have hd := h.ok t (by omega)
      have hdl := hd.len
      have b11 : zBT (w.n, w.ls, w.up, w.sq, w.db, 3, (k : Int), (t : Int), (pkx w.net k).p.o, (pkx w.net k).p.s, (pkx w.net k).p.e, w.net, ()) = some (.inl (w.n, w.ls, w.up, w.sq, w.db, (t : Int), (pkx w.net k).p.o, (pkx w.net k).p.s, (pkx w.net k).p.e, w.net.eraseIdx k, ())) := by
        unfold zBT
        simp only [w1]
        exact Sat.out (sov (e_del w.net k hkn hnet) (.some rfl))
      clear w1
      simp only [toN, at_pk]
      refine Sat.gd rfl (Sat.gd rfl (Sat.gd (inR_t (by omega) (by omega)) ?_))
      rw [ht', toN]
      refine sov b11 ?_
      simp only [toN, at_db]
      refine Sat.gd (inR_t (by omega) (by omega)) (sov (e_put (dbx w.db t) (pkx w.net k).p hd.so hd.sm hV.sm (by omega)) ?_)
      dsimp only
      refine Sat.gd (inR_t (by omega) (by omega)) ?_
      unfold hearW
      dsimp only
      refine Sat.ite (fun hp => ?_) (fun hp => .some ?_)
      · have hp := of_decide_eq_true hp
        rw [if_pos hp]
        exact sov (zDu { w with db := w.db.set t (putD (dbx w.db t) (pkx w.net k).p), net := w.net.eraseIdx k } (t : Int) (pkx w.net k).p.o (pkx w.net k).p h.g h.up (by show (w.net.eraseIdx k).length ≤ 16; rw [List.length_eraseIdx]; split <;> omega) hV.sm) (.some rfl)
      · have hp := of_decide_eq_false hp
        rw [if_neg hp]
        have : putD (dbx w.db t) (pkx w.net k).p = dbx w.db t := by unfold putD; rw [if_neg hp]
        rw [this]
        have e : w.db.set t (dbx w.db t) = w.db := set_same (by omega)
        rw [e]; rfl
    · rw [do4, if_pos ⟨by omega, by omega⟩, toN]
      have b17 : zBU (w.n, w.ls, w.up, w.sq, w.db, 4, (k : Int), w.net, ()) = some (.inl (wt { w with net := w.net.eraseIdx k })) := by
        unfold zBU
        simp only [w1]
        exact Sat.out (sov (e_del w.net k hkn hnet) (.some rfl))
      exact Sat.no rfl (Sat.gd rfl (Sat.gd rfl (sov b17 (.some rfl))))
    · rw [do5, if_pos ⟨by omega, by omega⟩, toN]
      refine Sat.no rfl (Sat.no rfl (Sat.gd rfl (Sat.gd rfl (Sat.ite (fun hf => ?_) (fun hf => .some ?_)))))
      · have hf := of_decide_eq_true hf
        rw [if_pos (by omega)]
        have b20 : zBV (w.n, w.ls, w.up, w.sq, w.db, 5, (k : Int), w.net, ()) = some (.inl (wt { w with net := w.net ++ [pkx w.net k] })) := by
          unfold zBV
          simp only [toN, at_pk, zDo _ _ _ hV.sm, Option.bind_some]
          exact Sat.out (Sat.gd (inR_t (by omega) (by omega)) (Sat.gd (inR_t (by omega) (by omega)) (Sat.gd (decide_eq_true (by simp only [List.length_singleton]; omega)) (.some rfl))))
        exact sov b20 (.some rfl)
      · have hf := of_decide_eq_false hf
        rw [if_neg (by omega)]; rfl
end
end Go.Proofs.YtojdflifijpffaaGreat
end
section
namespace Go.Proofs.YtojdflifijpffaaGreat
open Go.RowKit
set_option linter.unusedSimpArgs false
set_option linter.unusedVariables false
set_option maxRecDepth 100000

noncomputable def poss (w : Wd) (l : Ls) : Bool := @decide (Poss w Nob l) (Classical.propDecidable _)
theorem poss_t {w : Wd} {l : Ls} : poss w l = true ↔ Poss w Nob l := by unfold poss; simp
theorem poss_f {w : Wd} {l : Ls} : poss w l = false ↔ ¬ Poss w Nob l := by unfold poss; simp
theorem lof_lt (ls : List Lk) (a b : Int) : lof ls a b < ls.length := by
  rcases lof_cases ls a b with ⟨h, _⟩ | ⟨k, h, hk, _⟩ <;> omega
section
variable {w : Wd}
set_option maxHeartbeats 2000000 in
theorem zEN (g : GV w.n w.ls) (hu : w.up.length = w.ls.length) (hsq : (w.sq.length : Int) = w.n) (l : Ls) (hl : Sm l.e) : zLa (w.n, w.ls, w.up, w.sq, w.db, w.net, l.o, l.s, l.e, ()) = some (poss w l, ()) := by
  have h14 := g.2.2.1
  have fl : Fits l.e := by unfold Fits; unfold Sm at hl; omega
  have fls : Fits w.ls := by unfold Fits; omega
  unfold Sm at hl
  have no : ¬ Poss w Nob l → poss w l = false := fun h => poss_f.2 h
  cases l with | mk o s es =>
  cases w with | mk n ls up sq db net =>
  dsimp only at *
  unfold zLa
  dsimp only
  rw [zDb o s es fl]
  refine Sat.out (Sat.ite (fun hc => .some ?_) (fun hc => ?_))
  · rw [no fun h => of_decide_eq_false (show lsv o s es = false by simpa using hc) h.1]
  have hV : LsV ⟨o, s, es⟩ := of_decide_eq_true (show lsv o s es = true by simpa using hc)
  have h0 : 0 ≤ o := hV.1
  refine Sat.ite (fun hc => .some ?_) (fun hc => ?_)
  · have hc := of_decide_eq_true hc
    rw [no fun h => by have : o < n := h.2.1; omega]
  have hn := of_decide_eq_false hc
  simp only [at_int]
  refine Sat.gd (inR_t (by omega) (by omega)) (Sat.ite (fun hc => .some ?_) (fun hc => ?_))
  · have hc : iz sq o.toNat < s := of_decide_eq_true hc
    rw [no fun h => by have : s ≤ iz sq o.toNat := h.2.2.1; omega]
  have hs : ¬ iz sq o.toNat < s := of_decide_eq_false hc
  try simp only [nI_eq]
  refine Sat.bnd (R := fun r => match r with | .inl x => x = (n, ls, up, sq, db, net, o, s, es, ()) ∧ ∀ e ∈ es, lc ls o e.n = some e.c | .inr y => y = (false, ()) ∧ ¬ ∀ e ∈ es, lc ls o e.n = some e.c) ?_ ?_
  · refine Sat.count es.length (fun k t => t = (es, (es.length : Int), (k : Int), n, ls, up, sq, db, net, o, s, es, ()) ∧ ∀ i, i < k → lc ls o (en es i).n = some (en es i).c) ?_ (Nat.zero_le _) (fuel_lt (by omega)) ⟨rfl, fun i hi => by omega⟩
    rintro k t hk ⟨rfl, hok⟩
    by_cases hlt : k < es.length
    · have hm : en es k ∈ es := by rw [en_get hlt]; exact List.getElem_mem hlt
      simp (disch := omega) only [zB1, at_en, at_lk, toN, w64, nI_eq, zEI _ _ _ _ fls, Option.bind_some]
      refine Sat.gd (decide_eq_true (by omega)) (Sat.gd (inR_t (by omega) (by omega)) (Sat.ite (fun hc => .some ⟨rfl, ?_⟩) (fun hc => ?_)))
      · have hc := of_decide_eq_true hc
        intro h
        have := (lc_at (h _ hm)).1
        omega
      · have hc := of_decide_eq_false hc
        have hlo := lof_lt ls o (en es k).n
        repeat refine Sat.gd (inR_t (by omega) (by omega)) ?_
        refine Sat.ite (fun hc2 => .some ⟨rfl, ?_⟩) (fun hc2 => .some ⟨hlt, rfl, fun i hi => ?_⟩)
        · have hc2 : ¬ (lk ls (lof ls o (en es k).n).toNat).c = (en es k).c := by simpa using hc2
          intro h
          have := (lc_at (h _ hm)).2.2
          rw [this] at hc2
          exact hc2 rfl
        · have hc2 : (lk ls (lof ls o (en es k).n).toNat).c = (en es k).c := by simpa using hc2
          by_cases e : i < k
          · exact hok i e
          · obtain rfl : i = k := by omega
            unfold lc
            rw [if_pos (by omega), hc2]
    · obtain rfl : k = es.length := by omega
      unfold zB1
      simp only [nI_eq]
      refine Sat.no (decide_eq_false (by omega)) (.some ⟨rfl, fun e he => ?_⟩)
      obtain ⟨i, hi, rfl⟩ := List.getElem_of_mem he
      rw [← en_get hi]
      exact hok i hi
  rintro (r | r) hr
  case inr =>
    obtain ⟨rfl, hr⟩ := hr
    exact .some (by rw [no fun h => hr h.2.2.2.1])
  obtain ⟨rfl, hr⟩ := hr
  simp only [at_int]
  refine Sat.gd (inR_t (by omega) (by omega)) (Sat.ite (fun hc => .some ?_) (fun hc => ?_))
  · have hc : s < iz sq o.toNat := of_decide_eq_true hc
    rw [poss_t.2 ⟨hV, by show o < n; omega, by show s ≤ iz sq o.toNat; omega, hr, .inl hc⟩]
  have hlt : ¬ s < iz sq o.toNat := of_decide_eq_false hc
  refine sov (zFX ⟨n, ls, up, sq, db, net⟩ hu (by show ls.length ≤ 1000; omega)) ?_
  dsimp only
  refine sov (lsa_i (tru_gv g up) o s) ?_
  have hel := endsOf_len (N := n.toNat) (ls := tru ls up) o
  have hn8 := g.2.1
  refine sov (zE1 ⟨o, s, es⟩ ⟨o, s, endsOf (tru ls up) n.toNat o⟩ fl (by unfold Fits; dsimp only; omega)) (.some ?_)
  by_cases he : es = endsOf (tru ls up) n.toNat o
  · rw [poss_t.2 ⟨hV, by show o < n; omega, by show s ≤ iz sq o.toNat; omega, hr, .inr (.inl he)⟩]
    dsimp only
    rw [decide_eq_true (by rw [← he])]
  · rw [no fun h => by
      rcases h.2.2.2.2 with h | h | h
      · exact hlt h
      · exact he h
      · exact h]
    dsimp only
    rw [decide_eq_false (by intro e; injection e with _ _ e; exact he e)]
set_option maxHeartbeats 2000000 in
theorem zEp (g : GV w.n w.ls) (hu : w.up.length = w.ls.length) (hsq : (w.sq.length : Int) = w.n) (l : Ls) (hl : Sm l.e) : zMa (w.n, w.ls, w.up, w.sq, w.db, w.net, l.o, l.s, l.e, ()) = some (poss w l, ()) := by
  have h14 := g.2.2.1
  have fl : Fits l.e := by unfold Fits; unfold Sm at hl; omega
  have fls : Fits w.ls := by unfold Fits; omega
  unfold Sm at hl
  have no : ¬ Poss w Nob l → poss w l = false := fun h => poss_f.2 h
  cases l with | mk o s es =>
  cases w with | mk n ls up sq db net =>
  dsimp only at *
  unfold zMa
  dsimp only
  rw [zES o s es fl]
  refine Sat.out (Sat.ite (fun hc => .some ?_) (fun hc => ?_))
  · rw [no fun h => of_decide_eq_false (show lsv o s es = false by simpa using hc) h.1]
  have hV : LsV ⟨o, s, es⟩ := of_decide_eq_true (show lsv o s es = true by simpa using hc)
  have h0 : 0 ≤ o := hV.1
  refine Sat.ite (fun hc => .some ?_) (fun hc => ?_)
  · have hc := of_decide_eq_true hc
    rw [no fun h => by have : o < n := h.2.1; omega]
  have hn := of_decide_eq_false hc
  simp only [at_int]
  refine Sat.gd (inR_t (by omega) (by omega)) (Sat.ite (fun hc => .some ?_) (fun hc => ?_))
  · have hc : iz sq o.toNat < s := of_decide_eq_true hc
    rw [no fun h => by have : s ≤ iz sq o.toNat := h.2.2.1; omega]
  have hs : ¬ iz sq o.toNat < s := of_decide_eq_false hc
  try simp only [nI_eq]
  refine Sat.bnd (R := fun r => match r with | .inl x => x = (n, ls, up, sq, db, net, o, s, es, ()) ∧ ∀ e ∈ es, lc ls o e.n = some e.c | .inr y => y = (false, ()) ∧ ¬ ∀ e ∈ es, lc ls o e.n = some e.c) ?_ ?_
  · refine Sat.count es.length (fun k t => t = ((k : Int), n, ls, up, sq, db, net, o, s, es, ()) ∧ ∀ i, i < k → lc ls o (en es i).n = some (en es i).c) ?_ (Nat.zero_le _) (fuel_lt (by omega)) ⟨rfl, fun i hi => by omega⟩
    rintro k t hk ⟨rfl, hok⟩
    by_cases hlt : k < es.length
    · have hm : en es k ∈ es := by rw [en_get hlt]; exact List.getElem_mem hlt
      simp (disch := omega) only [zCQ, at_en, at_lk, toN, w64, nI_eq, zEh _ _ _ _ fls, Option.bind_some]
      refine Sat.gd (decide_eq_true (by omega)) (Sat.gd (inR_t (by omega) (by omega)) (Sat.ite (fun hc => .some ⟨rfl, ?_⟩) (fun hc => ?_)))
      · have hc := of_decide_eq_true hc
        intro h
        have := (lc_at (h _ hm)).1
        omega
      · have hc := of_decide_eq_false hc
        have hlo := lof_lt ls o (en es k).n
        repeat refine Sat.gd (inR_t (by omega) (by omega)) ?_
        refine Sat.ite (fun hc2 => .some ⟨rfl, ?_⟩) (fun hc2 => .some ⟨hlt, rfl, fun i hi => ?_⟩)
        · have hc2 : ¬ (lk ls (lof ls o (en es k).n).toNat).c = (en es k).c := by simpa using hc2
          intro h
          have := (lc_at (h _ hm)).2.2
          rw [this] at hc2
          exact hc2 rfl
        · have hc2 : (lk ls (lof ls o (en es k).n).toNat).c = (en es k).c := by simpa using hc2
          by_cases e : i < k
          · exact hok i e
          · obtain rfl : i = k := by omega
            unfold lc
            rw [if_pos (by omega), hc2]
    · obtain rfl : k = es.length := by omega
      unfold zCQ
      simp only [nI_eq]
      refine Sat.no (decide_eq_false (by omega)) (.some ⟨rfl, fun e he => ?_⟩)
      obtain ⟨i, hi, rfl⟩ := List.getElem_of_mem he
      rw [← en_get hi]
      exact hok i hi
  rintro (r | r) hr
  case inr =>
    obtain ⟨rfl, hr⟩ := hr
    exact .some (by rw [no fun h => hr h.2.2.2.1])
  obtain ⟨rfl, hr⟩ := hr
  simp only [at_int]
  refine Sat.gd (inR_t (by omega) (by omega)) (Sat.ite (fun hc => .some ?_) (fun hc => ?_))
  · have hc : s < iz sq o.toNat := of_decide_eq_true hc
    rw [poss_t.2 ⟨hV, by show o < n; omega, by show s ≤ iz sq o.toNat; omega, hr, .inl hc⟩]
  have hlt : ¬ s < iz sq o.toNat := of_decide_eq_false hc
  refine sov (zEv ⟨n, ls, up, sq, db, net⟩ hu (by show ls.length ≤ 1000; omega)) ?_
  dsimp only
  refine sov (lsa_s (tru_gv g up) o s) ?_
  have hel := endsOf_len (N := n.toNat) (ls := tru ls up) o
  have hn8 := g.2.1
  refine sov (zEs ⟨o, s, es⟩ ⟨o, s, endsOf (tru ls up) n.toNat o⟩ fl (by unfold Fits; dsimp only; omega)) (.some ?_)
  by_cases he : es = endsOf (tru ls up) n.toNat o
  · rw [poss_t.2 ⟨hV, by show o < n; omega, by show s ≤ iz sq o.toNat; omega, hr, .inr (.inl he)⟩]
    dsimp only
    rw [decide_eq_true (by rw [← he])]
  · rw [no fun h => by
      rcases h.2.2.2.2 with h | h | h
      · exact hlt h
      · exact he h
      · exact h]
    dsimp only
    rw [decide_eq_false (by intro e; injection e with _ _ e; exact he e)]
end
end Go.Proofs.YtojdflifijpffaaGreat
end
section
namespace Go.Proofs.YtojdflifijpffaaGreat
open Go.RowKit
set_option linter.unusedSimpArgs false
set_option linter.unusedVariables false
set_option maxRecDepth 100000

noncomputable def wv (w : Wd) : Bool := @decide (WV w Nob) (Classical.propDecidable _)
theorem wv_t {w : Wd} : wv w = true ↔ WV w Nob := by unfold wv; simp
theorem wv_f {w : Wd} : wv w = false ↔ ¬ WV w Nob := by unfold wv; simp
def allW (w : Wd) : List Ls := w.db.flatten ++ w.net.map (·.p)
theorem dbx_mem {db : List (List Ls)} {i : Nat} (h : i < db.length) : dbx db i ∈ db := by
  unfold dbx; rw [List.getD, List.getElem?_eq_getElem h]; exact List.getElem_mem h
theorem said_iff {w : Wd} {l : Ls} : Said w l ↔ l ∈ allW w := by
  unfold Said allW
  rw [List.mem_append, List.mem_flatten, List.mem_map]
  constructor
  · rintro (⟨i, hi, h⟩ | ⟨p, hp, rfl⟩)
    · exact .inl ⟨_, dbx_mem hi, h⟩
    · exact .inr ⟨p, hp, rfl⟩
  · rintro (⟨d, hd, h⟩ | ⟨p, hp, rfl⟩)
    · obtain ⟨i, hi, rfl⟩ := List.getElem_of_mem hd
      refine .inl ⟨i, hi, ?_⟩
      unfold dbx; rw [List.getD, List.getElem?_eq_getElem hi]; exact h
    · exact .inr ⟨p, hp, rfl⟩
def NdW (w : Wd) (i : Nat) : Prop := (1 ≤ iz w.sq i ∧ iz w.sq i ≤ 99) ∧ DbV (dbx w.db i)
def OwW (w : Wd) (i : Nat) : Prop := ∃ l ∈ dbx w.db i, l.o = i ∧ l.s = iz w.sq i
def AgW (xs : List Ls) (i : Nat) : Prop := ∀ j, j < i → (lsa xs j).o = (lsa xs i).o → (lsa xs j).s = (lsa xs i).s → lsa xs j = lsa xs i
theorem wv_mk {w : Wd} (g : GV w.n w.ls) (hu : w.up.length = w.ls.length) (hs : (w.sq.length : Int) = w.n) (hd : (w.db.length : Int) = w.n) (hn : w.net.length ≤ 16) (nd : ∀ i, i < w.db.length → NdW w i) (ow : ∀ i, i < w.db.length → OwW w i) (tg : ∀ i, i < w.net.length → 0 ≤ (pkx w.net i).t ∧ (pkx w.net i).t < w.n) (ps : ∀ i, i < (allW w).length → Poss w Nob (lsa (allW w) i)) (ag : ∀ i, i < (allW w).length → AgW (allW w) i) : WV w Nob := by
  have idx : ∀ l, Said w l → ∃ i, i < (allW w).length ∧ lsa (allW w) i = l := fun l hl => by
    obtain ⟨i, hi, rfl⟩ := List.getElem_of_mem (said_iff.1 hl)
    exact ⟨i, hi, lsa_get hi⟩
  refine ⟨g, hu, hs, hd, hn, fun i hi => (nd i (by omega)).1, fun i hi => (nd i hi).2, ow, fun l hl => ?_, fun x y hx hy e1 e2 => ?_, fun p hp => ?_⟩
  · obtain ⟨i, hi, rfl⟩ := idx l hl
    exact ps i hi
  · obtain ⟨i, hi, rfl⟩ := idx x hx
    obtain ⟨j, hj, rfl⟩ := idx y hy
    rcases Nat.lt_trichotomy i j with h | h | h
    · exact ag j hj i h e1 e2
    · rw [h]
    · exact (ag i hi j h e1.symm e2.symm).symm
  · obtain ⟨i, hi, rfl⟩ := List.getElem_of_mem hp
    have := tg i hi
    have e : pkx w.net i = w.net[i] := by simp [pkx, List.getD, hi]
    rwa [e] at this
section
variable {w : Wd}
theorem WV.nd (h : WV w Nob) {i : Nat} (hi : i < w.db.length) : NdW w i := ⟨h.rng i (by have := h.sq; have := h.db; omega), h.ok i hi⟩
theorem WV.ps (h : WV w Nob) {i : Nat} (hi : i < (allW w).length) : Poss w Nob (lsa (allW w) i) := h.poss _ (said_iff.2 (lsa_mem hi))
theorem WV.ag (h : WV w Nob) {i : Nat} (hi : i < (allW w).length) : AgW (allW w) i := fun j hj e1 e2 => h.agr _ _ (said_iff.2 (lsa_mem (by omega))) (said_iff.2 (lsa_mem hi)) e1 e2
theorem flat8 {db : List (List Ls)} {k : Nat} (hk : k ≤ db.length) (h : ∀ i, i < k → (dbx db i).length ≤ 8) : (db.take k).flatten.length ≤ 8 * k := by
  induction k with
  | zero => simp
  | succ k ih =>
    have := ih (by omega) fun i hi => h i (by omega)
    have h2 := h k (by omega)
    rw [← take_dbx (by omega), List.flatten_append, List.length_append, List.flatten_singleton]
    omega
theorem flat_succ {db : List (List Ls)} {k : Nat} (hk : k < db.length) : (db.take (k + 1)).flatten = (db.take k).flatten ++ dbx db k := by
  rw [← take_dbx hk, List.flatten_append, List.flatten_singleton]
theorem map_succ {net : List Pk} {k : Nat} (hk : k < net.length) : (net.take (k + 1)).map (·.p) = (net.take k).map (·.p) ++ [(pkx net k).p] := by
  rw [← take_pkx hk, List.map_append]; rfl
theorem NdW.sm {i : Nat} (h : NdW w i) : (dbx w.db i).length ≤ 8 := h.2.len
theorem zDr (x l : Ls) (hx : Fits x.e) (hl : Fits l.e) : zK5 (x.o, x.s, x.e, l.o, l.s, l.e, ()) = some (decide (x.o = l.o ∧ x.s = l.s ∧ x ≠ l), ()) := by
  unfold zK5
  by_cases h1 : x.o = l.o
  · by_cases h2 : x.s = l.s
    · simp only [decide_eq_true h1, decide_eq_true h2, cond_true]
      refine Sat.out (sov (zE1 x l hx hl) (.some ?_))
      by_cases h3 : x = l
      · simp [h3]
      · simp [h1, h2, h3]
    · simp [h1, h2]
  · simp [h1]
theorem zDk (xs : List Ls) (l : Ls) (h : xs.length ≤ 100000) (he : ∀ x ∈ xs, Fits x.e) (hl : Fits l.e) : Sat (zLE (xs, l.o, l.s, l.e, ())) fun r => ∃ b : Bool, r = (b, ()) ∧ (b = true ↔ ∃ x ∈ xs, x.o = l.o ∧ x.s = l.s ∧ x ≠ l) := by
  unfold zLE zLI
  refine Sat.bnd (R := fun r => ∃ z : Int, r = (z, ()) ∧ (0 ≤ z ↔ ∃ x ∈ xs, x.o = l.o ∧ x.s = l.s ∧ x ≠ l)) (Sat.bnd (R := fun r => match r with | .inl _ => ¬ ∃ x ∈ xs, x.o = l.o ∧ x.s = l.s ∧ x ≠ l | .inr y => ∃ k : Nat, y = ((k : Int), ()) ∧ ∃ x ∈ xs, x.o = l.o ∧ x.s = l.s ∧ x ≠ l) ?_ ?_) ?_
  · refine Sat.count xs.length (fun k t => t = (xs, l.o, l.s, l.e, (xs.length : Int), (k : Int), ()) ∧ ∀ i, i < k → ¬ ((lsa xs i).o = l.o ∧ (lsa xs i).s = l.s ∧ lsa xs i ≠ l)) ?_ (Nat.zero_le _) (fuel_lt (by omega)) ⟨by simp [nI_eq], fun i hi => by omega⟩
    rintro k t hk ⟨rfl, hok⟩
    by_cases hlt : k < xs.length
    · simp (disch := omega) only [zCp, at_ls, toN, w64, zDr _ l (he _ (lsa_mem hlt)) hl, Option.bind_some]
      refine Sat.gd (decide_eq_true (by omega)) (Sat.gd (inR_t (by omega) (by omega)) (Sat.ite (fun hc => .some ?_) (fun hc => .some ⟨hlt, rfl, fun i hi => ?_⟩)))
      · exact ⟨k, rfl, _, lsa_mem hlt, of_decide_eq_true hc⟩
      · by_cases e : i < k
        · exact hok i e
        · obtain rfl : i = k := by omega
          exact of_decide_eq_false hc
    · obtain rfl : k = xs.length := by omega
      unfold zCp
      refine Sat.no (decide_eq_false (by first | omega | (dsimp only; omega))) (.some ?_)
      rintro ⟨x, hx, hh⟩
      obtain ⟨i, hi, rfl⟩ := List.getElem_of_mem hx
      rw [← lsa_get hi] at hh
      exact hok i hi hh
  · rintro (r | r) hr
    · exact .some ⟨-1, rfl, fun h => by omega, fun h => (hr h).elim⟩
    · obtain ⟨k, rfl, hx⟩ := hr
      exact .some ⟨k, rfl, fun _ => hx, fun _ => by omega⟩
  · rintro _ ⟨z, rfl, hz⟩
    exact .some ⟨decide (0 ≤ z), rfl, by rw [decide_eq_true_eq]; exact hz⟩
theorem ag_take {xs : List Ls} {k : Nat} (hk : k < xs.length) : (∃ x ∈ xs.take k, x.o = (lsa xs k).o ∧ x.s = (lsa xs k).s ∧ x ≠ lsa xs k) ↔ ¬ AgW xs k := by
  constructor
  · rintro ⟨x, hx, h1, h2, h3⟩ h
    obtain ⟨j, hj, rfl⟩ := List.getElem_of_mem hx
    rw [List.length_take] at hj
    rw [List.getElem_take, ← lsa_get (by omega)] at h1 h2 h3
    exact h3 (h j (by omega) h1 h2)
  · intro h
    unfold AgW at h
    simp only [Classical.not_forall] at h
    obtain ⟨j, hj, h1, h2, h3⟩ := h
    refine ⟨lsa xs j, ?_, h1, h2, h3⟩
    rw [lsa_get (by omega)]
    exact List.mem_iff_getElem.2 ⟨j, by rw [List.length_take]; omega, List.getElem_take⟩
set_option maxHeartbeats 2000000 in
theorem zDf (h : SmW w) : zK4 (w.n, w.ls, w.up, w.sq, w.db, w.net, ()) = some (wv w, ()) := by
  have h1 := h.ls
  have h2 := h.up
  have h3 := h.sq
  have h4 := h.db
  have h5 := h.net
  have no : ¬ WV w Nob → (false, ()) = (wv w, ()) := fun q => by rw [wv_f.2 q]
  unfold zK4
  dsimp only
  rw [zDa _ _ (show Fits w.ls by unfold Fits; omega)]
  simp only [nI_eq]
  refine Sat.out (Sat.ite (fun hc => .some (no fun q => ?_)) (fun hc => ?_))
  · have hc : gv w.n w.ls = false := by simpa using hc
    exact of_decide_eq_false hc q.g
  have g : GV w.n w.ls := of_decide_eq_true (show gv w.n w.ls = true by simpa using hc)
  refine Sat.ite (fun hc => .some (no fun q => ?_)) (fun hc => ?_)
  · have hc : ¬ (w.up.length : Int) = w.ls.length := by simpa using hc
    have := q.up; omega
  have hu : (w.up.length : Int) = w.ls.length := by simpa using hc
  refine Sat.ite (fun hc => .some (no fun q => ?_)) (fun hc => ?_)
  · have hc : ¬ (w.sq.length : Int) = w.n := by simpa using hc
    have := q.sq; omega
  have hs : (w.sq.length : Int) = w.n := by simpa using hc
  refine Sat.ite (fun hc => .some (no fun q => ?_)) (fun hc => ?_)
  · have hc : ¬ (w.db.length : Int) = w.n := by simpa using hc
    have := q.db; omega
  have hd : (w.db.length : Int) = w.n := by simpa using hc
  refine Sat.ite (fun hc => .some (no fun q => ?_)) (fun hc => ?_)
  · have hc := of_decide_eq_true hc
    have := q.net; omega
  have hn := of_decide_eq_false hc
  have hn8 := g.2.1
  refine Sat.bnd (R := fun r => match r with | .inl x => x = (w.n, w.n, w.ls, w.up, w.sq, w.db, w.net, w.db.flatten, ()) ∧ ∀ i, i < w.db.length → NdW w i ∧ OwW w i | .inr y => y = (false, ()) ∧ ¬ WV w Nob) ?_ ?_
  · refine Sat.count w.db.length (fun k t => t = (w.n, w.db, (w.db.length : Int), (k : Int), w.n, w.ls, w.up, w.sq, w.db, w.net, (w.db.take k).flatten, ()) ∧ ∀ i, i < k → NdW w i ∧ OwW w i) ?_ (Nat.zero_le _) (fuel_lt (by omega)) ⟨by simp, fun i hi => by omega⟩
    rintro k t hk ⟨rfl, hok⟩
    by_cases hlt : k < w.db.length
    · have hsm := h.dbs k hlt
      simp (disch := omega) only [zBQ, at_db, at_int, at_ls, toN, w64, zFY, zC6 _ hsm.fits hsm.fe, Option.bind_some]
      refine Sat.gd (decide_eq_true (by omega)) (Sat.gd (inR_t (by omega) (by omega)) (Sat.gd (inR_t (by omega) (by omega)) (Sat.ite (fun hc => .some ⟨rfl, fun q => ?_⟩) (fun hc => ?_))))
      · have hc := inB_f (show inB (iz w.sq k) 1 99 = false by simpa using hc)
        exact hc (q.rng k (by omega))
      have hr := inB_t (show inB (iz w.sq k) 1 99 = true by simpa using hc)
      refine Sat.ite (fun hc => .some ⟨rfl, fun q => ?_⟩) (fun hc => ?_)
      · have hc : dbv (dbx w.db k) = false := by simpa using hc
        exact of_decide_eq_false hc (q.ok k hlt)
      have hv : DbV (dbx w.db k) := of_decide_eq_true (show dbv (dbx w.db k) = true by simpa using hc)
      have h8 := hv.len
      obtain ⟨i, hi, hp⟩ := zDq (dbx w.db k) (k : Int) hv.srt (by omega)
      have hfd := fd_place hv.srt hi
      refine sov hp ?_
      dsimp only
      simp only [toN]
      cases hh : hasAt (dbx w.db k) (k : Int) i with
      | false =>
        rw [hh, if_neg (by simp)] at hfd
        refine Sat.gd rfl (.some ⟨rfl, fun q => ?_⟩)
        obtain ⟨l, hl, e1, _⟩ := q.own k hlt
        exact fd_none.1 hfd l hl e1
      | true =>
        rw [hh, if_pos rfl] at hfd
        obtain ⟨hm, ho⟩ := (fd_some hv.so).1 hfd
        obtain ⟨hil, _⟩ := of_decide_eq_true hh
        refine Sat.no rfl (Sat.gd (inR_t (by omega) (by omega)) (Sat.gd (inR_t (by omega) (by omega)) (Sat.ite (fun hc => .some ⟨rfl, fun q => ?_⟩) (fun hc => ?_))))
        · have hc : ¬ (lsa (dbx w.db k) i).s = iz w.sq k := by simpa using hc
          obtain ⟨l, hl, e1, e2⟩ := q.own k hlt
          have := (fd_some hv.so).2 ⟨hl, e1⟩
          rw [hfd] at this
          injection this with this
          rw [this] at hc
          exact hc e2
        · have hc : (lsa (dbx w.db k) i).s = iz w.sq k := by simpa using hc
          have hfl := flat8 (db := w.db) (k := k) (by omega) fun i hi => (hok i hi).1.sm
          refine Sat.gd (decide_eq_true (by omega)) (.some ⟨hlt, ?_, fun j hj => ?_⟩)
          · rw [flat_succ hlt]; rfl
          · by_cases e : j < k
            · exact hok j e
            · obtain rfl : j = k := by omega
              exact ⟨⟨hr, hv⟩, _, hm, ho, hc⟩
    · obtain rfl : k = w.db.length := by omega
      unfold zBQ
      refine Sat.no (decide_eq_false (by first | omega | (dsimp only; omega))) (.some ⟨?_, hok⟩)
      rw [List.take_length]
  rintro (r | r) hr
  case inr =>
    obtain ⟨rfl, hr⟩ := hr
    exact .some (no hr)
  obtain ⟨rfl, hnd⟩ := hr
  have hfl : w.db.flatten.length ≤ 8 * w.db.length := by
    have := flat8 (db := w.db) (k := w.db.length) (by omega) fun i hi => (hnd i hi).1.sm
    rwa [List.take_length] at this
  dsimp only
  refine Sat.bnd (R := fun r => match r with | .inl x => x = (w.n, w.ls, w.up, w.sq, w.db, w.net, allW w, ()) ∧ ∀ i, i < w.net.length → 0 ≤ (pkx w.net i).t ∧ (pkx w.net i).t < w.n | .inr y => y = (false, ()) ∧ ¬ WV w Nob) ?_ ?_
  · refine Sat.count w.net.length (fun k t => t = (w.n, w.net, (w.net.length : Int), (k : Int), w.n, w.ls, w.up, w.sq, w.db, w.net, w.db.flatten ++ (w.net.take k).map (·.p), ()) ∧ ∀ i, i < k → 0 ≤ (pkx w.net i).t ∧ (pkx w.net i).t < w.n) ?_ (Nat.zero_le _) (fuel_lt (by omega)) ⟨by simp, fun i hi => by omega⟩
    rintro k t hk ⟨rfl, hok⟩
    have hn1 := g.1
    by_cases hlt : k < w.net.length
    · simp (disch := omega) only [zBO, at_pk, toN, w64, zFY, Option.bind_some]
      refine Sat.gd (decide_eq_true (by omega)) (Sat.gd (inR_t (by omega) (by omega)) (Sat.ite (fun hc => .some ⟨rfl, fun q => ?_⟩) (fun hc => ?_)))
      · have hc := inB_f (show inB (pkx w.net k).t 0 (w.n - 1) = false by simpa using hc)
        have := q.tgt _ (pkx_mem hlt)
        omega
      · have hc := inB_t (show inB (pkx w.net k).t 0 (w.n - 1) = true by simpa using hc)
        refine Sat.gd (decide_eq_true (by simp only [List.length_append, List.length_map, List.length_take, List.length_singleton]; omega)) (.some ⟨hlt, ?_, fun j hj => ?_⟩)
        · rw [map_succ hlt, ← List.append_assoc]; rfl
        · by_cases e : j < k
          · exact hok j e
          · obtain rfl : j = k := by omega
            omega
    · obtain rfl : k = w.net.length := by omega
      unfold zBO
      refine Sat.no (decide_eq_false (by first | omega | (dsimp only; omega))) (.some ⟨?_, hok⟩)
      rw [List.take_length]; rfl
  rintro (r | r) hr
  case inr =>
    obtain ⟨rfl, hr⟩ := hr
    exact .some (no hr)
  obtain ⟨rfl, htg⟩ := hr
  have hal : (allW w).length ≤ 1000 := by unfold allW; rw [List.length_append, List.length_map]; omega
  have hfe : ∀ x ∈ allW w, Sm x.e := fun x hx => by
    rcases said_iff.2 hx with ⟨i, hi, hx⟩ | ⟨p, hp, rfl⟩
    · exact (h.dbs i hi).2 x hx
    · obtain ⟨i, hi, rfl⟩ := List.getElem_of_mem hp
      have := h.pks i hi
      have e : pkx w.net i = w.net[i] := by simp [pkx, List.getD, hi]
      rwa [e] at this
  have smf : ∀ l : List En, Sm l → Fits l := fun l hl => by unfold Fits; unfold Sm at hl; omega
  dsimp only
  refine Sat.bnd (R := fun r => match r with | .inl x => ∀ i, i < (allW w).length → Poss w Nob (lsa (allW w) i) ∧ AgW (allW w) i | .inr y => y = (false, ()) ∧ ¬ WV w Nob) ?_ ?_
  · refine Sat.count (allW w).length (fun k t => t = (allW w, allW w, ((allW w).length : Int), (k : Int), w.n, w.ls, w.up, w.sq, w.db, w.net, ()) ∧ ∀ i, i < k → Poss w Nob (lsa (allW w) i) ∧ AgW (allW w) i) ?_ (Nat.zero_le _) (fuel_lt (by omega)) ⟨by simp, fun i hi => by omega⟩
    rintro k t hk ⟨rfl, hok⟩
    by_cases hlt : k < (allW w).length
    · have hle := hfe _ (lsa_mem hlt)
      simp (disch := omega) only [zBP, at_ls, toN, w64, zEN g (show w.up.length = w.ls.length by omega) hs _ hle, Option.bind_some, Int.toNat_zero, List.drop_zero, Nat.sub_zero]
      refine Sat.gd (decide_eq_true (by omega)) (Sat.gd (inR_t (by omega) (by omega)) (Sat.ite (fun hc => .some ⟨rfl, fun q => ?_⟩) (fun hc => ?_)))
      · have hc : poss w (lsa (allW w) k) = false := by simpa using hc
        exact poss_f.1 hc (q.ps hlt)
      have hp := poss_t.1 (show poss w (lsa (allW w) k) = true by simpa using hc)
      refine Sat.gd (bnd_t (by omega) (by omega) (by omega)) (Sat.bnd (zDk ((allW w).take k) (lsa (allW w) k) (by rw [List.length_take]; omega) (fun x hx => smf _ (hfe x (List.mem_of_mem_take hx))) (smf _ hle)) ?_)
      rintro _ ⟨b, rfl, hb⟩
      rw [ag_take hlt] at hb
      refine Sat.ite (fun hc3 => .some ⟨rfl, fun q => hb.1 hc3 (q.ag hlt)⟩) (fun hc3 => .some ⟨hlt, rfl, fun j hj => ?_⟩)
      by_cases e : j < k
      · exact hok j e
      · obtain rfl : j = k := by omega
        exact ⟨hp, Classical.not_not.1 fun q => by
          have := hb.2 q
          have hc3 : b = false := hc3
          rw [hc3] at this; cases this⟩
    · obtain rfl : k = (allW w).length := by omega
      unfold zBP
      exact Sat.no (decide_eq_false (by first | omega | (dsimp only; omega))) (.some hok)
  rintro (r | r) hr
  case inr =>
    obtain ⟨rfl, hr⟩ := hr
    exact .some (no hr)
  exact .some (by rw [wv_t.2 (wv_mk g (by omega) hs hd (by omega) (fun i hi => (hnd i hi).1) (fun i hi => (hnd i hi).2) htg (fun i hi => (hr i hi).1) (fun i hi => (hr i hi).2))])
end
end Go.Proofs.YtojdflifijpffaaGreat
end
section
namespace Go.Proofs.YtojdflifijpffaaGreat
open Go.RowKit
set_option linter.unusedSimpArgs false
set_option linter.unusedVariables false
set_option maxRecDepth 100000

section
variable {w : Wd}
structure Shp (w : Wd) : Prop where
  g : GV w.n w.ls
  up : w.up.length = w.ls.length
  sq : (w.sq.length : Int) = w.n
  db : (w.db.length : Int) = w.n
  net : w.net.length ≤ 16
  nd : ∀ i, i < w.db.length → NdW w i
theorem zEt (h : SmW w) : Sat (zMe (w.n, w.ls, w.up, w.sq, w.db, w.net, ())) fun r => ∃ b : Bool, r = (b, ()) ∧ (b = true → Shp w) ∧ (b = false → ¬ WV w Nob) := by
  have h1 := h.ls
  have h2 := h.up
  have h3 := h.sq
  have h4 := h.db
  have h5 := h.net
  have no : ¬ WV w Nob → ∃ b : Bool, (false, ()) = (b, ()) ∧ (b = true → Shp w) ∧ (b = false → ¬ WV w Nob) := fun q => ⟨false, rfl, (fun e => nomatch e), fun _ => q⟩
  unfold zMe
  dsimp only
  rw [zER _ _ (show Fits w.ls by unfold Fits; omega)]
  simp only [nI_eq]
  refine Sat.ite (fun hc => .some (no fun q => ?_)) (fun hc => ?_)
  · have hc : gv w.n w.ls = false := by simpa using hc
    exact of_decide_eq_false hc q.g
  have g : GV w.n w.ls := of_decide_eq_true (show gv w.n w.ls = true by simpa using hc)
  refine Sat.ite (fun hc => .some (no fun q => ?_)) (fun hc => ?_)
  · have hc : ¬ (w.up.length : Int) = w.ls.length := by simpa using hc
    have := q.up; omega
  have hu : (w.up.length : Int) = w.ls.length := by simpa using hc
  refine Sat.ite (fun hc => .some (no fun q => ?_)) (fun hc => ?_)
  · have hc : ¬ (w.sq.length : Int) = w.n := by simpa using hc
    have := q.sq; omega
  have hs : (w.sq.length : Int) = w.n := by simpa using hc
  refine Sat.ite (fun hc => .some (no fun q => ?_)) (fun hc => ?_)
  · have hc : ¬ (w.db.length : Int) = w.n := by simpa using hc
    have := q.db; omega
  have hd : (w.db.length : Int) = w.n := by simpa using hc
  refine Sat.ite (fun hc => .some (no fun q => ?_)) (fun hc => ?_)
  · have hc := of_decide_eq_true hc
    have := q.net; omega
  have hn := of_decide_eq_false hc
  have hn8 := g.2.1
  refine Sat.bnd (R := fun r => match r with | .inl x => ∀ i, i < w.db.length → NdW w i | .inr y => y = (false, ()) ∧ ¬ WV w Nob) ?_ ?_
  · refine Sat.count w.db.length (fun k t => t = ((k : Int), w.n, w.ls, w.up, w.sq, w.db, w.net, ()) ∧ ∀ i, i < k → NdW w i) ?_ (Nat.zero_le _) (fuel_lt (by omega)) ⟨rfl, fun i hi => by omega⟩
    rintro k t hk ⟨rfl, hok⟩
    by_cases hlt : k < w.db.length
    · have hsm := h.dbs k hlt
      simp (disch := omega) only [zCV, at_db, at_int, toN, w64, e_l6In, zEP _ hsm.fits hsm.fe, Option.bind_some]
      refine Sat.gd (decide_eq_true (by omega)) (Sat.gd (inR_t (by omega) (by omega)) (Sat.ite (fun hc => .some ⟨rfl, fun q => ?_⟩) (fun hc => ?_)))
      · have hc := inB_f (show inB (iz w.sq k) 1 99 = false by simpa using hc)
        exact hc (q.rng k (by omega))
      have hr := inB_t (show inB (iz w.sq k) 1 99 = true by simpa using hc)
      refine Sat.gd (inR_t (by omega) (by omega)) (Sat.ite (fun hc => .some ⟨rfl, fun q => ?_⟩) (fun hc => .some ⟨hlt, rfl, fun j hj => ?_⟩))
      · have hc : dbv (dbx w.db k) = false := by simpa using hc
        exact of_decide_eq_false hc (q.ok k hlt)
      · have hv : DbV (dbx w.db k) := of_decide_eq_true (show dbv (dbx w.db k) = true by simpa using hc)
        by_cases e : j < k
        · exact hok j e
        · obtain rfl : j = k := by omega
          exact ⟨hr, hv⟩
    · obtain rfl : k = w.db.length := by omega
      unfold zCV
      exact Sat.no (decide_eq_false (by dsimp only; omega)) (.some hok)
  rintro (r | r) hr
  case inr =>
    obtain ⟨rfl, hr⟩ := hr
    exact .some (no hr)
  exact .some ⟨true, rfl, fun _ => ⟨g, by omega, hs, hd, by omega, hr⟩, fun e => nomatch e⟩
theorem Shp.fl (h : Shp w) : w.db.flatten.length ≤ 8 * w.db.length := by
  have := flat8 (db := w.db) (k := w.db.length) (by omega) fun i hi => (h.nd i hi).sm
  rwa [List.take_length] at this
theorem zEi (h : Shp w) : zL4 (w.n, w.ls, w.up, w.sq, w.db, w.net, ()) = some (allW w, ()) := by
  have hd := h.db
  have hn := h.net
  have h8 := h.g.2.1
  have hfl := h.fl
  unfold zL4
  dsimp only
  refine Sat.out (Sat.bnd (R := fun r => match r with | .inl x => x = (w.n, w.ls, w.up, w.sq, w.db, w.net, w.db.flatten, ()) | .inr _ => False) ?_ ?_)
  · refine Sat.count w.db.length (fun k t => t = ((k : Int), w.n, w.ls, w.up, w.sq, w.db, w.net, (w.db.take k).flatten, ())) ?_ (Nat.zero_le _) (fuel_lt (by omega)) (by simp)
    rintro k t hk rfl
    by_cases hlt : k < w.db.length
    · have hl := (h.nd k hlt).sm
      have hfk := flat8 (db := w.db) (k := k) (by omega) fun i hi => (h.nd i (by omega)).sm
      simp (disch := omega) only [zCJ, at_db, toN, w64, nI_eq]
      refine Sat.gd (decide_eq_true (by omega)) (Sat.gd (inR_t (by omega) (by omega)) (Sat.gd (decide_eq_true (by omega)) (.some ⟨hlt, ?_⟩)))
      rw [flat_succ hlt]; rfl
    · obtain rfl : k = w.db.length := by omega
      unfold zCJ
      simp only [nI_eq]
      refine Sat.no (decide_eq_false (by omega)) (.some ?_)
      rw [List.take_length]
  rintro (r | r) hr
  case inr => exact hr.elim
  obtain rfl := hr
  dsimp only
  refine Sat.bnd (R := fun r => match r with | .inl x => x = (allW w, ()) | .inr _ => False) ?_ ?_
  · refine Sat.count w.net.length (fun k t => t = ((k : Int), w.n, w.ls, w.up, w.sq, w.db, w.net, w.db.flatten ++ (w.net.take k).map (·.p), ())) ?_ (Nat.zero_le _) (fuel_lt (by omega)) (by simp)
    rintro k t hk rfl
    by_cases hlt : k < w.net.length
    · simp (disch := omega) only [zCK, at_pk, toN, w64, nI_eq]
      refine Sat.gd (decide_eq_true (by omega)) (Sat.gd (inR_t (by omega) (by omega)) (Sat.gd (decide_eq_true (by simp only [List.length_append, List.length_map, List.length_take, List.length_singleton]; omega)) (.some ⟨hlt, ?_⟩)))
      rw [map_succ hlt, ← List.append_assoc]; rfl
    · obtain rfl : k = w.net.length := by omega
      unfold zCK
      simp only [nI_eq]
      refine Sat.no (decide_eq_false (by omega)) (.some ?_)
      rw [List.take_length]; rfl
  rintro (r | r) hr
  case inr => exact hr.elim
  obtain rfl := hr
  exact .some rfl
theorem zEr (xs : List Ls) (hl : xs.length ≤ 100000) (he : ∀ x ∈ xs, Fits x.e) : Sat (zMc (xs, ())) fun r => ∃ b : Bool, r = (b, ()) ∧ (b = true ↔ ∀ i, i < xs.length → AgW xs i) := by
  unfold zMc
  refine Sat.bnd (R := fun r => match r with | .inl _ => ∀ i, i < xs.length → AgW xs i | .inr y => y = (false, ()) ∧ ¬ ∀ i, i < xs.length → AgW xs i) ?_ ?_
  · refine Sat.count xs.length (fun k t => t = (xs, (k : Int), ()) ∧ ∀ i, i < k → AgW xs i) ?_ (Nat.zero_le _) (fuel_lt (by omega)) ⟨rfl, fun i hi => by omega⟩
    rintro k t hk ⟨rfl, hok⟩
    by_cases hlt : k < xs.length
    · simp only [zCS, nI_eq]
      refine Sat.gd (decide_eq_true (by omega)) (Sat.bnd (R := fun r => match r with | .inl x => x = (xs, (k : Int), ()) ∧ AgW xs k | .inr y => y = (false, ()) ∧ ¬ AgW xs k) ?_ ?_)
      · refine Sat.count k (fun j t => t = (xs, (k : Int), (j : Int), ()) ∧ ∀ i, i < j → (lsa xs i).o = (lsa xs k).o → (lsa xs i).s = (lsa xs k).s → lsa xs i = lsa xs k) ?_ (Nat.zero_le _) (fuel_lt (by omega)) ⟨rfl, fun i hi => by omega⟩
        rintro j t hj ⟨rfl, hok2⟩
        by_cases hjk : j < k
        · have fk := he _ (lsa_mem hlt)
          have fj := he _ (lsa_mem (show j < xs.length by omega))
          simp (disch := omega) only [zCT, at_ls, toN, w64, zEs _ _ fk fj, Option.bind_some]
          refine Sat.gd (decide_eq_true (by omega)) (Sat.gd (inR_t (by omega) (by omega)) (Sat.gd (inR_t (by omega) (by omega)) (Sat.ite (fun h1 => ?_) (fun h1 => .some ⟨hjk, rfl, fun i hi => ?_⟩))))
          · have h1 := of_decide_eq_true h1
            refine Sat.gd (inR_t (by omega) (by omega)) (Sat.gd (inR_t (by omega) (by omega)) (Sat.ite (fun h2 => ?_) (fun h2 => .some ⟨hjk, rfl, fun i hi => ?_⟩)))
            · have h2 := of_decide_eq_true h2
              refine Sat.gd (inR_t (by omega) (by omega)) (Sat.gd (inR_t (by omega) (by omega)) (Sat.ite (fun h3 => .some ⟨rfl, fun q => ?_⟩) (fun h3 => .some ⟨hjk, rfl, fun i hi => ?_⟩)))
              · have h3 : ¬ lsa xs k = lsa xs j := by simpa using h3
                exact h3 (q j hjk h1.symm h2.symm).symm
              · have h3 : lsa xs k = lsa xs j := by simpa using h3
                by_cases e : i < j
                · exact hok2 i e
                · obtain rfl : i = j := by omega
                  exact fun _ _ => h3.symm
            · have h2 := of_decide_eq_false h2
              by_cases e : i < j
              · exact hok2 i e
              · obtain rfl : i = j := by omega
                exact fun _ e2 => (h2 e2.symm).elim
          · have h1 := of_decide_eq_false h1
            by_cases e : i < j
            · exact hok2 i e
            · obtain rfl : i = j := by omega
              exact fun e1 => (h1 e1.symm).elim
        · obtain rfl : j = k := by omega
          unfold zCT
          exact Sat.no (decide_eq_false (by dsimp only; omega)) (.some ⟨rfl, hok2⟩)
      · rintro (r | r) hr
        · obtain ⟨rfl, hr⟩ := hr
          simp (disch := omega) only [w64]
          refine .some ⟨hlt, rfl, fun i hi => ?_⟩
          by_cases e : i < k
          · exact hok i e
          · obtain rfl : i = k := by omega
            exact hr
        · obtain ⟨rfl, hr⟩ := hr
          exact .some ⟨rfl, fun q => hr (q k hlt)⟩
    · obtain rfl : k = xs.length := by omega
      unfold zCS
      simp only [nI_eq]
      exact Sat.no (decide_eq_false (by omega)) (.some hok)
  rintro (r | r) hr
  · exact .some ⟨true, rfl, fun _ => hr, fun _ => rfl⟩
  · obtain ⟨rfl, hr⟩ := hr
    exact .some ⟨false, rfl, (fun e => nomatch e), fun q => (hr q).elim⟩
set_option maxHeartbeats 2000000 in
theorem zEV (h : SmW w) : zLV (w.n, w.ls, w.up, w.sq, w.db, w.net, ()) = some (wv w, ()) := by
  have no : ¬ WV w Nob → (false, ()) = (wv w, ()) := fun q => by rw [wv_f.2 q]
  unfold zLV
  refine Sat.out (Sat.bnd (zEt h) ?_)
  rintro _ ⟨b, rfl, hb1, hb2⟩
  dsimp only
  refine Sat.ite (fun hc => .some (no (hb2 (by simpa using hc)))) (fun hc => ?_)
  have hS := hb1 (by simpa using hc)
  have hd := hS.db
  have hs := hS.sq
  have hn := hS.net
  have h8 := hS.g.2.1
  have hn1 := hS.g.1
  have hfl := hS.fl
  have hal : (allW w).length ≤ 1000 := by unfold allW; rw [List.length_append, List.length_map]; omega
  have hfe : ∀ x ∈ allW w, Sm x.e := fun x hx => by
    rcases said_iff.2 hx with ⟨i, hi, hx⟩ | ⟨p, hp, rfl⟩
    · exact (h.dbs i hi).2 x hx
    · obtain ⟨i, hi, rfl⟩ := List.getElem_of_mem hp
      have := h.pks i hi
      have e : pkx w.net i = w.net[i] := by simp [pkx, List.getD, hi]
      rwa [e] at this
  have smf : ∀ l : List En, Sm l → Fits l := fun l hl => by unfold Fits; unfold Sm at hl; omega
  refine sov (zEi hS) ?_
  dsimp only
  refine Sat.bnd (zEr (allW w) (by omega) (fun x hx => smf _ (hfe x hx))) ?_
  rintro _ ⟨b2, rfl, hb⟩
  dsimp only
  refine Sat.ite (fun hc => .some (no fun q => ?_)) (fun hc => ?_)
  · have hc : b2 = false := by simpa using hc
    have := hb.2 fun i hi => q.ag hi
    rw [hc] at this; cases this
  have hag := hb.1 (show b2 = true by simpa using hc)
  refine Sat.bnd (R := fun r => match r with | .inl x => x = (w.n, w.ls, w.up, w.sq, w.db, w.net, ()) ∧ ∀ i, i < w.db.length → (∀ l ∈ dbx w.db i, Poss w Nob l) ∧ OwW w i | .inr y => y = (false, ()) ∧ ¬ WV w Nob) ?_ ?_
  · refine Sat.count w.db.length (fun k t => t = ((k : Int), w.n, w.ls, w.up, w.sq, w.db, w.net, ()) ∧ ∀ i, i < k → (∀ l ∈ dbx w.db i, Poss w Nob l) ∧ OwW w i) ?_ (Nat.zero_le _) (fuel_lt (by omega)) ⟨rfl, fun i hi => by omega⟩
    rintro k t hk ⟨rfl, hok⟩
    by_cases hlt : k < w.db.length
    · have hsm := h.dbs k hlt
      have hv := (hS.nd k hlt).2
      have hvl := hv.len
      simp only [zCA]
      refine Sat.gd (decide_eq_true (by omega)) (Sat.bnd (R := fun r => match r with | .inl x => x = ((k : Int), w.n, w.ls, w.up, w.sq, w.db, w.net, ()) ∧ ∀ l ∈ dbx w.db k, Poss w Nob l | .inr y => y = (false, ()) ∧ ¬ WV w Nob) ?_ ?_)
      · refine Sat.count (dbx w.db k).length (fun j t => t = ((k : Int), (j : Int), w.n, w.ls, w.up, w.sq, w.db, w.net, ()) ∧ ∀ i, i < j → Poss w Nob (lsa (dbx w.db k) i)) ?_ (Nat.zero_le _) (fuel_lt (by omega)) ⟨rfl, fun i hi => by omega⟩
        rintro j t hj ⟨rfl, hok2⟩
        by_cases hjl : j < (dbx w.db k).length
        · have hm : lsa (dbx w.db k) j ∈ dbx w.db k := lsa_mem hjl
          simp (disch := omega) only [zCB, at_db, at_ls, toN, w64, nI_eq, zEp hS.g hS.up hs _ (hsm.2 _ hm), Option.bind_some]
          refine Sat.gd (inR_t (by omega) (by omega)) (Sat.gd (decide_eq_true (by omega)) (Sat.gd (inR_t (by omega) (by omega)) (Sat.gd (inR_t (by omega) (by omega)) (Sat.ite (fun hc => .some ⟨rfl, fun q => ?_⟩) (fun hc => .some ⟨hjl, rfl, fun i hi => ?_⟩)))))
          · have hc : poss w (lsa (dbx w.db k) j) = false := by simpa using hc
            exact poss_f.1 hc (q.poss _ (.inl ⟨k, hlt, hm⟩))
          · have hp := poss_t.1 (show poss w (lsa (dbx w.db k) j) = true by simpa using hc)
            by_cases e : i < j
            · exact hok2 i e
            · obtain rfl : i = j := by omega
              exact hp
        · obtain rfl : j = (dbx w.db k).length := by omega
          unfold zCB
          simp only [at_db, toN, nI_eq]
          refine Sat.gd (inR_t (by omega) (by omega)) (Sat.no (decide_eq_false (by omega)) (.some ⟨rfl, fun l hl => ?_⟩))
          obtain ⟨i, hi, rfl⟩ := List.getElem_of_mem hl
          rw [← lsa_get hi]
          exact hok2 i hi
      · rintro (r | r) hr
        case inr =>
          obtain ⟨rfl, hr⟩ := hr
          exact .some ⟨rfl, hr⟩
        obtain ⟨rfl, hr⟩ := hr
        simp (disch := omega) only [at_db, at_int, toN, w64, zEb _ (k : Int) hsm.fits, Option.bind_some]
        refine Sat.gd (inR_t (by omega) (by omega)) ?_
        cases hfd : fd (dbx w.db k) (k : Int) with
        | none =>
          refine Sat.gd rfl (.some ⟨rfl, fun q => ?_⟩)
          obtain ⟨l, hl, e1, _⟩ := q.own k hlt
          exact fd_none.1 hfd l hl e1
        | some l0 =>
          obtain ⟨hm, ho⟩ := (fd_some hv.so).1 hfd
          refine Sat.no rfl (Sat.gd (inR_t (by omega) (by omega)) (Sat.ite (fun hc => .some ⟨rfl, fun q => ?_⟩) (fun hc => .some ⟨hlt, rfl, fun i hi => ?_⟩)))
          · have hc : ¬ l0.s = iz w.sq k := by simpa using hc
            obtain ⟨l, hl, e1, e2⟩ := q.own k hlt
            have := (fd_some hv.so).2 ⟨hl, e1⟩
            rw [hfd] at this
            injection this with this
            rw [this] at hc
            exact hc e2
          · have hc : l0.s = iz w.sq k := by simpa using hc
            by_cases e : i < k
            · exact hok i e
            · obtain rfl : i = k := by omega
              exact ⟨hr, l0, hm, ho, hc⟩
    · obtain rfl : k = w.db.length := by omega
      unfold zCA
      exact Sat.no (decide_eq_false (by dsimp only; omega)) (.some ⟨rfl, hok⟩)
  rintro (r | r) hr
  case inr =>
    obtain ⟨rfl, hr⟩ := hr
    exact .some (no hr)
  obtain ⟨rfl, hnd⟩ := hr
  dsimp only
  refine Sat.bnd (R := fun r => match r with | .inl x => ∀ i, i < w.net.length → (0 ≤ (pkx w.net i).t ∧ (pkx w.net i).t < w.n) ∧ Poss w Nob (pkx w.net i).p | .inr y => y = (false, ()) ∧ ¬ WV w Nob) ?_ ?_
  · refine Sat.count w.net.length (fun k t => t = ((k : Int), w.n, w.ls, w.up, w.sq, w.db, w.net, ()) ∧ ∀ i, i < k → (0 ≤ (pkx w.net i).t ∧ (pkx w.net i).t < w.n) ∧ Poss w Nob (pkx w.net i).p) ?_ (Nat.zero_le _) (fuel_lt (by omega)) ⟨rfl, fun i hi => by omega⟩
    rintro k t hk ⟨rfl, hok⟩
    by_cases hlt : k < w.net.length
    · simp (disch := omega) only [zCz, at_pk, toN, w64, nI_eq, e_l6In, zEp hS.g hS.up hs _ (h.pks k hlt), Option.bind_some]
      refine Sat.gd (decide_eq_true (by omega)) (Sat.gd (inR_t (by omega) (by omega)) (Sat.ite (fun hc => .some ⟨rfl, fun q => ?_⟩) (fun hc => ?_)))
      · have hc := inB_f (show inB (pkx w.net k).t 0 (w.n - 1) = false by simpa using hc)
        have := q.tgt _ (pkx_mem hlt)
        omega
      have ht := inB_t (show inB (pkx w.net k).t 0 (w.n - 1) = true by simpa using hc)
      refine Sat.gd (inR_t (by omega) (by omega)) (Sat.ite (fun hc => .some ⟨rfl, fun q => ?_⟩) (fun hc => .some ⟨hlt, rfl, fun i hi => ?_⟩))
      · have hc : poss w (pkx w.net k).p = false := by simpa using hc
        exact poss_f.1 hc (q.poss _ (.inr ⟨_, pkx_mem hlt, rfl⟩))
      · have hp := poss_t.1 (show poss w (pkx w.net k).p = true by simpa using hc)
        by_cases e : i < k
        · exact hok i e
        · obtain rfl : i = k := by omega
          exact ⟨by omega, hp⟩
    · obtain rfl : k = w.net.length := by omega
      unfold zCz
      simp only [nI_eq]
      exact Sat.no (decide_eq_false (by omega)) (.some hok)
  rintro (r | r) hr
  case inr =>
    obtain ⟨rfl, hr⟩ := hr
    exact .some (no hr)
  refine .some ?_
  rw [wv_t.2 (wv_mk hS.g hS.up hs hd hn hS.nd (fun i hi => (hnd i hi).2) (fun i hi => (hr i hi).1) (fun i hi => ?_) hag)]
  rcases said_iff.2 (lsa_mem hi) with ⟨j, hj, hx⟩ | ⟨p, hp, e⟩
  · exact (hnd j hj).1 _ hx
  · rw [e]
    obtain ⟨j, hj, rfl⟩ := List.getElem_of_mem hp
    have := (hr j hj).2
    have e2 : pkx w.net j = w.net[j] := by simp [pkx, List.getD, hj]
    rwa [e2] at this
end
end Go.Proofs.YtojdflifijpffaaGreat
end
section
namespace Go.Proofs.YtojdflifijpffaaGreat
open Go.RowKit
set_option linter.unusedSimpArgs false
set_option linter.unusedVariables false
set_option maxRecDepth 100000

section
variable {w : Wd}
def zW : Wd := ⟨0, [], [], [], [], []⟩
def wk7 (b : Bool) (w : Wd) : Int × Bool × List Lk × List Bool × List Int × List (List Ls) × List Pk × Unit := (w.n, b, w.ls, w.up, w.sq, w.db, w.net, ())
theorem zW_sm : SmW zW := ⟨by simp [zW], by simp [zW], by simp [zW], by simp [zW], by simp [zW], fun i hi => by simp [zW] at hi, fun i hi => by simp [zW] at hi⟩
theorem sync_do {v : Wd} {i : Nat} (hi : i < v.up.length) : doW v 6 i = syncW v i := by rw [do6, if_pos ⟨by omega, by omega⟩, toN]
theorem calm_pre (h : WV w Nob) : WV { w with net := [] } Nob := h.less (db' := w.db) rfl (by simp) h.ok h.own (fun l hl => by
  rcases hl with hl | ⟨p, hp, _⟩
  · exact .inl hl
  · simp at hp) (by simp)
theorem e_calm (h : WV w Nob) : zK8 (w.n, w.ls, w.up, w.sq, w.db, w.net, ()) = some (wt (calW w)) := by
  have h8 := h.nn
  have h14 := h.lsl
  have v0 := calm_pre h
  unfold zK8
  refine Sat.out (Sat.bnd (R := fun r => match r with | .inl x => x = wt (calW w) | .inr _ => False) ?_ ?_)
  · refine Sat.count w.n.toNat (fun k t => t = (w.n, (k : Int), wt (calK { w with net := [] } k))) ?_ (Nat.zero_le _) (fuel_lt (by omega)) rfl
    rintro k t hk rfl
    have hs := cal_same { w with net := [] } k
    have hv := cal_ok v0 k
    generalize hc : calK { w with net := [] } k = c at hs hv ⊢
    by_cases hlt : k < w.n.toNat
    · unfold zBX
      refine Sat.gd (decide_eq_true (by dsimp only; omega)) (Sat.bnd (R := fun r => match r with | .inl x => x = (w.n, (k : Int), wt (swpW c)) | .inr _ => False) ?_ ?_)
      · have hup := hv.up
        have hl14 := hv.lsl
        refine Sat.count c.ls.length (fun i t => t = (w.n, (k : Int), (c.ls.length : Int), (i : Int), wt (swpK c i))) ?_ (Nat.zero_le _) (fuel_lt (by omega)) (by dsimp only [wt]; rw [nI_eq, hup]; rfl)
        rintro i t hi rfl
        have hs2 := swp_same c i
        by_cases hil : i < c.ls.length
        · have hv2 := swp_ok hv i (by omega)
          unfold zBY
          simp (disch := omega) only [w64]
          refine Sat.gd (decide_eq_true (by first | omega | (dsimp only; omega))) (sov (zDj hv2 6 (i : Int)) (.some ⟨hil, ?_⟩))
          rw [sync_do (by rw [hs2.2.2.1, hup]; exact hil)]
          rfl
        · obtain rfl : i = c.ls.length := by omega
          unfold zBY
          exact Sat.no (decide_eq_false (by first | omega | (dsimp only; omega))) (.some rfl)
      · rintro (r | r) hr
        case inr => exact hr.elim
        obtain rfl := hr
        simp (disch := omega) only [w64]
        refine .some ⟨hlt, ?_⟩
        show _ = (w.n, ((k + 1 : Nat) : Int), wt (swpW (calK { w with net := [] } k)))
        rw [hc]; rfl
    · obtain rfl : k = w.n.toNat := by omega
      unfold zBX
      refine Sat.no (decide_eq_false (by first | omega | (dsimp only; omega))) (.some ?_)
      unfold calW
      rw [hc]
  · rintro (r | r) hr
    case inr => exact hr.elim
    obtain rfl := hr
    exact .some rfl
noncomputable def calV (w : Wd) : Wd := if wv w = true then calW w else zW
theorem zDc (h : SmW w) : zK1 (w.n, w.ls, w.up, w.sq, w.db, w.net, ()) = some (wt (calV w)) := by
  unfold zK1 calV
  refine Sat.out (sov (zDf h) ?_)
  dsimp only
  cases hv : wv w with
  | false => exact Sat.gd rfl (.some (by rw [if_neg (by simp)]; try rfl))
  | true =>
    rw [if_pos rfl]
    refine Sat.no rfl (sov (zDp h) ?_)
    exact sov (e_calm (wv_t.1 hv)) (.some rfl)
theorem zET (h : SmW w) : zLT (w.n, w.ls, w.up, w.sq, w.db, w.net, ()) = some (wt (calV w)) := by
  unfold zLT calV
  refine Sat.out (sov (zEV h) ?_)
  dsimp only
  cases hv : wv w with
  | false => exact Sat.gd rfl (.some (by rw [if_neg (by simp)]; try rfl))
  | true =>
    rw [if_pos rfl]
    have hV := wv_t.1 hv
    have h8 := hV.nn
    have h14 := hV.lsl
    have v0 := calm_pre hV
    refine Sat.no rfl (sov (zEl h) ?_)
    dsimp only
    refine Sat.bnd (R := fun r => match r with | .inl x => x = (0, [], [], [], [], [], wt (calW w)) | .inr _ => False) ?_ ?_
    · refine Sat.count w.n.toNat (fun k t => t = ((k : Int), 0, [], [], [], [], [], wt (calK { w with net := [] } k))) ?_ (Nat.zero_le _) (fuel_lt (by omega)) rfl
      rintro k t hk rfl
      have hs := cal_same { w with net := [] } k
      have hv := cal_ok v0 k
      generalize hc : calK { w with net := [] } k = c at hs hv ⊢
      have hn : c.n = w.n := hs.1
      by_cases hlt : k < w.n.toNat
      · unfold zCu
        refine Sat.gd (decide_eq_true (by dsimp only [wt]; omega)) (Sat.bnd (R := fun r => match r with | .inl x => x = ((k : Int), 0, [], [], [], [], [], wt (swpW c)) | .inr _ => False) ?_ ?_)
        · have hup := hv.up
          have hl14 := hv.lsl
          refine Sat.count c.ls.length (fun i t => t = ((k : Int), (i : Int), 0, [], [], [], [], [], wt (swpK c i))) ?_ (Nat.zero_le _) (fuel_lt (by omega)) rfl
          rintro i t hi rfl
          have hs2 := swp_same c i
          by_cases hil : i < c.ls.length
          · have hv2 := swp_ok hv i (by omega)
            unfold zCv
            simp (disch := omega) only [w64, nI_eq]
            refine Sat.gd (decide_eq_true (by dsimp only [wt]; rw [hs2.2.2.1, hup]; omega)) (sov (zEu hv2 (by rw [hs2.2.1]; exact hil)) (.some ⟨hil, rfl⟩))
          · obtain rfl : i = c.ls.length := by omega
            unfold zCv
            simp only [nI_eq]
            exact Sat.no (decide_eq_false (by dsimp only [wt]; rw [hs2.2.2.1, hup]; omega)) (.some rfl)
        · rintro (r | r) hr
          case inr => exact hr.elim
          obtain rfl := hr
          simp (disch := omega) only [w64]
          refine .some ⟨hlt, ?_⟩
          show _ = (((k + 1 : Nat) : Int), (0 : Int), [], [], [], [], [], wt (swpW (calK { w with net := [] } k)))
          rw [hc]; rfl
      · obtain rfl : k = w.n.toNat := by omega
        unfold zCu
        refine Sat.no (decide_eq_false (by dsimp only [wt]; omega)) (.some ?_)
        unfold calW
        rw [hc]
    · rintro (r | r) hr
      case inr => exact hr.elim
      obtain rfl := hr
      dsimp only [wt]
      exact sov (zEl (calW_ok hV).sm) (.some rfl)
theorem zEW (zs : List Bool) (hl : Fits zs) : zLs (zs, zs, ()) = some (true, ()) := by
  unfold zLs
  simp only [decide_true, Bool.not_true, cond_false]
  refine Sat.out (Sat.bnd (R := fun r => match r with | .inl _ => True | .inr _ => False) ?_ ?_)
  · refine Sat.count zs.length (fun k t => t = (zs, zs, (k : Int), ())) ?_ (Nat.zero_le _) (fuel_lt (by omega)) rfl
    rintro k t hk rfl
    simp (disch := omega) only [zCe, at_bo, toN, w64, nI_eq]
    refine Sat.ite (fun hh => ?_) (fun hh => .some trivial)
    have hh := of_decide_eq_true hh
    refine Sat.gd (inR_t (by omega) (by omega)) (Sat.gd (inR_t (by omega) (by omega)) (Sat.no (by simp) (.some ⟨by omega, rfl⟩)))
  · rintro (r | r) hr
    case inr => exact hr.elim
    exact .some rfl
theorem zE3 (h : SmW w) : zLy (w.n, w.ls, w.up, w.sq, w.db, w.net, w.n, w.ls, w.up, w.sq, w.db, w.net, ()) = some (true, ()) := by
  have h1 := h.ls
  have h2 := h.up
  have h3 := h.sq
  have h4 := h.db
  have h5 := h.net
  unfold zLy
  dsimp only
  refine Sat.out (sov (zEZ _ _ (show Fits w.ls by unfold Fits; omega)) (Sat.no rfl (sov (zEW _ (show Fits w.up by unfold Fits; omega)) (Sat.no rfl (sov (zE0 _ (show Fits w.sq by unfold Fits; omega)) (Sat.no rfl ?_))))))
  refine Sat.no (by simp) (Sat.no (by simp) ?_)
  refine Sat.bnd (R := fun r => match r with | .inl x => x = (w.n, w.ls, w.up, w.sq, w.db, w.net, wt w) | .inr _ => False) ?_ ?_
  · refine Sat.count w.db.length (fun k t => t = ((k : Int), w.n, w.ls, w.up, w.sq, w.db, w.net, wt w)) ?_ (Nat.zero_le _) (fuel_lt (by omega)) rfl
    rintro k t hk rfl
    by_cases hlt : k < w.db.length
    · simp (disch := omega) only [zCj, wt, at_db, toN, w64, nI_eq]
      refine Sat.gd (decide_eq_true (by omega)) (Sat.gd (inR_t (by omega) (by omega)) (Sat.gd (inR_t (by omega) (by omega)) (sov (zEX _ (h.dbs k hlt)) (Sat.no rfl (.some ⟨hlt, rfl⟩)))))
    · obtain rfl : k = w.db.length := by omega
      unfold zCj
      simp only [nI_eq]
      exact Sat.no (decide_eq_false (by omega)) (.some rfl)
  rintro (r | r) hr
  case inr => exact hr.elim
  obtain rfl := hr
  dsimp only
  refine Sat.bnd (R := fun r => match r with | .inl _ => True | .inr _ => False) ?_ ?_
  · refine Sat.count w.net.length (fun k t => t = ((k : Int), w.n, w.ls, w.up, w.sq, w.db, w.net, wt w)) ?_ (Nat.zero_le _) (fuel_lt (by omega)) rfl
    rintro k t hk rfl
    by_cases hlt : k < w.net.length
    · have hf : Fits (pkx w.net k).p.e := by have := h.pks k hlt; unfold Fits; unfold Sm at this; omega
      simp (disch := omega) only [zCk, wt, at_pk, toN, w64, nI_eq]
      refine Sat.gd (decide_eq_true (by omega)) (Sat.gd (inR_t (by omega) (by omega)) (Sat.gd (inR_t (by omega) (by omega)) (Sat.no (by simp) (Sat.gd (inR_t (by omega) (by omega)) (Sat.gd (inR_t (by omega) (by omega)) (sov (zE2 _ _ hf hf) (Sat.no (by simp) (.some ⟨hlt, rfl⟩))))))))
    · obtain rfl : k = w.net.length := by omega
      unfold zCk
      simp only [nI_eq]
      exact Sat.no (decide_eq_false (by omega)) (.some trivial)
  rintro (r | r) hr
  case inr => exact hr.elim
  exact .some rfl
end
end Go.Proofs.YtojdflifijpffaaGreat
end
section
namespace Go.Proofs.YtojdflifijpffaaGreat
open Go.RowKit
set_option linter.unusedSimpArgs false
set_option linter.unusedVariables false
set_option maxRecDepth 100000

section
def rowN (ls : List Lk) (N k : Nat) : List Ls := (List.range k).map fun i : Nat => (⟨i, 1, endsOf ls N i⟩ : Ls)
theorem rowN_succ (ls : List Lk) (N k : Nat) : rowN ls N (k + 1) = rowN ls N k ++ [⟨(k : Nat), 1, endsOf ls N (k : Nat)⟩] := by
  unfold rowN
  rw [List.range_succ, List.map_append]; rfl
theorem rowN_len (ls : List Lk) (N k : Nat) : (rowN ls N k).length = k := by simp [rowN]
theorem rep_succ {α : Type} (k : Nat) (a : α) : List.replicate (k + 1) a = List.replicate k a ++ [a] := List.replicate_succ'
noncomputable def newV (n : Int) (ls : List Lk) : Wd := if gv n ls = true then newW n ls else zW
theorem new_okI {n : Int} {ls : List Lk} (g : GV n ls) : WV (newW n ls) Nob := by
  have h1 := g.1
  obtain ⟨N, rfl⟩ := Int.eq_ofNat_of_zero_le (show 0 ≤ n by omega)
  exact new_ok g
theorem rowN_sm {N k : Nat} (ls : List Lk) (h8 : N ≤ 8) (hk : k ≤ 8) : SmD (rowN ls N k) := by
  refine ⟨by have := rowN_len ls N k; unfold Sm; omega, fun l hl => ?_⟩
  unfold rowN at hl
  obtain ⟨i, hi, rfl⟩ := List.mem_map.1 hl
  have := endsOf_len (ls := ls) (N := N) (i : Int)
  unfold Sm; dsimp only; omega
theorem zEU (n : Int) (ls : List Lk) (hl : Fits ls) : zLU (n, ls, ()) = some (wk7 (gv n ls) (newV n ls)) := by
  unfold zLU newV
  dsimp only
  rw [zER n ls hl]
  cases hg : gv n ls with
  | false => exact Sat.out (sov rfl (Sat.gd rfl (.some rfl)))
  | true =>
    have g := gv_t hg
    have h1 := g.1
    have h8 := g.2.1
    have h14 := g.2.2.1
    obtain ⟨N, rfl⟩ := Int.eq_ofNat_of_zero_le (show 0 ≤ n by omega)
    refine Sat.out (sov rfl (Sat.no rfl (sov (zEg _ ls (by omega)) ?_)))
    dsimp only
    rw [if_pos rfl]
    refine Sat.bnd (R := fun r => match r with | .inl x => x = ((N : Int), ls, 0, [], [], [], [], [], rowN ls N N, (N : Int), ls, [], List.replicate N (1 : Int), [], [], ()) | .inr _ => False) ?_ ?_
    · refine Sat.count N (fun k t => t = ((k : Int), (N : Int), ls, 0, [], [], [], [], [], rowN ls N k, (N : Int), ls, [], List.replicate k (1 : Int), [], [], ())) ?_ (Nat.zero_le _) (fuel_lt (by omega)) rfl
      rintro k t hk rfl
      have hrl := rowN_len ls N k
      by_cases hlt : k < N
      · simp (disch := omega) only [zCy, zEd g, Option.bind_some, w64]
        refine Sat.gd (decide_eq_true (by omega)) (Sat.gd (decide_eq_true (by simp only [List.length_singleton]; omega)) (Sat.gd (decide_eq_true (by simp only [List.length_singleton, List.length_replicate]; omega)) (.some ⟨hlt, ?_⟩)))
        rw [rowN_succ, rep_succ k (1 : Int)]; rfl
      · obtain rfl : k = N := by omega
        unfold zCy
        exact Sat.no (decide_eq_false (by first | omega | (dsimp only; omega))) (.some rfl)
    rintro (r | r) hr
    case inr => exact hr.elim
    obtain rfl := hr
    dsimp only
    refine Sat.bnd (R := fun r => match r with | .inl x => x = ((N : Int), ls, 0, [], [], [], [], [], (N : Int), ls, [], List.replicate N (1 : Int), List.replicate N (rowN ls N N), [], ()) | .inr _ => False) ?_ ?_
    · refine Sat.count N (fun k t => t = ((k : Int), (N : Int), ls, 0, [], [], [], [], [], rowN ls N N, (N : Int), ls, [], List.replicate N (1 : Int), List.replicate k (rowN ls N N), [], ())) ?_ (Nat.zero_le _) (fuel_lt (by omega)) rfl
      rintro k t hk rfl
      by_cases hlt : k < N
      · simp (disch := omega) only [zCw, zEa _ (rowN_sm ls (show N ≤ 8 by omega) (show N ≤ 8 by omega)), Option.bind_some, w64]
        refine Sat.gd (decide_eq_true (by omega)) (Sat.gd (decide_eq_true (by simp only [List.length_singleton, List.length_replicate]; omega)) (.some ⟨hlt, ?_⟩))
        rw [rep_succ k (rowN ls N N)]; rfl
      · obtain rfl : k = N := by omega
        unfold zCw
        exact Sat.no (decide_eq_false (by first | omega | (dsimp only; omega))) (.some rfl)
    rintro (r | r) hr
    case inr => exact hr.elim
    obtain rfl := hr
    dsimp only
    refine Sat.bnd (R := fun r => match r with | .inl x => x = (0, [], [], [], [], [], (N : Int), ls, List.replicate ls.length true, List.replicate N (1 : Int), List.replicate N (rowN ls N N), [], ()) | .inr _ => False) ?_ ?_
    · refine Sat.count ls.length (fun k t => t = ((k : Int), (N : Int), ls, 0, [], [], [], [], [], (N : Int), ls, List.replicate k true, List.replicate N (1 : Int), List.replicate N (rowN ls N N), [], ())) ?_ (Nat.zero_le _) (fuel_lt (by omega)) rfl
      rintro k t hk rfl
      by_cases hlt : k < ls.length
      · simp (disch := omega) only [zCx, w64, nI_eq]
        refine Sat.gd (decide_eq_true (by omega)) (Sat.gd (decide_eq_true (by simp only [List.length_singleton, List.length_replicate]; omega)) (.some ⟨hlt, ?_⟩))
        rw [rep_succ k true]; rfl
      · obtain rfl : k = ls.length := by omega
        unfold zCx
        simp only [nI_eq]
        exact Sat.no (decide_eq_false (by first | omega | (dsimp only; omega))) (.some rfl)
    rintro (r | r) hr
    case inr => exact hr.elim
    obtain rfl := hr
    exact .some rfl
end
end Go.Proofs.YtojdflifijpffaaGreat
end
section
namespace Go.Proofs.YtojdflifijpffaaGreat
open Go.RowKit
set_option linter.unusedSimpArgs false
set_option linter.unusedVariables false
set_option maxRecDepth 100000

structure Byt (b : List Int) : Prop where
  len : b.length ≤ 2000
  rng : ∀ i, 0 ≤ iz b i ∧ iz b i ≤ 255
theorem at_u8 (zs : List Int) (i : Nat) : at! .u8 zs i = iz zs i := by
  induction zs generalizing i with
  | nil => rfl
  | cons z r ih => cases i with
    | zero => rfl
    | succ i => exact (ih i).trans (by simp [iz])
theorem tmod_rng {a b : Int} (h : 0 ≤ a) (hb : 0 < b) : 0 ≤ Int.tmod a b ∧ Int.tmod a b < b := ⟨Int.tmod_nonneg _ h, Int.tmod_lt_of_pos _ hb⟩
theorem xor_rng {x y : Int} (h : 0 ≤ x) (h1 : x < 1099511627776) (k : 0 ≤ y) (k1 : y < 1099511627776) : 0 ≤ xorK .i64 x y ∧ xorK .i64 x y < 1099511627776 := by
  obtain ⟨a, rfl⟩ := Int.eq_ofNat_of_zero_le h
  obtain ⟨b, rfl⟩ := Int.eq_ofNat_of_zero_le k
  have e : (BitVec.ofInt 64 (a : Int) ^^^ BitVec.ofInt 64 (b : Int)).toNat = a ^^^ b := by
    rw [BitVec.toNat_xor, BitVec.toNat_ofInt, BitVec.toNat_ofInt]
    have e1 : ((a : Int) % ((2 ^ 64 : Nat) : Int)).toNat = a := by omega
    have e2 : ((b : Int) % ((2 ^ 64 : Nat) : Int)).toNat = b := by omega
    rw [e1, e2]
  have hlt : a ^^^ b < 2 ^ 40 := Nat.xor_lt_two_pow (by omega) (by omega)
  unfold xorK
  rw [show IntKind.bits .i64 = 64 from rfl, e, wI (by omega) (by omega)]
  omega
theorem pick_ok {b : List Int} {p n : Int} (hB : Byt b) (h0 : 0 ≤ p) (h1 : p ≤ 1000000000) : ∃ x, zMk (n, b, p, ()) = some (x, b, p + 1, ()) ∧ 0 ≤ x ∧ (1 ≤ n → x < n) ∧ (n < 1 → x = 0) := by
  have hl := hB.len
  have e1 : wrap64 (p + 1) = p + 1 := w64 (by omega) (by omega)
  have e2 : wrap64 (p + 1 - 1) = p := by rw [w64 (by omega) (by omega)]; omega
  unfold zMk
  simp only [e1, e2, nI_eq]
  clear e1 e2
  by_cases hn : n < 1
  · exact ⟨0, by rw [decide_eq_true hn]; rfl, Int.le_refl _, fun h => by omega, fun _ => rfl⟩
  by_cases hb : b.length = 0
  · exact ⟨0, by simp [hn, hb], Int.le_refl _, fun h => by omega, fun h => by omega⟩
  have hb' : ¬ ((b.length : Nat) : Int) = 0 := by omega
  have hn0 : ¬ n = 0 := by omega
  simp only [decide_eq_false hn, decide_eq_false hb', decide_eq_false hn0, Bool.not_false, cond_true, cond_false]
  by_cases hk : p < b.length
  · have r := hB.rng p.toNat
    have ew : wrap64 (at! .u8 b p.toNat) = iz b p.toNat := by rw [at_u8]; exact w64 (by omega) (by omega)
    have := tmod_rng (a := iz b p.toNat) (b := n) r.1 (by omega)
    refine ⟨_, by rw [decide_eq_true hk, inR_t h0 hk]; rfl, ?_⟩
    rw [ew]
    exact ⟨this.1, fun _ => this.2, fun h => by omega⟩
  · have t1 := tmod_rng (a := p) (b := ((b.length : Nat) : Int)) h0 (by omega)
    have ep : wrap64 (wrap64 (p * 7) + 3) = p * 7 + 3 := by rw [w64 (x := p * 7) (by omega) (by omega)]; exact w64 (by omega) (by omega)
    have t2 := tmod_rng (a := p * 7 + 3) (b := ((b.length : Nat) : Int)) (by omega) (by omega)
    have r1 := hB.rng (Int.tmod p b.length).toNat
    have r2 := hB.rng (Int.tmod (p * 7 + 3) b.length).toNat
    simp only [ep, decide_eq_false hk, inR_t t1.1 t1.2, inR_t t2.1 t2.2, cond_true, cond_false, at_u8]
    generalize iz b (Int.tmod p b.length).toNat = u at *
    generalize iz b (Int.tmod (p * 7 + 3) b.length).toNat = v at *
    have hq : 0 ≤ Int.tdiv p b.length ∧ Int.tdiv p b.length ≤ 1000000000 := by
      rw [Int.tdiv_eq_ediv_of_nonneg h0]
      exact ⟨Int.ediv_nonneg h0 (by omega), Int.le_trans (Int.ediv_le_self _ h0) h1⟩
    generalize Int.tdiv p b.length = q at *
    have ex : wrap64 (wrap64 (wrap64 (wrap64 (wrap64 u * 131) + wrap64 (wrap64 v * 1117)) + wrap64 (p * 29)) + wrap64 (wrap64 q * 53)) = u * 131 + v * 1117 + p * 29 + q * 53 := by
      rw [w64 (x := u) (by omega) (by omega), w64 (x := v) (by omega) (by omega), w64 (x := q) (by omega) (by omega), w64 (x := u * 131) (by omega) (by omega), w64 (x := v * 1117) (by omega) (by omega), w64 (x := p * 29) (by omega) (by omega), w64 (x := q * 53) (by omega) (by omega)]
      rw [w64 (x := u * 131 + v * 1117) (by omega) (by omega), w64 (x := u * 131 + v * 1117 + p * 29) (by omega) (by omega), w64 (by omega) (by omega)]
    simp only [ex]
    clear ex ep
    have hx : 0 ≤ u * 131 + v * 1117 + p * 29 + q * 53 ∧ u * 131 + v * 1117 + p * 29 + q * 53 < 1099511627776 := by omega
    generalize u * 131 + v * 1117 + p * 29 + q * 53 = x at *
    have hd : 0 ≤ Int.tdiv x 64 ∧ Int.tdiv x 64 < 1099511627776 := by
      rw [Int.tdiv_eq_ediv_of_nonneg hx.1]
      omega
    have ed : wrap64 (Int.tdiv x 64) = Int.tdiv x 64 := w64 (by omega) (by omega)
    have hxr := xor_rng hx.1 hx.2 hd.1 hd.2
    have := tmod_rng (a := xorK .i64 x (Int.tdiv x 64)) (b := n) hxr.1 (by omega)
    rw [ed]
    exact ⟨_, rfl, this.1, fun _ => this.2, fun h => by omega⟩
theorem Sat.pick {β : Type} {b : List Int} {p n : Int} {f : Int × List Int × Int × Unit → Option β} {Q : β → Prop} (hB : Byt b) (h0 : 0 ≤ p) (h1 : p ≤ 1000000000) (k : ∀ x, 0 ≤ x → (1 ≤ n → x < n) → (n < 1 → x = 0) → Sat (f (x, b, p + 1, ())) Q) : Sat ((zMk (n, b, p, ())).bind f) Q := by
  obtain ⟨x, e, q1, q2, q3⟩ := pick_ok (n := n) hB h0 h1
  rw [e]
  exact k x q1 q2 q3
structure Drw (n a m : Int) (l : List Lk) : Prop where
  pw : l.Pairwise lxl
  ok : ∀ x ∈ l, okL n x
  lt : ∀ x ∈ l, x.a < a ∨ x.a = a ∧ x.b < m
  len : l.length ≤ 14
theorem Drw.skip {n a m : Int} {l : List Lk} (h : Drw n a m l) : Drw n a (m + 1) l := ⟨h.pw, h.ok, fun x hx => by have := h.lt x hx; omega, h.len⟩
theorem Drw.app {n a m c : Int} {l : List Lk} (h : Drw n a m l) (h0 : 0 ≤ a) (h1 : a < m) (h2 : m < n) (hc : 1 ≤ c ∧ c ≤ 20) (hl : l.length < 14) : Drw n a (m + 1) (l ++ [⟨a, m, c⟩]) := by
  refine ⟨?_, fun x hx => ?_, fun x hx => ?_, by simp; omega⟩
  · rw [List.pairwise_append]
    refine ⟨h.pw, by simp, fun x hx y hy => ?_⟩
    obtain rfl := List.mem_singleton.1 hy
    have := h.lt x hx
    unfold lxl
    exact this
  · rcases List.mem_append.1 hx with hx | hx
    · exact h.ok x hx
    · obtain rfl := List.mem_singleton.1 hx
      exact ⟨h0, h1, h2, hc.1, hc.2⟩
  · rcases List.mem_append.1 hx with hx | hx
    · have := h.lt x hx
      omega
    · obtain rfl := List.mem_singleton.1 hx
      dsimp only
      omega
theorem Drw.row {n a m m' : Int} {l : List Lk} (h : Drw n a m l) : Drw n (a + 1) m' l := ⟨h.pw, h.ok, fun x hx => by have := h.lt x hx; omega, h.len⟩
theorem Drw.gv {n a m : Int} {l : List Lk} (h : Drw n a m l) (h1 : 1 ≤ n) (h8 : n ≤ 8) : GV n l := gv_pw.2 ⟨h1, h8, h.len, h.ok, h.pw⟩
theorem cost_ok {x y z : Int} (h1 : 0 ≤ x) (h2 : x < 3) (h3 : 0 ≤ y) (h4 : y < 4) (h5 : 0 ≤ z) (h6 : z < 8) : 1 ≤ wrap64 (wrap64 (1 + x) + wrap64 (wrap64 (Int.tdiv y 3) * z)) ∧ wrap64 (wrap64 (1 + x) + wrap64 (wrap64 (Int.tdiv y 3) * z)) ≤ 20 := by
  rw [Int.tdiv_eq_ediv_of_nonneg h3]
  rcases (show y / 3 = 0 ∨ y / 3 = 1 by omega) with e | e <;> rw [e]
  · rw [w64 (x := 1 + x) (by omega) (by omega), show wrap64 (wrap64 0 * z) = 0 by rw [w64 (x := 0) (by omega) (by omega), Int.zero_mul, w64 (by omega) (by omega)], w64 (by omega) (by omega)]
    omega
  · rw [w64 (x := 1 + x) (by omega) (by omega), show wrap64 (wrap64 1 * z) = z by rw [w64 (x := 1) (by omega) (by omega), Int.one_mul, w64 (by omega) (by omega)], w64 (by omega) (by omega)]
    omega
end Go.Proofs.YtojdflifijpffaaGreat

namespace Go.Proofs.YtojdflifijpffaaGreat
open Go.RowKit
set_option linter.unusedSimpArgs false
set_option linter.unusedVariables false
set_option maxRecDepth 100000

set_option maxHeartbeats 2000000 in
theorem d_inner {b : List Int} (hB : Byt b) {d a n p : Int} (ha : 0 ≤ a) (han : a < n) (hn : n ≤ 8) (x5 : Int) (x6 : List Lk) {l : List Lk} (hl : Drw n a (a + 1) l) (h0 : 0 ≤ p) (h1 : p ≤ 100000000) : Sat (lp zC0 fuel (d, a, wrap64 (a + 1), b, p, x5, x6, n, l, ())) fun r => match r with
      | .inl x => ∃ p' l', x = (d, a, b, p', x5, x6, n, l', ()) ∧ p ≤ p' ∧ p' ≤ p + 5 * 8 ∧ Drw n (a + 1) (a + 2) l'
      | .inr _ => False := by
  refine Sat.count (n - 1 - a).toNat (fun k s => ∃ p' l', s = (d, a, a + 1 + (k : Int), b, p', x5, x6, n, l', ()) ∧ p ≤ p' ∧ p' ≤ p + 5 * k ∧ Drw n a (a + 1 + (k : Int)) l') ?_ (Nat.zero_le _) (fuel_lt (by omega)) ⟨p, l, by rw [w64 (by omega) (by omega)]; simp, by omega, by omega, by simpa using hl⟩
  rintro k s hk ⟨p', l', rfl, hp1, hp2, hD⟩
  have hlen := hD.len
  simp (disch := omega) only [zC0, w64, nI_eq, List.length_singleton]
  repeat' (first
    | refine Sat.some ?_
    | (refine Sat.pick hB (by omega) (by omega) (fun x _ _ _ => ?_) <;> dsimp only) | (refine Sat.gd (decide_eq_true (by omega)) ?_)
    | (refine Sat.gd (by first | exact inR_t (by omega) (by omega) | (simp (disch := omega) only [w64]; exact inR_t (by omega) (by omega))) ?_)
    | (refine Sat.ite (fun h => ?_) (fun h => ?_) <;> try simp only [decide_eq_true_eq, decide_eq_false_iff_not, Bool.not_eq_true', Bool.not_eq_false', inB_i, inB_j, Bool.and_eq_true, Bool.or_eq_true, Bool.and_eq_false_iff, Bool.or_eq_false_iff, El] at h))
  all_goals try dsimp only
  all_goals first
    | exact ⟨by omega, _, _, by rw [show a + 1 + (k : Int) + 1 = a + 1 + ((k + 1 : Nat) : Int) by omega], by omega, by omega, by rw [show a + 1 + ((k + 1 : Nat) : Int) = a + 1 + (k : Int) + 1 by omega]; exact hD.skip⟩
    | exact ⟨by omega, _, _, by rw [show a + 1 + (k : Int) + 1 = a + 1 + ((k + 1 : Nat) : Int) by omega], by omega, by omega, by rw [show a + 1 + ((k + 1 : Nat) : Int) = a + 1 + (k : Int) + 1 by omega]; exact hD.app ha (by omega) (by omega) (cost_ok (by assumption) (by omega) (by assumption) (by omega) (by assumption) (by omega)) (by omega)⟩
    | exact ⟨_, _, rfl, hp1, by omega, hD.row⟩
theorem d_outer {b : List Int} (hB : Byt b) {d n p : Int} (hn0 : 0 ≤ n) (hn : n ≤ 8) (x5 : Int) (x6 : List Lk) (h0 : 0 ≤ p) (h1 : p ≤ 90000000) : Sat (lp zCZ fuel (d, 0, b, p, x5, x6, n, [], ())) fun r => match r with
      | .inl x => ∃ p' l', x = (b, p', x5, x6, n, l', ()) ∧ p ≤ p' ∧ p' ≤ p + 40 * 8 ∧ Drw n n (n + 1) l'
      | .inr _ => False := by
  refine Sat.count n.toNat (fun k s => ∃ p' l', s = (d, (k : Int), b, p', x5, x6, n, l', ()) ∧ p ≤ p' ∧ p' ≤ p + 40 * k ∧ Drw n k ((k : Int) + 1) l') ?_ (Nat.zero_le _) (fuel_lt (by omega)) ⟨p, [], rfl, by omega, by omega, ⟨by simp, by simp, by simp, by simp⟩⟩
  rintro k s hk ⟨p', l', rfl, hp1, hp2, hD⟩
  unfold zCZ
  dsimp only
  refine Sat.ite (fun hlt => ?_) (fun hlt => ?_)
  · have hlt := of_decide_eq_true hlt
    refine Sat.bnd (d_inner hB (by omega) hlt hn x5 x6 hD (by omega) (by omega)) ?_
    rintro (r | r) hr
    case inr => exact hr.elim
    obtain ⟨p'', l'', rfl, q1, q2, hD'⟩ := hr
    refine .some ⟨by omega, p'', l'', ?_, by omega, by omega, hD'⟩
    dsimp only
    rw [w64 (by omega) (by omega)]
    rfl
  · have hlt := of_decide_eq_false hlt
    have e : (k : Int) = n := by omega
    rw [e] at hD
    exact .some ⟨p', l', rfl, hp1, by omega, hD⟩
def DG (b : List Int) (p : Int) (r : Int × List Int × Int × List Lk × Unit) : Prop := ∃ n p' ls, r = (n, b, p', ls, ()) ∧ p ≤ p' ∧ p' ≤ p + 400 ∧ GV n ls
theorem gv_one : GV 1 [] := ⟨by omega, by omega, by simp, fun i hi => by simp at hi⟩
theorem d_Graph {b : List Int} (hB : Byt b) {p : Int} (h0 : 0 ≤ p) (h1 : p ≤ 80000000) : Sat (zMm (b, p, ())) (DG b p) := by
  unfold zMm
  dsimp only
  refine Sat.pick hB (by omega) (by omega) (fun x1 _ q1 _ => ?_)
  dsimp only
  refine Sat.pick hB (by omega) (by omega) (fun x2 _ q2 _ => ?_)
  dsimp only
  refine Sat.ite (fun _ => ?_) (fun _ => ?_)
  · refine Sat.pick hB (by omega) (by omega) (fun x3 _ q3 _ => ?_)
    dsimp only
    refine Sat.pick hB (by omega) (by omega) (fun x4 _ _ _ => ?_)
    dsimp only
    rw [w64 (x := 4 + x3) (by omega) (by omega)]
    refine Sat.bnd (d_outer hB (by omega) (by omega) 0 [] (by omega) (by omega)) ?_
    rintro (r | r) hr
    case inr => exact hr.elim
    obtain ⟨p', l', rfl, q5, q6, hD⟩ := hr
    dsimp only
    refine Sat.pick hB (by omega) (by omega) (fun x5 _ _ _ => ?_)
    dsimp only
    refine Sat.ite (fun _ => ?_) (fun _ => ?_)
    · exact .some ⟨_, _, _, rfl, by omega, by omega, gv_one⟩
    · exact .some ⟨_, _, _, rfl, by omega, by omega, hD.gv (by omega) (by omega)⟩
  · refine Sat.pick hB (by omega) (by omega) (fun x3 _ q3 _ => ?_)
    dsimp only
    rw [w64 (x := 2 + x1) (by omega) (by omega)]
    refine Sat.bnd (d_outer hB (by omega) (by omega) 0 [] (by omega) (by omega)) ?_
    rintro (r | r) hr
    case inr => exact hr.elim
    obtain ⟨p', l', rfl, q5, q6, hD⟩ := hr
    dsimp only
    refine Sat.pick hB (by omega) (by omega) (fun x5 _ _ _ => ?_)
    dsimp only
    refine Sat.ite (fun _ => ?_) (fun _ => ?_)
    · exact .some ⟨_, _, _, rfl, by omega, by omega, gv_one⟩
    · exact .some ⟨_, _, _, rfl, by omega, by omega, hD.gv (by omega) (by omega)⟩
def DS (b : List Int) (p : Int) (r : Int × List Int × Int × List Lk × Unit) : Prop := ∃ n p' ls, r = (n, b, p', ls, ()) ∧ p ≤ p' ∧ p' ≤ p + 500 ∧ 0 ≤ n ∧ n ≤ 9 ∧ ls.length ≤ 15
theorem d_Spoilt {b : List Int} (hB : Byt b) {p : Int} (h0 : 0 ≤ p) (h1 : p ≤ 80000000) : Sat (zMo (b, p, ())) (DS b p) := by
  unfold zMo
  dsimp only
  refine Sat.bnd (d_Graph hB h0 h1) ?_
  rintro _ ⟨n, p', ls, rfl, g1, g2, hG⟩
  have h14 := hG.2.2.1
  have hn1 := hG.1
  have hn8 := hG.2.1
  dsimp only
  simp only [nI_eq]
  refine Sat.ite (fun _ => .some ⟨_, _, _, rfl, by omega, by omega, by omega, by omega, by omega⟩) (fun hne => ?_)
  have hne := of_decide_eq_false hne
  refine Sat.pick hB (by omega) (by omega) (fun k hk0 hk _ => ?_)
  dsimp only
  refine Sat.pick hB (by omega) (by omega) (fun x2 _ _ _ => ?_)
  dsimp only
  refine Sat.ite (fun _ => ?_) (fun _ => Sat.ite (fun _ => ?_) (fun _ => Sat.ite (fun _ => ?_) (fun _ => Sat.ite (fun _ => ?_) (fun _ => ?_))))
  · unfold zC2
    dsimp only
    refine Sat.bnd (R := fun r => match r with | .inl x => ∃ p'' l', x = (b, p'', 0, [], n, l', ()) ∧ l'.length = ls.length ∧ p'' = p' + 1 + 1 + 1 | .inr _ => False) ?_ ?_
    · refine Sat.pick hB (by omega) (by omega) (fun x3 _ _ _ => ?_)
      dsimp only
      refine Sat.gd (inR_t (by omega) (by simp; omega)) (Sat.gd (inR_t (by omega) (by omega)) (.some ⟨_, _, rfl, by simp, rfl⟩))
    · rintro (r | r) hr
      case inr => exact hr.elim
      obtain ⟨p'', l', rfl, e1, e2⟩ := hr
      exact .some ⟨n, p'', l', rfl, by omega, by omega, by omega, by omega, by omega⟩
  · refine Sat.pick hB (by omega) (by omega) (fun x3 _ _ _ => ?_)
    dsimp only
    exact Sat.gd (inR_t (by omega) (by omega)) (.some ⟨_, _, _, rfl, by omega, by omega, by omega, by omega, by simp; omega⟩)
  · refine Sat.pick hB (by omega) (by omega) (fun x3 _ _ _ => ?_)
    dsimp only
    exact .some ⟨_, _, _, rfl, by omega, by omega, by omega, by omega, by omega⟩
  · exact Sat.gd (inR_t (by omega) (by omega)) (Sat.gd (decide_eq_true (by simp; omega)) (.some ⟨_, _, _, rfl, by omega, by omega, by omega, by omega, by simp; omega⟩))
  · exact .some ⟨_, _, _, rfl, by omega, by omega, by omega, by omega, by omega⟩
end Go.Proofs.YtojdflifijpffaaGreat

namespace Go.Proofs.YtojdflifijpffaaGreat
open Go.RowKit
set_option linter.unusedSimpArgs false
set_option linter.unusedVariables false
set_option maxRecDepth 100000

theorem byt_open {c : List Int} (h : ∀ z ∈ c, 0 ≤ z ∧ z < 256) (hl : Fits c) : ∃ b, zMj (c, ()) = some (b, 0, ()) ∧ Byt b := by
  unfold zMj
  dsimp only
  have rng : ∀ l : List Int, (∀ z ∈ l, 0 ≤ z ∧ z < 256) → ∀ i, 0 ≤ iz l i ∧ iz l i ≤ 255 := fun l hl i => by
    rcases Nat.lt_or_ge i l.length with hi | hi
    · have := hl (iz l i) (List.mem_of_getElem? (iz_get hi))
      omega
    · unfold iz
      rw [List.getD, List.getElem?_eq_none hi]
      simp
  by_cases h2 : c.length ≤ 2000
  · refine ⟨c, ?_, h2, rng c h⟩
    rw [nI_eq, decide_eq_false (show ¬ (2000 : Int) < c.length by omega)]
    rfl
  · refine ⟨c.take 2000, ?_, by simp; omega, rng _ fun z hz => h z (List.mem_of_mem_take hz)⟩
    rw [nI_eq, decide_eq_true (show (2000 : Int) < c.length by omega), bnd2_t (by omega) (by omega) (by omega)]
    rfl
def Cod (c : List Int) : Prop := (∀ z ∈ c, 0 ≤ z ∧ z < 256) ∧ Fits c
end Go.Proofs.YtojdflifijpffaaGreat
end
section
namespace Go.Proofs.YtojdflifijpffaaGreat
open Go.RowKit
set_option linter.unusedSimpArgs false
set_option linter.unusedVariables false
set_option maxRecDepth 100000

theorem cod_ofW {c : List Int} (hz : ∀ z ∈ c, 0 ≤ z ∧ z < 256) (h : decide ((1048576 : Int) < nI c.length) = false) : Cod c := ⟨hz, by have := of_decide_eq_false h; rw [nI_eq] at this; unfold Fits; omega⟩
set_option maxHeartbeats 1000000 in
theorem d_Event {b : List Int} (hB : Byt b) (w : Wd) {p : Int} (h0 : 0 ≤ p) (h1 : p ≤ 90000000) : Sat (zMp (w.n, w.ls, w.up, w.sq, w.db, w.net, b, p, ())) fun r => ∃ k a p', r = (k, a, b, p', ()) ∧ p ≤ p' ∧ p' ≤ p + 6 := by
  unfold zMp
  dsimp only
  refine Sat.pick hB (by omega) (by omega) (fun x1 _ _ _ => ?_)
  dsimp only
  refine Sat.pick hB (by omega) (by omega) (fun x2 _ _ _ => ?_)
  dsimp only
  refine Sat.pick hB (by omega) (by omega) (fun x3 _ _ _ => ?_)
  dsimp only
  repeat' first
    | exact .some ⟨_, _, _, rfl, by omega, by omega⟩
    | (refine Sat.pick hB (by omega) (by omega) (fun x _ _ _ => ?_); dsimp only)
    | (refine Sat.ite (fun _ => ?_) (fun _ => ?_))
theorem d_World {b : List Int} (hB : Byt b) {p : Int} (h0 : 0 ≤ p) (h1 : p ≤ 70000000) : Sat (zMq (b, p, ())) fun r => ∃ (W : Wd) (p' : Int), r = (W.n, W.ls, W.up, W.sq, W.db, W.net, b, p', ()) ∧ p ≤ p' ∧ p' ≤ p + 1000 ∧ WV W Nob := by
  unfold zMq
  dsimp only
  refine Sat.bnd (d_Graph hB h0 (by omega)) ?_
  rintro _ ⟨n, p1, ls, rfl, u1, u2, g⟩
  dsimp only
  have h14 := g.2.2.1
  refine sov (zEU n ls (show Fits ls by unfold Fits; omega)) ?_
  have hg : gv n ls = true := decide_eq_true g
  have v := new_okI g
  dsimp only [wk7]
  unfold newV
  rw [if_pos hg]
  refine Sat.pick hB (by omega) (by omega) (fun x q0 q1 _ => ?_)
  have q1 := q1 (by omega)
  dsimp only
  refine Sat.bnd (R := fun r => match r with | .inl x => ∃ (W : Wd) (p' : Int), x = (b, p', 0, [], [], [], [], [], wt W) ∧ p1 + 1 ≤ p' ∧ p' ≤ p1 + 400 ∧ WV W Nob | .inr _ => False) ?_ ?_
  · refine Sat.count x.toNat (fun k t => ∃ (W : Wd) (p' : Int), t = (x, (k : Int), b, p', 0, [], [], [], [], [], wt W) ∧ p1 + 1 ≤ p' ∧ p' ≤ p1 + 1 + 6 * k ∧ WV W Nob) ?_ (Nat.zero_le _) (fuel_lt (by omega)) ⟨newW n ls, p1 + 1, rfl, by omega, by omega, v⟩
    rintro k t hk ⟨W, p', rfl, g1, g2, hW⟩
    unfold zC3
    dsimp only [wt]
    refine Sat.ite (fun hc => ?_) (fun hc => .some ⟨W, p', rfl, by omega, by omega, hW⟩)
    have hc := of_decide_eq_true hc
    refine Sat.bnd (d_Event hB W (by omega) (by omega)) ?_
    rintro _ ⟨kd, a, p2, rfl, u3, u4⟩
    dsimp only
    simp (disch := omega) only [w64]
    exact sov (zEm hW kd a) (.some ⟨by omega, doW W kd a, p2, rfl, by omega, by omega, do_ok hW kd a⟩)
  · rintro (r | r) hr
    case inr => exact hr.elim
    obtain ⟨W, p', rfl, g1, g2, hW⟩ := hr
    exact .some ⟨W, p', rfl, by omega, by omega, hW⟩
theorem d_Lsa {b : List Int} (hB : Byt b) {p : Int} (h0 : 0 ≤ p) (h1 : p ≤ 90000000) : Sat (zMn (b, p, ())) fun r => ∃ (o s p' : Int) (es : List En), r = (o, s, b, p', es, ()) ∧ p ≤ p' ∧ p' ≤ p + 30 ∧ es.length ≤ 8 := by
  unfold zMn
  dsimp only
  refine Sat.pick hB (by omega) (by omega) (fun x1 _ _ _ => ?_)
  dsimp only
  refine Sat.pick hB (by omega) (by omega) (fun x2 _ _ _ => ?_)
  dsimp only
  refine Sat.bnd (R := fun r => match r with | .inl x => ∃ (p' o s : Int) (es : List En), x = (b, p', 0, 0, [], o, s, es, ()) ∧ p ≤ p' ∧ p' ≤ p + 20 ∧ es.length ≤ 6 | .inr _ => False) ?_ ?_
  · refine Sat.count 6 (fun k t => ∃ (p' o s : Int) (es : List En), t = ((k : Int), b, p', 0, 0, [], o, s, es, ()) ∧ p ≤ p' ∧ p' ≤ p + 2 + 2 * k ∧ es.length ≤ k) ?_ (Nat.zero_le _) (fuel_lt (by omega)) ⟨_, _, _, [], rfl, by omega, by omega, by simp⟩
    rintro k t hk ⟨p', o, s, es, rfl, g1, g2, g3⟩
    unfold zC1
    dsimp only
    simp (disch := omega) only [w64, List.length_singleton]
    refine Sat.ite (fun hc => ?_) (fun hc => .some ⟨p', o, s, es, rfl, by omega, by omega, by omega⟩)
    have hc := of_decide_eq_true hc
    repeat' first
      | exact .some ⟨by omega, _, _, _, _, rfl, by omega, by omega, by (try simp only [List.length_append, List.length_singleton]); omega⟩
      | (refine Sat.pick hB (by omega) (by omega) (fun x _ _ _ => ?_); dsimp only)
      | (refine Sat.gd (decide_eq_true (by omega)) ?_)
      | (refine Sat.ite (fun _ => ?_) (fun _ => ?_))
  · rintro (r | r) hr
    case inr => exact hr.elim
    obtain ⟨p', o, s, es, rfl, g1, g2, g3⟩ := hr
    dsimp only
    simp only [List.length_singleton]
    refine Sat.pick hB (by omega) (by omega) (fun x _ _ _ => ?_)
    dsimp only
    refine Sat.ite (fun _ => ?_) (fun _ => ?_)
    · refine Sat.pick hB (by omega) (by omega) (fun y y0 y1 _ => ?_)
      have y1 := y1 (by omega)
      dsimp only
      exact Sat.gd (inR_t (by omega) (by simp; omega)) (.some ⟨_, _, _, _, rfl, by omega, by omega, by omega⟩)
    repeat' first
      | exact .some ⟨_, _, _, _, rfl, by omega, by omega, by (try simp only [List.length_append, List.length_singleton]); omega⟩
      | (refine Sat.pick hB (by omega) (by omega) (fun x _ _ _ => ?_); dsimp only)
      | (refine Sat.gd (decide_eq_true (by omega)) ?_)
      | (refine Sat.ite (fun _ => ?_) (fun _ => ?_))
theorem DbPut_sm (db : List Ls) (l : Ls) (h : SmD db) (hl : Sm l.e) (hn : db.length ≤ 1000) : Sat (zLM (db, l.o, l.s, l.e, ())) fun r => SmD r.2.1 ∧ r.2.1.length ≤ db.length + 1 := by
  rw [zC5 db l h hl]
  refine .some ?_
  split
  · exact h.put hl (by omega)
  · exact ⟨⟨by unfold Sm; simp, fun l hl => by simp at hl⟩, by simp⟩
theorem d_Db {b : List Int} (hB : Byt b) {p : Int} (h0 : 0 ≤ p) (h1 : p ≤ 80000000) : Sat (zMl (b, p, ())) fun r => ∃ (p' : Int) (d : List Ls), r = (b, p', d, ()) ∧ p ≤ p' ∧ p' ≤ p + 400 ∧ SmD d := by
  unfold zMl
  dsimp only
  refine Sat.pick hB (by omega) (by omega) (fun x x0 x1 _ => ?_)
  have x1 := x1 (by omega)
  dsimp only
  refine Sat.bnd (R := fun r => match r with | .inl y => ∃ (p' : Int) (d : List Ls), y = (b, p', d, ()) ∧ p ≤ p' ∧ p' ≤ p + 300 ∧ SmD d ∧ d.length ≤ 8 | .inr _ => False) ?_ ?_
  · refine Sat.count x.toNat (fun k t => ∃ (p' : Int) (d : List Ls), t = (x, (k : Int), b, p', d, ()) ∧ p ≤ p' ∧ p' ≤ p + 1 + 30 * k ∧ SmD d ∧ d.length ≤ k) ?_ (Nat.zero_le _) (fuel_lt (by omega)) ⟨_, [], rfl, by omega, by omega, ⟨by unfold Sm; simp, fun l hl => by simp at hl⟩, by simp⟩
    rintro k t hk ⟨p', d, rfl, g1, g2, g3, g4⟩
    unfold zCY
    dsimp only
    simp (disch := omega) only [w64]
    refine Sat.ite (fun hc => ?_) (fun hc => .some ⟨p', d, rfl, by omega, by omega, g3, by omega⟩)
    have hc := of_decide_eq_true hc
    refine Sat.bnd (d_Lsa hB (by omega) (by omega)) ?_
    rintro _ ⟨o, s, p2, es, rfl, u1, u2, u3⟩
    dsimp only
    refine Sat.bnd (DbPut_sm d ⟨o, s, es⟩ g3 (by unfold Sm; dsimp only; omega) (by omega)) ?_
    rintro r ⟨r1, r2⟩
    refine Sat.ite (fun _ => .some ⟨by omega, _, _, rfl, by omega, by omega, r1, by omega⟩) (fun _ => .some ⟨by omega, _, _, rfl, by omega, by omega, g3, by omega⟩)
  · rintro (r | r) hr
    case inr => exact hr.elim
    obtain ⟨p', d, rfl, g1, g2, g3, g4⟩ := hr
    dsimp only
    refine Sat.pick hB (by omega) (by omega) (fun y _ _ _ => ?_)
    dsimp only
    refine Sat.ite (fun _ => ?_) (fun _ => .some ⟨_, _, rfl, by omega, by omega, g3⟩)
    refine Sat.bnd (d_Lsa hB (by omega) (by omega)) ?_
    rintro _ ⟨o, s, p2, es, rfl, u1, u2, u3⟩
    dsimp only
    refine Sat.gd (decide_eq_true (by simp only [List.length_singleton]; omega)) (.some ⟨_, _, rfl, by omega, by omega, ?_⟩)
    refine ⟨by unfold Sm; simp only [List.length_append, List.length_singleton]; omega, fun l hl => ?_⟩
    rcases List.mem_append.1 hl with hl | hl
    · exact g3.2 l hl
    · obtain rfl := List.mem_singleton.1 hl
      unfold Sm; dsimp only; omega
theorem len_set {α : Type} {l : List α} {i n : Nat} {a : α} (h : l.length ≤ n) : (l.set i a).length ≤ n := by rw [List.length_set]; exact h
theorem len_app {α : Type} {l : List α} {n : Nat} {a : α} (h : l.length + 1 ≤ n) : (l ++ [a]).length ≤ n := by rw [List.length_append, List.length_singleton]; exact h
theorem SmW.ls' {w : Wd} (h : SmW w) (n : Int) {ls : List Lk} (hl : ls.length ≤ 1000) : SmW { w with n := n, ls := ls } := ⟨hl, h.up, h.sq, h.db, h.net, h.dbs, h.pks⟩
theorem SmW.up' {w : Wd} (h : SmW w) {up : List Bool} (hl : up.length ≤ 1000) : SmW { w with up := up } := ⟨h.ls, hl, h.sq, h.db, h.net, h.dbs, h.pks⟩
theorem SmW.sq' {w : Wd} (h : SmW w) {sq : List Int} (hl : sq.length ≤ 1000) : SmW { w with sq := sq } := ⟨h.ls, h.up, hl, h.db, h.net, h.dbs, h.pks⟩
theorem SmW.db' {w : Wd} (h : SmW w) {i : Nat} {d : List Ls} (hd : SmD d) : SmW { w with db := w.db.set i d } := by
  refine ⟨h.ls, h.up, h.sq, by show (w.db.set i d).length ≤ 1000; rw [List.length_set]; exact h.db, h.net, fun j hj => ?_, h.pks⟩
  have hj : j < w.db.length := by simpa using hj
  show SmD (dbx (w.db.set i d) j)
  rcases Nat.lt_or_ge i w.db.length with hi | hi
  · rw [dbx_set hi]
    split
    · exact hd
    · exact h.dbs j hj
  · rw [List.set_eq_of_length_le hi]
    exact h.dbs j hj
theorem SmW.net' {w : Wd} (h : SmW w) (hn : w.net.length ≤ 100) {t : Int} {l : Ls} (hl : Sm l.e) : SmW { w with net := w.net ++ [⟨t, l⟩] } := by
  refine ⟨h.ls, h.up, h.sq, h.db, by show (w.net ++ [_]).length ≤ 1000; rw [List.length_append, List.length_singleton]; omega, h.dbs, fun j hj => ?_⟩
  have hj : j < w.net.length + 1 := by simpa using hj
  show Sm (pkx (w.net ++ [_]) j).p.e
  rcases Nat.lt_or_ge j w.net.length with hi | hi
  · have : pkx (w.net ++ [⟨t, l⟩]) j = pkx w.net j := by unfold pkx; simp [List.getD, List.getElem?_append_left hi]
    rw [this]; exact h.pks j hi
  · obtain rfl : j = w.net.length := by omega
    have : pkx (w.net ++ [⟨t, l⟩]) w.net.length = ⟨t, l⟩ := by unfold pkx; simp [List.getD]
    rw [this]; exact hl
set_option maxHeartbeats 1000000 in
theorem d_Wrong {b : List Int} (hB : Byt b) {p : Int} (h0 : 0 ≤ p) (h1 : p ≤ 60000000) : Sat (zMr (b, p, ())) fun r => ∃ (W : Wd) (p' : Int), r = (W.n, b, p', W.ls, W.up, W.sq, W.db, W.net, ()) ∧ SmW W ∧ p ≤ p' ∧ p' ≤ p + 5000 := by
  unfold zMr
  dsimp only
  refine Sat.bnd (d_World hB h0 (by omega)) ?_
  rintro _ ⟨W, p1, rfl, u1, u2, v⟩
  dsimp only
  have hS := v.sm
  have hnn := v.nn
  have hsq := v.sq
  have hdb := v.db
  have hnet := v.net
  refine sov (zEl hS) ?_
  dsimp only
  refine Sat.pick hB (by omega) (by omega) (fun nd n0 n1 _ => ?_)
  have n1 := n1 (by omega)
  dsimp only
  refine Sat.pick hB (by omega) (by omega) (fun y _ _ _ => ?_)
  dsimp only
  refine Sat.ite (fun _ => ?_) (fun _ => ?_)
  · refine Sat.bnd (d_Spoilt hB (by omega) (by omega)) ?_
    rintro _ ⟨n, p2, ls, rfl, g1, g2, g3, g4, g5⟩
    exact .some ⟨{ W with n := n, ls := ls }, p2, rfl, hS.ls' n (by omega), by omega, by omega⟩
  refine Sat.ite (fun _ => ?_) (fun _ => ?_)
  · refine Sat.ite (fun hu => ?_) (fun _ => .some ⟨W, _, rfl, hS, by omega, by omega⟩)
    rw [nI_eq] at hu
    have hu := of_decide_eq_true hu
    simp only [nI_eq]
    refine Sat.pick hB (by omega) (by omega) (fun z z0 z1 _ => ?_)
    have z1 := z1 (by omega)
    dsimp only
    exact Sat.gd (inR_t (by omega) (by omega)) (Sat.gd (inR_t (by omega) (by omega)) (.some ⟨{ W with up := _ }, _, rfl, hS.up' (len_set hS.up), by omega, by omega⟩))
  refine Sat.ite (fun _ => ?_) (fun _ => ?_)
  · refine Sat.pick hB (by omega) (by omega) (fun z z0 z1 _ => ?_)
    dsimp only
    exact Sat.gd (inR_t (by omega) (by omega)) (.some ⟨{ W with sq := _ }, _, rfl, hS.sq' (len_set hS.sq), by omega, by omega⟩)
  refine Sat.ite (fun _ => ?_) (fun _ => ?_)
  · refine Sat.bnd (d_Db hB (by omega) (by omega)) ?_
    rintro _ ⟨p2, d, rfl, g1, g2, g3⟩
    dsimp only
    exact Sat.gd (inR_t (by omega) (by omega)) (.some ⟨{ W with db := _ }, _, rfl, hS.db' g3, by omega, by omega⟩)
  refine Sat.ite (fun _ => ?_) (fun _ => ?_)
  · refine Sat.pick hB (by omega) (by omega) (fun z z0 z1 _ => ?_)
    dsimp only
    refine Sat.bnd (d_Lsa hB (by omega) (by omega)) ?_
    rintro _ ⟨o, s, p2, es, rfl, g1, g2, g3⟩
    dsimp only
    exact Sat.gd (decide_eq_true (by simp only [List.length_singleton]; omega)) (.some ⟨{ W with net := _ }, _, rfl, hS.net' (by omega) (by unfold Sm; dsimp only; omega), by omega, by omega⟩)
  refine Sat.ite (fun _ => ?_) (fun _ => ?_)
  · simp only [at_db]
    refine Sat.gd (inR_t (by omega) (by omega)) (Sat.ite (fun hd => ?_) (fun _ => .some ⟨W, _, rfl, hS, by omega, by omega⟩))
    rw [nI_eq] at hd
    have hd := of_decide_eq_true hd
    have hi : nd.toNat < W.db.length := by omega
    have hs := hS.dbs nd.toNat hi
    refine Sat.gd (inR_t (by omega) (by omega)) (Sat.gd (bnd_t (by omega) (by omega) (by omega)) (Sat.gd (inR_t (by omega) (by omega)) (.some ⟨{ W with db := _ }, _, rfl, hS.db' ⟨?_, fun l hl => hs.2 l (List.mem_of_mem_drop (List.mem_of_mem_take hl))⟩, by omega, by omega⟩)))
    have := hs.1
    unfold Sm at this ⊢
    rw [List.length_take, List.length_drop]
    omega
  refine Sat.ite (fun _ => ?_) (fun _ => .some ⟨W, _, rfl, hS, by omega, by omega⟩)
  have := hS.up
  have hup := v.up
  have h14 := v.lsl
  exact Sat.gd (decide_eq_true (by simp only [List.length_singleton]; omega)) (.some ⟨{ W with up := _ }, _, rfl, hS.up' (len_app (by omega)), by omega, by omega⟩)
theorem d_WorldTruth {c : List Int} (hc : Cod c) : Sat (zLP (c, ())) fun r => ∃ W : Wd, r = wt W ∧ SmW W := by
  unfold zLP
  obtain ⟨b, e, hB⟩ := byt_open hc.1 hc.2
  refine sov e ?_
  dsimp only
  refine Sat.pick hB (by omega) (by omega) (fun x _ _ _ => ?_)
  dsimp only
  refine Sat.ite (fun _ => ?_) (fun _ => ?_)
  · refine Sat.bnd (d_Wrong hB (by omega) (by omega)) ?_
    rintro _ ⟨W, p', rfl, hW, _, _⟩
    exact .some ⟨W, rfl, hW⟩
  · refine Sat.bnd (d_World hB (by omega) (by omega)) ?_
    rintro _ ⟨W, p', rfl, _, _, hW⟩
    exact .some ⟨W, rfl, hW.sm⟩
theorem d_WorldCalm {c : List Int} (hc : Cod c) : Sat (zLO (c, ())) fun r => ∃ W : Wd, r = wt W ∧ SmW W := by
  unfold zLO
  refine Sat.bnd (d_WorldTruth hc) ?_
  rintro _ ⟨W, rfl, hW⟩
  exact .some ⟨W, rfl, hW⟩
end Go.Proofs.YtojdflifijpffaaGreat
end
section
namespace Go.Proofs.YtojdflifijpffaaGreat
open Go.RowKit
set_option linter.unusedSimpArgs false
set_option linter.unusedVariables false
set_option maxRecDepth 100000

section
variable {w : Wd}
theorem calV_sm (w : Wd) : SmW (calV w) := by
  unfold calV
  split
  · exact (calW_ok (wv_t.1 (by assumption))).sm
  · exact zW_sm
theorem calV_yes (h : WV w Nob) : calV w = calW w := if_pos (wv_t.2 h)
end
end Go.Proofs.YtojdflifijpffaaGreat
end
section
namespace Go.Proofs.YtojdflifijpffaaGreat
open Go.RowKit
set_option linter.unusedSimpArgs false
set_option linter.unusedVariables false
set_option maxRecDepth 100000

section
variable {w : Wd}
def seenL (w : Wd) (i : Nat) : List Lk := grid (dbF (dbx w.db i)) w.n.toNat
theorem e_seen (h : WV w Nob) {i : Nat} (hi : i < w.db.length) : zLb (w.n, w.ls, w.up, w.sq, w.db, w.net, (i : Int), ()) = some (w.n, seenL w i, ()) := by
  have hd := h.ok i hi
  have hdb := h.db
  have h8 := h.nn
  obtain ⟨N, hN⟩ := Int.eq_ofNat_of_zero_le (show 0 ≤ w.n by omega)
  have hg := seen_gv h hN (i := i) (by omega)
  have hok : dbOk w.n (dbx w.db i) = true := by
    unfold dbOk
    rw [inB_mk (by omega), show dbv (dbx w.db i) = true from decide_eq_true hd, decide_eq_true (by rw [hN, Int.toNat_natCast]; exact hg.2.2.1)]
    rfl
  have hlen := hd.len
  unfold zLb zB2
  simp only [toN, at_db]
  refine Sat.out (sov (Sat.out (Sat.gd (inR_t (by omega) (by omega)) (sov (zC4 w.n (dbx w.db i) (by omega) hd.sm.fe) (.some rfl)))) ?_)
  rw [hok]
  exact .some rfl
theorem zDd (h : WV w Nob) {i : Nat} (hi : i < w.db.length) : zK2 (w.n, w.ls, w.up, w.sq, w.db, w.net, (i : Int), ()) = some (w.n, seenL w i, ()) := by
  have hdb := h.db
  have h8 := h.nn
  unfold zK2
  refine Sat.out (sov (zDf h.sm) ?_)
  dsimp only
  rw [wv_t.2 h]
  refine Sat.no rfl ?_
  simp (disch := omega) only [w64]
  refine sov (zFY _ _ _) ?_
  dsimp only
  rw [inB_mk (by omega)]
  exact Sat.no rfl (sov (e_seen h hi) (.some rfl))
theorem zDe (h : WV w Nob) : zK3 (w.n, w.ls, w.up, w.sq, w.db, w.net, ()) = some (w.n, tru w.ls w.up, ()) := by
  have h14 := h.lsl
  unfold zK3
  refine Sat.out (sov (zDf h.sm) ?_)
  dsimp only
  rw [wv_t.2 h]
  exact Sat.no rfl (sov (zFX w h.up (by omega)) (.some rfl))
end
end Go.Proofs.YtojdflifijpffaaGreat
end
section
namespace Go.Proofs.YtojdflifijpffaaGreat
open Go.RowKit
set_option linter.unusedSimpArgs false
set_option linter.unusedVariables false
set_option maxRecDepth 100000

section
variable {w : Wd}
def reachL (N : Nat) (ls : List Lk) (f : Nat) : List Int := ((List.range N).filter fun m => decide (0 ≤ iz (dists N ls f) m)).map fun m : Nat => (m : Int)
theorem reach_jn {N : Nat} {ls : List Lk} (g : GV N ls) {f : Nat} (hf : f < N) {x : Int} (hx : x ∈ reachL N ls f) : ∃ m : Nat, x = m ∧ m < N ∧ Jn ls f m := by
  unfold reachL at hx
  obtain ⟨m, hm, rfl⟩ := List.mem_map.1 hx
  obtain ⟨h1, h2⟩ := List.mem_filter.1 hm
  have h1 := List.mem_range.1 h1
  obtain ⟨k, q⟩ := dists_walk g hf h1 (of_decide_eq_true h2)
  exact ⟨m, rfl, h1, k, _, q⟩
end
end Go.Proofs.YtojdflifijpffaaGreat
end
section
namespace Go.Proofs.YtojdflifijpffaaGreat
open Go.RowKit
set_option linter.unusedSimpArgs false
set_option linter.unusedVariables false
set_option maxRecDepth 100000

section
theorem zC9 {N : Nat} {ls : List Lk} (g : GV N ls) {f : Nat} (hf : f < N) : zKP ((N : Int), ls, (f : Int), ()) = some (reachL N ls f, ()) := by
  have fl : Fits ls := by have := g.2.2.1; unfold Fits; omega
  have hg : gv N ls = true := decide_eq_true g
  have h8 := g.2.1
  have hdl := dists_len N ls f
  unfold zKP
  refine Sat.out (sov (zDv _ _ _ fl) ?_)
  dsimp only
  rw [hg, inB_mk (by omega)]
  refine Sat.no rfl (sov (zDs g hf) ?_)
  dsimp only
  simp only [nI_eq, hdl]
  let st : Nat → List Int := fun k => ((List.range k).filter fun m => decide (0 ≤ iz (dists N ls f) m)).map fun m : Nat => (m : Int)
  have sl : ∀ k, (st k).length ≤ k := fun k => by
    show (((List.range k).filter _).map _).length ≤ k
    rw [List.length_map]
    exact Nat.le_trans (List.length_filter_le _ _) (by simp)
  have ss : ∀ k, st (k + 1) = st k ++ if 0 ≤ iz (dists N ls f) k then [(k : Int)] else [] := fun k => by
    show ((List.range (k + 1)).filter _).map _ = _
    rw [List.range_succ, List.filter_append, List.map_append]
    congr 1
    by_cases hk : 0 ≤ iz (dists N ls f) k <;> simp [hk]
  refine Sat.bnd (R := fun r => match r with | .inl x => x = (reachL N ls f, ()) | .inr _ => False) ?_ ?_
  · refine Sat.count N (fun k t => t = ((N : Int), (k : Int), st k, dists N ls f, ())) ?_ (Nat.zero_le _) (fuel_lt (by omega)) rfl
    rintro k t hk rfl
    by_cases hlt : k < N
    · have := sl k
      have e := ss k
      simp (disch := omega) only [zBF, at_int, toN, w64]
      refine Sat.gd (decide_eq_true (by omega)) (Sat.gd (inR_t (by omega) (by omega)) (Sat.ite (fun h0 => ?_) (fun h0 => ?_)))
      · rw [if_pos (of_decide_eq_true h0)] at e
        refine Sat.gd (decide_eq_true (by simp only [List.length_singleton]; omega)) (.some ⟨hlt, ?_⟩)
        rw [e]; rfl
      · rw [if_neg (of_decide_eq_false h0), List.append_nil] at e
        refine .some ⟨hlt, ?_⟩
        rw [e]; rfl
    · obtain rfl : k = N := by omega
      unfold zBF
      exact Sat.no (decide_eq_false (by dsimp only; omega)) (.some rfl)
  · rintro (r | r) hr
    case inr => exact hr.elim
    obtain rfl := hr
    exact .some rfl
theorem reach_len (N : Nat) (ls : List Lk) (f : Nat) : (reachL N ls f).length ≤ N := by
  unfold reachL
  rw [List.length_map]
  exact Nat.le_trans (List.length_filter_le _ _) (by simp)
theorem sq_of_seqD {db : List Ls} {o s : Int} (h : seqD db o = s) (h1 : 0 ≤ s) : sqOf db o = s := by
  unfold seqD at h
  unfold sqOf
  cases e : fd db o with
  | none => rw [e] at h; dsimp only at h; omega
  | some l => rw [e] at h; exact h
theorem law_CalmSame {c : List Int} (hz : ∀ z ∈ c, 0 ≤ z ∧ z < 256) : zLq (c, ()) = some (true, ()) := by
  unfold zLq
  dsimp only
  refine Sat.out (Sat.ite (fun _ => .some rfl) (fun hlen => ?_))
  have hc : Cod c := cod_ofW hz hlen
  
  refine Sat.bnd (d_WorldCalm hc) ?_
  rintro _ ⟨W, rfl, hW⟩
  dsimp only [wt]
  refine sov (zDc hW) (sov (zET hW) ?_)
  dsimp only [wt]
  refine sov (zE3 (calV_sm W)) (Sat.no rfl (sov (zEV hW) ?_))
  dsimp only
  rcases hv : wv W with _ | _
  · exact Sat.gd rfl (sov (zE3 (calV_sm W)) (.some rfl))
  have hV := wv_t.1 hv
  rw [calV_yes hV]
  refine Sat.no rfl ?_
  have hC := calW_ok hV
  have hs := calW_same W
  obtain ⟨N, hN⟩ := Int.eq_ofNat_of_zero_le (show 0 ≤ W.n by have := hV.nn; omega)
  have g : GV (N : Int) (tru W.ls W.up) := tru_N hV hN
  have known := fun {u v : Nat} (hu : u < N) (hv : v < N) hj => calm_known hV hN hu hv hj
  have hdb := hC.db
  have h8 := hC.nn
  refine sov (zDe hC) ?_
  dsimp only
  generalize calW W = C at hC hs known hdb h8 ⊢
  obtain ⟨s1, s2, s3, s4, s5, s6⟩ := hs
  rw [← s2, ← s3] at g known
  rw [hN] at s1
  rw [s1]
  have hn : C.db.length = N := by omega
  refine Sat.bnd (R := fun r => match r with | .inl x => x = ((N : Int), C.ls, C.up, C.sq, C.db, C.net, ()) | .inr _ => False) ?_ ?_
  · refine Sat.count N (fun k t => t = ((k : Int), (N : Int), (N : Int), C.ls, C.up, C.sq, C.db, C.net, tru C.ls C.up, ())) ?_ (Nat.zero_le _) (fuel_lt (by omega)) rfl
    rintro k t hk rfl
    by_cases hlt : k < N
    · simp (disch := omega) only [zCa, nI_eq, w64, hn]
      refine Sat.gd (decide_eq_true (by omega)) (sov (zC9 g hlt) ?_)
      dsimp only
      have rj := fun {x : Int} (hx : x ∈ reachL N (tru C.ls C.up) k) => reach_jn g hlt hx
      have rl := reach_len N (tru C.ls C.up) k
      generalize reachL N (tru C.ls C.up) k = L at rj rl ⊢
      refine Sat.bnd (R := fun r => match r with | .inl x => x = ((k : Int), (N : Int), (N : Int), C.ls, C.up, C.sq, C.db, C.net, tru C.ls C.up, ()) | .inr _ => False) ?_ ?_
      · refine Sat.count L.length (fun j t => t = ((k : Int), (j : Int), (N : Int), (N : Int), L, C.ls, C.up, C.sq, C.db, C.net, tru C.ls C.up, ())) ?_ (Nat.zero_le _) (fuel_lt (by omega)) rfl
        rintro j t hj rfl
        by_cases hjl : j < L.length
        · obtain ⟨m, hm, hmN, hJ⟩ := rj (List.mem_of_getElem? (iz_get hjl))
          simp (disch := omega) only [zCb, nI_eq, toN, at_db, at_int, w64, hm]
          rw [← known hlt hmN hJ]
          exact Sat.gd (decide_eq_true (by omega)) (Sat.gd (inR_t (by omega) (by omega)) (Sat.gd (inR_t (by omega) (by omega)) (Sat.gd (inR_t (by omega) (by omega)) (sov (zEX _ (hC.ok k (by omega)).sm) (Sat.no rfl (.some ⟨hjl, rfl⟩))))))
        · obtain rfl : j = L.length := by omega
          unfold zCb
          simp only [nI_eq]
          exact Sat.no (decide_eq_false (by omega)) (.some rfl)
      · rintro (r | r) hr
        case inr => exact hr.elim
        obtain rfl := hr
        simp (disch := omega) only [w64]
        exact .some ⟨hlt, rfl⟩
    · obtain rfl : k = N := by omega
      unfold zCa
      simp only [nI_eq, hn]
      exact Sat.no (decide_eq_false (by omega)) (.some rfl)
  · rintro (r | r) hr
    case inr => exact hr.elim
    obtain rfl := hr
    exact .some (by rw [s5]; rfl)
theorem law_CalmTrue {c : List Int} (hz : ∀ z ∈ c, 0 ≤ z ∧ z < 256) : zLr (c, ()) = some (true, ()) := by
  unfold zLr
  dsimp only
  refine Sat.out (Sat.ite (fun _ => .some rfl) (fun hlen => ?_))
  have hc : Cod c := cod_ofW hz hlen
  
  refine Sat.bnd (d_WorldCalm hc) ?_
  rintro _ ⟨W, rfl, hW⟩
  dsimp only [wt]
  refine sov (zDc hW) (sov (zET hW) ?_)
  dsimp only [wt]
  refine sov (zE3 (calV_sm W)) (Sat.no rfl (sov (zEV hW) ?_))
  dsimp only
  rcases hv : wv W with _ | _
  · exact Sat.gd rfl (sov (zE3 (calV_sm W)) (.some rfl))
  have hV := wv_t.1 hv
  rw [calV_yes hV]
  refine Sat.no rfl ?_
  have hC := calW_ok hV
  have hs := calW_same W
  obtain ⟨N, hN⟩ := Int.eq_ofNat_of_zero_le (show 0 ≤ W.n by have := hV.nn; omega)
  have g : GV (N : Int) (tru W.ls W.up) := tru_N hV hN
  have known := fun {u v : Nat} (hu : u < N) (hv : v < N) hj => calm_true hV hN hu hv hj
  have hdb := hC.db
  have hsq := hC.sq
  have h8 := hC.nn
  refine sov (zDe hC) ?_
  dsimp only
  generalize calW W = C at hC hs known hdb hsq h8 ⊢
  obtain ⟨s1, s2, s3, s4, s5, s6⟩ := hs
  rw [← s2, ← s3] at g
  rw [← s2, ← s3, ← s4] at known
  rw [hN] at s1
  rw [s1]
  have hn : C.db.length = N := by omega
  refine Sat.bnd (R := fun r => match r with | .inl _ => True | .inr _ => False) ?_ ?_
  · refine Sat.count N (fun k t => t = ((k : Int), (N : Int), (N : Int), C.ls, C.up, C.sq, C.db, C.net, tru C.ls C.up, ())) ?_ (Nat.zero_le _) (fuel_lt (by omega)) rfl
    rintro k t hk rfl
    by_cases hlt : k < N
    · simp (disch := omega) only [zCc, nI_eq, w64, hn]
      refine Sat.gd (decide_eq_true (by omega)) (sov (zC9 g hlt) ?_)
      dsimp only
      have rj := fun {x : Int} (hx : x ∈ reachL N (tru C.ls C.up) k) => reach_jn g hlt hx
      have rl := reach_len N (tru C.ls C.up) k
      generalize reachL N (tru C.ls C.up) k = L at rj rl ⊢
      refine Sat.bnd (R := fun r => match r with | .inl x => x = ((k : Int), (N : Int), (N : Int), C.ls, C.up, C.sq, C.db, C.net, tru C.ls C.up, ()) | .inr _ => False) ?_ ?_
      · refine Sat.count L.length (fun j t => t = ((k : Int), (j : Int), (N : Int), (N : Int), L, C.ls, C.up, C.sq, C.db, C.net, tru C.ls C.up, ())) ?_ (Nat.zero_le _) (fuel_lt (by omega)) rfl
        rintro j t hj rfl
        by_cases hjl : j < L.length
        · obtain ⟨m, hm, hmN, hJ⟩ := rj (List.mem_of_getElem? (iz_get hjl))
          have hv := hC.ok k (by omega)
          have hr := hC.rng m (by omega)
          have e := sq_of_seqD (known hlt hmN hJ) (by omega)
          simp (disch := omega) only [zCd, nI_eq, toN, at_db, at_int, w64, hm]
          refine Sat.gd (decide_eq_true (by omega)) (Sat.gd (inR_t (by omega) (by omega)) (Sat.gd (inR_t (by omega) (by omega)) (Sat.gd (inR_t (by omega) (by omega)) (Sat.gd (inR_t (by omega) (by omega)) (sov (zE4 _ _ hv.sm.fits) ?_)))))
          rw [e]
          exact Sat.no (by simp) (.some ⟨hjl, rfl⟩)
        · obtain rfl : j = L.length := by omega
          unfold zCd
          simp only [nI_eq]
          exact Sat.no (decide_eq_false (by omega)) (.some rfl)
      · rintro (r | r) hr
        case inr => exact hr.elim
        obtain rfl := hr
        simp (disch := omega) only [w64]
        exact .some ⟨hlt, rfl⟩
    · obtain rfl : k = N := by omega
      unfold zCc
      simp only [nI_eq, hn]
      exact Sat.no (decide_eq_false (by omega)) (.some trivial)
  · rintro (r | r) hr
    case inr => exact hr.elim
    exact .some rfl
theorem law_CalmDistances {c : List Int} (hz : ∀ z ∈ c, 0 ≤ z ∧ z < 256) : zLp (c, ()) = some (true, ()) := by
  unfold zLp
  dsimp only
  refine Sat.out (Sat.ite (fun _ => .some rfl) (fun hlen => ?_))
  have hc : Cod c := cod_ofW hz hlen
  
  refine Sat.bnd (d_WorldCalm hc) ?_
  rintro _ ⟨W, rfl, hW⟩
  dsimp only [wt]
  refine sov (zDc hW) (sov (zET hW) ?_)
  dsimp only [wt]
  refine sov (zE3 (calV_sm W)) (Sat.no rfl (sov (zEV hW) ?_))
  dsimp only
  rcases hv : wv W with _ | _
  · exact Sat.gd rfl (sov (zE3 (calV_sm W)) (.some rfl))
  have hV := wv_t.1 hv
  rw [calV_yes hV]
  refine Sat.no rfl ?_
  have hC := calW_ok hV
  have hs := calW_same W
  obtain ⟨N, hN⟩ := Int.eq_ofNat_of_zero_le (show 0 ≤ W.n by have := hV.nn; omega)
  have g : GV (N : Int) (tru W.ls W.up) := tru_N hV hN
  have known := fun {i : Nat} (hi : i < N) => calm_dist hV hN hi
  have hdb := hC.db
  have h8 := hC.nn
  refine sov (zDe hC) ?_
  dsimp only
  generalize calW W = C at hC hs known hdb h8 ⊢
  obtain ⟨s1, s2, s3, s4, s5, s6⟩ := hs
  rw [← s2, ← s3] at g known
  rw [hN] at s1
  have sgv := fun {x : Nat} (hx : x < N) => seen_gv hC s1 hx
  have hn : C.db.length = N := by omega
  have seen : ∀ k : Nat, k < N → zK2 ((N : Int), C.ls, C.up, C.sq, C.db, C.net, (k : Int), ()) = some ((N : Int), grid (dbF (dbx C.db k)) N, ()) := fun k hk => by
    have := zDd hC (i := k) (by omega)
    unfold seenL at this
    rw [s1, Int.toNat_natCast] at this
    exact this
  have dd : ∀ {ls : List Lk} {k : Nat}, GV (N : Int) ls → k < N → zKO ((N : Int), ls, (k : Int), ()) = some (dists N ls k, ()) := fun {ls k} gl hk => by
    rw [zC7 _ _ _ (show Fits ls by have := gl.2.2.1; unfold Fits; omega)]
    unfold distsV
    rw [show gv N ls = true from decide_eq_true gl, inB_mk (by omega)]
    rfl
  rw [s1]
  refine Sat.bnd (R := fun r => match r with | .inl _ => True | .inr _ => False) ?_ ?_
  · refine Sat.count N (fun k t => t = ((k : Int), (N : Int), (N : Int), C.ls, C.up, C.sq, C.db, C.net, tru C.ls C.up, ())) ?_ (Nat.zero_le _) (fuel_lt (by omega)) rfl
    rintro k t hk rfl
    by_cases hlt : k < N
    · simp (disch := omega) only [zB9, nI_eq, w64, hn]
      refine Sat.gd (decide_eq_true (by omega)) (sov (seen k hlt) (sov (dd (sgv hlt) hlt) (sov (dd g hlt) ?_)))
      dsimp only
      rw [known hlt]
      exact sov (zE0 _ (show Fits (dists N (tru C.ls C.up) k) by have := dists_len N (tru C.ls C.up) k; unfold Fits; omega)) (Sat.no rfl (.some ⟨hlt, rfl⟩))
    · obtain rfl : k = N := by omega
      unfold zB9
      simp only [nI_eq, hn]
      exact Sat.no (decide_eq_false (by omega)) (.some trivial)
  · rintro (r | r) hr
    case inr => exact hr.elim
    exact .some rfl
end
end Go.Proofs.YtojdflifijpffaaGreat
end
