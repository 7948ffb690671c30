/- Part 7 of the proof: Pe8 Pe9 PeA PeB Pc PeC PeF PeG PeM. -/
import Derived.Test.YtjffopopheiinaaGreatQa6
set_option linter.unusedSimpArgs false
set_option linter.unusedVariables false
section
namespace Go.Proofs.YtjffopopheiinaaGreat
open Go.RowKit
set_option linter.unusedSimpArgs false
set_option linter.unusedVariables false
set_option maxRecDepth 100000

noncomputable def wv (w : Wd) : Bool := @decide (WV w Nob) (Classical.propDecidable _)
theorem wv_t {w : Wd} : wv w = true ↔ WV w Nob := by unfold wv; simp
theorem wv_f {w : Wd} : wv w = false ↔ ¬ WV w Nob := by unfold wv; simp
def allW (w : Wd) : List Ls := w.db.flatten ++ w.net.map (·.p)
theorem dbx_mem {db : List (List Ls)} {i : Nat} (h : i < db.length) : dbx db i ∈ db := by
  unfold dbx; rw [List.getD, List.getElem?_eq_getElem h]; exact List.getElem_mem h
theorem said_iff {w : Wd} {l : Ls} : Said w l ↔ l ∈ allW w := by
  unfold Said allW
  rw [List.mem_append, List.mem_flatten, List.mem_map]
  constructor
  · rintro (⟨i, hi, h⟩ | ⟨p, hp, rfl⟩)
    · exact .inl ⟨_, dbx_mem hi, h⟩
    · exact .inr ⟨p, hp, rfl⟩
  · rintro (⟨d, hd, h⟩ | ⟨p, hp, rfl⟩)
    · obtain ⟨i, hi, rfl⟩ := List.getElem_of_mem hd
      refine .inl ⟨i, hi, ?_⟩
      unfold dbx; rw [List.getD, List.getElem?_eq_getElem hi]; exact h
    · exact .inr ⟨p, hp, rfl⟩
def NdW (w : Wd) (i : Nat) : Prop := (1 ≤ iz w.sq i ∧ iz w.sq i ≤ 99) ∧ DbV (dbx w.db i)
def OwW (w : Wd) (i : Nat) : Prop := ∃ l ∈ dbx w.db i, l.o = i ∧ l.s = iz w.sq i
def AgW (xs : List Ls) (i : Nat) : Prop := ∀ j, j < i → (lsa xs j).o = (lsa xs i).o → (lsa xs j).s = (lsa xs i).s → lsa xs j = lsa xs i
theorem wv_mk {w : Wd} (g : GV w.n w.ls) (hu : w.up.length = w.ls.length) (hs : (w.sq.length : Int) = w.n) (hd : (w.db.length : Int) = w.n) (hn : w.net.length ≤ 16) (nd : ∀ i, i < w.db.length → NdW w i) (ow : ∀ i, i < w.db.length → OwW w i) (tg : ∀ i, i < w.net.length → 0 ≤ (pkx w.net i).t ∧ (pkx w.net i).t < w.n) (ps : ∀ i, i < (allW w).length → Poss w Nob (lsa (allW w) i)) (ag : ∀ i, i < (allW w).length → AgW (allW w) i) : WV w Nob := by
  have idx : ∀ l, Said w l → ∃ i, i < (allW w).length ∧ lsa (allW w) i = l := fun l hl => by
    obtain ⟨i, hi, rfl⟩ := List.getElem_of_mem (said_iff.1 hl)
    exact ⟨i, hi, lsa_get hi⟩
  refine ⟨g, hu, hs, hd, hn, fun i hi => (nd i (by omega)).1, fun i hi => (nd i hi).2, ow, fun l hl => ?_, fun x y hx hy e1 e2 => ?_, fun p hp => ?_⟩
  · obtain ⟨i, hi, rfl⟩ := idx l hl
    exact ps i hi
  · obtain ⟨i, hi, rfl⟩ := idx x hx
    obtain ⟨j, hj, rfl⟩ := idx y hy
    rcases Nat.lt_trichotomy i j with h | h | h
    · exact ag j hj i h e1 e2
    · rw [h]
    · exact (ag i hi j h e1.symm e2.symm).symm
  · obtain ⟨i, hi, rfl⟩ := List.getElem_of_mem hp
    have := tg i hi
    have e : pkx w.net i = w.net[i] := by simp [pkx, List.getD, hi]
    rwa [e] at this
section
variable {w : Wd}
theorem WV.nd (h : WV w Nob) {i : Nat} (hi : i < w.db.length) : NdW w i := ⟨h.rng i (by have := h.sq; have := h.db; omega), h.ok i hi⟩
theorem WV.ps (h : WV w Nob) {i : Nat} (hi : i < (allW w).length) : Poss w Nob (lsa (allW w) i) := h.poss _ (said_iff.2 (lsa_mem hi))
theorem WV.ag (h : WV w Nob) {i : Nat} (hi : i < (allW w).length) : AgW (allW w) i := fun j hj e1 e2 => h.agr _ _ (said_iff.2 (lsa_mem (by omega))) (said_iff.2 (lsa_mem hi)) e1 e2
theorem flat8 {db : List (List Ls)} {k : Nat} (hk : k ≤ db.length) (h : ∀ i, i < k → (dbx db i).length ≤ 8) : (db.take k).flatten.length ≤ 8 * k := by
  induction k with
  | zero => simp
  | succ k ih =>
    have := ih (by omega) fun i hi => h i (by omega)
    have h2 := h k (by omega)
    rw [← take_dbx (by omega), List.flatten_append, List.length_append, List.flatten_singleton]
    omega
theorem flat_succ {db : List (List Ls)} {k : Nat} (hk : k < db.length) : (db.take (k + 1)).flatten = (db.take k).flatten ++ dbx db k := by
  rw [← take_dbx hk, List.flatten_append, List.flatten_singleton]
theorem map_succ {net : List Pk} {k : Nat} (hk : k < net.length) : (net.take (k + 1)).map (·.p) = (net.take k).map (·.p) ++ [(pkx net k).p] := by
  rw [← take_pkx hk, List.map_append]; rfl
theorem NdW.sm {i : Nat} (h : NdW w i) : (dbx w.db i).length ≤ 8 := h.2.len
theorem zC4 (x l : Ls) (hx : Fits x.e) (hl : Fits l.e) : zJV (x.o, x.s, x.e, l.o, l.s, l.e, ()) = some (decide (x.o = l.o ∧ x.s = l.s ∧ x ≠ l), ()) := by
  unfold zJV
  by_cases h1 : x.o = l.o
  · by_cases h2 : x.s = l.s
    · simp only [decide_eq_true h1, decide_eq_true h2, cond_true]
      refine Sat.out (sov (zEt x l hx hl) (.some ?_))
      by_cases h3 : x = l
      · simp [h3]
      · simp [h1, h2, h3]
    · simp [h1, h2]
  · simp [h1]
theorem zCX (xs : List Ls) (l : Ls) (h : xs.length ≤ 100000) (he : ∀ x ∈ xs, Fits x.e) (hl : Fits l.e) : Sat (zKr (xs, l.o, l.s, l.e, ())) fun r => ∃ b : Bool, r = (b, ()) ∧ (b = true ↔ ∃ x ∈ xs, x.o = l.o ∧ x.s = l.s ∧ x ≠ l) := by
  unfold zKr zKv
  refine Sat.bnd (R := fun r => ∃ z : Int, r = (z, ()) ∧ (0 ≤ z ↔ ∃ x ∈ xs, x.o = l.o ∧ x.s = l.s ∧ x ≠ l)) (Sat.bnd (R := fun r => match r with | .inl _ => ¬ ∃ x ∈ xs, x.o = l.o ∧ x.s = l.s ∧ x ≠ l | .inr y => ∃ k : Nat, y = ((k : Int), ()) ∧ ∃ x ∈ xs, x.o = l.o ∧ x.s = l.s ∧ x ≠ l) ?_ ?_) ?_
  · refine Sat.count xs.length (fun k t => t = (xs, l.o, l.s, l.e, (xs.length : Int), (k : Int), ()) ∧ ∀ i, i < k → ¬ ((lsa xs i).o = l.o ∧ (lsa xs i).s = l.s ∧ lsa xs i ≠ l)) ?_ (Nat.zero_le _) (fuel_lt (by omega)) ⟨by simp [nI_eq], fun i hi => by omega⟩
    rintro k t hk ⟨rfl, hok⟩
    by_cases hlt : k < xs.length
    · simp (disch := omega) only [zB5, at_ls, toN, w64, zC4 _ l (he _ (lsa_mem hlt)) hl, Option.bind_some]
      refine Sat.gd (decide_eq_true (by omega)) (Sat.gd (inR_t (by omega) (by omega)) (Sat.ite (fun hc => .some ?_) (fun hc => .some ⟨hlt, rfl, fun i hi => ?_⟩)))
      · exact ⟨k, rfl, _, lsa_mem hlt, of_decide_eq_true hc⟩
      · by_cases e : i < k
        · exact hok i e
        · obtain rfl : i = k := by omega
          exact of_decide_eq_false hc
    · obtain rfl : k = xs.length := by omega
      unfold zB5
      refine Sat.no (decide_eq_false (by first | omega | (dsimp only; omega))) (.some ?_)
      rintro ⟨x, hx, hh⟩
      obtain ⟨i, hi, rfl⟩ := List.getElem_of_mem hx
      rw [← lsa_get hi] at hh
      exact hok i hi hh
  · rintro (r | r) hr
    · exact .some ⟨-1, rfl, fun h => by omega, fun h => (hr h).elim⟩
    · obtain ⟨k, rfl, hx⟩ := hr
      exact .some ⟨k, rfl, fun _ => hx, fun _ => by omega⟩
  · rintro _ ⟨z, rfl, hz⟩
    exact .some ⟨decide (0 ≤ z), rfl, by rw [decide_eq_true_eq]; exact hz⟩
theorem ag_take {xs : List Ls} {k : Nat} (hk : k < xs.length) : (∃ x ∈ xs.take k, x.o = (lsa xs k).o ∧ x.s = (lsa xs k).s ∧ x ≠ lsa xs k) ↔ ¬ AgW xs k := by
  constructor
  · rintro ⟨x, hx, h1, h2, h3⟩ h
    obtain ⟨j, hj, rfl⟩ := List.getElem_of_mem hx
    rw [List.length_take] at hj
    rw [List.getElem_take, ← lsa_get (by omega)] at h1 h2 h3
    exact h3 (h j (by omega) h1 h2)
  · intro h
    unfold AgW at h
    simp only [Classical.not_forall] at h
    obtain ⟨j, hj, h1, h2, h3⟩ := h
    refine ⟨lsa xs j, ?_, h1, h2, h3⟩
    rw [lsa_get (by omega)]
    exact List.mem_iff_getElem.2 ⟨j, by rw [List.length_take]; omega, List.getElem_take⟩
set_option maxHeartbeats 2000000 in
theorem zCS (h : SmW w) : zJU (w.n, w.ls, w.up, w.sq, w.db, w.net, ()) = some (wv w, ()) := by
  have h1 := h.ls
  have h2 := h.up
  have h3 := h.sq
  have h4 := h.db
  have h5 := h.net
  have no : ¬ WV w Nob → (false, ()) = (wv w, ()) := fun q => by rw [wv_f.2 q]
  unfold zJU
  dsimp only
  rw [zCM _ _ (show Fits w.ls by unfold Fits; omega)]
  simp only [nI_eq]
  refine Sat.out (Sat.ite (fun hc => .some (no fun q => ?_)) (fun hc => ?_))
  · have hc : gv w.n w.ls = false := by simpa using hc
    exact of_decide_eq_false hc q.g
  have g : GV w.n w.ls := of_decide_eq_true (show gv w.n w.ls = true by simpa using hc)
  refine Sat.ite (fun hc => .some (no fun q => ?_)) (fun hc => ?_)
  · have hc : ¬ (w.up.length : Int) = w.ls.length := by simpa using hc
    have := q.up; omega
  have hu : (w.up.length : Int) = w.ls.length := by simpa using hc
  refine Sat.ite (fun hc => .some (no fun q => ?_)) (fun hc => ?_)
  · have hc : ¬ (w.sq.length : Int) = w.n := by simpa using hc
    have := q.sq; omega
  have hs : (w.sq.length : Int) = w.n := by simpa using hc
  refine Sat.ite (fun hc => .some (no fun q => ?_)) (fun hc => ?_)
  · have hc : ¬ (w.db.length : Int) = w.n := by simpa using hc
    have := q.db; omega
  have hd : (w.db.length : Int) = w.n := by simpa using hc
  refine Sat.ite (fun hc => .some (no fun q => ?_)) (fun hc => ?_)
  · have hc := of_decide_eq_true hc
    have := q.net; omega
  have hn := of_decide_eq_false hc
  have hn8 := g.2.1
  refine Sat.bnd (R := fun r => match r with | .inl x => x = (w.n, w.n, w.ls, w.up, w.sq, w.db, w.net, w.db.flatten, ()) ∧ ∀ i, i < w.db.length → NdW w i ∧ OwW w i | .inr y => y = (false, ()) ∧ ¬ WV w Nob) ?_ ?_
  · refine Sat.count w.db.length (fun k t => t = (w.n, w.db, (w.db.length : Int), (k : Int), w.n, w.ls, w.up, w.sq, w.db, w.net, (w.db.take k).flatten, ()) ∧ ∀ i, i < k → NdW w i ∧ OwW w i) ?_ (Nat.zero_le _) (fuel_lt (by omega)) ⟨by simp, fun i hi => by omega⟩
    rintro k t hk ⟨rfl, hok⟩
    by_cases hlt : k < w.db.length
    · have hsm := h.dbs k hlt
      simp (disch := omega) only [zBC, at_db, at_int, at_ls, toN, w64, zFm, zCK _ hsm.fits hsm.fe, Option.bind_some]
      refine Sat.gd (decide_eq_true (by omega)) (Sat.gd (inR_t (by omega) (by omega)) (Sat.gd (inR_t (by omega) (by omega)) (Sat.ite (fun hc => .some ⟨rfl, fun q => ?_⟩) (fun hc => ?_))))
      · have hc := inB_f (show inB (iz w.sq k) 1 99 = false by simpa using hc)
        exact hc (q.rng k (by omega))
      have hr := inB_t (show inB (iz w.sq k) 1 99 = true by simpa using hc)
      refine Sat.ite (fun hc => .some ⟨rfl, fun q => ?_⟩) (fun hc => ?_)
      · have hc : dbv (dbx w.db k) = false := by simpa using hc
        exact of_decide_eq_false hc (q.ok k hlt)
      have hv : DbV (dbx w.db k) := of_decide_eq_true (show dbv (dbx w.db k) = true by simpa using hc)
      have h8 := hv.len
      obtain ⟨i, hi, hp⟩ := zC3 (dbx w.db k) (k : Int) hv.srt (by omega)
      have hfd := fd_place hv.srt hi
      refine sov hp ?_
      dsimp only
      simp only [toN]
      cases hh : hasAt (dbx w.db k) (k : Int) i with
      | false =>
        rw [hh, if_neg (by simp)] at hfd
        refine Sat.gd rfl (.some ⟨rfl, fun q => ?_⟩)
        obtain ⟨l, hl, e1, _⟩ := q.own k hlt
        exact fd_none.1 hfd l hl e1
      | true =>
        rw [hh, if_pos rfl] at hfd
        obtain ⟨hm, ho⟩ := (fd_some hv.so).1 hfd
        obtain ⟨hil, _⟩ := of_decide_eq_true hh
        refine Sat.no rfl (Sat.gd (inR_t (by omega) (by omega)) (Sat.gd (inR_t (by omega) (by omega)) (Sat.ite (fun hc => .some ⟨rfl, fun q => ?_⟩) (fun hc => ?_))))
        · have hc : ¬ (lsa (dbx w.db k) i).s = iz w.sq k := by simpa using hc
          obtain ⟨l, hl, e1, e2⟩ := q.own k hlt
          have := (fd_some hv.so).2 ⟨hl, e1⟩
          rw [hfd] at this
          injection this with this
          rw [this] at hc
          exact hc e2
        · have hc : (lsa (dbx w.db k) i).s = iz w.sq k := by simpa using hc
          have hfl := flat8 (db := w.db) (k := k) (by omega) fun i hi => (hok i hi).1.sm
          refine Sat.gd (decide_eq_true (by omega)) (.some ⟨hlt, ?_, fun j hj => ?_⟩)
          · rw [flat_succ hlt]; rfl
          · by_cases e : j < k
            · exact hok j e
            · obtain rfl : j = k := by omega
              exact ⟨⟨hr, hv⟩, _, hm, ho, hc⟩
    · obtain rfl : k = w.db.length := by omega
      unfold zBC
      refine Sat.no (decide_eq_false (by first | omega | (dsimp only; omega))) (.some ⟨?_, hok⟩)
      rw [List.take_length]
  rintro (r | r) hr
  case inr =>
    obtain ⟨rfl, hr⟩ := hr
    exact .some (no hr)
  obtain ⟨rfl, hnd⟩ := hr
  have hfl : w.db.flatten.length ≤ 8 * w.db.length := by
    have := flat8 (db := w.db) (k := w.db.length) (by omega) fun i hi => (hnd i hi).1.sm
    rwa [List.take_length] at this
  dsimp only
  refine Sat.bnd (R := fun r => match r with | .inl x => x = (w.n, w.ls, w.up, w.sq, w.db, w.net, allW w, ()) ∧ ∀ i, i < w.net.length → 0 ≤ (pkx w.net i).t ∧ (pkx w.net i).t < w.n | .inr y => y = (false, ()) ∧ ¬ WV w Nob) ?_ ?_
  · refine Sat.count w.net.length (fun k t => t = (w.n, w.net, (w.net.length : Int), (k : Int), w.n, w.ls, w.up, w.sq, w.db, w.net, w.db.flatten ++ (w.net.take k).map (·.p), ()) ∧ ∀ i, i < k → 0 ≤ (pkx w.net i).t ∧ (pkx w.net i).t < w.n) ?_ (Nat.zero_le _) (fuel_lt (by omega)) ⟨by simp, fun i hi => by omega⟩
    rintro k t hk ⟨rfl, hok⟩
    have hn1 := g.1
    by_cases hlt : k < w.net.length
    · simp (disch := omega) only [zBA, at_pk, toN, w64, zFm, Option.bind_some]
      refine Sat.gd (decide_eq_true (by omega)) (Sat.gd (inR_t (by omega) (by omega)) (Sat.ite (fun hc => .some ⟨rfl, fun q => ?_⟩) (fun hc => ?_)))
      · have hc := inB_f (show inB (pkx w.net k).t 0 (w.n - 1) = false by simpa using hc)
        have := q.tgt _ (pkx_mem hlt)
        omega
      · have hc := inB_t (show inB (pkx w.net k).t 0 (w.n - 1) = true by simpa using hc)
        refine Sat.gd (decide_eq_true (by simp only [List.length_append, List.length_map, List.length_take, List.length_singleton]; omega)) (.some ⟨hlt, ?_, fun j hj => ?_⟩)
        · rw [map_succ hlt, ← List.append_assoc]; rfl
        · by_cases e : j < k
          · exact hok j e
          · obtain rfl : j = k := by omega
            omega
    · obtain rfl : k = w.net.length := by omega
      unfold zBA
      refine Sat.no (decide_eq_false (by first | omega | (dsimp only; omega))) (.some ⟨?_, hok⟩)
      rw [List.take_length]; rfl
  rintro (r | r) hr
  case inr =>
    obtain ⟨rfl, hr⟩ := hr
    exact .some (no hr)
  obtain ⟨rfl, htg⟩ := hr
  have hal : (allW w).length ≤ 1000 := by unfold allW; rw [List.length_append, List.length_map]; omega
  have hfe : ∀ x ∈ allW w, Sm x.e := fun x hx => by
    rcases said_iff.2 hx with ⟨i, hi, hx⟩ | ⟨p, hp, rfl⟩
    · exact (h.dbs i hi).2 x hx
    · obtain ⟨i, hi, rfl⟩ := List.getElem_of_mem hp
      have := h.pks i hi
      have e : pkx w.net i = w.net[i] := by simp [pkx, List.getD, hi]
      rwa [e] at this
  have smf : ∀ l : List En, Sm l → Fits l := fun l hl => by unfold Fits; unfold Sm at hl; omega
  dsimp only
  refine Sat.bnd (R := fun r => match r with | .inl x => ∀ i, i < (allW w).length → Poss w Nob (lsa (allW w) i) ∧ AgW (allW w) i | .inr y => y = (false, ()) ∧ ¬ WV w Nob) ?_ ?_
  · refine Sat.count (allW w).length (fun k t => t = (allW w, allW w, ((allW w).length : Int), (k : Int), w.n, w.ls, w.up, w.sq, w.db, w.net, ()) ∧ ∀ i, i < k → Poss w Nob (lsa (allW w) i) ∧ AgW (allW w) i) ?_ (Nat.zero_le _) (fuel_lt (by omega)) ⟨by simp, fun i hi => by omega⟩
    rintro k t hk ⟨rfl, hok⟩
    by_cases hlt : k < (allW w).length
    · have hle := hfe _ (lsa_mem hlt)
      simp (disch := omega) only [zBB, at_ls, toN, w64, zEh g (show w.up.length = w.ls.length by omega) hs _ hle, Option.bind_some, Int.toNat_zero, List.drop_zero, Nat.sub_zero]
      refine Sat.gd (decide_eq_true (by omega)) (Sat.gd (inR_t (by omega) (by omega)) (Sat.ite (fun hc => .some ⟨rfl, fun q => ?_⟩) (fun hc => ?_)))
      · have hc : poss w (lsa (allW w) k) = false := by simpa using hc
        exact poss_f.1 hc (q.ps hlt)
      have hp := poss_t.1 (show poss w (lsa (allW w) k) = true by simpa using hc)
      refine Sat.gd (bnd_t (by omega) (by omega) (by omega)) (Sat.bnd (zCX ((allW w).take k) (lsa (allW w) k) (by rw [List.length_take]; omega) (fun x hx => smf _ (hfe x (List.mem_of_mem_take hx))) (smf _ hle)) ?_)
      rintro _ ⟨b, rfl, hb⟩
      rw [ag_take hlt] at hb
      refine Sat.ite (fun hc3 => .some ⟨rfl, fun q => hb.1 hc3 (q.ag hlt)⟩) (fun hc3 => .some ⟨hlt, rfl, fun j hj => ?_⟩)
      by_cases e : j < k
      · exact hok j e
      · obtain rfl : j = k := by omega
        exact ⟨hp, Classical.not_not.1 fun q => by
          have := hb.2 q
          have hc3 : b = false := hc3
          rw [hc3] at this; cases this⟩
    · obtain rfl : k = (allW w).length := by omega
      unfold zBB
      exact Sat.no (decide_eq_false (by first | omega | (dsimp only; omega))) (.some hok)
  rintro (r | r) hr
  case inr =>
    obtain ⟨rfl, hr⟩ := hr
    exact .some (no hr)
  exact .some (by rw [wv_t.2 (wv_mk g (by omega) hs hd (by omega) (fun i hi => (hnd i hi).1) (fun i hi => (hnd i hi).2) htg (fun i hi => (hr i hi).1) (fun i hi => (hr i hi).2))])
end
end Go.Proofs.YtjffopopheiinaaGreat
end
section
namespace Go.Proofs.YtjffopopheiinaaGreat
open Go.RowKit
set_option linter.unusedSimpArgs false
set_option linter.unusedVariables false
set_option maxRecDepth 100000

section
variable {w : Wd}
structure Shp (w : Wd) : Prop where
  g : GV w.n w.ls
  up : w.up.length = w.ls.length
  sq : (w.sq.length : Int) = w.n
  db : (w.db.length : Int) = w.n
  net : w.net.length ≤ 16
  nd : ∀ i, i < w.db.length → NdW w i
theorem zD0 (h : SmW w) : Sat (zKY (w.n, w.ls, w.up, w.sq, w.db, w.net, ())) fun r => ∃ b : Bool, r = (b, ()) ∧ (b = true → Shp w) ∧ (b = false → ¬ WV w Nob) := by
  have h1 := h.ls
  have h2 := h.up
  have h3 := h.sq
  have h4 := h.db
  have h5 := h.net
  have no : ¬ WV w Nob → ∃ b : Bool, (false, ()) = (b, ()) ∧ (b = true → Shp w) ∧ (b = false → ¬ WV w Nob) := fun q => ⟨false, rfl, (fun e => nomatch e), fun _ => q⟩
  unfold zKY
  dsimp only
  rw [zEk _ _ (show Fits w.ls by unfold Fits; omega)]
  simp only [nI_eq]
  refine Sat.ite (fun hc => .some (no fun q => ?_)) (fun hc => ?_)
  · have hc : gv w.n w.ls = false := by simpa using hc
    exact of_decide_eq_false hc q.g
  have g : GV w.n w.ls := of_decide_eq_true (show gv w.n w.ls = true by simpa using hc)
  refine Sat.ite (fun hc => .some (no fun q => ?_)) (fun hc => ?_)
  · have hc : ¬ (w.up.length : Int) = w.ls.length := by simpa using hc
    have := q.up; omega
  have hu : (w.up.length : Int) = w.ls.length := by simpa using hc
  refine Sat.ite (fun hc => .some (no fun q => ?_)) (fun hc => ?_)
  · have hc : ¬ (w.sq.length : Int) = w.n := by simpa using hc
    have := q.sq; omega
  have hs : (w.sq.length : Int) = w.n := by simpa using hc
  refine Sat.ite (fun hc => .some (no fun q => ?_)) (fun hc => ?_)
  · have hc : ¬ (w.db.length : Int) = w.n := by simpa using hc
    have := q.db; omega
  have hd : (w.db.length : Int) = w.n := by simpa using hc
  refine Sat.ite (fun hc => .some (no fun q => ?_)) (fun hc => ?_)
  · have hc := of_decide_eq_true hc
    have := q.net; omega
  have hn := of_decide_eq_false hc
  have hn8 := g.2.1
  refine Sat.bnd (R := fun r => match r with | .inl x => ∀ i, i < w.db.length → NdW w i | .inr y => y = (false, ()) ∧ ¬ WV w Nob) ?_ ?_
  · refine Sat.count w.db.length (fun k t => t = ((k : Int), w.n, w.ls, w.up, w.sq, w.db, w.net, ()) ∧ ∀ i, i < k → NdW w i) ?_ (Nat.zero_le _) (fuel_lt (by omega)) ⟨rfl, fun i hi => by omega⟩
    rintro k t hk ⟨rfl, hok⟩
    by_cases hlt : k < w.db.length
    · have hsm := h.dbs k hlt
      simp (disch := omega) only [zCz, at_db, at_int, toN, w64, e_l6In, zEi _ hsm.fits hsm.fe, Option.bind_some]
      refine Sat.gd (decide_eq_true (by omega)) (Sat.gd (inR_t (by omega) (by omega)) (Sat.ite (fun hc => .some ⟨rfl, fun q => ?_⟩) (fun hc => ?_)))
      · have hc := inB_f (show inB (iz w.sq k) 1 99 = false by simpa using hc)
        exact hc (q.rng k (by omega))
      have hr := inB_t (show inB (iz w.sq k) 1 99 = true by simpa using hc)
      refine Sat.gd (inR_t (by omega) (by omega)) (Sat.ite (fun hc => .some ⟨rfl, fun q => ?_⟩) (fun hc => .some ⟨hlt, rfl, fun j hj => ?_⟩))
      · have hc : dbv (dbx w.db k) = false := by simpa using hc
        exact of_decide_eq_false hc (q.ok k hlt)
      · have hv : DbV (dbx w.db k) := of_decide_eq_true (show dbv (dbx w.db k) = true by simpa using hc)
        by_cases e : j < k
        · exact hok j e
        · obtain rfl : j = k := by omega
          exact ⟨hr, hv⟩
    · obtain rfl : k = w.db.length := by omega
      unfold zCz
      exact Sat.no (decide_eq_false (by dsimp only; omega)) (.some hok)
  rintro (r | r) hr
  case inr =>
    obtain ⟨rfl, hr⟩ := hr
    exact .some (no hr)
  exact .some ⟨true, rfl, fun _ => ⟨g, by omega, hs, hd, by omega, hr⟩, fun e => nomatch e⟩
theorem Shp.fl (h : Shp w) : w.db.flatten.length ≤ 8 * w.db.length := by
  have := flat8 (db := w.db) (k := w.db.length) (by omega) fun i hi => (h.nd i hi).sm
  rwa [List.take_length] at this
theorem zDP (h : Shp w) : zKO (w.n, w.ls, w.up, w.sq, w.db, w.net, ()) = some (allW w, ()) := by
  have hd := h.db
  have hn := h.net
  have h8 := h.g.2.1
  have hfl := h.fl
  unfold zKO
  dsimp only
  refine Sat.out (Sat.bnd (R := fun r => match r with | .inl x => x = (w.n, w.ls, w.up, w.sq, w.db, w.net, w.db.flatten, ()) | .inr _ => False) ?_ ?_)
  · refine Sat.count w.db.length (fun k t => t = ((k : Int), w.n, w.ls, w.up, w.sq, w.db, w.net, (w.db.take k).flatten, ())) ?_ (Nat.zero_le _) (fuel_lt (by omega)) (by simp)
    rintro k t hk rfl
    by_cases hlt : k < w.db.length
    · have hl := (h.nd k hlt).sm
      have hfk := flat8 (db := w.db) (k := k) (by omega) fun i hi => (h.nd i (by omega)).sm
      simp (disch := omega) only [zCn, at_db, toN, w64, nI_eq]
      refine Sat.gd (decide_eq_true (by omega)) (Sat.gd (inR_t (by omega) (by omega)) (Sat.gd (decide_eq_true (by omega)) (.some ⟨hlt, ?_⟩)))
      rw [flat_succ hlt]; rfl
    · obtain rfl : k = w.db.length := by omega
      unfold zCn
      simp only [nI_eq]
      refine Sat.no (decide_eq_false (by omega)) (.some ?_)
      rw [List.take_length]
  rintro (r | r) hr
  case inr => exact hr.elim
  obtain rfl := hr
  dsimp only
  refine Sat.bnd (R := fun r => match r with | .inl x => x = (allW w, ()) | .inr _ => False) ?_ ?_
  · refine Sat.count w.net.length (fun k t => t = ((k : Int), w.n, w.ls, w.up, w.sq, w.db, w.net, w.db.flatten ++ (w.net.take k).map (·.p), ())) ?_ (Nat.zero_le _) (fuel_lt (by omega)) (by simp)
    rintro k t hk rfl
    by_cases hlt : k < w.net.length
    · simp (disch := omega) only [zCo, at_pk, toN, w64, nI_eq]
      refine Sat.gd (decide_eq_true (by omega)) (Sat.gd (inR_t (by omega) (by omega)) (Sat.gd (decide_eq_true (by simp only [List.length_append, List.length_map, List.length_take, List.length_singleton]; omega)) (.some ⟨hlt, ?_⟩)))
      rw [map_succ hlt, ← List.append_assoc]; rfl
    · obtain rfl : k = w.net.length := by omega
      unfold zCo
      simp only [nI_eq]
      refine Sat.no (decide_eq_false (by omega)) (.some ?_)
      rw [List.take_length]; rfl
  rintro (r | r) hr
  case inr => exact hr.elim
  obtain rfl := hr
  exact .some rfl
theorem zDY (xs : List Ls) (hl : xs.length ≤ 100000) (he : ∀ x ∈ xs, Fits x.e) : Sat (zKW (xs, ())) fun r => ∃ b : Bool, r = (b, ()) ∧ (b = true ↔ ∀ i, i < xs.length → AgW xs i) := by
  unfold zKW
  refine Sat.bnd (R := fun r => match r with | .inl _ => ∀ i, i < xs.length → AgW xs i | .inr y => y = (false, ()) ∧ ¬ ∀ i, i < xs.length → AgW xs i) ?_ ?_
  · refine Sat.count xs.length (fun k t => t = (xs, (k : Int), ()) ∧ ∀ i, i < k → AgW xs i) ?_ (Nat.zero_le _) (fuel_lt (by omega)) ⟨rfl, fun i hi => by omega⟩
    rintro k t hk ⟨rfl, hok⟩
    by_cases hlt : k < xs.length
    · simp only [zCw, nI_eq]
      refine Sat.gd (decide_eq_true (by omega)) (Sat.bnd (R := fun r => match r with | .inl x => x = (xs, (k : Int), ()) ∧ AgW xs k | .inr y => y = (false, ()) ∧ ¬ AgW xs k) ?_ ?_)
      · refine Sat.count k (fun j t => t = (xs, (k : Int), (j : Int), ()) ∧ ∀ i, i < j → (lsa xs i).o = (lsa xs k).o → (lsa xs i).s = (lsa xs k).s → lsa xs i = lsa xs k) ?_ (Nat.zero_le _) (fuel_lt (by omega)) ⟨rfl, fun i hi => by omega⟩
        rintro j t hj ⟨rfl, hok2⟩
        by_cases hjk : j < k
        · have fk := he _ (lsa_mem hlt)
          have fj := he _ (lsa_mem (show j < xs.length by omega))
          simp (disch := omega) only [zCx, at_ls, toN, w64, zDZ _ _ fk fj, Option.bind_some]
          refine Sat.gd (decide_eq_true (by omega)) (Sat.gd (inR_t (by omega) (by omega)) (Sat.gd (inR_t (by omega) (by omega)) (Sat.ite (fun h1 => ?_) (fun h1 => .some ⟨hjk, rfl, fun i hi => ?_⟩))))
          · have h1 := of_decide_eq_true h1
            refine Sat.gd (inR_t (by omega) (by omega)) (Sat.gd (inR_t (by omega) (by omega)) (Sat.ite (fun h2 => ?_) (fun h2 => .some ⟨hjk, rfl, fun i hi => ?_⟩)))
            · have h2 := of_decide_eq_true h2
              refine Sat.gd (inR_t (by omega) (by omega)) (Sat.gd (inR_t (by omega) (by omega)) (Sat.ite (fun h3 => .some ⟨rfl, fun q => ?_⟩) (fun h3 => .some ⟨hjk, rfl, fun i hi => ?_⟩)))
              · have h3 : ¬ lsa xs k = lsa xs j := by simpa using h3
                exact h3 (q j hjk h1.symm h2.symm).symm
              · have h3 : lsa xs k = lsa xs j := by simpa using h3
                by_cases e : i < j
                · exact hok2 i e
                · obtain rfl : i = j := by omega
                  exact fun _ _ => h3.symm
            · have h2 := of_decide_eq_false h2
              by_cases e : i < j
              · exact hok2 i e
              · obtain rfl : i = j := by omega
                exact fun _ e2 => (h2 e2.symm).elim
          · have h1 := of_decide_eq_false h1
            by_cases e : i < j
            · exact hok2 i e
            · obtain rfl : i = j := by omega
              exact fun e1 => (h1 e1.symm).elim
        · obtain rfl : j = k := by omega
          unfold zCx
          exact Sat.no (decide_eq_false (by dsimp only; omega)) (.some ⟨rfl, hok2⟩)
      · rintro (r | r) hr
        · obtain ⟨rfl, hr⟩ := hr
          simp (disch := omega) only [w64]
          refine .some ⟨hlt, rfl, fun i hi => ?_⟩
          by_cases e : i < k
          · exact hok i e
          · obtain rfl : i = k := by omega
            exact hr
        · obtain ⟨rfl, hr⟩ := hr
          exact .some ⟨rfl, fun q => hr (q k hlt)⟩
    · obtain rfl : k = xs.length := by omega
      unfold zCw
      simp only [nI_eq]
      exact Sat.no (decide_eq_false (by omega)) (.some hok)
  rintro (r | r) hr
  · exact .some ⟨true, rfl, fun _ => hr, fun _ => rfl⟩
  · obtain ⟨rfl, hr⟩ := hr
    exact .some ⟨false, rfl, (fun e => nomatch e), fun q => (hr q).elim⟩
set_option maxHeartbeats 2000000 in
theorem zEn (h : SmW w) : zKF (w.n, w.ls, w.up, w.sq, w.db, w.net, ()) = some (wv w, ()) := by
  have no : ¬ WV w Nob → (false, ()) = (wv w, ()) := fun q => by rw [wv_f.2 q]
  unfold zKF
  refine Sat.out (Sat.bnd (zD0 h) ?_)
  rintro _ ⟨b, rfl, hb1, hb2⟩
  dsimp only
  refine Sat.ite (fun hc => .some (no (hb2 (by simpa using hc)))) (fun hc => ?_)
  have hS := hb1 (by simpa using hc)
  have hd := hS.db
  have hs := hS.sq
  have hn := hS.net
  have h8 := hS.g.2.1
  have hn1 := hS.g.1
  have hfl := hS.fl
  have hal : (allW w).length ≤ 1000 := by unfold allW; rw [List.length_append, List.length_map]; omega
  have hfe : ∀ x ∈ allW w, Sm x.e := fun x hx => by
    rcases said_iff.2 hx with ⟨i, hi, hx⟩ | ⟨p, hp, rfl⟩
    · exact (h.dbs i hi).2 x hx
    · obtain ⟨i, hi, rfl⟩ := List.getElem_of_mem hp
      have := h.pks i hi
      have e : pkx w.net i = w.net[i] := by simp [pkx, List.getD, hi]
      rwa [e] at this
  have smf : ∀ l : List En, Sm l → Fits l := fun l hl => by unfold Fits; unfold Sm at hl; omega
  refine sov (zDP hS) ?_
  try dsimp only
  refine Sat.bnd (zDY (allW w) (by omega) (fun x hx => smf _ (hfe x hx))) ?_
  rintro _ ⟨b2, rfl, hb⟩
  dsimp only
  refine Sat.ite (fun hc => .some (no fun q => ?_)) (fun hc => ?_)
  · have hc : b2 = false := by simpa using hc
    have := hb.2 fun i hi => q.ag hi
    rw [hc] at this; cases this
  have hag := hb.1 (show b2 = true by simpa using hc)
  refine Sat.bnd (R := fun r => match r with | .inl x => x = (w.n, w.ls, w.up, w.sq, w.db, w.net, ()) ∧ ∀ i, i < w.db.length → (∀ l ∈ dbx w.db i, Poss w Nob l) ∧ OwW w i | .inr y => y = (false, ()) ∧ ¬ WV w Nob) ?_ ?_
  · refine Sat.count w.db.length (fun k t => t = ((k : Int), w.n, w.ls, w.up, w.sq, w.db, w.net, ()) ∧ ∀ i, i < k → (∀ l ∈ dbx w.db i, Poss w Nob l) ∧ OwW w i) ?_ (Nat.zero_le _) (fuel_lt (by omega)) ⟨rfl, fun i hi => by omega⟩
    rintro k t hk ⟨rfl, hok⟩
    by_cases hlt : k < w.db.length
    · have hsm := h.dbs k hlt
      have hv := (hS.nd k hlt).2
      have hvl := hv.len
      simp only [zCe]
      refine Sat.gd (decide_eq_true (by omega)) (Sat.bnd (R := fun r => match r with | .inl x => x = ((k : Int), w.n, w.ls, w.up, w.sq, w.db, w.net, ()) ∧ ∀ l ∈ dbx w.db k, Poss w Nob l | .inr y => y = (false, ()) ∧ ¬ WV w Nob) ?_ ?_)
      · refine Sat.count (dbx w.db k).length (fun j t => t = ((k : Int), (j : Int), w.n, w.ls, w.up, w.sq, w.db, w.net, ()) ∧ ∀ i, i < j → Poss w Nob (lsa (dbx w.db k) i)) ?_ (Nat.zero_le _) (fuel_lt (by omega)) ⟨rfl, fun i hi => by omega⟩
        rintro j t hj ⟨rfl, hok2⟩
        by_cases hjl : j < (dbx w.db k).length
        · have hm : lsa (dbx w.db k) j ∈ dbx w.db k := lsa_mem hjl
          simp (disch := omega) only [zCf, at_db, at_ls, toN, w64, nI_eq, zDW hS.g hS.up hs _ (hsm.2 _ hm), Option.bind_some]
          refine Sat.gd (inR_t (by omega) (by omega)) (Sat.gd (decide_eq_true (by omega)) (Sat.gd (inR_t (by omega) (by omega)) (Sat.gd (inR_t (by omega) (by omega)) (Sat.ite (fun hc => .some ⟨rfl, fun q => ?_⟩) (fun hc => .some ⟨hjl, rfl, fun i hi => ?_⟩)))))
          · have hc : poss w (lsa (dbx w.db k) j) = false := by simpa using hc
            exact poss_f.1 hc (q.poss _ (.inl ⟨k, hlt, hm⟩))
          · have hp := poss_t.1 (show poss w (lsa (dbx w.db k) j) = true by simpa using hc)
            by_cases e : i < j
            · exact hok2 i e
            · obtain rfl : i = j := by omega
              exact hp
        · obtain rfl : j = (dbx w.db k).length := by omega
          unfold zCf
          simp only [at_db, toN, nI_eq]
          refine Sat.gd (inR_t (by omega) (by omega)) (Sat.no (decide_eq_false (by omega)) (.some ⟨rfl, fun l hl => ?_⟩))
          obtain ⟨i, hi, rfl⟩ := List.getElem_of_mem hl
          rw [← lsa_get hi]
          exact hok2 i hi
      · rintro (r | r) hr
        case inr =>
          obtain ⟨rfl, hr⟩ := hr
          exact .some ⟨rfl, hr⟩
        obtain ⟨rfl, hr⟩ := hr
        simp (disch := omega) only [at_db, at_int, toN, w64, zDI _ (k : Int) hsm.fits, Option.bind_some]
        refine Sat.gd (inR_t (by omega) (by omega)) ?_
        cases hfd : fd (dbx w.db k) (k : Int) with
        | none =>
          refine Sat.gd rfl (.some ⟨rfl, fun q => ?_⟩)
          obtain ⟨l, hl, e1, _⟩ := q.own k hlt
          exact fd_none.1 hfd l hl e1
        | some l0 =>
          obtain ⟨hm, ho⟩ := (fd_some hv.so).1 hfd
          refine Sat.no rfl (Sat.gd (inR_t (by omega) (by omega)) (Sat.ite (fun hc => .some ⟨rfl, fun q => ?_⟩) (fun hc => .some ⟨hlt, rfl, fun i hi => ?_⟩)))
          · have hc : ¬ l0.s = iz w.sq k := by simpa using hc
            obtain ⟨l, hl, e1, e2⟩ := q.own k hlt
            have := (fd_some hv.so).2 ⟨hl, e1⟩
            rw [hfd] at this
            injection this with this
            rw [this] at hc
            exact hc e2
          · have hc : l0.s = iz w.sq k := by simpa using hc
            by_cases e : i < k
            · exact hok i e
            · obtain rfl : i = k := by omega
              exact ⟨hr, l0, hm, ho, hc⟩
    · obtain rfl : k = w.db.length := by omega
      unfold zCe
      exact Sat.no (decide_eq_false (by dsimp only; omega)) (.some ⟨rfl, hok⟩)
  rintro (r | r) hr
  case inr =>
    obtain ⟨rfl, hr⟩ := hr
    exact .some (no hr)
  obtain ⟨rfl, hnd⟩ := hr
  dsimp only
  refine Sat.bnd (R := fun r => match r with | .inl x => ∀ i, i < w.net.length → (0 ≤ (pkx w.net i).t ∧ (pkx w.net i).t < w.n) ∧ Poss w Nob (pkx w.net i).p | .inr y => y = (false, ()) ∧ ¬ WV w Nob) ?_ ?_
  · refine Sat.count w.net.length (fun k t => t = ((k : Int), w.n, w.ls, w.up, w.sq, w.db, w.net, ()) ∧ ∀ i, i < k → (0 ≤ (pkx w.net i).t ∧ (pkx w.net i).t < w.n) ∧ Poss w Nob (pkx w.net i).p) ?_ (Nat.zero_le _) (fuel_lt (by omega)) ⟨rfl, fun i hi => by omega⟩
    rintro k t hk ⟨rfl, hok⟩
    by_cases hlt : k < w.net.length
    · simp (disch := omega) only [zCd, at_pk, toN, w64, nI_eq, e_l6In, zDW hS.g hS.up hs _ (h.pks k hlt), Option.bind_some]
      refine Sat.gd (decide_eq_true (by omega)) (Sat.gd (inR_t (by omega) (by omega)) (Sat.ite (fun hc => .some ⟨rfl, fun q => ?_⟩) (fun hc => ?_)))
      · have hc := inB_f (show inB (pkx w.net k).t 0 (w.n - 1) = false by simpa using hc)
        have := q.tgt _ (pkx_mem hlt)
        omega
      have ht := inB_t (show inB (pkx w.net k).t 0 (w.n - 1) = true by simpa using hc)
      refine Sat.gd (inR_t (by omega) (by omega)) (Sat.ite (fun hc => .some ⟨rfl, fun q => ?_⟩) (fun hc => .some ⟨hlt, rfl, fun i hi => ?_⟩))
      · have hc : poss w (pkx w.net k).p = false := by simpa using hc
        exact poss_f.1 hc (q.poss _ (.inr ⟨_, pkx_mem hlt, rfl⟩))
      · have hp := poss_t.1 (show poss w (pkx w.net k).p = true by simpa using hc)
        by_cases e : i < k
        · exact hok i e
        · obtain rfl : i = k := by omega
          exact ⟨by omega, hp⟩
    · obtain rfl : k = w.net.length := by omega
      unfold zCd
      simp only [nI_eq]
      exact Sat.no (decide_eq_false (by omega)) (.some hok)
  rintro (r | r) hr
  case inr =>
    obtain ⟨rfl, hr⟩ := hr
    exact .some (no hr)
  refine .some ?_
  rw [wv_t.2 (wv_mk hS.g hS.up hs hd hn hS.nd (fun i hi => (hnd i hi).2) (fun i hi => (hr i hi).1) (fun i hi => ?_) hag)]
  rcases said_iff.2 (lsa_mem hi) with ⟨j, hj, hx⟩ | ⟨p, hp, e⟩
  · exact (hnd j hj).1 _ hx
  · rw [e]
    obtain ⟨j, hj, rfl⟩ := List.getElem_of_mem hp
    have := (hr j hj).2
    have e2 : pkx w.net j = w.net[j] := by simp [pkx, List.getD, hj]
    rwa [e2] at this
end
end Go.Proofs.YtjffopopheiinaaGreat
end
section
namespace Go.Proofs.YtjffopopheiinaaGreat
open Go.RowKit
set_option linter.unusedSimpArgs false
set_option linter.unusedVariables false
set_option maxRecDepth 100000

section
variable {w : Wd}
def zW : Wd := ⟨0, [], [], [], [], []⟩
def wk7 (b : Bool) (w : Wd) : Int × Bool × List Lk × List Bool × List Int × List (List Ls) × List Pk × Unit := (w.n, b, w.ls, w.up, w.sq, w.db, w.net, ())
theorem zW_sm : SmW zW := ⟨by simp [zW], by simp [zW], by simp [zW], by simp [zW], by simp [zW], fun i hi => by simp [zW] at hi, fun i hi => by simp [zW] at hi⟩
noncomputable def doV (w : Wd) (kind a : Int) : Wd := if wv w = true then doW w kind a else zW
theorem zCP (h : SmW w) (kind a : Int) : zJS (w.n, w.ls, w.up, w.sq, w.db, w.net, kind, a, ()) = some (wt (doV w kind a)) := by
  unfold zJS doV
  refine Sat.out (sov (zCS h) ?_)
  dsimp only
  cases hv : wv w with
  | false => exact Sat.gd rfl (.some (by rw [if_neg (by simp)]; try rfl))
  | true =>
    rw [if_pos rfl]
    refine Sat.no rfl (sov (zC2 h) ?_)
    exact sov (zCW (wv_t.1 hv) kind a) (.some rfl)
theorem sync_do {v : Wd} {i : Nat} (hi : i < v.up.length) : doW v 6 i = syncW v i := by rw [do6, if_pos ⟨by omega, by omega⟩, toN]
theorem calm_pre (h : WV w Nob) : WV { w with net := [] } Nob := h.less (db' := w.db) rfl (by simp) h.ok h.own (fun l hl => by
  rcases hl with hl | ⟨p, hp, _⟩
  · exact .inl hl
  · simp at hp) (by simp)
theorem e_calm (h : WV w Nob) : zJY (w.n, w.ls, w.up, w.sq, w.db, w.net, ()) = some (wt (calW w)) := by
  have h8 := h.nn
  have h14 := h.lsl
  have v0 := calm_pre h
  unfold zJY
  refine Sat.out (Sat.bnd (R := fun r => match r with | .inl x => x = wt (calW w) | .inr _ => False) ?_ ?_)
  · refine Sat.count w.n.toNat (fun k t => t = (w.n, (k : Int), wt (calK { w with net := [] } k))) ?_ (Nat.zero_le _) (fuel_lt (by omega)) rfl
    rintro k t hk rfl
    have hs := cal_same { w with net := [] } k
    have hv := cal_ok v0 k
    generalize hc : calK { w with net := [] } k = c at hs hv ⊢
    by_cases hlt : k < w.n.toNat
    · unfold zBJ
      refine Sat.gd (decide_eq_true (by dsimp only; omega)) (Sat.bnd (R := fun r => match r with | .inl x => x = (w.n, (k : Int), wt (swpW c)) | .inr _ => False) ?_ ?_)
      · have hup := hv.up
        have hl14 := hv.lsl
        refine Sat.count c.ls.length (fun i t => t = (w.n, (k : Int), (c.ls.length : Int), (i : Int), wt (swpK c i))) ?_ (Nat.zero_le _) (fuel_lt (by omega)) (by dsimp only [wt]; rw [nI_eq, hup]; rfl)
        rintro i t hi rfl
        have hs2 := swp_same c i
        by_cases hil : i < c.ls.length
        · have hv2 := swp_ok hv i (by omega)
          unfold zBK
          simp (disch := omega) only [w64]
          refine Sat.gd (decide_eq_true (by first | omega | (dsimp only; omega))) (sov (zCW hv2 6 (i : Int)) (.some ⟨hil, ?_⟩))
          rw [sync_do (by rw [hs2.2.2.1, hup]; exact hil)]
          rfl
        · obtain rfl : i = c.ls.length := by omega
          unfold zBK
          exact Sat.no (decide_eq_false (by first | omega | (dsimp only; omega))) (.some rfl)
      · rintro (r | r) hr
        case inr => exact hr.elim
        obtain rfl := hr
        simp (disch := omega) only [w64]
        refine .some ⟨hlt, ?_⟩
        show _ = (w.n, ((k + 1 : Nat) : Int), wt (swpW (calK { w with net := [] } k)))
        rw [hc]; rfl
    · obtain rfl : k = w.n.toNat := by omega
      unfold zBJ
      refine Sat.no (decide_eq_false (by first | omega | (dsimp only; omega))) (.some ?_)
      unfold calW
      rw [hc]
  · rintro (r | r) hr
    case inr => exact hr.elim
    obtain rfl := hr
    exact .some rfl
noncomputable def calV (w : Wd) : Wd := if wv w = true then calW w else zW
theorem zCO (h : SmW w) : zJR (w.n, w.ls, w.up, w.sq, w.db, w.net, ()) = some (wt (calV w)) := by
  unfold zJR calV
  refine Sat.out (sov (zCS h) ?_)
  dsimp only
  cases hv : wv w with
  | false => exact Sat.gd rfl (.some (by rw [if_neg (by simp)]; try rfl))
  | true =>
    rw [if_pos rfl]
    refine Sat.no rfl (sov (zC2 h) ?_)
    exact sov (e_calm (wv_t.1 hv)) (.some rfl)
theorem zEo (zs : List Bool) (hl : Fits zs) : zKg (zs, zs, ()) = some (true, ()) := by
  unfold zKg
  simp only [decide_true, Bool.not_true, cond_false]
  refine Sat.out (Sat.bnd (R := fun r => match r with | .inl _ => True | .inr _ => False) ?_ ?_)
  · refine Sat.count zs.length (fun k t => t = (zs, zs, (k : Int), ())) ?_ (Nat.zero_le _) (fuel_lt (by omega)) rfl
    rintro k t hk rfl
    simp (disch := omega) only [zBV, at_bo, toN, w64, nI_eq]
    refine Sat.ite (fun hh => ?_) (fun hh => .some trivial)
    have hh := of_decide_eq_true hh
    refine Sat.gd (inR_t (by omega) (by omega)) (Sat.gd (inR_t (by omega) (by omega)) (Sat.no (by simp) (.some ⟨by omega, rfl⟩)))
  · rintro (r | r) hr
    case inr => exact hr.elim
    exact .some rfl
theorem zEv (h : SmW w) : zKm (w.n, w.ls, w.up, w.sq, w.db, w.net, w.n, w.ls, w.up, w.sq, w.db, w.net, ()) = some (true, ()) := by
  have h1 := h.ls
  have h2 := h.up
  have h3 := h.sq
  have h4 := h.db
  have h5 := h.net
  unfold zKm
  dsimp only
  refine Sat.out (sov (zEr _ _ (show Fits w.ls by unfold Fits; omega)) (Sat.no rfl (sov (zEo _ (show Fits w.up by unfold Fits; omega)) (Sat.no rfl (sov (zEs _ (show Fits w.sq by unfold Fits; omega)) (Sat.no rfl ?_))))))
  refine Sat.no (by simp) (Sat.no (by simp) ?_)
  refine Sat.bnd (R := fun r => match r with | .inl x => x = (w.n, w.ls, w.up, w.sq, w.db, w.net, wt w) | .inr _ => False) ?_ ?_
  · refine Sat.count w.db.length (fun k t => t = ((k : Int), w.n, w.ls, w.up, w.sq, w.db, w.net, wt w)) ?_ (Nat.zero_le _) (fuel_lt (by omega)) rfl
    rintro k t hk rfl
    by_cases hlt : k < w.db.length
    · simp (disch := omega) only [zB0, wt, at_db, toN, w64, nI_eq]
      refine Sat.gd (decide_eq_true (by omega)) (Sat.gd (inR_t (by omega) (by omega)) (Sat.gd (inR_t (by omega) (by omega)) (sov (zEp _ (h.dbs k hlt)) (Sat.no rfl (.some ⟨hlt, rfl⟩)))))
    · obtain rfl : k = w.db.length := by omega
      unfold zB0
      simp only [nI_eq]
      exact Sat.no (decide_eq_false (by omega)) (.some rfl)
  rintro (r | r) hr
  case inr => exact hr.elim
  obtain rfl := hr
  dsimp only
  refine Sat.bnd (R := fun r => match r with | .inl _ => True | .inr _ => False) ?_ ?_
  · refine Sat.count w.net.length (fun k t => t = ((k : Int), w.n, w.ls, w.up, w.sq, w.db, w.net, wt w)) ?_ (Nat.zero_le _) (fuel_lt (by omega)) rfl
    rintro k t hk rfl
    by_cases hlt : k < w.net.length
    · have hf : Fits (pkx w.net k).p.e := by have := h.pks k hlt; unfold Fits; unfold Sm at this; omega
      simp (disch := omega) only [zB1, wt, at_pk, toN, w64, nI_eq]
      refine Sat.gd (decide_eq_true (by omega)) (Sat.gd (inR_t (by omega) (by omega)) (Sat.gd (inR_t (by omega) (by omega)) (Sat.no (by simp) (Sat.gd (inR_t (by omega) (by omega)) (Sat.gd (inR_t (by omega) (by omega)) (sov (zEu _ _ hf hf) (Sat.no (by simp) (.some ⟨hlt, rfl⟩))))))))
    · obtain rfl : k = w.net.length := by omega
      unfold zB1
      simp only [nI_eq]
      exact Sat.no (decide_eq_false (by omega)) (.some trivial)
  rintro (r | r) hr
  case inr => exact hr.elim
  exact .some rfl
end
end Go.Proofs.YtjffopopheiinaaGreat
end
section
namespace Go.Proofs.YtjffopopheiinaaGreat
open Go.RowKit
set_option linter.unusedSimpArgs false
set_option linter.unusedVariables false
set_option maxRecDepth 100000

section
def rowN (ls : List Lk) (N k : Nat) : List Ls := (List.range k).map fun i : Nat => (⟨i, 1, endsOf ls N i⟩ : Ls)
theorem rowN_succ (ls : List Lk) (N k : Nat) : rowN ls N (k + 1) = rowN ls N k ++ [⟨(k : Nat), 1, endsOf ls N (k : Nat)⟩] := by
  unfold rowN
  rw [List.range_succ, List.map_append]; rfl
theorem rowN_len (ls : List Lk) (N k : Nat) : (rowN ls N k).length = k := by simp [rowN]
theorem rep_succ {α : Type} (k : Nat) (a : α) : List.replicate (k + 1) a = List.replicate k a ++ [a] := List.replicate_succ'
noncomputable def newV (n : Int) (ls : List Lk) : Wd := if gv n ls = true then newW n ls else zW
theorem new_okI {n : Int} {ls : List Lk} (g : GV n ls) : WV (newW n ls) Nob := by
  have h1 := g.1
  obtain ⟨N, rfl⟩ := Int.eq_ofNat_of_zero_le (show 0 ≤ n by omega)
  exact new_ok g
theorem rowN_sm {N k : Nat} (ls : List Lk) (h8 : N ≤ 8) (hk : k ≤ 8) : SmD (rowN ls N k) := by
  refine ⟨by have := rowN_len ls N k; unfold Sm; omega, fun l hl => ?_⟩
  unfold rowN at hl
  obtain ⟨i, hi, rfl⟩ := List.mem_map.1 hl
  have := endsOf_len (ls := ls) (N := N) (i : Int)
  unfold Sm; dsimp only; omega
theorem zEm (n : Int) (ls : List Lk) (hl : Fits ls) : zKE (n, ls, ()) = some (wk7 (gv n ls) (newV n ls)) := by
  unfold zKE newV
  dsimp only
  rw [zEk n ls hl]
  cases hg : gv n ls with
  | false => exact Sat.out (sov rfl (Sat.gd rfl (.some rfl)))
  | true =>
    have g := gv_t hg
    have h1 := g.1
    have h8 := g.2.1
    have h14 := g.2.2.1
    obtain ⟨N, rfl⟩ := Int.eq_ofNat_of_zero_le (show 0 ≤ n by omega)
    refine Sat.out (sov rfl (Sat.no rfl (sov (zDN _ ls (by omega)) ?_)))
    dsimp only
    rw [if_pos rfl]
    refine Sat.bnd (R := fun r => match r with | .inl x => x = ((N : Int), ls, 0, [], [], [], [], [], rowN ls N N, (N : Int), ls, [], List.replicate N (1 : Int), [], [], ()) | .inr _ => False) ?_ ?_
    · refine Sat.count N (fun k t => t = ((k : Int), (N : Int), ls, 0, [], [], [], [], [], rowN ls N k, (N : Int), ls, [], List.replicate k (1 : Int), [], [], ())) ?_ (Nat.zero_le _) (fuel_lt (by omega)) rfl
      rintro k t hk rfl
      have hrl := rowN_len ls N k
      by_cases hlt : k < N
      · simp (disch := omega) only [zCc, zDK g, Option.bind_some, w64]
        refine Sat.gd (decide_eq_true (by omega)) (Sat.gd (decide_eq_true (by simp only [List.length_singleton]; omega)) (Sat.gd (decide_eq_true (by simp only [List.length_singleton, List.length_replicate]; omega)) (.some ⟨hlt, ?_⟩)))
        rw [rowN_succ, rep_succ k (1 : Int)]; rfl
      · obtain rfl : k = N := by omega
        unfold zCc
        exact Sat.no (decide_eq_false (by first | omega | (dsimp only; omega))) (.some rfl)
    rintro (r | r) hr
    case inr => exact hr.elim
    obtain rfl := hr
    dsimp only
    refine Sat.bnd (R := fun r => match r with | .inl x => x = ((N : Int), ls, 0, [], [], [], [], [], (N : Int), ls, [], List.replicate N (1 : Int), List.replicate N (rowN ls N N), [], ()) | .inr _ => False) ?_ ?_
    · refine Sat.count N (fun k t => t = ((k : Int), (N : Int), ls, 0, [], [], [], [], [], rowN ls N N, (N : Int), ls, [], List.replicate N (1 : Int), List.replicate k (rowN ls N N), [], ())) ?_ (Nat.zero_le _) (fuel_lt (by omega)) rfl
      rintro k t hk rfl
      by_cases hlt : k < N
      · simp (disch := omega) only [zCa, zDH _ (rowN_sm ls (show N ≤ 8 by omega) (show N ≤ 8 by omega)), Option.bind_some, w64]
        refine Sat.gd (decide_eq_true (by omega)) (Sat.gd (decide_eq_true (by simp only [List.length_singleton, List.length_replicate]; omega)) (.some ⟨hlt, ?_⟩))
        rw [rep_succ k (rowN ls N N)]; rfl
      · obtain rfl : k = N := by omega
        unfold zCa
        exact Sat.no (decide_eq_false (by first | omega | (dsimp only; omega))) (.some rfl)
    rintro (r | r) hr
    case inr => exact hr.elim
    obtain rfl := hr
    dsimp only
    refine Sat.bnd (R := fun r => match r with | .inl x => x = (0, [], [], [], [], [], (N : Int), ls, List.replicate ls.length true, List.replicate N (1 : Int), List.replicate N (rowN ls N N), [], ()) | .inr _ => False) ?_ ?_
    · refine Sat.count ls.length (fun k t => t = ((k : Int), (N : Int), ls, 0, [], [], [], [], [], (N : Int), ls, List.replicate k true, List.replicate N (1 : Int), List.replicate N (rowN ls N N), [], ())) ?_ (Nat.zero_le _) (fuel_lt (by omega)) rfl
      rintro k t hk rfl
      by_cases hlt : k < ls.length
      · simp (disch := omega) only [zCb, w64, nI_eq]
        refine Sat.gd (decide_eq_true (by omega)) (Sat.gd (decide_eq_true (by simp only [List.length_singleton, List.length_replicate]; omega)) (.some ⟨hlt, ?_⟩))
        rw [rep_succ k true]; rfl
      · obtain rfl : k = ls.length := by omega
        unfold zCb
        simp only [nI_eq]
        exact Sat.no (decide_eq_false (by first | omega | (dsimp only; omega))) (.some rfl)
    rintro (r | r) hr
    case inr => exact hr.elim
    obtain rfl := hr
    exact .some rfl
end
end Go.Proofs.YtjffopopheiinaaGreat
end
section
namespace Go.Proofs.YtjffopopheiinaaGreat
open Go.RowKit
set_option linter.unusedSimpArgs false
set_option linter.unusedVariables false
set_option maxRecDepth 100000

structure Byt (b : List Int) : Prop where
  len : b.length ≤ 2000
  rng : ∀ i, 0 ≤ iz b i ∧ iz b i ≤ 255
theorem at_u8 (zs : List Int) (i : Nat) : at! .u8 zs i = iz zs i := by
  induction zs generalizing i with
  | nil => rfl
  | cons z r ih => cases i with
    | zero => rfl
    | succ i => exact (ih i).trans (by simp [iz])
theorem tmod_rng {a b : Int} (h : 0 ≤ a) (hb : 0 < b) : 0 ≤ Int.tmod a b ∧ Int.tmod a b < b := ⟨Int.tmod_nonneg _ h, Int.tmod_lt_of_pos _ hb⟩
theorem xor_rng {x y : Int} (h : 0 ≤ x) (h1 : x < 1099511627776) (k : 0 ≤ y) (k1 : y < 1099511627776) : 0 ≤ xorK .i64 x y ∧ xorK .i64 x y < 1099511627776 := by
  obtain ⟨a, rfl⟩ := Int.eq_ofNat_of_zero_le h
  obtain ⟨b, rfl⟩ := Int.eq_ofNat_of_zero_le k
  have e : (BitVec.ofInt 64 (a : Int) ^^^ BitVec.ofInt 64 (b : Int)).toNat = a ^^^ b := by
    rw [BitVec.toNat_xor, BitVec.toNat_ofInt, BitVec.toNat_ofInt]
    have e1 : ((a : Int) % ((2 ^ 64 : Nat) : Int)).toNat = a := by omega
    have e2 : ((b : Int) % ((2 ^ 64 : Nat) : Int)).toNat = b := by omega
    rw [e1, e2]
  have hlt : a ^^^ b < 2 ^ 40 := Nat.xor_lt_two_pow (by omega) (by omega)
  unfold xorK
  rw [show IntKind.bits .i64 = 64 from rfl, e, wI (by omega) (by omega)]
  omega
theorem pick_ok {b : List Int} {p n : Int} (hB : Byt b) (h0 : 0 ≤ p) (h1 : p ≤ 1000000000) : ∃ x, zK4 (n, b, p, ()) = some (x, b, p + 1, ()) ∧ 0 ≤ x ∧ (1 ≤ n → x < n) ∧ (n < 1 → x = 0) := by
  have hl := hB.len
  have e1 : wrap64 (p + 1) = p + 1 := w64 (by omega) (by omega)
  have e2 : wrap64 (p + 1 - 1) = p := by rw [w64 (by omega) (by omega)]; omega
  unfold zK4
  simp only [e1, e2, nI_eq]
  clear e1 e2
  by_cases hn : n < 1
  · exact ⟨0, by rw [decide_eq_true hn]; rfl, Int.le_refl _, fun h => by omega, fun _ => rfl⟩
  by_cases hb : b.length = 0
  · exact ⟨0, by simp [hn, hb], Int.le_refl _, fun h => by omega, fun h => by omega⟩
  have hb' : ¬ ((b.length : Nat) : Int) = 0 := by omega
  have hn0 : ¬ n = 0 := by omega
  simp only [decide_eq_false hn, decide_eq_false hb', decide_eq_false hn0, Bool.not_false, cond_true, cond_false]
  by_cases hk : p < b.length
  · have r := hB.rng p.toNat
    have ew : wrap64 (at! .u8 b p.toNat) = iz b p.toNat := by rw [at_u8]; exact w64 (by omega) (by omega)
    have := tmod_rng (a := iz b p.toNat) (b := n) r.1 (by omega)
    refine ⟨_, by rw [decide_eq_true hk, inR_t h0 hk]; rfl, ?_⟩
    rw [ew]
    exact ⟨this.1, fun _ => this.2, fun h => by omega⟩
  · have t1 := tmod_rng (a := p) (b := ((b.length : Nat) : Int)) h0 (by omega)
    have ep : wrap64 (wrap64 (p * 7) + 3) = p * 7 + 3 := by rw [w64 (x := p * 7) (by omega) (by omega)]; exact w64 (by omega) (by omega)
    have t2 := tmod_rng (a := p * 7 + 3) (b := ((b.length : Nat) : Int)) (by omega) (by omega)
    have r1 := hB.rng (Int.tmod p b.length).toNat
    have r2 := hB.rng (Int.tmod (p * 7 + 3) b.length).toNat
    simp only [ep, decide_eq_false hk, inR_t t1.1 t1.2, inR_t t2.1 t2.2, cond_true, cond_false, at_u8]
    generalize iz b (Int.tmod p b.length).toNat = u at *
    generalize iz b (Int.tmod (p * 7 + 3) b.length).toNat = v at *
    have hq : 0 ≤ Int.tdiv p b.length ∧ Int.tdiv p b.length ≤ 1000000000 := by
      rw [Int.tdiv_eq_ediv_of_nonneg h0]
      exact ⟨Int.ediv_nonneg h0 (by omega), Int.le_trans (Int.ediv_le_self _ h0) h1⟩
    generalize Int.tdiv p b.length = q at *
    have ex : wrap64 (wrap64 (wrap64 (wrap64 (wrap64 u * 131) + wrap64 (wrap64 v * 1117)) + wrap64 (p * 29)) + wrap64 (wrap64 q * 53)) = u * 131 + v * 1117 + p * 29 + q * 53 := by
      rw [w64 (x := u) (by omega) (by omega), w64 (x := v) (by omega) (by omega), w64 (x := q) (by omega) (by omega), w64 (x := u * 131) (by omega) (by omega), w64 (x := v * 1117) (by omega) (by omega), w64 (x := p * 29) (by omega) (by omega), w64 (x := q * 53) (by omega) (by omega)]
      rw [w64 (x := u * 131 + v * 1117) (by omega) (by omega), w64 (x := u * 131 + v * 1117 + p * 29) (by omega) (by omega), w64 (by omega) (by omega)]
    simp only [ex]
    clear ex ep
    have hx : 0 ≤ u * 131 + v * 1117 + p * 29 + q * 53 ∧ u * 131 + v * 1117 + p * 29 + q * 53 < 1099511627776 := by omega
    generalize u * 131 + v * 1117 + p * 29 + q * 53 = x at *
    have hd : 0 ≤ Int.tdiv x 64 ∧ Int.tdiv x 64 < 1099511627776 := by
      rw [Int.tdiv_eq_ediv_of_nonneg hx.1]
      omega
    have ed : wrap64 (Int.tdiv x 64) = Int.tdiv x 64 := w64 (by omega) (by omega)
    have hxr := xor_rng hx.1 hx.2 hd.1 hd.2
    have := tmod_rng (a := xorK .i64 x (Int.tdiv x 64)) (b := n) hxr.1 (by omega)
    rw [ed]
    exact ⟨_, rfl, this.1, fun _ => this.2, fun h => by omega⟩
theorem Sat.pick {β : Type} {b : List Int} {p n : Int} {f : Int × List Int × Int × Unit → Option β} {Q : β → Prop} (hB : Byt b) (h0 : 0 ≤ p) (h1 : p ≤ 1000000000) (k : ∀ x, 0 ≤ x → (1 ≤ n → x < n) → (n < 1 → x = 0) → Sat (f (x, b, p + 1, ())) Q) : Sat ((zK4 (n, b, p, ())).bind f) Q := by
  obtain ⟨x, e, q1, q2, q3⟩ := pick_ok (n := n) hB h0 h1
  rw [e]
  exact k x q1 q2 q3
structure Drw (n a m : Int) (l : List Lk) : Prop where
  pw : l.Pairwise lxl
  ok : ∀ x ∈ l, okL n x
  lt : ∀ x ∈ l, x.a < a ∨ x.a = a ∧ x.b < m
  len : l.length ≤ 14
theorem Drw.skip {n a m : Int} {l : List Lk} (h : Drw n a m l) : Drw n a (m + 1) l := ⟨h.pw, h.ok, fun x hx => by have := h.lt x hx; omega, h.len⟩
theorem Drw.app {n a m c : Int} {l : List Lk} (h : Drw n a m l) (h0 : 0 ≤ a) (h1 : a < m) (h2 : m < n) (hc : 1 ≤ c ∧ c ≤ 20) (hl : l.length < 14) : Drw n a (m + 1) (l ++ [⟨a, m, c⟩]) := by
  refine ⟨?_, fun x hx => ?_, fun x hx => ?_, by simp; omega⟩
  · rw [List.pairwise_append]
    refine ⟨h.pw, by simp, fun x hx y hy => ?_⟩
    obtain rfl := List.mem_singleton.1 hy
    have := h.lt x hx
    unfold lxl
    exact this
  · rcases List.mem_append.1 hx with hx | hx
    · exact h.ok x hx
    · obtain rfl := List.mem_singleton.1 hx
      exact ⟨h0, h1, h2, hc.1, hc.2⟩
  · rcases List.mem_append.1 hx with hx | hx
    · have := h.lt x hx
      omega
    · obtain rfl := List.mem_singleton.1 hx
      dsimp only
      omega
theorem Drw.row {n a m m' : Int} {l : List Lk} (h : Drw n a m l) : Drw n (a + 1) m' l := ⟨h.pw, h.ok, fun x hx => by have := h.lt x hx; omega, h.len⟩
theorem Drw.gv {n a m : Int} {l : List Lk} (h : Drw n a m l) (h1 : 1 ≤ n) (h8 : n ≤ 8) : GV n l := gv_pw.2 ⟨h1, h8, h.len, h.ok, h.pw⟩
theorem cost_ok {x y z : Int} (h1 : 0 ≤ x) (h2 : x < 3) (h3 : 0 ≤ y) (h4 : y < 4) (h5 : 0 ≤ z) (h6 : z < 8) : 1 ≤ wrap64 (wrap64 (1 + x) + wrap64 (wrap64 (Int.tdiv y 3) * z)) ∧ wrap64 (wrap64 (1 + x) + wrap64 (wrap64 (Int.tdiv y 3) * z)) ≤ 20 := by
  rw [Int.tdiv_eq_ediv_of_nonneg h3]
  rcases (show y / 3 = 0 ∨ y / 3 = 1 by omega) with e | e <;> rw [e]
  · rw [w64 (x := 1 + x) (by omega) (by omega), show wrap64 (wrap64 0 * z) = 0 by rw [w64 (x := 0) (by omega) (by omega), Int.zero_mul, w64 (by omega) (by omega)], w64 (by omega) (by omega)]
    omega
  · rw [w64 (x := 1 + x) (by omega) (by omega), show wrap64 (wrap64 1 * z) = z by rw [w64 (x := 1) (by omega) (by omega), Int.one_mul, w64 (by omega) (by omega)], w64 (by omega) (by omega)]
    omega
end Go.Proofs.YtjffopopheiinaaGreat

namespace Go.Proofs.YtjffopopheiinaaGreat
open Go.RowKit
set_option linter.unusedSimpArgs false
set_option linter.unusedVariables false
set_option maxRecDepth 100000

set_option maxHeartbeats 2000000 in
theorem d_inner {b : List Int} (hB : Byt b) {d a n p : Int} (ha : 0 ≤ a) (han : a < n) (hn : n ≤ 8) (x5 : Int) (x6 : List Lk) {l : List Lk} (hl : Drw n a (a + 1) l) (h0 : 0 ≤ p) (h1 : p ≤ 100000000) : Sat (lp zCE fuel (d, a, wrap64 (a + 1), b, p, x5, x6, n, l, ())) fun r => match r with
      | .inl x => ∃ p' l', x = (d, a, b, p', x5, x6, n, l', ()) ∧ p ≤ p' ∧ p' ≤ p + 5 * 8 ∧ Drw n (a + 1) (a + 2) l'
      | .inr _ => False := by
  refine Sat.count (n - 1 - a).toNat (fun k s => ∃ p' l', s = (d, a, a + 1 + (k : Int), b, p', x5, x6, n, l', ()) ∧ p ≤ p' ∧ p' ≤ p + 5 * k ∧ Drw n a (a + 1 + (k : Int)) l') ?_ (Nat.zero_le _) (fuel_lt (by omega)) ⟨p, l, by rw [w64 (by omega) (by omega)]; simp, by omega, by omega, by simpa using hl⟩
  rintro k s hk ⟨p', l', rfl, hp1, hp2, hD⟩
  have hlen := hD.len
  simp (disch := omega) only [zCE, w64, nI_eq, List.length_singleton]
  repeat' (first
    | refine Sat.some ?_
    | (refine Sat.pick hB (by omega) (by omega) (fun x _ _ _ => ?_) <;> dsimp only) | (refine Sat.gd (decide_eq_true (by omega)) ?_)
    | (refine Sat.gd (by first | exact inR_t (by omega) (by omega) | (simp (disch := omega) only [w64]; exact inR_t (by omega) (by omega))) ?_)
    | (refine Sat.ite (fun h => ?_) (fun h => ?_) <;> try simp only [decide_eq_true_eq, decide_eq_false_iff_not, Bool.not_eq_true', Bool.not_eq_false', inB_i, inB_j, Bool.and_eq_true, Bool.or_eq_true, Bool.and_eq_false_iff, Bool.or_eq_false_iff, El] at h))
  all_goals try dsimp only
  all_goals first
    | exact ⟨by omega, _, _, by rw [show a + 1 + (k : Int) + 1 = a + 1 + ((k + 1 : Nat) : Int) by omega], by omega, by omega, by rw [show a + 1 + ((k + 1 : Nat) : Int) = a + 1 + (k : Int) + 1 by omega]; exact hD.skip⟩
    | exact ⟨by omega, _, _, by rw [show a + 1 + (k : Int) + 1 = a + 1 + ((k + 1 : Nat) : Int) by omega], by omega, by omega, by rw [show a + 1 + ((k + 1 : Nat) : Int) = a + 1 + (k : Int) + 1 by omega]; exact hD.app ha (by omega) (by omega) (cost_ok (by assumption) (by omega) (by assumption) (by omega) (by assumption) (by omega)) (by omega)⟩
    | exact ⟨_, _, rfl, hp1, by omega, hD.row⟩
theorem d_outer {b : List Int} (hB : Byt b) {d n p : Int} (hn0 : 0 ≤ n) (hn : n ≤ 8) (x5 : Int) (x6 : List Lk) (h0 : 0 ≤ p) (h1 : p ≤ 90000000) : Sat (lp zCD fuel (d, 0, b, p, x5, x6, n, [], ())) fun r => match r with
      | .inl x => ∃ p' l', x = (b, p', x5, x6, n, l', ()) ∧ p ≤ p' ∧ p' ≤ p + 40 * 8 ∧ Drw n n (n + 1) l'
      | .inr _ => False := by
  refine Sat.count n.toNat (fun k s => ∃ p' l', s = (d, (k : Int), b, p', x5, x6, n, l', ()) ∧ p ≤ p' ∧ p' ≤ p + 40 * k ∧ Drw n k ((k : Int) + 1) l') ?_ (Nat.zero_le _) (fuel_lt (by omega)) ⟨p, [], rfl, by omega, by omega, ⟨by simp, by simp, by simp, by simp⟩⟩
  rintro k s hk ⟨p', l', rfl, hp1, hp2, hD⟩
  unfold zCD
  dsimp only
  refine Sat.ite (fun hlt => ?_) (fun hlt => ?_)
  · have hlt := of_decide_eq_true hlt
    refine Sat.bnd (d_inner hB (by omega) hlt hn x5 x6 hD (by omega) (by omega)) ?_
    rintro (r | r) hr
    case inr => exact hr.elim
    obtain ⟨p'', l'', rfl, q1, q2, hD'⟩ := hr
    refine .some ⟨by omega, p'', l'', ?_, by omega, by omega, hD'⟩
    dsimp only
    rw [w64 (by omega) (by omega)]
    rfl
  · have hlt := of_decide_eq_false hlt
    have e : (k : Int) = n := by omega
    rw [e] at hD
    exact .some ⟨p', l', rfl, hp1, by omega, hD⟩
def DG (b : List Int) (p : Int) (r : Int × List Int × Int × List Lk × Unit) : Prop := ∃ n p' ls, r = (n, b, p', ls, ()) ∧ p ≤ p' ∧ p' ≤ p + 400 ∧ GV n ls
theorem gv_one : GV 1 [] := ⟨by omega, by omega, by simp, fun i hi => by simp at hi⟩
theorem d_Graph {b : List Int} (hB : Byt b) {p : Int} (h0 : 0 ≤ p) (h1 : p ≤ 80000000) : Sat (zK6 (b, p, ())) (DG b p) := by
  unfold zK6
  dsimp only
  refine Sat.pick hB (by omega) (by omega) (fun x1 _ q1 _ => ?_)
  dsimp only
  refine Sat.pick hB (by omega) (by omega) (fun x2 _ q2 _ => ?_)
  dsimp only
  refine Sat.ite (fun _ => ?_) (fun _ => ?_)
  · refine Sat.pick hB (by omega) (by omega) (fun x3 _ q3 _ => ?_)
    dsimp only
    refine Sat.pick hB (by omega) (by omega) (fun x4 _ _ _ => ?_)
    dsimp only
    rw [w64 (x := 4 + x3) (by omega) (by omega)]
    refine Sat.bnd (d_outer hB (by omega) (by omega) 0 [] (by omega) (by omega)) ?_
    rintro (r | r) hr
    case inr => exact hr.elim
    obtain ⟨p', l', rfl, q5, q6, hD⟩ := hr
    dsimp only
    refine Sat.pick hB (by omega) (by omega) (fun x5 _ _ _ => ?_)
    dsimp only
    refine Sat.ite (fun _ => ?_) (fun _ => ?_)
    · exact .some ⟨_, _, _, rfl, by omega, by omega, gv_one⟩
    · exact .some ⟨_, _, _, rfl, by omega, by omega, hD.gv (by omega) (by omega)⟩
  · refine Sat.pick hB (by omega) (by omega) (fun x3 _ q3 _ => ?_)
    dsimp only
    rw [w64 (x := 2 + x1) (by omega) (by omega)]
    refine Sat.bnd (d_outer hB (by omega) (by omega) 0 [] (by omega) (by omega)) ?_
    rintro (r | r) hr
    case inr => exact hr.elim
    obtain ⟨p', l', rfl, q5, q6, hD⟩ := hr
    dsimp only
    refine Sat.pick hB (by omega) (by omega) (fun x5 _ _ _ => ?_)
    dsimp only
    refine Sat.ite (fun _ => ?_) (fun _ => ?_)
    · exact .some ⟨_, _, _, rfl, by omega, by omega, gv_one⟩
    · exact .some ⟨_, _, _, rfl, by omega, by omega, hD.gv (by omega) (by omega)⟩
def DS (b : List Int) (p : Int) (r : Int × List Int × Int × List Lk × Unit) : Prop := ∃ n p' ls, r = (n, b, p', ls, ()) ∧ p ≤ p' ∧ p' ≤ p + 500 ∧ 0 ≤ n ∧ n ≤ 9 ∧ ls.length ≤ 15
theorem d_Spoilt {b : List Int} (hB : Byt b) {p : Int} (h0 : 0 ≤ p) (h1 : p ≤ 80000000) : Sat (zK8 (b, p, ())) (DS b p) := by
  unfold zK8
  dsimp only
  refine Sat.bnd (d_Graph hB h0 h1) ?_
  rintro _ ⟨n, p', ls, rfl, g1, g2, hG⟩
  have h14 := hG.2.2.1
  have hn1 := hG.1
  have hn8 := hG.2.1
  dsimp only
  simp only [nI_eq]
  refine Sat.ite (fun _ => .some ⟨_, _, _, rfl, by omega, by omega, by omega, by omega, by omega⟩) (fun hne => ?_)
  have hne := of_decide_eq_false hne
  refine Sat.pick hB (by omega) (by omega) (fun k hk0 hk _ => ?_)
  dsimp only
  refine Sat.pick hB (by omega) (by omega) (fun x2 _ _ _ => ?_)
  dsimp only
  refine Sat.ite (fun _ => ?_) (fun _ => Sat.ite (fun _ => ?_) (fun _ => Sat.ite (fun _ => ?_) (fun _ => Sat.ite (fun _ => ?_) (fun _ => ?_))))
  · unfold zCG
    dsimp only
    refine Sat.bnd (R := fun r => match r with | .inl x => ∃ p'' l', x = (b, p'', 0, [], n, l', ()) ∧ l'.length = ls.length ∧ p'' = p' + 1 + 1 + 1 | .inr _ => False) ?_ ?_
    · refine Sat.pick hB (by omega) (by omega) (fun x3 _ _ _ => ?_)
      dsimp only
      refine Sat.gd (inR_t (by omega) (by simp; omega)) (Sat.gd (inR_t (by omega) (by omega)) (.some ⟨_, _, rfl, by simp, rfl⟩))
    · rintro (r | r) hr
      case inr => exact hr.elim
      obtain ⟨p'', l', rfl, e1, e2⟩ := hr
      exact .some ⟨n, p'', l', rfl, by omega, by omega, by omega, by omega, by omega⟩
  · refine Sat.pick hB (by omega) (by omega) (fun x3 _ _ _ => ?_)
    dsimp only
    exact Sat.gd (inR_t (by omega) (by omega)) (.some ⟨_, _, _, rfl, by omega, by omega, by omega, by omega, by simp; omega⟩)
  · refine Sat.pick hB (by omega) (by omega) (fun x3 _ _ _ => ?_)
    dsimp only
    exact .some ⟨_, _, _, rfl, by omega, by omega, by omega, by omega, by omega⟩
  · exact Sat.gd (inR_t (by omega) (by omega)) (Sat.gd (decide_eq_true (by simp; omega)) (.some ⟨_, _, _, rfl, by omega, by omega, by omega, by omega, by simp; omega⟩))
  · exact .some ⟨_, _, _, rfl, by omega, by omega, by omega, by omega, by omega⟩
end Go.Proofs.YtjffopopheiinaaGreat

namespace Go.Proofs.YtjffopopheiinaaGreat
open Go.RowKit
set_option linter.unusedSimpArgs false
set_option linter.unusedVariables false
set_option maxRecDepth 100000

theorem byt_open {c : List Int} (h : ∀ z ∈ c, 0 ≤ z ∧ z < 256) (hl : Fits c) : ∃ b, zK3 (c, ()) = some (b, 0, ()) ∧ Byt b := by
  unfold zK3
  dsimp only
  have rng : ∀ l : List Int, (∀ z ∈ l, 0 ≤ z ∧ z < 256) → ∀ i, 0 ≤ iz l i ∧ iz l i ≤ 255 := fun l hl i => by
    rcases Nat.lt_or_ge i l.length with hi | hi
    · have := hl (iz l i) (List.mem_of_getElem? (iz_get hi))
      omega
    · unfold iz
      rw [List.getD, List.getElem?_eq_none hi]
      simp
  by_cases h2 : c.length ≤ 2000
  · refine ⟨c, ?_, h2, rng c h⟩
    rw [nI_eq, decide_eq_false (show ¬ (2000 : Int) < c.length by omega)]
    rfl
  · refine ⟨c.take 2000, ?_, by simp; omega, rng _ fun z hz => h z (List.mem_of_mem_take hz)⟩
    rw [nI_eq, decide_eq_true (show (2000 : Int) < c.length by omega), bnd2_t (by omega) (by omega) (by omega)]
    rfl
def Cod (c : List Int) : Prop := (∀ z ∈ c, 0 ≤ z ∧ z < 256) ∧ Fits c
end Go.Proofs.YtjffopopheiinaaGreat
end
section
namespace Go.Proofs.YtjffopopheiinaaGreat
open Go.RowKit
set_option linter.unusedSimpArgs false
set_option linter.unusedVariables false
set_option maxRecDepth 100000

theorem cod_ofW {c : List Int} (hz : ∀ z ∈ c, 0 ≤ z ∧ z < 256) (h : decide ((1048576 : Int) < nI c.length) = false) : Cod c := ⟨hz, by have := of_decide_eq_false h; rw [nI_eq] at this; unfold Fits; omega⟩
set_option maxHeartbeats 1000000 in
theorem d_Event {b : List Int} (hB : Byt b) (w : Wd) {p : Int} (h0 : 0 ≤ p) (h1 : p ≤ 90000000) : Sat (zK9 (w.n, w.ls, w.up, w.sq, w.db, w.net, b, p, ())) fun r => ∃ k a p', r = (k, a, b, p', ()) ∧ p ≤ p' ∧ p' ≤ p + 6 := by
  unfold zK9
  dsimp only
  refine Sat.pick hB (by omega) (by omega) (fun x1 _ _ _ => ?_)
  dsimp only
  refine Sat.pick hB (by omega) (by omega) (fun x2 _ _ _ => ?_)
  dsimp only
  refine Sat.pick hB (by omega) (by omega) (fun x3 _ _ _ => ?_)
  dsimp only
  repeat' first
    | exact .some ⟨_, _, _, rfl, by omega, by omega⟩
    | (refine Sat.pick hB (by omega) (by omega) (fun x _ _ _ => ?_); dsimp only)
    | (refine Sat.ite (fun _ => ?_) (fun _ => ?_))
theorem d_World {b : List Int} (hB : Byt b) {p : Int} (h0 : 0 ≤ p) (h1 : p ≤ 70000000) : Sat (zLa (b, p, ())) fun r => ∃ (W : Wd) (p' : Int), r = (W.n, W.ls, W.up, W.sq, W.db, W.net, b, p', ()) ∧ p ≤ p' ∧ p' ≤ p + 1000 ∧ WV W Nob := by
  unfold zLa
  dsimp only
  refine Sat.bnd (d_Graph hB h0 (by omega)) ?_
  rintro _ ⟨n, p1, ls, rfl, u1, u2, g⟩
  dsimp only
  have h14 := g.2.2.1
  refine sov (zEm n ls (show Fits ls by unfold Fits; omega)) ?_
  have hg : gv n ls = true := decide_eq_true g
  have v := new_okI g
  dsimp only [wk7]
  unfold newV
  rw [if_pos hg]
  refine Sat.pick hB (by omega) (by omega) (fun x q0 q1 _ => ?_)
  have q1 := q1 (by omega)
  dsimp only
  refine Sat.bnd (R := fun r => match r with | .inl x => ∃ (W : Wd) (p' : Int), x = (b, p', 0, [], [], [], [], [], wt W) ∧ p1 + 1 ≤ p' ∧ p' ≤ p1 + 400 ∧ WV W Nob | .inr _ => False) ?_ ?_
  · refine Sat.count x.toNat (fun k t => ∃ (W : Wd) (p' : Int), t = (x, (k : Int), b, p', 0, [], [], [], [], [], wt W) ∧ p1 + 1 ≤ p' ∧ p' ≤ p1 + 1 + 6 * k ∧ WV W Nob) ?_ (Nat.zero_le _) (fuel_lt (by omega)) ⟨newW n ls, p1 + 1, rfl, by omega, by omega, v⟩
    rintro k t hk ⟨W, p', rfl, g1, g2, hW⟩
    unfold zCH
    dsimp only [wt]
    refine Sat.ite (fun hc => ?_) (fun hc => .some ⟨W, p', rfl, by omega, by omega, hW⟩)
    have hc := of_decide_eq_true hc
    refine Sat.bnd (d_Event hB W (by omega) (by omega)) ?_
    rintro _ ⟨kd, a, p2, rfl, u3, u4⟩
    dsimp only
    simp (disch := omega) only [w64]
    exact sov (zDT hW kd a) (.some ⟨by omega, doW W kd a, p2, rfl, by omega, by omega, do_ok hW kd a⟩)
  · rintro (r | r) hr
    case inr => exact hr.elim
    obtain ⟨W, p', rfl, g1, g2, hW⟩ := hr
    exact .some ⟨W, p', rfl, by omega, by omega, hW⟩
theorem d_Lsa {b : List Int} (hB : Byt b) {p : Int} (h0 : 0 ≤ p) (h1 : p ≤ 90000000) : Sat (zK7 (b, p, ())) fun r => ∃ (o s p' : Int) (es : List En), r = (o, s, b, p', es, ()) ∧ p ≤ p' ∧ p' ≤ p + 30 ∧ es.length ≤ 8 := by
  unfold zK7
  dsimp only
  refine Sat.pick hB (by omega) (by omega) (fun x1 _ _ _ => ?_)
  dsimp only
  refine Sat.pick hB (by omega) (by omega) (fun x2 _ _ _ => ?_)
  dsimp only
  refine Sat.bnd (R := fun r => match r with | .inl x => ∃ (p' o s : Int) (es : List En), x = (b, p', 0, 0, [], o, s, es, ()) ∧ p ≤ p' ∧ p' ≤ p + 20 ∧ es.length ≤ 6 | .inr _ => False) ?_ ?_
  · refine Sat.count 6 (fun k t => ∃ (p' o s : Int) (es : List En), t = ((k : Int), b, p', 0, 0, [], o, s, es, ()) ∧ p ≤ p' ∧ p' ≤ p + 2 + 2 * k ∧ es.length ≤ k) ?_ (Nat.zero_le _) (fuel_lt (by omega)) ⟨_, _, _, [], rfl, by omega, by omega, by simp⟩
    rintro k t hk ⟨p', o, s, es, rfl, g1, g2, g3⟩
    unfold zCF
    dsimp only
    simp (disch := omega) only [w64, List.length_singleton]
    refine Sat.ite (fun hc => ?_) (fun hc => .some ⟨p', o, s, es, rfl, by omega, by omega, by omega⟩)
    have hc := of_decide_eq_true hc
    repeat' first
      | exact .some ⟨by omega, _, _, _, _, rfl, by omega, by omega, by (try simp only [List.length_append, List.length_singleton]); omega⟩
      | (refine Sat.pick hB (by omega) (by omega) (fun x _ _ _ => ?_); dsimp only)
      | (refine Sat.gd (decide_eq_true (by omega)) ?_)
      | (refine Sat.ite (fun _ => ?_) (fun _ => ?_))
  · rintro (r | r) hr
    case inr => exact hr.elim
    obtain ⟨p', o, s, es, rfl, g1, g2, g3⟩ := hr
    dsimp only
    simp only [List.length_singleton]
    refine Sat.pick hB (by omega) (by omega) (fun x _ _ _ => ?_)
    dsimp only
    refine Sat.ite (fun _ => ?_) (fun _ => ?_)
    · refine Sat.pick hB (by omega) (by omega) (fun y y0 y1 _ => ?_)
      have y1 := y1 (by omega)
      dsimp only
      exact Sat.gd (inR_t (by omega) (by simp; omega)) (.some ⟨_, _, _, _, rfl, by omega, by omega, by omega⟩)
    repeat' first
      | exact .some ⟨_, _, _, _, rfl, by omega, by omega, by (try simp only [List.length_append, List.length_singleton]); omega⟩
      | (refine Sat.pick hB (by omega) (by omega) (fun x _ _ _ => ?_); dsimp only)
      | (refine Sat.gd (decide_eq_true (by omega)) ?_)
      | (refine Sat.ite (fun _ => ?_) (fun _ => ?_))
theorem DbPut_sm (db : List Ls) (l : Ls) (h : SmD db) (hl : Sm l.e) (hn : db.length ≤ 1000) : Sat (zKy (db, l.o, l.s, l.e, ())) fun r => SmD r.2.1 ∧ r.2.1.length ≤ db.length + 1 := by
  rw [zCJ db l h hl]
  refine .some ?_
  split
  · exact h.put hl (by omega)
  · exact ⟨⟨by unfold Sm; simp, fun l hl => by simp at hl⟩, by simp⟩
theorem d_Db {b : List Int} (hB : Byt b) {p : Int} (h0 : 0 ≤ p) (h1 : p ≤ 80000000) : Sat (zK5 (b, p, ())) fun r => ∃ (p' : Int) (d : List Ls), r = (b, p', d, ()) ∧ p ≤ p' ∧ p' ≤ p + 400 ∧ SmD d := by
  unfold zK5
  dsimp only
  refine Sat.pick hB (by omega) (by omega) (fun x x0 x1 _ => ?_)
  have x1 := x1 (by omega)
  dsimp only
  refine Sat.bnd (R := fun r => match r with | .inl y => ∃ (p' : Int) (d : List Ls), y = (b, p', d, ()) ∧ p ≤ p' ∧ p' ≤ p + 300 ∧ SmD d ∧ d.length ≤ 8 | .inr _ => False) ?_ ?_
  · refine Sat.count x.toNat (fun k t => ∃ (p' : Int) (d : List Ls), t = (x, (k : Int), b, p', d, ()) ∧ p ≤ p' ∧ p' ≤ p + 1 + 30 * k ∧ SmD d ∧ d.length ≤ k) ?_ (Nat.zero_le _) (fuel_lt (by omega)) ⟨_, [], rfl, by omega, by omega, ⟨by unfold Sm; simp, fun l hl => by simp at hl⟩, by simp⟩
    rintro k t hk ⟨p', d, rfl, g1, g2, g3, g4⟩
    unfold zCC
    dsimp only
    simp (disch := omega) only [w64]
    refine Sat.ite (fun hc => ?_) (fun hc => .some ⟨p', d, rfl, by omega, by omega, g3, by omega⟩)
    have hc := of_decide_eq_true hc
    refine Sat.bnd (d_Lsa hB (by omega) (by omega)) ?_
    rintro _ ⟨o, s, p2, es, rfl, u1, u2, u3⟩
    dsimp only
    refine Sat.bnd (DbPut_sm d ⟨o, s, es⟩ g3 (by unfold Sm; dsimp only; omega) (by omega)) ?_
    rintro r ⟨r1, r2⟩
    refine Sat.ite (fun _ => .some ⟨by omega, _, _, rfl, by omega, by omega, r1, by omega⟩) (fun _ => .some ⟨by omega, _, _, rfl, by omega, by omega, g3, by omega⟩)
  · rintro (r | r) hr
    case inr => exact hr.elim
    obtain ⟨p', d, rfl, g1, g2, g3, g4⟩ := hr
    dsimp only
    refine Sat.pick hB (by omega) (by omega) (fun y _ _ _ => ?_)
    dsimp only
    refine Sat.ite (fun _ => ?_) (fun _ => .some ⟨_, _, rfl, by omega, by omega, g3⟩)
    refine Sat.bnd (d_Lsa hB (by omega) (by omega)) ?_
    rintro _ ⟨o, s, p2, es, rfl, u1, u2, u3⟩
    dsimp only
    refine Sat.gd (decide_eq_true (by simp only [List.length_singleton]; omega)) (.some ⟨_, _, rfl, by omega, by omega, ?_⟩)
    refine ⟨by unfold Sm; simp only [List.length_append, List.length_singleton]; omega, fun l hl => ?_⟩
    rcases List.mem_append.1 hl with hl | hl
    · exact g3.2 l hl
    · obtain rfl := List.mem_singleton.1 hl
      unfold Sm; dsimp only; omega
theorem len_set {α : Type} {l : List α} {i n : Nat} {a : α} (h : l.length ≤ n) : (l.set i a).length ≤ n := by rw [List.length_set]; exact h
theorem len_app {α : Type} {l : List α} {n : Nat} {a : α} (h : l.length + 1 ≤ n) : (l ++ [a]).length ≤ n := by rw [List.length_append, List.length_singleton]; exact h
theorem SmW.ls' {w : Wd} (h : SmW w) (n : Int) {ls : List Lk} (hl : ls.length ≤ 2000000) : SmW { w with n := n, ls := ls } := ⟨hl, h.up, h.sq, h.db, h.net, h.dbs, h.pks⟩
theorem SmW.up' {w : Wd} (h : SmW w) {up : List Bool} (hl : up.length ≤ 2000000) : SmW { w with up := up } := ⟨h.ls, hl, h.sq, h.db, h.net, h.dbs, h.pks⟩
theorem SmW.sq' {w : Wd} (h : SmW w) {sq : List Int} (hl : sq.length ≤ 2000000) : SmW { w with sq := sq } := ⟨h.ls, h.up, hl, h.db, h.net, h.dbs, h.pks⟩
theorem SmW.db' {w : Wd} (h : SmW w) {i : Nat} {d : List Ls} (hd : SmD d) : SmW { w with db := w.db.set i d } := by
  refine ⟨h.ls, h.up, h.sq, by show (w.db.set i d).length ≤ 2000000; rw [List.length_set]; exact h.db, h.net, fun j hj => ?_, h.pks⟩
  have hj : j < w.db.length := by simpa using hj
  show SmD (dbx (w.db.set i d) j)
  rcases Nat.lt_or_ge i w.db.length with hi | hi
  · rw [dbx_set hi]
    split
    · exact hd
    · exact h.dbs j hj
  · rw [List.set_eq_of_length_le hi]
    exact h.dbs j hj
theorem SmW.net' {w : Wd} (h : SmW w) (hn : w.net.length ≤ 100) {t : Int} {l : Ls} (hl : Sm l.e) : SmW { w with net := w.net ++ [⟨t, l⟩] } := by
  refine ⟨h.ls, h.up, h.sq, h.db, by show (w.net ++ [_]).length ≤ 2000000; rw [List.length_append, List.length_singleton]; omega, h.dbs, fun j hj => ?_⟩
  have hj : j < w.net.length + 1 := by simpa using hj
  show Sm (pkx (w.net ++ [_]) j).p.e
  rcases Nat.lt_or_ge j w.net.length with hi | hi
  · have : pkx (w.net ++ [⟨t, l⟩]) j = pkx w.net j := by unfold pkx; simp [List.getD, List.getElem?_append_left hi]
    rw [this]; exact h.pks j hi
  · obtain rfl : j = w.net.length := by omega
    have : pkx (w.net ++ [⟨t, l⟩]) w.net.length = ⟨t, l⟩ := by unfold pkx; simp [List.getD]
    rw [this]; exact hl
set_option maxHeartbeats 1000000 in
theorem d_Wrong {b : List Int} (hB : Byt b) {p : Int} (h0 : 0 ≤ p) (h1 : p ≤ 60000000) : Sat (zLb (b, p, ())) fun r => ∃ (W : Wd) (p' : Int), r = (W.n, b, p', W.ls, W.up, W.sq, W.db, W.net, ()) ∧ SmW W ∧ p ≤ p' ∧ p' ≤ p + 5000 := by
  unfold zLb
  dsimp only
  refine Sat.bnd (d_World hB h0 (by omega)) ?_
  rintro _ ⟨W, p1, rfl, u1, u2, v⟩
  dsimp only
  have hS := v.sm
  have hnn := v.nn
  have hsq := v.sq
  have hdb := v.db
  have hnet := v.net
  refine sov (zDS hS) ?_
  dsimp only
  refine Sat.pick hB (by omega) (by omega) (fun nd n0 n1 _ => ?_)
  have n1 := n1 (by omega)
  dsimp only
  refine Sat.pick hB (by omega) (by omega) (fun y _ _ _ => ?_)
  dsimp only
  refine Sat.ite (fun _ => ?_) (fun _ => ?_)
  · refine Sat.bnd (d_Spoilt hB (by omega) (by omega)) ?_
    rintro _ ⟨n, p2, ls, rfl, g1, g2, g3, g4, g5⟩
    exact .some ⟨{ W with n := n, ls := ls }, p2, rfl, hS.ls' n (by omega), by omega, by omega⟩
  refine Sat.ite (fun _ => ?_) (fun _ => ?_)
  · refine Sat.ite (fun hu => ?_) (fun _ => .some ⟨W, _, rfl, hS, by omega, by omega⟩)
    rw [nI_eq] at hu
    have hu := of_decide_eq_true hu
    simp only [nI_eq]
    refine Sat.pick hB (by omega) (by omega) (fun z z0 z1 _ => ?_)
    have z1 := z1 (by omega)
    dsimp only
    exact Sat.gd (inR_t (by omega) (by omega)) (Sat.gd (inR_t (by omega) (by omega)) (.some ⟨{ W with up := _ }, _, rfl, hS.up' (len_set hS.up), by omega, by omega⟩))
  refine Sat.ite (fun _ => ?_) (fun _ => ?_)
  · refine Sat.pick hB (by omega) (by omega) (fun z z0 z1 _ => ?_)
    dsimp only
    exact Sat.gd (inR_t (by omega) (by omega)) (.some ⟨{ W with sq := _ }, _, rfl, hS.sq' (len_set hS.sq), by omega, by omega⟩)
  refine Sat.ite (fun _ => ?_) (fun _ => ?_)
  · refine Sat.bnd (d_Db hB (by omega) (by omega)) ?_
    rintro _ ⟨p2, d, rfl, g1, g2, g3⟩
    dsimp only
    exact Sat.gd (inR_t (by omega) (by omega)) (.some ⟨{ W with db := _ }, _, rfl, hS.db' g3, by omega, by omega⟩)
  refine Sat.ite (fun _ => ?_) (fun _ => ?_)
  · refine Sat.pick hB (by omega) (by omega) (fun z z0 z1 _ => ?_)
    dsimp only
    refine Sat.bnd (d_Lsa hB (by omega) (by omega)) ?_
    rintro _ ⟨o, s, p2, es, rfl, g1, g2, g3⟩
    dsimp only
    exact Sat.gd (decide_eq_true (by simp only [List.length_singleton]; omega)) (.some ⟨{ W with net := _ }, _, rfl, hS.net' (by omega) (by unfold Sm; dsimp only; omega), by omega, by omega⟩)
  refine Sat.ite (fun _ => ?_) (fun _ => ?_)
  · simp only [at_db]
    refine Sat.gd (inR_t (by omega) (by omega)) (Sat.ite (fun hd => ?_) (fun _ => .some ⟨W, _, rfl, hS, by omega, by omega⟩))
    rw [nI_eq] at hd
    have hd := of_decide_eq_true hd
    have hi : nd.toNat < W.db.length := by omega
    have hs := hS.dbs nd.toNat hi
    refine Sat.gd (inR_t (by omega) (by omega)) (Sat.gd (bnd_t (by omega) (by omega) (by omega)) (Sat.gd (inR_t (by omega) (by omega)) (.some ⟨{ W with db := _ }, _, rfl, hS.db' ⟨?_, fun l hl => hs.2 l (List.mem_of_mem_drop (List.mem_of_mem_take hl))⟩, by omega, by omega⟩)))
    have := hs.1
    unfold Sm at this ⊢
    rw [List.length_take, List.length_drop]
    omega
  refine Sat.ite (fun _ => ?_) (fun _ => .some ⟨W, _, rfl, hS, by omega, by omega⟩)
  have := hS.up
  have hup := v.up
  have h14 := v.lsl
  exact Sat.gd (decide_eq_true (by simp only [List.length_singleton]; omega)) (.some ⟨{ W with up := _ }, _, rfl, hS.up' (len_app (by omega)), by omega, by omega⟩)
end Go.Proofs.YtjffopopheiinaaGreat
end
section
namespace Go.Proofs.YtjffopopheiinaaGreat
open Go.RowKit
set_option linter.unusedSimpArgs false
set_option linter.unusedVariables false
set_option maxRecDepth 100000

section
variable {w : Wd}
def seenL (w : Wd) (i : Nat) : List Lk := grid (dbF (dbx w.db i)) w.n.toNat
theorem e_seen (h : WV w Nob) {i : Nat} (hi : i < w.db.length) : zJ1 (w.n, w.ls, w.up, w.sq, w.db, w.net, (i : Int), ()) = some (w.n, seenL w i, ()) := by
  have hd := h.ok i hi
  have hdb := h.db
  have h8 := h.nn
  obtain ⟨N, hN⟩ := Int.eq_ofNat_of_zero_le (show 0 ≤ w.n by omega)
  have hg := seen_gv h hN (i := i) (by omega)
  have hok : dbOk w.n (dbx w.db i) = true := by
    unfold dbOk
    rw [inB_mk (by omega), show dbv (dbx w.db i) = true from decide_eq_true hd, decide_eq_true (by rw [hN, Int.toNat_natCast]; exact hg.2.2.1)]
    rfl
  have hlen := hd.len
  unfold zJ1 zBO
  simp only [toN, at_db]
  refine Sat.out (sov (Sat.out (Sat.gd (inR_t (by omega) (by omega)) (sov (zCI w.n (dbx w.db i) (by omega) hd.sm.fe) (.some rfl)))) ?_)
  rw [hok]
  exact .some rfl
theorem zCQ (h : WV w Nob) {i : Nat} (hi : i < w.db.length) : zJT (w.n, w.ls, w.up, w.sq, w.db, w.net, (i : Int), ()) = some (w.n, seenL w i, ()) := by
  have hdb := h.db
  have h8 := h.nn
  unfold zJT
  refine Sat.out (sov (zCS h.sm) ?_)
  dsimp only
  rw [wv_t.2 h]
  refine Sat.no rfl ?_
  simp (disch := omega) only [w64]
  refine sov (zFm _ _ _) ?_
  dsimp only
  rw [inB_mk (by omega)]
  exact Sat.no rfl (sov (e_seen h hi) (.some rfl))
end
end Go.Proofs.YtjffopopheiinaaGreat
end
section
namespace Go.Proofs.YtjffopopheiinaaGreat
open Go.RowKit
set_option linter.unusedSimpArgs false
set_option linter.unusedVariables false
set_option maxRecDepth 100000

section
variable {w : Wd}
noncomputable def seV (w : Wd) (i : Int) : Int × List Lk := if (wv w && inB i 0 (w.n - 1)) = true then (w.n, seenL w i.toNat) else (0, [])
theorem seV_cases (w : Wd) (i : Int) : (seV w i = (0, []) ∧ (wv w && inB i 0 (w.n - 1)) = false) ∨ ∃ k : Nat, i = k ∧ WV w Nob ∧ k < w.db.length ∧ seV w i = (w.n, seenL w k) := by
  unfold seV
  cases hb : (wv w && inB i 0 (w.n - 1)) with
  | false => exact .inl ⟨rfl, rfl⟩
  | true =>
    simp only [Bool.and_eq_true] at hb
    have v := wv_t.1 hb.1
    have hi := inB_t hb.2
    have hdb := v.db
    obtain ⟨k, rfl⟩ := Int.eq_ofNat_of_zero_le hi.1
    exact .inr ⟨k, rfl, v, by omega, rfl⟩
theorem zCR (h : SmW w) (i : Int) : zJT (w.n, w.ls, w.up, w.sq, w.db, w.net, i, ()) = some ((seV w i).1, (seV w i).2, ()) := by
  rcases seV_cases w i with ⟨e, hb⟩ | ⟨k, rfl, v, hk, e⟩
  · rw [e]
    unfold zJT
    refine Sat.out (sov (zCS h) ?_)
    dsimp only
    cases hv : wv w with
    | false => exact Sat.gd rfl (.some rfl)
    | true =>
      rw [hv, Bool.true_and] at hb
      have h8 := (wv_t.1 hv).nn
      refine Sat.no rfl ?_
      simp (disch := omega) only [w64]
      refine sov (zFm _ _ _) ?_
      dsimp only
      rw [hb]
      exact Sat.gd rfl (.some rfl)
  · rw [e]; exact zCQ v hk
end
end Go.Proofs.YtjffopopheiinaaGreat
end
section
namespace Go.Proofs.YtjffopopheiinaaGreat
open Go.RowKit
set_option linter.unusedSimpArgs false
set_option linter.unusedVariables false
set_option maxRecDepth 100000

section
theorem d_WorldValid {c : List Int} (hc : Cod c) : Sat (zKA (c, ())) fun r => ∃ W : Wd, r = wt W ∧ SmW W := by
  unfold zKA
  obtain ⟨b, e, hB⟩ := byt_open hc.1 hc.2
  refine sov e ?_
  dsimp only
  refine Sat.bnd (d_Wrong hB (by omega) (by omega)) ?_
  rintro _ ⟨W, p', rfl, hW, _, _⟩
  exact .some ⟨W, rfl, hW⟩
theorem law_WorldInvalid {c : List Int} (hz : ∀ z ∈ c, 0 ≤ z ∧ z < 256) : zKf (c, ()) = some (true, ()) := by
  unfold zKf
  dsimp only
  refine Sat.out (Sat.ite (fun _ => .some rfl) (fun hlen => ?_))
  have hc : Cod c := cod_ofW hz hlen
  refine Sat.bnd (d_WorldValid hc) ?_
  rintro _ ⟨W, rfl, hW⟩
  dsimp only [wt]
  refine sov (zCS hW) (sov (zEn hW) ?_)
  dsimp only
  cases hv : wv W with
  | true => exact Sat.no rfl (Sat.gd rfl (.some rfl))
  | false =>
    refine Sat.no rfl (Sat.no rfl ?_)
    have e1 : ∀ k a, doV W k a = zW := fun k a => if_neg (by rw [hv]; simp)
    have e2 : calV W = zW := if_neg (by rw [hv]; simp)
    have e3 : ∀ i, seV W i = (0, []) := fun i => if_neg (by rw [hv]; simp)
    refine sov (zCP hW 0 0) ?_
    rw [e1]
    refine sov (zEv zW_sm) (Sat.gd rfl (sov (zCO hW) ?_))
    rw [e2]
    refine sov (zEv zW_sm) (Sat.gd rfl (sov (zCR hW 0) ?_))
    rw [e3]
    exact .some rfl
end
end Go.Proofs.YtjffopopheiinaaGreat
end
