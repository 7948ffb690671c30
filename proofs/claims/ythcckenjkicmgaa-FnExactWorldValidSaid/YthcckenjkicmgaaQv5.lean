/- Part 5 of the proof: Pe8 Pe9 Pk5. -/
import Derived.Test.YthcckenjkicmgaaQv4
set_option linter.unusedSimpArgs false
set_option linter.unusedVariables false
section
namespace Go.Proofs.Ythcckenjkicmgaa
open Go.RowKit
set_option linter.unusedSimpArgs false
set_option linter.unusedVariables false
set_option maxRecDepth 100000

noncomputable def wv (w : Wd) : Bool := @decide (WV w Nob) (Classical.propDecidable _)
theorem wv_t {w : Wd} : wv w = true ↔ WV w Nob := by unfold wv; simp
theorem wv_f {w : Wd} : wv w = false ↔ ¬ WV w Nob := by unfold wv; simp
def allW (w : Wd) : List Ls := w.db.flatten ++ w.net.map (·.p)
theorem dbx_mem {db : List (List Ls)} {i : Nat} (h : i < db.length) : dbx db i ∈ db := by
  unfold dbx; rw [List.getD, List.getElem?_eq_getElem h]; exact List.getElem_mem h
theorem said_iff {w : Wd} {l : Ls} : Said w l ↔ l ∈ allW w := by
  unfold Said allW
  rw [List.mem_append, List.mem_flatten, List.mem_map]
  constructor
  · rintro (⟨i, hi, h⟩ | ⟨p, hp, rfl⟩)
    · exact .inl ⟨_, dbx_mem hi, h⟩
    · exact .inr ⟨p, hp, rfl⟩
  · rintro (⟨d, hd, h⟩ | ⟨p, hp, rfl⟩)
    · obtain ⟨i, hi, rfl⟩ := List.getElem_of_mem hd
      refine .inl ⟨i, hi, ?_⟩
      unfold dbx; rw [List.getD, List.getElem?_eq_getElem hi]; exact h
    · exact .inr ⟨p, hp, rfl⟩
def NdW (w : Wd) (i : Nat) : Prop := (1 ≤ iz w.sq i ∧ iz w.sq i ≤ 99) ∧ DbV (dbx w.db i)
def OwW (w : Wd) (i : Nat) : Prop := ∃ l ∈ dbx w.db i, l.o = i ∧ l.s = iz w.sq i
def AgW (xs : List Ls) (i : Nat) : Prop := ∀ j, j < i → (lsa xs j).o = (lsa xs i).o → (lsa xs j).s = (lsa xs i).s → lsa xs j = lsa xs i
theorem wv_mk {w : Wd} (g : GV w.n w.ls) (hu : w.up.length = w.ls.length) (hs : (w.sq.length : Int) = w.n) (hd : (w.db.length : Int) = w.n) (hn : w.net.length ≤ 16) (nd : ∀ i, i < w.db.length → NdW w i) (ow : ∀ i, i < w.db.length → OwW w i) (tg : ∀ i, i < w.net.length → 0 ≤ (pkx w.net i).t ∧ (pkx w.net i).t < w.n) (ps : ∀ i, i < (allW w).length → Poss w Nob (lsa (allW w) i)) (ag : ∀ i, i < (allW w).length → AgW (allW w) i) : WV w Nob := by
  have idx : ∀ l, Said w l → ∃ i, i < (allW w).length ∧ lsa (allW w) i = l := fun l hl => by
    obtain ⟨i, hi, rfl⟩ := List.getElem_of_mem (said_iff.1 hl)
    exact ⟨i, hi, lsa_get hi⟩
  refine ⟨g, hu, hs, hd, hn, fun i hi => (nd i (by omega)).1, fun i hi => (nd i hi).2, ow, fun l hl => ?_, fun x y hx hy e1 e2 => ?_, fun p hp => ?_⟩
  · obtain ⟨i, hi, rfl⟩ := idx l hl
    exact ps i hi
  · obtain ⟨i, hi, rfl⟩ := idx x hx
    obtain ⟨j, hj, rfl⟩ := idx y hy
    rcases Nat.lt_trichotomy i j with h | h | h
    · exact ag j hj i h e1 e2
    · rw [h]
    · exact (ag i hi j h e1.symm e2.symm).symm
  · obtain ⟨i, hi, rfl⟩ := List.getElem_of_mem hp
    have := tg i hi
    have e : pkx w.net i = w.net[i] := by simp [pkx, List.getD, hi]
    rwa [e] at this
section
variable {w : Wd}
theorem WV.nd (h : WV w Nob) {i : Nat} (hi : i < w.db.length) : NdW w i := ⟨h.rng i (by have := h.sq; have := h.db; omega), h.ok i hi⟩
theorem WV.ps (h : WV w Nob) {i : Nat} (hi : i < (allW w).length) : Poss w Nob (lsa (allW w) i) := h.poss _ (said_iff.2 (lsa_mem hi))
theorem WV.ag (h : WV w Nob) {i : Nat} (hi : i < (allW w).length) : AgW (allW w) i := fun j hj e1 e2 => h.agr _ _ (said_iff.2 (lsa_mem (by omega))) (said_iff.2 (lsa_mem hi)) e1 e2
theorem flat8 {db : List (List Ls)} {k : Nat} (hk : k ≤ db.length) (h : ∀ i, i < k → (dbx db i).length ≤ 8) : (db.take k).flatten.length ≤ 8 * k := by
  induction k with
  | zero => simp
  | succ k ih =>
    have := ih (by omega) fun i hi => h i (by omega)
    have h2 := h k (by omega)
    rw [← take_dbx (by omega), List.flatten_append, List.length_append, List.flatten_singleton]
    omega
theorem flat_succ {db : List (List Ls)} {k : Nat} (hk : k < db.length) : (db.take (k + 1)).flatten = (db.take k).flatten ++ dbx db k := by
  rw [← take_dbx hk, List.flatten_append, List.flatten_singleton]
theorem map_succ {net : List Pk} {k : Nat} (hk : k < net.length) : (net.take (k + 1)).map (·.p) = (net.take k).map (·.p) ++ [(pkx net k).p] := by
  rw [← take_pkx hk, List.map_append]; rfl
theorem NdW.sm {i : Nat} (h : NdW w i) : (dbx w.db i).length ≤ 8 := h.2.len
theorem e_differ (x l : Ls) (hx : Fits x.e) (hl : Fits l.e) : sh_impl_WorldValid_1 (x.o, x.s, x.e, l.o, l.s, l.e, ()) = some (decide (x.o = l.o ∧ x.s = l.s ∧ x ≠ l), ()) := by
  unfold sh_impl_WorldValid_1
  by_cases h1 : x.o = l.o
  · by_cases h2 : x.s = l.s
    · simp only [decide_eq_true h1, decide_eq_true h2, cond_true]
      refine Sat.out (sov (e_sameLsa x l hx hl) (.some ?_))
      by_cases h3 : x = l
      · simp [h3]
      · simp [h1, h2, h3]
    · simp [h1, h2]
  · simp [h1]
theorem e_clash (xs : List Ls) (l : Ls) (h : xs.length ≤ 100000) (he : ∀ x ∈ xs, Fits x.e) (hl : Fits l.e) : Sat (sh_slices_ContainsFunc_impl_Lsa_impl_Lsa_WorldValid_1 (xs, l.o, l.s, l.e, ())) fun r => ∃ b : Bool, r = (b, ()) ∧ (b = true ↔ ∃ x ∈ xs, x.o = l.o ∧ x.s = l.s ∧ x ≠ l) := by
  unfold sh_slices_ContainsFunc_impl_Lsa_impl_Lsa_WorldValid_1 sh_slices_IndexFunc_impl_Lsa_impl_Lsa_WorldValid_1
  refine Sat.bnd (R := fun r => ∃ z : Int, r = (z, ()) ∧ (0 ≤ z ↔ ∃ x ∈ xs, x.o = l.o ∧ x.s = l.s ∧ x ≠ l)) (Sat.bnd (R := fun r => match r with | .inl _ => ¬ ∃ x ∈ xs, x.o = l.o ∧ x.s = l.s ∧ x ≠ l | .inr y => ∃ k : Nat, y = ((k : Int), ()) ∧ ∃ x ∈ xs, x.o = l.o ∧ x.s = l.s ∧ x ≠ l) ?_ ?_) ?_
  · refine Sat.count xs.length (fun k t => t = (xs, l.o, l.s, l.e, (xs.length : Int), (k : Int), ()) ∧ ∀ i, i < k → ¬ ((lsa xs i).o = l.o ∧ (lsa xs i).s = l.s ∧ lsa xs i ≠ l)) ?_ (Nat.zero_le _) (fuel_lt (by omega)) ⟨by simp [nI_eq], fun i hi => by omega⟩
    rintro k t hk ⟨rfl, hok⟩
    by_cases hlt : k < xs.length
    · simp (disch := omega) only [bo_slices_IndexFunc_impl_Lsa_impl_Lsa_WorldValid_1_2, at_ls, toN, w64, e_differ _ l (he _ (lsa_mem hlt)) hl, Option.bind_some]
      refine Sat.gd (decide_eq_true (by omega)) (Sat.gd (inR_t (by omega) (by omega)) (Sat.ite (fun hc => .some ?_) (fun hc => .some ⟨hlt, rfl, fun i hi => ?_⟩)))
      · exact ⟨k, rfl, _, lsa_mem hlt, of_decide_eq_true hc⟩
      · by_cases e : i < k
        · exact hok i e
        · obtain rfl : i = k := by omega
          exact of_decide_eq_false hc
    · obtain rfl : k = xs.length := by omega
      unfold bo_slices_IndexFunc_impl_Lsa_impl_Lsa_WorldValid_1_2
      refine Sat.no (decide_eq_false (by first | omega | (dsimp only; omega))) (.some ?_)
      rintro ⟨x, hx, hh⟩
      obtain ⟨i, hi, rfl⟩ := List.getElem_of_mem hx
      rw [← lsa_get hi] at hh
      exact hok i hi hh
  · rintro (r | r) hr
    · exact .some ⟨-1, rfl, fun h => by omega, fun h => (hr h).elim⟩
    · obtain ⟨k, rfl, hx⟩ := hr
      exact .some ⟨k, rfl, fun _ => hx, fun _ => by omega⟩
  · rintro _ ⟨z, rfl, hz⟩
    exact .some ⟨decide (0 ≤ z), rfl, by rw [decide_eq_true_eq]; exact hz⟩
theorem ag_take {xs : List Ls} {k : Nat} (hk : k < xs.length) : (∃ x ∈ xs.take k, x.o = (lsa xs k).o ∧ x.s = (lsa xs k).s ∧ x ≠ lsa xs k) ↔ ¬ AgW xs k := by
  constructor
  · rintro ⟨x, hx, h1, h2, h3⟩ h
    obtain ⟨j, hj, rfl⟩ := List.getElem_of_mem hx
    rw [List.length_take] at hj
    rw [List.getElem_take, ← lsa_get (by omega)] at h1 h2 h3
    exact h3 (h j (by omega) h1 h2)
  · intro h
    unfold AgW at h
    simp only [Classical.not_forall] at h
    obtain ⟨j, hj, h1, h2, h3⟩ := h
    refine ⟨lsa xs j, ?_, h1, h2, h3⟩
    rw [lsa_get (by omega)]
    exact List.mem_iff_getElem.2 ⟨j, by rw [List.length_take]; omega, List.getElem_take⟩
set_option maxHeartbeats 2000000 in
theorem e_WorldValid (h : SmW w) : sh_impl_WorldValid (w.n, w.ls, w.up, w.sq, w.db, w.net, ()) = some (wv w, ()) := by
  have h1 := h.ls
  have h2 := h.up
  have h3 := h.sq
  have h4 := h.db
  have h5 := h.net
  have no : ¬ WV w Nob → (false, ()) = (wv w, ()) := fun q => by rw [wv_f.2 q]
  unfold sh_impl_WorldValid
  dsimp only
  rw [e_GraphValid _ _ (show Fits w.ls by unfold Fits; omega)]
  simp only [nI_eq]
  refine Sat.out (Sat.ite (fun hc => .some (no fun q => ?_)) (fun hc => ?_))
  · have hc : gv w.n w.ls = false := by simpa using hc
    exact of_decide_eq_false hc q.g
  have g : GV w.n w.ls := of_decide_eq_true (show gv w.n w.ls = true by simpa using hc)
  refine Sat.ite (fun hc => .some (no fun q => ?_)) (fun hc => ?_)
  · have hc : ¬ (w.up.length : Int) = w.ls.length := by simpa using hc
    have := q.up; omega
  have hu : (w.up.length : Int) = w.ls.length := by simpa using hc
  refine Sat.ite (fun hc => .some (no fun q => ?_)) (fun hc => ?_)
  · have hc : ¬ (w.sq.length : Int) = w.n := by simpa using hc
    have := q.sq; omega
  have hs : (w.sq.length : Int) = w.n := by simpa using hc
  refine Sat.ite (fun hc => .some (no fun q => ?_)) (fun hc => ?_)
  · have hc : ¬ (w.db.length : Int) = w.n := by simpa using hc
    have := q.db; omega
  have hd : (w.db.length : Int) = w.n := by simpa using hc
  refine Sat.ite (fun hc => .some (no fun q => ?_)) (fun hc => ?_)
  · have hc := of_decide_eq_true hc
    have := q.net; omega
  have hn := of_decide_eq_false hc
  have hn8 := g.2.1
  refine Sat.bnd (R := fun r => match r with | .inl x => x = (w.n, w.n, w.ls, w.up, w.sq, w.db, w.net, w.db.flatten, ()) ∧ ∀ i, i < w.db.length → NdW w i ∧ OwW w i | .inr y => y = (false, ()) ∧ ¬ WV w Nob) ?_ ?_
  · refine Sat.count w.db.length (fun k t => t = (w.n, w.db, (w.db.length : Int), (k : Int), w.n, w.ls, w.up, w.sq, w.db, w.net, (w.db.take k).flatten, ()) ∧ ∀ i, i < k → NdW w i ∧ OwW w i) ?_ (Nat.zero_le _) (fuel_lt (by omega)) ⟨by simp, fun i hi => by omega⟩
    rintro k t hk ⟨rfl, hok⟩
    by_cases hlt : k < w.db.length
    · have hsm := h.dbs k hlt
      simp (disch := omega) only [bo_impl_WorldValid_6, at_db, at_int, at_ls, toN, w64, e_within, e_DbValid _ hsm.fits hsm.fe, Option.bind_some]
      refine Sat.gd (decide_eq_true (by omega)) (Sat.gd (inR_t (by omega) (by omega)) (Sat.gd (inR_t (by omega) (by omega)) (Sat.ite (fun hc => .some ⟨rfl, fun q => ?_⟩) (fun hc => ?_))))
      · have hc := inB_f (show inB (iz w.sq k) 1 99 = false by simpa using hc)
        exact hc (q.rng k (by omega))
      have hr := inB_t (show inB (iz w.sq k) 1 99 = true by simpa using hc)
      refine Sat.ite (fun hc => .some ⟨rfl, fun q => ?_⟩) (fun hc => ?_)
      · have hc : dbv (dbx w.db k) = false := by simpa using hc
        exact of_decide_eq_false hc (q.ok k hlt)
      have hv : DbV (dbx w.db k) := of_decide_eq_true (show dbv (dbx w.db k) = true by simpa using hc)
      have h8 := hv.len
      obtain ⟨i, hi, hp⟩ := e_dbPlace (dbx w.db k) (k : Int) hv.srt (by omega)
      have hfd := fd_place hv.srt hi
      refine sov hp ?_
      dsimp only
      simp only [toN]
      cases hh : hasAt (dbx w.db k) (k : Int) i with
      | false =>
        rw [hh, if_neg (by simp)] at hfd
        refine Sat.gd rfl (.some ⟨rfl, fun q => ?_⟩)
        obtain ⟨l, hl, e1, _⟩ := q.own k hlt
        exact fd_none.1 hfd l hl e1
      | true =>
        rw [hh, if_pos rfl] at hfd
        obtain ⟨hm, ho⟩ := (fd_some hv.so).1 hfd
        obtain ⟨hil, _⟩ := of_decide_eq_true hh
        refine Sat.no rfl (Sat.gd (inR_t (by omega) (by omega)) (Sat.gd (inR_t (by omega) (by omega)) (Sat.ite (fun hc => .some ⟨rfl, fun q => ?_⟩) (fun hc => ?_))))
        · have hc : ¬ (lsa (dbx w.db k) i).s = iz w.sq k := by simpa using hc
          obtain ⟨l, hl, e1, e2⟩ := q.own k hlt
          have := (fd_some hv.so).2 ⟨hl, e1⟩
          rw [hfd] at this
          injection this with this
          rw [this] at hc
          exact hc e2
        · have hc : (lsa (dbx w.db k) i).s = iz w.sq k := by simpa using hc
          have hfl := flat8 (db := w.db) (k := k) (by omega) fun i hi => (hok i hi).1.sm
          refine Sat.gd (decide_eq_true (by omega)) (.some ⟨hlt, ?_, fun j hj => ?_⟩)
          · rw [flat_succ hlt]; rfl
          · by_cases e : j < k
            · exact hok j e
            · obtain rfl : j = k := by omega
              exact ⟨⟨hr, hv⟩, _, hm, ho, hc⟩
    · obtain rfl : k = w.db.length := by omega
      unfold bo_impl_WorldValid_6
      refine Sat.no (decide_eq_false (by first | omega | (dsimp only; omega))) (.some ⟨?_, hok⟩)
      rw [List.take_length]
  rintro (r | r) hr
  case inr =>
    obtain ⟨rfl, hr⟩ := hr
    exact .some (no hr)
  obtain ⟨rfl, hnd⟩ := hr
  have hfl : w.db.flatten.length ≤ 8 * w.db.length := by
    have := flat8 (db := w.db) (k := w.db.length) (by omega) fun i hi => (hnd i hi).1.sm
    rwa [List.take_length] at this
  dsimp only
  refine Sat.bnd (R := fun r => match r with | .inl x => x = (w.n, w.ls, w.up, w.sq, w.db, w.net, allW w, ()) ∧ ∀ i, i < w.net.length → 0 ≤ (pkx w.net i).t ∧ (pkx w.net i).t < w.n | .inr y => y = (false, ()) ∧ ¬ WV w Nob) ?_ ?_
  · refine Sat.count w.net.length (fun k t => t = (w.n, w.net, (w.net.length : Int), (k : Int), w.n, w.ls, w.up, w.sq, w.db, w.net, w.db.flatten ++ (w.net.take k).map (·.p), ()) ∧ ∀ i, i < k → 0 ≤ (pkx w.net i).t ∧ (pkx w.net i).t < w.n) ?_ (Nat.zero_le _) (fuel_lt (by omega)) ⟨by simp, fun i hi => by omega⟩
    rintro k t hk ⟨rfl, hok⟩
    have hn1 := g.1
    by_cases hlt : k < w.net.length
    · simp (disch := omega) only [bo_impl_WorldValid_16, at_pk, toN, w64, e_within, Option.bind_some]
      refine Sat.gd (decide_eq_true (by omega)) (Sat.gd (inR_t (by omega) (by omega)) (Sat.ite (fun hc => .some ⟨rfl, fun q => ?_⟩) (fun hc => ?_)))
      · have hc := inB_f (show inB (pkx w.net k).t 0 (w.n - 1) = false by simpa using hc)
        have := q.tgt _ (pkx_mem hlt)
        omega
      · have hc := inB_t (show inB (pkx w.net k).t 0 (w.n - 1) = true by simpa using hc)
        refine Sat.gd (decide_eq_true (by simp only [List.length_append, List.length_map, List.length_take, List.length_singleton]; omega)) (.some ⟨hlt, ?_, fun j hj => ?_⟩)
        · rw [map_succ hlt, ← List.append_assoc]; rfl
        · by_cases e : j < k
          · exact hok j e
          · obtain rfl : j = k := by omega
            omega
    · obtain rfl : k = w.net.length := by omega
      unfold bo_impl_WorldValid_16
      refine Sat.no (decide_eq_false (by first | omega | (dsimp only; omega))) (.some ⟨?_, hok⟩)
      rw [List.take_length]; rfl
  rintro (r | r) hr
  case inr =>
    obtain ⟨rfl, hr⟩ := hr
    exact .some (no hr)
  obtain ⟨rfl, htg⟩ := hr
  have hal : (allW w).length ≤ 1000 := by unfold allW; rw [List.length_append, List.length_map]; omega
  have hfe : ∀ x ∈ allW w, Sm x.e := fun x hx => by
    rcases said_iff.2 hx with ⟨i, hi, hx⟩ | ⟨p, hp, rfl⟩
    · exact (h.dbs i hi).2 x hx
    · obtain ⟨i, hi, rfl⟩ := List.getElem_of_mem hp
      have := h.pks i hi
      have e : pkx w.net i = w.net[i] := by simp [pkx, List.getD, hi]
      rwa [e] at this
  have smf : ∀ l : List En, Sm l → Fits l := fun l hl => by unfold Fits; unfold Sm at hl; omega
  dsimp only
  refine Sat.bnd (R := fun r => match r with | .inl x => ∀ i, i < (allW w).length → Poss w Nob (lsa (allW w) i) ∧ AgW (allW w) i | .inr y => y = (false, ()) ∧ ¬ WV w Nob) ?_ ?_
  · refine Sat.count (allW w).length (fun k t => t = (allW w, allW w, ((allW w).length : Int), (k : Int), w.n, w.ls, w.up, w.sq, w.db, w.net, ()) ∧ ∀ i, i < k → Poss w Nob (lsa (allW w) i) ∧ AgW (allW w) i) ?_ (Nat.zero_le _) (fuel_lt (by omega)) ⟨by simp, fun i hi => by omega⟩
    rintro k t hk ⟨rfl, hok⟩
    by_cases hlt : k < (allW w).length
    · have hle := hfe _ (lsa_mem hlt)
      simp (disch := omega) only [bo_impl_WorldValid_23, at_ls, toN, w64, e_possible g (show w.up.length = w.ls.length by omega) hs _ hle, Option.bind_some, Int.toNat_zero, List.drop_zero, Nat.sub_zero]
      refine Sat.gd (decide_eq_true (by omega)) (Sat.gd (inR_t (by omega) (by omega)) (Sat.ite (fun hc => .some ⟨rfl, fun q => ?_⟩) (fun hc => ?_)))
      · have hc : poss w (lsa (allW w) k) = false := by simpa using hc
        exact poss_f.1 hc (q.ps hlt)
      have hp := poss_t.1 (show poss w (lsa (allW w) k) = true by simpa using hc)
      refine Sat.gd (bnd_t (by omega) (by omega) (by omega)) (Sat.bnd (e_clash ((allW w).take k) (lsa (allW w) k) (by rw [List.length_take]; omega) (fun x hx => smf _ (hfe x (List.mem_of_mem_take hx))) (smf _ hle)) ?_)
      rintro _ ⟨b, rfl, hb⟩
      rw [ag_take hlt] at hb
      refine Sat.ite (fun hc3 => .some ⟨rfl, fun q => hb.1 hc3 (q.ag hlt)⟩) (fun hc3 => .some ⟨hlt, rfl, fun j hj => ?_⟩)
      by_cases e : j < k
      · exact hok j e
      · obtain rfl : j = k := by omega
        exact ⟨hp, Classical.not_not.1 fun q => by
          have := hb.2 q
          have hc3 : b = false := hc3
          rw [hc3] at this; cases this⟩
    · obtain rfl : k = (allW w).length := by omega
      unfold bo_impl_WorldValid_23
      exact Sat.no (decide_eq_false (by first | omega | (dsimp only; omega))) (.some hok)
  rintro (r | r) hr
  case inr =>
    obtain ⟨rfl, hr⟩ := hr
    exact .some (no hr)
  exact .some (by rw [wv_t.2 (wv_mk g (by omega) hs hd (by omega) (fun i hi => (hnd i hi).1) (fun i hi => (hnd i hi).2) htg (fun i hi => (hr i hi).1) (fun i hi => (hr i hi).2))])
end
end Go.Proofs.Ythcckenjkicmgaa
end
section
namespace Go.Proofs.Ythcckenjkicmgaa
open Go.RowKit
set_option linter.unusedSimpArgs false
set_option linter.unusedVariables false
set_option maxRecDepth 100000

section
variable {w : Wd}
structure Shp (w : Wd) : Prop where
  g : GV w.n w.ls
  up : w.up.length = w.ls.length
  sq : (w.sq.length : Int) = w.n
  db : (w.db.length : Int) = w.n
  net : w.net.length ≤ 16
  nd : ∀ i, i < w.db.length → NdW w i
theorem e_l51Shape (h : SmW w) : Sat (sh_spec_l51Shape (w.n, w.ls, w.up, w.sq, w.db, w.net, ())) fun r => ∃ b : Bool, r = (b, ()) ∧ (b = true → Shp w) ∧ (b = false → ¬ WV w Nob) := by
  have h1 := h.ls
  have h2 := h.up
  have h3 := h.sq
  have h4 := h.db
  have h5 := h.net
  have no : ¬ WV w Nob → ∃ b : Bool, (false, ()) = (b, ()) ∧ (b = true → Shp w) ∧ (b = false → ¬ WV w Nob) := fun q => ⟨false, rfl, (fun e => nomatch e), fun _ => q⟩
  unfold sh_spec_l51Shape
  dsimp only
  rw [e_sGraphValid _ _ (show Fits w.ls by unfold Fits; omega)]
  simp only [nI_eq]
  refine Sat.ite (fun hc => .some (no fun q => ?_)) (fun hc => ?_)
  · have hc : gv w.n w.ls = false := by simpa using hc
    exact of_decide_eq_false hc q.g
  have g : GV w.n w.ls := of_decide_eq_true (show gv w.n w.ls = true by simpa using hc)
  refine Sat.ite (fun hc => .some (no fun q => ?_)) (fun hc => ?_)
  · have hc : ¬ (w.up.length : Int) = w.ls.length := by simpa using hc
    have := q.up; omega
  have hu : (w.up.length : Int) = w.ls.length := by simpa using hc
  refine Sat.ite (fun hc => .some (no fun q => ?_)) (fun hc => ?_)
  · have hc : ¬ (w.sq.length : Int) = w.n := by simpa using hc
    have := q.sq; omega
  have hs : (w.sq.length : Int) = w.n := by simpa using hc
  refine Sat.ite (fun hc => .some (no fun q => ?_)) (fun hc => ?_)
  · have hc : ¬ (w.db.length : Int) = w.n := by simpa using hc
    have := q.db; omega
  have hd : (w.db.length : Int) = w.n := by simpa using hc
  refine Sat.ite (fun hc => .some (no fun q => ?_)) (fun hc => ?_)
  · have hc := of_decide_eq_true hc
    have := q.net; omega
  have hn := of_decide_eq_false hc
  have hn8 := g.2.1
  refine Sat.bnd (R := fun r => match r with | .inl x => ∀ i, i < w.db.length → NdW w i | .inr y => y = (false, ()) ∧ ¬ WV w Nob) ?_ ?_
  · refine Sat.count w.db.length (fun k t => t = ((k : Int), w.n, w.ls, w.up, w.sq, w.db, w.net, ()) ∧ ∀ i, i < k → NdW w i) ?_ (Nat.zero_le _) (fuel_lt (by omega)) ⟨rfl, fun i hi => by omega⟩
    rintro k t hk ⟨rfl, hok⟩
    by_cases hlt : k < w.db.length
    · have hsm := h.dbs k hlt
      simp (disch := omega) only [bo_spec_l51Shape_4, at_db, at_int, toN, w64, e_l6In, e_sDbValid _ hsm.fits hsm.fe, Option.bind_some]
      refine Sat.gd (decide_eq_true (by omega)) (Sat.gd (inR_t (by omega) (by omega)) (Sat.ite (fun hc => .some ⟨rfl, fun q => ?_⟩) (fun hc => ?_)))
      · have hc := inB_f (show inB (iz w.sq k) 1 99 = false by simpa using hc)
        exact hc (q.rng k (by omega))
      have hr := inB_t (show inB (iz w.sq k) 1 99 = true by simpa using hc)
      refine Sat.gd (inR_t (by omega) (by omega)) (Sat.ite (fun hc => .some ⟨rfl, fun q => ?_⟩) (fun hc => .some ⟨hlt, rfl, fun j hj => ?_⟩))
      · have hc : dbv (dbx w.db k) = false := by simpa using hc
        exact of_decide_eq_false hc (q.ok k hlt)
      · have hv : DbV (dbx w.db k) := of_decide_eq_true (show dbv (dbx w.db k) = true by simpa using hc)
        by_cases e : j < k
        · exact hok j e
        · obtain rfl : j = k := by omega
          exact ⟨hr, hv⟩
    · obtain rfl : k = w.db.length := by omega
      unfold bo_spec_l51Shape_4
      exact Sat.no (decide_eq_false (by dsimp only; omega)) (.some hok)
  rintro (r | r) hr
  case inr =>
    obtain ⟨rfl, hr⟩ := hr
    exact .some (no hr)
  exact .some ⟨true, rfl, fun _ => ⟨g, by omega, hs, hd, by omega, hr⟩, fun e => nomatch e⟩
theorem Shp.fl (h : Shp w) : w.db.flatten.length ≤ 8 * w.db.length := by
  have := flat8 (db := w.db) (k := w.db.length) (by omega) fun i hi => (h.nd i hi).sm
  rwa [List.take_length] at this
theorem e_l51All (h : Shp w) : sh_spec_l51All (w.n, w.ls, w.up, w.sq, w.db, w.net, ()) = some (allW w, ()) := by
  have hd := h.db
  have hn := h.net
  have h8 := h.g.2.1
  have hfl := h.fl
  unfold sh_spec_l51All
  dsimp only
  refine Sat.out (Sat.bnd (R := fun r => match r with | .inl x => x = (w.n, w.ls, w.up, w.sq, w.db, w.net, w.db.flatten, ()) | .inr _ => False) ?_ ?_)
  · refine Sat.count w.db.length (fun k t => t = ((k : Int), w.n, w.ls, w.up, w.sq, w.db, w.net, (w.db.take k).flatten, ())) ?_ (Nat.zero_le _) (fuel_lt (by omega)) (by simp)
    rintro k t hk rfl
    by_cases hlt : k < w.db.length
    · have hl := (h.nd k hlt).sm
      have hfk := flat8 (db := w.db) (k := k) (by omega) fun i hi => (h.nd i (by omega)).sm
      simp (disch := omega) only [bo_spec_l51All_3, at_db, toN, w64, nI_eq]
      refine Sat.gd (decide_eq_true (by omega)) (Sat.gd (inR_t (by omega) (by omega)) (Sat.gd (decide_eq_true (by omega)) (.some ⟨hlt, ?_⟩)))
      rw [flat_succ hlt]; rfl
    · obtain rfl : k = w.db.length := by omega
      unfold bo_spec_l51All_3
      simp only [nI_eq]
      refine Sat.no (decide_eq_false (by omega)) (.some ?_)
      rw [List.take_length]
  rintro (r | r) hr
  case inr => exact hr.elim
  obtain rfl := hr
  dsimp only
  refine Sat.bnd (R := fun r => match r with | .inl x => x = (allW w, ()) | .inr _ => False) ?_ ?_
  · refine Sat.count w.net.length (fun k t => t = ((k : Int), w.n, w.ls, w.up, w.sq, w.db, w.net, w.db.flatten ++ (w.net.take k).map (·.p), ())) ?_ (Nat.zero_le _) (fuel_lt (by omega)) (by simp)
    rintro k t hk rfl
    by_cases hlt : k < w.net.length
    · simp (disch := omega) only [bo_spec_l51All_7, at_pk, toN, w64, nI_eq]
      refine Sat.gd (decide_eq_true (by omega)) (Sat.gd (inR_t (by omega) (by omega)) (Sat.gd (decide_eq_true (by simp only [List.length_append, List.length_map, List.length_take, List.length_singleton]; omega)) (.some ⟨hlt, ?_⟩)))
      rw [map_succ hlt, ← List.append_assoc]; rfl
    · obtain rfl : k = w.net.length := by omega
      unfold bo_spec_l51All_7
      simp only [nI_eq]
      refine Sat.no (decide_eq_false (by omega)) (.some ?_)
      rw [List.take_length]; rfl
  rintro (r | r) hr
  case inr => exact hr.elim
  obtain rfl := hr
  exact .some rfl
theorem e_l51One (xs : List Ls) (hl : xs.length ≤ 100000) (he : ∀ x ∈ xs, Fits x.e) : Sat (sh_spec_l51One (xs, ())) fun r => ∃ b : Bool, r = (b, ()) ∧ (b = true ↔ ∀ i, i < xs.length → AgW xs i) := by
  unfold sh_spec_l51One
  refine Sat.bnd (R := fun r => match r with | .inl _ => ∀ i, i < xs.length → AgW xs i | .inr y => y = (false, ()) ∧ ¬ ∀ i, i < xs.length → AgW xs i) ?_ ?_
  · refine Sat.count xs.length (fun k t => t = (xs, (k : Int), ()) ∧ ∀ i, i < k → AgW xs i) ?_ (Nat.zero_le _) (fuel_lt (by omega)) ⟨rfl, fun i hi => by omega⟩
    rintro k t hk ⟨rfl, hok⟩
    by_cases hlt : k < xs.length
    · simp only [bo_spec_l51One_2, nI_eq]
      refine Sat.gd (decide_eq_true (by omega)) (Sat.bnd (R := fun r => match r with | .inl x => x = (xs, (k : Int), ()) ∧ AgW xs k | .inr y => y = (false, ()) ∧ ¬ AgW xs k) ?_ ?_)
      · refine Sat.count k (fun j t => t = (xs, (k : Int), (j : Int), ()) ∧ ∀ i, i < j → (lsa xs i).o = (lsa xs k).o → (lsa xs i).s = (lsa xs k).s → lsa xs i = lsa xs k) ?_ (Nat.zero_le _) (fuel_lt (by omega)) ⟨rfl, fun i hi => by omega⟩
        rintro j t hj ⟨rfl, hok2⟩
        by_cases hjk : j < k
        · have fk := he _ (lsa_mem hlt)
          have fj := he _ (lsa_mem (show j < xs.length by omega))
          simp (disch := omega) only [bo_spec_l51One_5, at_ls, toN, w64, e_l51Same _ _ fk fj, Option.bind_some]
          refine Sat.gd (decide_eq_true (by omega)) (Sat.gd (inR_t (by omega) (by omega)) (Sat.gd (inR_t (by omega) (by omega)) (Sat.ite (fun h1 => ?_) (fun h1 => .some ⟨hjk, rfl, fun i hi => ?_⟩))))
          · have h1 := of_decide_eq_true h1
            refine Sat.gd (inR_t (by omega) (by omega)) (Sat.gd (inR_t (by omega) (by omega)) (Sat.ite (fun h2 => ?_) (fun h2 => .some ⟨hjk, rfl, fun i hi => ?_⟩)))
            · have h2 := of_decide_eq_true h2
              refine Sat.gd (inR_t (by omega) (by omega)) (Sat.gd (inR_t (by omega) (by omega)) (Sat.ite (fun h3 => .some ⟨rfl, fun q => ?_⟩) (fun h3 => .some ⟨hjk, rfl, fun i hi => ?_⟩)))
              · have h3 : ¬ lsa xs k = lsa xs j := by simpa using h3
                exact h3 (q j hjk h1.symm h2.symm).symm
              · have h3 : lsa xs k = lsa xs j := by simpa using h3
                by_cases e : i < j
                · exact hok2 i e
                · obtain rfl : i = j := by omega
                  exact fun _ _ => h3.symm
            · have h2 := of_decide_eq_false h2
              by_cases e : i < j
              · exact hok2 i e
              · obtain rfl : i = j := by omega
                exact fun _ e2 => (h2 e2.symm).elim
          · have h1 := of_decide_eq_false h1
            by_cases e : i < j
            · exact hok2 i e
            · obtain rfl : i = j := by omega
              exact fun e1 => (h1 e1.symm).elim
        · obtain rfl : j = k := by omega
          unfold bo_spec_l51One_5
          exact Sat.no (decide_eq_false (by dsimp only; omega)) (.some ⟨rfl, hok2⟩)
      · rintro (r | r) hr
        · obtain ⟨rfl, hr⟩ := hr
          simp (disch := omega) only [w64]
          refine .some ⟨hlt, rfl, fun i hi => ?_⟩
          by_cases e : i < k
          · exact hok i e
          · obtain rfl : i = k := by omega
            exact hr
        · obtain ⟨rfl, hr⟩ := hr
          exact .some ⟨rfl, fun q => hr (q k hlt)⟩
    · obtain rfl : k = xs.length := by omega
      unfold bo_spec_l51One_2
      simp only [nI_eq]
      exact Sat.no (decide_eq_false (by omega)) (.some hok)
  rintro (r | r) hr
  · exact .some ⟨true, rfl, fun _ => hr, fun _ => rfl⟩
  · obtain ⟨rfl, hr⟩ := hr
    exact .some ⟨false, rfl, (fun e => nomatch e), fun q => (hr q).elim⟩
set_option maxHeartbeats 2000000 in
theorem e_sWorldValid (h : SmW w) : sh_spec_WorldValid (w.n, w.ls, w.up, w.sq, w.db, w.net, ()) = some (wv w, ()) := by
  have no : ¬ WV w Nob → (false, ()) = (wv w, ()) := fun q => by rw [wv_f.2 q]
  unfold sh_spec_WorldValid
  refine Sat.out (Sat.bnd (e_l51Shape h) ?_)
  rintro _ ⟨b, rfl, hb1, hb2⟩
  dsimp only
  refine Sat.ite (fun hc => .some (no (hb2 (by simpa using hc)))) (fun hc => ?_)
  have hS := hb1 (by simpa using hc)
  have hd := hS.db
  have hs := hS.sq
  have hn := hS.net
  have h8 := hS.g.2.1
  have hn1 := hS.g.1
  have hfl := hS.fl
  have hal : (allW w).length ≤ 1000 := by unfold allW; rw [List.length_append, List.length_map]; omega
  have hfe : ∀ x ∈ allW w, Sm x.e := fun x hx => by
    rcases said_iff.2 hx with ⟨i, hi, hx⟩ | ⟨p, hp, rfl⟩
    · exact (h.dbs i hi).2 x hx
    · obtain ⟨i, hi, rfl⟩ := List.getElem_of_mem hp
      have := h.pks i hi
      have e : pkx w.net i = w.net[i] := by simp [pkx, List.getD, hi]
      rwa [e] at this
  have smf : ∀ l : List En, Sm l → Fits l := fun l hl => by unfold Fits; unfold Sm at hl; omega
  refine sov (e_l51All hS) ?_
  dsimp only
  refine Sat.bnd (e_l51One (allW w) (by omega) (fun x hx => smf _ (hfe x hx))) ?_
  rintro _ ⟨b2, rfl, hb⟩
  dsimp only
  refine Sat.ite (fun hc => .some (no fun q => ?_)) (fun hc => ?_)
  · have hc : b2 = false := by simpa using hc
    have := hb.2 fun i hi => q.ag hi
    rw [hc] at this; cases this
  have hag := hb.1 (show b2 = true by simpa using hc)
  refine Sat.bnd (R := fun r => match r with | .inl x => x = (w.n, w.ls, w.up, w.sq, w.db, w.net, ()) ∧ ∀ i, i < w.db.length → (∀ l ∈ dbx w.db i, Poss w Nob l) ∧ OwW w i | .inr y => y = (false, ()) ∧ ¬ WV w Nob) ?_ ?_
  · refine Sat.count w.db.length (fun k t => t = ((k : Int), w.n, w.ls, w.up, w.sq, w.db, w.net, ()) ∧ ∀ i, i < k → (∀ l ∈ dbx w.db i, Poss w Nob l) ∧ OwW w i) ?_ (Nat.zero_le _) (fuel_lt (by omega)) ⟨rfl, fun i hi => by omega⟩
    rintro k t hk ⟨rfl, hok⟩
    by_cases hlt : k < w.db.length
    · have hsm := h.dbs k hlt
      have hv := (hS.nd k hlt).2
      have hvl := hv.len
      simp only [bo_spec_WorldValid_4]
      refine Sat.gd (decide_eq_true (by omega)) (Sat.bnd (R := fun r => match r with | .inl x => x = ((k : Int), w.n, w.ls, w.up, w.sq, w.db, w.net, ()) ∧ ∀ l ∈ dbx w.db k, Poss w Nob l | .inr y => y = (false, ()) ∧ ¬ WV w Nob) ?_ ?_)
      · refine Sat.count (dbx w.db k).length (fun j t => t = ((k : Int), (j : Int), w.n, w.ls, w.up, w.sq, w.db, w.net, ()) ∧ ∀ i, i < j → Poss w Nob (lsa (dbx w.db k) i)) ?_ (Nat.zero_le _) (fuel_lt (by omega)) ⟨rfl, fun i hi => by omega⟩
        rintro j t hj ⟨rfl, hok2⟩
        by_cases hjl : j < (dbx w.db k).length
        · have hm : lsa (dbx w.db k) j ∈ dbx w.db k := lsa_mem hjl
          simp (disch := omega) only [bo_spec_WorldValid_7, at_db, at_ls, toN, w64, nI_eq, e_l51Lsa hS.g hS.up hs _ (hsm.2 _ hm), Option.bind_some]
          refine Sat.gd (inR_t (by omega) (by omega)) (Sat.gd (decide_eq_true (by omega)) (Sat.gd (inR_t (by omega) (by omega)) (Sat.gd (inR_t (by omega) (by omega)) (Sat.ite (fun hc => .some ⟨rfl, fun q => ?_⟩) (fun hc => .some ⟨hjl, rfl, fun i hi => ?_⟩)))))
          · have hc : poss w (lsa (dbx w.db k) j) = false := by simpa using hc
            exact poss_f.1 hc (q.poss _ (.inl ⟨k, hlt, hm⟩))
          · have hp := poss_t.1 (show poss w (lsa (dbx w.db k) j) = true by simpa using hc)
            by_cases e : i < j
            · exact hok2 i e
            · obtain rfl : i = j := by omega
              exact hp
        · obtain rfl : j = (dbx w.db k).length := by omega
          unfold bo_spec_WorldValid_7
          simp only [at_db, toN, nI_eq]
          refine Sat.gd (inR_t (by omega) (by omega)) (Sat.no (decide_eq_false (by omega)) (.some ⟨rfl, fun l hl => ?_⟩))
          obtain ⟨i, hi, rfl⟩ := List.getElem_of_mem hl
          rw [← lsa_get hi]
          exact hok2 i hi
      · rintro (r | r) hr
        case inr =>
          obtain ⟨rfl, hr⟩ := hr
          exact .some ⟨rfl, hr⟩
        obtain ⟨rfl, hr⟩ := hr
        simp (disch := omega) only [at_db, at_int, toN, w64, e_l11Find _ (k : Int) hsm.fits, Option.bind_some]
        refine Sat.gd (inR_t (by omega) (by omega)) ?_
        cases hfd : fd (dbx w.db k) (k : Int) with
        | none =>
          refine Sat.gd rfl (.some ⟨rfl, fun q => ?_⟩)
          obtain ⟨l, hl, e1, _⟩ := q.own k hlt
          exact fd_none.1 hfd l hl e1
        | some l0 =>
          obtain ⟨hm, ho⟩ := (fd_some hv.so).1 hfd
          refine Sat.no rfl (Sat.gd (inR_t (by omega) (by omega)) (Sat.ite (fun hc => .some ⟨rfl, fun q => ?_⟩) (fun hc => .some ⟨hlt, rfl, fun i hi => ?_⟩)))
          · have hc : ¬ l0.s = iz w.sq k := by simpa using hc
            obtain ⟨l, hl, e1, e2⟩ := q.own k hlt
            have := (fd_some hv.so).2 ⟨hl, e1⟩
            rw [hfd] at this
            injection this with this
            rw [this] at hc
            exact hc e2
          · have hc : l0.s = iz w.sq k := by simpa using hc
            by_cases e : i < k
            · exact hok i e
            · obtain rfl : i = k := by omega
              exact ⟨hr, l0, hm, ho, hc⟩
    · obtain rfl : k = w.db.length := by omega
      unfold bo_spec_WorldValid_4
      exact Sat.no (decide_eq_false (by dsimp only; omega)) (.some ⟨rfl, hok⟩)
  rintro (r | r) hr
  case inr =>
    obtain ⟨rfl, hr⟩ := hr
    exact .some (no hr)
  obtain ⟨rfl, hnd⟩ := hr
  dsimp only
  refine Sat.bnd (R := fun r => match r with | .inl x => ∀ i, i < w.net.length → (0 ≤ (pkx w.net i).t ∧ (pkx w.net i).t < w.n) ∧ Poss w Nob (pkx w.net i).p | .inr y => y = (false, ()) ∧ ¬ WV w Nob) ?_ ?_
  · refine Sat.count w.net.length (fun k t => t = ((k : Int), w.n, w.ls, w.up, w.sq, w.db, w.net, ()) ∧ ∀ i, i < k → (0 ≤ (pkx w.net i).t ∧ (pkx w.net i).t < w.n) ∧ Poss w Nob (pkx w.net i).p) ?_ (Nat.zero_le _) (fuel_lt (by omega)) ⟨rfl, fun i hi => by omega⟩
    rintro k t hk ⟨rfl, hok⟩
    by_cases hlt : k < w.net.length
    · simp (disch := omega) only [bo_spec_WorldValid_15, at_pk, toN, w64, nI_eq, e_l6In, e_l51Lsa hS.g hS.up hs _ (h.pks k hlt), Option.bind_some]
      refine Sat.gd (decide_eq_true (by omega)) (Sat.gd (inR_t (by omega) (by omega)) (Sat.ite (fun hc => .some ⟨rfl, fun q => ?_⟩) (fun hc => ?_)))
      · have hc := inB_f (show inB (pkx w.net k).t 0 (w.n - 1) = false by simpa using hc)
        have := q.tgt _ (pkx_mem hlt)
        omega
      have ht := inB_t (show inB (pkx w.net k).t 0 (w.n - 1) = true by simpa using hc)
      refine Sat.gd (inR_t (by omega) (by omega)) (Sat.ite (fun hc => .some ⟨rfl, fun q => ?_⟩) (fun hc => .some ⟨hlt, rfl, fun i hi => ?_⟩))
      · have hc : poss w (pkx w.net k).p = false := by simpa using hc
        exact poss_f.1 hc (q.poss _ (.inr ⟨_, pkx_mem hlt, rfl⟩))
      · have hp := poss_t.1 (show poss w (pkx w.net k).p = true by simpa using hc)
        by_cases e : i < k
        · exact hok i e
        · obtain rfl : i = k := by omega
          exact ⟨by omega, hp⟩
    · obtain rfl : k = w.net.length := by omega
      unfold bo_spec_WorldValid_15
      simp only [nI_eq]
      exact Sat.no (decide_eq_false (by omega)) (.some hok)
  rintro (r | r) hr
  case inr =>
    obtain ⟨rfl, hr⟩ := hr
    exact .some (no hr)
  refine .some ?_
  rw [wv_t.2 (wv_mk hS.g hS.up hs hd hn hS.nd (fun i hi => (hnd i hi).2) (fun i hi => (hr i hi).1) (fun i hi => ?_) hag)]
  rcases said_iff.2 (lsa_mem hi) with ⟨j, hj, hx⟩ | ⟨p, hp, e⟩
  · exact (hnd j hj).1 _ hx
  · rw [e]
    obtain ⟨j, hj, rfl⟩ := List.getElem_of_mem hp
    have := (hr j hj).2
    have e2 : pkx w.net j = w.net[j] := by simp [pkx, List.getD, hj]
    rwa [e2] at this
end
end Go.Proofs.Ythcckenjkicmgaa
end
section
namespace Go.Proofs.Ythcckenjkicmgaa
open Go.RowKit
set_option linter.unusedSimpArgs false
set_option linter.unusedVariables false
set_option maxRecDepth 100000

theorem sz_gen {α : Type} {B : (List α × Int × Int × Unit) → Option ((List α × Int × Int × Unit) ⊕ ((Int × Unit) ⊕ (Int × Unit)))} (P : α → Prop) (xs : List α) (q0 : Int) (h0 : 0 ≤ q0) (h1 : q0 ≤ 2000000) (hx : Fits xs)
    (hB : ∀ (k : Nat) (x : α) (q : Int), xs[k]? = some x → 0 ≤ q → q ≤ 2000000 → Sat (B (xs, q, (k : Int), ())) fun r => r = .inr (.inr (-1, ())) ∨ ∃ q', r = .inl (xs, q', ((k + 1 : Nat) : Int), ()) ∧ 0 ≤ q' ∧ q' ≤ q ∧ P x)
    (hE : ∀ q : Int, B (xs, q, (xs.length : Int), ()) = some (.inr (.inl (q, ())))) : Sat (lp B fuel (xs, q0, (0 : Int), ())) fun r => match r with | .inl x => ∃ q, x = (q, ()) ∧ 0 ≤ q ∧ q ≤ q0 ∧ ∀ x ∈ xs, P x | .inr y => y = (-1, ()) := by
  refine Sat.count xs.length (fun k t => ∃ q, t = (xs, q, (k : Int), ()) ∧ 0 ≤ q ∧ q ≤ q0 ∧ ∀ x ∈ xs.take k, P x) ?_ (Nat.zero_le _) (fuel_lt hx) ⟨q0, rfl, h0, Int.le_refl _, by simp⟩
  rintro k t hk ⟨q, rfl, g0, g1, hp⟩
  by_cases hlt : k < xs.length
  · have hxk := List.getElem?_eq_getElem hlt
    refine (hB k _ q hxk g0 (by omega)).mono fun r hr => ?_
    rcases hr with rfl | ⟨q', rfl, e0, e1, e2⟩
    · rfl
    · refine ⟨hlt, q', rfl, e0, by omega, fun x hx => ?_⟩
      rw [List.take_add_one, hxk] at hx
      rcases List.mem_append.1 hx with hx | hx
      · exact hp x hx
      · simp at hx
        rw [hx]; exact e2
  · obtain rfl : k = xs.length := by omega
    rw [hE]
    rw [List.take_length] at hp
    exact .some ⟨q, rfl, g0, g1, hp⟩
def FD (db : List Ls) : Prop := Fits db ∧ ∀ l ∈ db, Fits l.e
theorem e_toBoolS (xs : List Bool) (h : xs.length ≤ 16777216) : sh_laws_toBoolS (xs, ()) = some (xs, ()) := by
  unfold sh_laws_toBoolS
  simp only [nI_eq, toN]
  refine Sat.out (Sat.gd (by simp; omega) (sv (to_gen xs _ h (fun k x out hx ho => ?_) (fun out => ?_)) (.some rfl)))
  · have hk := lt_of hx
    simp (disch := omega) only [bo_laws_toBoolS_3, at_of (τ := .bool) hx, toN, w64, nI_eq, Option.bind_some]
    exact Sat.out (Sat.gd (decide_eq_true (by omega)) (Sat.gd (inR_t (by omega) (by omega)) (Sat.gd (inR_t (by omega) (by omega)) (.some rfl))))
  · simp only [bo_laws_toBoolS_3, nI_eq]
    exact Sat.out (Sat.no (decide_eq_false (by omega)) (.some rfl))
theorem e_eqBoolS (xs : List Bool) (h : Fits xs) : sh_laws_eqBoolS (xs, xs, ()) = some (true, ()) := by
  unfold sh_laws_eqBoolS
  unfold Fits at h
  simp only [nI_eq]
  refine Sat.out (Sat.no (by simp) (sv (eq_gen xs h (fun k x hx => ?_) ?_) (.some rfl)))
  · have hk := lt_of hx
    simp (disch := omega) only [bo_laws_eqBoolS_4, at_of (τ := .bool) hx, toN, w64, nI_eq, Option.bind_some, decide_true, Bool.not_true, cond_false, beq_self_eq_true]
    exact Sat.out (Sat.gd (decide_eq_true (by omega)) (Sat.gd (inR_t (by omega) (by omega)) (Sat.gd (inR_t (by omega) (by omega)) (.some rfl))))
  · simp only [bo_laws_eqBoolS_4, nI_eq]
    exact Sat.out (Sat.no (decide_eq_false (by omega)) (.some rfl))
theorem e_toLsa (o s : Int) (es : List En) (h : es.length ≤ 16777216) : sh_laws_toLsa (o, s, es, ()) = some (o, s, es, ()) := by
  unfold sh_laws_toLsa
  rw [e_toEndS es h]; rfl
theorem e_eqLsa (o s : Int) (es : List En) (h : Fits es) : sh_laws_eqLsa (o, s, es, o, s, es, ()) = some (true, ()) := by
  unfold sh_laws_eqLsa
  exact Sat.out (Sat.no (by simp) (Sat.no (by simp) (sv (e_eqEndS es h) (Sat.no rfl (.some rfl)))))
theorem e_toPacket (t o s : Int) (es : List En) (h : es.length ≤ 16777216) : sh_laws_toPacket (t, o, s, es, ()) = some (t, o, s, es, ()) := by
  unfold sh_laws_toPacket
  rw [e_toLsa o s es h]; rfl
theorem e_eqPacket (t o s : Int) (es : List En) (h : Fits es) : sh_laws_eqPacket (t, o, s, es, t, o, s, es, ()) = some (true, ()) := by
  unfold sh_laws_eqPacket
  exact Sat.out (Sat.no (by simp) (sv (e_eqLsa o s es h) (Sat.no rfl (.some rfl))))
theorem e_toLsaS (xs : List Ls) (h : xs.length ≤ 16777216) (he : ∀ l ∈ xs, l.e.length ≤ 16777216) : sh_laws_toLsaS (xs, ()) = some (xs, ()) := by
  unfold sh_laws_toLsaS
  simp only [nI_eq, toN]
  refine Sat.out (Sat.gd (by simp; omega) (sv (to_gen xs _ h (fun k x out hx ho => ?_) (fun out => ?_)) (.some rfl)))
  · have hk := lt_of hx
    simp (disch := omega) only [bo_laws_toLsaS_3, at_of (τ := .ls) hx, toN, w64, nI_eq]
    exact Sat.out (Sat.gd (decide_eq_true (by omega)) (Sat.gd (inR_t (by omega) (by omega)) (sv (e_toLsa _ _ _ (he x (List.mem_of_getElem? hx))) (Sat.gd (inR_t (by omega) (by omega)) (.some rfl)))))
  · simp only [bo_laws_toLsaS_3, nI_eq]
    exact Sat.out (Sat.no (decide_eq_false (by omega)) (.some rfl))
theorem e_eqLsaS (xs : List Ls) (h : FD xs) : sh_laws_eqLsaS (xs, xs, ()) = some (true, ()) := by
  unfold sh_laws_eqLsaS
  have h1 := h.1
  unfold Fits at h1
  simp only [nI_eq]
  refine Sat.out (Sat.no (by simp) (sv (eq_gen xs h.1 (fun k x hx => ?_) ?_) (.some rfl)))
  · have hk := lt_of hx
    simp (disch := omega) only [bo_laws_eqLsaS_4, at_of (τ := .ls) hx, toN, w64, nI_eq]
    exact Sat.out (Sat.gd (decide_eq_true (by omega)) (Sat.gd (inR_t (by omega) (by omega)) (Sat.gd (inR_t (by omega) (by omega)) (sv (e_eqLsa _ _ _ (h.2 x (List.mem_of_getElem? hx))) (Sat.no rfl (.some rfl))))))
  · simp only [bo_laws_eqLsaS_4, nI_eq]
    exact Sat.out (Sat.no (decide_eq_false (by omega)) (.some rfl))
theorem e_toLsaSS (xs : List (List Ls)) (h : xs.length ≤ 16777216) (he : ∀ d ∈ xs, d.length ≤ 16777216 ∧ ∀ l ∈ d, l.e.length ≤ 16777216) : sh_laws_toLsaSS (xs, ()) = some (xs, ()) := by
  unfold sh_laws_toLsaSS
  simp only [nI_eq, toN]
  refine Sat.out (Sat.gd (by simp; omega) (sv (to_gen xs _ h (fun k x out hx ho => ?_) (fun out => ?_)) (.some rfl)))
  · have hk := lt_of hx
    have hm := he x (List.mem_of_getElem? hx)
    simp (disch := omega) only [bo_laws_toLsaSS_3, at_of (τ := .db) hx, toN, w64, nI_eq]
    exact Sat.out (Sat.gd (decide_eq_true (by omega)) (Sat.gd (inR_t (by omega) (by omega)) (sv (e_toLsaS x hm.1 hm.2) (Sat.gd (inR_t (by omega) (by omega)) (.some rfl)))))
  · simp only [bo_laws_toLsaSS_3, nI_eq]
    exact Sat.out (Sat.no (decide_eq_false (by omega)) (.some rfl))
theorem e_eqLsaSS (xs : List (List Ls)) (h : Fits xs) (he : ∀ d ∈ xs, FD d) : sh_laws_eqLsaSS (xs, xs, ()) = some (true, ()) := by
  unfold sh_laws_eqLsaSS
  have h1 := h
  unfold Fits at h1
  simp only [nI_eq]
  refine Sat.out (Sat.no (by simp) (sv (eq_gen xs h (fun k x hx => ?_) ?_) (.some rfl)))
  · have hk := lt_of hx
    simp (disch := omega) only [bo_laws_eqLsaSS_4, at_of (τ := .db) hx, toN, w64, nI_eq]
    exact Sat.out (Sat.gd (decide_eq_true (by omega)) (Sat.gd (inR_t (by omega) (by omega)) (Sat.gd (inR_t (by omega) (by omega)) (sv (e_eqLsaS x (he x (List.mem_of_getElem? hx))) (Sat.no rfl (.some rfl))))))
  · simp only [bo_laws_eqLsaSS_4, nI_eq]
    exact Sat.out (Sat.no (decide_eq_false (by omega)) (.some rfl))
theorem e_toPacketS (xs : List Pk) (h : xs.length ≤ 16777216) (he : ∀ p ∈ xs, p.p.e.length ≤ 16777216) : sh_laws_toPacketS (xs, ()) = some (xs, ()) := by
  unfold sh_laws_toPacketS
  simp only [nI_eq, toN]
  refine Sat.out (Sat.gd (by simp; omega) (sv (to_gen xs _ h (fun k x out hx ho => ?_) (fun out => ?_)) (.some rfl)))
  · have hk := lt_of hx
    simp (disch := omega) only [bo_laws_toPacketS_3, at_of (τ := .pk) hx, toN, w64, nI_eq]
    exact Sat.out (Sat.gd (decide_eq_true (by omega)) (Sat.gd (inR_t (by omega) (by omega)) (sv (e_toPacket _ _ _ _ (he x (List.mem_of_getElem? hx))) (Sat.gd (inR_t (by omega) (by omega)) (.some rfl)))))
  · simp only [bo_laws_toPacketS_3, nI_eq]
    exact Sat.out (Sat.no (decide_eq_false (by omega)) (.some rfl))
theorem e_eqPacketS (xs : List Pk) (h : Fits xs) (he : ∀ p ∈ xs, Fits p.p.e) : sh_laws_eqPacketS (xs, xs, ()) = some (true, ()) := by
  unfold sh_laws_eqPacketS
  have h1 := h
  unfold Fits at h1
  simp only [nI_eq]
  refine Sat.out (Sat.no (by simp) (sv (eq_gen xs h (fun k x hx => ?_) ?_) (.some rfl)))
  · have hk := lt_of hx
    simp (disch := omega) only [bo_laws_eqPacketS_4, at_of (τ := .pk) hx, toN, w64, nI_eq]
    exact Sat.out (Sat.gd (decide_eq_true (by omega)) (Sat.gd (inR_t (by omega) (by omega)) (Sat.gd (inR_t (by omega) (by omega)) (sv (e_eqPacket _ _ _ _ (he x (List.mem_of_getElem? hx))) (Sat.no rfl (.some rfl))))))
  · simp only [bo_laws_eqPacketS_4, nI_eq]
    exact Sat.out (Sat.no (decide_eq_false (by omega)) (.some rfl))
def MD (db : List Ls) : Prop := Mxl db ∧ ∀ l ∈ db, Mxl l.e
def SzR (left : Int) (P : Prop) (r : Int × Unit) : Prop := r = (-1, ()) ∨ ∃ z, r = (z, ()) ∧ 0 ≤ z ∧ z ≤ left ∧ P
theorem s_Bool (xs : List Bool) (left : Int) (h : Mxl xs) (h1 : 0 ≤ left ∧ left ≤ 2000000) : Sat (sh_laws_szBoolS (xs, left, ())) (SzR left (xs.length ≤ 2000000)) := by
  unfold Mxl at h
  unfold sh_laws_szBoolS
  simp (disch := omega) only [nI_eq, w64]
  refine Sat.ite (fun _ => .some (.inl rfl)) (fun h => .some (.inr ⟨_, rfl, ?_, ?_, ?_⟩))
  all_goals have h := of_decide_eq_false h
  all_goals omega
theorem s_Int (xs : List Int) (left : Int) (h : Mxl xs) (h1 : 0 ≤ left ∧ left ≤ 2000000) : Sat (sh_laws_szIntS (xs, left, ())) (SzR left (xs.length ≤ 2000000)) := by
  unfold Mxl at h
  unfold sh_laws_szIntS
  simp (disch := omega) only [nI_eq, w64]
  refine Sat.ite (fun _ => .some (.inl rfl)) (fun h => .some (.inr ⟨_, rfl, ?_, ?_, ?_⟩))
  all_goals have h := of_decide_eq_false h
  all_goals omega
theorem s_Link (n : Int) (xs : List Lk) (left : Int) (h : Mxl xs) (h1 : 0 ≤ left ∧ left ≤ 2000000) : Sat (sh_laws_szGraph (n, xs, left, ())) (SzR left (xs.length ≤ 2000000)) := by
  rw [e_szGraph n xs left h (by omega)]
  by_cases e : left - (xs.length : Int) < 0
  · rw [if_pos e]; exact .some (.inl rfl)
  · rw [if_neg e]; exact .some (.inr ⟨_, rfl, by omega, by omega, by omega⟩)
theorem s_Lsa (o s : Int) (es : List En) (left : Int) (h : Mxl es) (h1 : 0 ≤ left ∧ left ≤ 2000000) : Sat (sh_laws_szLsa (o, s, es, left, ())) (SzR left (es.length ≤ 2000000)) := by
  unfold sh_laws_szLsa
  refine sv (e_szE (es, left, ()) h (by dsimp only; omega)) ?_
  dsimp only
  by_cases e : left - (es.length : Int) < 0
  · rw [if_pos e]; exact Sat.gd rfl (.some (.inl rfl))
  · rw [if_neg e]; exact Sat.no (decide_eq_false e) (.some (.inr ⟨_, rfl, by omega, by omega, by omega⟩))
theorem s_Packet (t o s : Int) (es : List En) (left : Int) (h : Mxl es) (h1 : 0 ≤ left ∧ left ≤ 2000000) : Sat (sh_laws_szPacket (t, o, s, es, left, ())) (SzR left (es.length ≤ 2000000)) := by
  unfold sh_laws_szPacket
  refine Sat.bnd (s_Lsa o s es left h h1) ?_
  rintro _ (rfl | ⟨z, rfl, g0, g1, g2⟩)
  · exact Sat.gd rfl (.some (.inl rfl))
  · exact Sat.no (decide_eq_false (by dsimp only; omega)) (.some (.inr ⟨z, rfl, g0, g1, g2⟩))
theorem s_LsaS (xs : List Ls) (left : Int) (h : MD xs) (h1 : 0 ≤ left ∧ left ≤ 2000000) : Sat (sh_laws_szLsaS (xs, left, ())) (SzR left (xs.length ≤ 2000000 ∧ ∀ l ∈ xs, l.e.length ≤ 2000000)) := by
  have hf := h.1
  unfold Mxl at hf
  unfold sh_laws_szLsaS
  simp (disch := omega) only [nI_eq, w64]
  refine Sat.ite (fun _ => .some (.inl rfl)) (fun h0 => ?_)
  have h0 := of_decide_eq_false h0
  refine Sat.bnd (sz_gen (fun l : Ls => l.e.length ≤ 2000000) xs (left - xs.length) (by omega) (by omega) (by unfold Fits; omega) (fun k x q hx g0 g1 => ?_) (fun q => ?_)) ?_
  · have hk := lt_of hx
    simp (disch := omega) only [bo_laws_szLsaS_5, at_of (τ := .ls) hx, toN, w64, nI_eq]
    refine Sat.gd (decide_eq_true (by omega)) (Sat.gd (inR_t (by omega) (by omega)) (Sat.bnd (s_Lsa _ _ _ q (h.2 x (List.mem_of_getElem? hx)) ⟨g0, g1⟩) ?_))
    rintro _ (rfl | ⟨z, rfl, e0, e1, e2⟩)
    · exact Sat.gd rfl (.some (.inl rfl))
    · exact Sat.no (decide_eq_false (by dsimp only; omega)) (.some (.inr ⟨z, rfl, e0, e1, e2⟩))
  · simp only [bo_laws_szLsaS_5, nI_eq]
    exact Sat.out (Sat.no (decide_eq_false (by omega)) (.some rfl))
  · rintro (r | r) hr
    · obtain ⟨q, rfl, e0, e1, e2⟩ := hr
      exact .some (.inr ⟨q, rfl, e0, by omega, by omega, e2⟩)
    · obtain rfl := hr
      exact .some (.inl rfl)
theorem s_LsaSS (xs : List (List Ls)) (left : Int) (hf : Mxl xs) (h : ∀ d ∈ xs, MD d) (h1 : 0 ≤ left ∧ left ≤ 2000000) : Sat (sh_laws_szLsaSS (xs, left, ())) (SzR left (xs.length ≤ 2000000 ∧ ∀ d ∈ xs, d.length ≤ 2000000 ∧ ∀ l ∈ d, l.e.length ≤ 2000000)) := by
  have hf0 := hf
  unfold Mxl at hf0
  unfold sh_laws_szLsaSS
  simp (disch := omega) only [nI_eq, w64]
  refine Sat.ite (fun _ => .some (.inl rfl)) (fun h0 => ?_)
  have h0 := of_decide_eq_false h0
  refine Sat.bnd (sz_gen (fun d : List Ls => d.length ≤ 2000000 ∧ ∀ l ∈ d, l.e.length ≤ 2000000) xs (left - xs.length) (by omega) (by omega) (by unfold Fits; omega) (fun k x q hx g0 g1 => ?_) (fun q => ?_)) ?_
  · have hk := lt_of hx
    simp (disch := omega) only [bo_laws_szLsaSS_5, at_of (τ := .db) hx, toN, w64, nI_eq]
    refine Sat.gd (decide_eq_true (by omega)) (Sat.gd (inR_t (by omega) (by omega)) (Sat.bnd (s_LsaS x q (h x (List.mem_of_getElem? hx)) ⟨g0, g1⟩) ?_))
    rintro _ (rfl | ⟨z, rfl, e0, e1, e2⟩)
    · exact Sat.gd rfl (.some (.inl rfl))
    · exact Sat.no (decide_eq_false (by dsimp only; omega)) (.some (.inr ⟨z, rfl, e0, e1, e2⟩))
  · simp only [bo_laws_szLsaSS_5, nI_eq]
    exact Sat.out (Sat.no (decide_eq_false (by omega)) (.some rfl))
  · rintro (r | r) hr
    · obtain ⟨q, rfl, e0, e1, e2⟩ := hr
      exact .some (.inr ⟨q, rfl, e0, by omega, by omega, e2⟩)
    · obtain rfl := hr
      exact .some (.inl rfl)
theorem s_PacketS (xs : List Pk) (left : Int) (hf : Mxl xs) (h : ∀ p ∈ xs, Mxl p.p.e) (h1 : 0 ≤ left ∧ left ≤ 2000000) : Sat (sh_laws_szPacketS (xs, left, ())) (SzR left (xs.length ≤ 2000000 ∧ ∀ p ∈ xs, p.p.e.length ≤ 2000000)) := by
  have hf0 := hf
  unfold Mxl at hf0
  unfold sh_laws_szPacketS
  simp (disch := omega) only [nI_eq, w64]
  refine Sat.ite (fun _ => .some (.inl rfl)) (fun h0 => ?_)
  have h0 := of_decide_eq_false h0
  refine Sat.bnd (sz_gen (fun p : Pk => p.p.e.length ≤ 2000000) xs (left - xs.length) (by omega) (by omega) (by unfold Fits; omega) (fun k x q hx g0 g1 => ?_) (fun q => ?_)) ?_
  · have hk := lt_of hx
    simp (disch := omega) only [bo_laws_szPacketS_5, at_of (τ := .pk) hx, toN, w64, nI_eq]
    refine Sat.gd (decide_eq_true (by omega)) (Sat.gd (inR_t (by omega) (by omega)) (Sat.bnd (s_Packet _ _ _ _ q (h x (List.mem_of_getElem? hx)) ⟨g0, g1⟩) ?_))
    rintro _ (rfl | ⟨z, rfl, e0, e1, e2⟩)
    · exact Sat.gd rfl (.some (.inl rfl))
    · exact Sat.no (decide_eq_false (by dsimp only; omega)) (.some (.inr ⟨z, rfl, e0, e1, e2⟩))
  · simp only [bo_laws_szPacketS_5, nI_eq]
    exact Sat.out (Sat.no (decide_eq_false (by omega)) (.some rfl))
  · rintro (r | r) hr
    · obtain ⟨q, rfl, e0, e1, e2⟩ := hr
      exact .some (.inr ⟨q, rfl, e0, by omega, by omega, e2⟩)
    · obtain rfl := hr
      exact .some (.inl rfl)
structure MxW (w : Wd) : Prop where
  ls : Mxl w.ls
  up : Mxl w.up
  sq : Mxl w.sq
  db : Mxl w.db
  net : Mxl w.net
  dbs : ∀ d ∈ w.db, MD d
  pks : ∀ p ∈ w.net, Mxl p.p.e
structure FitW (w : Wd) : Prop where
  ls : Fits w.ls
  up : Fits w.up
  sq : Fits w.sq
  db : Fits w.db
  net : Fits w.net
  dbs : ∀ d ∈ w.db, FD d
  pks : ∀ p ∈ w.net, Fits p.p.e
structure SzW (w : Wd) : Prop where
  ls : w.ls.length ≤ 2000000
  up : w.up.length ≤ 2000000
  sq : w.sq.length ≤ 2000000
  db : w.db.length ≤ 2000000
  net : w.net.length ≤ 2000000
  dbs : ∀ d ∈ w.db, d.length ≤ 2000000 ∧ ∀ l ∈ d, l.e.length ≤ 2000000
  pks : ∀ p ∈ w.net, p.p.e.length ≤ 2000000
theorem s_World (w : Wd) (h : MxW w) : Sat (sh_laws_szWorld (w.n, w.ls, w.up, w.sq, w.db, w.net, 1048576, ())) fun r => r = (-1, ()) ∨ ∃ z, r = (z, ()) ∧ 0 ≤ z ∧ SzW w := by
  unfold sh_laws_szWorld
  refine Sat.bnd (s_Link w.n w.ls 1048576 h.ls (by omega)) ?_
  rintro _ (rfl | ⟨z1, rfl, a0, a1, a2⟩)
  · exact Sat.gd rfl (.some (.inl rfl))
  refine Sat.no (decide_eq_false (by dsimp only; omega)) (Sat.bnd (s_Bool w.up z1 h.up (by omega)) ?_)
  rintro _ (rfl | ⟨z2, rfl, b0, b1, b2⟩)
  · exact Sat.gd rfl (.some (.inl rfl))
  refine Sat.no (decide_eq_false (by dsimp only; omega)) (Sat.bnd (s_Int w.sq z2 h.sq (by omega)) ?_)
  rintro _ (rfl | ⟨z3, rfl, c0, c1, c2⟩)
  · exact Sat.gd rfl (.some (.inl rfl))
  refine Sat.no (decide_eq_false (by dsimp only; omega)) (Sat.bnd (s_LsaSS w.db z3 h.db h.dbs (by omega)) ?_)
  rintro _ (rfl | ⟨z4, rfl, d0, d1, d2, d3⟩)
  · exact Sat.gd rfl (.some (.inl rfl))
  refine Sat.no (decide_eq_false (by dsimp only; omega)) (Sat.bnd (s_PacketS w.net z4 h.net h.pks (by omega)) ?_)
  rintro _ (rfl | ⟨z5, rfl, e0, e1, e2, e3⟩)
  · exact Sat.gd rfl (.some (.inl rfl))
  exact Sat.no (decide_eq_false (by dsimp only; omega)) (.some (.inr ⟨z5, rfl, e0, ⟨a2, b2, c2, d2, e2, d3, e3⟩⟩))
theorem SzW.sm {w : Wd} (h : SzW w) : SmW w := ⟨h.ls, h.up, h.sq, h.db, h.net, fun i hi => by
    have := h.dbs (dbx w.db i) (by have e : dbx w.db i = w.db[i] := by simp [dbx, List.getD, hi]
                                   rw [e]; exact List.getElem_mem hi)
    exact ⟨by unfold Sm; omega, fun l hl => by have := this.2 l hl; unfold Sm; omega⟩, fun i hi => by
    have := h.pks _ (pkx_mem hi)
    unfold Sm; omega⟩
theorem SzW.fit {w : Wd} (h : SzW w) : FitW w := ⟨by have := h.ls; unfold Fits; omega, by have := h.up; unfold Fits; omega, by have := h.sq; unfold Fits; omega, by have := h.db; unfold Fits; omega, by have := h.net; unfold Fits; omega, fun d hd => ⟨by have := (h.dbs d hd).1; unfold Fits; omega, fun l hl => by have := (h.dbs d hd).2 l hl; unfold Fits; omega⟩, fun p hp => by have := h.pks p hp; unfold Fits; omega⟩
theorem e_toWorld (w : Wd) (h : SzW w) : sh_laws_toWorld (w.n, w.ls, w.up, w.sq, w.db, w.net, ()) = some (w.n, w.ls, w.up, w.sq, w.db, w.net, ()) := by
  have h1 := h.ls
  have h2 := h.up
  have h3 := h.sq
  have h4 := h.db
  have h5 := h.net
  unfold sh_laws_toWorld
  exact Sat.out (sv (e_toGraph w.n w.ls (by omega)) (sv (e_toBoolS w.up (by omega)) (sv (e_toIntS w.sq (by omega)) (sv (e_toLsaSS w.db (by omega) fun d hd => ⟨by have := (h.dbs d hd).1; omega, fun l hl => by have := (h.dbs d hd).2 l hl; omega⟩) (sv (e_toPacketS w.net (by omega) fun p hp => by have := h.pks p hp; omega) (.some rfl))))))
theorem e_eqWorld (w : Wd) (h : FitW w) : sh_laws_eqWorld (w.n, w.ls, w.up, w.sq, w.db, w.net, w.n, w.ls, w.up, w.sq, w.db, w.net, ()) = some (true, ()) := by
  unfold sh_laws_eqWorld
  exact Sat.out (sv (e_eqGraph _ _ h.ls) (Sat.no rfl (sv (e_eqBoolS _ h.up) (Sat.no rfl (sv (e_eqIntS _ h.sq) (Sat.no rfl (sv (e_eqLsaSS _ h.db h.dbs) (Sat.no rfl (sv (e_eqPacketS _ h.net h.pks) (Sat.no rfl (.some rfl)))))))))))
theorem law_ExactWorldValid (w : Wd) (h : MxW w) : sh_laws_FnExactWorldValid (w.n, w.ls, w.up, w.sq, w.db, w.net, ()) = some (true, ()) := by
  unfold sh_laws_FnExactWorldValid
  refine Sat.out (Sat.bnd (s_World w h) ?_)
  rintro _ (rfl | ⟨z, rfl, h0, hs⟩)
  · exact Sat.gd rfl (.some rfl)
  have et := e_toWorld w hs
  refine Sat.no (decide_eq_false (by dsimp only; omega)) (sv et (sv (e_sWorldValid hs.sm) (sv et (sv (e_WorldValid hs.sm) (Sat.no (by simp) ?_)))))
  exact sv et (sv (e_eqWorld w hs.fit) (Sat.no rfl (.some rfl)))
end Go.Proofs.Ythcckenjkicmgaa
end
