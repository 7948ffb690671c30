/- Part 7 of the proof: Pe1 Pe2 Pz Px Pw1 Pw Pw2 Pw3 Pw4 Pw5 Pw8 Pw9 Pe3 Pe4 Pe5 Pe6 Pe7 Pe8 Pe9 PeA PeB Pc PeC PeD PeE PeF PeI PeJ PeK. -/
import Derived.Test.YtojdflifijpffaaGreatQr6
set_option linter.unusedSimpArgs false
set_option linter.unusedVariables false
section
namespace Go.Proofs.YtojdflifijpffaaGreat
open Go.RowKit
set_option linter.unusedSimpArgs false
set_option linter.unusedVariables false
set_option maxRecDepth 100000

instance : DecidableEq En := fun a b => decidable_of_iff (a.n = b.n ∧ a.c = b.c) ⟨fun ⟨h1, h2⟩ => by cases a; cases b; simp_all, fun h => by subst h; exact ⟨rfl, rfl⟩⟩
instance : DecidableEq Ls := fun a b => decidable_of_iff (a.o = b.o ∧ a.s = b.s ∧ a.e = b.e) ⟨fun ⟨h1, h2, h3⟩ => by cases a; cases b; simp_all, fun h => by subst h; exact ⟨rfl, rfl, rfl⟩⟩
abbrev Sm {α : Type} (l : List α) : Prop := l.length ≤ 16000000
def SmD (db : List Ls) : Prop := Sm db ∧ ∀ l ∈ db, Sm l.e
theorem SmD.fits {db : List Ls} (h : SmD db) : Fits db := by have := h.1; unfold Fits; unfold Sm at this; omega
theorem SmD.fe {db : List Ls} (h : SmD db) : ∀ l ∈ db, Fits l.e := fun l hl => by have := h.2 l hl; unfold Fits; unfold Sm at this; omega
theorem lsa_mem {db : List Ls} {k : Nat} (h : k < db.length) : lsa db k ∈ db := by rw [lsa_get h]; exact List.getElem_mem h
theorem take_lsa {db : List Ls} {k : Nat} (h : k < db.length) : db.take k ++ [⟨(lsa db k).o, (lsa db k).s, (lsa db k).e⟩] = db.take (k + 1) := by
  rw [List.take_add_one, List.getElem?_eq_getElem h, lsa_get h]; rfl
theorem e_copyLsa (o s : Int) (es : List En) (h : Sm es) : sh_impl_copyLsa (o, s, es, ()) = some (o, s, es, ()) := by
  unfold sh_impl_copyLsa sh_slices_Clone_impl_End_impl_End
  rw [decide_eq_true (by unfold Sm at h; dsimp only; omega)]
  rfl
theorem e_l11One (o s : Int) (es : List En) (h : Sm es) : sh_spec_l11One (o, s, es, ()) = some (o, s, es, ()) := by
  unfold sh_spec_l11One
  rw [decide_eq_true (by unfold Sm at h; simp; omega)]
  rfl
theorem e_copyDb (db : List Ls) (h : SmD db) : sh_impl_copyDb (db, ()) = some (db, ()) := by
  have h1 := h.1
  unfold Sm at h1
  unfold sh_impl_copyDb
  refine Sat.out (Sat.bnd (R := fun r => match r with | .inl x => x = (db, ()) | .inr _ => False) ?_ ?_)
  · refine Sat.count db.length (fun k t => t = (db, (db.length : Int), (k : Int), db.take k, ())) ?_ (Nat.zero_le _) (fuel_lt (by omega)) (by simp [nI_eq])
    rintro k t hk rfl
    by_cases hlt : k < db.length
    · simp (disch := omega) only [bo_impl_copyDb_3, at_ls, toN, w64, e_copyLsa _ _ _ (h.2 _ (lsa_mem hlt)), Option.bind_some]
      refine Sat.gd (decide_eq_true (by omega)) (Sat.gd (inR_t (by omega) (by omega)) (Sat.gd (decide_eq_true (by simp; omega)) (.some ⟨hlt, ?_⟩)))
      rw [take_lsa hlt]
      rfl
    · obtain rfl : k = db.length := by omega
      unfold bo_impl_copyDb_3
      simp only [decide_eq_false (show ¬ (db.length : Int) < db.length by omega), cond_false, List.take_length]
      exact .some rfl
  · rintro (r | r) hr
    case inr => exact hr.elim
    obtain rfl := hr
    exact .some rfl
theorem e_l11Copy (db : List Ls) (h : SmD db) : sh_spec_l11Copy (db, ()) = some (db, ()) := by
  have h1 := h.1
  unfold Sm at h1
  unfold sh_spec_l11Copy
  refine Sat.out (Sat.bnd (R := fun r => match r with | .inl x => x = (db, ()) | .inr _ => False) ?_ ?_)
  · refine Sat.count db.length (fun k t => t = (db, (k : Int), db.take k, ())) ?_ (Nat.zero_le _) (fuel_lt (by omega)) (by simp [nI_eq])
    rintro k t hk rfl
    by_cases hlt : k < db.length
    · simp (disch := omega) only [bo_spec_l11Copy_3, at_ls, toN, w64, nI_eq, e_l11One _ _ _ (h.2 _ (lsa_mem hlt)), Option.bind_some]
      refine Sat.gd (decide_eq_true (by omega)) (Sat.gd (inR_t (by omega) (by omega)) (Sat.gd (decide_eq_true (by simp; omega)) (.some ⟨hlt, ?_⟩)))
      rw [take_lsa hlt]
      rfl
    · obtain rfl : k = db.length := by omega
      unfold bo_spec_l11Copy_3
      simp only [nI_eq, decide_eq_false (show ¬ (db.length : Int) < db.length by omega), cond_false, List.take_length]
      exact .some rfl
  · rintro (r | r) hr
    case inr => exact hr.elim
    obtain rfl := hr
    exact .some rfl
theorem eqI (a b c d : Int) : eqInts [a, b] [c, d] = decide ((⟨a, b⟩ : En) = ⟨c, d⟩) := by
  by_cases h1 : a = c <;> by_cases h2 : b = d <;> simp [eqInts, h1, h2]
theorem ens_ext {es fs : List En} (hl : es.length = fs.length) (h : ∀ i, i < es.length → en es i = en fs i) : es = fs := by
  refine List.ext_getElem hl fun i h1 h2 => ?_
  have := h i h1
  rwa [en_get h1, en_get h2] at this
theorem eta_en (e : En) : (⟨e.n, e.c⟩ : En) = e := rfl
theorem e_Equal (es fs : List En) (ha : Fits es) (hb : Fits fs) : sh_slices_Equal_impl_End_impl_End (es, fs, ()) = some (decide (es = fs), ()) := by
  unfold sh_slices_Equal_impl_End_impl_End
  by_cases hl : es.length = fs.length
  case neg =>
    have : es ≠ fs := fun e => hl (by rw [e])
    have hl2 : ¬ (es.length : Int) = fs.length := by omega
    simp [nI_eq, hl2, this]
  simp only [nI_eq, hl, decide_true, Bool.not_true, cond_false]
  try rw [← hl]
  refine Sat.out (Sat.bnd (R := fun r => match r with | .inl _ => es = fs | .inr y => y = (false, ()) ∧ es ≠ fs) ?_ ?_)
  · refine Sat.count es.length (fun k t => t = (es, fs, (es.length : Int), (k : Int), ()) ∧ ∀ i, i < k → en es i = en fs i) ?_ (Nat.zero_le _) (fuel_lt (by omega)) ⟨rfl, fun i hi => by omega⟩
    rintro k t hk ⟨rfl, hok⟩
    simp (disch := omega) only [bo_slices_Equal_impl_End_impl_End_4, at_en, toN, w64, nI_eq, eqI, eta_en]
    refine Sat.ite (fun h => ?_) (fun h => ?_)
    · have h := of_decide_eq_true h
      refine Sat.gd (inR_t (by omega) (by omega)) (Sat.gd (inR_t (by omega) (by omega)) (Sat.ite (fun h2 => ?_) (fun h2 => ?_)))
      · have h2 : ¬ en es k = en fs k := by simpa using h2
        exact .some ⟨rfl, fun e => h2 (by rw [e])⟩
      · have h2 : en es k = en fs k := by simpa using h2
        exact .some ⟨by omega, rfl, fun i hi => by
          by_cases e : i < k
          · exact hok i e
          · obtain rfl : i = k := by omega
            exact h2⟩
    · have h := of_decide_eq_false h
      exact .some (ens_ext hl fun i hi => hok i (by omega))
  · rintro (r | r) hr
    · have hr : es = fs := hr
      exact .some (by rw [decide_eq_true hr])
    · obtain ⟨rfl, hr⟩ := hr
      exact .some (by rw [decide_eq_false hr])
theorem e_sameEnds (es fs : List En) (ha : Fits es) (hb : Fits fs) : sh_laws_sameEnds (es, fs, ()) = some (decide (es = fs), ()) := by
  unfold sh_laws_sameEnds
  by_cases hl : es.length = fs.length
  case neg =>
    have : es ≠ fs := fun e => hl (by rw [e])
    have hl2 : ¬ (es.length : Int) = fs.length := by omega
    simp [nI_eq, hl2, this]
  simp only [nI_eq, hl, decide_true, Bool.not_true, cond_false]
  try rw [← hl]
  refine Sat.out (Sat.bnd (R := fun r => match r with | .inl _ => es = fs | .inr y => y = (false, ()) ∧ es ≠ fs) ?_ ?_)
  · refine Sat.count es.length (fun k t => t = (es, fs, (k : Int), ()) ∧ ∀ i, i < k → en es i = en fs i) ?_ (Nat.zero_le _) (fuel_lt (by omega)) ⟨rfl, fun i hi => by omega⟩
    rintro k t hk ⟨rfl, hok⟩
    simp (disch := omega) only [bo_laws_sameEnds_4, at_en, toN, w64, nI_eq, eqI, eta_en]
    refine Sat.ite (fun h => ?_) (fun h => ?_)
    · have h := of_decide_eq_true h
      refine Sat.gd (inR_t (by omega) (by omega)) (Sat.gd (inR_t (by omega) (by omega)) (Sat.ite (fun h2 => ?_) (fun h2 => ?_)))
      · have h2 : ¬ en es k = en fs k := by simpa using h2
        exact .some ⟨rfl, fun e => h2 (by rw [e])⟩
      · have h2 : en es k = en fs k := by simpa using h2
        exact .some ⟨by omega, rfl, fun i hi => by
          by_cases e : i < k
          · exact hok i e
          · obtain rfl : i = k := by omega
            exact h2⟩
    · have h := of_decide_eq_false h
      exact .some (ens_ext hl fun i hi => hok i (by omega))
  · rintro (r | r) hr
    · have hr : es = fs := hr
      exact .some (by rw [decide_eq_true hr])
    · obtain ⟨rfl, hr⟩ := hr
      exact .some (by rw [decide_eq_false hr])
theorem e_sameLsa (a b : Ls) (ha : Fits a.e) (hb : Fits b.e) : sh_impl_sameLsa (a.o, a.s, a.e, b.o, b.s, b.e, ()) = some (decide (a = b), ()) := by
  unfold sh_impl_sameLsa
  cases a with | mk o s e =>
  cases b with | mk o' s' e' =>
  dsimp only
  by_cases h1 : o = o' <;> by_cases h2 : s = s' <;> simp [h1, h2, e_Equal e e' ha hb]
theorem e_sameLsaL (a b : Ls) (ha : Fits a.e) (hb : Fits b.e) : sh_laws_sameLsa (a.o, a.s, a.e, b.o, b.s, b.e, ()) = some (decide (a = b), ()) := by
  unfold sh_laws_sameLsa
  cases a with | mk o s e =>
  cases b with | mk o' s' e' =>
  dsimp only
  by_cases h1 : o = o' <;> by_cases h2 : s = s' <;> simp [h1, h2, e_sameEnds e e' ha hb]
theorem e_l51Same (a b : Ls) (ha : Fits a.e) (hb : Fits b.e) : sh_spec_l51Same (a.o, a.s, a.e, b.o, b.s, b.e, ()) = some (decide (a = b), ()) := by
  unfold sh_spec_l51Same
  cases a with | mk o s es =>
  cases b with | mk o' s' fs =>
  dsimp only at *
  by_cases h1 : o = o'
  case neg => simp [h1]
  by_cases h2 : s = s'
  case neg => simp [h2]
  subst h1 h2
  by_cases hl : es.length = fs.length
  case neg =>
    have : es ≠ fs := fun e => hl (by rw [e])
    have hl2 : ¬ (es.length : Int) = fs.length := by omega
    simp [nI_eq, hl2, this]
  simp only [nI_eq, hl, decide_true, Bool.not_true, cond_false]
  refine Sat.out (Sat.bnd (R := fun r => match r with | .inl _ => es = fs | .inr y => y = (false, ()) ∧ es ≠ fs) ?_ ?_)
  · refine Sat.count es.length (fun k t => t = ((k : Int), o, s, es, o, s, fs, ()) ∧ ∀ i, i < k → en es i = en fs i) ?_ (Nat.zero_le _) (fuel_lt (by omega)) ⟨rfl, fun i hi => by omega⟩
    rintro k t hk ⟨rfl, hok⟩
    simp (disch := omega) only [bo_spec_l51Same_4, at_en, toN, w64, nI_eq, eqI, eta_en]
    refine Sat.ite (fun h => ?_) (fun h => ?_)
    · have h := of_decide_eq_true h
      refine Sat.gd (inR_t (by omega) (by omega)) (Sat.gd (inR_t (by omega) (by omega)) (Sat.ite (fun h2 => ?_) (fun h2 => ?_)))
      · have h2 : ¬ en es k = en fs k := by simpa using h2
        exact .some ⟨rfl, fun e => h2 (by rw [e])⟩
      · have h2 : en es k = en fs k := by simpa using h2
        exact .some ⟨by omega, rfl, fun i hi => by
          by_cases e : i < k
          · exact hok i e
          · obtain rfl : i = k := by omega
            exact h2⟩
    · have h := of_decide_eq_false h
      exact .some (ens_ext hl fun i hi => hok i (by omega))
  · rintro (r | r) hr
    · have hr : es = fs := hr
      exact .some (by rw [decide_eq_true (by rw [hr])])
    · obtain ⟨rfl, hr⟩ := hr
      exact .some (by rw [decide_eq_false (by intro e; injection e with _ _ e; exact hr e)])
theorem e_sameDbSelf (db : List Ls) (h : SmD db) : sh_laws_sameDb (db, db, ()) = some (true, ()) := by
  have h1 := h.1
  unfold Sm at h1
  unfold sh_laws_sameDb
  simp only [decide_true, Bool.not_true, cond_false]
  refine Sat.out (Sat.bnd (R := fun r => match r with | .inl _ => True | .inr _ => False) ?_ ?_)
  · refine Sat.count db.length (fun k t => t = (db, db, (k : Int), ())) ?_ (Nat.zero_le _) (fuel_lt (by omega)) rfl
    rintro k t hk rfl
    simp (disch := omega) only [bo_laws_sameDb_4, at_ls, toN, w64, nI_eq]
    refine Sat.ite (fun hh => ?_) (fun hh => .some trivial)
    have hh := of_decide_eq_true hh
    have hf := h.fe _ (lsa_mem (show k < db.length by omega))
    refine Sat.gd (inR_t (by omega) (by omega)) (Sat.gd (inR_t (by omega) (by omega)) ?_)
    rw [e_sameLsaL _ _ hf hf]
    simp only [decide_true, Option.bind_some, Bool.not_true, cond_false]
    exact .some ⟨by omega, rfl⟩
  · rintro (r | r) hr
    case inr => exact hr.elim
    exact .some rfl
def sqOf (db : List Ls) (o : Int) : Int := match fd db o with | some l => l.s | none => 0
theorem e_seqOf (db : List Ls) (o : Int) (hl : Fits db) : sh_laws_seqOf (db, o, ()) = some (sqOf db o, ()) := by
  unfold sh_laws_seqOf
  refine Sat.out (Sat.bnd (R := fun r => match r with | .inl _ => fd db o = none | .inr y => ∃ l, fd db o = some l ∧ y = (l.s, ())) ?_ ?_)
  · refine Sat.count db.length (fun k t => t = (db, o, (k : Int), ()) ∧ ∀ i, i < k → (lsa db i).o ≠ o) ?_ (Nat.zero_le _) (fuel_lt (by omega)) ⟨rfl, fun i hi => by omega⟩
    rintro k t hk ⟨rfl, hok⟩
    simp (disch := omega) only [bo_laws_seqOf_2, at_ls, toN, w64, nI_eq]
    repeat' (first
      | refine Sat.some ?_
      | fail
      | (refine Sat.gd (by first | exact inR_t (by omega) (by omega) | (simp (disch := omega) only [w64]; exact inR_t (by omega) (by omega))) ?_)
      | (refine Sat.ite (fun h => ?_) (fun h => ?_) <;> try simp only [decide_eq_true_eq, decide_eq_false_iff_not, Bool.not_eq_true', Bool.not_eq_false', inB_i, inB_j, Bool.and_eq_true, Bool.or_eq_true, Bool.and_eq_false_iff, Bool.or_eq_false_iff, El] at h))
    all_goals try dsimp only
    · have hlt : k < db.length := by omega
      refine ⟨lsa db k, ?_, rfl⟩
      unfold fd
      rw [lsa_get hlt]
      exact find_hit hlt (decide_eq_true (by rw [← lsa_get hlt]; assumption)) fun i hi hik => decide_eq_false (by rw [← lsa_get hi]; exact hok i hik)
    · refine ⟨by omega, rfl, fun i hi => ?_⟩
      by_cases e : i < k
      · exact hok i e
      · obtain rfl : i = k := by omega
        assumption
    · exact find_miss fun i hi => decide_eq_false (by rw [← lsa_get hi]; exact hok i (by omega))
  · rintro (r | r) hr
    · have hr : fd db o = none := hr
      exact .some (by unfold sqOf; rw [hr])
    · obtain ⟨l, h1, rfl⟩ := hr
      exact .some (by unfold sqOf; rw [h1])
theorem SmD.put {db : List Ls} (h : SmD db) {l : Ls} (hl : Sm l.e) (hs : db.length ≤ 1000000) : SmD (putD db l) ∧ (putD db l).length ≤ db.length + 1 := by
  have hlen : (putL db l).length ≤ db.length + 1 := by
    unfold putL
    have h1 : ∀ ds : List Ls, (ds.filter fun x => decide (x.o < l.o)).length + (ds.filter fun x => decide (l.o < x.o)).length ≤ ds.length := fun ds => by
      induction ds with
      | nil => simp
      | cons x r ih =>
        simp only [List.filter_cons]
        by_cases a : x.o < l.o
        · have b : ¬ l.o < x.o := by omega
          simp [a, b]; omega
        · by_cases b : l.o < x.o
          · simp [a, b]; omega
          · simp [a, b]; omega
    have := h1 db
    simp only [List.length_append, List.length_cons]
    omega
  unfold putD
  split
  · refine ⟨⟨by unfold Sm; omega, fun x hx => ?_⟩, hlen⟩
    rcases putL_mem.1 hx with rfl | ⟨hx, _⟩
    · exact hl
    · exact h.2 x hx
  · exact ⟨h, by omega⟩
theorem e_put (db : List Ls) (l : Ls) (hs : SrtP db) (h : SmD db) (hl : Sm l.e) (hn : db.length ≤ 1000000) : sh_impl_put (db, l.o, l.s, l.e, ()) = some (putC db l, putD db l, ()) := by
  have hsrt : Srt db := srt_iff.2 hs
  obtain ⟨i, hi, hp⟩ := e_dbPlace db l.o hsrt (by omega)
  unfold sh_impl_put
  dsimp only
  simp only [e_copyDb db h, Option.bind_some, hp, e_copyLsa _ _ _ hl]
  have ins : hasAt db l.o i = false → sh_slices_Insert_impl_Lsa_impl_Lsa ((i : Int), db, [l], ()) = some (putL db l, ()) := fun hh => by
    have := hi.1
    unfold sh_slices_Insert_impl_Lsa_impl_Lsa
    simp only [oneL]
    rw [decide_eq_true (by omega)]
    simp only [cond_true, Int.toNat_natCast]
    rw [put_insert hs hi hh]
  cases hh : hasAt db l.o i with
  | false =>
    have hfd : fd db l.o = none := by
      refine fd_none.2 fun x hx e => ?_
      obtain ⟨j, hj, rfl⟩ := List.getElem_of_mem hx
      rw [← lsa_get hj] at e
      have h1 : i ≤ j := by
        rcases Nat.lt_or_ge j i with h1 | h1
        · have := hi.2.1 j h1; omega
        · exact h1
      have h2 : i < db.length := by omega
      have h3 := hi.2.2 i (Nat.le_refl _) h2
      have h4 : (lsa db i).o ≤ (lsa db j).o := by
        rcases Nat.eq_or_lt_of_le h1 with h1 | h1
        · subst h1; omega
        · have := hsrt i j h1 hj; omega
      have : hasAt db l.o i = true := decide_eq_true ⟨h2, by omega⟩
      rw [hh] at this; cases this
    have hc : putC db l = 0 := by unfold putC; rw [hfd]
    simp only [cond_false, ins hh, Option.bind_some]
    unfold putD
    rw [hc, if_pos rfl]
  | true =>
    obtain ⟨h2, h3⟩ := of_decide_eq_true hh
    have hfd : fd db l.o = some (lsa db i) := (fd_some hs).2 ⟨lsa_mem h2, h3⟩
    have hin : inR (i : Int) db.length = true := inR_t (by omega) (by omega)
    simp only [cond_true, hin, at_ls, toN]
    have hpc : putC db l = if (lsa db i).s = l.s then 1 else if l.s < (lsa db i).s then 2 else 0 := by unfold putC; rw [hfd]
    unfold putD
    rw [hpc]
    by_cases e1 : (lsa db i).s = l.s
    · simp [e1]
    · by_cases e2 : l.s < (lsa db i).s
      · simp [e1, e2]
      · have := put_set hs h2 h3
        simp [e1, e2, ← this]
end Go.Proofs.YtojdflifijpffaaGreat
end
section
namespace Go.Proofs.YtojdflifijpffaaGreat
open Go.RowKit
set_option linter.unusedSimpArgs false
set_option linter.unusedVariables false
set_option maxRecDepth 100000

theorem filter_snoc {db : List Ls} {k : Nat} (p : Ls → Bool) (h : k < db.length) : (db.take (k + 1)).filter p = (db.take k).filter p ++ if p (lsa db k) then [lsa db k] else [] := by
  rw [List.take_add_one, List.getElem?_eq_getElem h, List.filter_append, lsa_get h]
  cases hp : p db[k] <;> simp [hp]
theorem filter_take_len {db : List Ls} (p : Ls → Bool) (k : Nat) : ((db.take k).filter p).length ≤ db.length := Nat.le_trans (List.length_filter_le _ _) (by rw [List.length_take]; omega)
theorem low_take {db : List Ls} (hs : Srt db) {o : Int} {k : Nat} (h1 : ∀ i, i < k → (lsa db i).o < o) (h2 : k < db.length → ¬ (lsa db k).o < o) (hk : k ≤ db.length) : db.take k = db.filter fun x => decide (x.o < o) := by
  have e1 : (db.take k).filter (fun x => decide (x.o < o)) = db.take k := by
    refine List.filter_eq_self.2 fun x hx => ?_
    obtain ⟨i, hi, rfl⟩ := List.getElem_of_mem hx
    have hi' : i < k := by rw [List.length_take] at hi; omega
    have := h1 i hi'
    rw [lsa_get (by omega)] at this
    simpa [List.getElem_take] using this
  have e2 : (db.drop k).filter (fun x => decide (x.o < o)) = [] := by
    refine List.filter_eq_nil_iff.2 fun x hx => ?_
    obtain ⟨i, hi, rfl⟩ := List.getElem_of_mem hx
    have hi' : k + i < db.length := by rw [List.length_drop] at hi; omega
    have h3 := h2 (by omega)
    have h4 : (lsa db k).o ≤ (lsa db (k + i)).o := by
      rcases Nat.eq_zero_or_pos i with e | e
      · subst e; exact Int.le_refl _
      · have := hs k (k + i) (by omega) hi'; omega
    rw [lsa_get hi'] at h4
    simp only [List.getElem_drop, decide_eq_true_eq]
    omega
  calc db.take k = (db.take k).filter (fun x => decide (x.o < o)) ++ (db.drop k).filter (fun x => decide (x.o < o)) := by rw [e1, e2, List.append_nil]
    _ = db.filter fun x => decide (x.o < o) := by rw [← List.filter_append, List.take_append_drop]
theorem put8 (db : List Ls) (l : Ls) (hs : Srt db) (h : SmD db) : Sat (lp bo_spec_l11Put_8 fuel (db, 0, l.o, l.s, l.e, [], ())) fun r => match r with | .inl x => x = (db, l.o, l.s, l.e, db.filter (fun x => decide (x.o < l.o)), ()) | .inr _ => False := by
  have h1 := h.1
  unfold Sm at h1
  refine Sat.count db.length (fun k t => t = (db, (k : Int), l.o, l.s, l.e, db.take k, ()) ∧ ∀ i, i < k → (lsa db i).o < l.o) ?_ (Nat.zero_le _) (fuel_lt (by omega)) ⟨by simp, fun i hi => by omega⟩
  rintro k t hk ⟨rfl, hok⟩
  by_cases hlt : k < db.length
  · simp (disch := omega) only [bo_spec_l11Put_8, at_ls, toN, w64, nI_eq, e_l11One _ _ _ (h.2 _ (lsa_mem hlt)), Option.bind_some]
    refine Sat.gd (decide_eq_true (by omega)) (Sat.gd (inR_t (by omega) (by omega)) (Sat.ite (fun hc => ?_) (fun hc => ?_)))
    · have hc := of_decide_eq_true hc
      refine Sat.gd (inR_t (by omega) (by omega)) (Sat.gd (decide_eq_true (by simp; omega)) (.some ⟨hlt, ?_, fun i hi => ?_⟩))
      · rw [take_lsa hlt]; rfl
      · by_cases e : i < k
        · exact hok i e
        · obtain rfl : i = k := by omega
          exact hc
    · have hc := of_decide_eq_false hc
      exact .some (by rw [low_take hs hok (fun _ => hc) hk])
  · obtain rfl : k = db.length := by omega
    unfold bo_spec_l11Put_8
    simp only [nI_eq, decide_eq_false (show ¬ (db.length : Int) < db.length by omega), cond_false]
    exact .some (by rw [low_take hs hok (fun h => by omega) hk])
theorem put13 (db : List Ls) (l : Ls) (out : List Ls) (h : SmD db) (ho : out.length ≤ 17000000) : Sat (lp bo_spec_l11Put_13 fuel (db, 0, l.o, l.s, l.e, out, ())) fun r => match r with | .inl x => x = (out ++ db.filter (fun x => decide (l.o < x.o)), ()) | .inr _ => False := by
  have h1 := h.1
  unfold Sm at h1
  refine Sat.count db.length (fun k t => t = (db, (k : Int), l.o, l.s, l.e, out ++ (db.take k).filter (fun x => decide (l.o < x.o)), ())) ?_ (Nat.zero_le _) (fuel_lt (by omega)) (by simp)
  rintro k t hk rfl
  by_cases hlt : k < db.length
  · have hfl := filter_take_len (db := db) (fun x => decide (l.o < x.o)) k
    simp (disch := omega) only [bo_spec_l11Put_13, at_ls, toN, w64, nI_eq, e_l11One _ _ _ (h.2 _ (lsa_mem hlt)), Option.bind_some]
    refine Sat.gd (decide_eq_true (by omega)) (Sat.gd (inR_t (by omega) (by omega)) (Sat.ite (fun hc => ?_) (fun hc => ?_)))
    · have hc' := of_decide_eq_true hc
      refine Sat.gd (inR_t (by omega) (by omega)) (Sat.gd (decide_eq_true (by simp only [List.length_append, List.length_singleton]; omega)) (.some ⟨hlt, ?_⟩))
      rw [filter_snoc _ hlt, if_pos hc, ← List.append_assoc]
      rfl
    · refine .some ⟨hlt, ?_⟩
      rw [filter_snoc _ hlt, if_neg (by rw [hc]; simp), List.append_nil]
      rfl
  · obtain rfl : k = db.length := by omega
    unfold bo_spec_l11Put_13
    simp only [nI_eq, decide_eq_false (show ¬ (db.length : Int) < db.length by omega), cond_false, List.take_length]
    exact .some rfl
theorem e_l11Put (db : List Ls) (l : Ls) (hs : SrtP db) (h : SmD db) (hl : Sm l.e) : sh_spec_l11Put (db, l.o, l.s, l.e, ()) = some (putC db l, putD db l, ()) := by
  have hsrt : Srt db := srt_iff.2 hs
  have h1 := h.1
  unfold Sm at h1
  have hfin : Sat ((lp bo_spec_l11Put_8 fuel (db, 0, l.o, l.s, l.e, [], ())).bind fun r3 => (match r3 with | .inl x4 => (sh_spec_l11One ((x4.2.1, (x4.2.2.1, (x4.2.2.2.1, ()))))).bind fun r5 => (bif decide (((List.length x4.2.2.2.2.1 + List.length ([(Ls.mk r5.1 r5.2.1 r5.2.2.1)])) ≤ (33554432 : Nat))) then (lp bo_spec_l11Put_13 fuel ((x4.1, ((0 : Int), (x4.2.1, (x4.2.2.1, (x4.2.2.2.1, ((x4.2.2.2.2.1 ++ [(Ls.mk r5.1 r5.2.1 r5.2.2.1)]), ())))))))).bind fun r6 => (match r6 with | .inl x7 => some (((0 : Int), x7.1, ())) | .inr _ => none) else none) | .inr _ => none)) (· = (0, putL db l, ())) := by
    refine Sat.bnd (put8 db l hsrt h) ?_
    rintro (r | r) hr
    case inr => exact hr.elim
    obtain rfl := hr
    dsimp only
    rw [e_l11One _ _ _ hl]
    have hfl : (db.filter fun x => decide (x.o < l.o)).length ≤ db.length := List.length_filter_le _ _
    simp only [Option.bind_some]
    refine Sat.gd (decide_eq_true (by simp only [List.length_singleton]; omega)) (Sat.bnd (put13 db l _ h (by simp only [List.length_append, List.length_singleton]; omega)) ?_)
    rintro (r | r) hr
    case inr => exact hr.elim
    obtain rfl := hr
    refine .some ?_
    unfold putL
    simp
  have hfin := hfin.out
  unfold sh_spec_l11Put
  dsimp only
  rw [e_l11Find db l.o h.fits]
  unfold putD putC
  cases hfd : fd db l.o with
  | none =>
    simp only [Option.bind_some, cond_false]
    exact hfin
  | some old =>
    simp only [Option.bind_some, cond_true, e_l11Copy db h]
    by_cases e1 : old.s = l.s
    · simp only [e1, decide_true, cond_true]
      simp
    · by_cases e2 : l.s < old.s
      · simp only [e1, e2, decide_true, decide_false, cond_true, cond_false]
        simp
      · simp only [e1, e2, decide_false, cond_false]
        exact hfin
theorem e_sDbValid (db : List Ls) (hl : Fits db) (he : ∀ l ∈ db, Fits l.e) : sh_spec_DbValid (db, ()) = some (dbv db, ()) := by
  unfold sh_spec_DbValid
  refine Sat.out (Sat.bnd (R := fun r => match r with | .inl _ => dbv db = true | .inr y => y.1 = false ∧ dbv db = false) ?_ ?_)
  · refine Sat.count db.length (fun k t => t = (db, (k : Int), ()) ∧ ∀ i, i < k → LsV (lsa db i) ∧ (0 < i → (lsa db (i - 1)).o < (lsa db i).o)) ?_ (Nat.zero_le _) (fuel_lt (by omega)) ⟨by simp, fun i hi => by omega⟩
    rintro k t hk ⟨rfl, hok⟩
    by_cases hlt : k < db.length
    · have hf : Fits (lsa db k).e := he _ (by rw [lsa_get hlt]; exact List.getElem_mem hlt)
      simp (disch := omega) only [bo_spec_DbValid_2, at_ls, toN, toN1, w64, nI_eq, e_sLsaValid _ _ _ hf, Option.bind_some]
      repeat' (first
        | refine Sat.some ?_
        | fail
        | (refine Sat.gd (by first | exact inR_t (by omega) (by omega) | (simp (disch := omega) only [w64]; exact inR_t (by omega) (by omega))) ?_)
        | (refine Sat.ite (fun h => ?_) (fun h => ?_) <;> try simp only [decide_eq_true_eq, decide_eq_false_iff_not, Bool.not_eq_true', Bool.not_eq_false', inB_i, inB_j, Bool.and_eq_true, Bool.or_eq_true, Bool.and_eq_false_iff, Bool.or_eq_false_iff, El] at h))
      all_goals try dsimp only
      all_goals first
        | (refine ⟨rfl, decide_eq_false fun g => ?_⟩
           have := g k hlt
           first | exact of_decide_eq_false (by assumption) this.1 | omega)
        | (refine ⟨by omega, rfl, fun i hi => ?_⟩
           by_cases e : i < k
           · exact hok i e
           · obtain rfl : i = k := by omega
             exact ⟨of_decide_eq_true (by assumption), fun _ => by omega⟩)
        | omega
    · obtain rfl : k = db.length := by omega
      unfold bo_spec_DbValid_2
      simp only [nI_eq, decide_eq_false (show ¬ (db.length : Int) < db.length by omega), cond_false]
      exact .some (decide_eq_true hok)
  · rintro (r | r) hr
    · have hr : dbv db = true := hr
      exact .some (by rw [hr])
    · obtain ⟨b, u⟩ := r
      have hr : b = false ∧ dbv db = false := hr
      exact .some (by rw [hr.1, hr.2])
theorem e_DbPut (db : List Ls) (l : Ls) (h : SmD db) (hl : Sm l.e) : sh_spec_DbPut (db, l.o, l.s, l.e, ()) = some (if DbV db ∧ LsV l then (putC db l, putD db l, ()) else (3, [], ())) := by
  unfold sh_spec_DbPut
  dsimp only
  rw [e_sDbValid db h.fits h.fe]
  by_cases h1 : DbV db
  · have hb : dbv db = true := decide_eq_true h1
    simp only [hb, Option.bind_some, Bool.not_true, cond_false]
    rw [e_sLsaValid _ _ _ (by unfold Fits; unfold Sm at hl; omega)]
    by_cases h2 : LsV l
    · have hc : lsv l.o l.s l.e = true := lsv_t h2
      simp only [hc, Option.bind_some, Bool.not_true, cond_false, e_l11Put db l (srt_iff.1 h1.srt) h hl]
      rw [if_pos ⟨h1, h2⟩]
    · have hc : lsv l.o l.s l.e = false := lsv_f h2
      simp only [hc, Option.bind_some, Bool.not_false, cond_true]
      rw [if_neg (fun hh => h2 hh.2)]
  · have hb : dbv db = false := decide_eq_false h1
    simp only [hb, Option.bind_some, Bool.not_false, cond_true]
    rw [if_neg (fun hh => h1 hh.1)]
theorem merge_take {a b : List Ls} {k : Nat} (h : k < b.length) : mergeD a (b.take (k + 1)) = putD (mergeD a (b.take k)) (lsa b k) := by
  unfold mergeD
  rw [List.take_add_one, List.getElem?_eq_getElem h, lsa_get h, List.foldl_append]
  rfl
theorem merge_sm {a b : List Ls} (ha : SmD a) (hb : SmD b) (hla : a.length ≤ 500000) (hlb : b.length ≤ 400000) : ∀ k, k ≤ b.length → SmD (mergeD a (b.take k)) ∧ (mergeD a (b.take k)).length ≤ a.length + k
  | 0, _ => ⟨by simpa [mergeD] using ha, by simp [mergeD]⟩
  | k + 1, hk => by
    obtain ⟨i1, i2⟩ := merge_sm ha hb hla hlb k (by omega)
    rw [merge_take (by omega)]
    have := i1.put (hb.2 _ (lsa_mem (show k < b.length by omega))) (by omega)
    exact ⟨this.1, by omega⟩
theorem e_merge (a b : List Ls) (hs : SrtP a) (ha : SmD a) (hb : SmD b) (hla : a.length ≤ 500000) (hlb : b.length ≤ 400000) : sh_impl_merge (a, b, ()) = some (mergeD a b, ()) := by
  unfold sh_impl_merge
  simp only [e_copyDb a ha, Option.bind_some, nI_eq]
  refine Sat.out (Sat.bnd (R := fun r => match r with | .inl x => x = (mergeD a b, ()) | .inr _ => False) ?_ ?_)
  · refine Sat.count b.length (fun k t => t = (b, (b.length : Int), (k : Int), mergeD a (b.take k), ())) ?_ (Nat.zero_le _) (fuel_lt (by omega)) (by simp [mergeD])
    rintro k t hk rfl
    by_cases hlt : k < b.length
    · obtain ⟨i1, i2⟩ := merge_sm ha hb hla hlb k hk
      simp (disch := omega) only [bo_impl_merge_3, at_ls, toN, w64, e_put _ _ (mergeD_srt hs _) i1 (hb.2 _ (lsa_mem hlt)) (show (mergeD a (b.take k)).length ≤ 1000000 by omega), Option.bind_some]
      refine Sat.gd (decide_eq_true (by omega)) (Sat.gd (inR_t (by omega) (by omega)) (.some ⟨hlt, ?_⟩))
      rw [merge_take hlt]
      rfl
    · obtain rfl : k = b.length := by omega
      unfold bo_impl_merge_3
      simp only [decide_eq_false (show ¬ (b.length : Int) < b.length by omega), cond_false, List.take_length]
      exact .some rfl
  · rintro (r | r) hr
    case inr => exact hr.elim
    obtain rfl := hr
    exact .some rfl
theorem e_l11Merge (a b : List Ls) (hs : SrtP a) (ha : SmD a) (hb : SmD b) (hla : a.length ≤ 500000) (hlb : b.length ≤ 400000) : sh_spec_l11Merge (a, b, ()) = some (mergeD a b, ()) := by
  unfold sh_spec_l11Merge
  simp only [e_l11Copy a ha, Option.bind_some, nI_eq]
  refine Sat.out (Sat.bnd (R := fun r => match r with | .inl x => x = (mergeD a b, ()) | .inr _ => False) ?_ ?_)
  · refine Sat.count b.length (fun k t => t = (b, (k : Int), mergeD a (b.take k), ())) ?_ (Nat.zero_le _) (fuel_lt (by omega)) (by simp [mergeD])
    rintro k t hk rfl
    by_cases hlt : k < b.length
    · obtain ⟨i1, i2⟩ := merge_sm ha hb hla hlb k hk
      simp (disch := omega) only [bo_spec_l11Merge_3, at_ls, toN, w64, nI_eq, e_l11Put _ _ (mergeD_srt hs _) i1 (hb.2 _ (lsa_mem hlt)), Option.bind_some]
      refine Sat.gd (decide_eq_true (by omega)) (Sat.gd (inR_t (by omega) (by omega)) (.some ⟨hlt, ?_⟩))
      rw [merge_take hlt]
      rfl
    · obtain rfl : k = b.length := by omega
      unfold bo_spec_l11Merge_3
      simp only [nI_eq, decide_eq_false (show ¬ (b.length : Int) < b.length by omega), cond_false, List.take_length]
      exact .some rfl
  · rintro (r | r) hr
    case inr => exact hr.elim
    obtain rfl := hr
    exact .some rfl
end Go.Proofs.YtojdflifijpffaaGreat
end
section
namespace Go.Proofs.YtojdflifijpffaaGreat
open Go.RowKit
set_option linter.unusedSimpArgs false
set_option linter.unusedVariables false

def sy (f : Nat → Int) (e : Nat × Nat) : Nat → Int := fun n => if n = e.1 ∨ n = e.2 then max (f e.1) (f e.2) else f n
def Jn (ls : List Lk) (u v : Nat) : Prop := ∃ k s, Wk ls u k v s
theorem Jn.refl (ls : List Lk) (u : Nat) : Jn ls u u := ⟨0, 0, .nil⟩
theorem Jn.symm {ls : List Lk} {u v : Nat} (h : Jn ls u v) : Jn ls v u := by
  obtain ⟨k, s, w⟩ := h
  exact ⟨k, s, w.symm⟩
theorem Jn.trans {ls : List Lk} {u v x : Nat} (h : Jn ls u v) (h' : Jn ls v x) : Jn ls u x := by
  obtain ⟨k, s, w⟩ := h
  obtain ⟨k', s', w'⟩ := h'
  exact ⟨_, _, w.append w'⟩
section
variable {N : Nat} {ls : List Lk}
end
end Go.Proofs.YtojdflifijpffaaGreat
end
section
namespace Go.Proofs.YtojdflifijpffaaGreat
open Go.RowKit
set_option linter.unusedSimpArgs false
set_option linter.unusedVariables false

structure Know (D : Nat → List Ls) : Prop where
  srt : ∀ n, SrtP (D n)
  pos : ∀ n, ∀ l ∈ D n, 0 ≤ l.s
  agr : ∀ m n, Agree (D m) (D n)
def syD (D : Nat → List Ls) (e : Nat × Nat) : Nat → List Ls := fun n => if n = e.1 ∨ n = e.2 then mergeD (D e.1) (D e.2) else D n
theorem syD_mem {D : Nat → List Ls} {e : Nat × Nat} {n : Nat} {x : Ls} (h : x ∈ syD D e n) : ∃ m, x ∈ D m := by
  unfold syD at h
  split at h
  · rcases merge_mem h with h | h
    · exact ⟨_, h⟩
    · exact ⟨_, h⟩
  · exact ⟨n, h⟩
theorem Know.sy {D : Nat → List Ls} (K : Know D) (e : Nat × Nat) : Know (syD D e) := by
  refine ⟨fun n => ?_, fun n l hl => ?_, fun m n x hx y hy => ?_⟩
  · unfold syD
    split
    · exact mergeD_srt (K.srt _) _
    · exact K.srt n
  · obtain ⟨m, hm⟩ := syD_mem hl
    exact K.pos m l hm
  · obtain ⟨i, hi⟩ := syD_mem hx
    obtain ⟨j, hj⟩ := syD_mem hy
    exact K.agr i j x hi y hj
theorem Know.seq {D : Nat → List Ls} (K : Know D) (e : Nat × Nat) (o : Int) (n : Nat) : seqD (syD D e n) o = Go.Proofs.YtojdflifijpffaaGreat.sy (fun n => seqD (D n) o) e n := by
  unfold syD Go.Proofs.YtojdflifijpffaaGreat.sy
  split
  · exact seq_merge (K.srt _) (K.srt _) (K.pos _) (K.pos _) o
  · rfl
section
variable {N : Nat} {ls : List Lk} {D : Nat → List Ls}
end
end Go.Proofs.YtojdflifijpffaaGreat
end
section
namespace Go.Proofs.YtojdflifijpffaaGreat
open Go.RowKit
set_option linter.unusedSimpArgs false
set_option linter.unusedVariables false

structure Wd where
  n : Int
  ls : List Lk
  up : List Bool
  sq : List Int
  db : List (List Ls)
  net : List Pk
def dbx (db : List (List Ls)) (i : Nat) : List Ls := db.getD i []
def trK (ls : List Lk) (up : List Bool) (k : Nat) : List Lk := ((List.range k).filter fun i => up.getD i false).map (lk ls)
def tru (ls : List Lk) (up : List Bool) : List Lk := trK ls up ls.length
theorem trK_succ (ls : List Lk) (up : List Bool) (k : Nat) : trK ls up (k + 1) = if up.getD k false then trK ls up k ++ [lk ls k] else trK ls up k := by
  unfold trK
  rw [List.range_succ, List.filter_append, List.map_append, List.filter_cons]
  cases h : up.getD k false with
  | false => simp
  | true => rfl
theorem tru_mem {ls : List Lk} {up : List Bool} {l : Lk} : l ∈ tru ls up ↔ ∃ i, i < ls.length ∧ up.getD i false = true ∧ l = lk ls i := by
  unfold tru trK
  rw [List.mem_map]
  constructor
  · rintro ⟨i, hi, rfl⟩
    obtain ⟨h1, h2⟩ := List.mem_filter.1 hi
    exact ⟨i, List.mem_range.1 h1, h2, rfl⟩
  · rintro ⟨i, h1, h2, rfl⟩
    exact ⟨i, List.mem_filter.2 ⟨List.mem_range.2 h1, h2⟩, rfl⟩
theorem tru_len (ls : List Lk) (up : List Bool) : (tru ls up).length ≤ ls.length := by
  unfold tru trK
  rw [List.length_map]
  exact Nat.le_trans (List.length_filter_le _ _) (by simp)
theorem tru_gv {n : Int} {ls : List Lk} (g : GV n ls) (up : List Bool) : GV n (tru ls up) := by
  refine gv_pw.2 ⟨g.1, g.2.1, Nat.le_trans (tru_len ls up) g.2.2.1, fun l hl => ?_, ?_⟩
  · obtain ⟨i, hi, _, rfl⟩ := tru_mem.1 hl
    exact g.ok (lk_mem hi)
  · unfold tru trK
    rw [List.pairwise_map]
    refine List.Pairwise.imp_of_mem ?_ (List.Pairwise.filter _ (List.pairwise_lt_range (n := ls.length)))
    intro a b ha hb hab
    have h1 := List.mem_range.1 (List.mem_filter.1 ha).1
    have h2 := List.mem_range.1 (List.mem_filter.1 hb).1
    have := List.pairwise_iff_getElem.1 g.pw a b h1 h2 hab
    rwa [hit_lk h1, hit_lk h2]
def Poss (w : Wd) (A : Int → Prop) (l : Ls) : Prop := LsV l ∧ l.o < w.n ∧ l.s ≤ iz w.sq l.o.toNat ∧ (∀ e ∈ l.e, lc w.ls l.o e.n = some e.c) ∧ (l.s < iz w.sq l.o.toNat ∨ l.e = endsOf (tru w.ls w.up) w.n.toNat l.o ∨ A l.o)
def Said (w : Wd) (l : Ls) : Prop := (∃ i, i < w.db.length ∧ l ∈ dbx w.db i) ∨ ∃ p ∈ w.net, l = p.p
structure WV (w : Wd) (A : Int → Prop) : Prop where
  g : GV w.n w.ls
  up : w.up.length = w.ls.length
  sq : (w.sq.length : Int) = w.n
  db : (w.db.length : Int) = w.n
  net : w.net.length ≤ 16
  rng : ∀ i, i < w.sq.length → 1 ≤ iz w.sq i ∧ iz w.sq i ≤ 99
  ok : ∀ i, i < w.db.length → DbV (dbx w.db i)
  own : ∀ i, i < w.db.length → ∃ l ∈ dbx w.db i, l.o = i ∧ l.s = iz w.sq i
  poss : ∀ l, Said w l → Poss w A l
  agr : ∀ x y, Said w x → Said w y → x.o = y.o → x.s = y.s → x = y
  tgt : ∀ p ∈ w.net, 0 ≤ p.t ∧ p.t < w.n
def fl1 (l : Ls) (ex : Int) (net : List Pk) (m : Int) : List Pk := if m ≠ ex ∧ net.length < 16 then net ++ [⟨m, l⟩] else net
def flN (l : Ls) (ex : Int) (net : List Pk) (nb : List Int) : List Pk := nb.foldl (fl1 l ex) net
theorem flN_mem {l : Ls} {ex : Int} {p : Pk} : ∀ {nb : List Int} {net : List Pk}, p ∈ flN l ex net nb → p ∈ net ∨ ∃ m ∈ nb, p = ⟨m, l⟩
  | [], net, h => .inl h
  | m :: r, net, h => by
    rcases flN_mem (nb := r) (net := fl1 l ex net m) h with h | ⟨x, hx, e⟩
    · unfold fl1 at h
      split at h
      · rcases List.mem_append.1 h with h | h
        · exact .inl h
        · exact .inr ⟨m, List.mem_cons_self .., List.mem_singleton.1 h⟩
      · exact .inl h
    · exact .inr ⟨x, List.mem_cons_of_mem _ hx, e⟩
theorem flN_len {l : Ls} {ex : Int} : ∀ {nb : List Int} {net : List Pk}, net.length ≤ 16 → (flN l ex net nb).length ≤ 16
  | [], net, h => h
  | m :: r, net, h => flN_len (nb := r) (by unfold fl1; split; rw [List.length_append, List.length_singleton]; omega; exact h)
def newL (w : Wd) (i : Nat) : Ls := ⟨i, iz w.sq i + 1, endsOf (tru w.ls w.up) w.n.toNat i⟩
def annW (w : Wd) (i : Nat) : Wd := { w with sq := w.sq.set i (iz w.sq i + 1), db := w.db.set i (putD (dbx w.db i) (newL w i)), net := flN (newL w i) (-1) w.net (nbS (tru w.ls w.up) i w.n.toNat) }
theorem dbx_set {db : List (List Ls)} {i j : Nat} {d : List Ls} (hi : i < db.length) : dbx (db.set i d) j = if j = i then d else dbx db j := by
  unfold dbx
  simp only [List.getD, List.getElem?_set]
  by_cases h : i = j
  · subst h; simp [hi]
  · rw [if_neg h, if_neg (fun e => h e.symm)]
end Go.Proofs.YtojdflifijpffaaGreat
end
section
namespace Go.Proofs.YtojdflifijpffaaGreat
open Go.RowKit
set_option linter.unusedSimpArgs false
set_option linter.unusedVariables false
set_option maxRecDepth 100000

section
variable {N : Nat} {ls : List Lk} {node : Int} {ends : List En}
theorem en_map {l : List Int} {f : Int → En} {i : Nat} (h : i < l.length) : en (l.map f) i = f (iz l i) := by simp [en, iz, h]
theorem pw_iz {l : List Int} (h : l.Pairwise (· < ·)) {i j : Nat} (hij : i < j) (hj : j < l.length) : iz l i < iz l j := by
  have := List.pairwise_iff_getElem.1 h i j (by omega) hj hij
  simpa [iz, hj, show i < l.length by omega] using this
theorem endsOf_ok (g : GV N ls) {n : Nat} (hn : n < N) : LsV ⟨n, 1, endsOf ls N n⟩ := by
  have h8 := g.2.1
  refine ⟨by dsimp only; omega, by dsimp only; omega, by dsimp only; omega, by dsimp only; omega, fun i hi => ?_⟩
  dsimp only at hi ⊢
  have hi' : i < (nbS ls n N).length := by unfold endsOf at hi; simpa using hi
  have hm : iz (nbS ls n N) i ∈ nbS ls n N := List.mem_of_getElem? (iz_get hi')
  obtain ⟨j, hj, e, hs⟩ := nbS_mem.1 hm
  obtain ⟨c, hc⟩ := Option.isSome_iff_exists.1 hs
  have hcc := lc_cost g hc
  have hne := (lc_none_out g hs).2.2.2.2
  unfold EnAt endsOf
  rw [en_map hi', e, hc]
  refine ⟨by dsimp only; omega, by dsimp only; omega, by dsimp only; omega, hcc.1, hcc.2, fun h0 => ?_⟩
  rw [en_map (show i - 1 < (nbS ls n N).length by omega)]
  have := pw_iz (nbS_asc ls n N) (show i - 1 < i by omega) hi'
  dsimp only
  omega
end
section
variable {ls : List Lk} {ends : List En}
end
end Go.Proofs.YtojdflifijpffaaGreat
end
section
namespace Go.Proofs.YtojdflifijpffaaGreat
open Go.RowKit
set_option linter.unusedSimpArgs false
set_option linter.unusedVariables false

theorem tru_lc {n : Int} {ls : List Lk} (g : GV n ls) {up : List Bool} {a b c : Int} (h : lc (tru ls up) a b = some c) : lc ls a b = some c := by
  have hm := lc_some h
  obtain ⟨i, hi, _, e⟩ := tru_mem.1 hm
  exact (lc_iff g.pw).2 (by rw [e]; exact lk_mem hi)
theorem endsOf_mem {ls : List Lk} {N : Nat} {o : Int} {e : En} (h : e ∈ endsOf ls N o) : lc ls o e.n = some e.c := by
  unfold endsOf at h
  obtain ⟨x, hx, rfl⟩ := List.mem_map.1 h
  obtain ⟨j, _, rfl, hs⟩ := nbS_mem.1 hx
  obtain ⟨c, hc⟩ := Option.isSome_iff_exists.1 hs
  dsimp only
  rw [hc]; rfl
theorem iz_set' {d : List Int} {y j : Nat} {v : Int} (hy : y < d.length) : iz (d.set y v) j = if j = y then v else iz d j := iz_set d y j v hy
theorem newL_ok {w : Wd} {A : Int → Prop} (h : WV w A) {i : Nat} (hi : i < w.db.length) (h99 : iz w.sq i < 99) : LsV (newL w i) := by
  have hdb := h.db
  obtain ⟨N, hN⟩ := Int.eq_ofNat_of_zero_le (show 0 ≤ w.n by omega)
  have g : GV (N : Int) (tru w.ls w.up) := by have := tru_gv h.g w.up; rwa [hN] at this
  have hiN : i < N := by omega
  have h1 := endsOf_ok g hiN
  have hr := h.rng i (by have := h.sq; omega)
  unfold newL
  rw [hN, Int.toNat_natCast]
  exact ⟨h1.1, h1.2.1, by dsimp only; omega, by dsimp only; omega, h1.2.2.2.2⟩
theorem said_ann {w : Wd} {A : Int → Prop} (h : WV w A) {i : Nat} (hi : i < w.db.length) {l : Ls} (hl : Said (annW w i) l) : l = newL w i ∨ Said w l := by
  rcases hl with ⟨j, hj, hl⟩ | ⟨p, hp, rfl⟩
  · have hj : j < w.db.length := by simpa [annW] using hj
    have hl : l ∈ dbx (w.db.set i (putD (dbx w.db i) (newL w i))) j := hl
    rw [dbx_set hi] at hl
    split at hl
    · unfold putD at hl
      split at hl
      · rcases putL_mem.1 hl with rfl | hl
        · exact .inl rfl
        · exact .inr (.inl ⟨i, hi, hl.1⟩)
      · exact .inr (.inl ⟨i, hi, hl⟩)
    · exact .inr (.inl ⟨j, hj, hl⟩)
  · rcases flN_mem (show p ∈ flN (newL w i) (-1) w.net _ from hp) with h | ⟨m, _, rfl⟩
    · exact .inr (.inr ⟨p, h, rfl⟩)
    · exact .inl rfl
theorem ann_ok {w : Wd} {A : Int → Prop} (h : WV w A) {i : Nat} (hi : i < w.db.length) (h99 : iz w.sq i < 99) : WV (annW w i) (fun o => A o ∧ o ≠ i) := by
  have hsq := h.sq
  have hdb := h.db
  have his : i < w.sq.length := by omega
  have hnew := newL_ok h hi h99
  have hsrt : ∀ j, j < w.db.length → SrtP (dbx w.db j) := fun j hj => srt_iff.1 (h.ok j hj).srt
  have hz : ∀ j, iz (w.sq.set i (iz w.sq i + 1)) j = if j = i then iz w.sq i + 1 else iz w.sq j := fun j => iz_set' his
  have no : (newL w i).o = i := rfl
  have ns : (newL w i).s = iz w.sq i + 1 := rfl
  refine ⟨h.g, h.up, ?_, ?_, flN_len h.net, fun j hj => ?_, fun j hj => ?_, fun j hj => ?_, fun l hl => ?_, fun x y hx hy e1 e2 => ?_, fun p hp => ?_⟩
  · show ((w.sq.set i _).length : Int) = w.n
    rw [List.length_set]; exact hsq
  · show ((w.db.set i _).length : Int) = w.n
    rw [List.length_set]; exact hdb
  · have hj : j < w.sq.length := by simpa [annW] using hj
    show 1 ≤ iz (w.sq.set i _) j ∧ iz (w.sq.set i _) j ≤ 99
    rw [hz]
    have := h.rng i his
    split
    · omega
    · exact h.rng j hj
  · have hj : j < w.db.length := by simpa [annW] using hj
    show DbV (dbx (w.db.set i _) j)
    rw [dbx_set hi]
    split
    · exact putD_ok (h.ok i hi) hnew
    · exact h.ok j hj
  · have hj : j < w.db.length := by simpa [annW] using hj
    show ∃ l ∈ dbx (w.db.set i _) j, l.o = j ∧ l.s = iz (w.sq.set i _) j
    rw [dbx_set hi, hz]
    by_cases e : j = i
    · subst e
      rw [if_pos rfl, if_pos rfl]
      obtain ⟨l, hl, h1, h2⟩ := h.own j hi
      refine ⟨newL w j, ?_, rfl, rfl⟩
      have hc : putC (dbx w.db j) (newL w j) = 0 := by
        refine (putC_zero (by rw [ns]; have := h.rng j his; omega)).2 ?_
        unfold seqD
        rw [no, (fd_some (hsrt j hi)).2 ⟨hl, h1⟩, ns]
        dsimp only
        omega
      unfold putD
      rw [if_pos hc]
      exact putL_mem.2 (.inl rfl)
    · rw [if_neg e, if_neg e]
      exact h.own j hj
  · show LsV l ∧ l.o < w.n ∧ l.s ≤ iz (w.sq.set i _) l.o.toNat ∧ (∀ e ∈ l.e, lc w.ls l.o e.n = some e.c) ∧ (l.s < iz (w.sq.set i _) l.o.toNat ∨ l.e = endsOf (tru w.ls w.up) w.n.toNat l.o ∨ A l.o ∧ l.o ≠ i)
    rw [hz]
    rcases said_ann h hi hl with rfl | hl
    · rw [no, Int.toNat_natCast, if_pos rfl]
      exact ⟨hnew, by omega, Int.le_of_eq ns, fun e he => tru_lc h.g (endsOf_mem he), .inr (.inl rfl)⟩
    · obtain ⟨p1, p2, p3, p4, p5⟩ := h.poss l hl
      have ho := p1.1
      by_cases e : l.o.toNat = i
      · rw [if_pos e]
        rw [e] at p3
        exact ⟨p1, p2, by omega, p4, .inl (by omega)⟩
      · rw [if_neg e]
        exact ⟨p1, p2, p3, p4, p5.imp id fun h => h.imp id fun h => ⟨h, by omega⟩⟩
  · have old : ∀ z, Said w z → z.o = (i : Int) → z.s ≤ iz w.sq i := fun z hz e => by
      have := (h.poss z hz).2.2.1
      rwa [e, Int.toNat_natCast] at this
    rcases said_ann h hi hx with rfl | hx <;> rcases said_ann h hi hy with rfl | hy
    · rfl
    · have := old y hy (by rw [← e1]; rfl)
      rw [ns] at e2; omega
    · have := old x hx (by rw [e1]; rfl)
      rw [ns] at e2; omega
    · exact h.agr x y hx hy e1 e2
  · rcases flN_mem (show p ∈ flN (newL w i) (-1) w.net _ from hp) with hp | ⟨m, hm, rfl⟩
    · exact h.tgt p hp
    · obtain ⟨j, hj, rfl, _⟩ := nbS_mem.1 hm
      show 0 ≤ (j : Int) ∧ (j : Int) < w.n
      omega
end Go.Proofs.YtojdflifijpffaaGreat
end
section
namespace Go.Proofs.YtojdflifijpffaaGreat
open Go.RowKit
set_option linter.unusedSimpArgs false
set_option linter.unusedVariables false

abbrev Nob : Int → Prop := fun _ => False
theorem WV.mono {w : Wd} {A B : Int → Prop} (h : WV w A) (k : ∀ o, A o → B o) : WV w B :=
  ⟨h.g, h.up, h.sq, h.db, h.net, h.rng, h.ok, h.own, fun l hl => by
    obtain ⟨p1, p2, p3, p4, p5⟩ := h.poss l hl
    exact ⟨p1, p2, p3, p4, p5.imp id fun q => q.imp id (k _)⟩, h.agr, h.tgt⟩
theorem WV.less {w : Wd} {A : Int → Prop} (h : WV w A) {db' : List (List Ls)} {net' : List Pk} (hd : db'.length = w.db.length) (hn : net'.length ≤ 16) (ok : ∀ i, i < w.db.length → DbV (dbx db' i)) (own : ∀ i, i < w.db.length → ∃ l ∈ dbx db' i, l.o = i ∧ l.s = iz w.sq i) (said : ∀ l, Said { w with db := db', net := net' } l → Said w l) (tgt : ∀ p ∈ net', 0 ≤ p.t ∧ p.t < w.n) : WV { w with db := db', net := net' } A :=
  ⟨h.g, h.up, h.sq, by show (db'.length : Int) = w.n; rw [hd]; exact h.db, hn, h.rng, fun i hi => ok i (by rw [← hd]; exact hi), fun i hi => own i (by rw [← hd]; exact hi), fun l hl => h.poss l (said l hl), fun x y hx hy => h.agr x y (said x hx) (said y hy), tgt⟩
section
variable {w : Wd}
theorem WV.seq_le {A : Int → Prop} (h : WV w A) {i : Nat} (hi : i < w.db.length) {o : Nat} (ho : o < w.db.length) : seqD (dbx w.db i) o ≤ iz w.sq o := by
  unfold seqD
  have hr := h.rng o (by have := h.sq; have := h.db; omega)
  cases e : fd (dbx w.db i) o with
  | none => dsimp only; omega
  | some l =>
    obtain ⟨h1, h2⟩ := (fd_some (srt_iff.1 (h.ok i hi).srt)).1 e
    have := (h.poss l (.inl ⟨i, hi, h1⟩)).2.2.1
    rw [h2, Int.toNat_natCast] at this
    exact this
theorem WV.seq_own {A : Int → Prop} (h : WV w A) {i : Nat} (hi : i < w.db.length) : seqD (dbx w.db i) i = iz w.sq i := by
  obtain ⟨l, hl, h1, h2⟩ := h.own i hi
  unfold seqD
  rw [(fd_some (srt_iff.1 (h.ok i hi).srt)).2 ⟨hl, h1⟩]
  exact h2
theorem own_of_seq {d : List Ls} (hs : SrtP d) {o v : Int} (hv : 0 ≤ v) (h : seqD d o = v) : ∃ l ∈ d, l.o = o ∧ l.s = v := by
  unfold seqD at h
  cases e : fd d o with
  | none => rw [e] at h; dsimp only at h; omega
  | some l =>
    rw [e] at h
    obtain ⟨h1, h2⟩ := (fd_some hs).1 e
    exact ⟨l, h1, h2, h⟩
def synW (w : Wd) (a b : Nat) : Wd := { w with db := (w.db.set a (mergeD (dbx w.db a) (dbx w.db b))).set b (mergeD (dbx w.db a) (dbx w.db b)) }
theorem syn_dbx {a b : Nat} (ha : a < w.db.length) (hb : b < w.db.length) (i : Nat) : dbx (synW w a b).db i = if i = a ∨ i = b then mergeD (dbx w.db a) (dbx w.db b) else dbx w.db i := by
  show dbx ((w.db.set a _).set b _) i = _
  rw [dbx_set (by rw [List.length_set]; exact hb)]
  by_cases h : i = b
  · rw [if_pos h, if_pos (.inr h)]
  · rw [if_neg h, dbx_set ha]
    by_cases h2 : i = a
    · rw [if_pos h2, if_pos (.inl h2)]
    · rw [if_neg h2, if_neg (by rintro (e | e); exact h2 e; exact h e)]
theorem DbV.pos {db : List Ls} (h : DbV db) : ∀ l ∈ db, 0 ≤ l.s := fun l hl => by
  have := ((dbV_iff.1 h).1 l hl).2.2.1
  omega
theorem syn_ok {A : Int → Prop} (h : WV w A) {a b : Nat} (ha : a < w.db.length) (hb : b < w.db.length) : WV (synW w a b) A := by
  have sa := srt_iff.1 (h.ok a ha).srt
  have sb := srt_iff.1 (h.ok b hb).srt
  have pa := (h.ok a ha).pos
  have pb := (h.ok b hb).pos
  refine h.less (db' := (synW w a b).db) (net' := w.net) (by simp [synW]) h.net (fun i hi => ?_) (fun i hi => ?_) (fun l hl => ?_) h.tgt
  · rw [syn_dbx ha hb]
    split
    · exact mergeD_ok (h.ok a ha) (dbV_iff.1 (h.ok b hb)).1
    · exact h.ok i hi
  · rw [syn_dbx ha hb]
    have hr := h.rng i (by have := h.sq; have := h.db; omega)
    split
    · rename_i e
      refine own_of_seq (mergeD_srt sa _) (by omega) ?_
      rw [seq_merge sa sb pb pa]
      have q1 := h.seq_le ha hi
      have q2 := h.seq_le hb hi
      rcases e with rfl | rfl
      · have := h.seq_own hi; omega
      · have := h.seq_own hi; omega
    · exact h.own i hi
  · rcases hl with ⟨j, hj, hl⟩ | hl
    · have hl : l ∈ dbx (synW w a b).db j := hl
      have hj : j < w.db.length := by simpa [synW] using hj
      rw [syn_dbx ha hb] at hl
      split at hl
      · rcases merge_mem hl with h | h
        · exact .inl ⟨a, ha, h⟩
        · exact .inl ⟨b, hb, h⟩
      · exact .inl ⟨j, hj, hl⟩
    · exact .inr hl
theorem lose_ok {A : Int → Prop} (h : WV w A) (k : Nat) : WV { w with net := w.net.eraseIdx k } A := by
  refine h.less (db' := w.db) rfl (Nat.le_trans (List.length_eraseIdx_le _ _) h.net) h.ok h.own (fun l hl => ?_) (fun p hp => h.tgt p (List.mem_of_mem_eraseIdx hp))
  rcases hl with hl | ⟨p, hp, rfl⟩
  · exact .inl hl
  · exact .inr ⟨p, List.mem_of_mem_eraseIdx hp, rfl⟩
theorem twice_ok {A : Int → Prop} (h : WV w A) {p : Pk} (hp : p ∈ w.net) (hl : w.net.length < 16) : WV { w with net := w.net ++ [p] } A := by
  refine h.less (db' := w.db) rfl (by rw [List.length_append, List.length_singleton]; omega) h.ok h.own (fun l hl => ?_) (fun q hq => ?_)
  · rcases hl with hl | ⟨q, hq, rfl⟩
    · exact .inl hl
    · rcases List.mem_append.1 hq with hq | hq
      · exact .inr ⟨q, hq, rfl⟩
      · obtain rfl := List.mem_singleton.1 hq
        exact .inr ⟨q, hp, rfl⟩
  · rcases List.mem_append.1 hq with hq | hq
    · exact h.tgt q hq
    · obtain rfl := List.mem_singleton.1 hq
      exact h.tgt q hp
def hearW (w : Wd) (t : Nat) (l : Ls) : Wd := if putC (dbx w.db t) l = 0 then { w with db := w.db.set t (putD (dbx w.db t) l), net := flN l l.o w.net (nbS (tru w.ls w.up) t w.n.toNat) } else w
theorem hear_ok {A : Int → Prop} (h : WV w A) {t : Nat} (ht : t < w.db.length) {l : Ls} (hV : LsV l) (hs : l.o < w.n) (hq : l.s ≤ iz w.sq l.o.toNat) (hP : Poss w A l) (hag : ∀ y, Said w y → l.o = y.o → l.s = y.s → l = y) : WV (hearW w t l) A := by
  unfold hearW
  split
  case isFalse => exact h
  rename_i hc
  have hdb := h.db
  have st := srt_iff.1 (h.ok t ht).srt
  have said : ∀ x, Said { w with db := w.db.set t (putD (dbx w.db t) l), net := flN l l.o w.net (nbS (tru w.ls w.up) t w.n.toNat) } x → x = l ∨ Said w x := fun x hx => by
    rcases hx with ⟨j, hj, hx⟩ | ⟨p, hp, rfl⟩
    · have hj : j < w.db.length := by simpa using hj
      have hx : x ∈ dbx (w.db.set t (putD (dbx w.db t) l)) j := hx
      rw [dbx_set ht] at hx
      split at hx
      · unfold putD at hx
        rw [if_pos hc] at hx
        rcases putL_mem.1 hx with rfl | hx
        · exact .inl rfl
        · exact .inr (.inl ⟨t, ht, hx.1⟩)
      · exact .inr (.inl ⟨j, hj, hx⟩)
    · rcases flN_mem (show p ∈ flN l l.o w.net _ from hp) with hp | ⟨m, _, rfl⟩
      · exact .inr (.inr ⟨p, hp, rfl⟩)
      · exact .inl rfl
  refine ⟨h.g, h.up, h.sq, by show ((w.db.set t _).length : Int) = w.n; rw [List.length_set]; exact hdb, flN_len h.net, h.rng, fun j hj => ?_, fun j hj => ?_, fun x hx => ?_, fun x y hx hy e1 e2 => ?_, fun p hp => ?_⟩
  · have hj : j < w.db.length := by simpa using hj
    show DbV (dbx (w.db.set t _) j)
    rw [dbx_set ht]
    split
    · exact putD_ok (h.ok t ht) hV
    · exact h.ok j hj
  · have hj : j < w.db.length := by simpa using hj
    show ∃ x ∈ dbx (w.db.set t _) j, x.o = j ∧ x.s = iz w.sq j
    rw [dbx_set ht]
    split
    · rename_i e
      subst e
      have hr := h.rng j (by have := h.sq; omega)
      refine own_of_seq (putD_srt st l) (by omega) ?_
      have hp : 0 ≤ l.s := by have := hV.2.2.1; omega
      rw [seq_put st hp]
      have := h.seq_own ht
      split
      · rename_i e
        have e2 : l.o.toNat = j := by omega
        rw [e2] at hq
        omega
      · omega
    · exact h.own j hj
  · rcases said x hx with rfl | hx
    · exact hP
    · exact h.poss x hx
  · rcases said x hx with ex | hx1
    · rcases said y hy with ey | hy1
      · rw [ex, ey]
      · rw [ex] at e1 e2 ⊢
        exact hag y hy1 e1 e2
    · rcases said y hy with ey | hy1
      · rw [ey] at e1 e2 ⊢
        exact (hag x hx1 e1.symm e2.symm).symm
      · exact h.agr x y hx1 hy1 e1 e2
  · rcases flN_mem (show p ∈ flN l l.o w.net _ from hp) with hp | ⟨m, hm, rfl⟩
    · exact h.tgt p hp
    · obtain ⟨j, hj, rfl, _⟩ := nbS_mem.1 hm
      show 0 ≤ (j : Int) ∧ (j : Int) < w.n
      omega
end
end Go.Proofs.YtojdflifijpffaaGreat
end
section
namespace Go.Proofs.YtojdflifijpffaaGreat
open Go.RowKit
set_option linter.unusedSimpArgs false
set_option linter.unusedVariables false

theorem nbS_congr {ls ls' : List Lk} {m : Int} (h : ∀ x : Int, lc ls m x = lc ls' m x) (k : Nat) : nbS ls m k = nbS ls' m k := by
  unfold nbS
  congr 1
  refine List.filter_congr fun x _ => ?_
  rw [← lc_lof, ← lc_lof, h]
theorem endsOf_congr {ls ls' : List Lk} {m : Int} (h : ∀ x : Int, lc ls m x = lc ls' m x) (N : Nat) : endsOf ls N m = endsOf ls' N m := by
  unfold endsOf
  rw [nbS_congr h N]
  exact List.map_congr_left fun x _ => by rw [h]
theorem upd_get {up : List Bool} {k i : Nat} {u : Bool} (h : i ≠ k) : (up.set k u).getD i false = up.getD i false := by
  simp only [List.getD, List.getElem?_set]
  rw [if_neg (fun e => h e.symm)]
theorem tru_far {n : Int} {ls : List Lk} (g : GV n ls) {up : List Bool} {k : Nat} {u : Bool} {o : Int} (ha : o ≠ (lk ls k).a) (hb : o ≠ (lk ls k).b) (x : Int) : lc (tru ls (up.set k u)) o x = lc (tru ls up) o x := by
  have key : ∀ c, (⟨min o x, max o x, c⟩ : Lk) ∈ tru ls (up.set k u) ↔ (⟨min o x, max o x, c⟩ : Lk) ∈ tru ls up := fun c => by
    rw [tru_mem, tru_mem]
    have ne : ∀ i, (⟨min o x, max o x, c⟩ : Lk) = lk ls i → i ≠ k := fun i e hik => by
      subst hik
      rw [← e] at ha hb
      dsimp only at ha hb
      omega
    constructor
    · rintro ⟨i, h1, h2, h3⟩
      exact ⟨i, h1, by rwa [upd_get (ne i h3)] at h2, h3⟩
    · rintro ⟨i, h1, h2, h3⟩
      exact ⟨i, h1, by rwa [upd_get (ne i h3)], h3⟩
  refine Option.ext fun c => ?_
  have h1 := lc_iff (tru_gv g (up.set k u)).pw (a := o) (b := x) (c := c)
  have h2 := lc_iff (tru_gv g up).pw (a := o) (b := x) (c := c)
  exact (h1.trans (key c)).trans h2.symm
theorem up_ok {w : Wd} (h : WV w Nob) {k : Nat} (hk : k < w.ls.length) (u : Bool) : WV { w with up := w.up.set k u } (fun o => o = (lk w.ls k).a ∨ o = (lk w.ls k).b) :=
  ⟨h.g, by show (w.up.set k u).length = w.ls.length; rw [List.length_set]; exact h.up, h.sq, h.db, h.net, h.rng, h.ok, h.own, fun l hl => by
    obtain ⟨p1, p2, p3, p4, p5⟩ := h.poss l hl
    refine ⟨p1, p2, p3, p4, ?_⟩
    by_cases hA : l.o = (lk w.ls k).a ∨ l.o = (lk w.ls k).b
    · exact .inr (.inr hA)
    · refine p5.imp id fun q => .inl ?_
      have q := q.resolve_right id
      show l.e = endsOf (tru w.ls (w.up.set k u)) w.n.toNat l.o
      rw [q]
      exact (endsOf_congr (tru_far h.g (fun e => hA (.inl e)) (fun e => hA (.inr e))) _).symm, h.agr, h.tgt⟩
def turnW (w : Wd) (k : Nat) (u : Bool) : Wd := if w.up.getD k false = u ∨ 99 ≤ iz w.sq (lk w.ls k).a.toNat ∨ 99 ≤ iz w.sq (lk w.ls k).b.toNat then w else annW (annW { w with up := w.up.set k u } (lk w.ls k).a.toNat) (lk w.ls k).b.toNat
theorem turn_ok {w : Wd} (h : WV w Nob) {k : Nat} (hk : k < w.ls.length) (u : Bool) : WV (turnW w k u) Nob := by
  unfold turnW
  split
  · exact h
  · rename_i hn
    have hdb := h.db
    have hsq := h.sq
    have ho := h.g.ok (lk_mem hk)
    unfold okL at ho
    have h1 := ann_ok (up_ok h hk u) (i := (lk w.ls k).a.toNat) (by show _ < w.db.length; omega) (by show iz w.sq _ < 99; omega)
    have h2 := ann_ok h1 (i := (lk w.ls k).b.toNat) (by show _ < (w.db.set _ _).length; rw [List.length_set]; omega) (by
      show iz (w.sq.set (lk w.ls k).a.toNat _) (lk w.ls k).b.toNat < 99
      rw [iz_set' (by omega), if_neg (by omega)]
      omega)
    refine h2.mono fun o ho' => ?_
    obtain ⟨⟨q, q1⟩, q2⟩ := ho'
    rcases q with e | e
    · exact q1 (by omega)
    · exact q2 (by omega)
def newW (n : Int) (ls : List Lk) : Wd := ⟨n, ls, List.replicate ls.length true, List.replicate n.toNat 1, List.replicate n.toNat ((List.range n.toNat).map fun i : Nat => (⟨i, 1, endsOf ls n.toNat i⟩ : Ls)), []⟩
theorem tru_all (ls : List Lk) : tru ls (List.replicate ls.length true) = ls := by
  unfold tru trK
  have : (List.range ls.length).filter (fun i => (List.replicate ls.length true).getD i false) = List.range ls.length := by
    rw [List.filter_eq_self]
    intro i hi
    have := List.mem_range.1 hi
    simp [List.getD, this]
  rw [this]
  refine List.ext_getElem (by simp) fun i h1 h2 => ?_
  rw [List.getElem_map, List.getElem_range, hit_lk h2]
theorem new_ok {N : Nat} {ls : List Lk} (g : GV N ls) : WV (newW N ls) Nob := by
  have hr : ∀ i, i < N → iz (List.replicate N (1 : Int)) i = 1 := fun i hi => by simp [iz, List.getD, hi]
  have hd : ∀ i, i < N → dbx (newW N ls).db i = (List.range N).map fun i : Nat => (⟨i, 1, endsOf ls N i⟩ : Ls) := fun i hi => by
    show dbx (List.replicate (N : Int).toNat _) i = _
    rw [Int.toNat_natCast]
    simp [dbx, List.getD, hi]
  have hm : ∀ i, i < N → ∀ l, l ∈ dbx (newW N ls).db i ↔ ∃ j, j < N ∧ l = ⟨j, 1, endsOf ls N j⟩ := fun i hi l => by
    rw [hd i hi, List.mem_map]
    constructor
    · rintro ⟨j, hj, rfl⟩; exact ⟨j, List.mem_range.1 hj, rfl⟩
    · rintro ⟨j, hj, rfl⟩; exact ⟨j, List.mem_range.2 hj, rfl⟩
  have hlen : (newW N ls).db.length = N := by simp [newW]
  have said : ∀ l, Said (newW N ls) l → ∃ j, j < N ∧ l = ⟨j, 1, endsOf ls N j⟩ := fun l hl => by
    rcases hl with ⟨i, hi, hl⟩ | ⟨p, hp, _⟩
    · rw [hlen] at hi
      exact (hm i hi l).1 hl
    · simp [newW] at hp
  have h1 := g.1
  refine ⟨g, by simp [newW], by simp [newW], by simp [newW], by simp [newW], fun i hi => ?_, fun i hi => ?_, fun i hi => ?_, fun l hl => ?_, fun x y hx hy e1 e2 => ?_, fun p hp => by simp [newW] at hp⟩
  · have hi : i < N := by simpa [newW] using hi
    show 1 ≤ iz (List.replicate (N : Int).toNat 1) i ∧ iz (List.replicate (N : Int).toNat 1) i ≤ 99
    rw [Int.toNat_natCast, hr i hi]
    omega
  · rw [hlen] at hi
    rw [hd i hi]
    refine dbV_iff.2 ⟨fun l hl => ?_, ?_⟩
    · obtain ⟨j, hj, rfl⟩ := List.mem_map.1 hl
      exact endsOf_ok g (List.mem_range.1 hj)
    · unfold SrtP
      rw [List.pairwise_map]
      refine List.Pairwise.imp ?_ (List.pairwise_lt_range (n := N))
      intro a b hab
      show (a : Int) < b
      omega
  · rw [hlen] at hi
    refine ⟨⟨i, 1, endsOf ls N i⟩, (hm i hi _).2 ⟨i, hi, rfl⟩, rfl, ?_⟩
    show 1 = iz (List.replicate (N : Int).toNat 1) i
    rw [Int.toNat_natCast, hr i hi]
  · obtain ⟨j, hj, rfl⟩ := said l hl
    have hs : iz (newW N ls).sq ((j : Nat) : Int).toNat = 1 := by
      show iz (List.replicate (N : Int).toNat 1) ((j : Nat) : Int).toNat = 1
      rw [Int.toNat_natCast, Int.toNat_natCast, hr j hj]
    refine ⟨endsOf_ok g hj, ?_, ?_, fun e he => endsOf_mem he, .inr (.inl ?_)⟩
    · show (j : Int) < N; omega
    · rw [hs]; exact Int.le_refl _
    · show endsOf ls N j = endsOf (tru ls (List.replicate ls.length true)) (N : Int).toNat j
      rw [tru_all, Int.toNat_natCast]
  · obtain ⟨i, _, rfl⟩ := said x hx
    obtain ⟨j, _, rfl⟩ := said y hy
    dsimp only at e1
    obtain rfl : i = j := by omega
    rfl
end Go.Proofs.YtojdflifijpffaaGreat
end
section
namespace Go.Proofs.YtojdflifijpffaaGreat
open Go.RowKit
set_option linter.unusedSimpArgs false
set_option linter.unusedVariables false

def pkx (net : List Pk) (i : Nat) : Pk := net.getD i ⟨0, ⟨0, 0, []⟩⟩
theorem pkx_mem {net : List Pk} {i : Nat} (h : i < net.length) : pkx net i ∈ net := by
  unfold pkx
  rw [List.getD, List.getElem?_eq_getElem h]
  exact List.getElem_mem h
def syncW (w : Wd) (k : Nat) : Wd := if w.up.getD k false then synW w (lk w.ls k).a.toNat (lk w.ls k).b.toNat else w
def doW (w : Wd) (kind a : Int) : Wd :=
  if (kind = 1 ∨ kind = 2) ∧ 0 ≤ a ∧ a < w.up.length then turnW w a.toNat (decide (kind = 2))
  else if kind = 3 ∧ 0 ≤ a ∧ a < w.net.length then hearW { w with net := w.net.eraseIdx a.toNat } (pkx w.net a.toNat).t.toNat (pkx w.net a.toNat).p
  else if kind = 4 ∧ 0 ≤ a ∧ a < w.net.length then { w with net := w.net.eraseIdx a.toNat }
  else if kind = 5 ∧ 0 ≤ a ∧ a < w.net.length then (if w.net.length < 16 then { w with net := w.net ++ [pkx w.net a.toNat] } else w)
  else if kind = 6 ∧ 0 ≤ a ∧ a < w.up.length then syncW w a.toNat
  else w
theorem sync_ok {w : Wd} (h : WV w Nob) {k : Nat} (hk : k < w.ls.length) : WV (syncW w k) Nob := by
  unfold syncW
  split
  · have ho := h.g.ok (lk_mem hk)
    have hdb := h.db
    unfold okL at ho
    exact syn_ok h (by omega) (by omega)
  · exact h
theorem do_ok {w : Wd} (h : WV w Nob) (kind a : Int) : WV (doW w kind a) Nob := by
  have hup := h.up
  unfold doW
  split
  · exact turn_ok h (by omega) _
  split
  · rename_i hp
    have hm : pkx w.net a.toNat ∈ w.net := pkx_mem (by omega)
    have hs : Said w (pkx w.net a.toNat).p := .inr ⟨_, hm, rfl⟩
    have hP := h.poss _ hs
    have ht := h.tgt _ hm
    have hdb := h.db
    refine hear_ok (lose_ok h a.toNat) (by show _ < w.db.length; omega) hP.1 hP.2.1 hP.2.2.1 hP fun y hy e1 e2 => ?_
    refine h.agr _ y hs ?_ e1 e2
    rcases hy with hy | ⟨p, hp, rfl⟩
    · exact .inl hy
    · exact .inr ⟨p, List.mem_of_mem_eraseIdx hp, rfl⟩
  split
  · exact lose_ok h _
  split
  · split
    · exact twice_ok h (pkx_mem (by omega)) (by assumption)
    · exact h
  split
  · exact sync_ok h (by omega)
  · exact h
theorem sync_same (w : Wd) (k : Nat) : (syncW w k).n = w.n ∧ (syncW w k).ls = w.ls ∧ (syncW w k).up = w.up ∧ (syncW w k).sq = w.sq ∧ (syncW w k).net = w.net ∧ (syncW w k).db.length = w.db.length := by
  unfold syncW
  split
  · exact ⟨rfl, rfl, rfl, rfl, rfl, by simp [synW]⟩
  · exact ⟨rfl, rfl, rfl, rfl, rfl, rfl⟩
end Go.Proofs.YtojdflifijpffaaGreat
end
section
namespace Go.Proofs.YtojdflifijpffaaGreat
open Go.RowKit
set_option linter.unusedSimpArgs false
set_option linter.unusedVariables false

theorem Wd.same {a b : Wd} (h1 : a.n = b.n) (h2 : a.ls = b.ls) (h3 : a.up = b.up) (h4 : a.sq = b.sq) (h5 : a.db = b.db) (h6 : a.net = b.net) : a = b := by
  cases a; cases b; dsimp only at h1 h2 h3 h4 h5 h6; subst h1 h2 h3 h4 h5 h6; rfl
section
variable {w : Wd} {N : Nat}
theorem sync_dbx (h : WV w Nob) {k : Nat} (hk : k < w.ls.length) (n : Nat) : dbx (syncW w k).db n = if w.up.getD k false = true ∧ (n = (lk w.ls k).a.toNat ∨ n = (lk w.ls k).b.toNat) then mergeD (dbx w.db (lk w.ls k).a.toNat) (dbx w.db (lk w.ls k).b.toNat) else dbx w.db n := by
  have hdb := h.db
  have g := h.g
  obtain ⟨M, hM⟩ : ∃ M : Nat, w.n = M := ⟨w.n.toNat, by have := g.1; omega⟩
  rw [hM] at g
  obtain ⟨x, y, q1, q2, q3, q4⟩ := g.ends (lk w.ls k) (lk_mem hk)
  rw [q1, q2, Int.toNat_natCast, Int.toNat_natCast]
  unfold syncW
  rw [q1, q2, Int.toNat_natCast, Int.toNat_natCast]
  by_cases hu : w.up.getD k false = true
  · rw [if_pos hu, syn_dbx (by omega) (by omega)]
    by_cases hn : n = x ∨ n = y
    · rw [if_pos hn, if_pos ⟨hu, hn⟩]
    · rw [if_neg hn, if_neg (by rintro ⟨_, h⟩; exact hn h)]
  · rw [if_neg hu, if_neg (by rintro ⟨h, _⟩; exact hu h)]
end
end Go.Proofs.YtojdflifijpffaaGreat
end
section
namespace Go.Proofs.YtojdflifijpffaaGreat
open Go.RowKit
set_option linter.unusedSimpArgs false
set_option linter.unusedVariables false

section
variable {w : Wd}
theorem hear_stale {t : Nat} {l : Ls} (hl : 0 ≤ l.s) (h : l.s ≤ seqD (dbx w.db t) l.o) : hearW w t l = w := if_neg (by rw [putC_zero hl]; omega)
theorem turn_up (k : Nat) (u : Bool) : (turnW w k u).ls = w.ls ∧ ((turnW w k u).up = w.up ∨ (turnW w k u).up = w.up.set k u) := by
  unfold turnW
  split
  · exact ⟨rfl, .inl rfl⟩
  · exact ⟨rfl, .inr rfl⟩
theorem turn_back {k : Nat} (hk : k < w.up.length) (hu : w.up.getD k false = true) (hne : (turnW (turnW w k false) k true).up.getD k false ≠ (turnW w k false).up.getD k false) : tru (turnW (turnW w k false) k true).ls (turnW (turnW w k false) k true).up = tru w.ls w.up := by
  obtain ⟨a1, a2⟩ := turn_up (w := w) k false
  obtain ⟨b1, b2⟩ := turn_up (w := turnW w k false) k true
  rw [b1, a1]
  have e : w.up.set k true = w.up := by
    refine List.ext_getElem (by simp) fun i h1 h2 => ?_
    by_cases q : k = i
    · subst q
      simp only [List.getD, List.getElem?_eq_getElem hk, Option.getD_some] at hu
      simp [hu]
    · rw [List.getElem_set, if_neg q]
  rcases b2 with b2 | b2
  · exact absurd (by rw [b2]) hne
  · rw [b2]
    rcases a2 with a2 | a2
    · rw [a2, e]
    · rw [a2, List.set_set, e]
end
end Go.Proofs.YtojdflifijpffaaGreat
end
section
namespace Go.Proofs.YtojdflifijpffaaGreat
open Go.RowKit
set_option linter.unusedSimpArgs false
set_option linter.unusedVariables false
set_option maxRecDepth 100000

theorem at_bo (es : List Bool) (i : Nat) : at! .bool es i = es.getD i false := by
  induction es generalizing i with
  | nil => rfl
  | cons z r ih => cases i with
    | zero => rfl
    | succ i => exact (ih i).trans (by simp)
theorem at_db (es : List (List Ls)) (i : Nat) : at! .db es i = dbx es i := by
  induction es generalizing i with
  | nil => rfl
  | cons z r ih => cases i with
    | zero => rfl
    | succ i => exact (ih i).trans (by simp [dbx])
theorem at_pk (es : List Pk) (i : Nat) : at! .pk es i = pkx es i := by
  induction es generalizing i with
  | nil => rfl
  | cons z r ih => cases i with
    | zero => rfl
    | succ i => exact (ih i).trans (by simp [pkx])
abbrev Wt := Int × List Lk × List Bool × List Int × List (List Ls) × List Pk × Unit
def wt (w : Wd) : Wt := (w.n, w.ls, w.up, w.sq, w.db, w.net, ())
theorem take_lk {ls : List Lk} {k : Nat} (h : k < ls.length) : ls.take k ++ [lk ls k] = ls.take (k + 1) := by
  rw [List.take_add_one, List.getElem?_eq_getElem h, hit_lk h]; rfl
theorem e_keepC (n : Int) (ls : List Lk) (hl : ls.length ≤ 1000) : sh_impl_Graph_keep_copyWorld_1 (n, ls, ()) = some (n, ls, ()) := by
  unfold sh_impl_Graph_keep_copyWorld_1
  refine Sat.out (Sat.bnd (R := fun r => match r with | .inl x => x = (0, n, [], ls, ()) | .inr _ => False) ?_ ?_)
  · refine Sat.count ls.length (fun k t => t = (ls, (ls.length : Int), (k : Int), 0, n, [], ls.take k, ())) ?_ (Nat.zero_le _) (fuel_lt (by omega)) (by simp [nI_eq])
    rintro k t hk rfl
    simp (disch := omega) only [bo_impl_Graph_keep_copyWorld_1_3, sh_impl_copyWorld_1, at_lk, toN, w64, nI_eq, Option.bind_some]
    by_cases hlt : k < ls.length
    · refine Sat.gd (decide_eq_true (by omega)) (Sat.gd (inR_t (by omega) (by omega)) (Sat.ite (fun _ => Sat.gd (decide_eq_true (by simp only [List.length_take, List.length_singleton]; omega)) (.some ⟨hlt, ?_⟩)) (fun hh => by cases hh)))
      rw [← take_lk hlt]; rfl
    · obtain rfl : k = ls.length := by omega
      rw [List.take_length]
      exact Sat.no (decide_eq_false (by omega)) (.some rfl)
  · rintro (r | r) hr
    case inr => exact hr.elim
    obtain rfl := hr
    exact .some rfl
theorem trK_len (ls : List Lk) (up : List Bool) (k : Nat) : (trK ls up k).length ≤ k := by
  unfold trK
  rw [List.length_map]
  exact Nat.le_trans (List.length_filter_le _ _) (by simp)
theorem e_truth (w : Wd) (h : w.up.length = w.ls.length) (hl : w.ls.length ≤ 1000) : sh_impl_World_truth (w.n, w.ls, w.up, w.sq, w.db, w.net, ()) = some (w.n, tru w.ls w.up, ()) := by
  cases w with | mk n ls up sq db net =>
  dsimp only at h hl
  unfold sh_impl_World_truth sh_impl_Graph_keep_truth_1
  refine Sat.out (Sat.bnd (R := fun r => r = (n, tru ls up, ())) (Sat.bnd (R := fun r => match r with | .inl x => x = (0, n, [], tru ls up, ()) | .inr _ => False) ?_ ?_) ?_)
  · refine Sat.count ls.length (fun k t => t = (n, ls, up, sq, db, net, ls, (ls.length : Int), (k : Int), 0, n, [], trK ls up k, ())) ?_ (Nat.zero_le _) (fuel_lt (by omega)) (by simp [nI_eq, trK])
    rintro k t hk rfl
    have hq := trK_len ls up k
    simp (disch := omega) only [bo_impl_Graph_keep_truth_1_3, sh_impl_World_truth_1, at_lk, at_bo, toN, w64, nI_eq]
    by_cases hlt : k < ls.length
    · refine Sat.gd (decide_eq_true (by omega)) (Sat.gd (inR_t (by omega) (by omega)) (Sat.bnd (R := fun r => r = (up.getD k false, ())) (Sat.gd (inR_t (by omega) (by omega)) (.some rfl)) ?_))
      rintro _ rfl
      refine Sat.ite (fun hu => Sat.gd (decide_eq_true (by simp only [List.length_singleton]; omega)) (.some ⟨hlt, ?_⟩)) (fun hu => .some ⟨hlt, ?_⟩)
      · have hu : up.getD k false = true := hu
        rw [trK_succ, if_pos hu]; rfl
      · have hu : up.getD k false = false := hu
        rw [trK_succ, hu]; rfl
    · obtain rfl : k = ls.length := by omega
      refine Sat.no (decide_eq_false (by omega)) (.some rfl)
  · rintro (r | r) hr
    case inr => exact hr.elim
    obtain rfl := hr
    exact .some rfl
  · rintro _ rfl
    exact .some rfl
theorem e_l51Truth (w : Wd) (h : w.up.length = w.ls.length) (hl : w.ls.length ≤ 1000) : sh_spec_l51Truth (w.n, w.ls, w.up, w.sq, w.db, w.net, ()) = some (w.n, tru w.ls w.up, ()) := by
  cases w with | mk n ls up sq db net =>
  dsimp only at h hl
  unfold sh_spec_l51Truth
  refine Sat.out (Sat.bnd (R := fun r => match r with | .inl x => x = (0, [], n, tru ls up, ()) | .inr _ => False) ?_ ?_)
  · refine Sat.count ls.length (fun k t => t = ((k : Int), n, ls, up, sq, db, net, 0, [], n, trK ls up k, ())) ?_ (Nat.zero_le _) (fuel_lt (by omega)) (by simp [nI_eq, trK])
    rintro k t hk rfl
    have hq := trK_len ls up k
    simp (disch := omega) only [bo_spec_l51Truth_3, at_lk, at_bo, toN, w64, nI_eq]
    by_cases hlt : k < ls.length
    · refine Sat.gd (decide_eq_true (by omega)) (Sat.gd (inR_t (by omega) (by omega)) ?_)
      refine Sat.ite (fun hu => Sat.gd (inR_t (by omega) (by omega)) (Sat.gd (decide_eq_true (by simp only [List.length_singleton]; omega)) (.some ⟨hlt, ?_⟩))) (fun hu => .some ⟨hlt, ?_⟩)
      · have hu : up.getD k false = true := hu
        rw [trK_succ, if_pos hu]; rfl
      · have hu : up.getD k false = false := hu
        rw [trK_succ, hu]; rfl
    · obtain rfl : k = ls.length := by omega
      refine Sat.no (decide_eq_false (by omega)) (.some rfl)
  · rintro (r | r) hr
    case inr => exact hr.elim
    obtain rfl := hr
    exact .some rfl
theorem DbV.len {db : List Ls} (h : DbV db) : db.length ≤ 8 := by
  have key : ∀ i, i < db.length → (i : Int) ≤ (lsa db i).o := fun i => by
    induction i with
    | zero => intro hi; exact (h 0 hi).1.1
    | succ i ih =>
      intro hi
      have h1 := ih (by omega)
      have h2 := (h (i + 1) hi).2 (by omega)
      rw [Nat.add_sub_cancel] at h2
      omega
  rcases Nat.lt_or_ge 8 db.length with h8 | h8
  · have h1 := key 8 h8
    have h2 := (h 8 h8).1.2.1
    omega
  · exact h8
theorem LsV.len {l : Ls} (h : LsV l) : l.e.length ≤ 8 := by
  have key : ∀ i, i < l.e.length → (i : Int) ≤ (en l.e i).n := fun i => by
    induction i with
    | zero => intro hi; exact (h.2.2.2.2 0 hi).1
    | succ i ih =>
      intro hi
      have h1 := ih (by omega)
      have h2 := (h.2.2.2.2 (i + 1) hi).2.2.2.2.2 (by omega)
      rw [Nat.add_sub_cancel] at h2
      omega
  rcases Nat.lt_or_ge 8 l.e.length with h8 | h8
  · have h1 := key 8 h8
    have h2 := (h.2.2.2.2 8 h8).2.1
    omega
  · exact h8
theorem DbV.sm {db : List Ls} (h : DbV db) : SmD db := ⟨by have := h.len; unfold Sm; omega, fun l hl => by
  have := ((dbV_iff.1 h).1 l hl).len
  unfold Sm; omega⟩
theorem LsV.sm {l : Ls} (h : LsV l) : Sm l.e := by have := h.len; unfold Sm; omega
theorem DbV.so {db : List Ls} (h : DbV db) : SrtP db := srt_iff.1 h.srt
theorem WV.nn {w : Wd} {A : Int → Prop} (h : WV w A) : 1 ≤ w.n ∧ w.n ≤ 8 := ⟨h.g.1, h.g.2.1⟩
theorem WV.lsl {w : Wd} {A : Int → Prop} (h : WV w A) : w.ls.length ≤ 14 := h.g.2.2.1
theorem nb_i {n : Int} {ls : List Lk} (g : GV n ls) (m : Int) : sh_impl_Graph_neighbours (n, ls, m, ()) = some (nbS ls m n.toNat, ()) := by
  have h1 := g.1
  have h3 := g.2.2.1
  obtain ⟨N, rfl⟩ := Int.eq_ofNat_of_zero_le (show 0 ≤ n by omega)
  rw [e_neighbours _ _ _ (by omega), sort_nb g, Int.toNat_natCast]
theorem nb8 {N : Nat} {ls : List Lk} (g : GV N ls) (m : Int) : nbS ls m 8 = nbS ls m N := by
  have h2 := g.2.1
  refine asc_ext (nbS_asc ls m 8) (nbS_asc ls m N) fun x => ?_
  rw [nbS_mem, nbS_mem]
  constructor
  · rintro ⟨j, _, rfl, h⟩
    have := lc_none_out g h
    exact ⟨j, by omega, rfl, h⟩
  · rintro ⟨j, hj, rfl, h⟩
    exact ⟨j, by omega, rfl, h⟩
theorem nb_s {n : Int} {ls : List Lk} (g : GV n ls) (m : Int) : sh_spec_GraphNeighbours (n, ls, m, ()) = some (nbS ls m n.toNat, ()) := by
  have h1 := g.1
  have h3 := g.2.2.1
  obtain ⟨N, rfl⟩ := Int.eq_ofNat_of_zero_le (show 0 ≤ n by omega)
  rw [e_sGraphNeighbours _ _ _ (show Fits ls by unfold Fits; omega), if_pos (show gv (N : Int) ls = true from decide_eq_true g), Int.toNat_natCast, nb8 g m]
theorem flN_take {l : Ls} {ex : Int} {net : List Pk} {nb : List Int} {k : Nat} (h : k < nb.length) : flN l ex net (nb.take (k + 1)) = fl1 l ex (flN l ex net (nb.take k)) (iz nb k) := by
  unfold flN
  rw [List.take_add_one, List.getElem?_eq_getElem h, List.foldl_append]
  congr 1
  simp [iz, List.getD, h]
theorem fl1_full {l : Ls} {ex : Int} {net : List Pk} {m : Int} (h : 16 ≤ net.length) : fl1 l ex net m = net := if_neg (by omega)
theorem flN_full {l : Ls} {ex : Int} {net : List Pk} (h : 16 ≤ net.length) : ∀ nb : List Int, flN l ex net nb = net
  | [] => rfl
  | m :: r => by
    show flN l ex (fl1 l ex net m) r = net
    rw [fl1_full h, flN_full h r]
theorem flN_stop {l : Ls} {ex : Int} {net : List Pk} {nb : List Int} {k : Nat} (h : 16 ≤ (flN l ex net (nb.take k)).length) : flN l ex net (nb.take k) = flN l ex net nb := by
  have : flN l ex net nb = flN l ex (flN l ex net (nb.take k)) (nb.drop k) := by
    conv => lhs; rw [← List.take_append_drop k nb]
    unfold flN
    rw [List.foldl_append]
  rw [this, flN_full h]
theorem e_flood (w : Wd) (i ex : Int) (l : Ls) (g : GV w.n w.ls) (hu : w.up.length = w.ls.length) (hn : w.net.length ≤ 16) (hl : Sm l.e) : sh_impl_World_flood (i, l.o, l.s, l.e, ex, w.n, w.ls, w.up, w.sq, w.db, w.net, ()) = some (w.n, w.ls, w.up, w.sq, w.db, flN l ex w.net (nbS (tru w.ls w.up) i w.n.toNat), ()) := by
  have h14 := g.2.2.1
  unfold sh_impl_World_flood
  dsimp only
  rw [e_truth w hu (by omega)]
  simp only [Option.bind_some, nb_i (tru_gv g w.up)]
  have h8 := nbS_len (tru w.ls w.up) i w.n.toNat
  have hn8 := g.2.1
  generalize nbS (tru w.ls w.up) i w.n.toNat = nb at h8 ⊢
  refine Sat.out (Sat.bnd (R := fun r => match r with | .inl x => x = (w.n, w.ls, w.up, w.sq, w.db, flN l ex w.net nb, ()) | .inr _ => False) ?_ ?_)
  · refine Sat.count nb.length (fun k t => t = (ex, (nb.length : Int), (k : Int), w.n, w.ls, w.up, w.sq, w.db, l.o, l.s, l.e, nb, flN l ex w.net (nb.take k), ())) ?_ (Nat.zero_le _) (fuel_lt (by omega)) (by simp [nI_eq, flN])
    rintro k t hk rfl
    simp (disch := omega) only [bo_impl_World_flood_2, bo_impl_World_flood_5, at_int, toN, w64, nI_eq, e_copyLsa _ _ _ hl, Option.bind_some]
    by_cases hlt : k < nb.length
    · refine Sat.gd (decide_eq_true (by omega)) (Sat.gd (inR_t (by omega) (by omega)) (Sat.ite (fun he => Sat.ite (fun hf => ?_) (fun hf => ?_)) (fun he => ?_)))
      · have he : ¬ iz nb k = ex := by simpa using he
        have hf := of_decide_eq_true hf
        refine Sat.bnd (R := fun r => r = .inl (ex, (nb.length : Int), (k : Int), w.n, w.ls, w.up, w.sq, w.db, l.o, l.s, l.e, nb, flN l ex w.net (nb.take k) ++ [⟨iz nb k, l⟩], ())) (Sat.gd (decide_eq_true (by simp only [List.length_singleton]; omega)) (.some rfl)) ?_
        rintro _ rfl
        simp (disch := omega) only [w64]
        refine .some ⟨hlt, ?_⟩
        rw [flN_take hlt, fl1, if_pos ⟨he, by omega⟩]
        rfl
      · have hf := of_decide_eq_false hf
        refine .some ⟨hlt, ?_⟩
        rw [flN_take hlt, fl1, if_neg (by omega)]
        rfl
      · have he : iz nb k = ex := by simpa using he
        refine .some ⟨hlt, ?_⟩
        rw [flN_take hlt, fl1, if_neg (fun hh => hh.1 he)]
        rfl
    · obtain rfl : k = nb.length := by omega
      rw [List.take_length]
      exact Sat.no (decide_eq_false (by omega)) (.some rfl)
  · rintro (r | r) hr
    case inr => exact hr.elim
    obtain rfl := hr
    exact .some rfl
theorem e_l51Flood (w : Wd) (i ex : Int) (l : Ls) (g : GV w.n w.ls) (hu : w.up.length = w.ls.length) (hn : w.net.length ≤ 16) (hl : Sm l.e) : sh_spec_l51Flood (w.n, i, l.o, l.s, l.e, ex, w.ls, w.up, w.sq, w.db, w.net, ()) = some (w.n, w.ls, w.up, w.sq, w.db, flN l ex w.net (nbS (tru w.ls w.up) i w.n.toNat), ()) := by
  have h14 := g.2.2.1
  unfold sh_spec_l51Flood
  dsimp only
  rw [e_l51Truth w hu (by omega)]
  simp only [Option.bind_some, nb_s (tru_gv g w.up)]
  have h8 := nbS_len (tru w.ls w.up) i w.n.toNat
  have hn8 := g.2.1
  generalize nbS (tru w.ls w.up) i w.n.toNat = nb at h8 ⊢
  refine Sat.out (Sat.bnd (R := fun r => match r with | .inl x => x = (w.ls, w.up, w.sq, w.db, w.n, 0, [], [], [], [], [], flN l ex w.net nb, ()) | .inr _ => False) ?_ ?_)
  · refine Sat.count nb.length (fun k t => t = (ex, (k : Int), w.ls, w.up, w.sq, w.db, w.n, l.o, l.s, l.e, 0, [], [], [], [], [], nb, flN l ex w.net (nb.take k), ())) ?_ (Nat.zero_le _) (fuel_lt (by omega)) (by simp [nI_eq, flN])
    rintro k t hk rfl
    simp (disch := omega) only [bo_spec_l51Flood_3, at_int, toN, w64, nI_eq, e_l11One _ _ _ hl, Option.bind_some]
    by_cases hlt : k < nb.length
    · refine Sat.gd (decide_eq_true (by omega)) (Sat.ite (fun hf => ?_) (fun hf => ?_))
      · have hf := of_decide_eq_true hf
        refine Sat.gd (inR_t (by omega) (by omega)) (Sat.ite (fun he => ?_) (fun he => ?_))
        · have he : ¬ iz nb k = ex := by simpa using he
          refine Sat.gd (inR_t (by omega) (by omega)) (Sat.gd (decide_eq_true (by simp only [List.length_nil]; omega)) (Sat.gd (decide_eq_true (by simp only [List.nil_append, List.length_singleton]; omega)) (.some ⟨hlt, ?_⟩)))
          rw [flN_take hlt, fl1, if_pos ⟨he, by omega⟩]
          rfl
        · have he : iz nb k = ex := by simpa using he
          refine .some ⟨hlt, ?_⟩
          rw [flN_take hlt, fl1, if_neg (fun hh => hh.1 he)]
          rfl
      · have hf := of_decide_eq_false hf
        exact .some (by rw [flN_stop (by omega)])
    · obtain rfl : k = nb.length := by omega
      rw [List.take_length]
      exact Sat.no (decide_eq_false (by omega)) (.some rfl)
  · rintro (r | r) hr
    case inr => exact hr.elim
    obtain rfl := hr
    exact .some rfl
end Go.Proofs.YtojdflifijpffaaGreat
end
section
namespace Go.Proofs.YtojdflifijpffaaGreat
open Go.RowKit
set_option linter.unusedSimpArgs false
set_option linter.unusedVariables false
set_option maxRecDepth 100000

theorem sov {α β : Type} {o : Option α} {f : α → Option β} {r : α} {Q : β → Prop} (h : o = some r) (k : Sat (f r) Q) : Sat (o.bind f) Q := by subst h; exact k
theorem set_same {α : Type} {l : List α} {i : Nat} {d : α} (h : i < l.length) : l.set i (l.getD i d) = l := by
  rw [List.getD, List.getElem?_eq_getElem h]
  exact List.set_getElem_self h
theorem lsa_i {n : Int} {ls : List Lk} (g : GV n ls) (o s : Int) : sh_impl_Graph_lsaOf (n, ls, o, s, ()) = some (o, s, endsOf ls n.toNat o, ()) := by
  have h1 := g.1
  obtain ⟨N, rfl⟩ := Int.eq_ofNat_of_zero_le (show 0 ≤ n by omega)
  exact e_lsaOf g o s
theorem lsa_s {n : Int} {ls : List Lk} (g : GV n ls) (o s : Int) : sh_spec_l11Of (n, ls, o, s, ()) = some (o, s, endsOf ls n.toNat o, ()) := by
  have h1 := g.1
  obtain ⟨N, rfl⟩ := Int.eq_ofNat_of_zero_le (show 0 ≤ n by omega)
  exact e_l11Of g o s
section
variable {w : Wd} {A : Int → Prop}
theorem e_announce (h : WV w A) {i : Nat} (hi : i < w.db.length) (h99 : iz w.sq i < 99) : sh_impl_World_announce ((i : Int), w.n, w.ls, w.up, w.sq, w.db, w.net, ()) = some (wt (annW w i)) := by
  have hsq := h.sq
  have hdb := h.db
  have his : i < w.sq.length := by omega
  have hr := h.rng i his
  have h14 := h.lsl
  have hd := h.ok i hi
  have hnw := newL_ok h hi h99
  have hlen := hd.len
  have b1 : bo_impl_World_announce_1 ((i : Int), w.n, w.ls, w.up, w.sq.set i (iz w.sq i + 1), w.db, w.net, ()) = some (.inl ((i : Int), w.n, w.ls, w.up, w.sq.set i (iz w.sq i + 1), w.db, (i : Int), iz w.sq i + 1, w.net, endsOf (tru w.ls w.up) w.n.toNat i, ())) := by
    unfold bo_impl_World_announce_1
    simp only [toN, at_int]
    refine Sat.out (Sat.gd (inR_t (by omega) (by rw [List.length_set]; omega)) (sov (e_truth { w with sq := w.sq.set i (iz w.sq i + 1) } h.up (by show w.ls.length ≤ 1000; omega)) ?_))
    dsimp only
    refine sov (lsa_i (tru_gv h.g w.up) _ _) (.some ?_)
    dsimp only
    rw [iz_set' his, if_pos rfl]
  have b2 : bo_impl_World_announce_2 ((i : Int), w.n, w.ls, w.up, w.sq.set i (iz w.sq i + 1), w.db, (i : Int), iz w.sq i + 1, w.net, endsOf (tru w.ls w.up) w.n.toNat i, ()) = some (.inl ((i : Int), w.n, w.ls, w.up, w.sq.set i (iz w.sq i + 1), w.db.set i (putD (dbx w.db i) (newL w i)), (i : Int), iz w.sq i + 1, w.net, endsOf (tru w.ls w.up) w.n.toNat i, ())) := by
    unfold bo_impl_World_announce_2
    simp only [toN, at_db]
    exact Sat.out (Sat.gd (inR_t (by omega) (by omega)) (sov (e_put (dbx w.db i) (newL w i) hd.so hd.sm hnw.sm (by omega)) (Sat.gd (inR_t (by omega) (by omega)) (.some rfl))))
  unfold sh_impl_World_announce
  simp (disch := omega) only [toN, at_int, w64]
  refine Sat.out (Sat.gd (inR_t (by omega) (by omega)) (Sat.gd (inR_t (by omega) (by omega)) (sov b1 ?_)))
  dsimp only
  refine sov b2 ?_
  dsimp only
  exact sov (e_flood { w with sq := w.sq.set i (iz w.sq i + 1), db := w.db.set i (putD (dbx w.db i) (newL w i)) } (i : Int) (-1) (newL w i) h.g h.up h.net hnw.sm) (.some rfl)
theorem e_l51Announce (h : WV w A) {i : Nat} (hi : i < w.db.length) (h99 : iz w.sq i < 99) : sh_spec_l51Announce (w.n, (i : Int), w.ls, w.up, w.sq, w.db, w.net, ()) = some (wt (annW w i)) := by
  have hsq := h.sq
  have hdb := h.db
  have his : i < w.sq.length := by omega
  have hr := h.rng i his
  have h14 := h.lsl
  have hd := h.ok i hi
  have hnw := newL_ok h hi h99
  have b1 : bo_spec_l51Announce_2 ((i : Int), w.ls, w.up, w.sq.set i (iz w.sq i + 1), w.db, w.n, 0, [], [], [], [], [], w.net, ()) = some (.inl ((i : Int), w.ls, w.up, w.sq.set i (iz w.sq i + 1), w.db, w.n, 0, [], [], [], [], [], (i : Int), iz w.sq i + 1, w.net, endsOf (tru w.ls w.up) w.n.toNat i, ())) := by
    unfold bo_spec_l51Announce_2
    simp only [toN, at_int]
    refine Sat.out (Sat.gd (inR_t (by omega) (by rw [List.length_set]; omega)) (sov (e_l51Truth { w with sq := w.sq.set i (iz w.sq i + 1) } h.up (by show w.ls.length ≤ 1000; omega)) ?_))
    dsimp only
    refine sov (lsa_s (tru_gv h.g w.up) _ _) (.some ?_)
    dsimp only
    rw [iz_set' his, if_pos rfl]
  unfold sh_spec_l51Announce
  simp (disch := omega) only [toN, at_int, w64]
  refine Sat.out (Sat.gd (inR_t (by omega) (by omega)) (Sat.gd (inR_t (by omega) (by omega)) (sov b1 ?_)))
  simp only [toN, at_db]
  refine Sat.gd (inR_t (by omega) (by omega)) (sov (e_l11Put (dbx w.db i) (newL w i) hd.so hd.sm hnw.sm) (Sat.gd (inR_t (by omega) (by omega)) ?_))
  exact sov (e_l51Flood { w with sq := w.sq.set i (iz w.sq i + 1), db := w.db.set i (putD (dbx w.db i) (newL w i)) } (i : Int) (-1) (newL w i) h.g h.up h.net hnw.sm) (.some rfl)
theorem e_announceI (h : WV w A) {i : Int} (h0 : 0 ≤ i) (hi : i < w.n) (h99 : iz w.sq i.toNat < 99) : sh_impl_World_announce (i, w.n, w.ls, w.up, w.sq, w.db, w.net, ()) = some (wt (annW w i.toNat)) := by
  have hdb := h.db
  obtain ⟨k, rfl⟩ := Int.eq_ofNat_of_zero_le h0
  exact e_announce h (by omega) h99
theorem e_l51AnnounceI (h : WV w A) {i : Int} (h0 : 0 ≤ i) (hi : i < w.n) (h99 : iz w.sq i.toNat < 99) : sh_spec_l51Announce (w.n, i, w.ls, w.up, w.sq, w.db, w.net, ()) = some (wt (annW w i.toNat)) := by
  have hdb := h.db
  obtain ⟨k, rfl⟩ := Int.eq_ofNat_of_zero_le h0
  exact e_l51Announce h (by omega) h99
structure SmW (w : Wd) : Prop where
  ls : w.ls.length ≤ 1000
  up : w.up.length ≤ 1000
  sq : w.sq.length ≤ 1000
  db : w.db.length ≤ 1000
  net : w.net.length ≤ 1000
  dbs : ∀ i, i < w.db.length → SmD (dbx w.db i)
  pks : ∀ i, i < w.net.length → Sm (pkx w.net i).p.e
theorem WV.sm (h : WV w A) : SmW w := by
  have h1 := h.lsl
  have h2 := h.up
  have h3 := h.sq
  have h4 := h.db
  have h5 := h.net
  have h6 := h.nn
  exact ⟨by omega, by omega, by omega, by omega, by omega, fun i hi => (h.ok i hi).sm, fun i hi => (h.poss _ (.inr ⟨_, pkx_mem hi, rfl⟩)).1.sm⟩
theorem take_dbx {db : List (List Ls)} {k : Nat} (h : k < db.length) : db.take k ++ [dbx db k] = db.take (k + 1) := by
  rw [List.take_add_one, List.getElem?_eq_getElem h]; simp [dbx, List.getD, h]
theorem take_pkx {net : List Pk} {k : Nat} (h : k < net.length) : net.take k ++ [⟨(pkx net k).t, ⟨(pkx net k).p.o, (pkx net k).p.s, (pkx net k).p.e⟩⟩] = net.take (k + 1) := by
  rw [List.take_add_one, List.getElem?_eq_getElem h]
  have : pkx net k = net[k] := by simp [pkx, List.getD, h]
  rw [this]; rfl
theorem e_copyWorld (h : SmW w) : sh_impl_copyWorld (w.n, w.ls, w.up, w.sq, w.db, w.net, ()) = some (w.n, w.ls, w.up, w.sq, w.db, w.net, ()) := by
  have h1 := h.ls
  have h2 := h.up
  have h3 := h.sq
  have h4 := h.db
  have h5 := h.net
  cases w with | mk n ls up sq db net =>
  dsimp only at h1 h2 h3 h4 h5 ⊢
  have b1 : bo_impl_copyWorld_1 (n, ls, up, sq, db, net, 0, [], [], [], [], [], ()) = some (.inl (n, ls, up, sq, db, net, 0, [], [], [], [], [], n, ls, up, sq, [], [], ())) := by
    unfold bo_impl_copyWorld_1
    refine Sat.out (sov (e_keepC n ls h1) ?_)
    unfold sh_slices_Clone_bool_bool sh_slices_Clone_int_int
    rw [decide_eq_true (show up.length ≤ 16777216 by omega), decide_eq_true (show sq.length ≤ 16777216 by omega)]
    exact .some rfl
  unfold sh_impl_copyWorld
  refine Sat.out (sov b1 ?_)
  refine Sat.bnd (R := fun r => match r with | .inl x => x = (n, ls, up, sq, db, net, 0, [], [], [], [], [], n, ls, up, sq, db, [], ()) | .inr _ => False) ?_ ?_
  · refine Sat.count db.length (fun k t => t = (db, (db.length : Int), (k : Int), n, ls, up, sq, db, net, 0, [], [], [], [], [], n, ls, up, sq, db.take k, [], ())) ?_ (Nat.zero_le _) (fuel_lt (by omega)) (by simp [nI_eq])
    rintro k t hk rfl
    by_cases hlt : k < db.length
    · have e1 := e_copyDb _ (h.dbs k hlt)
      simp (disch := omega) only [bo_impl_copyWorld_3, at_db, toN, w64, e1, Option.bind_some]
      refine Sat.gd (decide_eq_true (by omega)) (Sat.gd (inR_t (by omega) (by omega)) (Sat.gd (decide_eq_true (by simp; omega)) (.some ⟨hlt, ?_⟩)))
      rw [← take_dbx hlt]; rfl
    · obtain rfl : k = db.length := by omega
      unfold bo_impl_copyWorld_3
      refine Sat.no (decide_eq_false (by first | omega | (dsimp only; omega))) (.some ?_)
      rw [List.take_length]
  rintro (r | r) hr
  case inr => exact hr.elim
  obtain rfl := hr
  refine Sat.bnd (R := fun r => match r with | .inl x => x = (0, [], [], [], [], [], n, ls, up, sq, db, net, ()) | .inr _ => False) ?_ ?_
  · refine Sat.count net.length (fun k t => t = (net, (net.length : Int), (k : Int), 0, [], [], [], [], [], n, ls, up, sq, db, net.take k, ())) ?_ (Nat.zero_le _) (fuel_lt (by omega)) (by simp [nI_eq])
    rintro k t hk rfl
    by_cases hlt : k < net.length
    · have e1 := e_copyLsa (pkx net k).p.o (pkx net k).p.s _ (h.pks k hlt)
      simp (disch := omega) only [bo_impl_copyWorld_8, at_pk, toN, w64, e1, Option.bind_some]
      refine Sat.gd (decide_eq_true (by omega)) (Sat.gd (inR_t (by omega) (by omega)) ?_)
      refine Sat.gd (decide_eq_true (by simp; omega)) (.some ⟨hlt, ?_⟩)
      rw [← take_pkx hlt]; rfl
    · obtain rfl : k = net.length := by omega
      unfold bo_impl_copyWorld_8
      refine Sat.no (decide_eq_false (by first | omega | (dsimp only; omega))) (.some ?_)
      rw [List.take_length]
  rintro (r | r) hr
  case inr => exact hr.elim
  obtain rfl := hr
  exact .some rfl
theorem e_l1Copy (n : Int) (ls : List Lk) (hl : ls.length ≤ 1000) : sh_spec_l1Copy (n, ls, ()) = some (n, ls, ()) := by
  unfold sh_spec_l1Copy
  exact Sat.out (Sat.gd (decide_eq_true (by simp only [List.length_nil]; omega)) (.some rfl))
theorem e_l51Copy (h : SmW w) : sh_spec_l51Copy (w.n, w.ls, w.up, w.sq, w.db, w.net, ()) = some (w.n, w.ls, w.up, w.sq, w.db, w.net, ()) := by
  have h1 := h.ls
  have h2 := h.up
  have h3 := h.sq
  have h4 := h.db
  have h5 := h.net
  cases w with | mk n ls up sq db net =>
  dsimp only at h1 h2 h3 h4 h5 ⊢
  have b1 : bo_spec_l51Copy_1 (n, ls, up, sq, db, net, 0, [], [], [], [], [], ()) = some (.inl (n, ls, up, sq, db, net, 0, [], [], [], [], [], n, ls, up, sq, [], [], ())) := by
    unfold bo_spec_l51Copy_1
    exact Sat.out (sov (e_l1Copy n ls h1) (Sat.gd (decide_eq_true (by simp; omega)) (Sat.gd (decide_eq_true (by simp; omega)) (.some (by simp)))))
  unfold sh_spec_l51Copy
  refine Sat.out (sov b1 ?_)
  refine Sat.bnd (R := fun r => match r with | .inl x => x = (n, ls, up, sq, db, net, 0, [], [], [], [], [], n, ls, up, sq, db, [], ()) | .inr _ => False) ?_ ?_
  · refine Sat.count db.length (fun k t => t = ((k : Int), n, ls, up, sq, db, net, 0, [], [], [], [], [], n, ls, up, sq, db.take k, [], ())) ?_ (Nat.zero_le _) (fuel_lt (by omega)) (by simp [nI_eq])
    rintro k t hk rfl
    by_cases hlt : k < db.length
    · have e1 := e_l11Copy _ (h.dbs k hlt)
      simp (disch := omega) only [bo_spec_l51Copy_3, at_db, toN, w64, nI_eq, e1, Option.bind_some]
      refine Sat.gd (decide_eq_true (by omega)) (Sat.gd (inR_t (by omega) (by omega)) (Sat.gd (decide_eq_true (by simp; omega)) (.some ⟨hlt, ?_⟩)))
      rw [← take_dbx hlt]; rfl
    · obtain rfl : k = db.length := by omega
      unfold bo_spec_l51Copy_3
      simp only [nI_eq]
      refine Sat.no (decide_eq_false (by first | omega | (dsimp only; omega))) (.some ?_)
      rw [List.take_length]
  rintro (r | r) hr
  case inr => exact hr.elim
  obtain rfl := hr
  refine Sat.bnd (R := fun r => match r with | .inl x => x = (0, [], [], [], [], [], n, ls, up, sq, db, net, ()) | .inr _ => False) ?_ ?_
  · refine Sat.count net.length (fun k t => t = ((k : Int), n, ls, up, sq, db, net, 0, [], [], [], [], [], n, ls, up, sq, db, net.take k, ())) ?_ (Nat.zero_le _) (fuel_lt (by omega)) (by simp [nI_eq])
    rintro k t hk rfl
    by_cases hlt : k < net.length
    · have e1 := e_l11One (pkx net k).p.o (pkx net k).p.s _ (h.pks k hlt)
      simp (disch := omega) only [bo_spec_l51Copy_7, at_pk, toN, w64, nI_eq, e1, Option.bind_some]
      refine Sat.gd (decide_eq_true (by omega)) (Sat.gd (inR_t (by omega) (by omega)) (Sat.gd (inR_t (by omega) (by omega)) ?_))
      refine Sat.gd (decide_eq_true (by simp; omega)) (.some ⟨hlt, ?_⟩)
      rw [← take_pkx hlt]; rfl
    · obtain rfl : k = net.length := by omega
      unfold bo_spec_l51Copy_7
      simp only [nI_eq]
      refine Sat.no (decide_eq_false (by first | omega | (dsimp only; omega))) (.some ?_)
      rw [List.take_length]
  rintro (r | r) hr
  case inr => exact hr.elim
  obtain rfl := hr
  exact .some rfl
end
end Go.Proofs.YtojdflifijpffaaGreat
end
section
namespace Go.Proofs.YtojdflifijpffaaGreat
open Go.RowKit
set_option linter.unusedSimpArgs false
set_option linter.unusedVariables false
set_option maxRecDepth 100000

section
variable {w : Wd} {A : Int → Prop}
theorem do12 {kind a : Int} (hk : kind = 1 ∨ kind = 2) : doW w kind a = if 0 ≤ a ∧ a < w.up.length then turnW w a.toNat (decide (kind = 2)) else w := by
  unfold doW
  rcases hk with rfl | rfl <;> simp
theorem do3 {a : Int} : doW w 3 a = if 0 ≤ a ∧ a < w.net.length then hearW { w with net := w.net.eraseIdx a.toNat } (pkx w.net a.toNat).t.toNat (pkx w.net a.toNat).p else w := by
  unfold doW; simp
theorem do4 {a : Int} : doW w 4 a = if 0 ≤ a ∧ a < w.net.length then { w with net := w.net.eraseIdx a.toNat } else w := by
  unfold doW; simp
theorem do5 {a : Int} : doW w 5 a = if 0 ≤ a ∧ a < w.net.length then (if w.net.length < 16 then { w with net := w.net ++ [pkx w.net a.toNat] } else w) else w := by
  unfold doW; simp
theorem do6 {a : Int} : doW w 6 a = if 0 ≤ a ∧ a < w.up.length then syncW w a.toNat else w := by
  unfold doW; simp
theorem doX {kind a : Int} (h1 : kind ≠ 1) (h2 : kind ≠ 2) (h3 : kind ≠ 3) (h4 : kind ≠ 4) (h5 : kind ≠ 5) (h6 : kind ≠ 6) : doW w kind a = w := by
  unfold doW; simp [h1, h2, h3, h4, h5, h6]
theorem turn_pre (h : WV w Nob) {k : Nat} (hk : k < w.ls.length) (u : Bool) (ha : iz w.sq (lk w.ls k).a.toNat < 99) (hb : iz w.sq (lk w.ls k).b.toNat < 99) : ∃ A, WV (annW { w with up := w.up.set k u } (lk w.ls k).a.toNat) A ∧ iz (annW { w with up := w.up.set k u } (lk w.ls k).a.toNat).sq (lk w.ls k).b.toNat < 99 := by
  have hdb := h.db
  have hsq := h.sq
  have ho := h.g.ok (lk_mem hk)
  unfold okL at ho
  refine ⟨_, ann_ok (up_ok h hk u) (i := (lk w.ls k).a.toNat) (by show _ < w.db.length; omega) (by show iz w.sq _ < 99; omega), ?_⟩
  show iz (w.sq.set (lk w.ls k).a.toNat _) (lk w.ls k).b.toNat < 99
  rw [iz_set' (by omega), if_neg (by omega)]
  omega
theorem e_l51Turn (h : WV w Nob) {k : Nat} (hk : k < w.ls.length) (u : Bool) : sh_spec_l51Turn (w.n, w.ls, w.up, w.sq, w.db, w.net, (k : Int), u, ()) = some (wt (turnW w k u)) := by
  have hdb := h.db
  have hsq := h.sq
  have hup := h.up
  have ho := h.g.ok (lk_mem hk)
  unfold okL at ho
  have main : w.up.getD k false ≠ u → iz w.sq (lk w.ls k).a.toNat < 99 → iz w.sq (lk w.ls k).b.toNat < 99 → bo_spec_l51Turn_6 (w.n, 0, [], [], [], [], [], (lk w.ls k).a, (lk w.ls k).b, (lk w.ls k).c, w.ls, w.up.set k u, w.sq, w.db, w.net, ()) = some (.inl (wt (turnW w k u))) := fun hu ha hb => by
    obtain ⟨A, v, hv⟩ := turn_pre h hk u ha hb
    unfold bo_spec_l51Turn_6
    refine Sat.out (sov (e_l51AnnounceI (up_ok h hk u) (i := (lk w.ls k).a) (by omega) (by show _ < w.n; omega) ha) ?_)
    dsimp only [wt]
    refine sov (e_l51AnnounceI v (i := (lk w.ls k).b) (by omega) (by show _ < w.n; omega) hv) (.some ?_)
    unfold turnW
    rw [if_neg (by rintro (e | e | e); exact hu e; omega; omega)]
    rfl
  unfold sh_spec_l51Turn
  simp only [toN, at_lk, at_bo, at_int]
  refine Sat.out (Sat.gd (inR_t (by omega) (by omega)) (Sat.gd (inR_t (by omega) (by omega)) (Sat.ite (fun hc => .some ?_) (fun hc => ?_))))
  · have hc : w.up.getD k false = u := by simpa using hc
    unfold turnW; rw [if_pos (.inl hc)]; rfl
  have hc : w.up.getD k false ≠ u := by simpa using hc
  refine Sat.gd (inR_t (by omega) (by omega)) (Sat.ite (fun ha => .some ?_) (fun ha => ?_))
  · have ha := of_decide_eq_true ha
    unfold turnW; rw [if_pos (.inr (.inl ha))]; rfl
  have ha := of_decide_eq_false ha
  refine Sat.gd (inR_t (by omega) (by omega)) (Sat.ite (fun hb => .some ?_) (fun hb => ?_))
  · have hb := of_decide_eq_true hb
    unfold turnW; rw [if_pos (.inr (.inr hb))]; rfl
  have hb := of_decide_eq_false hb
  refine sov (e_l51Copy h.sm) ?_
  dsimp only
  refine Sat.gd (inR_t (by omega) (by omega)) (sov (main hc (by omega) (by omega)) (.some rfl))
theorem e_l51Hear (h : WV w A) {t : Nat} (ht : t < w.db.length) {l : Ls} (hl : LsV l) : sh_spec_l51Hear (w.n, w.ls, w.up, w.sq, w.db, w.net, (t : Int), l.o, l.s, l.e, ()) = some (wt (hearW w t l)) := by
  have hd := h.ok t ht
  unfold sh_spec_l51Hear
  simp only [toN, at_db]
  refine Sat.out (Sat.gd (inR_t (by omega) (by omega)) (sov (e_l11Put (dbx w.db t) l hd.so hd.sm hl.sm) ?_))
  dsimp only
  unfold hearW
  refine Sat.ite (fun hc => .some ?_) (fun hc => ?_)
  · have hc : ¬ putC (dbx w.db t) l = 0 := by simpa using hc
    rw [if_neg hc]; rfl
  · have hc : putC (dbx w.db t) l = 0 := by simpa using hc
    rw [if_pos hc]
    refine sov (e_l51Copy h.sm) ?_
    dsimp only
    refine Sat.gd (inR_t (by omega) (by omega)) ?_
    exact sov (e_l51Flood { w with db := w.db.set t (putD (dbx w.db t) l) } (t : Int) l.o l h.g h.up h.net hl.sm) (.some rfl)
theorem e_l51Sync (h : WV w A) {k : Nat} (hk : k < w.ls.length) : sh_spec_l51Sync (w.n, w.ls, w.up, w.sq, w.db, w.net, (k : Int), ()) = some (wt (syncW w k)) := by
  have hdb := h.db
  have hup := h.up
  have ho := h.g.ok (lk_mem hk)
  unfold okL at ho
  have va := h.ok (lk w.ls k).a.toNat (by omega)
  have vb := h.ok (lk w.ls k).b.toNat (by omega)
  have vm := mergeD_ok va (dbV_iff.1 vb).1
  have la := va.len
  have lb := vb.len
  unfold sh_spec_l51Sync syncW
  simp only [toN, at_db, at_lk, at_bo]
  refine Sat.out (Sat.gd (inR_t (by omega) (by omega)) (Sat.gd (inR_t (by omega) (by omega)) (Sat.ite (fun hc => .some ?_) (fun hc => ?_))))
  · have hc : ¬ w.up.getD k false = true := by simpa using hc
    rw [if_neg hc]; rfl
  · have hc : w.up.getD k false = true := by simpa using hc
    rw [if_pos hc]
    refine sov (e_l51Copy h.sm) ?_
    dsimp only
    refine Sat.gd (inR_t (by omega) (by omega)) (Sat.gd (inR_t (by omega) (by omega)) (sov (e_l11Merge _ _ va.so va.sm vb.sm (by omega) (by omega)) ?_))
    dsimp only
    refine Sat.gd (inR_t (by omega) (by omega)) (sov (e_l11Copy _ vm.sm) ?_)
    refine Sat.gd (inR_t (by omega) (by rw [List.length_set]; omega)) (.some rfl)
theorem toS (k : Nat) : Int.toNat ((k : Int) + 1) = k + 1 := by omega
theorem tkd {α : Type} (l : List α) (j : Nat) : List.take (l.length - j) (List.drop j l) = List.drop j l := List.take_of_length_le (by simp)
theorem bnd_t {lo hi : Int} {n : Nat} (h1 : 0 ≤ lo) (h2 : lo ≤ hi) (h3 : hi ≤ n) : bnd2 lo hi n = true := by unfold bnd2; simp; omega
theorem e_l51Net (h : WV w Nob) {kind : Int} (hk : kind = 3 ∨ kind = 4 ∨ kind = 5) (a : Int) : sh_spec_l51Net (w.n, w.ls, w.up, w.sq, w.db, w.net, kind, a, ()) = some (wt (doW w kind a)) := by
  have hnet := h.net
  have hdb := h.db
  unfold sh_spec_l51Net
  simp (disch := omega) only [e_l6In, Option.bind_some, nI_eq, w64]
  refine Sat.out (Sat.ite (fun hc => .some ?_) (fun hc => ?_))
  · have hc := inB_f (show inB a 0 ((w.net.length : Int) - 1) = false by simpa using hc)
    rcases hk with rfl | rfl | rfl
    · rw [do3, if_neg (by omega)]; rfl
    · rw [do4, if_neg (by omega)]; rfl
    · rw [do5, if_neg (by omega)]; rfl
  have hc : 0 ≤ a ∧ a ≤ (w.net.length : Int) - 1 := by simpa [inB] using hc
  obtain ⟨k, rfl⟩ := Int.eq_ofNat_of_zero_le hc.1
  have hkn : k < w.net.length := by omega
  have hm : pkx w.net k ∈ w.net := pkx_mem hkn
  have hP := h.poss _ (.inr ⟨_, hm, rfl⟩)
  have ht := h.tgt _ hm
  have hV := hP.1
  have w1 : wrap64 ((k : Int) + 1) = ((k : Int) + 1) := w64 (by omega) (by omega)
  simp only [w1, toN, toS, at_pk, Int.toNat_zero, List.drop_zero, Nat.sub_zero, List.nil_append, tkd, ← List.eraseIdx_eq_take_drop_succ]
  clear w1
  refine Sat.gd (inR_t (by omega) (by omega)) ?_
  by_cases h5 : kind = 5
  · subst h5
    rw [do5, if_pos ⟨by omega, by omega⟩, toN]
    refine Sat.gd rfl (Sat.ite (fun hf => ?_) (fun hf => ?_))
    · have hf := of_decide_eq_true hf
      rw [if_pos (by omega)]
      have e : bo_spec_l51Net_6 (w.n, w.ls, w.up, w.sq, w.db, w.net, 0, [], [], [], [], [], (pkx w.net k).t, (pkx w.net k).p.o, (pkx w.net k).p.s, (pkx w.net k).p.e, ()) = some (.inl (w.n, w.ls, w.up, w.sq, w.db, 0, [], [], [], [], [], w.net ++ [pkx w.net k], ())) := by
        unfold bo_spec_l51Net_6
        refine Sat.out (Sat.gd (decide_eq_true (by simp only [List.length_nil]; omega)) (Sat.gd (decide_eq_true (by simp only [List.nil_append, List.length_singleton]; omega)) (.some (by simp))))
      exact sov e (.some rfl)
    · have hf := of_decide_eq_false hf
      rw [if_neg (by omega)]
      exact .some rfl
  refine Sat.no (decide_eq_false h5) (Sat.gd (bnd_t (by omega) (by omega) (by omega)) (Sat.gd (bnd_t (by omega) (by omega) (by omega)) ?_))
  refine Sat.gd (decide_eq_true (by simp only [List.length_nil, List.length_take]; omega)) (Sat.gd (decide_eq_true (by simp only [List.length_take, List.length_drop]; omega)) ?_)
  by_cases h3 : kind = 3
  · subst h3
    rw [do3, if_pos ⟨by omega, by omega⟩, toN]
    refine Sat.gd rfl ?_
    obtain ⟨t, ht'⟩ := Int.eq_ofNat_of_zero_le ht.1
    rw [ht']
    exact sov (e_l51Hear (lose_ok h k) (t := t) (by show t < w.db.length; omega) hV) (.some rfl)
  · have h4 : kind = 4 := by omega
    subst h4
    rw [do4, if_pos ⟨by omega, by omega⟩, toN]
    exact Sat.no rfl (.some rfl)
theorem e_l51Do (h : WV w Nob) (kind a : Int) : sh_spec_l51Do (w.n, w.ls, w.up, w.sq, w.db, w.net, kind, a, ()) = some (wt (doW w kind a)) := by
  have hup := h.up
  have h14 := h.lsl
  have hnet : ∀ kind, kind = 3 ∨ kind = 4 ∨ kind = 5 → Sat ((sh_spec_l51Net (w.n, w.ls, w.up, w.sq, w.db, w.net, kind, a, ())).bind fun r0 => some ((r0.1, r0.2.1, r0.2.2.1, r0.2.2.2.1, r0.2.2.2.2.1, r0.2.2.2.2.2.1, ()))) (· = wt (doW w kind a)) := fun kind hk => sov (e_l51Net h hk a) (.some rfl)
  unfold sh_spec_l51Do
  dsimp only
  by_cases h3 : kind = 3
  · subst h3; exact Sat.out (Sat.gd rfl (Sat.gd rfl (hnet 3 (.inl rfl))))
  by_cases h4 : kind = 4
  · subst h4; exact Sat.out (Sat.no rfl (Sat.gd rfl (Sat.gd rfl (hnet 4 (.inr (.inl rfl))))))
  by_cases h5 : kind = 5
  · subst h5; exact Sat.out (Sat.no rfl (Sat.no rfl (Sat.gd rfl (hnet 5 (.inr (.inr rfl))))))
  refine Sat.out (Sat.no (decide_eq_false h3) (Sat.no (decide_eq_false h4) (Sat.no (decide_eq_false h5) (sov (e_l6In _ _ _) ?_))))
  simp (disch := omega) only [nI_eq, w64]
  have out : ¬ (0 ≤ a ∧ a < w.up.length) → doW w kind a = w := fun hh => by
    unfold doW
    simp only [h3, h4, h5, false_and, if_false]
    rw [if_neg (fun q => hh q.2), if_neg (fun q => hh q.2)]
  refine Sat.ite (fun hc => .some ?_) (fun hc => ?_)
  · have hc := inB_f (show inB a 0 ((w.up.length : Int) - 1) = false by simpa using hc)
    rw [out (by omega)]; rfl
  have hc : 0 ≤ a ∧ a ≤ (w.up.length : Int) - 1 := by simpa [inB] using hc
  obtain ⟨k, rfl⟩ := Int.eq_ofNat_of_zero_le hc.1
  by_cases h1 : kind = 1
  · subst h1
    rw [do12 (.inl rfl), if_pos ⟨by omega, by omega⟩, toN]
    exact Sat.gd rfl (Sat.gd rfl (sov (e_l51Turn h (by omega) _) (.some rfl)))
  by_cases h2 : kind = 2
  · subst h2
    rw [do12 (.inr rfl), if_pos ⟨by omega, by omega⟩, toN]
    exact Sat.no rfl (Sat.gd rfl (sov (e_l51Turn h (by omega) _) (.some rfl)))
  refine Sat.no (decide_eq_false h1) (Sat.no (decide_eq_false h2) ?_)
  by_cases h6 : kind = 6
  · subst h6
    rw [do6, if_pos ⟨by omega, by omega⟩, toN]
    exact Sat.gd rfl (sov (e_l51Sync h (by omega)) (.some rfl))
  · refine Sat.no (decide_eq_false h6) (.some ?_)
    rw [doX h1 h2 h3 h4 h5 h6]; rfl
end
end Go.Proofs.YtojdflifijpffaaGreat
end
section
namespace Go.Proofs.YtojdflifijpffaaGreat
open Go.RowKit
set_option linter.unusedSimpArgs false
set_option linter.unusedVariables false
set_option maxRecDepth 100000

section
variable {w : Wd} {A : Int → Prop}
theorem e_del (net : List Pk) (k : Nat) (hk : k < net.length) (hn : net.length ≤ 16) : sh_slices_Delete_impl_Packet_impl_Packet ((k : Int), (k : Int) + 1, net, ()) = some (net.eraseIdx k, ()) := by
  unfold sh_slices_Delete_impl_Packet_impl_Packet
  rw [List.eraseIdx_eq_take_drop_succ]
  exact Sat.out (Sat.gd (decide_eq_true ⟨by omega, rfl, by show (k : Int) < (net.length : Int); omega, by show net.length ≤ 16777216; omega⟩) (.some rfl))
theorem e_apply (h : WV w Nob) (kind a : Int) : sh_impl_World_apply (kind, a, w.n, w.ls, w.up, w.sq, w.db, w.net, ()) = some (wt (doW w kind a)) := by
  have hup := h.up
  have h14 := h.lsl
  have hnet := h.net
  have hdb := h.db
  have hsq := h.sq
  unfold sh_impl_World_apply
  simp (disch := omega) only [e_within, Option.bind_some, nI_eq, w64]
  by_cases h12 : kind = 1 ∨ kind = 2
  · rw [do12 h12]
    cases hin : inB a 0 ((w.up.length : Int) - 1) with
    | false =>
      have hc := inB_f hin
      rw [if_neg (by omega)]
      rcases h12 with rfl | rfl
      · exact Sat.out (Sat.gd rfl (Sat.no rfl (Sat.no rfl (Sat.no rfl (Sat.no rfl (Sat.no rfl (.some rfl)))))))
      · exact Sat.out (Sat.no rfl (Sat.gd rfl (Sat.no rfl (Sat.no rfl (Sat.no rfl (Sat.no rfl (Sat.no rfl (.some rfl))))))))
    | true =>
      have hc := inB_t hin
      obtain ⟨k, rfl⟩ := Int.eq_ofNat_of_zero_le hc.1
      have hk : k < w.ls.length := by omega
      have ho := h.g.ok (lk_mem hk)
      unfold okL at ho
      rw [if_pos ⟨by omega, by omega⟩, toN]
      have main : ∀ u : Bool, w.up.getD k false ≠ u → iz w.sq (lk w.ls k).a.toNat < 99 → iz w.sq (lk w.ls k).b.toNat < 99 → Sat ((sh_impl_World_announce ((lk w.ls k).a, w.n, w.ls, w.up.set k u, w.sq, w.db, w.net, ())).bind fun r2 => (sh_impl_World_announce (((lk w.ls k).b, (r2.1, (r2.2.1, (r2.2.2.1, (r2.2.2.2.1, (r2.2.2.2.2.1, (r2.2.2.2.2.2.1, ()))))))))).bind fun r3 => some ((r3.1, r3.2.1, r3.2.2.1, r3.2.2.2.1, r3.2.2.2.2.1, r3.2.2.2.2.2.1, ()))) (· = wt (turnW w k u)) := fun u hu ha hb => by
        obtain ⟨A, v, hv⟩ := turn_pre h hk u ha hb
        refine sov (e_announceI (up_ok h hk u) (i := (lk w.ls k).a) (by omega) (by show _ < w.n; omega) ha) ?_
        dsimp only [wt]
        refine sov (e_announceI v (i := (lk w.ls k).b) (by omega) (by show _ < w.n; omega) hv) (.some ?_)
        unfold turnW
        rw [if_neg (by rintro (e | e | e); exact hu e; omega; omega)]
        rfl
      have same : ∀ u : Bool, ¬ (w.up.getD k false ≠ u ∧ iz w.sq (lk w.ls k).a.toNat < 99 ∧ iz w.sq (lk w.ls k).b.toNat < 99) → (w.n, w.ls, w.up, w.sq, w.db, w.net, ()) = wt (turnW w k u) := fun u hh => by
        unfold turnW
        rw [if_pos (by
          by_cases e1 : w.up.getD k false = u
          · exact .inl e1
          · by_cases e2 : iz w.sq (lk w.ls k).a.toNat < 99
            · exact .inr (.inr (by
                by_cases e3 : iz w.sq (lk w.ls k).b.toNat < 99
                · exact (hh ⟨e1, e2, e3⟩).elim
                · omega))
            · exact .inr (.inl (by omega)))]
        rfl
      simp only [toN, at_lk, at_bo, at_int]
      rcases h12 with rfl | rfl
      · refine Sat.out (Sat.gd rfl (Sat.gd rfl (Sat.gd (inR_t (by omega) (by omega)) (Sat.gd (inR_t (by omega) (by omega)) ?_))))
        refine Sat.ite (fun hu => ?_) (fun hu => .some (same _ (fun q => q.1 (by simpa using hu))))
        refine Sat.gd (inR_t (by omega) (by omega)) (Sat.ite (fun ha => ?_) (fun ha => .some (same _ (fun q => of_decide_eq_false ha q.2.1))))
        refine Sat.gd (inR_t (by omega) (by omega)) (Sat.ite (fun hb => ?_) (fun hb => .some (same _ (fun q => of_decide_eq_false hb q.2.2))))
        exact Sat.gd (inR_t (by omega) (by omega)) (main _ (by simpa using hu) (of_decide_eq_true ha) (of_decide_eq_true hb))
      · refine Sat.out (Sat.no rfl (Sat.gd rfl (Sat.gd rfl (Sat.gd (inR_t (by omega) (by omega)) (Sat.gd (inR_t (by omega) (by omega)) ?_)))))
        refine Sat.ite (fun hu => ?_) (fun hu => .some (same _ (fun q => q.1 (by simpa using hu))))
        refine Sat.gd (inR_t (by omega) (by omega)) (Sat.ite (fun ha => ?_) (fun ha => .some (same _ (fun q => of_decide_eq_false ha q.2.1))))
        refine Sat.gd (inR_t (by omega) (by omega)) (Sat.ite (fun hb => ?_) (fun hb => .some (same _ (fun q => of_decide_eq_false hb q.2.2))))
        exact Sat.gd (inR_t (by omega) (by omega)) (main _ (by simpa using hu) (of_decide_eq_true ha) (of_decide_eq_true hb))
  have h1 : kind ≠ 1 := fun e => h12 (.inl e)
  have h2 : kind ≠ 2 := fun e => h12 (.inr e)
  refine Sat.out (Sat.no (decide_eq_false h1) (Sat.no (decide_eq_false h2) ?_))
  by_cases h6 : kind = 6
  · subst h6
    rw [do6]
    cases hin : inB a 0 ((w.up.length : Int) - 1) with
    | false =>
      have hc := inB_f hin
      rw [if_neg (by omega)]
      exact Sat.no rfl (Sat.no rfl (Sat.no rfl (Sat.gd rfl (Sat.no rfl (.some rfl)))))
    | true =>
      have hc := inB_t hin
      obtain ⟨k, rfl⟩ := Int.eq_ofNat_of_zero_le hc.1
      have hk : k < w.ls.length := by omega
      have ho := h.g.ok (lk_mem hk)
      unfold okL at ho
      rw [if_pos ⟨by omega, by omega⟩, toN]
      have va := h.ok (lk w.ls k).a.toNat (by omega)
      have vb := h.ok (lk w.ls k).b.toNat (by omega)
      have vm := mergeD_ok va (dbV_iff.1 vb).1
      have la := va.len
      have lb := vb.len
      have b25 : bo_impl_World_apply_25 (w.n, w.ls, w.up, w.sq, w.db, (lk w.ls k).a, (lk w.ls k).b, (lk w.ls k).c, mergeD (dbx w.db (lk w.ls k).a.toNat) (dbx w.db (lk w.ls k).b.toNat), w.net, ()) = some (.inl (wt (synW w (lk w.ls k).a.toNat (lk w.ls k).b.toNat))) := by
        unfold bo_impl_World_apply_25
        dsimp only
        refine Sat.out (sov (e_copyDb _ vm.sm) (Sat.gd (inR_t (by omega) (by omega)) (Sat.gd (inR_t (by omega) (by rw [List.length_set]; omega)) (.some rfl))))
      unfold syncW
      simp only [toN, at_lk, at_bo, at_db]
      refine Sat.no rfl (Sat.no rfl (Sat.no rfl (Sat.gd rfl (Sat.gd rfl (Sat.gd (inR_t (by omega) (by omega)) (Sat.gd (inR_t (by omega) (by omega)) (Sat.ite (fun hc => ?_) (fun hc => .some ?_))))))))
      · rw [if_pos hc]
        refine Sat.gd (inR_t (by omega) (by omega)) (Sat.gd (inR_t (by omega) (by omega)) (sov (e_merge _ _ va.so va.sm vb.sm (by omega) (by omega)) ?_))
        exact sov b25 (.some rfl)
      · rw [if_neg (by rw [hc]; simp)]; rfl
  by_cases h345 : kind = 3 ∨ kind = 4 ∨ kind = 5
  case neg =>
    have h3 : kind ≠ 3 := fun e => h345 (.inl e)
    have h4 : kind ≠ 4 := fun e => h345 (.inr (.inl e))
    have h5 : kind ≠ 5 := fun e => h345 (.inr (.inr e))
    refine Sat.no (decide_eq_false h3) (Sat.no (decide_eq_false h4) (Sat.no (decide_eq_false h5) (Sat.no (decide_eq_false h6) (.some ?_))))
    rw [doX h1 h2 h3 h4 h5 h6]; rfl
  cases hin : inB a 0 ((w.net.length : Int) - 1) with
  | false =>
    have hc := inB_f hin
    rcases h345 with rfl | rfl | rfl
    · rw [do3, if_neg (by omega)]
      exact Sat.gd rfl (Sat.no rfl (Sat.no rfl (Sat.no rfl (Sat.no rfl (.some rfl)))))
    · rw [do4, if_neg (by omega)]
      exact Sat.no rfl (Sat.gd rfl (Sat.no rfl (Sat.no rfl (Sat.no rfl (.some rfl)))))
    · rw [do5, if_neg (by omega)]
      exact Sat.no rfl (Sat.no rfl (Sat.gd rfl (Sat.no rfl (Sat.no rfl (.some rfl)))))
  | true =>
    have hc := inB_t hin
    obtain ⟨k, rfl⟩ := Int.eq_ofNat_of_zero_le hc.1
    have hkn : k < w.net.length := by omega
    have hm : pkx w.net k ∈ w.net := pkx_mem hkn
    have hP := h.poss _ (.inr ⟨_, hm, rfl⟩)
    have ht := h.tgt _ hm
    have hV := hP.1
    have w1 : wrap64 ((k : Int) + 1) = ((k : Int) + 1) := w64 (by omega) (by omega)
    rcases h345 with rfl | rfl | rfl
    · rw [do3, if_pos ⟨by omega, by omega⟩, toN]
      obtain ⟨t, ht'⟩ := Int.eq_ofNat_of_zero_le ht.1
      have hd := h.ok t (by omega)
      have hdl := hd.len
      have b11 : bo_impl_World_apply_11 (w.n, w.ls, w.up, w.sq, w.db, 3, (k : Int), (t : Int), (pkx w.net k).p.o, (pkx w.net k).p.s, (pkx w.net k).p.e, w.net, ()) = some (.inl (w.n, w.ls, w.up, w.sq, w.db, (t : Int), (pkx w.net k).p.o, (pkx w.net k).p.s, (pkx w.net k).p.e, w.net.eraseIdx k, ())) := by
        unfold bo_impl_World_apply_11
        simp only [w1]
        exact Sat.out (sov (e_del w.net k hkn hnet) (.some rfl))
      clear w1
      simp only [toN, at_pk]
      refine Sat.gd rfl (Sat.gd rfl (Sat.gd (inR_t (by omega) (by omega)) ?_))
      rw [ht', toN]
      refine sov b11 ?_
      simp only [toN, at_db]
      refine Sat.gd (inR_t (by omega) (by omega)) (sov (e_put (dbx w.db t) (pkx w.net k).p hd.so hd.sm hV.sm (by omega)) ?_)
      dsimp only
      refine Sat.gd (inR_t (by omega) (by omega)) ?_
      unfold hearW
      dsimp only
      refine Sat.ite (fun hp => ?_) (fun hp => .some ?_)
      · have hp := of_decide_eq_true hp
        rw [if_pos hp]
        exact sov (e_flood { w with db := w.db.set t (putD (dbx w.db t) (pkx w.net k).p), net := w.net.eraseIdx k } (t : Int) (pkx w.net k).p.o (pkx w.net k).p h.g h.up (by show (w.net.eraseIdx k).length ≤ 16; rw [List.length_eraseIdx]; split <;> omega) hV.sm) (.some rfl)
      · have hp := of_decide_eq_false hp
        rw [if_neg hp]
        have : putD (dbx w.db t) (pkx w.net k).p = dbx w.db t := by unfold putD; rw [if_neg hp]
        rw [this]
        have e : w.db.set t (dbx w.db t) = w.db := set_same (by omega)
        rw [e]; rfl
    · rw [do4, if_pos ⟨by omega, by omega⟩, toN]
      have b17 : bo_impl_World_apply_17 (w.n, w.ls, w.up, w.sq, w.db, 4, (k : Int), w.net, ()) = some (.inl (wt { w with net := w.net.eraseIdx k })) := by
        unfold bo_impl_World_apply_17
        simp only [w1]
        exact Sat.out (sov (e_del w.net k hkn hnet) (.some rfl))
      exact Sat.no rfl (Sat.gd rfl (Sat.gd rfl (sov b17 (.some rfl))))
    · rw [do5, if_pos ⟨by omega, by omega⟩, toN]
      refine Sat.no rfl (Sat.no rfl (Sat.gd rfl (Sat.gd rfl (Sat.ite (fun hf => ?_) (fun hf => .some ?_)))))
      · have hf := of_decide_eq_true hf
        rw [if_pos (by omega)]
        have b20 : bo_impl_World_apply_20 (w.n, w.ls, w.up, w.sq, w.db, 5, (k : Int), w.net, ()) = some (.inl (wt { w with net := w.net ++ [pkx w.net k] })) := by
          unfold bo_impl_World_apply_20
          simp only [toN, at_pk, e_copyLsa _ _ _ hV.sm, Option.bind_some]
          exact Sat.out (Sat.gd (inR_t (by omega) (by omega)) (Sat.gd (inR_t (by omega) (by omega)) (Sat.gd (decide_eq_true (by simp only [List.length_singleton]; omega)) (.some rfl))))
        exact sov b20 (.some rfl)
      · have hf := of_decide_eq_false hf
        rw [if_neg (by omega)]; rfl
end
end Go.Proofs.YtojdflifijpffaaGreat
end
section
namespace Go.Proofs.YtojdflifijpffaaGreat
open Go.RowKit
set_option linter.unusedSimpArgs false
set_option linter.unusedVariables false
set_option maxRecDepth 100000

noncomputable def poss (w : Wd) (l : Ls) : Bool := @decide (Poss w Nob l) (Classical.propDecidable _)
theorem poss_t {w : Wd} {l : Ls} : poss w l = true ↔ Poss w Nob l := by unfold poss; simp
theorem poss_f {w : Wd} {l : Ls} : poss w l = false ↔ ¬ Poss w Nob l := by unfold poss; simp
theorem lof_lt (ls : List Lk) (a b : Int) : lof ls a b < ls.length := by
  rcases lof_cases ls a b with ⟨h, _⟩ | ⟨k, h, hk, _⟩ <;> omega
section
variable {w : Wd}
set_option maxHeartbeats 2000000 in
theorem e_possible (g : GV w.n w.ls) (hu : w.up.length = w.ls.length) (hsq : (w.sq.length : Int) = w.n) (l : Ls) (hl : Sm l.e) : sh_impl_World_possible (w.n, w.ls, w.up, w.sq, w.db, w.net, l.o, l.s, l.e, ()) = some (poss w l, ()) := by
  have h14 := g.2.2.1
  have fl : Fits l.e := by unfold Fits; unfold Sm at hl; omega
  have fls : Fits w.ls := by unfold Fits; omega
  unfold Sm at hl
  have no : ¬ Poss w Nob l → poss w l = false := fun h => poss_f.2 h
  cases l with | mk o s es =>
  cases w with | mk n ls up sq db net =>
  dsimp only at *
  unfold sh_impl_World_possible
  dsimp only
  rw [e_LsaValid o s es fl]
  refine Sat.out (Sat.ite (fun hc => .some ?_) (fun hc => ?_))
  · rw [no fun h => of_decide_eq_false (show lsv o s es = false by simpa using hc) h.1]
  have hV : LsV ⟨o, s, es⟩ := of_decide_eq_true (show lsv o s es = true by simpa using hc)
  have h0 : 0 ≤ o := hV.1
  refine Sat.ite (fun hc => .some ?_) (fun hc => ?_)
  · have hc := of_decide_eq_true hc
    rw [no fun h => by have : o < n := h.2.1; omega]
  have hn := of_decide_eq_false hc
  simp only [at_int]
  refine Sat.gd (inR_t (by omega) (by omega)) (Sat.ite (fun hc => .some ?_) (fun hc => ?_))
  · have hc : iz sq o.toNat < s := of_decide_eq_true hc
    rw [no fun h => by have : s ≤ iz sq o.toNat := h.2.2.1; omega]
  have hs : ¬ iz sq o.toNat < s := of_decide_eq_false hc
  try simp only [nI_eq]
  refine Sat.bnd (R := fun r => match r with | .inl x => x = (n, ls, up, sq, db, net, o, s, es, ()) ∧ ∀ e ∈ es, lc ls o e.n = some e.c | .inr y => y = (false, ()) ∧ ¬ ∀ e ∈ es, lc ls o e.n = some e.c) ?_ ?_
  · refine Sat.count es.length (fun k t => t = (es, (es.length : Int), (k : Int), n, ls, up, sq, db, net, o, s, es, ()) ∧ ∀ i, i < k → lc ls o (en es i).n = some (en es i).c) ?_ (Nat.zero_le _) (fuel_lt (by omega)) ⟨rfl, fun i hi => by omega⟩
    rintro k t hk ⟨rfl, hok⟩
    by_cases hlt : k < es.length
    · have hm : en es k ∈ es := by rw [en_get hlt]; exact List.getElem_mem hlt
      simp (disch := omega) only [bo_impl_World_possible_4, at_en, at_lk, toN, w64, nI_eq, e_linkOf _ _ _ _ fls, Option.bind_some]
      refine Sat.gd (decide_eq_true (by omega)) (Sat.gd (inR_t (by omega) (by omega)) (Sat.ite (fun hc => .some ⟨rfl, ?_⟩) (fun hc => ?_)))
      · have hc := of_decide_eq_true hc
        intro h
        have := (lc_at (h _ hm)).1
        omega
      · have hc := of_decide_eq_false hc
        have hlo := lof_lt ls o (en es k).n
        repeat refine Sat.gd (inR_t (by omega) (by omega)) ?_
        refine Sat.ite (fun hc2 => .some ⟨rfl, ?_⟩) (fun hc2 => .some ⟨hlt, rfl, fun i hi => ?_⟩)
        · have hc2 : ¬ (lk ls (lof ls o (en es k).n).toNat).c = (en es k).c := by simpa using hc2
          intro h
          have := (lc_at (h _ hm)).2.2
          rw [this] at hc2
          exact hc2 rfl
        · have hc2 : (lk ls (lof ls o (en es k).n).toNat).c = (en es k).c := by simpa using hc2
          by_cases e : i < k
          · exact hok i e
          · obtain rfl : i = k := by omega
            unfold lc
            rw [if_pos (by omega), hc2]
    · obtain rfl : k = es.length := by omega
      unfold bo_impl_World_possible_4
      simp only [nI_eq]
      refine Sat.no (decide_eq_false (by omega)) (.some ⟨rfl, fun e he => ?_⟩)
      obtain ⟨i, hi, rfl⟩ := List.getElem_of_mem he
      rw [← en_get hi]
      exact hok i hi
  rintro (r | r) hr
  case inr =>
    obtain ⟨rfl, hr⟩ := hr
    exact .some (by rw [no fun h => hr h.2.2.2.1])
  obtain ⟨rfl, hr⟩ := hr
  simp only [at_int]
  refine Sat.gd (inR_t (by omega) (by omega)) (Sat.ite (fun hc => .some ?_) (fun hc => ?_))
  · have hc : s < iz sq o.toNat := of_decide_eq_true hc
    rw [poss_t.2 ⟨hV, by show o < n; omega, by show s ≤ iz sq o.toNat; omega, hr, .inl hc⟩]
  have hlt : ¬ s < iz sq o.toNat := of_decide_eq_false hc
  refine sov (e_truth ⟨n, ls, up, sq, db, net⟩ hu (by show ls.length ≤ 1000; omega)) ?_
  dsimp only
  refine sov (lsa_i (tru_gv g up) o s) ?_
  have hel := endsOf_len (N := n.toNat) (ls := tru ls up) o
  have hn8 := g.2.1
  refine sov (e_sameLsa ⟨o, s, es⟩ ⟨o, s, endsOf (tru ls up) n.toNat o⟩ fl (by unfold Fits; dsimp only; omega)) (.some ?_)
  by_cases he : es = endsOf (tru ls up) n.toNat o
  · rw [poss_t.2 ⟨hV, by show o < n; omega, by show s ≤ iz sq o.toNat; omega, hr, .inr (.inl he)⟩]
    dsimp only
    rw [decide_eq_true (by rw [← he])]
  · rw [no fun h => by
      rcases h.2.2.2.2 with h | h | h
      · exact hlt h
      · exact he h
      · exact h]
    dsimp only
    rw [decide_eq_false (by intro e; injection e with _ _ e; exact he e)]
set_option maxHeartbeats 2000000 in
theorem e_l51Lsa (g : GV w.n w.ls) (hu : w.up.length = w.ls.length) (hsq : (w.sq.length : Int) = w.n) (l : Ls) (hl : Sm l.e) : sh_spec_l51Lsa (w.n, w.ls, w.up, w.sq, w.db, w.net, l.o, l.s, l.e, ()) = some (poss w l, ()) := by
  have h14 := g.2.2.1
  have fl : Fits l.e := by unfold Fits; unfold Sm at hl; omega
  have fls : Fits w.ls := by unfold Fits; omega
  unfold Sm at hl
  have no : ¬ Poss w Nob l → poss w l = false := fun h => poss_f.2 h
  cases l with | mk o s es =>
  cases w with | mk n ls up sq db net =>
  dsimp only at *
  unfold sh_spec_l51Lsa
  dsimp only
  rw [e_sLsaValid o s es fl]
  refine Sat.out (Sat.ite (fun hc => .some ?_) (fun hc => ?_))
  · rw [no fun h => of_decide_eq_false (show lsv o s es = false by simpa using hc) h.1]
  have hV : LsV ⟨o, s, es⟩ := of_decide_eq_true (show lsv o s es = true by simpa using hc)
  have h0 : 0 ≤ o := hV.1
  refine Sat.ite (fun hc => .some ?_) (fun hc => ?_)
  · have hc := of_decide_eq_true hc
    rw [no fun h => by have : o < n := h.2.1; omega]
  have hn := of_decide_eq_false hc
  simp only [at_int]
  refine Sat.gd (inR_t (by omega) (by omega)) (Sat.ite (fun hc => .some ?_) (fun hc => ?_))
  · have hc : iz sq o.toNat < s := of_decide_eq_true hc
    rw [no fun h => by have : s ≤ iz sq o.toNat := h.2.2.1; omega]
  have hs : ¬ iz sq o.toNat < s := of_decide_eq_false hc
  try simp only [nI_eq]
  refine Sat.bnd (R := fun r => match r with | .inl x => x = (n, ls, up, sq, db, net, o, s, es, ()) ∧ ∀ e ∈ es, lc ls o e.n = some e.c | .inr y => y = (false, ()) ∧ ¬ ∀ e ∈ es, lc ls o e.n = some e.c) ?_ ?_
  · refine Sat.count es.length (fun k t => t = ((k : Int), n, ls, up, sq, db, net, o, s, es, ()) ∧ ∀ i, i < k → lc ls o (en es i).n = some (en es i).c) ?_ (Nat.zero_le _) (fuel_lt (by omega)) ⟨rfl, fun i hi => by omega⟩
    rintro k t hk ⟨rfl, hok⟩
    by_cases hlt : k < es.length
    · have hm : en es k ∈ es := by rw [en_get hlt]; exact List.getElem_mem hlt
      simp (disch := omega) only [bo_spec_l51Lsa_4, at_en, at_lk, toN, w64, nI_eq, e_l1Link _ _ _ _ fls, Option.bind_some]
      refine Sat.gd (decide_eq_true (by omega)) (Sat.gd (inR_t (by omega) (by omega)) (Sat.ite (fun hc => .some ⟨rfl, ?_⟩) (fun hc => ?_)))
      · have hc := of_decide_eq_true hc
        intro h
        have := (lc_at (h _ hm)).1
        omega
      · have hc := of_decide_eq_false hc
        have hlo := lof_lt ls o (en es k).n
        repeat refine Sat.gd (inR_t (by omega) (by omega)) ?_
        refine Sat.ite (fun hc2 => .some ⟨rfl, ?_⟩) (fun hc2 => .some ⟨hlt, rfl, fun i hi => ?_⟩)
        · have hc2 : ¬ (lk ls (lof ls o (en es k).n).toNat).c = (en es k).c := by simpa using hc2
          intro h
          have := (lc_at (h _ hm)).2.2
          rw [this] at hc2
          exact hc2 rfl
        · have hc2 : (lk ls (lof ls o (en es k).n).toNat).c = (en es k).c := by simpa using hc2
          by_cases e : i < k
          · exact hok i e
          · obtain rfl : i = k := by omega
            unfold lc
            rw [if_pos (by omega), hc2]
    · obtain rfl : k = es.length := by omega
      unfold bo_spec_l51Lsa_4
      simp only [nI_eq]
      refine Sat.no (decide_eq_false (by omega)) (.some ⟨rfl, fun e he => ?_⟩)
      obtain ⟨i, hi, rfl⟩ := List.getElem_of_mem he
      rw [← en_get hi]
      exact hok i hi
  rintro (r | r) hr
  case inr =>
    obtain ⟨rfl, hr⟩ := hr
    exact .some (by rw [no fun h => hr h.2.2.2.1])
  obtain ⟨rfl, hr⟩ := hr
  simp only [at_int]
  refine Sat.gd (inR_t (by omega) (by omega)) (Sat.ite (fun hc => .some ?_) (fun hc => ?_))
  · have hc : s < iz sq o.toNat := of_decide_eq_true hc
    rw [poss_t.2 ⟨hV, by show o < n; omega, by show s ≤ iz sq o.toNat; omega, hr, .inl hc⟩]
  have hlt : ¬ s < iz sq o.toNat := of_decide_eq_false hc
  refine sov (e_l51Truth ⟨n, ls, up, sq, db, net⟩ hu (by show ls.length ≤ 1000; omega)) ?_
  dsimp only
  refine sov (lsa_s (tru_gv g up) o s) ?_
  have hel := endsOf_len (N := n.toNat) (ls := tru ls up) o
  have hn8 := g.2.1
  refine sov (e_l51Same ⟨o, s, es⟩ ⟨o, s, endsOf (tru ls up) n.toNat o⟩ fl (by unfold Fits; dsimp only; omega)) (.some ?_)
  by_cases he : es = endsOf (tru ls up) n.toNat o
  · rw [poss_t.2 ⟨hV, by show o < n; omega, by show s ≤ iz sq o.toNat; omega, hr, .inr (.inl he)⟩]
    dsimp only
    rw [decide_eq_true (by rw [← he])]
  · rw [no fun h => by
      rcases h.2.2.2.2 with h | h | h
      · exact hlt h
      · exact he h
      · exact h]
    dsimp only
    rw [decide_eq_false (by intro e; injection e with _ _ e; exact he e)]
end
end Go.Proofs.YtojdflifijpffaaGreat
end
section
namespace Go.Proofs.YtojdflifijpffaaGreat
open Go.RowKit
set_option linter.unusedSimpArgs false
set_option linter.unusedVariables false
set_option maxRecDepth 100000

noncomputable def wv (w : Wd) : Bool := @decide (WV w Nob) (Classical.propDecidable _)
theorem wv_t {w : Wd} : wv w = true ↔ WV w Nob := by unfold wv; simp
theorem wv_f {w : Wd} : wv w = false ↔ ¬ WV w Nob := by unfold wv; simp
def allW (w : Wd) : List Ls := w.db.flatten ++ w.net.map (·.p)
theorem dbx_mem {db : List (List Ls)} {i : Nat} (h : i < db.length) : dbx db i ∈ db := by
  unfold dbx; rw [List.getD, List.getElem?_eq_getElem h]; exact List.getElem_mem h
theorem said_iff {w : Wd} {l : Ls} : Said w l ↔ l ∈ allW w := by
  unfold Said allW
  rw [List.mem_append, List.mem_flatten, List.mem_map]
  constructor
  · rintro (⟨i, hi, h⟩ | ⟨p, hp, rfl⟩)
    · exact .inl ⟨_, dbx_mem hi, h⟩
    · exact .inr ⟨p, hp, rfl⟩
  · rintro (⟨d, hd, h⟩ | ⟨p, hp, rfl⟩)
    · obtain ⟨i, hi, rfl⟩ := List.getElem_of_mem hd
      refine .inl ⟨i, hi, ?_⟩
      unfold dbx; rw [List.getD, List.getElem?_eq_getElem hi]; exact h
    · exact .inr ⟨p, hp, rfl⟩
def NdW (w : Wd) (i : Nat) : Prop := (1 ≤ iz w.sq i ∧ iz w.sq i ≤ 99) ∧ DbV (dbx w.db i)
def OwW (w : Wd) (i : Nat) : Prop := ∃ l ∈ dbx w.db i, l.o = i ∧ l.s = iz w.sq i
def AgW (xs : List Ls) (i : Nat) : Prop := ∀ j, j < i → (lsa xs j).o = (lsa xs i).o → (lsa xs j).s = (lsa xs i).s → lsa xs j = lsa xs i
theorem wv_mk {w : Wd} (g : GV w.n w.ls) (hu : w.up.length = w.ls.length) (hs : (w.sq.length : Int) = w.n) (hd : (w.db.length : Int) = w.n) (hn : w.net.length ≤ 16) (nd : ∀ i, i < w.db.length → NdW w i) (ow : ∀ i, i < w.db.length → OwW w i) (tg : ∀ i, i < w.net.length → 0 ≤ (pkx w.net i).t ∧ (pkx w.net i).t < w.n) (ps : ∀ i, i < (allW w).length → Poss w Nob (lsa (allW w) i)) (ag : ∀ i, i < (allW w).length → AgW (allW w) i) : WV w Nob := by
  have idx : ∀ l, Said w l → ∃ i, i < (allW w).length ∧ lsa (allW w) i = l := fun l hl => by
    obtain ⟨i, hi, rfl⟩ := List.getElem_of_mem (said_iff.1 hl)
    exact ⟨i, hi, lsa_get hi⟩
  refine ⟨g, hu, hs, hd, hn, fun i hi => (nd i (by omega)).1, fun i hi => (nd i hi).2, ow, fun l hl => ?_, fun x y hx hy e1 e2 => ?_, fun p hp => ?_⟩
  · obtain ⟨i, hi, rfl⟩ := idx l hl
    exact ps i hi
  · obtain ⟨i, hi, rfl⟩ := idx x hx
    obtain ⟨j, hj, rfl⟩ := idx y hy
    rcases Nat.lt_trichotomy i j with h | h | h
    · exact ag j hj i h e1 e2
    · rw [h]
    · exact (ag i hi j h e1.symm e2.symm).symm
  · obtain ⟨i, hi, rfl⟩ := List.getElem_of_mem hp
    have := tg i hi
    have e : pkx w.net i = w.net[i] := by simp [pkx, List.getD, hi]
    rwa [e] at this
section
variable {w : Wd}
theorem WV.nd (h : WV w Nob) {i : Nat} (hi : i < w.db.length) : NdW w i := ⟨h.rng i (by have := h.sq; have := h.db; omega), h.ok i hi⟩
theorem WV.ps (h : WV w Nob) {i : Nat} (hi : i < (allW w).length) : Poss w Nob (lsa (allW w) i) := h.poss _ (said_iff.2 (lsa_mem hi))
theorem WV.ag (h : WV w Nob) {i : Nat} (hi : i < (allW w).length) : AgW (allW w) i := fun j hj e1 e2 => h.agr _ _ (said_iff.2 (lsa_mem (by omega))) (said_iff.2 (lsa_mem hi)) e1 e2
theorem flat8 {db : List (List Ls)} {k : Nat} (hk : k ≤ db.length) (h : ∀ i, i < k → (dbx db i).length ≤ 8) : (db.take k).flatten.length ≤ 8 * k := by
  induction k with
  | zero => simp
  | succ k ih =>
    have := ih (by omega) fun i hi => h i (by omega)
    have h2 := h k (by omega)
    rw [← take_dbx (by omega), List.flatten_append, List.length_append, List.flatten_singleton]
    omega
theorem flat_succ {db : List (List Ls)} {k : Nat} (hk : k < db.length) : (db.take (k + 1)).flatten = (db.take k).flatten ++ dbx db k := by
  rw [← take_dbx hk, List.flatten_append, List.flatten_singleton]
theorem map_succ {net : List Pk} {k : Nat} (hk : k < net.length) : (net.take (k + 1)).map (·.p) = (net.take k).map (·.p) ++ [(pkx net k).p] := by
  rw [← take_pkx hk, List.map_append]; rfl
theorem NdW.sm {i : Nat} (h : NdW w i) : (dbx w.db i).length ≤ 8 := h.2.len
theorem e_differ (x l : Ls) (hx : Fits x.e) (hl : Fits l.e) : sh_impl_WorldValid_1 (x.o, x.s, x.e, l.o, l.s, l.e, ()) = some (decide (x.o = l.o ∧ x.s = l.s ∧ x ≠ l), ()) := by
  unfold sh_impl_WorldValid_1
  by_cases h1 : x.o = l.o
  · by_cases h2 : x.s = l.s
    · simp only [decide_eq_true h1, decide_eq_true h2, cond_true]
      refine Sat.out (sov (e_sameLsa x l hx hl) (.some ?_))
      by_cases h3 : x = l
      · simp [h3]
      · simp [h1, h2, h3]
    · simp [h1, h2]
  · simp [h1]
theorem e_clash (xs : List Ls) (l : Ls) (h : xs.length ≤ 100000) (he : ∀ x ∈ xs, Fits x.e) (hl : Fits l.e) : Sat (sh_slices_ContainsFunc_impl_Lsa_impl_Lsa_WorldValid_1 (xs, l.o, l.s, l.e, ())) fun r => ∃ b : Bool, r = (b, ()) ∧ (b = true ↔ ∃ x ∈ xs, x.o = l.o ∧ x.s = l.s ∧ x ≠ l) := by
  unfold sh_slices_ContainsFunc_impl_Lsa_impl_Lsa_WorldValid_1 sh_slices_IndexFunc_impl_Lsa_impl_Lsa_WorldValid_1
  refine Sat.bnd (R := fun r => ∃ z : Int, r = (z, ()) ∧ (0 ≤ z ↔ ∃ x ∈ xs, x.o = l.o ∧ x.s = l.s ∧ x ≠ l)) (Sat.bnd (R := fun r => match r with | .inl _ => ¬ ∃ x ∈ xs, x.o = l.o ∧ x.s = l.s ∧ x ≠ l | .inr y => ∃ k : Nat, y = ((k : Int), ()) ∧ ∃ x ∈ xs, x.o = l.o ∧ x.s = l.s ∧ x ≠ l) ?_ ?_) ?_
  · refine Sat.count xs.length (fun k t => t = (xs, l.o, l.s, l.e, (xs.length : Int), (k : Int), ()) ∧ ∀ i, i < k → ¬ ((lsa xs i).o = l.o ∧ (lsa xs i).s = l.s ∧ lsa xs i ≠ l)) ?_ (Nat.zero_le _) (fuel_lt (by omega)) ⟨by simp [nI_eq], fun i hi => by omega⟩
    rintro k t hk ⟨rfl, hok⟩
    by_cases hlt : k < xs.length
    · simp (disch := omega) only [bo_slices_IndexFunc_impl_Lsa_impl_Lsa_WorldValid_1_2, at_ls, toN, w64, e_differ _ l (he _ (lsa_mem hlt)) hl, Option.bind_some]
      refine Sat.gd (decide_eq_true (by omega)) (Sat.gd (inR_t (by omega) (by omega)) (Sat.ite (fun hc => .some ?_) (fun hc => .some ⟨hlt, rfl, fun i hi => ?_⟩)))
      · exact ⟨k, rfl, _, lsa_mem hlt, of_decide_eq_true hc⟩
      · by_cases e : i < k
        · exact hok i e
        · obtain rfl : i = k := by omega
          exact of_decide_eq_false hc
    · obtain rfl : k = xs.length := by omega
      unfold bo_slices_IndexFunc_impl_Lsa_impl_Lsa_WorldValid_1_2
      refine Sat.no (decide_eq_false (by first | omega | (dsimp only; omega))) (.some ?_)
      rintro ⟨x, hx, hh⟩
      obtain ⟨i, hi, rfl⟩ := List.getElem_of_mem hx
      rw [← lsa_get hi] at hh
      exact hok i hi hh
  · rintro (r | r) hr
    · exact .some ⟨-1, rfl, fun h => by omega, fun h => (hr h).elim⟩
    · obtain ⟨k, rfl, hx⟩ := hr
      exact .some ⟨k, rfl, fun _ => hx, fun _ => by omega⟩
  · rintro _ ⟨z, rfl, hz⟩
    exact .some ⟨decide (0 ≤ z), rfl, by rw [decide_eq_true_eq]; exact hz⟩
theorem ag_take {xs : List Ls} {k : Nat} (hk : k < xs.length) : (∃ x ∈ xs.take k, x.o = (lsa xs k).o ∧ x.s = (lsa xs k).s ∧ x ≠ lsa xs k) ↔ ¬ AgW xs k := by
  constructor
  · rintro ⟨x, hx, h1, h2, h3⟩ h
    obtain ⟨j, hj, rfl⟩ := List.getElem_of_mem hx
    rw [List.length_take] at hj
    rw [List.getElem_take, ← lsa_get (by omega)] at h1 h2 h3
    exact h3 (h j (by omega) h1 h2)
  · intro h
    unfold AgW at h
    simp only [Classical.not_forall] at h
    obtain ⟨j, hj, h1, h2, h3⟩ := h
    refine ⟨lsa xs j, ?_, h1, h2, h3⟩
    rw [lsa_get (by omega)]
    exact List.mem_iff_getElem.2 ⟨j, by rw [List.length_take]; omega, List.getElem_take⟩
set_option maxHeartbeats 2000000 in
theorem e_WorldValid (h : SmW w) : sh_impl_WorldValid (w.n, w.ls, w.up, w.sq, w.db, w.net, ()) = some (wv w, ()) := by
  have h1 := h.ls
  have h2 := h.up
  have h3 := h.sq
  have h4 := h.db
  have h5 := h.net
  have no : ¬ WV w Nob → (false, ()) = (wv w, ()) := fun q => by rw [wv_f.2 q]
  unfold sh_impl_WorldValid
  dsimp only
  rw [e_GraphValid _ _ (show Fits w.ls by unfold Fits; omega)]
  simp only [nI_eq]
  refine Sat.out (Sat.ite (fun hc => .some (no fun q => ?_)) (fun hc => ?_))
  · have hc : gv w.n w.ls = false := by simpa using hc
    exact of_decide_eq_false hc q.g
  have g : GV w.n w.ls := of_decide_eq_true (show gv w.n w.ls = true by simpa using hc)
  refine Sat.ite (fun hc => .some (no fun q => ?_)) (fun hc => ?_)
  · have hc : ¬ (w.up.length : Int) = w.ls.length := by simpa using hc
    have := q.up; omega
  have hu : (w.up.length : Int) = w.ls.length := by simpa using hc
  refine Sat.ite (fun hc => .some (no fun q => ?_)) (fun hc => ?_)
  · have hc : ¬ (w.sq.length : Int) = w.n := by simpa using hc
    have := q.sq; omega
  have hs : (w.sq.length : Int) = w.n := by simpa using hc
  refine Sat.ite (fun hc => .some (no fun q => ?_)) (fun hc => ?_)
  · have hc : ¬ (w.db.length : Int) = w.n := by simpa using hc
    have := q.db; omega
  have hd : (w.db.length : Int) = w.n := by simpa using hc
  refine Sat.ite (fun hc => .some (no fun q => ?_)) (fun hc => ?_)
  · have hc := of_decide_eq_true hc
    have := q.net; omega
  have hn := of_decide_eq_false hc
  have hn8 := g.2.1
  refine Sat.bnd (R := fun r => match r with | .inl x => x = (w.n, w.n, w.ls, w.up, w.sq, w.db, w.net, w.db.flatten, ()) ∧ ∀ i, i < w.db.length → NdW w i ∧ OwW w i | .inr y => y = (false, ()) ∧ ¬ WV w Nob) ?_ ?_
  · refine Sat.count w.db.length (fun k t => t = (w.n, w.db, (w.db.length : Int), (k : Int), w.n, w.ls, w.up, w.sq, w.db, w.net, (w.db.take k).flatten, ()) ∧ ∀ i, i < k → NdW w i ∧ OwW w i) ?_ (Nat.zero_le _) (fuel_lt (by omega)) ⟨by simp, fun i hi => by omega⟩
    rintro k t hk ⟨rfl, hok⟩
    by_cases hlt : k < w.db.length
    · have hsm := h.dbs k hlt
      simp (disch := omega) only [bo_impl_WorldValid_6, at_db, at_int, at_ls, toN, w64, e_within, e_DbValid _ hsm.fits hsm.fe, Option.bind_some]
      refine Sat.gd (decide_eq_true (by omega)) (Sat.gd (inR_t (by omega) (by omega)) (Sat.gd (inR_t (by omega) (by omega)) (Sat.ite (fun hc => .some ⟨rfl, fun q => ?_⟩) (fun hc => ?_))))
      · have hc := inB_f (show inB (iz w.sq k) 1 99 = false by simpa using hc)
        exact hc (q.rng k (by omega))
      have hr := inB_t (show inB (iz w.sq k) 1 99 = true by simpa using hc)
      refine Sat.ite (fun hc => .some ⟨rfl, fun q => ?_⟩) (fun hc => ?_)
      · have hc : dbv (dbx w.db k) = false := by simpa using hc
        exact of_decide_eq_false hc (q.ok k hlt)
      have hv : DbV (dbx w.db k) := of_decide_eq_true (show dbv (dbx w.db k) = true by simpa using hc)
      have h8 := hv.len
      obtain ⟨i, hi, hp⟩ := e_dbPlace (dbx w.db k) (k : Int) hv.srt (by omega)
      have hfd := fd_place hv.srt hi
      refine sov hp ?_
      dsimp only
      simp only [toN]
      cases hh : hasAt (dbx w.db k) (k : Int) i with
      | false =>
        rw [hh, if_neg (by simp)] at hfd
        refine Sat.gd rfl (.some ⟨rfl, fun q => ?_⟩)
        obtain ⟨l, hl, e1, _⟩ := q.own k hlt
        exact fd_none.1 hfd l hl e1
      | true =>
        rw [hh, if_pos rfl] at hfd
        obtain ⟨hm, ho⟩ := (fd_some hv.so).1 hfd
        obtain ⟨hil, _⟩ := of_decide_eq_true hh
        refine Sat.no rfl (Sat.gd (inR_t (by omega) (by omega)) (Sat.gd (inR_t (by omega) (by omega)) (Sat.ite (fun hc => .some ⟨rfl, fun q => ?_⟩) (fun hc => ?_))))
        · have hc : ¬ (lsa (dbx w.db k) i).s = iz w.sq k := by simpa using hc
          obtain ⟨l, hl, e1, e2⟩ := q.own k hlt
          have := (fd_some hv.so).2 ⟨hl, e1⟩
          rw [hfd] at this
          injection this with this
          rw [this] at hc
          exact hc e2
        · have hc : (lsa (dbx w.db k) i).s = iz w.sq k := by simpa using hc
          have hfl := flat8 (db := w.db) (k := k) (by omega) fun i hi => (hok i hi).1.sm
          refine Sat.gd (decide_eq_true (by omega)) (.some ⟨hlt, ?_, fun j hj => ?_⟩)
          · rw [flat_succ hlt]; rfl
          · by_cases e : j < k
            · exact hok j e
            · obtain rfl : j = k := by omega
              exact ⟨⟨hr, hv⟩, _, hm, ho, hc⟩
    · obtain rfl : k = w.db.length := by omega
      unfold bo_impl_WorldValid_6
      refine Sat.no (decide_eq_false (by first | omega | (dsimp only; omega))) (.some ⟨?_, hok⟩)
      rw [List.take_length]
  rintro (r | r) hr
  case inr =>
    obtain ⟨rfl, hr⟩ := hr
    exact .some (no hr)
  obtain ⟨rfl, hnd⟩ := hr
  have hfl : w.db.flatten.length ≤ 8 * w.db.length := by
    have := flat8 (db := w.db) (k := w.db.length) (by omega) fun i hi => (hnd i hi).1.sm
    rwa [List.take_length] at this
  dsimp only
  refine Sat.bnd (R := fun r => match r with | .inl x => x = (w.n, w.ls, w.up, w.sq, w.db, w.net, allW w, ()) ∧ ∀ i, i < w.net.length → 0 ≤ (pkx w.net i).t ∧ (pkx w.net i).t < w.n | .inr y => y = (false, ()) ∧ ¬ WV w Nob) ?_ ?_
  · refine Sat.count w.net.length (fun k t => t = (w.n, w.net, (w.net.length : Int), (k : Int), w.n, w.ls, w.up, w.sq, w.db, w.net, w.db.flatten ++ (w.net.take k).map (·.p), ()) ∧ ∀ i, i < k → 0 ≤ (pkx w.net i).t ∧ (pkx w.net i).t < w.n) ?_ (Nat.zero_le _) (fuel_lt (by omega)) ⟨by simp, fun i hi => by omega⟩
    rintro k t hk ⟨rfl, hok⟩
    have hn1 := g.1
    by_cases hlt : k < w.net.length
    · simp (disch := omega) only [bo_impl_WorldValid_16, at_pk, toN, w64, e_within, Option.bind_some]
      refine Sat.gd (decide_eq_true (by omega)) (Sat.gd (inR_t (by omega) (by omega)) (Sat.ite (fun hc => .some ⟨rfl, fun q => ?_⟩) (fun hc => ?_)))
      · have hc := inB_f (show inB (pkx w.net k).t 0 (w.n - 1) = false by simpa using hc)
        have := q.tgt _ (pkx_mem hlt)
        omega
      · have hc := inB_t (show inB (pkx w.net k).t 0 (w.n - 1) = true by simpa using hc)
        refine Sat.gd (decide_eq_true (by simp only [List.length_append, List.length_map, List.length_take, List.length_singleton]; omega)) (.some ⟨hlt, ?_, fun j hj => ?_⟩)
        · rw [map_succ hlt, ← List.append_assoc]; rfl
        · by_cases e : j < k
          · exact hok j e
          · obtain rfl : j = k := by omega
            omega
    · obtain rfl : k = w.net.length := by omega
      unfold bo_impl_WorldValid_16
      refine Sat.no (decide_eq_false (by first | omega | (dsimp only; omega))) (.some ⟨?_, hok⟩)
      rw [List.take_length]; rfl
  rintro (r | r) hr
  case inr =>
    obtain ⟨rfl, hr⟩ := hr
    exact .some (no hr)
  obtain ⟨rfl, htg⟩ := hr
  have hal : (allW w).length ≤ 1000 := by unfold allW; rw [List.length_append, List.length_map]; omega
  have hfe : ∀ x ∈ allW w, Sm x.e := fun x hx => by
    rcases said_iff.2 hx with ⟨i, hi, hx⟩ | ⟨p, hp, rfl⟩
    · exact (h.dbs i hi).2 x hx
    · obtain ⟨i, hi, rfl⟩ := List.getElem_of_mem hp
      have := h.pks i hi
      have e : pkx w.net i = w.net[i] := by simp [pkx, List.getD, hi]
      rwa [e] at this
  have smf : ∀ l : List En, Sm l → Fits l := fun l hl => by unfold Fits; unfold Sm at hl; omega
  dsimp only
  refine Sat.bnd (R := fun r => match r with | .inl x => ∀ i, i < (allW w).length → Poss w Nob (lsa (allW w) i) ∧ AgW (allW w) i | .inr y => y = (false, ()) ∧ ¬ WV w Nob) ?_ ?_
  · refine Sat.count (allW w).length (fun k t => t = (allW w, allW w, ((allW w).length : Int), (k : Int), w.n, w.ls, w.up, w.sq, w.db, w.net, ()) ∧ ∀ i, i < k → Poss w Nob (lsa (allW w) i) ∧ AgW (allW w) i) ?_ (Nat.zero_le _) (fuel_lt (by omega)) ⟨by simp, fun i hi => by omega⟩
    rintro k t hk ⟨rfl, hok⟩
    by_cases hlt : k < (allW w).length
    · have hle := hfe _ (lsa_mem hlt)
      simp (disch := omega) only [bo_impl_WorldValid_23, at_ls, toN, w64, e_possible g (show w.up.length = w.ls.length by omega) hs _ hle, Option.bind_some, Int.toNat_zero, List.drop_zero, Nat.sub_zero]
      refine Sat.gd (decide_eq_true (by omega)) (Sat.gd (inR_t (by omega) (by omega)) (Sat.ite (fun hc => .some ⟨rfl, fun q => ?_⟩) (fun hc => ?_)))
      · have hc : poss w (lsa (allW w) k) = false := by simpa using hc
        exact poss_f.1 hc (q.ps hlt)
      have hp := poss_t.1 (show poss w (lsa (allW w) k) = true by simpa using hc)
      refine Sat.gd (bnd_t (by omega) (by omega) (by omega)) (Sat.bnd (e_clash ((allW w).take k) (lsa (allW w) k) (by rw [List.length_take]; omega) (fun x hx => smf _ (hfe x (List.mem_of_mem_take hx))) (smf _ hle)) ?_)
      rintro _ ⟨b, rfl, hb⟩
      rw [ag_take hlt] at hb
      refine Sat.ite (fun hc3 => .some ⟨rfl, fun q => hb.1 hc3 (q.ag hlt)⟩) (fun hc3 => .some ⟨hlt, rfl, fun j hj => ?_⟩)
      by_cases e : j < k
      · exact hok j e
      · obtain rfl : j = k := by omega
        exact ⟨hp, Classical.not_not.1 fun q => by
          have := hb.2 q
          have hc3 : b = false := hc3
          rw [hc3] at this; cases this⟩
    · obtain rfl : k = (allW w).length := by omega
      unfold bo_impl_WorldValid_23
      exact Sat.no (decide_eq_false (by first | omega | (dsimp only; omega))) (.some hok)
  rintro (r | r) hr
  case inr =>
    obtain ⟨rfl, hr⟩ := hr
    exact .some (no hr)
  exact .some (by rw [wv_t.2 (wv_mk g (by omega) hs hd (by omega) (fun i hi => (hnd i hi).1) (fun i hi => (hnd i hi).2) htg (fun i hi => (hr i hi).1) (fun i hi => (hr i hi).2))])
end
end Go.Proofs.YtojdflifijpffaaGreat
end
section
namespace Go.Proofs.YtojdflifijpffaaGreat
open Go.RowKit
set_option linter.unusedSimpArgs false
set_option linter.unusedVariables false
set_option maxRecDepth 100000

section
variable {w : Wd}
structure Shp (w : Wd) : Prop where
  g : GV w.n w.ls
  up : w.up.length = w.ls.length
  sq : (w.sq.length : Int) = w.n
  db : (w.db.length : Int) = w.n
  net : w.net.length ≤ 16
  nd : ∀ i, i < w.db.length → NdW w i
theorem e_l51Shape (h : SmW w) : Sat (sh_spec_l51Shape (w.n, w.ls, w.up, w.sq, w.db, w.net, ())) fun r => ∃ b : Bool, r = (b, ()) ∧ (b = true → Shp w) ∧ (b = false → ¬ WV w Nob) := by
  have h1 := h.ls
  have h2 := h.up
  have h3 := h.sq
  have h4 := h.db
  have h5 := h.net
  have no : ¬ WV w Nob → ∃ b : Bool, (false, ()) = (b, ()) ∧ (b = true → Shp w) ∧ (b = false → ¬ WV w Nob) := fun q => ⟨false, rfl, (fun e => nomatch e), fun _ => q⟩
  unfold sh_spec_l51Shape
  dsimp only
  rw [e_sGraphValid _ _ (show Fits w.ls by unfold Fits; omega)]
  simp only [nI_eq]
  refine Sat.ite (fun hc => .some (no fun q => ?_)) (fun hc => ?_)
  · have hc : gv w.n w.ls = false := by simpa using hc
    exact of_decide_eq_false hc q.g
  have g : GV w.n w.ls := of_decide_eq_true (show gv w.n w.ls = true by simpa using hc)
  refine Sat.ite (fun hc => .some (no fun q => ?_)) (fun hc => ?_)
  · have hc : ¬ (w.up.length : Int) = w.ls.length := by simpa using hc
    have := q.up; omega
  have hu : (w.up.length : Int) = w.ls.length := by simpa using hc
  refine Sat.ite (fun hc => .some (no fun q => ?_)) (fun hc => ?_)
  · have hc : ¬ (w.sq.length : Int) = w.n := by simpa using hc
    have := q.sq; omega
  have hs : (w.sq.length : Int) = w.n := by simpa using hc
  refine Sat.ite (fun hc => .some (no fun q => ?_)) (fun hc => ?_)
  · have hc : ¬ (w.db.length : Int) = w.n := by simpa using hc
    have := q.db; omega
  have hd : (w.db.length : Int) = w.n := by simpa using hc
  refine Sat.ite (fun hc => .some (no fun q => ?_)) (fun hc => ?_)
  · have hc := of_decide_eq_true hc
    have := q.net; omega
  have hn := of_decide_eq_false hc
  have hn8 := g.2.1
  refine Sat.bnd (R := fun r => match r with | .inl x => ∀ i, i < w.db.length → NdW w i | .inr y => y = (false, ()) ∧ ¬ WV w Nob) ?_ ?_
  · refine Sat.count w.db.length (fun k t => t = ((k : Int), w.n, w.ls, w.up, w.sq, w.db, w.net, ()) ∧ ∀ i, i < k → NdW w i) ?_ (Nat.zero_le _) (fuel_lt (by omega)) ⟨rfl, fun i hi => by omega⟩
    rintro k t hk ⟨rfl, hok⟩
    by_cases hlt : k < w.db.length
    · have hsm := h.dbs k hlt
      simp (disch := omega) only [bo_spec_l51Shape_4, at_db, at_int, toN, w64, e_l6In, e_sDbValid _ hsm.fits hsm.fe, Option.bind_some]
      refine Sat.gd (decide_eq_true (by omega)) (Sat.gd (inR_t (by omega) (by omega)) (Sat.ite (fun hc => .some ⟨rfl, fun q => ?_⟩) (fun hc => ?_)))
      · have hc := inB_f (show inB (iz w.sq k) 1 99 = false by simpa using hc)
        exact hc (q.rng k (by omega))
      have hr := inB_t (show inB (iz w.sq k) 1 99 = true by simpa using hc)
      refine Sat.gd (inR_t (by omega) (by omega)) (Sat.ite (fun hc => .some ⟨rfl, fun q => ?_⟩) (fun hc => .some ⟨hlt, rfl, fun j hj => ?_⟩))
      · have hc : dbv (dbx w.db k) = false := by simpa using hc
        exact of_decide_eq_false hc (q.ok k hlt)
      · have hv : DbV (dbx w.db k) := of_decide_eq_true (show dbv (dbx w.db k) = true by simpa using hc)
        by_cases e : j < k
        · exact hok j e
        · obtain rfl : j = k := by omega
          exact ⟨hr, hv⟩
    · obtain rfl : k = w.db.length := by omega
      unfold bo_spec_l51Shape_4
      exact Sat.no (decide_eq_false (by dsimp only; omega)) (.some hok)
  rintro (r | r) hr
  case inr =>
    obtain ⟨rfl, hr⟩ := hr
    exact .some (no hr)
  exact .some ⟨true, rfl, fun _ => ⟨g, by omega, hs, hd, by omega, hr⟩, fun e => nomatch e⟩
theorem Shp.fl (h : Shp w) : w.db.flatten.length ≤ 8 * w.db.length := by
  have := flat8 (db := w.db) (k := w.db.length) (by omega) fun i hi => (h.nd i hi).sm
  rwa [List.take_length] at this
theorem e_l51All (h : Shp w) : sh_spec_l51All (w.n, w.ls, w.up, w.sq, w.db, w.net, ()) = some (allW w, ()) := by
  have hd := h.db
  have hn := h.net
  have h8 := h.g.2.1
  have hfl := h.fl
  unfold sh_spec_l51All
  dsimp only
  refine Sat.out (Sat.bnd (R := fun r => match r with | .inl x => x = (w.n, w.ls, w.up, w.sq, w.db, w.net, w.db.flatten, ()) | .inr _ => False) ?_ ?_)
  · refine Sat.count w.db.length (fun k t => t = ((k : Int), w.n, w.ls, w.up, w.sq, w.db, w.net, (w.db.take k).flatten, ())) ?_ (Nat.zero_le _) (fuel_lt (by omega)) (by simp)
    rintro k t hk rfl
    by_cases hlt : k < w.db.length
    · have hl := (h.nd k hlt).sm
      have hfk := flat8 (db := w.db) (k := k) (by omega) fun i hi => (h.nd i (by omega)).sm
      simp (disch := omega) only [bo_spec_l51All_3, at_db, toN, w64, nI_eq]
      refine Sat.gd (decide_eq_true (by omega)) (Sat.gd (inR_t (by omega) (by omega)) (Sat.gd (decide_eq_true (by omega)) (.some ⟨hlt, ?_⟩)))
      rw [flat_succ hlt]; rfl
    · obtain rfl : k = w.db.length := by omega
      unfold bo_spec_l51All_3
      simp only [nI_eq]
      refine Sat.no (decide_eq_false (by omega)) (.some ?_)
      rw [List.take_length]
  rintro (r | r) hr
  case inr => exact hr.elim
  obtain rfl := hr
  dsimp only
  refine Sat.bnd (R := fun r => match r with | .inl x => x = (allW w, ()) | .inr _ => False) ?_ ?_
  · refine Sat.count w.net.length (fun k t => t = ((k : Int), w.n, w.ls, w.up, w.sq, w.db, w.net, w.db.flatten ++ (w.net.take k).map (·.p), ())) ?_ (Nat.zero_le _) (fuel_lt (by omega)) (by simp)
    rintro k t hk rfl
    by_cases hlt : k < w.net.length
    · simp (disch := omega) only [bo_spec_l51All_7, at_pk, toN, w64, nI_eq]
      refine Sat.gd (decide_eq_true (by omega)) (Sat.gd (inR_t (by omega) (by omega)) (Sat.gd (decide_eq_true (by simp only [List.length_append, List.length_map, List.length_take, List.length_singleton]; omega)) (.some ⟨hlt, ?_⟩)))
      rw [map_succ hlt, ← List.append_assoc]; rfl
    · obtain rfl : k = w.net.length := by omega
      unfold bo_spec_l51All_7
      simp only [nI_eq]
      refine Sat.no (decide_eq_false (by omega)) (.some ?_)
      rw [List.take_length]; rfl
  rintro (r | r) hr
  case inr => exact hr.elim
  obtain rfl := hr
  exact .some rfl
theorem e_l51One (xs : List Ls) (hl : xs.length ≤ 100000) (he : ∀ x ∈ xs, Fits x.e) : Sat (sh_spec_l51One (xs, ())) fun r => ∃ b : Bool, r = (b, ()) ∧ (b = true ↔ ∀ i, i < xs.length → AgW xs i) := by
  unfold sh_spec_l51One
  refine Sat.bnd (R := fun r => match r with | .inl _ => ∀ i, i < xs.length → AgW xs i | .inr y => y = (false, ()) ∧ ¬ ∀ i, i < xs.length → AgW xs i) ?_ ?_
  · refine Sat.count xs.length (fun k t => t = (xs, (k : Int), ()) ∧ ∀ i, i < k → AgW xs i) ?_ (Nat.zero_le _) (fuel_lt (by omega)) ⟨rfl, fun i hi => by omega⟩
    rintro k t hk ⟨rfl, hok⟩
    by_cases hlt : k < xs.length
    · simp only [bo_spec_l51One_2, nI_eq]
      refine Sat.gd (decide_eq_true (by omega)) (Sat.bnd (R := fun r => match r with | .inl x => x = (xs, (k : Int), ()) ∧ AgW xs k | .inr y => y = (false, ()) ∧ ¬ AgW xs k) ?_ ?_)
      · refine Sat.count k (fun j t => t = (xs, (k : Int), (j : Int), ()) ∧ ∀ i, i < j → (lsa xs i).o = (lsa xs k).o → (lsa xs i).s = (lsa xs k).s → lsa xs i = lsa xs k) ?_ (Nat.zero_le _) (fuel_lt (by omega)) ⟨rfl, fun i hi => by omega⟩
        rintro j t hj ⟨rfl, hok2⟩
        by_cases hjk : j < k
        · have fk := he _ (lsa_mem hlt)
          have fj := he _ (lsa_mem (show j < xs.length by omega))
          simp (disch := omega) only [bo_spec_l51One_5, at_ls, toN, w64, e_l51Same _ _ fk fj, Option.bind_some]
          refine Sat.gd (decide_eq_true (by omega)) (Sat.gd (inR_t (by omega) (by omega)) (Sat.gd (inR_t (by omega) (by omega)) (Sat.ite (fun h1 => ?_) (fun h1 => .some ⟨hjk, rfl, fun i hi => ?_⟩))))
          · have h1 := of_decide_eq_true h1
            refine Sat.gd (inR_t (by omega) (by omega)) (Sat.gd (inR_t (by omega) (by omega)) (Sat.ite (fun h2 => ?_) (fun h2 => .some ⟨hjk, rfl, fun i hi => ?_⟩)))
            · have h2 := of_decide_eq_true h2
              refine Sat.gd (inR_t (by omega) (by omega)) (Sat.gd (inR_t (by omega) (by omega)) (Sat.ite (fun h3 => .some ⟨rfl, fun q => ?_⟩) (fun h3 => .some ⟨hjk, rfl, fun i hi => ?_⟩)))
              · have h3 : ¬ lsa xs k = lsa xs j := by simpa using h3
                exact h3 (q j hjk h1.symm h2.symm).symm
              · have h3 : lsa xs k = lsa xs j := by simpa using h3
                by_cases e : i < j
                · exact hok2 i e
                · obtain rfl : i = j := by omega
                  exact fun _ _ => h3.symm
            · have h2 := of_decide_eq_false h2
              by_cases e : i < j
              · exact hok2 i e
              · obtain rfl : i = j := by omega
                exact fun _ e2 => (h2 e2.symm).elim
          · have h1 := of_decide_eq_false h1
            by_cases e : i < j
            · exact hok2 i e
            · obtain rfl : i = j := by omega
              exact fun e1 => (h1 e1.symm).elim
        · obtain rfl : j = k := by omega
          unfold bo_spec_l51One_5
          exact Sat.no (decide_eq_false (by dsimp only; omega)) (.some ⟨rfl, hok2⟩)
      · rintro (r | r) hr
        · obtain ⟨rfl, hr⟩ := hr
          simp (disch := omega) only [w64]
          refine .some ⟨hlt, rfl, fun i hi => ?_⟩
          by_cases e : i < k
          · exact hok i e
          · obtain rfl : i = k := by omega
            exact hr
        · obtain ⟨rfl, hr⟩ := hr
          exact .some ⟨rfl, fun q => hr (q k hlt)⟩
    · obtain rfl : k = xs.length := by omega
      unfold bo_spec_l51One_2
      simp only [nI_eq]
      exact Sat.no (decide_eq_false (by omega)) (.some hok)
  rintro (r | r) hr
  · exact .some ⟨true, rfl, fun _ => hr, fun _ => rfl⟩
  · obtain ⟨rfl, hr⟩ := hr
    exact .some ⟨false, rfl, (fun e => nomatch e), fun q => (hr q).elim⟩
set_option maxHeartbeats 2000000 in
theorem e_sWorldValid (h : SmW w) : sh_spec_WorldValid (w.n, w.ls, w.up, w.sq, w.db, w.net, ()) = some (wv w, ()) := by
  have no : ¬ WV w Nob → (false, ()) = (wv w, ()) := fun q => by rw [wv_f.2 q]
  unfold sh_spec_WorldValid
  refine Sat.out (Sat.bnd (e_l51Shape h) ?_)
  rintro _ ⟨b, rfl, hb1, hb2⟩
  dsimp only
  refine Sat.ite (fun hc => .some (no (hb2 (by simpa using hc)))) (fun hc => ?_)
  have hS := hb1 (by simpa using hc)
  have hd := hS.db
  have hs := hS.sq
  have hn := hS.net
  have h8 := hS.g.2.1
  have hn1 := hS.g.1
  have hfl := hS.fl
  have hal : (allW w).length ≤ 1000 := by unfold allW; rw [List.length_append, List.length_map]; omega
  have hfe : ∀ x ∈ allW w, Sm x.e := fun x hx => by
    rcases said_iff.2 hx with ⟨i, hi, hx⟩ | ⟨p, hp, rfl⟩
    · exact (h.dbs i hi).2 x hx
    · obtain ⟨i, hi, rfl⟩ := List.getElem_of_mem hp
      have := h.pks i hi
      have e : pkx w.net i = w.net[i] := by simp [pkx, List.getD, hi]
      rwa [e] at this
  have smf : ∀ l : List En, Sm l → Fits l := fun l hl => by unfold Fits; unfold Sm at hl; omega
  refine sov (e_l51All hS) ?_
  dsimp only
  refine Sat.bnd (e_l51One (allW w) (by omega) (fun x hx => smf _ (hfe x hx))) ?_
  rintro _ ⟨b2, rfl, hb⟩
  dsimp only
  refine Sat.ite (fun hc => .some (no fun q => ?_)) (fun hc => ?_)
  · have hc : b2 = false := by simpa using hc
    have := hb.2 fun i hi => q.ag hi
    rw [hc] at this; cases this
  have hag := hb.1 (show b2 = true by simpa using hc)
  refine Sat.bnd (R := fun r => match r with | .inl x => x = (w.n, w.ls, w.up, w.sq, w.db, w.net, ()) ∧ ∀ i, i < w.db.length → (∀ l ∈ dbx w.db i, Poss w Nob l) ∧ OwW w i | .inr y => y = (false, ()) ∧ ¬ WV w Nob) ?_ ?_
  · refine Sat.count w.db.length (fun k t => t = ((k : Int), w.n, w.ls, w.up, w.sq, w.db, w.net, ()) ∧ ∀ i, i < k → (∀ l ∈ dbx w.db i, Poss w Nob l) ∧ OwW w i) ?_ (Nat.zero_le _) (fuel_lt (by omega)) ⟨rfl, fun i hi => by omega⟩
    rintro k t hk ⟨rfl, hok⟩
    by_cases hlt : k < w.db.length
    · have hsm := h.dbs k hlt
      have hv := (hS.nd k hlt).2
      have hvl := hv.len
      simp only [bo_spec_WorldValid_4]
      refine Sat.gd (decide_eq_true (by omega)) (Sat.bnd (R := fun r => match r with | .inl x => x = ((k : Int), w.n, w.ls, w.up, w.sq, w.db, w.net, ()) ∧ ∀ l ∈ dbx w.db k, Poss w Nob l | .inr y => y = (false, ()) ∧ ¬ WV w Nob) ?_ ?_)
      · refine Sat.count (dbx w.db k).length (fun j t => t = ((k : Int), (j : Int), w.n, w.ls, w.up, w.sq, w.db, w.net, ()) ∧ ∀ i, i < j → Poss w Nob (lsa (dbx w.db k) i)) ?_ (Nat.zero_le _) (fuel_lt (by omega)) ⟨rfl, fun i hi => by omega⟩
        rintro j t hj ⟨rfl, hok2⟩
        by_cases hjl : j < (dbx w.db k).length
        · have hm : lsa (dbx w.db k) j ∈ dbx w.db k := lsa_mem hjl
          simp (disch := omega) only [bo_spec_WorldValid_7, at_db, at_ls, toN, w64, nI_eq, e_l51Lsa hS.g hS.up hs _ (hsm.2 _ hm), Option.bind_some]
          refine Sat.gd (inR_t (by omega) (by omega)) (Sat.gd (decide_eq_true (by omega)) (Sat.gd (inR_t (by omega) (by omega)) (Sat.gd (inR_t (by omega) (by omega)) (Sat.ite (fun hc => .some ⟨rfl, fun q => ?_⟩) (fun hc => .some ⟨hjl, rfl, fun i hi => ?_⟩)))))
          · have hc : poss w (lsa (dbx w.db k) j) = false := by simpa using hc
            exact poss_f.1 hc (q.poss _ (.inl ⟨k, hlt, hm⟩))
          · have hp := poss_t.1 (show poss w (lsa (dbx w.db k) j) = true by simpa using hc)
            by_cases e : i < j
            · exact hok2 i e
            · obtain rfl : i = j := by omega
              exact hp
        · obtain rfl : j = (dbx w.db k).length := by omega
          unfold bo_spec_WorldValid_7
          simp only [at_db, toN, nI_eq]
          refine Sat.gd (inR_t (by omega) (by omega)) (Sat.no (decide_eq_false (by omega)) (.some ⟨rfl, fun l hl => ?_⟩))
          obtain ⟨i, hi, rfl⟩ := List.getElem_of_mem hl
          rw [← lsa_get hi]
          exact hok2 i hi
      · rintro (r | r) hr
        case inr =>
          obtain ⟨rfl, hr⟩ := hr
          exact .some ⟨rfl, hr⟩
        obtain ⟨rfl, hr⟩ := hr
        simp (disch := omega) only [at_db, at_int, toN, w64, e_l11Find _ (k : Int) hsm.fits, Option.bind_some]
        refine Sat.gd (inR_t (by omega) (by omega)) ?_
        cases hfd : fd (dbx w.db k) (k : Int) with
        | none =>
          refine Sat.gd rfl (.some ⟨rfl, fun q => ?_⟩)
          obtain ⟨l, hl, e1, _⟩ := q.own k hlt
          exact fd_none.1 hfd l hl e1
        | some l0 =>
          obtain ⟨hm, ho⟩ := (fd_some hv.so).1 hfd
          refine Sat.no rfl (Sat.gd (inR_t (by omega) (by omega)) (Sat.ite (fun hc => .some ⟨rfl, fun q => ?_⟩) (fun hc => .some ⟨hlt, rfl, fun i hi => ?_⟩)))
          · have hc : ¬ l0.s = iz w.sq k := by simpa using hc
            obtain ⟨l, hl, e1, e2⟩ := q.own k hlt
            have := (fd_some hv.so).2 ⟨hl, e1⟩
            rw [hfd] at this
            injection this with this
            rw [this] at hc
            exact hc e2
          · have hc : l0.s = iz w.sq k := by simpa using hc
            by_cases e : i < k
            · exact hok i e
            · obtain rfl : i = k := by omega
              exact ⟨hr, l0, hm, ho, hc⟩
    · obtain rfl : k = w.db.length := by omega
      unfold bo_spec_WorldValid_4
      exact Sat.no (decide_eq_false (by dsimp only; omega)) (.some ⟨rfl, hok⟩)
  rintro (r | r) hr
  case inr =>
    obtain ⟨rfl, hr⟩ := hr
    exact .some (no hr)
  obtain ⟨rfl, hnd⟩ := hr
  dsimp only
  refine Sat.bnd (R := fun r => match r with | .inl x => ∀ i, i < w.net.length → (0 ≤ (pkx w.net i).t ∧ (pkx w.net i).t < w.n) ∧ Poss w Nob (pkx w.net i).p | .inr y => y = (false, ()) ∧ ¬ WV w Nob) ?_ ?_
  · refine Sat.count w.net.length (fun k t => t = ((k : Int), w.n, w.ls, w.up, w.sq, w.db, w.net, ()) ∧ ∀ i, i < k → (0 ≤ (pkx w.net i).t ∧ (pkx w.net i).t < w.n) ∧ Poss w Nob (pkx w.net i).p) ?_ (Nat.zero_le _) (fuel_lt (by omega)) ⟨rfl, fun i hi => by omega⟩
    rintro k t hk ⟨rfl, hok⟩
    by_cases hlt : k < w.net.length
    · simp (disch := omega) only [bo_spec_WorldValid_15, at_pk, toN, w64, nI_eq, e_l6In, e_l51Lsa hS.g hS.up hs _ (h.pks k hlt), Option.bind_some]
      refine Sat.gd (decide_eq_true (by omega)) (Sat.gd (inR_t (by omega) (by omega)) (Sat.ite (fun hc => .some ⟨rfl, fun q => ?_⟩) (fun hc => ?_)))
      · have hc := inB_f (show inB (pkx w.net k).t 0 (w.n - 1) = false by simpa using hc)
        have := q.tgt _ (pkx_mem hlt)
        omega
      have ht := inB_t (show inB (pkx w.net k).t 0 (w.n - 1) = true by simpa using hc)
      refine Sat.gd (inR_t (by omega) (by omega)) (Sat.ite (fun hc => .some ⟨rfl, fun q => ?_⟩) (fun hc => .some ⟨hlt, rfl, fun i hi => ?_⟩))
      · have hc : poss w (pkx w.net k).p = false := by simpa using hc
        exact poss_f.1 hc (q.poss _ (.inr ⟨_, pkx_mem hlt, rfl⟩))
      · have hp := poss_t.1 (show poss w (pkx w.net k).p = true by simpa using hc)
        by_cases e : i < k
        · exact hok i e
        · obtain rfl : i = k := by omega
          exact ⟨by omega, hp⟩
    · obtain rfl : k = w.net.length := by omega
      unfold bo_spec_WorldValid_15
      simp only [nI_eq]
      exact Sat.no (decide_eq_false (by omega)) (.some hok)
  rintro (r | r) hr
  case inr =>
    obtain ⟨rfl, hr⟩ := hr
    exact .some (no hr)
  refine .some ?_
  rw [wv_t.2 (wv_mk hS.g hS.up hs hd hn hS.nd (fun i hi => (hnd i hi).2) (fun i hi => (hr i hi).1) (fun i hi => ?_) hag)]
  rcases said_iff.2 (lsa_mem hi) with ⟨j, hj, hx⟩ | ⟨p, hp, e⟩
  · exact (hnd j hj).1 _ hx
  · rw [e]
    obtain ⟨j, hj, rfl⟩ := List.getElem_of_mem hp
    have := (hr j hj).2
    have e2 : pkx w.net j = w.net[j] := by simp [pkx, List.getD, hj]
    rwa [e2] at this
end
end Go.Proofs.YtojdflifijpffaaGreat
end
section
namespace Go.Proofs.YtojdflifijpffaaGreat
open Go.RowKit
set_option linter.unusedSimpArgs false
set_option linter.unusedVariables false
set_option maxRecDepth 100000

section
variable {w : Wd}
def zW : Wd := ⟨0, [], [], [], [], []⟩
def wk7 (b : Bool) (w : Wd) : Int × Bool × List Lk × List Bool × List Int × List (List Ls) × List Pk × Unit := (w.n, b, w.ls, w.up, w.sq, w.db, w.net, ())
theorem zW_sm : SmW zW := ⟨by simp [zW], by simp [zW], by simp [zW], by simp [zW], by simp [zW], fun i hi => by simp [zW] at hi, fun i hi => by simp [zW] at hi⟩
noncomputable def doV (w : Wd) (kind a : Int) : Wd := if wv w = true then doW w kind a else zW
theorem e_WorldDo (h : SmW w) (kind a : Int) : sh_impl_WorldDo (w.n, w.ls, w.up, w.sq, w.db, w.net, kind, a, ()) = some (wt (doV w kind a)) := by
  unfold sh_impl_WorldDo doV
  refine Sat.out (sov (e_WorldValid h) ?_)
  dsimp only
  cases hv : wv w with
  | false => exact Sat.gd rfl (.some (by rw [if_neg (by simp)]; try rfl))
  | true =>
    rw [if_pos rfl]
    refine Sat.no rfl (sov (e_copyWorld h) ?_)
    exact sov (e_apply (wv_t.1 hv) kind a) (.some rfl)
theorem e_sWorldDo (h : SmW w) (kind a : Int) : sh_spec_WorldDo (w.n, w.ls, w.up, w.sq, w.db, w.net, kind, a, ()) = some (wt (doV w kind a)) := by
  unfold sh_spec_WorldDo doV
  refine Sat.out (sov (e_sWorldValid h) ?_)
  dsimp only
  cases hv : wv w with
  | false => exact Sat.gd rfl (.some (by rw [if_neg (by simp)]; try rfl))
  | true =>
    rw [if_pos rfl]
    have v := wv_t.1 hv
    refine Sat.no rfl (sov (e_l51Do v kind a) ?_)
    dsimp only [wt]
    exact sov (e_l51Copy (do_ok v kind a).sm) (.some rfl)
theorem e_sameBools (zs : List Bool) (hl : Fits zs) : sh_laws_sameBools (zs, zs, ()) = some (true, ()) := by
  unfold sh_laws_sameBools
  simp only [decide_true, Bool.not_true, cond_false]
  refine Sat.out (Sat.bnd (R := fun r => match r with | .inl _ => True | .inr _ => False) ?_ ?_)
  · refine Sat.count zs.length (fun k t => t = (zs, zs, (k : Int), ())) ?_ (Nat.zero_le _) (fuel_lt (by omega)) rfl
    rintro k t hk rfl
    simp (disch := omega) only [bo_laws_sameBools_4, at_bo, toN, w64, nI_eq]
    refine Sat.ite (fun hh => ?_) (fun hh => .some trivial)
    have hh := of_decide_eq_true hh
    refine Sat.gd (inR_t (by omega) (by omega)) (Sat.gd (inR_t (by omega) (by omega)) (Sat.no (by simp) (.some ⟨by omega, rfl⟩)))
  · rintro (r | r) hr
    case inr => exact hr.elim
    exact .some rfl
theorem e_sameWorld (h : SmW w) : sh_laws_sameWorld (w.n, w.ls, w.up, w.sq, w.db, w.net, w.n, w.ls, w.up, w.sq, w.db, w.net, ()) = some (true, ()) := by
  have h1 := h.ls
  have h2 := h.up
  have h3 := h.sq
  have h4 := h.db
  have h5 := h.net
  unfold sh_laws_sameWorld
  dsimp only
  refine Sat.out (sov (e_sameGraph _ _ (show Fits w.ls by unfold Fits; omega)) (Sat.no rfl (sov (e_sameBools _ (show Fits w.up by unfold Fits; omega)) (Sat.no rfl (sov (e_sameInts _ (show Fits w.sq by unfold Fits; omega)) (Sat.no rfl ?_))))))
  refine Sat.no (by simp) (Sat.no (by simp) ?_)
  refine Sat.bnd (R := fun r => match r with | .inl x => x = (w.n, w.ls, w.up, w.sq, w.db, w.net, wt w) | .inr _ => False) ?_ ?_
  · refine Sat.count w.db.length (fun k t => t = ((k : Int), w.n, w.ls, w.up, w.sq, w.db, w.net, wt w)) ?_ (Nat.zero_le _) (fuel_lt (by omega)) rfl
    rintro k t hk rfl
    by_cases hlt : k < w.db.length
    · simp (disch := omega) only [bo_laws_sameWorld_4, wt, at_db, toN, w64, nI_eq]
      refine Sat.gd (decide_eq_true (by omega)) (Sat.gd (inR_t (by omega) (by omega)) (Sat.gd (inR_t (by omega) (by omega)) (sov (e_sameDbSelf _ (h.dbs k hlt)) (Sat.no rfl (.some ⟨hlt, rfl⟩)))))
    · obtain rfl : k = w.db.length := by omega
      unfold bo_laws_sameWorld_4
      simp only [nI_eq]
      exact Sat.no (decide_eq_false (by omega)) (.some rfl)
  rintro (r | r) hr
  case inr => exact hr.elim
  obtain rfl := hr
  dsimp only
  refine Sat.bnd (R := fun r => match r with | .inl _ => True | .inr _ => False) ?_ ?_
  · refine Sat.count w.net.length (fun k t => t = ((k : Int), w.n, w.ls, w.up, w.sq, w.db, w.net, wt w)) ?_ (Nat.zero_le _) (fuel_lt (by omega)) rfl
    rintro k t hk rfl
    by_cases hlt : k < w.net.length
    · have hf : Fits (pkx w.net k).p.e := by have := h.pks k hlt; unfold Fits; unfold Sm at this; omega
      simp (disch := omega) only [bo_laws_sameWorld_9, wt, at_pk, toN, w64, nI_eq]
      refine Sat.gd (decide_eq_true (by omega)) (Sat.gd (inR_t (by omega) (by omega)) (Sat.gd (inR_t (by omega) (by omega)) (Sat.no (by simp) (Sat.gd (inR_t (by omega) (by omega)) (Sat.gd (inR_t (by omega) (by omega)) (sov (e_sameLsaL _ _ hf hf) (Sat.no (by simp) (.some ⟨hlt, rfl⟩))))))))
    · obtain rfl : k = w.net.length := by omega
      unfold bo_laws_sameWorld_9
      simp only [nI_eq]
      exact Sat.no (decide_eq_false (by omega)) (.some trivial)
  rintro (r | r) hr
  case inr => exact hr.elim
  exact .some rfl
end
end Go.Proofs.YtojdflifijpffaaGreat
end
section
namespace Go.Proofs.YtojdflifijpffaaGreat
open Go.RowKit
set_option linter.unusedSimpArgs false
set_option linter.unusedVariables false
set_option maxRecDepth 100000

section
def rowN (ls : List Lk) (N k : Nat) : List Ls := (List.range k).map fun i : Nat => (⟨i, 1, endsOf ls N i⟩ : Ls)
theorem rowN_succ (ls : List Lk) (N k : Nat) : rowN ls N (k + 1) = rowN ls N k ++ [⟨(k : Nat), 1, endsOf ls N (k : Nat)⟩] := by
  unfold rowN
  rw [List.range_succ, List.map_append]; rfl
theorem rowN_len (ls : List Lk) (N k : Nat) : (rowN ls N k).length = k := by simp [rowN]
theorem rep_succ {α : Type} (k : Nat) (a : α) : List.replicate (k + 1) a = List.replicate k a ++ [a] := List.replicate_succ'
noncomputable def newV (n : Int) (ls : List Lk) : Wd := if gv n ls = true then newW n ls else zW
theorem new_okI {n : Int} {ls : List Lk} (g : GV n ls) : WV (newW n ls) Nob := by
  have h1 := g.1
  obtain ⟨N, rfl⟩ := Int.eq_ofNat_of_zero_le (show 0 ≤ n by omega)
  exact new_ok g
theorem rowN_sm {N k : Nat} (ls : List Lk) (h8 : N ≤ 8) (hk : k ≤ 8) : SmD (rowN ls N k) := by
  refine ⟨by have := rowN_len ls N k; unfold Sm; omega, fun l hl => ?_⟩
  unfold rowN at hl
  obtain ⟨i, hi, rfl⟩ := List.mem_map.1 hl
  have := endsOf_len (ls := ls) (N := N) (i : Int)
  unfold Sm; dsimp only; omega
theorem e_sWorldNew (n : Int) (ls : List Lk) (hl : Fits ls) : sh_spec_WorldNew (n, ls, ()) = some (wk7 (gv n ls) (newV n ls)) := by
  unfold sh_spec_WorldNew newV
  dsimp only
  rw [e_sGraphValid n ls hl]
  cases hg : gv n ls with
  | false => exact Sat.out (sov rfl (Sat.gd rfl (.some rfl)))
  | true =>
    have g := gv_t hg
    have h1 := g.1
    have h8 := g.2.1
    have h14 := g.2.2.1
    obtain ⟨N, rfl⟩ := Int.eq_ofNat_of_zero_le (show 0 ≤ n by omega)
    refine Sat.out (sov rfl (Sat.no rfl (sov (e_l1Copy _ ls (by omega)) ?_)))
    dsimp only
    rw [if_pos rfl]
    refine Sat.bnd (R := fun r => match r with | .inl x => x = ((N : Int), ls, 0, [], [], [], [], [], rowN ls N N, (N : Int), ls, [], List.replicate N (1 : Int), [], [], ()) | .inr _ => False) ?_ ?_
    · refine Sat.count N (fun k t => t = ((k : Int), (N : Int), ls, 0, [], [], [], [], [], rowN ls N k, (N : Int), ls, [], List.replicate k (1 : Int), [], [], ())) ?_ (Nat.zero_le _) (fuel_lt (by omega)) rfl
      rintro k t hk rfl
      have hrl := rowN_len ls N k
      by_cases hlt : k < N
      · simp (disch := omega) only [bo_spec_WorldNew_6, e_l11Of g, Option.bind_some, w64]
        refine Sat.gd (decide_eq_true (by omega)) (Sat.gd (decide_eq_true (by simp only [List.length_singleton]; omega)) (Sat.gd (decide_eq_true (by simp only [List.length_singleton, List.length_replicate]; omega)) (.some ⟨hlt, ?_⟩)))
        rw [rowN_succ, rep_succ k (1 : Int)]; rfl
      · obtain rfl : k = N := by omega
        unfold bo_spec_WorldNew_6
        exact Sat.no (decide_eq_false (by first | omega | (dsimp only; omega))) (.some rfl)
    rintro (r | r) hr
    case inr => exact hr.elim
    obtain rfl := hr
    dsimp only
    refine Sat.bnd (R := fun r => match r with | .inl x => x = ((N : Int), ls, 0, [], [], [], [], [], (N : Int), ls, [], List.replicate N (1 : Int), List.replicate N (rowN ls N N), [], ()) | .inr _ => False) ?_ ?_
    · refine Sat.count N (fun k t => t = ((k : Int), (N : Int), ls, 0, [], [], [], [], [], rowN ls N N, (N : Int), ls, [], List.replicate N (1 : Int), List.replicate k (rowN ls N N), [], ())) ?_ (Nat.zero_le _) (fuel_lt (by omega)) rfl
      rintro k t hk rfl
      by_cases hlt : k < N
      · simp (disch := omega) only [bo_spec_WorldNew_11, e_l11Copy _ (rowN_sm ls (show N ≤ 8 by omega) (show N ≤ 8 by omega)), Option.bind_some, w64]
        refine Sat.gd (decide_eq_true (by omega)) (Sat.gd (decide_eq_true (by simp only [List.length_singleton, List.length_replicate]; omega)) (.some ⟨hlt, ?_⟩))
        rw [rep_succ k (rowN ls N N)]; rfl
      · obtain rfl : k = N := by omega
        unfold bo_spec_WorldNew_11
        exact Sat.no (decide_eq_false (by first | omega | (dsimp only; omega))) (.some rfl)
    rintro (r | r) hr
    case inr => exact hr.elim
    obtain rfl := hr
    dsimp only
    refine Sat.bnd (R := fun r => match r with | .inl x => x = (0, [], [], [], [], [], (N : Int), ls, List.replicate ls.length true, List.replicate N (1 : Int), List.replicate N (rowN ls N N), [], ()) | .inr _ => False) ?_ ?_
    · refine Sat.count ls.length (fun k t => t = ((k : Int), (N : Int), ls, 0, [], [], [], [], [], (N : Int), ls, List.replicate k true, List.replicate N (1 : Int), List.replicate N (rowN ls N N), [], ())) ?_ (Nat.zero_le _) (fuel_lt (by omega)) rfl
      rintro k t hk rfl
      by_cases hlt : k < ls.length
      · simp (disch := omega) only [bo_spec_WorldNew_15, w64, nI_eq]
        refine Sat.gd (decide_eq_true (by omega)) (Sat.gd (decide_eq_true (by simp only [List.length_singleton, List.length_replicate]; omega)) (.some ⟨hlt, ?_⟩))
        rw [rep_succ k true]; rfl
      · obtain rfl : k = ls.length := by omega
        unfold bo_spec_WorldNew_15
        simp only [nI_eq]
        exact Sat.no (decide_eq_false (by first | omega | (dsimp only; omega))) (.some rfl)
    rintro (r | r) hr
    case inr => exact hr.elim
    obtain rfl := hr
    exact .some rfl
end
end Go.Proofs.YtojdflifijpffaaGreat
end
section
namespace Go.Proofs.YtojdflifijpffaaGreat
open Go.RowKit
set_option linter.unusedSimpArgs false
set_option linter.unusedVariables false
set_option maxRecDepth 100000

structure Byt (b : List Int) : Prop where
  len : b.length ≤ 2000
  rng : ∀ i, 0 ≤ iz b i ∧ iz b i ≤ 255
theorem at_u8 (zs : List Int) (i : Nat) : at! .u8 zs i = iz zs i := by
  induction zs generalizing i with
  | nil => rfl
  | cons z r ih => cases i with
    | zero => rfl
    | succ i => exact (ih i).trans (by simp [iz])
theorem tmod_rng {a b : Int} (h : 0 ≤ a) (hb : 0 < b) : 0 ≤ Int.tmod a b ∧ Int.tmod a b < b := ⟨Int.tmod_nonneg _ h, Int.tmod_lt_of_pos _ hb⟩
theorem xor_rng {x y : Int} (h : 0 ≤ x) (h1 : x < 1099511627776) (k : 0 ≤ y) (k1 : y < 1099511627776) : 0 ≤ xorK .i64 x y ∧ xorK .i64 x y < 1099511627776 := by
  obtain ⟨a, rfl⟩ := Int.eq_ofNat_of_zero_le h
  obtain ⟨b, rfl⟩ := Int.eq_ofNat_of_zero_le k
  have e : (BitVec.ofInt 64 (a : Int) ^^^ BitVec.ofInt 64 (b : Int)).toNat = a ^^^ b := by
    rw [BitVec.toNat_xor, BitVec.toNat_ofInt, BitVec.toNat_ofInt]
    have e1 : ((a : Int) % ((2 ^ 64 : Nat) : Int)).toNat = a := by omega
    have e2 : ((b : Int) % ((2 ^ 64 : Nat) : Int)).toNat = b := by omega
    rw [e1, e2]
  have hlt : a ^^^ b < 2 ^ 40 := Nat.xor_lt_two_pow (by omega) (by omega)
  unfold xorK
  rw [show IntKind.bits .i64 = 64 from rfl, e, wI (by omega) (by omega)]
  omega
theorem pick_ok {b : List Int} {p n : Int} (hB : Byt b) (h0 : 0 ≤ p) (h1 : p ≤ 1000000000) : ∃ x, sh_spec_l6Rd_pick (n, b, p, ()) = some (x, b, p + 1, ()) ∧ 0 ≤ x ∧ (1 ≤ n → x < n) ∧ (n < 1 → x = 0) := by
  have hl := hB.len
  have e1 : wrap64 (p + 1) = p + 1 := w64 (by omega) (by omega)
  have e2 : wrap64 (p + 1 - 1) = p := by rw [w64 (by omega) (by omega)]; omega
  unfold sh_spec_l6Rd_pick
  simp only [e1, e2, nI_eq]
  clear e1 e2
  by_cases hn : n < 1
  · exact ⟨0, by rw [decide_eq_true hn]; rfl, Int.le_refl _, fun h => by omega, fun _ => rfl⟩
  by_cases hb : b.length = 0
  · exact ⟨0, by simp [hn, hb], Int.le_refl _, fun h => by omega, fun h => by omega⟩
  have hb' : ¬ ((b.length : Nat) : Int) = 0 := by omega
  have hn0 : ¬ n = 0 := by omega
  simp only [decide_eq_false hn, decide_eq_false hb', decide_eq_false hn0, Bool.not_false, cond_true, cond_false]
  by_cases hk : p < b.length
  · have r := hB.rng p.toNat
    have ew : wrap64 (at! .u8 b p.toNat) = iz b p.toNat := by rw [at_u8]; exact w64 (by omega) (by omega)
    have := tmod_rng (a := iz b p.toNat) (b := n) r.1 (by omega)
    refine ⟨_, by rw [decide_eq_true hk, inR_t h0 hk]; rfl, ?_⟩
    rw [ew]
    exact ⟨this.1, fun _ => this.2, fun h => by omega⟩
  · have t1 := tmod_rng (a := p) (b := ((b.length : Nat) : Int)) h0 (by omega)
    have ep : wrap64 (wrap64 (p * 7) + 3) = p * 7 + 3 := by rw [w64 (x := p * 7) (by omega) (by omega)]; exact w64 (by omega) (by omega)
    have t2 := tmod_rng (a := p * 7 + 3) (b := ((b.length : Nat) : Int)) (by omega) (by omega)
    have r1 := hB.rng (Int.tmod p b.length).toNat
    have r2 := hB.rng (Int.tmod (p * 7 + 3) b.length).toNat
    simp only [ep, decide_eq_false hk, inR_t t1.1 t1.2, inR_t t2.1 t2.2, cond_true, cond_false, at_u8]
    generalize iz b (Int.tmod p b.length).toNat = u at *
    generalize iz b (Int.tmod (p * 7 + 3) b.length).toNat = v at *
    have hq : 0 ≤ Int.tdiv p b.length ∧ Int.tdiv p b.length ≤ 1000000000 := by
      rw [Int.tdiv_eq_ediv_of_nonneg h0]
      exact ⟨Int.ediv_nonneg h0 (by omega), Int.le_trans (Int.ediv_le_self _ h0) h1⟩
    generalize Int.tdiv p b.length = q at *
    have ex : wrap64 (wrap64 (wrap64 (wrap64 (wrap64 u * 131) + wrap64 (wrap64 v * 1117)) + wrap64 (p * 29)) + wrap64 (wrap64 q * 53)) = u * 131 + v * 1117 + p * 29 + q * 53 := by
      rw [w64 (x := u) (by omega) (by omega), w64 (x := v) (by omega) (by omega), w64 (x := q) (by omega) (by omega), w64 (x := u * 131) (by omega) (by omega), w64 (x := v * 1117) (by omega) (by omega), w64 (x := p * 29) (by omega) (by omega), w64 (x := q * 53) (by omega) (by omega)]
      rw [w64 (x := u * 131 + v * 1117) (by omega) (by omega), w64 (x := u * 131 + v * 1117 + p * 29) (by omega) (by omega), w64 (by omega) (by omega)]
    simp only [ex]
    clear ex ep
    have hx : 0 ≤ u * 131 + v * 1117 + p * 29 + q * 53 ∧ u * 131 + v * 1117 + p * 29 + q * 53 < 1099511627776 := by omega
    generalize u * 131 + v * 1117 + p * 29 + q * 53 = x at *
    have hd : 0 ≤ Int.tdiv x 64 ∧ Int.tdiv x 64 < 1099511627776 := by
      rw [Int.tdiv_eq_ediv_of_nonneg hx.1]
      omega
    have ed : wrap64 (Int.tdiv x 64) = Int.tdiv x 64 := w64 (by omega) (by omega)
    have hxr := xor_rng hx.1 hx.2 hd.1 hd.2
    have := tmod_rng (a := xorK .i64 x (Int.tdiv x 64)) (b := n) hxr.1 (by omega)
    rw [ed]
    exact ⟨_, rfl, this.1, fun _ => this.2, fun h => by omega⟩
theorem Sat.pick {β : Type} {b : List Int} {p n : Int} {f : Int × List Int × Int × Unit → Option β} {Q : β → Prop} (hB : Byt b) (h0 : 0 ≤ p) (h1 : p ≤ 1000000000) (k : ∀ x, 0 ≤ x → (1 ≤ n → x < n) → (n < 1 → x = 0) → Sat (f (x, b, p + 1, ())) Q) : Sat ((sh_spec_l6Rd_pick (n, b, p, ())).bind f) Q := by
  obtain ⟨x, e, q1, q2, q3⟩ := pick_ok (n := n) hB h0 h1
  rw [e]
  exact k x q1 q2 q3
structure Drw (n a m : Int) (l : List Lk) : Prop where
  pw : l.Pairwise lxl
  ok : ∀ x ∈ l, okL n x
  lt : ∀ x ∈ l, x.a < a ∨ x.a = a ∧ x.b < m
  len : l.length ≤ 14
theorem Drw.skip {n a m : Int} {l : List Lk} (h : Drw n a m l) : Drw n a (m + 1) l := ⟨h.pw, h.ok, fun x hx => by have := h.lt x hx; omega, h.len⟩
theorem Drw.app {n a m c : Int} {l : List Lk} (h : Drw n a m l) (h0 : 0 ≤ a) (h1 : a < m) (h2 : m < n) (hc : 1 ≤ c ∧ c ≤ 20) (hl : l.length < 14) : Drw n a (m + 1) (l ++ [⟨a, m, c⟩]) := by
  refine ⟨?_, fun x hx => ?_, fun x hx => ?_, by simp; omega⟩
  · rw [List.pairwise_append]
    refine ⟨h.pw, by simp, fun x hx y hy => ?_⟩
    obtain rfl := List.mem_singleton.1 hy
    have := h.lt x hx
    unfold lxl
    exact this
  · rcases List.mem_append.1 hx with hx | hx
    · exact h.ok x hx
    · obtain rfl := List.mem_singleton.1 hx
      exact ⟨h0, h1, h2, hc.1, hc.2⟩
  · rcases List.mem_append.1 hx with hx | hx
    · have := h.lt x hx
      omega
    · obtain rfl := List.mem_singleton.1 hx
      dsimp only
      omega
theorem Drw.row {n a m m' : Int} {l : List Lk} (h : Drw n a m l) : Drw n (a + 1) m' l := ⟨h.pw, h.ok, fun x hx => by have := h.lt x hx; omega, h.len⟩
theorem Drw.gv {n a m : Int} {l : List Lk} (h : Drw n a m l) (h1 : 1 ≤ n) (h8 : n ≤ 8) : GV n l := gv_pw.2 ⟨h1, h8, h.len, h.ok, h.pw⟩
theorem cost_ok {x y z : Int} (h1 : 0 ≤ x) (h2 : x < 3) (h3 : 0 ≤ y) (h4 : y < 4) (h5 : 0 ≤ z) (h6 : z < 8) : 1 ≤ wrap64 (wrap64 (1 + x) + wrap64 (wrap64 (Int.tdiv y 3) * z)) ∧ wrap64 (wrap64 (1 + x) + wrap64 (wrap64 (Int.tdiv y 3) * z)) ≤ 20 := by
  rw [Int.tdiv_eq_ediv_of_nonneg h3]
  rcases (show y / 3 = 0 ∨ y / 3 = 1 by omega) with e | e <;> rw [e]
  · rw [w64 (x := 1 + x) (by omega) (by omega), show wrap64 (wrap64 0 * z) = 0 by rw [w64 (x := 0) (by omega) (by omega), Int.zero_mul, w64 (by omega) (by omega)], w64 (by omega) (by omega)]
    omega
  · rw [w64 (x := 1 + x) (by omega) (by omega), show wrap64 (wrap64 1 * z) = z by rw [w64 (x := 1) (by omega) (by omega), Int.one_mul, w64 (by omega) (by omega)], w64 (by omega) (by omega)]
    omega
end Go.Proofs.YtojdflifijpffaaGreat

namespace Go.Proofs.YtojdflifijpffaaGreat
open Go.RowKit
set_option linter.unusedSimpArgs false
set_option linter.unusedVariables false
set_option maxRecDepth 100000

set_option maxHeartbeats 2000000 in
theorem d_inner {b : List Int} (hB : Byt b) {d a n p : Int} (ha : 0 ≤ a) (han : a < n) (hn : n ≤ 8) (x5 : Int) (x6 : List Lk) {l : List Lk} (hl : Drw n a (a + 1) l) (h0 : 0 ≤ p) (h1 : p ≤ 100000000) : Sat (lp bo_spec_l91Graph_9 fuel (d, a, wrap64 (a + 1), b, p, x5, x6, n, l, ())) fun r => match r with
      | .inl x => ∃ p' l', x = (d, a, b, p', x5, x6, n, l', ()) ∧ p ≤ p' ∧ p' ≤ p + 5 * 8 ∧ Drw n (a + 1) (a + 2) l'
      | .inr _ => False := by
  refine Sat.count (n - 1 - a).toNat (fun k s => ∃ p' l', s = (d, a, a + 1 + (k : Int), b, p', x5, x6, n, l', ()) ∧ p ≤ p' ∧ p' ≤ p + 5 * k ∧ Drw n a (a + 1 + (k : Int)) l') ?_ (Nat.zero_le _) (fuel_lt (by omega)) ⟨p, l, by rw [w64 (by omega) (by omega)]; simp, by omega, by omega, by simpa using hl⟩
  rintro k s hk ⟨p', l', rfl, hp1, hp2, hD⟩
  have hlen := hD.len
  simp (disch := omega) only [bo_spec_l91Graph_9, w64, nI_eq, List.length_singleton]
  repeat' (first
    | refine Sat.some ?_
    | (refine Sat.pick hB (by omega) (by omega) (fun x _ _ _ => ?_) <;> dsimp only) | (refine Sat.gd (decide_eq_true (by omega)) ?_)
    | (refine Sat.gd (by first | exact inR_t (by omega) (by omega) | (simp (disch := omega) only [w64]; exact inR_t (by omega) (by omega))) ?_)
    | (refine Sat.ite (fun h => ?_) (fun h => ?_) <;> try simp only [decide_eq_true_eq, decide_eq_false_iff_not, Bool.not_eq_true', Bool.not_eq_false', inB_i, inB_j, Bool.and_eq_true, Bool.or_eq_true, Bool.and_eq_false_iff, Bool.or_eq_false_iff, El] at h))
  all_goals try dsimp only
  all_goals first
    | exact ⟨by omega, _, _, by rw [show a + 1 + (k : Int) + 1 = a + 1 + ((k + 1 : Nat) : Int) by omega], by omega, by omega, by rw [show a + 1 + ((k + 1 : Nat) : Int) = a + 1 + (k : Int) + 1 by omega]; exact hD.skip⟩
    | exact ⟨by omega, _, _, by rw [show a + 1 + (k : Int) + 1 = a + 1 + ((k + 1 : Nat) : Int) by omega], by omega, by omega, by rw [show a + 1 + ((k + 1 : Nat) : Int) = a + 1 + (k : Int) + 1 by omega]; exact hD.app ha (by omega) (by omega) (cost_ok (by assumption) (by omega) (by assumption) (by omega) (by assumption) (by omega)) (by omega)⟩
    | exact ⟨_, _, rfl, hp1, by omega, hD.row⟩
theorem d_outer {b : List Int} (hB : Byt b) {d n p : Int} (hn0 : 0 ≤ n) (hn : n ≤ 8) (x5 : Int) (x6 : List Lk) (h0 : 0 ≤ p) (h1 : p ≤ 90000000) : Sat (lp bo_spec_l91Graph_6 fuel (d, 0, b, p, x5, x6, n, [], ())) fun r => match r with
      | .inl x => ∃ p' l', x = (b, p', x5, x6, n, l', ()) ∧ p ≤ p' ∧ p' ≤ p + 40 * 8 ∧ Drw n n (n + 1) l'
      | .inr _ => False := by
  refine Sat.count n.toNat (fun k s => ∃ p' l', s = (d, (k : Int), b, p', x5, x6, n, l', ()) ∧ p ≤ p' ∧ p' ≤ p + 40 * k ∧ Drw n k ((k : Int) + 1) l') ?_ (Nat.zero_le _) (fuel_lt (by omega)) ⟨p, [], rfl, by omega, by omega, ⟨by simp, by simp, by simp, by simp⟩⟩
  rintro k s hk ⟨p', l', rfl, hp1, hp2, hD⟩
  unfold bo_spec_l91Graph_6
  dsimp only
  refine Sat.ite (fun hlt => ?_) (fun hlt => ?_)
  · have hlt := of_decide_eq_true hlt
    refine Sat.bnd (d_inner hB (by omega) hlt hn x5 x6 hD (by omega) (by omega)) ?_
    rintro (r | r) hr
    case inr => exact hr.elim
    obtain ⟨p'', l'', rfl, q1, q2, hD'⟩ := hr
    refine .some ⟨by omega, p'', l'', ?_, by omega, by omega, hD'⟩
    dsimp only
    rw [w64 (by omega) (by omega)]
    rfl
  · have hlt := of_decide_eq_false hlt
    have e : (k : Int) = n := by omega
    rw [e] at hD
    exact .some ⟨p', l', rfl, hp1, by omega, hD⟩
def DG (b : List Int) (p : Int) (r : Int × List Int × Int × List Lk × Unit) : Prop := ∃ n p' ls, r = (n, b, p', ls, ()) ∧ p ≤ p' ∧ p' ≤ p + 400 ∧ GV n ls
theorem gv_one : GV 1 [] := ⟨by omega, by omega, by simp, fun i hi => by simp at hi⟩
theorem d_Graph {b : List Int} (hB : Byt b) {p : Int} (h0 : 0 ≤ p) (h1 : p ≤ 80000000) : Sat (sh_spec_l91Graph (b, p, ())) (DG b p) := by
  unfold sh_spec_l91Graph
  dsimp only
  refine Sat.pick hB (by omega) (by omega) (fun x1 _ q1 _ => ?_)
  dsimp only
  refine Sat.pick hB (by omega) (by omega) (fun x2 _ q2 _ => ?_)
  dsimp only
  refine Sat.ite (fun _ => ?_) (fun _ => ?_)
  · refine Sat.pick hB (by omega) (by omega) (fun x3 _ q3 _ => ?_)
    dsimp only
    refine Sat.pick hB (by omega) (by omega) (fun x4 _ _ _ => ?_)
    dsimp only
    rw [w64 (x := 4 + x3) (by omega) (by omega)]
    refine Sat.bnd (d_outer hB (by omega) (by omega) 0 [] (by omega) (by omega)) ?_
    rintro (r | r) hr
    case inr => exact hr.elim
    obtain ⟨p', l', rfl, q5, q6, hD⟩ := hr
    dsimp only
    refine Sat.pick hB (by omega) (by omega) (fun x5 _ _ _ => ?_)
    dsimp only
    refine Sat.ite (fun _ => ?_) (fun _ => ?_)
    · exact .some ⟨_, _, _, rfl, by omega, by omega, gv_one⟩
    · exact .some ⟨_, _, _, rfl, by omega, by omega, hD.gv (by omega) (by omega)⟩
  · refine Sat.pick hB (by omega) (by omega) (fun x3 _ q3 _ => ?_)
    dsimp only
    rw [w64 (x := 2 + x1) (by omega) (by omega)]
    refine Sat.bnd (d_outer hB (by omega) (by omega) 0 [] (by omega) (by omega)) ?_
    rintro (r | r) hr
    case inr => exact hr.elim
    obtain ⟨p', l', rfl, q5, q6, hD⟩ := hr
    dsimp only
    refine Sat.pick hB (by omega) (by omega) (fun x5 _ _ _ => ?_)
    dsimp only
    refine Sat.ite (fun _ => ?_) (fun _ => ?_)
    · exact .some ⟨_, _, _, rfl, by omega, by omega, gv_one⟩
    · exact .some ⟨_, _, _, rfl, by omega, by omega, hD.gv (by omega) (by omega)⟩
def DS (b : List Int) (p : Int) (r : Int × List Int × Int × List Lk × Unit) : Prop := ∃ n p' ls, r = (n, b, p', ls, ()) ∧ p ≤ p' ∧ p' ≤ p + 500 ∧ 0 ≤ n ∧ n ≤ 9 ∧ ls.length ≤ 15
theorem d_Spoilt {b : List Int} (hB : Byt b) {p : Int} (h0 : 0 ≤ p) (h1 : p ≤ 80000000) : Sat (sh_spec_l91Spoilt (b, p, ())) (DS b p) := by
  unfold sh_spec_l91Spoilt
  dsimp only
  refine Sat.bnd (d_Graph hB h0 h1) ?_
  rintro _ ⟨n, p', ls, rfl, g1, g2, hG⟩
  have h14 := hG.2.2.1
  have hn1 := hG.1
  have hn8 := hG.2.1
  dsimp only
  simp only [nI_eq]
  refine Sat.ite (fun _ => .some ⟨_, _, _, rfl, by omega, by omega, by omega, by omega, by omega⟩) (fun hne => ?_)
  have hne := of_decide_eq_false hne
  refine Sat.pick hB (by omega) (by omega) (fun k hk0 hk _ => ?_)
  dsimp only
  refine Sat.pick hB (by omega) (by omega) (fun x2 _ _ _ => ?_)
  dsimp only
  refine Sat.ite (fun _ => ?_) (fun _ => Sat.ite (fun _ => ?_) (fun _ => Sat.ite (fun _ => ?_) (fun _ => Sat.ite (fun _ => ?_) (fun _ => ?_))))
  · unfold bo_spec_l91Spoilt_7
    dsimp only
    refine Sat.bnd (R := fun r => match r with | .inl x => ∃ p'' l', x = (b, p'', 0, [], n, l', ()) ∧ l'.length = ls.length ∧ p'' = p' + 1 + 1 + 1 | .inr _ => False) ?_ ?_
    · refine Sat.pick hB (by omega) (by omega) (fun x3 _ _ _ => ?_)
      dsimp only
      refine Sat.gd (inR_t (by omega) (by simp; omega)) (Sat.gd (inR_t (by omega) (by omega)) (.some ⟨_, _, rfl, by simp, rfl⟩))
    · rintro (r | r) hr
      case inr => exact hr.elim
      obtain ⟨p'', l', rfl, e1, e2⟩ := hr
      exact .some ⟨n, p'', l', rfl, by omega, by omega, by omega, by omega, by omega⟩
  · refine Sat.pick hB (by omega) (by omega) (fun x3 _ _ _ => ?_)
    dsimp only
    exact Sat.gd (inR_t (by omega) (by omega)) (.some ⟨_, _, _, rfl, by omega, by omega, by omega, by omega, by simp; omega⟩)
  · refine Sat.pick hB (by omega) (by omega) (fun x3 _ _ _ => ?_)
    dsimp only
    exact .some ⟨_, _, _, rfl, by omega, by omega, by omega, by omega, by omega⟩
  · exact Sat.gd (inR_t (by omega) (by omega)) (Sat.gd (decide_eq_true (by simp; omega)) (.some ⟨_, _, _, rfl, by omega, by omega, by omega, by omega, by simp; omega⟩))
  · exact .some ⟨_, _, _, rfl, by omega, by omega, by omega, by omega, by omega⟩
end Go.Proofs.YtojdflifijpffaaGreat

namespace Go.Proofs.YtojdflifijpffaaGreat
open Go.RowKit
set_option linter.unusedSimpArgs false
set_option linter.unusedVariables false
set_option maxRecDepth 100000

theorem byt_open {c : List Int} (h : ∀ z ∈ c, 0 ≤ z ∧ z < 256) (hl : Fits c) : ∃ b, sh_spec_l6Open (c, ()) = some (b, 0, ()) ∧ Byt b := by
  unfold sh_spec_l6Open
  dsimp only
  have rng : ∀ l : List Int, (∀ z ∈ l, 0 ≤ z ∧ z < 256) → ∀ i, 0 ≤ iz l i ∧ iz l i ≤ 255 := fun l hl i => by
    rcases Nat.lt_or_ge i l.length with hi | hi
    · have := hl (iz l i) (List.mem_of_getElem? (iz_get hi))
      omega
    · unfold iz
      rw [List.getD, List.getElem?_eq_none hi]
      simp
  by_cases h2 : c.length ≤ 2000
  · refine ⟨c, ?_, h2, rng c h⟩
    rw [nI_eq, decide_eq_false (show ¬ (2000 : Int) < c.length by omega)]
    rfl
  · refine ⟨c.take 2000, ?_, by simp; omega, rng _ fun z hz => h z (List.mem_of_mem_take hz)⟩
    rw [nI_eq, decide_eq_true (show (2000 : Int) < c.length by omega), bnd2_t (by omega) (by omega) (by omega)]
    rfl
def Cod (c : List Int) : Prop := (∀ z ∈ c, 0 ≤ z ∧ z < 256) ∧ Fits c
end Go.Proofs.YtojdflifijpffaaGreat
end
section
namespace Go.Proofs.YtojdflifijpffaaGreat
open Go.RowKit
set_option linter.unusedSimpArgs false
set_option linter.unusedVariables false
set_option maxRecDepth 100000

theorem cod_ofW {c : List Int} (hz : ∀ z ∈ c, 0 ≤ z ∧ z < 256) (h : decide ((1048576 : Int) < nI c.length) = false) : Cod c := ⟨hz, by have := of_decide_eq_false h; rw [nI_eq] at this; unfold Fits; omega⟩
set_option maxHeartbeats 1000000 in
theorem d_Event {b : List Int} (hB : Byt b) (w : Wd) {p : Int} (h0 : 0 ≤ p) (h1 : p ≤ 90000000) : Sat (sh_spec_l92Event (w.n, w.ls, w.up, w.sq, w.db, w.net, b, p, ())) fun r => ∃ k a p', r = (k, a, b, p', ()) ∧ p ≤ p' ∧ p' ≤ p + 6 := by
  unfold sh_spec_l92Event
  dsimp only
  refine Sat.pick hB (by omega) (by omega) (fun x1 _ _ _ => ?_)
  dsimp only
  refine Sat.pick hB (by omega) (by omega) (fun x2 _ _ _ => ?_)
  dsimp only
  refine Sat.pick hB (by omega) (by omega) (fun x3 _ _ _ => ?_)
  dsimp only
  repeat' first
    | exact .some ⟨_, _, _, rfl, by omega, by omega⟩
    | (refine Sat.pick hB (by omega) (by omega) (fun x _ _ _ => ?_); dsimp only)
    | (refine Sat.ite (fun _ => ?_) (fun _ => ?_))
theorem d_World {b : List Int} (hB : Byt b) {p : Int} (h0 : 0 ≤ p) (h1 : p ≤ 70000000) : Sat (sh_spec_l92World (b, p, ())) fun r => ∃ (W : Wd) (p' : Int), r = (W.n, W.ls, W.up, W.sq, W.db, W.net, b, p', ()) ∧ p ≤ p' ∧ p' ≤ p + 1000 ∧ WV W Nob := by
  unfold sh_spec_l92World
  dsimp only
  refine Sat.bnd (d_Graph hB h0 (by omega)) ?_
  rintro _ ⟨n, p1, ls, rfl, u1, u2, g⟩
  dsimp only
  have h14 := g.2.2.1
  refine sov (e_sWorldNew n ls (show Fits ls by unfold Fits; omega)) ?_
  have hg : gv n ls = true := decide_eq_true g
  have v := new_okI g
  dsimp only [wk7]
  unfold newV
  rw [if_pos hg]
  refine Sat.pick hB (by omega) (by omega) (fun x q0 q1 _ => ?_)
  have q1 := q1 (by omega)
  dsimp only
  refine Sat.bnd (R := fun r => match r with | .inl x => ∃ (W : Wd) (p' : Int), x = (b, p', 0, [], [], [], [], [], wt W) ∧ p1 + 1 ≤ p' ∧ p' ≤ p1 + 400 ∧ WV W Nob | .inr _ => False) ?_ ?_
  · refine Sat.count x.toNat (fun k t => ∃ (W : Wd) (p' : Int), t = (x, (k : Int), b, p', 0, [], [], [], [], [], wt W) ∧ p1 + 1 ≤ p' ∧ p' ≤ p1 + 1 + 6 * k ∧ WV W Nob) ?_ (Nat.zero_le _) (fuel_lt (by omega)) ⟨newW n ls, p1 + 1, rfl, by omega, by omega, v⟩
    rintro k t hk ⟨W, p', rfl, g1, g2, hW⟩
    unfold bo_spec_l92World_4
    dsimp only [wt]
    refine Sat.ite (fun hc => ?_) (fun hc => .some ⟨W, p', rfl, by omega, by omega, hW⟩)
    have hc := of_decide_eq_true hc
    refine Sat.bnd (d_Event hB W (by omega) (by omega)) ?_
    rintro _ ⟨kd, a, p2, rfl, u3, u4⟩
    dsimp only
    simp (disch := omega) only [w64]
    exact sov (e_l51Do hW kd a) (.some ⟨by omega, doW W kd a, p2, rfl, by omega, by omega, do_ok hW kd a⟩)
  · rintro (r | r) hr
    case inr => exact hr.elim
    obtain ⟨W, p', rfl, g1, g2, hW⟩ := hr
    exact .some ⟨W, p', rfl, by omega, by omega, hW⟩
theorem d_Lsa {b : List Int} (hB : Byt b) {p : Int} (h0 : 0 ≤ p) (h1 : p ≤ 90000000) : Sat (sh_spec_l91Lsa (b, p, ())) fun r => ∃ (o s p' : Int) (es : List En), r = (o, s, b, p', es, ()) ∧ p ≤ p' ∧ p' ≤ p + 30 ∧ es.length ≤ 8 := by
  unfold sh_spec_l91Lsa
  dsimp only
  refine Sat.pick hB (by omega) (by omega) (fun x1 _ _ _ => ?_)
  dsimp only
  refine Sat.pick hB (by omega) (by omega) (fun x2 _ _ _ => ?_)
  dsimp only
  refine Sat.bnd (R := fun r => match r with | .inl x => ∃ (p' o s : Int) (es : List En), x = (b, p', 0, 0, [], o, s, es, ()) ∧ p ≤ p' ∧ p' ≤ p + 20 ∧ es.length ≤ 6 | .inr _ => False) ?_ ?_
  · refine Sat.count 6 (fun k t => ∃ (p' o s : Int) (es : List En), t = ((k : Int), b, p', 0, 0, [], o, s, es, ()) ∧ p ≤ p' ∧ p' ≤ p + 2 + 2 * k ∧ es.length ≤ k) ?_ (Nat.zero_le _) (fuel_lt (by omega)) ⟨_, _, _, [], rfl, by omega, by omega, by simp⟩
    rintro k t hk ⟨p', o, s, es, rfl, g1, g2, g3⟩
    unfold bo_spec_l91Lsa_3
    dsimp only
    simp (disch := omega) only [w64, List.length_singleton]
    refine Sat.ite (fun hc => ?_) (fun hc => .some ⟨p', o, s, es, rfl, by omega, by omega, by omega⟩)
    have hc := of_decide_eq_true hc
    repeat' first
      | exact .some ⟨by omega, _, _, _, _, rfl, by omega, by omega, by (try simp only [List.length_append, List.length_singleton]); omega⟩
      | (refine Sat.pick hB (by omega) (by omega) (fun x _ _ _ => ?_); dsimp only)
      | (refine Sat.gd (decide_eq_true (by omega)) ?_)
      | (refine Sat.ite (fun _ => ?_) (fun _ => ?_))
  · rintro (r | r) hr
    case inr => exact hr.elim
    obtain ⟨p', o, s, es, rfl, g1, g2, g3⟩ := hr
    dsimp only
    simp only [List.length_singleton]
    refine Sat.pick hB (by omega) (by omega) (fun x _ _ _ => ?_)
    dsimp only
    refine Sat.ite (fun _ => ?_) (fun _ => ?_)
    · refine Sat.pick hB (by omega) (by omega) (fun y y0 y1 _ => ?_)
      have y1 := y1 (by omega)
      dsimp only
      exact Sat.gd (inR_t (by omega) (by simp; omega)) (.some ⟨_, _, _, _, rfl, by omega, by omega, by omega⟩)
    repeat' first
      | exact .some ⟨_, _, _, _, rfl, by omega, by omega, by (try simp only [List.length_append, List.length_singleton]); omega⟩
      | (refine Sat.pick hB (by omega) (by omega) (fun x _ _ _ => ?_); dsimp only)
      | (refine Sat.gd (decide_eq_true (by omega)) ?_)
      | (refine Sat.ite (fun _ => ?_) (fun _ => ?_))
theorem DbPut_sm (db : List Ls) (l : Ls) (h : SmD db) (hl : Sm l.e) (hn : db.length ≤ 1000) : Sat (sh_spec_DbPut (db, l.o, l.s, l.e, ())) fun r => SmD r.2.1 ∧ r.2.1.length ≤ db.length + 1 := by
  rw [e_DbPut db l h hl]
  refine .some ?_
  split
  · exact h.put hl (by omega)
  · exact ⟨⟨by unfold Sm; simp, fun l hl => by simp at hl⟩, by simp⟩
theorem d_Db {b : List Int} (hB : Byt b) {p : Int} (h0 : 0 ≤ p) (h1 : p ≤ 80000000) : Sat (sh_spec_l91Db (b, p, ())) fun r => ∃ (p' : Int) (d : List Ls), r = (b, p', d, ()) ∧ p ≤ p' ∧ p' ≤ p + 400 ∧ SmD d := by
  unfold sh_spec_l91Db
  dsimp only
  refine Sat.pick hB (by omega) (by omega) (fun x x0 x1 _ => ?_)
  have x1 := x1 (by omega)
  dsimp only
  refine Sat.bnd (R := fun r => match r with | .inl y => ∃ (p' : Int) (d : List Ls), y = (b, p', d, ()) ∧ p ≤ p' ∧ p' ≤ p + 300 ∧ SmD d ∧ d.length ≤ 8 | .inr _ => False) ?_ ?_
  · refine Sat.count x.toNat (fun k t => ∃ (p' : Int) (d : List Ls), t = (x, (k : Int), b, p', d, ()) ∧ p ≤ p' ∧ p' ≤ p + 1 + 30 * k ∧ SmD d ∧ d.length ≤ k) ?_ (Nat.zero_le _) (fuel_lt (by omega)) ⟨_, [], rfl, by omega, by omega, ⟨by unfold Sm; simp, fun l hl => by simp at hl⟩, by simp⟩
    rintro k t hk ⟨p', d, rfl, g1, g2, g3, g4⟩
    unfold bo_spec_l91Db_4
    dsimp only
    simp (disch := omega) only [w64]
    refine Sat.ite (fun hc => ?_) (fun hc => .some ⟨p', d, rfl, by omega, by omega, g3, by omega⟩)
    have hc := of_decide_eq_true hc
    refine Sat.bnd (d_Lsa hB (by omega) (by omega)) ?_
    rintro _ ⟨o, s, p2, es, rfl, u1, u2, u3⟩
    dsimp only
    refine Sat.bnd (DbPut_sm d ⟨o, s, es⟩ g3 (by unfold Sm; dsimp only; omega) (by omega)) ?_
    rintro r ⟨r1, r2⟩
    refine Sat.ite (fun _ => .some ⟨by omega, _, _, rfl, by omega, by omega, r1, by omega⟩) (fun _ => .some ⟨by omega, _, _, rfl, by omega, by omega, g3, by omega⟩)
  · rintro (r | r) hr
    case inr => exact hr.elim
    obtain ⟨p', d, rfl, g1, g2, g3, g4⟩ := hr
    dsimp only
    refine Sat.pick hB (by omega) (by omega) (fun y _ _ _ => ?_)
    dsimp only
    refine Sat.ite (fun _ => ?_) (fun _ => .some ⟨_, _, rfl, by omega, by omega, g3⟩)
    refine Sat.bnd (d_Lsa hB (by omega) (by omega)) ?_
    rintro _ ⟨o, s, p2, es, rfl, u1, u2, u3⟩
    dsimp only
    refine Sat.gd (decide_eq_true (by simp only [List.length_singleton]; omega)) (.some ⟨_, _, rfl, by omega, by omega, ?_⟩)
    refine ⟨by unfold Sm; simp only [List.length_append, List.length_singleton]; omega, fun l hl => ?_⟩
    rcases List.mem_append.1 hl with hl | hl
    · exact g3.2 l hl
    · obtain rfl := List.mem_singleton.1 hl
      unfold Sm; dsimp only; omega
theorem len_set {α : Type} {l : List α} {i n : Nat} {a : α} (h : l.length ≤ n) : (l.set i a).length ≤ n := by rw [List.length_set]; exact h
theorem len_app {α : Type} {l : List α} {n : Nat} {a : α} (h : l.length + 1 ≤ n) : (l ++ [a]).length ≤ n := by rw [List.length_append, List.length_singleton]; exact h
theorem SmW.ls' {w : Wd} (h : SmW w) (n : Int) {ls : List Lk} (hl : ls.length ≤ 1000) : SmW { w with n := n, ls := ls } := ⟨hl, h.up, h.sq, h.db, h.net, h.dbs, h.pks⟩
theorem SmW.up' {w : Wd} (h : SmW w) {up : List Bool} (hl : up.length ≤ 1000) : SmW { w with up := up } := ⟨h.ls, hl, h.sq, h.db, h.net, h.dbs, h.pks⟩
theorem SmW.sq' {w : Wd} (h : SmW w) {sq : List Int} (hl : sq.length ≤ 1000) : SmW { w with sq := sq } := ⟨h.ls, h.up, hl, h.db, h.net, h.dbs, h.pks⟩
theorem SmW.db' {w : Wd} (h : SmW w) {i : Nat} {d : List Ls} (hd : SmD d) : SmW { w with db := w.db.set i d } := by
  refine ⟨h.ls, h.up, h.sq, by show (w.db.set i d).length ≤ 1000; rw [List.length_set]; exact h.db, h.net, fun j hj => ?_, h.pks⟩
  have hj : j < w.db.length := by simpa using hj
  show SmD (dbx (w.db.set i d) j)
  rcases Nat.lt_or_ge i w.db.length with hi | hi
  · rw [dbx_set hi]
    split
    · exact hd
    · exact h.dbs j hj
  · rw [List.set_eq_of_length_le hi]
    exact h.dbs j hj
theorem SmW.net' {w : Wd} (h : SmW w) (hn : w.net.length ≤ 100) {t : Int} {l : Ls} (hl : Sm l.e) : SmW { w with net := w.net ++ [⟨t, l⟩] } := by
  refine ⟨h.ls, h.up, h.sq, h.db, by show (w.net ++ [_]).length ≤ 1000; rw [List.length_append, List.length_singleton]; omega, h.dbs, fun j hj => ?_⟩
  have hj : j < w.net.length + 1 := by simpa using hj
  show Sm (pkx (w.net ++ [_]) j).p.e
  rcases Nat.lt_or_ge j w.net.length with hi | hi
  · have : pkx (w.net ++ [⟨t, l⟩]) j = pkx w.net j := by unfold pkx; simp [List.getD, List.getElem?_append_left hi]
    rw [this]; exact h.pks j hi
  · obtain rfl : j = w.net.length := by omega
    have : pkx (w.net ++ [⟨t, l⟩]) w.net.length = ⟨t, l⟩ := by unfold pkx; simp [List.getD]
    rw [this]; exact hl
set_option maxHeartbeats 1000000 in
theorem d_Wrong {b : List Int} (hB : Byt b) {p : Int} (h0 : 0 ≤ p) (h1 : p ≤ 60000000) : Sat (sh_spec_l92Wrong (b, p, ())) fun r => ∃ (W : Wd) (p' : Int), r = (W.n, b, p', W.ls, W.up, W.sq, W.db, W.net, ()) ∧ SmW W ∧ p ≤ p' ∧ p' ≤ p + 5000 := by
  unfold sh_spec_l92Wrong
  dsimp only
  refine Sat.bnd (d_World hB h0 (by omega)) ?_
  rintro _ ⟨W, p1, rfl, u1, u2, v⟩
  dsimp only
  have hS := v.sm
  have hnn := v.nn
  have hsq := v.sq
  have hdb := v.db
  have hnet := v.net
  refine sov (e_l51Copy hS) ?_
  dsimp only
  refine Sat.pick hB (by omega) (by omega) (fun nd n0 n1 _ => ?_)
  have n1 := n1 (by omega)
  dsimp only
  refine Sat.pick hB (by omega) (by omega) (fun y _ _ _ => ?_)
  dsimp only
  refine Sat.ite (fun _ => ?_) (fun _ => ?_)
  · refine Sat.bnd (d_Spoilt hB (by omega) (by omega)) ?_
    rintro _ ⟨n, p2, ls, rfl, g1, g2, g3, g4, g5⟩
    exact .some ⟨{ W with n := n, ls := ls }, p2, rfl, hS.ls' n (by omega), by omega, by omega⟩
  refine Sat.ite (fun _ => ?_) (fun _ => ?_)
  · refine Sat.ite (fun hu => ?_) (fun _ => .some ⟨W, _, rfl, hS, by omega, by omega⟩)
    rw [nI_eq] at hu
    have hu := of_decide_eq_true hu
    simp only [nI_eq]
    refine Sat.pick hB (by omega) (by omega) (fun z z0 z1 _ => ?_)
    have z1 := z1 (by omega)
    dsimp only
    exact Sat.gd (inR_t (by omega) (by omega)) (Sat.gd (inR_t (by omega) (by omega)) (.some ⟨{ W with up := _ }, _, rfl, hS.up' (len_set hS.up), by omega, by omega⟩))
  refine Sat.ite (fun _ => ?_) (fun _ => ?_)
  · refine Sat.pick hB (by omega) (by omega) (fun z z0 z1 _ => ?_)
    dsimp only
    exact Sat.gd (inR_t (by omega) (by omega)) (.some ⟨{ W with sq := _ }, _, rfl, hS.sq' (len_set hS.sq), by omega, by omega⟩)
  refine Sat.ite (fun _ => ?_) (fun _ => ?_)
  · refine Sat.bnd (d_Db hB (by omega) (by omega)) ?_
    rintro _ ⟨p2, d, rfl, g1, g2, g3⟩
    dsimp only
    exact Sat.gd (inR_t (by omega) (by omega)) (.some ⟨{ W with db := _ }, _, rfl, hS.db' g3, by omega, by omega⟩)
  refine Sat.ite (fun _ => ?_) (fun _ => ?_)
  · refine Sat.pick hB (by omega) (by omega) (fun z z0 z1 _ => ?_)
    dsimp only
    refine Sat.bnd (d_Lsa hB (by omega) (by omega)) ?_
    rintro _ ⟨o, s, p2, es, rfl, g1, g2, g3⟩
    dsimp only
    exact Sat.gd (decide_eq_true (by simp only [List.length_singleton]; omega)) (.some ⟨{ W with net := _ }, _, rfl, hS.net' (by omega) (by unfold Sm; dsimp only; omega), by omega, by omega⟩)
  refine Sat.ite (fun _ => ?_) (fun _ => ?_)
  · simp only [at_db]
    refine Sat.gd (inR_t (by omega) (by omega)) (Sat.ite (fun hd => ?_) (fun _ => .some ⟨W, _, rfl, hS, by omega, by omega⟩))
    rw [nI_eq] at hd
    have hd := of_decide_eq_true hd
    have hi : nd.toNat < W.db.length := by omega
    have hs := hS.dbs nd.toNat hi
    refine Sat.gd (inR_t (by omega) (by omega)) (Sat.gd (bnd_t (by omega) (by omega) (by omega)) (Sat.gd (inR_t (by omega) (by omega)) (.some ⟨{ W with db := _ }, _, rfl, hS.db' ⟨?_, fun l hl => hs.2 l (List.mem_of_mem_drop (List.mem_of_mem_take hl))⟩, by omega, by omega⟩)))
    have := hs.1
    unfold Sm at this ⊢
    rw [List.length_take, List.length_drop]
    omega
  refine Sat.ite (fun _ => ?_) (fun _ => .some ⟨W, _, rfl, hS, by omega, by omega⟩)
  have := hS.up
  have hup := v.up
  have h14 := v.lsl
  exact Sat.gd (decide_eq_true (by simp only [List.length_singleton]; omega)) (.some ⟨{ W with up := _ }, _, rfl, hS.up' (len_app (by omega)), by omega, by omega⟩)
theorem d_WorldDo {c : List Int} (hc : Cod c) : Sat (sh_spec_DrawWorldDo (c, ())) fun r => ∃ (W : Wd) (k a : Int), r = (W.n, W.ls, W.up, W.sq, W.db, W.net, k, a, ()) ∧ SmW W := by
  unfold sh_spec_DrawWorldDo
  obtain ⟨b, e, hB⟩ := byt_open hc.1 hc.2
  refine sov e ?_
  dsimp only
  refine Sat.bnd (d_World hB (by omega) (by omega)) ?_
  rintro _ ⟨W, p1, rfl, u1, u2, hW⟩
  dsimp only
  refine Sat.bnd (d_Event hB W (by omega) (by omega)) ?_
  rintro _ ⟨k, a, p2, rfl, u3, u4⟩
  dsimp only
  refine Sat.pick hB (by omega) (by omega) (fun x _ _ _ => ?_)
  dsimp only
  refine Sat.ite (fun _ => ?_) (fun _ => .some ⟨W, k, a, rfl, hW.sm⟩)
  refine Sat.bnd (d_Wrong hB (by omega) (by omega)) ?_
  rintro _ ⟨W2, p', rfl, hW2, _, _⟩
  exact .some ⟨W2, k, a, rfl, hW2⟩
end Go.Proofs.YtojdflifijpffaaGreat
end
section
namespace Go.Proofs.YtojdflifijpffaaGreat
open Go.RowKit
set_option linter.unusedSimpArgs false
set_option linter.unusedVariables false
set_option maxRecDepth 100000

section
variable {w : Wd}
theorem doV_sm (w : Wd) (k a : Int) : SmW (doV w k a) := by
  unfold doV
  split
  · exact (do_ok (wv_t.1 (by assumption)) k a).sm
  · exact zW_sm
theorem doV_yes (h : WV w Nob) (k a : Int) : doV w k a = doW w k a := if_pos (wv_t.2 h)
end
end Go.Proofs.YtojdflifijpffaaGreat
end
section
namespace Go.Proofs.YtojdflifijpffaaGreat
open Go.RowKit
set_option linter.unusedSimpArgs false
set_option linter.unusedVariables false
set_option maxRecDepth 100000

theorem tmodW (a n : Nat) : Int.tmod (a : Int) (n : Int) = ((a % n : Nat) : Int) := by
  rw [Int.tmod_eq_emod_of_nonneg (by omega)]; rfl
section
variable {w : Wd}
end
end Go.Proofs.YtojdflifijpffaaGreat
end
section
namespace Go.Proofs.YtojdflifijpffaaGreat
open Go.RowKit
set_option linter.unusedSimpArgs false
set_option linter.unusedVariables false
set_option maxRecDepth 100000

section
variable {w : Wd}
theorem e_WorldTruth (h : WV w Nob) : sh_impl_WorldTruth (w.n, w.ls, w.up, w.sq, w.db, w.net, ()) = some (w.n, tru w.ls w.up, ()) := by
  have h14 := h.lsl
  unfold sh_impl_WorldTruth
  refine Sat.out (sov (e_WorldValid h.sm) ?_)
  dsimp only
  rw [wv_t.2 h]
  exact Sat.no rfl (sov (e_truth w h.up (by omega)) (.some rfl))
end
end Go.Proofs.YtojdflifijpffaaGreat
end
section
namespace Go.Proofs.YtojdflifijpffaaGreat
open Go.RowKit
set_option linter.unusedSimpArgs false
set_option linter.unusedVariables false
set_option maxRecDepth 100000

section
variable {w : Wd}
theorem turn_same {k : Nat} {u : Bool} (h : w.up.getD k false = u) : turnW w k u = w := by unfold turnW; rw [if_pos (.inl h)]
theorem twice_lose {k : Nat} (hk : k < w.net.length) (h16 : w.net.length < 16) : doW (doW w 5 (k : Int)) 4 (w.net.length : Int) = w := by
  have e1 : doW w 5 (k : Int) = { w with net := w.net ++ [pkx w.net k] } := by
    unfold doW
    simp [hk, h16]
  rw [e1]
  have hl : (w.net ++ [pkx w.net k]).length = w.net.length + 1 := by simp
  have hx : (w.net ++ [pkx w.net k]).eraseIdx w.net.length = w.net := by rw [List.eraseIdx_append_of_length_le (Nat.le_refl _)]; simp
  have e2 : ∀ v : Wd, v.net.length = w.net.length + 1 → doW v 4 (w.net.length : Int) = { v with net := v.net.eraseIdx w.net.length } := fun v hv => by
    unfold doW
    rw [if_neg (by omega), if_neg (by omega), if_pos ⟨rfl, by omega, by omega⟩, Int.toNat_natCast]
  rw [e2 _ hl]
  show { w with net := (w.net ++ [pkx w.net k]).eraseIdx w.net.length } = w
  rw [hx]
theorem lose_net {k : Nat} (hk : k < w.net.length) : doW w 4 (k : Int) = { w with net := w.net.eraseIdx k } := by
  unfold doW
  simp [hk]
theorem lose_len {k : Nat} (hk : k < w.net.length) : (w.net.eraseIdx k).length = w.net.length - 1 := by rw [List.length_eraseIdx]; simp [hk]
theorem sync_do' {i : Nat} (hi : i < w.up.length) : doW w 6 (i : Int) = syncW w i := by
  unfold doW
  simp [hi]
theorem hear_knows (h : WV w Nob) {t : Nat} (ht : t < w.db.length) {l : Ls} (hV : LsV l) : l.s ≤ seqD (dbx (hearW w t l).db t) l.o := by
  have so := (srt_iff.1 (h.ok t ht).srt)
  unfold hearW
  split
  · rename_i hc
    show l.s ≤ seqD (dbx (w.db.set t (putD (dbx w.db t) l)) t) l.o
    rw [dbx_set ht, if_pos rfl]
    unfold putD
    rw [if_pos hc]
    unfold seqD
    rw [(fd_some (putL_srt so l)).2 ⟨putL_mem.2 (.inl rfl), rfl⟩]
    exact Int.le_refl _
  · rename_i hc
    have := mt (putC_zero (db := dbx w.db t) (l := l) (by have := hV.2.2.1; omega)).2 hc
    omega
theorem hear_other {t n : Nat} (ht : t < w.db.length) {l : Ls} (hn : n ≠ t) : dbx (hearW w t l).db n = dbx w.db n := by
  unfold hearW
  split
  · show dbx (w.db.set t _) n = _
    rw [dbx_set ht, if_neg hn]
  · rfl
theorem hear_rest (t : Nat) (l : Ls) : (hearW w t l).up = w.up ∧ (hearW w t l).sq = w.sq ∧ (hearW w t l).db.length = w.db.length := by
  unfold hearW
  split
  · exact ⟨rfl, rfl, by simp⟩
  · exact ⟨rfl, rfl, rfl⟩
end
end Go.Proofs.YtojdflifijpffaaGreat
end
section
namespace Go.Proofs.YtojdflifijpffaaGreat
open Go.RowKit
set_option linter.unusedSimpArgs false
set_option linter.unusedVariables false
set_option maxRecDepth 100000

section
theorem law_WorldDownTwice {c d : List Int} (hz : ∀ z ∈ c, 0 ≤ z ∧ z < 256) : sh_laws_FnWorldDownTwice (c, d, ()) = some (true, ()) := by
  unfold sh_laws_FnWorldDownTwice
  dsimp only
  refine Sat.out (Sat.ite (fun _ => .some rfl) (fun hlen => ?_))
  have hc : Cod c := cod_ofW hz hlen
  refine Sat.ite (fun _ => .some rfl) (fun hld => ?_)
  refine Sat.bnd (d_WorldDo hc) ?_
  rintro _ ⟨W, k, a, rfl, hW⟩
  dsimp only
  refine sov (e_WorldDo hW k a) (sov (e_sWorldDo hW k a) ?_)
  dsimp only [wt]
  refine sov (e_sameWorld (doV_sm W k a)) (Sat.no rfl (sov (e_sWorldValid hW) ?_))
  dsimp only
  rcases hv : wv W with _ | _
  · exact Sat.gd rfl (sov (e_sameWorld (doV_sm W k a)) (.some rfl))
  have hV := wv_t.1 hv
  rw [doV_yes hV]
  refine Sat.no rfl ?_
  have h14 := hV.lsl
  have hup := hV.up
  simp only [nI_eq]
  refine Sat.ite (fun _ => sov (e_sameWorld (do_ok hV k a).sm) (.some rfl)) (fun h0 => ?_)
  have h0 := of_decide_eq_false h0
  refine Sat.gd (by simpa using h0) ?_
  rw [tmodW]
  have hm : d.length % W.up.length < W.up.length := Nat.mod_lt _ (by omega)
  generalize d.length % W.up.length = i at hm ⊢
  have hi : i < W.ls.length := by omega
  try simp only [toN, at_bo, at_lk]
  refine Sat.gd (inR_t (by omega) (by omega)) (Sat.ite (fun hu => ?_) (fun hu => ?_))
  · refine sov (e_WorldDo hW 2 (i : Int)) ?_
    dsimp only [wt]
    rw [doV_yes hV, do12 (.inr rfl), if_pos ⟨by omega, by omega⟩, toN, turn_same (u := decide ((2 : Int) = 2)) hu]
    exact sov (e_sameWorld hW) (.some rfl)
  · refine sov (e_WorldDo hW 1 (i : Int)) ?_
    dsimp only [wt]
    rw [doV_yes hV, do12 (.inl rfl), if_pos ⟨by omega, by omega⟩, toN, turn_same (u := decide ((1 : Int) = 2)) hu]
    exact sov (e_sameWorld hW) (.some rfl)
theorem law_WorldLose {c d : List Int} (hz : ∀ z ∈ c, 0 ≤ z ∧ z < 256) : sh_laws_FnWorldLose (c, d, ()) = some (true, ()) := by
  unfold sh_laws_FnWorldLose
  dsimp only
  refine Sat.out (Sat.ite (fun _ => .some rfl) (fun hlen => ?_))
  have hc : Cod c := cod_ofW hz hlen
  refine Sat.ite (fun _ => .some rfl) (fun hld => ?_)
  refine Sat.bnd (d_WorldDo hc) ?_
  rintro _ ⟨W, k, a, rfl, hW⟩
  dsimp only
  refine sov (e_WorldDo hW k a) (sov (e_sWorldDo hW k a) ?_)
  dsimp only [wt]
  refine sov (e_sameWorld (doV_sm W k a)) (Sat.no rfl (sov (e_sWorldValid hW) ?_))
  dsimp only
  rcases hv : wv W with _ | _
  · exact Sat.gd rfl (sov (e_sameWorld (doV_sm W k a)) (.some rfl))
  have hV := wv_t.1 hv
  rw [doV_yes hV]
  refine Sat.no rfl ?_
  have hnet := hV.net
  simp only [nI_eq]
  refine Sat.ite (fun _ => sov (e_sameWorld (do_ok hV k a).sm) (.some rfl)) (fun h0 => ?_)
  have h0 := of_decide_eq_false h0
  refine Sat.gd (by simpa using h0) ?_
  rw [tmodW]
  have hm : d.length % W.net.length < W.net.length := Nat.mod_lt _ (by omega)
  generalize d.length % W.net.length = i at hm ⊢
  try simp only [toN, at_pk]
  have hl := lose_len hm
  have fin : ∀ z : Int, z = (W.net.length : Int) - 1 → decide (((W.net.eraseIdx i).length : Int) = z) = true := fun z hz => decide_eq_true (by omega)
  refine sov (e_WorldDo hW 4 (i : Int)) ?_
  dsimp only [wt]
  rw [doV_yes hV, lose_net hm]
  refine Sat.ite (fun h16 => ?_) (fun h16 => ?_)
  · have h16 := of_decide_eq_true h16
    have hb : bo_laws_FnWorldLose_11 ((i : Int), W.n, W.ls, W.up, W.sq, W.db, W.net, W.n, W.ls, W.up, W.sq, W.db, W.net.eraseIdx i, ()) = some (.inl (W.n, W.ls, W.up, W.sq, W.db, W.net, W.n, W.n, W.ls, W.up, W.sq, W.db, W.net.eraseIdx i, W.ls, W.up, W.sq, W.db, W.net, ())) := by
      unfold bo_laws_FnWorldLose_11
      refine Sat.out (sov (e_WorldDo hW 5 (i : Int)) ?_)
      dsimp only [wt]
      rw [doV_yes hV, nI_eq]
      refine sov (e_WorldDo (do_ok hV 5 (i : Int)).sm 4 (W.net.length : Int)) ?_
      dsimp only [wt]
      rw [doV_yes (do_ok hV 5 (i : Int)), twice_lose hm (by omega)]
      exact .some rfl
    refine sov hb ?_
    dsimp only
    refine sov (e_sameWorld hW) (Sat.no rfl ?_)
    simp (disch := omega) only [w64]
    exact Sat.gd (fin _ rfl) (sov (e_sameWorld hW) (.some rfl))
  · simp (disch := omega) only [w64]
    exact Sat.gd (fin _ rfl) (sov (e_sameWorld hW) (.some rfl))
theorem law_WorldStale {c d : List Int} (hz : ∀ z ∈ c, 0 ≤ z ∧ z < 256) : sh_laws_FnWorldStale (c, d, ()) = some (true, ()) := by
  unfold sh_laws_FnWorldStale
  dsimp only
  refine Sat.out (Sat.ite (fun _ => .some rfl) (fun hlen => ?_))
  have hc : Cod c := cod_ofW hz hlen
  refine Sat.ite (fun _ => .some rfl) (fun hld => ?_)
  refine Sat.bnd (d_WorldDo hc) ?_
  rintro _ ⟨W, k, a, rfl, hW⟩
  dsimp only
  refine sov (e_WorldDo hW k a) (sov (e_sWorldDo hW k a) ?_)
  dsimp only [wt]
  refine sov (e_sameWorld (doV_sm W k a)) (Sat.no rfl (sov (e_sWorldValid hW) ?_))
  dsimp only
  rcases hv : wv W with _ | _
  · exact Sat.gd rfl (sov (e_sameWorld (doV_sm W k a)) (.some rfl))
  have hV := wv_t.1 hv
  rw [doV_yes hV]
  refine Sat.no rfl ?_
  have hnet := hV.net
  simp only [nI_eq]
  refine Sat.ite (fun _ => sov (e_sameWorld (do_ok hV k a).sm) (.some rfl)) (fun h0 => ?_)
  have h0 := of_decide_eq_false h0
  refine Sat.gd (by simpa using h0) ?_
  rw [tmodW]
  have hm : d.length % W.net.length < W.net.length := Nat.mod_lt _ (by omega)
  generalize d.length % W.net.length = i at hm ⊢
  try simp only [toN, at_pk]
  have hmm := pkx_mem hm
  have hP := hV.poss _ (.inr ⟨_, hmm, rfl⟩)
  have ht := hV.tgt _ hmm
  have hdb := hV.db
  obtain ⟨t, ht'⟩ := Int.eq_ofNat_of_zero_le ht.1
  have hv := hV.ok t (by omega)
  simp only [ht', toN, at_db, e_seqOf _ _ hv.sm.fits, Option.bind_some]
  refine Sat.gd (inR_t (by omega) (by omega)) (Sat.gd (inR_t (by omega) (by omega)) (Sat.ite (fun _ => .some rfl) (fun hs => ?_)))
  have hs := of_decide_eq_false hs
  have hsq : (pkx W.net i).p.s ≤ seqD (dbx W.db t) (pkx W.net i).p.o := by
    unfold sqOf at hs
    unfold seqD
    have := hP.1.2.2.1
    cases e : fd (dbx W.db t) (pkx W.net i).p.o with
    | none => rw [e] at hs; dsimp only at hs ⊢; omega
    | some l => rw [e] at hs; dsimp only at hs ⊢; omega
  refine sov (e_WorldDo hW 3 (i : Int)) ?_
  dsimp only [wt]
  rw [doV_yes hV, do3, if_pos ⟨by omega, by omega⟩, toN, ht', toN]
  have e1 : hearW { W with net := W.net.eraseIdx i } t (pkx W.net i).p = { W with net := W.net.eraseIdx i } := hear_stale (by have := hP.1.2.2.1; omega) hsq
  rw [e1]
  refine sov (e_WorldDo hW 4 (i : Int)) ?_
  dsimp only [wt]
  rw [doV_yes hV, lose_net hm]
  exact sov (e_sameWorld (lose_ok hV i).sm) (.some rfl)
theorem law_WorldSyncOthers {c d : List Int} (hz : ∀ z ∈ c, 0 ≤ z ∧ z < 256) : sh_laws_FnWorldSyncOthers (c, d, ()) = some (true, ()) := by
  unfold sh_laws_FnWorldSyncOthers
  dsimp only
  refine Sat.out (Sat.ite (fun _ => .some rfl) (fun hlen => ?_))
  have hc : Cod c := cod_ofW hz hlen
  refine Sat.ite (fun _ => .some rfl) (fun hld => ?_)
  refine Sat.bnd (d_WorldDo hc) ?_
  rintro _ ⟨W, k, a, rfl, hW⟩
  dsimp only
  refine sov (e_WorldDo hW k a) (sov (e_sWorldDo hW k a) ?_)
  dsimp only [wt]
  refine sov (e_sameWorld (doV_sm W k a)) (Sat.no rfl (sov (e_sWorldValid hW) ?_))
  dsimp only
  rcases hv : wv W with _ | _
  · exact Sat.gd rfl (sov (e_sameWorld (doV_sm W k a)) (.some rfl))
  have hV := wv_t.1 hv
  rw [doV_yes hV]
  refine Sat.no rfl ?_
  have h14 := hV.lsl
  have hup := hV.up
  simp only [nI_eq]
  refine Sat.ite (fun _ => sov (e_sameWorld (do_ok hV k a).sm) (.some rfl)) (fun h0 => ?_)
  have h0 := of_decide_eq_false h0
  refine Sat.gd (by simpa using h0) ?_
  rw [tmodW]
  have hm : d.length % W.up.length < W.up.length := Nat.mod_lt _ (by omega)
  generalize d.length % W.up.length = i at hm ⊢
  have hi : i < W.ls.length := by omega
  try simp only [toN, at_bo, at_lk]
  refine sov (e_WorldDo hW 6 (i : Int)) ?_
  dsimp only [wt]
  rw [doV_yes hV, sync_do' hm]
  have hs := sync_same W i
  have hd := sync_dbx hV hi
  have hS : WV (syncW W i) Nob := by have := do_ok hV 6 (i : Int); rwa [sync_do' hm] at this
  have hdb := hV.db
  have hSl := hS.db
  have ho := hV.g.ok (lk_mem hi)
  unfold okL at ho
  rw [hs.2.2.2.1, hs.2.2.2.2.1]
  have hsl := hs.2.2.2.2.2
  generalize (syncW W i).n = N at *
  generalize (syncW W i).ls = Ls' at *
  generalize (syncW W i).up = Up' at *
  refine Sat.bnd (R := fun r => match r with | .inl x => x = (W.n, W.ls, W.up, W.sq, W.db, W.net, N, Ls', Up', W.sq, (syncW W i).db, W.net, ()) | .inr _ => False) ?_ ?_
  · refine Sat.count W.db.length (fun k t => t = ((i : Int), (k : Int), W.n, W.ls, W.up, W.sq, W.db, W.net, N, Ls', Up', W.sq, (syncW W i).db, W.net, ())) ?_ (Nat.zero_le _) (fuel_lt (by have := hV.nn; omega)) rfl
    rintro k t hk rfl
    have h8 := hV.nn
    by_cases hkl : k < W.db.length
    · simp (disch := omega) only [bo_laws_FnWorldSyncOthers_11, nI_eq, toN, at_db, at_lk, w64]
      refine Sat.gd (decide_eq_true (by omega)) (Sat.gd (inR_t (by omega) (by omega)) (Sat.ite (fun ha => Sat.gd (inR_t (by omega) (by omega)) (Sat.ite (fun hb => ?_) (fun hb => .some ⟨hkl, rfl⟩))) (fun ha => .some ⟨hkl, rfl⟩)))
      have e : dbx (syncW W i).db k = dbx W.db k := by
        rw [hd k, if_neg]
        rintro ⟨_, q⟩
        simp only [Bool.not_eq_true', decide_eq_false_iff_not] at ha hb
        rcases q with q | q
        · exact ha (by omega)
        · exact hb (by omega)
      rw [e]
      exact Sat.gd (inR_t (by omega) (by omega)) (Sat.gd (inR_t (by omega) (by omega)) (sov (e_sameDbSelf _ (hV.ok k hkl).sm) (Sat.no rfl (.some ⟨hkl, rfl⟩))))
    · obtain rfl : k = W.db.length := by omega
      unfold bo_laws_FnWorldSyncOthers_11
      simp only [nI_eq]
      exact Sat.no (decide_eq_false (by omega)) (.some rfl)
  · rintro (r | r) hr
    case inr => exact hr.elim
    obtain rfl := hr
    exact Sat.gd (decide_eq_true rfl) (sov (e_sameInts _ (show Fits W.sq by have := hW.sq; unfold Fits; omega)) (.some rfl))
end
end Go.Proofs.YtojdflifijpffaaGreat
end
section
namespace Go.Proofs.YtojdflifijpffaaGreat
open Go.RowKit
set_option linter.unusedSimpArgs false
set_option linter.unusedVariables false
set_option maxRecDepth 100000

section
theorem seqD_mem {db : List Ls} (hs : SrtP db) {l : Ls} (hl : l ∈ db) : seqD db l.o = l.s := by unfold seqD; rw [(fd_some hs).2 ⟨hl, rfl⟩]
theorem e_missNone {db other : List Ls} (hd : DbV db) (ho : DbV other) (h : ∀ o, seqD other o ≤ seqD db o) : sh_impl_DbMissing (db, other, ()) = some ([], ()) := by
  have sd := hd.sm
  have so := ho.sm
  have ld := hd.len
  have lo := ho.len
  unfold sh_impl_DbMissing
  refine Sat.out (sov (e_DbValid db sd.fits sd.fe) ?_)
  dsimp only
  rw [show dbv db = true from decide_eq_true hd]
  refine Sat.no rfl (sov (e_DbValid other so.fits so.fe) ?_)
  dsimp only
  rw [show dbv other = true from decide_eq_true ho]
  refine Sat.no rfl ?_
  have key : sh_impl_missing (db, other, ()) = some ([], ()) := by
    unfold sh_impl_missing
    refine Sat.out (Sat.bnd (R := fun r => match r with | .inl x => x = ([], ()) | .inr _ => False) ?_ ?_)
    · simp only [nI_eq]
      refine Sat.count other.length (fun k t => t = (db, other, (other.length : Int), (k : Int), [], ())) ?_ (Nat.zero_le _) (fuel_lt (by omega)) rfl
      rintro k t hk rfl
      by_cases hlt : k < other.length
      · have hm := lsa_mem hlt
        have q := h (lsa other k).o
        rw [seqD_mem ho.so hm] at q
        have h1 := ((dbV_iff.1 ho).1 _ hm).2.2.1
        obtain ⟨i, hp, e⟩ := e_dbPlace db (lsa other k).o hd.srt (by omega)
        have hf := fd_place hd.srt hp
        unfold seqD at q
        cases ha : hasAt db (lsa other k).o i with
        | false =>
          rw [ha] at hf
          rw [hf] at q
          simp only [Bool.false_eq_true, if_false] at q
          omega
        | true =>
          rw [ha] at hf e
          rw [hf] at q
          simp only [if_true] at q
          have hi := (of_decide_eq_true ha).1
          simp (disch := omega) only [bo_impl_missing_3, at_ls, toN, w64]
          refine Sat.gd (decide_eq_true (by omega)) (Sat.gd (inR_t (by omega) (by omega)) (sov e ?_))
          dsimp only
          exact Sat.no rfl (Sat.gd (inR_t (by omega) (by omega)) (Sat.no (decide_eq_false (by rw [toN]; omega)) (.some ⟨hlt, rfl⟩)))
      · obtain rfl : k = other.length := by omega
        unfold bo_impl_missing_3
        exact Sat.no (decide_eq_false (by dsimp only; omega)) (.some rfl)
    · rintro (r | r) hr
      case inr => exact hr.elim
      obtain rfl := hr
      exact .some rfl
  exact sov key (.some rfl)
theorem law_WorldOneDb {c d : List Int} (hz : ∀ z ∈ c, 0 ≤ z ∧ z < 256) : sh_laws_FnWorldOneDb (c, d, ()) = some (true, ()) := by
  unfold sh_laws_FnWorldOneDb
  dsimp only
  refine Sat.out (Sat.ite (fun _ => .some rfl) (fun hlen => ?_))
  have hc : Cod c := cod_ofW hz hlen
  refine Sat.ite (fun _ => .some rfl) (fun hld => ?_)
  refine Sat.bnd (d_WorldDo hc) ?_
  rintro _ ⟨W, k, a, rfl, hW⟩
  dsimp only
  refine sov (e_WorldDo hW k a) (sov (e_sWorldDo hW k a) ?_)
  dsimp only [wt]
  refine sov (e_sameWorld (doV_sm W k a)) (Sat.no rfl (sov (e_sWorldValid hW) ?_))
  dsimp only
  rcases hv : wv W with _ | _
  · exact Sat.gd rfl (sov (e_sameWorld (doV_sm W k a)) (.some rfl))
  have hV := wv_t.1 hv
  rw [doV_yes hV]
  refine Sat.no rfl ?_
  have hnet := hV.net
  simp only [nI_eq]
  refine Sat.ite (fun _ => sov (e_sameWorld (do_ok hV k a).sm) (.some rfl)) (fun h0 => ?_)
  have h0 := of_decide_eq_false h0
  refine Sat.gd (by simpa using h0) ?_
  rw [tmodW]
  have hm : d.length % W.net.length < W.net.length := Nat.mod_lt _ (by omega)
  generalize d.length % W.net.length = i at hm ⊢
  try simp only [toN, at_pk]
  have hmm := pkx_mem hm
  have hP := hV.poss _ (.inr ⟨_, hmm, rfl⟩)
  have ht := hV.tgt _ hmm
  have hdb := hV.db
  have h8 := hV.nn
  obtain ⟨t, ht'⟩ := Int.eq_ofNat_of_zero_le ht.1
  have hL := lose_ok hV i
  have hD := do_ok hV 3 (i : Int)
  refine sov (e_WorldDo hW 3 (i : Int)) ?_
  dsimp only [wt]
  rw [doV_yes hV]
  have e3 : doW W 3 (i : Int) = hearW { W with net := W.net.eraseIdx i } t (pkx W.net i).p := by
    rw [do3, if_pos ⟨by omega, by omega⟩, toN, ht', toN]
  rw [e3] at hD ⊢
  have tl : t < W.db.length := by omega
  have ho : ∀ n, n ≠ t → dbx (hearW { W with net := W.net.eraseIdx i } t (pkx W.net i).p).db n = dbx W.db n := fun n hn => hear_other (w := { W with net := W.net.eraseIdx i }) tl hn
  have hr : (hearW { W with net := W.net.eraseIdx i } t (pkx W.net i).p).up = W.up ∧ (hearW { W with net := W.net.eraseIdx i } t (pkx W.net i).p).sq = W.sq ∧ (hearW { W with net := W.net.eraseIdx i } t (pkx W.net i).p).db.length = W.db.length := hear_rest (w := { W with net := W.net.eraseIdx i }) t (pkx W.net i).p
  have hkn : (pkx W.net i).p.s ≤ seqD (dbx (hearW { W with net := W.net.eraseIdx i } t (pkx W.net i).p).db t) (pkx W.net i).p.o := hear_knows hL (t := t) tl hP.1
  generalize hearW { W with net := W.net.eraseIdx i } t (pkx W.net i).p = D at hD ho hr hkn ⊢
  obtain ⟨r1, r2, r3⟩ := hr
  rw [r1, r2]
  refine Sat.bnd (R := fun r => match r with | .inl x => x = ((i : Int), W.n, W.ls, W.up, W.sq, W.db, W.net, D.n, D.ls, W.up, W.sq, D.db, D.net, ()) | .inr _ => False) ?_ ?_
  · refine Sat.count W.db.length (fun k t => t = ((i : Int), (k : Int), W.n, W.ls, W.up, W.sq, W.db, W.net, D.n, D.ls, W.up, W.sq, D.db, D.net, ())) ?_ (Nat.zero_le _) (fuel_lt (by omega)) rfl
    rintro k x hk rfl
    by_cases hkl : k < W.db.length
    · simp (disch := omega) only [bo_laws_FnWorldOneDb_11, nI_eq, toN, at_db, at_pk, w64]
      refine Sat.gd (decide_eq_true (by omega)) (Sat.gd (inR_t (by omega) (by omega)) (Sat.ite (fun ha => ?_) (fun ha => .some ⟨hkl, rfl⟩)))
      simp only [Bool.not_eq_true', decide_eq_false_iff_not] at ha
      rw [ho k (by omega)]
      exact Sat.gd (inR_t (by omega) (by omega)) (Sat.gd (inR_t (by omega) (by omega)) (sov (e_sameDbSelf _ (hV.ok k hkl).sm) (Sat.no rfl (.some ⟨hkl, rfl⟩))))
    · obtain rfl : k = W.db.length := by omega
      unfold bo_laws_FnWorldOneDb_11
      simp only [nI_eq]
      exact Sat.no (decide_eq_false (by omega)) (.some rfl)
  · rintro (r | r) hr
    case inr => exact hr.elim
    obtain rfl := hr
    have hv := hD.ok t (by omega)
    have h1 := hP.1.2.2.1
    simp only [toN, at_pk, at_db]
    refine sov (e_sameBools _ (show Fits W.up by have := hW.up; unfold Fits; omega)) (Sat.gd rfl (sov (e_sameInts _ (show Fits W.sq by have := hW.sq; unfold Fits; omega)) (Sat.gd rfl ?_)))
    rw [ht', toN]
    refine Sat.gd (inR_t (by omega) (by omega)) (Sat.gd (inR_t (by omega) (by omega)) (Sat.gd (inR_t (by omega) (by omega)) (Sat.gd (inR_t (by omega) (by omega)) (sov (e_seqOf _ _ hv.sm.fits) (.some ?_)))))
    have : (pkx W.net i).p.s ≤ sqOf (dbx D.db t) (pkx W.net i).p.o := by
      unfold seqD at hkn
      unfold sqOf
      cases e : fd (dbx D.db t) (pkx W.net i).p.o with
      | none => rw [e] at hkn; dsimp only at hkn ⊢; omega
      | some l => rw [e] at hkn; exact hkn
    rw [decide_eq_true this]
theorem law_WorldSync {c d : List Int} (hz : ∀ z ∈ c, 0 ≤ z ∧ z < 256) : sh_laws_FnWorldSync (c, d, ()) = some (true, ()) := by
  unfold sh_laws_FnWorldSync
  dsimp only
  refine Sat.out (Sat.ite (fun _ => .some rfl) (fun hlen => ?_))
  have hc : Cod c := cod_ofW hz hlen
  refine Sat.ite (fun _ => .some rfl) (fun hld => ?_)
  refine Sat.bnd (d_WorldDo hc) ?_
  rintro _ ⟨W, k, a, rfl, hW⟩
  dsimp only
  refine sov (e_WorldDo hW k a) (sov (e_sWorldDo hW k a) ?_)
  dsimp only [wt]
  refine sov (e_sameWorld (doV_sm W k a)) (Sat.no rfl (sov (e_sWorldValid hW) ?_))
  dsimp only
  rcases hv : wv W with _ | _
  · exact Sat.gd rfl (sov (e_sameWorld (doV_sm W k a)) (.some rfl))
  have hV := wv_t.1 hv
  rw [doV_yes hV]
  refine Sat.no rfl ?_
  have h14 := hV.lsl
  have hup := hV.up
  simp only [nI_eq]
  refine Sat.ite (fun _ => sov (e_sameWorld (do_ok hV k a).sm) (.some rfl)) (fun h0 => ?_)
  have h0 := of_decide_eq_false h0
  refine Sat.gd (by simpa using h0) ?_
  rw [tmodW]
  have hm : d.length % W.up.length < W.up.length := Nat.mod_lt _ (by omega)
  generalize d.length % W.up.length = i at hm ⊢
  have hi : i < W.ls.length := by omega
  try simp only [toN, at_bo, at_lk]
  refine sov (e_WorldDo hW 6 (i : Int)) ?_
  dsimp only [wt]
  rw [doV_yes hV, sync_do' hm]
  have hs := sync_same W i
  have hd := sync_dbx hV hi
  have hS : WV (syncW W i) Nob := by have := do_ok hV 6 (i : Int); rwa [sync_do' hm] at this
  have hdb := hV.db
  have hSl := hs.2.2.2.2.2
  have ho := hV.g.ok (lk_mem hi)
  unfold okL at ho
  refine Sat.gd (inR_t (by omega) (by omega)) (Sat.ite (fun hu => ?_) (fun hu => ?_))
  · have hu : W.up.getD i false = false := by simpa using hu
    have e : syncW W i = W := by unfold syncW; rw [if_neg (by rw [hu]; simp)]
    rw [e]
    exact sov (e_sameWorld hW) (.some rfl)
  · have hu : W.up.getD i false = true := by simpa using hu
    obtain ⟨a, ha⟩ := Int.eq_ofNat_of_zero_le (show 0 ≤ (lk W.ls i).a by omega)
    obtain ⟨b, hb⟩ := Int.eq_ofNat_of_zero_le (show 0 ≤ (lk W.ls i).b by omega)
    rw [ha, hb] at ho hd ⊢
    have h8 := hV.nn
    have va := hV.ok a (by omega)
    have vb := hV.ok b (by omega)
    have ea : dbx (syncW W i).db a = mergeD (dbx W.db a) (dbx W.db b) := by rw [hd a, if_pos ⟨hu, .inl rfl⟩]; rfl
    have eb : dbx (syncW W i).db b = mergeD (dbx W.db a) (dbx W.db b) := by rw [hd b, if_pos ⟨hu, .inr rfl⟩]; rfl
    have vm := hS.ok a (by omega)
    rw [ea] at vm
    have ps : ∀ {x : List Ls}, DbV x → ∀ l ∈ x, 0 ≤ l.s := fun hx l hl => by have := ((dbV_iff.1 hx).1 _ hl).2.2.1; omega
    have sq := seq_merge va.so vb.so (ps vb) (ps va)
    simp only [toN, at_db, ea, eb]
    refine Sat.gd (inR_t (by omega) (by omega)) (Sat.gd (inR_t (by omega) (by omega)) (Sat.gd (inR_t (by omega) (by omega)) (Sat.gd (inR_t (by omega) (by omega)) (sov (e_sameDbSelf _ vm.sm) (Sat.gd rfl ?_)))))
    refine Sat.gd (inR_t (by omega) (by omega)) (Sat.gd (inR_t (by omega) (by omega)) (sov (e_missNone vm va fun o => by rw [sq o]; omega) (Sat.gd rfl ?_)))
    exact Sat.gd (inR_t (by omega) (by omega)) (Sat.gd (inR_t (by omega) (by omega)) (sov (e_missNone vm vb fun o => by rw [sq o]; omega) (.some rfl)))
theorem turn_n (w : Wd) (k : Nat) (u : Bool) : (turnW w k u).n = w.n := by
  unfold turnW
  split <;> rfl
theorem law_WorldRepaired {c d : List Int} (hz : ∀ z ∈ c, 0 ≤ z ∧ z < 256) : sh_laws_FnWorldRepaired (c, d, ()) = some (true, ()) := by
  unfold sh_laws_FnWorldRepaired
  dsimp only
  refine Sat.out (Sat.ite (fun _ => .some rfl) (fun hlen => ?_))
  have hc : Cod c := cod_ofW hz hlen
  refine Sat.ite (fun _ => .some rfl) (fun hld => ?_)
  refine Sat.bnd (d_WorldDo hc) ?_
  rintro _ ⟨W, k, a, rfl, hW⟩
  dsimp only
  refine sov (e_WorldDo hW k a) (sov (e_sWorldDo hW k a) ?_)
  dsimp only [wt]
  refine sov (e_sameWorld (doV_sm W k a)) (Sat.no rfl (sov (e_sWorldValid hW) ?_))
  dsimp only
  rcases hv : wv W with _ | _
  · exact Sat.gd rfl (sov (e_sameWorld (doV_sm W k a)) (.some rfl))
  have hV := wv_t.1 hv
  rw [doV_yes hV]
  refine Sat.no rfl ?_
  have h14 := hV.lsl
  have hup := hV.up
  simp only [nI_eq]
  refine Sat.ite (fun _ => sov (e_sameWorld (do_ok hV k a).sm) (.some rfl)) (fun h0 => ?_)
  have h0 := of_decide_eq_false h0
  refine Sat.gd (by simpa using h0) ?_
  rw [tmodW]
  have hm : d.length % W.up.length < W.up.length := Nat.mod_lt _ (by omega)
  generalize d.length % W.up.length = i at hm ⊢
  have hi : i < W.ls.length := by omega
  try simp only [toN, at_bo, at_lk]
  have arm : ∀ {w : Wd} (h : WV w Nob) (u : Bool), i < w.up.length → (turnW w i u).up.length = w.up.length := fun {w} h u hlt => by
    rcases (turn_up (w := w) i u).2 with e | e <;> rw [e]
    simp
  refine Sat.gd (inR_t (by omega) (by omega)) (Sat.ite (fun hu => .some rfl) (fun hu => ?_))
  have hu : W.up.getD i false = true := by simpa using hu
  refine sov (e_WorldDo hW 1 (i : Int)) ?_
  dsimp only [wt]
  have hD := do_ok hV 1 (i : Int)
  have e1 : doW W 1 (i : Int) = turnW W i false := by rw [do12 (.inl rfl), if_pos ⟨by omega, by omega⟩, toN]; rfl
  rw [doV_yes hV, e1]
  rw [e1] at hD
  have l1 := arm hV false (by omega)
  refine sov (e_WorldDo hD.sm 2 (i : Int)) ?_
  dsimp only [wt]
  have hE := do_ok hD 2 (i : Int)
  have e2 : doW (turnW W i false) 2 (i : Int) = turnW (turnW W i false) i true := by rw [do12 (.inr rfl), if_pos ⟨by omega, by omega⟩, toN]; rfl
  rw [doV_yes hD, e2]
  rw [e2] at hE
  have l2 := arm hD true (by omega)
  have tb := turn_back (w := W) (k := i) (by omega) hu
  have en := turn_n (turnW W i false) i true
  have en' := turn_n W i false
  generalize turnW (turnW W i false) i true = F at *
  generalize turnW W i false = D at *
  refine Sat.gd (inR_t (by omega) (by omega)) (Sat.gd (inR_t (by omega) (by omega)) (Sat.ite (fun _ => .some rfl) (fun hne => ?_)))
  have hne : F.up.getD i false ≠ D.up.getD i false := by simpa using hne
  refine sov (e_WorldTruth hE) (sov (e_WorldTruth hV) ?_)
  dsimp only
  rw [tb hne, en, en']
  have g := tru_gv hV.g W.up
  exact sov (e_sameGraph _ _ (show Fits (tru W.ls W.up) by have := g.2.2.1; unfold Fits; omega)) (.some rfl)
end
end Go.Proofs.YtojdflifijpffaaGreat
end
