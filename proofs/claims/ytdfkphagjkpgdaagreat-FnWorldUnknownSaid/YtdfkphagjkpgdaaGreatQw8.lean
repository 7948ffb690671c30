/- Part 8 of the proof: PeD PeE. -/
import Derived.Test.YtdfkphagjkpgdaaGreatQw7
set_option linter.unusedSimpArgs false
set_option linter.unusedVariables false
section
namespace Go.Proofs.YtdfkphagjkpgdaaGreat
open Go.RowKit
set_option linter.unusedSimpArgs false
set_option linter.unusedVariables false
set_option maxRecDepth 100000

section
variable {w : Wd}
theorem doV_sm (w : Wd) (k a : Int) : SmW (doV w k a) := by
  unfold doV
  split
  · exact (do_ok (wv_t.1 (by assumption)) k a).sm
  · exact zW_sm
theorem calV_sm (w : Wd) : SmW (calV w) := by
  unfold calV
  split
  · exact (calW_ok (wv_t.1 (by assumption))).sm
  · exact zW_sm
theorem doV_yes (h : WV w Nob) (k a : Int) : doV w k a = doW w k a := if_pos (wv_t.2 h)
theorem calV_yes (h : WV w Nob) : calV w = calW w := if_pos (wv_t.2 h)
theorem law_WorldKeeps {c : List Int} (hz : ∀ z ∈ c, 0 ≤ z ∧ z < 256) : sh_laws_FnWorldKeeps (c, ()) = some (true, ()) := by
  unfold sh_laws_FnWorldKeeps
  dsimp only
  refine Sat.out (Sat.ite (fun _ => .some rfl) (fun hlen => ?_))
  have hc : Cod c := cod_ofW hz hlen
  
  refine Sat.bnd (d_WorldDo hc) ?_
  rintro _ ⟨W, k, a, rfl, hW⟩
  dsimp only
  refine sov (e_WorldDo hW k a) (sov (e_sWorldDo hW k a) ?_)
  dsimp only [wt]
  refine sov (e_sameWorld (doV_sm W k a)) (Sat.no rfl (sov (e_sWorldValid hW) ?_))
  dsimp only
  rcases hv : wv W with _ | _
  · exact Sat.gd rfl (sov (e_sameWorld (doV_sm W k a)) (.some rfl))
  have hV := wv_t.1 hv
  rw [doV_yes hV]
  refine Sat.no rfl ?_
  exact sov (e_WorldValid (do_ok hV k a).sm) (.some (by rw [wv_t.2 (do_ok hV k a)]))
theorem law_CalmKeeps {c : List Int} (hz : ∀ z ∈ c, 0 ≤ z ∧ z < 256) : sh_laws_FnCalmKeeps (c, ()) = some (true, ()) := by
  unfold sh_laws_FnCalmKeeps
  dsimp only
  refine Sat.out (Sat.ite (fun _ => .some rfl) (fun hlen => ?_))
  have hc : Cod c := cod_ofW hz hlen
  
  refine Sat.bnd (d_WorldCalm hc) ?_
  rintro _ ⟨W, rfl, hW⟩
  dsimp only [wt]
  refine sov (e_WorldCalm hW) (sov (e_sWorldCalm hW) ?_)
  dsimp only [wt]
  refine sov (e_sameWorld (calV_sm W)) (Sat.no rfl (sov (e_sWorldValid hW) ?_))
  dsimp only
  rcases hv : wv W with _ | _
  · exact Sat.gd rfl (sov (e_sameWorld (calV_sm W)) (.some rfl))
  have hV := wv_t.1 hv
  rw [calV_yes hV]
  refine Sat.no rfl ?_
  have hs := calW_same W
  refine sov (e_WorldValid (calW_ok hV).sm) ?_
  dsimp only
  rw [wv_t.2 (calW_ok hV), hs.1, hs.2.1, hs.2.2.1, hs.2.2.2.1]
  have h1 := hW.ls
  have h2 := hW.up
  have h3 := hW.sq
  exact Sat.gd rfl (sov (e_sameGraph _ _ (show Fits W.ls by unfold Fits; omega)) (Sat.gd rfl (sov (e_sameBools _ (show Fits W.up by unfold Fits; omega)) (Sat.gd rfl (sov (e_sameInts _ (show Fits W.sq by unfold Fits; omega)) (.some rfl))))))
theorem law_CalmTwice {c : List Int} (hz : ∀ z ∈ c, 0 ≤ z ∧ z < 256) : sh_laws_FnCalmTwice (c, ()) = some (true, ()) := by
  unfold sh_laws_FnCalmTwice
  dsimp only
  refine Sat.out (Sat.ite (fun _ => .some rfl) (fun hlen => ?_))
  have hc : Cod c := cod_ofW hz hlen
  
  refine Sat.bnd (d_WorldCalm hc) ?_
  rintro _ ⟨W, rfl, hW⟩
  dsimp only [wt]
  refine sov (e_WorldCalm hW) (sov (e_sWorldCalm hW) ?_)
  dsimp only [wt]
  refine sov (e_sameWorld (calV_sm W)) (Sat.no rfl (sov (e_sWorldValid hW) ?_))
  dsimp only
  rcases hv : wv W with _ | _
  · exact Sat.gd rfl (sov (e_sameWorld (calV_sm W)) (.some rfl))
  have hV := wv_t.1 hv
  rw [calV_yes hV]
  refine Sat.no rfl ?_
  have hC := calW_ok hV
  have h1 := hV.g.1
  obtain ⟨N, hN⟩ := Int.eq_ofNat_of_zero_le (show 0 ≤ W.n by omega)
  refine sov (e_WorldCalm hC.sm) ?_
  dsimp only [wt]
  rw [calV_yes hC, calm_twice hV hN]
  exact sov (e_sameWorld hC.sm) (.some rfl)
theorem law_WorldUnknown {c d : List Int} (hz : ∀ z ∈ c, 0 ≤ z ∧ z < 256) : sh_laws_FnWorldUnknown (c, d, ()) = some (true, ()) := by
  unfold sh_laws_FnWorldUnknown
  dsimp only
  refine Sat.out (Sat.ite (fun _ => .some rfl) (fun hlen => ?_))
  have hc : Cod c := cod_ofW hz hlen
  refine Sat.ite (fun _ => .some rfl) (fun hld => ?_)
  refine Sat.bnd (d_WorldDo hc) ?_
  rintro _ ⟨W, k, a, rfl, hW⟩
  dsimp only
  refine sov (e_WorldDo hW k a) (sov (e_sWorldDo hW k a) ?_)
  dsimp only [wt]
  refine sov (e_sameWorld (doV_sm W k a)) (Sat.no rfl (sov (e_sWorldValid hW) ?_))
  dsimp only
  rcases hv : wv W with _ | _
  · exact Sat.gd rfl (sov (e_sameWorld (doV_sm W k a)) (.some rfl))
  have hV := wv_t.1 hv
  rw [doV_yes hV]
  refine Sat.no rfl ?_
  rw [nI_eq] at hld
  have hld := of_decide_eq_false hld
  have h14 := hV.lsl
  have hup := hV.up
  have hnet := hV.net
  simp only [nI_eq]
  have t5 := tmod_rng (a := (d.length : Int)) (b := 5) (by omega) (by omega)
  have t3 := tmod_rng (a := (d.length : Int)) (b := 3) (by omega) (by omega)
  generalize Int.tmod (d.length : Int) 5 = x5 at t5 ⊢
  generalize Int.tmod (d.length : Int) 3 = x3 at t3 ⊢
  simp (disch := omega) only [w64]
  refine sov (e_WorldDo hW _ _) ?_
  dsimp only [wt]
  refine sov (e_WorldDo hW _ _) ?_
  dsimp only [wt]
  refine sov (e_WorldDo hW _ _) ?_
  dsimp only [wt]
  rw [doV_yes hV, doV_yes hV, doV_yes hV, doX (by omega) (by omega) (by omega) (by omega) (by omega) (by omega), do3, if_neg (by omega), do6, if_neg (by omega)]
  exact sov (e_sameWorld hW) (Sat.gd rfl (sov (e_sameWorld hW) (Sat.gd rfl (sov (e_sameWorld hW) (.some rfl)))))
end
end Go.Proofs.YtdfkphagjkpgdaaGreat
end
section
namespace Go.Proofs.YtdfkphagjkpgdaaGreat
open Go.RowKit
set_option linter.unusedSimpArgs false
set_option linter.unusedVariables false
set_option maxRecDepth 100000

theorem tmodW (a n : Nat) : Int.tmod (a : Int) (n : Int) = ((a % n : Nat) : Int) := by
  rw [Int.tmod_eq_emod_of_nonneg (by omega)]; rfl
section
variable {w : Wd}
theorem ann_len (w : Wd) (i : Nat) : (annW w i).db.length = w.db.length := by simp [annW]
theorem do_len (w : Wd) (k a : Int) : (doW w k a).db.length = w.db.length := by
  unfold doW
  split
  · unfold turnW
    split
    · rfl
    · rw [ann_len, ann_len]
  split
  · unfold hearW
    split
    · simp
    · rfl
  split
  · rfl
  split
  · split <;> rfl
  split
  · exact (sync_same w a.toNat).2.2.2.2.2
  · rfl
theorem sq_newer {d e : List Ls} (hd : DbV d) (he : DbV e) {o : Int} (h : seqD d o ≤ seqD e o) : sqOf d o ≤ sqOf e o := by
  have pos : ∀ {x : List Ls} {l : Ls}, DbV x → fd x o = some l → 1 ≤ l.s := fun hx e => ((dbV_iff.1 hx).1 _ ((fd_some hx.so).1 e).1).2.2.1
  unfold seqD sqOf at *
  cases h1 : fd d o with
  | none =>
    cases h2 : fd e o with
    | none => exact Int.le_refl _
    | some l => have := pos he h2; dsimp only; omega
  | some x =>
    have := pos hd h1
    rw [h1] at h
    cases h2 : fd e o with
    | none => rw [h2] at h; dsimp only at h; omega
    | some l => rw [h2] at h; exact h
theorem law_WorldNewer {c : List Int} (hz : ∀ z ∈ c, 0 ≤ z ∧ z < 256) : sh_laws_FnWorldNewer (c, ()) = some (true, ()) := by
  unfold sh_laws_FnWorldNewer
  dsimp only
  refine Sat.out (Sat.ite (fun _ => .some rfl) (fun hlen => ?_))
  have hc : Cod c := cod_ofW hz hlen
  
  refine Sat.bnd (d_WorldDo hc) ?_
  rintro _ ⟨W, k, a, rfl, hW⟩
  dsimp only
  refine sov (e_WorldDo hW k a) (sov (e_sWorldDo hW k a) ?_)
  dsimp only [wt]
  refine sov (e_sameWorld (doV_sm W k a)) (Sat.no rfl (sov (e_sWorldValid hW) ?_))
  dsimp only
  rcases hv : wv W with _ | _
  · exact Sat.gd rfl (sov (e_sameWorld (doV_sm W k a)) (.some rfl))
  have hV := wv_t.1 hv
  rw [doV_yes hV]
  refine Sat.no rfl ?_
  have hD := do_ok hV k a
  have hl := do_len W k a
  have hdb := hV.db
  have h8 := hV.nn
  have hnew := do_newer hV k a
  generalize doW W k a = D at hD hl hnew ⊢
  refine Sat.bnd (R := fun r => match r with | .inl _ => True | .inr _ => False) ?_ ?_
  · refine Sat.count W.db.length (fun i t => t = ((i : Int), W.n, W.ls, W.up, W.sq, W.db, W.net, wt D)) ?_ (Nat.zero_le _) (fuel_lt (by omega)) rfl
    rintro i t hi rfl
    by_cases hil : i < W.db.length
    · simp only [bo_laws_FnWorldNewer_9, wt, nI_eq]
      refine Sat.gd (decide_eq_true (by omega)) (Sat.bnd (R := fun r => match r with | .inl x => x = ((i : Int), W.n, W.ls, W.up, W.sq, W.db, W.net, wt D) | .inr _ => False) ?_ ?_)
      · refine Sat.count W.db.length (fun j t => t = ((i : Int), (j : Int), W.n, W.ls, W.up, W.sq, W.db, W.net, wt D)) ?_ (Nat.zero_le _) (fuel_lt (by omega)) rfl
        rintro j t hj rfl
        have hv := hV.ok i hil
        have hv2 := hD.ok i (by omega)
        by_cases hjl : j < W.db.length
        · simp (disch := omega) only [bo_laws_FnWorldNewer_12, wt, at_db, toN, nI_eq, w64, e_seqOf _ _ hv.sm.fits, e_seqOf _ _ hv2.sm.fits, Option.bind_some]
          refine Sat.gd (decide_eq_true (by omega)) (Sat.gd (inR_t (by omega) (by omega)) (Sat.gd (inR_t (by omega) (by omega)) (Sat.no ?_ (.some ⟨hjl, rfl⟩))))
          have := sq_newer hv hv2 (hnew i (j : Int))
          exact decide_eq_false (by omega)
        · obtain rfl : j = W.db.length := by omega
          unfold bo_laws_FnWorldNewer_12
          simp only [nI_eq]
          exact Sat.no (decide_eq_false (by omega)) (.some rfl)
      · rintro (r | r) hr
        case inr => exact hr.elim
        obtain rfl := hr
        simp (disch := omega) only [wt, w64]
        exact .some ⟨hil, rfl⟩
    · obtain rfl : i = W.db.length := by omega
      unfold bo_laws_FnWorldNewer_9
      simp only [nI_eq]
      exact Sat.no (decide_eq_false (by omega)) (.some trivial)
  rintro (r | r) hr
  case inr => exact hr.elim
  exact .some rfl
theorem sq_own (h : WV w Nob) {i : Nat} (hi : i < w.db.length) : sqOf (dbx w.db i) i = iz w.sq i := by
  have := h.seq_own hi
  have hr := h.rng i (by have := h.sq; have := h.db; omega)
  unfold seqD at this
  unfold sqOf
  cases e : fd (dbx w.db i) i with
  | none => rw [e] at this; dsimp only at this; omega
  | some l => rw [e] at this; exact this
theorem down_loop (h : WV w Nob) {i : Nat} (hi : i < w.ls.length) (u : Bool) (hs : ∀ n, iz (turnW w i u).sq n = iz w.sq n + if n = (lk w.ls i).a.toNat ∨ n = (lk w.ls i).b.toNat then 1 else 0) (c : Int) : Sat (lp bo_laws_FnWorldDown_17 fuel (0, w.n, w.ls, w.up, w.sq, w.db, w.net, (turnW w i u).n, (lk w.ls i).a, (lk w.ls i).b, c, (turnW w i u).ls, (turnW w i u).up, (turnW w i u).sq, (turnW w i u).db, (turnW w i u).net, ())) fun r => match r with | .inl _ => True | .inr _ => False := by
  have hT := turn_ok h hi u
  have hl : (turnW w i u).db.length = w.db.length := by
    unfold turnW
    split
    · rfl
    · rw [ann_len, ann_len]
  have ho := h.g.ok (lk_mem hi)
  unfold okL at ho
  have hsq := h.sq
  have hdb := h.db
  have h8 := h.nn
  have tsq := hT.sq
  have tdb := hT.db
  generalize turnW w i u = D at hs hT hl tsq tdb ⊢
  refine Sat.count w.sq.length (fun k t => t = ((k : Int), w.n, w.ls, w.up, w.sq, w.db, w.net, D.n, (lk w.ls i).a, (lk w.ls i).b, c, D.ls, D.up, D.sq, D.db, D.net, ())) ?_ (Nat.zero_le _) (fuel_lt (by omega)) rfl
  rintro k t hk rfl
  by_cases hlt : k < w.sq.length
  · have hv := hT.ok k (by omega)
    have hr := h.rng k hlt
    have hsk := hs k
    have hown := sq_own hT (i := k) (by omega)
    simp (disch := omega) only [bo_laws_FnWorldDown_17, at_db, at_int, toN, nI_eq, w64, e_seqOf _ _ hv.sm.fits, Option.bind_some, hown]
    refine Sat.gd (decide_eq_true (by omega)) (Sat.ite (fun ha => ?_) (fun ha => Sat.ite (fun hb => ?_) (fun hb => ?_)))
    · have ha := of_decide_eq_true ha
      rw [if_pos (.inl (by omega))] at hsk
      exact Sat.gd (inR_t (by omega) (by omega)) (Sat.gd (inR_t (by omega) (by omega)) (Sat.no (by simp [hsk]) (Sat.gd (inR_t (by omega) (by omega)) (Sat.gd (inR_t (by omega) (by omega)) (Sat.no (by simp) (.some ⟨hlt, rfl⟩))))))
    · have hb := of_decide_eq_true hb
      rw [if_pos (.inr (by omega))] at hsk
      exact Sat.gd (inR_t (by omega) (by omega)) (Sat.gd (inR_t (by omega) (by omega)) (Sat.no (by simp [hsk]) (Sat.gd (inR_t (by omega) (by omega)) (Sat.gd (inR_t (by omega) (by omega)) (Sat.no (by simp) (.some ⟨hlt, rfl⟩))))))
    · have ha := of_decide_eq_false ha
      have hb := of_decide_eq_false hb
      rw [if_neg (by omega)] at hsk
      exact Sat.gd (inR_t (by omega) (by omega)) (Sat.gd (inR_t (by omega) (by omega)) (Sat.no (by simp [hsk]) (Sat.gd (inR_t (by omega) (by omega)) (Sat.gd (inR_t (by omega) (by omega)) (Sat.no (by simp) (.some ⟨hlt, rfl⟩))))))
  · obtain rfl : k = w.sq.length := by omega
    unfold bo_laws_FnWorldDown_17
    simp only [nI_eq]
    exact Sat.no (decide_eq_false (by omega)) (.some trivial)
theorem law_WorldDown {c d : List Int} (hz : ∀ z ∈ c, 0 ≤ z ∧ z < 256) : sh_laws_FnWorldDown (c, d, ()) = some (true, ()) := by
  unfold sh_laws_FnWorldDown
  dsimp only
  refine Sat.out (Sat.ite (fun _ => .some rfl) (fun hlen => ?_))
  have hc : Cod c := cod_ofW hz hlen
  refine Sat.ite (fun _ => .some rfl) (fun hld => ?_)
  refine Sat.bnd (d_WorldDo hc) ?_
  rintro _ ⟨W, k, a, rfl, hW⟩
  dsimp only
  refine sov (e_WorldDo hW k a) (sov (e_sWorldDo hW k a) ?_)
  dsimp only [wt]
  refine sov (e_sameWorld (doV_sm W k a)) (Sat.no rfl (sov (e_sWorldValid hW) ?_))
  dsimp only
  rcases hv : wv W with _ | _
  · exact Sat.gd rfl (sov (e_sameWorld (doV_sm W k a)) (.some rfl))
  have hV := wv_t.1 hv
  rw [doV_yes hV]
  refine Sat.no rfl ?_
  have h14 := hV.lsl
  have hup := hV.up
  simp only [nI_eq]
  refine Sat.ite (fun _ => sov (e_sameWorld (do_ok hV k a).sm) (.some rfl)) (fun h0 => ?_)
  have h0 := of_decide_eq_false h0
  refine Sat.gd (by simpa using h0) ?_
  rw [tmodW]
  have hm : d.length % W.up.length < W.up.length := Nat.mod_lt _ (by omega)
  generalize d.length % W.up.length = i at hm ⊢
  have hi : i < W.ls.length := by omega
  simp only [toN, at_bo, at_lk]
  have arm : ∀ u : Bool, (turnW W i u).up.length = W.up.length := fun u => by have := (turn_ok hV hi u).up; rw [(turn_up i u).1] at this; omega
  refine Sat.gd (inR_t (by omega) (by omega)) (Sat.ite (fun hu => ?_) (fun hu => ?_))
  · refine sov (e_WorldDo hW 1 (i : Int)) ?_
    dsimp only [wt]
    rw [doV_yes hV, do12 (.inl rfl), if_pos ⟨by omega, by omega⟩, toN]
    have hlen := arm (decide ((1 : Int) = 2))
    refine Sat.gd (inR_t (by omega) (by omega)) (Sat.gd (inR_t (by omega) (by omega)) ?_)
    rcases turn_seqs hV hi (decide ((1 : Int) = 2)) with e | ⟨e1, e2, e3⟩
    · rw [e]
      exact Sat.gd (by simp) (sov (e_sameWorld hW) (.some rfl))
    · refine Sat.no (by rw [e1]; exact beq_eq_false_iff_ne.2 (Ne.symm e2)) (Sat.gd (inR_t (by omega) (by omega)) (Sat.bnd (down_loop hV hi _ e3 _) ?_))
      rintro (r | r) hr
      case inr => exact hr.elim
      exact .some rfl
  · refine sov (e_WorldDo hW 2 (i : Int)) ?_
    dsimp only [wt]
    rw [doV_yes hV, do12 (.inr rfl), if_pos ⟨by omega, by omega⟩, toN]
    have hlen := arm (decide ((2 : Int) = 2))
    refine Sat.gd (inR_t (by omega) (by omega)) (Sat.gd (inR_t (by omega) (by omega)) ?_)
    rcases turn_seqs hV hi (decide ((2 : Int) = 2)) with e | ⟨e1, e2, e3⟩
    · rw [e]
      exact Sat.gd (by simp) (sov (e_sameWorld hW) (.some rfl))
    · refine Sat.no (by rw [e1]; exact beq_eq_false_iff_ne.2 (Ne.symm e2)) (Sat.gd (inR_t (by omega) (by omega)) (Sat.bnd (down_loop hV hi _ e3 _) ?_))
      rintro (r | r) hr
      case inr => exact hr.elim
      exact .some rfl
end
end Go.Proofs.YtdfkphagjkpgdaaGreat
end
