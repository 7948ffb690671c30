/- The abstract machine: code, loops, regions that draw their order, a function's beginning and end. No program is named here. -/
import Derived.Test.YtkeihpihphefgaaAx5
namespace Go.Proofs.Ytkeihpihphefgaa
open Go.RowKit

def awp (P : Program) (M N : Nat) (c : Code) (Q : AQ) (st : St) : Prop := ∀ C a w β, C.N = N → C.h.length = M → Sim C st a w β → c.wp P (conc C Q) a w
def AQ.then (K : St → Prop) (Q : AQ) : AQ
  | .normal, st => K st
  | e, st => Q e st
def AQ.inBlock (id : Nat) (Q : AQ) : AQ
  | .exit id', st => if id' = id then Q .normal st else Q (.exit id') st
  | e, st => Q e st
/-- The frame may be told so as well. -/
def Imp (M : Nat) (st1 st : St) : Prop := ∀ C a w β, C.h.length = M → Sim C st a w β → ∃ β1, Sim C st1 a w β1
theorem Imp.refl (M : Nat) (st : St) : Imp M st st := fun _ _ _ β _ S => ⟨β, S⟩
section
variable {P : Program} {st : St} {M N : Nat} {Q : AQ} {c x y : Code}
theorem awp_imp {st1 : St} (h : Imp M st1 st) (k : awp P M N c Q st1) : awp P M N c Q st := fun C a w β hN hM S => by
  obtain ⟨β1, S1⟩ := h C a w β hM S
  exact k C a w β1 hN hM S1
theorem awl_imp {ops : Array Oper} {l : List Oper} {st1 : St} (h : Imp M st1 st) (k : awl P M N ops Q l st1) : awl P M N ops Q l st := fun C a w β hN hM S => by
  obtain ⟨β1, S1⟩ := h C a w β hM S
  exact k C a w β1 hN hM S1
theorem awp_seq_k (h : ∀ K : St → Prop, (∀ st, awp P M N y Q st → K st) → awp P M N x (AQ.then K Q) st) : awp P M N (.seq x y) Q st := fun C a w β hN hM S => by
  refine wp_seq (wp_mono (h (awp P M N y Q) (fun _ h => h) C a w β hN hM S) ?_)
  rintro e a' w' ⟨st', β', hq, S'⟩
  cases e with
  | normal => exact hq C a' w' β' hN hM S'
  | _ => exact ⟨st', β', hq, S'⟩
/-- The first part brings forth what J tells; the rest goes on from there. -/
theorem awp_seq_cut (J : St → Prop) (h : awp P M N x (AQ.then (fun st' => ∃ st1, J st1 ∧ Imp M st1 st') Q) st) (k : ∀ st1, J st1 → awp P M N y Q st1) : awp P M N (.seq x y) Q st := fun C a w β hN hM S => by
  refine wp_seq (wp_mono (h C a w β hN hM S) ?_)
  rintro e a' w' ⟨st', β', hq, S'⟩
  cases e with
  | normal =>
    obtain ⟨st1, hJ, hi⟩ := hq
    obtain ⟨β1, S1⟩ := hi C a' w' β' hM S'
    exact k st1 hJ C a' w' β1 hN hM S1
  | _ => exact ⟨st', β', hq, S'⟩
theorem awp_skip (h : Q .normal st) : awp P M N .skip Q st := fun _ _ _ β _ _ S => wp_skip ⟨st, β, h, S⟩
theorem awp_exit {id : Nat} (h : Q (.exit id) st) : awp P M N (.exit id) Q st := fun _ _ _ β _ _ S => wp_exit ⟨st, β, h, S⟩
theorem awp_ret (h : Q .ret st) : awp P M N .ret Q st := fun _ _ _ β _ _ S => wp_ret ⟨st, β, h, S⟩
theorem awp_block {id : Nat} (h : awp P M N c (AQ.inBlock id Q) st) : awp P M N (.block id c) Q st := fun C a w β hN hM S => by
  refine wp_block (wp_mono (h C a w β hN hM S) ?_)
  rintro e a' w' ⟨st', β', hq, S'⟩
  cases e with
  | exit id' =>
    simp only [AQ.inBlock] at hq
    simp only [Exit.inBlock]
    split at hq
    · rename_i e; rw [if_pos e]; exact ⟨st', β', hq, S'⟩
    · rename_i e; rw [if_neg e]; exact ⟨st', β', hq, S'⟩
  | _ => exact ⟨st', β', hq, S'⟩
theorem awp_cond {t : Operand} {b : Bool} (hc : opv st.t t = some (.im (.s (.bool b)))) (ht : b = true → awp P M N x Q st) (hf : b = false → awp P M N y Q st) : awp P M N (.cond t x y) Q st := fun C a w β hN hM S =>
  wp_cond_split (S.ev hc) (fun e => ht e C a w β hN hM S) (fun e => hf e C a w β hN hM S)
theorem awp_loop (I : Nat → St → Prop) (h0 : ∃ n st1, I n st1 ∧ Imp M st1 st) (round : ∀ n st1, I n st1 → ∀ K : St → Prop, (∀ st', (∃ n' st2, n' < n ∧ I n' st2 ∧ Imp M st2 st') → K st') → awp P M N c (AQ.then K Q) st1) : awp P M N (.loop c) Q st := fun C a w β hN hM S => by
  obtain ⟨n0, s0, hI, hi⟩ := h0
  obtain ⟨β0, S0⟩ := hi C a w β hM S
  refine wp_loop_ghost (fun n a w => ∃ st β, I n st ∧ Sim C st a w β) n0 ⟨s0, β0, hI, S0⟩ ?_
  rintro n a' w' ⟨st1, β1, hI1, S1⟩
  refine wp_mono (round n st1 hI1 _ (fun _ h => h) C a' w' β1 hN hM S1) ?_
  rintro e a2 w2 ⟨st2, β2, hq, S2⟩
  cases e with
  | normal =>
    obtain ⟨n', st3, hlt, hI3, hi3⟩ := hq
    obtain ⟨β3, S3⟩ := hi3 C a2 w2 β2 hM S2
    exact ⟨n', hlt, st3, β3, hI3, S3⟩
  | _ => exact ⟨st2, β2, hq, S2⟩
theorem awp_region {id : Nat} {l : List Oper} (h : awl P M N l.toArray Q l st) : awp P M N (.region id l.toArray false) Q st := fun C a w β hN hM S => wp_region_lit (h C a w β hN hM S)

/-! ### Guards -/
variable {o : Oper} {ops : Array Oper} {rest : List Oper}
theorem yielded_of {C : Ctx} {a : Act} {w : World} {β : List (Nat × Nat)} (S : Sim C st a w β) {j d : Nat} {b : Bool} (hj : (ops[j]?).bind (·.dst) = some d) (hs : slot st.t d = some (.im (.s (.bool b)))) : yielded ops a.tmps j = some b := by
  obtain ⟨u, h1, h2⟩ := S.tm d _ hs
  have := im_s h2
  subst this
  simp [yielded, hj, h1]
theorem wanted_of {C : Ctx} {a : Act} {w : World} {β : List (Nat × Nat)} (S : Sim C st a w β) {j d : Nat} {want b : Bool} (hg : o.guard = some (j, want)) (hj : (ops[j]?).bind (·.dst) = some d) (hs : slot st.t d = some (.im (.s (.bool b)))) : Region.wanted o (yielded ops a.tmps) = (b == want) := by
  simp only [Region.wanted, hg, yielded_of S hj hs]
  cases b <;> cases want <;> rfl
/-- The guard lets it through. -/
theorem awl_go {j d : Nat} {want : Bool} (hg : o.guard = some (j, want)) (hj : (ops[j]?).bind (·.dst) = some d) (hs : slot st.t d = some (.im (.s (.bool want)))) {bl : Bool} {R : St → Prop} (he : EffR P bl o st R) (hd : ∀ i, o.dst = some i → i < N)
    (h : ∀ st', R st' → awl P M N ops Q rest st') : awl P M N ops Q (o :: rest) st := fun C a w β hN hM S => by
  refine wpList_step fun K hK => ?_
  rw [wanted_of S hg hj hs, if_pos (by cases want <;> rfl)]
  exact he C a w β S (by rw [hN]; exact hd) _ _ fun st' u w' β' hR S' _ _ => hK _ _ (h st' hR C _ _ β' hN hM S')
theorem awl_skip {j d : Nat} {want : Bool} (hg : o.guard = some (j, want)) (hj : (ops[j]?).bind (·.dst) = some d) (hs : slot st.t d = some (.im (.s (.bool (!want))))) (hd : ∀ i, o.dst = some i → i < N)
    (h : awl P M N ops Q rest (st.put o.dst (.im (.s undef)))) : awl P M N ops Q (o :: rest) st := fun C a w β hN hM S => by
  refine wpList_step fun K hK => ?_
  rw [wanted_of S hg hj hs, if_neg (by cases want <;> simp)]
  exact hK _ _ (h C _ _ β hN hM (S.putO (by rw [hN]; exact hd) (Ri.s undef)))
/-- What a slot holds, told anew. -/
theorem Imp.slot {d : Nat} {v : PV} (hs : slot st.t d = some v) : Imp M ⟨(d, v) :: st.t, st.h⟩ st := fun C a w β _ S => ⟨β, S.cl, S.bw, S.step, S.heap, S.sz, S.df, fun i v' hi => by
  simp only [Go.Proofs.Ytkeihpihphefgaa.slot] at hi
  by_cases e : d = i
  · subst e
    simp only [Nat.beq_refl, cond_true, Option.some.injEq] at hi
    subst hi
    exact S.tm d v hs
  · have hb : Nat.beq d i = false := by
      cases hq : Nat.beq d i with
      | false => rfl
      | true => exact absurd (Nat.eq_of_beq_eq_true hq) e
    rw [hb] at hi
    exact S.tm i v' hi⟩
theorem awl_split {d : Nat} {b : Bool} (hs : slot st.t d = some (.im (.s (.bool b)))) (ht : b = true → awl P M N ops Q (o :: rest) ⟨(d, .im (.s (.bool true))) :: st.t, st.h⟩) (hf : b = false → awl P M N ops Q (o :: rest) ⟨(d, .im (.s (.bool false))) :: st.t, st.h⟩) : awl P M N ops Q (o :: rest) st := by
  cases b with
  | true => exact awl_imp (Imp.slot hs) (ht rfl)
  | false => exact awl_imp (Imp.slot hs) (hf rfl)

/-! ### The frame told under other numbers -/
def bad : PV := .tup [.tup []]
def ren1 (ρ : List Nat) : PV → PV
  | .own k n => match ρ[k]? with | some j => .own j n | none => bad
  | .ptr k o => match ρ[k]? with | some j => .ptr j o | none => bad
  | v => v
def ren2 (ρ : List Nat) : PV → PV
  | .agg cs => .agg (cs.map (ren1 ρ))
  | .fn f cs => .fn f (cs.map (ren1 ρ))
  | .tup _ => bad
  | v => ren1 ρ v
theorem ren_ims (ρ : List Nat) (xs : List IV) : (ims xs).map (ren1 ρ) = ims xs := by
  unfold ims; rw [List.map_map]; exact List.map_congr_left fun x _ => rfl
def SlotsOk (ρ : List Nat) (t : List (Nat × PV)) : List (Nat × PV) → Prop
  | [] => True
  | (i, v) :: r => slot t i = some (ren2 ρ v) ∧ SlotsOk ρ t r
def ObjsOk (ρ : List Nat) (h : List AObj) : List AObj → Nat → Prop
  | [], _ => True
  | .dead :: r, k => ObjsOk ρ h r (k + 1)
  | .obj t xs q :: r, k => (∃ j, ρ[k]? = some j ∧ h[j]? = some (.obj t (xs.map (ren1 ρ)) q)) ∧ ObjsOk ρ h r (k + 1)
theorem SlotsOk.get {ρ : List Nat} {t : List (Nat × PV)} : ∀ {l : List (Nat × PV)}, SlotsOk ρ t l → ∀ i v, slot l i = some v → slot t i = some (ren2 ρ v)
  | [], _, i, v, h => by cases h
  | (j, u) :: r, ⟨h1, h2⟩, i, v, h => by
    simp only [slot] at h
    by_cases e : j = i
    · subst e
      simp only [Nat.beq_refl, cond_true, Option.some.injEq] at h
      subst h; exact h1
    · have hb : Nat.beq j i = false := by
        cases hq : Nat.beq j i with
        | false => rfl
        | true => exact absurd (Nat.eq_of_beq_eq_true hq) e
      rw [hb] at h
      exact SlotsOk.get h2 i v h
theorem ObjsOk.get {ρ : List Nat} {h : List AObj} : ∀ {l : List AObj} {k : Nat}, ObjsOk ρ h l k → ∀ (i : Nat) t xs q, l[i]? = some (.obj t xs q) → ∃ j, ρ[k + i]? = some j ∧ h[j]? = some (.obj t (xs.map (ren1 ρ)) q)
  | [], _, _, i, t, xs, q, hi => by simp at hi
  | .dead :: r, k, h1, i, t, xs, q, hi => by
    cases i with
    | zero => simp at hi
    | succ i =>
      obtain ⟨j, h2, h3⟩ := ObjsOk.get (k := k + 1) h1 i t xs q (by simpa using hi)
      exact ⟨j, by rw [show k + (i + 1) = k + 1 + i by omega]; exact h2, h3⟩
  | .obj t' xs' q' :: r, k, ⟨h0, h1⟩, i, t, xs, q, hi => by
    cases i with
    | zero =>
      simp only [List.getElem?_cons_zero, Option.some.injEq, AObj.obj.injEq] at hi
      obtain ⟨rfl, rfl, rfl⟩ := hi
      exact h0
    | succ i =>
      obtain ⟨j, h2, h3⟩ := ObjsOk.get (k := k + 1) h1 i t xs q (by simpa using hi)
      exact ⟨j, by rw [show k + (i + 1) = k + 1 + i by omega]; exact h2, h3⟩
section
variable {w : World} {E E' : Nat → Prop} {B : Nat} {β β' : List (Nat × Nat)} {ρ : List Nat}
theorem C1.ren (hE : ∀ b, E' b → E b) (hβ : ∀ (k j : Nat) p, ρ[k]? = some j → β[j]? = some p → β'[k]? = some p) {v : PV} {u : Value} (h : C1 w E B β (ren1 ρ v) u) : C1 w E' B β' v u := by
  cases v with
  | im x => exact Ri.weak hE (Nat.le_refl _) h
  | own k n =>
    simp only [ren1] at h
    split at h
    · rename_i j hj
      obtain ⟨b, c, h1, h2⟩ := h
      exact ⟨b, c, hβ _ _ _ hj h1, h2⟩
    · exact h.elim
  | ptr k n =>
    simp only [ren1] at h
    split at h
    · rename_i j hj
      obtain ⟨b, c, h1, h2⟩ := h
      exact ⟨b, c, hβ _ _ _ hj h1, h2⟩
    · exact h.elim
  | at_ xs o =>
    obtain ⟨b, p, us, h1, h2, h3, h4, h5⟩ := h
    exact ⟨b, p, us, h1, fun e => h2 (hE b e), h3, h4, h5.mono fun x u h => h.weak hE (Nat.le_refl _)⟩
  | fn f caps => exact h.elim
  | agg cs => exact h.elim
  | tup cs => exact h.elim
theorem F2.unmap {α α' γ : Type} {R : α' → γ → Prop} {R' : α → γ → Prop} {f : α → α'} {xs : List α} {us : List γ} (h : F2 R (xs.map f) us) (hr : ∀ x u, R (f x) u → R' x u) : F2 R' xs us :=
  ⟨by rw [h.1, List.length_map], fun i x u hx hu => hr _ _ (h.2 i _ u (by rw [List.getElem?_map, hx]; rfl) hu)⟩
theorem bad_no {u : Value} (h : Cv w E B β bad u) : False := by
  obtain ⟨us, rfl, hl, h⟩ := h
  have hl : 0 < us.length := by rw [hl]; decide
  exact h 0 _ us[0] rfl (List.getElem?_eq_getElem hl)
theorem Cv.ren (hE : ∀ b, E' b → E b) (hβ : ∀ (k j : Nat) p, ρ[k]? = some j → β[j]? = some p → β'[k]? = some p) {v : PV} {u : Value} (h : Cv w E B β (ren2 ρ v) u) : Cv w E' B β' v u := by
  cases v with
  | agg cs => obtain ⟨us, h1, h2⟩ := h; exact ⟨us, h1, h2.unmap fun x u h => h.ren hE hβ⟩
  | fn f cs => obtain ⟨us, h1, h2⟩ := h; exact ⟨us, h1, h2.unmap fun x u h => h.ren hE hβ⟩
  | tup cs => exact (bad_no h).elim
  | im x => exact C1.ren (v := .im x) hE hβ h
  | at_ xs o => exact C1.ren (v := .at_ xs o) hE hβ h
  | own k n =>
    simp only [ren2, ren1] at h
    split at h
    · rename_i j hj
      obtain ⟨b, c, h1, h2⟩ := h
      exact ⟨b, c, hβ _ _ _ hj h1, h2⟩
    · exact (bad_no h).elim
  | ptr k n =>
    simp only [ren2, ren1] at h
    split at h
    · rename_i j hj
      obtain ⟨b, c, h1, h2⟩ := h
      exact ⟨b, c, hβ _ _ _ hj h1, h2⟩
    · exact (bad_no h).elim
end
theorem imp_ren {st1 : St} (ρ : List Nat) (hM : ∀ k, k < M → ρ[k]? = some k) (hl : ρ.length = st1.h.length) (hlt : ∀ j ∈ ρ, j < st.h.length) (hinj : ρ.Nodup) (ho : ObjsOk ρ st.h st1.h 0) (hs : SlotsOk ρ st.t st1.t) : Imp M st1 st := fun C a w β hMC S => by
  have hbl := S.heap.len
  have hβ1 : ∀ (k j : Nat) p, ρ[k]? = some j → β[j]? = some p → (ρ.map fun j => β.getD j (0, 0))[k]? = some p := fun k j p h1 h2 => by
    rw [List.getElem?_map, h1]; simp [List.getD, h2]
  have hβ2 : ∀ (k j : Nat) p, ρ[k]? = some j → (ρ.map fun j => β.getD j (0, 0))[k]? = some p → β[j]? = some p := fun k j p h1 h2 => by
    have hj : j < β.length := by rw [hbl]; exact hlt j (List.mem_of_getElem? h1)
    rw [List.getElem?_map, h1] at h2
    simpa [List.getD, List.getElem?_eq_getElem hj] using h2
  have get := fun i t xs q (h : st1.h[i]? = some (AObj.obj t xs q)) => by
    have := ho.get i t xs q h
    simpa using this
  have hE : ∀ b, Liv st1.h (ρ.map fun j => β.getD j (0, 0)) b → Liv st.h β b := fun b ⟨k, t, xs, r, c, h1, h2⟩ => by
    obtain ⟨j, hj, hk⟩ := get k t xs r h1
    exact ⟨j, t, _, r, c, hk, hβ2 k j _ hj h2⟩
  refine ⟨ρ.map fun j => β.getD j (0, 0), S.cl, S.bw, ⟨S.step.os, S.step.tape, S.step.output, S.step.size, S.step.block, fun b hb h => S.step.new b hb (hE b h), fun k p hk => ?_⟩, ⟨by rw [List.length_map, hl], fun k t xs r hk => ?_, fun i j t xs r t' xs' r' b c c' hi hj bi bj => ?_⟩, S.sz, S.df, fun i v hi => ?_⟩
  · have hkl : k < M := by rw [← hMC, ← S.cl]; exact (List.getElem?_eq_some_iff.1 hk).1
    exact hβ1 k k p (hM k hkl) (S.step.beta k p hk)
  · obtain ⟨j, hj, h1⟩ := get k t xs r hk
    obtain ⟨b, c, us, junk, h2, h3, h4, h5⟩ := S.heap.ok j t _ r h1
    exact ⟨b, c, us, junk, hβ1 k j _ hj h2, h3, h4.unmap fun x u h => h.ren hE hβ1, h5⟩
  · obtain ⟨i', hi', h1⟩ := get i t xs r hi
    obtain ⟨j', hj', h2⟩ := get j t' xs' r' hj
    have := S.heap.inj i' j' _ _ _ _ _ _ _ _ _ h1 h2 (hβ2 i i' _ hi' bi) (hβ2 j j' _ hj' bj)
    subst this
    have hil : i < ρ.length := (List.getElem?_eq_some_iff.1 hi').1
    exact (List.getElem?_inj hil hinj).1 (hi'.trans hj'.symm)
  · obtain ⟨u, h1, h2⟩ := S.tm i _ (hs.get i v hi)
    exact ⟨u, h1, h2.ren hE hβ1⟩
end
end Go.Proofs.Ytkeihpihphefgaa
