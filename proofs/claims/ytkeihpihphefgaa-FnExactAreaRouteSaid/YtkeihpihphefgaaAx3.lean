/- The abstract machine: lists of operations, memory that is made and written. No program is named here. -/
import Derived.Test.YtkeihpihphefgaaAx2
namespace Go.Proofs.Ytkeihpihphefgaa
open Go.RowKit

abbrev AQ := Exit → St → Prop
def conc (C : Ctx) (Q : AQ) : Exit → Act → World → Prop := fun e a w => ∃ st β, Q e st ∧ Sim C st a w β
def awl (P : Program) (M N : Nat) (ops : Array Oper) (Q : AQ) (l : List Oper) (st : St) : Prop := ∀ C a w β, C.N = N → C.h.length = M → Sim C st a w β → wpList P ops (conc C Q) l a w
def St.put (st : St) (d : Option Nat) (v : PV) : St := match d with | some d => ⟨(d, v) :: st.t, st.h⟩ | none => st
section
variable {P : Program} {st : St} {o : Oper} {C : Ctx} {a : Act} {w w' : World} {β β' : List (Nat × Nat)} {M N : Nat} {Q : AQ} {ops : Array Oper} {rest : List Oper}
theorem Sim.put (S : Sim C st a w β) {d : Nat} {v : PV} {u : Value} (hd : d < C.N) (h : Cv w (Liv st.h β) C.B β v u) : Sim C ⟨(d, v) :: st.t, st.h⟩ (a.put (some d) u) w β := by
  refine ⟨S.cl, S.bw, S.step, S.heap, by simpa [Act.put] using S.sz, S.df, fun i v' hi => ?_⟩
  simp only [slot] at hi
  by_cases e : d = i
  · subst e
    simp only [Nat.beq_refl, cond_true, Option.some.injEq] at hi
    subst hi
    exact ⟨u, by simp [Act.put, S.sz, hd], h⟩
  · have hb : Nat.beq d i = false := by
      cases hq : Nat.beq d i with
      | false => rfl
      | true => exact absurd (Nat.eq_of_beq_eq_true hq) e
    rw [hb] at hi
    obtain ⟨u', h1, h2⟩ := S.tm i v' hi
    refine ⟨u', ?_, h2⟩
    simp [Act.put, e, h1]
theorem Sim.putO (S : Sim C st a w β) {d : Option Nat} {v : PV} {u : Value} (hd : ∀ i, d = some i → i < C.N) (h : Cv w (Liv st.h β) C.B β v u) : Sim C (st.put d v) (a.put d u) w β := by
  cases d with
  | none => exact S
  | some d => exact S.put (hd d rfl) h
/-- Another world, more objects: what the slots hold is as it was. -/
theorem Sim.world (S : Sim C st a w β) {h' : List AObj} (hs : Step w st.h β w' h' β') (hh : HeapOk w' C.B h' β') : Sim C ⟨st.t, h'⟩ a w' β' :=
  ⟨S.cl, S.bw, S.step.trans hs, hh, S.sz, S.df, fun i v hi => by
    obtain ⟨u, h1, h2⟩ := S.tm i v hi
    exact ⟨u, h1, h2.keep hs.block hs.size hs.new hs.beta⟩⟩
theorem wanted_none (hg : o.guard = none) (f : Nat → Option Bool) : Region.wanted o f = true := by simp [Region.wanted, hg]
theorem awl_val {v : PV} (hg : o.guard = none) (hv : Val P st o v) (hd : ∀ i, o.dst = some i → i < N) (h : awl P M N ops Q rest (st.put o.dst v)) : awl P M N ops Q (o :: rest) st := fun C a w β hN hM S => by
  obtain ⟨u, h1, h2⟩ := hv C a w β S
  refine wpList_plain hg fun K hK => ?_
  have hr := h2 w (Nat.le_refl _) (fun _ _ => rfl)
  unfold Oper.wp
  rw [hr]
  exact hK _ _ (h C _ w β hN hM (S.putO (by rw [hN]; exact hd) h1))
theorem awl_nil (h : Q .normal st) : awl P M N ops Q [] st := fun _ _ _ β _ _ S => ⟨st, β, h, S⟩

/-! ### A new object -/
theorem liv_push {h : List AObj} {β : List (Nat × Nat)} {t : TypeId} {xs : List PV} {r b c k : Nat} (hl : β.length = h.length) (h1 : Liv (h ++ [.obj t xs r]) (β ++ [(b, c)]) k) : Liv h β k ∨ k = b := by
  obtain ⟨j, t', xs', r', c', h2, h3⟩ := h1
  rw [List.getElem?_append] at h2 h3
  rw [hl] at h3
  split at h2
  · rename_i hj
    rw [if_pos hj] at h3
    exact .inl ⟨j, t', xs', r', c', h2, h3⟩
  · rename_i hj
    rw [if_neg hj] at h3
    rcases Nat.eq_zero_or_pos (j - h.length) with e | e
    · rw [e] at h3; simp at h3; exact .inr h3.1.symm
    · rw [List.getElem?_eq_none (by simp; omega)] at h3; cases h3
theorem pre_app {β : List (Nat × Nat)} (l : List (Nat × Nat)) : ∀ (k : Nat) p, β[k]? = some p → (β ++ l)[k]? = some p := fun k p h => by
  rw [List.getElem?_append_left (List.getElem?_eq_some_iff.1 h).1]; exact h
theorem Liv.lt {B : Nat} {h : List AObj} {b : Nat} (hh : HeapOk w B h β) (hl : Liv h β b) : b < w.heap.size := by
  obtain ⟨k, t, xs, r, c, h1, h2⟩ := hl
  obtain ⟨b', c', us, junk, h3, h4, _⟩ := hh.ok k t xs r h1
  rw [h2] at h3
  injection h3 with h3
  injection h3 with e1 e2
  subst e1
  exact (Array.getElem?_eq_some_iff.1 h4).1
theorem ObjAt.keep {E E' : Nat → Prop} {B k : Nat} {t : TypeId} {xs : List PV} {r b c : Nat} (h : ObjAt w E B β k t xs r) (hb : β[k]? = some (b, c)) (hkb : w'.heap[b]? = w.heap[b]?)
    (hk : ∀ b, b < w.heap.size → ¬ E b → w'.heap[b]? = w.heap[b]?) (hs : w.heap.size ≤ w'.heap.size) (hE : ∀ b, b < w.heap.size → E' b → E b) (hβ : ∀ (k : Nat) p, β[k]? = some p → β'[k]? = some p) : ObjAt w' E' B β' k t xs r := by
  obtain ⟨b', c', us, junk, h1, h2, h3, h4⟩ := h
  rw [hb] at h1
  injection h1 with h1
  injection h1 with e1 e2
  subst e1 e2
  exact ⟨b, c, us, junk, hβ _ _ hb, hkb.trans h2, h3.mono fun x u h => h.keep hk hs hE hβ, h4⟩
theorem beta_get {B : Nat} {h : List AObj} (hh : HeapOk w B h β) {k : Nat} {x : AObj} (hk : h[k]? = some x) : ∃ b c, β[k]? = some (b, c) := by
  have : k < β.length := by rw [hh.len]; exact (List.getElem?_eq_some_iff.1 hk).1
  exact ⟨β[k].1, β[k].2, by rw [List.getElem?_eq_getElem this]⟩
/-- One block is new, or one object's block is written anew; the object may be known under another number. -/
theorem Sim.gen (S : Sim C st a w β) {h' : List AObj} (hos : w'.os = w.os) (htp : w'.tape = w.tape) (hou : w'.output = w.output) (hsz : w.heap.size ≤ w'.heap.size) {b' : Nat} (X : Nat → Prop)
    (hblk : ∀ i, i < w.heap.size → ¬ X i → w'.heap[i]? = w.heap[i]?) (hX : ∀ i, i < w.heap.size → X i → Liv st.h β i)
    (hnew : ∀ i, i < w.heap.size → Liv h' β' i → Liv st.h β i) (hβ : ∀ (k : Nat) p, β[k]? = some p → β'[k]? = some p) (hlen : β'.length = h'.length) {K : Nat}
    (hold : ∀ j t xs r, j ≠ K → h'[j]? = some (.obj t xs r) → st.h[j]? = some (.obj t xs r) ∧ ∀ b c, β[j]? = some (b, c) → ¬ X b ∧ b ≠ b')
    (hK : ∀ t xs r, h'[K]? = some (.obj t xs r) → ObjAt w' (Liv h' β') C.B β' K t xs r ∧ ∃ c, β'[K]? = some (b', c)) : Sim C ⟨st.t, h'⟩ a w' β' := by
  have hk : ∀ i, i < w.heap.size → ¬ Liv st.h β i → w'.heap[i]? = w.heap[i]? := fun i hi hn => hblk i hi (fun h => hn (hX i hi h))
  refine S.world (h' := h') ⟨hos, htp, hou, hsz, hk, hnew, hβ⟩ ⟨hlen, fun j t xs r hj => ?_, fun i j t xs r t' xs' r' b c c' hi hj bi bj => ?_⟩
  · by_cases e : j = K
    · subst e; exact (hK t xs r hj).1
    · obtain ⟨h1, h2⟩ := hold j t xs r e hj
      obtain ⟨b, c, hb⟩ := beta_get S.heap h1
      have hbl : b < w.heap.size := Liv.lt S.heap ⟨j, t, xs, r, c, h1, hb⟩
      exact (S.heap.ok j t xs r h1).keep hb (hblk b hbl (h2 b c hb).1) hk hsz hnew hβ
  · by_cases ei : i = K
    · by_cases ej : j = K
      · rw [ei, ej]
      · subst ei
        obtain ⟨_, c1, h1⟩ := hK t xs r hi
        rw [h1] at bi
        injection bi with bi; injection bi with e1 e2; subst e1
        obtain ⟨h2, h3⟩ := hold j t' xs' r' ej hj
        obtain ⟨b2, c2, h4⟩ := beta_get S.heap h2
        have := hβ _ _ h4
        rw [bj] at this
        injection this with this; injection this with e1 e2; subst e1
        exact absurd rfl (h3 _ c2 h4).2
    · by_cases ej : j = K
      · subst ej
        obtain ⟨_, c1, h1⟩ := hK t' xs' r' hj
        rw [h1] at bj
        injection bj with bj; injection bj with e1 e2; subst e1
        obtain ⟨h2, h3⟩ := hold i t xs r ei hi
        obtain ⟨b2, c2, h4⟩ := beta_get S.heap h2
        have := hβ _ _ h4
        rw [bi] at this
        injection this with this; injection this with e1 e2; subst e1
        exact absurd rfl (h3 _ c2 h4).2
      · obtain ⟨h2, _⟩ := hold i t xs r ei hi
        obtain ⟨h3, _⟩ := hold j t' xs' r' ej hj
        obtain ⟨b2, c2, h4⟩ := beta_get S.heap h2
        obtain ⟨b3, c3, h5⟩ := beta_get S.heap h3
        have q1 := hβ _ _ h4
        have q2 := hβ _ _ h5
        rw [bi] at q1
        rw [bj] at q2
        injection q1 with q1; injection q1 with e1 e2; subst e1
        injection q2 with q2; injection q2 with e1 e2; subst e1
        exact S.heap.inj i j t xs r t' xs' r' _ _ _ h2 h3 h4 h5
/-- A new block. -/
theorem Sim.new (S : Sim C st a w β) (hb : Below w.heap.size w w') {B c r : Nat} {t : TypeId} {us junk : List Value} {xs : List PV} (hB : w.heap.size ≤ B) (hblk : w'.heap[B]? = some (.cells (us ++ junk).toArray t (0, 0)))
    (hr : F2 (C1 w (Liv st.h β) C.B β) xs us) (h1 : ∀ u ∈ us, u.oneCell' = true) (hj : r = 0 → junk = []) (hc : 0 < r → (us ++ junk).length = c * r ∧ c ≤ maxLen) :
    Sim C ⟨st.t, st.h ++ [.obj t xs r]⟩ a w' (β ++ [(B, c)]) := by
  have hl := S.heap.len
  have hn : ∀ i, i < w.heap.size → Liv (st.h ++ [.obj t xs r]) (β ++ [(B, c)]) i → Liv st.h β i := fun i hi h => (liv_push hl h).resolve_right (by omega)
  refine S.gen (K := st.h.length) (b' := B) hb.os hb.tape hb.output hb.size (fun _ => False) (fun i hi _ => hb.block i hi) (fun _ _ h => h.elim) hn (pre_app _) (by simp [hl]) (fun j t' xs' r' hj h => ?_) (fun t' xs' r' h => ?_)
  · have hjl : j < st.h.length := by
      have := (List.getElem?_eq_some_iff.1 h).1
      simp at this; omega
    rw [List.getElem?_append_left hjl] at h
    refine ⟨h, fun b c' e => ⟨id, ?_⟩⟩
    have := Liv.lt S.heap ⟨j, t', xs', r', c', h, e⟩
    omega
  · rw [List.getElem?_append_right (Nat.le_refl _), Nat.sub_self] at h
    simp only [List.getElem?_cons_zero, Option.some.injEq, AObj.obj.injEq] at h
    obtain ⟨rfl, rfl, rfl⟩ := h
    have hβ : (β ++ [(B, c)])[st.h.length]? = some (B, c) := by rw [List.getElem?_append_right (by omega), hl, Nat.sub_self]; rfl
    exact ⟨⟨B, c, us, junk, hβ, hblk, hr.mono fun x u h => h.keep (fun i hi _ => hb.block i hi) hb.size hn (pre_app _), h1, hj, hc⟩, c, hβ⟩
theorem liv_set {h : List AObj} {β : List (Nat × Nat)} {k : Nat} {t t' : TypeId} {xs xs' : List PV} {r r' i : Nat} (hk : h[k]? = some (.obj t xs r)) (hl : Liv (h.set k (.obj t' xs' r')) β i) : Liv h β i := by
  obtain ⟨j, t1, xs1, r1, c1, h1, h2⟩ := hl
  rw [List.getElem?_set] at h1
  split at h1
  · rename_i e; subst e; exact ⟨k, t, xs, r, c1, hk, h2⟩
  · exact ⟨j, t1, xs1, r1, c1, h1, h2⟩
/-- An object's cells are written. -/
theorem Sim.turn (S : Sim C st a w β) {b c r k : Nat} {t : TypeId} {us junk : List Value} {xs xs' : List PV} (hk : st.h[k]? = some (.obj t xs r)) (hβ : β[k]? = some (b, c)) (hos : w'.os = w.os) (htp : w'.tape = w.tape) (hou : w'.output = w.output) (hsz : w.heap.size ≤ w'.heap.size)
    (hoth : ∀ i, i < w.heap.size → i ≠ b → w'.heap[i]? = w.heap[i]?) (hblk : w'.heap[b]? = some (.cells (us ++ junk).toArray t (0, 0)))
    (hr : F2 (C1 w (Liv st.h β) C.B β) xs' us) (h1 : ∀ u ∈ us, u.oneCell' = true) (hj : r = 0 → junk = []) (hc : 0 < r → (us ++ junk).length = c * r ∧ c ≤ maxLen) :
    Sim C ⟨st.t, st.h.set k (.obj t xs' r)⟩ a w' β := by
  have hkl : k < st.h.length := (List.getElem?_eq_some_iff.1 hk).1
  have hlb : Liv st.h β b := ⟨k, t, xs, r, c, hk, hβ⟩
  have hn : ∀ i, i < w.heap.size → Liv (st.h.set k (.obj t xs' r)) β i → Liv st.h β i := fun i _ h => liv_set hk h
  refine S.gen (K := k) (b' := b) hos htp hou hsz (· = b) hoth (fun i _ h => h ▸ hlb) hn (fun _ _ h => h) (by simp [S.heap.len]) (fun j t' xs'' r' hj h => ?_) (fun t' xs'' r' h => ?_)
  · rw [List.getElem?_set, if_neg (Ne.symm hj)] at h
    exact ⟨h, fun b1 c' e => ⟨fun q => hj (S.heap.inj j k t' xs'' r' t xs r b c' c h hk (q ▸ e) hβ), fun q => hj (S.heap.inj j k t' xs'' r' t xs r b c' c h hk (q ▸ e) hβ)⟩⟩
  · rw [List.getElem?_set, if_pos rfl, if_pos hkl] at h
    simp only [Option.some.injEq, AObj.obj.injEq] at h
    obtain ⟨rfl, rfl, rfl⟩ := h
    exact ⟨⟨b, c, us, junk, hβ, hblk, hr.mono fun x u h => h.keep (fun i hi hne => hoth i hi (by rintro rfl; exact hne hlb)) hsz hn (fun _ _ h => h), h1, hj, hc⟩, c, hβ⟩
/-- What is appended to is known under a new number. -/
theorem Sim.app (S : Sim C st a w β) {b c r k b' c' : Nat} {t : TypeId} {us junk : List Value} {xs xs' : List PV} (hk : st.h[k]? = some (.obj t xs r)) (hβ : β[k]? = some (b, c)) (hos : w'.os = w.os) (htp : w'.tape = w.tape) (hou : w'.output = w.output) (hsz : w.heap.size ≤ w'.heap.size)
    (hoth : ∀ i, i < w.heap.size → i ≠ b → w'.heap[i]? = w.heap[i]?) (hb' : b' = b ∨ w.heap.size ≤ b') (hblk : w'.heap[b']? = some (.cells (us ++ junk).toArray t (0, 0)))
    (hr : F2 (C1 w (Liv st.h β) C.B β) xs' us) (h1 : ∀ u ∈ us, u.oneCell' = true) (hj : r = 0 → junk = []) (hc : 0 < r → (us ++ junk).length = c' * r ∧ c' ≤ maxLen) :
    Sim C ⟨st.t, st.h.set k .dead ++ [.obj t xs' r]⟩ a w' (β ++ [(b', c')]) := by
  have hl := S.heap.len
  have hlb : Liv st.h β b := ⟨k, t, xs, r, c, hk, hβ⟩
  have hblt := Liv.lt S.heap hlb
  have hn : ∀ i, i < w.heap.size → Liv (st.h.set k .dead ++ [.obj t xs' r]) (β ++ [(b', c')]) i → Liv st.h β i := fun i hi h => by
    rcases liv_push (by simp [hl]) h with h | h
    · obtain ⟨j, t1, xs1, r1, c1, h1, h2⟩ := h
      rw [List.getElem?_set] at h1
      split at h1
      · split at h1 <;> cases h1
      · exact ⟨j, t1, xs1, r1, c1, h1, h2⟩
    · rcases hb' with e | e
      · rw [h, e]; exact hlb
      · omega
  refine S.gen (K := st.h.length) (b' := b') hos htp hou hsz (· = b) hoth (fun i _ h => h ▸ hlb) hn (pre_app _) (by simp [hl]) (fun j t' xs'' r' hj h => ?_) (fun t' xs'' r' h => ?_)
  · have hjl : j < st.h.length := by
      have := (List.getElem?_eq_some_iff.1 h).1
      simp at this; omega
    rw [List.getElem?_append_left (by simpa using hjl), List.getElem?_set] at h
    split at h
    · split at h <;> cases h
    · rename_i hkj
      refine ⟨h, fun b1 c1 e => ⟨fun q => hkj (S.heap.inj k j t xs r t' xs'' r' b c c1 hk h hβ (q ▸ e)), fun q => ?_⟩⟩
      subst q
      rcases hb' with e' | e'
      · exact hkj (S.heap.inj k j t xs r t' xs'' r' b c c1 hk h hβ (e' ▸ e))
      · have := Liv.lt S.heap ⟨j, t', xs'', r', c1, h, e⟩
        omega
  · rw [List.getElem?_append_right (by simp), List.length_set, Nat.sub_self] at h
    simp only [List.getElem?_cons_zero, Option.some.injEq, AObj.obj.injEq] at h
    obtain ⟨rfl, rfl, rfl⟩ := h
    have hβ' : (β ++ [(b', c')])[st.h.length]? = some (b', c') := by rw [List.getElem?_append_right (by omega), hl, Nat.sub_self]; rfl
    exact ⟨⟨b', c', us, junk, hβ', hblk, hr.mono fun x u h => h.keep (fun i hi hne => hoth i hi (by rintro rfl; exact hne hlb)) hsz hn (pre_app _), h1, hj, hc⟩, c', hβ'⟩
end
end Go.Proofs.Ytkeihpihphefgaa
