/- An abstract machine in which no address and no world is named: values are trees, memory of a call's own is a row of objects; what it shows holds of every run. No program is named here. -/
import Derived.Test.YtkeihpihphefgaaReg2
namespace Go.Proofs.Ytkeihpihphefgaa
open Go.RowKit

/-- A value of one cell that nothing turns: 'sl g' reads as these cells; where g is true its memory is new. -/
inductive IV where
  | s (v : Value)
  | sl (g : Bool) (xs : List IV) (n : Nat)
inductive PV where
  | im (x : IV)
  | own (k n : Nat)
  | ptr (k o : Nat)
  | at_ (xs : List IV) (o : Nat)
  | fn (f : FuncId) (caps : List PV)
  | agg (cs : List PV)
  | tup (cs : List PV)
inductive AObj where
  | dead
  | obj (t : TypeId) (xs : List PV) (r : Nat)
structure St where
  t : List (Nat × PV)
  h : List AObj

def slot : List (Nat × PV) → Nat → Option PV
  | [], _ => none
  | (j, v) :: r, i => bif Nat.beq j i then some v else slot r i
def ims (xs : List IV) : List PV := xs.map PV.im
def F2 {α β : Type} (R : α → β → Prop) (xs : List α) (us : List β) : Prop := us.length = xs.length ∧ ∀ (i : Nat) x u, xs[i]? = some x → us[i]? = some u → R x u
theorem F2.mono {α β : Type} {R R' : α → β → Prop} {xs : List α} {us : List β} (h : F2 R xs us) (hr : ∀ x u, R x u → R' x u) : F2 R' xs us := ⟨h.1, fun i x u hx hu => hr _ _ (h.2 i x u hx hu)⟩
theorem F2.nil {α β : Type} {R : α → β → Prop} : F2 R [] [] := ⟨rfl, fun i x u hx _ => by simp at hx⟩
theorem F2.cons {α β : Type} {R : α → β → Prop} {x : α} {u : β} {xs : List α} {us : List β} (h : R x u) (hs : F2 R xs us) : F2 R (x :: xs) (u :: us) :=
  ⟨by simp [hs.1], fun i y v hy hv => by
    cases i with
    | zero => simp at hy hv; subst hy hv; exact h
    | succ i => exact hs.2 i y v (by simpa using hy) (by simpa using hv)⟩
theorem F2.get {α β : Type} {R : α → β → Prop} {xs : List α} {us : List β} (h : F2 R xs us) {i : Nat} {x : α} (hx : xs[i]? = some x) : ∃ u, us[i]? = some u ∧ R x u := by
  have hi : i < us.length := by rw [h.1]; exact (List.getElem?_eq_some_iff.1 hx).1
  exact ⟨us[i], List.getElem?_eq_getElem hi, h.2 i x _ hx (List.getElem?_eq_getElem hi)⟩
theorem F2.app {α β : Type} {R : α → β → Prop} {xs ys : List α} {us vs : List β} (h : F2 R xs us) (k : F2 R ys vs) : F2 R (xs ++ ys) (us ++ vs) :=
  ⟨by simp [h.1, k.1], fun i x u hx hu => by
    rw [List.getElem?_append] at hx hu
    rw [h.1] at hu
    split at hx
    · rename_i hi
      rw [if_pos hi] at hu
      exact h.2 i x u hx hu
    · rename_i hi
      rw [if_neg hi] at hu
      exact k.2 _ x u hx hu⟩
theorem F2.set_ {α β : Type} {R : α → β → Prop} {xs : List α} {us : List β} (h : F2 R xs us) (j : Nat) {x : α} {u : β} (hx : R x u) : F2 R (xs.set j x) (us.set j u) :=
  ⟨by simp [h.1], fun i y v hy hv => by
    rw [List.getElem?_set] at hy hv
    rw [h.1] at hv
    split at hy
    · rename_i e
      subst e
      split at hy
      · rename_i hl
        simp only [if_true, hl] at hv
        injection hy with hy; injection hv with hv
        subst hy hv; exact hx
      · cases hy
    · rename_i e
      rw [if_neg e] at hv
      exact h.2 i y v hy hv⟩
theorem F2.part {α β : Type} {R : α → β → Prop} {xs : List α} {us : List β} (h : F2 R xs us) (o n : Nat) : F2 R ((xs.drop o).take n) ((us.drop o).take n) :=
  ⟨by simp [h.1], fun i x u hx hu => by
    rw [List.getElem?_take] at hx hu
    split at hx
    · rename_i hi
      rw [if_pos hi] at hu
      rw [List.getElem?_drop] at hx hu
      exact h.2 _ x u hx hu
    · cases hx⟩

/-- It reads so: E are the blocks that may still turn; below B lies what was there before. -/
inductive Ri (w : World) (E : Nat → Prop) (B : Nat) : IV → Value → Prop
  | s (v : Value) : Ri w E B (.s v) v
  | sl (g : Bool) (xs : List IV) (n : Nat) (A : Option Addr) (cap b o : Nat) (us : List Value) (h0 : n = 0 → xs = []) (hA : 0 < n → A = some ⟨b, o, none⟩ ∧ b < w.heap.size ∧ ¬ E b ∧ (g = true → B ≤ b)) (hcap : n ≤ cap ∧ cap ≤ maxLen) (hl : us.length = xs.length)
      (hc : ∀ (j : Nat) u, us[j]? = some u → w.cell? ⟨b, o + j, none⟩ = some u) (hr : ∀ (j : Nat) x u, xs[j]? = some x → us[j]? = some u → Ri w E B x u) : Ri w E B (.sl g xs n) (.slice A n cap)

def C1 (w : World) (E : Nat → Prop) (B : Nat) (β : List (Nat × Nat)) : PV → Value → Prop
  | .im x, u => Ri w E B x u
  | .own k n, u => ∃ b c, β[k]? = some (b, c) ∧ u = .slice (some ⟨b, 0, none⟩) n c
  | .ptr k o, u => ∃ b c, β[k]? = some (b, c) ∧ u = .pointer (some ⟨b, o, none⟩)
  | .at_ xs o, u => ∃ b p us, u = .pointer (some ⟨b, p + o, none⟩) ∧ ¬ E b ∧ b < w.heap.size ∧ (∀ (j : Nat) v, us[j]? = some v → w.cell? ⟨b, p + j, none⟩ = some v) ∧ F2 (Ri w E B) xs us
  | _, _ => False
def CF (w : World) (E : Nat → Prop) (B : Nat) (β : List (Nat × Nat)) : PV → Value → Prop
  | .fn f caps, u => ∃ us, u = .func (.func f) #[] us.toArray ∧ F2 (C1 w E B β) caps us
  | v, u => C1 w E B β v u
def C2 (w : World) (E : Nat → Prop) (B : Nat) (β : List (Nat × Nat)) : PV → Value → Prop
  | .agg cs, u => ∃ us, u = .agg us.toArray ∧ F2 (C1 w E B β) cs us
  | v, u => CF w E B β v u
def Cv (w : World) (E : Nat → Prop) (B : Nat) (β : List (Nat × Nat)) : PV → Value → Prop
  | .tup cs, u => ∃ us, u = .tuple us.toArray ∧ F2 (C2 w E B β) cs us
  | v, u => C2 w E B β v u

def Liv (h : List AObj) (β : List (Nat × Nat)) (b : Nat) : Prop := ∃ (k : Nat) (t : TypeId) (xs : List PV) (r c : Nat), h[k]? = some (AObj.obj t xs r) ∧ β[k]? = some (b, c)
/-- The object is there. -/
def ObjAt (w : World) (E : Nat → Prop) (B : Nat) (β : List (Nat × Nat)) (k : Nat) (t : TypeId) (xs : List PV) (r : Nat) : Prop :=
  ∃ b c us junk, β[k]? = some (b, c) ∧ w.heap[b]? = some (.cells (us ++ junk).toArray t (0, 0)) ∧ F2 (C1 w E B β) xs us ∧ (∀ u ∈ us, u.oneCell' = true) ∧ (r = 0 → junk = []) ∧ (0 < r → (us ++ junk).length = c * r ∧ c ≤ maxLen)
structure HeapOk (w : World) (B : Nat) (h : List AObj) (β : List (Nat × Nat)) : Prop where
  len : β.length = h.length
  ok : ∀ (k : Nat) (t : TypeId) (xs : List PV) (r : Nat), h[k]? = some (AObj.obj t xs r) → ObjAt w (Liv h β) B β k t xs r
  inj : ∀ (j k : Nat) (t : TypeId) (xs : List PV) (r : Nat) (t' : TypeId) (xs' : List PV) (r' b c c' : Nat), h[j]? = some (AObj.obj t xs r) → h[k]? = some (AObj.obj t' xs' r') → β[j]? = some (b, c) → β[k]? = some (b, c') → j = k

/-! ### Kept -/
section
variable {w w' : World} {E E' : Nat → Prop} {B B' : Nat} {β β' : List (Nat × Nat)}
theorem Ri.keep (hk : ∀ b, b < w.heap.size → ¬ E b → w'.heap[b]? = w.heap[b]?) (hs : w.heap.size ≤ w'.heap.size) (hE : ∀ b, b < w.heap.size → E' b → E b) {x : IV} {u : Value} (h : Ri w E B x u) : Ri w' E' B x u := by
  induction h with
  | s v => exact .s v
  | sl g xs n A cap b o us h0 hA hcap hl hc hr ih =>
    refine .sl g xs n A cap b o us h0 (fun h => ⟨(hA h).1, Nat.lt_of_lt_of_le (hA h).2.1 hs, fun e => (hA h).2.2.1 (hE b (hA h).2.1 e), (hA h).2.2.2⟩) hcap hl (fun j u hu => ?_) ih
    have hn : 0 < n := by
      rcases Nat.eq_zero_or_pos n with hn | hn
      · have hx := h0 hn
        have : us = [] := List.length_eq_zero_iff.1 (by rw [hl, hx]; rfl)
        rw [this] at hu; simp at hu
      · exact hn
    exact (World.cell?_of_block (a := ⟨b, o + j, none⟩) (hk b (hA hn).2.1 (hA hn).2.2.1)).trans (hc j u hu)
theorem C1.keep (hk : ∀ b, b < w.heap.size → ¬ E b → w'.heap[b]? = w.heap[b]?) (hs : w.heap.size ≤ w'.heap.size) (hE : ∀ b, b < w.heap.size → E' b → E b) (hβ : ∀ (k : Nat) p, β[k]? = some p → β'[k]? = some p) {v : PV} {u : Value} (h : C1 w E B β v u) : C1 w' E' B β' v u := by
  cases v with
  | im x => exact Ri.keep hk hs hE h
  | own k n => obtain ⟨b, c, h1, h2⟩ := h; exact ⟨b, c, hβ _ _ h1, h2⟩
  | ptr k o => obtain ⟨b, c, h1, h2⟩ := h; exact ⟨b, c, hβ _ _ h1, h2⟩
  | at_ xs o =>
    obtain ⟨b, p, us, h1, h2, h3, h4, h5⟩ := h
    exact ⟨b, p, us, h1, fun e => h2 (hE b h3 e), Nat.lt_of_lt_of_le h3 hs, fun j v hv => (World.cell?_of_block (a := ⟨b, p + j, none⟩) (hk b h3 h2)).trans (h4 j v hv), h5.mono fun x u h => h.keep hk hs hE⟩
  | fn f caps => exact h.elim
  | agg cs => exact h.elim
  | tup cs => exact h.elim
theorem CF.keep (hk : ∀ b, b < w.heap.size → ¬ E b → w'.heap[b]? = w.heap[b]?) (hs : w.heap.size ≤ w'.heap.size) (hE : ∀ b, b < w.heap.size → E' b → E b) (hβ : ∀ (k : Nat) p, β[k]? = some p → β'[k]? = some p) {v : PV} {u : Value} (h : CF w E B β v u) : CF w' E' B β' v u := by
  cases v with
  | fn f caps => obtain ⟨us, h1, h2⟩ := h; exact ⟨us, h1, h2.mono fun x u h => h.keep hk hs hE hβ⟩
  | im x => exact C1.keep (v := .im x) (u := u) (B := B) hk hs hE hβ h
  | own k n => exact C1.keep (v := .own k n) (u := u) (B := B) hk hs hE hβ h
  | ptr k o => exact C1.keep (v := .ptr k o) (u := u) (B := B) hk hs hE hβ h
  | at_ xs o => exact C1.keep (v := .at_ xs o) (u := u) (B := B) hk hs hE hβ h
  | agg cs => exact h.elim
  | tup cs => exact h.elim
theorem C2.keep (hk : ∀ b, b < w.heap.size → ¬ E b → w'.heap[b]? = w.heap[b]?) (hs : w.heap.size ≤ w'.heap.size) (hE : ∀ b, b < w.heap.size → E' b → E b) (hβ : ∀ (k : Nat) p, β[k]? = some p → β'[k]? = some p) {v : PV} {u : Value} (h : C2 w E B β v u) : C2 w' E' B β' v u := by
  cases v with
  | agg cs => obtain ⟨us, h1, h2⟩ := h; exact ⟨us, h1, h2.mono fun x u h => h.keep hk hs hE hβ⟩
  | im x => exact CF.keep (v := .im x) (u := u) (B := B) hk hs hE hβ h
  | own k n => exact CF.keep (v := .own k n) (u := u) (B := B) hk hs hE hβ h
  | ptr k o => exact CF.keep (v := .ptr k o) (u := u) (B := B) hk hs hE hβ h
  | at_ xs o => exact CF.keep (v := .at_ xs o) (u := u) (B := B) hk hs hE hβ h
  | fn f caps => exact CF.keep (v := .fn f caps) (u := u) (B := B) hk hs hE hβ h
  | tup cs => exact h.elim
theorem Cv.keep (hk : ∀ b, b < w.heap.size → ¬ E b → w'.heap[b]? = w.heap[b]?) (hs : w.heap.size ≤ w'.heap.size) (hE : ∀ b, b < w.heap.size → E' b → E b) (hβ : ∀ (k : Nat) p, β[k]? = some p → β'[k]? = some p) {v : PV} {u : Value} (h : Cv w E B β v u) : Cv w' E' B β' v u := by
  cases v with
  | tup cs => obtain ⟨us, h1, h2⟩ := h; exact ⟨us, h1, h2.mono fun x u h => h.keep hk hs hE hβ⟩
  | im x => exact C2.keep (v := .im x) (u := u) (B := B) hk hs hE hβ h
  | own k n => exact C2.keep (v := .own k n) (u := u) (B := B) hk hs hE hβ h
  | ptr k o => exact C2.keep (v := .ptr k o) (u := u) (B := B) hk hs hE hβ h
  | at_ xs o => exact C2.keep (v := .at_ xs o) (u := u) (B := B) hk hs hE hβ h
  | fn f caps => exact C2.keep (v := .fn f caps) (u := u) (B := B) hk hs hE hβ h
  | agg cs => exact C2.keep (v := .agg cs) (u := u) (B := B) hk hs hE hβ h
/-- What reads so, read with less in mind: fewer blocks may turn. -/
theorem C1.one {v : PV} {u : Value} (h : C1 w E B β v u) (hv : ∀ v', v = .im (.s v') → v'.oneCell' = true) : u.oneCell' = true := by
  cases v with
  | im x =>
    cases h with
    | s v => exact hv _ rfl
    | sl => rfl
  | own k n => obtain ⟨b, c, _, rfl⟩ := h; rfl
  | ptr k o => obtain ⟨b, c, _, rfl⟩ := h; rfl
  | at_ xs o => obtain ⟨b, p, us, rfl, _⟩ := h; rfl
  | fn f caps => exact h.elim
  | agg cs => exact h.elim
  | tup cs => exact h.elim
end

/-! ### What a call has done so far; what the frame holds -/
structure Step (w : World) (h : List AObj) (β : List (Nat × Nat)) (w' : World) (h' : List AObj) (β' : List (Nat × Nat)) : Prop where
  os : w'.os = w.os
  tape : w'.tape = w.tape
  output : w'.output = w.output
  size : w.heap.size ≤ w'.heap.size
  block : ∀ b, b < w.heap.size → ¬ Liv h β b → w'.heap[b]? = w.heap[b]?
  new : ∀ b, b < w.heap.size → Liv h' β' b → Liv h β b
  beta : ∀ (k : Nat) p, β[k]? = some p → β'[k]? = some p
theorem Step.refl (w : World) (h : List AObj) (β : List (Nat × Nat)) : Step w h β w h β := ⟨rfl, rfl, rfl, Nat.le_refl _, fun _ _ _ => rfl, fun _ _ h => h, fun _ _ h => h⟩
theorem Step.trans {w w' w'' : World} {h h' h'' : List AObj} {β β' β'' : List (Nat × Nat)} (a : Step w h β w' h' β') (b : Step w' h' β' w'' h'' β'') : Step w h β w'' h'' β'' :=
  ⟨b.os.trans a.os, b.tape.trans a.tape, b.output.trans a.output, Nat.le_trans a.size b.size,
    fun k hk hn => (b.block k (Nat.lt_of_lt_of_le hk a.size) (fun e => hn (a.new k hk e))).trans (a.block k hk hn),
    fun k hk e => a.new k hk (b.new k (Nat.lt_of_lt_of_le hk a.size) e), fun k p h => b.beta k p (a.beta k p h)⟩
theorem Step.of_below {w w' : World} {h : List AObj} {β : List (Nat × Nat)} (hb : Below w.heap.size w w') : Step w h β w' h β := ⟨hb.os, hb.tape, hb.output, hb.size, fun b hl _ => hb.block b hl, fun _ _ h => h, fun _ _ h => h⟩

structure Ctx where
  w : World
  h : List AObj
  β : List (Nat × Nat)
  N : Nat
  B : Nat
structure Sim (C : Ctx) (st : St) (a : Act) (w : World) (β : List (Nat × Nat)) : Prop where
  cl : C.β.length = C.h.length
  bw : C.B ≤ C.w.heap.size
  step : Step C.w C.h C.β w st.h β
  heap : HeapOk w C.B st.h β
  sz : a.tmps.size = C.N
  df : a.defers = []
  tm : ∀ i v, slot st.t i = some v → ∃ u, a.tmps[i]? = some u ∧ Cv w (Liv st.h β) C.B β v u

def opv (t : List (Nat × PV)) : Operand → Option PV
  | .tmp i => slot t i
  | .const v => some (.im (.s v))
  | .func f => some (.fn f [])
  | .global _ => none
section
variable {C : Ctx} {st : St} {a : Act} {w w' : World} {β β' : List (Nat × Nat)}
theorem Sim.op (S : Sim C st a w β) {x : Operand} {v : PV} (h : opv st.t x = some v) : Cv w (Liv st.h β) C.B β v (a.eval x) := by
  cases x with
  | tmp i =>
    obtain ⟨u, h1, h2⟩ := S.tm i v h
    have e : a.eval (.tmp i) = u := by simp [Act.eval, Array.getD_eq_getD_getElem?, h1]
    rw [e]; exact h2
  | const c => simp only [opv, Option.some.injEq] at h; subst h; exact Ri.s c
  | func f => simp only [opv, Option.some.injEq] at h; subst h; exact ⟨[], rfl, F2.nil⟩
  | global g => cases h
end
end Go.Proofs.Ytkeihpihphefgaa
