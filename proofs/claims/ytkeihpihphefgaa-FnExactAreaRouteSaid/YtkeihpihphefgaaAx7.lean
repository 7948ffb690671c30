/- The abstract machine: regions that draw their order; a function's beginning and end. No program is named here. -/
import Derived.Test.YtkeihpihphefgaaAx6
namespace Go.Proofs.Ytkeihpihphefgaa
open Go.RowKit

section
variable {P : Program} {st st0 : St} {M N : Nat} {Q : AQ} {o : Oper} {ops : Array Oper} {rest : List (Oper × Bool)} {tail : List Oper} {f : Bool}
theorem eff_val {v : PV} (hv : Val P st o v) : EffR P true o st (· = st.put o.dst v) := fun C a w β S hd K Q' hK => by
  obtain ⟨u, h1, h2⟩ := hv C a w β S
  have hr := h2 w (Nat.le_refl _) (fun _ _ => rfl)
  unfold Oper.wp
  rw [hr]
  have hh : (st.put o.dst v).h = st.h := by cases o.dst <;> rfl
  exact hK _ u w β rfl (S.putO hd h1) (by rw [hh]; exact Step.refl _ _ _) fun _ => Below.refl _ _
/-- Two frames at once: what was known when the statement began, and what is known now. -/
def apl (P : Program) (M N : Nat) (ops : Array Oper) (Q : AQ) (tail : List Oper) (l : List (Oper × Bool)) (st0 st : St) : Prop := ∀ C a w0 β0 w β, C.N = N → C.h.length = M → Sim C st0 a w0 β0 → Sim C st a w β → Step w0 st0.h β0 w st.h β → Below w0.heap.size w0 w → wpPlan P ops (conc C Q) (fun w' => Below w0.heap.size w0 w') (fun a' w' => wpList P ops (conc C Q) tail a' w') l a w
theorem Sim.drew {C : Ctx} {a : Act} {w : World} {β : List (Nat × Nat)} (S : Sim C st a w β) : Sim C st a w.drew β := S.world (w' := w.drew) ⟨rfl, rfl, rfl, Nat.le_refl _, fun _ _ _ => rfl, fun _ _ h => h, fun _ _ h => h⟩ ⟨S.heap.len, fun k t xs r hk => by
    obtain ⟨b, c, hb⟩ := beta_get S.heap hk
    exact (S.heap.ok k t xs r hk).keep hb rfl (fun _ _ _ => rfl) (Nat.le_refl _) (fun _ _ h => h) (fun _ _ h => h), S.heap.inj⟩
theorem awp_plan {l : List Oper} (id n : Nat) (ord : List (Nat × Bool)) (hm : P.follows .mixedOrders = true) (hB : planB .any l.toArray n ord = true) (h : apl P M N l.toArray Q (l.drop n) (picked l ord) st st) : awp P M N (.region id l.toArray true) Q st := fun C a w β hN hM S =>
  wp_region_plan n ord (fun w' => Below w.drew.heap.size w.drew w') hm hB (Below.refl _ _) (h C a w.drew β w.drew β hN hM S.drew S.drew (Step.refl _ _ _) (Below.refl _ _))
theorem apl_nil (h : awl P M N ops Q tail st) : apl P M N ops Q tail [] st0 st := fun C a _ _ w β hN hM _ S _ _ => wpPlan_nil (h C a w β hN hM S)
theorem quiet_of {C : Ctx} {a : Act} {w0 : World} {β0 : List (Nat × Nat)} {v : PV} (hv : Val P st0 o v) (S0 : Sim C st0 a w0 β0) : ∃ u, Cv w0 (Liv st0.h β0) C.B β0 v u ∧ ∀ K : Act → Prop, K (a.put o.dst u) → o.quiet P a (fun w' => Below w0.heap.size w0 w') K := by
  obtain ⟨u, h1, h2⟩ := hv C a w0 β0 S0
  refine ⟨u, h1, fun K hK => ⟨u, fun w' hw' => ?_, hK⟩⟩
  have := h2 w' hw'.size hw'.block
  unfold Oper.quietAt
  rw [this]
  exact ⟨rfl, rfl⟩
theorem apl_val0 {v : PV} (hvo : valOp o.op = true) (hw : ∀ C a w β, C.N = N → Sim C st a w β → Region.wanted o (yielded ops a.tmps) = true) (hv : Val P st0 o v) (hd : ∀ i, o.dst = some i → i < N) (h : apl P M N ops Q tail rest (st0.put o.dst v) (st.put o.dst v)) : apl P M N ops Q tail ((o, true) :: rest) st0 st := fun C a w0 β0 w β hN hM S0 S hs hb => by
  refine wpPlan_val (hw C a w β hN S) (by simp [hvo]) fun K hK => ?_
  obtain ⟨u, h1, h2⟩ := quiet_of hv S0
  have e0 : (st0.put o.dst v).h = st0.h := by cases o.dst <;> rfl
  have e1 : (st.put o.dst v).h = st.h := by cases o.dst <;> rfl
  exact h2 K (hK _ (h C _ w0 β0 w β hN hM (S0.putO (by rw [hN]; exact hd) h1) (S.putO (by rw [hN]; exact hd) (h1.keep hs.block hs.size hs.new hs.beta)) (by rw [e0, e1]; exact hs) hb))
theorem apl_val {v : PV} (hvo : valOp o.op = true) (hg : o.guard = none) (hv : Val P st0 o v) (hd : ∀ i, o.dst = some i → i < N) (h : apl P M N ops Q tail rest (st0.put o.dst v) (st.put o.dst v)) : apl P M N ops Q tail ((o, true) :: rest) st0 st :=
  apl_val0 hvo (fun _ _ _ _ _ _ => wanted_none hg _) hv hd h
theorem apl_valg {v : PV} {j d : Nat} {want : Bool} (hvo : valOp o.op = true) (hg : o.guard = some (j, want)) (hj : (ops[j]?).bind (·.dst) = some d) (hs : slot st.t d = some (.im (.s (.bool want)))) (hv : Val P st0 o v) (hd : ∀ i, o.dst = some i → i < N) (h : apl P M N ops Q tail rest (st0.put o.dst v) (st.put o.dst v)) : apl P M N ops Q tail ((o, true) :: rest) st0 st :=
  apl_val0 hvo (fun C a w β _ S => (wanted_of S hg hj hs).trans (by cases want <;> rfl)) hv hd h
theorem Sim.other {C : Ctx} {a : Act} {w : World} {β : List (Nat × Nat)} (S : Sim C st a w β) {d : Option Nat} (u : Value) (hd : ∀ i, d = some i → slot st.t i = none) : Sim C st (a.put d u) w β := by
  cases d with
  | none => exact S
  | some d =>
    refine ⟨S.cl, S.bw, S.step, S.heap, by simpa [Act.put] using S.sz, S.df, fun i v hi => ?_⟩
    obtain ⟨u', h1, h2⟩ := S.tm i v hi
    refine ⟨u', ?_, h2⟩
    have hne : d ≠ i := by rintro rfl; rw [hd d rfl] at hi; cases hi
    simp [Act.put, hne, h1]
theorem apl_eff0 {R : St → Prop} (hf : (f && valOp o.op) = false) (hw : ∀ C a w β, C.N = N → Sim C st a w β → Region.wanted o (yielded ops a.tmps) = true) (he : EffR P true o st R) (hd : ∀ i, o.dst = some i → i < N) (hn : ∀ i, o.dst = some i → slot st0.t i = none) (h : ∀ st', R st' → apl P M N ops Q tail rest st0 st') : apl P M N ops Q tail ((o, f) :: rest) st0 st := fun C a w0 β0 w β hN hM S0 S hs hb => by
  refine wpPlan_eff (hw C a w β hN S) hf fun K hK => ?_
  refine he C a w β S (by rw [hN]; exact hd) _ _ fun st' u w' β' hR S' hs' hb' => ?_
  have hb2 : Below w0.heap.size w0 w' := hb.trans ((hb' rfl).mono hb.size)
  exact hK _ _ hb2 (h st' hR C _ w0 β0 w' β' hN hM (S0.other u hn) S' (hs.trans hs') hb2)
theorem apl_eff {R : St → Prop} (hf : (f && valOp o.op) = false) (hg : o.guard = none) (he : EffR P true o st R) (hd : ∀ i, o.dst = some i → i < N) (hn : ∀ i, o.dst = some i → slot st0.t i = none) (h : ∀ st', R st' → apl P M N ops Q tail rest st0 st') : apl P M N ops Q tail ((o, f) :: rest) st0 st :=
  apl_eff0 hf (fun _ _ _ _ _ _ => wanted_none hg _) he hd hn h
theorem apl_effg {R : St → Prop} {j d : Nat} {want : Bool} (hf : (f && valOp o.op) = false) (hg : o.guard = some (j, want)) (hj : (ops[j]?).bind (·.dst) = some d) (hs : slot st.t d = some (.im (.s (.bool want)))) (he : EffR P true o st R) (hd : ∀ i, o.dst = some i → i < N) (hn : ∀ i, o.dst = some i → slot st0.t i = none) (h : ∀ st', R st' → apl P M N ops Q tail rest st0 st') : apl P M N ops Q tail ((o, f) :: rest) st0 st :=
  apl_eff0 hf (fun C a w β _ S => (wanted_of S hg hj hs).trans (by cases want <;> rfl)) he hd hn h
theorem apl_skip {j d : Nat} {want : Bool} (hg : o.guard = some (j, want)) (hj : (ops[j]?).bind (·.dst) = some d) (hs : slot st.t d = some (.im (.s (.bool (!want))))) (hd : ∀ i, o.dst = some i → i < N) (h : apl P M N ops Q tail rest (st0.put o.dst (.im (.s undef))) (st.put o.dst (.im (.s undef)))) : apl P M N ops Q tail ((o, f) :: rest) st0 st := fun C a w0 β0 w β hN hM S0 S hst hb => by
  refine wpPlan_skip ((wanted_of S hg hj hs).trans (by cases want <;> rfl)) ?_
  have e0 : (st0.put o.dst (.im (.s undef))).h = st0.h := by cases o.dst <;> rfl
  have e1 : (st.put o.dst (.im (.s undef))).h = st.h := by cases o.dst <;> rfl
  exact h C _ w0 β0 w β hN hM (S0.putO (by rw [hN]; exact hd) (Ri.s undef)) (S.putO (by rw [hN]; exact hd) (Ri.s undef)) (by rw [e0, e1]; exact hst) hb
theorem apl_split {d : Nat} {b : Bool} {l : List (Oper × Bool)} (hs : slot st.t d = some (.im (.s (.bool b)))) (ht : b = true → apl P M N ops Q tail l st0 ⟨(d, .im (.s (.bool true))) :: st.t, st.h⟩) (hf : b = false → apl P M N ops Q tail l st0 ⟨(d, .im (.s (.bool false))) :: st.t, st.h⟩) : apl P M N ops Q tail l st0 st := fun C a w0 β0 w β hN hM S0 S hst hb => by
  have key : ∀ v, slot st.t d = some v → Sim C ⟨(d, v) :: st.t, st.h⟩ a w β := fun v hv => by
    refine ⟨S.cl, S.bw, S.step, S.heap, S.sz, S.df, fun i v' hi => ?_⟩
    simp only [Go.Proofs.Ytkeihpihphefgaa.slot] at hi
    by_cases e : d = i
    · subst e
      simp only [Nat.beq_refl, cond_true, Option.some.injEq] at hi
      subst hi
      exact S.tm d v hv
    · have hb : Nat.beq d i = false := by
        cases hq : Nat.beq d i with
        | false => rfl
        | true => exact absurd (Nat.eq_of_beq_eq_true hq) e
      rw [hb] at hi
      exact S.tm i v' hi
  cases b with
  | true => exact ht rfl C a w0 β0 w β hN hM S0 (key _ hs) hst hb
  | false => exact hf rfl C a w0 β0 w β hN hM S0 (key _ hs) hst hb
end

/-! ### A function -/
/-- It shares nothing with what was there. -/
def New1 (v : PV) : Prop := ∀ (w : World) (E : Nat → Prop) B β u, C1 w E B β v u → C1 w (fun b => E b ∨ b < B) B β v u
def NewI (v : IV) : Prop := ∀ (w : World) (E : Nat → Prop) B u, Ri w E B v u → Ri w (fun b => E b ∨ b < B) B v u
theorem newI_s {v : Value} : NewI (.s v) := fun _ _ _ _ h => by cases h; exact .s v
theorem newI_sl {xs : List IV} {n : Nat} (hx : ∀ x ∈ xs, NewI x) : NewI (.sl true xs n) := fun w E B u h => by
  cases h with
  | sl _ _ _ A cap b o us h0 hA hcap hl hc hr =>
    exact .sl true xs n A cap b o us h0 (fun h => ⟨(hA h).1, (hA h).2.1, fun e => by
      rcases e with e | e
      · exact (hA h).2.2.1 e
      · have := (hA h).2.2.2 rfl; omega, (hA h).2.2.2⟩) hcap hl hc (fun j x u hx' hu => hx x (List.mem_of_getElem? hx') w E B u (hr j x u hx' hu))
theorem new_im {x : IV} (h : NewI x) : New1 (.im x) := fun w E B _ u hc => h w E B u hc
theorem new_s {v : Value} : New1 (.im (.s v)) := new_im newI_s
theorem new_own {k n : Nat} : New1 (.own k n) := fun _ _ _ _ _ h => h
theorem new_ptr {k n : Nat} : New1 (.ptr k n) := fun _ _ _ _ _ h => h
theorem new_ims {xs : List IV} (h : ∀ x ∈ xs, NewI x) : ∀ v ∈ ims xs, New1 v := fun v hv => by
  obtain ⟨x, hx, rfl⟩ := List.mem_map.1 hv
  exact new_im (h x hx)
theorem newI_flat {xs : List IV} (h : xs.all IV.flat = true) : ∀ x ∈ xs, NewI x := fun x hx => by
  have := List.all_eq_true.1 h x hx
  cases x with
  | s v => exact newI_s
  | sl => cases this
def New2 : PV → Prop
  | .agg cs => ∀ v ∈ cs, New1 v
  | .tup _ => False
  | .fn _ _ => False
  | v => New1 v
def NewV : PV → Prop
  | .tup cs => ∀ v ∈ cs, New2 v
  | v => New2 v
def NewO : List AObj → Prop
  | [] => True
  | .dead :: r => NewO r
  | .obj _ xs _ :: r => (∀ v ∈ xs, New1 v) ∧ NewO r
theorem F2.monoI {α γ : Type} {R R' : α → γ → Prop} {xs : List α} {us : List γ} (h : F2 R xs us) (hr : ∀ x ∈ xs, ∀ u, R x u → R' x u) : F2 R' xs us := ⟨h.1, fun i x u hx hu => hr x (List.mem_of_getElem? hx) u (h.2 i x u hx hu)⟩
theorem New2.cv {w : World} {E : Nat → Prop} {B : Nat} {β : List (Nat × Nat)} {v : PV} {u : Value} (h : New2 v) (hc : C2 w E B β v u) : C2 w (fun b => E b ∨ b < B) B β v u := by
  cases v with
  | agg cs => obtain ⟨us, h1, h2⟩ := hc; exact ⟨us, h1, h2.monoI fun x hx u hu => h x hx w E B β u hu⟩
  | tup cs => exact h.elim
  | fn f cs => exact h.elim
  | im x => exact h w E B β u hc
  | own k n => exact h w E B β u hc
  | ptr k n => exact h w E B β u hc
  | at_ xs o => exact h w E B β u hc
theorem NewV.cv {w : World} {E : Nat → Prop} {B : Nat} {β : List (Nat × Nat)} {v : PV} {u : Value} (h : NewV v) (hc : Cv w E B β v u) : Cv w (fun b => E b ∨ b < B) B β v u := by
  cases v with
  | tup cs => obtain ⟨us, h1, h2⟩ := hc; exact ⟨us, h1, h2.monoI fun x hx u hu => (h x hx).cv hu⟩
  | agg cs => exact New2.cv (v := .agg cs) h hc
  | fn f cs => exact h.elim
  | im x => exact New2.cv (v := .im x) (β := β) h hc
  | own k n => exact New2.cv (v := .own k n) (w := w) (E := E) (B := B) (β := β) h hc
  | ptr k n => exact New2.cv (v := .ptr k n) (w := w) (E := E) (B := B) (β := β) h hc
  | at_ xs o => exact New2.cv (v := .at_ xs o) (w := w) (E := E) (B := B) (β := β) h hc
theorem NewO.get : ∀ {h : List AObj}, NewO h → ∀ (k : Nat) t xs r, h[k]? = some (.obj t xs r) → ∀ v ∈ xs, New1 v
  | [], _, k, t, xs, r, hk => by simp at hk
  | .dead :: l, hn, k, t, xs, r, hk => by
    cases k with
    | zero => simp at hk
    | succ k => exact NewO.get (h := l) hn k t xs r (by simpa using hk)
  | .obj t' xs' r' :: l, ⟨h1, h2⟩, k, t, xs, r, hk => by
    cases k with
    | zero =>
      simp only [List.getElem?_cons_zero, Option.some.injEq, AObj.obj.injEq] at hk
      obtain ⟨rfl, rfl, rfl⟩ := hk
      exact h1
    | succ k => exact NewO.get (h := l) h2 k t xs r (by simpa using hk)

/-- What the results' places hold. -/
def ARes (P : Program) (fn : Func) (st : St) (d : PV) : Prop := ∀ C a w β, Sim C st a w β → ∃ u, (results fn a.tmps).run P w = .ok u w ∧ Cv w (Liv st.h β) C.B β d u
/-- Some objects are let go. -/
def Kill (h' h : List AObj) : Prop := h'.length = h.length ∧ ∀ (k : Nat) t xs r, h'[k]? = some (AObj.obj t xs r) → h[k]? = some (.obj t xs r)
theorem Kill.refl (h : List AObj) : Kill h h := ⟨rfl, fun _ _ _ _ h => h⟩
theorem Kill.nil : Kill [] [] := Kill.refl _
theorem Kill.dead {h' h : List AObj} (x : AObj) (k : Kill h' h) : Kill (.dead :: h') (x :: h) := ⟨by simp [k.1], fun i t xs r hi => by
  cases i with
  | zero => simp at hi
  | succ i => simpa using k.2 i t xs r (by simpa using hi)⟩
theorem Kill.keep {h' h : List AObj} (x : AObj) (k : Kill h' h) : Kill (x :: h') (x :: h) := ⟨by simp [k.1], fun i t xs r hi => by
  cases i with
  | zero => simpa using hi
  | succ i => simpa using k.2 i t xs r (by simpa using hi)⟩
/-- No object is spoken of. -/
def Frz1 : PV → Prop
  | .im _ => True
  | _ => False
def Frz2 : PV → Prop
  | .agg cs => ∀ v ∈ cs, Frz1 v
  | v => Frz1 v
def Frz : PV → Prop
  | .tup cs => ∀ v ∈ cs, Frz2 v
  | v => Frz2 v
theorem Frz1.cv {w : World} {E E' : Nat → Prop} {B : Nat} {β β' : List (Nat × Nat)} (hE : ∀ b, E' b → E b) {v : PV} {u : Value} (h : Frz1 v) (hc : C1 w E B β v u) : C1 w E' B β' v u := by
  cases v with
  | im x => exact Ri.weak hE (Nat.le_refl _) hc
  | _ => exact h.elim
theorem Frz2.cv {w : World} {E E' : Nat → Prop} {B : Nat} {β β' : List (Nat × Nat)} (hE : ∀ b, E' b → E b) {v : PV} {u : Value} (h : Frz2 v) (hc : C2 w E B β v u) : C2 w E' B β' v u := by
  cases v with
  | im x => exact Frz1.cv (v := .im x) (β := β) (β' := β') hE h hc
  | agg cs => obtain ⟨us, h1, h2⟩ := hc; exact ⟨us, h1, h2.monoI fun x hx u hu => (h x hx).cv hE hu⟩
  | _ => exact h.elim
theorem Frz.cv {w : World} {E E' : Nat → Prop} {B : Nat} {β β' : List (Nat × Nat)} (hE : ∀ b, E' b → E b) {v : PV} {u : Value} (h : Frz v) (hc : Cv w E B β v u) : Cv w E' B β' v u := by
  cases v with
  | im x => exact Frz2.cv (v := .im x) (β := β) (β' := β') hE h hc
  | agg cs => exact Frz2.cv (v := .agg cs) (β := β) (β' := β') hE h hc
  | tup cs => obtain ⟨us, h1, h2⟩ := hc; exact ⟨us, h1, h2.monoI fun x hx u hu => (h x hx).cv hE hu⟩
  | _ => exact h.elim
def AEnd (P : Program) (fn : Func) (R : PV → List AObj → Prop) : AQ := fun e st => (e = .normal ∨ e = .ret) ∧ ∃ st1 d h', Imp 0 st1 st ∧ ARes P fn st1 d ∧ (Kill h' st1.h ∨ h' = [] ∧ Frz d) ∧ R d h' ∧ NewV d ∧ NewO h'
def nums : Nat → List PV → List (Nat × PV)
  | _, [] => []
  | i, d :: r => (i, d) :: nums (i + 1) r
theorem slot_nums : ∀ (ds : List PV) (i j : Nat) (v : PV), slot (nums i ds) j = some v → i ≤ j ∧ ds[j - i]? = some v
  | [], i, j, v, h => by cases h
  | d :: r, i, j, v, h => by
    simp only [nums, slot] at h
    by_cases e : i = j
    · subst e
      simp only [Nat.beq_refl, cond_true, Option.some.injEq] at h
      subst h
      simp
    · have hb : Nat.beq i j = false := by
        cases hq : Nat.beq i j with
        | false => rfl
        | true => exact absurd (Nat.eq_of_beq_eq_true hq) e
      rw [hb] at h
      obtain ⟨h1, h2⟩ := slot_nums r (i + 1) j v h
      refine ⟨by omega, ?_⟩
      rw [show j - i = (j - (i + 1)) + 1 by omega]
      simpa using h2
theorem ac_of {P : Program} {f : FuncId} {fn : Func} {c : Code} {ds : List PV} {R : PV → List AObj → Prop} (hf : P.funcs[f]? = some fn) (hb : fn.body = some c) (hds : ds.length ≤ fn.ntmps) (h : awp P 0 fn.ntmps c (AEnd P fn R) ⟨nums 0 ds, []⟩) : AC P f ds R := fun w args hargs => by
  refine calls_of_wp hf hb ?_
  have hw := h ⟨w, [], [], fn.ntmps, w.heap.size⟩ { tmps := args.toArray ++ Array.replicate (fn.ntmps - args.toArray.size) undef, defers := [] } w [] rfl rfl
    ⟨rfl, Nat.le_refl _, Step.refl _ _ _, ⟨rfl, fun k t xs r hk => by simp at hk, fun j k t xs r t' xs' r' b c c' hj => by simp at hj⟩, by have := hargs.1; simp; omega, rfl, fun i v hi => by
      obtain ⟨_, h1⟩ := slot_nums ds 0 i v hi
      rw [Nat.sub_zero] at h1
      obtain ⟨u, hu, hR⟩ := hargs.get h1
      refine ⟨u, ?_, hR.keep (fun _ _ _ => rfl) (Nat.le_refl _) (fun b _ hl => by obtain ⟨k, t, xs, r, c, h1, _⟩ := hl; simp at h1) (fun _ _ h => h)⟩
      have hl : i < args.length := (List.getElem?_eq_some_iff.1 hu).1
      show (args.toArray ++ Array.replicate (fn.ntmps - args.toArray.size) undef)[i]? = some u
      rw [Array.getElem?_append_left (by simpa using hl)]
      simpa using hu⟩
  refine wp_mono hw ?_
  rintro e a' w' ⟨st', β', ⟨he, st1, d, h', hi, hres, hkl, hR, hn, hno⟩, S'⟩
  obtain ⟨β1, S1⟩ := hi _ a' w' β' rfl S'
  obtain ⟨u, hu, hc⟩ := hres _ a' w' β1 S1
  have hs := S1.step
  have hbel : Below w.heap.size w w' := ⟨hs.os, hs.tape, hs.output, hs.size, fun b hb => hs.block b hb (fun ⟨k, t, xs, r, c, h1, _⟩ => by simp at h1)⟩
  have hfin : ∃ β, Res w w' h' β d u := by
    rcases hkl with hkl | ⟨rfl, hfz⟩
    case inr =>
      have no : ∀ b, ¬ Liv [] [] b := fun b ⟨k, t, xs, r, c, h1, _⟩ => by simp at h1
      exact ⟨[], hbel, rfl, fun k t xs r hk => by simp at hk, fun j k t xs r t' xs' r' b c c' hj => by simp at hj, fun b hb => absurd hb (no b), hfz.cv (fun b hb => hb.elim (fun h => absurd h (no b)) .inr) (hn.cv hc)⟩
    refine ⟨β1, ?_⟩
    have hliv : ∀ b, Liv h' β1 b → Liv st1.h β1 b := fun b ⟨k, t, xs, r, c, h1, h2⟩ => ⟨k, t, xs, r, c, hkl.2 k t xs r h1, h2⟩
    have hE : ∀ b, Liv h' β1 b ∨ b < w.heap.size → Liv st1.h β1 b ∨ b < w.heap.size := fun b h => h.imp (hliv b) id
    refine ⟨hbel, S1.heap.len.trans hkl.1.symm, fun k t xs r hk => ?_, fun j k t xs r t' xs' r' b c c' hj hk bj bk => S1.heap.inj j k t xs r t' xs' r' b c c' (hkl.2 _ _ _ _ hj) (hkl.2 _ _ _ _ hk) bj bk, fun b hb => ?_, ?_⟩
    · obtain ⟨b, c, us, junk, h1, h2, h3, h4⟩ := S1.heap.ok k t xs r (hkl.2 k t xs r hk)
      refine ⟨b, c, us, junk, h1, h2, (h3.monoI fun x hx u hu => hno.get k t xs r hk x hx _ _ _ _ u hu).mono fun x u h => ?_, h4⟩
      exact h.keep (fun _ _ _ => rfl) (Nat.le_refl _) (fun b _ => hE b) (fun _ _ h => h)
    · rcases Nat.lt_or_ge b w.heap.size with h | h
      · obtain ⟨k, t, xs, r, c, h1, _⟩ := hs.new b h (hliv b hb)
        simp at h1
      · exact h
    · exact (hn.cv hc).keep (fun _ _ _ => rfl) (Nat.le_refl _) (fun b _ => hE b) (fun _ _ h => h)
  obtain ⟨β2, hfin⟩ := hfin
  rcases he with rfl | rfl
  · exact ⟨S1.df, u, hu, u, d, h', β2, rfl, hR, hfin⟩
  · exact ⟨S1.df, u, hu, u, d, h', β2, rfl, hR, hfin⟩
theorem ares1 {P : Program} {fn : Func} {st : St} {t : Nat} {v : PV} (hr : fn.results = #[.tmp t]) (hs : slot st.t t = some v) : ARes P fn st v := fun C a w β S => by
  obtain ⟨u, h1, h2⟩ := S.tm t v hs
  refine ⟨u, ?_, h2⟩
  rw [results_tmp hr]
  simp [Array.getD_eq_getD_getElem?, h1]
/-- One result's place. -/
def ARV (P : Program) (st : St) (q : ResultVar) (v : PV) : Prop := ∀ C a w β, Sim C st a w β → ∃ u, ((match q with | .tmp t => pure (a.tmps.getD t undef) | .cell p t => do loadVar t (← asAddr (a.tmps.getD p undef)) : Sem Value)).run P w = .ok u w ∧ C2 w (Liv st.h β) C.B β v u
theorem arv_tmp {P : Program} {st : St} {t : Nat} {v : PV} (hs : slot st.t t = some v) (hv : ∀ cs, v ≠ .tup cs) : ARV P st (.tmp t) v := fun C a w β S => by
  obtain ⟨u, h1, h2⟩ := S.tm t v hs
  refine ⟨u, by simp [Array.getD_eq_getD_getElem?, h1], ?_⟩
  cases v <;> first | exact h2 | exact absurd rfl (hv _)
theorem arv_cell1 {P : Program} {st : St} {p k o r : Nat} {t t' : TypeId} {size : Nat} {xs : List PV} {v : PV} [T : TB P t false size] (hs : slot st.t p = some (.ptr k o)) (hk : st.h[k]? = some (.obj t' xs r)) (hv : xs[o]? = some v) (hone : okc v = true) : ARV P st (.cell p t) v := fun C a w β S => by
  obtain ⟨u, h1, b, c, hb, rfl⟩ := S.tm p _ hs
  obtain ⟨b', c', us, junk, hb', hh, hr, h4, _⟩ := S.obj hk
  rw [hb] at hb'
  injection hb' with q
  injection q with e1 e2
  subst e1 e2
  obtain ⟨u, hu, hR⟩ := hr.get hv
  have := run_load1 (P := P) (t := t) (size := size) (obj_cell hh hu)
  simp only [Instr.loadAt, Instr.sureAddr] at this
  refine ⟨u, ?_, by cases v <;> first | exact hR | exact hR.elim⟩
  simp [Array.getD_eq_getD_getElem?, h1, asAddr]
  simpa using this
theorem arv_cellA {P : Program} {st : St} {p k o r : Nat} {t t' : TypeId} {size : Nat} {xs ys : List PV} [T : TB P t true size] (hs : slot st.t p = some (.ptr k o)) (hk : st.h[k]? = some (.obj t' xs r)) (hv : (xs.drop o).take size = ys) (hl : ys.length = size) : ARV P st (.cell p t) (.agg ys) := fun C a w β S => by
  obtain ⟨u, h1, b, c, hb, rfl⟩ := S.tm p _ hs
  obtain ⟨b', c', us, junk, hb', hh, hr, h4, _⟩ := S.obj hk
  rw [hb] at hb'
  injection hb' with q
  injection q with e1 e2
  subst e1 e2
  have h2 := hr.part o size
  rw [hv] at h2
  have := run_loadA (P := P) (t := t) (size := size) (w := w) (b := b) (p := o) (us := (us.drop o).take size) (by rw [h2.1, hl]) (fun j v hj => by
    rw [List.getElem?_take] at hj
    split at hj
    · rw [List.getElem?_drop] at hj
      exact obj_cell hh hj
    · cases hj)
  simp only [Instr.loadAt, Instr.sureAddr] at this
  refine ⟨.agg ((us.drop o).take size).toArray, ?_, ⟨_, rfl, h2⟩⟩
  simp [Array.getD_eq_getD_getElem?, h1, asAddr]
  simpa using this
theorem ares_one {P : Program} {fn : Func} {st : St} {q : ResultVar} {v : PV} (hr : fn.results = #[q]) (hq : ARV P st q v) : ARes P fn st v := fun C a w β S => by
  obtain ⟨u, h1, h2⟩ := hq C a w β S
  refine ⟨u, ?_, ?_⟩
  · cases q <;> simp [results, hr] at h1 ⊢ <;> simp [h1]
  · cases v <;> first | exact h2 | exact h2.elim
theorem andThen_asc {α γ δ : Type} (r : Result α) (f : α → World → Result γ) (g : γ → World → Result δ) : r.andThen (fun a w => (f a w).andThen g) = (r.andThen f).andThen g := by cases r <;> rfl
theorem ares_two {P : Program} {fn : Func} {st : St} {q1 q2 : ResultVar} {v1 v2 : PV} (hr : fn.results = #[q1, q2]) (h1 : ARV P st q1 v1) (h2 : ARV P st q2 v2) : ARes P fn st (.tup [v1, v2]) := fun C a w β S => by
  obtain ⟨u1, g1, c1⟩ := h1 C a w β S
  obtain ⟨u2, g2, c2⟩ := h2 C a w β S
  refine ⟨.tuple #[u1, u2], ?_, ⟨[u1, u2], rfl, F2.cons c1 (F2.cons c2 F2.nil)⟩⟩
  cases q1 <;> cases q2 <;> simp [results, hr] at g1 g2 ⊢ <;> first | done | (simp [g1, g2]; done) | (rw [andThen_asc, g1]; simp [g2]; done) | (rw [andThen_asc, g2]; simp [g1]; done) | (rw [andThen_asc, g1]; simp only [Result.andThen_ok]; rw [andThen_asc, g2]; simp)
end Go.Proofs.Ytkeihpihphefgaa
