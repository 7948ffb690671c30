/- The abstract machine: function values, min and max, structs that are built, an equation between structs. No program is named here. -/
import Derived.Test.YtkeihpihphefgaaAx8
namespace Go.Proofs.Ytkeihpihphefgaa
open Go.RowKit

section
variable {P : Program} {st : St} {o : Oper} {t t' : TypeId} {x y : Operand}
theorem C1.cf {w : World} {E : Nat → Prop} {B : Nat} {β : List (Nat × Nat)} {v : PV} {u : Value} (h : C1 w E B β v u) : CF w E B β v u := by cases v <;> first | exact h | exact h.elim
theorem C1.cv {w : World} {E : Nat → Prop} {B : Nat} {β : List (Nat × Nat)} {v : PV} {u : Value} (h : C1 w E B β v u) : Cv w E B β v u := by cases v <;> first | exact h | exact h.elim
theorem Cv.c1 {w : World} {E : Nat → Prop} {B : Nat} {β : List (Nat × Nat)} {v : PV} {u : Value} (h : Cv w E B β v u) (hv : okc v = true) : C1 w E B β v u := by cases v <;> first | exact h | cases hv
/-- A function value with what it captured. -/
theorem val_fn {f : FuncId} {caps : Array Operand} {vs : List PV} (ho : o.op = .makeFunc (.func f) #[] caps) (hx : F2 (fun x v => opv st.t x = some v ∧ okc v = true) caps.toList vs) : Val P st o (.fn f vs) := fun C a w β S => by
  refine ⟨.func (.func f) #[] (caps.toList.map a.eval).toArray, ⟨_, rfl, by rw [List.length_map]; exact hx.1.symm, fun i v u hv hu => ?_⟩, fun w' _ _ => ?_⟩
  · rw [List.getElem?_map] at hu
    obtain ⟨q, hq, rfl⟩ := Option.map_eq_some_iff.1 hu
    obtain ⟨h1, h2⟩ := hx.2 i q v hq hv
    exact (S.op h1).c1 h2
  · have e : caps.map a.eval = (caps.toList.map a.eval).toArray := by apply Array.ext'; simp
    simp [execOp, ho, Instr.makeFunc, e]
theorem val_min {a b : Int} (ho : o.op = .call { callee := .builtin .min, args := #[x, y], argTypes := #[t, t'] }) (hx : opv st.t x = some (.im (.s (.int .i64 a)))) (hy : opv st.t y = some (.im (.s (.int .i64 b)))) : Val P st o (.im (.s (.int .i64 (min a b)))) := fun C a' w β S =>
  ⟨_, Ri.s _, fun w' _ _ => by
    have : (if b < a then b else a) = min a b := by omega
    simp [execOp, ho, resolve, invoke, builtin, S.ev hx, S.ev hy, Builtin.min_, Builtin.min2, this]⟩
theorem val_max {a b : Int} (ho : o.op = .call { callee := .builtin .max, args := #[x, y], argTypes := #[t, t'] }) (hx : opv st.t x = some (.im (.s (.int .i64 a)))) (hy : opv st.t y = some (.im (.s (.int .i64 b)))) : Val P st o (.im (.s (.int .i64 (max a b)))) := fun C a' w β S =>
  ⟨_, Ri.s _, fun w' _ _ => by
    have : (if a < b then b else a) = max a b := by omega
    simp [execOp, ho, resolve, invoke, builtin, S.ev hx, S.ev hy, Builtin.max_, Builtin.max2, this]⟩
/-- An equation between two structs of plain cells. -/
theorem val_aggeq {op : BinOp} {cs ds : List Value} {r : Value} (ho : o.op = .binOp op t x y t') (hx : opv st.t x = some (.agg (cs.map fun v => .im (.s v)))) (hy : opv st.t y = some (.agg (ds.map fun v => .im (.s v))))
    (h : ∀ w, (do eqGuard op t x y (.agg cs.toArray) (.agg ds.toArray); binOp op t (.agg cs.toArray) (.agg ds.toArray) : Sem Value).run P w = .ok r w) : Val P st o (.im (.s r)) := fun C a w β S => by
  have get : ∀ {cs : List Value} {u : Value}, Cv w (Liv st.h β) C.B β (.agg (cs.map fun v => .im (.s v))) u → u = .agg cs.toArray := fun {cs u} hc => by
    obtain ⟨us, rfl, hF⟩ := hc
    have : us = cs := by
      refine List.ext_getElem? fun i => ?_
      have hl := hF.1
      rw [List.length_map] at hl
      rcases Nat.lt_or_ge i cs.length with hi | hi
      · have hu : us[i]? = some us[i] := List.getElem?_eq_getElem (by omega)
        have := hF.2 i (.im (.s cs[i])) us[i] (by rw [List.getElem?_map, List.getElem?_eq_getElem hi]; rfl) hu
        rw [hu, List.getElem?_eq_getElem hi]
        have h1 : Ri w (Liv st.h β) C.B (.s cs[i]) us[i] := this
        generalize us[i] = q at *
        cases h1; rfl
      · rw [List.getElem?_eq_none hi, List.getElem?_eq_none (by omega)]
    rw [this]
  have ex := get (S.op hx)
  have ey := get (S.op hy)
  exact ⟨r, Ri.s r, fun w' _ _ => by simp only [execOp, ho, ex, ey, Sem.run_bind, h, Result.andThen_ok]; simp⟩

/-! ### A struct that is built -/
class TP (P : Program) (t : TypeId) (places : outParam (List (Nat × Nat))) : Prop where
  pl : ∃ fs, (∀ w, (underlying t).run P w = .ok (.struct fs) w) ∧ ∀ w, (fs.mapM fun f => do pure (f.offset, ← sizeOf f.type) : Sem (Array (Nat × Nat))).run P w = .ok places.toArray w
def bld (places : List (Nat × Nat)) : List PV → List (Nat × PV) → Option (List PV)
  | cs, [] => some cs
  | cs, (i, v) :: r => match places[i]? with
    | some (off, size) => bif Nat.beq (cellsOf v).length size && Nat.ble (off + size) cs.length && (cellsOf v).all okc then bld places (wr cs off (cellsOf v)) r else none
    | none => none
theorem fill_bld {w : World} {E : Nat → Prop} {B : Nat} {β : List (Nat × Nat)} (places : List (Nat × Nat)) : ∀ (parts : List (Nat × PV)) (vals : List (Nat × Value)) (cs cs' : List PV) (us : List Value),
    F2 (fun p q => p.1 = q.1 ∧ Cv w E B β p.2 q.2) parts vals → F2 (C1 w E B β) cs us → bld places cs parts = some cs' → ∃ us', Instr.fill (places.toArray[·]?) us.toArray vals = some us'.toArray ∧ F2 (C1 w E B β) cs' us'
  | [], vals, cs, cs', us, hp, hF, hb => by
    have : vals = [] := List.length_eq_zero_iff.1 hp.1
    subst this
    simp only [bld, Option.some.injEq] at hb
    subst hb
    exact ⟨us, rfl, hF⟩
  | (i, v) :: r, vals, cs, cs', us, hp, hF, hb => by
    match vals, hp.1 with
    | (i', u) :: vr, hl =>
      obtain ⟨e, hv⟩ := hp.2 0 _ _ rfl rfl
      have e : i = i' := e
      subst e
      have hv : Cv w E B β v u := hv
      have hr : F2 (fun p q => p.1 = q.1 ∧ Cv w E B β p.2 q.2) r vr := ⟨by simpa using hl, fun k p q h1 h2 => hp.2 (k + 1) p q (by simpa using h1) (by simpa using h2)⟩
      unfold bld at hb
      split at hb
      · rename_i off size hpl
        cases hq : (Nat.beq (cellsOf v).length size && Nat.ble (off + size) cs.length && (cellsOf v).all okc) with
        | false => rw [hq] at hb; cases hb
        | true =>
          rw [hq] at hb
          simp only [Bool.and_eq_true] at hq
          obtain ⟨⟨h1, h2⟩, h3⟩ := hq
          have h1 := Nat.eq_of_beq_eq_true h1
          have h2 := Nat.le_of_ble_eq_true h2
          obtain ⟨ws, hc, hFw, _⟩ := cells_of hv h3
          have hwl : ws.length = size := by rw [hFw.1, h1]
          have hul := hF.1
          have := fill1 (place := (places.toArray[·]?)) (cells := us.toArray) (i := i) (off := off) (size := size) (v := u) (us := ws) (rest := vr) (by simpa using hpl) hc hwl (by simp; omega)
          obtain ⟨us', h4, h5⟩ := fill_bld places r vr _ cs' (us.take off ++ ws ++ us.drop (off + ws.length)) hr (hF.wr hFw off) hb
          refine ⟨us', ?_, h5⟩
          rw [this, ← h4, hwl]
      · cases hb
theorem val_build {parts : Array (Nat × Operand)} {places : List (Nat × Nat)} {zs : List Value} {vs : List (Nat × PV)} {cs : List PV} [T : TP P t places] [Z : TZ P t zs] (ho : o.op = .build t parts) (hx : F2 (fun q v => q.1 = v.1 ∧ opv st.t q.2 = some v.2) parts.toList vs) (hb : bld places (zs.map fun z => .im (.s z)) vs = some cs) : Val P st o (.agg cs) := fun C a w β S => by
  obtain ⟨fs, hu, hpl⟩ := T.pl
  obtain ⟨z, hz, hzs, _⟩ := Z.zero
  have hF0 : F2 (C1 w (Liv st.h β) C.B β) (zs.map fun z => .im (.s z)) zs := ⟨by simp, fun i x u hx hu => by
    simp only [List.getElem?_map, hu, Option.map_some, Option.some.injEq] at hx
    subst hx
    exact Ri.s u⟩
  have hp : F2 (fun p q => p.1 = q.1 ∧ Cv w (Liv st.h β) C.B β p.2 q.2) vs (parts.toList.map fun q => (q.1, a.eval q.2)) := ⟨by rw [List.length_map, hx.1], fun i p q h1 h2 => by
    rw [List.getElem?_map] at h2
    obtain ⟨q', h3, rfl⟩ := Option.map_eq_some_iff.1 h2
    obtain ⟨h4, h5⟩ := hx.2 i q' p h3 h1
    exact ⟨h4.symm, S.op h5⟩⟩
  obtain ⟨us', h1, h2⟩ := fill_bld places vs _ _ cs zs hp hF0 hb
  refine ⟨.agg us'.toArray, ⟨us', rfl, h2⟩, fun w' _ _ => ?_⟩
  have e : (parts.map fun (i, x) => (i, a.eval x)).toList = parts.toList.map fun q => (q.1, a.eval q.2) := by simp
  have ez : z.cells = zs.toArray := by rw [← hzs]
  simp only [execOp, ho, Instr.build, Sem.run_bind, hz, Result.andThen_ok, Sem.run_pure, hu, hpl, e, ez, h1]

/-! ### A call of a function value -/
theorem fz1_ptr {h : List AObj} {k r : Nat} {t : TypeId} {v : Value} (hk : h[k]? = some (.obj t [.im (.s v)] r)) : Fz1 h (.ptr k 0) (.at_ [.s v] 0) := fun w B β u hh hc => by
  obtain ⟨b, c, hb, rfl⟩ := hc
  obtain ⟨b', c', us, junk, hb', h2, hF, _⟩ := hh.ok k t _ r hk
  rw [hb] at hb'
  injection hb' with q
  injection q with e1 e2
  subst e1 e2
  refine ⟨b, 0, us, rfl, id, (Array.getElem?_eq_some_iff.1 h2).1, fun j v hv => by rw [Nat.zero_add]; exact obj_cell h2 hv, hF.1, fun i x u hx hu => ?_⟩
  match i, hx with
  | 0, hx =>
    simp at hx
    subst hx
    have := hF.2 0 _ u rfl hu
    have h1 : Ri w (Liv h β) B (.s v) u := this
    cases h1
    exact Ri.s _
  | i + 1, hx => simp at hx
theorem fz1_at {h : List AObj} {xs ys : List IV} {k : Nat} (hy : ages xs = ys) : Fz1 h (.at_ xs k) (.at_ ys k) := fun w B β u hh hc => by
  obtain ⟨b, p, us, h1, h2, h3, h4, h5⟩ := hc
  subst hy
  refine ⟨b, p, us, h1, id, h3, h4, by rw [h5.1, ages_map, List.length_map], fun i x u hx hu => ?_⟩
  rw [ages_map, List.getElem?_map] at hx
  obtain ⟨y, hy, rfl⟩ := Option.map_eq_some_iff.1 hx
  exact Ri.old (h5.2 i y u hy hu)
theorem fz_fn {h : List AObj} {f : FuncId} {cs ds : List PV} (hf : F2 (Fz1 h) cs ds) : Fz h (.fn f cs) (.fn f ds) := fun w B β u hh hc => by
  obtain ⟨us, rfl, hF⟩ := hc
  refine ⟨us, rfl, by rw [hF.1, hf.1], fun i d u hd hu => ?_⟩
  have hi : i < cs.length := by rw [← hf.1]; exact (List.getElem?_eq_some_iff.1 hd).1
  have hc := List.getElem?_eq_getElem hi
  exact hf.2 i _ d hc hd w B β u hh (hF.2 i _ u hc hu)
theorem eff_callv {i : Nat} {f : FuncId} {args : Array Operand} {ts : Array TypeId} {caps ds dc : List PV} {R : PV → List AObj → Prop} [T : TC P f] (ho : o.op = .call { callee := .value (.tmp i), args, argTypes := ts }) (hf : slot st.t i = some (.fn f caps)) (hcaps : F2 (Fz1 st.h) caps dc)
    (hx : F2 (fun x d => ∃ v, opv st.t x = some v ∧ Fz st.h v d) args.toList ds) (hc : AC P f (ds ++ dc) R) : EffR P true o st (fun st' => ∃ d h, R d h ∧ st' = (St.mk st.t (st.h ++ h.map (shO st.h.length))).put o.dst (sh st.h.length d)) := by
  intro C a w β S hd K Q' hK
  obtain ⟨us, ef, hF⟩ := S.op (x := .tmp i) hf
  have hargs : F2 (Cv w (fun _ => False) w.heap.size []) (ds ++ dc) (args.toList.map a.eval ++ us) := by
    refine F2.app ⟨by rw [List.length_map, hx.1], fun i d u hdd hu => ?_⟩ ⟨by rw [hF.1, hcaps.1], fun i d u hdd hu => ?_⟩
    · rw [List.getElem?_map] at hu
      obtain ⟨x, hxx, rfl⟩ := Option.map_eq_some_iff.1 hu
      obtain ⟨v, hv, hf⟩ := hx.2 i x d hxx hdd
      exact hf w _ β _ S.heap (S.op hv)
    · have hi : i < caps.length := by rw [← hcaps.1]; exact (List.getElem?_eq_some_iff.1 hdd).1
      have hc' := List.getElem?_eq_getElem hi
      exact (hcaps.2 i _ d hc' hdd w _ β u S.heap (hF.2 i _ u hc' hu)).cv
  have hcall := hc w _ hargs
  have hrun : (execOp a.eval o).run P w = .ok (.enter f (args.toList.map a.eval ++ us).toArray) w := by
    have e : args.map a.eval = (args.toList.map a.eval).toArray := by apply Array.ext'; simp
    simp only [execOp, ho, resolve, ef, Deferred.ofValue, Sem.run_bind, Sem.run_pure, Result.andThen_ok, invoke]
    rw [show (#[] ++ Array.map a.eval args ++ us.toArray) = (args.toList.map a.eval ++ us).toArray from by rw [e]; apply Array.ext'; simp, T.call]
  unfold Oper.wp
  rw [hrun]
  refine Calls.mono hcall fun e w' he => ?_
  obtain ⟨u, d, h, βr, rfl, hR, r⟩ := he
  obtain ⟨S1, hv, hs⟩ := S.more r
  have hh : ((St.mk st.t (st.h ++ h.map (shO st.h.length))).put o.dst (sh st.h.length d)).h = st.h ++ h.map (shO st.h.length) := by cases o.dst <;> rfl
  exact hK _ _ _ _ ⟨d, h, hR, rfl⟩ (S1.putO hd hv) (by rw [hh]; exact hs) fun _ => r.below
end
section
variable {P : Program} {t : List (Nat × PV)} {h : List AObj} {d : Nat} {o : Oper}
theorem ef_callv {i : Nat} {f : FuncId} {args : Array Operand} {ts : Array TypeId} {caps ds dc : List PV} {R : PV → List AObj → Prop} [T : TC P f] (ho : o.dst = some d) (hop : o.op = .call { callee := .value (.tmp i), args, argTypes := ts }) (hf : slot t i = some (.fn f caps)) (hcaps : F2 (Fz1 h) caps dc)
    (hx : F2 (fun x d => ∃ v, opv t x = some v ∧ Fz h v d) args.toList ds) (hc : AC P f (ds ++ dc) R) : EffR P true o ⟨t, h⟩ (fun st' => ∃ r hr, R r hr ∧ st' = ⟨(d, sh h.length r) :: t, pushs h (shH h.length hr)⟩) := by
  have := eff_callv (P := P) (st := ⟨t, h⟩) hop hf hcaps hx hc; rw [ho] at this; simp only [pushs_eq, shH_eq]; exact this
end
section
variable {P : Program} {t t0 : List (Nat × PV)} {h h0 : List AObj} {M N d : Nat} {Q : AQ} {o : Oper} {ops : Array Oper} {prest : List (Oper × Bool)} {tail : List Oper}
/-- Operations that look at no memory. -/
def uniOp : Op → Bool
  | .move _ => true
  | .extract _ _ => true
  | _ => false
theorem uni_run {ρ : Operand → Value} {u : Value} (ho : uniOp o.op = true) {w : World} (h : (execOp ρ o).run P w = .ok (.value u) w) (w' : World) : (execOp ρ o).run P w' = .ok (.value u) w' := by
  obtain ⟨dst, op, ty, pos, after, guard⟩ := o
  cases op <;> simp only [uniOp] at ho <;> first | cases ho | skip
  · simp [execOp] at h ⊢; exact h
  · rename_i x i
    simp only [execOp, Instr.extract] at h ⊢
    generalize ρ x = q at h ⊢
    cases q <;> first | (simp [go_sem] at h; done) | skip
    all_goals
      rename_i cs
      cases hq : cs[i]? with
      | none => simp [go_sem, hq] at h
      | some y => simp [hq] at h ⊢; exact h
theorem apl_x {st0 st : St} {v : PV} (hvo : valOp o.op = true) (hx : uniOp o.op = true) (hg : o.guard = none) (hv : Val P st o v) (hd : ∀ i, o.dst = some i → i < N) (hn : ∀ i, o.dst = some i → slot st0.t i = none) (h : apl P M N ops Q tail prest st0 (st.put o.dst v)) : apl P M N ops Q tail ((o, true) :: prest) st0 st := fun C a w0 β0 w β hN hM S0 S hs hb => by
  refine wpPlan_val (wanted_none hg _) (by simp [hvo]) fun K hK => ?_
  obtain ⟨u, h1, h2⟩ := hv C a w β S
  have h3 := h2 w (Nat.le_refl _) fun _ _ => rfl
  have e1 : (st.put o.dst v).h = st.h := by cases o.dst <;> rfl
  refine ⟨u, fun w' _ => ?_, hK _ (h C _ w0 β0 w β hN hM (S0.other u hn) (S.putO (by rw [hN]; exact hd) h1) (by rw [e1]; exact hs) hb)⟩
  unfold Oper.quietAt
  rw [uni_run hx h3 w']
  exact ⟨rfl, rfl⟩
theorem pl_x {v : PV} (hvo : valOp o.op = true) (hx : uniOp o.op = true) (hg : o.guard = none) (ho : o.dst = some d) (hv : VV P ⟨t, h⟩ o v) (hd : Nat.blt d N = true) (hn : slot t0 d = none) (k : PL P M N ops Q tail prest ⟨t0, h0⟩ ⟨(d, v) :: t, h⟩) : PL P M N ops Q tail ((o, true) :: prest) ⟨t0, h0⟩ ⟨t, h⟩ :=
  ⟨apl_x hvo hx hg hv.run (by rw [ho]; rintro i ⟨rfl⟩; exact Nat.le_of_ble_eq_true hd) (by rw [ho]; rintro i ⟨rfl⟩; exact hn) (by rw [ho]; exact k.run)⟩
end
end Go.Proofs.Ytkeihpihphefgaa
