/- The abstract machine: contracts and calls; code; loops; a function's beginning and end. No program is named here. -/
import Derived.Test.YtkeihpihphefgaaAx4
namespace Go.Proofs.Ytkeihpihphefgaa
open Go.RowKit

mutual
def age : IV → IV
  | .s v => .s v
  | .sl _ xs n => .sl false (ages xs) n
def ages : List IV → List IV
  | [] => []
  | x :: r => age x :: ages r
end
theorem ages_map : ∀ xs : List IV, ages xs = xs.map age
  | [] => by simp [ages]
  | x :: r => by simp [ages, ages_map r]
/-- Numbers do not age. -/
def IV.flat : IV → Bool
  | .s _ => true
  | .sl _ _ _ => false
theorem ages_flat {xs : List IV} (h : xs.all IV.flat = true) : ages xs = xs := by
  rw [ages_map]
  refine (List.map_congr_left fun x hx => ?_).trans (List.map_id _)
  have := List.all_eq_true.1 h x hx
  cases x with
  | s v => simp [age]
  | sl => cases this
section
variable {w w' : World} {E E' : Nat → Prop} {B B' : Nat} {β β' : List (Nat × Nat)}
theorem Ri.weak (hE : ∀ b, E' b → E b) (hB : B' ≤ B) {x : IV} {u : Value} (h : Ri w E B x u) : Ri w E' B' x u := by
  induction h with
  | s v => exact .s v
  | sl g xs n A cap b o us h0 hA hcap hl hc hr ih => exact .sl g xs n A cap b o us h0 (fun h => ⟨(hA h).1, (hA h).2.1, fun e => (hA h).2.2.1 (hE b e), fun hg => Nat.le_trans hB ((hA h).2.2.2 hg)⟩) hcap hl hc ih
theorem Ri.old {x : IV} {u : Value} (h : Ri w E B x u) : Ri w (fun _ => False) B' (age x) u := by
  induction h with
  | s v => exact .s v
  | sl g xs n A cap b o us h0 hA hcap hl hc hr ih =>
    unfold age
    refine .sl false (ages xs) n A cap b o us (fun h => by rw [h0 h]; rfl) (fun h => ⟨(hA h).1, (hA h).2.1, id, fun hg => by cases hg⟩) hcap (by rw [ages_map, List.length_map]; exact hl) hc (fun j x u hx hu => ?_)
    rw [ages_map, List.getElem?_map] at hx
    obtain ⟨y, hy, rfl⟩ := Option.map_eq_some_iff.1 hx
    exact ih j y u hy hu

/-! ### What a call is handed -/
def Fz1 (h : List AObj) (v d : PV) : Prop := ∀ w B β u, HeapOk w B h β → C1 w (Liv h β) B β v u → C1 w (fun _ => False) w.heap.size [] d u
def Fz (h : List AObj) (v d : PV) : Prop := ∀ w B β u, HeapOk w B h β → Cv w (Liv h β) B β v u → Cv w (fun _ => False) w.heap.size [] d u
theorem fz1_s {h : List AObj} {v : Value} : Fz1 h (.im (.s v)) (.im (.s v)) := fun w B β u _ hc => by cases hc; exact Ri.s v
theorem fz1_sl {h : List AObj} {g : Bool} {xs ys : List IV} {n : Nat} (hy : ages xs = ys) : Fz1 h (.im (.sl g xs n)) (.im (.sl false ys n)) := fun w B β u _ hc => by
  have h1 := Ri.old (B' := w.heap.size) hc
  unfold age at h1
  rw [hy] at h1
  exact h1
theorem fz1_own {h : List AObj} {k n r : Nat} {t : TypeId} {xs ys : List IV} (hk : h[k]? = some (.obj t (ims xs) r)) (hr : 0 < r) (hn : xs.length = n * r) (hy : ages xs = ys) : Fz1 h (.own k n) (.im (.sl false ys n)) := fun w B β u hh hc => by
  obtain ⟨b, c, hb, rfl⟩ := hc
  have ho := hh.ok k t _ r hk
  obtain ⟨b', c', us, hb', hown, hF, hone, hcell, hnc⟩ := obj_own ho hr (by simpa [ims] using hn)
  rw [hb] at hb'
  injection hb' with q
  injection q with e1 e2
  subst e1 e2
  obtain ⟨_, _, _, _, hb2, hh2, _, _, _, h6⟩ := ho
  rw [hb] at hb2
  injection hb2 with q
  injection q with e1 e2
  subst e1 e2
  have hbl : b < w.heap.size := (Array.getElem?_eq_some_iff.1 hh2).1
  subst hy
  refine Ri.sl false (ages xs) n (some ⟨b, 0, none⟩) c b 0 us (fun e => ?_) (fun _ => ⟨rfl, hbl, id, fun e => by cases e⟩) ⟨hnc, (h6 hr).2⟩ (by rw [hF.1, ages_map]; simp [ims]) (fun j u hu => by rw [Nat.zero_add]; exact hcell j u hu) (fun j x u hx hu => ?_)
  · have : xs = [] := List.length_eq_zero_iff.1 (by rw [hn, e, Nat.zero_mul])
    rw [this]; rfl
  · rw [ages_map, List.getElem?_map] at hx
    obtain ⟨y, hy, rfl⟩ := Option.map_eq_some_iff.1 hx
    have := hF.2 j (.im y) u (by simp [ims, hy]) hu
    exact Ri.old this
theorem fz_one {h : List AObj} {x : IV} {d : PV} (hf : Fz1 h (.im x) d) (hd : ∃ y, d = .im y) : Fz h (.im x) d := fun w B β u hh hc => by
  obtain ⟨y, rfl⟩ := hd
  exact hf w B β u hh hc
theorem fz_s {h : List AObj} {v : Value} : Fz h (.im (.s v)) (.im (.s v)) := fz_one fz1_s ⟨_, rfl⟩
theorem fz_sl {h : List AObj} {g : Bool} {xs ys : List IV} {n : Nat} (hy : ages xs = ys) : Fz h (.im (.sl g xs n)) (.im (.sl false ys n)) := fz_one (fz1_sl hy) ⟨_, rfl⟩
theorem fz_own {h : List AObj} {k n r : Nat} {t : TypeId} {xs ys : List IV} (hk : h[k]? = some (.obj t (ims xs) r)) (hr : 0 < r) (hn : xs.length = n * r) (hy : ages xs = ys) : Fz h (.own k n) (.im (.sl false ys n)) := fun w B β u hh hc => fz1_own hk hr hn hy w B β u hh hc
theorem fz_agg {h : List AObj} {cs ds : List PV} (hf : F2 (Fz1 h) cs ds) : Fz h (.agg cs) (.agg ds) := fun w B β u hh hc => by
  obtain ⟨us, rfl, hF⟩ := hc
  refine ⟨us, rfl, by rw [hF.1, hf.1], fun i d u hd hu => ?_⟩
  have hi : i < cs.length := by rw [← hf.1]; exact (List.getElem?_eq_some_iff.1 hd).1
  have hc := List.getElem?_eq_getElem hi
  exact hf.2 i _ d hc hd w B β u hh (hF.2 i _ u hc hu)
end

/-! ### Contracts -/
/-- What a call hands back: a value and objects of its own; all else is as it was, and what is handed back shares nothing with what was there. -/
structure Res (w w' : World) (h : List AObj) (β : List (Nat × Nat)) (d : PV) (u : Value) : Prop where
  below : Below w.heap.size w w'
  len : β.length = h.length
  ok : ∀ (k : Nat) (t : TypeId) (xs : List PV) (r : Nat), h[k]? = some (AObj.obj t xs r) → ObjAt w' (fun b => Liv h β b ∨ b < w.heap.size) w.heap.size β k t xs r
  inj : ∀ (j k : Nat) (t : TypeId) (xs : List PV) (r : Nat) (t' : TypeId) (xs' : List PV) (r' b c c' : Nat), h[j]? = some (AObj.obj t xs r) → h[k]? = some (AObj.obj t' xs' r') → β[j]? = some (b, c) → β[k]? = some (b, c') → j = k
  new : ∀ b, Liv h β b → w.heap.size ≤ b
  val : Cv w' (fun b => Liv h β b ∨ b < w.heap.size) w.heap.size β d u
def AC (P : Program) (f : FuncId) (ds : List PV) (R : PV → List AObj → Prop) : Prop := ∀ (w : World) (args : List Value), F2 (Cv w (fun _ => False) w.heap.size []) ds args → Calls P f args.toArray w fun e w' => ∃ u d h β, e = .returned u ∧ R d h ∧ Res w w' h β d u
def sh1 (m : Nat) : PV → PV
  | .own k n => .own (k + m) n
  | .ptr k o => .ptr (k + m) o
  | v => v
def sh2 (m : Nat) : PV → PV
  | .agg cs => .agg (cs.map (sh1 m))
  | .fn f cs => .fn f (cs.map (sh1 m))
  | v => sh1 m v
def sh (m : Nat) : PV → PV
  | .tup cs => .tup (cs.map (sh2 m))
  | v => sh2 m v
def shO (m : Nat) : AObj → AObj
  | .dead => .dead
  | .obj t xs r => .obj t (xs.map (sh1 m)) r
theorem sh_ims (m : Nat) (xs : List IV) : (ims xs).map (sh1 m) = ims xs := by
  unfold ims; rw [List.map_map]; exact List.map_congr_left fun x _ => rfl
section
variable {w w' : World} {E E' : Nat → Prop} {B B' : Nat} {β β' : List (Nat × Nat)} {m : Nat}
theorem C1.shift (hE : ∀ b, E' b → E b) (hB : B' ≤ B) (hβ : ∀ (k : Nat) p, β[k]? = some p → β'[k + m]? = some p) {v : PV} {u : Value} (h : C1 w E B β v u) : C1 w E' B' β' (sh1 m v) u := by
  cases v with
  | im x => exact Ri.weak hE hB h
  | own k n => obtain ⟨b, c, h1, h2⟩ := h; exact ⟨b, c, hβ _ _ h1, h2⟩
  | ptr k o => obtain ⟨b, c, h1, h2⟩ := h; exact ⟨b, c, hβ _ _ h1, h2⟩
  | at_ xs o =>
    obtain ⟨b, p, us, h1, h2, h3, h4, h5⟩ := h
    exact ⟨b, p, us, h1, fun e => h2 (hE b e), h3, h4, h5.mono fun x u h => h.weak hE hB⟩
  | fn f caps => exact h.elim
  | agg cs => exact h.elim
  | tup cs => exact h.elim
theorem F2.mapl {α α' γ : Type} {R : α → γ → Prop} {R' : α' → γ → Prop} {f : α → α'} {xs : List α} {us : List γ} (h : F2 R xs us) (hr : ∀ x u, R x u → R' (f x) u) : F2 R' (xs.map f) us :=
  ⟨by rw [List.length_map]; exact h.1, fun i x u hx hu => by
    rw [List.getElem?_map] at hx
    obtain ⟨y, hy, rfl⟩ := Option.map_eq_some_iff.1 hx
    exact hr _ _ (h.2 i y u hy hu)⟩
theorem C2.shift (hE : ∀ b, E' b → E b) (hB : B' ≤ B) (hβ : ∀ (k : Nat) p, β[k]? = some p → β'[k + m]? = some p) {v : PV} {u : Value} (h : C2 w E B β v u) : C2 w E' B' β' (sh2 m v) u := by
  cases v with
  | agg cs => obtain ⟨us, h1, h2⟩ := h; exact ⟨us, h1, h2.mapl fun x u h => h.shift hE hB hβ⟩
  | fn f cs => obtain ⟨us, h1, h2⟩ := h; exact ⟨us, h1, h2.mapl fun x u h => h.shift hE hB hβ⟩
  | im x => exact C1.shift (v := .im x) hE hB hβ h
  | own k n => exact C1.shift (v := .own k n) (w := w) hE hB hβ h
  | ptr k o => exact C1.shift (v := .ptr k o) (w := w) hE hB hβ h
  | at_ xs o => exact C1.shift (v := .at_ xs o) hE hB hβ h
  | tup cs => exact h.elim
theorem Cv.shift (hE : ∀ b, E' b → E b) (hB : B' ≤ B) (hβ : ∀ (k : Nat) p, β[k]? = some p → β'[k + m]? = some p) {v : PV} {u : Value} (h : Cv w E B β v u) : Cv w E' B' β' (sh m v) u := by
  cases v with
  | tup cs => obtain ⟨us, h1, h2⟩ := h; exact ⟨us, h1, h2.mapl fun x u h => h.shift hE hB hβ⟩
  | agg cs => exact C2.shift (v := .agg cs) hE hB hβ h
  | fn f cs => exact C2.shift (v := .fn f cs) hE hB hβ h
  | im x => exact C2.shift (v := .im x) hE hB hβ h
  | own k n => exact C2.shift (v := .own k n) (w := w) hE hB hβ h
  | ptr k o => exact C2.shift (v := .ptr k o) (w := w) hE hB hβ h
  | at_ xs o => exact C2.shift (v := .at_ xs o) hE hB hβ h
end
section
variable {P : Program} {st : St} {o : Oper} {C : Ctx} {a : Act} {w w' : World} {β βr : List (Nat × Nat)} {M N : Nat} {Q : AQ} {ops : Array Oper} {rest : List Oper}
theorem Sim.more (S : Sim C st a w β) {h : List AObj} {d : PV} {u : Value} (r : Res w w' h βr d u) : Sim C ⟨st.t, st.h ++ h.map (shO st.h.length)⟩ a w' (β ++ βr) ∧ Cv w' (Liv (st.h ++ h.map (shO st.h.length)) (β ++ βr)) C.B (β ++ βr) (sh st.h.length d) u ∧ Step w st.h β w' (st.h ++ h.map (shO st.h.length)) (β ++ βr) := by
  have hl := S.heap.len
  have hB : C.B ≤ w.heap.size := Nat.le_trans S.bw S.step.size
  have hβ : ∀ (k : Nat) p, βr[k]? = some p → (β ++ βr)[k + st.h.length]? = some p := fun k p h => by
    rw [List.getElem?_append_right (by omega), show k + st.h.length - β.length = k by omega]; exact h
  have split : ∀ (k : Nat) (t : TypeId) (xs : List PV) (q : Nat), (st.h ++ h.map (shO st.h.length))[k]? = some (AObj.obj t xs q) → (k < st.h.length ∧ st.h[k]? = some (.obj t xs q)) ∨ (∃ j ys, k = j + st.h.length ∧ h[j]? = some (.obj t ys q) ∧ xs = ys.map (sh1 st.h.length)) := fun k t xs q hk => by
    rcases Nat.lt_or_ge k st.h.length with hlt | hge
    · rw [List.getElem?_append_left hlt] at hk; exact .inl ⟨hlt, hk⟩
    · rw [List.getElem?_append_right hge, List.getElem?_map] at hk
      obtain ⟨x, hx, e⟩ := Option.map_eq_some_iff.1 hk
      cases x with
      | dead => cases e
      | obj t' ys r' =>
        simp only [shO, AObj.obj.injEq] at e
        obtain ⟨rfl, rfl, rfl⟩ := e
        exact .inr ⟨k - st.h.length, ys, by omega, hx, rfl⟩
  have bl : ∀ k, k < st.h.length → (β ++ βr)[k]? = β[k]? := fun k hk => List.getElem?_append_left (by omega)
  have br : ∀ j, (β ++ βr)[j + st.h.length]? = βr[j]? := fun j => by rw [List.getElem?_append_right (by omega), show j + st.h.length - β.length = j by omega]
  have liv : ∀ b, Liv (st.h ++ h.map (shO st.h.length)) (β ++ βr) b → Liv st.h β b ∨ Liv h βr b := fun b ⟨k, t, xs, q, c, h1, h2⟩ => by
    rcases split k t xs q h1 with ⟨hlt, h3⟩ | ⟨j, ys, rfl, h3, rfl⟩
    · rw [bl k hlt] at h2; exact .inl ⟨k, t, xs, q, c, h3, h2⟩
    · rw [br j] at h2; exact .inr ⟨j, t, ys, q, c, h3, h2⟩
  have hE : ∀ b, Liv (st.h ++ h.map (shO st.h.length)) (β ++ βr) b → Liv h βr b ∨ b < w.heap.size := fun b hb => by
    rcases liv b hb with h | h
    · exact .inr (Liv.lt S.heap h)
    · exact .inl h
  have hn : ∀ i, i < w.heap.size → Liv (st.h ++ h.map (shO st.h.length)) (β ++ βr) i → Liv st.h β i := fun i hi hb => by
    rcases liv i hb with h | h
    · exact h
    · have := r.new i h; omega
  have hs : Step w st.h β w' (st.h ++ h.map (shO st.h.length)) (β ++ βr) := ⟨r.below.os, r.below.tape, r.below.output, r.below.size, fun b hb _ => r.below.block b hb, hn, pre_app _⟩
  refine ⟨S.world hs ⟨by simp [hl, r.len], fun k t xs q hk => ?_, fun i j t xs q t' xs' q' b c c' hi hj bi bj => ?_⟩, r.val.shift hE hB hβ, hs⟩
  · rcases split k t xs q hk with ⟨hlt, h3⟩ | ⟨j, ys, rfl, h3, rfl⟩
    · obtain ⟨b, c, hb⟩ := beta_get S.heap h3
      have hbl : b < w.heap.size := Liv.lt S.heap ⟨k, t, xs, q, c, h3, hb⟩
      exact (S.heap.ok k t xs q h3).keep hb (r.below.block b hbl) (fun b hb _ => r.below.block b hb) r.below.size hn (pre_app _)
    · obtain ⟨b, c, us, junk, h4, h5, h6, h7⟩ := r.ok j t ys q h3
      exact ⟨b, c, us, junk, hβ _ _ h4, h5, h6.mapl fun x u h => h.shift hE hB hβ, h7⟩
  · rcases split i t xs q hi with ⟨hlt, h3⟩ | ⟨i', ys, rfl, h3, rfl⟩
    · rw [bl i hlt] at bi
      rcases split j t' xs' q' hj with ⟨hlt', h4⟩ | ⟨j', ys', rfl, h4, rfl⟩
      · rw [bl j hlt'] at bj
        exact S.heap.inj i j t xs q t' xs' q' b c c' h3 h4 bi bj
      · rw [br j'] at bj
        have := Liv.lt S.heap ⟨i, t, xs, q, c, h3, bi⟩
        have := r.new b ⟨j', t', ys', q', c', h4, bj⟩
        omega
    · rw [br i'] at bi
      rcases split j t' xs' q' hj with ⟨hlt', h4⟩ | ⟨j', ys', rfl, h4, rfl⟩
      · rw [bl j hlt'] at bj
        have := Liv.lt S.heap ⟨j, t', xs', q', c', h4, bj⟩
        have := r.new b ⟨i', t, ys, q, c, h3, bi⟩
        omega
      · rw [br j'] at bj
        rw [r.inj i' j' t ys q t' ys' q' b c c' h3 h4 bi bj]
theorem eff_call {f : FuncId} {args : Array Operand} {ts : Array TypeId} {ds : List PV} {R : PV → List AObj → Prop} [T : TC P f] (ho : o.op = .call { callee := .value (.func f), args, argTypes := ts }) (hx : F2 (fun x d => ∃ v, opv st.t x = some v ∧ Fz st.h v d) args.toList ds) (hc : AC P f ds R) :
    EffR P true o st (fun st' => ∃ d h, R d h ∧ st' = (St.mk st.t (st.h ++ h.map (shO st.h.length))).put o.dst (sh st.h.length d)) := by
  intro C a w β S hd K Q' hK
  have hargs : F2 (Cv w (fun _ => False) w.heap.size []) ds (args.toList.map a.eval) := by
    refine ⟨by rw [List.length_map, hx.1], fun i d u hdd hu => ?_⟩
    rw [List.getElem?_map] at hu
    obtain ⟨x, hxx, rfl⟩ := Option.map_eq_some_iff.1 hu
    obtain ⟨v, hv, hf⟩ := hx.2 i x d hxx hdd
    exact hf w _ β _ S.heap (S.op hv)
  have hcall := hc w _ hargs
  have hrun : (execOp a.eval o).run P w = .ok (.enter f (args.toList.map a.eval).toArray) w := by
    have e : args.map a.eval = (args.toList.map a.eval).toArray := by apply Array.ext'; simp
    simp only [execOp, ho, resolve, Act.eval, Deferred.ofValue, Sem.run_bind, Sem.run_pure, Result.andThen_ok, invoke]
    rw [show (#[] ++ Array.map a.eval args ++ #[]) = (args.toList.map a.eval).toArray from by rw [e]; apply Array.ext'; simp, T.call]
  unfold Oper.wp
  rw [hrun]
  refine Calls.mono hcall fun e w' he => ?_
  obtain ⟨u, d, h, βr, rfl, hR, r⟩ := he
  obtain ⟨S1, hv, hs⟩ := S.more r
  have hh : ((St.mk st.t (st.h ++ h.map (shO st.h.length))).put o.dst (sh st.h.length d)).h = st.h ++ h.map (shO st.h.length) := by cases o.dst <;> rfl
  exact hK _ _ _ _ ⟨d, h, hR, rfl⟩ (S1.putO hd hv) (by rw [hh]; exact hs) fun _ => r.below
end
end Go.Proofs.Ytkeihpihphefgaa
