/- The abstract machine: operations that yield a value and leave memory alone. No program is named here. -/
import Derived.Test.YtkeihpihphefgaaAx
namespace Go.Proofs.Ytkeihpihphefgaa
open Go.RowKit

/-! ### What is known of the types -/
class TB (P : Program) (t : TypeId) (agg : outParam Bool) (size : outParam Nat) : Prop where
  sz : ∀ w, (sizeOf t).run P w = .ok size w
  ag : ∀ w, (isAgg t).run P w = .ok agg w
  one : agg = false → size = 1
class TF (P : Program) (t : TypeId) (i : Nat) (off size : outParam Nat) : Prop where
  fld : ∃ fs f, (∀ w, (underlying t).run P w = .ok (.struct fs) w) ∧ fs[i]? = some f ∧ f.offset = off ∧ (∀ w, (sizeOf f.type).run P w = .ok size w) ∧ size ≠ 0
class TS (P : Program) (t : TypeId) (e size bytes : outParam Nat) : Prop where
  und : P.underlying t = some (.slice e)
  info : ∃ i z, P.info? e = some i ∧ i.zero = some z ∧ i.size = size ∧ i.bytes = bytes ∧ z.cells.size = size
  pos : 0 < size
  small : bytes ≤ 1000

def Val (P : Program) (st : St) (o : Oper) (v : PV) : Prop := ∀ C a w β, Sim C st a w β → ∃ u, Cv w (Liv st.h β) C.B β v u ∧ ∀ w', w.heap.size ≤ w'.heap.size → (∀ b, b < w.heap.size → w'.heap[b]? = w.heap[b]?) → (execOp a.eval o).run P w' = .ok (.value u) w'
section
variable {P : Program} {st : St} {o : Oper}
theorem val_move {x : Operand} {v : PV} (ho : o.op = .move x) (h : opv st.t x = some v) : Val P st o v := fun C a w β S => ⟨_, S.op h, fun w' _ _ => by simp [execOp, ho]⟩
theorem val_assign {x : Operand} {v : PV} (ho : o.op = .assign x) (h : opv st.t x = some v) : Val P st o v := fun C a w β S => ⟨_, S.op h, fun w' _ _ => by simp [execOp, ho]⟩
theorem im_s {w : World} {E : Nat → Prop} {B : Nat} {β : List (Nat × Nat)} {v u : Value} (h : Cv w E B β (.im (.s v)) u) : u = v := by
  cases h; rfl
theorem Sim.ev {C : Ctx} {a : Act} {w : World} {β : List (Nat × Nat)} (S : Sim C st a w β) {x : Operand} {v : Value} (h : opv st.t x = some (.im (.s v))) : a.eval x = v := im_s (S.op h)
theorem val_pick {c x y : Operand} {b : Bool} {v1 v2 : PV} (ho : o.op = .pick c x y) (hc : opv st.t c = some (.im (.s (.bool b)))) (h1 : opv st.t x = some v1) (h2 : opv st.t y = some v2) : Val P st o (bif b then v1 else v2) := fun C a w β S => by
  have e := S.ev hc
  cases b
  · exact ⟨_, S.op h2, fun w' _ _ => by simp [execOp, ho, e, asBool]⟩
  · exact ⟨_, S.op h1, fun w' _ _ => by simp [execOp, ho, e, asBool]⟩
/-- An operator on values that need no memory. -/
theorem val_bin {op : BinOp} {t t' : TypeId} {x y : Operand} {vx vy r : Value} (ho : o.op = .binOp op t x y t') (hx : opv st.t x = some (.im (.s vx))) (hy : opv st.t y = some (.im (.s vy)))
    (h : ∀ w, (do eqGuard op t x y vx vy; binOp op t vx vy : Sem Value).run P w = .ok r w) : Val P st o (.im (.s r)) := fun C a w β S =>
  ⟨r, Ri.s r, fun w' _ _ => by simp only [execOp, ho, S.ev hx, S.ev hy, Sem.run_bind, h, Result.andThen_ok]; simp⟩
theorem val_un {op : UnOp} {t : TypeId} {x : Operand} {vx r : Value} (ho : o.op = .unOp op t x) (hx : opv st.t x = some (.im (.s vx))) (h : ∀ w, (Op.unary op vx).run P w = .ok r w) : Val P st o (.im (.s r)) := fun C a w β S =>
  ⟨r, Ri.s r, fun w' _ _ => by simp only [execOp, ho, S.ev hx, Sem.run_bind, h, Result.andThen_ok]; simp⟩
theorem run_len {t e size bytes : Nat} [T : TS P t e size bytes] (A : Option Addr) (n c : Nat) (ty : TypeId) (w : World) : (Builtin.len_ #[t] ty #[.slice A n c]).run P w = .ok (.int .i64 n) w := by
  simp [Builtin.len_, run_underlying T.und, goInt]
theorem val_len {x : Operand} {t e size bytes : Nat} {v : PV} {n : Nat} [T : TS P t e size bytes] (ho : o.op = .call { callee := .builtin .len, args := #[x], argTypes := #[t] }) (hx : opv st.t x = some v)
    (hv : (∃ g xs, v = .im (.sl g xs n)) ∨ (∃ k, v = .own k n) ∨ (∃ A c, v = .im (.s (.slice A n c)))) : Val P st o (.im (.s (.int .i64 n))) := fun C a w β S => by
  have h : ∃ A c, a.eval x = .slice A n c := by
    have h := S.op hx
    generalize a.eval x = ux at *
    rcases hv with ⟨g, xs, rfl⟩ | ⟨k, rfl⟩ | ⟨A, c, rfl⟩
    · cases h; exact ⟨_, _, rfl⟩
    · obtain ⟨b, c, _, h⟩ := h; exact ⟨_, _, h⟩
    · exact ⟨_, _, im_s h⟩
  obtain ⟨A, c, h⟩ := h
  exact ⟨_, Ri.s _, fun w' _ _ => by simp only [execOp, ho, resolve, invoke, builtin, Sem.run_bind, Sem.run_pure, Result.andThen_ok, List.map_toArray, List.map_cons, List.map_nil, h, run_len]⟩
theorem val_lenS {x : Operand} {t : TypeId} {b : ByteArray} (hu : ∀ w, (underlying t).run P w = .ok .string w) (ho : o.op = .call { callee := .builtin .len, args := #[x], argTypes := #[t] }) (hx : opv st.t x = some (.im (.s (.string b)))) :
    Val P st o (.im (.s (.int .i64 b.size))) := fun C a w β S =>
  ⟨_, Ri.s _, fun w' _ _ => by simp [execOp, ho, resolve, invoke, builtin, S.ev hx, Builtin.len_, hu, goInt]⟩
theorem addr_add (b p n : Nat) : (⟨b, p, none⟩ : Addr).add n = ⟨b, p + n, none⟩ := by unfold Addr.add; split <;> simp_all
theorem val_fieldAddr {t : TypeId} {x : Operand} {i off size k p : Nat} [T : TF P t i off size] (ho : o.op = .fieldAddr t x i) (hx : opv st.t x = some (.ptr k p)) : Val P st o (.ptr k (p + off)) := fun C a w β S => by
  obtain ⟨b, c, h1, h2⟩ := S.op hx
  obtain ⟨fs, f, hu, hf, hoff, hs, h0⟩ := T.fld
  refine ⟨_, ⟨b, c, h1, rfl⟩, fun w' _ _ => ?_⟩
  simp [execOp, ho, h2, Instr.fieldAt, hu, hf, Instr.sureAddr, fieldPlace, hs, h0, addr_add, hoff]
theorem val_fieldAddr' {t : TypeId} {x : Operand} {i off size p : Nat} {xs : List IV} [T : TF P t i off size] (ho : o.op = .fieldAddr t x i) (hx : opv st.t x = some (.at_ xs p)) : Val P st o (.at_ xs (p + off)) := fun C a w β S => by
  obtain ⟨b, q, us, h1, h2⟩ := S.op hx
  obtain ⟨fs, f, hu, hf, hoff, hs, h0⟩ := T.fld
  refine ⟨_, ⟨b, q, us, rfl, h2⟩, fun w' _ _ => ?_⟩
  simp [execOp, ho, h1, Instr.fieldAt, hu, hf, Instr.sureAddr, fieldPlace, hs, h0, addr_add, hoff, Nat.add_assoc]
theorem run_sizeS {t e size bytes : Nat} [T : TS P t e size bytes] (w : World) : (sizeOf e).run P w = .ok size w := by
  obtain ⟨i, z, h1, h2, h3, h4, h5⟩ := T.info
  simp [sizeOf, typeInfo, h1, h3]
theorem run_indexAt {t e size bytes : Nat} [T : TS P t e size bytes] (b p n c : Nat) (k : IntKind) (z : Int) (h0 : 0 ≤ z) (h1 : z < n) (w : World) :
    (Instr.indexAt t (.slice (some ⟨b, p, none⟩) n c) (.int k z)).run P w = .ok (.pointer (some ⟨b, p + z.toNat * size, none⟩)) w := by
  simp [Instr.indexAt, asIntOf, run_underlying T.und, h0, h1, run_sizeS (t := t) (e := e) (bytes := bytes) (size := size), addr_add]
theorem val_indexAddr {t e size bytes : Nat} {x y : Operand} {g : Bool} {xs : List IV} {n : Nat} {k : IntKind} {z : Int} [T : TS P t e size bytes] (ho : o.op = .indexAddr t x y) (hx : opv st.t x = some (.im (.sl g xs n))) (hy : opv st.t y = some (.im (.s (.int k z))))
    (h0 : 0 ≤ z) (h1 : z < n) : Val P st o (.at_ xs (z.toNat * size)) := fun C a w β S => by
  have ey := S.ev hy
  generalize ex : a.eval x = ux
  have h := S.op hx
  rw [ex] at h
  cases h with
  | sl _ _ _ A cap b p us hh hA hcap hl hc hr =>
    have hn : 0 < n := by omega
    obtain ⟨rfl, hb, hE, _⟩ := hA hn
    exact ⟨_, ⟨b, p, us, rfl, hE, hb, hc, hl, hr⟩, fun w' _ _ => by simp [execOp, ho, ex, ey, run_indexAt (t := t) (e := e) (bytes := bytes) (size := size), h0, h1]⟩
theorem val_indexAddrO {t e size bytes : Nat} {x y : Operand} {j n : Nat} {k : IntKind} {z : Int} [T : TS P t e size bytes] (ho : o.op = .indexAddr t x y) (hx : opv st.t x = some (.own j n)) (hy : opv st.t y = some (.im (.s (.int k z))))
    (h0 : 0 ≤ z) (h1 : z < n) : Val P st o (.ptr j (z.toNat * size)) := fun C a w β S => by
  have ey := S.ev hy
  obtain ⟨b, c, hb, ex⟩ := S.op hx
  exact ⟨_, ⟨b, c, hb, rfl⟩, fun w' _ _ => by simp [execOp, ho, ex, ey, run_indexAt (t := t) (e := e) (bytes := bytes) (size := size), h0, h1]⟩
theorem cell_same {w w' : World} {b p : Nat} {v : Value} (h : w.cell? ⟨b, p, none⟩ = some v) (hk : ∀ b, b < w.heap.size → w'.heap[b]? = w.heap[b]?) : w'.cell? ⟨b, p, none⟩ = some v :=
  (World.cell?_of_block (a := ⟨b, p, none⟩) (hk b (World.block_lt_of_cell? w ⟨b, p, none⟩ h))).trans h
theorem run_load1 {t : TypeId} {size : Nat} [T : TB P t false size] {w : World} {b p : Nat} {v : Value} (h : w.cell? ⟨b, p, none⟩ = some v) : (Instr.loadAt t (.pointer (some ⟨b, p, none⟩))).run P w = .ok v w := by
  simp [Instr.loadAt, Instr.sureAddr, loadVar, T.ag, load, h, Sem.run]
theorem run_loadA {t : TypeId} {size : Nat} [T : TB P t true size] {w : World} {b p : Nat} {us : List Value} (hl : us.length = size) (h : ∀ (j : Nat) v, us[j]? = some v → w.cell? ⟨b, p + j, none⟩ = some v) :
    (Instr.loadAt t (.pointer (some ⟨b, p, none⟩))).run P w = .ok (.agg us.toArray) w := by
  have := run_loadCells_list (P := P) w ⟨b, p, none⟩ us (fun j v hv => by rw [addr_add]; exact h j v hv)
  rw [hl] at this
  simp [Instr.loadAt, Instr.sureAddr, loadVar, T.ag, T.sz, this]
/-- A cell of what nothing turns. -/
theorem val_load {t : TypeId} {size : Nat} {x : Operand} {xs : List IV} {p : Nat} {v : IV} [T : TB P t false size] (ho : o.op = .load t x) (hx : opv st.t x = some (.at_ xs p)) (hv : xs[p]? = some v) : Val P st o (.im v) := fun C a w β S => by
  obtain ⟨b, q, us, h1, hE, hb, hc, hr⟩ := S.op hx
  obtain ⟨u, hu, hR⟩ := hr.get hv
  exact ⟨u, hR, fun w' _ hk => by simp [execOp, ho, h1, run_load1 (t := t) (size := size) (cell_same (hc p u hu) hk)]⟩
theorem val_loadA {t : TypeId} {size : Nat} {x : Operand} {xs ys : List IV} {p : Nat} [T : TB P t true size] (ho : o.op = .load t x) (hx : opv st.t x = some (.at_ xs p)) (hv : (xs.drop p).take size = ys) (hl : ys.length = size) : Val P st o (.agg (ims ys)) := fun C a w β S => by
  obtain ⟨b, q, us, h1, hE, hb, hc, hr⟩ := S.op hx
  have h2 := hr.part p size
  rw [hv] at h2
  refine ⟨.agg ((us.drop p).take size).toArray, ⟨_, rfl, ?_⟩, fun w' _ hk => ?_⟩
  · refine ⟨by rw [h2.1]; simp [ims], fun i x u hx hu => ?_⟩
    simp only [ims, List.getElem?_map, Option.map_eq_some_iff] at hx
    obtain ⟨y, hy, rfl⟩ := hx
    exact h2.2 i y u hy hu
  · have := run_loadA (P := P) (t := t) (size := size) (w := w') (b := b) (p := q + p) (us := (us.drop p).take size) (by rw [h2.1, hl]) (fun j v hj => by
      rw [List.getElem?_take] at hj
      split at hj
      · rw [List.getElem?_drop] at hj
        have := cell_same (hc _ _ hj) hk
        rwa [← Nat.add_assoc] at this
      · cases hj)
    simp [execOp, ho, h1, this]
theorem Sim.obj {C : Ctx} {a : Act} {w : World} {β : List (Nat × Nat)} (S : Sim C st a w β) {k : Nat} {t : TypeId} {xs : List PV} {r : Nat} (h : st.h[k]? = some (.obj t xs r)) : ObjAt w (Liv st.h β) C.B β k t xs r := S.heap.ok k t xs r h
theorem obj_cell {w : World} {b : Nat} {us junk : List Value} {t : TypeId} {fr : Nat × Nat} (h : w.heap[b]? = some (.cells (us ++ junk).toArray t fr)) {j : Nat} {u : Value} (hu : us[j]? = some u) : w.cell? ⟨b, j, none⟩ = some u := by
  rw [cell_of_row w b j _ t fr h, List.getElem?_toArray, List.getElem?_append_left (List.getElem?_eq_some_iff.1 hu).1]
  exact hu
/-- A cell of an object. -/
theorem val_loadO {t t' : TypeId} {size r : Nat} {x : Operand} {xs : List PV} {k p : Nat} {v : PV} [T : TB P t false size] (ho : o.op = .load t x) (hx : opv st.t x = some (.ptr k p)) (hk : st.h[k]? = some (.obj t' xs r)) (hv : xs[p]? = some v) (hone : ∀ f cs, v ≠ .fn f cs) : Val P st o v := fun C a w β S => by
  obtain ⟨b, c, h1, ex⟩ := S.op hx
  obtain ⟨b', c', us, junk, h2, hh, hr, h4, _⟩ := S.obj hk
  rw [h1] at h2
  injection h2 with h2
  injection h2 with e1 e2
  subst e1 e2
  obtain ⟨u, hu, hR⟩ := hr.get hv
  refine ⟨u, ?_, fun w' _ hk => by simp [execOp, ho, ex, run_load1 (t := t) (size := size) (cell_same (obj_cell hh hu) hk)]⟩
  cases v <;> first | exact hR | exact hR.elim
theorem val_loadOA {t t' : TypeId} {size r : Nat} {x : Operand} {xs ys : List PV} {k p : Nat} [T : TB P t true size] (ho : o.op = .load t x) (hx : opv st.t x = some (.ptr k p)) (hk : st.h[k]? = some (.obj t' xs r)) (hv : (xs.drop p).take size = ys) (hl : ys.length = size) :
    Val P st o (.agg ys) := fun C a w β S => by
  obtain ⟨b, c, h1, ex⟩ := S.op hx
  obtain ⟨b', c', us, junk, h2, hh, hr, h4, _⟩ := S.obj hk
  rw [h1] at h2
  injection h2 with h2
  injection h2 with e1 e2
  subst e1 e2
  have h2 := hr.part p size
  rw [hv] at h2
  refine ⟨.agg ((us.drop p).take size).toArray, ⟨_, rfl, h2⟩, fun w' _ hk => ?_⟩
  have := run_loadA (P := P) (t := t) (size := size) (w := w') (b := b) (p := p) (us := (us.drop p).take size) (by rw [h2.1, hl]) (fun j v hj => by
    rw [List.getElem?_take] at hj
    split at hj
    · rw [List.getElem?_drop] at hj
      exact cell_same (obj_cell hh hj) hk
    · cases hj)
  simp [execOp, ho, ex, this]
theorem val_extract {x : Operand} {i : Nat} {cs : List PV} {v : PV} (ho : o.op = .extract x i) (hx : opv st.t x = some (.tup cs)) (hv : cs[i]? = some v) : Val P st o v := fun C a w β S => by
  obtain ⟨us, ex, hr⟩ := S.op hx
  obtain ⟨u, hu, hR⟩ := hr.get hv
  refine ⟨u, ?_, fun w' _ _ => by simp [execOp, ho, ex, Instr.extract, hu]⟩
  cases v <;> first | exact hR | exact hR.elim
end
end Go.Proofs.Ytkeihpihphefgaa
