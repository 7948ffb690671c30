/- The abstract machine: the rules in the form that a walk takes. No program is named here. -/
import Derived.Test.YtkeihpihphefgaaAx7
import Derived.IntWalk
namespace Go.Proofs.Ytkeihpihphefgaa
open Go.RowKit

/-! ### Operators -/
section
variable {P : Program} {st : St} {o : Oper} {t t' : TypeId} {x y : Operand} {k : IntKind} {a b : Int} {p q : Bool}
theorem bin_add (ho : o.op = .binOp .add t x y t') (hx : opv st.t x = some (.im (.s (.int .i64 a)))) (hy : opv st.t y = some (.im (.s (.int .i64 b)))) (h : -9223372036854775808 ≤ a + b ∧ a + b ≤ 9223372036854775807) : Val P st o (.im (.s (.int .i64 (a + b)))) :=
  val_bin ho hx hy fun w => by simp [eqGuard, binOp, Op.intArith, IntWalk.i64_in _ h]
theorem bin_sub (ho : o.op = .binOp .sub t x y t') (hx : opv st.t x = some (.im (.s (.int .i64 a)))) (hy : opv st.t y = some (.im (.s (.int .i64 b)))) (h : -9223372036854775808 ≤ a - b ∧ a - b ≤ 9223372036854775807) : Val P st o (.im (.s (.int .i64 (a - b)))) :=
  val_bin ho hx hy fun w => by simp [eqGuard, binOp, Op.intArith, IntWalk.i64_in _ h]
theorem bin_mul (ho : o.op = .binOp .mul t x y t') (hx : opv st.t x = some (.im (.s (.int .i64 a)))) (hy : opv st.t y = some (.im (.s (.int .i64 b)))) (h : -9223372036854775808 ≤ a * b ∧ a * b ≤ 9223372036854775807) : Val P st o (.im (.s (.int .i64 (a * b)))) :=
  val_bin ho hx hy fun w => by simp [eqGuard, binOp, Op.intArith, IntWalk.i64_in _ h]
theorem bin_addw (ho : o.op = .binOp .add t x y t') (hx : opv st.t x = some (.im (.s (.int .i64 a)))) (hy : opv st.t y = some (.im (.s (.int .i64 b)))) : Val P st o (.im (.s (.int .i64 (wrap64 (a + b))))) :=
  val_bin ho hx hy fun w => by simp [eqGuard, binOp, Op.intArith, IntKind.wrap_i64, wrap64]
theorem bin_subw (ho : o.op = .binOp .sub t x y t') (hx : opv st.t x = some (.im (.s (.int .i64 a)))) (hy : opv st.t y = some (.im (.s (.int .i64 b)))) : Val P st o (.im (.s (.int .i64 (wrap64 (a - b))))) :=
  val_bin ho hx hy fun w => by simp [eqGuard, binOp, Op.intArith, IntKind.wrap_i64, wrap64]
theorem bin_lss (ho : o.op = .binOp .lss t x y t') (hx : opv st.t x = some (.im (.s (.int k a)))) (hy : opv st.t y = some (.im (.s (.int k b)))) : Val P st o (.im (.s (.bool (decide (a < b))))) := val_bin ho hx hy fun w => by simp [eqGuard, binOp, Op.intCmp]
theorem bin_leq (ho : o.op = .binOp .leq t x y t') (hx : opv st.t x = some (.im (.s (.int k a)))) (hy : opv st.t y = some (.im (.s (.int k b)))) : Val P st o (.im (.s (.bool (decide (a ≤ b))))) := val_bin ho hx hy fun w => by simp [eqGuard, binOp, Op.intCmp]
theorem bin_gtr (ho : o.op = .binOp .gtr t x y t') (hx : opv st.t x = some (.im (.s (.int k a)))) (hy : opv st.t y = some (.im (.s (.int k b)))) : Val P st o (.im (.s (.bool (decide (b < a))))) := val_bin ho hx hy fun w => by simp [eqGuard, binOp, Op.intCmp]
theorem bin_geq (ho : o.op = .binOp .geq t x y t') (hx : opv st.t x = some (.im (.s (.int k a)))) (hy : opv st.t y = some (.im (.s (.int k b)))) : Val P st o (.im (.s (.bool (decide (b ≤ a))))) := val_bin ho hx hy fun w => by simp [eqGuard, binOp, Op.intCmp]
theorem bin_eql (ho : o.op = .binOp .eql t x y t') (hx : opv st.t x = some (.im (.s (.int k a)))) (hy : opv st.t y = some (.im (.s (.int k b)))) : Val P st o (.im (.s (.bool (decide (a = b))))) := val_bin ho hx hy fun w => by simp [eqGuard, binOp, Op.intCmp]; rfl
theorem bin_neq (ho : o.op = .binOp .neq t x y t') (hx : opv st.t x = some (.im (.s (.int k a)))) (hy : opv st.t y = some (.im (.s (.int k b)))) : Val P st o (.im (.s (.bool (decide (a ≠ b))))) := val_bin ho hx hy fun w => by simp [eqGuard, binOp, Op.intCmp]; exact Bool.eq_iff_iff.2 (by simp)
theorem bin_eqlB {p q : Bool} (hu : P.underlying t = some .bool) (ho : o.op = .binOp .eql t x y t') (hx : opv st.t x = some (.im (.s (.bool p)))) (hy : opv st.t y = some (.im (.s (.bool q)))) : Val P st o (.im (.s (.bool (p == q)))) := val_bin ho hx hy fun w => by simp only [eqGuard, Sem.run_bind]; simp [run_eql_bool w t p q hu]
theorem bin_neqB {p q : Bool} (hu : P.underlying t = some .bool) (ho : o.op = .binOp .neq t x y t') (hx : opv st.t x = some (.im (.s (.bool p)))) (hy : opv st.t y = some (.im (.s (.bool q)))) : Val P st o (.im (.s (.bool (!(p == q))))) := val_bin ho hx hy fun w => by simp only [eqGuard, Sem.run_bind]; simp [run_neq_bool w t p q hu]
theorem un_not (ho : o.op = .unOp .not t x) (hx : opv st.t x = some (.im (.s (.bool p)))) : Val P st o (.im (.s (.bool (!p)))) := val_un ho hx fun w => by simp [Op.unary]
theorem idx_N {e size bytes : Nat} {g : Bool} {xs : List IV} {n i : Nat} [T : TS P t e size bytes] (ho : o.op = .indexAddr t x y) (hx : opv st.t x = some (.im (.sl g xs n))) (hy : opv st.t y = some (.im (.s (.int k (i : Int))))) (h1 : i < n) : Val P st o (.at_ xs (i * size)) := by
  have := val_indexAddr (P := P) (st := st) (o := o) (t := t) (e := e) (size := size) (bytes := bytes) ho hx hy (by omega) (by omega)
  simpa using this
theorem idx_NO {e size bytes : Nat} {n i j : Nat} [T : TS P t e size bytes] (ho : o.op = .indexAddr t x y) (hx : opv st.t x = some (.own j n)) (hy : opv st.t y = some (.im (.s (.int k (i : Int))))) (h1 : i < n) : Val P st o (.ptr j (i * size)) := by
  have := val_indexAddrO (P := P) (st := st) (o := o) (t := t) (e := e) (size := size) (bytes := bytes) ho hx hy (by omega) (by omega)
  simpa using this
theorem len_sl {e size bytes n : Nat} {g : Bool} {xs : List IV} [T : TS P t e size bytes] (ho : o.op = .call { callee := .builtin .len, args := #[x], argTypes := #[t] }) (hx : opv st.t x = some (.im (.sl g xs n))) : Val P st o (.im (.s (.int .i64 n))) := val_len (e := e) (size := size) (bytes := bytes) ho hx (.inl ⟨_, _, rfl⟩)
theorem len_own {e size bytes n k : Nat} [T : TS P t e size bytes] (ho : o.op = .call { callee := .builtin .len, args := #[x], argTypes := #[t] }) (hx : opv st.t x = some (.own k n)) : Val P st o (.im (.s (.int .i64 n))) := val_len (e := e) (size := size) (bytes := bytes) ho hx (.inr (.inl ⟨_, rfl⟩))
theorem len_nil {e size bytes n c : Nat} {A : Option Addr} [T : TS P t e size bytes] (ho : o.op = .call { callee := .builtin .len, args := #[x], argTypes := #[t] }) (hx : opv st.t x = some (.im (.s (.slice A n c)))) : Val P st o (.im (.s (.int .i64 n))) := val_len (e := e) (size := size) (bytes := bytes) ho hx (.inr (.inr ⟨_, _, rfl⟩))
end

/-! ### The rules -/
def push : List AObj → AObj → List AObj
  | [], x => [x]
  | y :: r, x => y :: push r x
theorem push_eq : ∀ (h : List AObj) (x : AObj), push h x = h ++ [x]
  | [], x => rfl
  | y :: r, x => by rw [push, push_eq r x]; rfl
def pushs : List AObj → List AObj → List AObj
  | [], l => l
  | y :: r, l => y :: pushs r l
theorem pushs_eq : ∀ (h l : List AObj), pushs h l = h ++ l
  | [], x => rfl
  | y :: r, x => by rw [pushs, pushs_eq r x]; rfl
def shH (m : Nat) : List AObj → List AObj
  | [] => []
  | x :: r => shO m x :: shH m r
theorem shH_eq (m : Nat) : ∀ h : List AObj, shH m h = h.map (shO m)
  | [] => rfl
  | x :: r => by rw [shH, shH_eq m r]; rfl
def updH : List AObj → Nat → AObj → List AObj
  | [], _, _ => []
  | _ :: r, 0, x => x :: r
  | y :: r, k + 1, x => y :: updH r k x
theorem updH_eq : ∀ (h : List AObj) (k : Nat) (x : AObj), updH h k x = h.set k x
  | [], k, x => by cases k <;> rfl
  | y :: r, 0, x => rfl
  | y :: r, k + 1, x => by rw [updH, updH_eq r k x]; rfl
/-- The laws by which the rows of objects are written out, under one name. -/
theorem axh : (∀ x, push [] x = [x]) ∧ (∀ y r x, push (y :: r) x = y :: push r x) ∧ (∀ l, pushs [] l = l) ∧ (∀ y r l, pushs (y :: r) l = y :: pushs r l) ∧ (∀ m, shH m [] = []) ∧ (∀ m x r, shH m (x :: r) = shO m x :: shH m r) ∧ (∀ m, shO m .dead = .dead) ∧
    (∀ m t xs r, shO m (.obj t (ims xs) r) = .obj t (ims xs) r) ∧ (∀ m t r, shO m (.obj t [] r) = .obj t [] r) ∧ (∀ m t x xs r, shO m (.obj t (x :: xs) r) = .obj t (sh1 m x :: xs.map (sh1 m)) r) ∧ (∀ m x, sh m (.im x) = .im x) ∧ (∀ m k n, sh m (.own k n) = .own (k + m) n) ∧ (∀ m k n, sh m (.ptr k n) = .ptr (k + m) n) ∧ (∀ m cs, sh m (.agg cs) = .agg (cs.map (sh1 m))) ∧ (∀ m cs, sh m (.tup cs) = .tup (cs.map (sh2 m))) ∧
    (∀ m x, sh1 m (.im x) = .im x) ∧ (∀ m k n, sh1 m (.own k n) = .own (k + m) n) ∧ (∀ m k n, sh1 m (.ptr k n) = .ptr (k + m) n) ∧ (∀ m x, sh2 m (.im x) = .im x) ∧ (∀ m k n, sh2 m (.own k n) = .own (k + m) n) ∧ (∀ m k n, sh2 m (.ptr k n) = .ptr (k + m) n) ∧ (∀ m cs, sh2 m (.agg cs) = .agg (cs.map (sh1 m))) ∧
    (∀ x, updH [] 0 x = []) ∧ (∀ y r x, updH (y :: r) 0 x = x :: r) ∧ (∀ y r k x, updH (y :: r) (k + 1) x = y :: updH r k x) ∧ (∀ x, cellsOf (.im x) = [.im x]) ∧ (∀ k n, cellsOf (.own k n) = [.own k n]) ∧ (∀ k n, cellsOf (.ptr k n) = [.ptr k n]) ∧ (∀ cs, cellsOf (.agg cs) = cs) ∧
    (∀ (f : PV → PV), [].map f = []) ∧ (∀ (f : PV → PV) x r, (x :: r).map f = f x :: r.map f) ∧ (∀ (f : Value → PV), [].map f = []) ∧ (∀ (f : Value → PV) x r, (x :: r).map f = f x :: r.map f) ∧ (∀ m xs, (ims xs).map (sh1 m) = ims xs) ∧ (([] : List AObj).length = 0) ∧ (∀ (x : AObj) r, (x :: r).length = r.length + 1) ∧ (∀ n : Nat, 0 + n = n) ∧ (∀ n : Nat, n + 0 = n) := by
  refine ⟨fun _ => rfl, fun _ _ _ => rfl, fun _ => rfl, fun _ _ _ => rfl, fun _ => rfl, fun _ _ _ => rfl, fun _ => rfl, fun m t xs r => by rw [shO, sh_ims], fun _ _ _ => rfl, fun _ _ _ _ _ => rfl, fun _ _ => rfl, fun _ _ _ => rfl, fun _ _ _ => rfl, fun _ _ => rfl, fun _ _ => rfl, fun _ _ => rfl, fun _ _ _ => rfl, fun _ _ _ => rfl, fun _ _ => rfl, fun _ _ _ => rfl, fun _ _ _ => rfl, fun _ _ => rfl,
    fun _ => rfl, fun _ _ _ => rfl, fun _ _ _ _ => rfl, fun _ => rfl, fun _ _ => rfl, fun _ _ => rfl, fun _ => rfl, fun _ => rfl, fun _ _ _ => rfl, fun _ => rfl, fun _ _ _ => rfl, sh_ims, rfl, fun _ _ => rfl, Nat.zero_add, Nat.add_zero⟩
theorem axw : (∀ (xs : List PV) p, wr xs p [] = xs) ∧ (∀ (x : PV) r p ys, wr (x :: r) (p + 1) ys = x :: wr r p ys) ∧ (∀ (x : PV) r y ys, wr (x :: r) 0 (y :: ys) = y :: wr r 0 ys) ∧ (∀ n : Nat, 0 + n = n) ∧ (∀ n : Nat, n + 0 = n) := by
  refine ⟨fun xs p => by simp [wr], fun x r p ys => ?_, fun x r y ys => ?_, Nat.zero_add, Nat.add_zero⟩
  · simp [wr, Nat.add_right_comm]
  · simp [wr]
section
variable {P : Program} {t t0 : List (Nat × PV)} {h h0 : List AObj} {M N d : Nat} {Q : AQ} {o : Oper} {ops : Array Oper} {rest : List Oper} {prest : List (Oper × Bool)} {tail : List Oper} {f : Bool}
theorem dst_lt (ho : o.dst = some d) (hd : Nat.blt d N = true) : ∀ i, o.dst = some i → i < N := fun i hi => by rw [ho] at hi; injection hi with hi; subst hi; exact Nat.blt_eq.mp hd
theorem awl_v {v : PV} (hg : o.guard = none) (ho : o.dst = some d) (hv : Val P ⟨t, h⟩ o v) (hd : Nat.blt d N = true) (k : awl P M N ops Q rest ⟨(d, v) :: t, h⟩) : awl P M N ops Q (o :: rest) ⟨t, h⟩ := awl_val hg hv (dst_lt ho hd) (by rw [ho]; exact k)
theorem awl_vg {v : PV} {j e : Nat} {want : Bool} (hg : o.guard = some (j, want)) (hj : (ops[j]?).bind (·.dst) = some e) (hs : slot t e = some (.im (.s (.bool want)))) (ho : o.dst = some d) (hv : Val P ⟨t, h⟩ o v) (hd : Nat.blt d N = true) (k : awl P M N ops Q rest ⟨(d, v) :: t, h⟩) : awl P M N ops Q (o :: rest) ⟨t, h⟩ :=
  awl_go hg hj hs (eff_val hv) (dst_lt ho hd) fun st' e => by subst e; rw [ho]; exact k
theorem awl_s {j e : Nat} {want b : Bool} (hg : o.guard = some (j, want)) (hj : (ops[j]?).bind (·.dst) = some e) (hs : slot t e = some (.im (.s (.bool b)))) (hb : Bool.xor b want = true) (ho : o.dst = some d) (hd : Nat.blt d N = true) (k : awl P M N ops Q rest ⟨(d, .im (.s undef)) :: t, h⟩) : awl P M N ops Q (o :: rest) ⟨t, h⟩ :=
  awl_skip (want := want) hg hj (by rw [hs]; cases b <;> cases want <;> first | rfl | cases hb) (dst_lt ho hd) (by rw [ho]; exact k)
theorem awl_b {e j : Nat} {want b : Bool} (_ : o.guard = some (j, want)) (_ : (ops[j]?).bind (·.dst) = some e) (hs : slot t e = some (.im (.s (.bool b)))) (ht : b = true → awl P M N ops Q (o :: rest) ⟨(e, .im (.s (.bool true))) :: t, h⟩) (hf : b = false → awl P M N ops Q (o :: rest) ⟨(e, .im (.s (.bool false))) :: t, h⟩) : awl P M N ops Q (o :: rest) ⟨t, h⟩ := awl_split hs ht hf
theorem apl_v {v : PV} (hvo : valOp o.op = true) (hg : o.guard = none) (ho : o.dst = some d) (hv : Val P ⟨t0, h0⟩ o v) (hd : Nat.blt d N = true) (k : apl P M N ops Q tail prest ⟨(d, v) :: t0, h0⟩ ⟨(d, v) :: t, h⟩) : apl P M N ops Q tail ((o, true) :: prest) ⟨t0, h0⟩ ⟨t, h⟩ := apl_val hvo hg hv (dst_lt ho hd) (by rw [ho]; exact k)
theorem apl_vg {v : PV} {j e : Nat} {want : Bool} (hvo : valOp o.op = true) (hg : o.guard = some (j, want)) (hj : (ops[j]?).bind (·.dst) = some e) (hs : slot t e = some (.im (.s (.bool want)))) (ho : o.dst = some d) (hv : Val P ⟨t0, h0⟩ o v) (hd : Nat.blt d N = true) (k : apl P M N ops Q tail prest ⟨(d, v) :: t0, h0⟩ ⟨(d, v) :: t, h⟩) : apl P M N ops Q tail ((o, true) :: prest) ⟨t0, h0⟩ ⟨t, h⟩ :=
  apl_valg hvo hg hj hs hv (dst_lt ho hd) (by rw [ho]; exact k)
theorem apl_s {j e : Nat} {want b : Bool} (hg : o.guard = some (j, want)) (hj : (ops[j]?).bind (·.dst) = some e) (hs : slot t e = some (.im (.s (.bool b)))) (hb : Bool.xor b want = true) (ho : o.dst = some d) (hd : Nat.blt d N = true) (k : apl P M N ops Q tail prest ⟨(d, .im (.s undef)) :: t0, h0⟩ ⟨(d, .im (.s undef)) :: t, h⟩) : apl P M N ops Q tail ((o, f) :: prest) ⟨t0, h0⟩ ⟨t, h⟩ :=
  apl_skip (want := want) hg hj (by rw [hs]; cases b <;> cases want <;> first | rfl | cases hb) (dst_lt ho hd) (by rw [ho]; exact k)
theorem apl_b {e j : Nat} {want b : Bool} (_ : o.guard = some (j, want)) (_ : (ops[j]?).bind (·.dst) = some e) (hs : slot t e = some (.im (.s (.bool b)))) (ht : b = true → apl P M N ops Q tail ((o, f) :: prest) ⟨t0, h0⟩ ⟨(e, .im (.s (.bool true))) :: t, h⟩) (hf : b = false → apl P M N ops Q tail ((o, f) :: prest) ⟨t0, h0⟩ ⟨(e, .im (.s (.bool false))) :: t, h⟩) : apl P M N ops Q tail ((o, f) :: prest) ⟨t0, h0⟩ ⟨t, h⟩ := apl_split hs ht hf
/-- An operation with an effect; R tells the states that it leaves. -/
theorem awl_e {bl : Bool} {R : St → Prop} (hg : o.guard = none) (ho : o.dst = some d) (he : EffR P bl o ⟨t, h⟩ R) (hd : Nat.blt d N = true) (k : ∀ st', R st' → awl P M N ops Q rest st') : awl P M N ops Q (o :: rest) ⟨t, h⟩ := awl_eff hg he (dst_lt ho hd) k
theorem awl_e0 {bl : Bool} {R : St → Prop} (hg : o.guard = none) (ho : o.dst = none) (he : EffR P bl o ⟨t, h⟩ R) (k : ∀ st', R st' → awl P M N ops Q rest st') : awl P M N ops Q (o :: rest) ⟨t, h⟩ := awl_eff hg he (fun i hi => by rw [ho] at hi; cases hi) k
theorem awl_eg {bl : Bool} {R : St → Prop} {j e : Nat} {want : Bool} (hg : o.guard = some (j, want)) (hj : (ops[j]?).bind (·.dst) = some e) (hs : slot t e = some (.im (.s (.bool want)))) (ho : o.dst = some d) (he : EffR P bl o ⟨t, h⟩ R) (hd : Nat.blt d N = true) (k : ∀ st', R st' → awl P M N ops Q rest st') : awl P M N ops Q (o :: rest) ⟨t, h⟩ := awl_go hg hj hs he (dst_lt ho hd) k
theorem apl_e {R : St → Prop} (hf : (f && valOp o.op) = false) (hg : o.guard = none) (ho : o.dst = some d) (he : EffR P true o ⟨t, h⟩ R) (hd : Nat.blt d N = true) (hn : slot t0 d = none) (k : ∀ st', R st' → apl P M N ops Q tail prest ⟨t0, h0⟩ st') : apl P M N ops Q tail ((o, f) :: prest) ⟨t0, h0⟩ ⟨t, h⟩ :=
  apl_eff hf hg he (dst_lt ho hd) (fun i hi => by rw [ho] at hi; injection hi with hi; subst hi; exact hn) k
theorem apl_eg {R : St → Prop} {j e : Nat} {want : Bool} (hf : (f && valOp o.op) = false) (hg : o.guard = some (j, want)) (hj : (ops[j]?).bind (·.dst) = some e) (hs : slot t e = some (.im (.s (.bool want)))) (ho : o.dst = some d) (he : EffR P true o ⟨t, h⟩ R) (hd : Nat.blt d N = true) (hn : slot t0 d = none) (k : ∀ st', R st' → apl P M N ops Q tail prest ⟨t0, h0⟩ st') : apl P M N ops Q tail ((o, f) :: prest) ⟨t0, h0⟩ ⟨t, h⟩ :=
  apl_effg hf hg hj hs he (dst_lt ho hd) (fun i hi => by rw [ho] at hi; injection hi with hi; subst hi; exact hn) k
/-! ### Effects -/
theorem ef_v {v : PV} (ho : o.dst = some d) (hv : Val P ⟨t, h⟩ o v) : EffR P true o ⟨t, h⟩ (· = ⟨(d, v) :: t, h⟩) := by have := eff_val hv; rw [ho] at this; exact this
theorem ef_box {ty : TypeId} {x : Operand} {v : PV} (ho : o.dst = some d) (hop : o.op = .box ty x) (hx : opv t x = some v) (hv : (cellsOf v).all okc = true) : EffR P true o ⟨t, h⟩ (· = ⟨(d, .ptr h.length 0) :: t, push h (.obj ty (cellsOf v) 0)⟩) := by
  have := eff_box (P := P) (st := ⟨t, h⟩) hop hx hv rfl; rw [ho] at this; rw [push_eq]; exact this
theorem ef_alloc {ty : TypeId} {zs : List Value} [T : TZ P ty zs] (ho : o.dst = some d) (hop : o.op = .alloc ty) : EffR P true o ⟨t, h⟩ (· = ⟨(d, .ptr h.length 0) :: t, push h (.obj ty (zs.map fun z => .im (.s z)) 0)⟩) := by
  have := eff_alloc (P := P) (st := ⟨t, h⟩) (zs := zs) hop rfl; rw [ho] at this; rw [push_eq]; exact this
theorem ef_store {ty t' size r k p : Nat} {ag : Bool} {x y : Operand} {v : PV} {xs : List PV} [T : TB P ty ag size] (hdst : o.dst = none) (ho : o.op = .store ty x y) (hx : opv t x = some (.ptr k p)) (hy : opv t y = some v) (hv : (cellsOf v).all okc = true) (hl : (cellsOf v).length = size)
    (hk : h[k]? = some (.obj t' xs r)) (hin : p + size ≤ xs.length) : EffR P false o ⟨t, h⟩ (· = ⟨t, updH h k (.obj t' (wr xs p (cellsOf v)) r)⟩) := by
  have := eff_store (P := P) (st := ⟨t, h⟩) (T := T) ho hx hy hv hl hk hin hdst; rw [updH_eq]; exact this
theorem ef_make {ty e size bytes n : Nat} {kl kc : IntKind} {x y : Operand} {zs : List Value} [T : TS P ty e size bytes] [Z : TZ P e zs] (ho : o.dst = some d) (hop : o.op = .makeSlice ty x y) (hx : opv t x = some (.im (.s (.int kl (n : Int))))) (hy : opv t y = some (.im (.s (.int kc (n : Int)))))
    (hn : n ≤ 16777216) : EffR P true o ⟨t, h⟩ (· = ⟨(d, .own h.length n) :: t, push h (.obj e (ims ((List.replicate n (zs.map IV.s)).flatten)) size)⟩) := by
  have := eff_make (P := P) (st := ⟨t, h⟩) (T := T) (Z := Z) hop hx hy hn rfl; rw [ho] at this; rw [push_eq]; exact this
theorem ef_slice0 {ty e size bytes : Nat} [T : TS P ty e size bytes] (ho : o.dst = some d) (hop : o.op = .buildSlice ty 0 #[]) : EffR P true o ⟨t, h⟩ (· = ⟨(d, .own h.length 0) :: t, push h (.obj e [] size)⟩) := by
  have := eff_slice0 (P := P) (st := ⟨t, h⟩) (T := T) hop rfl; rw [ho] at this; rw [push_eq]; exact this
theorem ef_slice1 {ty e size bytes : Nat} {x : Operand} {v : PV} [T : TS P ty e size bytes] (ho : o.dst = some d) (hop : o.op = .buildSlice ty 1 #[(0, x)]) (hx : opv t x = some v) (hv : (cellsOf v).all okc = true) (hl : (cellsOf v).length = size) (hs : size ≤ 1000) :
    EffR P true o ⟨t, h⟩ (· = ⟨(d, .own h.length 1) :: t, push h (.obj e (cellsOf v) size)⟩) := by
  have := eff_slice1 (P := P) (st := ⟨t, h⟩) (T := T) hop hx hv hl hs rfl; rw [ho] at this; rw [push_eq]; exact this
theorem push_len : ∀ (h : List AObj) (x : AObj), (push h x).length = h.length + 1 := fun h x => by rw [push_eq]; simp
/-- Append of a slice that is an object. -/
theorem ef_app {ty e size bytes k n j m r : Nat} {s x : Operand} {xs ys : List PV} [T : TS P ty e size bytes] (ho : o.dst = some d) (hop : o.op = .call { callee := .builtin .append, args := #[s, x], argTypes := #[ty, ty] }) (hs : opv t s = some (.own k n)) (hk : h[k]? = some (.obj e xs size)) (hx : opv t x = some (.own j m)) (hj : h[j]? = some (.obj e ys r))
    (hn : xs.length = n * size) (hm : ys.length = m * size) (hb : n + m ≤ 33554432) : EffR P false o ⟨t, h⟩ (· = ⟨(d, .own h.length (n + m)) :: t, push (updH h k .dead) (.obj e (xs ++ ys) size)⟩) := by
  have := eff_app (P := P) (st := ⟨t, h⟩) (T := T) hop hs hk hn (fun C a w β S => src_own S hx hj) hm hb rfl; rw [ho] at this; rw [push_eq, updH_eq]; exact this
theorem ef_app0 {ty e size bytes j m r : Nat} {s x : Operand} {ys : List PV} [T : TS P ty e size bytes] (ho : o.dst = some d) (hop : o.op = .call { callee := .builtin .append, args := #[s, x], argTypes := #[ty, ty] }) (hs : opv t s = some (.im (.s (.slice none 0 0)))) (hx : opv t x = some (.own j m)) (hj : h[j]? = some (.obj e ys r))
    (hm : ys.length = m * size) (h0 : 0 < m) (hb : m ≤ 33554432) : EffR P true o ⟨t, h⟩ (· = ⟨(d, .own h.length m) :: t, push h (.obj e ys size)⟩) := by
  have := eff_app0 (P := P) (st := ⟨t, h⟩) (T := T) hop hs (fun C a w β S => src_own S hx hj) hm h0 hb rfl; rw [ho] at this; rw [push_eq]; exact this
theorem ef_call {f : FuncId} {args : Array Operand} {ts : Array TypeId} {ds : List PV} {R : PV → List AObj → Prop} [T : TC P f] (ho : o.dst = some d) (hop : o.op = .call { callee := .value (.func f), args, argTypes := ts }) (hc : AC P f ds R) (hx : F2 (fun x d => ∃ v, opv t x = some v ∧ Fz h v d) args.toList ds) :
    EffR P true o ⟨t, h⟩ (fun st' => ∃ r hr, R r hr ∧ st' = ⟨(d, sh h.length r) :: t, pushs h (shH h.length hr)⟩) := by
  have := eff_call (P := P) (st := ⟨t, h⟩) hop hx hc; rw [ho] at this; simp only [pushs_eq, shH_eq]; exact this
end
section
variable {K : St → Prop} {Q : AQ} {st : St} {id id' : Nat}
theorem q_go {A : St → Prop} (h : ∀ st, A st → K st) (k : A st) : K st := h st k
theorem q_then_n (h : K st) : AQ.then K Q .normal st := h
theorem q_then_e (h : Q (.exit id) st) : AQ.then K Q (.exit id) st := h
theorem q_then_r (h : Q .ret st) : AQ.then K Q .ret st := h
theorem q_blk_n (h : Q .normal st) : AQ.inBlock id Q .normal st := h
theorem q_blk_r (h : Q .ret st) : AQ.inBlock id Q .ret st := h
theorem q_blk_s (h : Q .normal st) : AQ.inBlock id Q (.exit id) st := by simp only [AQ.inBlock, if_true]; exact h
theorem q_blk_o (hne : Nat.beq id' id = false) (h : Q (.exit id') st) : AQ.inBlock id Q (.exit id') st := by
  have : ¬ id' = id := fun e => by subst e; simp at hne
  simp only [AQ.inBlock, if_neg this]; exact h
end

/-! ### The same, behind names that nothing opens -/
structure WP (P : Program) (M N : Nat) (c : Code) (Q : AQ) (st : St) : Prop where
  run : awp P M N c Q st
structure WL (P : Program) (M N : Nat) (ops : Array Oper) (Q : AQ) (l : List Oper) (st : St) : Prop where
  run : awl P M N ops Q l st
structure PL (P : Program) (M N : Nat) (ops : Array Oper) (Q : AQ) (tail : List Oper) (l : List (Oper × Bool)) (st0 st : St) : Prop where
  run : apl P M N ops Q tail l st0 st
structure VV (P : Program) (st : St) (o : Oper) (v : PV) : Prop where
  run : Val P st o v
structure EE (P : Program) (bl : Bool) (o : Oper) (st : St) (R : St → Prop) : Prop where
  run : EffR P bl o st R
section
variable {P : Program} {t t0 : List (Nat × PV)} {h h0 : List AObj} {M N d : Nat} {Q : AQ} {o : Oper} {ops : Array Oper} {rest : List Oper} {prest : List (Oper × Bool)} {tail : List Oper} {f : Bool} {st : St} {c x y : Code}
theorem cw_seq (k : ∀ K : St → Prop, (∀ st, WP P M N y Q st → K st) → WP P M N x (AQ.then K Q) st) : WP P M N (.seq x y) Q st := ⟨awp_seq_k fun K hK => (k K fun st h => hK st h.run).run⟩
theorem cw_cut (J : St → Prop) (k1 : ∀ K : St → Prop, (∀ st', (∃ st1, J st1 ∧ Imp M st1 st') → K st') → WP P M N x (AQ.then K Q) st) (k2 : ∀ st1, J st1 → WP P M N y Q st1) : WP P M N (.seq x y) Q st := ⟨awp_seq_cut J (k1 _ fun _ h => h).run fun st1 h => (k2 st1 h).run⟩
theorem cw_skip (k : Q .normal st) : WP P M N .skip Q st := ⟨awp_skip k⟩
theorem cw_exit {id : Nat} (k : Q (.exit id) st) : WP P M N (.exit id) Q st := ⟨awp_exit k⟩
theorem cw_ret (k : Q .ret st) : WP P M N .ret Q st := ⟨awp_ret k⟩
theorem cw_block {id : Nat} (k : WP P M N c (AQ.inBlock id Q) st) : WP P M N (.block id c) Q st := ⟨awp_block k.run⟩
theorem cw_cond {u : Operand} {b : Bool} (hc : opv t u = some (.im (.s (.bool b)))) (ht : b = true → WP P M N x Q ⟨t, h⟩) (hf : b = false → WP P M N y Q ⟨t, h⟩) : WP P M N (.cond u x y) Q ⟨t, h⟩ := ⟨awp_cond hc (fun e => (ht e).run) fun e => (hf e).run⟩
theorem cw_loop (I : Nat → St → Prop) (h0 : ∃ n st1, I n st1 ∧ Imp M st1 st) (round : ∀ n st1, I n st1 → ∀ K : St → Prop, (∀ st', (∃ n' st2, n' < n ∧ I n' st2 ∧ Imp M st2 st') → K st') → WP P M N c (AQ.then K Q) st1) : WP P M N (.loop c) Q st := ⟨awp_loop I h0 fun n st1 hI K hK => (round n st1 hI K hK).run⟩
theorem cw_region {id : Nat} {l : List Oper} (k : WL P M N l.toArray Q l st) : WP P M N (.region id l.toArray false) Q st := ⟨awp_region k.run⟩
theorem cw_plan {l : List Oper} (id n : Nat) (ord : List (Nat × Bool)) (hm : P.follows .mixedOrders = true) (hB : planB .any l.toArray n ord = true) (k : PL P M N l.toArray Q (l.drop n) (picked l ord) st st) : WP P M N (.region id l.toArray true) Q st := ⟨awp_plan id n ord hm hB k.run⟩
theorem cw_imp {st1 : St} (hi : Imp M st1 st) (k : WP P M N c Q st1) : WP P M N c Q st := ⟨awp_imp hi k.run⟩
theorem wl_imp {l : List Oper} {st1 : St} (hi : Imp M st1 st) (k : WL P M N ops Q l st1) : WL P M N ops Q l st := ⟨awl_imp hi k.run⟩
theorem wl_nil (k : Q .normal st) : WL P M N ops Q [] st := ⟨awl_nil k⟩
theorem wl_v {v : PV} (hg : o.guard = none) (ho : o.dst = some d) (hv : VV P ⟨t, h⟩ o v) (hd : Nat.blt d N = true) (k : WL P M N ops Q rest ⟨(d, v) :: t, h⟩) : WL P M N ops Q (o :: rest) ⟨t, h⟩ := ⟨awl_v hg ho hv.run hd k.run⟩
theorem wl_vg {v : PV} {j e : Nat} {want : Bool} (hg : o.guard = some (j, want)) (hj : (ops[j]?).bind (·.dst) = some e) (hs : slot t e = some (.im (.s (.bool want)))) (ho : o.dst = some d) (hv : VV P ⟨t, h⟩ o v) (hd : Nat.blt d N = true) (k : WL P M N ops Q rest ⟨(d, v) :: t, h⟩) : WL P M N ops Q (o :: rest) ⟨t, h⟩ := ⟨awl_vg hg hj hs ho hv.run hd k.run⟩
theorem wl_s {j e : Nat} {want b : Bool} (hg : o.guard = some (j, want)) (hj : (ops[j]?).bind (·.dst) = some e) (hs : slot t e = some (.im (.s (.bool b)))) (hb : Bool.xor b want = true) (ho : o.dst = some d) (hd : Nat.blt d N = true) (k : WL P M N ops Q rest ⟨(d, .im (.s undef)) :: t, h⟩) : WL P M N ops Q (o :: rest) ⟨t, h⟩ := ⟨awl_s hg hj hs hb ho hd k.run⟩
theorem wl_b {e j : Nat} {want b : Bool} (hg : o.guard = some (j, want)) (hj : (ops[j]?).bind (·.dst) = some e) (hs : slot t e = some (.im (.s (.bool b)))) (ht : b = true → WL P M N ops Q (o :: rest) ⟨(e, .im (.s (.bool true))) :: t, h⟩) (hf : b = false → WL P M N ops Q (o :: rest) ⟨(e, .im (.s (.bool false))) :: t, h⟩) : WL P M N ops Q (o :: rest) ⟨t, h⟩ := ⟨awl_b hg hj hs (fun e => (ht e).run) fun e => (hf e).run⟩
theorem wl_e {bl : Bool} {R : St → Prop} (hg : o.guard = none) (ho : o.dst = some d) (he : EE P bl o ⟨t, h⟩ R) (hd : Nat.blt d N = true) (k : ∀ st', R st' → WL P M N ops Q rest st') : WL P M N ops Q (o :: rest) ⟨t, h⟩ := ⟨awl_e hg ho he.run hd fun st' h => (k st' h).run⟩
theorem wl_e0 {bl : Bool} {R : St → Prop} (hg : o.guard = none) (ho : o.dst = none) (he : EE P bl o ⟨t, h⟩ R) (k : ∀ st', R st' → WL P M N ops Q rest st') : WL P M N ops Q (o :: rest) ⟨t, h⟩ := ⟨awl_e0 hg ho he.run fun st' h => (k st' h).run⟩
theorem wl_eg {bl : Bool} {R : St → Prop} {j e : Nat} {want : Bool} (hg : o.guard = some (j, want)) (hj : (ops[j]?).bind (·.dst) = some e) (hs : slot t e = some (.im (.s (.bool want)))) (ho : o.dst = some d) (he : EE P bl o ⟨t, h⟩ R) (hd : Nat.blt d N = true) (k : ∀ st', R st' → WL P M N ops Q rest st') : WL P M N ops Q (o :: rest) ⟨t, h⟩ := ⟨awl_eg hg hj hs ho he.run hd fun st' h => (k st' h).run⟩
theorem pl_nil (k : WL P M N ops Q tail st) {st0 : St} : PL P M N ops Q tail [] st0 st := ⟨apl_nil k.run⟩
theorem pl_v {v : PV} (hvo : valOp o.op = true) (hg : o.guard = none) (ho : o.dst = some d) (hv : VV P ⟨t0, h0⟩ o v) (hd : Nat.blt d N = true) (k : PL P M N ops Q tail prest ⟨(d, v) :: t0, h0⟩ ⟨(d, v) :: t, h⟩) : PL P M N ops Q tail ((o, true) :: prest) ⟨t0, h0⟩ ⟨t, h⟩ := ⟨apl_v hvo hg ho hv.run hd k.run⟩
theorem pl_vg {v : PV} {j e : Nat} {want : Bool} (hvo : valOp o.op = true) (hg : o.guard = some (j, want)) (hj : (ops[j]?).bind (·.dst) = some e) (hs : slot t e = some (.im (.s (.bool want)))) (ho : o.dst = some d) (hv : VV P ⟨t0, h0⟩ o v) (hd : Nat.blt d N = true) (k : PL P M N ops Q tail prest ⟨(d, v) :: t0, h0⟩ ⟨(d, v) :: t, h⟩) : PL P M N ops Q tail ((o, true) :: prest) ⟨t0, h0⟩ ⟨t, h⟩ := ⟨apl_vg hvo hg hj hs ho hv.run hd k.run⟩
theorem pl_s {j e : Nat} {want b : Bool} (hg : o.guard = some (j, want)) (hj : (ops[j]?).bind (·.dst) = some e) (hs : slot t e = some (.im (.s (.bool b)))) (hb : Bool.xor b want = true) (ho : o.dst = some d) (hd : Nat.blt d N = true) (k : PL P M N ops Q tail prest ⟨(d, .im (.s undef)) :: t0, h0⟩ ⟨(d, .im (.s undef)) :: t, h⟩) : PL P M N ops Q tail ((o, f) :: prest) ⟨t0, h0⟩ ⟨t, h⟩ := ⟨apl_s hg hj hs hb ho hd k.run⟩
theorem pl_b {e j : Nat} {want b : Bool} (hg : o.guard = some (j, want)) (hj : (ops[j]?).bind (·.dst) = some e) (hs : slot t e = some (.im (.s (.bool b)))) (ht : b = true → PL P M N ops Q tail ((o, f) :: prest) ⟨t0, h0⟩ ⟨(e, .im (.s (.bool true))) :: t, h⟩) (hf : b = false → PL P M N ops Q tail ((o, f) :: prest) ⟨t0, h0⟩ ⟨(e, .im (.s (.bool false))) :: t, h⟩) : PL P M N ops Q tail ((o, f) :: prest) ⟨t0, h0⟩ ⟨t, h⟩ := ⟨apl_b hg hj hs (fun e => (ht e).run) fun e => (hf e).run⟩
theorem pl_e {R : St → Prop} (hf : (f && valOp o.op) = false) (hg : o.guard = none) (ho : o.dst = some d) (he : EE P true o ⟨t, h⟩ R) (hd : Nat.blt d N = true) (hn : slot t0 d = none) (k : ∀ st', R st' → PL P M N ops Q tail prest ⟨t0, h0⟩ st') : PL P M N ops Q tail ((o, f) :: prest) ⟨t0, h0⟩ ⟨t, h⟩ := ⟨apl_e hf hg ho he.run hd hn fun st' h => (k st' h).run⟩
theorem pl_eg {R : St → Prop} {j e : Nat} {want : Bool} (hf : (f && valOp o.op) = false) (hg : o.guard = some (j, want)) (hj : (ops[j]?).bind (·.dst) = some e) (hs : slot t e = some (.im (.s (.bool want)))) (ho : o.dst = some d) (he : EE P true o ⟨t, h⟩ R) (hd : Nat.blt d N = true) (hn : slot t0 d = none) (k : ∀ st', R st' → PL P M N ops Q tail prest ⟨t0, h0⟩ st') : PL P M N ops Q tail ((o, f) :: prest) ⟨t0, h0⟩ ⟨t, h⟩ := ⟨apl_eg hf hg hj hs ho he.run hd hn fun st' h => (k st' h).run⟩
theorem ac_go {g : FuncId} {fn : Func} {ds : List PV} {R : PV → List AObj → Prop} (hf : P.funcs[g]? = some fn) (hb : fn.body = some c) (hN : fn.ntmps = N) (hds : Nat.ble ds.length N = true) (k : WP P 0 N c (AEnd P fn R) ⟨nums 0 ds, []⟩) : AC P g ds R := ac_of hf hb (by rw [hN]; exact Nat.le_of_ble_eq_true hds) (by rw [hN]; exact k.run)
theorem slots_nil {ρ : List Nat} : SlotsOk ρ t [] := trivial
theorem slots_cons {ρ : List Nat} {i : Nat} {v : PV} {r : List (Nat × PV)} (h1 : slot t i = some (ren2 ρ v)) (h2 : SlotsOk ρ t r) : SlotsOk ρ t ((i, v) :: r) := ⟨h1, h2⟩
theorem objs_nil {ρ : List Nat} {k : Nat} : ObjsOk ρ h [] k := trivial
theorem objs_dead {ρ : List Nat} {k : Nat} {r : List AObj} (h2 : ObjsOk ρ h r (k + 1)) : ObjsOk ρ h (.dead :: r) k := h2
theorem objs_cons {ρ : List Nat} {k j q : Nat} {ty : TypeId} {xs xs' : List PV} {r : List AObj} (hj : ρ[k]? = some j) (hh : h[j]? = some (.obj ty xs' q)) (hx : xs.map (ren1 ρ) = xs') (h2 : ObjsOk ρ h r (k + 1)) : ObjsOk ρ h (.obj ty xs q :: r) k := ⟨⟨j, hj, by rw [hx]; exact hh⟩, h2⟩
theorem imp_go (ρ : List Nat) {t' : List (Nat × PV)} {h' : List AObj} (hl : ρ.length = h'.length) (hall : ρ.all (fun j => Nat.blt j h.length) = true) (hinj : ρ.Nodup) (ho : ObjsOk ρ h h' 0) (hs : SlotsOk ρ t t') : Imp 0 ⟨t', h'⟩ ⟨t, h⟩ :=
  imp_ren ρ (fun k hk => absurd hk (Nat.not_lt_zero k)) hl (fun j hj => Nat.blt_eq.mp (List.all_eq_true.1 hall j hj)) hinj ho hs
/-! ### Ends -/
theorem im_bool {a b : Bool} (h : a = b) : (PV.im (.s (.bool a))) = .im (.s (.bool b)) := by rw [h]
theorem im_int {a b : Int} (h : a = b) : (PV.im (.s (.int .i64 a))) = .im (.s (.int .i64 b)) := by rw [h]
theorem imp_none (M : Nat) (hM : M = 0) (t' : List (Nat × PV)) (hs : SlotsOk [] t t') : Imp M ⟨t', []⟩ ⟨t, h⟩ := imp_ren [] (fun k hk => by omega) rfl (by simp) List.nodup_nil trivial hs
theorem imp_one (t' : List (Nat × PV)) {k : Nat} {ty : TypeId} {xs : List PV} {r : Nat} (hk : h[k]? = some (.obj ty (xs.map (ren1 [k])) r)) (hs : SlotsOk [k] t t') : Imp 0 ⟨t', [.obj ty xs r]⟩ ⟨t, h⟩ :=
  imp_ren [k] (fun k hk => by omega) rfl (by simp only [List.mem_singleton, forall_eq]; exact (List.getElem?_eq_some_iff.1 hk).1) (by simp) ⟨⟨k, rfl, hk⟩, trivial⟩ hs
/-- One number, one truth. -/
theorem end_s {fn : Func} {R : PV → List AObj → Prop} {e : Exit} {i : Nat} {v : Value} (he : e = .normal ∨ e = .ret) (hr : fn.results = #[.tmp i]) (hs : slot t i = some (.im (.s v))) (hR : R (.im (.s v)) []) : AEnd P fn R e ⟨t, h⟩ :=
  ⟨he, ⟨[(i, .im (.s v))], []⟩, _, _, imp_none 0 rfl _ ⟨hs, trivial⟩, ares1 hr (by simp [slot]), .inl Kill.nil, hR, new_s, trivial⟩
/-- A slice of its own, of cells that do not turn. -/
theorem end_own {fn : Func} {R : PV → List AObj → Prop} {e : Exit} {i k n r : Nat} {ty : TypeId} {ys : List IV} (he : e = .normal ∨ e = .ret) (hr : fn.results = #[.tmp i]) (hs : slot t i = some (.own k n)) (hk : h[k]? = some (.obj ty (ims ys) r)) (hn : ∀ y ∈ ys, NewI y) (hR : R (.own 0 n) [.obj ty (ims ys) r]) : AEnd P fn R e ⟨t, h⟩ :=
  ⟨he, ⟨[(i, .own 0 n)], [.obj ty (ims ys) r]⟩, _, _, imp_one _ (by rw [ren_ims]; exact hk) ⟨hs, trivial⟩, ares1 hr (by simp [slot]), .inl (Kill.refl _), hR, new_own, new_ims hn, trivial⟩
theorem end_nil {fn : Func} {R : PV → List AObj → Prop} {e : Exit} {i : Nat} (he : e = .normal ∨ e = .ret) (hr : fn.results = #[.tmp i]) (hs : slot t i = some (.im (.s (.slice none 0 0)))) (hR : R (.im (.s (.slice none 0 0))) []) : AEnd P fn R e ⟨t, h⟩ := end_s he hr hs hR
/-- A struct out of a box: a number and a slice of its own. -/
theorem end_box2 {fn : Func} {R : PV → List AObj → Prop} {e : Exit} {p b k n r q : Nat} {ty ty' tb : TypeId} {v : Value} {ys : List IV} [T : TB P ty true 2] (he : e = .normal ∨ e = .ret) (hr : fn.results = #[.cell p ty]) (hs : slot t p = some (.ptr b 0)) (hb : h[b]? = some (.obj tb [.im (.s v), .own k n] q))
    (hk : h[k]? = some (.obj ty' (ims ys) r)) (hne : k ≠ b) (hn : ∀ y ∈ ys, NewI y) (hR : R (.agg [.im (.s v), .own 0 n]) [.obj ty' (ims ys) r, .dead]) : AEnd P fn R e ⟨t, h⟩ :=
  ⟨he, ⟨[(p, .ptr 1 0)], [.obj ty' (ims ys) r, .obj tb [.im (.s v), .own 0 n] q]⟩, .agg [.im (.s v), .own 0 n], [.obj ty' (ims ys) r, .dead],
    imp_ren [k, b] (fun k hk => absurd hk (Nat.not_lt_zero k)) rfl (fun j hj => by
      simp only [List.mem_cons, List.not_mem_nil, or_false] at hj
      rcases hj with rfl | rfl
      · exact (List.getElem?_eq_some_iff.1 hk).1
      · exact (List.getElem?_eq_some_iff.1 hb).1) (by simp [hne]) ⟨⟨k, rfl, by rw [ren_ims]; exact hk⟩, ⟨b, rfl, hb⟩, trivial⟩ ⟨hs, trivial⟩,
    ares_one hr (arv_cellA (T := T) (k := 1) (o := 0) (xs := [.im (.s v), .own 0 n]) (by simp [slot]) rfl rfl rfl), .inl (.keep _ (.dead _ .nil)), hR, fun v hv => by
      simp only [List.mem_cons, List.not_mem_nil, or_false] at hv
      rcases hv with rfl | rfl
      · exact new_s
      · exact new_own, new_ims hn, trivial⟩
/-- Two plain results. -/
theorem end_s2 {fn : Func} {R : PV → List AObj → Prop} {e : Exit} {i j : Nat} {v v' : Value} (he : e = .normal ∨ e = .ret) (hr : fn.results = #[.tmp i, .tmp j]) (hs : slot t i = some (.im (.s v))) (hs' : slot t j = some (.im (.s v'))) (hR : R (.tup [.im (.s v), .im (.s v')]) []) (hij : i ≠ j) : AEnd P fn R e ⟨t, h⟩ :=
  ⟨he, ⟨[(i, .im (.s v)), (j, .im (.s v'))], []⟩, _, _, imp_none 0 rfl _ ⟨hs, hs', trivial⟩, ares_two hr (arv_tmp (by simp [slot]) (fun _ h => by cases h)) (arv_tmp (by
    have : Nat.beq i j = false := by
      cases hq : Nat.beq i j with
      | false => rfl
      | true => exact absurd (Nat.eq_of_beq_eq_true hq) hij
    simp [slot, this]) (fun _ h => by cases h)), .inl Kill.nil, hR, fun v hv => by
      simp only [List.mem_cons, List.not_mem_nil, or_false] at hv
      rcases hv with rfl | rfl
      · exact new_s
      · exact new_s, trivial⟩
/-- A struct of plain cells out of a box. -/
theorem end_box {fn : Func} {R : PV → List AObj → Prop} {e : Exit} {p b q size : Nat} {ty tb : TypeId} {ys : List PV} [T : TB P ty true size] (he : e = .normal ∨ e = .ret) (hr : fn.results = #[.cell p ty]) (hs : slot t p = some (.ptr b 0)) (hb : h[b]? = some (.obj tb ys q)) (hl : ys.length = size) (hf : ∀ v ∈ ys, Frz1 v) (hn : ∀ v ∈ ys, New1 v)
    (hR : R (.agg ys) []) : AEnd P fn R e ⟨t, h⟩ :=
  ⟨he, ⟨[(p, .ptr 0 0)], [.obj tb ys q]⟩, .agg ys, [], imp_one _ (by
      have : ys.map (ren1 [b]) = ys := (List.map_congr_left fun v hv => by
        have := hf v hv
        cases v <;> first | rfl | exact this.elim).trans (List.map_id _)
      rw [this]; exact hb) ⟨hs, trivial⟩,
    ares_one hr (arv_cellA (T := T) (k := 0) (o := 0) (xs := ys) (by simp [slot]) rfl (by rw [List.drop_zero, List.take_of_length_le (by omega)]) hl), .inr ⟨rfl, hf⟩, hR, hn, trivial⟩
theorem frz_nil : ∀ v ∈ ([] : List PV), Frz1 v := fun _ h => by simp at h
theorem frz_cons {x : IV} {r : List PV} (h : ∀ v ∈ r, Frz1 v) : ∀ v ∈ (PV.im x :: r), Frz1 v := fun v hv => by
  rcases List.mem_cons.1 hv with rfl | hv
  · exact trivial
  · exact h v hv
theorem new_nil : ∀ v ∈ ([] : List PV), New1 v := fun _ h => by simp at h
theorem new_cons {x : PV} {r : List PV} (hx : New1 x) (h : ∀ v ∈ r, New1 v) : ∀ v ∈ (x :: r), New1 v := fun v hv => by
  rcases List.mem_cons.1 hv with rfl | hv
  · exact hx
  · exact h v hv
end
end Go.Proofs.Ytkeihpihphefgaa
