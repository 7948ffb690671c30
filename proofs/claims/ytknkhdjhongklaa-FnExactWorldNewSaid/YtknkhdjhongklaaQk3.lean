/- Part 3 of the proof: Kc Kf Mv Mx Mx2 U1 U3 U4 U5 U2 U6 U7 U8 U9 UA UB UC UF UP Mx3 UN. -/
import Derived.Test.YtknkhdjhongklaaProg
import Derived.KernelRfl
import Derived.Test.YtknkhdjhongklaaRows
import Derived.ProofKit
import Derived.OpenShut
import Derived.Carry
import Derived.Deep.Slices
import Derived.Deep.Fields
import Derived.Deep.Strs
import Derived.Lib.SmallJoins
import Derived.ChangeSame
import Derived.ChangeArms
import Derived.Deep.LoopGhost
import Derived.Lib.Walk
import Derived.Test.YtknkhdjhongklaaQk2
set_option linter.unusedSimpArgs false
set_option linter.unusedVariables false
section
namespace Go.Proofs.Ytknkhdjhongklaa
open Go.RowKit

structure PreR (P : Program) (ops : Array Oper) (N : Nat) (q : Nat × Nat) (o : Oper) : Prop where
  at_ : ops[q.1]? = some o
  dst : o.dst = some q.2
  guard : o.guard = none
  lt : q.2 < N
  sel : ∀ cs b, o.op ≠ .select cs b
  wait : ∀ e ∈ o.after, Region.binds .any e = true → False
  noval : valOp o.op = false
  run : ∃ e, ∀ (ρ : Operand → Value) w, (execOp ρ o).run P w = .ok (.value (.slice (some ⟨w.heap.size, 0, none⟩) 0 0)) (w.alloc (.cells #[] e))
section
variable {P : Program} {tab : TypeId → Option TI} {ops : Array Oper} {N : Nat}
end
section
variable {P : Program} {G : Env} {C : Ctx} {E0 : Nat → Prop} {ks : List Nat} {st0 st : St} {a a' : Act} {w0 w : World} {β0 β : List (Nat × Nat)}
theorem Sim.tmps (S : Sim C E0 st a w β) (h1 : a'.tmps.size = a.tmps.size) (h2 : a'.defers = a.defers) (h3 : ∀ i v, slot st.t i = some v → a'.tmps[i]? = a.tmps[i]? ∨ ∃ u, a'.tmps[i]? = some u ∧ Cv w E0 C.X st.h β v u) : Sim C E0 st a' w β := by
  refine ⟨S.cl, S.xw, S.step, S.heap, h1.trans S.sz, h2.trans S.df, fun i v hi => ?_⟩
  rcases h3 i v hi with h | h
  · rw [h]; exact S.tm i v hi
  · exact h
structure Pend (ops : List Oper) (D Dp : List (Nat × Nat)) (base listed : Array Bool) : Prop where
  sub : ∀ q ∈ Dp, q ∈ D
  nk : (Dp.map (·.1)).Nodup
  ns : (Dp.map (·.2)).Nodup
  un : ∀ q ∈ Dp, listed.getD q.1 true = false
  inv : HeadInv .any ops.toArray ops.length listed
  below : ∀ i, base.getD i false = true → listed.getD i false = true
  off : ∀ i, i ∉ D.map (·.1) → listed.getD i true = base.getD i true
  done : ∀ q ∈ D, q ∉ Dp → listed.getD q.1 false = true
  offD : ∀ q ∈ D, base.getD q.1 true = false
end
end Go.Proofs.Ytknkhdjhongklaa
end
section
namespace Go.Proofs.Ytknkhdjhongklaa
open Go.RowKit

section
variable {P : Program} {ops : Array Oper} {md : Region.Mode} {Q : Exit → Act → World → Prop} {S : World → Prop}
structure InvU (md : Region.Mode) (ops : Array Oper) (n : Nat) (l0 listed : Array Bool) : Prop where
  size : listed.size = ops.size
  closed : ∀ j oj, ops[j]? = some oj → listed.getD j false = true → ∀ e ∈ oj.after, Region.binds md e = true → listed.getD e.on false = true
  more : ∀ j, l0.getD j false = true → listed.getD j false = true
  tail : ∀ t, n ≤ t → l0.getD t true = false → listed.getD t true = false
theorem InvU.set {n : Nat} {l0 listed : Array Bool} (inv : InvU md ops n l0 listed) {i : Nat} (hi : i ∈ Region.ready md ops listed) (hin : i < n) : InvU md ops n l0 (listed.setIfInBounds i true) := by
  obtain ⟨_, oi, hoi, hall⟩ := mem_ready.1 hi
  refine ⟨by simp [inv.size], fun j oj hj hl e he hb => ?_, fun j hj => getD_set_true (inv.more j hj), fun t ht ht' => by rw [getD_set_ne true (by omega)]; exact inv.tail t ht ht'⟩
  by_cases hij : i = j
  · subst hij
    have : oj = oi := Option.some.inj (hj.symm.trans hoi)
    subst this
    exact getD_set_true (hall e he hb)
  · rw [getD_set_ne false hij] at hl
    exact getD_set_true (inv.closed j oj hj hl e he hb)
end
section
variable {P : Program} {G : Env} {C : Ctx} {st : St} {a : Act} {w : World} {β : List (Nat × Nat)}
end
end Go.Proofs.Ytknkhdjhongklaa
end
section
namespace Go.Proofs.Ytknkhdjhongklaa
open Go.RowKit
theorem info_parts {P : Program} {e : TypeId} {z : Value} {size bytes : Nat} (h : (P.info? e).map (fun i => (i.zero, i.size, i.bytes)) = some (some z, size, bytes)) : ∃ i, P.info? e = some i ∧ i.zero = some z ∧ i.size = size ∧ i.bytes = bytes := by
  obtain ⟨i, h1, h2⟩ := Option.map_eq_some_iff.1 h
  simp only [Prod.mk.injEq] at h2
  exact ⟨i, h1, h2.1, h2.2.1, h2.2.2⟩
theorem tok2 : TOk Try.prog 2 ⟨false, 1, [], none, some [.int .i64 0], 0, some .i64, []⟩ := ⟨Try.sizeOf2, Try.isAgg2, (fun _ => rfl), (fun _ _ _ h => by simp at h), (fun _ _ _ h => by cases h), (fun _ _ _ _ _ h => by cases h), (fun zs h => by cases h; exact ⟨_, Try.zeroValue2, rfl, by simp [Value.oneCell']⟩), (fun _ _ h => by cases h), (fun h => by cases h), (fun _ h => by cases h; exact Try.runUnderlying2), (fun h => by cases h), (fun h => by cases h), (fun h => by cases h), (fun _ _ _ _ _ h => by simp at h)⟩
theorem tok3 : TOk Try.prog 3 ⟨false, 1, [], none, some [.int .i64 0], 0, some .i64, []⟩ := ⟨Try.sizeOf3, Try.isAgg3, (fun _ => rfl), (fun _ _ _ h => by simp at h), (fun _ _ _ h => by cases h), (fun _ _ _ _ _ h => by cases h), (fun zs h => by cases h; exact ⟨_, Try.zeroValue3, rfl, by simp [Value.oneCell']⟩), (fun _ _ h => by cases h), (fun h => by cases h), (fun _ h => by cases h; exact Try.runUnderlying3), (fun h => by cases h), (fun h => by cases h), (fun h => by cases h), (fun _ _ _ _ _ h => by simp at h)⟩
theorem tok4 : TOk Try.prog 4 ⟨false, 1, [], none, some [.bool false], 1, none, []⟩ := ⟨Try.sizeOf4, Try.isAgg4, (fun _ => rfl), (fun _ _ _ h => by simp at h), (fun _ _ _ h => by cases h), (fun _ _ _ _ _ h => by cases h), (fun zs h => by cases h; exact ⟨_, Try.zeroValue4, rfl, by simp [Value.oneCell']⟩), (fun _ _ h => by cases h), (fun _ => Try.underlying4), (fun _ h => by cases h), (fun h => by cases h), (fun h => by cases h), (fun h => by cases h), (fun _ _ _ _ _ h => by simp at h)⟩
theorem tok5 : TOk Try.prog 5 ⟨false, 1, [], none, some [.int .u8 0], 0, some .u8, []⟩ := ⟨Try.sizeOf5, Try.isAgg5, (fun _ => rfl), (fun _ _ _ h => by simp at h), (fun _ _ _ h => by cases h), (fun _ _ _ _ _ h => by cases h), (fun zs h => by cases h; exact ⟨_, Try.zeroValue5, rfl, by simp [Value.oneCell']⟩), (fun _ _ h => by cases h), (fun h => by cases h), (fun _ h => by cases h; exact Try.runUnderlying5), (fun h => by cases h), (fun h => by cases h), (fun h => by cases h), (fun _ _ _ _ _ h => by simp at h)⟩
theorem tok9 : TOk Try.prog 9 ⟨false, 1, [], none, some [.string ⟨#[]⟩], 2, none, []⟩ := ⟨Try.sizeOf9, Try.isAgg9, (fun _ => rfl), (fun _ _ _ h => by simp at h), (fun _ _ _ h => by cases h), (fun _ _ _ _ _ h => by cases h), (fun zs h => by cases h; exact ⟨_, Try.zeroValue9, rfl, by simp [Value.oneCell']⟩), (fun _ _ h => by cases h), (fun h => by cases h), (fun _ h => by cases h), (fun _ => Try.underlying9), (fun h => by cases h), (fun h => by cases h), (fun _ _ _ _ _ h => by simp at h)⟩
theorem tok21 : TOk Try.prog 21 ⟨false, 1, [], none, some [.int .i32 0], 0, some .i32, []⟩ := ⟨Try.sizeOf21, Try.isAgg21, (fun _ => rfl), (fun _ _ _ h => by simp at h), (fun _ _ _ h => by cases h), (fun _ _ _ _ _ h => by cases h), (fun zs h => by cases h; exact ⟨_, Try.zeroValue21, rfl, by simp [Value.oneCell']⟩), (fun _ _ h => by cases h), (fun h => by cases h), (fun _ h => by cases h; exact Try.runUnderlying21), (fun h => by cases h), (fun h => by cases h), (fun h => by cases h), (fun _ _ _ _ _ h => by simp at h)⟩
theorem inf22 : (Try.prog.info? 76).map (fun i => (i.zero, i.size, i.bytes)) = some (some (.agg #[.int .i64 0, .int .i64 0, .int .i64 0]), 3, 24) := by kernel_rfl
theorem tok22 : TOk Try.prog 22 ⟨false, 1, [], some (76, .lk, 24), some [.slice none 0 0], 0, none, []⟩ := ⟨Try.sizeOf22, Try.isAgg22, (fun _ => rfl), (fun _ _ _ h => by simp at h), (fun _ _ _ h => by cases h; exact ⟨Try.underlying22, by obtain ⟨i, h1, h2, h3, h4⟩ := info_parts inf22; exact ⟨i, _, h1, h2, h3, h4, rfl⟩, by decide⟩), (fun _ _ _ inf z h hi hz => by cases h; obtain ⟨i, h1, h2, h3, h4⟩ := info_parts inf22; rw [h1] at hi; cases hi; rw [h2] at hz; cases hz; rfl), (fun zs h => by cases h; exact ⟨_, Try.zeroValue22, rfl, by simp [Value.oneCell']⟩), (fun _ _ h => by cases h), (fun h => by cases h), (fun _ h => by cases h), (fun h => by cases h), (fun h => by cases h), (fun h => by cases h), (fun _ _ _ _ _ h => by simp at h)⟩
theorem tok23 : TOk Try.prog 23 ⟨true, 2, [(0, 1), (1, 1)], none, some [.int .i64 0, .slice none 0 0], 0, none, [false, false]⟩ := ⟨Try.sizeOf23, Try.isAgg23, (fun h => by cases h), (fun j off fs h => match j, h with | 0, h => by injection h with h; injection h with h1 h2; subst h1 h2; exact ⟨_, _, Try.runUnderlying23, rfl, rfl, Try.sizeOf3, by decide⟩ | 1, h => by injection h with h; injection h with h1 h2; subst h1 h2; exact ⟨_, _, Try.runUnderlying23, rfl, rfl, Try.sizeOf22, by decide⟩ | _ + 2, h => by simp at h), (fun _ _ _ h => by cases h), (fun _ _ _ _ _ h => by cases h), (fun zs h => by cases h; exact ⟨_, Try.zeroValue23, rfl, by simp [Value.oneCell']⟩), (fun _ _ _ => ⟨_, Try.runUnderlying23, fun w => by simp [Try.sizeOf22, Try.sizeOf3]⟩), (fun h => by cases h), (fun _ h => by cases h), (fun h => by cases h), (fun h => by cases h), (fun h => by cases h), (fun j off fs b h h2 => match j, h, h2 with | 0, h, h2 => by injection h with h; injection h with h1 h3; subst h1 h3; injection h2 with h2; subst h2; exact ⟨_, _, Try.runUnderlying23, rfl, rfl, Try.isAgg3, Try.sizeOf3⟩ | 1, h, h2 => by injection h with h; injection h with h1 h3; subst h1 h3; injection h2 with h2; subst h2; exact ⟨_, _, Try.runUnderlying23, rfl, rfl, Try.isAgg22, Try.sizeOf22⟩ | _ + 2, h, _ => by simp at h)⟩
theorem tok24 : TOk Try.prog 24 ⟨true, 2, [(0, 1), (1, 1)], none, some [.int .i64 0, .slice none 0 0], 0, none, [false, false]⟩ := ⟨Try.sizeOf24, Try.isAgg24, (fun h => by cases h), (fun j off fs h => match j, h with | 0, h => by injection h with h; injection h with h1 h2; subst h1 h2; exact ⟨_, _, Try.runUnderlying24, rfl, rfl, Try.sizeOf3, by decide⟩ | 1, h => by injection h with h; injection h with h1 h2; subst h1 h2; exact ⟨_, _, Try.runUnderlying24, rfl, rfl, Try.sizeOf22, by decide⟩ | _ + 2, h => by simp at h), (fun _ _ _ h => by cases h), (fun _ _ _ _ _ h => by cases h), (fun zs h => by cases h; exact ⟨_, Try.zeroValue24, rfl, by simp [Value.oneCell']⟩), (fun _ _ _ => ⟨_, Try.runUnderlying24, fun w => by simp [Try.sizeOf22, Try.sizeOf3]⟩), (fun h => by cases h), (fun _ h => by cases h), (fun h => by cases h), (fun h => by cases h), (fun h => by cases h), (fun j off fs b h h2 => match j, h, h2 with | 0, h, h2 => by injection h with h; injection h with h1 h3; subst h1 h3; injection h2 with h2; subst h2; exact ⟨_, _, Try.runUnderlying24, rfl, rfl, Try.isAgg3, Try.sizeOf3⟩ | 1, h, h2 => by injection h with h; injection h with h1 h3; subst h1 h3; injection h2 with h2; subst h2; exact ⟨_, _, Try.runUnderlying24, rfl, rfl, Try.isAgg22, Try.sizeOf22⟩ | _ + 2, h, _ => by simp at h)⟩
theorem inf26 : (Try.prog.info? 55).map (fun i => (i.zero, i.size, i.bytes)) = some (some (.agg #[.int .i64 0, .int .i64 0, .int .i64 0]), 3, 24) := by kernel_rfl
theorem tok26 : TOk Try.prog 26 ⟨false, 1, [], some (55, .lk, 24), some [.slice none 0 0], 0, none, []⟩ := ⟨Try.sizeOf26, Try.isAgg26, (fun _ => rfl), (fun _ _ _ h => by simp at h), (fun _ _ _ h => by cases h; exact ⟨Try.underlying26, by obtain ⟨i, h1, h2, h3, h4⟩ := info_parts inf26; exact ⟨i, _, h1, h2, h3, h4, rfl⟩, by decide⟩), (fun _ _ _ inf z h hi hz => by cases h; obtain ⟨i, h1, h2, h3, h4⟩ := info_parts inf26; rw [h1] at hi; cases hi; rw [h2] at hz; cases hz; rfl), (fun zs h => by cases h; exact ⟨_, Try.zeroValue26, rfl, by simp [Value.oneCell']⟩), (fun _ _ h => by cases h), (fun h => by cases h), (fun _ h => by cases h), (fun h => by cases h), (fun h => by cases h), (fun h => by cases h), (fun _ _ _ _ _ h => by simp at h)⟩
theorem tok27 : TOk Try.prog 27 ⟨true, 2, [(0, 1), (1, 1)], none, some [.int .i64 0, .slice none 0 0], 0, none, [false, false]⟩ := ⟨Try.sizeOf27, Try.isAgg27, (fun h => by cases h), (fun j off fs h => match j, h with | 0, h => by injection h with h; injection h with h1 h2; subst h1 h2; exact ⟨_, _, Try.runUnderlying27, rfl, rfl, Try.sizeOf3, by decide⟩ | 1, h => by injection h with h; injection h with h1 h2; subst h1 h2; exact ⟨_, _, Try.runUnderlying27, rfl, rfl, Try.sizeOf26, by decide⟩ | _ + 2, h => by simp at h), (fun _ _ _ h => by cases h), (fun _ _ _ _ _ h => by cases h), (fun zs h => by cases h; exact ⟨_, Try.zeroValue27, rfl, by simp [Value.oneCell']⟩), (fun _ _ _ => ⟨_, Try.runUnderlying27, fun w => by simp [Try.sizeOf26, Try.sizeOf3]⟩), (fun h => by cases h), (fun _ h => by cases h), (fun h => by cases h), (fun h => by cases h), (fun h => by cases h), (fun j off fs b h h2 => match j, h, h2 with | 0, h, h2 => by injection h with h; injection h with h1 h3; subst h1 h3; injection h2 with h2; subst h2; exact ⟨_, _, Try.runUnderlying27, rfl, rfl, Try.isAgg3, Try.sizeOf3⟩ | 1, h, h2 => by injection h with h; injection h with h1 h3; subst h1 h3; injection h2 with h2; subst h2; exact ⟨_, _, Try.runUnderlying27, rfl, rfl, Try.isAgg26, Try.sizeOf26⟩ | _ + 2, h, _ => by simp at h)⟩
theorem tok28 : TOk Try.prog 28 ⟨true, 2, [(0, 1), (1, 1)], none, some [.int .i64 0, .slice none 0 0], 0, none, [false, false]⟩ := ⟨Try.sizeOf28, Try.isAgg28, (fun h => by cases h), (fun j off fs h => match j, h with | 0, h => by injection h with h; injection h with h1 h2; subst h1 h2; exact ⟨_, _, Try.runUnderlying28, rfl, rfl, Try.sizeOf3, by decide⟩ | 1, h => by injection h with h; injection h with h1 h2; subst h1 h2; exact ⟨_, _, Try.runUnderlying28, rfl, rfl, Try.sizeOf26, by decide⟩ | _ + 2, h => by simp at h), (fun _ _ _ h => by cases h), (fun _ _ _ _ _ h => by cases h), (fun zs h => by cases h; exact ⟨_, Try.zeroValue28, rfl, by simp [Value.oneCell']⟩), (fun _ _ _ => ⟨_, Try.runUnderlying28, fun w => by simp [Try.sizeOf26, Try.sizeOf3]⟩), (fun h => by cases h), (fun _ h => by cases h), (fun h => by cases h), (fun h => by cases h), (fun h => by cases h), (fun j off fs b h h2 => match j, h, h2 with | 0, h, h2 => by injection h with h; injection h with h1 h3; subst h1 h3; injection h2 with h2; subst h2; exact ⟨_, _, Try.runUnderlying28, rfl, rfl, Try.isAgg3, Try.sizeOf3⟩ | 1, h, h2 => by injection h with h; injection h with h1 h3; subst h1 h3; injection h2 with h2; subst h2; exact ⟨_, _, Try.runUnderlying28, rfl, rfl, Try.isAgg26, Try.sizeOf26⟩ | _ + 2, h, _ => by simp at h)⟩
theorem inf29 : (Try.prog.info? 4).map (fun i => (i.zero, i.size, i.bytes)) = some (some (.bool false), 1, 1) := by kernel_rfl
theorem tok29 : TOk Try.prog 29 ⟨false, 1, [], some (4, .bool, 1), some [.slice none 0 0], 0, none, []⟩ := ⟨Try.sizeOf29, Try.isAgg29, (fun _ => rfl), (fun _ _ _ h => by simp at h), (fun _ _ _ h => by cases h; exact ⟨Try.underlying29, by obtain ⟨i, h1, h2, h3, h4⟩ := info_parts inf29; exact ⟨i, _, h1, h2, h3, h4, rfl⟩, by decide⟩), (fun _ _ _ inf z h hi hz => by cases h; obtain ⟨i, h1, h2, h3, h4⟩ := info_parts inf29; rw [h1] at hi; cases hi; rw [h2] at hz; cases hz; rfl), (fun zs h => by cases h; exact ⟨_, Try.zeroValue29, rfl, by simp [Value.oneCell']⟩), (fun _ _ h => by cases h), (fun h => by cases h), (fun _ h => by cases h), (fun h => by cases h), (fun h => by cases h), (fun h => by cases h), (fun _ _ _ _ _ h => by simp at h)⟩
theorem inf30 : (Try.prog.info? 3).map (fun i => (i.zero, i.size, i.bytes)) = some (some (.int .i64 0), 1, 8) := by kernel_rfl
theorem tok30 : TOk Try.prog 30 ⟨false, 1, [], some (3, .int, 8), some [.slice none 0 0], 0, none, []⟩ := ⟨Try.sizeOf30, Try.isAgg30, (fun _ => rfl), (fun _ _ _ h => by simp at h), (fun _ _ _ h => by cases h; exact ⟨Try.underlying30, by obtain ⟨i, h1, h2, h3, h4⟩ := info_parts inf30; exact ⟨i, _, h1, h2, h3, h4, rfl⟩, by decide⟩), (fun _ _ _ inf z h hi hz => by cases h; obtain ⟨i, h1, h2, h3, h4⟩ := info_parts inf30; rw [h1] at hi; cases hi; rw [h2] at hz; cases hz; rfl), (fun zs h => by cases h; exact ⟨_, Try.zeroValue30, rfl, by simp [Value.oneCell']⟩), (fun _ _ h => by cases h), (fun h => by cases h), (fun _ h => by cases h), (fun h => by cases h), (fun h => by cases h), (fun h => by cases h), (fun _ _ _ _ _ h => by simp at h)⟩
theorem inf31 : (Try.prog.info? 45).map (fun i => (i.zero, i.size, i.bytes)) = some (some (.slice none 0 0), 1, 24) := by kernel_rfl
theorem tok31 : TOk Try.prog 31 ⟨false, 1, [], some (45, .db, 24), some [.slice none 0 0], 0, none, []⟩ := ⟨Try.sizeOf31, Try.isAgg31, (fun _ => rfl), (fun _ _ _ h => by simp at h), (fun _ _ _ h => by cases h; exact ⟨Try.underlying31, by obtain ⟨i, h1, h2, h3, h4⟩ := info_parts inf31; exact ⟨i, _, h1, h2, h3, h4, rfl⟩, by decide⟩), (fun _ _ _ inf z h hi hz => by cases h; obtain ⟨i, h1, h2, h3, h4⟩ := info_parts inf31; rw [h1] at hi; cases hi; rw [h2] at hz; cases hz; rfl), (fun zs h => by cases h; exact ⟨_, Try.zeroValue31, rfl, by simp [Value.oneCell']⟩), (fun _ _ h => by cases h), (fun h => by cases h), (fun _ h => by cases h), (fun h => by cases h), (fun h => by cases h), (fun h => by cases h), (fun _ _ _ _ _ h => by simp at h)⟩
theorem inf32 : (Try.prog.info? 85).map (fun i => (i.zero, i.size, i.bytes)) = some (some (.agg #[.int .i64 0, .int .i64 0, .int .i64 0, .slice none 0 0]), 4, 48) := by kernel_rfl
theorem tok32 : TOk Try.prog 32 ⟨false, 1, [], some (85, .pk, 48), some [.slice none 0 0], 0, none, []⟩ := ⟨Try.sizeOf32, Try.isAgg32, (fun _ => rfl), (fun _ _ _ h => by simp at h), (fun _ _ _ h => by cases h; exact ⟨Try.underlying32, by obtain ⟨i, h1, h2, h3, h4⟩ := info_parts inf32; exact ⟨i, _, h1, h2, h3, h4, rfl⟩, by decide⟩), (fun _ _ _ inf z h hi hz => by cases h; obtain ⟨i, h1, h2, h3, h4⟩ := info_parts inf32; rw [h1] at hi; cases hi; rw [h2] at hz; cases hz; rfl), (fun zs h => by cases h; exact ⟨_, Try.zeroValue32, rfl, by simp [Value.oneCell']⟩), (fun _ _ h => by cases h), (fun h => by cases h), (fun _ h => by cases h), (fun h => by cases h), (fun h => by cases h), (fun h => by cases h), (fun _ _ _ _ _ h => by simp at h)⟩
theorem tok33 : TOk Try.prog 33 ⟨true, 6, [(0, 2), (2, 1), (3, 1), (4, 1), (5, 1)], none, some [.int .i64 0, .slice none 0 0, .slice none 0 0, .slice none 0 0, .slice none 0 0, .slice none 0 0], 0, none, [true, false, false, false, false]⟩ := ⟨Try.sizeOf33, Try.isAgg33, (fun h => by cases h), (fun j off fs h => match j, h with | 0, h => by injection h with h; injection h with h1 h2; subst h1 h2; exact ⟨_, _, Try.runUnderlying33, rfl, rfl, Try.sizeOf28, by decide⟩ | 1, h => by injection h with h; injection h with h1 h2; subst h1 h2; exact ⟨_, _, Try.runUnderlying33, rfl, rfl, Try.sizeOf29, by decide⟩ | 2, h => by injection h with h; injection h with h1 h2; subst h1 h2; exact ⟨_, _, Try.runUnderlying33, rfl, rfl, Try.sizeOf30, by decide⟩ | 3, h => by injection h with h; injection h with h1 h2; subst h1 h2; exact ⟨_, _, Try.runUnderlying33, rfl, rfl, Try.sizeOf31, by decide⟩ | 4, h => by injection h with h; injection h with h1 h2; subst h1 h2; exact ⟨_, _, Try.runUnderlying33, rfl, rfl, Try.sizeOf32, by decide⟩ | _ + 5, h => by simp at h), (fun _ _ _ h => by cases h), (fun _ _ _ _ _ h => by cases h), (fun zs h => by cases h; exact ⟨_, Try.zeroValue33, rfl, by simp [Value.oneCell']⟩), (fun _ _ _ => ⟨_, Try.runUnderlying33, fun w => by simp [Try.sizeOf28, Try.sizeOf29, Try.sizeOf30, Try.sizeOf31, Try.sizeOf32]⟩), (fun h => by cases h), (fun _ h => by cases h), (fun h => by cases h), (fun h => by cases h), (fun h => by cases h), (fun j off fs b h h2 => match j, h, h2 with | 0, h, h2 => by injection h with h; injection h with h1 h3; subst h1 h3; injection h2 with h2; subst h2; exact ⟨_, _, Try.runUnderlying33, rfl, rfl, Try.isAgg28, Try.sizeOf28⟩ | 1, h, h2 => by injection h with h; injection h with h1 h3; subst h1 h3; injection h2 with h2; subst h2; exact ⟨_, _, Try.runUnderlying33, rfl, rfl, Try.isAgg29, Try.sizeOf29⟩ | 2, h, h2 => by injection h with h; injection h with h1 h3; subst h1 h3; injection h2 with h2; subst h2; exact ⟨_, _, Try.runUnderlying33, rfl, rfl, Try.isAgg30, Try.sizeOf30⟩ | 3, h, h2 => by injection h with h; injection h with h1 h3; subst h1 h3; injection h2 with h2; subst h2; exact ⟨_, _, Try.runUnderlying33, rfl, rfl, Try.isAgg31, Try.sizeOf31⟩ | 4, h, h2 => by injection h with h; injection h with h1 h3; subst h1 h3; injection h2 with h2; subst h2; exact ⟨_, _, Try.runUnderlying33, rfl, rfl, Try.isAgg32, Try.sizeOf32⟩ | _ + 5, h, _ => by simp at h)⟩
theorem tok34 : TOk Try.prog 34 ⟨true, 6, [(0, 2), (2, 1), (3, 1), (4, 1), (5, 1)], none, some [.int .i64 0, .slice none 0 0, .slice none 0 0, .slice none 0 0, .slice none 0 0, .slice none 0 0], 0, none, [true, false, false, false, false]⟩ := ⟨Try.sizeOf34, Try.isAgg34, (fun h => by cases h), (fun j off fs h => match j, h with | 0, h => by injection h with h; injection h with h1 h2; subst h1 h2; exact ⟨_, _, Try.runUnderlying34, rfl, rfl, Try.sizeOf28, by decide⟩ | 1, h => by injection h with h; injection h with h1 h2; subst h1 h2; exact ⟨_, _, Try.runUnderlying34, rfl, rfl, Try.sizeOf29, by decide⟩ | 2, h => by injection h with h; injection h with h1 h2; subst h1 h2; exact ⟨_, _, Try.runUnderlying34, rfl, rfl, Try.sizeOf30, by decide⟩ | 3, h => by injection h with h; injection h with h1 h2; subst h1 h2; exact ⟨_, _, Try.runUnderlying34, rfl, rfl, Try.sizeOf31, by decide⟩ | 4, h => by injection h with h; injection h with h1 h2; subst h1 h2; exact ⟨_, _, Try.runUnderlying34, rfl, rfl, Try.sizeOf32, by decide⟩ | _ + 5, h => by simp at h), (fun _ _ _ h => by cases h), (fun _ _ _ _ _ h => by cases h), (fun zs h => by cases h; exact ⟨_, Try.zeroValue34, rfl, by simp [Value.oneCell']⟩), (fun _ _ _ => ⟨_, Try.runUnderlying34, fun w => by simp [Try.sizeOf28, Try.sizeOf29, Try.sizeOf30, Try.sizeOf31, Try.sizeOf32]⟩), (fun h => by cases h), (fun _ h => by cases h), (fun h => by cases h), (fun h => by cases h), (fun h => by cases h), (fun j off fs b h h2 => match j, h, h2 with | 0, h, h2 => by injection h with h; injection h with h1 h3; subst h1 h3; injection h2 with h2; subst h2; exact ⟨_, _, Try.runUnderlying34, rfl, rfl, Try.isAgg28, Try.sizeOf28⟩ | 1, h, h2 => by injection h with h; injection h with h1 h3; subst h1 h3; injection h2 with h2; subst h2; exact ⟨_, _, Try.runUnderlying34, rfl, rfl, Try.isAgg29, Try.sizeOf29⟩ | 2, h, h2 => by injection h with h; injection h with h1 h3; subst h1 h3; injection h2 with h2; subst h2; exact ⟨_, _, Try.runUnderlying34, rfl, rfl, Try.isAgg30, Try.sizeOf30⟩ | 3, h, h2 => by injection h with h; injection h with h1 h3; subst h1 h3; injection h2 with h2; subst h2; exact ⟨_, _, Try.runUnderlying34, rfl, rfl, Try.isAgg31, Try.sizeOf31⟩ | 4, h, h2 => by injection h with h; injection h with h1 h3; subst h1 h3; injection h2 with h2; subst h2; exact ⟨_, _, Try.runUnderlying34, rfl, rfl, Try.isAgg32, Try.sizeOf32⟩ | _ + 5, h, _ => by simp at h)⟩
theorem inf45 : (Try.prog.info? 49).map (fun i => (i.zero, i.size, i.bytes)) = some (some (.agg #[.int .i64 0, .int .i64 0, .slice none 0 0]), 3, 40) := by kernel_rfl
theorem tok45 : TOk Try.prog 45 ⟨false, 1, [], some (49, .ls, 40), some [.slice none 0 0], 0, none, []⟩ := ⟨Try.sizeOf45, Try.isAgg45, (fun _ => rfl), (fun _ _ _ h => by simp at h), (fun _ _ _ h => by cases h; exact ⟨Try.underlying45, by obtain ⟨i, h1, h2, h3, h4⟩ := info_parts inf45; exact ⟨i, _, h1, h2, h3, h4, rfl⟩, by decide⟩), (fun _ _ _ inf z h hi hz => by cases h; obtain ⟨i, h1, h2, h3, h4⟩ := info_parts inf45; rw [h1] at hi; cases hi; rw [h2] at hz; cases hz; rfl), (fun zs h => by cases h; exact ⟨_, Try.zeroValue45, rfl, by simp [Value.oneCell']⟩), (fun _ _ h => by cases h), (fun h => by cases h), (fun _ h => by cases h), (fun h => by cases h), (fun h => by cases h), (fun h => by cases h), (fun _ _ _ _ _ h => by simp at h)⟩
theorem inf47 : (Try.prog.info? 73).map (fun i => (i.zero, i.size, i.bytes)) = some (some (.agg #[.int .i64 0, .int .i64 0]), 2, 16) := by kernel_rfl
theorem tok47 : TOk Try.prog 47 ⟨false, 1, [], some (73, .en, 16), some [.slice none 0 0], 0, none, []⟩ := ⟨Try.sizeOf47, Try.isAgg47, (fun _ => rfl), (fun _ _ _ h => by simp at h), (fun _ _ _ h => by cases h; exact ⟨Try.underlying47, by obtain ⟨i, h1, h2, h3, h4⟩ := info_parts inf47; exact ⟨i, _, h1, h2, h3, h4, rfl⟩, by decide⟩), (fun _ _ _ inf z h hi hz => by cases h; obtain ⟨i, h1, h2, h3, h4⟩ := info_parts inf47; rw [h1] at hi; cases hi; rw [h2] at hz; cases hz; rfl), (fun zs h => by cases h; exact ⟨_, Try.zeroValue47, rfl, by simp [Value.oneCell']⟩), (fun _ _ h => by cases h), (fun h => by cases h), (fun _ h => by cases h), (fun h => by cases h), (fun h => by cases h), (fun h => by cases h), (fun _ _ _ _ _ h => by simp at h)⟩
theorem tok48 : TOk Try.prog 48 ⟨true, 3, [(0, 1), (1, 1), (2, 1)], none, some [.int .i64 0, .int .i64 0, .slice none 0 0], 0, none, [false, false, false]⟩ := ⟨Try.sizeOf48, Try.isAgg48, (fun h => by cases h), (fun j off fs h => match j, h with | 0, h => by injection h with h; injection h with h1 h2; subst h1 h2; exact ⟨_, _, Try.runUnderlying48, rfl, rfl, Try.sizeOf3, by decide⟩ | 1, h => by injection h with h; injection h with h1 h2; subst h1 h2; exact ⟨_, _, Try.runUnderlying48, rfl, rfl, Try.sizeOf3, by decide⟩ | 2, h => by injection h with h; injection h with h1 h2; subst h1 h2; exact ⟨_, _, Try.runUnderlying48, rfl, rfl, Try.sizeOf47, by decide⟩ | _ + 3, h => by simp at h), (fun _ _ _ h => by cases h), (fun _ _ _ _ _ h => by cases h), (fun zs h => by cases h; exact ⟨_, Try.zeroValue48, rfl, by simp [Value.oneCell']⟩), (fun _ _ _ => ⟨_, Try.runUnderlying48, fun w => by simp [Try.sizeOf3, Try.sizeOf47]⟩), (fun h => by cases h), (fun _ h => by cases h), (fun h => by cases h), (fun h => by cases h), (fun h => by cases h), (fun j off fs b h h2 => match j, h, h2 with | 0, h, h2 => by injection h with h; injection h with h1 h3; subst h1 h3; injection h2 with h2; subst h2; exact ⟨_, _, Try.runUnderlying48, rfl, rfl, Try.isAgg3, Try.sizeOf3⟩ | 1, h, h2 => by injection h with h; injection h with h1 h3; subst h1 h3; injection h2 with h2; subst h2; exact ⟨_, _, Try.runUnderlying48, rfl, rfl, Try.isAgg3, Try.sizeOf3⟩ | 2, h, h2 => by injection h with h; injection h with h1 h3; subst h1 h3; injection h2 with h2; subst h2; exact ⟨_, _, Try.runUnderlying48, rfl, rfl, Try.isAgg47, Try.sizeOf47⟩ | _ + 3, h, _ => by simp at h)⟩
theorem tok49 : TOk Try.prog 49 ⟨true, 3, [(0, 1), (1, 1), (2, 1)], none, some [.int .i64 0, .int .i64 0, .slice none 0 0], 0, none, [false, false, false]⟩ := ⟨Try.sizeOf49, Try.isAgg49, (fun h => by cases h), (fun j off fs h => match j, h with | 0, h => by injection h with h; injection h with h1 h2; subst h1 h2; exact ⟨_, _, Try.runUnderlying49, rfl, rfl, Try.sizeOf3, by decide⟩ | 1, h => by injection h with h; injection h with h1 h2; subst h1 h2; exact ⟨_, _, Try.runUnderlying49, rfl, rfl, Try.sizeOf3, by decide⟩ | 2, h => by injection h with h; injection h with h1 h2; subst h1 h2; exact ⟨_, _, Try.runUnderlying49, rfl, rfl, Try.sizeOf47, by decide⟩ | _ + 3, h => by simp at h), (fun _ _ _ h => by cases h), (fun _ _ _ _ _ h => by cases h), (fun zs h => by cases h; exact ⟨_, Try.zeroValue49, rfl, by simp [Value.oneCell']⟩), (fun _ _ _ => ⟨_, Try.runUnderlying49, fun w => by simp [Try.sizeOf3, Try.sizeOf47]⟩), (fun h => by cases h), (fun _ h => by cases h), (fun h => by cases h), (fun h => by cases h), (fun h => by cases h), (fun j off fs b h h2 => match j, h, h2 with | 0, h, h2 => by injection h with h; injection h with h1 h3; subst h1 h3; injection h2 with h2; subst h2; exact ⟨_, _, Try.runUnderlying49, rfl, rfl, Try.isAgg3, Try.sizeOf3⟩ | 1, h, h2 => by injection h with h; injection h with h1 h3; subst h1 h3; injection h2 with h2; subst h2; exact ⟨_, _, Try.runUnderlying49, rfl, rfl, Try.isAgg3, Try.sizeOf3⟩ | 2, h, h2 => by injection h with h; injection h with h1 h3; subst h1 h3; injection h2 with h2; subst h2; exact ⟨_, _, Try.runUnderlying49, rfl, rfl, Try.isAgg47, Try.sizeOf47⟩ | _ + 3, h, _ => by simp at h)⟩
theorem tok54 : TOk Try.prog 54 ⟨true, 3, [(0, 1), (1, 1), (2, 1)], none, some [.int .i64 0, .int .i64 0, .int .i64 0], 0, none, [false, false, false]⟩ := ⟨Try.sizeOf54, Try.isAgg54, (fun h => by cases h), (fun j off fs h => match j, h with | 0, h => by injection h with h; injection h with h1 h2; subst h1 h2; exact ⟨_, _, Try.runUnderlying54, rfl, rfl, Try.sizeOf3, by decide⟩ | 1, h => by injection h with h; injection h with h1 h2; subst h1 h2; exact ⟨_, _, Try.runUnderlying54, rfl, rfl, Try.sizeOf3, by decide⟩ | 2, h => by injection h with h; injection h with h1 h2; subst h1 h2; exact ⟨_, _, Try.runUnderlying54, rfl, rfl, Try.sizeOf3, by decide⟩ | _ + 3, h => by simp at h), (fun _ _ _ h => by cases h), (fun _ _ _ _ _ h => by cases h), (fun zs h => by cases h; exact ⟨_, Try.zeroValue54, rfl, by simp [Value.oneCell']⟩), (fun _ _ _ => ⟨_, Try.runUnderlying54, fun w => by simp [Try.sizeOf3]⟩), (fun h => by cases h), (fun _ h => by cases h), (fun h => by cases h), (fun h => by cases h), (fun h => by cases h), (fun j off fs b h h2 => match j, h, h2 with | 0, h, h2 => by injection h with h; injection h with h1 h3; subst h1 h3; injection h2 with h2; subst h2; exact ⟨_, _, Try.runUnderlying54, rfl, rfl, Try.isAgg3, Try.sizeOf3⟩ | 1, h, h2 => by injection h with h; injection h with h1 h3; subst h1 h3; injection h2 with h2; subst h2; exact ⟨_, _, Try.runUnderlying54, rfl, rfl, Try.isAgg3, Try.sizeOf3⟩ | 2, h, h2 => by injection h with h; injection h with h1 h3; subst h1 h3; injection h2 with h2; subst h2; exact ⟨_, _, Try.runUnderlying54, rfl, rfl, Try.isAgg3, Try.sizeOf3⟩ | _ + 3, h, _ => by simp at h)⟩
set_option maxRecDepth 100000 in
theorem ieq55 : ∀ (ps qs : List Int), ps.length = 3 → qs.length = 3 → ∀ x y w, (do eqGuard .eql 55 x y (.agg (ps.map (Value.int .i64)).toArray) (.agg (qs.map (Value.int .i64)).toArray); binOp .eql 55 (.agg (ps.map (Value.int .i64)).toArray) (.agg (qs.map (Value.int .i64)).toArray) : Sem Value).run Try.prog w = .ok (.bool (eqInts ps qs)) w
  | [a0, a1, a2], [b0, b1, b2], _, _, x, y, w => by
    have hu : Try.prog.underlying 55 = some (.struct (Try.prog.fieldsOf 55)) := by kernel_rfl
    have hst : Try.prog.stoodInHeld 55 = false := by kernel_rfl
    simp only [List.map_cons, List.map_nil]
    rw [Sem.run_bind, run_eqGuard_agg w .eql 55 x y _ _ (by kernel_rfl), Result.andThen_ok, run_eql_struct, run_equalIn_struct w 9999 _ _ _ hu hst]
    have hf : (Try.prog.fieldsOf 55).toList = (match Try.prog.underlying 55 with | some (.struct fs) => fs | _ => #[]).toList := rfl
    rw [hf, Try.underlying55]
    simp [Op.eqFields, go_sem, eqInts]
    by_cases h0 : a0 = b0 <;> by_cases h1 : a1 = b1 <;> by_cases h2 : a2 = b2 <;> simp [h0, h1, h2]
set_option maxRecDepth 100000 in
theorem ine55 : ∀ (ps qs : List Int), ps.length = 3 → qs.length = 3 → ∀ x y w, (do eqGuard .neq 55 x y (.agg (ps.map (Value.int .i64)).toArray) (.agg (qs.map (Value.int .i64)).toArray); binOp .neq 55 (.agg (ps.map (Value.int .i64)).toArray) (.agg (qs.map (Value.int .i64)).toArray) : Sem Value).run Try.prog w = .ok (.bool (!eqInts ps qs)) w
  | [a0, a1, a2], [b0, b1, b2], _, _, x, y, w => by
    have hu : Try.prog.underlying 55 = some (.struct (Try.prog.fieldsOf 55)) := by kernel_rfl
    have hst : Try.prog.stoodInHeld 55 = false := by kernel_rfl
    simp only [List.map_cons, List.map_nil]
    rw [Sem.run_bind, run_eqGuard_agg w .neq 55 x y _ _ (by kernel_rfl), Result.andThen_ok, run_neq_struct, run_equalIn_struct w 9999 _ _ _ hu hst]
    have hf : (Try.prog.fieldsOf 55).toList = (match Try.prog.underlying 55 with | some (.struct fs) => fs | _ => #[]).toList := rfl
    rw [hf, Try.underlying55]
    simp [Op.eqFields, go_sem, eqInts]
    by_cases h0 : a0 = b0 <;> by_cases h1 : a1 = b1 <;> by_cases h2 : a2 = b2 <;> simp [h0, h1, h2]
theorem tok55 : TOk Try.prog 55 ⟨true, 3, [(0, 1), (1, 1), (2, 1)], none, some [.int .i64 0, .int .i64 0, .int .i64 0], 3, none, [false, false, false]⟩ := ⟨Try.sizeOf55, Try.isAgg55, (fun h => by cases h), (fun j off fs h => match j, h with | 0, h => by injection h with h; injection h with h1 h2; subst h1 h2; exact ⟨_, _, Try.runUnderlying55, rfl, rfl, Try.sizeOf3, by decide⟩ | 1, h => by injection h with h; injection h with h1 h2; subst h1 h2; exact ⟨_, _, Try.runUnderlying55, rfl, rfl, Try.sizeOf3, by decide⟩ | 2, h => by injection h with h; injection h with h1 h2; subst h1 h2; exact ⟨_, _, Try.runUnderlying55, rfl, rfl, Try.sizeOf3, by decide⟩ | _ + 3, h => by simp at h), (fun _ _ _ h => by cases h), (fun _ _ _ _ _ h => by cases h), (fun zs h => by cases h; exact ⟨_, Try.zeroValue55, rfl, by simp [Value.oneCell']⟩), (fun _ _ _ => ⟨_, Try.runUnderlying55, fun w => by simp [Try.sizeOf3]⟩), (fun h => by cases h), (fun _ h => by cases h), (fun h => by cases h), (fun _ => ieq55), (fun _ => ine55), (fun j off fs b h h2 => match j, h, h2 with | 0, h, h2 => by injection h with h; injection h with h1 h3; subst h1 h3; injection h2 with h2; subst h2; exact ⟨_, _, Try.runUnderlying55, rfl, rfl, Try.isAgg3, Try.sizeOf3⟩ | 1, h, h2 => by injection h with h; injection h with h1 h3; subst h1 h3; injection h2 with h2; subst h2; exact ⟨_, _, Try.runUnderlying55, rfl, rfl, Try.isAgg3, Try.sizeOf3⟩ | 2, h, h2 => by injection h with h; injection h with h1 h3; subst h1 h3; injection h2 with h2; subst h2; exact ⟨_, _, Try.runUnderlying55, rfl, rfl, Try.isAgg3, Try.sizeOf3⟩ | _ + 3, h, _ => by simp at h)⟩
theorem tok72 : TOk Try.prog 72 ⟨true, 2, [(0, 1), (1, 1)], none, some [.int .i64 0, .int .i64 0], 0, none, [false, false]⟩ := ⟨Try.sizeOf72, Try.isAgg72, (fun h => by cases h), (fun j off fs h => match j, h with | 0, h => by injection h with h; injection h with h1 h2; subst h1 h2; exact ⟨_, _, Try.runUnderlying72, rfl, rfl, Try.sizeOf3, by decide⟩ | 1, h => by injection h with h; injection h with h1 h2; subst h1 h2; exact ⟨_, _, Try.runUnderlying72, rfl, rfl, Try.sizeOf3, by decide⟩ | _ + 2, h => by simp at h), (fun _ _ _ h => by cases h), (fun _ _ _ _ _ h => by cases h), (fun zs h => by cases h; exact ⟨_, Try.zeroValue72, rfl, by simp [Value.oneCell']⟩), (fun _ _ _ => ⟨_, Try.runUnderlying72, fun w => by simp [Try.sizeOf3]⟩), (fun h => by cases h), (fun _ h => by cases h), (fun h => by cases h), (fun h => by cases h), (fun h => by cases h), (fun j off fs b h h2 => match j, h, h2 with | 0, h, h2 => by injection h with h; injection h with h1 h3; subst h1 h3; injection h2 with h2; subst h2; exact ⟨_, _, Try.runUnderlying72, rfl, rfl, Try.isAgg3, Try.sizeOf3⟩ | 1, h, h2 => by injection h with h; injection h with h1 h3; subst h1 h3; injection h2 with h2; subst h2; exact ⟨_, _, Try.runUnderlying72, rfl, rfl, Try.isAgg3, Try.sizeOf3⟩ | _ + 2, h, _ => by simp at h)⟩
set_option maxRecDepth 100000 in
theorem ieq73 : ∀ (ps qs : List Int), ps.length = 2 → qs.length = 2 → ∀ x y w, (do eqGuard .eql 73 x y (.agg (ps.map (Value.int .i64)).toArray) (.agg (qs.map (Value.int .i64)).toArray); binOp .eql 73 (.agg (ps.map (Value.int .i64)).toArray) (.agg (qs.map (Value.int .i64)).toArray) : Sem Value).run Try.prog w = .ok (.bool (eqInts ps qs)) w
  | [a0, a1], [b0, b1], _, _, x, y, w => by
    have hu : Try.prog.underlying 73 = some (.struct (Try.prog.fieldsOf 73)) := by kernel_rfl
    have hst : Try.prog.stoodInHeld 73 = false := by kernel_rfl
    simp only [List.map_cons, List.map_nil]
    rw [Sem.run_bind, run_eqGuard_agg w .eql 73 x y _ _ (by kernel_rfl), Result.andThen_ok, run_eql_struct, run_equalIn_struct w 9999 _ _ _ hu hst]
    have hf : (Try.prog.fieldsOf 73).toList = (match Try.prog.underlying 73 with | some (.struct fs) => fs | _ => #[]).toList := rfl
    rw [hf, Try.underlying73]
    simp [Op.eqFields, go_sem, eqInts]
    by_cases h0 : a0 = b0 <;> by_cases h1 : a1 = b1 <;> simp [h0, h1]
set_option maxRecDepth 100000 in
theorem ine73 : ∀ (ps qs : List Int), ps.length = 2 → qs.length = 2 → ∀ x y w, (do eqGuard .neq 73 x y (.agg (ps.map (Value.int .i64)).toArray) (.agg (qs.map (Value.int .i64)).toArray); binOp .neq 73 (.agg (ps.map (Value.int .i64)).toArray) (.agg (qs.map (Value.int .i64)).toArray) : Sem Value).run Try.prog w = .ok (.bool (!eqInts ps qs)) w
  | [a0, a1], [b0, b1], _, _, x, y, w => by
    have hu : Try.prog.underlying 73 = some (.struct (Try.prog.fieldsOf 73)) := by kernel_rfl
    have hst : Try.prog.stoodInHeld 73 = false := by kernel_rfl
    simp only [List.map_cons, List.map_nil]
    rw [Sem.run_bind, run_eqGuard_agg w .neq 73 x y _ _ (by kernel_rfl), Result.andThen_ok, run_neq_struct, run_equalIn_struct w 9999 _ _ _ hu hst]
    have hf : (Try.prog.fieldsOf 73).toList = (match Try.prog.underlying 73 with | some (.struct fs) => fs | _ => #[]).toList := rfl
    rw [hf, Try.underlying73]
    simp [Op.eqFields, go_sem, eqInts]
    by_cases h0 : a0 = b0 <;> by_cases h1 : a1 = b1 <;> simp [h0, h1]
theorem tok73 : TOk Try.prog 73 ⟨true, 2, [(0, 1), (1, 1)], none, some [.int .i64 0, .int .i64 0], 3, none, [false, false]⟩ := ⟨Try.sizeOf73, Try.isAgg73, (fun h => by cases h), (fun j off fs h => match j, h with | 0, h => by injection h with h; injection h with h1 h2; subst h1 h2; exact ⟨_, _, Try.runUnderlying73, rfl, rfl, Try.sizeOf3, by decide⟩ | 1, h => by injection h with h; injection h with h1 h2; subst h1 h2; exact ⟨_, _, Try.runUnderlying73, rfl, rfl, Try.sizeOf3, by decide⟩ | _ + 2, h => by simp at h), (fun _ _ _ h => by cases h), (fun _ _ _ _ _ h => by cases h), (fun zs h => by cases h; exact ⟨_, Try.zeroValue73, rfl, by simp [Value.oneCell']⟩), (fun _ _ _ => ⟨_, Try.runUnderlying73, fun w => by simp [Try.sizeOf3]⟩), (fun h => by cases h), (fun _ h => by cases h), (fun h => by cases h), (fun _ => ieq73), (fun _ => ine73), (fun j off fs b h h2 => match j, h, h2 with | 0, h, h2 => by injection h with h; injection h with h1 h3; subst h1 h3; injection h2 with h2; subst h2; exact ⟨_, _, Try.runUnderlying73, rfl, rfl, Try.isAgg3, Try.sizeOf3⟩ | 1, h, h2 => by injection h with h; injection h with h1 h3; subst h1 h3; injection h2 with h2; subst h2; exact ⟨_, _, Try.runUnderlying73, rfl, rfl, Try.isAgg3, Try.sizeOf3⟩ | _ + 2, h, _ => by simp at h)⟩
set_option maxRecDepth 100000 in
theorem ieq76 : ∀ (ps qs : List Int), ps.length = 3 → qs.length = 3 → ∀ x y w, (do eqGuard .eql 76 x y (.agg (ps.map (Value.int .i64)).toArray) (.agg (qs.map (Value.int .i64)).toArray); binOp .eql 76 (.agg (ps.map (Value.int .i64)).toArray) (.agg (qs.map (Value.int .i64)).toArray) : Sem Value).run Try.prog w = .ok (.bool (eqInts ps qs)) w
  | [a0, a1, a2], [b0, b1, b2], _, _, x, y, w => by
    have hu : Try.prog.underlying 76 = some (.struct (Try.prog.fieldsOf 76)) := by kernel_rfl
    have hst : Try.prog.stoodInHeld 76 = false := by kernel_rfl
    simp only [List.map_cons, List.map_nil]
    rw [Sem.run_bind, run_eqGuard_agg w .eql 76 x y _ _ (by kernel_rfl), Result.andThen_ok, run_eql_struct, run_equalIn_struct w 9999 _ _ _ hu hst]
    have hf : (Try.prog.fieldsOf 76).toList = (match Try.prog.underlying 76 with | some (.struct fs) => fs | _ => #[]).toList := rfl
    rw [hf, Try.underlying76]
    simp [Op.eqFields, go_sem, eqInts]
    by_cases h0 : a0 = b0 <;> by_cases h1 : a1 = b1 <;> by_cases h2 : a2 = b2 <;> simp [h0, h1, h2]
set_option maxRecDepth 100000 in
theorem ine76 : ∀ (ps qs : List Int), ps.length = 3 → qs.length = 3 → ∀ x y w, (do eqGuard .neq 76 x y (.agg (ps.map (Value.int .i64)).toArray) (.agg (qs.map (Value.int .i64)).toArray); binOp .neq 76 (.agg (ps.map (Value.int .i64)).toArray) (.agg (qs.map (Value.int .i64)).toArray) : Sem Value).run Try.prog w = .ok (.bool (!eqInts ps qs)) w
  | [a0, a1, a2], [b0, b1, b2], _, _, x, y, w => by
    have hu : Try.prog.underlying 76 = some (.struct (Try.prog.fieldsOf 76)) := by kernel_rfl
    have hst : Try.prog.stoodInHeld 76 = false := by kernel_rfl
    simp only [List.map_cons, List.map_nil]
    rw [Sem.run_bind, run_eqGuard_agg w .neq 76 x y _ _ (by kernel_rfl), Result.andThen_ok, run_neq_struct, run_equalIn_struct w 9999 _ _ _ hu hst]
    have hf : (Try.prog.fieldsOf 76).toList = (match Try.prog.underlying 76 with | some (.struct fs) => fs | _ => #[]).toList := rfl
    rw [hf, Try.underlying76]
    simp [Op.eqFields, go_sem, eqInts]
    by_cases h0 : a0 = b0 <;> by_cases h1 : a1 = b1 <;> by_cases h2 : a2 = b2 <;> simp [h0, h1, h2]
theorem tok76 : TOk Try.prog 76 ⟨true, 3, [(0, 1), (1, 1), (2, 1)], none, some [.int .i64 0, .int .i64 0, .int .i64 0], 3, none, [false, false, false]⟩ := ⟨Try.sizeOf76, Try.isAgg76, (fun h => by cases h), (fun j off fs h => match j, h with | 0, h => by injection h with h; injection h with h1 h2; subst h1 h2; exact ⟨_, _, Try.runUnderlying76, rfl, rfl, Try.sizeOf3, by decide⟩ | 1, h => by injection h with h; injection h with h1 h2; subst h1 h2; exact ⟨_, _, Try.runUnderlying76, rfl, rfl, Try.sizeOf3, by decide⟩ | 2, h => by injection h with h; injection h with h1 h2; subst h1 h2; exact ⟨_, _, Try.runUnderlying76, rfl, rfl, Try.sizeOf3, by decide⟩ | _ + 3, h => by simp at h), (fun _ _ _ h => by cases h), (fun _ _ _ _ _ h => by cases h), (fun zs h => by cases h; exact ⟨_, Try.zeroValue76, rfl, by simp [Value.oneCell']⟩), (fun _ _ _ => ⟨_, Try.runUnderlying76, fun w => by simp [Try.sizeOf3]⟩), (fun h => by cases h), (fun _ h => by cases h), (fun h => by cases h), (fun _ => ieq76), (fun _ => ine76), (fun j off fs b h h2 => match j, h, h2 with | 0, h, h2 => by injection h with h; injection h with h1 h3; subst h1 h3; injection h2 with h2; subst h2; exact ⟨_, _, Try.runUnderlying76, rfl, rfl, Try.isAgg3, Try.sizeOf3⟩ | 1, h, h2 => by injection h with h; injection h with h1 h3; subst h1 h3; injection h2 with h2; subst h2; exact ⟨_, _, Try.runUnderlying76, rfl, rfl, Try.isAgg3, Try.sizeOf3⟩ | 2, h, h2 => by injection h with h; injection h with h1 h3; subst h1 h3; injection h2 with h2; subst h2; exact ⟨_, _, Try.runUnderlying76, rfl, rfl, Try.isAgg3, Try.sizeOf3⟩ | _ + 3, h, _ => by simp at h)⟩
theorem tok77 : TOk Try.prog 77 ⟨false, 1, [], none, some [.int .u64 0], 0, some .u64, []⟩ := ⟨Try.sizeOf77, Try.isAgg77, (fun _ => rfl), (fun _ _ _ h => by simp at h), (fun _ _ _ h => by cases h), (fun _ _ _ _ _ h => by cases h), (fun zs h => by cases h; exact ⟨_, Try.zeroValue77, rfl, by simp [Value.oneCell']⟩), (fun _ _ h => by cases h), (fun h => by cases h), (fun _ h => by cases h; exact Try.runUnderlying77), (fun h => by cases h), (fun h => by cases h), (fun h => by cases h), (fun _ _ _ _ _ h => by simp at h)⟩
theorem tok84 : TOk Try.prog 84 ⟨true, 4, [(0, 1), (1, 3)], none, some [.int .i64 0, .int .i64 0, .int .i64 0, .slice none 0 0], 0, none, [false, true]⟩ := ⟨Try.sizeOf84, Try.isAgg84, (fun h => by cases h), (fun j off fs h => match j, h with | 0, h => by injection h with h; injection h with h1 h2; subst h1 h2; exact ⟨_, _, Try.runUnderlying84, rfl, rfl, Try.sizeOf3, by decide⟩ | 1, h => by injection h with h; injection h with h1 h2; subst h1 h2; exact ⟨_, _, Try.runUnderlying84, rfl, rfl, Try.sizeOf49, by decide⟩ | _ + 2, h => by simp at h), (fun _ _ _ h => by cases h), (fun _ _ _ _ _ h => by cases h), (fun zs h => by cases h; exact ⟨_, Try.zeroValue84, rfl, by simp [Value.oneCell']⟩), (fun _ _ _ => ⟨_, Try.runUnderlying84, fun w => by simp [Try.sizeOf3, Try.sizeOf49]⟩), (fun h => by cases h), (fun _ h => by cases h), (fun h => by cases h), (fun h => by cases h), (fun h => by cases h), (fun j off fs b h h2 => match j, h, h2 with | 0, h, h2 => by injection h with h; injection h with h1 h3; subst h1 h3; injection h2 with h2; subst h2; exact ⟨_, _, Try.runUnderlying84, rfl, rfl, Try.isAgg3, Try.sizeOf3⟩ | 1, h, h2 => by injection h with h; injection h with h1 h3; subst h1 h3; injection h2 with h2; subst h2; exact ⟨_, _, Try.runUnderlying84, rfl, rfl, Try.isAgg49, Try.sizeOf49⟩ | _ + 2, h, _ => by simp at h)⟩
theorem tok85 : TOk Try.prog 85 ⟨true, 4, [(0, 1), (1, 3)], none, some [.int .i64 0, .int .i64 0, .int .i64 0, .slice none 0 0], 0, none, [false, true]⟩ := ⟨Try.sizeOf85, Try.isAgg85, (fun h => by cases h), (fun j off fs h => match j, h with | 0, h => by injection h with h; injection h with h1 h2; subst h1 h2; exact ⟨_, _, Try.runUnderlying85, rfl, rfl, Try.sizeOf3, by decide⟩ | 1, h => by injection h with h; injection h with h1 h2; subst h1 h2; exact ⟨_, _, Try.runUnderlying85, rfl, rfl, Try.sizeOf49, by decide⟩ | _ + 2, h => by simp at h), (fun _ _ _ h => by cases h), (fun _ _ _ _ _ h => by cases h), (fun zs h => by cases h; exact ⟨_, Try.zeroValue85, rfl, by simp [Value.oneCell']⟩), (fun _ _ _ => ⟨_, Try.runUnderlying85, fun w => by simp [Try.sizeOf3, Try.sizeOf49]⟩), (fun h => by cases h), (fun _ h => by cases h), (fun h => by cases h), (fun h => by cases h), (fun h => by cases h), (fun j off fs b h h2 => match j, h, h2 with | 0, h, h2 => by injection h with h; injection h with h1 h3; subst h1 h3; injection h2 with h2; subst h2; exact ⟨_, _, Try.runUnderlying85, rfl, rfl, Try.isAgg3, Try.sizeOf3⟩ | 1, h, h2 => by injection h with h; injection h with h1 h3; subst h1 h3; injection h2 with h2; subst h2; exact ⟨_, _, Try.runUnderlying85, rfl, rfl, Try.isAgg49, Try.sizeOf49⟩ | _ + 2, h, _ => by simp at h)⟩
theorem tok89 : TOk Try.prog 89 ⟨false, 1, [], none, some [.int .u32 0], 0, some .u32, []⟩ := ⟨Try.sizeOf89, Try.isAgg89, (fun _ => rfl), (fun _ _ _ h => by simp at h), (fun _ _ _ h => by cases h), (fun _ _ _ _ _ h => by cases h), (fun zs h => by cases h; exact ⟨_, Try.zeroValue89, rfl, by simp [Value.oneCell']⟩), (fun _ _ h => by cases h), (fun h => by cases h), (fun _ h => by cases h; exact Try.runUnderlying89), (fun h => by cases h), (fun h => by cases h), (fun h => by cases h), (fun _ _ _ _ _ h => by simp at h)⟩
theorem tok92 : TOk Try.prog 92 ⟨false, 1, [], none, some [.int .u64 0], 0, some .u64, []⟩ := ⟨Try.sizeOf92, Try.isAgg92, (fun _ => rfl), (fun _ _ _ h => by simp at h), (fun _ _ _ h => by cases h), (fun _ _ _ _ _ h => by cases h), (fun zs h => by cases h; exact ⟨_, Try.zeroValue92, rfl, by simp [Value.oneCell']⟩), (fun _ _ h => by cases h), (fun h => by cases h), (fun _ h => by cases h; exact Try.runUnderlying92), (fun h => by cases h), (fun h => by cases h), (fun h => by cases h), (fun _ _ _ _ _ h => by simp at h)⟩
theorem tok105 : TOk Try.prog 105 ⟨false, 1, [], none, some [.int .i64 0], 0, some .i64, []⟩ := ⟨Try.sizeOf105, Try.isAgg105, (fun _ => rfl), (fun _ _ _ h => by simp at h), (fun _ _ _ h => by cases h), (fun _ _ _ _ _ h => by cases h), (fun zs h => by cases h; exact ⟨_, Try.zeroValue105, rfl, by simp [Value.oneCell']⟩), (fun _ _ h => by cases h), (fun h => by cases h), (fun _ h => by cases h; exact Try.runUnderlying105), (fun h => by cases h), (fun h => by cases h), (fun h => by cases h), (fun _ _ _ _ _ h => by simp at h)⟩
theorem tok115 : TOk Try.prog 115 ⟨false, 1, [], none, some [.int .u64 0], 0, some .u64, []⟩ := ⟨Try.sizeOf115, Try.isAgg115, (fun _ => rfl), (fun _ _ _ h => by simp at h), (fun _ _ _ h => by cases h), (fun _ _ _ _ _ h => by cases h), (fun zs h => by cases h; exact ⟨_, Try.zeroValue115, rfl, by simp [Value.oneCell']⟩), (fun _ _ h => by cases h), (fun h => by cases h), (fun _ h => by cases h; exact Try.runUnderlying115), (fun h => by cases h), (fun h => by cases h), (fun h => by cases h), (fun _ _ _ _ _ h => by simp at h)⟩
theorem tok119 : TOk Try.prog 119 ⟨false, 1, [], none, some [.pointer none], 0, none, []⟩ := ⟨Try.sizeOf119, Try.isAgg119, (fun _ => rfl), (fun _ _ _ h => by simp at h), (fun _ _ _ h => by cases h), (fun _ _ _ _ _ h => by cases h), (fun zs h => by cases h; exact ⟨_, Try.zeroValue119, rfl, by simp [Value.oneCell']⟩), (fun _ _ h => by cases h), (fun h => by cases h), (fun _ h => by cases h), (fun h => by cases h), (fun h => by cases h), (fun h => by cases h), (fun _ _ _ _ _ h => by simp at h)⟩
theorem tok122 : TOk Try.prog 122 ⟨false, 1, [], none, some [.pointer none], 0, none, []⟩ := ⟨Try.sizeOf122, Try.isAgg122, (fun _ => rfl), (fun _ _ _ h => by simp at h), (fun _ _ _ h => by cases h), (fun _ _ _ _ _ h => by cases h), (fun zs h => by cases h; exact ⟨_, Try.zeroValue122, rfl, by simp [Value.oneCell']⟩), (fun _ _ h => by cases h), (fun h => by cases h), (fun _ h => by cases h), (fun h => by cases h), (fun h => by cases h), (fun h => by cases h), (fun _ _ _ _ _ h => by simp at h)⟩
theorem tok126 : TOk Try.prog 126 ⟨true, 4, [(0, 1), (1, 1), (2, 1), (3, 1)], none, some [.pointer none, .pointer none, .pointer none, .string ⟨#[]⟩], 0, none, [false, false, false, false]⟩ := ⟨Try.sizeOf126, Try.isAgg126, (fun h => by cases h), (fun j off fs h => match j, h with | 0, h => by injection h with h; injection h with h1 h2; subst h1 h2; exact ⟨_, _, Try.runUnderlying126, rfl, rfl, Try.sizeOf17, by decide⟩ | 1, h => by injection h with h; injection h with h1 h2; subst h1 h2; exact ⟨_, _, Try.runUnderlying126, rfl, rfl, Try.sizeOf17, by decide⟩ | 2, h => by injection h with h; injection h with h1 h2; subst h1 h2; exact ⟨_, _, Try.runUnderlying126, rfl, rfl, Try.sizeOf17, by decide⟩ | 3, h => by injection h with h; injection h with h1 h2; subst h1 h2; exact ⟨_, _, Try.runUnderlying126, rfl, rfl, Try.sizeOf9, by decide⟩ | _ + 4, h => by simp at h), (fun _ _ _ h => by cases h), (fun _ _ _ _ _ h => by cases h), (fun zs h => by cases h; exact ⟨_, Try.zeroValue126, rfl, by simp [Value.oneCell']⟩), (fun _ _ _ => ⟨_, Try.runUnderlying126, fun w => by simp [Try.sizeOf17, Try.sizeOf9]⟩), (fun h => by cases h), (fun _ h => by cases h), (fun h => by cases h), (fun h => by cases h), (fun h => by cases h), (fun j off fs b h h2 => match j, h, h2 with | 0, h, h2 => by injection h with h; injection h with h1 h3; subst h1 h3; injection h2 with h2; subst h2; exact ⟨_, _, Try.runUnderlying126, rfl, rfl, Try.isAgg17, Try.sizeOf17⟩ | 1, h, h2 => by injection h with h; injection h with h1 h3; subst h1 h3; injection h2 with h2; subst h2; exact ⟨_, _, Try.runUnderlying126, rfl, rfl, Try.isAgg17, Try.sizeOf17⟩ | 2, h, h2 => by injection h with h; injection h with h1 h3; subst h1 h3; injection h2 with h2; subst h2; exact ⟨_, _, Try.runUnderlying126, rfl, rfl, Try.isAgg17, Try.sizeOf17⟩ | 3, h, h2 => by injection h with h; injection h with h1 h3; subst h1 h3; injection h2 with h2; subst h2; exact ⟨_, _, Try.runUnderlying126, rfl, rfl, Try.isAgg9, Try.sizeOf9⟩ | _ + 4, h, _ => by simp at h)⟩
theorem tok127 : TOk Try.prog 127 ⟨true, 4, [(0, 1), (1, 1), (2, 1), (3, 1)], none, some [.pointer none, .pointer none, .pointer none, .string ⟨#[]⟩], 0, none, [false, false, false, false]⟩ := ⟨Try.sizeOf127, Try.isAgg127, (fun h => by cases h), (fun j off fs h => match j, h with | 0, h => by injection h with h; injection h with h1 h2; subst h1 h2; exact ⟨_, _, Try.runUnderlying127, rfl, rfl, Try.sizeOf17, by decide⟩ | 1, h => by injection h with h; injection h with h1 h2; subst h1 h2; exact ⟨_, _, Try.runUnderlying127, rfl, rfl, Try.sizeOf17, by decide⟩ | 2, h => by injection h with h; injection h with h1 h2; subst h1 h2; exact ⟨_, _, Try.runUnderlying127, rfl, rfl, Try.sizeOf17, by decide⟩ | 3, h => by injection h with h; injection h with h1 h2; subst h1 h2; exact ⟨_, _, Try.runUnderlying127, rfl, rfl, Try.sizeOf9, by decide⟩ | _ + 4, h => by simp at h), (fun _ _ _ h => by cases h), (fun _ _ _ _ _ h => by cases h), (fun zs h => by cases h; exact ⟨_, Try.zeroValue127, rfl, by simp [Value.oneCell']⟩), (fun _ _ _ => ⟨_, Try.runUnderlying127, fun w => by simp [Try.sizeOf17, Try.sizeOf9]⟩), (fun h => by cases h), (fun _ h => by cases h), (fun h => by cases h), (fun h => by cases h), (fun h => by cases h), (fun j off fs b h h2 => match j, h, h2 with | 0, h, h2 => by injection h with h; injection h with h1 h3; subst h1 h3; injection h2 with h2; subst h2; exact ⟨_, _, Try.runUnderlying127, rfl, rfl, Try.isAgg17, Try.sizeOf17⟩ | 1, h, h2 => by injection h with h; injection h with h1 h3; subst h1 h3; injection h2 with h2; subst h2; exact ⟨_, _, Try.runUnderlying127, rfl, rfl, Try.isAgg17, Try.sizeOf17⟩ | 2, h, h2 => by injection h with h; injection h with h1 h3; subst h1 h3; injection h2 with h2; subst h2; exact ⟨_, _, Try.runUnderlying127, rfl, rfl, Try.isAgg17, Try.sizeOf17⟩ | 3, h, h2 => by injection h with h; injection h with h1 h3; subst h1 h3; injection h2 with h2; subst h2; exact ⟨_, _, Try.runUnderlying127, rfl, rfl, Try.isAgg9, Try.sizeOf9⟩ | _ + 4, h, _ => by simp at h)⟩
theorem tok132 : TOk Try.prog 132 ⟨false, 1, [], none, some [.int .u8 0], 0, some .u8, []⟩ := ⟨Try.sizeOf132, Try.isAgg132, (fun _ => rfl), (fun _ _ _ h => by simp at h), (fun _ _ _ h => by cases h), (fun _ _ _ _ _ h => by cases h), (fun zs h => by cases h; exact ⟨_, Try.zeroValue132, rfl, by simp [Value.oneCell']⟩), (fun _ _ h => by cases h), (fun h => by cases h), (fun _ h => by cases h; exact Try.runUnderlying132), (fun h => by cases h), (fun h => by cases h), (fun h => by cases h), (fun _ _ _ _ _ h => by simp at h)⟩
theorem tok133 : TOk Try.prog 133 ⟨false, 1, [], none, some [.int .u8 0], 0, some .u8, []⟩ := ⟨Try.sizeOf133, Try.isAgg133, (fun _ => rfl), (fun _ _ _ h => by simp at h), (fun _ _ _ h => by cases h), (fun _ _ _ _ _ h => by cases h), (fun zs h => by cases h; exact ⟨_, Try.zeroValue133, rfl, by simp [Value.oneCell']⟩), (fun _ _ h => by cases h), (fun h => by cases h), (fun _ h => by cases h; exact Try.runUnderlying133), (fun h => by cases h), (fun h => by cases h), (fun h => by cases h), (fun _ _ _ _ _ h => by simp at h)⟩
theorem tok135 : TOk Try.prog 135 ⟨false, 1, [], none, some [.pointer none], 0, none, []⟩ := ⟨Try.sizeOf135, Try.isAgg135, (fun _ => rfl), (fun _ _ _ h => by simp at h), (fun _ _ _ h => by cases h), (fun _ _ _ _ _ h => by cases h), (fun zs h => by cases h; exact ⟨_, Try.zeroValue135, rfl, by simp [Value.oneCell']⟩), (fun _ _ h => by cases h), (fun h => by cases h), (fun _ h => by cases h), (fun h => by cases h), (fun h => by cases h), (fun h => by cases h), (fun _ _ _ _ _ h => by simp at h)⟩
theorem tok136 : TOk Try.prog 136 ⟨false, 1, [], none, some [.int .i32 0], 0, some .i32, []⟩ := ⟨Try.sizeOf136, Try.isAgg136, (fun _ => rfl), (fun _ _ _ h => by simp at h), (fun _ _ _ h => by cases h), (fun _ _ _ _ _ h => by cases h), (fun zs h => by cases h; exact ⟨_, Try.zeroValue136, rfl, by simp [Value.oneCell']⟩), (fun _ _ h => by cases h), (fun h => by cases h), (fun _ h => by cases h; exact Try.runUnderlying136), (fun h => by cases h), (fun h => by cases h), (fun h => by cases h), (fun _ _ _ _ _ h => by simp at h)⟩
theorem tok137 : TOk Try.prog 137 ⟨false, 1, [], none, some [.int .i32 0], 0, some .i32, []⟩ := ⟨Try.sizeOf137, Try.isAgg137, (fun _ => rfl), (fun _ _ _ h => by simp at h), (fun _ _ _ h => by cases h), (fun _ _ _ _ _ h => by cases h), (fun zs h => by cases h; exact ⟨_, Try.zeroValue137, rfl, by simp [Value.oneCell']⟩), (fun _ _ h => by cases h), (fun h => by cases h), (fun _ h => by cases h; exact Try.runUnderlying137), (fun h => by cases h), (fun h => by cases h), (fun h => by cases h), (fun _ _ _ _ _ h => by simp at h)⟩
theorem tok138 : TOk Try.prog 138 ⟨true, 11, [(0, 1), (1, 1), (2, 1), (3, 1), (4, 1), (5, 1), (6, 1), (7, 1), (8, 1), (9, 1), (10, 1)], none, some [.int .u64 0, .int .u64 0, .int .u32 0, .int .u8 0, .int .u8 0, .int .u8 0, .int .u8 0, .nilFunc, .pointer none, .int .i32 0, .int .i32 0], 0, none, []⟩ := ⟨Try.sizeOf138, Try.isAgg138, (fun h => by cases h), (fun j off fs h => match j, h with | 0, h => by injection h with h; injection h with h1 h2; subst h1 h2; exact ⟨_, _, Try.runUnderlying138, rfl, rfl, Try.sizeOf12, by decide⟩ | 1, h => by injection h with h; injection h with h1 h2; subst h1 h2; exact ⟨_, _, Try.runUnderlying138, rfl, rfl, Try.sizeOf12, by decide⟩ | 2, h => by injection h with h; injection h with h1 h2; subst h1 h2; exact ⟨_, _, Try.runUnderlying138, rfl, rfl, Try.sizeOf89, by decide⟩ | 3, h => by injection h with h; injection h with h1 h2; subst h1 h2; exact ⟨_, _, Try.runUnderlying138, rfl, rfl, Try.sizeOf132, by decide⟩ | 4, h => by injection h with h; injection h with h1 h2; subst h1 h2; exact ⟨_, _, Try.runUnderlying138, rfl, rfl, Try.sizeOf5, by decide⟩ | 5, h => by injection h with h; injection h with h1 h2; subst h1 h2; exact ⟨_, _, Try.runUnderlying138, rfl, rfl, Try.sizeOf5, by decide⟩ | 6, h => by injection h with h; injection h with h1 h2; subst h1 h2; exact ⟨_, _, Try.runUnderlying138, rfl, rfl, Try.sizeOf133, by decide⟩ | 7, h => by injection h with h; injection h with h1 h2; subst h1 h2; exact ⟨_, _, Try.runUnderlying138, rfl, rfl, Try.sizeOf134, by decide⟩ | 8, h => by injection h with h; injection h with h1 h2; subst h1 h2; exact ⟨_, _, Try.runUnderlying138, rfl, rfl, Try.sizeOf135, by decide⟩ | 9, h => by injection h with h; injection h with h1 h2; subst h1 h2; exact ⟨_, _, Try.runUnderlying138, rfl, rfl, Try.sizeOf136, by decide⟩ | 10, h => by injection h with h; injection h with h1 h2; subst h1 h2; exact ⟨_, _, Try.runUnderlying138, rfl, rfl, Try.sizeOf137, by decide⟩ | _ + 11, h => by simp at h), (fun _ _ _ h => by cases h), (fun _ _ _ _ _ h => by cases h), (fun zs h => by cases h; exact ⟨_, Try.zeroValue138, rfl, by simp [Value.oneCell']⟩), (fun _ _ _ => ⟨_, Try.runUnderlying138, fun w => by simp [Try.sizeOf12, Try.sizeOf132, Try.sizeOf133, Try.sizeOf134, Try.sizeOf135, Try.sizeOf136, Try.sizeOf137, Try.sizeOf5, Try.sizeOf89]⟩), (fun h => by cases h), (fun _ h => by cases h), (fun h => by cases h), (fun h => by cases h), (fun h => by cases h), (fun _ _ _ _ _ h => by simp at h)⟩
theorem tok139 : TOk Try.prog 139 ⟨true, 11, [(0, 1), (1, 1), (2, 1), (3, 1), (4, 1), (5, 1), (6, 1), (7, 1), (8, 1), (9, 1), (10, 1)], none, some [.int .u64 0, .int .u64 0, .int .u32 0, .int .u8 0, .int .u8 0, .int .u8 0, .int .u8 0, .nilFunc, .pointer none, .int .i32 0, .int .i32 0], 0, none, []⟩ := ⟨Try.sizeOf139, Try.isAgg139, (fun h => by cases h), (fun j off fs h => match j, h with | 0, h => by injection h with h; injection h with h1 h2; subst h1 h2; exact ⟨_, _, Try.runUnderlying139, rfl, rfl, Try.sizeOf12, by decide⟩ | 1, h => by injection h with h; injection h with h1 h2; subst h1 h2; exact ⟨_, _, Try.runUnderlying139, rfl, rfl, Try.sizeOf12, by decide⟩ | 2, h => by injection h with h; injection h with h1 h2; subst h1 h2; exact ⟨_, _, Try.runUnderlying139, rfl, rfl, Try.sizeOf89, by decide⟩ | 3, h => by injection h with h; injection h with h1 h2; subst h1 h2; exact ⟨_, _, Try.runUnderlying139, rfl, rfl, Try.sizeOf132, by decide⟩ | 4, h => by injection h with h; injection h with h1 h2; subst h1 h2; exact ⟨_, _, Try.runUnderlying139, rfl, rfl, Try.sizeOf5, by decide⟩ | 5, h => by injection h with h; injection h with h1 h2; subst h1 h2; exact ⟨_, _, Try.runUnderlying139, rfl, rfl, Try.sizeOf5, by decide⟩ | 6, h => by injection h with h; injection h with h1 h2; subst h1 h2; exact ⟨_, _, Try.runUnderlying139, rfl, rfl, Try.sizeOf133, by decide⟩ | 7, h => by injection h with h; injection h with h1 h2; subst h1 h2; exact ⟨_, _, Try.runUnderlying139, rfl, rfl, Try.sizeOf134, by decide⟩ | 8, h => by injection h with h; injection h with h1 h2; subst h1 h2; exact ⟨_, _, Try.runUnderlying139, rfl, rfl, Try.sizeOf135, by decide⟩ | 9, h => by injection h with h; injection h with h1 h2; subst h1 h2; exact ⟨_, _, Try.runUnderlying139, rfl, rfl, Try.sizeOf136, by decide⟩ | 10, h => by injection h with h; injection h with h1 h2; subst h1 h2; exact ⟨_, _, Try.runUnderlying139, rfl, rfl, Try.sizeOf137, by decide⟩ | _ + 11, h => by simp at h), (fun _ _ _ h => by cases h), (fun _ _ _ _ _ h => by cases h), (fun zs h => by cases h; exact ⟨_, Try.zeroValue139, rfl, by simp [Value.oneCell']⟩), (fun _ _ _ => ⟨_, Try.runUnderlying139, fun w => by simp [Try.sizeOf12, Try.sizeOf132, Try.sizeOf133, Try.sizeOf134, Try.sizeOf135, Try.sizeOf136, Try.sizeOf137, Try.sizeOf5, Try.sizeOf89]⟩), (fun h => by cases h), (fun _ h => by cases h), (fun h => by cases h), (fun h => by cases h), (fun h => by cases h), (fun _ _ _ _ _ h => by simp at h)⟩
def tyl : List (Nat × TI) := [(2, ⟨false, 1, [], none, some [.int .i64 0], 0, some .i64, []⟩),
  (3, ⟨false, 1, [], none, some [.int .i64 0], 0, some .i64, []⟩),
  (4, ⟨false, 1, [], none, some [.bool false], 1, none, []⟩),
  (5, ⟨false, 1, [], none, some [.int .u8 0], 0, some .u8, []⟩),
  (9, ⟨false, 1, [], none, some [.string ⟨#[]⟩], 2, none, []⟩),
  (21, ⟨false, 1, [], none, some [.int .i32 0], 0, some .i32, []⟩),
  (22, ⟨false, 1, [], some (76, .lk, 24), some [.slice none 0 0], 0, none, []⟩),
  (23, ⟨true, 2, [(0, 1), (1, 1)], none, some [.int .i64 0, .slice none 0 0], 0, none, [false, false]⟩),
  (24, ⟨true, 2, [(0, 1), (1, 1)], none, some [.int .i64 0, .slice none 0 0], 0, none, [false, false]⟩),
  (26, ⟨false, 1, [], some (55, .lk, 24), some [.slice none 0 0], 0, none, []⟩),
  (27, ⟨true, 2, [(0, 1), (1, 1)], none, some [.int .i64 0, .slice none 0 0], 0, none, [false, false]⟩),
  (28, ⟨true, 2, [(0, 1), (1, 1)], none, some [.int .i64 0, .slice none 0 0], 0, none, [false, false]⟩),
  (29, ⟨false, 1, [], some (4, .bool, 1), some [.slice none 0 0], 0, none, []⟩),
  (30, ⟨false, 1, [], some (3, .int, 8), some [.slice none 0 0], 0, none, []⟩),
  (31, ⟨false, 1, [], some (45, .db, 24), some [.slice none 0 0], 0, none, []⟩),
  (32, ⟨false, 1, [], some (85, .pk, 48), some [.slice none 0 0], 0, none, []⟩),
  (33, ⟨true, 6, [(0, 2), (2, 1), (3, 1), (4, 1), (5, 1)], none, some [.int .i64 0, .slice none 0 0, .slice none 0 0, .slice none 0 0, .slice none 0 0, .slice none 0 0], 0, none, [true, false, false, false, false]⟩),
  (34, ⟨true, 6, [(0, 2), (2, 1), (3, 1), (4, 1), (5, 1)], none, some [.int .i64 0, .slice none 0 0, .slice none 0 0, .slice none 0 0, .slice none 0 0, .slice none 0 0], 0, none, [true, false, false, false, false]⟩),
  (45, ⟨false, 1, [], some (49, .ls, 40), some [.slice none 0 0], 0, none, []⟩),
  (47, ⟨false, 1, [], some (73, .en, 16), some [.slice none 0 0], 0, none, []⟩),
  (48, ⟨true, 3, [(0, 1), (1, 1), (2, 1)], none, some [.int .i64 0, .int .i64 0, .slice none 0 0], 0, none, [false, false, false]⟩),
  (49, ⟨true, 3, [(0, 1), (1, 1), (2, 1)], none, some [.int .i64 0, .int .i64 0, .slice none 0 0], 0, none, [false, false, false]⟩),
  (54, ⟨true, 3, [(0, 1), (1, 1), (2, 1)], none, some [.int .i64 0, .int .i64 0, .int .i64 0], 0, none, [false, false, false]⟩),
  (55, ⟨true, 3, [(0, 1), (1, 1), (2, 1)], none, some [.int .i64 0, .int .i64 0, .int .i64 0], 3, none, [false, false, false]⟩),
  (72, ⟨true, 2, [(0, 1), (1, 1)], none, some [.int .i64 0, .int .i64 0], 0, none, [false, false]⟩),
  (73, ⟨true, 2, [(0, 1), (1, 1)], none, some [.int .i64 0, .int .i64 0], 3, none, [false, false]⟩),
  (76, ⟨true, 3, [(0, 1), (1, 1), (2, 1)], none, some [.int .i64 0, .int .i64 0, .int .i64 0], 3, none, [false, false, false]⟩),
  (77, ⟨false, 1, [], none, some [.int .u64 0], 0, some .u64, []⟩),
  (84, ⟨true, 4, [(0, 1), (1, 3)], none, some [.int .i64 0, .int .i64 0, .int .i64 0, .slice none 0 0], 0, none, [false, true]⟩),
  (85, ⟨true, 4, [(0, 1), (1, 3)], none, some [.int .i64 0, .int .i64 0, .int .i64 0, .slice none 0 0], 0, none, [false, true]⟩),
  (89, ⟨false, 1, [], none, some [.int .u32 0], 0, some .u32, []⟩),
  (92, ⟨false, 1, [], none, some [.int .u64 0], 0, some .u64, []⟩),
  (105, ⟨false, 1, [], none, some [.int .i64 0], 0, some .i64, []⟩),
  (115, ⟨false, 1, [], none, some [.int .u64 0], 0, some .u64, []⟩),
  (119, ⟨false, 1, [], none, some [.pointer none], 0, none, []⟩),
  (122, ⟨false, 1, [], none, some [.pointer none], 0, none, []⟩),
  (126, ⟨true, 4, [(0, 1), (1, 1), (2, 1), (3, 1)], none, some [.pointer none, .pointer none, .pointer none, .string ⟨#[]⟩], 0, none, [false, false, false, false]⟩),
  (127, ⟨true, 4, [(0, 1), (1, 1), (2, 1), (3, 1)], none, some [.pointer none, .pointer none, .pointer none, .string ⟨#[]⟩], 0, none, [false, false, false, false]⟩),
  (132, ⟨false, 1, [], none, some [.int .u8 0], 0, some .u8, []⟩),
  (133, ⟨false, 1, [], none, some [.int .u8 0], 0, some .u8, []⟩),
  (135, ⟨false, 1, [], none, some [.pointer none], 0, none, []⟩),
  (136, ⟨false, 1, [], none, some [.int .i32 0], 0, some .i32, []⟩),
  (137, ⟨false, 1, [], none, some [.int .i32 0], 0, some .i32, []⟩),
  (138, ⟨true, 11, [(0, 1), (1, 1), (2, 1), (3, 1), (4, 1), (5, 1), (6, 1), (7, 1), (8, 1), (9, 1), (10, 1)], none, some [.int .u64 0, .int .u64 0, .int .u32 0, .int .u8 0, .int .u8 0, .int .u8 0, .int .u8 0, .nilFunc, .pointer none, .int .i32 0, .int .i32 0], 0, none, []⟩),
  (139, ⟨true, 11, [(0, 1), (1, 1), (2, 1), (3, 1), (4, 1), (5, 1), (6, 1), (7, 1), (8, 1), (9, 1), (10, 1)], none, some [.int .u64 0, .int .u64 0, .int .u32 0, .int .u8 0, .int .u8 0, .int .u8 0, .int .u8 0, .nilFunc, .pointer none, .int .i32 0, .int .i32 0], 0, none, []⟩)]
def tab : TypeId → Option TI := lookT tyl
theorem tabOk : TabOk Try.prog tab := tab_ok (l := tyl) ⟨tok2, ⟨tok3, ⟨tok4, ⟨tok5, ⟨tok9, ⟨tok21, ⟨tok22, ⟨tok23, ⟨tok24, ⟨tok26, ⟨tok27, ⟨tok28, ⟨tok29, ⟨tok30, ⟨tok31, ⟨tok32, ⟨tok33, ⟨tok34, ⟨tok45, ⟨tok47, ⟨tok48, ⟨tok49, ⟨tok54, ⟨tok55, ⟨tok72, ⟨tok73, ⟨tok76, ⟨tok77, ⟨tok84, ⟨tok85, ⟨tok89, ⟨tok92, ⟨tok105, ⟨tok115, ⟨tok119, ⟨tok122, ⟨tok126, ⟨tok127, ⟨tok132, ⟨tok133, ⟨tok135, ⟨tok136, ⟨tok137, ⟨tok138, ⟨tok139, trivial⟩⟩⟩⟩⟩⟩⟩⟩⟩⟩⟩⟩⟩⟩⟩⟩⟩⟩⟩⟩⟩⟩⟩⟩⟩⟩⟩⟩⟩⟩⟩⟩⟩⟩⟩⟩⟩⟩⟩⟩⟩⟩⟩⟩⟩
def toU : Ty → Ty
  | .ls => .uls
  | .db => .udb
  | .pk => .upk
  | t => t
def tiU (i : TI) : TI := ⟨i.agg, i.size, i.fields, (match i.elem with | some (e, τ, b) => some (e, toU τ, b) | none => none), i.zero, i.prim, i.ik, i.fg⟩
def tabU (t : TypeId) : Option TI := match tab t with | some i => some (tiU i) | none => none
theorem tiU_el {i : TI} {e : TypeId} {τ : Ty} {b : Nat} (h : (tiU i).elem = some (e, τ, b)) : ∃ σ, i.elem = some (e, σ, b) ∧ τ = toU σ := by
  unfold tiU at h
  dsimp only at h
  split at h
  · rename_i e' σ b' he
    simp only [Option.some.injEq, Prod.mk.injEq] at h
    obtain ⟨rfl, rfl, rfl⟩ := h
    exact ⟨σ, he, rfl⟩
  · cases h
theorem toU_sz (σ : Ty) : sz (toU σ) = sz σ := by cases σ <;> rfl
theorem toU_zeros (σ : Ty) : zeros (toU σ) = zeros σ := by cases σ <;> rfl
theorem tabUOk : TabOk Try.prog tabU := fun t i h => by
  unfold tabU at h
  split at h
  case h_2 => cases h
  rename_i j hj
  injection h with h
  subst h
  have T := tabOk t j hj
  exact { T with
    el := fun e τ b h => by
      obtain ⟨σ, h1, rfl⟩ := tiU_el h
      rw [toU_sz]
      exact T.el e σ b h1
    elz := fun e τ b inf z h h2 h3 => by
      obtain ⟨σ, h1, rfl⟩ := tiU_el h
      rw [toU_zeros]
      exact T.elz e σ b inf z h1 h2 h3 }
theorem mixed : Try.prog.follows .mixedOrders = true := by kernel_rfl
end Go.Proofs.Ytknkhdjhongklaa
end
section
namespace Go.Proofs.Ytknkhdjhongklaa
set_option maxRecDepth 100000
open Go.ChangeShapes Go.WideShapes Go.ChangeAt Go.RowKit Go.Deep Go.Joins

theorem row_own : ownKnob Try.prog.godebug = none := by kernel_rfl
theorem row_laid : laidOutB Try.prog = true := by kernel_rfl
def Holds (f : FuncId) (args : Array Value) (W : World) : Prop := Calls Try.prog f args W fun e W' => e = .returned (.bool true) ∧ Below W.heap.size W W'
def NoB : Nat → Prop := Liv [] []
theorem noB (b : Nat) : ¬ NoB b := fun ⟨k, o, c, h, _⟩ => by simp at h
def Opn (w : World) (v : Value) (d : PV) : Prop := Cv w NoB (fun _ => False) [] [] d v
theorem addr_flat {w : World} {x : Addr} {v : Value} (h : w.cell? x = some v) : ∃ b o, x = ⟨b, o, none⟩ := by
  obtain ⟨b, o, s⟩ := x
  cases s with
  | none => exact ⟨b, o, rfl⟩
  | some t =>
    unfold World.cell? at h
    split at h <;> simp at h
theorem cell_lt' {w : World} {b o : Nat} {v : Value} (h : w.cell? ⟨b, o, none⟩ = some v) : b < w.heap.size := by
  unfold World.cell? at h
  rcases Nat.lt_or_ge b w.heap.size with hb | hb
  · exact hb
  · simp [Array.getElem?_eq_none hb] at h
section
variable {H : Type} {enc : TypeId × Value → H} {P : Program} {w : World}
theorem pick_list {α : Type} {n : Nat} {p : Nat → α → Prop} (h : ∀ i, i < n → ∃ x, p i x) : ∃ l : List α, l.length = n ∧ ∀ (i : Nat) x, l[i]? = some x → p i x := by
  induction n with
  | zero => exact ⟨[], rfl, fun i x hx => by simp at hx⟩
  | succ n ih =>
    obtain ⟨l, hl, hp⟩ := ih fun i hi => h i (by omega)
    obtain ⟨x, hx⟩ := h n (by omega)
    refine ⟨l ++ [x], by simp [hl], fun i y hy => ?_⟩
    rcases Nat.lt_or_ge i n with hi | hi
    · rw [List.getElem?_append_left (by omega)] at hy
      exact hp i y hy
    · rw [List.getElem?_append_right (by omega)] at hy
      have hi' : i = n := by
        have := (List.getElem?_eq_some_iff.1 hy).1
        simp at this
        omega
      subst hi'
      rw [hl, Nat.sub_self] at hy
      simp at hy
      subst hy
      exact hx
end
section
variable {H : Type} {enc : TypeId × Value → H} {W : World} {v : Value} {d : DataW H} {p : List MemPlace}
end
end Go.Proofs.Ytknkhdjhongklaa
end
section
namespace Go.Proofs.Ytknkhdjhongklaa
set_option maxRecDepth 100000
open Go.ChangeShapes Go.WideShapes Go.ChangeAt Go.RowKit Go.Deep Go.Joins

section
variable {H : Type} {enc : TypeId × Value → H} {P : Program} {w : World}
def OpE (enc : TypeId × Value → H) (P : Program) (w : World) (e : TypeId) (τ : Ty) : Prop := ∀ fuel cs x, DataW.trod enc P w 0 (fun _ => true) true fuel e cs = some x → ∃ y : El τ, F2 (Ri w NoB (fun _ => False)) (cells τ y) cs
theorem seg {Q : Nat → Value → Prop} {α : Type} {s : Nat} : ∀ (l : List (α × List Value)) (k : Nat), (∀ (i : Nat) p, l[i]? = some p → p.2.length = s ∧ ∀ (j : Nat) u, p.2[j]? = some u → Q ((k + i) * s + j) u) → ∀ (j : Nat) u, (l.flatMap (·.2))[j]? = some u → Q (k * s + j) u
  | [], k, h, j, u, hj => by simp at hj
  | p :: r, k, h, j, u, hj => by
    have h0 := h 0 p rfl
    rw [List.flatMap_cons, List.getElem?_append] at hj
    split at hj
    · simpa using h0.2 j u hj
    · rename_i hlt
      rw [h0.1] at hj hlt
      have := seg r (k + 1) (fun i q hq => by
        have := h (i + 1) q (by simpa using hq)
        rwa [show k + (i + 1) = k + 1 + i by omega] at this) (j - s) u hj
      rwa [Nat.succ_mul, show k * s + s + (j - s) = k * s + j by omega] at this
theorem segF {τ : Ty} : ∀ (l : List (El τ × List Value)), (∀ p ∈ l, F2 (Ri w NoB (fun _ => False)) (cells τ p.1) p.2) → F2 (Ri w NoB (fun _ => False)) (flt τ (l.map (·.1))) (l.flatMap (·.2))
  | [], _ => F2.nil
  | p :: r, h => by
    rw [List.map_cons, flt_cons, List.flatMap_cons]
    exact (h p (List.mem_cons_self ..)).app (segF r fun q hq => h q (List.mem_cons_of_mem _ hq))
theorem open_sl {τ : Ty} {t e : TypeId} {fuel : Nat} {cs : List Value} {x : DataW H × List MemPlace} (ht : P.underlying t = some (.slice e)) (hC : P.cellsOf e = sz τ) (hE : OpE enc P w e τ) (h : DataW.trod enc P w 0 (fun _ => true) true fuel t cs = some x) :
    ∃ (A : Option Addr) (n cap : Nat) (xs : List (El τ)), cs = [.slice A n cap] ∧ xs.length = n ∧ n ≤ maxLen ∧ ∀ g, Ri w NoB (fun _ => False) (.sl g τ xs) (.slice A n cap) := by
  rcases open_slice ht h with ⟨rfl, _⟩ | ⟨a, len, cap, m, n, D, Pl, rfl, _, hl, hm, hmm, _, hi⟩
  · exact ⟨none, 0, 0, [], rfl, rfl, Nat.zero_le _, fun g => .sl g τ [] none 0 0 0 [] (fun h => by simp at h) ⟨Nat.le_refl _, Nat.zero_le _⟩ rfl (fun j u hu => by simp at hu) (fun j x u hx => by simp [flt] at hx)⟩
  · simp only [if_true] at hmm
    have each : ∀ i, i < len → ∃ p : El τ × List Value, F2 (Ri w NoB (fun _ => False)) (cells τ p.1) p.2 ∧ ∀ (j : Nat) u, p.2[j]? = some u → w.cell? (a.add (i * sz τ + j)) = some u := fun i hil => by
      obtain ⟨cs', hc, htr⟩ := hi i (by omega)
      rw [hC] at hc
      obtain ⟨_, hcl, hat⟩ := World.cells?_some hc
      obtain ⟨y, hy⟩ := hE n cs' _ htr
      refine ⟨⟨y, cs'⟩, hy, fun j u hu => ?_⟩
      have hj : j < sz τ := by
        have := (List.getElem?_eq_some_iff.1 hu).1
        rw [← hcl]; exact this
      have := hat j hj
      rw [Go.Deep.add_add] at this
      rw [this]
      exact hu
    obtain ⟨l, hl', hp⟩ := pick_list each
    have hF := segF (w := w) l fun p hp' => by
      obtain ⟨i, hi'⟩ := List.getElem?_of_mem hp'
      exact (hp i p hi').1
    have hn : (l.map (·.1)).length = len := by rw [List.length_map, hl']
    have hsz : ∀ (i : Nat) p, l[i]? = some p → p.2.length = sz τ := fun i p hip => by rw [(hp i p hip).1.1, cells_len]
    refine ⟨some a, len, cap, l.map (·.1), rfl, hn, by omega, fun g => ?_⟩
    rcases Nat.eq_zero_or_pos len with h0 | h0
    · have hx : l.map (·.1) = [] := List.length_eq_zero_iff.1 (by rw [hn, h0])
      rw [hx, h0]
      exact .sl g τ [] (some a) cap 0 0 [] (fun h => by simp at h) ⟨Nat.zero_le _, by omega⟩ rfl (fun j u hu => by simp at hu) (fun j x u hx => by simp [flt] at hx)
    · have q0 := hp 0 l[0] (List.getElem?_eq_getElem (by omega))
      have hs0 := hsz 0 l[0] (List.getElem?_eq_getElem (by omega))
      have q1 := q0.2 0 _ (List.getElem?_eq_getElem (by rw [hs0]; exact sz_pos τ))
      simp only [Nat.zero_mul, Nat.add_zero, Addr.add_zero'] at q1
      obtain ⟨b, o, rfl⟩ := addr_flat q1
      have hcell : ∀ (j : Nat) u, (l.flatMap (·.2))[j]? = some u → w.cell? ⟨b, o + j, none⟩ = some u := fun j u hu => by
        have := seg (Q := fun j u => w.cell? ((⟨b, o, none⟩ : Addr).add j) = some u) (s := sz τ) l 0 (fun i p hip => ⟨hsz i p hip, fun j u hu => by
          rw [Nat.zero_add]; exact (hp i p hip).2 j u hu⟩) j u hu
        rw [Nat.zero_mul, Nat.zero_add, Addr.add_lit] at this
        exact this
      have := Ri.sl (w := w) (E := NoB) (X := fun _ => False) g τ (l.map (·.1)) (some ⟨b, o, none⟩) cap b o (l.flatMap (·.2)) (fun _ => ⟨rfl, cell_lt' q1, noB b, fun _ h => h⟩) ⟨by rw [hn]; exact hl, hm⟩ hF.1 hcell (fun j x u hx hu => hF.2 j x u hx hu)
      rwa [hn] at this
theorem opE_ints3 {τ : Ty} {e : TypeId} {f0 f1 f2 : Field} (f : Int → Int → Int → El τ) (hf : ∀ a b c, cells τ (f a b c) = [iI a, iI b, iI c]) (he : P.underlying e = some (.struct #[f0, f1, f2])) (hC : P.cellsOf e = 3) (hone : oneCellFields P #[f0, f1, f2] = true)
    (h0 : P.underlying f0.type = some (.int .i64)) (h1 : P.underlying f1.type = some (.int .i64)) (h2 : P.underlying f2.type = some (.int .i64)) : OpE enc P w e τ := fun fuel cs x h => by
  obtain ⟨y0, y1, y2, n', _, hl, g0, g1, g2⟩ := trod_struct3 he h
  obtain ⟨o0, k0⟩ := hone_of hone 0 f0 rfl
  obtain ⟨o1, k1⟩ := hone_of hone 1 f1 rfl
  obtain ⟨o2, k2⟩ := hone_of hone 2 f2 rfl
  rw [o0, k0] at g0
  rw [o1, k1] at g1
  rw [o2, k2] at g2
  obtain ⟨z0, e0, _⟩ := DataW.trod_int h0 g0
  obtain ⟨z1, e1, _⟩ := DataW.trod_int h1 g1
  obtain ⟨z2, e2, _⟩ := DataW.trod_int h2 g2
  rw [hC] at hl
  match cs, hl with
  | [c0, c1, c2], _ =>
    simp at e0 e1 e2
    subst e0 e1 e2
    exact ⟨f z0 z1 z2, by rw [hf]; exact F2.cons (.s _) (F2.cons (.s _) (F2.cons (.s _) F2.nil))⟩
end
section
variable {H : Type} {enc : TypeId × Value → H} {W : World} {v : Value} {d : DataW H} {p : List MemPlace}
theorem opE_links : OpE enc Try.prog W 76 .lk := opE_ints3 (fun a b c => (⟨a, b, c⟩ : Lk)) (fun _ _ _ => rfl) Try.underlying76 (by kernel_rfl) (by kernel_rfl) Try.underlying3 Try.underlying3 Try.underlying3
theorem opn_graph {r : Reach} {b0 : Nat} (hv : Value.okWide Try.prog W r b0 24 v) (h : DataW.Trod enc Try.prog W 0 (fun _ => true) true 24 v d p) : ∃ (z : Int) (ls : List Lk), ls.length ≤ maxLen ∧ ∀ g, Opn W v (.agg [.im (iI z), .im (.sl g .lk ls)]) := by
  obtain ⟨v0, v1, y0, y1, n, rfl, _, _, h0, h1⟩ := open_agg2 Try.underlying24 (by kernel_rfl) (by kernel_rfl) hv h
  obtain ⟨z, e0, _⟩ := DataW.trod_int Try.underlying3 h0
  obtain ⟨A, n, cap, ls, e1, hl, hm, hr⟩ := open_sl Try.underlying22 (by kernel_rfl) opE_links h1
  simp at e0 e1
  subst e0 e1
  exact ⟨z, ls, by omega, fun g => ⟨_, rfl, F2.cons (Ri.s _) (F2.cons (by subst hl; exact hr g) F2.nil)⟩⟩
end
end Go.Proofs.Ytknkhdjhongklaa
end
section
namespace Go.Proofs.Ytknkhdjhongklaa
open Go.RowKit

section
variable {w w' : World} {E X : Nat → Prop} {h : List AObj} {β : List (Nat × Nat)}
theorem HeapOk.keepE (hh : HeapOk w E X h β) (hs : w.heap.size ≤ w'.heap.size) (hl : ∀ b, Liv h β b → w'.heap[b]? = w.heap[b]?) (hk : ∀ b, b < w.heap.size → ¬ E b → w'.heap[b]? = w.heap[b]?) : HeapOk w' E X h β := by
  have back : ∀ {k : Nat} {p : Nat × Nat} {σ : Ty} {u : Value}, OccV w' h β k p σ u → OccV w h β k p σ u := fun {k p σ u} ho => by
    have ho' := ho
    obtain ⟨t, τ, xs, b, c, us, junk, z1, z2, z3, _⟩ := ho'
    exact occ_back hh z1 z1 (fun _ h => h) (fun b' c' h1 h2 h3 => hl b' ⟨k, _, c', z1, h3, h1⟩) hk ho
  have backO : ∀ {k : Nat} {p : Nat × Nat} {n : Nat}, Occ w' h β k p n → Occ w h β k p n := fun {k p n} ⟨σ, u, h1, h2⟩ => ⟨σ, u, back h1, h2⟩
  exact ⟨hh.len, hh.sub, hh.nx, fun k o hk' => (hh.ok k o hk').keep (fun b c h1 h2 => hl b ⟨k, o, c, hk', h2, h1⟩) hk hs (fun _ _ h => h) (Hle.refl _) (fun _ _ h => h), hh.inj, fun k p k' p' n h1 h2 => hh.uq k p k' p' n (backO h1) (backO h2), fun k p σ u n h1 h2 => by
    have h3 := back h1
    have h4 := occ_at hh.ok h3 h2
    exact (hh.pl k p σ u n h3 h2).keep h2 (hk n h4.1 h4.2)⟩
def plainO : AObj → Bool
  | .dead => true
  | .row _ τ _ => τ.flat || τ.u
  | _ => false
theorem flat_ri {E' : Nat → Prop} {τ : Ty} (hf : τ.flat = true) {xs : List (El τ)} : ∀ x ∈ flt τ xs, ∀ u, Ri w E X x u → Ri w E' (fun _ => False) x u := fun x hx u hr => by
  have h1 := flt_good (gv := true) τ xs (fun _ => hf) x hx
  cases h1 with
  | s v => cases hr; exact .s _
  | nil => cases hr; exact .nil _
  | sl _ _ h => cases h
theorem en_ri {E' : Nat → Prop} {ys : List (El .en)} {u : Value} (hr : Ri w E X (.sl true .en ys) u) (hn : ∀ n, SlV u n → ¬ E' n) : Ri w E' (fun _ => False) (.sl true .en ys) u := by
  cases hr with
  | sl _ _ _ A cap b o us hA hcap hl hc hr =>
    exact .sl true .en ys A cap b o us (fun h => ⟨(hA h).1, (hA h).2.1, hn b ⟨o, _, _, by rw [(hA h).1], h⟩, fun _ => id⟩) hcap hl hc (fun j x u hx hu => flat_ri rfl x (List.mem_of_getElem? hx) u (hr j x u hx hu))
theorem flt_pos (τ : Ty) (hu : τ.u = true ∨ τ = .ls) (xs : List (El τ)) (i : Nat) (σ : Ty) (ys : List (El σ)) (hx : (flt τ xs)[i]? = some (.sl true σ ys)) : i % sz τ = (if τ.u = true then nst τ else 2) ∧ ((τ = .udb ∧ σ = .ls) ∨ (τ ≠ .udb ∧ σ = .en)) := by
  have hil : i < (flt τ xs).length := (List.getElem?_eq_some_iff.1 hx).1
  rw [flt_len] at hil
  have hz := sz_pos τ
  have hq : i / sz τ < xs.length := by
    apply Nat.div_lt_of_lt_mul; rw [Nat.mul_comm]; exact hil
  have hf := flt_at τ xs (i / sz τ) _ (at_get τ xs (i / sz τ) hq)
  have hm := Nat.mod_lt i hz
  have h9 : (cells τ (at! τ xs (i / sz τ)))[i % sz τ]? = some (.sl true σ ys) := by
    rw [← hf, List.getElem?_take, if_pos hm, List.getElem?_drop]
    rw [show i / sz τ * sz τ + i % sz τ = i by rw [Nat.mul_comm]; exact Nat.div_add_mod i (sz τ)]
    exact hx
  generalize at! τ xs (i / sz τ) = z at h9
  generalize i % sz τ = r at *
  cases τ <;> simp [Ty.u] at hu <;> simp only [cells] at h9 <;> simp only [sz] at hm
  · match r, hm, h9 with
    | 0, _, h9 => simp [iI] at h9
    | 1, _, h9 => simp [iI] at h9
    | 2, _, h9 => simp at h9; exact ⟨rfl, .inr ⟨by simp, h9.1.symm⟩⟩
  · match r, hm, h9 with
    | 0, _, h9 => simp [iI] at h9
    | 1, _, h9 => simp [iI] at h9
    | 2, _, h9 => simp at h9; exact ⟨rfl, .inr ⟨by simp, h9.1.symm⟩⟩
  · match r, hm, h9 with
    | 0, _, h9 => simp at h9; exact ⟨rfl, .inl ⟨rfl, h9.1.symm⟩⟩
  · match r, hm, h9 with
    | 0, _, h9 => simp [iI] at h9
    | 1, _, h9 => simp [iI] at h9
    | 2, _, h9 => simp [iI] at h9
    | 3, _, h9 => simp at h9; exact ⟨rfl, .inr ⟨by simp, h9.1.symm⟩⟩
theorem HeapOk.up {E' : Nat → Prop} (hh : HeapOk w (Liv h β) X h β) (hp : ∀ o ∈ h, plainO o = true) (hsub : ∀ b, Liv h β b → E' b) (hO : ∀ k p n, Occ w h β k p n → ¬ E' n) : HeapOk w E' (fun _ => False) h β := by
  refine ⟨hh.len, hsub, fun _ _ h => h, fun k o hk => ?_, hh.inj, hh.uq, hh.pl⟩
  have ho := hh.ok k o hk
  have hpo := hp o (List.mem_of_getElem? hk)
  cases o with
  | dead => trivial
  | vrow t τ => cases hpo
  | box t cs => cases hpo
  | row t τ xs =>
    obtain ⟨b, c, h1, h2, h3, h4⟩ := ho
    refine ⟨b, c, h1, h2, h3, fun hc => ?_⟩
    obtain ⟨us, junk, h5, h6, h7, h8⟩ := h4 hc
    refine ⟨us, junk, h5, ⟨h6.1, fun i x u hx hu => ?_⟩, h7, h8⟩
    have hr := h6.2 i x u hx hu
    simp only [plainO, Bool.or_eq_true] at hpo
    rcases hpo with hf | hu'
    · exact flat_ri hf x (List.mem_of_getElem? hx) u hr
    · have hul : us.length = xs.length * sz τ := by rw [h6.1, flt_len]
      have hocc : i % sz τ = nst τ → OccV w h β k (i, 0) (subT τ) u := fun hm => ⟨t, τ, xs, b, c, us, junk, hk, h1, hc, h5, hul, .inl ⟨hu', rfl, hu, rfl, hm⟩⟩
      rcases flt_s τ (.inl hu') xs x (List.mem_of_getElem? hx) with ⟨z, rfl⟩ | ⟨σ, ys, rfl, _⟩
      · cases hr; exact .s _
      · obtain ⟨hm, hk2⟩ := flt_pos τ (.inl hu') xs i σ ys hx
        have hm : i % sz τ = nst τ := by
          rw [hm, if_pos hu']
        have hno : ∀ n, SlV u n → ¬ E' n := fun n hs => hO k (i, 0) n ⟨_, u, hocc hm, hs⟩
        rcases hk2 with ⟨rfl, rfl⟩ | ⟨_, rfl⟩
        · cases hr with
          | sl _ _ _ A cap b1 o1 us1 hA hcap hl hcc hrr =>
            refine .sl true .ls ys A cap b1 o1 us1 (fun h => ⟨(hA h).1, (hA h).2.1, hno b1 ⟨o1, _, _, by rw [(hA h).1], h⟩, fun _ => id⟩) hcap hl hcc (fun j x u2 hx2 hu2 => ?_)
            have hr2 := hrr j x u2 hx2 hu2
            have hpos : 0 < ys.length := by
              have := (List.getElem?_eq_some_iff.1 hx2).1
              rw [flt_len] at this
              rcases Nat.eq_zero_or_pos ys.length with e | e
              · rw [e] at this; simp at this
              · exact e
            rcases flt_s .ls (.inr rfl) ys x (List.mem_of_getElem? hx2) with ⟨z, rfl⟩ | ⟨σ, zs, rfl, _⟩
            · cases hr2; exact .s _
            · obtain ⟨hm2, hk3⟩ := flt_pos .ls (.inr rfl) ys j σ zs hx2
              rcases hk3 with ⟨e, _⟩ | ⟨_, rfl⟩
              · cases e
              · have hj : j < ys.length * 3 := by
                  have := (List.getElem?_eq_some_iff.1 hx2).1
                  rw [flt_len] at this; exact this
                rw [(hA hpos).1] at hu
                exact en_ri hr2 fun n hs => hO k (i, j + 1) n ⟨.en, u2, ⟨t, .udb, xs, b, c, us, junk, hk, h1, hc, h5, hul, .inr ⟨rfl, rfl, b1, o1, ys.length, cap, j, hu, rfl, hj, hm2, hcc j u2 hu2⟩⟩, hs⟩
        · exact en_ri hr hno
end
end Go.Proofs.Ytknkhdjhongklaa
end
section
namespace Go.Proofs.Ytknkhdjhongklaa
open Go.RowKit

section
variable {w w' : World} {E E' X : Nat → Prop} {h : List AObj} {β : List (Nat × Nat)}
structure UR (w : World) (E : Nat → Prop) (t : TypeId) (τ : Ty) (xs : List (El τ)) (b c : Nat) (u : Value) : Prop where
  heap : HeapOk w E (fun _ => False) [.row t τ xs] [(b, c)]
  val : C1 w E (fun _ => False) [.row t τ xs] [(b, c)] (.own 0) u
structure Chg (w w' : World) (S : Nat → Prop) : Prop where
  os : w'.os = w.os
  tape : w'.tape = w.tape
  output : w'.output = w.output
  size : w.heap.size ≤ w'.heap.size
  block : ∀ n, n < w.heap.size → ¬ S n → w'.heap[n]? = w.heap[n]?
theorem Chg.refl (w : World) (S : Nat → Prop) : Chg w w S := ⟨rfl, rfl, rfl, Nat.le_refl _, fun _ _ _ => rfl⟩
theorem Chg.trans {w'' : World} {S : Nat → Prop} (a : Chg w w' S) (b : Chg w' w'' S) : Chg w w'' S := ⟨b.os.trans a.os, b.tape.trans a.tape, b.output.trans a.output, Nat.le_trans a.size b.size, fun n hn h => (b.block n (Nat.lt_of_lt_of_le hn a.size) h).trans (a.block n hn h)⟩
theorem Chg.mono {S S' : Nat → Prop} (a : Chg w w' S) (h : ∀ n, n < w.heap.size → S n → S' n) : Chg w w' S' := ⟨a.os, a.tape, a.output, a.size, fun n hn hs => a.block n hn fun h' => hs (h n hn h')⟩
theorem HeapOk.down (hh : HeapOk w E X h β) (hE : ∀ b, E' b → E b) (hs : ∀ b, Liv h β b → E' b) : HeapOk w E' X h β :=
  ⟨hh.len, hs, hh.nx, fun k o hk => (hh.ok k o hk).keep (fun _ _ _ _ => rfl) (fun _ _ _ => rfl) (Nat.le_refl _) (fun b _ hn h => hn (hE b h)) (Hle.refl _) (fun _ _ h => h), hh.inj, hh.uq, hh.pl⟩
theorem en_keep {ys : List (El .en)} {u : Value} (hr : Ri w E X (.sl true .en ys) u) (hs : w.heap.size ≤ w'.heap.size) (hk : ∀ n, SlV u n → w'.heap[n]? = w.heap[n]?) : Ri w' E X (.sl true .en ys) u := by
  cases hr with
  | sl _ _ _ A cap b o us hA hcap hl hc hr =>
    refine .sl true .en ys A cap b o us (fun h => ⟨(hA h).1, Nat.lt_of_lt_of_le (hA h).2.1 hs, (hA h).2.2⟩) hcap hl (fun j u hu => ?_) (fun j x u hx hu => ?_)
    · have hp : 0 < ys.length := by
        have := (List.getElem?_eq_some_iff.1 hu).1
        rw [hl, flt_len] at this
        rcases Nat.eq_zero_or_pos ys.length with e | e
        · rw [e] at this; simp at this
        · exact e
      exact (World.cell?_of_block (a := ⟨b, o + j, none⟩) (hk b ⟨o, _, _, by rw [(hA hp).1], hp⟩)).trans (hc j u hu)
    · have h1 := flt_good (gv := true) .en ys (fun _ => rfl) x (List.mem_of_getElem? hx)
      have := hr j x u hx hu
      cases h1 with
      | s v => cases this; exact .s _
      | nil => cases this; exact .nil _
      | sl _ _ h => cases h
theorem ri_empty {g : Bool} {τ : Ty} {u : Value} (hr : Ri w E X (.sl g τ []) u) : ∃ A c, u = .slice A 0 c ∧ ∀ n, ¬ SlV u n := by
  cases hr with
  | sl _ _ _ A cap b o us hA hcap hl hc hr => exact ⟨A, cap, rfl, fun n ⟨_, _, _, e, h⟩ => by injection e with _ e; simp at e; omega⟩
theorem ri_block {g : Bool} {τ : Ty} {xs : List (El τ)} {u : Value} (hr : Ri w E X (.sl g τ xs) u) (hp : 0 < xs.length) : ∃ n, SlV u n := by
  cases hr with
  | sl _ _ _ A cap b o us hA hcap hl hc hr => exact ⟨b, o, _, _, by rw [(hA hp).1], hp⟩
theorem out_en {ys : List (El .en)} {u : Value} {n : Nat} (hr : Ri w E X (.sl true .en ys) u) (hp : Pln w .en u) (hs : SlV u n) : ∃ c, 0 < c ∧ UR w (fun x => x = n) (tyT .en) .en ys n c u := by
  obtain ⟨m, len, c, cs, rfl, h1, h2, h3⟩ := hp
  obtain ⟨o, len', c', e, hl⟩ := hs
  injection e with e e2 e3
  injection e with e
  injection e with e1 e4
  subst e1 e2 e3 e4
  cases hr with
  | sl _ _ _ A cap b o us hA hcap hl' hc hr =>
  obtain ⟨e, hb, _⟩ := hA hl
  injection e with e
  injection e with e1 e2
  subst e1 e2
  obtain ⟨l, rfl⟩ : ∃ l : List Value, cs = l.toArray := ⟨cs.toList, by simp⟩
  have hcs : l.length = c * 2 := by simpa [sz] using h2
  have hul : us.length = ys.length * 2 := by rw [hl', flt_len]; rfl
  have hc0 : 0 < c := by omega
  have e1 : us = l.take us.length := by
    refine List.ext_getElem? fun j => ?_
    rcases Nat.lt_or_ge j us.length with hj | hj
    · have h5 := hc j _ (List.getElem?_eq_getElem hj)
      rw [Nat.zero_add, cell_of_row w m j l.toArray (tyT .en) (0, 0) h1, List.getElem?_toArray] at h5
      rw [List.getElem?_take, if_pos hj, h5, List.getElem?_eq_getElem hj]
    · rw [List.getElem?_eq_none hj, List.getElem?_eq_none (by rw [List.length_take]; omega)]
  have e2 : us ++ l.drop us.length = l := by
    have := List.take_append_drop us.length l
    rwa [← e1] at this
  have hF : ∀ {E2 X2 : Nat → Prop}, F2 (Ri w E2 X2) (flt .en ys) us := ⟨hl', fun j x u hx hu => by
    have h1 := flt_good (gv := true) .en ys (fun _ => rfl) x (List.mem_of_getElem? hx)
    have := hr j x u hx hu
    cases h1 with
    | s v => cases this; exact .s _
    | nil => cases this; exact .nil _
    | sl _ _ h => cases h⟩
  have one : ∀ {k : Nat} {o : AObj}, [AObj.row (tyT .en) .en ys][k]? = some o → k = 0 ∧ o = .row (tyT .en) .en ys := fun {k o} hk => by
    cases k with
    | zero => simp at hk; exact ⟨rfl, hk.symm⟩
    | succ k => simp at hk
  have noocc : ∀ {k : Nat} {p : Nat × Nat} {σ : Ty} {v : Value}, ¬ OccV w [AObj.row (tyT .en) .en ys] [(m, c)] k p σ v := fun {k p σ v} ⟨t, τ, xs, b, c1, us1, junk, z1, _, _, _, _, z6⟩ => by
    obtain ⟨_, e⟩ := one z1
    injection e with _ e
    subst e
    rcases z6 with ⟨z, _⟩ | ⟨z, _⟩ <;> cases z
  refine ⟨c, hc0, ⟨rfl, fun b hb => ?_, fun _ _ h => h, fun k o hk => ?_, fun j k o o' b c1 c2 hj hk _ _ _ _ => ?_, fun k p k' p' n ⟨_, _, z, _⟩ => (noocc z).elim, fun k p σ u n z => (noocc z).elim⟩, by simp, by simp [isV], ⟨_, _, _, rfl⟩, fun t τ xs hx => ?_⟩
  · obtain ⟨k, o, c1, z1, z2, z3⟩ := hb
    obtain ⟨rfl, rfl⟩ := one z1
    simp at z3
    exact z3.1.symm
  · obtain ⟨rfl, rfl⟩ := one hk
    exact ⟨m, c, rfl, fun h => by omega, hcap.2, fun _ => ⟨us, l.drop us.length, by rw [e2]; exact h1, hF, flt_one (E := fun _ => False) (X := fun _ => False) hF, by rw [e2, hcs]; rfl⟩⟩
  · rw [(one hj).1, (one hk).1]
  · obtain ⟨_, e⟩ := one hx
    cases e
    exact ⟨m, c, _, rfl, rfl, fun _ => rfl, fun _ => trivial⟩
theorem one_row {t : TypeId} {τ : Ty} {xs : List (El τ)} {k : Nat} {o : AObj} (hk : [AObj.row t τ xs][k]? = some o) : k = 0 ∧ o = .row t τ xs := by
  cases k with
  | zero => simp at hk; exact ⟨rfl, hk.symm⟩
  | succ k => simp at hk
theorem liv_one {t : TypeId} {τ : Ty} {xs ys : List (El τ)} {b c n : Nat} (h : Liv [.row t τ xs] [(b, c)] n) : Liv [.row t τ ys] [(b, c)] n := by
  obtain ⟨k, o, c1, z1, z2, z3⟩ := h
  obtain ⟨rfl, rfl⟩ := one_row z1
  exact ⟨0, _, c1, rfl, z2, z3⟩
section
variable {t : TypeId} {τ : Ty} {xs xs' : List (El τ)} {b c : Nat} {u : Value}
theorem UR.liv (H : UR w E t τ xs b c u) (hc : 0 < c) : E b ∧ b < w.heap.size := ⟨H.heap.sub b ⟨0, _, c, rfl, hc, rfl⟩, Liv.lt H.heap ⟨0, _, c, rfl, hc, rfl⟩⟩
theorem UR.cells (H : UR w E t τ xs b c u) : (c = 0 → xs = []) ∧ c ≤ maxLen ∧ (0 < c → ∃ us junk, w.heap[b]? = some (.cells (us ++ junk).toArray t (0, 0)) ∧ F2 (Ri w E (fun _ => False)) (flt τ xs) us ∧ (∀ u ∈ us, u.oneCell' = true) ∧ (us ++ junk).length = c * sz τ) ∧ ∃ A, u = .slice A xs.length c ∧ (0 < c → A = some ⟨b, 0, none⟩) := by
  obtain ⟨b', c', h1, h2, h3, h4⟩ := H.heap.ok 0 _ rfl
  obtain ⟨rfl, rfl⟩ : b = b' ∧ c = c' := by simpa using h1
  obtain ⟨_, _, _, h5⟩ := H.val
  obtain ⟨b1, c1, A, q1, q2, q3, _⟩ := h5 t τ xs rfl
  obtain ⟨rfl, rfl⟩ : b = b1 ∧ c = c1 := by simpa using q1
  exact ⟨h2, h3, h4, A, q2, q3⟩
theorem en_of_own {ys : List (El .en)} {n : Nat} {v : Value} {E2 X2 : Nat → Prop} (H : UR w E t .en ys n c v) (hn : 0 < c → ¬ E2 n ∧ ¬ X2 n) : Ri w E2 X2 (.sl true .en ys) v := by
  obtain ⟨h1, h2, h3, A, rfl, h4⟩ := H.cells
  rcases Nat.eq_zero_or_pos c with hc | hc
  · have := h1 hc
    subst this hc
    exact ri_nil (A := A) .en
  · obtain ⟨us, junk, q1, q2, q3, q4⟩ := h3 hc
    have hle : ys.length ≤ c := by
      have : ys.length * sz .en ≤ c * sz .en := by rw [← q4, ← flt_len, ← q2.1]; simp
      exact Nat.le_of_mul_le_mul_right this (sz_pos _)
    refine .sl true .en ys A c n 0 us (fun _ => ⟨h4 hc, (H.liv hc).2, (hn hc).1, fun _ => (hn hc).2⟩) ⟨hle, h2⟩ q2.1 (fun j u hu => by rw [Nat.zero_add]; exact obj_cell q1 hu) (fun j x u hx hu => ?_)
    have g1 := flt_good (gv := true) .en ys (fun _ => rfl) x (List.mem_of_getElem? hx)
    have := q2.2 j x u hx hu
    cases g1 with
    | s v => cases this; exact .s _
    | nil => cases this; exact .nil _
    | sl _ _ h => cases h
theorem pln_of_own {σ : Ty} {ys : List (El σ)} {n : Nat} {v : Value} (H : UR w E (tyT σ) σ ys n c v) (hc : 0 < c) : Pln w σ v := by
  obtain ⟨h1, h2, h3, A, rfl, h4⟩ := H.cells
  obtain ⟨us, junk, q1, q2, q3, q4⟩ := h3 hc
  have hle : ys.length ≤ c := by
    have : ys.length * sz σ ≤ c * sz σ := by rw [← q4, ← flt_len, ← q2.1]; simp
    exact Nat.le_of_mul_le_mul_right this (sz_pos _)
  exact ⟨n, _, c, _, by rw [h4 hc], q1, by simpa using q4, hle⟩
theorem occ_cells {us junk us' junk' : List Value} (hb : w.heap[b]? = some (.cells (us ++ junk).toArray t (0, 0))) (hb' : w'.heap[b]? = some (.cells (us' ++ junk').toArray t (0, 0))) (hl : us.length = xs.length * sz τ) (hl' : us'.length = xs'.length * sz τ) (hx : xs'.length = xs.length) (hτ : τ ≠ .udb) (hs : ∀ i, i % sz τ = nst τ → us'[i]? = us[i]?) {k : Nat} {p : Nat × Nat} {σ : Ty} {v : Value} (ho : OccV w' [.row t τ xs'] [(b, c)] k p σ v) : OccV w [.row t τ xs] [(b, c)] k p σ v := by
  obtain ⟨t1, τ1, ys, b1, c1, us1, junk1, z1, z2, z3, z4, z5, z6⟩ := ho
  obtain ⟨rfl, e⟩ := one_row z1
  have e := e.symm
  injection e with e1 e2 e3
  subst e1 e2
  have e3 := eq_of_heq e3
  subst e3
  obtain ⟨rfl, rfl⟩ : b = b1 ∧ c = c1 := by simpa using z2
  rw [hb'] at z4
  injection z4 with z4; injection z4 with e1
  have e1 := congrArg Array.toList e1
  simp only [List.toList_toArray] at e1
  obtain rfl := app_inj e1 (by rw [hl', z5])
  rcases z6 with ⟨g1, g2, g3, g4, g5⟩ | ⟨g1, _⟩
  · exact ⟨_, τ, xs, b, c, us, junk, rfl, rfl, z3, hb, hl, .inl ⟨g1, g2, by rw [← hs _ g5]; exact g3, g4, g5⟩⟩
  · exact absurd g1 hτ
theorem back_en (H : UR w E t τ xs b c u) (hu : τ.u = true) (hτ : τ ≠ .udb) {q n c1 : Nat} {v : Value} {ys ys' : List (El .en)} (ho : OccV w [.row t τ xs] [(b, c)] 0 (q, 0) .en v) (hs : SlV v n) (hC : Chg w w' (· = n)) (H' : UR w' (· = n) (tyT .en) .en ys' n c1 v) (hc1 : 0 < c1) (hx : flt τ xs' = (flt τ xs).set q (.sl true .en ys')) (hlen : xs'.length = xs.length) : UR w' E t τ xs' b c u ∧ ∀ k p σ v', OccV w' [.row t τ xs'] [(b, c)] k p σ v' → OccV w [.row t τ xs] [(b, c)] k p σ v' := by
  have hn := occ_at H.heap.ok ho hs
  obtain ⟨t1, τ1, zs, b1, c2, us1, junk1, z1, z2, z3, z4, z5, z6⟩ := ho
  obtain ⟨_, e⟩ := one_row z1
  have e := e.symm
  injection e with e1 e2 e3
  subst e1 e2
  have e3 := eq_of_heq e3
  subst e3
  obtain ⟨rfl, rfl⟩ : b = b1 ∧ c = c2 := by simpa using z2
  have hE := H.liv z3
  have hbn : b ≠ n := by rintro rfl; exact hn.2 hE.1
  have hb := hC.block b hE.2 hbn
  obtain ⟨h1, h2, h3, A, rfl, h4⟩ := H.cells
  obtain ⟨us, junk, q1, q2, q3, q4⟩ := h3 z3
  have hul : us.length = xs.length * sz τ := by rw [q2.1, flt_len]
  have hq : us[q]? = some v ∧ q % sz τ = nst τ := by
    rw [q1] at z4
    injection z4 with z4; injection z4 with e1
    have e1 := congrArg Array.toList e1
    simp only [List.toList_toArray] at e1
    obtain rfl := app_inj e1 (by rw [hul, z5])
    rcases z6 with ⟨_, _, g3, _, g5⟩ | ⟨g1, _⟩
    · exact ⟨g3, g5⟩
    · exact absurd g1 hτ
  have occ : ∀ {k : Nat} {p : Nat × Nat} {σ : Ty} {v' : Value}, OccV w' [.row t τ xs'] [(b, c)] k p σ v' → OccV w [.row t τ xs] [(b, c)] k p σ v' := fun h => occ_cells q1 (by rw [hb]; exact q1) hul (by rw [hul, hlen]) hlen hτ (fun _ _ => rfl) h
  have place : ∀ {j : Nat} {v' : Value}, us[j]? = some v' → j % sz τ = nst τ → OccV w [.row t τ xs] [(b, c)] 0 (j, 0) .en v' := fun {j v'} h5 h6 => ⟨_, τ, xs, b, c, us, junk, rfl, rfl, z3, q1, hul, .inl ⟨hu, rfl, h5, by cases τ <;> first | rfl | (exact absurd rfl hτ), h6⟩⟩
  have hql : q < (flt τ xs).length := by rw [← q2.1]; exact (List.getElem?_eq_some_iff.1 hq.1).1
  refine ⟨⟨⟨rfl, fun n h => H.heap.sub n (liv_one h), fun _ _ h => h, fun k o hk => ?_, fun j k o o' b1 c2 c3 hj hk _ _ _ _ => by rw [(one_row hj).1, (one_row hk).1], fun k p k' p' m ⟨σ, v1, y1, y2⟩ ⟨σ', v2, y3, y4⟩ => H.heap.uq k p k' p' m ⟨σ, v1, occ y1, y2⟩ ⟨σ', v2, occ y3, y4⟩, fun k p σ v1 m y1 y2 => ?_⟩, by simp, by simp [isV], ⟨_, _, _, rfl⟩, fun t2 τ2 ws hw => ?_⟩, fun _ _ _ _ => occ⟩
  · obtain ⟨rfl, rfl⟩ := one_row hk
    refine ⟨b, c, rfl, fun h => by omega, h2, fun _ => ⟨us, junk, by rw [hb]; exact q1, ⟨by rw [hx, List.length_set]; exact q2.1, fun j x u1 hx1 hu1 => ?_⟩, q3, q4⟩⟩
    rw [hx, List.getElem?_set] at hx1
    by_cases e : q = j
    · subst e
      rw [if_pos rfl, if_pos hql] at hx1
      injection hx1 with hx1
      subst hx1
      obtain rfl : v = u1 := by rw [hq.1] at hu1; injection hu1
      exact en_of_own H' fun _ => ⟨hn.2, fun h => h⟩
    · rw [if_neg e] at hx1
      have hr := q2.2 j x u1 hx1 hu1
      rcases flt_s τ (.inl hu) xs x (List.mem_of_getElem? hx1) with ⟨z, rfl⟩ | ⟨σ, ws, rfl, _⟩
      · cases hr; exact .s _
      · obtain ⟨g1, g2⟩ := flt_pos τ (.inl hu) xs j σ ws hx1
        rw [if_pos hu] at g1
        rcases g2 with ⟨g2, _⟩ | ⟨_, rfl⟩
        · exact absurd g2 hτ
        · refine en_keep hr hC.size fun m hm => ?_
          have hm2 := occ_at H.heap.ok (place hu1 g1) hm
          refine hC.block m hm2.1 fun e2 => e ?_
          subst e2
          have := (H.heap.uq 0 (q, 0) 0 (j, 0) m ⟨_, _, place hq.1 hq.2, hs⟩ ⟨_, _, place hu1 g1, hm⟩).2
          exact (Prod.mk.inj this).1
  · by_cases e : m = n
    · subst e
      have := (H.heap.uq k p 0 (q, 0) m ⟨σ, v1, occ y1, y2⟩ ⟨_, _, place hq.1 hq.2, hs⟩)
      obtain ⟨rfl, rfl⟩ := this
      have hv : v1 = v ∧ σ = .en := by
        obtain ⟨t1, τ1, zs, b1, c2, us1, junk1, y1a, y1b, y1c, y1d, y1e, y1f⟩ := occ y1
        obtain ⟨_, e⟩ := one_row y1a
        have e := e.symm
        injection e with e1 e2 e3
        subst e1 e2
        have e3 := eq_of_heq e3
        subst e3
        obtain ⟨rfl, rfl⟩ : b = b1 ∧ c = c2 := by simpa using y1b
        rw [q1] at y1d
        injection y1d with y1d; injection y1d with e1
        have e1 := congrArg Array.toList e1
        simp only [List.toList_toArray] at e1
        obtain rfl := app_inj e1 (by rw [hul, y1e])
        rcases y1f with ⟨_, _, g3, g4, _⟩ | ⟨g1, _⟩
        · rw [hq.1] at g3
          injection g3 with g3
          exact ⟨g3.symm, by rw [g4]; cases τ <;> first | rfl | (exact absurd rfl hτ)⟩
        · exact absurd g1 hτ
      obtain ⟨rfl, rfl⟩ := hv
      exact pln_of_own H' hc1
    · have hm := occ_at H.heap.ok (occ y1) y2
      exact (H.heap.pl k p σ v1 m (occ y1) y2).keep y2 (hC.block m hm.1 e)
  · obtain ⟨_, e⟩ := one_row hw
    have e := e.symm
    injection e with e1 e2 e3
    subst e1 e2
    have e3 := eq_of_heq e3
    subst e3
    exact ⟨b, c, A, rfl, by rw [hlen], h4, fun _ => trivial⟩
end
end
end Go.Proofs.Ytknkhdjhongklaa
end
section
namespace Go.Proofs.Ytknkhdjhongklaa
open Go.RowKit

section
variable {w w' : World} {E E' X : Nat → Prop} {t : TypeId} {τ : Ty} {xs xs' : List (El τ)} {b c : Nat} {u : Value}
theorem set_arr (us junk : List Value) (q : Nat) (v : Value) (hq : q < us.length) : (us ++ junk).toArray.setIfInBounds q v = (us.set q v ++ junk).toArray := by
  apply Array.toList_inj.1
  simp [List.set_append_left _ _ hq]
theorem set_int (H : UR w E t τ xs b c u) (hτ : τ ≠ .udb) {q : Nat} {z : Int} (hq : q < (flt τ xs).length) (hm : τ.u = true → q % sz τ ≠ nst τ) (hx : flt τ xs' = (flt τ xs).set q (iI z)) (hlen : xs'.length = xs.length) : UR (w.setCell ⟨b, q, none⟩ (.int .i64 z)) E t τ xs' b c u ∧ Chg w (w.setCell ⟨b, q, none⟩ (.int .i64 z)) (· = b) ∧ ∀ k p σ v', OccV (w.setCell ⟨b, q, none⟩ (.int .i64 z)) [.row t τ xs'] [(b, c)] k p σ v' → OccV w [.row t τ xs] [(b, c)] k p σ v' := by
  obtain ⟨h1, h2, h3, A, rfl, h4⟩ := H.cells
  have hc : 0 < c := by
    rcases Nat.eq_zero_or_pos c with e | e
    · have := h1 e
      subst this
      simp [flt] at hq
    · exact e
  have hE := H.liv hc
  obtain ⟨us, junk, q1, q2, q3, q4⟩ := h3 hc
  have hul : us.length = xs.length * sz τ := by rw [q2.1, flt_len]
  have hqu : q < us.length := by rw [q2.1]; exact hq
  have hb : (w.setCell ⟨b, q, none⟩ (.int .i64 z)).heap[b]? = some (.cells (us.set q (.int .i64 z) ++ junk).toArray t (0, 0)) := by
    have := Blk.set_ (w := w) (g := b) (t := t) (cs := (us ++ junk).toArray) q1 q (.int .i64 z)
    rw [set_arr _ _ _ _ hqu] at this
    exact this
  have hoth : ∀ n, n ≠ b → (w.setCell ⟨b, q, none⟩ (.int .i64 z)).heap[n]? = w.heap[n]? := fun n hn => Below.heap_setCell w ⟨b, q, none⟩ _ n hn
  have hsz : (w.setCell ⟨b, q, none⟩ (.int .i64 z)).heap.size = w.heap.size := by simp [World.setCell]
  have occ : ∀ {k : Nat} {p : Nat × Nat} {σ : Ty} {v' : Value}, OccV (w.setCell ⟨b, q, none⟩ (.int .i64 z)) [.row t τ xs'] [(b, c)] k p σ v' → OccV w [.row t τ xs] [(b, c)] k p σ v' := fun {k p σ v'} h => by
    cases hu : τ.u with
    | false =>
      obtain ⟨t1, τ1, ys, b1, c1, us1, junk1, z1, z2, z3, z4, z5, z6⟩ := h
      obtain ⟨_, e⟩ := one_row z1
      have e := e.symm
      injection e with e1 e2 e3
      subst e1 e2
      rcases z6 with ⟨z, _⟩ | ⟨rfl, _⟩
      · rw [hu] at z; cases z
      · cases hu
    | true =>
      refine occ_cells q1 hb hul (by rw [List.length_set, hul, hlen]) hlen hτ (fun i hi => ?_) h
      rw [List.getElem?_set, if_neg]
      rintro rfl
      exact hm hu hi
  refine ⟨⟨⟨rfl, fun n h => H.heap.sub n (liv_one h), fun _ _ h => h, fun k o hk => ?_, fun j k o o' b1 c2 c3 hj hk _ _ _ _ => by rw [(one_row hj).1, (one_row hk).1], fun k p k' p' m ⟨σ, v1, y1, y2⟩ ⟨σ', v2, y3, y4⟩ => H.heap.uq k p k' p' m ⟨σ, v1, occ y1, y2⟩ ⟨σ', v2, occ y3, y4⟩, fun k p σ v1 m y1 y2 => ?_⟩, by simp, by simp [isV], ⟨_, _, _, rfl⟩, fun t2 τ2 ws hw => ?_⟩, ⟨rfl, rfl, rfl, by rw [hsz]; exact Nat.le_refl _, fun n _ hn => hoth n hn⟩, fun _ _ _ _ => occ⟩
  · obtain ⟨rfl, rfl⟩ := one_row hk
    refine ⟨b, c, rfl, fun h => by omega, h2, fun _ => ⟨us.set q (.int .i64 z), junk, hb, ⟨by rw [hx, List.length_set, List.length_set]; exact q2.1, fun j x u1 hx1 hu1 => ?_⟩, fun u1 hu1 => ?_, by rw [List.length_append, List.length_set, ← List.length_append]; exact q4⟩⟩
    · rw [hx, List.getElem?_set] at hx1
      rw [List.getElem?_set] at hu1
      by_cases e : q = j
      · subst e
        rw [if_pos rfl, if_pos hq] at hx1
        rw [if_pos rfl, if_pos hqu] at hu1
        injection hx1 with hx1
        injection hu1 with hu1
        subst hx1 hu1
        exact Ri.s _
      · rw [if_neg e] at hx1 hu1
        exact (q2.2 j x u1 hx1 hu1).keep (fun m _ hm => hoth m fun e2 => hm (e2 ▸ hE.1)) (by rw [hsz]; exact Nat.le_refl _) (fun _ _ h => h) (fun _ _ _ h => h)
    · rcases List.mem_or_eq_of_mem_set hu1 with h | h
      · exact q3 _ h
      · subst h; rfl
  · have hm := occ_at H.heap.ok (occ y1) y2
    exact (H.heap.pl k p σ v1 m (occ y1) y2).keep y2 (hoth m fun e => hm.2 (e ▸ hE.1))
  · obtain ⟨_, e⟩ := one_row hw
    have e := e.symm
    injection e with e1 e2 e3
    subst e1 e2
    have e3 := eq_of_heq e3
    subst e3
    exact ⟨b, c, A, rfl, by rw [hlen], h4, fun _ => trivial⟩
theorem out_ls {xs : List (El .udb)} (H : UR w E t .udb xs b c u) {q n : Nat} {v : Value} {ys : List Ls} (ho : OccV w [.row t .udb xs] [(b, c)] 0 (q, 0) .uls v) (hs : SlV v n) (hy : xs[q]? = some ys) : ∃ c1, 0 < c1 ∧ UR w (· = n) (tyT .uls) .uls ys n c1 v ∧ ∀ p σ v', OccV w [.row (tyT .uls) .uls ys] [(n, c1)] 0 p σ v' → p.2 = 0 ∧ OccV w [.row t .udb xs] [(b, c)] 0 (q, p.1 + 1) σ v' := by
  have hp := H.heap.pl 0 (q, 0) .uls v n ho hs
  have hn := occ_at H.heap.ok ho hs
  have ho0 := ho
  obtain ⟨t1, τ1, zs, b1, c2, us1, junk1, z1, z2, z3, z4, z5, z6⟩ := ho
  obtain ⟨_, e⟩ := one_row z1
  have e := e.symm
  injection e with e1 e2 e3
  subst e1 e2
  have e3 := eq_of_heq e3
  subst e3
  obtain ⟨rfl, rfl⟩ : b = b1 ∧ c = c2 := by simpa using z2
  obtain ⟨h1, h2, h3, A, rfl, h4⟩ := H.cells
  obtain ⟨us, junk, q1, q2, q3, q4⟩ := h3 z3
  rw [q1] at z4
  injection z4 with z4; injection z4 with e1
  have e1 := congrArg Array.toList e1
  simp only [List.toList_toArray] at e1
  obtain rfl := app_inj e1 (by rw [q2.1, flt_len, z5])
  have hq : us[q]? = some v := by
    rcases z6 with ⟨_, _, g3, _⟩ | ⟨_, g, _⟩
    · exact g3
    · cases g
  have hfl : (flt .udb xs)[q]? = some (.sl true .ls ys) := by
    have e : ∀ (l : List (El .udb)), flt .udb l = l.map fun x => IV.sl true .ls x := fun l => by
      induction l with
      | nil => rfl
      | cons x r ih => rw [flt_cons, ih]; rfl
    rw [e, List.getElem?_map, hy]; rfl
  have hr := q2.2 q _ v hfl hq
  obtain ⟨m, len, c1, cs, rfl, g1, g2, g3⟩ := hp
  obtain ⟨o, len', c', e, hl⟩ := hs
  injection e with e e2 e3
  injection e with e
  injection e with e1 e4
  subst e1 e2 e3 e4
  cases hr with
  | sl _ _ _ A1 cap b1 o1 us2 hA hcap hl' hcc hrr =>
  obtain ⟨e, hb, _⟩ := hA hl
  injection e with e
  injection e with e1 e2
  subst e1 e2
  obtain ⟨l, rfl⟩ : ∃ l : List Value, cs = l.toArray := ⟨cs.toList, by simp⟩
  have hcs : l.length = c1 * 3 := by simpa [sz] using g2
  have hul : us2.length = ys.length * 3 := by rw [hl', flt_len]; rfl
  have hc0 : 0 < c1 := by omega
  have e1 : us2 = l.take us2.length := by
    refine List.ext_getElem? fun j => ?_
    rcases Nat.lt_or_ge j us2.length with hj | hj
    · have h5 := hcc j _ (List.getElem?_eq_getElem hj)
      rw [Nat.zero_add, cell_of_row w m j l.toArray (tyT .uls) (0, 0) g1, List.getElem?_toArray] at h5
      rw [List.getElem?_take, if_pos hj, h5, List.getElem?_eq_getElem hj]
    · rw [List.getElem?_eq_none hj, List.getElem?_eq_none (by rw [List.length_take]; omega)]
  have e2 : us2 ++ l.drop us2.length = l := by
    have := List.take_append_drop us2.length l
    rwa [← e1] at this
  have occ : ∀ {k : Nat} {p : Nat × Nat} {σ : Ty} {v' : Value}, OccV w [.row (tyT .uls) .uls ys] [(m, c1)] k p σ v' → k = 0 ∧ p.2 = 0 ∧ σ = .en ∧ us2[p.1]? = some v' ∧ OccV w [.row t .udb xs] [(b, c)] 0 (q, p.1 + 1) σ v' := fun {k p σ v'} ⟨t1, τ1, ws, b1, c2, us3, junk3, y1, y2, y3, y4, y5, y6⟩ => by
    obtain ⟨rfl, e⟩ := one_row y1
    have e := e.symm
    injection e with e1 e2 e3
    subst e1 e2
    have e3 := eq_of_heq e3
    subst e3
    obtain ⟨rfl, rfl⟩ : m = b1 ∧ c1 = c2 := by simpa using y2
    rw [g1] at y4
    injection y4 with y4; injection y4 with e5
    have e5 := congrArg Array.toList e5
    simp only [List.toList_toArray] at e5
    rw [← e2] at e5
    obtain rfl := app_inj e5 (by rw [hul, y5]; rfl)
    rcases y6 with ⟨_, y7, y8, y9, y10⟩ | ⟨y7, _⟩
    · refine ⟨rfl, y7, y9, y8, t, .udb, xs, b, c, us, junk, rfl, rfl, z3, q1, z5, .inr ⟨rfl, y9, m, 0, ys.length, _, p.1, hq, rfl, ?_, y10, ?_⟩⟩
      · have := (List.getElem?_eq_some_iff.1 y8).1; omega
      · exact hcc p.1 v' y8
    · cases y7
  have hF : F2 (Ri w (· = m) (fun _ => False)) (flt .uls ys) us2 := ⟨hl', fun j x u2 hx hu2 => by
    have hr2 := hrr j x u2 hx hu2
    rcases flt_s .ls (.inr rfl) ys x (List.mem_of_getElem? hx) with ⟨z, rfl⟩ | ⟨σ, ws, rfl, _⟩
    · cases hr2; exact .s _
    · obtain ⟨k1, k2⟩ := flt_pos .ls (.inr rfl) ys j σ ws hx
      rcases k2 with ⟨k2, _⟩ | ⟨_, rfl⟩
      · cases k2
      · refine en_ri hr2 fun n2 hn2 e => ?_
        subst e
        have hj := (List.getElem?_eq_some_iff.1 hu2).1
        have hj3 : j % 3 = 2 := k1
        have := (H.heap.uq 0 (q, 0) 0 (q, j + 1) n2 ⟨_, _, ho0, ⟨0, _, _, rfl, hl⟩⟩ ⟨.en, u2, ⟨t, .udb, xs, b, c, us, junk, rfl, rfl, z3, q1, z5, .inr ⟨rfl, rfl, n2, 0, ys.length, _, j, hq, rfl, by omega, hj3, hcc j u2 hu2⟩⟩, hn2⟩).2
        have := (Prod.mk.inj this).2
        omega⟩
  refine ⟨c1, hc0, ⟨⟨rfl, fun b2 hb2 => ?_, fun _ _ h => h, fun k o hk => ?_, fun j k o o' b1 c1 c2 hj hk _ _ _ _ => by rw [(one_row hj).1, (one_row hk).1], fun k p k' p' n2 ⟨σ, v1, y1, y2⟩ ⟨σ', v2, y3, y4⟩ => ?_, fun k p σ v1 n2 y1 y2 => ?_⟩, by simp, by simp [isV], ⟨_, _, _, rfl⟩, fun t2 τ2 ws hw => ?_⟩, fun p σ v' h => ⟨(occ h).2.1, (occ h).2.2.2.2⟩⟩
  · obtain ⟨k, o, c3, y1, y2, y3⟩ := hb2
    obtain ⟨rfl, rfl⟩ := one_row y1
    simp at y3
    exact y3.1.symm
  · obtain ⟨rfl, rfl⟩ := one_row hk
    exact ⟨m, c1, rfl, fun h => by omega, hcap.2, fun _ => ⟨us2, l.drop us2.length, by rw [e2]; exact g1, hF, flt_one (τ := .uls) hF, by rw [e2, hcs]; rfl⟩⟩
  · obtain ⟨o1, o2, o3, o4, o5⟩ := occ y1
    obtain ⟨r1, r2, r3, r4, r5⟩ := occ y3
    have := (H.heap.uq 0 _ 0 _ n2 ⟨_, _, o5, y2⟩ ⟨_, _, r5, y4⟩).2
    have := (Prod.mk.inj this).2
    exact ⟨o1.trans r1.symm, Prod.ext (by omega) (o2.trans r2.symm)⟩
  · obtain ⟨o1, o2, o3, o4, o5⟩ := occ y1
    exact H.heap.pl 0 _ σ v1 n2 o5 y2
  · obtain ⟨_, e⟩ := one_row hw
    have e := e.symm
    injection e with e1 e2 e3
    subst e1 e2
    have e3 := eq_of_heq e3
    subst e3
    exact ⟨m, c1, _, rfl, rfl, fun _ => rfl, fun _ => trivial⟩
theorem ls_keep {ys : List (El .ls)} {v : Value} (hr : Ri w E X (.sl true .ls ys) v) (hs : w.heap.size ≤ w'.heap.size) (hk : ∀ n, SlV v n → w'.heap[n]? = w.heap[n]?) (hk2 : ∀ b o len c j u2 n, v = .slice (some ⟨b, o, none⟩) len c → j < len * 3 → j % 3 = 2 → w.cell? ⟨b, o + j, none⟩ = some u2 → SlV u2 n → w'.heap[n]? = w.heap[n]?) : Ri w' E X (.sl true .ls ys) v := by
  cases hr with
  | sl _ _ _ A cap b o us hA hcap hl hc hr =>
    have hp : ∀ {j : Nat} {u : Value}, us[j]? = some u → 0 < ys.length := fun {j u} hu => by
      have := (List.getElem?_eq_some_iff.1 hu).1
      rw [hl, flt_len] at this
      rcases Nat.eq_zero_or_pos ys.length with e | e
      · rw [e] at this; simp at this
      · exact e
    refine .sl true .ls ys A cap b o us (fun h => ⟨(hA h).1, Nat.lt_of_lt_of_le (hA h).2.1 hs, (hA h).2.2⟩) hcap hl (fun j u hu => ?_) (fun j x u hx hu => ?_)
    · exact (World.cell?_of_block (a := ⟨b, o + j, none⟩) (hk b ⟨o, _, _, by rw [(hA (hp hu)).1], hp hu⟩)).trans (hc j u hu)
    · have hr2 := hr j x u hx hu
      rcases flt_s .ls (.inr rfl) ys x (List.mem_of_getElem? hx) with ⟨z, rfl⟩ | ⟨σ, ws, rfl, _⟩
      · cases hr2; exact .s _
      · obtain ⟨k1, k2⟩ := flt_pos .ls (.inr rfl) ys j σ ws hx
        rcases k2 with ⟨k2, _⟩ | ⟨_, rfl⟩
        · cases k2
        · have hj : j < ys.length * 3 := by
            have := (List.getElem?_eq_some_iff.1 hx).1
            rw [flt_len] at this; exact this
          exact en_keep hr2 hs fun n hn => hk2 b o _ cap j u n (by rw [(hA (hp hu)).1]) hj k1 (hc j u hu) hn
theorem flt_udb (l : List (El .udb)) : flt .udb l = l.map fun x => IV.sl true .ls x := by
  induction l with
  | nil => rfl
  | cons x r ih => rw [flt_cons, ih]; rfl
theorem back_ls {xs : List (El .udb)} (H : UR w E t .udb xs b c u) {q n c1 : Nat} {v : Value} {ys' : List Ls} (ho : OccV w [.row t .udb xs] [(b, c)] 0 (q, 0) .uls v) (hs : SlV v n) (hC : Chg w w' (fun m => m = n ∨ ∃ j, Occ w [.row t .udb xs] [(b, c)] 0 (q, j + 1) m)) (H' : UR w' (· = n) (tyT .uls) .uls ys' n c1 v) (hc1 : 0 < c1)
    (hb : ∀ p σ v', OccV w' [.row (tyT .uls) .uls ys'] [(n, c1)] 0 p σ v' → OccV w [.row t .udb xs] [(b, c)] 0 (q, p.1 + 1) σ v') : UR w' E t .udb (xs.set q ys') b c u ∧ ∀ k p σ v', OccV w' [.row t .udb (xs.set q ys')] [(b, c)] k p σ v' → OccV w [.row t .udb xs] [(b, c)] k p σ v' := by
  have hn := occ_at H.heap.ok ho hs
  have ho0 := ho
  obtain ⟨t1, τ1, zs, b1, c2, us1, junk1, z1, z2, z3, z4, z5, z6⟩ := ho
  obtain ⟨_, e⟩ := one_row z1
  have e := e.symm
  injection e with e1 e2 e3
  subst e1 e2
  have e3 := eq_of_heq e3
  subst e3
  obtain ⟨rfl, rfl⟩ : b = b1 ∧ c = c2 := by simpa using z2
  have hE := H.liv z3
  have hbn : ¬ (b = n ∨ ∃ j, Occ w [.row t .udb xs] [(b, c)] 0 (q, j + 1) b) := by
    rintro (rfl | ⟨j, h⟩)
    · exact hn.2 hE.1
    · exact (H.heap.occ h).2 hE.1
  have hbb := hC.block b hE.2 hbn
  obtain ⟨h1, h2, h3, A, rfl, h4⟩ := H.cells
  obtain ⟨us, junk, q1, q2, q3, q4⟩ := h3 z3
  rw [q1] at z4
  injection z4 with z4; injection z4 with e1
  have e1 := congrArg Array.toList e1
  simp only [List.toList_toArray] at e1
  obtain rfl := app_inj e1 (by rw [q2.1, flt_len, z5])
  have hq : us[q]? = some v := by
    rcases z6 with ⟨_, _, g3, _⟩ | ⟨_, g, _⟩
    · exact g3
    · cases g
  have hlq : (xs.set q ys').length = xs.length := List.length_set
  have hul : us.length = xs.length := by have := z5; simpa [sz] using this
  have hql : q < xs.length := by rw [← hul]; exact (List.getElem?_eq_some_iff.1 hq).1
  -- places
  have place : ∀ {j : Nat} {v' : Value}, us[j]? = some v' → OccV w [.row t .udb xs] [(b, c)] 0 (j, 0) .uls v' := fun {j v'} h5 => ⟨_, .udb, xs, b, c, us, junk, rfl, rfl, z3, q1, z5, .inl ⟨rfl, rfl, h5, rfl, by simp [sz, nst, Nat.mod_one]⟩⟩
  have place2 : ∀ {j i b1 o1 len c3 : Nat} {v' : Value}, us[j]? = some (.slice (some ⟨b1, o1, none⟩) len c3) → i < len * 3 → i % 3 = 2 → w.cell? ⟨b1, o1 + i, none⟩ = some v' → OccV w [.row t .udb xs] [(b, c)] 0 (j, i + 1) .en v' := fun h5 h6 h7 h8 => ⟨_, .udb, xs, b, c, us, junk, rfl, rfl, z3, q1, z5, .inr ⟨rfl, rfl, _, _, _, _, _, h5, rfl, h6, h7, h8⟩⟩
  -- what is not under q stays
  have far : ∀ {j i m : Nat} {σ : Ty} {v' : Value}, j ≠ q → OccV w [.row t .udb xs] [(b, c)] 0 (j, i) σ v' → SlV v' m → w'.heap[m]? = w.heap[m]? := fun {j i m σ v'} hj h5 h6 => by
    refine hC.block m (occ_at H.heap.ok h5 h6).1 ?_
    rintro (rfl | ⟨i', h⟩)
    · exact hj (Prod.mk.inj (H.heap.uq 0 (j, i) 0 (q, 0) m ⟨_, _, h5, h6⟩ ⟨_, _, ho0, hs⟩).2).1
    · exact hj (Prod.mk.inj (H.heap.uq 0 (j, i) 0 (q, i' + 1) m ⟨_, _, h5, h6⟩ h).2).1
  -- the cells of the block that was written
  obtain ⟨g1, g2, g3, A1, rfl, g4⟩ := H'.cells
  obtain ⟨us2, junk2, r1, r2, r3, r4⟩ := g3 hc1
  have hA1 := g4 hc1
  subst hA1
  have hul2 : us2.length = ys'.length * 3 := by rw [r2.1, flt_len]; rfl
  have occ2 : ∀ {i : Nat} {v' : Value}, i < ys'.length * 3 → i % 3 = 2 → us2[i]? = some v' → OccV w [.row t .udb xs] [(b, c)] 0 (q, i + 1) .en v' := fun {i v'} h5 h6 h7 => hb (i, 0) .en v' ⟨_, .uls, ys', n, c1, us2, junk2, rfl, rfl, hc1, r1, by rw [hul2]; rfl, .inl ⟨rfl, rfl, h7, rfl, h6⟩⟩
  have occ : ∀ {k : Nat} {p : Nat × Nat} {σ : Ty} {v' : Value}, OccV w' [.row t .udb (xs.set q ys')] [(b, c)] k p σ v' → k = 0 ∧ OccV w [.row t .udb xs] [(b, c)] 0 p σ v' := fun {k p σ v'} ⟨t1, τ1, ws, b1, c3, us3, junk3, y1, y2, y3, y4, y5, y6⟩ => by
    obtain ⟨rfl, e⟩ := one_row y1
    have e := e.symm
    injection e with e1 e2 e3
    subst e1 e2
    have e3 := eq_of_heq e3
    subst e3
    obtain ⟨rfl, rfl⟩ : b = b1 ∧ c = c3 := by simpa using y2
    rw [hbb, q1] at y4
    injection y4 with y4; injection y4 with e1
    have e1 := congrArg Array.toList e1
    simp only [List.toList_toArray] at e1
    obtain rfl := app_inj e1 (by rw [y5, hlq, z5])
    refine ⟨rfl, ?_⟩
    rcases y6 with ⟨_, y7, y8, y9, y10⟩ | ⟨_, rfl, b2, o2, len, c4, i, y8, y9, y10, y11, y12⟩
    · have := place y8
      rw [y9, show p = (p.1, 0) from Prod.ext rfl y7]
      exact this
    · rw [show p = (p.1, i + 1) from Prod.ext rfl y9]
      by_cases e : p.1 = q
      · rw [e] at y8 ⊢
        rw [hq] at y8
        injection y8 with y8
        injection y8 with e2 e4 e5
        injection e2 with e2
        injection e2 with e6 e7
        subst e6 e7 e4
        have hlt : i < us2.length := by omega
        have h9 := obj_cell r1 (List.getElem?_eq_getElem hlt)
        rw [Nat.zero_add, h9] at y12
        exact occ2 y10 y11 (by rw [List.getElem?_eq_getElem hlt]; exact y12)
      · have hsl : SlV (.slice (some ⟨b2, o2, none⟩) len c4) b2 := ⟨o2, len, c4, rfl, by omega⟩
        have h9 := far e (place y8) hsl
        exact place2 y8 y10 y11 ((World.cell?_of_block (a := ⟨b2, o2 + i, none⟩) h9).symm.trans y12)
  have hen : ∀ {i : Nat} {ws : List (El .en)} {v' : Value}, (flt .uls ys')[i]? = some (.sl true .en ws) → us2[i]? = some v' → Ri w' E (fun _ => False) (.sl true .en ws) v' := fun {i ws v'} h5 h6 => by
    refine en_ri (r2.2 i _ v' h5 h6) fun m hm => ?_
    have h7 := (flt_pos .uls (.inl rfl) ys' i .en ws h5).1
    have h8 : i % 3 = 2 := h7
    have h9 : i < ys'.length * 3 := by
      have := (List.getElem?_eq_some_iff.1 h6).1; omega
    exact (occ_at H.heap.ok (occ2 h9 h8 h6) hm).2
  refine ⟨⟨⟨rfl, fun n h => H.heap.sub n (liv_one h), fun _ _ h => h, fun k o hk => ?_, fun j k o o' b1 c2 c3 hj hk _ _ _ _ => by rw [(one_row hj).1, (one_row hk).1], fun k p k' p' m ⟨σ, v1, y1, y2⟩ ⟨σ', v2, y3, y4⟩ => ?_, fun k p σ v1 m y1 y2 => ?_⟩, by simp, by simp [isV], ⟨_, _, _, rfl⟩, fun t2 τ2 ws hw => ?_⟩, fun k p σ v' h => (occ h).1 ▸ (occ h).2⟩
  · obtain ⟨rfl, rfl⟩ := one_row hk
    refine ⟨b, c, rfl, fun h => by omega, h2, fun _ => ⟨us, junk, by rw [hbb]; exact q1, ⟨by rw [flt_len, hlq, ← flt_len]; exact q2.1, fun j x u1 hx1 hu1 => ?_⟩, q3, q4⟩⟩
    rw [flt_udb, List.getElem?_map, List.getElem?_set] at hx1
    by_cases e : q = j
    · subst e
      rw [if_pos rfl, if_pos hql] at hx1
      injection hx1 with hx1
      subst hx1
      rw [hq] at hu1
      injection hu1 with hu1
      subst hu1
      have hle : ys'.length ≤ c1 := by
        have h4 : (us2 ++ junk2).length = c1 * 3 := r4
        rw [List.length_append, hul2] at h4
        omega
      refine .sl true .ls ys' _ c1 n 0 us2 (fun _ => ⟨rfl, (H'.liv hc1).2, hn.2, fun _ => id⟩) ⟨hle, g2⟩ r2.1 (fun j u hu => by rw [Nat.zero_add]; exact obj_cell r1 hu) (fun j x u hx hu => ?_)
      rcases flt_s .uls (.inl rfl) ys' x (List.mem_of_getElem? hx) with ⟨z, rfl⟩ | ⟨σ, ws, rfl, _⟩
      · have hr := r2.2 j _ u hx hu
        cases hr; exact .s _
      · rcases (flt_pos .uls (.inl rfl) ys' j σ ws hx).2 with ⟨k2, _⟩ | ⟨_, rfl⟩
        · cases k2
        · exact hen hx hu
    · rw [if_neg e] at hx1
      have hx0 : (flt .udb xs)[j]? = some x := by rw [flt_udb, List.getElem?_map]; exact hx1
      have hr := q2.2 j x u1 hx0 hu1
      obtain ⟨ws, _, rfl⟩ := Option.map_eq_some_iff.1 hx1
      refine ls_keep hr hC.size (fun m hm => far (Ne.symm e) (place hu1) hm) (fun b2 o2 len c4 i u2 m h5 h6 h7 h8 h9 => ?_)
      subst h5
      exact far (Ne.symm e) (place2 hu1 h6 h7 h8) h9
  · obtain ⟨e1, o1⟩ := occ y1
    obtain ⟨e2, o2⟩ := occ y3
    exact ⟨e1.trans e2.symm, (H.heap.uq 0 p 0 p' m ⟨_, _, o1, y2⟩ ⟨_, _, o2, y4⟩).2⟩
  · obtain ⟨e1, o1⟩ := occ y1
    by_cases e : p.1 = q
    · obtain ⟨t1, τ1, ws, b1, c3, us3, junk3, y1a, y1b, y1c, y1d, y1e, y1f⟩ := y1
      obtain ⟨rfl, e4⟩ := one_row y1a
      have e4 := e4.symm
      injection e4 with e5 e6 e7
      subst e5 e6
      have e7 := eq_of_heq e7
      subst e7
      obtain ⟨rfl, rfl⟩ : b = b1 ∧ c = c3 := by simpa using y1b
      rw [hbb, q1] at y1d
      injection y1d with y1d; injection y1d with e8
      have e8 := congrArg Array.toList e8
      simp only [List.toList_toArray] at e8
      obtain rfl := app_inj e8 (by rw [y1e, hlq, z5])
      rcases y1f with ⟨_, y7, y8, y9, y10⟩ | ⟨_, rfl, b2, o2, len, c4, i, y8, y9, y10, y11, y12⟩
      · rw [e, hq] at y8
        injection y8 with y8
        subst y8
        rw [y9]
        exact pln_of_own H' hc1
      · rw [e, hq] at y8
        injection y8 with y8
        injection y8 with e2 e4 e5
        injection e2 with e2
        injection e2 with e6 e7
        subst e6 e7 e4
        have hlt : i < us2.length := by omega
        have h9 := obj_cell r1 (List.getElem?_eq_getElem hlt)
        rw [Nat.zero_add, h9] at y12
        exact H'.heap.pl 0 (i, 0) .en v1 m ⟨_, .uls, ys', n, c1, us2, junk2, rfl, rfl, hc1, r1, by rw [hul2]; rfl, .inl ⟨rfl, rfl, by rw [List.getElem?_eq_getElem hlt]; exact y12, rfl, y11⟩⟩ y2
    · exact (H.heap.pl 0 p σ v1 m o1 y2).keep y2 (far (i := p.2) e o1 y2)
  · obtain ⟨_, e⟩ := one_row hw
    have e := e.symm
    injection e with e1 e2 e3
    subst e1 e2
    have e3 := eq_of_heq e3
    subst e3
    exact ⟨b, c, A, rfl, by rw [hlq], h4, fun _ => trivial⟩
end
end Go.Proofs.Ytknkhdjhongklaa
end
section
namespace Go.Proofs.Ytknkhdjhongklaa
open Go.RowKit

section
variable {w w' : World} {E X : Nat → Prop} {h h' : List AObj} {β β' : List (Nat × Nat)}
theorem obj_keep {k : Nat} {t : TypeId} {τ : Ty} {xs : List (El τ)} (hh : HeapOk w E X h β) (hk : h[k]? = some (.row t τ xs)) (hp : plainO (.row t τ xs) = true) (hβ : ∀ q, β[k]? = some q → β'[k]? = some q) (hs : w.heap.size ≤ w'.heap.size) (hb : ∀ b c, β[k]? = some (b, c) → 0 < c → w'.heap[b]? = w.heap[b]?) (hO : ∀ p n, Occ w h β k p n → w'.heap[n]? = w.heap[n]?) : ObjAt w' E X h' β' k (.row t τ xs) := by
  obtain ⟨b, c, h1, h2, h3, h4⟩ := hh.ok k _ hk
  refine ⟨b, c, hβ _ h1, h2, h3, fun hc => ?_⟩
  obtain ⟨us, junk, h5, h6, h7, h8⟩ := h4 hc
  refine ⟨us, junk, (hb b c h1 hc).trans h5, ⟨h6.1, fun i x u hx hu => ?_⟩, h7, h8⟩
  have hr := h6.2 i x u hx hu
  simp only [plainO, Bool.or_eq_true] at hp
  have hul : us.length = xs.length * sz τ := by rw [h6.1, flt_len]
  rcases hp with hf | hu'
  · have h1 := flt_good (gv := true) τ xs (fun _ => hf) x (List.mem_of_getElem? hx)
    cases h1 with
    | s v => cases hr; exact .s _
    | nil => cases hr; exact .nil _
    | sl _ _ h => cases h
  · rcases flt_s τ (.inl hu') xs x (List.mem_of_getElem? hx) with ⟨z, rfl⟩ | ⟨σ, ys, rfl, _⟩
    · cases hr; exact .s _
    · obtain ⟨hm, hk2⟩ := flt_pos τ (.inl hu') xs i σ ys hx
      rw [if_pos hu'] at hm
      have ho : OccV w h β k (i, 0) (subT τ) u := ⟨t, τ, xs, b, c, us, junk, hk, h1, hc, h5, hul, .inl ⟨hu', rfl, hu, rfl, hm⟩⟩
      rcases hk2 with ⟨rfl, rfl⟩ | ⟨_, rfl⟩
      · refine ls_keep hr hs (fun n hn => hO _ n ⟨_, _, ho, hn⟩) (fun b2 o2 len c4 j u2 m e h9 h10 h11 h12 => hO (i, j + 1) m ⟨.en, u2, ⟨t, .udb, xs, b, c, us, junk, hk, h1, hc, h5, hul, .inr ⟨rfl, rfl, b2, o2, len, c4, j, by rw [← e]; exact hu, rfl, h9, h10, h11⟩⟩, h12⟩)
      · exact en_keep hr hs fun n hn => hO _ n ⟨_, _, ho, hn⟩
theorem occ_one {k : Nat} {t : TypeId} {τ : Ty} {xs : List (El τ)} {b c : Nat} (hk : h[k]? = some (.row t τ xs)) (hβ : β[k]? = some (b, c)) {k' : Nat} {p : Nat × Nat} {σ : Ty} {v : Value} (ho : OccV w [.row t τ xs] [(b, c)] k' p σ v) : k' = 0 ∧ OccV w h β k p σ v := by
  obtain ⟨t1, τ1, ys, b1, c1, us1, junk1, z1, z2, z3, z4, z5, z6⟩ := ho
  obtain ⟨rfl, e⟩ := one_row z1
  have e := e.symm
  injection e with e1 e2 e3
  subst e1 e2
  have e3 := eq_of_heq e3
  subst e3
  obtain ⟨rfl, rfl⟩ : b = b1 ∧ c = c1 := by simpa using z2
  exact ⟨rfl, t, τ, xs, b, c, us1, junk1, hk, hβ, z3, z4, z5, z6⟩
theorem occ_one' {k : Nat} {t : TypeId} {τ : Ty} {xs : List (El τ)} {b c : Nat} (hk : h[k]? = some (.row t τ xs)) (hβ : β[k]? = some (b, c)) {p : Nat × Nat} {σ : Ty} {v : Value} (ho : OccV w h β k p σ v) : OccV w [.row t τ xs] [(b, c)] 0 p σ v := by
  obtain ⟨t1, τ1, ys, b1, c1, us1, junk1, z1, z2, z3, z4, z5, z6⟩ := ho
  rw [hk] at z1
  injection z1 with e
  injection e with e1 e2 e3
  subst e1 e2
  have e3 := eq_of_heq e3
  subst e3
  rw [hβ] at z2
  injection z2 with z2
  obtain ⟨rfl, rfl⟩ := Prod.mk.inj z2
  exact ⟨t, τ, xs, b, c, us1, junk1, rfl, rfl, z3, z4, z5, z6⟩
theorem top_out {k : Nat} {t : TypeId} {τ : Ty} {xs : List (El τ)} {u : Value} (hh : HeapOk w E (fun _ => False) h β) (hk : h[k]? = some (.row t τ xs)) (hp : plainO (.row t τ xs) = true) (hc : C1 w E (fun _ => False) h β (.own k) u) : ∃ b c, β[k]? = some (b, c) ∧ UR w E t τ xs b c u := by
  obtain ⟨_, _, _, h2⟩ := hc
  obtain ⟨b, c, A, h3, rfl, h4, _⟩ := h2 t τ xs hk
  have hlv : ∀ n, Liv [.row t τ xs] [(b, c)] n → Liv h β n := fun n ⟨j, o, c1, z1, z2, z3⟩ => by
    obtain ⟨rfl, rfl⟩ := one_row z1
    simp at z3
    obtain ⟨rfl, rfl⟩ := z3
    exact ⟨k, _, c, hk, z2, h3⟩
  refine ⟨b, c, h3, ⟨rfl, fun n hn => hh.sub n (hlv n hn), fun _ _ h => h, fun j o hj => ?_, fun i j o o' b1 c2 c3 hi hj _ _ _ _ => by rw [(one_row hi).1, (one_row hj).1], fun i p j q n ⟨σ, v, z1, z2⟩ ⟨σ', v', y1, y2⟩ => ?_, fun i p σ v n z1 z2 => hh.pl k p σ v n (occ_one hk h3 z1).2 z2⟩, by simp, by simp [isV], ⟨_, _, _, rfl⟩, fun t2 τ2 ws hw => ?_⟩
  · obtain ⟨rfl, rfl⟩ := one_row hj
    obtain ⟨b', c', q1, q2, q3, q4⟩ := hh.ok k _ hk
    rw [h3] at q1
    injection q1 with q1
    obtain ⟨rfl, rfl⟩ := Prod.mk.inj q1
    exact ⟨b, c, rfl, q2, q3, q4⟩
  · obtain ⟨e1, o1⟩ := occ_one hk h3 z1
    obtain ⟨e2, o2⟩ := occ_one hk h3 y1
    exact ⟨e1.trans e2.symm, (hh.uq k p k q n ⟨_, _, o1, z2⟩ ⟨_, _, o2, y2⟩).2⟩
  · obtain ⟨_, e⟩ := one_row hw
    cases e
    exact ⟨b, c, A, rfl, rfl, h4, fun _ => trivial⟩
def RowS (w : World) (t : TypeId) (τ : Ty) (xs : List (El τ)) (b c : Nat) (m : Nat) : Prop := (0 < c ∧ m = b) ∨ ∃ p, Occ w [.row t τ xs] [(b, c)] 0 p m
theorem top_back {k : Nat} {t : TypeId} {τ : Ty} {xs xs' : List (El τ)} {b c : Nat} {u : Value} (hh : HeapOk w E (fun _ => False) h β) (hp : ∀ o ∈ h, plainO o = true) (hk : h[k]? = some (.row t τ xs)) (hβ : β[k]? = some (b, c)) (H' : UR w' E t τ xs' b c u) (hC : Chg w w' (RowS w t τ xs b c)) (hO : ∀ p σ v, OccV w' [.row t τ xs'] [(b, c)] 0 p σ v → OccV w [.row t τ xs] [(b, c)] 0 p σ v) : HeapOk w' E (fun _ => False) (h.set k (.row t τ xs')) β := by
  have hkl := (List.getElem?_eq_some_iff.1 hk).1
  have far : ∀ {j : Nat} {p : Nat × Nat} {n : Nat}, j ≠ k → Occ w h β j p n → w'.heap[n]? = w.heap[n]? := fun {j p n} hj ho => by
    have hn := hh.occ ho
    refine hC.block n hn.1 ?_
    rintro (⟨hc, rfl⟩ | ⟨p', σ, v, z1, z2⟩)
    · exact hn.2 (hh.sub _ ⟨k, _, c, hk, hc, hβ⟩)
    · exact hj (hh.uq j p k p' n ho ⟨σ, v, (occ_one hk hβ z1).2, z2⟩).1
  have farb : ∀ {j : Nat} {o : AObj} {b1 c1 : Nat}, j ≠ k → h[j]? = some o → live o c1 → β[j]? = some (b1, c1) → w'.heap[b1]? = w.heap[b1]? := fun {j o b1 c1} hj ho hl hb1 => by
    have hlv : Liv h β b1 := ⟨j, o, c1, ho, hl, hb1⟩
    refine hC.block b1 (Liv.lt hh hlv) ?_
    rintro (⟨hc, rfl⟩ | ⟨p', σ, v, z1, z2⟩)
    · exact hj (hh.inj j k o _ b1 c1 c ho hk hl hc hb1 hβ)
    · exact (occ_at hh.ok (occ_one hk hβ z1).2 z2).2 (hh.sub b1 hlv)
  have at_ : ∀ {j : Nat} {o : AObj}, (h.set k (.row t τ xs'))[j]? = some o → (j = k ∧ o = .row t τ xs') ∨ (j ≠ k ∧ h[j]? = some o) := fun {j o} hj => by
    rw [List.getElem?_set] at hj
    by_cases e : k = j
    · rw [if_pos e, if_pos hkl] at hj
      injection hj with hj
      exact .inl ⟨e.symm, hj.symm⟩
    · rw [if_neg e] at hj
      exact .inr ⟨Ne.symm e, hj⟩
  have lv : ∀ n, Liv (h.set k (.row t τ xs')) β n → Liv h β n := fun n ⟨j, o, c1, z1, z2, z3⟩ => by
    rcases at_ z1 with ⟨rfl, rfl⟩ | ⟨_, z4⟩
    · exact ⟨j, _, c1, hk, z2, z3⟩
    · exact ⟨j, o, c1, z4, z2, z3⟩
  have occ : ∀ {j : Nat} {p : Nat × Nat} {σ : Ty} {v : Value}, OccV w' (h.set k (.row t τ xs')) β j p σ v → OccV w h β j p σ v := fun {j p σ v} ho => by
    have ho0 := ho
    obtain ⟨t1, τ1, ys, b1, c1, us1, junk1, z1, z2, z3, z4, z5, z6⟩ := ho0
    rcases at_ z1 with ⟨rfl, e⟩ | ⟨hj, hj0⟩
    · have hk' : (h.set j (.row t τ xs'))[j]? = some (.row t τ xs') := by rw [List.getElem?_set, if_pos rfl, if_pos hkl]
      exact (occ_one hk hβ (hO p σ v (occ_one' hk' hβ ho))).2
    · obtain ⟨b', c', q1, q2, q3, q4⟩ := hh.ok j _ hj0
      rw [z2] at q1
      injection q1 with q1
      obtain ⟨rfl, rfl⟩ := Prod.mk.inj q1
      obtain ⟨us2, junk2, q5, q6, _⟩ := q4 z3
      have hb := farb hj hj0 z3 z2
      rw [hb, q5] at z4
      injection z4 with z4; injection z4 with e1
      have e1 := congrArg Array.toList e1
      simp only [List.toList_toArray] at e1
      obtain rfl := app_inj e1 (by rw [q6.1, flt_len, z5])
      rcases z6 with g | ⟨rfl, rfl, b2, o2, len, c2, i, g3, g4, g5, g6, g7⟩
      · exact ⟨t1, τ1, ys, b1, c1, us2, junk2, hj0, z2, z3, q5, z5, .inl g⟩
      · have := far hj (p := (p.1, 0)) (n := b2) ⟨.uls, _, ⟨t1, .udb, ys, b1, c1, us2, junk2, hj0, z2, z3, q5, z5, .inl ⟨rfl, rfl, g3, rfl, by simp [sz, nst, Nat.mod_one]⟩⟩, ⟨o2, len, c2, rfl, by omega⟩⟩
        exact ⟨t1, .udb, ys, b1, c1, us2, junk2, hj0, z2, z3, q5, z5, .inr ⟨rfl, rfl, b2, o2, len, c2, i, g3, g4, g5, g6, (World.cell?_of_block (a := ⟨b2, o2 + i, none⟩) this).symm.trans g7⟩⟩
  have occO : ∀ {j : Nat} {p : Nat × Nat} {n : Nat}, Occ w' (h.set k (.row t τ xs')) β j p n → Occ w h β j p n := fun {j p n} ⟨σ, v, z1, z2⟩ => ⟨σ, v, occ z1, z2⟩
  refine ⟨by rw [List.length_set]; exact hh.len, fun n hn => hh.sub n (lv n hn), fun _ _ h => h, fun j o hj => ?_, fun i j o o' b1 c1 c2 hi hj li lj bi bj => ?_, fun i p j q n z1 z2 => hh.uq i p j q n (occO z1) (occO z2), fun j p σ v n z1 z2 => ?_⟩
  · rcases at_ hj with ⟨rfl, rfl⟩ | ⟨hjk, hj0⟩
    · obtain ⟨b', c', q1, q2, q3, q4⟩ := H'.heap.ok 0 _ rfl
      obtain ⟨rfl, rfl⟩ : b = b' ∧ c = c' := by simpa using q1
      exact ⟨b, c, hβ, q2, q3, q4⟩
    · have hpo := hp o (List.mem_of_getElem? hj0)
      cases o with
      | dead => trivial
      | vrow t1 τ1 => cases hpo
      | box t1 cs => cases hpo
      | row t1 τ1 ys => exact obj_keep hh hj0 hpo (fun _ h => h) hC.size (fun b1 c1 h1 h2 => farb hjk hj0 h2 h1) (fun p n ho => far hjk ho)
  · have cs : ∀ {j o c1}, (h.set k (.row t τ xs'))[j]? = some o → live o c1 → ∃ o1, h[j]? = some o1 ∧ live o1 c1 := fun {j o c1} h1 h2 => by
      rcases at_ h1 with ⟨rfl, rfl⟩ | ⟨_, h3⟩
      · exact ⟨_, hk, h2⟩
      · exact ⟨_, h3, h2⟩
    obtain ⟨o1, g1, g2⟩ := cs hi li
    obtain ⟨o2, g3, g4⟩ := cs hj lj
    exact hh.inj i j o1 o2 b1 c1 c2 g1 g3 g2 g4 bi bj
  · by_cases e : j = k
    · subst e
      have hk' : (h.set j (.row t τ xs'))[j]? = some (.row t τ xs') := by rw [List.getElem?_set, if_pos rfl, if_pos hkl]
      exact H'.heap.pl 0 p σ v n (occ_one' hk' hβ z1) z2
    · exact (hh.pl j p σ v n (occ z1) z2).keep z2 (far e ⟨σ, v, occ z1, z2⟩)
end
end Go.Proofs.Ytknkhdjhongklaa
end
section
namespace Go.Proofs.Ytknkhdjhongklaa
open Go.RowKit

abbrev Wl := Int × List Lk × List Bool × List Int × List (List Ls) × List Pk
def wArg (W : Wl) : PV := .agg [.im (iI W.1), .im (.sl false .lk W.2.1), .im (.sl false .bool W.2.2.1), .im (.sl false .int W.2.2.2.1), .im (.sl false .db W.2.2.2.2.1), .im (.sl false .pk W.2.2.2.2.2)]
def wOwn (n : Int) : PV := .agg [.im (iI n), .own 0, .own 1, .own 2, .own 3, .own 4]
def wOs (W : Wl) : List AObj := [.row 55 .lk W.2.1, .row 4 .bool W.2.2.1, .row 3 .int W.2.2.2.1, .row 45 .udb W.2.2.2.2.1, .row 85 .upk W.2.2.2.2.2]
def Rw (w : World) (lo hi : Nat) (W : Wl) (v : Value) : Prop := Cv w (fun b => b < lo ∨ hi ≤ b) (fun _ => False) [] [] (wArg W) v
def WM (w : World) (lo hi : Nat) (W : Wl) (v : Value) : Prop := hi ≤ w.heap.size ∧ ∃ β, HeapOk w (fun b => Liv (wOs W) β b ∨ (b < lo ∨ hi ≤ b)) (fun _ => False) (wOs W) β ∧ (∀ b, Liv (wOs W) β b → lo ≤ b ∧ b < hi) ∧ Cv w (fun b => Liv (wOs W) β b ∨ (b < lo ∨ hi ≤ b)) (fun _ => False) (wOs W) β (wOwn W.1) v
section
variable {w w' : World} {lo hi : Nat} {W : Wl} {v : Value}
theorem Rw.keep (h : Rw w lo hi W v) (hs : w.heap.size ≤ w'.heap.size) (hk : ∀ b, lo ≤ b → b < hi → b < w.heap.size → w'.heap[b]? = w.heap[b]?) : Rw w' lo hi W v :=
  Cv.keep (fun b hb hn => hk b (by omega) (by omega) hb) hs (fun _ _ h => h) (fun _ _ _ h => h) (Hle.refl _) (fun _ _ h => h) h
theorem WM.keep (h : WM w lo hi W v) (hs : w.heap.size ≤ w'.heap.size) (hk : ∀ b, lo ≤ b → b < hi → w'.heap[b]? = w.heap[b]?) : WM w' lo hi W v := by
  obtain ⟨h0, β, h1, h2, h3⟩ := h
  have hh : ∀ b, ¬ (Liv (wOs W) β b ∨ (b < lo ∨ hi ≤ b)) → w'.heap[b]? = w.heap[b]? := fun b hn => hk b (by omega) (by omega)
  exact ⟨by omega, β, h1.keepE hs (fun b hl => hk b (h2 b hl).1 (h2 b hl).2) (fun b _ hn => hh b hn), h2, h3.keep (fun b _ hn => hh b hn) hs (fun _ _ h => h) (fun _ _ _ h => h) (Hle.refl _) (fun _ _ h => h)⟩
theorem no_liv {b : Nat} : ¬ Liv [] [] b := fun ⟨k, o, c, h, _⟩ => by simp at h
theorem no_occ {w : World} {k : Nat} {p : Nat × Nat} {n : Nat} : ¬ Occ w [] [] k p n := fun ⟨σ, u, ⟨t, τ, xs, b, c, us, junk, h, _⟩, _⟩ => by simp at h
theorem heap0 (w : World) {E : Nat → Prop} : HeapOk w E (fun _ => False) [] [] := ⟨rfl, fun b h => (no_liv h).elim, fun _ _ h => h, fun k o h => by simp at h, fun j k o o' b c c' h => by simp at h, fun k p k' p' n h => (no_occ h).elim, fun k p σ u n h hs => (no_occ ⟨σ, u, h, hs⟩).elim⟩
theorem Step.below {h' : List AObj} {β' : List (Nat × Nat)} (h : Step w [] [] w' h' β') : Below w.heap.size w w' := ⟨h.os, h.tape, h.output, h.size, fun b hb => h.block b hb no_liv⟩
theorem gc_call {P : Program} {f : FuncId} {e : Entry} (hg : GC P f e) {s : HL e.ah} {r : HL e.rh} (hs : e.sh s = some r) {ds : List PV} (hf : e.AS.fill (up e.ah s) = some (ds, [])) {d : PV} {h' : List AObj} (hr : e.RS.fill (up e.rh r) = some ([d], h')) {args : List Value} (ha : F2 (Cv w (Liv [] []) (fun _ => False) [] []) ds args) (hG : Glb w [] []) : Calls P f args.toArray w fun ex w' => ∃ u β', ex = .returned u ∧ Step w [] [] w' h' β' ∧ HeapOk w' (Liv h' β') (fun _ => False) h' β' ∧ Cv w' (Liv h' β') (fun _ => False) h' β' d u := hg s r hs ds [] hf d h' hr w _ [] args (fun _ h => h.elim) (heap0 w) ha hG
theorem own_readE {h : List AObj} {β : List (Nat × Nat)} {E E' X : Nat → Prop} {k : Nat} {t : TypeId} {τ : Ty} {xs : List (El τ)} (hh : HeapOk w E X h β) (hk : h[k]? = some (.row t τ xs)) (hE : ∀ b, ¬ E b → ¬ E' b) (hkE : ∀ b c, β[k]? = some (b, c) → 0 < c → ¬ E' b) {u : Value} (hc : C1 w E X h β (.own k) u) : Ri w E' (fun _ => False) (.sl false τ xs) u := by
  obtain ⟨_, _, _, h2⟩ := hc
  obtain ⟨b, c, A, h3, rfl, h4, h5⟩ := h2 t τ xs hk
  obtain ⟨b', c', h6, h7, h8, h9⟩ := hh.ok k _ hk
  rw [h3] at h6
  injection h6 with h6; injection h6 with e1 e2
  subst e1 e2
  rcases Nat.eq_zero_or_pos c with hc | hc
  · have hx := h7 hc
    subst hx hc
    exact ri_nil (A := A) τ
  · obtain ⟨us, junk, q1, q2, q3, q4⟩ := h9 hc
    have hlen : xs.length ≤ c := by
      have : xs.length * sz τ ≤ c * sz τ := by rw [← q4, ← flt_len, ← q2.1]; simp
      exact Nat.le_of_mul_le_mul_right this (sz_pos τ)
    refine .sl false τ xs A c b 0 us (fun _ => ⟨h4 hc, (Array.getElem?_eq_some_iff.1 q1).1, hkE b c h3 hc, fun h => by cases h⟩) ⟨hlen, h8⟩ q2.1 (fun j u hu => by rw [Nat.zero_add]; exact obj_cell q1 hu) (fun j x u hx hu => ?_)
    exact (q2.2 j x u hx hu).keep (fun _ _ _ => rfl) (Nat.le_refl _) (fun b _ => hE b) (fun _ _ _ _ h => h)
theorem WM.rw (h : WM w lo hi W v) : Rw w lo hi W v := by
  obtain ⟨h0, β, h1, h2, us, rfl, h3⟩ := h
  obtain ⟨u0, r, rfl, g0, h3⟩ := h3.cons_inv
  obtain ⟨u1, r, rfl, g1, h3⟩ := h3.cons_inv
  obtain ⟨u2, r, rfl, g2, h3⟩ := h3.cons_inv
  obtain ⟨u3, r, rfl, g3, h3⟩ := h3.cons_inv
  obtain ⟨u4, r, rfl, g4, h3⟩ := h3.cons_inv
  obtain ⟨u5, r, rfl, g5, h3⟩ := h3.cons_inv
  obtain rfl := h3.nil_inv
  have rd : ∀ {k : Nat} {t : TypeId} {τ : Ty} {xs : List (El τ)} {u : Value}, (wOs W)[k]? = some (.row t τ xs) → C1 w (fun b => Liv (wOs W) β b ∨ (b < lo ∨ hi ≤ b)) (fun _ => False) (wOs W) β (.own k) u → Ri w (fun b => b < lo ∨ hi ≤ b) (fun _ => False) (.sl false τ xs) u := fun {k t τ xs u} hk hc => own_readE h1 hk (fun b hn h => hn (.inr h)) (fun b c q1 q2 h => by
    have := h2 b ⟨k, _, c, hk, q2, q1⟩
    omega) hc
  refine ⟨_, rfl, F2.cons ?_ (F2.cons (rd (k := 0) rfl g1) (F2.cons (rd (k := 1) rfl g2) (F2.cons (rd (k := 2) rfl g3) (F2.cons (castU_ri (σ := .udb) (τ := .db) rfl (rd (k := 3) rfl g4)) (F2.cons (castU_ri (σ := .upk) (τ := .pk) rfl (rd (k := 4) rfl g5)) F2.nil)))))⟩
  have g0 : Ri w _ _ (iI W.1) u0 := g0
  cases g0
  exact Ri.s _
theorem wm_new {w' : World} {β : List (Nat × Nat)} (hst : Step w [] [] w' (wOs W) β) (hh : HeapOk w' (Liv (wOs W) β) (fun _ => False) (wOs W) β) (hc : Cv w' (Liv (wOs W) β) (fun _ => False) (wOs W) β (wOwn W.1) v) : WM w' w.heap.size w'.heap.size W v := by
  refine ⟨Nat.le_refl _, β, hh.up (fun o ho => ?_) (fun b h => .inl h) (fun k p n ho hx => ?_), fun b hb => ⟨?_, Liv.lt hh hb⟩, ?_⟩
  · simp only [wOs, List.mem_cons, List.not_mem_nil, or_false] at ho
    rcases ho with rfl | rfl | rfl | rfl | rfl <;> rfl
  · have h1 := hh.occ ho
    rcases hx with h | h | h
    · exact h1.2 h
    · rcases hst.fp k p n h ho with ⟨k', p', h2⟩ | h2
      · exact no_occ h2
      · exact no_liv h2
    · omega
  · rcases Nat.lt_or_ge b w.heap.size with h | h
    · exact (no_liv (hst.new b h hb)).elim
    · exact h
  · obtain ⟨us, rfl, h3⟩ := hc
    refine ⟨us, rfl, h3.monoI fun x hx u hu => ?_⟩
    simp only [List.mem_cons, List.not_mem_nil, or_false] at hx
    rcases hx with rfl | rfl | rfl | rfl | rfl | rfl
    · have hu : Ri w' _ _ (iI W.1) u := hu
      cases hu
      exact Ri.s _
    all_goals exact hu
theorem Rw.arg (h : Rw w lo hi W v) : Cv w (Liv [] []) (fun _ => False) [] [] (wArg W) v :=
  Cv.keep (w' := w) (h' := []) (β' := []) (fun _ _ _ => rfl) (Nat.le_refl _) (fun _ _ _ h => no_liv h) (fun _ _ _ h => h) (Hle.refl _) (fun _ _ h => h) h
end
end Go.Proofs.Ytknkhdjhongklaa
end
section
namespace Go.Proofs.Ytknkhdjhongklaa
open Go.RowKit

set_option maxRecDepth 100000 in
set_option maxHeartbeats 1000000 in
theorem l_markEndS0 (A : Option Addr) (c : Nat) (k : Int) (w : World) : Calls Try.prog 52 #[.slice A 0 c, .int .i64 k] w fun e w' => e = .returned (.int .i64 k) ∧ Chg w w' (fun _ => False) := by
  go_enter Try.func52, Try.ntmps52
  go_wp2_with fail
  go_loopw [1, 5] (fun kv i wr => kv = .int .i64 k ∧ i = .int .i64 0 ∧ Chg w wr (fun _ => False)) (fun _ i _ => 0)
  case atStart => exact ⟨rfl, rfl, Chg.refl _ _⟩
  case round =>
    obtain ⟨rfl, rfl, hC⟩ := hrel
    go_wp2_with fail
    go_ret
    exact ⟨rfl, hC⟩
theorem flt_get (τ : Ty) (zs : List (El τ)) (q r : Nat) (hr : r < sz τ) : (flt τ zs)[q * sz τ + r]? = (zs[q]?).bind fun z => (cells τ z)[r]? := by
  cases hq : zs[q]? with
  | none =>
    have : zs.length ≤ q := List.getElem?_eq_none_iff.1 hq
    rw [List.getElem?_eq_none]
    · rfl
    · rw [flt_len]
      have := Nat.mul_le_mul_right (sz τ) this
      omega
  | some z =>
    have h1 := flt_at τ zs q z hq
    have h2 : (((flt τ zs).drop (q * sz τ)).take (sz τ))[r]? = (cells τ z)[r]? := by rw [h1]
    rw [List.getElem?_take, if_pos hr, List.getElem?_drop] at h2
    exact h2
theorem flt_set1 (τ : Ty) {xs : List (El τ)} {i r : Nat} {x y : El τ} {v : IV} (hx : xs[i]? = some x) (hr : r < sz τ) (hy : cells τ y = (cells τ x).set r v) : flt τ (xs.set i y) = (flt τ xs).set (i * sz τ + r) v := by
  have hz := sz_pos τ
  have hi := (List.getElem?_eq_some_iff.1 hx).1
  refine List.ext_getElem? fun j => ?_
  have hj : j = j / sz τ * sz τ + j % sz τ := by rw [Nat.mul_comm]; exact (Nat.div_add_mod j (sz τ)).symm
  have hm := Nat.mod_lt j hz
  rw [List.getElem?_set]
  rw [hj, flt_get _ _ _ _ hm, List.getElem?_set]
  have hl : i * sz τ + r < (flt τ xs).length := by
    rw [flt_len]
    have : (i + 1) * sz τ ≤ xs.length * sz τ := Nat.mul_le_mul_right _ hi
    rw [Nat.succ_mul] at this
    omega
  by_cases e : i = j / sz τ
  · rw [← e, if_pos rfl, if_pos hi, Option.bind_some, hy, List.getElem?_set]
    by_cases e2 : r = j % sz τ
    · rw [← e2, if_pos rfl, if_pos (by rw [cells_len]; exact hr), if_pos rfl, if_pos hl]
    · rw [if_neg e2, if_neg (by omega), flt_get _ _ _ _ hm, hx]; rfl
  · rw [if_neg e, if_neg, flt_get _ _ _ _ hm]
    intro e2
    apply e
    have h3 : (i * sz τ + r) / sz τ = (j / sz τ * sz τ + j % sz τ) / sz τ := by rw [e2]
    rw [Nat.mul_comm i, Nat.mul_comm (j / sz τ), Nat.mul_add_div hz, Nat.mul_add_div hz, Nat.div_eq_of_lt hr, Nat.div_eq_of_lt hm] at h3
    omega
def mkE : Int → List En → List En
  | _, [] => []
  | k, _ :: r => ⟨k, k + 1⟩ :: mkE (k + 2) r
def cntL : List Ls → Nat
  | [] => 0
  | l :: r => 2 + 2 * l.e.length + cntL r
def mkL : Int → List Ls → List Ls
  | _, [] => []
  | k, l :: r => ⟨k, k + 1, mkE (k + 2) l.e⟩ :: mkL (k + 2 + 2 * l.e.length) r
theorem mkE_len : ∀ (k : Int) (xs : List En), (mkE k xs).length = xs.length
  | _, [] => rfl
  | k, _ :: r => by simp [mkE, mkE_len _ r]
theorem mkL_len : ∀ (k : Int) (xs : List Ls), (mkL k xs).length = xs.length
  | _, [] => rfl
  | k, _ :: r => by simp [mkL, mkL_len _ r]
def mkLn (k : Int) (xs : List Ls) (i : Nat) : List Ls := mkL k (xs.take i) ++ xs.drop i
theorem cntL_app (xs : List Ls) (l : Ls) : cntL (xs ++ [l]) = cntL xs + (2 + 2 * l.e.length) := by
  induction xs with
  | nil => simp [cntL]
  | cons x r ih => simp only [List.cons_append, cntL, ih]; omega
theorem mkL_app (xs : List Ls) (l : Ls) : ∀ k : Int, mkL k (xs ++ [l]) = mkL k xs ++ [⟨k + cntL xs, k + cntL xs + 1, mkE (k + cntL xs + 2) l.e⟩] := by
  induction xs with
  | nil => intro k; simp [mkL, cntL]
  | cons x r ih =>
    intro k
    simp only [List.cons_append, mkL, ih, cntL]
    have e : k + 2 + 2 * (x.e.length : Int) + (cntL r : Int) = k + ((2 + 2 * x.e.length + cntL r : Nat) : Int) := by omega
    rw [e]
theorem mkLn_0 (k : Int) (xs : List Ls) : mkLn k xs 0 = xs := by simp [mkLn, mkL]
theorem mkLn_end (k : Int) (xs : List Ls) : mkLn k xs xs.length = mkL k xs := by simp [mkLn]
theorem mkLn_at (k : Int) (xs : List Ls) (i : Nat) (l : Ls) (hl : xs[i]? = some l) : (mkLn k xs i)[i]? = some l := by
  have hi := (List.getElem?_eq_some_iff.1 hl).1
  unfold mkLn
  rw [List.getElem?_append_right (by rw [mkL_len, List.length_take]; omega), mkL_len, List.length_take, Nat.min_eq_left (by omega), Nat.sub_self, List.getElem?_drop]
  simpa using hl
theorem mkLn_step (k : Int) (xs : List Ls) (i : Nat) (l : Ls) (hl : xs[i]? = some l) : mkLn k xs (i + 1) = (mkLn k xs i).set i ⟨k + cntL (xs.take i), k + cntL (xs.take i) + 1, mkE (k + cntL (xs.take i) + 2) l.e⟩ := by
  have hi := (List.getElem?_eq_some_iff.1 hl).1
  unfold mkLn
  rw [List.take_add_one, hl]
  show mkL k (xs.take i ++ [l]) ++ _ = _
  rw [mkL_app, List.set_append_right _ _ (by rw [mkL_len, List.length_take]; omega), mkL_len, List.length_take, Nat.min_eq_left (by omega), Nat.sub_self, List.append_assoc]
  congr 1
  rw [show xs.drop i = l :: xs.drop (i + 1) by rw [List.drop_eq_getElem_cons hi]; congr 1; exact (List.getElem?_eq_some_iff.1 hl).2]
  rfl
end Go.Proofs.Ytknkhdjhongklaa
end
section
namespace Go.Proofs.Ytknkhdjhongklaa
open Go.RowKit

def Mkd (w w' : World) (E : Nat → Prop) (t : TypeId) (τ : Ty) (xs xs' : List (El τ)) (b c : Nat) (u : Value) : Prop := UR w' E t τ xs' b c u ∧ Chg w w' (RowS w t τ xs b c) ∧ ∀ k p σ v, OccV w' [.row t τ xs'] [(b, c)] k p σ v → OccV w [.row t τ xs] [(b, c)] k p σ v
theorem Mkd.refl {w : World} {E : Nat → Prop} {t : TypeId} {τ : Ty} {xs : List (El τ)} {b c : Nat} {u : Value} (H : UR w E t τ xs b c u) : Mkd w w E t τ xs xs b c u := ⟨H, Chg.refl _ _, fun _ _ _ _ h => h⟩
def MarkE (P : Program) (f : FuncId) : Prop := ∀ (w : World) (E : Nat → Prop) (ys : List En) (b c : Nat) (u : Value) (k : Int), 0 ≤ k → k + 2 * ys.length ≤ 4000000000 → 0 < c → UR w E (tyT .en) .en ys b c u → Calls P f #[u, .int .i64 k] w fun e w' => e = .returned (.int .i64 (k + 2 * ys.length)) ∧ UR w' E (tyT .en) .en (mkE k ys) b c u ∧ Chg w w' (· = b)
theorem Mkd.row {w w' : World} {E : Nat → Prop} {t : TypeId} {τ : Ty} {xs xs' : List (El τ)} {b c : Nat} {u : Value} (M : Mkd w w' E t τ xs xs' b c u) (k : Nat) (p : Nat × Nat) (n : Nat) (h : Occ w' [.row t τ xs'] [(b, c)] k p n) : Occ w [.row t τ xs] [(b, c)] k p n := by
  obtain ⟨σ, v, h1, h2⟩ := h
  exact ⟨σ, v, M.2.2 k p σ v h1, h2⟩
theorem Mkd.trans {w w' w'' : World} {E : Nat → Prop} {t : TypeId} {τ : Ty} {xs xs' xs'' : List (El τ)} {b c : Nat} {u : Value} (M : Mkd w w' E t τ xs xs' b c u) (M' : Mkd w' w'' E t τ xs' xs'' b c u) : Mkd w w'' E t τ xs xs'' b c u :=
  ⟨M'.1, M.2.1.trans (M'.2.1.mono fun n _ h => h.imp id fun ⟨p, h⟩ => ⟨p, M.row 0 p n h⟩), fun k p σ v h => M.2.2 k p σ v (M'.2.2 k p σ v h)⟩
theorem mkd_int {w : World} {E : Nat → Prop} {t : TypeId} {τ : Ty} {xs : List (El τ)} {b c : Nat} {u : Value} (H : UR w E t τ xs b c u) (hc : 0 < c) (hτ : τ ≠ .udb) {i r : Nat} {x y : El τ} {z : Int} (hx : xs[i]? = some x) (hr : r < sz τ) (hm : r ≠ nst τ) (hy : cells τ y = (cells τ x).set r (iI z)) : Mkd w (w.setCell ⟨b, i * sz τ + r, none⟩ (.int .i64 z)) E t τ xs (xs.set i y) b c u := by
  have hi := (List.getElem?_eq_some_iff.1 hx).1
  have hl : i * sz τ + r < (flt τ xs).length := by
    rw [flt_len]
    have : (i + 1) * sz τ ≤ xs.length * sz τ := Nat.mul_le_mul_right _ hi
    rw [Nat.succ_mul] at this
    omega
  obtain ⟨h1, h2, h3⟩ := set_int (z := z) (xs' := xs.set i y) H hτ hl (fun _ => by rw [Nat.mul_comm, Nat.mul_add_mod, Nat.mod_eq_of_lt hr]; exact hm) (flt_set1 τ hx hr hy) List.length_set
  exact ⟨h1, h2.mono fun n _ e => .inl ⟨hc, e⟩, h3⟩
theorem ur_cell {w : World} {E : Nat → Prop} {t : TypeId} {τ : Ty} {xs : List (El τ)} {b c : Nat} {u : Value} (H : UR w E t τ xs b c u) (hc : 0 < c) {i r : Nat} {x : El τ} {y : IV} (hx : xs[i]? = some x) (hr : (cells τ x)[r]? = some y) : (∃ v, w.cell? ⟨b, i * sz τ + r, none⟩ = some v ∧ Ri w E (fun _ => False) y v ∧ (τ.u = true → r = nst τ → OccV w [.row t τ xs] [(b, c)] 0 (i * sz τ + r, 0) (subT τ) v)) ∧ w.frozen? ⟨b, i * sz τ + r, none⟩ = false := by
  obtain ⟨h1, h2, h3, _⟩ := H.cells
  obtain ⟨us, junk, q1, q2, q3, q4⟩ := h3 hc
  have hr' : r < sz τ := by rw [← cells_len τ x]; exact (List.getElem?_eq_some_iff.1 hr).1
  have hf : (flt τ xs)[i * sz τ + r]? = some y := by rw [flt_get _ _ _ _ hr', hx]; exact hr
  obtain ⟨v, hv, hR⟩ := q2.get hf
  refine ⟨⟨v, obj_cell q1 hv, hR, fun hu e => ⟨t, τ, xs, b, c, us, junk, rfl, rfl, hc, q1, by rw [q2.1, flt_len], .inl ⟨hu, rfl, hv, rfl, by rw [Nat.mul_comm, Nat.mul_add_mod, Nat.mod_eq_of_lt hr']; exact e⟩⟩⟩, by simp [World.frozen?, q1]⟩
theorem mkd_en {f : FuncId} {P : Program} (hE : MarkE P f) (h0 : ∀ (A : Option Addr) (c : Nat) (k : Int) (w : World), Calls P f #[.slice A 0 c, .int .i64 k] w fun e w' => e = .returned (.int .i64 k) ∧ Chg w w' (fun _ => False)) {w : World} {E : Nat → Prop} {t : TypeId} {τ : Ty} {xs : List (El τ)} {b c : Nat} {u : Value} (H : UR w E t τ xs b c u) (hc : 0 < c) (hu : τ.u = true) (hτ : τ ≠ .udb) {i : Nat} {x y : El τ} {v : Value} {ys : List En} {k : Int} (hx : xs[i]? = some x) (hR : Ri w E (fun _ => False) (.sl true .en ys) v) (ho : OccV w [.row t τ xs] [(b, c)] 0 (i * sz τ + nst τ, 0) (subT τ) v) (hcx : (cells τ x)[nst τ]? = some (.sl true .en ys)) (hy : ∀ zs, zs = mkE k ys → cells τ y = (cells τ x).set (nst τ) (.sl true .en zs)) (hn : nst τ < sz τ) (hk0 : 0 ≤ k) (hk1 : k + 2 * ys.length ≤ 4000000000) : Calls P f #[v, .int .i64 k] w fun e w' => e = .returned (.int .i64 (k + 2 * ys.length)) ∧ Mkd w w' E t τ xs (xs.set i y) b c u := by
  have hsub : subT τ = .en := by cases τ <;> first | rfl | (exact absurd rfl hτ)
  rcases Nat.eq_zero_or_pos ys.length with e | e
  · obtain rfl : ys = [] := List.length_eq_zero_iff.1 e
    obtain ⟨A, c1, rfl, _⟩ := ri_empty hR
    have hxy : xs.set i y = xs := by
      have h1 : cells τ y = cells τ x := by
        rw [hy [] rfl]
        refine List.ext_getElem? fun j => ?_
        rw [List.getElem?_set]
        by_cases e : nst τ = j
        · subst e; rw [if_pos rfl, if_pos (by rw [cells_len]; exact hn), hcx]
        · rw [if_neg e]
      have h2 : y = x := by
        cases τ <;> simp [Ty.u] at hu <;> simp only [cells, List.cons.injEq, IV.s.injEq, iI, Value.int.injEq, true_and, and_true, IV.sl.injEq] at h1
        · obtain ⟨g1, g2, g3⟩ := h1; cases x; cases y; simp at g1 g2 g3; subst g1 g2 g3; rfl
        · exact absurd rfl hτ
        · obtain ⟨g1, g2, g3, g4⟩ := h1; cases x with | mk _ p => cases p; cases y with | mk _ q => cases q; simp at g1 g2 g3 g4; subst g1 g2 g3 g4; rfl
      rw [h2]
      refine List.ext_getElem? fun j => ?_
      rw [List.getElem?_set]
      by_cases e : i = j
      · subst e; rw [if_pos rfl, if_pos (List.getElem?_eq_some_iff.1 hx).1, hx]
      · rw [if_neg e]
    refine (h0 A c1 k w).mono ?_
    rintro e' w' ⟨rfl, hC⟩
    have hE2 := H.liv hc
    have hall : ∀ n, n < w.heap.size → w'.heap[n]? = w.heap[n]? := fun n hn => hC.block n hn id
    refine ⟨by simp, ?_⟩
    rw [hxy]
    have hk2 := H.heap.keepE (w' := w') hC.size (fun n hl => hall n (Liv.lt H.heap hl)) (fun n hn _ => hall n hn)
    refine ⟨⟨hk2, ?_⟩, hC.mono fun _ _ h => h.elim, fun k p σ v' h => ?_⟩
    · obtain ⟨g1, g2, g3, g4⟩ := H.val
      exact ⟨g1, g2, g3, fun t' τ' ws e => g4 t' τ' ws e⟩
    · have h' := h
      obtain ⟨t1, τ1, ws, b1, c2, us, junk, z1, z2, z3, _⟩ := h'
      exact occ_back H.heap z1 z1 (fun _ h => h) (fun b' c' g1 g2 g3 => hall b' (Liv.lt H.heap ⟨k, _, c', z1, g3, g1⟩)) (fun n hn _ => hall n hn) h
  · obtain ⟨n, hs⟩ := ri_block hR e
    rw [hsub] at ho
    have hp := H.heap.pl 0 _ .en v n ho hs
    obtain ⟨c1, hc1, H1⟩ := out_en hR hp hs
    refine (hE w _ ys n c1 v k hk0 hk1 hc1 H1).mono ?_
    rintro e' w' ⟨rfl, H2, hC⟩
    obtain ⟨g1, g2⟩ := back_en (ys := ys) (xs' := xs.set i y) H hu hτ ho hs hC H2 hc1 (by rw [flt_set1 τ hx hn (hy _ rfl)]) List.length_set
    exact ⟨rfl, g1, hC.mono fun m _ e => .inr ⟨_, .en, v, ho, e ▸ hs⟩, g2⟩
set_option maxRecDepth 100000 in
set_option maxHeartbeats 4000000 in
theorem l_markLsaS (hE : MarkE Try.prog 52) (w : World) (E : Nat → Prop) (t : TypeId) (xs : List Ls) (b c : Nat) (k : Int) (h0 : 0 ≤ k) (hk : k + cntL xs ≤ 4000000000) (hc : 0 < c) (hlen : xs.length ≤ 16777216) (H : UR w E t .uls xs b c (.slice (some ⟨b, 0, none⟩) xs.length c)) : Calls Try.prog 51 #[.slice (some ⟨b, 0, none⟩) xs.length c, .int .i64 k] w fun e w' => e = .returned (.int .i64 (k + cntL xs)) ∧ Mkd w w' E t .uls xs (mkL k xs) b c (.slice (some ⟨b, 0, none⟩) xs.length c) := by
  have H0 := Lib.hid H; clear H
  have Hk := Lib.hid hk; clear hk
  go_enter Try.func51, Try.ntmps51
  go_wp2_with fail
  go_loopw [1, 5] (fun kv iv wr => ∃ (i : Nat) (K : Int), i ≤ xs.length ∧ iv = .int .i64 i ∧ kv = .int .i64 K ∧ Hid (K = k + cntL (xs.take i)) ∧ Hid (Mkd w wr E t .uls xs (mkLn k xs i) b c (.slice (some ⟨b, 0, none⟩) xs.length c))) (fun _ i _ => xs.length - (intOf i).toNat)
  case atStart => exact ⟨0, k, Nat.zero_le _, rfl, rfl, by simp [Hid, cntL], by rw [mkLn_0]; exact Mkd.refl H0.out⟩
  case round =>
    obtain ⟨i, K, hi, rfl, rfl, HK, HM⟩ := hrel
    by_cases hlt : i < xs.length
    · obtain ⟨l, HL⟩ : ∃ l, Hid (xs[i]? = some l) := ⟨_, List.getElem?_eq_getElem hlt⟩
      have hKb : 0 ≤ K ∧ K + 2 + 2 * l.e.length ≤ 4000000000 := by
        have e1 := HK.out
        have e2 := Hk.out
        have e3 : cntL (xs.take i) + (2 + 2 * l.e.length) ≤ cntL xs := by
          have h1 : xs = xs.take i ++ l :: xs.drop (i + 1) := by
            have := (List.take_append_drop i xs).symm
            rw [show xs.drop i = l :: xs.drop (i + 1) by rw [List.drop_eq_getElem_cons hlt]; congr 1; exact (List.getElem?_eq_some_iff.1 HL.out).2] at this
            exact this
          have h2 : ∀ (a b : List Ls), cntL (a ++ b) = cntL a + cntL b := fun a b => by
            induction a with
            | nil => simp [cntL]
            | cons x r ih => simp only [List.cons_append, cntL, ih]; omega
          have h3 := congrArg cntL h1
          rw [h2] at h3
          simp only [cntL] at h3
          omega
        omega
      have hK0 := hKb.1
      have hK1 := hKb.2
      clear hKb
      obtain ⟨ys, HY⟩ : ∃ ys, Hid (ys = mkLn k xs i) := ⟨_, rfl⟩
      have HA : Hid (ys[i]? = some l) := by show ys[i]? = some l; rw [HY.out]; exact mkLn_at k xs i l HL.out
      have M0 : Mkd w wr E t .uls xs ys b c (.slice (some ⟨b, 0, none⟩) xs.length c) := by rw [HY.out]; exact HM.out
      obtain ⟨⟨v0, c0, _, _⟩, f0⟩ := ur_cell M0.1 hc (r := 0) HA.out rfl
      -- the first number
      have M1 := M0.trans (mkd_int (z := K) (y := (⟨K, l.s, l.e⟩ : Ls)) M0.1 hc (by intro h; cases h) HA.out (r := 0) (by decide) (by decide) rfl)
      have A1 : (ys.set i (⟨K, l.s, l.e⟩ : Ls))[i]? = some ⟨K, l.s, l.e⟩ := by rw [List.getElem?_set, if_pos rfl, if_pos (List.getElem?_eq_some_iff.1 HA.out).1]
      obtain ⟨⟨v1, c1, _, _⟩, f1⟩ := ur_cell M1.1 hc (r := 1) A1 rfl
      -- the second
      have M2 := M1.trans (mkd_int (z := K + 1) (y := (⟨K, K + 1, l.e⟩ : Ls)) M1.1 hc (by intro h; cases h) A1 (r := 1) (by decide) (by decide) rfl)
      have A2 : ((ys.set i (⟨K, l.s, l.e⟩ : Ls)).set i (⟨K, K + 1, l.e⟩ : Ls))[i]? = some ⟨K, K + 1, l.e⟩ := by rw [List.getElem?_set, if_pos rfl, if_pos (List.getElem?_eq_some_iff.1 A1).1]
      obtain ⟨⟨v2, c2, R2, O2⟩, _⟩ := ur_cell M2.1 hc (r := 2) A2 rfl
      have hcall := (mkd_en hE l_markEndS0 M2.1 hc rfl (by intro h; cases h) (k := K + 1 + 1) (y := (⟨K, K + 1, mkE (K + 1 + 1) l.e⟩ : Ls)) A2 R2 (O2 rfl rfl) rfl (fun zs e => by subst e; rfl) (by decide) (by omega) (by show K + 1 + 1 + 2 * (l.e.length : Int) ≤ _; omega)).mono (R' := fun e w' => e = .returned (.int .i64 (K + 1 + 1 + 2 * l.e.length)) ∧ Hid (Mkd w w' E t .uls xs (mkLn k xs (i + 1)) b c (.slice (some ⟨b, 0, none⟩) xs.length c))) (fun e w' ⟨h1, h2⟩ => ⟨h1, by
        have h3 := M2.trans h2
        rw [List.set_set, List.set_set, HY.out] at h3
        have h4 := mkLn_step k xs i l HL.out
        rw [← HK.out] at h4
        show Mkd w w' E t .uls xs (mkLn k xs (i + 1)) b c _
        rw [h4, show K + 2 = K + 1 + 1 by omega]
        exact h3⟩)
      simp only [sz, Nat.add_zero] at c0 f0 c1 f1 c2 hcall
      have HC := Lib.hid hcall
      clear hcall M0 M1 M2 A1 A2 R2 O2
      go_wp2_with (first | (go_at_call 52; refine HC.out.mono ?_; rintro e w' ⟨rfl, HM2⟩))
      go_roundw
      case rel =>
        refine ⟨i + 1, K + 1 + 1 + 2 * l.e.length, by omega, by go_num, rfl, ?_, HM2⟩
        show _ = _
        rw [List.take_add_one, HL.out]
        show _ = k + ↑(cntL (xs.take i ++ [l]))
        rw [cntL_app, HK.out]
        omega
      case measure => simp [intOf]; omega
    · obtain rfl : i = xs.length := by omega
      go_wp2_with fail
      go_ret
      refine ⟨by have := HK.out; rw [List.take_length] at this; rw [← this]; rfl, ?_⟩
      have := HM.out
      rw [mkLn_end] at this
      exact this
end Go.Proofs.Ytknkhdjhongklaa
end
section
namespace Go.Proofs.Ytknkhdjhongklaa
open Go.RowKit

section
variable {α : Type} (m : Int → α → α) (c : α → Nat)
def cntG : List α → Nat
  | [] => 0
  | l :: r => c l + cntG r
def mkG : Int → List α → List α
  | _, [] => []
  | k, l :: r => m k l :: mkG (k + c l) r
def mkGn (k : Int) (xs : List α) (i : Nat) : List α := mkG m c k (xs.take i) ++ xs.drop i
variable {m c}
theorem mkG_len : ∀ (k : Int) (xs : List α), (mkG m c k xs).length = xs.length
  | _, [] => rfl
  | k, _ :: r => by simp [mkG, mkG_len _ r]
theorem cntG_app (xs ys : List α) : cntG c (xs ++ ys) = cntG c xs + cntG c ys := by
  induction xs with
  | nil => simp [cntG]
  | cons x r ih => simp only [List.cons_append, cntG, ih]; omega
theorem mkG_app (xs : List α) (l : α) : ∀ k : Int, mkG m c k (xs ++ [l]) = mkG m c k xs ++ [m (k + cntG c xs) l] := by
  induction xs with
  | nil => intro k; simp [mkG, cntG]
  | cons x r ih =>
    intro k
    simp only [List.cons_append, mkG, ih, cntG]
    rw [show k + (c x : Int) + (cntG c r : Int) = k + ((c x + cntG c r : Nat) : Int) by omega]
theorem mkGn_0 (k : Int) (xs : List α) : mkGn m c k xs 0 = xs := by simp [mkGn, mkG]
theorem mkGn_end (k : Int) (xs : List α) : mkGn m c k xs xs.length = mkG m c k xs := by simp [mkGn]
theorem mkGn_at (k : Int) (xs : List α) (i : Nat) (l : α) (hl : xs[i]? = some l) : (mkGn m c k xs i)[i]? = some l := by
  have hi := (List.getElem?_eq_some_iff.1 hl).1
  unfold mkGn
  rw [List.getElem?_append_right (by rw [mkG_len, List.length_take]; omega), mkG_len, List.length_take, Nat.min_eq_left (by omega), Nat.sub_self, List.getElem?_drop]
  simpa using hl
theorem mkGn_step (k : Int) (xs : List α) (i : Nat) (l : α) (hl : xs[i]? = some l) : mkGn m c k xs (i + 1) = (mkGn m c k xs i).set i (m (k + cntG c (xs.take i)) l) := by
  have hi := (List.getElem?_eq_some_iff.1 hl).1
  unfold mkGn
  rw [List.take_add_one, hl]
  show mkG m c k (xs.take i ++ [l]) ++ _ = _
  rw [mkG_app, List.set_append_right _ _ (by rw [mkG_len, List.length_take]; omega), mkG_len, List.length_take, Nat.min_eq_left (by omega), Nat.sub_self, List.append_assoc]
  congr 1
  rw [show xs.drop i = l :: xs.drop (i + 1) by rw [List.drop_eq_getElem_cons hi]; congr 1; exact (List.getElem?_eq_some_iff.1 hl).2]
  rfl
theorem cntG_take (xs : List α) (i : Nat) (l : α) (hl : xs[i]? = some l) : cntG c (xs.take i) + c l ≤ cntG c xs ∧ cntG c (xs.take (i + 1)) = cntG c (xs.take i) + c l := by
  have hi := (List.getElem?_eq_some_iff.1 hl).1
  have h1 : xs.drop i = l :: xs.drop (i + 1) := by rw [List.drop_eq_getElem_cons hi]; congr 1; exact (List.getElem?_eq_some_iff.1 hl).2
  constructor
  · have h2 := congrArg (cntG c) (List.take_append_drop i xs)
    rw [cntG_app, h1] at h2
    simp only [cntG] at h2
    omega
  · rw [List.take_add_one, hl]
    show cntG c (xs.take i ++ [l]) = _
    rw [cntG_app]
    simp [cntG]
end
def mkD : Int → List (List Ls) → List (List Ls) := mkG mkL cntL
def cntD : List (List Ls) → Nat := cntG cntL
def mkP1 (k : Int) (p : Pk) : Pk := ⟨k, ⟨k + 1, k + 2, mkE (k + 3) p.p.e⟩⟩
def cntP1 (p : Pk) : Nat := 3 + 2 * p.p.e.length
def mkP : Int → List Pk → List Pk := mkG mkP1 cntP1
def cntP : List Pk → Nat := cntG cntP1

set_option maxRecDepth 100000 in
set_option maxHeartbeats 1000000 in
theorem l_markLsaS0 (A : Option Addr) (c : Nat) (k : Int) (w : World) : Calls Try.prog 51 #[.slice A 0 c, .int .i64 k] w fun e w' => e = .returned (.int .i64 k) ∧ Chg w w' (fun _ => False) := by
  go_enter Try.func51, Try.ntmps51
  go_wp2_with fail
  go_loopw [1, 5] (fun kv i wr => kv = .int .i64 k ∧ i = .int .i64 0 ∧ Chg w wr (fun _ => False)) (fun _ i _ => 0)
  case atStart => exact ⟨rfl, rfl, Chg.refl _ _⟩
  case round =>
    obtain ⟨rfl, rfl, hC⟩ := hrel
    go_wp2_with fail
    go_ret
    exact ⟨rfl, hC⟩
theorem mkd_none {w w' : World} {E : Nat → Prop} {t : TypeId} {τ : Ty} {xs : List (El τ)} {b c : Nat} {u : Value} (H : UR w E t τ xs b c u) (hC : Chg w w' (fun _ => False)) : Mkd w w' E t τ xs xs b c u := by
  have hall : ∀ n, n < w.heap.size → w'.heap[n]? = w.heap[n]? := fun n hn => hC.block n hn id
  have hk2 := H.heap.keepE (w' := w') hC.size (fun n hl => hall n (Liv.lt H.heap hl)) (fun n hn _ => hall n hn)
  refine ⟨⟨hk2, ?_⟩, hC.mono fun _ _ h => h.elim, fun k p σ v' h => ?_⟩
  · obtain ⟨g1, g2, g3, g4⟩ := H.val
    exact ⟨g1, g2, g3, fun t' τ' ws e => g4 t' τ' ws e⟩
  · have h' := h
    obtain ⟨t1, τ1, ws, b1, c2, us, junk, z1, z2, z3, _⟩ := h'
    exact occ_back H.heap z1 z1 (fun _ h => h) (fun b' c' g1 g2 g3 => hall b' (Liv.lt H.heap ⟨k, _, c', z1, g3, g1⟩)) (fun n hn _ => hall n hn) h
theorem mkd_ls (hE : MarkE Try.prog 52) {w : World} {E : Nat → Prop} {t : TypeId} {xs : List (List Ls)} {b c : Nat} {u : Value} (H : UR w E t .udb xs b c u) {i : Nat} {ys : List Ls} {v : Value} {k : Int} (hx : xs[i]? = some ys) (hR : Ri w E (fun _ => False) (.sl true .ls ys) v) (ho : OccV w [.row t .udb xs] [(b, c)] 0 (i, 0) .uls v) (hk0 : 0 ≤ k) (hk1 : k + cntL ys ≤ 4000000000) (hl : ys.length ≤ 16777216) : Calls Try.prog 51 #[v, .int .i64 k] w fun e w' => e = .returned (.int .i64 (k + cntL ys)) ∧ Mkd w w' E t .udb xs (xs.set i (mkL k ys)) b c u := by
  rcases Nat.eq_zero_or_pos ys.length with e | e
  · obtain rfl : ys = [] := List.length_eq_zero_iff.1 e
    obtain ⟨A, c1, rfl, _⟩ := ri_empty (τ := .ls) hR
    have hxy : xs.set i (mkL k []) = xs := by
      refine List.ext_getElem? fun j => ?_
      rw [List.getElem?_set]
      by_cases e : i = j
      · subst e; rw [if_pos rfl, if_pos (List.getElem?_eq_some_iff.1 hx).1, hx]; rfl
      · rw [if_neg e]
    refine (l_markLsaS0 A c1 k w).mono ?_
    rintro e' w' ⟨rfl, hC⟩
    rw [hxy]
    exact ⟨by simp [cntL], mkd_none H hC⟩
  · obtain ⟨n, hs⟩ := ri_block (τ := .ls) hR e
    obtain ⟨c1, hc1, H1, O1⟩ := out_ls H ho hs hx
    obtain ⟨_, _, _, A, hv, hA⟩ := H1.cells
    have hv' : v = .slice (some ⟨n, 0, none⟩) ys.length c1 := by rw [hv, hA hc1]
    subst hv'
    refine (l_markLsaS hE w _ _ ys n c1 k hk0 hk1 hc1 hl H1).mono ?_
    rintro e' w' ⟨rfl, H2, hC, hO⟩
    have hset : ∀ m, RowS w (tyT .uls) .uls ys n c1 m → m = n ∨ ∃ j, Occ w [.row t .udb xs] [(b, c)] 0 (i, j + 1) m := fun m h => by
      rcases h with ⟨_, e⟩ | ⟨p, σ, v', h1, h2⟩
      · exact .inl e
      · exact .inr ⟨p.1, σ, v', (O1 p σ v' h1).2, h2⟩
    obtain ⟨g1, g2⟩ := back_ls H ho hs (hC.mono fun m _ h => hset m h) H2 hc1 (fun p σ v' h => (O1 p σ v' (hO 0 p σ v' h)).2)
    refine ⟨rfl, g1, hC.mono fun m _ h => ?_, g2⟩
    rcases hset m h with e | ⟨j, h⟩
    · exact .inr ⟨(i, 0), .uls, _, ho, e ▸ hs⟩
    · exact .inr ⟨_, h⟩
set_option maxRecDepth 100000 in
set_option maxHeartbeats 4000000 in
theorem l_markLsaSS (hE : MarkE Try.prog 52) (w : World) (E : Nat → Prop) (t : TypeId) (xs : List (List Ls)) (b c : Nat) (k : Int) (h0 : 0 ≤ k) (hk : k + cntD xs ≤ 4000000000) (hc : 0 < c) (hlen : xs.length ≤ 16777216) (hls : ∀ ys ∈ xs, ys.length ≤ 16777216) (H : UR w E t .udb xs b c (.slice (some ⟨b, 0, none⟩) xs.length c)) : Calls Try.prog 33 #[.slice (some ⟨b, 0, none⟩) xs.length c, .int .i64 k] w fun e w' => e = .returned (.int .i64 (k + cntD xs)) ∧ Mkd w w' E t .udb xs (mkD k xs) b c (.slice (some ⟨b, 0, none⟩) xs.length c) := by
  have H0 := Lib.hid H; clear H
  have Hk := Lib.hid hk; clear hk
  have HLS := Lib.hid hls; clear hls
  go_enter Try.func33, Try.ntmps33
  go_wp2_with fail
  go_loopw [1, 5] (fun kv iv wr => ∃ (i : Nat) (K : Int), i ≤ xs.length ∧ iv = .int .i64 i ∧ kv = .int .i64 K ∧ Hid (K = k + cntD (xs.take i)) ∧ Hid (Mkd w wr E t .udb xs (mkGn mkL cntL k xs i) b c (.slice (some ⟨b, 0, none⟩) xs.length c))) (fun _ i _ => xs.length - (intOf i).toNat)
  case atStart => exact ⟨0, k, Nat.zero_le _, rfl, rfl, by simp [Hid, cntD, cntG], by rw [mkGn_0]; exact Mkd.refl H0.out⟩
  case round =>
    obtain ⟨i, K, hi, rfl, rfl, HK, HM⟩ := hrel
    by_cases hlt : i < xs.length
    · obtain ⟨l, HL⟩ : ∃ l, Hid (xs[i]? = some l) := ⟨_, List.getElem?_eq_getElem hlt⟩
      have hKb : 0 ≤ K ∧ K + cntL l ≤ 4000000000 := by
        have e1 := HK.out
        have e2 := Hk.out
        have e3 := (cntG_take (c := cntL) xs i l HL.out).1
        unfold cntD at e1 e2
        omega
      have hK0 := hKb.1
      have hK1 := hKb.2
      clear hKb
      obtain ⟨ys, HY⟩ : ∃ ys, Hid (ys = mkGn mkL cntL k xs i) := ⟨_, rfl⟩
      have HA : Hid (ys[i]? = some l) := by show ys[i]? = some l; rw [HY.out]; exact mkGn_at k xs i l HL.out
      have M0 : Mkd w wr E t .udb xs ys b c (.slice (some ⟨b, 0, none⟩) xs.length c) := by rw [HY.out]; exact HM.out
      obtain ⟨⟨v2, c2, R2, O2⟩, _⟩ := ur_cell (τ := .udb) M0.1 hc (r := 0) HA.out rfl
      have hz : i * sz .udb + 0 = i := by simp [sz]
      rw [hz] at c2 O2
      have hcall := (mkd_ls hE M0.1 HA.out R2 (O2 rfl rfl) hK0 hK1 (HLS.out l (List.mem_of_getElem? HL.out))).mono (R' := fun e w' => e = .returned (.int .i64 (K + cntL l)) ∧ Hid (Mkd w w' E t .udb xs (mkGn mkL cntL k xs (i + 1)) b c (.slice (some ⟨b, 0, none⟩) xs.length c))) (fun e w' ⟨h1, h2⟩ => ⟨h1, by
        have h3 := M0.trans h2
        rw [HY.out] at h3
        have h4 := mkGn_step (m := mkL) (c := cntL) k xs i l HL.out
        have h5 := HK.out
        unfold cntD at h5
        rw [← h5] at h4
        show Mkd w w' E t .udb xs (mkGn mkL cntL k xs (i + 1)) b c _
        rw [h4]
        exact h3⟩)
      have HC := Lib.hid hcall
      clear hcall M0 R2 O2 hz
      go_wp2_with (first | (go_at_call 51; refine HC.out.mono ?_; rintro e w' ⟨rfl, HM2⟩))
      go_roundw
      case rel =>
        refine ⟨i + 1, K + cntL l, by omega, by go_num, rfl, ?_, HM2⟩
        show _ = _
        have e1 := HK.out
        have e3 := (cntG_take (c := cntL) xs i l HL.out).2
        unfold cntD at e1 ⊢
        rw [e3, e1]
        omega
      case measure => simp [intOf]; omega
    · obtain rfl : i = xs.length := by omega
      go_wp2_with fail
      go_ret
      refine ⟨by have := HK.out; rw [List.take_length] at this; rw [← this]; rfl, ?_⟩
      have := HM.out
      rw [mkGn_end] at this
      exact this
end Go.Proofs.Ytknkhdjhongklaa
end
section
namespace Go.Proofs.Ytknkhdjhongklaa
open Go.RowKit

set_option maxRecDepth 100000 in
set_option maxHeartbeats 1000000 in
theorem l_markLsaSS0 (A : Option Addr) (c : Nat) (k : Int) (w : World) : Calls Try.prog 33 #[.slice A 0 c, .int .i64 k] w fun e w' => e = .returned (.int .i64 k) ∧ Chg w w' (fun _ => False) := by
  go_enter Try.func33, Try.ntmps33
  go_wp2_with fail
  go_loopw [1, 5] (fun kv i wr => kv = .int .i64 k ∧ i = .int .i64 0 ∧ Chg w wr (fun _ => False)) (fun _ i _ => 0)
  case atStart => exact ⟨rfl, rfl, Chg.refl _ _⟩
  case round =>
    obtain ⟨rfl, rfl, hC⟩ := hrel
    go_wp2_with fail
    go_ret
    exact ⟨rfl, hC⟩
set_option maxRecDepth 100000 in
set_option maxHeartbeats 1000000 in
theorem l_markPacketS0 (A : Option Addr) (c : Nat) (k : Int) (w : World) : Calls Try.prog 34 #[.slice A 0 c, .int .i64 k] w fun e w' => e = .returned (.int .i64 k) ∧ Chg w w' (fun _ => False) := by
  go_enter Try.func34, Try.ntmps34
  go_wp2_with fail
  go_loopw [1, 5] (fun kv i wr => kv = .int .i64 k ∧ i = .int .i64 0 ∧ Chg w wr (fun _ => False)) (fun _ i _ => 0)
  case atStart => exact ⟨rfl, rfl, Chg.refl _ _⟩
  case round =>
    obtain ⟨rfl, rfl, hC⟩ := hrel
    go_wp2_with fail
    go_ret
    exact ⟨rfl, hC⟩
theorem set_at {α : Type} {ys : List α} {i : Nat} {x y : α} (h : ys[i]? = some x) : (ys.set i y)[i]? = some y := by rw [List.getElem?_set, if_pos rfl, if_pos (List.getElem?_eq_some_iff.1 h).1]
set_option maxRecDepth 100000 in
set_option maxHeartbeats 4000000 in
theorem l_markPacketS (hE : MarkE Try.prog 52) (w : World) (E : Nat → Prop) (t : TypeId) (xs : List Pk) (b c : Nat) (k : Int) (h0 : 0 ≤ k) (hk : k + cntP xs ≤ 4000000000) (hc : 0 < c) (hlen : xs.length ≤ 16777216) (H : UR w E t .upk xs b c (.slice (some ⟨b, 0, none⟩) xs.length c)) : Calls Try.prog 34 #[.slice (some ⟨b, 0, none⟩) xs.length c, .int .i64 k] w fun e w' => e = .returned (.int .i64 (k + cntP xs)) ∧ Mkd w w' E t .upk xs (mkP k xs) b c (.slice (some ⟨b, 0, none⟩) xs.length c) := by
  have H0 := Lib.hid H; clear H
  have Hk := Lib.hid hk; clear hk
  go_enter Try.func34, Try.ntmps34
  go_wp2_with fail
  go_loopw [1, 5] (fun kv iv wr => ∃ (i : Nat) (K : Int), i ≤ xs.length ∧ iv = .int .i64 i ∧ kv = .int .i64 K ∧ Hid (K = k + cntP (xs.take i)) ∧ Hid (Mkd w wr E t .upk xs (mkGn mkP1 cntP1 k xs i) b c (.slice (some ⟨b, 0, none⟩) xs.length c))) (fun _ i _ => xs.length - (intOf i).toNat)
  case atStart => exact ⟨0, k, Nat.zero_le _, rfl, rfl, by simp [Hid, cntP, cntG], by rw [mkGn_0]; exact Mkd.refl H0.out⟩
  case round =>
    obtain ⟨i, K, hi, rfl, rfl, HK, HM⟩ := hrel
    by_cases hlt : i < xs.length
    · obtain ⟨l, HL⟩ : ∃ l, Hid (xs[i]? = some l) := ⟨_, List.getElem?_eq_getElem hlt⟩
      have hKb : 0 ≤ K ∧ K + 3 + 2 * l.p.e.length ≤ 4000000000 := by
        have e1 := HK.out
        have e2 := Hk.out
        have e3 := (cntG_take (c := cntP1) xs i l HL.out).1
        unfold cntP at e1 e2
        have e4 : cntP1 l = 3 + 2 * l.p.e.length := rfl
        omega
      have hK0 := hKb.1
      have hK1 := hKb.2
      clear hKb
      obtain ⟨ys, HY⟩ : ∃ ys, Hid (ys = mkGn mkP1 cntP1 k xs i) := ⟨_, rfl⟩
      have HA : Hid (ys[i]? = some l) := by show ys[i]? = some l; rw [HY.out]; exact mkGn_at k xs i l HL.out
      have M0 : Mkd w wr E t .upk xs ys b c (.slice (some ⟨b, 0, none⟩) xs.length c) := by rw [HY.out]; exact HM.out
      obtain ⟨⟨v0, c0, _, _⟩, f0⟩ := ur_cell M0.1 hc (r := 0) HA.out rfl
      have M1 := M0.trans (mkd_int (z := K) (y := (⟨K, ⟨l.p.o, l.p.s, l.p.e⟩⟩ : Pk)) M0.1 hc (by intro h; cases h) HA.out (r := 0) (by decide) (by decide) rfl)
      have A1 := set_at (y := (⟨K, ⟨l.p.o, l.p.s, l.p.e⟩⟩ : Pk)) HA.out
      obtain ⟨⟨v1, c1, _, _⟩, f1⟩ := ur_cell M1.1 hc (r := 1) A1 rfl
      have M2 := M1.trans (mkd_int (z := K + 1) (y := (⟨K, ⟨K + 1, l.p.s, l.p.e⟩⟩ : Pk)) M1.1 hc (by intro h; cases h) A1 (r := 1) (by decide) (by decide) rfl)
      have A2 := set_at (y := (⟨K, ⟨K + 1, l.p.s, l.p.e⟩⟩ : Pk)) A1
      obtain ⟨⟨v2, c2, _, _⟩, f2⟩ := ur_cell M2.1 hc (r := 2) A2 rfl
      have M3 := M2.trans (mkd_int (z := K + 1 + 1) (y := (⟨K, ⟨K + 1, K + 1 + 1, l.p.e⟩⟩ : Pk)) M2.1 hc (by intro h; cases h) A2 (r := 2) (by decide) (by decide) rfl)
      have A3 := set_at (y := (⟨K, ⟨K + 1, K + 1 + 1, l.p.e⟩⟩ : Pk)) A2
      obtain ⟨⟨v3, c3, R3, O3⟩, _⟩ := ur_cell M3.1 hc (r := 3) A3 rfl
      have hcall := (mkd_en hE l_markEndS0 M3.1 hc rfl (by intro h; cases h) (k := K + 1 + 1 + 1) (y := (⟨K, ⟨K + 1, K + 1 + 1, mkE (K + 1 + 1 + 1) l.p.e⟩⟩ : Pk)) A3 R3 (O3 rfl rfl) rfl (fun zs e => by subst e; rfl) (by decide) (by omega) (by show K + 1 + 1 + 1 + 2 * (l.p.e.length : Int) ≤ _; omega)).mono (R' := fun e w' => e = .returned (.int .i64 (K + 1 + 1 + 1 + 2 * l.p.e.length)) ∧ Hid (Mkd w w' E t .upk xs (mkGn mkP1 cntP1 k xs (i + 1)) b c (.slice (some ⟨b, 0, none⟩) xs.length c))) (fun e w' ⟨h1, h2⟩ => ⟨h1, by
        have h3 := M3.trans h2
        rw [List.set_set, List.set_set, List.set_set, HY.out] at h3
        have h4 := mkGn_step (m := mkP1) (c := cntP1) k xs i l HL.out
        have h5 := HK.out
        unfold cntP at h5
        rw [← h5] at h4
        show Mkd w w' E t .upk xs (mkGn mkP1 cntP1 k xs (i + 1)) b c _
        rw [h4]
        unfold mkP1
        rw [show K + 2 = K + 1 + 1 by omega, show K + 3 = K + 1 + 1 + 1 by omega]
        exact h3⟩)
      simp only [sz, Nat.add_zero] at c0 f0 c1 f1 c2 f2 c3 hcall
      have HC := Lib.hid hcall
      clear hcall M0 M1 M2 M3 A1 A2 A3 R3 O3
      go_wp2_with (first | (go_at_call 52; refine HC.out.mono ?_; rintro e w' ⟨rfl, HM2⟩))
      go_roundw
      case rel =>
        refine ⟨i + 1, K + 1 + 1 + 1 + 2 * l.p.e.length, by omega, by go_num, rfl, ?_, HM2⟩
        show _ = _
        have e1 := HK.out
        have e3 := (cntG_take (c := cntP1) xs i l HL.out).2
        unfold cntP at e1 ⊢
        have e4 : cntP1 l = 3 + 2 * l.p.e.length := rfl
        rw [e3, e1, e4]
        omega
      case measure => simp [intOf]; omega
    · obtain rfl : i = xs.length := by omega
      go_wp2_with fail
      go_ret
      refine ⟨by have := HK.out; rw [List.take_length] at this; rw [← this]; rfl, ?_⟩
      have := HM.out
      rw [mkGn_end] at this
      exact this
def MarkR (P : Program) (f : FuncId) (t : TypeId) (τ : Ty) (mk : Int → List (El τ) → List (El τ)) (cnt : List (El τ) → Nat) (ok : List (El τ) → Prop) : Prop := ∀ (w : World) (E : Nat → Prop) (xs : List (El τ)) (b c : Nat) (u : Value) (k : Int), 0 ≤ k → k + cnt xs ≤ 4000000000 → xs.length ≤ 16777216 → ok xs → UR w E t τ xs b c u → Calls P f #[u, .int .i64 k] w fun e w' => e = .returned (.int .i64 (k + cnt xs)) ∧ Mkd w w' E t τ xs (mk k xs) b c u
theorem markR_D (hE : MarkE Try.prog 52) (t : TypeId) : MarkR Try.prog 33 t .udb mkD cntD (fun xs => ∀ ys ∈ xs, List.length (α := Ls) ys ≤ 16777216) := fun w E xs b c u k h0 hk hl hok H => by
  obtain ⟨h1, h2, h3, A, rfl, h4⟩ := H.cells
  rcases Nat.eq_zero_or_pos c with hc | hc
  · obtain rfl := h1 hc
    refine (l_markLsaSS0 A c k w).mono ?_
    rintro e w' ⟨rfl, hC⟩
    exact ⟨by simp [cntD, cntG], mkd_none H hC⟩
  · obtain rfl := h4 hc
    exact l_markLsaSS hE w E t xs b c k h0 hk hc hl hok H
theorem markR_P (hE : MarkE Try.prog 52) (t : TypeId) : MarkR Try.prog 34 t .upk mkP cntP (fun _ => True) := fun w E xs b c u k h0 hk hl _ H => by
  obtain ⟨h1, h2, h3, A, rfl, h4⟩ := H.cells
  rcases Nat.eq_zero_or_pos c with hc | hc
  · obtain rfl := h1 hc
    refine (l_markPacketS0 A c k w).mono ?_
    rintro e w' ⟨rfl, hC⟩
    exact ⟨by simp [cntP, cntG], mkd_none H hC⟩
  · obtain rfl := h4 hc
    exact l_markPacketS hE w E t xs b c k h0 hk hc hl H
end Go.Proofs.Ytknkhdjhongklaa
end
section
namespace Go.Proofs.Ytknkhdjhongklaa
open Go.RowKit

def MarkG (P : Program) (f : FuncId) (mk : Int → List Lk → List Lk) : Prop := ∀ (w : World) (E : Nat → Prop) (n : Int) (xs : List Lk) (b c : Nat) (u : Value) (k : Int), 0 ≤ k → k + 3 * xs.length ≤ 4000000000 → xs.length ≤ 16777216 → UR w E 55 .lk xs b c u → Calls P f #[.agg #[.int .i64 n, u], .int .i64 k] w fun e w' => e = .returned (.int .i64 (k + 3 * xs.length)) ∧ Mkd w w' E 55 .lk xs (mk k xs) b c u
def WVl (v : Value) (n : Int) (u0 u1 u2 u3 u4 : Value) : Prop := v = .agg #[.int .i64 n, u0, u1, u2, u3, u4]
theorem WM.vals {w : World} {lo hi : Nat} {W : Wl} {v : Value} (h : WM w lo hi W v) : ∃ u0 u1 u2 u3 u4, WVl v W.1 u0 u1 u2 u3 u4 := by
  obtain ⟨_, β, _, _, us, rfl, h3⟩ := h
  obtain ⟨x0, r, rfl, g0, h3⟩ := h3.cons_inv
  obtain ⟨u1, r, rfl, g1, h3⟩ := h3.cons_inv
  obtain ⟨u2, r, rfl, g2, h3⟩ := h3.cons_inv
  obtain ⟨u3, r, rfl, g3, h3⟩ := h3.cons_inv
  obtain ⟨u4, r, rfl, g4, h3⟩ := h3.cons_inv
  obtain ⟨u5, r, rfl, g5, h3⟩ := h3.cons_inv
  obtain rfl := h3.nil_inv
  have g0 : Ri w _ _ (iI W.1) x0 := g0
  cases g0
  exact ⟨u1, u2, u3, u4, u5, rfl⟩
theorem WM.row {w : World} {lo hi : Nat} {W W' : Wl} {v : Value} {n : Int} {us : List Value} (h : WM w lo hi W v) (hv : v = .agg (Value.int .i64 n :: us).toArray) {k : Nat} {t : TypeId} {τ : Ty} {xs xs' : List (El τ)} {u : Value} (hk : (wOs W)[k]? = some (.row t τ xs)) (hu : us[k]? = some u) (hW : wOs W' = (wOs W).set k (.row t τ xs')) (hn : W'.1 = W.1) (hlen : xs'.length = xs.length) : ∃ E b c, UR w E t τ xs b c u ∧ ∀ w', Mkd w w' E t τ xs xs' b c u → WM w' lo hi W' v ∧ Chg w w' (fun m => lo ≤ m ∧ m < hi) := by
  obtain ⟨h0, β, h1, h2, vs, hvs, h3⟩ := h
  have hvs : (Value.int .i64 n :: us).toArray = vs.toArray := by rw [hv] at hvs; injection hvs
  have hvs : Value.int .i64 n :: us = vs := by simpa using congrArg Array.toList hvs
  subst hvs
  have hkl : k < 5 := by
    have := (List.getElem?_eq_some_iff.1 hk).1
    simpa [wOs] using this
  have hc : C1 w (fun b => Liv (wOs W) β b ∨ (b < lo ∨ hi ≤ b)) (fun _ => False) (wOs W) β (.own k) u := by
    have hd : [PV.im (iI W.1), .own 0, .own 1, .own 2, .own 3, .own 4][k + 1]? = some (.own k) := by
      match k, hkl with
      | 0, _ => rfl
      | 1, _ => rfl
      | 2, _ => rfl
      | 3, _ => rfl
      | 4, _ => rfl
    exact h3.2 (k + 1) _ u hd hu
  have hp : ∀ o ∈ wOs W, plainO o = true := fun o ho => by
    simp only [wOs, List.mem_cons, List.not_mem_nil, or_false] at ho
    rcases ho with rfl | rfl | rfl | rfl | rfl <;> rfl
  obtain ⟨b, c, hβ, H⟩ := top_out h1 hk (hp _ (List.mem_of_getElem? hk)) hc
  refine ⟨_, b, c, H, fun w' M => ?_⟩
  have hin : ∀ m, m < w.heap.size → RowS w t τ xs b c m → lo ≤ m ∧ m < hi := fun m _ hm => by
    rcases hm with ⟨hc, rfl⟩ | ⟨p, σ, v', z1, z2⟩
    · exact h2 m ⟨k, _, c, hk, hc, hβ⟩
    · have := (occ_at h1.ok (occ_one hk hβ z1).2 z2).2
      omega
  have hC := M.2.1.mono hin
  have hH := top_back h1 hp hk hβ M.1 M.2.1 (fun p σ v' h => M.2.2 0 p σ v' h)
  have hlv : ∀ b', Liv (wOs W') β b' → Liv (wOs W) β b' := fun b' ⟨j, o, c', z1, z2, z3⟩ => by
    rw [hW, List.getElem?_set] at z1
    by_cases e : k = j
    · subst e
      rw [if_pos rfl, if_pos (List.getElem?_eq_some_iff.1 hk).1] at z1
      injection z1 with z1
      subst z1
      exact ⟨k, _, c', hk, z2, z3⟩
    · rw [if_neg e] at z1
      exact ⟨j, o, c', z1, z2, z3⟩
  have hlv' : ∀ b', Liv (wOs W) β b' → Liv (wOs W') β b' := fun b' ⟨j, o, c', z1, z2, z3⟩ => by
    by_cases e : k = j
    · subst e
      rw [hk] at z1
      injection z1 with z1
      subst z1
      exact ⟨k, .row t τ xs', c', by rw [hW, List.getElem?_set, if_pos rfl, if_pos (List.getElem?_eq_some_iff.1 hk).1], z2, z3⟩
    · exact ⟨j, o, c', by rw [hW, List.getElem?_set, if_neg e]; exact z1, z2, z3⟩
  have hEE : (fun b => Liv (wOs W) β b ∨ (b < lo ∨ hi ≤ b)) = (fun b => Liv (wOs W') β b ∨ (b < lo ∨ hi ≤ b)) := by
    funext b'
    exact propext ⟨fun h => h.imp (hlv' b') id, fun h => h.imp (hlv b') id⟩
  rw [hEE, ← hW] at hH
  refine ⟨⟨Nat.le_trans h0 hC.size, β, hH, fun b' h => h2 b' (hlv b' h), _, hv, ⟨h3.1, fun i x u' hx hu' => ?_⟩⟩, hC⟩
  have hkeep : Hle (wOs W) (wOs W') := ⟨by rw [hW, List.length_set]; exact Nat.le_refl _, fun j t' τ' ws hj e => by
    rw [hW, List.getElem?_set] at e
    by_cases e2 : k = j
    · subst e2
      rw [if_pos rfl, if_pos (List.getElem?_eq_some_iff.1 hk).1] at e
      injection e with e
      injection e with e3 e4 e5
      subst e3 e4
      have e5 := eq_of_heq e5
      subst e5
      exact .inl ⟨xs, hk, hlen.symm⟩
    · rw [if_neg e2] at e
      exact .inl ⟨ws, e, rfl⟩, fun j hj e => by
    unfold isV at *
    rw [hW, List.getElem?_set] at e
    by_cases e2 : k = j
    · rw [if_pos e2, if_pos (List.getElem?_eq_some_iff.1 hk).1] at e; cases e
    · rw [if_neg e2] at e; exact e⟩
  rw [hn] at hx
  have hc1 := h3.2 i x u' hx hu'
  rw [hEE] at hc1
  have hm := List.mem_of_getElem? hx
  simp only [List.mem_cons, List.not_mem_nil, or_false] at hm
  rcases hm with rfl | rfl | rfl | rfl | rfl | rfl
  · have hc1 : Ri w _ _ (iI W.1) u' := hc1
    cases hc1
    exact Ri.s _
  all_goals exact C1.keep (w := w) (w' := w) (fun _ _ _ => rfl) (Nat.le_refl _) (fun _ _ h => h) (fun _ _ _ h => h) hkeep (fun _ _ h => h) hc1
def cntW (W : Wl) : Nat := 3 * W.2.1.length + W.2.2.1.length + W.2.2.2.1.length + cntD W.2.2.2.2.1 + cntP W.2.2.2.2.2
def mkW (mkg : Int → List Lk → List Lk) (mkb : Int → List Bool → List Bool) (mki : Int → List Int → List Int) (k : Int) (W : Wl) : Wl :=
  (W.1, mkg k W.2.1, mkb (k + 3 * W.2.1.length) W.2.2.1, mki (k + 3 * W.2.1.length + W.2.2.1.length) W.2.2.2.1, mkD (k + 3 * W.2.1.length + W.2.2.1.length + W.2.2.2.1.length) W.2.2.2.2.1, mkP (k + 3 * W.2.1.length + W.2.2.1.length + W.2.2.2.1.length + cntD W.2.2.2.2.1) W.2.2.2.2.2)
theorem mkD_len (k : Int) (xs : List (List Ls)) : (mkD k xs).length = xs.length := mkG_len _ _
theorem mkP_len (k : Int) (xs : List Pk) : (mkP k xs).length = xs.length := mkG_len _ _
theorem mark_row {P : Program} {f : FuncId} {t : TypeId} {τ : Ty} {mk : Int → List (El τ) → List (El τ)} {cnt : List (El τ) → Nat} {ok : List (El τ) → Prop} (hM : MarkR P f t τ mk cnt ok) (hml : ∀ k xs, (mk k xs).length = xs.length) {w wa : World} {lo hi B : Nat} {W W' : Wl} {v : Value} {n : Int} {us cs : List Value} {k : Nat} {xs : List (El τ)} {u : Value} {K : Int} (hC : Hid (Chg w wa (fun m => lo ≤ m ∧ m < hi))) (H : Hid (WM wa lo hi W v)) (hv : v = .agg (Value.int .i64 n :: us).toArray) (hk : (wOs W)[k]? = some (.row t τ xs)) (hu : us[k]? = some u) (hW : wOs W' = (wOs W).set k (.row t τ (mk K xs))) (hn : W'.1 = W.1) (hB : hi ≤ B) (hb : ∀ (j : Nat) x, cs[j]? = some x → wa.cell? ⟨B, j, none⟩ = some x) (h0 : 0 ≤ K) (hK : K + cnt xs ≤ 4000000000) (hl : xs.length ≤ 16777216) (hok : ok xs) : Calls P f #[u, .int .i64 K] wa fun e w' => e = .returned (.int .i64 (K + cnt xs)) ∧ Hid (WM w' lo hi W' v) ∧ Hid (Chg w w' (fun m => lo ≤ m ∧ m < hi)) ∧ ∀ (j : Nat) x, cs[j]? = some x → w'.cell? ⟨B, j, none⟩ = some x := by
  obtain ⟨E, b, c, H1, H2⟩ := H.out.row hv hk hu hW hn (hml K xs)
  refine (hM wa E xs b c u K h0 hK hl hok H1).mono ?_
  rintro e w' ⟨rfl, M⟩
  obtain ⟨H3, C3⟩ := H2 w' M
  refine ⟨rfl, H3, hC.out.trans C3, fun j x hx => ?_⟩
  have := hb j x hx
  exact (World.cell?_of_block (a := ⟨B, j, none⟩) (C3.block B (cell_lt this) (by omega))).trans this
theorem mark_graph {P : Program} {f : FuncId} {mk : Int → List Lk → List Lk} (hM : MarkG P f mk) (hml : ∀ k xs, (mk k xs).length = xs.length) {w wa : World} {lo hi B : Nat} {W : Wl} {v : Value} {n : Int} {us cs : List Value} {u : Value} {K : Int} (hC : Hid (Chg w wa (fun m => lo ≤ m ∧ m < hi))) (H : Hid (WM wa lo hi W v)) (hv : v = .agg (Value.int .i64 n :: us).toArray) (hu : us[0]? = some u) (hB : hi ≤ B) (hb : ∀ (j : Nat) x, cs[j]? = some x → wa.cell? ⟨B, j, none⟩ = some x) (h0 : 0 ≤ K) (hK : K + 3 * W.2.1.length ≤ 4000000000) (hl : W.2.1.length ≤ 16777216) : Calls P f #[.agg #[.int .i64 n, u], .int .i64 K] wa fun e w' => e = .returned (.int .i64 (K + 3 * W.2.1.length)) ∧ Hid (WM w' lo hi (W.1, mk K W.2.1, W.2.2) v) ∧ Hid (Chg w w' (fun m => lo ≤ m ∧ m < hi)) ∧ ∀ (j : Nat) x, cs[j]? = some x → w'.cell? ⟨B, j, none⟩ = some x := by
  obtain ⟨E, b, c, H1, H2⟩ := H.out.row (W' := (W.1, mk K W.2.1, W.2.2)) (k := 0) hv rfl hu rfl rfl (hml K W.2.1)
  refine (hM wa E n W.2.1 b c u K h0 hK hl H1).mono ?_
  rintro e w' ⟨rfl, M⟩
  obtain ⟨H3, C3⟩ := H2 w' M
  refine ⟨rfl, H3, hC.out.trans C3, fun j x hx => ?_⟩
  have := hb j x hx
  exact (World.cell?_of_block (a := ⟨B, j, none⟩) (C3.block B (cell_lt this) (by omega))).trans this
theorem box_cells (w : World) (cs : List Value) (t : TypeId) : ∀ (j : Nat) x, cs[j]? = some x → (w.alloc (.cells cs.toArray t)).cell? ⟨w.heap.size, j, none⟩ = some x := fun j x hx => by
  rw [cell_of_row _ _ _ _ _ _ (heap_alloc_new w (.cells cs.toArray t)), List.getElem?_toArray]; exact hx
set_option maxRecDepth 100000 in
set_option maxHeartbeats 4000000 in
theorem l_markWorld {mkg : Int → List Lk → List Lk} {mkb : Int → List Bool → List Bool} {mki : Int → List Int → List Int} (hG : MarkG Try.prog 10 mkg) (hB : MarkR Try.prog 31 4 .bool mkb List.length (fun _ => True)) (hI : MarkR Try.prog 32 3 .int mki List.length (fun _ => True)) (hE : MarkE Try.prog 52)
    (lg : ∀ k xs, (mkg k xs).length = xs.length) (lb : ∀ k xs, (mkb k xs).length = xs.length) (li : ∀ k xs, (mki k xs).length = xs.length) (w : World) (lo hi : Nat) (W : Wl) (v : Value) (k : Int) (h0 : 0 ≤ k) (hk : k + cntW W ≤ 4000000000) (hl : W.2.1.length ≤ 16777216 ∧ W.2.2.1.length ≤ 16777216 ∧ W.2.2.2.1.length ≤ 16777216 ∧ W.2.2.2.2.1.length ≤ 16777216 ∧ W.2.2.2.2.2.length ≤ 16777216 ∧ ∀ ys ∈ W.2.2.2.2.1, List.length (α := Ls) ys ≤ 16777216) (H : WM w lo hi W v) : Calls Try.prog 11 #[v, .int .i64 k] w fun e w' => e = .returned (.int .i64 (k + cntW W)) ∧ WM w' lo hi (mkW mkg mkb mki k W) v ∧ Chg w w' (fun m => lo ≤ m ∧ m < hi) := by
  obtain ⟨u0, u1, u2, u3, u4, hv⟩ := H.vals
  unfold WVl at hv
  obtain ⟨n, ls, up, sq, db, net⟩ := W
  dsimp only at hv hl
  obtain ⟨l0, l1, l2, l3, l4, l5⟩ := hl
  unfold cntW at hk ⊢
  dsimp only at hk ⊢
  have HH := Lib.hid H
  have hhi := H.1
  clear H
  subst hv
  have hv0 : Value.agg #[.int .i64 n, u0, u1, u2, u3, u4] = .agg (Value.int .i64 n :: [u0, u1, u2, u3, u4]).toArray := rfl
  -- the box
  have hba : ∀ (j : Nat) x, [Value.int .i64 n, u0, u1, u2, u3, u4][j]? = some x → (w.alloc (.cells #[.int .i64 n, u0, u1, u2, u3, u4] 34)).cell? ⟨w.heap.size, j, none⟩ = some x := box_cells w _ _
  have hbl : Below w.heap.size w (w.alloc (.cells #[.int .i64 n, u0, u1, u2, u3, u4] 34)) := (Below.refl _ _).alloc (Nat.le_refl _) _
  have HA : Hid (WM (w.alloc (.cells #[.int .i64 n, u0, u1, u2, u3, u4] 34)) lo hi (n, ls, up, sq, db, net) (.agg #[.int .i64 n, u0, u1, u2, u3, u4])) := HH.out.keep hbl.size (fun b h1 h2 => hbl.block b (by omega))
  have CA : Hid (Chg w (w.alloc (.cells #[.int .i64 n, u0, u1, u2, u3, u4] 34)) (fun m => lo ≤ m ∧ m < hi)) := ⟨hbl.os, hbl.tape, hbl.output, hbl.size, fun m hm _ => hbl.block m hm⟩
  have c1 := Lib.hid (mark_graph hG lg CA HA hv0 rfl hhi hba h0 (by dsimp only; omega) l0)
  have Hb := Lib.hid hB; have Hi := Lib.hid hI; have He := Lib.hid hE
  have H5 := Lib.hid l5
  clear hba hbl HA CA hG hB hI hE l5 HH
  go_enter Try.func11, Try.ntmps11
  go_wp2_with fail
  refine Calls.mono c1.out ?_
  rintro e w1 ⟨rfl, H1, C1, b1⟩
  clear c1
  try dsimp only at H1
  have f1 := b1 2 u1 rfl
  have c2 := Lib.hid (mark_row (W' := (n, mkg k ls, mkb (k + 3 * ls.length) up, sq, db, net)) Hb.out lb C1 H1 (us := [u0, u1, u2, u3, u4]) rfl (k := 1) (xs := up) rfl rfl rfl rfl hhi b1 (by omega) (by omega) l1 trivial)
  clear H1 C1 b1
  try dsimp only
  go_wp2_with fail
  refine Calls.mono c2.out ?_
  rintro e w2 ⟨rfl, H2, C2, b2⟩
  clear c2 f1
  have f2 := b2 3 u2 rfl
  have c3 := Lib.hid (mark_row (W' := (n, mkg k ls, mkb (k + 3 * ls.length) up, mki (k + 3 * ls.length + up.length) sq, db, net)) Hi.out li C2 H2 (us := [u0, u1, u2, u3, u4]) rfl (k := 2) (xs := sq) rfl rfl rfl rfl hhi b2 (by omega) (by omega) l2 trivial)
  clear H2 C2 b2
  try dsimp only
  go_wp2_with fail
  refine Calls.mono c3.out ?_
  rintro e w3 ⟨rfl, H3, C3, b3⟩
  clear c3 f2
  have f3 := b3 4 u3 rfl
  have c4 := Lib.hid (mark_row (W' := (n, mkg k ls, mkb (k + 3 * ls.length) up, mki (k + 3 * ls.length + up.length) sq, mkD (k + 3 * ls.length + up.length + sq.length) db, net)) (markR_D He.out _) mkD_len C3 H3 (us := [u0, u1, u2, u3, u4]) rfl (k := 3) (xs := db) rfl rfl rfl rfl hhi b3 (by omega) (by omega) l3 H5.out)
  clear H3 C3 b3
  try dsimp only
  go_wp2_with fail
  refine Calls.mono c4.out ?_
  rintro e w4 ⟨rfl, H4, C4, b4⟩
  clear c4 f3
  have f4 := b4 5 u4 rfl
  have c5 := Lib.hid (mark_row (W' := (n, mkg k ls, mkb (k + 3 * ls.length) up, mki (k + 3 * ls.length + up.length) sq, mkD (k + 3 * ls.length + up.length + sq.length) db, mkP (k + 3 * ls.length + up.length + sq.length + cntD db) net)) (markR_P He.out _) mkP_len C4 H4 (us := [u0, u1, u2, u3, u4]) rfl (k := 4) (xs := net) rfl rfl rfl rfl hhi b4 (by omega) (by omega) l4 trivial)
  clear H4 C4 b4
  try dsimp only
  go_wp2_with fail
  refine Calls.mono c5.out ?_
  rintro e w5 ⟨rfl, H5', C5, _⟩
  clear c5 f4
  try dsimp only
  go_wp2_with fail
  go_ret
  refine ⟨ret_int (by omega), H5'.out, C5.out⟩
end Go.Proofs.Ytknkhdjhongklaa
end
section
namespace Go.Proofs.Ytknkhdjhongklaa
open Go.RowKit

theorem mark_gc {P : Program} {f : FuncId} {e : Entry} (hg : GC P f e) {w : World} {E : Nat → Prop} {t : TypeId} {τ : Ty} {xs xs' : List (El τ)} {b c : Nat} {u : Value} {k k' : Int} {d : PV} {v : Value} {s : HL e.ah} {r : HL e.rh} (hs : e.sh s = some r) (hf : e.AS.fill (up e.ah s) = some ([d, .im (iI k)], [.row t τ xs])) (hr : e.RS.fill (up e.rh r) = some ([.im (iI k')], [.row t τ xs'])) (hfl : τ.flat = true) (hlen : xs'.length = xs.length) (hG : ∀ h β, Glb w h β) (H : UR w E t τ xs b c u) (hd : Cv w (Liv [.row t τ xs] [(b, c)]) (fun _ => False) [.row t τ xs] [(b, c)] d v) : Calls P f #[v, .int .i64 k] w fun ex w' => ex = .returned (.int .i64 k') ∧ UR w' E t τ xs' b c u ∧ Chg w w' (fun m => 0 < c ∧ m = b) := by
  have hu : τ.u = false := by cases τ <;> first | rfl | cases hfl
  have h0 := H.heap.down (E' := Liv [.row t τ xs] [(b, c)]) (fun n hn => H.heap.sub n hn) (fun _ h => h)
  refine (hg s r hs _ _ hf _ _ hr w (fun _ => False) [(b, c)] [v, .int .i64 k] (fun _ h => h.elim) h0 (F2.cons hd (F2.cons (Ri.s _) F2.nil)) (hG _ _)).mono ?_
  rintro ex w' ⟨u', β', rfl, hst, hh, hc⟩
  have hβ0 := hst.beta 0 (b, c) rfl
  have hβ : β' = [(b, c)] := by
    have hl := hh.len
    match β', hl, hβ0 with
    | [p], _, h => simp at h; rw [h]
  subst hβ
  have hu' : u' = .int .i64 k' := by
    have hc : Ri w' _ _ (iI k') u' := hc
    cases hc; rfl
  have noocc : ∀ {w2 : World} {ys : List (El τ)} {β2 : List (Nat × Nat)} {j : Nat} {p : Nat × Nat} {σ : Ty} {x : Value}, ¬ OccV w2 [.row t τ ys] β2 j p σ x := fun {w2 ys β2 j p σ x} ⟨t1, τ1, zs, b1, c1, us1, junk, z1, _, _, _, _, z6⟩ => by
    obtain ⟨_, e⟩ := one_row z1
    have e := e.symm
    injection e with e1 e2 e3
    subst e1 e2
    rcases z6 with ⟨z, _⟩ | ⟨rfl, _⟩
    · rw [hu] at z; cases z
    · cases hu
  refine ⟨by rw [hu'], ⟨hh.up (fun o ho => ?_) (fun n hn => H.heap.sub n (liv_one hn)) (fun j p n ⟨σ, x, z, _⟩ => (noocc z).elim), ?_⟩, hst.os, hst.tape, hst.output, hst.size, fun n hn hs => hst.block n hn fun ⟨j, o, c1, z1, z2, z3⟩ => ?_⟩
  · simp only [List.mem_cons, List.not_mem_nil, or_false] at ho
    subst ho
    simp [plainO, hfl]
  · obtain ⟨g1, g2, g3, g4⟩ := H.val
    refine ⟨by simp, by simp [isV], g3, fun t2 τ2 ws e => ?_⟩
    obtain ⟨_, e2⟩ := one_row e
    have e2 := e2.symm
    injection e2 with e3 e4 e5
    subst e3 e4
    have e5 := eq_of_heq e5
    subst e5
    obtain ⟨b1, c1, A, q1, q2, q3, q4⟩ := g4 t τ xs rfl
    exact ⟨b1, c1, A, q1, by rw [hlen]; exact q2, q3, fun _ => trivial⟩
  · obtain ⟨rfl, rfl⟩ := one_row z1
    simp at z3
    obtain ⟨rfl, rfl⟩ := z3
    exact hs ⟨z2, rfl⟩
theorem mkd_flat {w w' : World} {E : Nat → Prop} {t : TypeId} {τ : Ty} {xs xs' : List (El τ)} {b c : Nat} {u : Value} (hfl : τ.flat = true) (H : UR w' E t τ xs' b c u) (hC : Chg w w' (fun m => 0 < c ∧ m = b)) : Mkd w w' E t τ xs xs' b c u := by
  have hu : τ.u = false := by cases τ <;> first | rfl | cases hfl
  refine ⟨H, hC.mono fun _ _ h => .inl h, fun j p σ x ⟨t1, τ1, zs, b1, c1, us1, junk, z1, _, _, _, _, z6⟩ => ?_⟩
  obtain ⟨_, e⟩ := one_row z1
  have e := e.symm
  injection e with e1 e2 e3
  subst e1 e2
  rcases z6 with ⟨z, _⟩ | ⟨rfl, _⟩
  · rw [hu] at z; cases z
  · cases hu
theorem own_cv {w : World} {E : Nat → Prop} {t : TypeId} {τ : Ty} {xs : List (El τ)} {b c : Nat} {u : Value} (H : UR w E t τ xs b c u) : C1 w (Liv [.row t τ xs] [(b, c)]) (fun _ => False) [.row t τ xs] [(b, c)] (.own 0) u := by
  obtain ⟨g1, g2, g3, g4⟩ := H.val
  exact ⟨g1, g2, g3, fun t' τ' ws e => g4 t' τ' ws e⟩
end Go.Proofs.Ytknkhdjhongklaa
end
section
namespace Go.Proofs.Ytknkhdjhongklaa
open Go.RowKit

structure It where
  lo : Nat
  hi : Nat
  Q : World → Prop
def It.kept (i : It) : Prop := ∀ w w' : World, w.heap.size ≤ w'.heap.size → i.hi ≤ w.heap.size → (∀ b, i.lo ≤ b → b < i.hi → w'.heap[b]? = w.heap[b]?) → i.Q w → i.Q w'
def It.ok (i : It) (w : World) : Prop := i.kept ∧ i.hi ≤ w.heap.size ∧ i.Q w
def LS (w0 w : World) (L : List It) : Prop := Below w0.heap.size w0 w ∧ ∀ i ∈ L, i.ok w
def BXv (w : World) (B : Nat) (v : Value) : Prop := ∀ cs : List Value, v = .agg cs.toArray → ∀ (j : Nat) x, cs[j]? = some x → w.cell? ⟨B, j, none⟩ = some x
def itB (B : Nat) (v : Value) : It := ⟨B, B + 1, fun w => BXv w B v⟩
def itR (lo hi : Nat) (W : Wl) (v : Value) : It := ⟨lo, hi, fun w => Rw w lo hi W v⟩
def itM (lo hi : Nat) (W : Wl) (v : Value) : It := ⟨lo, hi, fun w => WM w lo hi W v⟩
theorem itB_kept (B : Nat) (v : Value) : (itB B v).kept := fun w w' hs _ hk h cs hv j x hx => (World.cell?_of_block (a := ⟨B, j, none⟩) (hk B (Nat.le_refl _) (Nat.lt_succ_self _))).trans (h cs hv j x hx)
theorem itR_kept (lo hi : Nat) (W : Wl) (v : Value) : (itR lo hi W v).kept := fun _ _ hs _ hk h => Rw.keep h hs fun b h1 h2 _ => hk b h1 h2
theorem itM_kept (lo hi : Nat) (W : Wl) (v : Value) : (itM lo hi W v).kept := fun _ _ hs _ hk h => WM.keep h hs fun b h1 h2 => hk b h1 h2
section
variable {w0 w w' : World} {L : List It}
theorem LS.below (h : LS w0 w L) (hb : Below w.heap.size w w') : LS w0 w' L := ⟨h.1.trans (hb.mono h.1.size), fun i hi => by
  obtain ⟨h1, h2, h3⟩ := h.2 i hi
  exact ⟨h1, Nat.le_trans h2 hb.size, h1 w w' hb.size h2 (fun b _ h => hb.block b (by omega)) h3⟩⟩
theorem LS.nil (w : World) : LS w w [] := ⟨Below.refl _ _, fun _ h => by cases h⟩
theorem LS.cons {i : It} (h : i.ok w) (hl : LS w0 w L) : LS w0 w (i :: L) := ⟨hl.1, fun j hj => by
  rcases List.mem_cons.1 hj with rfl | h'
  · exact h
  · exact hl.2 j h'⟩
theorem LS.sub {L' : List It} (h : LS w0 w L) (hs : ∀ i ∈ L', i ∈ L) : LS w0 w L' := ⟨h.1, fun i hi => h.2 i (hs i hi)⟩
theorem LS.chg {lo hi : Nat} (h : LS w0 w L) (hC : Chg w w' (fun m => lo ≤ m ∧ m < hi)) (h0 : w0.heap.size ≤ lo) (hd : ∀ i ∈ L, i.hi ≤ lo ∨ hi ≤ i.lo) : LS w0 w' L := ⟨⟨hC.os.trans h.1.os, hC.tape.trans h.1.tape, hC.output.trans h.1.output, Nat.le_trans h.1.size hC.size, fun b hb => (hC.block b (Nat.lt_of_lt_of_le hb h.1.size) (by omega)).trans (h.1.block b hb)⟩, fun i hi' => by
  obtain ⟨h1, h2, h3⟩ := h.2 i hi'
  have := hd i hi'
  exact ⟨h1, Nat.le_trans h2 hC.size, h1 w w' hC.size h2 (fun b q1 q2 => hC.block b (by omega) (by omega)) h3⟩⟩
theorem LS.box {B : Nat} {v : Value} (h : LS w0 w L) (hi : itB B v ∈ L) : BXv w B v := (h.2 _ hi).2.2
theorem LS.rd {lo hi : Nat} {W : Wl} {v : Value} (h : LS w0 w L) (hi' : itR lo hi W v ∈ L) : Rw w lo hi W v := (h.2 _ hi').2.2
theorem LS.own {lo hi : Nat} {W : Wl} {v : Value} (h : LS w0 w L) (hi' : itM lo hi W v ∈ L) : WM w lo hi W v := (h.2 _ hi').2.2
theorem LS.newR {lo hi : Nat} {W : Wl} {v : Value} (h : LS w0 w L) (hh : hi ≤ w.heap.size) (hr : Rw w lo hi W v) : LS w0 w (itR lo hi W v :: L) := h.cons ⟨itR_kept _ _ _ _, hh, hr⟩
theorem LS.newM {lo hi : Nat} {W : Wl} {v : Value} (h : LS w0 w L) (hr : WM w lo hi W v) : LS w0 w (itM lo hi W v :: L) := h.cons ⟨itM_kept _ _ _ _, hr.1, hr⟩
theorem below_alloc (o : Obj) : Below w.heap.size w (w.alloc o) := (Below.refl _ _).alloc (Nat.le_refl _) _
theorem below_drew (w : World) : Below w.heap.size w w.drew := (Below.refl _ _).drew
theorem LS.put (h : LS w0 w L) (cs : List Value) (t : TypeId) : LS w0 (w.alloc (.cells cs.toArray t)) (itB w.heap.size (.agg cs.toArray) :: L) :=
  (h.below (below_alloc _)).cons ⟨itB_kept _ _, Nat.le_of_eq (World.size_alloc _ _).symm, fun cs' hv j x hx => by
    have hv : cs.toArray = cs'.toArray := by injection hv
    have hv : cs = cs' := by simpa using congrArg Array.toList hv
    subst hv
    exact box_cells w cs t j x hx⟩
end
theorem box6 {w : World} {B : Nat} {a0 a1 a2 a3 a4 a5 : Value} (h : BXv w B (.agg #[a0, a1, a2, a3, a4, a5])) : w.cell? ⟨B, 0, none⟩ = some a0 ∧ w.cell? ⟨B, 1, none⟩ = some a1 ∧ w.cell? ⟨B, 2, none⟩ = some a2 ∧ w.cell? ⟨B, 3, none⟩ = some a3 ∧ w.cell? ⟨B, 4, none⟩ = some a4 ∧ w.cell? ⟨B, 5, none⟩ = some a5 :=
  have k := h [a0, a1, a2, a3, a4, a5] rfl
  ⟨k 0 _ rfl, k 1 _ rfl, k 2 _ rfl, k 3 _ rfl, k 4 _ rfl, k 5 _ rfl⟩
def VW (v : Value) : Prop := ∃ n p1 l1 c1 p2 l2 c2 p3 l3 c3 p4 l4 c4 p5 l5 c5, v = .agg #[.int .i64 n, .slice p1 l1 c1, .slice p2 l2 c2, .slice p3 l3 c3, .slice p4 l4 c4, .slice p5 l5 c5]
theorem ri_slice {w : World} {E X : Nat → Prop} {g : Bool} {τ : Ty} {xs : List (El τ)} {u : Value} (h : Ri w E X (.sl g τ xs) u) : ∃ p l c, u = .slice p l c := by
  cases h <;> exact ⟨_, _, _, rfl⟩
theorem Rw.vw {w : World} {lo hi : Nat} {W : Wl} {v : Value} (h : Rw w lo hi W v) : VW v := by
  obtain ⟨us, rfl, h3⟩ := h
  obtain ⟨x0, r, rfl, g0, h3⟩ := h3.cons_inv
  obtain ⟨x1, r, rfl, g1, h3⟩ := h3.cons_inv
  obtain ⟨x2, r, rfl, g2, h3⟩ := h3.cons_inv
  obtain ⟨x3, r, rfl, g3, h3⟩ := h3.cons_inv
  obtain ⟨x4, r, rfl, g4, h3⟩ := h3.cons_inv
  obtain ⟨x5, r, rfl, g5, h3⟩ := h3.cons_inv
  obtain rfl := h3.nil_inv
  have g0 : Ri w _ _ (iI W.1) x0 := g0
  cases g0
  obtain ⟨p1, l1, c1, rfl⟩ := ri_slice (g := false) (τ := .lk) (xs := W.2.1) g1
  obtain ⟨p2, l2, c2, rfl⟩ := ri_slice (g := false) (τ := .bool) (xs := W.2.2.1) g2
  obtain ⟨p3, l3, c3, rfl⟩ := ri_slice (g := false) (τ := .int) (xs := W.2.2.2.1) g3
  obtain ⟨p4, l4, c4, rfl⟩ := ri_slice (g := false) (τ := .db) (xs := W.2.2.2.2.1) g4
  obtain ⟨p5, l5, c5, rfl⟩ := ri_slice (g := false) (τ := .pk) (xs := W.2.2.2.2.2) g5
  exact ⟨_, _, _, _, _, _, _, _, _, _, _, _, _, _, _, _, rfl⟩
theorem WM.vw {w : World} {lo hi : Nat} {W : Wl} {v : Value} (h : WM w lo hi W v) : VW v := h.rw.vw
abbrev CEq (P : Program) (f : FuncId) (FV : Wl → Prop) : Prop := ∀ (w : World) (lo hi lo' hi' : Nat) (A : Wl) (a b : Value), FV A → Rw w lo hi A a → Rw w lo' hi' A b → Calls P f #[a, b] w fun e w' => e = .returned (.bool true) ∧ Below w.heap.size w w'
abbrev CMk (P : Program) (f : FuncId) (FV : Wl → Prop) (M : Wl → Wl) : Prop := ∀ (w : World) (lo hi : Nat) (A : Wl) (a : Value), FV A → WM w lo hi A a → Calls P f #[a, .int .i64 1] w fun e w' => e = .returned (.int .i64 (1 + cntW A)) ∧ WM w' lo hi (M A) a ∧ Chg w w' (fun m => lo ≤ m ∧ m < hi)
abbrev CHd (P : Program) (f : FuncId) (FV : Wl → Prop) (M : Wl → Wl) : Prop := ∀ (w : World) (lo hi : Nat) (A : Wl) (a : Value), FV A → Rw w lo hi (M A) a → Calls P f #[a, .int .i64 1] w fun e w' => e = .returned (.int .i64 (1 + cntW A)) ∧ Below w.heap.size w w'
theorem mem_erase (L : List It) (k : Nat) {i : It} (h : i ∈ L.eraseIdx k) : i ∈ L := List.mem_of_mem_eraseIdx h
theorem ls_eq {P : Program} {f : FuncId} {FV : Wl → Prop} {w0 w : World} {L : List It} {lo hi lo' hi' : Nat} {A : Wl} {a b : Value} (hc : CEq P f FV) {s : Nat} (e : w.heap.size = s) (H : Hid (LS w0 w L)) (ma : Rw w lo hi A a) (mb : Rw w lo' hi' A b) (hf : FV A) : Calls P f #[a, b] w fun e w' => e = .returned (.bool true) ∧ Hid (LS w0 w' L) ∧ Hid (s ≤ w'.heap.size) := by
  subst e
  refine (hc w lo hi lo' hi' A a b hf ma mb).mono ?_
  rintro e' w' ⟨rfl, h2⟩
  exact ⟨rfl, H.out.below h2, h2.size⟩
theorem ls_mk {P : Program} {f : FuncId} {FV : Wl → Prop} {M : Wl → Wl} {w0 w : World} {L L' : List It} {lo hi : Nat} {A : Wl} {a : Value} (hc : CMk P f FV M) {s : Nat} (e : w.heap.size = s) (H : Hid (LS w0 w L)) (m : itM lo hi A a ∈ L) (hf : FV A) (hs : ∀ i ∈ L', i ∈ L) (h0 : w0.heap.size ≤ lo) (hd : ∀ i ∈ L', i.hi ≤ lo ∨ hi ≤ i.lo) : Calls P f #[a, .int .i64 1] w fun e w' => e = .returned (.int .i64 (1 + cntW A)) ∧ Hid (LS w0 w' (itM lo hi (M A) a :: L')) ∧ Hid (s ≤ w'.heap.size) := by
  subst e
  refine (hc w lo hi A a hf (H.out.own m)).mono ?_
  rintro e' w' ⟨rfl, h1, h2⟩
  exact ⟨rfl, ((H.out.sub hs).chg h2 h0 hd).newM h1, h2.size⟩
theorem ls_hd {P : Program} {f : FuncId} {FV : Wl → Prop} {M : Wl → Wl} {w0 w : World} {L : List It} {lo hi : Nat} {A : Wl} {a : Value} (hc : CHd P f FV M) {s : Nat} (e : w.heap.size = s) (H : Hid (LS w0 w L)) (m : itM lo hi (M A) a ∈ L) (hf : FV A) : Calls P f #[a, .int .i64 1] w fun e w' => e = .returned (.int .i64 (1 + cntW A)) ∧ Hid (LS w0 w' L) ∧ Hid (s ≤ w'.heap.size) := by
  subst e
  refine (hc w lo hi A a hf (H.out.own m).rw).mono ?_
  rintro e' w' ⟨rfl, h2⟩
  exact ⟨rfl, H.out.below h2, h2.size⟩
end Go.Proofs.Ytknkhdjhongklaa
end
section
namespace Go.Proofs.Ytknkhdjhongklaa
open Go.RowKit

section
variable {w w' : World} {lo hi : Nat} {t : TypeId} {τ : Ty} {xs xs' : List (El τ)} {u v : Value} {n : Int} {ls : List Lk}
def MR (w : World) (lo hi : Nat) (t : TypeId) (τ : Ty) (xs : List (El τ)) (u : Value) : Prop := hi ≤ w.heap.size ∧ ∃ b c, UR w (fun m => Liv [.row t τ xs] [(b, c)] m ∨ (m < lo ∨ hi ≤ m)) t τ xs b c u ∧ ∀ m, Liv [.row t τ xs] [(b, c)] m → lo ≤ m ∧ m < hi
def RR (w : World) (lo hi : Nat) (τ : Ty) (xs : List (El τ)) (u : Value) : Prop := Ri w (fun m => m < lo ∨ hi ≤ m) (fun _ => False) (.sl false τ xs) u
theorem RR.keep (h : RR w lo hi τ xs u) (hs : w.heap.size ≤ w'.heap.size) (hk : ∀ b, lo ≤ b → b < hi → w'.heap[b]? = w.heap[b]?) : RR w' lo hi τ xs u :=
  Ri.keep (fun b _ hn => hk b (by omega) (by omega)) hs (fun _ _ h => h) (fun _ _ _ h => h) h
theorem MR.keep (h : MR w lo hi t τ xs u) (hs : w.heap.size ≤ w'.heap.size) (hk : ∀ b, lo ≤ b → b < hi → w'.heap[b]? = w.heap[b]?) : MR w' lo hi t τ xs u := by
  obtain ⟨h0, b, c, h1, h2⟩ := h
  have hh : ∀ m, ¬ (Liv [.row t τ xs] [(b, c)] m ∨ (m < lo ∨ hi ≤ m)) → w'.heap[m]? = w.heap[m]? := fun m hn => hk m (by omega) (by omega)
  exact ⟨by omega, b, c, ⟨h1.heap.keepE hs (fun m hl => hk m (h2 m hl).1 (h2 m hl).2) (fun m _ hn => hh m hn), C1.keep (fun m _ hn => hh m hn) hs (fun _ _ h => h) (fun _ _ _ h => h) (Hle.refl _) (fun _ _ h => h) h1.val⟩, h2⟩
theorem MR.rr (h : MR w lo hi t τ xs u) : RR w lo hi τ xs u := by
  obtain ⟨h0, b, c, h1, h2⟩ := h
  exact own_readE h1.heap (k := 0) rfl (fun m hn h => hn (.inr h)) (fun b' c' q1 q2 h => by
    have := h2 b' ⟨0, _, c', rfl, q2, q1⟩
    omega) h1.val
theorem no_occ_flat (hfl : τ.flat = true) {β : List (Nat × Nat)} {k : Nat} {p : Nat × Nat} {σ : Ty} {x : Value} : ¬ OccV w [.row t τ xs] β k p σ x := by
  have hu : τ.u = false := by cases τ <;> first | rfl | cases hfl
  rintro ⟨t1, τ1, zs, b1, c1, us1, junk, z1, _, _, _, _, z6⟩
  obtain ⟨_, e⟩ := one_row z1
  have e := e.symm
  injection e with e1 e2 e3
  subst e1 e2
  rcases z6 with ⟨z, _⟩ | ⟨rfl, _⟩
  · rw [hu] at z; cases z
  · cases hu
theorem mr_new (hfl : τ.flat = true) {β : List (Nat × Nat)} (hst : Step w [] [] w' [.row t τ xs] β) (hh : HeapOk w' (Liv [.row t τ xs] β) (fun _ => False) [.row t τ xs] β) (hc : C1 w' (Liv [.row t τ xs] β) (fun _ => False) [.row t τ xs] β (.own 0) u) : MR w' w.heap.size w'.heap.size t τ xs u := by
  have hl := hh.len
  match β, hl with
  | [(b, c)], _ =>
    refine ⟨Nat.le_refl _, b, c, ⟨hh.up (fun o ho => ?_) (fun m h => .inl h) (fun k p m ⟨σ, x, z, _⟩ => (no_occ_flat hfl z).elim), ?_⟩, fun m hm => ⟨?_, Liv.lt hh hm⟩⟩
    · simp only [List.mem_cons, List.not_mem_nil, or_false] at ho
      subst ho
      simp [plainO, hfl]
    · obtain ⟨g1, g2, g3, g4⟩ := hc
      exact ⟨g1, g2, g3, fun t' τ' ws e => g4 t' τ' ws e⟩
    · rcases Nat.lt_or_ge m w.heap.size with h | h
      · exact (no_liv (hst.new m h hm)).elim
      · exact h
theorem MR.mark (hfl : τ.flat = true) (h0 : hi ≤ w.heap.size) {b c : Nat} (h2 : ∀ m, Liv [.row t τ xs] [(b, c)] m → lo ≤ m ∧ m < hi) (M : Mkd w w' (fun m => Liv [.row t τ xs] [(b, c)] m ∨ (m < lo ∨ hi ≤ m)) t τ xs xs' b c u) : MR w' lo hi t τ xs' u ∧ Chg w w' (fun m => lo ≤ m ∧ m < hi) := by
  have hC : Chg w w' (fun m => lo ≤ m ∧ m < hi) := M.2.1.mono fun m _ hm => by
    rcases hm with ⟨hc, rfl⟩ | ⟨p, σ, x, z, _⟩
    · exact h2 m ⟨0, _, c, rfl, hc, rfl⟩
    · exact (no_occ_flat hfl z).elim
  have e : (fun m => Liv [.row t τ xs] [(b, c)] m ∨ (m < lo ∨ hi ≤ m)) = (fun m => Liv [.row t τ xs'] [(b, c)] m ∨ (m < lo ∨ hi ≤ m)) := by
    funext m
    exact propext ⟨fun h => h.imp liv_one id, fun h => h.imp liv_one id⟩
  have H := M.1
  rw [e] at H
  exact ⟨⟨Nat.le_trans h0 hC.size, b, c, H, fun m hm => h2 m (liv_one hm)⟩, hC⟩
theorem RR.slice (h : RR w lo hi τ xs u) : ∃ p l c, u = .slice p l c := ri_slice h
def MG (w : World) (lo hi : Nat) (g : Int × List Lk) (v : Value) : Prop := ∃ u, v = .agg #[.int .i64 g.1, u] ∧ MR w lo hi 55 .lk g.2 u
def RG (w : World) (lo hi : Nat) (g : Int × List Lk) (v : Value) : Prop := ∃ u, v = .agg #[.int .i64 g.1, u] ∧ RR w lo hi .lk g.2 u
def gArg (g : Int × List Lk) : PV := .agg [.im (iI g.1), .im (.sl false .lk g.2)]
def gOwn (n : Int) : PV := .agg [.im (iI n), .own 0]
variable {g : Int × List Lk}
theorem MG.rg (h : MG w lo hi g v) : RG w lo hi g v := by
  obtain ⟨u, rfl, h⟩ := h
  exact ⟨u, rfl, h.rr⟩
theorem RR.none (h : RR w lo hi τ xs u) : Ri w (Liv [] []) (fun _ => False) (.sl false τ xs) u :=
  Ri.keep (w' := w) (fun _ _ _ => rfl) (Nat.le_refl _) (fun _ _ _ h => no_liv h) (fun _ _ _ h => h) h
theorem RG.arg (h : RG w lo hi g v) : Cv w (Liv [] []) (fun _ => False) [] [] (gArg g) v := by
  obtain ⟨u, rfl, h⟩ := h
  exact ⟨[.int .i64 g.1, u], rfl, F2.cons (Ri.s _) (F2.cons h.none F2.nil)⟩
theorem RG.keep (h : RG w lo hi g v) (hs : w.heap.size ≤ w'.heap.size) (hk : ∀ b, lo ≤ b → b < hi → w'.heap[b]? = w.heap[b]?) : RG w' lo hi g v := by
  obtain ⟨u, rfl, h⟩ := h
  exact ⟨u, rfl, h.keep hs hk⟩
theorem MG.keep (h : MG w lo hi g v) (hs : w.heap.size ≤ w'.heap.size) (hk : ∀ b, lo ≤ b → b < hi → w'.heap[b]? = w.heap[b]?) : MG w' lo hi g v := by
  obtain ⟨u, rfl, h⟩ := h
  exact ⟨u, rfl, h.keep hs hk⟩
theorem mg_new {β : List (Nat × Nat)} (hst : Step w [] [] w' [.row 55 .lk g.2] β) (hh : HeapOk w' (Liv [.row 55 .lk g.2] β) (fun _ => False) [.row 55 .lk g.2] β) (hc : Cv w' (Liv [.row 55 .lk g.2] β) (fun _ => False) [.row 55 .lk g.2] β (gOwn g.1) v) : MG w' w.heap.size w'.heap.size g v := by
  obtain ⟨us, rfl, h3⟩ := hc
  obtain ⟨x0, r, rfl, g0, h3⟩ := h3.cons_inv
  obtain ⟨x1, r, rfl, g1, h3⟩ := h3.cons_inv
  obtain rfl := h3.nil_inv
  have g0 : Ri w' _ _ (iI g.1) x0 := g0
  cases g0
  exact ⟨x1, rfl, mr_new rfl hst hh g1⟩
def itRG (lo hi : Nat) (g : Int × List Lk) (v : Value) : It := ⟨lo, hi, fun w => RG w lo hi g v⟩
def itMG (lo hi : Nat) (g : Int × List Lk) (v : Value) : It := ⟨lo, hi, fun w => MG w lo hi g v⟩
theorem itRG_kept (lo hi : Nat) (g : Int × List Lk) (v : Value) : (itRG lo hi g v).kept := fun _ _ hs _ hk h => RG.keep h hs fun b h1 h2 => hk b h1 h2
theorem itMG_kept (lo hi : Nat) (g : Int × List Lk) (v : Value) : (itMG lo hi g v).kept := fun _ _ hs _ hk h => MG.keep h hs fun b h1 h2 => hk b h1 h2
variable {w0 : World} {L : List It}
theorem LS.rdG (h : LS w0 w L) (hi' : itRG lo hi g v ∈ L) : RG w lo hi g v := (h.2 _ hi').2.2
theorem LS.ownG (h : LS w0 w L) (hi' : itMG lo hi g v ∈ L) : MG w lo hi g v := (h.2 _ hi').2.2
theorem LS.newRG (h : LS w0 w L) (hh : hi ≤ w.heap.size) (hr : RG w lo hi g v) : LS w0 w (itRG lo hi g v :: L) := h.cons ⟨itRG_kept _ _ _ _, hh, hr⟩
theorem LS.newMG (h : LS w0 w L) (hr : MG w lo hi g v) : LS w0 w (itMG lo hi g v :: L) := h.cons ⟨itMG_kept _ _ _ _, let ⟨_, _, h1⟩ := hr; h1.1, hr⟩
theorem box2 {w : World} {B : Nat} {a0 a1 : Value} (h : BXv w B (.agg #[a0, a1])) : w.cell? ⟨B, 0, none⟩ = some a0 ∧ w.cell? ⟨B, 1, none⟩ = some a1 :=
  have k := h [a0, a1] rfl
  ⟨k 0 _ rfl, k 1 _ rfl⟩
theorem RG.vw (h : RG w lo hi g v) : ∃ p l c, v = .agg #[.int .i64 g.1, .slice p l c] := by
  obtain ⟨u, rfl, h⟩ := h
  obtain ⟨p, l, c, rfl⟩ := h.slice
  exact ⟨p, l, c, rfl⟩
end
abbrev CEqG (P : Program) (f : FuncId) (FL : List Lk → Prop) : Prop := ∀ (w : World) (lo hi lo' hi' : Nat) (g : Int × List Lk) (a b : Value), FL g.2 → RG w lo hi g a → RG w lo' hi' g b → Calls P f #[a, b] w fun e w' => e = .returned (.bool true) ∧ Below w.heap.size w w'
abbrev CMkG (P : Program) (f : FuncId) (FL : List Lk → Prop) (M : List Lk → List Lk) : Prop := ∀ (w : World) (lo hi : Nat) (g : Int × List Lk) (a : Value), FL g.2 → MG w lo hi g a → Calls P f #[a, .int .i64 1] w fun e w' => e = .returned (.int .i64 (1 + 3 * (g.2.length : Int))) ∧ MG w' lo hi (g.1, M g.2) a ∧ Chg w w' (fun m => lo ≤ m ∧ m < hi)
section
variable {P : Program} {f : FuncId} {FW : Wl → Prop} {FL : List Lk → Prop} {F : Wl → Int × List Lk} {M : List Lk → List Lk} {w0 w : World} {L L' : List It} {s lo hi lo' hi' : Nat} {A : Wl} {g : Int × List Lk} {a b : Value} {us : List Value}
theorem ls_eqG (hc : CEqG P f FL) (e : w.heap.size = s) (H : Hid (LS w0 w L)) (ma : RG w lo hi g a) (mb : RG w lo' hi' g b) (hf : FL g.2) : Calls P f #[a, b] w fun e w' => e = .returned (.bool true) ∧ Hid (LS w0 w' L) ∧ Hid (s ≤ w'.heap.size) := by
  subst e
  refine (hc w lo hi lo' hi' g a b hf ma mb).mono ?_
  rintro e w' ⟨rfl, h2⟩
  exact ⟨rfl, H.out.below h2, h2.size⟩
theorem ls_mkG (hc : CMkG P f FL M) (e : w.heap.size = s) (H : Hid (LS w0 w L)) (m : itMG lo hi g a ∈ L) (hf : FL g.2) (hs : ∀ i ∈ L', i ∈ L) (h0 : w0.heap.size ≤ lo) (hd : ∀ i ∈ L', i.hi ≤ lo ∨ hi ≤ i.lo) : Calls P f #[a, .int .i64 1] w fun e w' => e = .returned (.int .i64 (1 + 3 * (g.2.length : Int))) ∧ Hid (LS w0 w' (itMG lo hi (g.1, M g.2) a :: L')) ∧ Hid (s ≤ w'.heap.size) := by
  subst e
  refine (hc w lo hi g a hf (H.out.ownG m)).mono ?_
  rintro e w' ⟨rfl, h1, h2⟩
  exact ⟨rfl, ((H.out.sub hs).chg h2 h0 hd).newMG h1, h2.size⟩
end
end Go.Proofs.Ytknkhdjhongklaa
end
section
namespace Go.Proofs.Ytknkhdjhongklaa
open Go.RowKit

def itRR (lo hi : Nat) (τ : Ty) (xs : List (El τ)) (v : Value) : It := ⟨lo, hi, fun w => RR w lo hi τ xs v⟩
def itMR (lo hi : Nat) (t : TypeId) (τ : Ty) (xs : List (El τ)) (v : Value) : It := ⟨lo, hi, fun w => MR w lo hi t τ xs v⟩
section
variable {w0 w : World} {L L' : List It} {lo hi s : Nat} {t : TypeId} {τ : Ty} {xs : List (El τ)} {v : Value} {g : Int × List Lk} {W : Wl} {P : Program} {f : FuncId} {args : Array Value} {b : Bool} {z : Int}
theorem ls_num {Q : Int → Prop} (hc : Calls P f args w fun e w' => ∃ z, e = .returned (.int .i64 z) ∧ Q z ∧ Below w.heap.size w w') (e : w.heap.size = s) (H : Hid (LS w0 w L)) : Calls P f args w fun e w' => ∃ z, e = .returned (.int .i64 z) ∧ Hid (Q z) ∧ Hid (LS w0 w' L) ∧ Hid (s ≤ w'.heap.size) := by
  subst e
  refine hc.mono ?_
  rintro e w' ⟨z, rfl, h1, h2⟩
  exact ⟨z, rfl, h1, H.out.below h2, h2.size⟩
theorem ls_graph (hc : Calls P f args w fun e w' => ∃ u, e = .returned u ∧ MG w' w.heap.size w'.heap.size g u ∧ Below w.heap.size w w') (e : w.heap.size = s) (H : Hid (LS w0 w L)) : Calls P f args w fun e w' => ∃ n p l c, e = .returned (.agg #[.int .i64 n, .slice p l c]) ∧ Hid (LS w0 w' (itMG s w'.heap.size g (.agg #[.int .i64 n, .slice p l c]) :: L)) ∧ Hid (s ≤ w'.heap.size) := by
  subst e
  refine hc.mono ?_
  rintro e w' ⟨u, rfl, h1, h2⟩
  obtain ⟨p, l, c, rfl⟩ := h1.rg.vw
  exact ⟨_, p, l, c, rfl, (H.out.below h2).newMG h1, h2.size⟩
theorem ls_pairR (hc : Calls P f args w fun e w' => ∃ u, e = .returned (.tuple #[u, .bool b]) ∧ Rw w' 0 w'.heap.size W u ∧ Below w.heap.size w w') (e : w.heap.size = s) (H : Hid (LS w0 w L)) : Calls P f args w fun e w' => ∃ n p1 l1 c1 p2 l2 c2 p3 l3 c3 p4 l4 c4 p5 l5 c5, e = .returned (.tuple #[.agg #[.int .i64 n, .slice p1 l1 c1, .slice p2 l2 c2, .slice p3 l3 c3, .slice p4 l4 c4, .slice p5 l5 c5], .bool b]) ∧ Hid (LS w0 w' (itR 0 w'.heap.size W (.agg #[.int .i64 n, .slice p1 l1 c1, .slice p2 l2 c2, .slice p3 l3 c3, .slice p4 l4 c4, .slice p5 l5 c5]) :: L)) ∧ Hid (s ≤ w'.heap.size) := by
  subst e
  refine hc.mono ?_
  rintro e w' ⟨u, rfl, h1, h2⟩
  obtain ⟨n, p1, l1, c1, p2, l2, c2, p3, l3, c3, p4, l4, c4, p5, l5, c5, rfl⟩ := h1.vw
  exact ⟨n, p1, l1, c1, p2, l2, c2, p3, l3, c3, p4, l4, c4, p5, l5, c5, rfl, (H.out.below h2).newR (Nat.le_refl _) h1, h2.size⟩
theorem ls_pairM (hc : Calls P f args w fun e w' => ∃ u, e = .returned (.tuple #[u, .bool b]) ∧ WM w' w.heap.size w'.heap.size W u ∧ Below w.heap.size w w') (e : w.heap.size = s) (H : Hid (LS w0 w L)) : Calls P f args w fun e w' => ∃ n p1 l1 c1 p2 l2 c2 p3 l3 c3 p4 l4 c4 p5 l5 c5, e = .returned (.tuple #[.agg #[.int .i64 n, .slice p1 l1 c1, .slice p2 l2 c2, .slice p3 l3 c3, .slice p4 l4 c4, .slice p5 l5 c5], .bool b]) ∧ Hid (LS w0 w' (itM s w'.heap.size W (.agg #[.int .i64 n, .slice p1 l1 c1, .slice p2 l2 c2, .slice p3 l3 c3, .slice p4 l4 c4, .slice p5 l5 c5]) :: L)) ∧ Hid (s ≤ w'.heap.size) := by
  subst e
  refine hc.mono ?_
  rintro e w' ⟨u, rfl, h1, h2⟩
  obtain ⟨n, p1, l1, c1, p2, l2, c2, p3, l3, c3, p4, l4, c4, p5, l5, c5, rfl⟩ := h1.vw
  exact ⟨n, p1, l1, c1, p2, l2, c2, p3, l3, c3, p4, l4, c4, p5, l5, c5, rfl, (H.out.below h2).newM h1, h2.size⟩
end
section
variable (P : Program) (f : FuncId)
abbrev CSzG (g : Int × List Lk) (Q : Int → Prop) : Prop := ∀ (w : World) (lo hi : Nat) (a : Value), RG w lo hi g a → Calls P f #[a, .int .i64 1048576] w fun e w' => ∃ z, e = .returned (.int .i64 z) ∧ Q z ∧ Below w.heap.size w w'
abbrev CToG (FL : List Lk → Prop) : Prop := ∀ (w : World) (lo hi : Nat) (g : Int × List Lk) (a : Value), FL g.2 → RG w lo hi g a → Calls P f #[a] w fun e w' => ∃ u, e = .returned u ∧ MG w' w.heap.size w'.heap.size g u ∧ Below w.heap.size w w'
abbrev CNwS (FL : List Lk → Prop) (F : Int × List Lk → Wl) (B : Int × List Lk → Bool) : Prop := ∀ (w : World) (lo hi : Nat) (g : Int × List Lk) (a : Value), FL g.2 → RG w lo hi g a → Calls P f #[a] w fun e w' => ∃ u, e = .returned (.tuple #[u, .bool (B g)]) ∧ Rw w' 0 w'.heap.size (F g) u ∧ Below w.heap.size w w'
abbrev CNwI (FL : List Lk → Prop) (F : Int × List Lk → Wl) (B : Int × List Lk → Bool) : Prop := ∀ (w : World) (lo hi : Nat) (g : Int × List Lk) (a : Value), FL g.2 → RG w lo hi g a → Calls P f #[a] w fun e w' => ∃ u, e = .returned (.tuple #[u, .bool (B g)]) ∧ WM w' w.heap.size w'.heap.size (F g) u ∧ Below w.heap.size w w'
end
end Go.Proofs.Ytknkhdjhongklaa
end
section
namespace Go.Proofs.Ytknkhdjhongklaa
set_option maxRecDepth 100000
open Go.ChangeShapes Go.WideShapes Go.ChangeAt Go.RowKit Go.Deep Go.Joins

section
variable {H : Type} {enc : TypeId × Value → H} {W : World} {v : Value} {d : DataW H} {p : List MemPlace}
theorem opn_rr {τ : Ty} {xs : List (El τ)} (h : Opn W v (.im (.sl false τ xs))) : RR W 0 W.heap.size τ xs v :=
  Ri.keep (w := W) (w' := W) (fun _ _ _ => rfl) (Nat.le_refl _) (fun b hb _ h => by omega) (fun _ _ _ h => h) h
theorem opn_rg {g : Int × List Lk} (h : Opn W v (.agg [.im (iI g.1), .im (.sl false .lk g.2)])) : RG W 0 W.heap.size g v := by
  obtain ⟨us, rfl, h3⟩ := h
  obtain ⟨x0, r, rfl, g0, h3⟩ := h3.cons_inv
  obtain ⟨x1, r, rfl, g1, h3⟩ := h3.cons_inv
  obtain rfl := h3.nil_inv
  have g0 : Ri W _ _ (iI g.1) x0 := g0
  cases g0
  exact ⟨x1, rfl, opn_rr g1⟩
end
end Go.Proofs.Ytknkhdjhongklaa
end
section
namespace Go.Proofs.Ytknkhdjhongklaa
open Go.RowKit

set_option maxRecDepth 100000 in
set_option maxHeartbeats 3000000 in
theorem l_New {FL : List Lk → Prop} {FV : Wl → Prop} {M : Wl → Wl} {ML : List Lk → List Lk} {F : Int × List Lk → Wl} {B : Int × List Lk → Bool} (g : Int × List Lk) (hsz : CSzG Try.prog 4 g (fun z => 0 ≤ z → z ≤ 1048576 ∧ FL g.2)) (hto : CToG Try.prog 6 FL) (hsp : CNwS Try.prog 5 FL F B) (him : CNwI Try.prog 7 FL F B) (heq : CEq Try.prog 8 FV) (heqG : CEqG Try.prog 9 FL) (hmkG : CMkG Try.prog 10 FL ML) (hmk : CMk Try.prog 11 FV M) (hhd : CHd Try.prog 12 FV M) (hFL : ∀ ls, FL ls → ls.length ≤ 16777216) (hV : FV (F g)) (w : World) (a : Value) (H : RG w 0 w.heap.size g a) : Calls Try.prog 3 #[a] w fun e w' => e = .returned (.bool true) ∧ Below w.heap.size w w' := by
  obtain ⟨na, pa, la, ca, rfl⟩ : ∃ n p l c, a = .agg #[.int .i64 n, .slice p l c] := by
    obtain ⟨p, l, c, h⟩ := H.vw
    exact ⟨_, p, l, c, h⟩
  have H0 := Lib.hid ((LS.nil w).newRG (Nat.le_refl _) H)
  replace hsz := Lib.hid hsz; replace hto := Lib.hid hto; replace hsp := Lib.hid hsp; replace him := Lib.hid him; replace heq := Lib.hid heq; replace heqG := Lib.hid heqG; replace hmkG := Lib.hid hmkG; replace hmk := Lib.hid hmk; replace hhd := Lib.hid hhd; replace hFL := Lib.hid hFL; replace hV := Lib.hid hV
  clear H
  have H1 := Lib.hid (H0.out.put [.int .i64 na, .slice pa la ca] 24)
  clear H0
  have c2 := Lib.hid (ls_num (hsz.out _ _ _ _ (H1.out.rdG (.tail _ (.head _)))) (World.size_alloc _ _) H1)
  clear H1
  go_enter Try.func3, Try.ntmps3
  try dsimp only
  go_wp2_with fail
  refine Calls.mono c2.out ?_
  rintro e w2 ⟨z, rfl, hz, H2, s2⟩
  clear c2
  have ⟨fa0, fa1⟩ := box2 (H2.out.box (B := w.heap.size) (v := .agg #[.int .i64 na, .slice pa la ca]) (.head _))
  go_wp2_with fail
  · go_ret
    exact ⟨rfl, H2.out.1⟩
  have hz0 : Hid (0 ≤ z) := by assumption
  have hA := Lib.hid (hz.out hz0.out)
  clear hz
  have c3 := Lib.hid (ls_graph (hto.out _ _ _ _ _ hA.out.2 (H2.out.rdG (.tail _ (.head _)))) rfl H2)
  clear H2
  refine Calls.mono c3.out ?_
  rintro e w3 ⟨nb, pb, lb, cb, rfl, H3, s3⟩
  clear c3
  clear fa0 fa1
  have c4 := Lib.hid (ls_pairR (hsp.out _ _ _ _ _ hA.out.2 (H3.out.ownG (.head _)).rg) rfl H3)
  clear H3
  try dsimp only
  go_wp2_with fail
  refine Calls.mono c4.out ?_
  rintro e w4 ⟨nw, p1w, l1w, c1w, p2w, l2w, c2w, p3w, l3w, c3w, p4w, l4w, c4w, p5w, l5w, c5w, rfl, H4, s4⟩
  clear c4
  have H5 := Lib.hid (H4.out.put [.int .i64 nw, .slice p1w l1w c1w, .slice p2w l2w c2w, .slice p3w l3w c3w, .slice p4w l4w c4w, .slice p5w l5w c5w] 34)
  clear H4
  have ⟨fa0, fa1⟩ := box2 (H5.out.box (B := w.heap.size) (v := .agg #[.int .i64 na, .slice pa la ca]) (.tail _ (.tail _ (.tail _ (.head _)))))
  have c6 := Lib.hid (ls_graph (hto.out _ _ _ _ _ hA.out.2 (H5.out.rdG (.tail _ (.tail _ (.tail _ (.tail _ (.head _))))))) (World.size_alloc _ _) H5)
  clear H5
  try dsimp only
  go_wp2_with fail
  refine Calls.mono c6.out ?_
  rintro e w6 ⟨nx, px, lx, cx, rfl, H6, s6⟩
  clear c6
  clear fa0 fa1
  have H7 := Lib.hid (H6.out.put [.int .i64 nx, .slice px lx cx] 28)
  clear H6
  have ⟨fx0, fx1⟩ := box2 (H7.out.box (B := w6.heap.size) (v := .agg #[.int .i64 nx, .slice px lx cx]) (.head _))
  have c8 := Lib.hid (ls_pairM (him.out _ _ _ _ _ hA.out.2 (H7.out.ownG (.tail _ (.head _))).rg) (World.size_alloc _ _) H7)
  clear H7
  try dsimp only
  go_wp2_with fail
  refine Calls.mono c8.out ?_
  rintro e w8 ⟨ng, p1g, l1g, c1g, p2g, l2g, c2g, p3g, l3g, c3g, p4g, l4g, c4g, p5g, l5g, c5g, rfl, H8, s8⟩
  clear c8
  clear fx0 fx1
  have H9 := Lib.hid (H8.out.put [.int .i64 ng, .slice p1g l1g c1g, .slice p2g l2g c2g, .slice p3g l3g c3g, .slice p4g l4g c4g, .slice p5g l5g c5g] 34)
  clear H8
  have ⟨fg0, fg1, fg2, fg3, fg4, fg5⟩ := box6 (H9.out.box (B := w8.heap.size) (v := .agg #[.int .i64 ng, .slice p1g l1g c1g, .slice p2g l2g c2g, .slice p3g l3g c3g, .slice p4g l4g c4g, .slice p5g l5g c5g]) (.head _))
  have ⟨fw0, fw1, fw2, fw3, fw4, fw5⟩ := box6 (H9.out.box (B := w4.heap.size) (v := .agg #[.int .i64 nw, .slice p1w l1w c1w, .slice p2w l2w c2w, .slice p3w l3w c3w, .slice p4w l4w c4w, .slice p5w l5w c5w]) (.tail _ (.tail _ (.tail _ (.tail _ (.head _))))))
  have c10 := Lib.hid (ls_eq heq.out (World.size_alloc _ _) H9 (H9.out.own (.tail _ (.head _))).rw (H9.out.rd (.tail _ (.tail _ (.tail _ (.tail _ (.tail _ (.head _))))))) hV.out)
  clear H9
  try dsimp only
  go_wp2_with fail
  refine Calls.mono c10.out ?_
  rintro e w10 ⟨rfl, H10, s10⟩
  clear c10
  clear fg0 fg1 fg2 fg3 fg4 fg5
  clear fw0 fw1 fw2 fw3 fw4 fw5
  go_wp2_with fail
  go_cut [45] (fun v w' => v = .bool false ∧ Hid (LS w w' [itB (w8.heap.size) (.agg #[.int .i64 ng, .slice p1g l1g c1g, .slice p2g l2g c2g, .slice p3g l3g c3g, .slice p4g l4g c4g, .slice p5g l5g c5g]), itM (w6.heap.size + 1) w8.heap.size (F g) (.agg #[.int .i64 ng, .slice p1g l1g c1g, .slice p2g l2g c2g, .slice p3g l3g c3g, .slice p4g l4g c4g, .slice p5g l5g c5g]), itB (w6.heap.size) (.agg #[.int .i64 nx, .slice px lx cx]), itMG (w4.heap.size + 1) w6.heap.size g (.agg #[.int .i64 nx, .slice px lx cx]), itB (w4.heap.size) (.agg #[.int .i64 nw, .slice p1w l1w c1w, .slice p2w l2w c2w, .slice p3w l3w c3w, .slice p4w l4w c4w, .slice p5w l5w c5w]), itR 0 w4.heap.size (F g) (.agg #[.int .i64 nw, .slice p1w l1w c1w, .slice p2w l2w c2w, .slice p3w l3w c3w, .slice p4w l4w c4w, .slice p5w l5w c5w]), itMG w2.heap.size w3.heap.size g (.agg #[.int .i64 nb, .slice pb lb cb]), itB (w.heap.size) (.agg #[.int .i64 na, .slice pa la ca]), itRG 0 w.heap.size g (.agg #[.int .i64 na, .slice pa la ca])]) ∧ Hid (w10.heap.size ≤ w'.heap.size))
  case first =>
    have ⟨fx0, fx1⟩ := box2 (H10.out.box (B := w6.heap.size) (v := .agg #[.int .i64 nx, .slice px lx cx]) (.tail _ (.tail _ (.head _))))
    have ⟨fa0, fa1⟩ := box2 (H10.out.box (B := w.heap.size) (v := .agg #[.int .i64 na, .slice pa la ca]) (.tail _ (.tail _ (.tail _ (.tail _ (.tail _ (.tail _ (.tail _ (.head _)))))))))
    have HD := Lib.hid (H10.out.below (below_drew _))
    have cT := Lib.hid (ls_graph (hto.out w10.drew _ _ _ _ hA.out.2 (HD.out.rdG (.tail _ (.tail _ (.tail _ (.tail _ (.tail _ (.tail _ (.tail _ (.tail _ (.head _))))))))))) rfl HD)
    go_region_with (first
      | (go_at_call 6; refine Calls.mono cT.out ?_; rintro e wT ⟨nt, pt, lt, ct, rfl, HT, sT⟩; have ⟨fx0, fx1⟩ := box2 (HT.out.box (B := w6.heap.size) (v := .agg #[.int .i64 nx, .slice px lx cx]) (.tail _ (.tail _ (.tail _ (.head _))))))
      | (go_at_call 9; refine (ls_eqG heqG.out rfl (L := [itMG w10.drew.heap.size wT.heap.size g (.agg #[.int .i64 nt, .slice pt lt ct]), itB (w8.heap.size) (.agg #[.int .i64 ng, .slice p1g l1g c1g, .slice p2g l2g c2g, .slice p3g l3g c3g, .slice p4g l4g c4g, .slice p5g l5g c5g]), itM (w6.heap.size + 1) w8.heap.size (F g) (.agg #[.int .i64 ng, .slice p1g l1g c1g, .slice p2g l2g c2g, .slice p3g l3g c3g, .slice p4g l4g c4g, .slice p5g l5g c5g]), itB (w6.heap.size) (.agg #[.int .i64 nx, .slice px lx cx]), itMG (w4.heap.size + 1) w6.heap.size g (.agg #[.int .i64 nx, .slice px lx cx]), itB (w4.heap.size) (.agg #[.int .i64 nw, .slice p1w l1w c1w, .slice p2w l2w c2w, .slice p3w l3w c3w, .slice p4w l4w c4w, .slice p5w l5w c5w]), itR 0 w4.heap.size (F g) (.agg #[.int .i64 nw, .slice p1w l1w c1w, .slice p2w l2w c2w, .slice p3w l3w c3w, .slice p4w l4w c4w, .slice p5w l5w c5w]), itMG w2.heap.size w3.heap.size g (.agg #[.int .i64 nb, .slice pb lb cb]), itB (w.heap.size) (.agg #[.int .i64 na, .slice pa la ca]), itRG 0 w.heap.size g (.agg #[.int .i64 na, .slice pa la ca])]) HT (HT.out.ownG (.tail _ (.tail _ (.tail _ (.tail _ (.head _)))))).rg (HT.out.ownG (.head _)).rg hA.out.2).mono ?_; rintro e wU ⟨rfl, HU, sU⟩))
    all_goals (go_wp2_with fail)
    all_goals go_meet
    all_goals exact ⟨rfl, HU.out.sub fun _ h => .tail _ h, Nat.le_trans sT.out sU.out⟩
  case rest =>
    obtain ⟨rfl, H11, s11⟩ := hcut
    rename World => w11
    clear H10
    have ⟨fx0, fx1⟩ := box2 (H11.out.box (B := w6.heap.size) (v := .agg #[.int .i64 nx, .slice px lx cx]) (.tail _ (.tail _ (.head _))))
    have c12 := Lib.hid (ls_mkG (L' := [itB (w8.heap.size) (.agg #[.int .i64 ng, .slice p1g l1g c1g, .slice p2g l2g c2g, .slice p3g l3g c3g, .slice p4g l4g c4g, .slice p5g l5g c5g]), itM (w6.heap.size + 1) w8.heap.size (F g) (.agg #[.int .i64 ng, .slice p1g l1g c1g, .slice p2g l2g c2g, .slice p3g l3g c3g, .slice p4g l4g c4g, .slice p5g l5g c5g]), itB (w6.heap.size) (.agg #[.int .i64 nx, .slice px lx cx]), itB (w4.heap.size) (.agg #[.int .i64 nw, .slice p1w l1w c1w, .slice p2w l2w c2w, .slice p3w l3w c3w, .slice p4w l4w c4w, .slice p5w l5w c5w]), itR 0 w4.heap.size (F g) (.agg #[.int .i64 nw, .slice p1w l1w c1w, .slice p2w l2w c2w, .slice p3w l3w c3w, .slice p4w l4w c4w, .slice p5w l5w c5w]), itMG w2.heap.size w3.heap.size g (.agg #[.int .i64 nb, .slice pb lb cb]), itB (w.heap.size) (.agg #[.int .i64 na, .slice pa la ca]), itRG 0 w.heap.size g (.agg #[.int .i64 na, .slice pa la ca])]) hmkG.out rfl H11 (.tail _ (.tail _ (.tail _ (.head _)))) hA.out.2 (fun i h => mem_erase [itB (w8.heap.size) (.agg #[.int .i64 ng, .slice p1g l1g c1g, .slice p2g l2g c2g, .slice p3g l3g c3g, .slice p4g l4g c4g, .slice p5g l5g c5g]), itM (w6.heap.size + 1) w8.heap.size (F g) (.agg #[.int .i64 ng, .slice p1g l1g c1g, .slice p2g l2g c2g, .slice p3g l3g c3g, .slice p4g l4g c4g, .slice p5g l5g c5g]), itB (w6.heap.size) (.agg #[.int .i64 nx, .slice px lx cx]), itMG (w4.heap.size + 1) w6.heap.size g (.agg #[.int .i64 nx, .slice px lx cx]), itB (w4.heap.size) (.agg #[.int .i64 nw, .slice p1w l1w c1w, .slice p2w l2w c2w, .slice p3w l3w c3w, .slice p4w l4w c4w, .slice p5w l5w c5w]), itR 0 w4.heap.size (F g) (.agg #[.int .i64 nw, .slice p1w l1w c1w, .slice p2w l2w c2w, .slice p3w l3w c3w, .slice p4w l4w c4w, .slice p5w l5w c5w]), itMG w2.heap.size w3.heap.size g (.agg #[.int .i64 nb, .slice pb lb cb]), itB (w.heap.size) (.agg #[.int .i64 na, .slice pa la ca]), itRG 0 w.heap.size g (.agg #[.int .i64 na, .slice pa la ca])] 3 h) (by have := s2.out; have := s3.out; have := s4.out; have := s6.out; have := s8.out; have := s10.out; have := s11.out; omega) (fun i h => by
      have := s2.out; have := s3.out; have := s4.out; have := s6.out; have := s8.out; have := s10.out; have := s11.out
      simp only [List.mem_cons, List.not_mem_nil, or_false] at h
      rcases h with rfl | rfl | rfl | rfl | rfl | rfl | rfl | rfl <;> dsimp only [itB, itR, itM, itRG, itMG, itRR, itMR] <;> omega))
    clear H11
    try dsimp only
    go_wp2_with fail
    refine Calls.mono c12.out ?_
    rintro e w12 ⟨rfl, H12, s12⟩
    clear c12
    clear fx0 fx1
    have ⟨fg0, fg1, fg2, fg3, fg4, fg5⟩ := box6 (H12.out.box (B := w8.heap.size) (v := .agg #[.int .i64 ng, .slice p1g l1g c1g, .slice p2g l2g c2g, .slice p3g l3g c3g, .slice p4g l4g c4g, .slice p5g l5g c5g]) (.tail _ (.head _)))
    have ⟨fw0, fw1, fw2, fw3, fw4, fw5⟩ := box6 (H12.out.box (B := w4.heap.size) (v := .agg #[.int .i64 nw, .slice p1w l1w c1w, .slice p2w l2w c2w, .slice p3w l3w c3w, .slice p4w l4w c4w, .slice p5w l5w c5w]) (.tail _ (.tail _ (.tail _ (.tail _ (.head _))))))
    have c13 := Lib.hid (ls_eq heq.out rfl H12 (H12.out.own (.tail _ (.tail _ (.head _)))).rw (H12.out.rd (.tail _ (.tail _ (.tail _ (.tail _ (.tail _ (.head _))))))) hV.out)
    clear H12
    try dsimp only
    go_wp2_with fail
    refine Calls.mono c13.out ?_
    rintro e w13 ⟨rfl, H13, s13⟩
    clear c13
    clear fg0 fg1 fg2 fg3 fg4 fg5
    clear fw0 fw1 fw2 fw3 fw4 fw5
    have ⟨fg0, fg1, fg2, fg3, fg4, fg5⟩ := box6 (H13.out.box (B := w8.heap.size) (v := .agg #[.int .i64 ng, .slice p1g l1g c1g, .slice p2g l2g c2g, .slice p3g l3g c3g, .slice p4g l4g c4g, .slice p5g l5g c5g]) (.tail _ (.head _)))
    have c14 := Lib.hid (ls_mk (L' := [itMG (w4.heap.size + 1) w6.heap.size (g.1, ML g.2) (.agg #[.int .i64 nx, .slice px lx cx]), itB (w8.heap.size) (.agg #[.int .i64 ng, .slice p1g l1g c1g, .slice p2g l2g c2g, .slice p3g l3g c3g, .slice p4g l4g c4g, .slice p5g l5g c5g]), itB (w6.heap.size) (.agg #[.int .i64 nx, .slice px lx cx]), itB (w4.heap.size) (.agg #[.int .i64 nw, .slice p1w l1w c1w, .slice p2w l2w c2w, .slice p3w l3w c3w, .slice p4w l4w c4w, .slice p5w l5w c5w]), itR 0 w4.heap.size (F g) (.agg #[.int .i64 nw, .slice p1w l1w c1w, .slice p2w l2w c2w, .slice p3w l3w c3w, .slice p4w l4w c4w, .slice p5w l5w c5w]), itMG w2.heap.size w3.heap.size g (.agg #[.int .i64 nb, .slice pb lb cb]), itB (w.heap.size) (.agg #[.int .i64 na, .slice pa la ca]), itRG 0 w.heap.size g (.agg #[.int .i64 na, .slice pa la ca])]) hmk.out rfl H13 (.tail _ (.tail _ (.head _))) hV.out (fun i h => mem_erase [itMG (w4.heap.size + 1) w6.heap.size (g.1, ML g.2) (.agg #[.int .i64 nx, .slice px lx cx]), itB (w8.heap.size) (.agg #[.int .i64 ng, .slice p1g l1g c1g, .slice p2g l2g c2g, .slice p3g l3g c3g, .slice p4g l4g c4g, .slice p5g l5g c5g]), itM (w6.heap.size + 1) w8.heap.size (F g) (.agg #[.int .i64 ng, .slice p1g l1g c1g, .slice p2g l2g c2g, .slice p3g l3g c3g, .slice p4g l4g c4g, .slice p5g l5g c5g]), itB (w6.heap.size) (.agg #[.int .i64 nx, .slice px lx cx]), itB (w4.heap.size) (.agg #[.int .i64 nw, .slice p1w l1w c1w, .slice p2w l2w c2w, .slice p3w l3w c3w, .slice p4w l4w c4w, .slice p5w l5w c5w]), itR 0 w4.heap.size (F g) (.agg #[.int .i64 nw, .slice p1w l1w c1w, .slice p2w l2w c2w, .slice p3w l3w c3w, .slice p4w l4w c4w, .slice p5w l5w c5w]), itMG w2.heap.size w3.heap.size g (.agg #[.int .i64 nb, .slice pb lb cb]), itB (w.heap.size) (.agg #[.int .i64 na, .slice pa la ca]), itRG 0 w.heap.size g (.agg #[.int .i64 na, .slice pa la ca])] 2 h) (by have := s2.out; have := s3.out; have := s4.out; have := s6.out; have := s8.out; have := s10.out; have := s11.out; have := s12.out; have := s13.out; omega) (fun i h => by
      have := s2.out; have := s3.out; have := s4.out; have := s6.out; have := s8.out; have := s10.out; have := s11.out; have := s12.out; have := s13.out
      simp only [List.mem_cons, List.not_mem_nil, or_false] at h
      rcases h with rfl | rfl | rfl | rfl | rfl | rfl | rfl | rfl <;> dsimp only [itB, itR, itM, itRG, itMG, itRR, itMR] <;> omega))
    clear H13
    try dsimp only
    go_wp2_with fail
    refine Calls.mono c14.out ?_
    rintro e w14 ⟨rfl, H14, s14⟩
    clear c14
    clear fg0 fg1 fg2 fg3 fg4 fg5
    have ⟨fg0, fg1, fg2, fg3, fg4, fg5⟩ := box6 (H14.out.box (B := w8.heap.size) (v := .agg #[.int .i64 ng, .slice p1g l1g c1g, .slice p2g l2g c2g, .slice p3g l3g c3g, .slice p4g l4g c4g, .slice p5g l5g c5g]) (.tail _ (.tail _ (.head _))))
    have c15 := Lib.hid (ls_hd hhd.out rfl H14 (.head _) hV.out)
    clear H14
    try dsimp only
    go_wp2_with fail
    refine Calls.mono c15.out ?_
    rintro e w15 ⟨rfl, H15, s15⟩
    clear c15
    clear fg0 fg1 fg2 fg3 fg4 fg5
    have ⟨fa0, fa1⟩ := box2 (H15.out.box (B := w.heap.size) (v := .agg #[.int .i64 na, .slice pa la ca]) (.tail _ (.tail _ (.tail _ (.tail _ (.tail _ (.tail _ (.tail _ (.head _)))))))))
    have c16 := Lib.hid (ls_graph (hto.out _ _ _ _ _ hA.out.2 (H15.out.rdG (.tail _ (.tail _ (.tail _ (.tail _ (.tail _ (.tail _ (.tail _ (.tail _ (.head _))))))))))) rfl H15)
    clear H15
    try dsimp only
    go_wp2_with fail
    refine Calls.mono c16.out ?_
    rintro e w16 ⟨nq, pq, lq, cq, rfl, H16, s16⟩
    clear c16
    clear fa0 fa1
    have c17 := Lib.hid (ls_pairM (him.out _ _ _ _ _ hA.out.2 (H16.out.ownG (.head _)).rg) rfl H16)
    clear H16
    try dsimp only
    go_wp2_with fail
    refine Calls.mono c17.out ?_
    rintro e w17 ⟨nh, p1h, l1h, c1h, p2h, l2h, c2h, p3h, l3h, c3h, p4h, l4h, c4h, p5h, l5h, c5h, rfl, H17, s17⟩
    clear c17
    have H18 := Lib.hid (H17.out.put [.int .i64 nh, .slice p1h l1h c1h, .slice p2h l2h c2h, .slice p3h l3h c3h, .slice p4h l4h c4h, .slice p5h l5h c5h] 34)
    clear H17
    have ⟨fh0, fh1, fh2, fh3, fh4, fh5⟩ := box6 (H18.out.box (B := w17.heap.size) (v := .agg #[.int .i64 nh, .slice p1h l1h c1h, .slice p2h l2h c2h, .slice p3h l3h c3h, .slice p4h l4h c4h, .slice p5h l5h c5h]) (.head _))
    have ⟨fw0, fw1, fw2, fw3, fw4, fw5⟩ := box6 (H18.out.box (B := w4.heap.size) (v := .agg #[.int .i64 nw, .slice p1w l1w c1w, .slice p2w l2w c2w, .slice p3w l3w c3w, .slice p4w l4w c4w, .slice p5w l5w c5w]) (.tail _ (.tail _ (.tail _ (.tail _ (.tail _ (.tail _ (.tail _ (.head _)))))))))
    have c19 := Lib.hid (ls_eq heq.out (World.size_alloc _ _) H18 (H18.out.own (.tail _ (.head _))).rw (H18.out.rd (.tail _ (.tail _ (.tail _ (.tail _ (.tail _ (.tail _ (.tail _ (.tail _ (.head _)))))))))) hV.out)
    clear H18
    try dsimp only
    go_wp2_with fail
    refine Calls.mono c19.out ?_
    rintro e w19 ⟨rfl, H19, s19⟩
    clear c19
    clear fh0 fh1 fh2 fh3 fh4 fh5
    clear fw0 fw1 fw2 fw3 fw4 fw5
    have ⟨fg0, fg1, fg2, fg3, fg4, fg5⟩ := box6 (H19.out.box (B := w8.heap.size) (v := .agg #[.int .i64 ng, .slice p1g l1g c1g, .slice p2g l2g c2g, .slice p3g l3g c3g, .slice p4g l4g c4g, .slice p5g l5g c5g]) (.tail _ (.tail _ (.tail _ (.tail _ (.tail _ (.head _)))))))
    have c20 := Lib.hid (ls_hd hhd.out rfl H19 (.tail _ (.tail _ (.tail _ (.head _)))) hV.out)
    clear H19
    try dsimp only
    go_wp2_with fail
    refine Calls.mono c20.out ?_
    rintro e w20 ⟨rfl, H20, s20⟩
    clear c20
    clear fg0 fg1 fg2 fg3 fg4 fg5
    try dsimp only
    go_wp2_with fail
    go_ret
    exact ⟨rfl, H20.out.1⟩
end Go.Proofs.Ytknkhdjhongklaa
end
