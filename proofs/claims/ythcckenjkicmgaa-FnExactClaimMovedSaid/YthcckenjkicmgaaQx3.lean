/- Part 3 of the proof: Kc Kf Mv Mx Mx2 Shelf Mso B3 Mrp SA. -/
import Derived.Test.YthcckenjkicmgaaProg
import Derived.KernelRfl
import Derived.Test.YthcckenjkicmgaaRows
import Derived.ProofKit
import Derived.OpenShut
import Derived.Carry
import Derived.Deep.Slices
import Derived.Deep.Fields
import Derived.Deep.Strs
import Derived.Lib.SmallJoins
import Derived.ChangeSame
import Derived.ChangeArms
import Derived.Shelf.Small.Wraps
import Derived.Shelf.Strconv.Itoa0
import Derived.Shelf.Sort.Plain
import Derived.Shelf.Bits.Mul64
import Derived.Shelf.Slices.Turned
import Derived.Shelf.Slices.Equal
import Derived.Shelf.Slices.In.SortNone
import Derived.Shelf.Slices.Empties2
import Derived.Sort.OwnSortedInts
import Derived.BigQuiet
import Derived.Deep.QuietTactic
import Derived.Deep.DeepCutAuto
import Derived.Deep.LoopGhost
import Derived.Laws.CopyOwn
import Derived.Deep.OwnRows
import Derived.Test.YthcckenjkicmgaaQx2
set_option linter.unusedSimpArgs false
set_option linter.unusedVariables false
section
namespace Go.Proofs.Ythcckenjkicmgaa
open Go.RowKit

structure PreR (P : Program) (ops : Array Oper) (N : Nat) (q : Nat × Nat) (o : Oper) : Prop where
  at_ : ops[q.1]? = some o
  dst : o.dst = some q.2
  guard : o.guard = none
  lt : q.2 < N
  sel : ∀ cs b, o.op ≠ .select cs b
  wait : ∀ e ∈ o.after, Region.binds .any e = true → False
  noval : valOp o.op = false
  run : ∃ e, ∀ (ρ : Operand → Value) w, (execOp ρ o).run P w = .ok (.value (.slice (some ⟨w.heap.size, 0, none⟩) 0 0)) (w.alloc (.cells #[] e))
section
variable {P : Program} {tab : TypeId → Option TI} {ops : Array Oper} {N : Nat}
end
section
variable {P : Program} {G : Env} {C : Ctx} {E0 : Nat → Prop} {ks : List Nat} {st0 st : St} {a a' : Act} {w0 w : World} {β0 β : List (Nat × Nat)}
theorem Sim.tmps (S : Sim C E0 st a w β) (h1 : a'.tmps.size = a.tmps.size) (h2 : a'.defers = a.defers) (h3 : ∀ i v, slot st.t i = some v → a'.tmps[i]? = a.tmps[i]? ∨ ∃ u, a'.tmps[i]? = some u ∧ Cv w E0 C.X st.h β v u) : Sim C E0 st a' w β := by
  refine ⟨S.cl, S.xw, S.step, S.heap, h1.trans S.sz, h2.trans S.df, fun i v hi => ?_⟩
  rcases h3 i v hi with h | h
  · rw [h]; exact S.tm i v hi
  · exact h
structure Pend (ops : List Oper) (D Dp : List (Nat × Nat)) (base listed : Array Bool) : Prop where
  sub : ∀ q ∈ Dp, q ∈ D
  nk : (Dp.map (·.1)).Nodup
  ns : (Dp.map (·.2)).Nodup
  un : ∀ q ∈ Dp, listed.getD q.1 true = false
  inv : HeadInv .any ops.toArray ops.length listed
  below : ∀ i, base.getD i false = true → listed.getD i false = true
  off : ∀ i, i ∉ D.map (·.1) → listed.getD i true = base.getD i true
  done : ∀ q ∈ D, q ∉ Dp → listed.getD q.1 false = true
  offD : ∀ q ∈ D, base.getD q.1 true = false
end
end Go.Proofs.Ythcckenjkicmgaa
end
section
namespace Go.Proofs.Ythcckenjkicmgaa
open Go.RowKit

section
variable {P : Program} {ops : Array Oper} {md : Region.Mode} {Q : Exit → Act → World → Prop} {S : World → Prop}
structure InvU (md : Region.Mode) (ops : Array Oper) (n : Nat) (l0 listed : Array Bool) : Prop where
  size : listed.size = ops.size
  closed : ∀ j oj, ops[j]? = some oj → listed.getD j false = true → ∀ e ∈ oj.after, Region.binds md e = true → listed.getD e.on false = true
  more : ∀ j, l0.getD j false = true → listed.getD j false = true
  tail : ∀ t, n ≤ t → l0.getD t true = false → listed.getD t true = false
theorem InvU.set {n : Nat} {l0 listed : Array Bool} (inv : InvU md ops n l0 listed) {i : Nat} (hi : i ∈ Region.ready md ops listed) (hin : i < n) : InvU md ops n l0 (listed.setIfInBounds i true) := by
  obtain ⟨_, oi, hoi, hall⟩ := mem_ready.1 hi
  refine ⟨by simp [inv.size], fun j oj hj hl e he hb => ?_, fun j hj => getD_set_true (inv.more j hj), fun t ht ht' => by rw [getD_set_ne true (by omega)]; exact inv.tail t ht ht'⟩
  by_cases hij : i = j
  · subst hij
    have : oj = oi := Option.some.inj (hj.symm.trans hoi)
    subst this
    exact getD_set_true (hall e he hb)
  · rw [getD_set_ne false hij] at hl
    exact getD_set_true (inv.closed j oj hj hl e he hb)
end
section
variable {P : Program} {G : Env} {C : Ctx} {st : St} {a : Act} {w : World} {β : List (Nat × Nat)}
end
end Go.Proofs.Ythcckenjkicmgaa
end
section
namespace Go.Proofs.Ythcckenjkicmgaa
open Go.RowKit
theorem info_parts {P : Program} {e : TypeId} {z : Value} {size bytes : Nat} (h : (P.info? e).map (fun i => (i.zero, i.size, i.bytes)) = some (some z, size, bytes)) : ∃ i, P.info? e = some i ∧ i.zero = some z ∧ i.size = size ∧ i.bytes = bytes := by
  obtain ⟨i, h1, h2⟩ := Option.map_eq_some_iff.1 h
  simp only [Prod.mk.injEq] at h2
  exact ⟨i, h1, h2.1, h2.2.1, h2.2.2⟩
theorem tok2 : TOk Try.prog 2 ⟨false, 1, [], none, some [.int .i64 0], 0, some .i64, []⟩ := ⟨Try.sizeOf2, Try.isAgg2, (fun _ => rfl), (fun _ _ _ h => by simp at h), (fun _ _ _ h => by cases h), (fun _ _ _ _ _ h => by cases h), (fun zs h => by cases h; exact ⟨_, Try.zeroValue2, rfl, by simp [Value.oneCell']⟩), (fun _ _ h => by cases h), (fun h => by cases h), (fun _ h => by cases h; exact Try.runUnderlying2), (fun h => by cases h), (fun h => by cases h), (fun h => by cases h), (fun _ _ _ _ _ h => by simp at h)⟩
theorem tok3 : TOk Try.prog 3 ⟨false, 1, [], none, some [.int .i64 0], 0, some .i64, []⟩ := ⟨Try.sizeOf3, Try.isAgg3, (fun _ => rfl), (fun _ _ _ h => by simp at h), (fun _ _ _ h => by cases h), (fun _ _ _ _ _ h => by cases h), (fun zs h => by cases h; exact ⟨_, Try.zeroValue3, rfl, by simp [Value.oneCell']⟩), (fun _ _ h => by cases h), (fun h => by cases h), (fun _ h => by cases h; exact Try.runUnderlying3), (fun h => by cases h), (fun h => by cases h), (fun h => by cases h), (fun _ _ _ _ _ h => by simp at h)⟩
theorem tok4 : TOk Try.prog 4 ⟨false, 1, [], none, some [.bool false], 1, none, []⟩ := ⟨Try.sizeOf4, Try.isAgg4, (fun _ => rfl), (fun _ _ _ h => by simp at h), (fun _ _ _ h => by cases h), (fun _ _ _ _ _ h => by cases h), (fun zs h => by cases h; exact ⟨_, Try.zeroValue4, rfl, by simp [Value.oneCell']⟩), (fun _ _ h => by cases h), (fun _ => Try.underlying4), (fun _ h => by cases h), (fun h => by cases h), (fun h => by cases h), (fun h => by cases h), (fun _ _ _ _ _ h => by simp at h)⟩
theorem tok5 : TOk Try.prog 5 ⟨false, 1, [], none, some [.int .u8 0], 0, some .u8, []⟩ := ⟨Try.sizeOf5, Try.isAgg5, (fun _ => rfl), (fun _ _ _ h => by simp at h), (fun _ _ _ h => by cases h), (fun _ _ _ _ _ h => by cases h), (fun zs h => by cases h; exact ⟨_, Try.zeroValue5, rfl, by simp [Value.oneCell']⟩), (fun _ _ h => by cases h), (fun h => by cases h), (fun _ h => by cases h; exact Try.runUnderlying5), (fun h => by cases h), (fun h => by cases h), (fun h => by cases h), (fun _ _ _ _ _ h => by simp at h)⟩
theorem tok9 : TOk Try.prog 9 ⟨false, 1, [], none, some [.string ⟨#[]⟩], 2, none, []⟩ := ⟨Try.sizeOf9, Try.isAgg9, (fun _ => rfl), (fun _ _ _ h => by simp at h), (fun _ _ _ h => by cases h), (fun _ _ _ _ _ h => by cases h), (fun zs h => by cases h; exact ⟨_, Try.zeroValue9, rfl, by simp [Value.oneCell']⟩), (fun _ _ h => by cases h), (fun h => by cases h), (fun _ h => by cases h), (fun _ => Try.underlying9), (fun h => by cases h), (fun h => by cases h), (fun _ _ _ _ _ h => by simp at h)⟩
theorem tok21 : TOk Try.prog 21 ⟨false, 1, [], none, some [.int .i32 0], 0, some .i32, []⟩ := ⟨Try.sizeOf21, Try.isAgg21, (fun _ => rfl), (fun _ _ _ h => by simp at h), (fun _ _ _ h => by cases h), (fun _ _ _ _ _ h => by cases h), (fun zs h => by cases h; exact ⟨_, Try.zeroValue21, rfl, by simp [Value.oneCell']⟩), (fun _ _ h => by cases h), (fun h => by cases h), (fun _ h => by cases h; exact Try.runUnderlying21), (fun h => by cases h), (fun h => by cases h), (fun h => by cases h), (fun _ _ _ _ _ h => by simp at h)⟩
theorem inf22 : (Try.prog.info? 5).map (fun i => (i.zero, i.size, i.bytes)) = some (some (.int .u8 0), 1, 1) := by kernel_rfl
theorem tok22 : TOk Try.prog 22 ⟨false, 1, [], some (5, .u8, 1), some [.slice none 0 0], 0, none, []⟩ := ⟨Try.sizeOf22, Try.isAgg22, (fun _ => rfl), (fun _ _ _ h => by simp at h), (fun _ _ _ h => by cases h; exact ⟨Try.underlying22, by obtain ⟨i, h1, h2, h3, h4⟩ := info_parts inf22; exact ⟨i, _, h1, h2, h3, h4, rfl⟩, by decide⟩), (fun _ _ _ inf z h hi hz => by cases h; obtain ⟨i, h1, h2, h3, h4⟩ := info_parts inf22; rw [h1] at hi; cases hi; rw [h2] at hz; cases hz; rfl), (fun zs h => by cases h; exact ⟨_, Try.zeroValue22, rfl, by simp [Value.oneCell']⟩), (fun _ _ h => by cases h), (fun h => by cases h), (fun _ h => by cases h), (fun h => by cases h), (fun h => by cases h), (fun h => by cases h), (fun _ _ _ _ _ h => by simp at h)⟩
theorem inf23 : (Try.prog.info? 105).map (fun i => (i.zero, i.size, i.bytes)) = some (some (.agg #[.int .i64 0, .int .i64 0, .int .i64 0]), 3, 24) := by kernel_rfl
theorem tok23 : TOk Try.prog 23 ⟨false, 1, [], some (105, .lk, 24), some [.slice none 0 0], 0, none, []⟩ := ⟨Try.sizeOf23, Try.isAgg23, (fun _ => rfl), (fun _ _ _ h => by simp at h), (fun _ _ _ h => by cases h; exact ⟨Try.underlying23, by obtain ⟨i, h1, h2, h3, h4⟩ := info_parts inf23; exact ⟨i, _, h1, h2, h3, h4, rfl⟩, by decide⟩), (fun _ _ _ inf z h hi hz => by cases h; obtain ⟨i, h1, h2, h3, h4⟩ := info_parts inf23; rw [h1] at hi; cases hi; rw [h2] at hz; cases hz; rfl), (fun zs h => by cases h; exact ⟨_, Try.zeroValue23, rfl, by simp [Value.oneCell']⟩), (fun _ _ h => by cases h), (fun h => by cases h), (fun _ h => by cases h), (fun h => by cases h), (fun h => by cases h), (fun h => by cases h), (fun _ _ _ _ _ h => by simp at h)⟩
theorem tok24 : TOk Try.prog 24 ⟨true, 2, [(0, 1), (1, 1)], none, some [.int .i64 0, .slice none 0 0], 0, none, [false, false]⟩ := ⟨Try.sizeOf24, Try.isAgg24, (fun h => by cases h), (fun j off fs h => match j, h with | 0, h => by injection h with h; injection h with h1 h2; subst h1 h2; exact ⟨_, _, Try.runUnderlying24, rfl, rfl, Try.sizeOf3, by decide⟩ | 1, h => by injection h with h; injection h with h1 h2; subst h1 h2; exact ⟨_, _, Try.runUnderlying24, rfl, rfl, Try.sizeOf23, by decide⟩ | _ + 2, h => by simp at h), (fun _ _ _ h => by cases h), (fun _ _ _ _ _ h => by cases h), (fun zs h => by cases h; exact ⟨_, Try.zeroValue24, rfl, by simp [Value.oneCell']⟩), (fun _ _ _ => ⟨_, Try.runUnderlying24, fun w => by simp [Try.sizeOf23, Try.sizeOf3]⟩), (fun h => by cases h), (fun _ h => by cases h), (fun h => by cases h), (fun h => by cases h), (fun h => by cases h), (fun j off fs b h h2 => match j, h, h2 with | 0, h, h2 => by injection h with h; injection h with h1 h3; subst h1 h3; injection h2 with h2; subst h2; exact ⟨_, _, Try.runUnderlying24, rfl, rfl, Try.isAgg3, Try.sizeOf3⟩ | 1, h, h2 => by injection h with h; injection h with h1 h3; subst h1 h3; injection h2 with h2; subst h2; exact ⟨_, _, Try.runUnderlying24, rfl, rfl, Try.isAgg23, Try.sizeOf23⟩ | _ + 2, h, _ => by simp at h)⟩
theorem tok25 : TOk Try.prog 25 ⟨true, 2, [(0, 1), (1, 1)], none, some [.int .i64 0, .slice none 0 0], 0, none, [false, false]⟩ := ⟨Try.sizeOf25, Try.isAgg25, (fun h => by cases h), (fun j off fs h => match j, h with | 0, h => by injection h with h; injection h with h1 h2; subst h1 h2; exact ⟨_, _, Try.runUnderlying25, rfl, rfl, Try.sizeOf3, by decide⟩ | 1, h => by injection h with h; injection h with h1 h2; subst h1 h2; exact ⟨_, _, Try.runUnderlying25, rfl, rfl, Try.sizeOf23, by decide⟩ | _ + 2, h => by simp at h), (fun _ _ _ h => by cases h), (fun _ _ _ _ _ h => by cases h), (fun zs h => by cases h; exact ⟨_, Try.zeroValue25, rfl, by simp [Value.oneCell']⟩), (fun _ _ _ => ⟨_, Try.runUnderlying25, fun w => by simp [Try.sizeOf23, Try.sizeOf3]⟩), (fun h => by cases h), (fun _ h => by cases h), (fun h => by cases h), (fun h => by cases h), (fun h => by cases h), (fun j off fs b h h2 => match j, h, h2 with | 0, h, h2 => by injection h with h; injection h with h1 h3; subst h1 h3; injection h2 with h2; subst h2; exact ⟨_, _, Try.runUnderlying25, rfl, rfl, Try.isAgg3, Try.sizeOf3⟩ | 1, h, h2 => by injection h with h; injection h with h1 h3; subst h1 h3; injection h2 with h2; subst h2; exact ⟨_, _, Try.runUnderlying25, rfl, rfl, Try.isAgg23, Try.sizeOf23⟩ | _ + 2, h, _ => by simp at h)⟩
theorem inf26 : (Try.prog.info? 95).map (fun i => (i.zero, i.size, i.bytes)) = some (some (.agg #[.int .i64 0, .int .i64 0]), 2, 16) := by kernel_rfl
theorem tok26 : TOk Try.prog 26 ⟨false, 1, [], some (95, .en, 16), some [.slice none 0 0], 0, none, []⟩ := ⟨Try.sizeOf26, Try.isAgg26, (fun _ => rfl), (fun _ _ _ h => by simp at h), (fun _ _ _ h => by cases h; exact ⟨Try.underlying26, by obtain ⟨i, h1, h2, h3, h4⟩ := info_parts inf26; exact ⟨i, _, h1, h2, h3, h4, rfl⟩, by decide⟩), (fun _ _ _ inf z h hi hz => by cases h; obtain ⟨i, h1, h2, h3, h4⟩ := info_parts inf26; rw [h1] at hi; cases hi; rw [h2] at hz; cases hz; rfl), (fun zs h => by cases h; exact ⟨_, Try.zeroValue26, rfl, by simp [Value.oneCell']⟩), (fun _ _ h => by cases h), (fun h => by cases h), (fun _ h => by cases h), (fun h => by cases h), (fun h => by cases h), (fun h => by cases h), (fun _ _ _ _ _ h => by simp at h)⟩
theorem inf29 : (Try.prog.info? 3).map (fun i => (i.zero, i.size, i.bytes)) = some (some (.int .i64 0), 1, 8) := by kernel_rfl
theorem tok29 : TOk Try.prog 29 ⟨false, 1, [], some (3, .int, 8), some [.slice none 0 0], 0, none, []⟩ := ⟨Try.sizeOf29, Try.isAgg29, (fun _ => rfl), (fun _ _ _ h => by simp at h), (fun _ _ _ h => by cases h; exact ⟨Try.underlying29, by obtain ⟨i, h1, h2, h3, h4⟩ := info_parts inf29; exact ⟨i, _, h1, h2, h3, h4, rfl⟩, by decide⟩), (fun _ _ _ inf z h hi hz => by cases h; obtain ⟨i, h1, h2, h3, h4⟩ := info_parts inf29; rw [h1] at hi; cases hi; rw [h2] at hz; cases hz; rfl), (fun zs h => by cases h; exact ⟨_, Try.zeroValue29, rfl, by simp [Value.oneCell']⟩), (fun _ _ h => by cases h), (fun h => by cases h), (fun _ h => by cases h), (fun h => by cases h), (fun h => by cases h), (fun h => by cases h), (fun _ _ _ _ _ h => by simp at h)⟩
theorem inf39 : (Try.prog.info? 138).map (fun i => (i.zero, i.size, i.bytes)) = some (some (.agg #[.int .i64 0, .int .i64 0, .int .i64 0]), 3, 24) := by kernel_rfl
theorem tok39 : TOk Try.prog 39 ⟨false, 1, [], some (138, .lk, 24), some [.slice none 0 0], 0, none, []⟩ := ⟨Try.sizeOf39, Try.isAgg39, (fun _ => rfl), (fun _ _ _ h => by simp at h), (fun _ _ _ h => by cases h; exact ⟨Try.underlying39, by obtain ⟨i, h1, h2, h3, h4⟩ := info_parts inf39; exact ⟨i, _, h1, h2, h3, h4, rfl⟩, by decide⟩), (fun _ _ _ inf z h hi hz => by cases h; obtain ⟨i, h1, h2, h3, h4⟩ := info_parts inf39; rw [h1] at hi; cases hi; rw [h2] at hz; cases hz; rfl), (fun zs h => by cases h; exact ⟨_, Try.zeroValue39, rfl, by simp [Value.oneCell']⟩), (fun _ _ h => by cases h), (fun h => by cases h), (fun _ h => by cases h), (fun h => by cases h), (fun h => by cases h), (fun h => by cases h), (fun _ _ _ _ _ h => by simp at h)⟩
theorem tok40 : TOk Try.prog 40 ⟨true, 2, [(0, 1), (1, 1)], none, some [.int .i64 0, .slice none 0 0], 0, none, [false, false]⟩ := ⟨Try.sizeOf40, Try.isAgg40, (fun h => by cases h), (fun j off fs h => match j, h with | 0, h => by injection h with h; injection h with h1 h2; subst h1 h2; exact ⟨_, _, Try.runUnderlying40, rfl, rfl, Try.sizeOf3, by decide⟩ | 1, h => by injection h with h; injection h with h1 h2; subst h1 h2; exact ⟨_, _, Try.runUnderlying40, rfl, rfl, Try.sizeOf39, by decide⟩ | _ + 2, h => by simp at h), (fun _ _ _ h => by cases h), (fun _ _ _ _ _ h => by cases h), (fun zs h => by cases h; exact ⟨_, Try.zeroValue40, rfl, by simp [Value.oneCell']⟩), (fun _ _ _ => ⟨_, Try.runUnderlying40, fun w => by simp [Try.sizeOf3, Try.sizeOf39]⟩), (fun h => by cases h), (fun _ h => by cases h), (fun h => by cases h), (fun h => by cases h), (fun h => by cases h), (fun j off fs b h h2 => match j, h, h2 with | 0, h, h2 => by injection h with h; injection h with h1 h3; subst h1 h3; injection h2 with h2; subst h2; exact ⟨_, _, Try.runUnderlying40, rfl, rfl, Try.isAgg3, Try.sizeOf3⟩ | 1, h, h2 => by injection h with h; injection h with h1 h3; subst h1 h3; injection h2 with h2; subst h2; exact ⟨_, _, Try.runUnderlying40, rfl, rfl, Try.isAgg39, Try.sizeOf39⟩ | _ + 2, h, _ => by simp at h)⟩
theorem tok41 : TOk Try.prog 41 ⟨true, 2, [(0, 1), (1, 1)], none, some [.int .i64 0, .slice none 0 0], 0, none, [false, false]⟩ := ⟨Try.sizeOf41, Try.isAgg41, (fun h => by cases h), (fun j off fs h => match j, h with | 0, h => by injection h with h; injection h with h1 h2; subst h1 h2; exact ⟨_, _, Try.runUnderlying41, rfl, rfl, Try.sizeOf3, by decide⟩ | 1, h => by injection h with h; injection h with h1 h2; subst h1 h2; exact ⟨_, _, Try.runUnderlying41, rfl, rfl, Try.sizeOf39, by decide⟩ | _ + 2, h => by simp at h), (fun _ _ _ h => by cases h), (fun _ _ _ _ _ h => by cases h), (fun zs h => by cases h; exact ⟨_, Try.zeroValue41, rfl, by simp [Value.oneCell']⟩), (fun _ _ _ => ⟨_, Try.runUnderlying41, fun w => by simp [Try.sizeOf3, Try.sizeOf39]⟩), (fun h => by cases h), (fun _ h => by cases h), (fun h => by cases h), (fun h => by cases h), (fun h => by cases h), (fun j off fs b h h2 => match j, h, h2 with | 0, h, h2 => by injection h with h; injection h with h1 h3; subst h1 h3; injection h2 with h2; subst h2; exact ⟨_, _, Try.runUnderlying41, rfl, rfl, Try.isAgg3, Try.sizeOf3⟩ | 1, h, h2 => by injection h with h; injection h with h1 h3; subst h1 h3; injection h2 with h2; subst h2; exact ⟨_, _, Try.runUnderlying41, rfl, rfl, Try.isAgg39, Try.sizeOf39⟩ | _ + 2, h, _ => by simp at h)⟩
theorem inf42 : (Try.prog.info? 97).map (fun i => (i.zero, i.size, i.bytes)) = some (some (.agg #[.int .i64 0, .int .i64 0]), 2, 16) := by kernel_rfl
theorem tok42 : TOk Try.prog 42 ⟨false, 1, [], some (97, .en, 16), some [.slice none 0 0], 0, none, []⟩ := ⟨Try.sizeOf42, Try.isAgg42, (fun _ => rfl), (fun _ _ _ h => by simp at h), (fun _ _ _ h => by cases h; exact ⟨Try.underlying42, by obtain ⟨i, h1, h2, h3, h4⟩ := info_parts inf42; exact ⟨i, _, h1, h2, h3, h4, rfl⟩, by decide⟩), (fun _ _ _ inf z h hi hz => by cases h; obtain ⟨i, h1, h2, h3, h4⟩ := info_parts inf42; rw [h1] at hi; cases hi; rw [h2] at hz; cases hz; rfl), (fun zs h => by cases h; exact ⟨_, Try.zeroValue42, rfl, by simp [Value.oneCell']⟩), (fun _ _ h => by cases h), (fun h => by cases h), (fun _ h => by cases h), (fun h => by cases h), (fun h => by cases h), (fun h => by cases h), (fun _ _ _ _ _ h => by simp at h)⟩
theorem inf59 : (Try.prog.info? 4).map (fun i => (i.zero, i.size, i.bytes)) = some (some (.bool false), 1, 1) := by kernel_rfl
theorem tok59 : TOk Try.prog 59 ⟨false, 1, [], some (4, .bool, 1), some [.slice none 0 0], 0, none, []⟩ := ⟨Try.sizeOf59, Try.isAgg59, (fun _ => rfl), (fun _ _ _ h => by simp at h), (fun _ _ _ h => by cases h; exact ⟨Try.underlying59, by obtain ⟨i, h1, h2, h3, h4⟩ := info_parts inf59; exact ⟨i, _, h1, h2, h3, h4, rfl⟩, by decide⟩), (fun _ _ _ inf z h hi hz => by cases h; obtain ⟨i, h1, h2, h3, h4⟩ := info_parts inf59; rw [h1] at hi; cases hi; rw [h2] at hz; cases hz; rfl), (fun zs h => by cases h; exact ⟨_, Try.zeroValue59, rfl, by simp [Value.oneCell']⟩), (fun _ _ h => by cases h), (fun h => by cases h), (fun _ h => by cases h), (fun h => by cases h), (fun h => by cases h), (fun h => by cases h), (fun _ _ _ _ _ h => by simp at h)⟩
theorem inf60 : (Try.prog.info? 145).map (fun i => (i.zero, i.size, i.bytes)) = some (some (.slice none 0 0), 1, 24) := by kernel_rfl
theorem tok60 : TOk Try.prog 60 ⟨false, 1, [], some (145, .db, 24), some [.slice none 0 0], 0, none, []⟩ := ⟨Try.sizeOf60, Try.isAgg60, (fun _ => rfl), (fun _ _ _ h => by simp at h), (fun _ _ _ h => by cases h; exact ⟨Try.underlying60, by obtain ⟨i, h1, h2, h3, h4⟩ := info_parts inf60; exact ⟨i, _, h1, h2, h3, h4, rfl⟩, by decide⟩), (fun _ _ _ inf z h hi hz => by cases h; obtain ⟨i, h1, h2, h3, h4⟩ := info_parts inf60; rw [h1] at hi; cases hi; rw [h2] at hz; cases hz; rfl), (fun zs h => by cases h; exact ⟨_, Try.zeroValue60, rfl, by simp [Value.oneCell']⟩), (fun _ _ h => by cases h), (fun h => by cases h), (fun _ h => by cases h), (fun h => by cases h), (fun h => by cases h), (fun h => by cases h), (fun _ _ _ _ _ h => by simp at h)⟩
theorem inf61 : (Try.prog.info? 150).map (fun i => (i.zero, i.size, i.bytes)) = some (some (.agg #[.int .i64 0, .int .i64 0, .int .i64 0, .slice none 0 0]), 4, 48) := by kernel_rfl
theorem tok61 : TOk Try.prog 61 ⟨false, 1, [], some (150, .pk, 48), some [.slice none 0 0], 0, none, []⟩ := ⟨Try.sizeOf61, Try.isAgg61, (fun _ => rfl), (fun _ _ _ h => by simp at h), (fun _ _ _ h => by cases h; exact ⟨Try.underlying61, by obtain ⟨i, h1, h2, h3, h4⟩ := info_parts inf61; exact ⟨i, _, h1, h2, h3, h4, rfl⟩, by decide⟩), (fun _ _ _ inf z h hi hz => by cases h; obtain ⟨i, h1, h2, h3, h4⟩ := info_parts inf61; rw [h1] at hi; cases hi; rw [h2] at hz; cases hz; rfl), (fun zs h => by cases h; exact ⟨_, Try.zeroValue61, rfl, by simp [Value.oneCell']⟩), (fun _ _ h => by cases h), (fun h => by cases h), (fun _ h => by cases h), (fun h => by cases h), (fun h => by cases h), (fun h => by cases h), (fun _ _ _ _ _ h => by simp at h)⟩
theorem tok62 : TOk Try.prog 62 ⟨true, 6, [(0, 2), (2, 1), (3, 1), (4, 1), (5, 1)], none, some [.int .i64 0, .slice none 0 0, .slice none 0 0, .slice none 0 0, .slice none 0 0, .slice none 0 0], 0, none, [true, false, false, false, false]⟩ := ⟨Try.sizeOf62, Try.isAgg62, (fun h => by cases h), (fun j off fs h => match j, h with | 0, h => by injection h with h; injection h with h1 h2; subst h1 h2; exact ⟨_, _, Try.runUnderlying62, rfl, rfl, Try.sizeOf41, by decide⟩ | 1, h => by injection h with h; injection h with h1 h2; subst h1 h2; exact ⟨_, _, Try.runUnderlying62, rfl, rfl, Try.sizeOf59, by decide⟩ | 2, h => by injection h with h; injection h with h1 h2; subst h1 h2; exact ⟨_, _, Try.runUnderlying62, rfl, rfl, Try.sizeOf29, by decide⟩ | 3, h => by injection h with h; injection h with h1 h2; subst h1 h2; exact ⟨_, _, Try.runUnderlying62, rfl, rfl, Try.sizeOf60, by decide⟩ | 4, h => by injection h with h; injection h with h1 h2; subst h1 h2; exact ⟨_, _, Try.runUnderlying62, rfl, rfl, Try.sizeOf61, by decide⟩ | _ + 5, h => by simp at h), (fun _ _ _ h => by cases h), (fun _ _ _ _ _ h => by cases h), (fun zs h => by cases h; exact ⟨_, Try.zeroValue62, rfl, by simp [Value.oneCell']⟩), (fun _ _ _ => ⟨_, Try.runUnderlying62, fun w => by simp [Try.sizeOf29, Try.sizeOf41, Try.sizeOf59, Try.sizeOf60, Try.sizeOf61]⟩), (fun h => by cases h), (fun _ h => by cases h), (fun h => by cases h), (fun h => by cases h), (fun h => by cases h), (fun j off fs b h h2 => match j, h, h2 with | 0, h, h2 => by injection h with h; injection h with h1 h3; subst h1 h3; injection h2 with h2; subst h2; exact ⟨_, _, Try.runUnderlying62, rfl, rfl, Try.isAgg41, Try.sizeOf41⟩ | 1, h, h2 => by injection h with h; injection h with h1 h3; subst h1 h3; injection h2 with h2; subst h2; exact ⟨_, _, Try.runUnderlying62, rfl, rfl, Try.isAgg59, Try.sizeOf59⟩ | 2, h, h2 => by injection h with h; injection h with h1 h3; subst h1 h3; injection h2 with h2; subst h2; exact ⟨_, _, Try.runUnderlying62, rfl, rfl, Try.isAgg29, Try.sizeOf29⟩ | 3, h, h2 => by injection h with h; injection h with h1 h3; subst h1 h3; injection h2 with h2; subst h2; exact ⟨_, _, Try.runUnderlying62, rfl, rfl, Try.isAgg60, Try.sizeOf60⟩ | 4, h, h2 => by injection h with h; injection h with h1 h3; subst h1 h3; injection h2 with h2; subst h2; exact ⟨_, _, Try.runUnderlying62, rfl, rfl, Try.isAgg61, Try.sizeOf61⟩ | _ + 5, h, _ => by simp at h)⟩
theorem tok63 : TOk Try.prog 63 ⟨true, 6, [(0, 2), (2, 1), (3, 1), (4, 1), (5, 1)], none, some [.int .i64 0, .slice none 0 0, .slice none 0 0, .slice none 0 0, .slice none 0 0, .slice none 0 0], 0, none, [true, false, false, false, false]⟩ := ⟨Try.sizeOf63, Try.isAgg63, (fun h => by cases h), (fun j off fs h => match j, h with | 0, h => by injection h with h; injection h with h1 h2; subst h1 h2; exact ⟨_, _, Try.runUnderlying63, rfl, rfl, Try.sizeOf41, by decide⟩ | 1, h => by injection h with h; injection h with h1 h2; subst h1 h2; exact ⟨_, _, Try.runUnderlying63, rfl, rfl, Try.sizeOf59, by decide⟩ | 2, h => by injection h with h; injection h with h1 h2; subst h1 h2; exact ⟨_, _, Try.runUnderlying63, rfl, rfl, Try.sizeOf29, by decide⟩ | 3, h => by injection h with h; injection h with h1 h2; subst h1 h2; exact ⟨_, _, Try.runUnderlying63, rfl, rfl, Try.sizeOf60, by decide⟩ | 4, h => by injection h with h; injection h with h1 h2; subst h1 h2; exact ⟨_, _, Try.runUnderlying63, rfl, rfl, Try.sizeOf61, by decide⟩ | _ + 5, h => by simp at h), (fun _ _ _ h => by cases h), (fun _ _ _ _ _ h => by cases h), (fun zs h => by cases h; exact ⟨_, Try.zeroValue63, rfl, by simp [Value.oneCell']⟩), (fun _ _ _ => ⟨_, Try.runUnderlying63, fun w => by simp [Try.sizeOf29, Try.sizeOf41, Try.sizeOf59, Try.sizeOf60, Try.sizeOf61]⟩), (fun h => by cases h), (fun _ h => by cases h), (fun h => by cases h), (fun h => by cases h), (fun h => by cases h), (fun j off fs b h h2 => match j, h, h2 with | 0, h, h2 => by injection h with h; injection h with h1 h3; subst h1 h3; injection h2 with h2; subst h2; exact ⟨_, _, Try.runUnderlying63, rfl, rfl, Try.isAgg41, Try.sizeOf41⟩ | 1, h, h2 => by injection h with h; injection h with h1 h3; subst h1 h3; injection h2 with h2; subst h2; exact ⟨_, _, Try.runUnderlying63, rfl, rfl, Try.isAgg59, Try.sizeOf59⟩ | 2, h, h2 => by injection h with h; injection h with h1 h3; subst h1 h3; injection h2 with h2; subst h2; exact ⟨_, _, Try.runUnderlying63, rfl, rfl, Try.isAgg29, Try.sizeOf29⟩ | 3, h, h2 => by injection h with h; injection h with h1 h3; subst h1 h3; injection h2 with h2; subst h2; exact ⟨_, _, Try.runUnderlying63, rfl, rfl, Try.isAgg60, Try.sizeOf60⟩ | 4, h, h2 => by injection h with h; injection h with h1 h3; subst h1 h3; injection h2 with h2; subst h2; exact ⟨_, _, Try.runUnderlying63, rfl, rfl, Try.isAgg61, Try.sizeOf61⟩ | _ + 5, h, _ => by simp at h)⟩
theorem inf66 : (Try.prog.info? 84).map (fun i => (i.zero, i.size, i.bytes)) = some (some (.slice none 0 0), 1, 24) := by kernel_rfl
theorem tok66 : TOk Try.prog 66 ⟨false, 1, [], some (84, .db, 24), some [.slice none 0 0], 0, none, []⟩ := ⟨Try.sizeOf66, Try.isAgg66, (fun _ => rfl), (fun _ _ _ h => by simp at h), (fun _ _ _ h => by cases h; exact ⟨Try.underlying66, by obtain ⟨i, h1, h2, h3, h4⟩ := info_parts inf66; exact ⟨i, _, h1, h2, h3, h4, rfl⟩, by decide⟩), (fun _ _ _ inf z h hi hz => by cases h; obtain ⟨i, h1, h2, h3, h4⟩ := info_parts inf66; rw [h1] at hi; cases hi; rw [h2] at hz; cases hz; rfl), (fun zs h => by cases h; exact ⟨_, Try.zeroValue66, rfl, by simp [Value.oneCell']⟩), (fun _ _ h => by cases h), (fun h => by cases h), (fun _ h => by cases h), (fun h => by cases h), (fun h => by cases h), (fun h => by cases h), (fun _ _ _ _ _ h => by simp at h)⟩
theorem inf67 : (Try.prog.info? 119).map (fun i => (i.zero, i.size, i.bytes)) = some (some (.agg #[.int .i64 0, .int .i64 0, .int .i64 0, .slice none 0 0]), 4, 48) := by kernel_rfl
theorem tok67 : TOk Try.prog 67 ⟨false, 1, [], some (119, .pk, 48), some [.slice none 0 0], 0, none, []⟩ := ⟨Try.sizeOf67, Try.isAgg67, (fun _ => rfl), (fun _ _ _ h => by simp at h), (fun _ _ _ h => by cases h; exact ⟨Try.underlying67, by obtain ⟨i, h1, h2, h3, h4⟩ := info_parts inf67; exact ⟨i, _, h1, h2, h3, h4, rfl⟩, by decide⟩), (fun _ _ _ inf z h hi hz => by cases h; obtain ⟨i, h1, h2, h3, h4⟩ := info_parts inf67; rw [h1] at hi; cases hi; rw [h2] at hz; cases hz; rfl), (fun zs h => by cases h; exact ⟨_, Try.zeroValue67, rfl, by simp [Value.oneCell']⟩), (fun _ _ h => by cases h), (fun h => by cases h), (fun _ h => by cases h), (fun h => by cases h), (fun h => by cases h), (fun h => by cases h), (fun _ _ _ _ _ h => by simp at h)⟩
theorem tok68 : TOk Try.prog 68 ⟨true, 6, [(0, 2), (2, 1), (3, 1), (4, 1), (5, 1)], none, some [.int .i64 0, .slice none 0 0, .slice none 0 0, .slice none 0 0, .slice none 0 0, .slice none 0 0], 0, none, [true, false, false, false, false]⟩ := ⟨Try.sizeOf68, Try.isAgg68, (fun h => by cases h), (fun j off fs h => match j, h with | 0, h => by injection h with h; injection h with h1 h2; subst h1 h2; exact ⟨_, _, Try.runUnderlying68, rfl, rfl, Try.sizeOf25, by decide⟩ | 1, h => by injection h with h; injection h with h1 h2; subst h1 h2; exact ⟨_, _, Try.runUnderlying68, rfl, rfl, Try.sizeOf59, by decide⟩ | 2, h => by injection h with h; injection h with h1 h2; subst h1 h2; exact ⟨_, _, Try.runUnderlying68, rfl, rfl, Try.sizeOf29, by decide⟩ | 3, h => by injection h with h; injection h with h1 h2; subst h1 h2; exact ⟨_, _, Try.runUnderlying68, rfl, rfl, Try.sizeOf66, by decide⟩ | 4, h => by injection h with h; injection h with h1 h2; subst h1 h2; exact ⟨_, _, Try.runUnderlying68, rfl, rfl, Try.sizeOf67, by decide⟩ | _ + 5, h => by simp at h), (fun _ _ _ h => by cases h), (fun _ _ _ _ _ h => by cases h), (fun zs h => by cases h; exact ⟨_, Try.zeroValue68, rfl, by simp [Value.oneCell']⟩), (fun _ _ _ => ⟨_, Try.runUnderlying68, fun w => by simp [Try.sizeOf25, Try.sizeOf29, Try.sizeOf59, Try.sizeOf66, Try.sizeOf67]⟩), (fun h => by cases h), (fun _ h => by cases h), (fun h => by cases h), (fun h => by cases h), (fun h => by cases h), (fun j off fs b h h2 => match j, h, h2 with | 0, h, h2 => by injection h with h; injection h with h1 h3; subst h1 h3; injection h2 with h2; subst h2; exact ⟨_, _, Try.runUnderlying68, rfl, rfl, Try.isAgg25, Try.sizeOf25⟩ | 1, h, h2 => by injection h with h; injection h with h1 h3; subst h1 h3; injection h2 with h2; subst h2; exact ⟨_, _, Try.runUnderlying68, rfl, rfl, Try.isAgg59, Try.sizeOf59⟩ | 2, h, h2 => by injection h with h; injection h with h1 h3; subst h1 h3; injection h2 with h2; subst h2; exact ⟨_, _, Try.runUnderlying68, rfl, rfl, Try.isAgg29, Try.sizeOf29⟩ | 3, h, h2 => by injection h with h; injection h with h1 h3; subst h1 h3; injection h2 with h2; subst h2; exact ⟨_, _, Try.runUnderlying68, rfl, rfl, Try.isAgg66, Try.sizeOf66⟩ | 4, h, h2 => by injection h with h; injection h with h1 h3; subst h1 h3; injection h2 with h2; subst h2; exact ⟨_, _, Try.runUnderlying68, rfl, rfl, Try.isAgg67, Try.sizeOf67⟩ | _ + 5, h, _ => by simp at h)⟩
theorem tok69 : TOk Try.prog 69 ⟨true, 6, [(0, 2), (2, 1), (3, 1), (4, 1), (5, 1)], none, some [.int .i64 0, .slice none 0 0, .slice none 0 0, .slice none 0 0, .slice none 0 0, .slice none 0 0], 0, none, [true, false, false, false, false]⟩ := ⟨Try.sizeOf69, Try.isAgg69, (fun h => by cases h), (fun j off fs h => match j, h with | 0, h => by injection h with h; injection h with h1 h2; subst h1 h2; exact ⟨_, _, Try.runUnderlying69, rfl, rfl, Try.sizeOf25, by decide⟩ | 1, h => by injection h with h; injection h with h1 h2; subst h1 h2; exact ⟨_, _, Try.runUnderlying69, rfl, rfl, Try.sizeOf59, by decide⟩ | 2, h => by injection h with h; injection h with h1 h2; subst h1 h2; exact ⟨_, _, Try.runUnderlying69, rfl, rfl, Try.sizeOf29, by decide⟩ | 3, h => by injection h with h; injection h with h1 h2; subst h1 h2; exact ⟨_, _, Try.runUnderlying69, rfl, rfl, Try.sizeOf66, by decide⟩ | 4, h => by injection h with h; injection h with h1 h2; subst h1 h2; exact ⟨_, _, Try.runUnderlying69, rfl, rfl, Try.sizeOf67, by decide⟩ | _ + 5, h => by simp at h), (fun _ _ _ h => by cases h), (fun _ _ _ _ _ h => by cases h), (fun zs h => by cases h; exact ⟨_, Try.zeroValue69, rfl, by simp [Value.oneCell']⟩), (fun _ _ _ => ⟨_, Try.runUnderlying69, fun w => by simp [Try.sizeOf25, Try.sizeOf29, Try.sizeOf59, Try.sizeOf66, Try.sizeOf67]⟩), (fun h => by cases h), (fun _ h => by cases h), (fun h => by cases h), (fun h => by cases h), (fun h => by cases h), (fun j off fs b h h2 => match j, h, h2 with | 0, h, h2 => by injection h with h; injection h with h1 h3; subst h1 h3; injection h2 with h2; subst h2; exact ⟨_, _, Try.runUnderlying69, rfl, rfl, Try.isAgg25, Try.sizeOf25⟩ | 1, h, h2 => by injection h with h; injection h with h1 h3; subst h1 h3; injection h2 with h2; subst h2; exact ⟨_, _, Try.runUnderlying69, rfl, rfl, Try.isAgg59, Try.sizeOf59⟩ | 2, h, h2 => by injection h with h; injection h with h1 h3; subst h1 h3; injection h2 with h2; subst h2; exact ⟨_, _, Try.runUnderlying69, rfl, rfl, Try.isAgg29, Try.sizeOf29⟩ | 3, h, h2 => by injection h with h; injection h with h1 h3; subst h1 h3; injection h2 with h2; subst h2; exact ⟨_, _, Try.runUnderlying69, rfl, rfl, Try.isAgg66, Try.sizeOf66⟩ | 4, h, h2 => by injection h with h; injection h with h1 h3; subst h1 h3; injection h2 with h2; subst h2; exact ⟨_, _, Try.runUnderlying69, rfl, rfl, Try.isAgg67, Try.sizeOf67⟩ | _ + 5, h, _ => by simp at h)⟩
theorem tok73 : TOk Try.prog 73 ⟨false, 1, [], none, some [.pointer none], 0, none, []⟩ := ⟨Try.sizeOf73, Try.isAgg73, (fun _ => rfl), (fun _ _ _ h => by simp at h), (fun _ _ _ h => by cases h), (fun _ _ _ _ _ h => by cases h), (fun zs h => by cases h; exact ⟨_, Try.zeroValue73, rfl, by simp [Value.oneCell']⟩), (fun _ _ h => by cases h), (fun h => by cases h), (fun _ h => by cases h), (fun h => by cases h), (fun h => by cases h), (fun h => by cases h), (fun _ _ _ _ _ h => by simp at h)⟩
theorem inf84 : (Try.prog.info? 89).map (fun i => (i.zero, i.size, i.bytes)) = some (some (.agg #[.int .i64 0, .int .i64 0, .slice none 0 0]), 3, 40) := by kernel_rfl
theorem tok84 : TOk Try.prog 84 ⟨false, 1, [], some (89, .ls, 40), some [.slice none 0 0], 0, none, []⟩ := ⟨Try.sizeOf84, Try.isAgg84, (fun _ => rfl), (fun _ _ _ h => by simp at h), (fun _ _ _ h => by cases h; exact ⟨Try.underlying84, by obtain ⟨i, h1, h2, h3, h4⟩ := info_parts inf84; exact ⟨i, _, h1, h2, h3, h4, rfl⟩, by decide⟩), (fun _ _ _ inf z h hi hz => by cases h; obtain ⟨i, h1, h2, h3, h4⟩ := info_parts inf84; rw [h1] at hi; cases hi; rw [h2] at hz; cases hz; rfl), (fun zs h => by cases h; exact ⟨_, Try.zeroValue84, rfl, by simp [Value.oneCell']⟩), (fun _ _ h => by cases h), (fun h => by cases h), (fun _ h => by cases h), (fun h => by cases h), (fun h => by cases h), (fun h => by cases h), (fun _ _ _ _ _ h => by simp at h)⟩
theorem tok88 : TOk Try.prog 88 ⟨true, 3, [(0, 1), (1, 1), (2, 1)], none, some [.int .i64 0, .int .i64 0, .slice none 0 0], 0, none, [false, false, false]⟩ := ⟨Try.sizeOf88, Try.isAgg88, (fun h => by cases h), (fun j off fs h => match j, h with | 0, h => by injection h with h; injection h with h1 h2; subst h1 h2; exact ⟨_, _, Try.runUnderlying88, rfl, rfl, Try.sizeOf3, by decide⟩ | 1, h => by injection h with h; injection h with h1 h2; subst h1 h2; exact ⟨_, _, Try.runUnderlying88, rfl, rfl, Try.sizeOf3, by decide⟩ | 2, h => by injection h with h; injection h with h1 h2; subst h1 h2; exact ⟨_, _, Try.runUnderlying88, rfl, rfl, Try.sizeOf26, by decide⟩ | _ + 3, h => by simp at h), (fun _ _ _ h => by cases h), (fun _ _ _ _ _ h => by cases h), (fun zs h => by cases h; exact ⟨_, Try.zeroValue88, rfl, by simp [Value.oneCell']⟩), (fun _ _ _ => ⟨_, Try.runUnderlying88, fun w => by simp [Try.sizeOf26, Try.sizeOf3]⟩), (fun h => by cases h), (fun _ h => by cases h), (fun h => by cases h), (fun h => by cases h), (fun h => by cases h), (fun j off fs b h h2 => match j, h, h2 with | 0, h, h2 => by injection h with h; injection h with h1 h3; subst h1 h3; injection h2 with h2; subst h2; exact ⟨_, _, Try.runUnderlying88, rfl, rfl, Try.isAgg3, Try.sizeOf3⟩ | 1, h, h2 => by injection h with h; injection h with h1 h3; subst h1 h3; injection h2 with h2; subst h2; exact ⟨_, _, Try.runUnderlying88, rfl, rfl, Try.isAgg3, Try.sizeOf3⟩ | 2, h, h2 => by injection h with h; injection h with h1 h3; subst h1 h3; injection h2 with h2; subst h2; exact ⟨_, _, Try.runUnderlying88, rfl, rfl, Try.isAgg26, Try.sizeOf26⟩ | _ + 3, h, _ => by simp at h)⟩
theorem tok89 : TOk Try.prog 89 ⟨true, 3, [(0, 1), (1, 1), (2, 1)], none, some [.int .i64 0, .int .i64 0, .slice none 0 0], 0, none, [false, false, false]⟩ := ⟨Try.sizeOf89, Try.isAgg89, (fun h => by cases h), (fun j off fs h => match j, h with | 0, h => by injection h with h; injection h with h1 h2; subst h1 h2; exact ⟨_, _, Try.runUnderlying89, rfl, rfl, Try.sizeOf3, by decide⟩ | 1, h => by injection h with h; injection h with h1 h2; subst h1 h2; exact ⟨_, _, Try.runUnderlying89, rfl, rfl, Try.sizeOf3, by decide⟩ | 2, h => by injection h with h; injection h with h1 h2; subst h1 h2; exact ⟨_, _, Try.runUnderlying89, rfl, rfl, Try.sizeOf26, by decide⟩ | _ + 3, h => by simp at h), (fun _ _ _ h => by cases h), (fun _ _ _ _ _ h => by cases h), (fun zs h => by cases h; exact ⟨_, Try.zeroValue89, rfl, by simp [Value.oneCell']⟩), (fun _ _ _ => ⟨_, Try.runUnderlying89, fun w => by simp [Try.sizeOf26, Try.sizeOf3]⟩), (fun h => by cases h), (fun _ h => by cases h), (fun h => by cases h), (fun h => by cases h), (fun h => by cases h), (fun j off fs b h h2 => match j, h, h2 with | 0, h, h2 => by injection h with h; injection h with h1 h3; subst h1 h3; injection h2 with h2; subst h2; exact ⟨_, _, Try.runUnderlying89, rfl, rfl, Try.isAgg3, Try.sizeOf3⟩ | 1, h, h2 => by injection h with h; injection h with h1 h3; subst h1 h3; injection h2 with h2; subst h2; exact ⟨_, _, Try.runUnderlying89, rfl, rfl, Try.isAgg3, Try.sizeOf3⟩ | 2, h, h2 => by injection h with h; injection h with h1 h3; subst h1 h3; injection h2 with h2; subst h2; exact ⟨_, _, Try.runUnderlying89, rfl, rfl, Try.isAgg26, Try.sizeOf26⟩ | _ + 3, h, _ => by simp at h)⟩
theorem tok94 : TOk Try.prog 94 ⟨true, 2, [(0, 1), (1, 1)], none, some [.int .i64 0, .int .i64 0], 0, none, [false, false]⟩ := ⟨Try.sizeOf94, Try.isAgg94, (fun h => by cases h), (fun j off fs h => match j, h with | 0, h => by injection h with h; injection h with h1 h2; subst h1 h2; exact ⟨_, _, Try.runUnderlying94, rfl, rfl, Try.sizeOf3, by decide⟩ | 1, h => by injection h with h; injection h with h1 h2; subst h1 h2; exact ⟨_, _, Try.runUnderlying94, rfl, rfl, Try.sizeOf3, by decide⟩ | _ + 2, h => by simp at h), (fun _ _ _ h => by cases h), (fun _ _ _ _ _ h => by cases h), (fun zs h => by cases h; exact ⟨_, Try.zeroValue94, rfl, by simp [Value.oneCell']⟩), (fun _ _ _ => ⟨_, Try.runUnderlying94, fun w => by simp [Try.sizeOf3]⟩), (fun h => by cases h), (fun _ h => by cases h), (fun h => by cases h), (fun h => by cases h), (fun h => by cases h), (fun j off fs b h h2 => match j, h, h2 with | 0, h, h2 => by injection h with h; injection h with h1 h3; subst h1 h3; injection h2 with h2; subst h2; exact ⟨_, _, Try.runUnderlying94, rfl, rfl, Try.isAgg3, Try.sizeOf3⟩ | 1, h, h2 => by injection h with h; injection h with h1 h3; subst h1 h3; injection h2 with h2; subst h2; exact ⟨_, _, Try.runUnderlying94, rfl, rfl, Try.isAgg3, Try.sizeOf3⟩ | _ + 2, h, _ => by simp at h)⟩
set_option maxRecDepth 100000 in
theorem ieq95 : ∀ (ps qs : List Int), ps.length = 2 → qs.length = 2 → ∀ x y w, (do eqGuard .eql 95 x y (.agg (ps.map (Value.int .i64)).toArray) (.agg (qs.map (Value.int .i64)).toArray); binOp .eql 95 (.agg (ps.map (Value.int .i64)).toArray) (.agg (qs.map (Value.int .i64)).toArray) : Sem Value).run Try.prog w = .ok (.bool (eqInts ps qs)) w
  | [a0, a1], [b0, b1], _, _, x, y, w => by
    have hu : Try.prog.underlying 95 = some (.struct (Try.prog.fieldsOf 95)) := by kernel_rfl
    have hst : Try.prog.stoodInHeld 95 = false := by kernel_rfl
    simp only [List.map_cons, List.map_nil]
    rw [Sem.run_bind, run_eqGuard_agg w .eql 95 x y _ _ (by kernel_rfl), Result.andThen_ok, run_eql_struct, run_equalIn_struct w 9999 _ _ _ hu hst]
    have hf : (Try.prog.fieldsOf 95).toList = (match Try.prog.underlying 95 with | some (.struct fs) => fs | _ => #[]).toList := rfl
    rw [hf, Try.underlying95]
    simp [Op.eqFields, go_sem, eqInts]
    by_cases h0 : a0 = b0 <;> by_cases h1 : a1 = b1 <;> simp [h0, h1]
set_option maxRecDepth 100000 in
theorem ine95 : ∀ (ps qs : List Int), ps.length = 2 → qs.length = 2 → ∀ x y w, (do eqGuard .neq 95 x y (.agg (ps.map (Value.int .i64)).toArray) (.agg (qs.map (Value.int .i64)).toArray); binOp .neq 95 (.agg (ps.map (Value.int .i64)).toArray) (.agg (qs.map (Value.int .i64)).toArray) : Sem Value).run Try.prog w = .ok (.bool (!eqInts ps qs)) w
  | [a0, a1], [b0, b1], _, _, x, y, w => by
    have hu : Try.prog.underlying 95 = some (.struct (Try.prog.fieldsOf 95)) := by kernel_rfl
    have hst : Try.prog.stoodInHeld 95 = false := by kernel_rfl
    simp only [List.map_cons, List.map_nil]
    rw [Sem.run_bind, run_eqGuard_agg w .neq 95 x y _ _ (by kernel_rfl), Result.andThen_ok, run_neq_struct, run_equalIn_struct w 9999 _ _ _ hu hst]
    have hf : (Try.prog.fieldsOf 95).toList = (match Try.prog.underlying 95 with | some (.struct fs) => fs | _ => #[]).toList := rfl
    rw [hf, Try.underlying95]
    simp [Op.eqFields, go_sem, eqInts]
    by_cases h0 : a0 = b0 <;> by_cases h1 : a1 = b1 <;> simp [h0, h1]
theorem tok95 : TOk Try.prog 95 ⟨true, 2, [(0, 1), (1, 1)], none, some [.int .i64 0, .int .i64 0], 3, none, [false, false]⟩ := ⟨Try.sizeOf95, Try.isAgg95, (fun h => by cases h), (fun j off fs h => match j, h with | 0, h => by injection h with h; injection h with h1 h2; subst h1 h2; exact ⟨_, _, Try.runUnderlying95, rfl, rfl, Try.sizeOf3, by decide⟩ | 1, h => by injection h with h; injection h with h1 h2; subst h1 h2; exact ⟨_, _, Try.runUnderlying95, rfl, rfl, Try.sizeOf3, by decide⟩ | _ + 2, h => by simp at h), (fun _ _ _ h => by cases h), (fun _ _ _ _ _ h => by cases h), (fun zs h => by cases h; exact ⟨_, Try.zeroValue95, rfl, by simp [Value.oneCell']⟩), (fun _ _ _ => ⟨_, Try.runUnderlying95, fun w => by simp [Try.sizeOf3]⟩), (fun h => by cases h), (fun _ h => by cases h), (fun h => by cases h), (fun _ => ieq95), (fun _ => ine95), (fun j off fs b h h2 => match j, h, h2 with | 0, h, h2 => by injection h with h; injection h with h1 h3; subst h1 h3; injection h2 with h2; subst h2; exact ⟨_, _, Try.runUnderlying95, rfl, rfl, Try.isAgg3, Try.sizeOf3⟩ | 1, h, h2 => by injection h with h; injection h with h1 h3; subst h1 h3; injection h2 with h2; subst h2; exact ⟨_, _, Try.runUnderlying95, rfl, rfl, Try.isAgg3, Try.sizeOf3⟩ | _ + 2, h, _ => by simp at h)⟩
set_option maxRecDepth 100000 in
theorem ieq97 : ∀ (ps qs : List Int), ps.length = 2 → qs.length = 2 → ∀ x y w, (do eqGuard .eql 97 x y (.agg (ps.map (Value.int .i64)).toArray) (.agg (qs.map (Value.int .i64)).toArray); binOp .eql 97 (.agg (ps.map (Value.int .i64)).toArray) (.agg (qs.map (Value.int .i64)).toArray) : Sem Value).run Try.prog w = .ok (.bool (eqInts ps qs)) w
  | [a0, a1], [b0, b1], _, _, x, y, w => by
    have hu : Try.prog.underlying 97 = some (.struct (Try.prog.fieldsOf 97)) := by kernel_rfl
    have hst : Try.prog.stoodInHeld 97 = false := by kernel_rfl
    simp only [List.map_cons, List.map_nil]
    rw [Sem.run_bind, run_eqGuard_agg w .eql 97 x y _ _ (by kernel_rfl), Result.andThen_ok, run_eql_struct, run_equalIn_struct w 9999 _ _ _ hu hst]
    have hf : (Try.prog.fieldsOf 97).toList = (match Try.prog.underlying 97 with | some (.struct fs) => fs | _ => #[]).toList := rfl
    rw [hf, Try.underlying97]
    simp [Op.eqFields, go_sem, eqInts]
    by_cases h0 : a0 = b0 <;> by_cases h1 : a1 = b1 <;> simp [h0, h1]
set_option maxRecDepth 100000 in
theorem ine97 : ∀ (ps qs : List Int), ps.length = 2 → qs.length = 2 → ∀ x y w, (do eqGuard .neq 97 x y (.agg (ps.map (Value.int .i64)).toArray) (.agg (qs.map (Value.int .i64)).toArray); binOp .neq 97 (.agg (ps.map (Value.int .i64)).toArray) (.agg (qs.map (Value.int .i64)).toArray) : Sem Value).run Try.prog w = .ok (.bool (!eqInts ps qs)) w
  | [a0, a1], [b0, b1], _, _, x, y, w => by
    have hu : Try.prog.underlying 97 = some (.struct (Try.prog.fieldsOf 97)) := by kernel_rfl
    have hst : Try.prog.stoodInHeld 97 = false := by kernel_rfl
    simp only [List.map_cons, List.map_nil]
    rw [Sem.run_bind, run_eqGuard_agg w .neq 97 x y _ _ (by kernel_rfl), Result.andThen_ok, run_neq_struct, run_equalIn_struct w 9999 _ _ _ hu hst]
    have hf : (Try.prog.fieldsOf 97).toList = (match Try.prog.underlying 97 with | some (.struct fs) => fs | _ => #[]).toList := rfl
    rw [hf, Try.underlying97]
    simp [Op.eqFields, go_sem, eqInts]
    by_cases h0 : a0 = b0 <;> by_cases h1 : a1 = b1 <;> simp [h0, h1]
theorem tok97 : TOk Try.prog 97 ⟨true, 2, [(0, 1), (1, 1)], none, some [.int .i64 0, .int .i64 0], 3, none, [false, false]⟩ := ⟨Try.sizeOf97, Try.isAgg97, (fun h => by cases h), (fun j off fs h => match j, h with | 0, h => by injection h with h; injection h with h1 h2; subst h1 h2; exact ⟨_, _, Try.runUnderlying97, rfl, rfl, Try.sizeOf3, by decide⟩ | 1, h => by injection h with h; injection h with h1 h2; subst h1 h2; exact ⟨_, _, Try.runUnderlying97, rfl, rfl, Try.sizeOf3, by decide⟩ | _ + 2, h => by simp at h), (fun _ _ _ h => by cases h), (fun _ _ _ _ _ h => by cases h), (fun zs h => by cases h; exact ⟨_, Try.zeroValue97, rfl, by simp [Value.oneCell']⟩), (fun _ _ _ => ⟨_, Try.runUnderlying97, fun w => by simp [Try.sizeOf3]⟩), (fun h => by cases h), (fun _ h => by cases h), (fun h => by cases h), (fun _ => ieq97), (fun _ => ine97), (fun j off fs b h h2 => match j, h, h2 with | 0, h, h2 => by injection h with h; injection h with h1 h3; subst h1 h3; injection h2 with h2; subst h2; exact ⟨_, _, Try.runUnderlying97, rfl, rfl, Try.isAgg3, Try.sizeOf3⟩ | 1, h, h2 => by injection h with h; injection h with h1 h3; subst h1 h3; injection h2 with h2; subst h2; exact ⟨_, _, Try.runUnderlying97, rfl, rfl, Try.isAgg3, Try.sizeOf3⟩ | _ + 2, h, _ => by simp at h)⟩
theorem tok104 : TOk Try.prog 104 ⟨true, 3, [(0, 1), (1, 1), (2, 1)], none, some [.int .i64 0, .int .i64 0, .int .i64 0], 0, none, [false, false, false]⟩ := ⟨Try.sizeOf104, Try.isAgg104, (fun h => by cases h), (fun j off fs h => match j, h with | 0, h => by injection h with h; injection h with h1 h2; subst h1 h2; exact ⟨_, _, Try.runUnderlying104, rfl, rfl, Try.sizeOf3, by decide⟩ | 1, h => by injection h with h; injection h with h1 h2; subst h1 h2; exact ⟨_, _, Try.runUnderlying104, rfl, rfl, Try.sizeOf3, by decide⟩ | 2, h => by injection h with h; injection h with h1 h2; subst h1 h2; exact ⟨_, _, Try.runUnderlying104, rfl, rfl, Try.sizeOf3, by decide⟩ | _ + 3, h => by simp at h), (fun _ _ _ h => by cases h), (fun _ _ _ _ _ h => by cases h), (fun zs h => by cases h; exact ⟨_, Try.zeroValue104, rfl, by simp [Value.oneCell']⟩), (fun _ _ _ => ⟨_, Try.runUnderlying104, fun w => by simp [Try.sizeOf3]⟩), (fun h => by cases h), (fun _ h => by cases h), (fun h => by cases h), (fun h => by cases h), (fun h => by cases h), (fun j off fs b h h2 => match j, h, h2 with | 0, h, h2 => by injection h with h; injection h with h1 h3; subst h1 h3; injection h2 with h2; subst h2; exact ⟨_, _, Try.runUnderlying104, rfl, rfl, Try.isAgg3, Try.sizeOf3⟩ | 1, h, h2 => by injection h with h; injection h with h1 h3; subst h1 h3; injection h2 with h2; subst h2; exact ⟨_, _, Try.runUnderlying104, rfl, rfl, Try.isAgg3, Try.sizeOf3⟩ | 2, h, h2 => by injection h with h; injection h with h1 h3; subst h1 h3; injection h2 with h2; subst h2; exact ⟨_, _, Try.runUnderlying104, rfl, rfl, Try.isAgg3, Try.sizeOf3⟩ | _ + 3, h, _ => by simp at h)⟩
set_option maxRecDepth 100000 in
theorem ieq105 : ∀ (ps qs : List Int), ps.length = 3 → qs.length = 3 → ∀ x y w, (do eqGuard .eql 105 x y (.agg (ps.map (Value.int .i64)).toArray) (.agg (qs.map (Value.int .i64)).toArray); binOp .eql 105 (.agg (ps.map (Value.int .i64)).toArray) (.agg (qs.map (Value.int .i64)).toArray) : Sem Value).run Try.prog w = .ok (.bool (eqInts ps qs)) w
  | [a0, a1, a2], [b0, b1, b2], _, _, x, y, w => by
    have hu : Try.prog.underlying 105 = some (.struct (Try.prog.fieldsOf 105)) := by kernel_rfl
    have hst : Try.prog.stoodInHeld 105 = false := by kernel_rfl
    simp only [List.map_cons, List.map_nil]
    rw [Sem.run_bind, run_eqGuard_agg w .eql 105 x y _ _ (by kernel_rfl), Result.andThen_ok, run_eql_struct, run_equalIn_struct w 9999 _ _ _ hu hst]
    have hf : (Try.prog.fieldsOf 105).toList = (match Try.prog.underlying 105 with | some (.struct fs) => fs | _ => #[]).toList := rfl
    rw [hf, Try.underlying105]
    simp [Op.eqFields, go_sem, eqInts]
    by_cases h0 : a0 = b0 <;> by_cases h1 : a1 = b1 <;> by_cases h2 : a2 = b2 <;> simp [h0, h1, h2]
set_option maxRecDepth 100000 in
theorem ine105 : ∀ (ps qs : List Int), ps.length = 3 → qs.length = 3 → ∀ x y w, (do eqGuard .neq 105 x y (.agg (ps.map (Value.int .i64)).toArray) (.agg (qs.map (Value.int .i64)).toArray); binOp .neq 105 (.agg (ps.map (Value.int .i64)).toArray) (.agg (qs.map (Value.int .i64)).toArray) : Sem Value).run Try.prog w = .ok (.bool (!eqInts ps qs)) w
  | [a0, a1, a2], [b0, b1, b2], _, _, x, y, w => by
    have hu : Try.prog.underlying 105 = some (.struct (Try.prog.fieldsOf 105)) := by kernel_rfl
    have hst : Try.prog.stoodInHeld 105 = false := by kernel_rfl
    simp only [List.map_cons, List.map_nil]
    rw [Sem.run_bind, run_eqGuard_agg w .neq 105 x y _ _ (by kernel_rfl), Result.andThen_ok, run_neq_struct, run_equalIn_struct w 9999 _ _ _ hu hst]
    have hf : (Try.prog.fieldsOf 105).toList = (match Try.prog.underlying 105 with | some (.struct fs) => fs | _ => #[]).toList := rfl
    rw [hf, Try.underlying105]
    simp [Op.eqFields, go_sem, eqInts]
    by_cases h0 : a0 = b0 <;> by_cases h1 : a1 = b1 <;> by_cases h2 : a2 = b2 <;> simp [h0, h1, h2]
theorem tok105 : TOk Try.prog 105 ⟨true, 3, [(0, 1), (1, 1), (2, 1)], none, some [.int .i64 0, .int .i64 0, .int .i64 0], 3, none, [false, false, false]⟩ := ⟨Try.sizeOf105, Try.isAgg105, (fun h => by cases h), (fun j off fs h => match j, h with | 0, h => by injection h with h; injection h with h1 h2; subst h1 h2; exact ⟨_, _, Try.runUnderlying105, rfl, rfl, Try.sizeOf3, by decide⟩ | 1, h => by injection h with h; injection h with h1 h2; subst h1 h2; exact ⟨_, _, Try.runUnderlying105, rfl, rfl, Try.sizeOf3, by decide⟩ | 2, h => by injection h with h; injection h with h1 h2; subst h1 h2; exact ⟨_, _, Try.runUnderlying105, rfl, rfl, Try.sizeOf3, by decide⟩ | _ + 3, h => by simp at h), (fun _ _ _ h => by cases h), (fun _ _ _ _ _ h => by cases h), (fun zs h => by cases h; exact ⟨_, Try.zeroValue105, rfl, by simp [Value.oneCell']⟩), (fun _ _ _ => ⟨_, Try.runUnderlying105, fun w => by simp [Try.sizeOf3]⟩), (fun h => by cases h), (fun _ h => by cases h), (fun h => by cases h), (fun _ => ieq105), (fun _ => ine105), (fun j off fs b h h2 => match j, h, h2 with | 0, h, h2 => by injection h with h; injection h with h1 h3; subst h1 h3; injection h2 with h2; subst h2; exact ⟨_, _, Try.runUnderlying105, rfl, rfl, Try.isAgg3, Try.sizeOf3⟩ | 1, h, h2 => by injection h with h; injection h with h1 h3; subst h1 h3; injection h2 with h2; subst h2; exact ⟨_, _, Try.runUnderlying105, rfl, rfl, Try.isAgg3, Try.sizeOf3⟩ | 2, h, h2 => by injection h with h; injection h with h1 h3; subst h1 h3; injection h2 with h2; subst h2; exact ⟨_, _, Try.runUnderlying105, rfl, rfl, Try.isAgg3, Try.sizeOf3⟩ | _ + 3, h, _ => by simp at h)⟩
theorem inf107 : (Try.prog.info? 25).map (fun i => (i.zero, i.size, i.bytes)) = some (some (.agg #[.int .i64 0, .slice none 0 0]), 2, 32) := by kernel_rfl
theorem tok107 : TOk Try.prog 107 ⟨false, 1, [], some (25, .gr, 32), some [.slice none 0 0], 0, none, []⟩ := ⟨Try.sizeOf107, Try.isAgg107, (fun _ => rfl), (fun _ _ _ h => by simp at h), (fun _ _ _ h => by cases h; exact ⟨Try.underlying107, by obtain ⟨i, h1, h2, h3, h4⟩ := info_parts inf107; exact ⟨i, _, h1, h2, h3, h4, rfl⟩, by decide⟩), (fun _ _ _ inf z h hi hz => by cases h; obtain ⟨i, h1, h2, h3, h4⟩ := info_parts inf107; rw [h1] at hi; cases hi; rw [h2] at hz; cases hz; rfl), (fun zs h => by cases h; exact ⟨_, Try.zeroValue107, rfl, by simp [Value.oneCell']⟩), (fun _ _ h => by cases h), (fun h => by cases h), (fun _ h => by cases h), (fun h => by cases h), (fun h => by cases h), (fun h => by cases h), (fun _ _ _ _ _ h => by simp at h)⟩
theorem tok118 : TOk Try.prog 118 ⟨true, 4, [(0, 1), (1, 3)], none, some [.int .i64 0, .int .i64 0, .int .i64 0, .slice none 0 0], 0, none, [false, true]⟩ := ⟨Try.sizeOf118, Try.isAgg118, (fun h => by cases h), (fun j off fs h => match j, h with | 0, h => by injection h with h; injection h with h1 h2; subst h1 h2; exact ⟨_, _, Try.runUnderlying118, rfl, rfl, Try.sizeOf3, by decide⟩ | 1, h => by injection h with h; injection h with h1 h2; subst h1 h2; exact ⟨_, _, Try.runUnderlying118, rfl, rfl, Try.sizeOf89, by decide⟩ | _ + 2, h => by simp at h), (fun _ _ _ h => by cases h), (fun _ _ _ _ _ h => by cases h), (fun zs h => by cases h; exact ⟨_, Try.zeroValue118, rfl, by simp [Value.oneCell']⟩), (fun _ _ _ => ⟨_, Try.runUnderlying118, fun w => by simp [Try.sizeOf3, Try.sizeOf89]⟩), (fun h => by cases h), (fun _ h => by cases h), (fun h => by cases h), (fun h => by cases h), (fun h => by cases h), (fun j off fs b h h2 => match j, h, h2 with | 0, h, h2 => by injection h with h; injection h with h1 h3; subst h1 h3; injection h2 with h2; subst h2; exact ⟨_, _, Try.runUnderlying118, rfl, rfl, Try.isAgg3, Try.sizeOf3⟩ | 1, h, h2 => by injection h with h; injection h with h1 h3; subst h1 h3; injection h2 with h2; subst h2; exact ⟨_, _, Try.runUnderlying118, rfl, rfl, Try.isAgg89, Try.sizeOf89⟩ | _ + 2, h, _ => by simp at h)⟩
theorem tok119 : TOk Try.prog 119 ⟨true, 4, [(0, 1), (1, 3)], none, some [.int .i64 0, .int .i64 0, .int .i64 0, .slice none 0 0], 0, none, [false, true]⟩ := ⟨Try.sizeOf119, Try.isAgg119, (fun h => by cases h), (fun j off fs h => match j, h with | 0, h => by injection h with h; injection h with h1 h2; subst h1 h2; exact ⟨_, _, Try.runUnderlying119, rfl, rfl, Try.sizeOf3, by decide⟩ | 1, h => by injection h with h; injection h with h1 h2; subst h1 h2; exact ⟨_, _, Try.runUnderlying119, rfl, rfl, Try.sizeOf89, by decide⟩ | _ + 2, h => by simp at h), (fun _ _ _ h => by cases h), (fun _ _ _ _ _ h => by cases h), (fun zs h => by cases h; exact ⟨_, Try.zeroValue119, rfl, by simp [Value.oneCell']⟩), (fun _ _ _ => ⟨_, Try.runUnderlying119, fun w => by simp [Try.sizeOf3, Try.sizeOf89]⟩), (fun h => by cases h), (fun _ h => by cases h), (fun h => by cases h), (fun h => by cases h), (fun h => by cases h), (fun j off fs b h h2 => match j, h, h2 with | 0, h, h2 => by injection h with h; injection h with h1 h3; subst h1 h3; injection h2 with h2; subst h2; exact ⟨_, _, Try.runUnderlying119, rfl, rfl, Try.isAgg3, Try.sizeOf3⟩ | 1, h, h2 => by injection h with h; injection h with h1 h3; subst h1 h3; injection h2 with h2; subst h2; exact ⟨_, _, Try.runUnderlying119, rfl, rfl, Try.isAgg89, Try.sizeOf89⟩ | _ + 2, h, _ => by simp at h)⟩
theorem tok130 : TOk Try.prog 130 ⟨true, 2, [(0, 1), (1, 1)], none, some [.slice none 0 0, .int .i64 0], 0, none, [false, false]⟩ := ⟨Try.sizeOf130, Try.isAgg130, (fun h => by cases h), (fun j off fs h => match j, h with | 0, h => by injection h with h; injection h with h1 h2; subst h1 h2; exact ⟨_, _, Try.runUnderlying130, rfl, rfl, Try.sizeOf22, by decide⟩ | 1, h => by injection h with h; injection h with h1 h2; subst h1 h2; exact ⟨_, _, Try.runUnderlying130, rfl, rfl, Try.sizeOf3, by decide⟩ | _ + 2, h => by simp at h), (fun _ _ _ h => by cases h), (fun _ _ _ _ _ h => by cases h), (fun zs h => by cases h; exact ⟨_, Try.zeroValue130, rfl, by simp [Value.oneCell']⟩), (fun _ _ _ => ⟨_, Try.runUnderlying130, fun w => by simp [Try.sizeOf22, Try.sizeOf3]⟩), (fun h => by cases h), (fun _ h => by cases h), (fun h => by cases h), (fun h => by cases h), (fun h => by cases h), (fun j off fs b h h2 => match j, h, h2 with | 0, h, h2 => by injection h with h; injection h with h1 h3; subst h1 h3; injection h2 with h2; subst h2; exact ⟨_, _, Try.runUnderlying130, rfl, rfl, Try.isAgg22, Try.sizeOf22⟩ | 1, h, h2 => by injection h with h; injection h with h1 h3; subst h1 h3; injection h2 with h2; subst h2; exact ⟨_, _, Try.runUnderlying130, rfl, rfl, Try.isAgg3, Try.sizeOf3⟩ | _ + 2, h, _ => by simp at h)⟩
theorem tok131 : TOk Try.prog 131 ⟨true, 2, [(0, 1), (1, 1)], none, some [.slice none 0 0, .int .i64 0], 0, none, [false, false]⟩ := ⟨Try.sizeOf131, Try.isAgg131, (fun h => by cases h), (fun j off fs h => match j, h with | 0, h => by injection h with h; injection h with h1 h2; subst h1 h2; exact ⟨_, _, Try.runUnderlying131, rfl, rfl, Try.sizeOf22, by decide⟩ | 1, h => by injection h with h; injection h with h1 h2; subst h1 h2; exact ⟨_, _, Try.runUnderlying131, rfl, rfl, Try.sizeOf3, by decide⟩ | _ + 2, h => by simp at h), (fun _ _ _ h => by cases h), (fun _ _ _ _ _ h => by cases h), (fun zs h => by cases h; exact ⟨_, Try.zeroValue131, rfl, by simp [Value.oneCell']⟩), (fun _ _ _ => ⟨_, Try.runUnderlying131, fun w => by simp [Try.sizeOf22, Try.sizeOf3]⟩), (fun h => by cases h), (fun _ h => by cases h), (fun h => by cases h), (fun h => by cases h), (fun h => by cases h), (fun j off fs b h h2 => match j, h, h2 with | 0, h, h2 => by injection h with h; injection h with h1 h3; subst h1 h3; injection h2 with h2; subst h2; exact ⟨_, _, Try.runUnderlying131, rfl, rfl, Try.isAgg22, Try.sizeOf22⟩ | 1, h, h2 => by injection h with h; injection h with h1 h3; subst h1 h3; injection h2 with h2; subst h2; exact ⟨_, _, Try.runUnderlying131, rfl, rfl, Try.isAgg3, Try.sizeOf3⟩ | _ + 2, h, _ => by simp at h)⟩
set_option maxRecDepth 100000 in
theorem ieq138 : ∀ (ps qs : List Int), ps.length = 3 → qs.length = 3 → ∀ x y w, (do eqGuard .eql 138 x y (.agg (ps.map (Value.int .i64)).toArray) (.agg (qs.map (Value.int .i64)).toArray); binOp .eql 138 (.agg (ps.map (Value.int .i64)).toArray) (.agg (qs.map (Value.int .i64)).toArray) : Sem Value).run Try.prog w = .ok (.bool (eqInts ps qs)) w
  | [a0, a1, a2], [b0, b1, b2], _, _, x, y, w => by
    have hu : Try.prog.underlying 138 = some (.struct (Try.prog.fieldsOf 138)) := by kernel_rfl
    have hst : Try.prog.stoodInHeld 138 = false := by kernel_rfl
    simp only [List.map_cons, List.map_nil]
    rw [Sem.run_bind, run_eqGuard_agg w .eql 138 x y _ _ (by kernel_rfl), Result.andThen_ok, run_eql_struct, run_equalIn_struct w 9999 _ _ _ hu hst]
    have hf : (Try.prog.fieldsOf 138).toList = (match Try.prog.underlying 138 with | some (.struct fs) => fs | _ => #[]).toList := rfl
    rw [hf, Try.underlying138]
    simp [Op.eqFields, go_sem, eqInts]
    by_cases h0 : a0 = b0 <;> by_cases h1 : a1 = b1 <;> by_cases h2 : a2 = b2 <;> simp [h0, h1, h2]
set_option maxRecDepth 100000 in
theorem ine138 : ∀ (ps qs : List Int), ps.length = 3 → qs.length = 3 → ∀ x y w, (do eqGuard .neq 138 x y (.agg (ps.map (Value.int .i64)).toArray) (.agg (qs.map (Value.int .i64)).toArray); binOp .neq 138 (.agg (ps.map (Value.int .i64)).toArray) (.agg (qs.map (Value.int .i64)).toArray) : Sem Value).run Try.prog w = .ok (.bool (!eqInts ps qs)) w
  | [a0, a1, a2], [b0, b1, b2], _, _, x, y, w => by
    have hu : Try.prog.underlying 138 = some (.struct (Try.prog.fieldsOf 138)) := by kernel_rfl
    have hst : Try.prog.stoodInHeld 138 = false := by kernel_rfl
    simp only [List.map_cons, List.map_nil]
    rw [Sem.run_bind, run_eqGuard_agg w .neq 138 x y _ _ (by kernel_rfl), Result.andThen_ok, run_neq_struct, run_equalIn_struct w 9999 _ _ _ hu hst]
    have hf : (Try.prog.fieldsOf 138).toList = (match Try.prog.underlying 138 with | some (.struct fs) => fs | _ => #[]).toList := rfl
    rw [hf, Try.underlying138]
    simp [Op.eqFields, go_sem, eqInts]
    by_cases h0 : a0 = b0 <;> by_cases h1 : a1 = b1 <;> by_cases h2 : a2 = b2 <;> simp [h0, h1, h2]
theorem tok138 : TOk Try.prog 138 ⟨true, 3, [(0, 1), (1, 1), (2, 1)], none, some [.int .i64 0, .int .i64 0, .int .i64 0], 3, none, [false, false, false]⟩ := ⟨Try.sizeOf138, Try.isAgg138, (fun h => by cases h), (fun j off fs h => match j, h with | 0, h => by injection h with h; injection h with h1 h2; subst h1 h2; exact ⟨_, _, Try.runUnderlying138, rfl, rfl, Try.sizeOf3, by decide⟩ | 1, h => by injection h with h; injection h with h1 h2; subst h1 h2; exact ⟨_, _, Try.runUnderlying138, rfl, rfl, Try.sizeOf3, by decide⟩ | 2, h => by injection h with h; injection h with h1 h2; subst h1 h2; exact ⟨_, _, Try.runUnderlying138, rfl, rfl, Try.sizeOf3, by decide⟩ | _ + 3, h => by simp at h), (fun _ _ _ h => by cases h), (fun _ _ _ _ _ h => by cases h), (fun zs h => by cases h; exact ⟨_, Try.zeroValue138, rfl, by simp [Value.oneCell']⟩), (fun _ _ _ => ⟨_, Try.runUnderlying138, fun w => by simp [Try.sizeOf3]⟩), (fun h => by cases h), (fun _ h => by cases h), (fun h => by cases h), (fun _ => ieq138), (fun _ => ine138), (fun j off fs b h h2 => match j, h, h2 with | 0, h, h2 => by injection h with h; injection h with h1 h3; subst h1 h3; injection h2 with h2; subst h2; exact ⟨_, _, Try.runUnderlying138, rfl, rfl, Try.isAgg3, Try.sizeOf3⟩ | 1, h, h2 => by injection h with h; injection h with h1 h3; subst h1 h3; injection h2 with h2; subst h2; exact ⟨_, _, Try.runUnderlying138, rfl, rfl, Try.isAgg3, Try.sizeOf3⟩ | 2, h, h2 => by injection h with h; injection h with h1 h3; subst h1 h3; injection h2 with h2; subst h2; exact ⟨_, _, Try.runUnderlying138, rfl, rfl, Try.isAgg3, Try.sizeOf3⟩ | _ + 3, h, _ => by simp at h)⟩
theorem inf145 : (Try.prog.info? 148).map (fun i => (i.zero, i.size, i.bytes)) = some (some (.agg #[.int .i64 0, .int .i64 0, .slice none 0 0]), 3, 40) := by kernel_rfl
theorem tok145 : TOk Try.prog 145 ⟨false, 1, [], some (148, .ls, 40), some [.slice none 0 0], 0, none, []⟩ := ⟨Try.sizeOf145, Try.isAgg145, (fun _ => rfl), (fun _ _ _ h => by simp at h), (fun _ _ _ h => by cases h; exact ⟨Try.underlying145, by obtain ⟨i, h1, h2, h3, h4⟩ := info_parts inf145; exact ⟨i, _, h1, h2, h3, h4, rfl⟩, by decide⟩), (fun _ _ _ inf z h hi hz => by cases h; obtain ⟨i, h1, h2, h3, h4⟩ := info_parts inf145; rw [h1] at hi; cases hi; rw [h2] at hz; cases hz; rfl), (fun zs h => by cases h; exact ⟨_, Try.zeroValue145, rfl, by simp [Value.oneCell']⟩), (fun _ _ h => by cases h), (fun h => by cases h), (fun _ h => by cases h), (fun h => by cases h), (fun h => by cases h), (fun h => by cases h), (fun _ _ _ _ _ h => by simp at h)⟩
theorem tok147 : TOk Try.prog 147 ⟨true, 3, [(0, 1), (1, 1), (2, 1)], none, some [.int .i64 0, .int .i64 0, .slice none 0 0], 0, none, [false, false, false]⟩ := ⟨Try.sizeOf147, Try.isAgg147, (fun h => by cases h), (fun j off fs h => match j, h with | 0, h => by injection h with h; injection h with h1 h2; subst h1 h2; exact ⟨_, _, Try.runUnderlying147, rfl, rfl, Try.sizeOf3, by decide⟩ | 1, h => by injection h with h; injection h with h1 h2; subst h1 h2; exact ⟨_, _, Try.runUnderlying147, rfl, rfl, Try.sizeOf3, by decide⟩ | 2, h => by injection h with h; injection h with h1 h2; subst h1 h2; exact ⟨_, _, Try.runUnderlying147, rfl, rfl, Try.sizeOf42, by decide⟩ | _ + 3, h => by simp at h), (fun _ _ _ h => by cases h), (fun _ _ _ _ _ h => by cases h), (fun zs h => by cases h; exact ⟨_, Try.zeroValue147, rfl, by simp [Value.oneCell']⟩), (fun _ _ _ => ⟨_, Try.runUnderlying147, fun w => by simp [Try.sizeOf3, Try.sizeOf42]⟩), (fun h => by cases h), (fun _ h => by cases h), (fun h => by cases h), (fun h => by cases h), (fun h => by cases h), (fun j off fs b h h2 => match j, h, h2 with | 0, h, h2 => by injection h with h; injection h with h1 h3; subst h1 h3; injection h2 with h2; subst h2; exact ⟨_, _, Try.runUnderlying147, rfl, rfl, Try.isAgg3, Try.sizeOf3⟩ | 1, h, h2 => by injection h with h; injection h with h1 h3; subst h1 h3; injection h2 with h2; subst h2; exact ⟨_, _, Try.runUnderlying147, rfl, rfl, Try.isAgg3, Try.sizeOf3⟩ | 2, h, h2 => by injection h with h; injection h with h1 h3; subst h1 h3; injection h2 with h2; subst h2; exact ⟨_, _, Try.runUnderlying147, rfl, rfl, Try.isAgg42, Try.sizeOf42⟩ | _ + 3, h, _ => by simp at h)⟩
theorem tok148 : TOk Try.prog 148 ⟨true, 3, [(0, 1), (1, 1), (2, 1)], none, some [.int .i64 0, .int .i64 0, .slice none 0 0], 0, none, [false, false, false]⟩ := ⟨Try.sizeOf148, Try.isAgg148, (fun h => by cases h), (fun j off fs h => match j, h with | 0, h => by injection h with h; injection h with h1 h2; subst h1 h2; exact ⟨_, _, Try.runUnderlying148, rfl, rfl, Try.sizeOf3, by decide⟩ | 1, h => by injection h with h; injection h with h1 h2; subst h1 h2; exact ⟨_, _, Try.runUnderlying148, rfl, rfl, Try.sizeOf3, by decide⟩ | 2, h => by injection h with h; injection h with h1 h2; subst h1 h2; exact ⟨_, _, Try.runUnderlying148, rfl, rfl, Try.sizeOf42, by decide⟩ | _ + 3, h => by simp at h), (fun _ _ _ h => by cases h), (fun _ _ _ _ _ h => by cases h), (fun zs h => by cases h; exact ⟨_, Try.zeroValue148, rfl, by simp [Value.oneCell']⟩), (fun _ _ _ => ⟨_, Try.runUnderlying148, fun w => by simp [Try.sizeOf3, Try.sizeOf42]⟩), (fun h => by cases h), (fun _ h => by cases h), (fun h => by cases h), (fun h => by cases h), (fun h => by cases h), (fun j off fs b h h2 => match j, h, h2 with | 0, h, h2 => by injection h with h; injection h with h1 h3; subst h1 h3; injection h2 with h2; subst h2; exact ⟨_, _, Try.runUnderlying148, rfl, rfl, Try.isAgg3, Try.sizeOf3⟩ | 1, h, h2 => by injection h with h; injection h with h1 h3; subst h1 h3; injection h2 with h2; subst h2; exact ⟨_, _, Try.runUnderlying148, rfl, rfl, Try.isAgg3, Try.sizeOf3⟩ | 2, h, h2 => by injection h with h; injection h with h1 h3; subst h1 h3; injection h2 with h2; subst h2; exact ⟨_, _, Try.runUnderlying148, rfl, rfl, Try.isAgg42, Try.sizeOf42⟩ | _ + 3, h, _ => by simp at h)⟩
theorem tok149 : TOk Try.prog 149 ⟨true, 4, [(0, 1), (1, 3)], none, some [.int .i64 0, .int .i64 0, .int .i64 0, .slice none 0 0], 0, none, [false, true]⟩ := ⟨Try.sizeOf149, Try.isAgg149, (fun h => by cases h), (fun j off fs h => match j, h with | 0, h => by injection h with h; injection h with h1 h2; subst h1 h2; exact ⟨_, _, Try.runUnderlying149, rfl, rfl, Try.sizeOf3, by decide⟩ | 1, h => by injection h with h; injection h with h1 h2; subst h1 h2; exact ⟨_, _, Try.runUnderlying149, rfl, rfl, Try.sizeOf148, by decide⟩ | _ + 2, h => by simp at h), (fun _ _ _ h => by cases h), (fun _ _ _ _ _ h => by cases h), (fun zs h => by cases h; exact ⟨_, Try.zeroValue149, rfl, by simp [Value.oneCell']⟩), (fun _ _ _ => ⟨_, Try.runUnderlying149, fun w => by simp [Try.sizeOf148, Try.sizeOf3]⟩), (fun h => by cases h), (fun _ h => by cases h), (fun h => by cases h), (fun h => by cases h), (fun h => by cases h), (fun j off fs b h h2 => match j, h, h2 with | 0, h, h2 => by injection h with h; injection h with h1 h3; subst h1 h3; injection h2 with h2; subst h2; exact ⟨_, _, Try.runUnderlying149, rfl, rfl, Try.isAgg3, Try.sizeOf3⟩ | 1, h, h2 => by injection h with h; injection h with h1 h3; subst h1 h3; injection h2 with h2; subst h2; exact ⟨_, _, Try.runUnderlying149, rfl, rfl, Try.isAgg148, Try.sizeOf148⟩ | _ + 2, h, _ => by simp at h)⟩
theorem tok150 : TOk Try.prog 150 ⟨true, 4, [(0, 1), (1, 3)], none, some [.int .i64 0, .int .i64 0, .int .i64 0, .slice none 0 0], 0, none, [false, true]⟩ := ⟨Try.sizeOf150, Try.isAgg150, (fun h => by cases h), (fun j off fs h => match j, h with | 0, h => by injection h with h; injection h with h1 h2; subst h1 h2; exact ⟨_, _, Try.runUnderlying150, rfl, rfl, Try.sizeOf3, by decide⟩ | 1, h => by injection h with h; injection h with h1 h2; subst h1 h2; exact ⟨_, _, Try.runUnderlying150, rfl, rfl, Try.sizeOf148, by decide⟩ | _ + 2, h => by simp at h), (fun _ _ _ h => by cases h), (fun _ _ _ _ _ h => by cases h), (fun zs h => by cases h; exact ⟨_, Try.zeroValue150, rfl, by simp [Value.oneCell']⟩), (fun _ _ _ => ⟨_, Try.runUnderlying150, fun w => by simp [Try.sizeOf148, Try.sizeOf3]⟩), (fun h => by cases h), (fun _ h => by cases h), (fun h => by cases h), (fun h => by cases h), (fun h => by cases h), (fun j off fs b h h2 => match j, h, h2 with | 0, h, h2 => by injection h with h; injection h with h1 h3; subst h1 h3; injection h2 with h2; subst h2; exact ⟨_, _, Try.runUnderlying150, rfl, rfl, Try.isAgg3, Try.sizeOf3⟩ | 1, h, h2 => by injection h with h; injection h with h1 h3; subst h1 h3; injection h2 with h2; subst h2; exact ⟨_, _, Try.runUnderlying150, rfl, rfl, Try.isAgg148, Try.sizeOf148⟩ | _ + 2, h, _ => by simp at h)⟩
theorem tok160 : TOk Try.prog 160 ⟨false, 1, [], none, some [.int .u64 0], 0, some .u64, []⟩ := ⟨Try.sizeOf160, Try.isAgg160, (fun _ => rfl), (fun _ _ _ h => by simp at h), (fun _ _ _ h => by cases h), (fun _ _ _ _ _ h => by cases h), (fun zs h => by cases h; exact ⟨_, Try.zeroValue160, rfl, by simp [Value.oneCell']⟩), (fun _ _ h => by cases h), (fun h => by cases h), (fun _ h => by cases h; exact Try.runUnderlying160), (fun h => by cases h), (fun h => by cases h), (fun h => by cases h), (fun _ _ _ _ _ h => by simp at h)⟩
theorem tok169 : TOk Try.prog 169 ⟨false, 1, [], none, some [.int .u32 0], 0, some .u32, []⟩ := ⟨Try.sizeOf169, Try.isAgg169, (fun _ => rfl), (fun _ _ _ h => by simp at h), (fun _ _ _ h => by cases h), (fun _ _ _ _ _ h => by cases h), (fun zs h => by cases h; exact ⟨_, Try.zeroValue169, rfl, by simp [Value.oneCell']⟩), (fun _ _ h => by cases h), (fun h => by cases h), (fun _ h => by cases h; exact Try.runUnderlying169), (fun h => by cases h), (fun h => by cases h), (fun h => by cases h), (fun _ _ _ _ _ h => by simp at h)⟩
theorem tok172 : TOk Try.prog 172 ⟨false, 1, [], none, some [.int .u64 0], 0, some .u64, []⟩ := ⟨Try.sizeOf172, Try.isAgg172, (fun _ => rfl), (fun _ _ _ h => by simp at h), (fun _ _ _ h => by cases h), (fun _ _ _ _ _ h => by cases h), (fun zs h => by cases h; exact ⟨_, Try.zeroValue172, rfl, by simp [Value.oneCell']⟩), (fun _ _ h => by cases h), (fun h => by cases h), (fun _ h => by cases h; exact Try.runUnderlying172), (fun h => by cases h), (fun h => by cases h), (fun h => by cases h), (fun _ _ _ _ _ h => by simp at h)⟩
theorem tok176 : TOk Try.prog 176 ⟨false, 1, [], none, some [.int .i64 0], 0, some .i64, []⟩ := ⟨Try.sizeOf176, Try.isAgg176, (fun _ => rfl), (fun _ _ _ h => by simp at h), (fun _ _ _ h => by cases h), (fun _ _ _ _ _ h => by cases h), (fun zs h => by cases h; exact ⟨_, Try.zeroValue176, rfl, by simp [Value.oneCell']⟩), (fun _ _ h => by cases h), (fun h => by cases h), (fun _ h => by cases h; exact Try.runUnderlying176), (fun h => by cases h), (fun h => by cases h), (fun h => by cases h), (fun _ _ _ _ _ h => by simp at h)⟩
theorem tok185 : TOk Try.prog 185 ⟨false, 1, [], none, some [.int .u64 0], 0, some .u64, []⟩ := ⟨Try.sizeOf185, Try.isAgg185, (fun _ => rfl), (fun _ _ _ h => by simp at h), (fun _ _ _ h => by cases h), (fun _ _ _ _ _ h => by cases h), (fun zs h => by cases h; exact ⟨_, Try.zeroValue185, rfl, by simp [Value.oneCell']⟩), (fun _ _ h => by cases h), (fun h => by cases h), (fun _ h => by cases h; exact Try.runUnderlying185), (fun h => by cases h), (fun h => by cases h), (fun h => by cases h), (fun _ _ _ _ _ h => by simp at h)⟩
theorem tok189 : TOk Try.prog 189 ⟨false, 1, [], none, some [.pointer none], 0, none, []⟩ := ⟨Try.sizeOf189, Try.isAgg189, (fun _ => rfl), (fun _ _ _ h => by simp at h), (fun _ _ _ h => by cases h), (fun _ _ _ _ _ h => by cases h), (fun zs h => by cases h; exact ⟨_, Try.zeroValue189, rfl, by simp [Value.oneCell']⟩), (fun _ _ h => by cases h), (fun h => by cases h), (fun _ h => by cases h), (fun h => by cases h), (fun h => by cases h), (fun h => by cases h), (fun _ _ _ _ _ h => by simp at h)⟩
theorem tok191 : TOk Try.prog 191 ⟨false, 1, [], none, some [.pointer none], 0, none, []⟩ := ⟨Try.sizeOf191, Try.isAgg191, (fun _ => rfl), (fun _ _ _ h => by simp at h), (fun _ _ _ h => by cases h), (fun _ _ _ _ _ h => by cases h), (fun zs h => by cases h; exact ⟨_, Try.zeroValue191, rfl, by simp [Value.oneCell']⟩), (fun _ _ h => by cases h), (fun h => by cases h), (fun _ h => by cases h), (fun h => by cases h), (fun h => by cases h), (fun h => by cases h), (fun _ _ _ _ _ h => by simp at h)⟩
theorem tok195 : TOk Try.prog 195 ⟨true, 4, [(0, 1), (1, 1), (2, 1), (3, 1)], none, some [.pointer none, .pointer none, .pointer none, .string ⟨#[]⟩], 0, none, [false, false, false, false]⟩ := ⟨Try.sizeOf195, Try.isAgg195, (fun h => by cases h), (fun j off fs h => match j, h with | 0, h => by injection h with h; injection h with h1 h2; subst h1 h2; exact ⟨_, _, Try.runUnderlying195, rfl, rfl, Try.sizeOf17, by decide⟩ | 1, h => by injection h with h; injection h with h1 h2; subst h1 h2; exact ⟨_, _, Try.runUnderlying195, rfl, rfl, Try.sizeOf17, by decide⟩ | 2, h => by injection h with h; injection h with h1 h2; subst h1 h2; exact ⟨_, _, Try.runUnderlying195, rfl, rfl, Try.sizeOf17, by decide⟩ | 3, h => by injection h with h; injection h with h1 h2; subst h1 h2; exact ⟨_, _, Try.runUnderlying195, rfl, rfl, Try.sizeOf9, by decide⟩ | _ + 4, h => by simp at h), (fun _ _ _ h => by cases h), (fun _ _ _ _ _ h => by cases h), (fun zs h => by cases h; exact ⟨_, Try.zeroValue195, rfl, by simp [Value.oneCell']⟩), (fun _ _ _ => ⟨_, Try.runUnderlying195, fun w => by simp [Try.sizeOf17, Try.sizeOf9]⟩), (fun h => by cases h), (fun _ h => by cases h), (fun h => by cases h), (fun h => by cases h), (fun h => by cases h), (fun j off fs b h h2 => match j, h, h2 with | 0, h, h2 => by injection h with h; injection h with h1 h3; subst h1 h3; injection h2 with h2; subst h2; exact ⟨_, _, Try.runUnderlying195, rfl, rfl, Try.isAgg17, Try.sizeOf17⟩ | 1, h, h2 => by injection h with h; injection h with h1 h3; subst h1 h3; injection h2 with h2; subst h2; exact ⟨_, _, Try.runUnderlying195, rfl, rfl, Try.isAgg17, Try.sizeOf17⟩ | 2, h, h2 => by injection h with h; injection h with h1 h3; subst h1 h3; injection h2 with h2; subst h2; exact ⟨_, _, Try.runUnderlying195, rfl, rfl, Try.isAgg17, Try.sizeOf17⟩ | 3, h, h2 => by injection h with h; injection h with h1 h3; subst h1 h3; injection h2 with h2; subst h2; exact ⟨_, _, Try.runUnderlying195, rfl, rfl, Try.isAgg9, Try.sizeOf9⟩ | _ + 4, h, _ => by simp at h)⟩
theorem tok196 : TOk Try.prog 196 ⟨true, 4, [(0, 1), (1, 1), (2, 1), (3, 1)], none, some [.pointer none, .pointer none, .pointer none, .string ⟨#[]⟩], 0, none, [false, false, false, false]⟩ := ⟨Try.sizeOf196, Try.isAgg196, (fun h => by cases h), (fun j off fs h => match j, h with | 0, h => by injection h with h; injection h with h1 h2; subst h1 h2; exact ⟨_, _, Try.runUnderlying196, rfl, rfl, Try.sizeOf17, by decide⟩ | 1, h => by injection h with h; injection h with h1 h2; subst h1 h2; exact ⟨_, _, Try.runUnderlying196, rfl, rfl, Try.sizeOf17, by decide⟩ | 2, h => by injection h with h; injection h with h1 h2; subst h1 h2; exact ⟨_, _, Try.runUnderlying196, rfl, rfl, Try.sizeOf17, by decide⟩ | 3, h => by injection h with h; injection h with h1 h2; subst h1 h2; exact ⟨_, _, Try.runUnderlying196, rfl, rfl, Try.sizeOf9, by decide⟩ | _ + 4, h => by simp at h), (fun _ _ _ h => by cases h), (fun _ _ _ _ _ h => by cases h), (fun zs h => by cases h; exact ⟨_, Try.zeroValue196, rfl, by simp [Value.oneCell']⟩), (fun _ _ _ => ⟨_, Try.runUnderlying196, fun w => by simp [Try.sizeOf17, Try.sizeOf9]⟩), (fun h => by cases h), (fun _ h => by cases h), (fun h => by cases h), (fun h => by cases h), (fun h => by cases h), (fun j off fs b h h2 => match j, h, h2 with | 0, h, h2 => by injection h with h; injection h with h1 h3; subst h1 h3; injection h2 with h2; subst h2; exact ⟨_, _, Try.runUnderlying196, rfl, rfl, Try.isAgg17, Try.sizeOf17⟩ | 1, h, h2 => by injection h with h; injection h with h1 h3; subst h1 h3; injection h2 with h2; subst h2; exact ⟨_, _, Try.runUnderlying196, rfl, rfl, Try.isAgg17, Try.sizeOf17⟩ | 2, h, h2 => by injection h with h; injection h with h1 h3; subst h1 h3; injection h2 with h2; subst h2; exact ⟨_, _, Try.runUnderlying196, rfl, rfl, Try.isAgg17, Try.sizeOf17⟩ | 3, h, h2 => by injection h with h; injection h with h1 h3; subst h1 h3; injection h2 with h2; subst h2; exact ⟨_, _, Try.runUnderlying196, rfl, rfl, Try.isAgg9, Try.sizeOf9⟩ | _ + 4, h, _ => by simp at h)⟩
theorem tok201 : TOk Try.prog 201 ⟨false, 1, [], none, some [.int .u8 0], 0, some .u8, []⟩ := ⟨Try.sizeOf201, Try.isAgg201, (fun _ => rfl), (fun _ _ _ h => by simp at h), (fun _ _ _ h => by cases h), (fun _ _ _ _ _ h => by cases h), (fun zs h => by cases h; exact ⟨_, Try.zeroValue201, rfl, by simp [Value.oneCell']⟩), (fun _ _ h => by cases h), (fun h => by cases h), (fun _ h => by cases h; exact Try.runUnderlying201), (fun h => by cases h), (fun h => by cases h), (fun h => by cases h), (fun _ _ _ _ _ h => by simp at h)⟩
theorem tok202 : TOk Try.prog 202 ⟨false, 1, [], none, some [.int .u8 0], 0, some .u8, []⟩ := ⟨Try.sizeOf202, Try.isAgg202, (fun _ => rfl), (fun _ _ _ h => by simp at h), (fun _ _ _ h => by cases h), (fun _ _ _ _ _ h => by cases h), (fun zs h => by cases h; exact ⟨_, Try.zeroValue202, rfl, by simp [Value.oneCell']⟩), (fun _ _ h => by cases h), (fun h => by cases h), (fun _ h => by cases h; exact Try.runUnderlying202), (fun h => by cases h), (fun h => by cases h), (fun h => by cases h), (fun _ _ _ _ _ h => by simp at h)⟩
theorem tok204 : TOk Try.prog 204 ⟨false, 1, [], none, some [.pointer none], 0, none, []⟩ := ⟨Try.sizeOf204, Try.isAgg204, (fun _ => rfl), (fun _ _ _ h => by simp at h), (fun _ _ _ h => by cases h), (fun _ _ _ _ _ h => by cases h), (fun zs h => by cases h; exact ⟨_, Try.zeroValue204, rfl, by simp [Value.oneCell']⟩), (fun _ _ h => by cases h), (fun h => by cases h), (fun _ h => by cases h), (fun h => by cases h), (fun h => by cases h), (fun h => by cases h), (fun _ _ _ _ _ h => by simp at h)⟩
theorem tok205 : TOk Try.prog 205 ⟨false, 1, [], none, some [.int .i32 0], 0, some .i32, []⟩ := ⟨Try.sizeOf205, Try.isAgg205, (fun _ => rfl), (fun _ _ _ h => by simp at h), (fun _ _ _ h => by cases h), (fun _ _ _ _ _ h => by cases h), (fun zs h => by cases h; exact ⟨_, Try.zeroValue205, rfl, by simp [Value.oneCell']⟩), (fun _ _ h => by cases h), (fun h => by cases h), (fun _ h => by cases h; exact Try.runUnderlying205), (fun h => by cases h), (fun h => by cases h), (fun h => by cases h), (fun _ _ _ _ _ h => by simp at h)⟩
theorem tok206 : TOk Try.prog 206 ⟨false, 1, [], none, some [.int .i32 0], 0, some .i32, []⟩ := ⟨Try.sizeOf206, Try.isAgg206, (fun _ => rfl), (fun _ _ _ h => by simp at h), (fun _ _ _ h => by cases h), (fun _ _ _ _ _ h => by cases h), (fun zs h => by cases h; exact ⟨_, Try.zeroValue206, rfl, by simp [Value.oneCell']⟩), (fun _ _ h => by cases h), (fun h => by cases h), (fun _ h => by cases h; exact Try.runUnderlying206), (fun h => by cases h), (fun h => by cases h), (fun h => by cases h), (fun _ _ _ _ _ h => by simp at h)⟩
theorem tok207 : TOk Try.prog 207 ⟨true, 11, [(0, 1), (1, 1), (2, 1), (3, 1), (4, 1), (5, 1), (6, 1), (7, 1), (8, 1), (9, 1), (10, 1)], none, some [.int .u64 0, .int .u64 0, .int .u32 0, .int .u8 0, .int .u8 0, .int .u8 0, .int .u8 0, .nilFunc, .pointer none, .int .i32 0, .int .i32 0], 0, none, []⟩ := ⟨Try.sizeOf207, Try.isAgg207, (fun h => by cases h), (fun j off fs h => match j, h with | 0, h => by injection h with h; injection h with h1 h2; subst h1 h2; exact ⟨_, _, Try.runUnderlying207, rfl, rfl, Try.sizeOf12, by decide⟩ | 1, h => by injection h with h; injection h with h1 h2; subst h1 h2; exact ⟨_, _, Try.runUnderlying207, rfl, rfl, Try.sizeOf12, by decide⟩ | 2, h => by injection h with h; injection h with h1 h2; subst h1 h2; exact ⟨_, _, Try.runUnderlying207, rfl, rfl, Try.sizeOf169, by decide⟩ | 3, h => by injection h with h; injection h with h1 h2; subst h1 h2; exact ⟨_, _, Try.runUnderlying207, rfl, rfl, Try.sizeOf201, by decide⟩ | 4, h => by injection h with h; injection h with h1 h2; subst h1 h2; exact ⟨_, _, Try.runUnderlying207, rfl, rfl, Try.sizeOf5, by decide⟩ | 5, h => by injection h with h; injection h with h1 h2; subst h1 h2; exact ⟨_, _, Try.runUnderlying207, rfl, rfl, Try.sizeOf5, by decide⟩ | 6, h => by injection h with h; injection h with h1 h2; subst h1 h2; exact ⟨_, _, Try.runUnderlying207, rfl, rfl, Try.sizeOf202, by decide⟩ | 7, h => by injection h with h; injection h with h1 h2; subst h1 h2; exact ⟨_, _, Try.runUnderlying207, rfl, rfl, Try.sizeOf203, by decide⟩ | 8, h => by injection h with h; injection h with h1 h2; subst h1 h2; exact ⟨_, _, Try.runUnderlying207, rfl, rfl, Try.sizeOf204, by decide⟩ | 9, h => by injection h with h; injection h with h1 h2; subst h1 h2; exact ⟨_, _, Try.runUnderlying207, rfl, rfl, Try.sizeOf205, by decide⟩ | 10, h => by injection h with h; injection h with h1 h2; subst h1 h2; exact ⟨_, _, Try.runUnderlying207, rfl, rfl, Try.sizeOf206, by decide⟩ | _ + 11, h => by simp at h), (fun _ _ _ h => by cases h), (fun _ _ _ _ _ h => by cases h), (fun zs h => by cases h; exact ⟨_, Try.zeroValue207, rfl, by simp [Value.oneCell']⟩), (fun _ _ _ => ⟨_, Try.runUnderlying207, fun w => by simp [Try.sizeOf12, Try.sizeOf169, Try.sizeOf201, Try.sizeOf202, Try.sizeOf203, Try.sizeOf204, Try.sizeOf205, Try.sizeOf206, Try.sizeOf5]⟩), (fun h => by cases h), (fun _ h => by cases h), (fun h => by cases h), (fun h => by cases h), (fun h => by cases h), (fun _ _ _ _ _ h => by simp at h)⟩
theorem tok208 : TOk Try.prog 208 ⟨true, 11, [(0, 1), (1, 1), (2, 1), (3, 1), (4, 1), (5, 1), (6, 1), (7, 1), (8, 1), (9, 1), (10, 1)], none, some [.int .u64 0, .int .u64 0, .int .u32 0, .int .u8 0, .int .u8 0, .int .u8 0, .int .u8 0, .nilFunc, .pointer none, .int .i32 0, .int .i32 0], 0, none, []⟩ := ⟨Try.sizeOf208, Try.isAgg208, (fun h => by cases h), (fun j off fs h => match j, h with | 0, h => by injection h with h; injection h with h1 h2; subst h1 h2; exact ⟨_, _, Try.runUnderlying208, rfl, rfl, Try.sizeOf12, by decide⟩ | 1, h => by injection h with h; injection h with h1 h2; subst h1 h2; exact ⟨_, _, Try.runUnderlying208, rfl, rfl, Try.sizeOf12, by decide⟩ | 2, h => by injection h with h; injection h with h1 h2; subst h1 h2; exact ⟨_, _, Try.runUnderlying208, rfl, rfl, Try.sizeOf169, by decide⟩ | 3, h => by injection h with h; injection h with h1 h2; subst h1 h2; exact ⟨_, _, Try.runUnderlying208, rfl, rfl, Try.sizeOf201, by decide⟩ | 4, h => by injection h with h; injection h with h1 h2; subst h1 h2; exact ⟨_, _, Try.runUnderlying208, rfl, rfl, Try.sizeOf5, by decide⟩ | 5, h => by injection h with h; injection h with h1 h2; subst h1 h2; exact ⟨_, _, Try.runUnderlying208, rfl, rfl, Try.sizeOf5, by decide⟩ | 6, h => by injection h with h; injection h with h1 h2; subst h1 h2; exact ⟨_, _, Try.runUnderlying208, rfl, rfl, Try.sizeOf202, by decide⟩ | 7, h => by injection h with h; injection h with h1 h2; subst h1 h2; exact ⟨_, _, Try.runUnderlying208, rfl, rfl, Try.sizeOf203, by decide⟩ | 8, h => by injection h with h; injection h with h1 h2; subst h1 h2; exact ⟨_, _, Try.runUnderlying208, rfl, rfl, Try.sizeOf204, by decide⟩ | 9, h => by injection h with h; injection h with h1 h2; subst h1 h2; exact ⟨_, _, Try.runUnderlying208, rfl, rfl, Try.sizeOf205, by decide⟩ | 10, h => by injection h with h; injection h with h1 h2; subst h1 h2; exact ⟨_, _, Try.runUnderlying208, rfl, rfl, Try.sizeOf206, by decide⟩ | _ + 11, h => by simp at h), (fun _ _ _ h => by cases h), (fun _ _ _ _ _ h => by cases h), (fun zs h => by cases h; exact ⟨_, Try.zeroValue208, rfl, by simp [Value.oneCell']⟩), (fun _ _ _ => ⟨_, Try.runUnderlying208, fun w => by simp [Try.sizeOf12, Try.sizeOf169, Try.sizeOf201, Try.sizeOf202, Try.sizeOf203, Try.sizeOf204, Try.sizeOf205, Try.sizeOf206, Try.sizeOf5]⟩), (fun h => by cases h), (fun _ h => by cases h), (fun h => by cases h), (fun h => by cases h), (fun h => by cases h), (fun _ _ _ _ _ h => by simp at h)⟩
def tyl : List (Nat × TI) := [(2, ⟨false, 1, [], none, some [.int .i64 0], 0, some .i64, []⟩),
  (3, ⟨false, 1, [], none, some [.int .i64 0], 0, some .i64, []⟩),
  (4, ⟨false, 1, [], none, some [.bool false], 1, none, []⟩),
  (5, ⟨false, 1, [], none, some [.int .u8 0], 0, some .u8, []⟩),
  (9, ⟨false, 1, [], none, some [.string ⟨#[]⟩], 2, none, []⟩),
  (21, ⟨false, 1, [], none, some [.int .i32 0], 0, some .i32, []⟩),
  (22, ⟨false, 1, [], some (5, .u8, 1), some [.slice none 0 0], 0, none, []⟩),
  (23, ⟨false, 1, [], some (105, .lk, 24), some [.slice none 0 0], 0, none, []⟩),
  (24, ⟨true, 2, [(0, 1), (1, 1)], none, some [.int .i64 0, .slice none 0 0], 0, none, [false, false]⟩),
  (25, ⟨true, 2, [(0, 1), (1, 1)], none, some [.int .i64 0, .slice none 0 0], 0, none, [false, false]⟩),
  (26, ⟨false, 1, [], some (95, .en, 16), some [.slice none 0 0], 0, none, []⟩),
  (29, ⟨false, 1, [], some (3, .int, 8), some [.slice none 0 0], 0, none, []⟩),
  (39, ⟨false, 1, [], some (138, .lk, 24), some [.slice none 0 0], 0, none, []⟩),
  (40, ⟨true, 2, [(0, 1), (1, 1)], none, some [.int .i64 0, .slice none 0 0], 0, none, [false, false]⟩),
  (41, ⟨true, 2, [(0, 1), (1, 1)], none, some [.int .i64 0, .slice none 0 0], 0, none, [false, false]⟩),
  (42, ⟨false, 1, [], some (97, .en, 16), some [.slice none 0 0], 0, none, []⟩),
  (59, ⟨false, 1, [], some (4, .bool, 1), some [.slice none 0 0], 0, none, []⟩),
  (60, ⟨false, 1, [], some (145, .db, 24), some [.slice none 0 0], 0, none, []⟩),
  (61, ⟨false, 1, [], some (150, .pk, 48), some [.slice none 0 0], 0, none, []⟩),
  (62, ⟨true, 6, [(0, 2), (2, 1), (3, 1), (4, 1), (5, 1)], none, some [.int .i64 0, .slice none 0 0, .slice none 0 0, .slice none 0 0, .slice none 0 0, .slice none 0 0], 0, none, [true, false, false, false, false]⟩),
  (63, ⟨true, 6, [(0, 2), (2, 1), (3, 1), (4, 1), (5, 1)], none, some [.int .i64 0, .slice none 0 0, .slice none 0 0, .slice none 0 0, .slice none 0 0, .slice none 0 0], 0, none, [true, false, false, false, false]⟩),
  (66, ⟨false, 1, [], some (84, .db, 24), some [.slice none 0 0], 0, none, []⟩),
  (67, ⟨false, 1, [], some (119, .pk, 48), some [.slice none 0 0], 0, none, []⟩),
  (68, ⟨true, 6, [(0, 2), (2, 1), (3, 1), (4, 1), (5, 1)], none, some [.int .i64 0, .slice none 0 0, .slice none 0 0, .slice none 0 0, .slice none 0 0, .slice none 0 0], 0, none, [true, false, false, false, false]⟩),
  (69, ⟨true, 6, [(0, 2), (2, 1), (3, 1), (4, 1), (5, 1)], none, some [.int .i64 0, .slice none 0 0, .slice none 0 0, .slice none 0 0, .slice none 0 0, .slice none 0 0], 0, none, [true, false, false, false, false]⟩),
  (73, ⟨false, 1, [], none, some [.pointer none], 0, none, []⟩),
  (84, ⟨false, 1, [], some (89, .ls, 40), some [.slice none 0 0], 0, none, []⟩),
  (88, ⟨true, 3, [(0, 1), (1, 1), (2, 1)], none, some [.int .i64 0, .int .i64 0, .slice none 0 0], 0, none, [false, false, false]⟩),
  (89, ⟨true, 3, [(0, 1), (1, 1), (2, 1)], none, some [.int .i64 0, .int .i64 0, .slice none 0 0], 0, none, [false, false, false]⟩),
  (94, ⟨true, 2, [(0, 1), (1, 1)], none, some [.int .i64 0, .int .i64 0], 0, none, [false, false]⟩),
  (95, ⟨true, 2, [(0, 1), (1, 1)], none, some [.int .i64 0, .int .i64 0], 3, none, [false, false]⟩),
  (97, ⟨true, 2, [(0, 1), (1, 1)], none, some [.int .i64 0, .int .i64 0], 3, none, [false, false]⟩),
  (104, ⟨true, 3, [(0, 1), (1, 1), (2, 1)], none, some [.int .i64 0, .int .i64 0, .int .i64 0], 0, none, [false, false, false]⟩),
  (105, ⟨true, 3, [(0, 1), (1, 1), (2, 1)], none, some [.int .i64 0, .int .i64 0, .int .i64 0], 3, none, [false, false, false]⟩),
  (107, ⟨false, 1, [], some (25, .gr, 32), some [.slice none 0 0], 0, none, []⟩),
  (118, ⟨true, 4, [(0, 1), (1, 3)], none, some [.int .i64 0, .int .i64 0, .int .i64 0, .slice none 0 0], 0, none, [false, true]⟩),
  (119, ⟨true, 4, [(0, 1), (1, 3)], none, some [.int .i64 0, .int .i64 0, .int .i64 0, .slice none 0 0], 0, none, [false, true]⟩),
  (130, ⟨true, 2, [(0, 1), (1, 1)], none, some [.slice none 0 0, .int .i64 0], 0, none, [false, false]⟩),
  (131, ⟨true, 2, [(0, 1), (1, 1)], none, some [.slice none 0 0, .int .i64 0], 0, none, [false, false]⟩),
  (138, ⟨true, 3, [(0, 1), (1, 1), (2, 1)], none, some [.int .i64 0, .int .i64 0, .int .i64 0], 3, none, [false, false, false]⟩),
  (145, ⟨false, 1, [], some (148, .ls, 40), some [.slice none 0 0], 0, none, []⟩),
  (147, ⟨true, 3, [(0, 1), (1, 1), (2, 1)], none, some [.int .i64 0, .int .i64 0, .slice none 0 0], 0, none, [false, false, false]⟩),
  (148, ⟨true, 3, [(0, 1), (1, 1), (2, 1)], none, some [.int .i64 0, .int .i64 0, .slice none 0 0], 0, none, [false, false, false]⟩),
  (149, ⟨true, 4, [(0, 1), (1, 3)], none, some [.int .i64 0, .int .i64 0, .int .i64 0, .slice none 0 0], 0, none, [false, true]⟩),
  (150, ⟨true, 4, [(0, 1), (1, 3)], none, some [.int .i64 0, .int .i64 0, .int .i64 0, .slice none 0 0], 0, none, [false, true]⟩),
  (160, ⟨false, 1, [], none, some [.int .u64 0], 0, some .u64, []⟩),
  (169, ⟨false, 1, [], none, some [.int .u32 0], 0, some .u32, []⟩),
  (172, ⟨false, 1, [], none, some [.int .u64 0], 0, some .u64, []⟩),
  (176, ⟨false, 1, [], none, some [.int .i64 0], 0, some .i64, []⟩),
  (185, ⟨false, 1, [], none, some [.int .u64 0], 0, some .u64, []⟩),
  (189, ⟨false, 1, [], none, some [.pointer none], 0, none, []⟩),
  (191, ⟨false, 1, [], none, some [.pointer none], 0, none, []⟩),
  (195, ⟨true, 4, [(0, 1), (1, 1), (2, 1), (3, 1)], none, some [.pointer none, .pointer none, .pointer none, .string ⟨#[]⟩], 0, none, [false, false, false, false]⟩),
  (196, ⟨true, 4, [(0, 1), (1, 1), (2, 1), (3, 1)], none, some [.pointer none, .pointer none, .pointer none, .string ⟨#[]⟩], 0, none, [false, false, false, false]⟩),
  (201, ⟨false, 1, [], none, some [.int .u8 0], 0, some .u8, []⟩),
  (202, ⟨false, 1, [], none, some [.int .u8 0], 0, some .u8, []⟩),
  (204, ⟨false, 1, [], none, some [.pointer none], 0, none, []⟩),
  (205, ⟨false, 1, [], none, some [.int .i32 0], 0, some .i32, []⟩),
  (206, ⟨false, 1, [], none, some [.int .i32 0], 0, some .i32, []⟩),
  (207, ⟨true, 11, [(0, 1), (1, 1), (2, 1), (3, 1), (4, 1), (5, 1), (6, 1), (7, 1), (8, 1), (9, 1), (10, 1)], none, some [.int .u64 0, .int .u64 0, .int .u32 0, .int .u8 0, .int .u8 0, .int .u8 0, .int .u8 0, .nilFunc, .pointer none, .int .i32 0, .int .i32 0], 0, none, []⟩),
  (208, ⟨true, 11, [(0, 1), (1, 1), (2, 1), (3, 1), (4, 1), (5, 1), (6, 1), (7, 1), (8, 1), (9, 1), (10, 1)], none, some [.int .u64 0, .int .u64 0, .int .u32 0, .int .u8 0, .int .u8 0, .int .u8 0, .int .u8 0, .nilFunc, .pointer none, .int .i32 0, .int .i32 0], 0, none, []⟩)]
def tab : TypeId → Option TI := lookT tyl
theorem tabOk : TabOk Try.prog tab := tab_ok (l := tyl) ⟨tok2, ⟨tok3, ⟨tok4, ⟨tok5, ⟨tok9, ⟨tok21, ⟨tok22, ⟨tok23, ⟨tok24, ⟨tok25, ⟨tok26, ⟨tok29, ⟨tok39, ⟨tok40, ⟨tok41, ⟨tok42, ⟨tok59, ⟨tok60, ⟨tok61, ⟨tok62, ⟨tok63, ⟨tok66, ⟨tok67, ⟨tok68, ⟨tok69, ⟨tok73, ⟨tok84, ⟨tok88, ⟨tok89, ⟨tok94, ⟨tok95, ⟨tok97, ⟨tok104, ⟨tok105, ⟨tok107, ⟨tok118, ⟨tok119, ⟨tok130, ⟨tok131, ⟨tok138, ⟨tok145, ⟨tok147, ⟨tok148, ⟨tok149, ⟨tok150, ⟨tok160, ⟨tok169, ⟨tok172, ⟨tok176, ⟨tok185, ⟨tok189, ⟨tok191, ⟨tok195, ⟨tok196, ⟨tok201, ⟨tok202, ⟨tok204, ⟨tok205, ⟨tok206, ⟨tok207, ⟨tok208, trivial⟩⟩⟩⟩⟩⟩⟩⟩⟩⟩⟩⟩⟩⟩⟩⟩⟩⟩⟩⟩⟩⟩⟩⟩⟩⟩⟩⟩⟩⟩⟩⟩⟩⟩⟩⟩⟩⟩⟩⟩⟩⟩⟩⟩⟩⟩⟩⟩⟩⟩⟩⟩⟩⟩⟩⟩⟩⟩⟩⟩⟩
theorem mixed : Try.prog.follows .mixedOrders = true := by kernel_rfl
end Go.Proofs.Ythcckenjkicmgaa
end
section
namespace Go.Proofs.Ythcckenjkicmgaa
set_option maxRecDepth 100000
open Go.ChangeShapes Go.WideShapes Go.ChangeAt Go.RowKit Go.Deep Go.Joins

theorem row_own : ownKnob Try.prog.godebug = none := by kernel_rfl
theorem row_laid : laidOutB Try.prog = true := by kernel_rfl
def Holds (f : FuncId) (args : Array Value) (W : World) : Prop := Calls Try.prog f args W fun e W' => e = .returned (.bool true) ∧ Below W.heap.size W W'
def NoB : Nat → Prop := Liv [] []
theorem noB (b : Nat) : ¬ NoB b := fun ⟨k, o, c, h, _⟩ => by simp at h
def Opn (w : World) (v : Value) (d : PV) : Prop := Cv w NoB (fun _ => False) [] [] d v
theorem holds_gcG {f : FuncId} {e : Entry} (hg : GC Try.prog f e) {s : HL e.ah} {r : HL e.rh} (hs : e.sh s = some r) {ds : List PV} (hf : e.AS.fill (up e.ah s) = some (ds, [])) (hr : e.RS.fill (up e.rh r) = some ([.im (.s (.bool true))], [])) {W : World} {args : List Value} (hx : F2 (fun d v => Opn W v d) ds args) (hG : Glb W [] []) : Holds f args.toArray W := by
  refine (hg s r hs ds [] hf _ _ hr W (fun _ => False) [] args (fun b h => h.elim) ⟨rfl, fun b hb => hb, fun b _ h => h, fun k o hk => by simp at hk, fun j k o o' b c c' hj => by simp at hj⟩ hx hG).mono ?_
  rintro e' w' ⟨u, β', rfl, st, _, hu⟩
  have : u = .bool true := im_s hu
  exact ⟨by rw [this], st.os, st.tape, st.output, st.size, fun b hb => st.block b hb (noB b)⟩
theorem holds_gc {f : FuncId} {e : Entry} (hg : GC Try.prog f e) {s : HL e.ah} {r : HL e.rh} (hs : e.sh s = some r) {ds : List PV} (hf : e.AS.fill (up e.ah s) = some (ds, [])) (hr : e.RS.fill (up e.rh r) = some ([.im (.s (.bool true))], [])) {W : World} {args : List Value} (hx : F2 (fun d v => Opn W v d) ds args) : Holds f args.toArray W :=
  holds_gcG hg hs hf hr hx fun g cs h => by simp [globs] at h
theorem addr_flat {w : World} {x : Addr} {v : Value} (h : w.cell? x = some v) : ∃ b o, x = ⟨b, o, none⟩ := by
  obtain ⟨b, o, s⟩ := x
  cases s with
  | none => exact ⟨b, o, rfl⟩
  | some t =>
    unfold World.cell? at h
    split at h <;> simp at h
theorem cell_lt' {w : World} {b o : Nat} {v : Value} (h : w.cell? ⟨b, o, none⟩ = some v) : b < w.heap.size := by
  unfold World.cell? at h
  rcases Nat.lt_or_ge b w.heap.size with hb | hb
  · exact hb
  · simp [Array.getElem?_eq_none hb] at h
theorem ri_flat {w : World} (g : Bool) {τ : Ty} {xs : List (El τ)} {A : Option Addr} {cap : Nat} {us : List Value} (hcap : xs.length ≤ cap ∧ cap ≤ maxLen) (hu : flt τ xs = us.map IV.s) (hA : 0 < xs.length → ∃ b o, A = some ⟨b, o, none⟩ ∧ ∀ (j : Nat) v, us[j]? = some v → w.cell? ⟨b, o + j, none⟩ = some v) : Ri w NoB (fun _ => False) (.sl g τ xs) (.slice A xs.length cap) := by
  have hl : us.length = xs.length * sz τ := by rw [← flt_len, hu, List.length_map]
  have hr : ∀ (j : Nat) x u, (flt τ xs)[j]? = some x → us[j]? = some u → Ri w NoB (fun _ => False) x u := fun j x u hx hj => by
    rw [hu, List.getElem?_map, hj] at hx
    injection hx with hx
    subst hx
    exact .s u
  rcases Nat.eq_zero_or_pos xs.length with h0 | h0
  · have hu0 : us = [] := List.length_eq_zero_iff.1 (by rw [hl, h0, Nat.zero_mul])
    subst hu0
    exact .sl g τ xs A cap 0 0 [] (fun h => by omega) hcap (by rw [hu]; rfl) (fun j u hj => by simp at hj) hr
  · obtain ⟨b, o, rfl, hc⟩ := hA h0
    have hp : 0 < us.length := by rw [hl]; exact Nat.mul_pos h0 (sz_pos τ)
    have hb : b < w.heap.size := cell_lt' (hc 0 us[0] (List.getElem?_eq_getElem hp))
    exact .sl g τ xs _ cap b o us (fun _ => ⟨rfl, hb, noB b, fun _ h => h⟩) hcap (by rw [hu, List.length_map]) hc hr
section
variable {H : Type} {enc : TypeId × Value → H} {P : Program} {w : World}
theorem open_zs {τ : Ty} {k : IntKind} (f : Int → El τ) (hf : ∀ z, cells τ (f z) = [.s (.int k z)]) {t e : TypeId} {fuel : Nat} {cs : List Value} {x : DataW H × List MemPlace} (ht : P.underlying t = some (.slice e)) (he : P.underlying e = some (.int k)) (hc : P.cellsOf e = 1)
    (h : DataW.trod enc P w 0 (fun _ => true) true fuel t cs = some x) : ∃ (A : Option Addr) (n cap : Nat) (zs : List Int), cs = [.slice A n cap] ∧ zs.length = n ∧ n ≤ maxLen ∧ (∀ z ∈ zs, (Lit.int k z).wf = true) ∧ ∀ g, Ri w NoB (fun _ => False) (.sl g τ (zs.map f)) (.slice A n cap) := by
  have flat : ∀ zs : List Int, flt τ (zs.map f) = (zs.map (Value.int k)).map IV.s := fun zs => by
    induction zs with
    | nil => rfl
    | cons z r ih => rw [List.map_cons, flt_cons, hf, ih]; rfl
  rcases open_ints ht he hc h with ⟨rfl, _⟩ | ⟨a, len, cap, zs, rfl, _, hl, hm, hz, _, hcell, hw⟩
  · exact ⟨none, 0, 0, [], rfl, rfl, Nat.zero_le _, fun z hz => by simp at hz, fun g => by
      have := ri_flat (w := w) g (τ := τ) (xs := []) (A := none) (cap := 0) (us := []) ⟨Nat.le_refl _, Nat.zero_le _⟩ rfl (fun h => by simp at h)
      exact this⟩
  · simp only [if_true] at hz
    refine ⟨some a, len, cap, zs.take len, rfl, by simp; omega, by omega, fun z hz => hw z (List.mem_of_mem_take hz), fun g => ?_⟩
    have e : ((zs.take len).map f).length = len := by simp; omega
    have := ri_flat (w := w) g (τ := τ) (xs := (zs.take len).map f) (A := some a) (cap := cap) (us := (zs.take len).map (Value.int k)) (by rw [e]; exact ⟨hl, hm⟩) (flat _) (fun h0 => by
      rw [e] at h0
      have h1 := hcell 0 (by omega)
      rw [Addr.add_zero'] at h1
      obtain ⟨b, o, rfl⟩ := addr_flat h1
      refine ⟨b, o, rfl, fun j u hu => ?_⟩
      have hj : j < len := by
        have := (List.getElem?_eq_some_iff.1 hu).1
        simp at this
        omega
      have h2 := hcell j (by omega)
      rw [Addr.add_lit] at h2
      rw [h2]
      simp only [List.getElem?_map, List.getElem?_take, hj, if_true] at hu
      obtain ⟨z, hz1, rfl⟩ := Option.map_eq_some_iff.1 hu
      simp [List.getD, hz1])
    rwa [e] at this
theorem pick_list {α : Type} {n : Nat} {p : Nat → α → Prop} (h : ∀ i, i < n → ∃ x, p i x) : ∃ l : List α, l.length = n ∧ ∀ (i : Nat) x, l[i]? = some x → p i x := by
  induction n with
  | zero => exact ⟨[], rfl, fun i x hx => by simp at hx⟩
  | succ n ih =>
    obtain ⟨l, hl, hp⟩ := ih fun i hi => h i (by omega)
    obtain ⟨x, hx⟩ := h n (by omega)
    refine ⟨l ++ [x], by simp [hl], fun i y hy => ?_⟩
    rcases Nat.lt_or_ge i n with hi | hi
    · rw [List.getElem?_append_left (by omega)] at hy
      exact hp i y hy
    · rw [List.getElem?_append_right (by omega)] at hy
      have hi' : i = n := by
        have := (List.getElem?_eq_some_iff.1 hy).1
        simp at this
        omega
      subst hi'
      rw [hl, Nat.sub_self] at hy
      simp at hy
      subst hy
      exact hx
end
section
variable {H : Type} {enc : TypeId × Value → H} {W : World} {v : Value} {d : DataW H} {p : List MemPlace}
theorem opn_int {r : Reach} {b0 : Nat} (hv : Value.okWide Try.prog W r b0 3 v) (h : DataW.Trod enc Try.prog W 0 (fun _ => true) true 3 v d p) : ∃ z : Int, (Lit.int .i64 z).wf = true ∧ Opn W v (.im (iI z)) := by
  obtain ⟨z, rfl, h1⟩ := open_int Try.underlying3 hv h
  exact ⟨z, h1.2.2, Ri.s _⟩
theorem opn_bytes {r : Reach} {b0 : Nat} (hv : Value.okWide Try.prog W r b0 22 v) (h : DataW.Trod enc Try.prog W 0 (fun _ => true) true 22 v d p) : ∃ zs : List Int, zs.length ≤ maxLen ∧ (∀ z ∈ zs, 0 ≤ z ∧ z < 256) ∧ ∀ g, Opn W v (.im (.sl g .u8 zs)) := by
  obtain ⟨a, len, cap, rfl⟩ := okWide_slice Try.underlying22 hv
  obtain ⟨fuel, hf⟩ := h
  obtain ⟨A, n, cap', zs, e, hl, hm, hw, hr⟩ := open_zs (τ := .u8) (fun z => z) (fun _ => rfl) Try.underlying22 Try.underlying5 (by kernel_rfl) hf
  simp [Value.cells] at e
  obtain ⟨rfl, rfl, rfl⟩ := e
  refine ⟨zs, by omega, fun z hz => ?_, fun g => (by have := hr g; rw [List.map_id'] at this; exact this)⟩
  have := hw z hz
  simp [Lit.wf, IntKind.min, IntKind.max, IntKind.signed, IntKind.bits] at this
  omega
end
end Go.Proofs.Ythcckenjkicmgaa
end
section
namespace Go.Proofs.Ythcckenjkicmgaa
set_option maxRecDepth 100000
open Go.ChangeShapes Go.WideShapes Go.ChangeAt Go.RowKit Go.Deep Go.Joins

section
variable {H : Type} {enc : TypeId × Value → H} {P : Program} {w : World}
def OpE (enc : TypeId × Value → H) (P : Program) (w : World) (e : TypeId) (τ : Ty) : Prop := ∀ fuel cs x, DataW.trod enc P w 0 (fun _ => true) true fuel e cs = some x → ∃ y : El τ, F2 (Ri w NoB (fun _ => False)) (cells τ y) cs
theorem seg {Q : Nat → Value → Prop} {α : Type} {s : Nat} : ∀ (l : List (α × List Value)) (k : Nat), (∀ (i : Nat) p, l[i]? = some p → p.2.length = s ∧ ∀ (j : Nat) u, p.2[j]? = some u → Q ((k + i) * s + j) u) → ∀ (j : Nat) u, (l.flatMap (·.2))[j]? = some u → Q (k * s + j) u
  | [], k, h, j, u, hj => by simp at hj
  | p :: r, k, h, j, u, hj => by
    have h0 := h 0 p rfl
    rw [List.flatMap_cons, List.getElem?_append] at hj
    split at hj
    · simpa using h0.2 j u hj
    · rename_i hlt
      rw [h0.1] at hj hlt
      have := seg r (k + 1) (fun i q hq => by
        have := h (i + 1) q (by simpa using hq)
        rwa [show k + (i + 1) = k + 1 + i by omega] at this) (j - s) u hj
      rwa [Nat.succ_mul, show k * s + s + (j - s) = k * s + j by omega] at this
theorem segF {τ : Ty} : ∀ (l : List (El τ × List Value)), (∀ p ∈ l, F2 (Ri w NoB (fun _ => False)) (cells τ p.1) p.2) → F2 (Ri w NoB (fun _ => False)) (flt τ (l.map (·.1))) (l.flatMap (·.2))
  | [], _ => F2.nil
  | p :: r, h => by
    rw [List.map_cons, flt_cons, List.flatMap_cons]
    exact (h p (List.mem_cons_self ..)).app (segF r fun q hq => h q (List.mem_cons_of_mem _ hq))
theorem open_sl {τ : Ty} {t e : TypeId} {fuel : Nat} {cs : List Value} {x : DataW H × List MemPlace} (ht : P.underlying t = some (.slice e)) (hC : P.cellsOf e = sz τ) (hE : OpE enc P w e τ) (h : DataW.trod enc P w 0 (fun _ => true) true fuel t cs = some x) :
    ∃ (A : Option Addr) (n cap : Nat) (xs : List (El τ)), cs = [.slice A n cap] ∧ xs.length = n ∧ n ≤ maxLen ∧ ∀ g, Ri w NoB (fun _ => False) (.sl g τ xs) (.slice A n cap) := by
  rcases open_slice ht h with ⟨rfl, _⟩ | ⟨a, len, cap, m, n, D, Pl, rfl, _, hl, hm, hmm, _, hi⟩
  · exact ⟨none, 0, 0, [], rfl, rfl, Nat.zero_le _, fun g => .sl g τ [] none 0 0 0 [] (fun h => by simp at h) ⟨Nat.le_refl _, Nat.zero_le _⟩ rfl (fun j u hu => by simp at hu) (fun j x u hx => by simp [flt] at hx)⟩
  · simp only [if_true] at hmm
    have each : ∀ i, i < len → ∃ p : El τ × List Value, F2 (Ri w NoB (fun _ => False)) (cells τ p.1) p.2 ∧ ∀ (j : Nat) u, p.2[j]? = some u → w.cell? (a.add (i * sz τ + j)) = some u := fun i hil => by
      obtain ⟨cs', hc, htr⟩ := hi i (by omega)
      rw [hC] at hc
      obtain ⟨_, hcl, hat⟩ := World.cells?_some hc
      obtain ⟨y, hy⟩ := hE n cs' _ htr
      refine ⟨⟨y, cs'⟩, hy, fun j u hu => ?_⟩
      have hj : j < sz τ := by
        have := (List.getElem?_eq_some_iff.1 hu).1
        rw [← hcl]; exact this
      have := hat j hj
      rw [Go.Deep.add_add] at this
      rw [this]
      exact hu
    obtain ⟨l, hl', hp⟩ := pick_list each
    have hF := segF (w := w) l fun p hp' => by
      obtain ⟨i, hi'⟩ := List.getElem?_of_mem hp'
      exact (hp i p hi').1
    have hn : (l.map (·.1)).length = len := by rw [List.length_map, hl']
    have hsz : ∀ (i : Nat) p, l[i]? = some p → p.2.length = sz τ := fun i p hip => by rw [(hp i p hip).1.1, cells_len]
    refine ⟨some a, len, cap, l.map (·.1), rfl, hn, by omega, fun g => ?_⟩
    rcases Nat.eq_zero_or_pos len with h0 | h0
    · have hx : l.map (·.1) = [] := List.length_eq_zero_iff.1 (by rw [hn, h0])
      rw [hx, h0]
      exact .sl g τ [] (some a) cap 0 0 [] (fun h => by simp at h) ⟨Nat.zero_le _, by omega⟩ rfl (fun j u hu => by simp at hu) (fun j x u hx => by simp [flt] at hx)
    · have q0 := hp 0 l[0] (List.getElem?_eq_getElem (by omega))
      have hs0 := hsz 0 l[0] (List.getElem?_eq_getElem (by omega))
      have q1 := q0.2 0 _ (List.getElem?_eq_getElem (by rw [hs0]; exact sz_pos τ))
      simp only [Nat.zero_mul, Nat.add_zero, Addr.add_zero'] at q1
      obtain ⟨b, o, rfl⟩ := addr_flat q1
      have hcell : ∀ (j : Nat) u, (l.flatMap (·.2))[j]? = some u → w.cell? ⟨b, o + j, none⟩ = some u := fun j u hu => by
        have := seg (Q := fun j u => w.cell? ((⟨b, o, none⟩ : Addr).add j) = some u) (s := sz τ) l 0 (fun i p hip => ⟨hsz i p hip, fun j u hu => by
          rw [Nat.zero_add]; exact (hp i p hip).2 j u hu⟩) j u hu
        rw [Nat.zero_mul, Nat.zero_add, Addr.add_lit] at this
        exact this
      have := Ri.sl (w := w) (E := NoB) (X := fun _ => False) g τ (l.map (·.1)) (some ⟨b, o, none⟩) cap b o (l.flatMap (·.2)) (fun _ => ⟨rfl, cell_lt' q1, noB b, fun _ h => h⟩) ⟨by rw [hn]; exact hl, hm⟩ hF.1 hcell (fun j x u hx hu => hF.2 j x u hx hu)
      rwa [hn] at this
theorem opE_int {τ : Ty} {k : IntKind} {e : TypeId} (f : Int → El τ) (hf : ∀ z, cells τ (f z) = [.s (.int k z)]) (he : P.underlying e = some (.int k)) : OpE enc P w e τ := fun fuel cs x h => by
  obtain ⟨z, rfl, _⟩ := DataW.trod_int he h
  exact ⟨f z, by rw [hf]; exact F2.cons (.s _) F2.nil⟩
theorem opE_ints2 {τ : Ty} {e : TypeId} {f0 f1 : Field} (f : Int → Int → El τ) (hf : ∀ a b, cells τ (f a b) = [iI a, iI b]) (he : P.underlying e = some (.struct #[f0, f1])) (hC : P.cellsOf e = 2) (hone : oneCellFields P #[f0, f1] = true)
    (h0 : P.underlying f0.type = some (.int .i64)) (h1 : P.underlying f1.type = some (.int .i64)) : OpE enc P w e τ := fun fuel cs x h => by
  obtain ⟨y0, y1, n', _, hl, g0, g1⟩ := trod_struct2 he h
  obtain ⟨o0, k0⟩ := hone_of hone 0 f0 rfl
  obtain ⟨o1, k1⟩ := hone_of hone 1 f1 rfl
  rw [o0, k0] at g0
  rw [o1, k1] at g1
  obtain ⟨z0, e0, _⟩ := DataW.trod_int h0 g0
  obtain ⟨z1, e1, _⟩ := DataW.trod_int h1 g1
  rw [hC] at hl
  match cs, hl with
  | [c0, c1], _ =>
    simp at e0 e1
    subst e0 e1
    exact ⟨f z0 z1, by rw [hf]; exact F2.cons (.s _) (F2.cons (.s _) F2.nil)⟩
theorem opE_ints3 {τ : Ty} {e : TypeId} {f0 f1 f2 : Field} (f : Int → Int → Int → El τ) (hf : ∀ a b c, cells τ (f a b c) = [iI a, iI b, iI c]) (he : P.underlying e = some (.struct #[f0, f1, f2])) (hC : P.cellsOf e = 3) (hone : oneCellFields P #[f0, f1, f2] = true)
    (h0 : P.underlying f0.type = some (.int .i64)) (h1 : P.underlying f1.type = some (.int .i64)) (h2 : P.underlying f2.type = some (.int .i64)) : OpE enc P w e τ := fun fuel cs x h => by
  obtain ⟨y0, y1, y2, n', _, hl, g0, g1, g2⟩ := trod_struct3 he h
  obtain ⟨o0, k0⟩ := hone_of hone 0 f0 rfl
  obtain ⟨o1, k1⟩ := hone_of hone 1 f1 rfl
  obtain ⟨o2, k2⟩ := hone_of hone 2 f2 rfl
  rw [o0, k0] at g0
  rw [o1, k1] at g1
  rw [o2, k2] at g2
  obtain ⟨z0, e0, _⟩ := DataW.trod_int h0 g0
  obtain ⟨z1, e1, _⟩ := DataW.trod_int h1 g1
  obtain ⟨z2, e2, _⟩ := DataW.trod_int h2 g2
  rw [hC] at hl
  match cs, hl with
  | [c0, c1, c2], _ =>
    simp at e0 e1 e2
    subst e0 e1 e2
    exact ⟨f z0 z1 z2, by rw [hf]; exact F2.cons (.s _) (F2.cons (.s _) (F2.cons (.s _) F2.nil))⟩
end
section
variable {H : Type} {enc : TypeId × Value → H} {W : World} {v : Value} {d : DataW H} {p : List MemPlace}
theorem opn_sl {r : Reach} {b0 : Nat} {τ : Ty} {t e : TypeId} (ht : Try.prog.underlying t = some (.slice e)) (hC : Try.prog.cellsOf e = sz τ) (hE : OpE enc Try.prog W e τ) (hv : Value.okWide Try.prog W r b0 t v) (h : DataW.Trod enc Try.prog W 0 (fun _ => true) true t v d p) : ∃ xs : List (El τ), xs.length ≤ maxLen ∧ ∀ g, Opn W v (.im (.sl g τ xs)) := by
  obtain ⟨a, len, cap, rfl⟩ := okWide_slice ht hv
  obtain ⟨fuel, hf⟩ := h
  obtain ⟨A, n, cap', xs, e, hl, hm, hr⟩ := open_sl ht hC hE hf
  simp [Value.cells] at e
  obtain ⟨rfl, rfl, rfl⟩ := e
  exact ⟨xs, by omega, hr⟩
theorem opn_ints {r : Reach} {b0 : Nat} (hv : Value.okWide Try.prog W r b0 29 v) (h : DataW.Trod enc Try.prog W 0 (fun _ => true) true 29 v d p) : ∃ zs : List Int, zs.length ≤ maxLen ∧ ∀ g, Opn W v (.im (.sl g .int zs)) :=
  opn_sl Try.underlying29 (by kernel_rfl) (opE_int (τ := .int) (k := .i64) (fun z => z) (fun _ => rfl) Try.underlying3) hv h
theorem opE_links : OpE enc Try.prog W 138 .lk := opE_ints3 (fun a b c => (⟨a, b, c⟩ : Lk)) (fun _ _ _ => rfl) Try.underlying138 (by kernel_rfl) (by kernel_rfl) Try.underlying3 Try.underlying3 Try.underlying3
theorem opn_graph {r : Reach} {b0 : Nat} (hv : Value.okWide Try.prog W r b0 41 v) (h : DataW.Trod enc Try.prog W 0 (fun _ => true) true 41 v d p) : ∃ (z : Int) (ls : List Lk), ls.length ≤ maxLen ∧ ∀ g, Opn W v (.agg [.im (iI z), .im (.sl g .lk ls)]) := by
  obtain ⟨v0, v1, y0, y1, n, rfl, _, _, h0, h1⟩ := open_agg2 Try.underlying41 (by kernel_rfl) (by kernel_rfl) hv h
  obtain ⟨z, e0, _⟩ := DataW.trod_int Try.underlying3 h0
  obtain ⟨A, n, cap, ls, e1, hl, hm, hr⟩ := open_sl Try.underlying39 (by kernel_rfl) opE_links h1
  simp at e0 e1
  subst e0 e1
  exact ⟨z, ls, by omega, fun g => ⟨_, rfl, F2.cons (Ri.s _) (F2.cons (by subst hl; exact hr g) F2.nil)⟩⟩
theorem opE_ends : OpE enc Try.prog W 97 .en := opE_ints2 (fun a b => (⟨a, b⟩ : En)) (fun _ _ => rfl) Try.underlying97 (by kernel_rfl) (by kernel_rfl) Try.underlying3 Try.underlying3
theorem opn_ends {r : Reach} {b0 : Nat} (hv : Value.okWide Try.prog W r b0 42 v) (h : DataW.Trod enc Try.prog W 0 (fun _ => true) true 42 v d p) : ∃ es : List En, es.length ≤ maxLen ∧ ∀ g, Opn W v (.im (.sl g .en es)) :=
  opn_sl Try.underlying42 (by kernel_rfl) opE_ends hv h
end
end Go.Proofs.Ythcckenjkicmgaa
end
section
namespace Go.Proofs
open Go.Shelf
def Try.lays189_ren : Go.Shelf.Ren := ⟨fun | 189 => 114 | 125 => 135 | 257 => 134 | 128 => 153 | 129 => 154 | 294 => 144 | 295 => 145 | 296 => 146 | 297 => 147 | 298 => 148 | 299 => 149 | 216 => 150 | 300 => 151 | 301 => 152 | 328 => 155 | 329 => 156 | 330 => 157 | 331 => 158 | 332 => 159 | 215 => 138 | 343 => 160 | n => n, fun | 28 => 29 | 3 => 3 | 46 => 160 | 0 => 0 | 51 => 169 | 53 => 172 | 4 => 4 | 183 => 177 | 182 => 176 | 131 => 123 | 5 => 5 | 9 => 9 | 218 => 185 | 222 => 189 | 228 => 191 | 229 => 192 | n => n, fun | n => n⟩
theorem Try.lays189 : Go.Proofs.Lays.n189 Try.prog Try.lays189_ren := {
  mixed := by kernel_rfl
  f125 := Try.func135.trans (congrArg some (by kernel_rfl))
  f128 := Try.func153.trans (congrArg some (by kernel_rfl))
  f129 := Try.func154.trans (congrArg some (by kernel_rfl))
  f189 := Try.func114.trans (congrArg some (by kernel_rfl))
  f215 := Try.func138.trans (congrArg some (by kernel_rfl))
  f216 := Try.func150.trans (congrArg some (by kernel_rfl))
  f257 := Try.func134.trans (congrArg some (by kernel_rfl))
  f294 := Try.func144.trans (congrArg some (by kernel_rfl))
  f295 := Try.func145.trans (congrArg some (by kernel_rfl))
  f296 := Try.func146.trans (congrArg some (by kernel_rfl))
  f297 := Try.func147.trans (congrArg some (by kernel_rfl))
  f298 := Try.func148.trans (congrArg some (by kernel_rfl))
  f299 := Try.func149.trans (congrArg some (by kernel_rfl))
  f300 := Try.func151.trans (congrArg some (by kernel_rfl))
  f301 := Try.func152.trans (congrArg some (by kernel_rfl))
  f328 := Try.func155.trans (congrArg some (by kernel_rfl))
  f329 := Try.func156.trans (congrArg some (by kernel_rfl))
  f330 := Try.func157.trans (congrArg some (by kernel_rfl))
  f331 := Try.func158.trans (congrArg some (by kernel_rfl))
  f332 := Try.func159.trans (congrArg some (by kernel_rfl))
  f343 := Try.func160.trans (congrArg some (by kernel_rfl))
  t0 := Try.underlying0
  a0 := Try.isAgg0
  z0 := Try.sizeOf0
  v0 := Try.zeroValue0
  t3 := Try.underlying3
  a3 := Try.isAgg3
  z3 := Try.sizeOf3
  v3 := Try.zeroValue3
  t4 := Try.underlying4
  a4 := Try.isAgg4
  z4 := Try.sizeOf4
  v4 := Try.zeroValue4
  t5 := Try.underlying5
  a5 := Try.isAgg5
  z5 := Try.sizeOf5
  v5 := Try.zeroValue5
  t9 := Try.underlying9
  a9 := Try.isAgg9
  z9 := Try.sizeOf9
  v9 := Try.zeroValue9
  t28 := Try.underlying29
  a28 := Try.isAgg29
  z28 := Try.sizeOf29
  v28 := Try.zeroValue29
  t46 := Try.underlying160
  a46 := Try.isAgg160
  z46 := Try.sizeOf160
  v46 := Try.zeroValue160
  t51 := Try.underlying169
  a51 := Try.isAgg169
  z51 := Try.sizeOf169
  v51 := Try.zeroValue169
  t53 := Try.underlying172
  a53 := Try.isAgg172
  z53 := Try.sizeOf172
  v53 := Try.zeroValue172
  t131 := Try.underlying123
  a131 := Try.isAgg123
  z131 := Try.sizeOf123
  v131 := Try.zeroValue123
  t182 := Try.underlying176
  a182 := Try.isAgg176
  z182 := Try.sizeOf176
  v182 := Try.zeroValue176
  t183 := Try.underlying177
  a183 := Try.isAgg177
  z183 := Try.sizeOf177
  v183 := Try.zeroValue177
  t218 := Try.underlying185
  a218 := Try.isAgg185
  z218 := Try.sizeOf185
  v218 := Try.zeroValue185
  t222 := Try.underlying189
  a222 := Try.isAgg189
  z222 := Try.sizeOf189
  v222 := Try.zeroValue189
  t228 := Try.underlying191
  a228 := Try.isAgg191
  z228 := Try.sizeOf191
  v228 := Try.zeroValue191
  t229 := Try.underlying192
  a229 := Try.isAgg192
  z229 := Try.sizeOf192
  v229 := Try.zeroValue192 }
open Go.Sort Go.RowKit in
theorem Try.slices_Sort_int (blk off cap : Nat) (zs : List Int) (w : World) (hH : Holds (Value.int .i64) w blk off zs.toArray) (hblk : blk < w.heap.size) (hsz : zs.length < 4611686018427387904) :
    Calls Try.prog 114 #[.slice (some ⟨blk, off, none⟩) zs.length cap] w fun e w' =>
      e = .returned (.tuple #[]) ∧ ∃ n os, w' = grow (putRow (Value.int .i64) (Sort.ahead w n) blk off (zs.mergeSort fun x y => decide (x ≤ y)).toArray) os := Any.slices_Sort_int Try.lays189 blk off cap zs w hH hblk hsz
def Try.lays212_ren : Go.Shelf.Ren := ⟨fun | 212 => 133 | 263 => 142 | 264 => 143 | n => n, fun | 46 => 160 | 51 => 169 | 146 => 170 | 53 => 172 | 148 => 173 | n => n, fun | n => n⟩
theorem Try.lays212 : Go.Proofs.Lays.n212 Try.prog Try.lays212_ren := {
  mixed := by kernel_rfl
  f212 := Try.func133.trans (congrArg some (by kernel_rfl))
  f263 := Try.func142.trans (congrArg some (by kernel_rfl))
  f264 := Try.func143.trans (congrArg some (by kernel_rfl))
  t46 := Try.underlying160
  a46 := Try.isAgg160
  z46 := Try.sizeOf160
  v46 := Try.zeroValue160
  t51 := Try.underlying169
  a51 := Try.isAgg169
  z51 := Try.sizeOf169
  v51 := Try.zeroValue169
  t53 := Try.underlying172
  a53 := Try.isAgg172
  z53 := Try.sizeOf172
  v53 := Try.zeroValue172
  t146 := Try.underlying170
  a146 := Try.isAgg170
  z146 := Try.sizeOf170
  v146 := Try.zeroValue170
  t148 := Try.underlying173
  a148 := Try.isAgg173
  z148 := Try.sizeOf173
  v148 := Try.zeroValue173 }
open Go.RowKit Go.Lib in
theorem Try.bits_Mul (x y : Nat) (hx : x < 18446744073709551616) (hy : y < 18446744073709551616) (w : World) :
    Calls Try.prog 133 #[.int .u64 x, .int .u64 y] w fun e w' => e = .returned (.tuple #[.int .u64 ((x * y / 18446744073709551616 : Nat) : Int), .int .u64 ((x * y % 18446744073709551616 : Nat) : Int)]) ∧ w' = w := Any.bits_Mul Try.lays212 x y hx hy w
open Go.RowKit Go.Sort in
theorem Try.slices_Sort_int_none (p : Option Addr) (cap : Nat) (w : World) :
    Calls Try.prog 114 #[.slice p 0 cap] w fun e w' => e = .returned (.tuple #[]) ∧ w' = w := Any.slices_Sort_int_none Try.lays189 p cap w
end Go.Proofs
end
section
namespace Go.Proofs.Ythcckenjkicmgaa
open Go.RowKit

def sortI (zs : List Int) : List Int := zs.mergeSort fun x y => decide (x ≤ y)
theorem sortI_len (zs : List Int) : (sortI zs).length = zs.length := List.length_mergeSort zs
theorem flt_int (zs : List Int) : flt .int zs = zs.map iI := by
  induction zs with
  | nil => rfl
  | cons z r ih => rw [flt_cons, ih]; rfl
theorem flt_int_us {w : World} {E X : Nat → Prop} {zs : List Int} {us : List Value} (h : F2 (Ri w E X) (flt .int zs) us) : us = zs.map (Value.int .i64) := by
  rw [flt_int] at h
  refine List.ext_getElem? fun i => ?_
  have hlen := h.1
  simp only [List.length_map] at hlen
  rcases Nat.lt_or_ge i us.length with hi | hi
  · have hu : us[i]? = some us[i] := List.getElem?_eq_getElem hi
    have hz : zs[i]? = some zs[i] := List.getElem?_eq_getElem (by omega)
    have h1 : Ri w E X (iI zs[i]) us[i] := h.2 i (iI zs[i]) us[i] (by rw [List.getElem?_map, hz]; rfl) hu
    rw [hu]
    generalize us[i] = q at *
    cases h1
    simp [hz]
  · rw [List.getElem?_eq_none hi, List.getElem?_eq_none (by simp; omega)]
def sh_slices_Sort_int_int (s : List Int × Unit) : Option (List Int × Unit) := bif decide (s.1.length ≤ 16777216) then some (sortI s.1, ()) else none
def e_slices_Sort_int_int : Entry := ⟨⟨[.c (.one (.own 0))], [.row 3 .int]⟩, [.ls .int], ⟨[.tup []], [.row 3 .int]⟩, [.ls .int], sh_slices_Sort_int_int⟩
theorem p_slices_Sort_int_int : GC Try.prog 114 e_slices_Sort_int_int := by
  intro s r hs ds os hf d h' hr w X β args hX hH hargs _
  obtain ⟨xs, _⟩ := s
  have hs : (bif decide (xs.length ≤ 16777216) then some (sortI xs, ()) else none) = some r := hs
  cases hd : decide (xs.length ≤ 16777216) with
  | false => rw [hd] at hs; cases hs
  | true =>
  rw [hd] at hs
  injection hs with hs
  subst hs
  have hn := of_decide_eq_true hd
  have hf : some ([PV.own 0], [AObj.row 3 .int xs]) = some (ds, os) := hf
  injection hf with hf
  injection hf with hf1 hf2
  subst hf1 hf2
  have hr : some ([PV.tup []], [AObj.row 3 .int (sortI xs)]) = some ([d], h') := hr
  injection hr with hr
  injection hr with hr1 hr2
  injection hr1 with hr1
  subst hr1 hr2
  obtain ⟨u, _, rfl, hu, hnil⟩ := hargs.cons_inv
  obtain rfl := hnil.nil_inv
  obtain ⟨h0, hv, ⟨_, _, _, rfl⟩, h2⟩ := hu
  obtain ⟨b, c, A, hb, hue, hA, hE⟩ := h2 3 .int xs rfl
  obtain ⟨b', c', hb', hc0, hcm, hrow⟩ := hH.ok 0 _ rfl
  rw [hb] at hb'
  injection hb' with hb'
  injection hb' with e1 e2
  subst e1 e2
  rw [hue]
  rcases Nat.eq_zero_or_pos c with hc | hc
  · obtain rfl : xs = [] := hc0 hc
    refine (Try.slices_Sort_int_none A c w).mono ?_
    rintro ex w' ⟨rfl, rfl⟩
    have e : sortI [] = [] := by simp [sortI]
    rw [e]
    exact ⟨_, β, rfl, Step.refl _ _ _, hH, [], rfl, F2.nil⟩
  · obtain ⟨us, junk, hblk, hF, hone, hlen⟩ := hrow hc
    have hus := flt_int_us hF
    subst hus
    have hA := hA hc
    subst hA
    have hbl : b < w.heap.size := (Array.getElem?_eq_some_iff.1 hblk).1
    have hlen' : xs.length + junk.length = c := by
      have : ((xs.map (Value.int .i64)) ++ junk).length = c * 1 := hlen
      simpa using this
    have hold : Go.Sort.Holds (Value.int .i64) w b 0 xs.toArray := holds_of_blockI (e := 3) hblk (by simp)
    refine (Try.slices_Sort_int b 0 c xs w hold hbl (by omega)).mono ?_
    rintro ex w' ⟨rfl, m, os, rfl⟩
    have how := ownsRow_sortedI (w := w) (base := 0) (g := b) (cap := c) (n := m) (os := os) (ss := xs) (ts := sortI xs) (e := 3) (sortI_len xs) (Nat.zero_le _) hblk (by omega) hcm (by simp; omega)
    have hgr := grownBy_sortedI (w := w) (g := b) (n := m) (os := os) (sortI xs).toArray
    obtain ⟨g2, c2, junk2, hv2, hh2, hl2, hm2, _⟩ := own_split how (by intro h; cases h)
    injection hv2 with q1 q2 q3
    injection q1 with q1
    injection q1 with q1
    subst q1 q3
    generalize hw' : Go.Sort.grow (Go.Sort.putRow (Value.int .i64) (Go.Sort.ahead w m) b 0 (xs.mergeSort fun x y => decide (x ≤ y)).toArray) os = w' at *
    rw [show (xs.mergeSort fun x y => decide (x ≤ y)) = sortI xs from rfl] at hw'
    rw [hw'] at hh2 hgr how
    have live1 : ∀ b', Liv [AObj.row 3 .int (sortI xs)] β b' → Liv [AObj.row 3 .int xs] β b' := fun b' ⟨k, o, c', h1, h2, h3⟩ => by
      match k, h1 with
      | 0, h1 =>
        simp at h1
        subst h1
        exact ⟨0, _, c', rfl, h2, h3⟩
      | k + 1, h1 => simp at h1
    have liveB : Liv [AObj.row 3 .int xs] β b := ⟨0, _, c, rfl, hc, hb⟩
    have onlyB : ∀ b', Liv [AObj.row 3 .int xs] β b' → b' = b := fun b' ⟨k, o, c', h1, h2, h3⟩ => by
      match k, h1 with
      | 0, h1 => rw [hb] at h3; injection h3 with h3; injection h3 with h3; exact h3.symm
      | k + 1, h1 => simp at h1
    refine ⟨_, β, rfl, ⟨hgr.os, hgr.tape, hgr.output, hgr.size, fun i hi hne => hgr.block i hi (fun e => hne (by injection e with e; subst e; exact liveB)), fun i _ h => live1 i h, fun _ _ h => h, ⟨Nat.le_refl _, fun k t τ ys hk e => ?_, fun k hk e => ?_⟩⟩, ⟨hH.len, fun i h => h, fun i h => hH.nx i (live1 i h), fun k o hk => ?_, fun j k o o' b1 c1 c2 hj hk _ _ _ _ => ?_⟩, [], rfl, F2.nil⟩
    · cases k with
      | zero =>
        simp at e
        obtain ⟨rfl, e⟩ := e
        obtain ⟨rfl, e⟩ := e
        obtain rfl := eq_of_heq e
        exact .inl ⟨xs, rfl, (sortI_len xs).symm⟩
      | succ k => simp at e
    · match k, e with
      | 0, e => simp [isV] at e
      | k + 1, e => simp at hk
    · match k, hk with
      | 0, hk =>
        simp at hk
        subst hk
        refine ⟨b, c, hb, fun h => by omega, hcm, fun _ => ⟨(sortI xs).map (Value.int .i64), junk2, hh2, ?_, fun u hu => ?_, by simpa [sz] using hl2⟩⟩
        · rw [flt_int]
          refine ⟨by simp, fun i x u hx hu => ?_⟩
          simp only [List.getElem?_map] at hx hu
          obtain ⟨z, hz, rfl⟩ := Option.map_eq_some_iff.1 hx
          rw [hz] at hu
          injection hu with hu
          subst hu
          exact Ri.s _
        · obtain ⟨z, _, rfl⟩ := List.mem_map.1 hu; rfl
      | k + 1, hk => simp at hk
    · match j, k, hj, hk with
      | 0, 0, _, _ => rfl
      | 0, k + 1, _, hk => simp at hk
      | j + 1, _, hj, _ => simp at hj
end Go.Proofs.Ythcckenjkicmgaa
end
section
namespace Go.Proofs.Ythcckenjkicmgaa
open Go.RowKit

theorem int_info : (Try.prog.info? 3).map (fun i => (i.zero, i.size, i.bytes)) = some (some (.int .i64 0), 1, 8) := by kernel_rfl

theorem l_mul1 (c : Nat) (hc : c ≤ 64) (w : World) : Calls Try.prog 133 #[.int .u64 1, .int .u64 (c : Int)] w fun e w' => e = .returned (.tuple #[.int .u64 0, .int .u64 (c : Int)]) ∧ w = w' := by
  refine (Try.bits_Mul 1 c (by decide) (by omega) w).mono ?_
  rintro e w' ⟨he, hw⟩
  refine ⟨?_, hw.symm⟩
  rw [he, Nat.one_mul, Nat.div_eq_of_lt (by omega), Nat.mod_eq_of_lt (by omega)]
  rfl

def filled (v z : Value) (n m : Nat) : List Value := List.replicate n v ++ List.replicate m z
theorem filled_len (v z : Value) (n m : Nat) : (filled v z n m).length = n + m := by simp [filled]
theorem filled_get (v z : Value) (n m j : Nat) (h : j < n) : (filled v z n m)[j]? = some v := by simp [filled, List.getElem?_append, h]
theorem filled_splice (v z : Value) (n m k : Nat) (hk : k ≤ m) : Go.splice (filled v z n m) n (List.replicate k v) = filled v z (n + k) (m - k) := by
  simp only [Go.splice, filled, List.length_replicate]
  rw [List.take_left' (by simp), List.drop_append, List.drop_of_length_le (by simp), List.nil_append, List.length_replicate, List.drop_replicate, ← List.append_assoc, List.replicate_append_replicate]
  congr 2
  omega

theorem made_filled (w : World) (v z : Value) (c : Nat) (t : TypeId) : (w.alloc (.cells (madeCells #[z] c) t)).heap[w.heap.size]? = some (.cells (filled v z 0 c).toArray t (0, 0)) := by
  have h := heap_alloc_new w (.cells (madeCells #[z] c) t)
  have e : madeCells #[z] c = (filled v z 0 c).toArray := by
    apply Array.toList_inj.1
    rw [toList_madeCells_one]
    simp [filled]
  rw [← e]
  exact h
theorem new_one (w : World) (O : Obj) {b o : Nat} {v : Value} (h : w.cell? ⟨b, o, none⟩ = some v) : ∀ j u, [v][j]? = some u → (w.alloc O).cell? ((⟨b, o, none⟩ : Addr).add j) = some u := by
  intro j u hu
  cases j with
  | zero =>
    simp at hu
    subst hu
    rw [Addr.add_lit, Nat.add_zero, World.cell?_alloc_lt w O _ (cell_lt h)]
    exact h
  | succ j => simp at hu

theorem filled_src {w : World} {g n m k : Nat} {v z : Value} {t : TypeId} (h : w.heap[g]? = some (.cells (filled v z n m).toArray t (0, 0))) (hk : k ≤ n) : ∀ j u, (List.replicate k v)[j]? = some u → w.cell? ((⟨g, 0, none⟩ : Addr).add j) = some u := by
  intro j u hu
  obtain ⟨hj, rfl⟩ := List.getElem?_eq_some_iff.1 hu
  simp only [List.length_replicate] at hj
  rw [Addr.add_lit, Nat.zero_add, cell_of_row w g j _ t (0, 0) h, List.getElem?_toArray, filled_get _ _ _ _ _ (by omega)]
  simp

set_option maxRecDepth 100000 in
set_option maxHeartbeats 1000000 in
theorem l_Repeat_int (v : Int) (b o cap c : Nat) (hc0 : 0 < c) (hc : c ≤ 64) (w : World) (hcell : w.cell? ⟨b, o, none⟩ = some (.int .i64 v)) :
    Calls Try.prog 106 #[.slice (some ⟨b, o, none⟩) 1 cap, .int .i64 (c : Int)] w fun e w' => ∃ g, e = .returned (.slice (some ⟨g, 0, none⟩) c c) ∧ w.heap.size ≤ g ∧ Blk w' g 3 (List.replicate c (.int .i64 v)).toArray ∧ Below w.heap.size w w' := by
  have hb := cell_lt hcell
  have hmk := run_make_row' (P := Try.prog) 29 3 (.int .i64 0) 8 Try.underlying29 int_info rfl .i64 .i64 c (by omega) (by omega)
  have e1 : ((0 : Int) < 0) = False := by simp
  go_enter Try.func106, Try.ntmps106
  go_wp2_with (first
    | (go_at_call 133; refine (l_mul1 c hc _).mono ?_; rintro e w' ⟨rfl, rfl⟩)
    | (with_reducible show wpList _ _ _ (⟨some 33, _, _, _, _, _⟩ :: _) _ _
       go_must (refine wpList_copy_splice (o := ⟨some 33, _, _, _, _, _⟩) rfl (.tmp 31) (.tmp 32) 29 29 rfl 3 Try.underlying29 (by kernel_rfl) (some ⟨w.heap.size, 0, none⟩) (some ⟨b, o, none⟩) c c 1 cap rfl rfl w.heap.size 0 (filled (.int .i64 v) (.int .i64 0) 0 c) 3 (made_filled _ _ _ _ _) [.int .i64 v] (Nat.min_eq_left hc0).symm (fun _ => ⟨rfl, _, rfl, new_one _ _ hcell⟩) (by simp [filled]; omega) (by simp [Value.oneCell']) w.heap.size w ((Below.refl _ _).alloc (Nat.le_refl _) _) (Nat.le_refl _) ?_)
       intro w1 hg1 hb1))
  rw [show Go.splice (filled (.int .i64 v) (.int .i64 0) 0 c) 0 [.int .i64 v] = filled (.int .i64 v) (.int .i64 0) 1 (c - 1) from by have := filled_splice (.int .i64 v) (.int .i64 0) 0 c 1 (by omega); simpa using this] at hg1
  go_loopw [8] (fun i wr => ∃ n : Nat, 0 < n ∧ n ≤ c ∧ i = .int .i64 n ∧ Below w.heap.size w wr ∧ Hid (wr.heap[w.heap.size]? = some (.cells (filled (.int .i64 v) (.int .i64 0) n (c - n)).toArray 3 (0, 0)))) (fun i _ => c - (intOf i).toNat)
  case atStart => exact ⟨1, by omega, by omega, rfl, hb1, hg1⟩
  case round =>
    clear hg1 hb1
    obtain ⟨n, hn0, hn, rfl, hb2, hg2⟩ := hrel
    have Hb := Lib.hid hb2; clear hb2
    by_cases hlt : n < c
    · have hne : ¬ c = n := by omega
      have hg4 : Hid (wr.drew.heap[w.heap.size]? = some (.cells (filled (.int .i64 v) (.int .i64 0) n (c - n)).toArray 3 (0, 0))) := hg2
      go_wp2_with fail
      obtain ⟨m, hme, hmn, hmp⟩ : ∃ m, Hid (m = Nat.min n (c - n)) ∧ m ≤ c - n ∧ 0 < m := ⟨_, rfl, Nat.min_le_right _ _, Nat.lt_min.2 ⟨hn0, by omega⟩⟩
      refine wp_plan_any 9 [(0, true), (1, true), (2, true), (3, true), (4, true), (5, true), (6, true), (7, true), (8, true)] (by kernel_rfl) (by kernel_rfl) ?_
      simp only [picked, List.filterMap_cons, List.filterMap_nil, List.getElem?_cons_zero, List.getElem?_cons_succ, Option.map_some, List.drop_succ_cons, List.drop_zero]
      repeat (first | refine wpPlan_skip rfl ?_ | (refine wpPlan_val rfl rfl (fun K hK => ?_); go_big_quiet_op; refine hK _ ?_; clear hK K))
      try refine wpPlan_nil ?_
      refine wpPlan_eff rfl rfl (fun K hK => ?_)
      refine wp_of_step rfl (step_copy_splice rfl (.tmp 41) (.tmp 44) 29 29 rfl 3 Try.underlying29 (by kernel_rfl) (some ⟨w.heap.size, n, none⟩) (some ⟨w.heap.size, 0, none⟩) (c - n) (c - n) n c rfl rfl w.heap.size n (filled (.int .i64 v) (.int .i64 0) n (c - n)) 3 hg2.out (List.replicate m (.int .i64 v)) (by rw [List.length_replicate]; exact hme.out) (fun _ => ⟨rfl, _, rfl, filled_src hg2.out (hme.out ▸ Nat.min_le_left _ _)⟩) (by rw [filled_len, List.length_replicate]; omega) (fun u hu => by rw [List.eq_of_mem_replicate hu]; rfl) w.heap.size w Hb.out.drew (Nat.le_refl _) ?_)
      intro w2 hg3 hb3
      rw [List.length_replicate]
      go_simp
      refine hK _ _ trivial ?_
      clear hK K
      repeat (first | refine wpPlan_skip rfl ?_ | (refine wpPlan_val rfl rfl (fun K hK => ?_); go_big_quiet_op; refine hK _ ?_; clear hK K))
      try refine wpPlan_nil ?_
      rw [filled_splice _ _ _ _ _ hmn] at hg3
      go_wp2_with fail
      go_roundw
      case rel =>
        refine ⟨n + m, by omega, by omega, by go_num, hb3, ?_⟩
        rw [show c - (n + m) = c - n - m by omega]
        exact hg3
      case measure => simp [intOf]; omega
    · obtain rfl : n = c := by omega
      go_wp2_with fail
      go_ret
      refine ⟨w.heap.size, rfl, Nat.le_refl _, ?_, Hb.out⟩
      have := hg2.out
      simpa [filled, Blk] using this
end Go.Proofs.Ythcckenjkicmgaa
end
section
namespace Go.Proofs.Ythcckenjkicmgaa
open Go.RowKit

def one! : List Int → Option Int
  | [v] => some v
  | _ => none
def sh_slices_Repeat_int_int (s : List Int × Int × Unit) : Option (List Int × Unit) := match one! s.1 with
  | some v => bif decide (0 < s.2.1 ∧ s.2.1 ≤ 64) then some (List.replicate s.2.1.toNat v, ()) else none
  | none => none
def e_slices_Repeat_int_int : Entry := ⟨⟨[.c (.one (.b (.sl false .int))), .c (.one (.b (.int .i64)))], []⟩, [.ls .int, .int], ⟨[.c (.one (.own 0))], [.row 3 .int]⟩, [.ls .int], sh_slices_Repeat_int_int⟩
theorem p_slices_Repeat_int_int : GC Try.prog 106 e_slices_Repeat_int_int := by
  intro s r hs ds os hf d h' hr w X β args hX hH hargs _
  obtain ⟨xs, n, _⟩ := s
  change Int at n
  change List Int at xs
  have hs : (match one! xs with | some v => (bif decide (0 < n ∧ n ≤ 64) then some (List.replicate n.toNat v, ()) else none) | none => none) = some r := hs
  split at hs
  case h_2 => cases hs
  rename_i v hv
  obtain rfl : xs = [v] := by
    unfold one! at hv
    split at hv
    · injection hv with hv; subst hv; rfl
    · cases hv
  have hs : (bif decide (0 < n ∧ n ≤ 64) then some (List.replicate n.toNat v, ()) else none) = some r := hs
  cases hd : decide (0 < n ∧ n ≤ 64) with
  | false => rw [hd] at hs; cases hs
  | true =>
  rw [hd] at hs
  injection hs with hs
  subst hs
  have hn : 0 < n ∧ n ≤ 64 := of_decide_eq_true hd
  obtain ⟨c, rfl⟩ : ∃ c : Nat, n = (c : Int) := ⟨n.toNat, by omega⟩
  have hf : some ([PV.im (.sl false .int [v]), PV.im (iI (c : Int))], ([] : List AObj)) = some (ds, os) := hf
  injection hf with hf
  injection hf with hf1 hf2
  subst hf1 hf2
  have hr : some ([PV.own 0], [AObj.row 3 .int (List.replicate (c : Int).toNat v)]) = some ([d], h') := hr
  rw [Int.toNat_natCast] at hr
  injection hr with hr
  injection hr with hr1 hr2
  injection hr1 with hr1
  subst hr1 hr2
  obtain ⟨u, _, rfl, hu, hr⟩ := hargs.cons_inv
  obtain ⟨u2, _, rfl, hu2, hnil⟩ := hr.cons_inv
  obtain rfl := hnil.nil_inv
  obtain rfl : u2 = .int .i64 (c : Int) := im_s hu2
  have hu : Ri w (Liv [] β) X (.sl false .int [v]) u := hu
  cases hu with
  | sl g τ xs A cap b o us hA hcap hl hc hr =>
  have hus : us = [v].map (Value.int .i64) := flt_int_us ⟨hl, hr⟩
  subst hus
  obtain ⟨rfl, hb, _, _⟩ := hA (by simp)
  have hcell := hc 0 (.int .i64 v) rfl
  refine (l_Repeat_int v b o cap c (by omega) (by omega) w hcell).mono ?_
  rintro ex w' ⟨g, rfl, hg, hblk, hbl⟩
  have hgl : g < w'.heap.size := (Array.getElem?_eq_some_iff.1 hblk).1
  have hβ : β = [] := List.length_eq_zero_iff.1 hH.len
  subst hβ
  have hcm : c ≤ maxLen := by unfold maxLen; omega
  have liv : ∀ b', Liv [AObj.row 3 .int (List.replicate c v)] [(g, c)] b' → b' = g := fun b' ⟨k, o, c', h1, h2, h3⟩ => by
    cases k with
    | zero => simp at h3; exact h3.1.symm
    | succ k => simp at h3
  refine ⟨_, [(g, c)], rfl, ⟨hbl.os, hbl.tape, hbl.output, hbl.size, fun i hi _ => hbl.block i hi, fun i hi h => ?_, fun k p h => by simp at h, ⟨Nat.zero_le _, fun k t τ ys hk e => by simp at hk, fun k hk e => by simp at hk⟩⟩, ⟨rfl, fun i h => h, fun i h hx => ?_, fun k o hk => ?_, fun j k o o' b1 c1 c2 hj hk _ _ _ _ => ?_⟩, ?_⟩
  · rw [liv i h] at hi; omega
  · rw [liv i h] at hx; have := hX g hx; omega
  · cases k with
    | succ k => simp at hk
    | zero =>
      simp at hk
      subst hk
      refine ⟨g, c, rfl, fun h => by omega, hcm, fun _ => ⟨(List.replicate c v).map (Value.int .i64), [], by rw [List.append_nil, List.map_replicate]; exact hblk, ?_, fun u hu => ?_, by simp [sz]⟩⟩
      · rw [flt_int]
        refine ⟨by simp, fun i x u hx hu => ?_⟩
        simp only [List.getElem?_map] at hx hu
        obtain ⟨z, hz, rfl⟩ := Option.map_eq_some_iff.1 hx
        rw [hz] at hu
        injection hu with hu
        subst hu
        exact Ri.s _
      · obtain ⟨z, _, rfl⟩ := List.mem_map.1 hu; rfl
  · cases j with
    | succ j => simp at hj
    | zero => cases k with
      | zero => rfl
      | succ k => simp at hk
  · refine ⟨by simp, rfl, ⟨_, _, _, rfl⟩, fun t τ ys e => ?_⟩
    simp at e
    obtain ⟨rfl, e⟩ := e
    obtain ⟨rfl, e⟩ := e
    obtain rfl := eq_of_heq e
    exact ⟨g, c, some ⟨g, 0, none⟩, rfl, by rw [List.length_replicate], fun _ => rfl, fun h => by omega⟩
end Go.Proofs.Ythcckenjkicmgaa
end
section
namespace Go.Proofs.Ythcckenjkicmgaa
open Go.RowKit
set_option maxRecDepth 100000
def sh_impl_within (s : (Int × Int × Int × Unit)) : Option (Bool × Unit) := (bif decide ((s.2.1 ≤ s.1)) then some ((decide ((s.1 ≤ s.2.2.1)), ())) else some ((false, ())))
def sh_spec_l6In (s : (Int × Int × Int × Unit)) : Option (Bool × Unit) := (bif decide ((s.2.1 ≤ s.1)) then some ((decide ((s.1 ≤ s.2.2.1)), ())) else some ((false, ())))
def bo_laws_sameInts_4 (s : (List Int × List Int × Int × Unit)) : Option ((List Int × List Int × Int × Unit) ⊕ ((Unit) ⊕ (Bool × Unit))) := (bif decide ((s.2.2.1 < nI (List.length s.1))) then (bif inR s.2.2.1 (List.length s.1) then (bif inR s.2.2.1 (List.length s.2.1) then (bif (!(decide ((at! .int s.1 (Int.toNat s.2.2.1) = at! .int s.2.1 (Int.toNat s.2.2.1))))) then some (Sum.inr (Sum.inr ((false, ())))) else some (Sum.inl ((s.1, s.2.1, wrap64 ((s.2.2.1 + (1 : Int))), ())))) else none) else none) else some (Sum.inr (Sum.inl (()))))
def sh_laws_sameInts (s : (List Int × List Int × Unit)) : Option (Bool × Unit) := (bif (!(decide ((nI (List.length s.1) = nI (List.length s.2.1))))) then some ((false, ())) else (lp bo_laws_sameInts_4 fuel ((s.1, (s.2.1, ((0 : Int), ()))))).bind fun r0 => (match r0 with | .inl _ => some ((true, ())) | .inr y1 => some ((y1.1, ()))))
def bo_spec_l1Link_2 (s : (Int × Int × Int × Int × List Lk × Unit)) : Option ((Int × Int × Int × Int × List Lk × Unit) ⊕ ((Unit) ⊕ (Int × Unit))) := (bif decide ((s.2.2.1 < nI (List.length s.2.2.2.2.1))) then (bif inR s.2.2.1 (List.length s.2.2.2.2.1) then (bif decide (((at! .lk s.2.2.2.2.1 (Int.toNat s.2.2.1)).a = min s.1 s.2.1)) then (bif inR s.2.2.1 (List.length s.2.2.2.2.1) then (bif decide (((at! .lk s.2.2.2.2.1 (Int.toNat s.2.2.1)).b = max s.1 s.2.1)) then some (Sum.inr (Sum.inr ((s.2.2.1, ())))) else some (Sum.inl ((s.1, s.2.1, wrap64 ((s.2.2.1 + (1 : Int))), s.2.2.2.1, s.2.2.2.2.1, ())))) else none) else some (Sum.inl ((s.1, s.2.1, wrap64 ((s.2.2.1 + (1 : Int))), s.2.2.2.1, s.2.2.2.2.1, ())))) else none) else some (Sum.inr (Sum.inl (()))))
def sh_spec_l1Link (s : (Int × List Lk × Int × Int × Unit)) : Option (Int × Unit) := (lp bo_spec_l1Link_2 fuel ((s.2.2.1, (s.2.2.2.1, ((0 : Int), (s.1, (s.2.1, ()))))))).bind fun r0 => (match r0 with | .inl _ => some (((-((1 : Int))), ())) | .inr y1 => some ((y1.1, ())))
def sh_impl_Link_other (s : (Int × Int × Int × Int × Unit)) : Option (Int × Bool × Unit) := (bif decide ((s.2.2.2.1 = s.1)) then some ((s.2.1, true, ())) else (bif decide ((s.2.2.2.1 = s.2.1)) then some ((s.1, true, ())) else some (((0 : Int), false, ()))))
def bo_impl_GraphValid_4 (s : (List Lk × Int × Int × Int × List Lk × Unit)) : Option ((List Lk × Int × Int × Int × List Lk × Unit) ⊕ ((Unit) ⊕ (Bool × Unit))) := (bif decide ((s.2.2.1 < s.2.1)) then (bif inR s.2.2.1 (List.length s.1) then (bif decide (((at! .lk s.1 (Int.toNat s.2.2.1)).a < (0 : Int))) then some (Sum.inr (Sum.inr ((false, ())))) else (bif decide (((at! .lk s.1 (Int.toNat s.2.2.1)).b ≤ (at! .lk s.1 (Int.toNat s.2.2.1)).a)) then some (Sum.inr (Sum.inr ((false, ())))) else (bif decide ((s.2.2.2.1 ≤ (at! .lk s.1 (Int.toNat s.2.2.1)).b)) then some (Sum.inr (Sum.inr ((false, ())))) else (sh_impl_within (((at! .lk s.1 (Int.toNat s.2.2.1)).c, ((1 : Int), ((20 : Int), ()))))).bind fun r0 => (bif (!r0.1) then some (Sum.inr (Sum.inr ((false, ())))) else (bif decide (((0 : Int) < s.2.2.1)) then (bif inR (wrap64 ((s.2.2.1 - (1 : Int)))) (List.length s.2.2.2.2.1) then (bif decide (((at! .lk s.1 (Int.toNat s.2.2.1)).a < (at! .lk s.2.2.2.2.1 (Int.toNat (wrap64 ((s.2.2.1 - (1 : Int)))))).a)) then some (Sum.inr (Sum.inr ((false, ())))) else (bif inR (wrap64 ((s.2.2.1 - (1 : Int)))) (List.length s.2.2.2.2.1) then (bif decide (((at! .lk s.2.2.2.2.1 (Int.toNat (wrap64 ((s.2.2.1 - (1 : Int)))))).a = (at! .lk s.1 (Int.toNat s.2.2.1)).a)) then (bif inR (wrap64 ((s.2.2.1 - (1 : Int)))) (List.length s.2.2.2.2.1) then (bif decide (((at! .lk s.1 (Int.toNat s.2.2.1)).b ≤ (at! .lk s.2.2.2.2.1 (Int.toNat (wrap64 ((s.2.2.1 - (1 : Int)))))).b)) then some (Sum.inr (Sum.inr ((false, ())))) else some (Sum.inl ((s.1, s.2.1, wrap64 ((s.2.2.1 + (1 : Int))), s.2.2.2.1, s.2.2.2.2.1, ())))) else none) else some (Sum.inl ((s.1, s.2.1, wrap64 ((s.2.2.1 + (1 : Int))), s.2.2.2.1, s.2.2.2.2.1, ())))) else none)) else none) else some (Sum.inl ((s.1, s.2.1, wrap64 ((s.2.2.1 + (1 : Int))), s.2.2.2.1, s.2.2.2.2.1, ())))))))) else none) else some (Sum.inr (Sum.inl (()))))
def sh_impl_GraphValid (s : (Int × List Lk × Unit)) : Option (Bool × Unit) := (sh_impl_within ((s.1, ((1 : Int), ((8 : Int), ()))))).bind fun r0 => (bif (!r0.1) then some ((false, ())) else (bif decide (((14 : Int) < nI (List.length s.2.1))) then some ((false, ())) else (lp bo_impl_GraphValid_4 fuel ((s.2.1, (nI (List.length s.2.1), ((0 : Int), (s.1, (s.2.1, ()))))))).bind fun r1 => (match r1 with | .inl _ => some ((true, ())) | .inr y2 => some ((y2.1, ())))))
def bo_spec_GraphValid_2 (s : (Int × Int × List Lk × Unit)) : Option ((Int × Int × List Lk × Unit) ⊕ ((Int × List Lk × Unit) ⊕ (Bool × Unit))) := (bif decide ((s.1 < nI (List.length s.2.2.1))) then (bif inR s.1 (List.length s.2.2.1) then (sh_spec_l6In (((at! .lk s.2.2.1 (Int.toNat s.1)).a, ((0 : Int), (wrap64 ((s.2.1 - (1 : Int))), ()))))).bind fun r0 => (bif (!r0.1) then some (Sum.inr (Sum.inr ((false, ())))) else (sh_spec_l6In (((at! .lk s.2.2.1 (Int.toNat s.1)).b, (wrap64 (((at! .lk s.2.2.1 (Int.toNat s.1)).a + (1 : Int))), (wrap64 ((s.2.1 - (1 : Int))), ()))))).bind fun r1 => (bif (!r1.1) then some (Sum.inr (Sum.inr ((false, ())))) else (sh_spec_l6In (((at! .lk s.2.2.1 (Int.toNat s.1)).c, ((1 : Int), ((20 : Int), ()))))).bind fun r2 => (bif (!r2.1) then some (Sum.inr (Sum.inr ((false, ())))) else (bif decide (((0 : Int) < s.1)) then (bif inR (wrap64 ((s.1 - (1 : Int)))) (List.length s.2.2.1) then (bif decide (((at! .lk s.2.2.1 (Int.toNat s.1)).a < (at! .lk s.2.2.1 (Int.toNat (wrap64 ((s.1 - (1 : Int)))))).a)) then some (Sum.inr (Sum.inr ((false, ())))) else (bif inR (wrap64 ((s.1 - (1 : Int)))) (List.length s.2.2.1) then (bif decide (((at! .lk s.2.2.1 (Int.toNat (wrap64 ((s.1 - (1 : Int)))))).a = (at! .lk s.2.2.1 (Int.toNat s.1)).a)) then (bif inR (wrap64 ((s.1 - (1 : Int)))) (List.length s.2.2.1) then (bif decide (((at! .lk s.2.2.1 (Int.toNat s.1)).b ≤ (at! .lk s.2.2.1 (Int.toNat (wrap64 ((s.1 - (1 : Int)))))).b)) then some (Sum.inr (Sum.inr ((false, ())))) else some (Sum.inl ((wrap64 ((s.1 + (1 : Int))), s.2.1, s.2.2.1, ())))) else none) else some (Sum.inl ((wrap64 ((s.1 + (1 : Int))), s.2.1, s.2.2.1, ())))) else none)) else none) else some (Sum.inl ((wrap64 ((s.1 + (1 : Int))), s.2.1, s.2.2.1, ()))))))) else none) else some (Sum.inr (Sum.inl ((s.2.1, s.2.2.1, ())))))
def sh_spec_GraphValid (s : (Int × List Lk × Unit)) : Option (Bool × Unit) := (lp bo_spec_GraphValid_2 fuel (((0 : Int), (s.1, (s.2.1, ()))))).bind fun r0 => (match r0 with | .inl x1 => (sh_spec_l6In ((x1.1, ((1 : Int), ((8 : Int), ()))))).bind fun r2 => (bif r2.1 then some ((decide ((nI (List.length x1.2.1) ≤ (14 : Int))), ())) else some ((false, ()))) | .inr y1 => some ((y1.1, ())))
def sh_impl_Graph_hasNode (s : (Int × List Lk × Int × Unit)) : Option (Bool × Unit) := (sh_impl_GraphValid ((s.1, (s.2.1, ())))).bind fun r0 => (bif r0.1 then (sh_impl_within ((s.2.2.1, ((0 : Int), (wrap64 ((s.1 - (1 : Int))), ()))))).bind fun r1 => some ((r1.1, ())) else some ((false, ())))
def bo_impl_Graph_neighbours_3 (s : (Int × List Lk × Int × Int × List Int × Unit)) : Option ((Int × List Lk × Int × Int × List Int × Unit) ⊕ ((List Int × Unit) ⊕ Unit)) := (bif decide ((s.2.2.2.1 < s.2.2.1)) then (bif inR s.2.2.2.1 (List.length s.2.1) then (sh_impl_Link_other (((at! .lk s.2.1 (Int.toNat s.2.2.2.1)).a, ((at! .lk s.2.1 (Int.toNat s.2.2.2.1)).b, ((at! .lk s.2.1 (Int.toNat s.2.2.2.1)).c, (s.1, ())))))).bind fun r0 => (bif r0.2.1 then (bif decide (((List.length s.2.2.2.2.1 + List.length ([r0.1])) ≤ (33554432 : Nat))) then some (Sum.inl ((s.1, s.2.1, s.2.2.1, wrap64 ((s.2.2.2.1 + (1 : Int))), (s.2.2.2.2.1 ++ [r0.1]), ()))) else none) else some (Sum.inl ((s.1, s.2.1, s.2.2.1, wrap64 ((s.2.2.2.1 + (1 : Int))), s.2.2.2.2.1, ())))) else none) else some (Sum.inr (Sum.inl ((s.2.2.2.2.1, ())))))
def sh_impl_Graph_neighbours (s : (Int × List Lk × Int × Unit)) : Option (List Int × Unit) := (lp bo_impl_Graph_neighbours_3 fuel ((s.2.2.1, (s.2.1, (nI (List.length s.2.1), ((0 : Int), (([] : List Int), ()))))))).bind fun r0 => (match r0 with | .inl x1 => (sh_slices_Sort_int_int ((x1.1, ()))).bind fun r2 => some ((r2.1, ())) | .inr _ => none)
def bo_spec_GraphNeighbours_3 (s : (Int × Int × Int × List Lk × List Int × Unit)) : Option ((Int × Int × Int × List Lk × List Int × Unit) ⊕ ((List Int × Unit) ⊕ Unit)) := (bif decide ((s.2.1 < (8 : Int))) then (sh_spec_GraphValid ((s.2.2.1, (s.2.2.2.1, ())))).bind fun r0 => (bif r0.1 then (sh_spec_l1Link ((s.2.2.1, (s.2.2.2.1, (s.1, (s.2.1, ())))))).bind fun r1 => (bif decide (((0 : Int) ≤ r1.1)) then (bif decide (((List.length s.2.2.2.2.1 + List.length ([s.2.1])) ≤ (33554432 : Nat))) then some (Sum.inl ((s.1, wrap64 ((s.2.1 + (1 : Int))), s.2.2.1, s.2.2.2.1, (s.2.2.2.2.1 ++ [s.2.1]), ()))) else none) else some (Sum.inl ((s.1, wrap64 ((s.2.1 + (1 : Int))), s.2.2.1, s.2.2.2.1, s.2.2.2.2.1, ())))) else some (Sum.inr (Sum.inl ((s.2.2.2.2.1, ()))))) else some (Sum.inr (Sum.inl ((s.2.2.2.2.1, ())))))
def sh_spec_GraphNeighbours (s : (Int × List Lk × Int × Unit)) : Option (List Int × Unit) := (lp bo_spec_GraphNeighbours_3 fuel ((s.2.2.1, ((0 : Int), (s.1, (s.2.1, (([] : List Int), ()))))))).bind fun r0 => (match r0 with | .inl x1 => some ((x1.1, ())) | .inr _ => none)
def sh_impl_Graph_linkOf_1 (s : (Int × Int × Int × Int × Int × Unit)) : Option (Bool × Unit) := (bif decide ((s.1 = min s.2.2.2.1 s.2.2.2.2.1)) then some ((decide ((s.2.1 = max s.2.2.2.1 s.2.2.2.2.1)), ())) else some ((false, ())))
def bo_impl_Graph_distances_6 (s : (Int × Int × List Lk × Int × Int × Int × List Lk × List Int × Unit)) : Option ((Int × Int × List Lk × Int × Int × Int × List Lk × List Int × Unit) ⊕ ((Int × Int × Int × List Lk × List Int × Unit) ⊕ Unit)) := (bif decide ((s.2.2.2.2.1 < s.2.2.2.1)) then (bif inR s.2.2.2.2.1 (List.length s.2.2.1) then (bif inR ((at! .lk s.2.2.1 (Int.toNat s.2.2.2.2.1)).a) (List.length s.2.2.2.2.2.2.2.1) then (bif decide (((0 : Int) ≤ at! .int s.2.2.2.2.2.2.2.1 (Int.toNat ((at! .lk s.2.2.1 (Int.toNat s.2.2.2.2.1)).a)))) then (bif inR ((at! .lk s.2.2.1 (Int.toNat s.2.2.2.2.1)).b) (List.length s.2.2.2.2.2.2.2.1) then (bif decide ((at! .int s.2.2.2.2.2.2.2.1 (Int.toNat ((at! .lk s.2.2.1 (Int.toNat s.2.2.2.2.1)).b)) < (0 : Int))) then (bif inR ((at! .lk s.2.2.1 (Int.toNat s.2.2.2.2.1)).a) (List.length s.2.2.2.2.2.2.2.1) then (bif inR ((at! .lk s.2.2.1 (Int.toNat s.2.2.2.2.1)).b) (List.length s.2.2.2.2.2.2.2.1) then (bif inR ((at! .lk s.2.2.1 (Int.toNat s.2.2.2.2.1)).b) (List.length (List.set s.2.2.2.2.2.2.2.1 (Int.toNat ((at! .lk s.2.2.1 (Int.toNat s.2.2.2.2.1)).b)) (wrap64 ((at! .int s.2.2.2.2.2.2.2.1 (Int.toNat ((at! .lk s.2.2.1 (Int.toNat s.2.2.2.2.1)).a)) + (at! .lk s.2.2.1 (Int.toNat s.2.2.2.2.1)).c))))) then (bif decide (((0 : Int) ≤ at! .int (List.set s.2.2.2.2.2.2.2.1 (Int.toNat ((at! .lk s.2.2.1 (Int.toNat s.2.2.2.2.1)).b)) (wrap64 ((at! .int s.2.2.2.2.2.2.2.1 (Int.toNat ((at! .lk s.2.2.1 (Int.toNat s.2.2.2.2.1)).a)) + (at! .lk s.2.2.1 (Int.toNat s.2.2.2.2.1)).c)))) (Int.toNat ((at! .lk s.2.2.1 (Int.toNat s.2.2.2.2.1)).b)))) then (bif inR ((at! .lk s.2.2.1 (Int.toNat s.2.2.2.2.1)).a) (List.length (List.set s.2.2.2.2.2.2.2.1 (Int.toNat ((at! .lk s.2.2.1 (Int.toNat s.2.2.2.2.1)).b)) (wrap64 ((at! .int s.2.2.2.2.2.2.2.1 (Int.toNat ((at! .lk s.2.2.1 (Int.toNat s.2.2.2.2.1)).a)) + (at! .lk s.2.2.1 (Int.toNat s.2.2.2.2.1)).c))))) then (bif decide ((at! .int (List.set s.2.2.2.2.2.2.2.1 (Int.toNat ((at! .lk s.2.2.1 (Int.toNat s.2.2.2.2.1)).b)) (wrap64 ((at! .int s.2.2.2.2.2.2.2.1 (Int.toNat ((at! .lk s.2.2.1 (Int.toNat s.2.2.2.2.1)).a)) + (at! .lk s.2.2.1 (Int.toNat s.2.2.2.2.1)).c)))) (Int.toNat ((at! .lk s.2.2.1 (Int.toNat s.2.2.2.2.1)).a)) < (0 : Int))) then (bif inR ((at! .lk s.2.2.1 (Int.toNat s.2.2.2.2.1)).b) (List.length (List.set s.2.2.2.2.2.2.2.1 (Int.toNat ((at! .lk s.2.2.1 (Int.toNat s.2.2.2.2.1)).b)) (wrap64 ((at! .int s.2.2.2.2.2.2.2.1 (Int.toNat ((at! .lk s.2.2.1 (Int.toNat s.2.2.2.2.1)).a)) + (at! .lk s.2.2.1 (Int.toNat s.2.2.2.2.1)).c))))) then (bif inR ((at! .lk s.2.2.1 (Int.toNat s.2.2.2.2.1)).a) (List.length (List.set s.2.2.2.2.2.2.2.1 (Int.toNat ((at! .lk s.2.2.1 (Int.toNat s.2.2.2.2.1)).b)) (wrap64 ((at! .int s.2.2.2.2.2.2.2.1 (Int.toNat ((at! .lk s.2.2.1 (Int.toNat s.2.2.2.2.1)).a)) + (at! .lk s.2.2.1 (Int.toNat s.2.2.2.2.1)).c))))) then some (Sum.inl ((s.1, s.2.1, s.2.2.1, s.2.2.2.1, wrap64 ((s.2.2.2.2.1 + (1 : Int))), s.2.2.2.2.2.1, s.2.2.2.2.2.2.1, List.set (List.set s.2.2.2.2.2.2.2.1 (Int.toNat ((at! .lk s.2.2.1 (Int.toNat s.2.2.2.2.1)).b)) (wrap64 ((at! .int s.2.2.2.2.2.2.2.1 (Int.toNat ((at! .lk s.2.2.1 (Int.toNat s.2.2.2.2.1)).a)) + (at! .lk s.2.2.1 (Int.toNat s.2.2.2.2.1)).c)))) (Int.toNat ((at! .lk s.2.2.1 (Int.toNat s.2.2.2.2.1)).a)) (wrap64 ((at! .int (List.set s.2.2.2.2.2.2.2.1 (Int.toNat ((at! .lk s.2.2.1 (Int.toNat s.2.2.2.2.1)).b)) (wrap64 ((at! .int s.2.2.2.2.2.2.2.1 (Int.toNat ((at! .lk s.2.2.1 (Int.toNat s.2.2.2.2.1)).a)) + (at! .lk s.2.2.1 (Int.toNat s.2.2.2.2.1)).c)))) (Int.toNat ((at! .lk s.2.2.1 (Int.toNat s.2.2.2.2.1)).b)) + (at! .lk s.2.2.1 (Int.toNat s.2.2.2.2.1)).c))), ()))) else none) else none) else (bif inR ((at! .lk s.2.2.1 (Int.toNat s.2.2.2.2.1)).b) (List.length (List.set s.2.2.2.2.2.2.2.1 (Int.toNat ((at! .lk s.2.2.1 (Int.toNat s.2.2.2.2.1)).b)) (wrap64 ((at! .int s.2.2.2.2.2.2.2.1 (Int.toNat ((at! .lk s.2.2.1 (Int.toNat s.2.2.2.2.1)).a)) + (at! .lk s.2.2.1 (Int.toNat s.2.2.2.2.1)).c))))) then (bif inR ((at! .lk s.2.2.1 (Int.toNat s.2.2.2.2.1)).a) (List.length (List.set s.2.2.2.2.2.2.2.1 (Int.toNat ((at! .lk s.2.2.1 (Int.toNat s.2.2.2.2.1)).b)) (wrap64 ((at! .int s.2.2.2.2.2.2.2.1 (Int.toNat ((at! .lk s.2.2.1 (Int.toNat s.2.2.2.2.1)).a)) + (at! .lk s.2.2.1 (Int.toNat s.2.2.2.2.1)).c))))) then (bif decide ((wrap64 ((at! .int (List.set s.2.2.2.2.2.2.2.1 (Int.toNat ((at! .lk s.2.2.1 (Int.toNat s.2.2.2.2.1)).b)) (wrap64 ((at! .int s.2.2.2.2.2.2.2.1 (Int.toNat ((at! .lk s.2.2.1 (Int.toNat s.2.2.2.2.1)).a)) + (at! .lk s.2.2.1 (Int.toNat s.2.2.2.2.1)).c)))) (Int.toNat ((at! .lk s.2.2.1 (Int.toNat s.2.2.2.2.1)).b)) + (at! .lk s.2.2.1 (Int.toNat s.2.2.2.2.1)).c)) < at! .int (List.set s.2.2.2.2.2.2.2.1 (Int.toNat ((at! .lk s.2.2.1 (Int.toNat s.2.2.2.2.1)).b)) (wrap64 ((at! .int s.2.2.2.2.2.2.2.1 (Int.toNat ((at! .lk s.2.2.1 (Int.toNat s.2.2.2.2.1)).a)) + (at! .lk s.2.2.1 (Int.toNat s.2.2.2.2.1)).c)))) (Int.toNat ((at! .lk s.2.2.1 (Int.toNat s.2.2.2.2.1)).a)))) then (bif inR ((at! .lk s.2.2.1 (Int.toNat s.2.2.2.2.1)).b) (List.length (List.set s.2.2.2.2.2.2.2.1 (Int.toNat ((at! .lk s.2.2.1 (Int.toNat s.2.2.2.2.1)).b)) (wrap64 ((at! .int s.2.2.2.2.2.2.2.1 (Int.toNat ((at! .lk s.2.2.1 (Int.toNat s.2.2.2.2.1)).a)) + (at! .lk s.2.2.1 (Int.toNat s.2.2.2.2.1)).c))))) then (bif inR ((at! .lk s.2.2.1 (Int.toNat s.2.2.2.2.1)).a) (List.length (List.set s.2.2.2.2.2.2.2.1 (Int.toNat ((at! .lk s.2.2.1 (Int.toNat s.2.2.2.2.1)).b)) (wrap64 ((at! .int s.2.2.2.2.2.2.2.1 (Int.toNat ((at! .lk s.2.2.1 (Int.toNat s.2.2.2.2.1)).a)) + (at! .lk s.2.2.1 (Int.toNat s.2.2.2.2.1)).c))))) then some (Sum.inl ((s.1, s.2.1, s.2.2.1, s.2.2.2.1, wrap64 ((s.2.2.2.2.1 + (1 : Int))), s.2.2.2.2.2.1, s.2.2.2.2.2.2.1, List.set (List.set s.2.2.2.2.2.2.2.1 (Int.toNat ((at! .lk s.2.2.1 (Int.toNat s.2.2.2.2.1)).b)) (wrap64 ((at! .int s.2.2.2.2.2.2.2.1 (Int.toNat ((at! .lk s.2.2.1 (Int.toNat s.2.2.2.2.1)).a)) + (at! .lk s.2.2.1 (Int.toNat s.2.2.2.2.1)).c)))) (Int.toNat ((at! .lk s.2.2.1 (Int.toNat s.2.2.2.2.1)).a)) (wrap64 ((at! .int (List.set s.2.2.2.2.2.2.2.1 (Int.toNat ((at! .lk s.2.2.1 (Int.toNat s.2.2.2.2.1)).b)) (wrap64 ((at! .int s.2.2.2.2.2.2.2.1 (Int.toNat ((at! .lk s.2.2.1 (Int.toNat s.2.2.2.2.1)).a)) + (at! .lk s.2.2.1 (Int.toNat s.2.2.2.2.1)).c)))) (Int.toNat ((at! .lk s.2.2.1 (Int.toNat s.2.2.2.2.1)).b)) + (at! .lk s.2.2.1 (Int.toNat s.2.2.2.2.1)).c))), ()))) else none) else none) else some (Sum.inl ((s.1, s.2.1, s.2.2.1, s.2.2.2.1, wrap64 ((s.2.2.2.2.1 + (1 : Int))), s.2.2.2.2.2.1, s.2.2.2.2.2.2.1, List.set s.2.2.2.2.2.2.2.1 (Int.toNat ((at! .lk s.2.2.1 (Int.toNat s.2.2.2.2.1)).b)) (wrap64 ((at! .int s.2.2.2.2.2.2.2.1 (Int.toNat ((at! .lk s.2.2.1 (Int.toNat s.2.2.2.2.1)).a)) + (at! .lk s.2.2.1 (Int.toNat s.2.2.2.2.1)).c))), ())))) else none) else none)) else none) else some (Sum.inl ((s.1, s.2.1, s.2.2.1, s.2.2.2.1, wrap64 ((s.2.2.2.2.1 + (1 : Int))), s.2.2.2.2.2.1, s.2.2.2.2.2.2.1, List.set s.2.2.2.2.2.2.2.1 (Int.toNat ((at! .lk s.2.2.1 (Int.toNat s.2.2.2.2.1)).b)) (wrap64 ((at! .int s.2.2.2.2.2.2.2.1 (Int.toNat ((at! .lk s.2.2.1 (Int.toNat s.2.2.2.2.1)).a)) + (at! .lk s.2.2.1 (Int.toNat s.2.2.2.2.1)).c))), ())))) else none) else none) else none) else (bif inR ((at! .lk s.2.2.1 (Int.toNat s.2.2.2.2.1)).a) (List.length s.2.2.2.2.2.2.2.1) then (bif inR ((at! .lk s.2.2.1 (Int.toNat s.2.2.2.2.1)).b) (List.length s.2.2.2.2.2.2.2.1) then (bif decide ((wrap64 ((at! .int s.2.2.2.2.2.2.2.1 (Int.toNat ((at! .lk s.2.2.1 (Int.toNat s.2.2.2.2.1)).a)) + (at! .lk s.2.2.1 (Int.toNat s.2.2.2.2.1)).c)) < at! .int s.2.2.2.2.2.2.2.1 (Int.toNat ((at! .lk s.2.2.1 (Int.toNat s.2.2.2.2.1)).b)))) then (bif inR ((at! .lk s.2.2.1 (Int.toNat s.2.2.2.2.1)).a) (List.length s.2.2.2.2.2.2.2.1) then (bif inR ((at! .lk s.2.2.1 (Int.toNat s.2.2.2.2.1)).b) (List.length s.2.2.2.2.2.2.2.1) then (bif inR ((at! .lk s.2.2.1 (Int.toNat s.2.2.2.2.1)).b) (List.length (List.set s.2.2.2.2.2.2.2.1 (Int.toNat ((at! .lk s.2.2.1 (Int.toNat s.2.2.2.2.1)).b)) (wrap64 ((at! .int s.2.2.2.2.2.2.2.1 (Int.toNat ((at! .lk s.2.2.1 (Int.toNat s.2.2.2.2.1)).a)) + (at! .lk s.2.2.1 (Int.toNat s.2.2.2.2.1)).c))))) then (bif decide (((0 : Int) ≤ at! .int (List.set s.2.2.2.2.2.2.2.1 (Int.toNat ((at! .lk s.2.2.1 (Int.toNat s.2.2.2.2.1)).b)) (wrap64 ((at! .int s.2.2.2.2.2.2.2.1 (Int.toNat ((at! .lk s.2.2.1 (Int.toNat s.2.2.2.2.1)).a)) + (at! .lk s.2.2.1 (Int.toNat s.2.2.2.2.1)).c)))) (Int.toNat ((at! .lk s.2.2.1 (Int.toNat s.2.2.2.2.1)).b)))) then (bif inR ((at! .lk s.2.2.1 (Int.toNat s.2.2.2.2.1)).a) (List.length (List.set s.2.2.2.2.2.2.2.1 (Int.toNat ((at! .lk s.2.2.1 (Int.toNat s.2.2.2.2.1)).b)) (wrap64 ((at! .int s.2.2.2.2.2.2.2.1 (Int.toNat ((at! .lk s.2.2.1 (Int.toNat s.2.2.2.2.1)).a)) + (at! .lk s.2.2.1 (Int.toNat s.2.2.2.2.1)).c))))) then (bif decide ((at! .int (List.set s.2.2.2.2.2.2.2.1 (Int.toNat ((at! .lk s.2.2.1 (Int.toNat s.2.2.2.2.1)).b)) (wrap64 ((at! .int s.2.2.2.2.2.2.2.1 (Int.toNat ((at! .lk s.2.2.1 (Int.toNat s.2.2.2.2.1)).a)) + (at! .lk s.2.2.1 (Int.toNat s.2.2.2.2.1)).c)))) (Int.toNat ((at! .lk s.2.2.1 (Int.toNat s.2.2.2.2.1)).a)) < (0 : Int))) then (bif inR ((at! .lk s.2.2.1 (Int.toNat s.2.2.2.2.1)).b) (List.length (List.set s.2.2.2.2.2.2.2.1 (Int.toNat ((at! .lk s.2.2.1 (Int.toNat s.2.2.2.2.1)).b)) (wrap64 ((at! .int s.2.2.2.2.2.2.2.1 (Int.toNat ((at! .lk s.2.2.1 (Int.toNat s.2.2.2.2.1)).a)) + (at! .lk s.2.2.1 (Int.toNat s.2.2.2.2.1)).c))))) then (bif inR ((at! .lk s.2.2.1 (Int.toNat s.2.2.2.2.1)).a) (List.length (List.set s.2.2.2.2.2.2.2.1 (Int.toNat ((at! .lk s.2.2.1 (Int.toNat s.2.2.2.2.1)).b)) (wrap64 ((at! .int s.2.2.2.2.2.2.2.1 (Int.toNat ((at! .lk s.2.2.1 (Int.toNat s.2.2.2.2.1)).a)) + (at! .lk s.2.2.1 (Int.toNat s.2.2.2.2.1)).c))))) then some (Sum.inl ((s.1, s.2.1, s.2.2.1, s.2.2.2.1, wrap64 ((s.2.2.2.2.1 + (1 : Int))), s.2.2.2.2.2.1, s.2.2.2.2.2.2.1, List.set (List.set s.2.2.2.2.2.2.2.1 (Int.toNat ((at! .lk s.2.2.1 (Int.toNat s.2.2.2.2.1)).b)) (wrap64 ((at! .int s.2.2.2.2.2.2.2.1 (Int.toNat ((at! .lk s.2.2.1 (Int.toNat s.2.2.2.2.1)).a)) + (at! .lk s.2.2.1 (Int.toNat s.2.2.2.2.1)).c)))) (Int.toNat ((at! .lk s.2.2.1 (Int.toNat s.2.2.2.2.1)).a)) (wrap64 ((at! .int (List.set s.2.2.2.2.2.2.2.1 (Int.toNat ((at! .lk s.2.2.1 (Int.toNat s.2.2.2.2.1)).b)) (wrap64 ((at! .int s.2.2.2.2.2.2.2.1 (Int.toNat ((at! .lk s.2.2.1 (Int.toNat s.2.2.2.2.1)).a)) + (at! .lk s.2.2.1 (Int.toNat s.2.2.2.2.1)).c)))) (Int.toNat ((at! .lk s.2.2.1 (Int.toNat s.2.2.2.2.1)).b)) + (at! .lk s.2.2.1 (Int.toNat s.2.2.2.2.1)).c))), ()))) else none) else none) else (bif inR ((at! .lk s.2.2.1 (Int.toNat s.2.2.2.2.1)).b) (List.length (List.set s.2.2.2.2.2.2.2.1 (Int.toNat ((at! .lk s.2.2.1 (Int.toNat s.2.2.2.2.1)).b)) (wrap64 ((at! .int s.2.2.2.2.2.2.2.1 (Int.toNat ((at! .lk s.2.2.1 (Int.toNat s.2.2.2.2.1)).a)) + (at! .lk s.2.2.1 (Int.toNat s.2.2.2.2.1)).c))))) then (bif inR ((at! .lk s.2.2.1 (Int.toNat s.2.2.2.2.1)).a) (List.length (List.set s.2.2.2.2.2.2.2.1 (Int.toNat ((at! .lk s.2.2.1 (Int.toNat s.2.2.2.2.1)).b)) (wrap64 ((at! .int s.2.2.2.2.2.2.2.1 (Int.toNat ((at! .lk s.2.2.1 (Int.toNat s.2.2.2.2.1)).a)) + (at! .lk s.2.2.1 (Int.toNat s.2.2.2.2.1)).c))))) then (bif decide ((wrap64 ((at! .int (List.set s.2.2.2.2.2.2.2.1 (Int.toNat ((at! .lk s.2.2.1 (Int.toNat s.2.2.2.2.1)).b)) (wrap64 ((at! .int s.2.2.2.2.2.2.2.1 (Int.toNat ((at! .lk s.2.2.1 (Int.toNat s.2.2.2.2.1)).a)) + (at! .lk s.2.2.1 (Int.toNat s.2.2.2.2.1)).c)))) (Int.toNat ((at! .lk s.2.2.1 (Int.toNat s.2.2.2.2.1)).b)) + (at! .lk s.2.2.1 (Int.toNat s.2.2.2.2.1)).c)) < at! .int (List.set s.2.2.2.2.2.2.2.1 (Int.toNat ((at! .lk s.2.2.1 (Int.toNat s.2.2.2.2.1)).b)) (wrap64 ((at! .int s.2.2.2.2.2.2.2.1 (Int.toNat ((at! .lk s.2.2.1 (Int.toNat s.2.2.2.2.1)).a)) + (at! .lk s.2.2.1 (Int.toNat s.2.2.2.2.1)).c)))) (Int.toNat ((at! .lk s.2.2.1 (Int.toNat s.2.2.2.2.1)).a)))) then (bif inR ((at! .lk s.2.2.1 (Int.toNat s.2.2.2.2.1)).b) (List.length (List.set s.2.2.2.2.2.2.2.1 (Int.toNat ((at! .lk s.2.2.1 (Int.toNat s.2.2.2.2.1)).b)) (wrap64 ((at! .int s.2.2.2.2.2.2.2.1 (Int.toNat ((at! .lk s.2.2.1 (Int.toNat s.2.2.2.2.1)).a)) + (at! .lk s.2.2.1 (Int.toNat s.2.2.2.2.1)).c))))) then (bif inR ((at! .lk s.2.2.1 (Int.toNat s.2.2.2.2.1)).a) (List.length (List.set s.2.2.2.2.2.2.2.1 (Int.toNat ((at! .lk s.2.2.1 (Int.toNat s.2.2.2.2.1)).b)) (wrap64 ((at! .int s.2.2.2.2.2.2.2.1 (Int.toNat ((at! .lk s.2.2.1 (Int.toNat s.2.2.2.2.1)).a)) + (at! .lk s.2.2.1 (Int.toNat s.2.2.2.2.1)).c))))) then some (Sum.inl ((s.1, s.2.1, s.2.2.1, s.2.2.2.1, wrap64 ((s.2.2.2.2.1 + (1 : Int))), s.2.2.2.2.2.1, s.2.2.2.2.2.2.1, List.set (List.set s.2.2.2.2.2.2.2.1 (Int.toNat ((at! .lk s.2.2.1 (Int.toNat s.2.2.2.2.1)).b)) (wrap64 ((at! .int s.2.2.2.2.2.2.2.1 (Int.toNat ((at! .lk s.2.2.1 (Int.toNat s.2.2.2.2.1)).a)) + (at! .lk s.2.2.1 (Int.toNat s.2.2.2.2.1)).c)))) (Int.toNat ((at! .lk s.2.2.1 (Int.toNat s.2.2.2.2.1)).a)) (wrap64 ((at! .int (List.set s.2.2.2.2.2.2.2.1 (Int.toNat ((at! .lk s.2.2.1 (Int.toNat s.2.2.2.2.1)).b)) (wrap64 ((at! .int s.2.2.2.2.2.2.2.1 (Int.toNat ((at! .lk s.2.2.1 (Int.toNat s.2.2.2.2.1)).a)) + (at! .lk s.2.2.1 (Int.toNat s.2.2.2.2.1)).c)))) (Int.toNat ((at! .lk s.2.2.1 (Int.toNat s.2.2.2.2.1)).b)) + (at! .lk s.2.2.1 (Int.toNat s.2.2.2.2.1)).c))), ()))) else none) else none) else some (Sum.inl ((s.1, s.2.1, s.2.2.1, s.2.2.2.1, wrap64 ((s.2.2.2.2.1 + (1 : Int))), s.2.2.2.2.2.1, s.2.2.2.2.2.2.1, List.set s.2.2.2.2.2.2.2.1 (Int.toNat ((at! .lk s.2.2.1 (Int.toNat s.2.2.2.2.1)).b)) (wrap64 ((at! .int s.2.2.2.2.2.2.2.1 (Int.toNat ((at! .lk s.2.2.1 (Int.toNat s.2.2.2.2.1)).a)) + (at! .lk s.2.2.1 (Int.toNat s.2.2.2.2.1)).c))), ())))) else none) else none)) else none) else some (Sum.inl ((s.1, s.2.1, s.2.2.1, s.2.2.2.1, wrap64 ((s.2.2.2.2.1 + (1 : Int))), s.2.2.2.2.2.1, s.2.2.2.2.2.2.1, List.set s.2.2.2.2.2.2.2.1 (Int.toNat ((at! .lk s.2.2.1 (Int.toNat s.2.2.2.2.1)).b)) (wrap64 ((at! .int s.2.2.2.2.2.2.2.1 (Int.toNat ((at! .lk s.2.2.1 (Int.toNat s.2.2.2.2.1)).a)) + (at! .lk s.2.2.1 (Int.toNat s.2.2.2.2.1)).c))), ())))) else none) else none) else none) else (bif inR ((at! .lk s.2.2.1 (Int.toNat s.2.2.2.2.1)).b) (List.length s.2.2.2.2.2.2.2.1) then (bif decide (((0 : Int) ≤ at! .int s.2.2.2.2.2.2.2.1 (Int.toNat ((at! .lk s.2.2.1 (Int.toNat s.2.2.2.2.1)).b)))) then (bif inR ((at! .lk s.2.2.1 (Int.toNat s.2.2.2.2.1)).a) (List.length s.2.2.2.2.2.2.2.1) then (bif decide ((at! .int s.2.2.2.2.2.2.2.1 (Int.toNat ((at! .lk s.2.2.1 (Int.toNat s.2.2.2.2.1)).a)) < (0 : Int))) then (bif inR ((at! .lk s.2.2.1 (Int.toNat s.2.2.2.2.1)).b) (List.length s.2.2.2.2.2.2.2.1) then (bif inR ((at! .lk s.2.2.1 (Int.toNat s.2.2.2.2.1)).a) (List.length s.2.2.2.2.2.2.2.1) then some (Sum.inl ((s.1, s.2.1, s.2.2.1, s.2.2.2.1, wrap64 ((s.2.2.2.2.1 + (1 : Int))), s.2.2.2.2.2.1, s.2.2.2.2.2.2.1, List.set s.2.2.2.2.2.2.2.1 (Int.toNat ((at! .lk s.2.2.1 (Int.toNat s.2.2.2.2.1)).a)) (wrap64 ((at! .int s.2.2.2.2.2.2.2.1 (Int.toNat ((at! .lk s.2.2.1 (Int.toNat s.2.2.2.2.1)).b)) + (at! .lk s.2.2.1 (Int.toNat s.2.2.2.2.1)).c))), ()))) else none) else none) else (bif inR ((at! .lk s.2.2.1 (Int.toNat s.2.2.2.2.1)).b) (List.length s.2.2.2.2.2.2.2.1) then (bif inR ((at! .lk s.2.2.1 (Int.toNat s.2.2.2.2.1)).a) (List.length s.2.2.2.2.2.2.2.1) then (bif decide ((wrap64 ((at! .int s.2.2.2.2.2.2.2.1 (Int.toNat ((at! .lk s.2.2.1 (Int.toNat s.2.2.2.2.1)).b)) + (at! .lk s.2.2.1 (Int.toNat s.2.2.2.2.1)).c)) < at! .int s.2.2.2.2.2.2.2.1 (Int.toNat ((at! .lk s.2.2.1 (Int.toNat s.2.2.2.2.1)).a)))) then (bif inR ((at! .lk s.2.2.1 (Int.toNat s.2.2.2.2.1)).b) (List.length s.2.2.2.2.2.2.2.1) then (bif inR ((at! .lk s.2.2.1 (Int.toNat s.2.2.2.2.1)).a) (List.length s.2.2.2.2.2.2.2.1) then some (Sum.inl ((s.1, s.2.1, s.2.2.1, s.2.2.2.1, wrap64 ((s.2.2.2.2.1 + (1 : Int))), s.2.2.2.2.2.1, s.2.2.2.2.2.2.1, List.set s.2.2.2.2.2.2.2.1 (Int.toNat ((at! .lk s.2.2.1 (Int.toNat s.2.2.2.2.1)).a)) (wrap64 ((at! .int s.2.2.2.2.2.2.2.1 (Int.toNat ((at! .lk s.2.2.1 (Int.toNat s.2.2.2.2.1)).b)) + (at! .lk s.2.2.1 (Int.toNat s.2.2.2.2.1)).c))), ()))) else none) else none) else some (Sum.inl ((s.1, s.2.1, s.2.2.1, s.2.2.2.1, wrap64 ((s.2.2.2.2.1 + (1 : Int))), s.2.2.2.2.2.1, s.2.2.2.2.2.2.1, s.2.2.2.2.2.2.2.1, ())))) else none) else none)) else none) else some (Sum.inl ((s.1, s.2.1, s.2.2.1, s.2.2.2.1, wrap64 ((s.2.2.2.2.1 + (1 : Int))), s.2.2.2.2.2.1, s.2.2.2.2.2.2.1, s.2.2.2.2.2.2.2.1, ())))) else none)) else none) else none)) else none) else (bif inR ((at! .lk s.2.2.1 (Int.toNat s.2.2.2.2.1)).b) (List.length s.2.2.2.2.2.2.2.1) then (bif decide (((0 : Int) ≤ at! .int s.2.2.2.2.2.2.2.1 (Int.toNat ((at! .lk s.2.2.1 (Int.toNat s.2.2.2.2.1)).b)))) then (bif inR ((at! .lk s.2.2.1 (Int.toNat s.2.2.2.2.1)).a) (List.length s.2.2.2.2.2.2.2.1) then (bif decide ((at! .int s.2.2.2.2.2.2.2.1 (Int.toNat ((at! .lk s.2.2.1 (Int.toNat s.2.2.2.2.1)).a)) < (0 : Int))) then (bif inR ((at! .lk s.2.2.1 (Int.toNat s.2.2.2.2.1)).b) (List.length s.2.2.2.2.2.2.2.1) then (bif inR ((at! .lk s.2.2.1 (Int.toNat s.2.2.2.2.1)).a) (List.length s.2.2.2.2.2.2.2.1) then some (Sum.inl ((s.1, s.2.1, s.2.2.1, s.2.2.2.1, wrap64 ((s.2.2.2.2.1 + (1 : Int))), s.2.2.2.2.2.1, s.2.2.2.2.2.2.1, List.set s.2.2.2.2.2.2.2.1 (Int.toNat ((at! .lk s.2.2.1 (Int.toNat s.2.2.2.2.1)).a)) (wrap64 ((at! .int s.2.2.2.2.2.2.2.1 (Int.toNat ((at! .lk s.2.2.1 (Int.toNat s.2.2.2.2.1)).b)) + (at! .lk s.2.2.1 (Int.toNat s.2.2.2.2.1)).c))), ()))) else none) else none) else (bif inR ((at! .lk s.2.2.1 (Int.toNat s.2.2.2.2.1)).b) (List.length s.2.2.2.2.2.2.2.1) then (bif inR ((at! .lk s.2.2.1 (Int.toNat s.2.2.2.2.1)).a) (List.length s.2.2.2.2.2.2.2.1) then (bif decide ((wrap64 ((at! .int s.2.2.2.2.2.2.2.1 (Int.toNat ((at! .lk s.2.2.1 (Int.toNat s.2.2.2.2.1)).b)) + (at! .lk s.2.2.1 (Int.toNat s.2.2.2.2.1)).c)) < at! .int s.2.2.2.2.2.2.2.1 (Int.toNat ((at! .lk s.2.2.1 (Int.toNat s.2.2.2.2.1)).a)))) then (bif inR ((at! .lk s.2.2.1 (Int.toNat s.2.2.2.2.1)).b) (List.length s.2.2.2.2.2.2.2.1) then (bif inR ((at! .lk s.2.2.1 (Int.toNat s.2.2.2.2.1)).a) (List.length s.2.2.2.2.2.2.2.1) then some (Sum.inl ((s.1, s.2.1, s.2.2.1, s.2.2.2.1, wrap64 ((s.2.2.2.2.1 + (1 : Int))), s.2.2.2.2.2.1, s.2.2.2.2.2.2.1, List.set s.2.2.2.2.2.2.2.1 (Int.toNat ((at! .lk s.2.2.1 (Int.toNat s.2.2.2.2.1)).a)) (wrap64 ((at! .int s.2.2.2.2.2.2.2.1 (Int.toNat ((at! .lk s.2.2.1 (Int.toNat s.2.2.2.2.1)).b)) + (at! .lk s.2.2.1 (Int.toNat s.2.2.2.2.1)).c))), ()))) else none) else none) else some (Sum.inl ((s.1, s.2.1, s.2.2.1, s.2.2.2.1, wrap64 ((s.2.2.2.2.1 + (1 : Int))), s.2.2.2.2.2.1, s.2.2.2.2.2.2.1, s.2.2.2.2.2.2.2.1, ())))) else none) else none)) else none) else some (Sum.inl ((s.1, s.2.1, s.2.2.1, s.2.2.2.1, wrap64 ((s.2.2.2.2.1 + (1 : Int))), s.2.2.2.2.2.1, s.2.2.2.2.2.2.1, s.2.2.2.2.2.2.2.1, ())))) else none)) else none) else none) else some (Sum.inr (Sum.inl ((s.1, s.2.1, s.2.2.2.2.2.1, s.2.2.2.2.2.2.1, s.2.2.2.2.2.2.2.1, ())))))
def bo_impl_Graph_distances_4 (s : (Int × Int × Int × List Lk × List Int × Unit)) : Option ((Int × Int × Int × List Lk × List Int × Unit) ⊕ ((List Int × Unit) ⊕ Unit)) := (bif decide ((s.2.1 < s.1)) then (lp bo_impl_Graph_distances_6 fuel ((s.1, (s.2.1, (s.2.2.2.1, (nI (List.length s.2.2.2.1), ((0 : Int), (s.2.2.1, (s.2.2.2.1, (s.2.2.2.2.1, ())))))))))).bind fun r0 => (match r0 with | .inl x1 => some (Sum.inl ((x1.1, wrap64 ((x1.2.1 + (1 : Int))), x1.2.2.1, x1.2.2.2.1, x1.2.2.2.2.1, ()))) | .inr _ => none) else some (Sum.inr (Sum.inl ((s.2.2.2.2.1, ())))))
def sh_impl_Graph_distances (s : (Int × List Lk × Int × Unit)) : Option (List Int × Unit) := (sh_slices_Repeat_int_int (([(-((1 : Int)))], (s.1, ())))).bind fun r0 => (bif inR s.2.2.1 (List.length r0.1) then (lp bo_impl_Graph_distances_4 fuel ((s.1, ((0 : Int), (s.1, (s.2.1, (List.set r0.1 (Int.toNat s.2.2.1) ((0 : Int)), ()))))))).bind fun r1 => (match r1 with | .inl x2 => some ((x2.1, ())) | .inr _ => none) else none)
def bo_slices_IndexFunc_impl_Link_impl_Link_Graph_linkOf_1_2 (s : (List Lk × Int × Int × Int × Int × Unit)) : Option ((List Lk × Int × Int × Int × Int × Unit) ⊕ ((Unit) ⊕ (Int × Unit))) := (bif decide ((s.2.2.2.2.1 < s.2.2.2.1)) then (bif inR s.2.2.2.2.1 (List.length s.1) then (sh_impl_Graph_linkOf_1 (((at! .lk s.1 (Int.toNat s.2.2.2.2.1)).a, ((at! .lk s.1 (Int.toNat s.2.2.2.2.1)).b, ((at! .lk s.1 (Int.toNat s.2.2.2.2.1)).c, (s.2.1, (s.2.2.1, ()))))))).bind fun r0 => (bif r0.1 then some (Sum.inr (Sum.inr ((s.2.2.2.2.1, ())))) else some (Sum.inl ((s.1, s.2.1, s.2.2.1, s.2.2.2.1, wrap64 ((s.2.2.2.2.1 + (1 : Int))), ())))) else none) else some (Sum.inr (Sum.inl (()))))
def sh_slices_IndexFunc_impl_Link_impl_Link_Graph_linkOf_1 (s : (List Lk × Int × Int × Unit)) : Option (Int × Unit) := (lp bo_slices_IndexFunc_impl_Link_impl_Link_Graph_linkOf_1_2 fuel ((s.1, (s.2.1, (s.2.2.1, (nI (List.length s.1), ((0 : Int), ()))))))).bind fun r0 => (match r0 with | .inl _ => some (((-((1 : Int))), ())) | .inr y1 => some ((y1.1, ())))
def sh_impl_Graph_linkOf (s : (Int × List Lk × Int × Int × Unit)) : Option (Int × Unit) := (sh_slices_IndexFunc_impl_Link_impl_Link_Graph_linkOf_1 ((s.2.1, (s.2.2.1, (s.2.2.2.1, ()))))).bind fun r0 => some ((r0.1, ()))
def sh_spec_l1Node (s : (Int × List Lk × Int × Unit)) : Option (Bool × Unit) := (sh_spec_l6In ((s.2.2.1, ((0 : Int), (wrap64 ((s.1 - (1 : Int))), ()))))).bind fun r0 => some ((r0.1, ()))
def bo_spec_l1Has_2 (s : (List Int × Int × Int × Unit)) : Option ((List Int × Int × Int × Unit) ⊕ ((Unit) ⊕ (Bool × Unit))) := (bif decide ((s.2.2.1 < nI (List.length s.1))) then (bif inR s.2.2.1 (List.length s.1) then (bif decide ((at! .int s.1 (Int.toNat s.2.2.1) = s.2.1)) then some (Sum.inr (Sum.inr ((true, ())))) else some (Sum.inl ((s.1, s.2.1, wrap64 ((s.2.2.1 + (1 : Int))), ())))) else none) else some (Sum.inr (Sum.inl (()))))
def sh_spec_l1Has (s : (List Int × Int × Unit)) : Option (Bool × Unit) := (lp bo_spec_l1Has_2 fuel ((s.1, (s.2.1, ((0 : Int), ()))))).bind fun r0 => (match r0 with | .inl _ => some ((false, ())) | .inr y1 => some ((y1.1, ())))
def bo_impl_nodesAscend_2 (s : (List Int × Int × List Int × Int × Int × Unit)) : Option ((List Int × Int × List Int × Int × Int × Unit) ⊕ ((Unit) ⊕ (Bool × Unit))) := (bif decide ((s.2.2.2.2.1 < s.2.2.2.1)) then (bif inR s.2.2.2.2.1 (List.length s.2.2.1) then (sh_impl_within ((at! .int s.2.2.1 (Int.toNat s.2.2.2.2.1), ((0 : Int), (wrap64 ((s.2.1 - (1 : Int))), ()))))).bind fun r0 => (bif (!r0.1) then some (Sum.inr (Sum.inr ((false, ())))) else (bif decide (((0 : Int) < s.2.2.2.2.1)) then (bif inR (wrap64 ((s.2.2.2.2.1 - (1 : Int)))) (List.length s.1) then (bif decide ((at! .int s.2.2.1 (Int.toNat s.2.2.2.2.1) ≤ at! .int s.1 (Int.toNat (wrap64 ((s.2.2.2.2.1 - (1 : Int))))))) then some (Sum.inr (Sum.inr ((false, ())))) else some (Sum.inl ((s.1, s.2.1, s.2.2.1, s.2.2.2.1, wrap64 ((s.2.2.2.2.1 + (1 : Int))), ())))) else none) else some (Sum.inl ((s.1, s.2.1, s.2.2.1, s.2.2.2.1, wrap64 ((s.2.2.2.2.1 + (1 : Int))), ()))))) else none) else some (Sum.inr (Sum.inl (()))))
def sh_impl_nodesAscend (s : (List Int × Int × Unit)) : Option (Bool × Unit) := (lp bo_impl_nodesAscend_2 fuel ((s.1, (s.2.1, (s.1, (nI (List.length s.1), ((0 : Int), ()))))))).bind fun r0 => (match r0 with | .inl _ => some ((true, ())) | .inr y1 => some ((y1.1, ())))
def bo_slices_Index_int_int_2 (s : (List Int × Int × Int × Int × Unit)) : Option ((List Int × Int × Int × Int × Unit) ⊕ ((Unit) ⊕ (Int × Unit))) := (bif decide ((s.2.2.2.1 < s.2.2.1)) then (bif inR s.2.2.2.1 (List.length s.1) then (bif decide ((s.2.1 = at! .int s.1 (Int.toNat s.2.2.2.1))) then some (Sum.inr (Sum.inr ((s.2.2.2.1, ())))) else some (Sum.inl ((s.1, s.2.1, s.2.2.1, wrap64 ((s.2.2.2.1 + (1 : Int))), ())))) else none) else some (Sum.inr (Sum.inl (()))))
def sh_slices_Index_int_int (s : (List Int × Int × Unit)) : Option (Int × Unit) := (lp bo_slices_Index_int_int_2 fuel ((s.1, (s.2.1, (nI (List.length s.1), ((0 : Int), ())))))).bind fun r0 => (match r0 with | .inl _ => some (((-((1 : Int))), ())) | .inr y1 => some ((y1.1, ())))
def sh_impl_bordersValid (s : (Int × List Lk × List Int × Unit)) : Option (Bool × Unit) := (sh_impl_GraphValid ((s.1, (s.2.1, ())))).bind fun r0 => (bif r0.1 then (bif decide (((0 : Int) < nI (List.length s.2.2.1))) then (sh_impl_nodesAscend ((s.2.2.1, (s.1, ())))).bind fun r1 => some ((r1.1, ())) else some ((false, ()))) else some ((false, ())))
def sh_slices_Contains_int_int (s : (List Int × Int × Unit)) : Option (Bool × Unit) := (sh_slices_Index_int_int ((s.1, (s.2.1, ())))).bind fun r0 => some ((decide (((0 : Int) ≤ r0.1)), ()))
def bo_spec_l12Nodes_2 (s : (List Int × Int × Unit)) : Option ((List Int × Int × Unit) ⊕ ((Unit) ⊕ (Bool × Unit))) := (bif decide ((s.2.1 < nI (List.length s.1))) then (bif inR s.2.1 (List.length s.1) then (sh_spec_l6In ((at! .int s.1 (Int.toNat s.2.1), ((0 : Int), ((7 : Int), ()))))).bind fun r0 => (bif (!r0.1) then some (Sum.inr (Sum.inr ((false, ())))) else (bif decide (((0 : Int) < s.2.1)) then (bif inR (wrap64 ((s.2.1 - (1 : Int)))) (List.length s.1) then (bif inR s.2.1 (List.length s.1) then (bif decide ((at! .int s.1 (Int.toNat s.2.1) ≤ at! .int s.1 (Int.toNat (wrap64 ((s.2.1 - (1 : Int))))))) then some (Sum.inr (Sum.inr ((false, ())))) else some (Sum.inl ((s.1, wrap64 ((s.2.1 + (1 : Int))), ())))) else none) else none) else some (Sum.inl ((s.1, wrap64 ((s.2.1 + (1 : Int))), ()))))) else none) else some (Sum.inr (Sum.inl (()))))
def sh_spec_l12Nodes (s : (List Int × Unit)) : Option (Bool × Unit) := (lp bo_spec_l12Nodes_2 fuel ((s.1, ((0 : Int), ())))).bind fun r0 => (match r0 with | .inl _ => some ((true, ())) | .inr y1 => some ((y1.1, ())))
def sh_spec_l31Borders (s : (Int × List Lk × List Int × Unit)) : Option (Bool × Unit) := (sh_spec_GraphValid ((s.1, (s.2.1, ())))).bind fun r0 => (bif r0.1 then (sh_spec_l12Nodes ((s.2.2.1, ()))).bind fun r1 => (bif r1.1 then (bif decide (((0 : Int) < nI (List.length s.2.2.1))) then (bif inR (wrap64 ((nI (List.length s.2.2.1) - (1 : Int)))) (List.length s.2.2.1) then some ((decide ((at! .int s.2.2.1 (Int.toNat (wrap64 ((nI (List.length s.2.2.1) - (1 : Int))))) < s.1)), ())) else none) else some ((false, ()))) else some ((false, ()))) else some ((false, ())))
def bo_spec_l2Distances_3 (s : (Int × Int × Int × List Lk × List Int × Unit)) : Option ((Int × Int × Int × List Lk × List Int × Unit) ⊕ ((Int × Int × List Lk × List Int × Unit) ⊕ Unit)) := (bif decide ((s.2.1 < s.2.2.1)) then (bif decide (((List.length s.2.2.2.2.1 + List.length ([(-((1 : Int)))])) ≤ (33554432 : Nat))) then some (Sum.inl ((s.1, wrap64 ((s.2.1 + (1 : Int))), s.2.2.1, s.2.2.2.1, (s.2.2.2.2.1 ++ [(-((1 : Int)))]), ()))) else none) else some (Sum.inr (Sum.inl ((s.1, s.2.2.1, s.2.2.2.1, s.2.2.2.2.1, ())))))
def bo_spec_l2Distances_11 (s : (Int × Int × Int × List Lk × List Int × Unit)) : Option ((Int × Int × Int × List Lk × List Int × Unit) ⊕ ((Int × Int × List Lk × List Int × Unit) ⊕ Unit)) := (bif decide ((s.2.1 < nI (List.length s.2.2.2.1))) then (bif inR s.2.1 (List.length s.2.2.2.1) then (bif inR ((at! .lk s.2.2.2.1 (Int.toNat s.2.1)).a) (List.length s.2.2.2.2.1) then (bif decide (((0 : Int) ≤ at! .int s.2.2.2.2.1 (Int.toNat ((at! .lk s.2.2.2.1 (Int.toNat s.2.1)).a)))) then (bif inR ((at! .lk s.2.2.2.1 (Int.toNat s.2.1)).b) (List.length s.2.2.2.2.1) then (bif decide ((at! .int s.2.2.2.2.1 (Int.toNat ((at! .lk s.2.2.2.1 (Int.toNat s.2.1)).b)) < (0 : Int))) then (bif inR ((at! .lk s.2.2.2.1 (Int.toNat s.2.1)).a) (List.length s.2.2.2.2.1) then (bif inR ((at! .lk s.2.2.2.1 (Int.toNat s.2.1)).b) (List.length s.2.2.2.2.1) then (bif inR ((at! .lk s.2.2.2.1 (Int.toNat s.2.1)).b) (List.length (List.set s.2.2.2.2.1 (Int.toNat ((at! .lk s.2.2.2.1 (Int.toNat s.2.1)).b)) (wrap64 ((at! .int s.2.2.2.2.1 (Int.toNat ((at! .lk s.2.2.2.1 (Int.toNat s.2.1)).a)) + (at! .lk s.2.2.2.1 (Int.toNat s.2.1)).c))))) then (bif decide (((0 : Int) ≤ at! .int (List.set s.2.2.2.2.1 (Int.toNat ((at! .lk s.2.2.2.1 (Int.toNat s.2.1)).b)) (wrap64 ((at! .int s.2.2.2.2.1 (Int.toNat ((at! .lk s.2.2.2.1 (Int.toNat s.2.1)).a)) + (at! .lk s.2.2.2.1 (Int.toNat s.2.1)).c)))) (Int.toNat ((at! .lk s.2.2.2.1 (Int.toNat s.2.1)).b)))) then (bif inR ((at! .lk s.2.2.2.1 (Int.toNat s.2.1)).a) (List.length (List.set s.2.2.2.2.1 (Int.toNat ((at! .lk s.2.2.2.1 (Int.toNat s.2.1)).b)) (wrap64 ((at! .int s.2.2.2.2.1 (Int.toNat ((at! .lk s.2.2.2.1 (Int.toNat s.2.1)).a)) + (at! .lk s.2.2.2.1 (Int.toNat s.2.1)).c))))) then (bif decide ((at! .int (List.set s.2.2.2.2.1 (Int.toNat ((at! .lk s.2.2.2.1 (Int.toNat s.2.1)).b)) (wrap64 ((at! .int s.2.2.2.2.1 (Int.toNat ((at! .lk s.2.2.2.1 (Int.toNat s.2.1)).a)) + (at! .lk s.2.2.2.1 (Int.toNat s.2.1)).c)))) (Int.toNat ((at! .lk s.2.2.2.1 (Int.toNat s.2.1)).a)) < (0 : Int))) then (bif inR ((at! .lk s.2.2.2.1 (Int.toNat s.2.1)).b) (List.length (List.set s.2.2.2.2.1 (Int.toNat ((at! .lk s.2.2.2.1 (Int.toNat s.2.1)).b)) (wrap64 ((at! .int s.2.2.2.2.1 (Int.toNat ((at! .lk s.2.2.2.1 (Int.toNat s.2.1)).a)) + (at! .lk s.2.2.2.1 (Int.toNat s.2.1)).c))))) then (bif inR ((at! .lk s.2.2.2.1 (Int.toNat s.2.1)).a) (List.length (List.set s.2.2.2.2.1 (Int.toNat ((at! .lk s.2.2.2.1 (Int.toNat s.2.1)).b)) (wrap64 ((at! .int s.2.2.2.2.1 (Int.toNat ((at! .lk s.2.2.2.1 (Int.toNat s.2.1)).a)) + (at! .lk s.2.2.2.1 (Int.toNat s.2.1)).c))))) then some (Sum.inl ((s.1, wrap64 ((s.2.1 + (1 : Int))), s.2.2.1, s.2.2.2.1, List.set (List.set s.2.2.2.2.1 (Int.toNat ((at! .lk s.2.2.2.1 (Int.toNat s.2.1)).b)) (wrap64 ((at! .int s.2.2.2.2.1 (Int.toNat ((at! .lk s.2.2.2.1 (Int.toNat s.2.1)).a)) + (at! .lk s.2.2.2.1 (Int.toNat s.2.1)).c)))) (Int.toNat ((at! .lk s.2.2.2.1 (Int.toNat s.2.1)).a)) (wrap64 ((at! .int (List.set s.2.2.2.2.1 (Int.toNat ((at! .lk s.2.2.2.1 (Int.toNat s.2.1)).b)) (wrap64 ((at! .int s.2.2.2.2.1 (Int.toNat ((at! .lk s.2.2.2.1 (Int.toNat s.2.1)).a)) + (at! .lk s.2.2.2.1 (Int.toNat s.2.1)).c)))) (Int.toNat ((at! .lk s.2.2.2.1 (Int.toNat s.2.1)).b)) + (at! .lk s.2.2.2.1 (Int.toNat s.2.1)).c))), ()))) else none) else none) else (bif inR ((at! .lk s.2.2.2.1 (Int.toNat s.2.1)).b) (List.length (List.set s.2.2.2.2.1 (Int.toNat ((at! .lk s.2.2.2.1 (Int.toNat s.2.1)).b)) (wrap64 ((at! .int s.2.2.2.2.1 (Int.toNat ((at! .lk s.2.2.2.1 (Int.toNat s.2.1)).a)) + (at! .lk s.2.2.2.1 (Int.toNat s.2.1)).c))))) then (bif inR ((at! .lk s.2.2.2.1 (Int.toNat s.2.1)).a) (List.length (List.set s.2.2.2.2.1 (Int.toNat ((at! .lk s.2.2.2.1 (Int.toNat s.2.1)).b)) (wrap64 ((at! .int s.2.2.2.2.1 (Int.toNat ((at! .lk s.2.2.2.1 (Int.toNat s.2.1)).a)) + (at! .lk s.2.2.2.1 (Int.toNat s.2.1)).c))))) then (bif decide ((wrap64 ((at! .int (List.set s.2.2.2.2.1 (Int.toNat ((at! .lk s.2.2.2.1 (Int.toNat s.2.1)).b)) (wrap64 ((at! .int s.2.2.2.2.1 (Int.toNat ((at! .lk s.2.2.2.1 (Int.toNat s.2.1)).a)) + (at! .lk s.2.2.2.1 (Int.toNat s.2.1)).c)))) (Int.toNat ((at! .lk s.2.2.2.1 (Int.toNat s.2.1)).b)) + (at! .lk s.2.2.2.1 (Int.toNat s.2.1)).c)) < at! .int (List.set s.2.2.2.2.1 (Int.toNat ((at! .lk s.2.2.2.1 (Int.toNat s.2.1)).b)) (wrap64 ((at! .int s.2.2.2.2.1 (Int.toNat ((at! .lk s.2.2.2.1 (Int.toNat s.2.1)).a)) + (at! .lk s.2.2.2.1 (Int.toNat s.2.1)).c)))) (Int.toNat ((at! .lk s.2.2.2.1 (Int.toNat s.2.1)).a)))) then (bif inR ((at! .lk s.2.2.2.1 (Int.toNat s.2.1)).b) (List.length (List.set s.2.2.2.2.1 (Int.toNat ((at! .lk s.2.2.2.1 (Int.toNat s.2.1)).b)) (wrap64 ((at! .int s.2.2.2.2.1 (Int.toNat ((at! .lk s.2.2.2.1 (Int.toNat s.2.1)).a)) + (at! .lk s.2.2.2.1 (Int.toNat s.2.1)).c))))) then (bif inR ((at! .lk s.2.2.2.1 (Int.toNat s.2.1)).a) (List.length (List.set s.2.2.2.2.1 (Int.toNat ((at! .lk s.2.2.2.1 (Int.toNat s.2.1)).b)) (wrap64 ((at! .int s.2.2.2.2.1 (Int.toNat ((at! .lk s.2.2.2.1 (Int.toNat s.2.1)).a)) + (at! .lk s.2.2.2.1 (Int.toNat s.2.1)).c))))) then some (Sum.inl ((s.1, wrap64 ((s.2.1 + (1 : Int))), s.2.2.1, s.2.2.2.1, List.set (List.set s.2.2.2.2.1 (Int.toNat ((at! .lk s.2.2.2.1 (Int.toNat s.2.1)).b)) (wrap64 ((at! .int s.2.2.2.2.1 (Int.toNat ((at! .lk s.2.2.2.1 (Int.toNat s.2.1)).a)) + (at! .lk s.2.2.2.1 (Int.toNat s.2.1)).c)))) (Int.toNat ((at! .lk s.2.2.2.1 (Int.toNat s.2.1)).a)) (wrap64 ((at! .int (List.set s.2.2.2.2.1 (Int.toNat ((at! .lk s.2.2.2.1 (Int.toNat s.2.1)).b)) (wrap64 ((at! .int s.2.2.2.2.1 (Int.toNat ((at! .lk s.2.2.2.1 (Int.toNat s.2.1)).a)) + (at! .lk s.2.2.2.1 (Int.toNat s.2.1)).c)))) (Int.toNat ((at! .lk s.2.2.2.1 (Int.toNat s.2.1)).b)) + (at! .lk s.2.2.2.1 (Int.toNat s.2.1)).c))), ()))) else none) else none) else some (Sum.inl ((s.1, wrap64 ((s.2.1 + (1 : Int))), s.2.2.1, s.2.2.2.1, List.set s.2.2.2.2.1 (Int.toNat ((at! .lk s.2.2.2.1 (Int.toNat s.2.1)).b)) (wrap64 ((at! .int s.2.2.2.2.1 (Int.toNat ((at! .lk s.2.2.2.1 (Int.toNat s.2.1)).a)) + (at! .lk s.2.2.2.1 (Int.toNat s.2.1)).c))), ())))) else none) else none)) else none) else some (Sum.inl ((s.1, wrap64 ((s.2.1 + (1 : Int))), s.2.2.1, s.2.2.2.1, List.set s.2.2.2.2.1 (Int.toNat ((at! .lk s.2.2.2.1 (Int.toNat s.2.1)).b)) (wrap64 ((at! .int s.2.2.2.2.1 (Int.toNat ((at! .lk s.2.2.2.1 (Int.toNat s.2.1)).a)) + (at! .lk s.2.2.2.1 (Int.toNat s.2.1)).c))), ())))) else none) else none) else none) else (bif inR ((at! .lk s.2.2.2.1 (Int.toNat s.2.1)).a) (List.length s.2.2.2.2.1) then (bif inR ((at! .lk s.2.2.2.1 (Int.toNat s.2.1)).b) (List.length s.2.2.2.2.1) then (bif decide ((wrap64 ((at! .int s.2.2.2.2.1 (Int.toNat ((at! .lk s.2.2.2.1 (Int.toNat s.2.1)).a)) + (at! .lk s.2.2.2.1 (Int.toNat s.2.1)).c)) < at! .int s.2.2.2.2.1 (Int.toNat ((at! .lk s.2.2.2.1 (Int.toNat s.2.1)).b)))) then (bif inR ((at! .lk s.2.2.2.1 (Int.toNat s.2.1)).a) (List.length s.2.2.2.2.1) then (bif inR ((at! .lk s.2.2.2.1 (Int.toNat s.2.1)).b) (List.length s.2.2.2.2.1) then (bif inR ((at! .lk s.2.2.2.1 (Int.toNat s.2.1)).b) (List.length (List.set s.2.2.2.2.1 (Int.toNat ((at! .lk s.2.2.2.1 (Int.toNat s.2.1)).b)) (wrap64 ((at! .int s.2.2.2.2.1 (Int.toNat ((at! .lk s.2.2.2.1 (Int.toNat s.2.1)).a)) + (at! .lk s.2.2.2.1 (Int.toNat s.2.1)).c))))) then (bif decide (((0 : Int) ≤ at! .int (List.set s.2.2.2.2.1 (Int.toNat ((at! .lk s.2.2.2.1 (Int.toNat s.2.1)).b)) (wrap64 ((at! .int s.2.2.2.2.1 (Int.toNat ((at! .lk s.2.2.2.1 (Int.toNat s.2.1)).a)) + (at! .lk s.2.2.2.1 (Int.toNat s.2.1)).c)))) (Int.toNat ((at! .lk s.2.2.2.1 (Int.toNat s.2.1)).b)))) then (bif inR ((at! .lk s.2.2.2.1 (Int.toNat s.2.1)).a) (List.length (List.set s.2.2.2.2.1 (Int.toNat ((at! .lk s.2.2.2.1 (Int.toNat s.2.1)).b)) (wrap64 ((at! .int s.2.2.2.2.1 (Int.toNat ((at! .lk s.2.2.2.1 (Int.toNat s.2.1)).a)) + (at! .lk s.2.2.2.1 (Int.toNat s.2.1)).c))))) then (bif decide ((at! .int (List.set s.2.2.2.2.1 (Int.toNat ((at! .lk s.2.2.2.1 (Int.toNat s.2.1)).b)) (wrap64 ((at! .int s.2.2.2.2.1 (Int.toNat ((at! .lk s.2.2.2.1 (Int.toNat s.2.1)).a)) + (at! .lk s.2.2.2.1 (Int.toNat s.2.1)).c)))) (Int.toNat ((at! .lk s.2.2.2.1 (Int.toNat s.2.1)).a)) < (0 : Int))) then (bif inR ((at! .lk s.2.2.2.1 (Int.toNat s.2.1)).b) (List.length (List.set s.2.2.2.2.1 (Int.toNat ((at! .lk s.2.2.2.1 (Int.toNat s.2.1)).b)) (wrap64 ((at! .int s.2.2.2.2.1 (Int.toNat ((at! .lk s.2.2.2.1 (Int.toNat s.2.1)).a)) + (at! .lk s.2.2.2.1 (Int.toNat s.2.1)).c))))) then (bif inR ((at! .lk s.2.2.2.1 (Int.toNat s.2.1)).a) (List.length (List.set s.2.2.2.2.1 (Int.toNat ((at! .lk s.2.2.2.1 (Int.toNat s.2.1)).b)) (wrap64 ((at! .int s.2.2.2.2.1 (Int.toNat ((at! .lk s.2.2.2.1 (Int.toNat s.2.1)).a)) + (at! .lk s.2.2.2.1 (Int.toNat s.2.1)).c))))) then some (Sum.inl ((s.1, wrap64 ((s.2.1 + (1 : Int))), s.2.2.1, s.2.2.2.1, List.set (List.set s.2.2.2.2.1 (Int.toNat ((at! .lk s.2.2.2.1 (Int.toNat s.2.1)).b)) (wrap64 ((at! .int s.2.2.2.2.1 (Int.toNat ((at! .lk s.2.2.2.1 (Int.toNat s.2.1)).a)) + (at! .lk s.2.2.2.1 (Int.toNat s.2.1)).c)))) (Int.toNat ((at! .lk s.2.2.2.1 (Int.toNat s.2.1)).a)) (wrap64 ((at! .int (List.set s.2.2.2.2.1 (Int.toNat ((at! .lk s.2.2.2.1 (Int.toNat s.2.1)).b)) (wrap64 ((at! .int s.2.2.2.2.1 (Int.toNat ((at! .lk s.2.2.2.1 (Int.toNat s.2.1)).a)) + (at! .lk s.2.2.2.1 (Int.toNat s.2.1)).c)))) (Int.toNat ((at! .lk s.2.2.2.1 (Int.toNat s.2.1)).b)) + (at! .lk s.2.2.2.1 (Int.toNat s.2.1)).c))), ()))) else none) else none) else (bif inR ((at! .lk s.2.2.2.1 (Int.toNat s.2.1)).b) (List.length (List.set s.2.2.2.2.1 (Int.toNat ((at! .lk s.2.2.2.1 (Int.toNat s.2.1)).b)) (wrap64 ((at! .int s.2.2.2.2.1 (Int.toNat ((at! .lk s.2.2.2.1 (Int.toNat s.2.1)).a)) + (at! .lk s.2.2.2.1 (Int.toNat s.2.1)).c))))) then (bif inR ((at! .lk s.2.2.2.1 (Int.toNat s.2.1)).a) (List.length (List.set s.2.2.2.2.1 (Int.toNat ((at! .lk s.2.2.2.1 (Int.toNat s.2.1)).b)) (wrap64 ((at! .int s.2.2.2.2.1 (Int.toNat ((at! .lk s.2.2.2.1 (Int.toNat s.2.1)).a)) + (at! .lk s.2.2.2.1 (Int.toNat s.2.1)).c))))) then (bif decide ((wrap64 ((at! .int (List.set s.2.2.2.2.1 (Int.toNat ((at! .lk s.2.2.2.1 (Int.toNat s.2.1)).b)) (wrap64 ((at! .int s.2.2.2.2.1 (Int.toNat ((at! .lk s.2.2.2.1 (Int.toNat s.2.1)).a)) + (at! .lk s.2.2.2.1 (Int.toNat s.2.1)).c)))) (Int.toNat ((at! .lk s.2.2.2.1 (Int.toNat s.2.1)).b)) + (at! .lk s.2.2.2.1 (Int.toNat s.2.1)).c)) < at! .int (List.set s.2.2.2.2.1 (Int.toNat ((at! .lk s.2.2.2.1 (Int.toNat s.2.1)).b)) (wrap64 ((at! .int s.2.2.2.2.1 (Int.toNat ((at! .lk s.2.2.2.1 (Int.toNat s.2.1)).a)) + (at! .lk s.2.2.2.1 (Int.toNat s.2.1)).c)))) (Int.toNat ((at! .lk s.2.2.2.1 (Int.toNat s.2.1)).a)))) then (bif inR ((at! .lk s.2.2.2.1 (Int.toNat s.2.1)).b) (List.length (List.set s.2.2.2.2.1 (Int.toNat ((at! .lk s.2.2.2.1 (Int.toNat s.2.1)).b)) (wrap64 ((at! .int s.2.2.2.2.1 (Int.toNat ((at! .lk s.2.2.2.1 (Int.toNat s.2.1)).a)) + (at! .lk s.2.2.2.1 (Int.toNat s.2.1)).c))))) then (bif inR ((at! .lk s.2.2.2.1 (Int.toNat s.2.1)).a) (List.length (List.set s.2.2.2.2.1 (Int.toNat ((at! .lk s.2.2.2.1 (Int.toNat s.2.1)).b)) (wrap64 ((at! .int s.2.2.2.2.1 (Int.toNat ((at! .lk s.2.2.2.1 (Int.toNat s.2.1)).a)) + (at! .lk s.2.2.2.1 (Int.toNat s.2.1)).c))))) then some (Sum.inl ((s.1, wrap64 ((s.2.1 + (1 : Int))), s.2.2.1, s.2.2.2.1, List.set (List.set s.2.2.2.2.1 (Int.toNat ((at! .lk s.2.2.2.1 (Int.toNat s.2.1)).b)) (wrap64 ((at! .int s.2.2.2.2.1 (Int.toNat ((at! .lk s.2.2.2.1 (Int.toNat s.2.1)).a)) + (at! .lk s.2.2.2.1 (Int.toNat s.2.1)).c)))) (Int.toNat ((at! .lk s.2.2.2.1 (Int.toNat s.2.1)).a)) (wrap64 ((at! .int (List.set s.2.2.2.2.1 (Int.toNat ((at! .lk s.2.2.2.1 (Int.toNat s.2.1)).b)) (wrap64 ((at! .int s.2.2.2.2.1 (Int.toNat ((at! .lk s.2.2.2.1 (Int.toNat s.2.1)).a)) + (at! .lk s.2.2.2.1 (Int.toNat s.2.1)).c)))) (Int.toNat ((at! .lk s.2.2.2.1 (Int.toNat s.2.1)).b)) + (at! .lk s.2.2.2.1 (Int.toNat s.2.1)).c))), ()))) else none) else none) else some (Sum.inl ((s.1, wrap64 ((s.2.1 + (1 : Int))), s.2.2.1, s.2.2.2.1, List.set s.2.2.2.2.1 (Int.toNat ((at! .lk s.2.2.2.1 (Int.toNat s.2.1)).b)) (wrap64 ((at! .int s.2.2.2.2.1 (Int.toNat ((at! .lk s.2.2.2.1 (Int.toNat s.2.1)).a)) + (at! .lk s.2.2.2.1 (Int.toNat s.2.1)).c))), ())))) else none) else none)) else none) else some (Sum.inl ((s.1, wrap64 ((s.2.1 + (1 : Int))), s.2.2.1, s.2.2.2.1, List.set s.2.2.2.2.1 (Int.toNat ((at! .lk s.2.2.2.1 (Int.toNat s.2.1)).b)) (wrap64 ((at! .int s.2.2.2.2.1 (Int.toNat ((at! .lk s.2.2.2.1 (Int.toNat s.2.1)).a)) + (at! .lk s.2.2.2.1 (Int.toNat s.2.1)).c))), ())))) else none) else none) else none) else (bif inR ((at! .lk s.2.2.2.1 (Int.toNat s.2.1)).b) (List.length s.2.2.2.2.1) then (bif decide (((0 : Int) ≤ at! .int s.2.2.2.2.1 (Int.toNat ((at! .lk s.2.2.2.1 (Int.toNat s.2.1)).b)))) then (bif inR ((at! .lk s.2.2.2.1 (Int.toNat s.2.1)).a) (List.length s.2.2.2.2.1) then (bif decide ((at! .int s.2.2.2.2.1 (Int.toNat ((at! .lk s.2.2.2.1 (Int.toNat s.2.1)).a)) < (0 : Int))) then (bif inR ((at! .lk s.2.2.2.1 (Int.toNat s.2.1)).b) (List.length s.2.2.2.2.1) then (bif inR ((at! .lk s.2.2.2.1 (Int.toNat s.2.1)).a) (List.length s.2.2.2.2.1) then some (Sum.inl ((s.1, wrap64 ((s.2.1 + (1 : Int))), s.2.2.1, s.2.2.2.1, List.set s.2.2.2.2.1 (Int.toNat ((at! .lk s.2.2.2.1 (Int.toNat s.2.1)).a)) (wrap64 ((at! .int s.2.2.2.2.1 (Int.toNat ((at! .lk s.2.2.2.1 (Int.toNat s.2.1)).b)) + (at! .lk s.2.2.2.1 (Int.toNat s.2.1)).c))), ()))) else none) else none) else (bif inR ((at! .lk s.2.2.2.1 (Int.toNat s.2.1)).b) (List.length s.2.2.2.2.1) then (bif inR ((at! .lk s.2.2.2.1 (Int.toNat s.2.1)).a) (List.length s.2.2.2.2.1) then (bif decide ((wrap64 ((at! .int s.2.2.2.2.1 (Int.toNat ((at! .lk s.2.2.2.1 (Int.toNat s.2.1)).b)) + (at! .lk s.2.2.2.1 (Int.toNat s.2.1)).c)) < at! .int s.2.2.2.2.1 (Int.toNat ((at! .lk s.2.2.2.1 (Int.toNat s.2.1)).a)))) then (bif inR ((at! .lk s.2.2.2.1 (Int.toNat s.2.1)).b) (List.length s.2.2.2.2.1) then (bif inR ((at! .lk s.2.2.2.1 (Int.toNat s.2.1)).a) (List.length s.2.2.2.2.1) then some (Sum.inl ((s.1, wrap64 ((s.2.1 + (1 : Int))), s.2.2.1, s.2.2.2.1, List.set s.2.2.2.2.1 (Int.toNat ((at! .lk s.2.2.2.1 (Int.toNat s.2.1)).a)) (wrap64 ((at! .int s.2.2.2.2.1 (Int.toNat ((at! .lk s.2.2.2.1 (Int.toNat s.2.1)).b)) + (at! .lk s.2.2.2.1 (Int.toNat s.2.1)).c))), ()))) else none) else none) else some (Sum.inl ((s.1, wrap64 ((s.2.1 + (1 : Int))), s.2.2.1, s.2.2.2.1, s.2.2.2.2.1, ())))) else none) else none)) else none) else some (Sum.inl ((s.1, wrap64 ((s.2.1 + (1 : Int))), s.2.2.1, s.2.2.2.1, s.2.2.2.2.1, ())))) else none)) else none) else none)) else none) else (bif inR ((at! .lk s.2.2.2.1 (Int.toNat s.2.1)).b) (List.length s.2.2.2.2.1) then (bif decide (((0 : Int) ≤ at! .int s.2.2.2.2.1 (Int.toNat ((at! .lk s.2.2.2.1 (Int.toNat s.2.1)).b)))) then (bif inR ((at! .lk s.2.2.2.1 (Int.toNat s.2.1)).a) (List.length s.2.2.2.2.1) then (bif decide ((at! .int s.2.2.2.2.1 (Int.toNat ((at! .lk s.2.2.2.1 (Int.toNat s.2.1)).a)) < (0 : Int))) then (bif inR ((at! .lk s.2.2.2.1 (Int.toNat s.2.1)).b) (List.length s.2.2.2.2.1) then (bif inR ((at! .lk s.2.2.2.1 (Int.toNat s.2.1)).a) (List.length s.2.2.2.2.1) then some (Sum.inl ((s.1, wrap64 ((s.2.1 + (1 : Int))), s.2.2.1, s.2.2.2.1, List.set s.2.2.2.2.1 (Int.toNat ((at! .lk s.2.2.2.1 (Int.toNat s.2.1)).a)) (wrap64 ((at! .int s.2.2.2.2.1 (Int.toNat ((at! .lk s.2.2.2.1 (Int.toNat s.2.1)).b)) + (at! .lk s.2.2.2.1 (Int.toNat s.2.1)).c))), ()))) else none) else none) else (bif inR ((at! .lk s.2.2.2.1 (Int.toNat s.2.1)).b) (List.length s.2.2.2.2.1) then (bif inR ((at! .lk s.2.2.2.1 (Int.toNat s.2.1)).a) (List.length s.2.2.2.2.1) then (bif decide ((wrap64 ((at! .int s.2.2.2.2.1 (Int.toNat ((at! .lk s.2.2.2.1 (Int.toNat s.2.1)).b)) + (at! .lk s.2.2.2.1 (Int.toNat s.2.1)).c)) < at! .int s.2.2.2.2.1 (Int.toNat ((at! .lk s.2.2.2.1 (Int.toNat s.2.1)).a)))) then (bif inR ((at! .lk s.2.2.2.1 (Int.toNat s.2.1)).b) (List.length s.2.2.2.2.1) then (bif inR ((at! .lk s.2.2.2.1 (Int.toNat s.2.1)).a) (List.length s.2.2.2.2.1) then some (Sum.inl ((s.1, wrap64 ((s.2.1 + (1 : Int))), s.2.2.1, s.2.2.2.1, List.set s.2.2.2.2.1 (Int.toNat ((at! .lk s.2.2.2.1 (Int.toNat s.2.1)).a)) (wrap64 ((at! .int s.2.2.2.2.1 (Int.toNat ((at! .lk s.2.2.2.1 (Int.toNat s.2.1)).b)) + (at! .lk s.2.2.2.1 (Int.toNat s.2.1)).c))), ()))) else none) else none) else some (Sum.inl ((s.1, wrap64 ((s.2.1 + (1 : Int))), s.2.2.1, s.2.2.2.1, s.2.2.2.2.1, ())))) else none) else none)) else none) else some (Sum.inl ((s.1, wrap64 ((s.2.1 + (1 : Int))), s.2.2.1, s.2.2.2.1, s.2.2.2.2.1, ())))) else none)) else none) else none) else some (Sum.inr (Sum.inl ((s.1, s.2.2.1, s.2.2.2.1, s.2.2.2.2.1, ())))))
def bo_spec_l2Distances_8 (s : (Int × Int × List Lk × List Int × Unit)) : Option ((Int × Int × List Lk × List Int × Unit) ⊕ ((List Int × Unit) ⊕ Unit)) := (bif decide ((s.1 < s.2.1)) then (lp bo_spec_l2Distances_11 fuel ((s.1, ((0 : Int), (s.2.1, (s.2.2.1, (s.2.2.2.1, ()))))))).bind fun r0 => (match r0 with | .inl x1 => some (Sum.inl ((wrap64 ((x1.1 + (1 : Int))), x1.2.1, x1.2.2.1, x1.2.2.2.1, ()))) | .inr _ => none) else some (Sum.inr (Sum.inl ((s.2.2.2.1, ())))))
def sh_spec_l2Distances (s : (Int × List Lk × Int × Unit)) : Option (List Int × Unit) := (lp bo_spec_l2Distances_3 fuel ((s.2.2.1, ((0 : Int), (s.1, (s.2.1, (([] : List Int), ()))))))).bind fun r0 => (match r0 with | .inl x1 => (bif inR x1.1 (List.length x1.2.2.2.1) then (lp bo_spec_l2Distances_8 fuel (((0 : Int), (x1.2.1, (x1.2.2.1, (List.set x1.2.2.2.1 (Int.toNat x1.1) ((0 : Int)), ())))))).bind fun r2 => (match r2 with | .inl x3 => some ((x3.1, ())) | .inr _ => none) else none) | .inr _ => none)
def bo_impl_AreaSummary_5 (s : (List Int × Int × Int × List Int × List Int × Unit)) : Option ((List Int × Int × Int × List Int × List Int × Unit) ⊕ ((List Int × Unit) ⊕ Unit)) := (bif decide ((s.2.2.1 < s.2.1)) then (bif inR s.2.2.1 (List.length s.1) then (bif inR (at! .int s.1 (Int.toNat s.2.2.1)) (List.length s.2.2.2.2.1) then (bif decide (((List.length s.2.2.2.1 + List.length ([at! .int s.2.2.2.2.1 (Int.toNat (at! .int s.1 (Int.toNat s.2.2.1)))])) ≤ (33554432 : Nat))) then some (Sum.inl ((s.1, s.2.1, wrap64 ((s.2.2.1 + (1 : Int))), (s.2.2.2.1 ++ [at! .int s.2.2.2.2.1 (Int.toNat (at! .int s.1 (Int.toNat s.2.2.1)))]), s.2.2.2.2.1, ()))) else none) else none) else none) else some (Sum.inr (Sum.inl ((s.2.2.2.1, ())))))
def sh_impl_AreaSummary (s : (Int × List Lk × List Int × Int × Unit)) : Option (List Int × Unit) := (sh_impl_bordersValid ((s.1, (s.2.1, (s.2.2.1, ()))))).bind fun r0 => (bif (!r0.1) then some ((([] : List Int), ())) else (sh_impl_Graph_hasNode ((s.1, (s.2.1, (s.2.2.2.1, ()))))).bind fun r1 => (bif (!r1.1) then some ((([] : List Int), ())) else (sh_impl_Graph_distances ((s.1, (s.2.1, (s.2.2.2.1, ()))))).bind fun r2 => (lp bo_impl_AreaSummary_5 fuel ((s.2.2.1, (nI (List.length s.2.2.1), ((0 : Int), (([] : List Int), (r2.1, ()))))))).bind fun r3 => (match r3 with | .inl x4 => some ((x4.1, ())) | .inr _ => none)))
def bo_spec_AreaJoin_10 (s : (List Int × Int × Int × Int × List Lk × Int × List Lk × Int × List Lk × Int × List Lk × Unit)) : Option ((List Int × Int × Int × Int × List Lk × Int × List Lk × Int × List Lk × Int × List Lk × Unit) ⊕ ((List Int × Int × Int × List Lk × Int × List Lk × Int × List Lk × Int × List Lk × Unit) ⊕ Unit)) := (bif decide ((s.2.2.1 < s.2.2.2.1)) then (sh_spec_l1Link ((s.2.2.2.1, (s.2.2.2.2.1, (s.2.1, (s.2.2.1, ())))))).bind fun r0 => (sh_spec_l1Link ((s.2.2.2.2.2.1, (s.2.2.2.2.2.2.1, (s.2.1, (s.2.2.1, ())))))).bind fun r1 => (bif decide (((0 : Int) ≤ r0.1)) then (bif decide ((r1.1 < (0 : Int))) then (bif inR r0.1 (List.length s.2.2.2.2.1) then (bif decide (((List.length s.2.2.2.2.2.2.2.2.2.2.1 + List.length ([(Lk.mk ((at! .lk s.2.2.2.2.1 (Int.toNat r0.1)).a) ((at! .lk s.2.2.2.2.1 (Int.toNat r0.1)).b) ((at! .lk s.2.2.2.2.1 (Int.toNat r0.1)).c))])) ≤ (33554432 : Nat))) then some (Sum.inl ((s.1, s.2.1, wrap64 ((s.2.2.1 + (1 : Int))), s.2.2.2.1, s.2.2.2.2.1, s.2.2.2.2.2.1, s.2.2.2.2.2.2.1, s.2.2.2.2.2.2.2.1, s.2.2.2.2.2.2.2.2.1, s.2.2.2.2.2.2.2.2.2.1, (s.2.2.2.2.2.2.2.2.2.2.1 ++ [(Lk.mk ((at! .lk s.2.2.2.2.1 (Int.toNat r0.1)).a) ((at! .lk s.2.2.2.2.1 (Int.toNat r0.1)).b) ((at! .lk s.2.2.2.2.1 (Int.toNat r0.1)).c))]), ()))) else none) else none) else (bif inR r0.1 (List.length s.2.2.2.2.1) then (bif inR r1.1 (List.length s.2.2.2.2.2.2.1) then (bif decide (((at! .lk s.2.2.2.2.1 (Int.toNat r0.1)).c ≤ (at! .lk s.2.2.2.2.2.2.1 (Int.toNat r1.1)).c)) then (bif inR r0.1 (List.length s.2.2.2.2.1) then (bif decide (((List.length s.2.2.2.2.2.2.2.2.2.2.1 + List.length ([(Lk.mk ((at! .lk s.2.2.2.2.1 (Int.toNat r0.1)).a) ((at! .lk s.2.2.2.2.1 (Int.toNat r0.1)).b) ((at! .lk s.2.2.2.2.1 (Int.toNat r0.1)).c))])) ≤ (33554432 : Nat))) then some (Sum.inl ((s.1, s.2.1, wrap64 ((s.2.2.1 + (1 : Int))), s.2.2.2.1, s.2.2.2.2.1, s.2.2.2.2.2.1, s.2.2.2.2.2.2.1, s.2.2.2.2.2.2.2.1, s.2.2.2.2.2.2.2.2.1, s.2.2.2.2.2.2.2.2.2.1, (s.2.2.2.2.2.2.2.2.2.2.1 ++ [(Lk.mk ((at! .lk s.2.2.2.2.1 (Int.toNat r0.1)).a) ((at! .lk s.2.2.2.2.1 (Int.toNat r0.1)).b) ((at! .lk s.2.2.2.2.1 (Int.toNat r0.1)).c))]), ()))) else none) else none) else (bif decide (((0 : Int) ≤ r1.1)) then (bif inR r1.1 (List.length s.2.2.2.2.2.2.1) then (bif decide (((List.length s.2.2.2.2.2.2.2.2.2.2.1 + List.length ([(Lk.mk ((at! .lk s.2.2.2.2.2.2.1 (Int.toNat r1.1)).a) ((at! .lk s.2.2.2.2.2.2.1 (Int.toNat r1.1)).b) ((at! .lk s.2.2.2.2.2.2.1 (Int.toNat r1.1)).c))])) ≤ (33554432 : Nat))) then some (Sum.inl ((s.1, s.2.1, wrap64 ((s.2.2.1 + (1 : Int))), s.2.2.2.1, s.2.2.2.2.1, s.2.2.2.2.2.1, s.2.2.2.2.2.2.1, s.2.2.2.2.2.2.2.1, s.2.2.2.2.2.2.2.2.1, s.2.2.2.2.2.2.2.2.2.1, (s.2.2.2.2.2.2.2.2.2.2.1 ++ [(Lk.mk ((at! .lk s.2.2.2.2.2.2.1 (Int.toNat r1.1)).a) ((at! .lk s.2.2.2.2.2.2.1 (Int.toNat r1.1)).b) ((at! .lk s.2.2.2.2.2.2.1 (Int.toNat r1.1)).c))]), ()))) else none) else none) else some (Sum.inl ((s.1, s.2.1, wrap64 ((s.2.2.1 + (1 : Int))), s.2.2.2.1, s.2.2.2.2.1, s.2.2.2.2.2.1, s.2.2.2.2.2.2.1, s.2.2.2.2.2.2.2.1, s.2.2.2.2.2.2.2.2.1, s.2.2.2.2.2.2.2.2.2.1, s.2.2.2.2.2.2.2.2.2.2.1, ()))))) else none) else none)) else (bif decide (((0 : Int) ≤ r1.1)) then (bif inR r1.1 (List.length s.2.2.2.2.2.2.1) then (bif decide (((List.length s.2.2.2.2.2.2.2.2.2.2.1 + List.length ([(Lk.mk ((at! .lk s.2.2.2.2.2.2.1 (Int.toNat r1.1)).a) ((at! .lk s.2.2.2.2.2.2.1 (Int.toNat r1.1)).b) ((at! .lk s.2.2.2.2.2.2.1 (Int.toNat r1.1)).c))])) ≤ (33554432 : Nat))) then some (Sum.inl ((s.1, s.2.1, wrap64 ((s.2.2.1 + (1 : Int))), s.2.2.2.1, s.2.2.2.2.1, s.2.2.2.2.2.1, s.2.2.2.2.2.2.1, s.2.2.2.2.2.2.2.1, s.2.2.2.2.2.2.2.2.1, s.2.2.2.2.2.2.2.2.2.1, (s.2.2.2.2.2.2.2.2.2.2.1 ++ [(Lk.mk ((at! .lk s.2.2.2.2.2.2.1 (Int.toNat r1.1)).a) ((at! .lk s.2.2.2.2.2.2.1 (Int.toNat r1.1)).b) ((at! .lk s.2.2.2.2.2.2.1 (Int.toNat r1.1)).c))]), ()))) else none) else none) else some (Sum.inl ((s.1, s.2.1, wrap64 ((s.2.2.1 + (1 : Int))), s.2.2.2.1, s.2.2.2.2.1, s.2.2.2.2.2.1, s.2.2.2.2.2.2.1, s.2.2.2.2.2.2.2.1, s.2.2.2.2.2.2.2.2.1, s.2.2.2.2.2.2.2.2.2.1, s.2.2.2.2.2.2.2.2.2.2.1, ()))))) else some (Sum.inr (Sum.inl ((s.1, s.2.1, s.2.2.2.1, s.2.2.2.2.1, s.2.2.2.2.2.1, s.2.2.2.2.2.2.1, s.2.2.2.2.2.2.2.1, s.2.2.2.2.2.2.2.2.1, s.2.2.2.2.2.2.2.2.2.1, s.2.2.2.2.2.2.2.2.2.2.1, ())))))
def bo_spec_AreaJoin_5 (s : (List Int × Int × Int × List Lk × Int × List Lk × Int × List Lk × Int × List Lk × Unit)) : Option ((List Int × Int × Int × List Lk × Int × List Lk × Int × List Lk × Int × List Lk × Unit) ⊕ ((Int × List Lk × Int × List Lk × Unit) ⊕ (Bool × Int × List Lk × Unit))) := (bif decide ((s.2.1 < s.2.2.1)) then (sh_spec_l1Has ((s.1, (s.2.1, ())))).bind fun r0 => (bif (!r0.1) then (sh_spec_GraphNeighbours ((s.2.2.1, (s.2.2.2.1, (s.2.1, ()))))).bind fun r1 => (bif decide (((0 : Int) < nI (List.length r1.1))) then (sh_spec_GraphNeighbours ((s.2.2.2.2.1, (s.2.2.2.2.2.1, (s.2.1, ()))))).bind fun r2 => (bif decide (((0 : Int) < nI (List.length r2.1))) then some (Sum.inr (Sum.inr ((false, (0 : Int), ([] : List Lk), ())))) else (lp bo_spec_AreaJoin_10 fuel ((s.1, (s.2.1, (wrap64 ((s.2.1 + (1 : Int))), (s.2.2.1, (s.2.2.2.1, (s.2.2.2.2.1, (s.2.2.2.2.2.1, (s.2.2.2.2.2.2.1, (s.2.2.2.2.2.2.2.1, (s.2.2.2.2.2.2.2.2.1, (s.2.2.2.2.2.2.2.2.2.1, ()))))))))))))).bind fun r3 => (match r3 with | .inl x4 => some (Sum.inl ((x4.1, wrap64 ((x4.2.1 + (1 : Int))), x4.2.2.1, x4.2.2.2.1, x4.2.2.2.2.1, x4.2.2.2.2.2.1, x4.2.2.2.2.2.2.1, x4.2.2.2.2.2.2.2.1, x4.2.2.2.2.2.2.2.2.1, x4.2.2.2.2.2.2.2.2.2.1, ()))) | .inr _ => none)) else (lp bo_spec_AreaJoin_10 fuel ((s.1, (s.2.1, (wrap64 ((s.2.1 + (1 : Int))), (s.2.2.1, (s.2.2.2.1, (s.2.2.2.2.1, (s.2.2.2.2.2.1, (s.2.2.2.2.2.2.1, (s.2.2.2.2.2.2.2.1, (s.2.2.2.2.2.2.2.2.1, (s.2.2.2.2.2.2.2.2.2.1, ()))))))))))))).bind fun r5 => (match r5 with | .inl x6 => some (Sum.inl ((x6.1, wrap64 ((x6.2.1 + (1 : Int))), x6.2.2.1, x6.2.2.2.1, x6.2.2.2.2.1, x6.2.2.2.2.2.1, x6.2.2.2.2.2.2.1, x6.2.2.2.2.2.2.2.1, x6.2.2.2.2.2.2.2.2.1, x6.2.2.2.2.2.2.2.2.2.1, ()))) | .inr _ => none)) else (lp bo_spec_AreaJoin_10 fuel ((s.1, (s.2.1, (wrap64 ((s.2.1 + (1 : Int))), (s.2.2.1, (s.2.2.2.1, (s.2.2.2.2.1, (s.2.2.2.2.2.1, (s.2.2.2.2.2.2.1, (s.2.2.2.2.2.2.2.1, (s.2.2.2.2.2.2.2.2.1, (s.2.2.2.2.2.2.2.2.2.1, ()))))))))))))).bind fun r7 => (match r7 with | .inl x8 => some (Sum.inl ((x8.1, wrap64 ((x8.2.1 + (1 : Int))), x8.2.2.1, x8.2.2.2.1, x8.2.2.2.2.1, x8.2.2.2.2.2.1, x8.2.2.2.2.2.2.1, x8.2.2.2.2.2.2.2.1, x8.2.2.2.2.2.2.2.2.1, x8.2.2.2.2.2.2.2.2.2.1, ()))) | .inr _ => none)) else some (Sum.inr (Sum.inl ((s.2.2.2.2.2.2.1, s.2.2.2.2.2.2.2.1, s.2.2.2.2.2.2.2.2.1, s.2.2.2.2.2.2.2.2.2.1, ())))))
def sh_spec_AreaJoin (s : (Int × List Lk × Int × List Lk × List Int × Unit)) : Option (Int × Bool × List Lk × Unit) := (sh_spec_l31Borders ((s.1, (s.2.1, (s.2.2.2.2.1, ()))))).bind fun r0 => (bif (!r0.1) then some (((0 : Int), false, ([] : List Lk), ())) else (sh_spec_l31Borders ((s.2.2.1, (s.2.2.2.1, (s.2.2.2.2.1, ()))))).bind fun r1 => (bif (!r1.1) then some (((0 : Int), false, ([] : List Lk), ())) else (bif (!(decide ((s.1 = s.2.2.1)))) then some (((0 : Int), false, ([] : List Lk), ())) else (lp bo_spec_AreaJoin_5 fuel ((s.2.2.2.2.1, ((0 : Int), (s.1, (s.2.1, (s.2.2.1, (s.2.2.2.1, ((0 : Int), (([] : List Lk), (s.1, (([] : List Lk), ())))))))))))).bind fun r2 => (match r2 with | .inl x3 => (sh_spec_GraphValid ((x3.2.2.1, (x3.2.2.2.1, ())))).bind fun r4 => (bif (!r4.1) then some (((0 : Int), false, ([] : List Lk), ())) else some ((x3.2.2.1, true, x3.2.2.2.1, ()))) | .inr y3 => some ((y3.2.1, y3.1, y3.2.2.1, ()))))))
def bo_spec_AreaSummary_3 (s : (List Int × Int × Int × Int × List Lk × List Int × Unit)) : Option ((List Int × Int × Int × Int × List Lk × List Int × Unit) ⊕ ((List Int × Unit) ⊕ Unit)) := (bif decide ((s.2.2.1 < nI (List.length s.1))) then (sh_spec_l31Borders ((s.2.2.2.1, (s.2.2.2.2.1, (s.1, ()))))).bind fun r0 => (bif r0.1 then (sh_spec_l1Node ((s.2.2.2.1, (s.2.2.2.2.1, (s.2.1, ()))))).bind fun r1 => (bif r1.1 then (bif inR s.2.2.1 (List.length s.1) then (sh_spec_l2Distances ((s.2.2.2.1, (s.2.2.2.2.1, (s.2.1, ()))))).bind fun r2 => (bif inR (at! .int s.1 (Int.toNat s.2.2.1)) (List.length r2.1) then (bif decide (((List.length s.2.2.2.2.2.1 + List.length ([at! .int r2.1 (Int.toNat (at! .int s.1 (Int.toNat s.2.2.1)))])) ≤ (33554432 : Nat))) then some (Sum.inl ((s.1, s.2.1, wrap64 ((s.2.2.1 + (1 : Int))), s.2.2.2.1, s.2.2.2.2.1, (s.2.2.2.2.2.1 ++ [at! .int r2.1 (Int.toNat (at! .int s.1 (Int.toNat s.2.2.1)))]), ()))) else none) else none) else none) else some (Sum.inr (Sum.inl ((s.2.2.2.2.2.1, ()))))) else some (Sum.inr (Sum.inl ((s.2.2.2.2.2.1, ()))))) else some (Sum.inr (Sum.inl ((s.2.2.2.2.2.1, ())))))
def sh_spec_AreaSummary (s : (Int × List Lk × List Int × Int × Unit)) : Option (List Int × Unit) := (lp bo_spec_AreaSummary_3 fuel ((s.2.2.1, (s.2.2.2.1, ((0 : Int), (s.1, (s.2.1, (([] : List Int), ())))))))).bind fun r0 => (match r0 with | .inl x1 => some ((x1.1, ())) | .inr _ => none)
def bo_impl_AreaJoin_14 (s : (List Int × Int × Int × Int × Int × Int × Int × Int × Int × List Lk × Int × List Lk × Int × Int × List Gr × List Lk × List Lk × Unit)) : Option ((List Int × Int × Int × Int × Int × Int × Int × Int × Int × List Lk × Int × List Lk × Int × Int × List Gr × List Lk × List Lk × Unit) ⊕ ((List Int × Int × Int × Int × Int × Int × Int × List Lk × Int × List Lk × Int × Int × List Lk × List Lk × Unit) ⊕ Unit)) := (bif decide ((s.2.2.2.2.2.2.2.1 < s.2.2.2.2.2.2.1)) then (bif inR s.2.2.2.2.2.2.2.1 (List.length s.2.2.2.2.2.2.2.2.2.2.2.2.2.2.1) then (sh_impl_Graph_linkOf (((at! .gr s.2.2.2.2.2.2.2.2.2.2.2.2.2.2.1 (Int.toNat s.2.2.2.2.2.2.2.1)).n, ((at! .gr s.2.2.2.2.2.2.2.2.2.2.2.2.2.2.1 (Int.toNat s.2.2.2.2.2.2.2.1)).l, (s.2.1, (s.2.2.1, ())))))).bind fun r0 => (bif decide (((0 : Int) ≤ r0.1)) then (bif decide ((s.2.2.2.1 = (0 : Int))) then (bif inR r0.1 (List.length ((at! .gr s.2.2.2.2.2.2.2.2.2.2.2.2.2.2.1 (Int.toNat s.2.2.2.2.2.2.2.1)).l)) then some (Sum.inl ((s.1, s.2.1, s.2.2.1, (at! .lk ((at! .gr s.2.2.2.2.2.2.2.2.2.2.2.2.2.2.1 (Int.toNat s.2.2.2.2.2.2.2.1)).l) (Int.toNat r0.1)).c, s.2.2.2.2.1, s.2.2.2.2.2.1, s.2.2.2.2.2.2.1, wrap64 ((s.2.2.2.2.2.2.2.1 + (1 : Int))), s.2.2.2.2.2.2.2.2.1, s.2.2.2.2.2.2.2.2.2.1, s.2.2.2.2.2.2.2.2.2.2.1, s.2.2.2.2.2.2.2.2.2.2.2.1, s.2.2.2.2.2.2.2.2.2.2.2.2.1, s.2.2.2.2.2.2.2.2.2.2.2.2.2.1, s.2.2.2.2.2.2.2.2.2.2.2.2.2.2.1, s.2.2.2.2.2.2.2.2.2.2.2.2.2.2.2.1, s.2.2.2.2.2.2.2.2.2.2.2.2.2.2.2.2.1, ()))) else none) else (bif inR r0.1 (List.length ((at! .gr s.2.2.2.2.2.2.2.2.2.2.2.2.2.2.1 (Int.toNat s.2.2.2.2.2.2.2.1)).l)) then (bif decide (((at! .lk ((at! .gr s.2.2.2.2.2.2.2.2.2.2.2.2.2.2.1 (Int.toNat s.2.2.2.2.2.2.2.1)).l) (Int.toNat r0.1)).c < s.2.2.2.1)) then (bif inR r0.1 (List.length ((at! .gr s.2.2.2.2.2.2.2.2.2.2.2.2.2.2.1 (Int.toNat s.2.2.2.2.2.2.2.1)).l)) then some (Sum.inl ((s.1, s.2.1, s.2.2.1, (at! .lk ((at! .gr s.2.2.2.2.2.2.2.2.2.2.2.2.2.2.1 (Int.toNat s.2.2.2.2.2.2.2.1)).l) (Int.toNat r0.1)).c, s.2.2.2.2.1, s.2.2.2.2.2.1, s.2.2.2.2.2.2.1, wrap64 ((s.2.2.2.2.2.2.2.1 + (1 : Int))), s.2.2.2.2.2.2.2.2.1, s.2.2.2.2.2.2.2.2.2.1, s.2.2.2.2.2.2.2.2.2.2.1, s.2.2.2.2.2.2.2.2.2.2.2.1, s.2.2.2.2.2.2.2.2.2.2.2.2.1, s.2.2.2.2.2.2.2.2.2.2.2.2.2.1, s.2.2.2.2.2.2.2.2.2.2.2.2.2.2.1, s.2.2.2.2.2.2.2.2.2.2.2.2.2.2.2.1, s.2.2.2.2.2.2.2.2.2.2.2.2.2.2.2.2.1, ()))) else none) else some (Sum.inl ((s.1, s.2.1, s.2.2.1, s.2.2.2.1, s.2.2.2.2.1, s.2.2.2.2.2.1, s.2.2.2.2.2.2.1, wrap64 ((s.2.2.2.2.2.2.2.1 + (1 : Int))), s.2.2.2.2.2.2.2.2.1, s.2.2.2.2.2.2.2.2.2.1, s.2.2.2.2.2.2.2.2.2.2.1, s.2.2.2.2.2.2.2.2.2.2.2.1, s.2.2.2.2.2.2.2.2.2.2.2.2.1, s.2.2.2.2.2.2.2.2.2.2.2.2.2.1, s.2.2.2.2.2.2.2.2.2.2.2.2.2.2.1, s.2.2.2.2.2.2.2.2.2.2.2.2.2.2.2.1, s.2.2.2.2.2.2.2.2.2.2.2.2.2.2.2.2.1, ())))) else none)) else some (Sum.inl ((s.1, s.2.1, s.2.2.1, s.2.2.2.1, s.2.2.2.2.1, s.2.2.2.2.2.1, s.2.2.2.2.2.2.1, wrap64 ((s.2.2.2.2.2.2.2.1 + (1 : Int))), s.2.2.2.2.2.2.2.2.1, s.2.2.2.2.2.2.2.2.2.1, s.2.2.2.2.2.2.2.2.2.2.1, s.2.2.2.2.2.2.2.2.2.2.2.1, s.2.2.2.2.2.2.2.2.2.2.2.2.1, s.2.2.2.2.2.2.2.2.2.2.2.2.2.1, s.2.2.2.2.2.2.2.2.2.2.2.2.2.2.1, s.2.2.2.2.2.2.2.2.2.2.2.2.2.2.2.1, s.2.2.2.2.2.2.2.2.2.2.2.2.2.2.2.2.1, ())))) else none) else some (Sum.inr (Sum.inl ((s.1, s.2.1, s.2.2.1, s.2.2.2.1, s.2.2.2.2.1, s.2.2.2.2.2.1, s.2.2.2.2.2.2.2.2.1, s.2.2.2.2.2.2.2.2.2.1, s.2.2.2.2.2.2.2.2.2.2.1, s.2.2.2.2.2.2.2.2.2.2.2.1, s.2.2.2.2.2.2.2.2.2.2.2.2.1, s.2.2.2.2.2.2.2.2.2.2.2.2.2.1, s.2.2.2.2.2.2.2.2.2.2.2.2.2.2.2.1, s.2.2.2.2.2.2.2.2.2.2.2.2.2.2.2.2.1, ())))))
def bo_impl_AreaJoin_10 (s : (List Int × Int × Int × Int × Int × Int × List Lk × Int × List Lk × Int × Int × List Lk × List Lk × Unit)) : Option ((List Int × Int × Int × Int × Int × Int × List Lk × Int × List Lk × Int × Int × List Lk × List Lk × Unit) ⊕ ((List Int × Int × Int × Int × List Lk × Int × List Lk × Int × Int × List Lk × List Lk × Unit) ⊕ Unit)) := (bif decide ((s.2.2.1 < s.2.2.2.2.2.1)) then (lp bo_impl_AreaJoin_14 fuel ((s.1, (s.2.1, (s.2.2.1, ((0 : Int), (s.2.2.2.1, (s.2.2.2.2.1, (nI (List.length ([(Gr.mk s.2.2.2.2.2.1 s.2.2.2.2.2.2.1), (Gr.mk s.2.2.2.2.2.2.2.1 s.2.2.2.2.2.2.2.2.1)])), ((0 : Int), (s.2.2.2.2.2.1, (s.2.2.2.2.2.2.1, (s.2.2.2.2.2.2.2.1, (s.2.2.2.2.2.2.2.2.1, (s.2.2.2.2.2.2.2.2.2.1, (s.2.2.2.2.2.2.2.2.2.2.1, ([(Gr.mk s.2.2.2.2.2.1 s.2.2.2.2.2.2.1), (Gr.mk s.2.2.2.2.2.2.2.1 s.2.2.2.2.2.2.2.2.1)], (s.2.2.2.2.2.2.2.2.2.2.2.1, (s.2.2.2.2.2.2.2.2.2.2.2.2.1, ()))))))))))))))))))).bind fun r0 => (match r0 with | .inl x1 => (bif decide (((0 : Int) < x1.2.2.2.1)) then (bif decide (((List.length x1.2.2.2.2.2.2.2.2.2.2.2.2.2.1 + List.length ([(Lk.mk x1.2.1 x1.2.2.1 x1.2.2.2.1)])) ≤ (33554432 : Nat))) then some (Sum.inl ((x1.1, x1.2.1, wrap64 ((x1.2.2.1 + (1 : Int))), x1.2.2.2.2.1, x1.2.2.2.2.2.1, x1.2.2.2.2.2.2.1, x1.2.2.2.2.2.2.2.1, x1.2.2.2.2.2.2.2.2.1, x1.2.2.2.2.2.2.2.2.2.1, x1.2.2.2.2.2.2.2.2.2.2.1, x1.2.2.2.2.2.2.2.2.2.2.2.1, x1.2.2.2.2.2.2.2.2.2.2.2.2.1, (x1.2.2.2.2.2.2.2.2.2.2.2.2.2.1 ++ [(Lk.mk x1.2.1 x1.2.2.1 x1.2.2.2.1)]), ()))) else none) else some (Sum.inl ((x1.1, x1.2.1, wrap64 ((x1.2.2.1 + (1 : Int))), x1.2.2.2.2.1, x1.2.2.2.2.2.1, x1.2.2.2.2.2.2.1, x1.2.2.2.2.2.2.2.1, x1.2.2.2.2.2.2.2.2.1, x1.2.2.2.2.2.2.2.2.2.1, x1.2.2.2.2.2.2.2.2.2.2.1, x1.2.2.2.2.2.2.2.2.2.2.2.1, x1.2.2.2.2.2.2.2.2.2.2.2.2.1, x1.2.2.2.2.2.2.2.2.2.2.2.2.2.1, ())))) | .inr _ => none) else some (Sum.inr (Sum.inl ((s.1, s.2.2.2.1, s.2.2.2.2.1, s.2.2.2.2.2.1, s.2.2.2.2.2.2.1, s.2.2.2.2.2.2.2.1, s.2.2.2.2.2.2.2.2.1, s.2.2.2.2.2.2.2.2.2.1, s.2.2.2.2.2.2.2.2.2.2.1, s.2.2.2.2.2.2.2.2.2.2.2.1, s.2.2.2.2.2.2.2.2.2.2.2.2.1, ())))))
def bo_impl_AreaJoin_5 (s : (List Int × Int × Int × Int × List Lk × Int × List Lk × Int × Int × List Lk × List Lk × Unit)) : Option ((List Int × Int × Int × Int × List Lk × Int × List Lk × Int × Int × List Lk × List Lk × Unit) ⊕ ((Int × Int × List Lk × List Lk × Unit) ⊕ (Bool × Int × List Lk × Unit))) := (bif decide ((s.2.2.1 < s.2.1)) then (sh_slices_Contains_int_int ((s.1, (s.2.2.1, ())))).bind fun r0 => (bif (!r0.1) then (sh_impl_Graph_neighbours ((s.2.2.2.1, (s.2.2.2.2.1, (s.2.2.1, ()))))).bind fun r1 => (bif decide (((0 : Int) < nI (List.length r1.1))) then (sh_impl_Graph_neighbours ((s.2.2.2.2.2.1, (s.2.2.2.2.2.2.1, (s.2.2.1, ()))))).bind fun r2 => (bif decide (((0 : Int) < nI (List.length r2.1))) then some (Sum.inr (Sum.inr ((false, (0 : Int), ([] : List Lk), ())))) else (lp bo_impl_AreaJoin_10 fuel ((s.1, (s.2.2.1, (wrap64 ((s.2.2.1 + (1 : Int))), (s.2.1, (s.2.2.1, (s.2.2.2.1, (s.2.2.2.2.1, (s.2.2.2.2.2.1, (s.2.2.2.2.2.2.1, (s.2.2.2.2.2.2.2.1, (s.2.2.2.2.2.2.2.2.1, (s.2.2.2.2.2.2.2.2.2.1, (s.2.2.2.2.2.2.2.2.2.2.1, ()))))))))))))))).bind fun r3 => (match r3 with | .inl x4 => some (Sum.inl ((x4.1, x4.2.1, wrap64 ((x4.2.2.1 + (1 : Int))), x4.2.2.2.1, x4.2.2.2.2.1, x4.2.2.2.2.2.1, x4.2.2.2.2.2.2.1, x4.2.2.2.2.2.2.2.1, x4.2.2.2.2.2.2.2.2.1, x4.2.2.2.2.2.2.2.2.2.1, x4.2.2.2.2.2.2.2.2.2.2.1, ()))) | .inr _ => none)) else (lp bo_impl_AreaJoin_10 fuel ((s.1, (s.2.2.1, (wrap64 ((s.2.2.1 + (1 : Int))), (s.2.1, (s.2.2.1, (s.2.2.2.1, (s.2.2.2.2.1, (s.2.2.2.2.2.1, (s.2.2.2.2.2.2.1, (s.2.2.2.2.2.2.2.1, (s.2.2.2.2.2.2.2.2.1, (s.2.2.2.2.2.2.2.2.2.1, (s.2.2.2.2.2.2.2.2.2.2.1, ()))))))))))))))).bind fun r5 => (match r5 with | .inl x6 => some (Sum.inl ((x6.1, x6.2.1, wrap64 ((x6.2.2.1 + (1 : Int))), x6.2.2.2.1, x6.2.2.2.2.1, x6.2.2.2.2.2.1, x6.2.2.2.2.2.2.1, x6.2.2.2.2.2.2.2.1, x6.2.2.2.2.2.2.2.2.1, x6.2.2.2.2.2.2.2.2.2.1, x6.2.2.2.2.2.2.2.2.2.2.1, ()))) | .inr _ => none)) else (lp bo_impl_AreaJoin_10 fuel ((s.1, (s.2.2.1, (wrap64 ((s.2.2.1 + (1 : Int))), (s.2.1, (s.2.2.1, (s.2.2.2.1, (s.2.2.2.2.1, (s.2.2.2.2.2.1, (s.2.2.2.2.2.2.1, (s.2.2.2.2.2.2.2.1, (s.2.2.2.2.2.2.2.2.1, (s.2.2.2.2.2.2.2.2.2.1, (s.2.2.2.2.2.2.2.2.2.2.1, ()))))))))))))))).bind fun r7 => (match r7 with | .inl x8 => some (Sum.inl ((x8.1, x8.2.1, wrap64 ((x8.2.2.1 + (1 : Int))), x8.2.2.2.1, x8.2.2.2.2.1, x8.2.2.2.2.2.1, x8.2.2.2.2.2.2.1, x8.2.2.2.2.2.2.2.1, x8.2.2.2.2.2.2.2.2.1, x8.2.2.2.2.2.2.2.2.2.1, x8.2.2.2.2.2.2.2.2.2.2.1, ()))) | .inr _ => none)) else some (Sum.inr (Sum.inl ((s.2.2.2.2.2.2.2.1, s.2.2.2.2.2.2.2.2.1, s.2.2.2.2.2.2.2.2.2.1, s.2.2.2.2.2.2.2.2.2.2.1, ())))))
def sh_impl_AreaJoin (s : (Int × List Lk × Int × List Lk × List Int × Unit)) : Option (Int × Bool × List Lk × Unit) := (sh_impl_bordersValid ((s.1, (s.2.1, (s.2.2.2.2.1, ()))))).bind fun r0 => (bif (!r0.1) then some (((0 : Int), false, ([] : List Lk), ())) else (sh_impl_bordersValid ((s.2.2.1, (s.2.2.2.1, (s.2.2.2.2.1, ()))))).bind fun r1 => (bif (!r1.1) then some (((0 : Int), false, ([] : List Lk), ())) else (bif (!(decide ((s.1 = s.2.2.1)))) then some (((0 : Int), false, ([] : List Lk), ())) else (lp bo_impl_AreaJoin_5 fuel ((s.2.2.2.2.1, (s.1, ((0 : Int), (s.1, (s.2.1, (s.2.2.1, (s.2.2.2.1, ((0 : Int), (s.1, (([] : List Lk), (([] : List Lk), ()))))))))))))).bind fun r2 => (match r2 with | .inl x3 => (bif decide (((14 : Int) < nI (List.length x3.2.2.2.1))) then some (((0 : Int), false, ([] : List Lk), ())) else some ((x3.2.1, true, x3.2.2.2.1, ()))) | .inr y3 => some ((y3.2.1, y3.1, y3.2.2.1, ()))))))
end Go.Proofs.Ythcckenjkicmgaa
end
