/- Plain data as values of the abstract machine. No program is named here. -/
import Derived.Test.YtkeihpihphefgaaAx9
import Derived.Test.YtkeihpihphefgaaGraph
namespace Go.Proofs.Ytkeihpihphefgaa
open Go.RowKit

theorem ims_len (xs : List IV) : (ims xs).length = xs.length := by simp [ims]
theorem ims_app (xs ys : List IV) : ims xs ++ ims ys = ims (xs ++ ys) := by simp [ims]
abbrev iI (z : Int) : IV := .s (.int .i64 z)
def intsI (zs : List Int) : List IV := zs.map iI
theorem ints_lenI (zs : List Int) : (intsI zs).length = zs.length := by simp [intsI]
theorem ages_ints (zs : List Int) : ages (intsI zs) = intsI zs := ages_flat (by simp [intsI, IV.flat])
theorem ints_get {zs : List Int} {k : Nat} (h : k < zs.length) : (intsI zs)[k * 1]? = some (iI (iz zs k)) := by
  rw [Nat.mul_one, intsI, List.getElem?_map, iz_get h]; rfl
def Lk.rowI (l : Lk) : List IV := [iI l.a, iI l.b, iI l.c]
def lksI (ls : List Lk) : List IV := ls.flatMap Lk.rowI
theorem lks_lenI (ls : List Lk) : (lksI ls).length = ls.length * 3 := by
  induction ls with
  | nil => rfl
  | cons l r ih => rw [lksI, List.flatMap_cons, List.length_append, List.length_cons]; unfold lksI at ih; rw [ih]; simp [Lk.rowI]; omega
theorem ages_lks (ls : List Lk) : ages (lksI ls) = lksI ls := ages_flat (by simp [lksI, Lk.rowI, IV.flat])
theorem flatI_get {α : Type} (enc : α → List IV) (size : Nat) (hs : ∀ x, (enc x).length = size) (ls : List α) (i j : Nat) (x : α) (hi : ls[i]? = some x) (hj : j < size) : (ls.flatMap enc)[i * size + j]? = (enc x)[j]? := by
  induction ls generalizing i with
  | nil => simp at hi
  | cons y r ih =>
    rw [List.flatMap_cons]
    cases i with
    | zero =>
      simp only [List.getElem?_cons_zero, Option.some.injEq] at hi
      subst hi
      rw [Nat.zero_mul, Nat.zero_add, List.getElem?_append_left (by rw [hs]; exact hj)]
    | succ i =>
      rw [List.getElem?_append_right (by rw [hs, Nat.succ_mul]; omega), hs, show (i + 1) * size + j - size = i * size + j by rw [Nat.succ_mul]; omega]
      exact ih i (by simpa using hi)
theorem flatI_row {α : Type} (enc : α → List IV) (size : Nat) (hs : ∀ x, (enc x).length = size) (ls : List α) (i : Nat) (x : α) (hi : ls[i]? = some x) : ((ls.flatMap enc).drop (i * size)).take size = enc x := by
  refine List.ext_getElem? fun j => ?_
  rw [List.getElem?_take]
  split
  · rename_i hj
    rw [List.getElem?_drop, flatI_get enc size hs ls i j x hi hj]
  · rw [List.getElem?_eq_none (by rw [hs]; omega)]
theorem lks_a {ls : List Lk} {k : Nat} (h : k < ls.length) : (lksI ls)[k * 3 + 0]? = some (iI (lk ls k).a) := (flatI_get Lk.rowI 3 (fun _ => rfl) ls k 0 _ (lk_get h) (by omega)).trans rfl
theorem lks_b {ls : List Lk} {k : Nat} (h : k < ls.length) : (lksI ls)[k * 3 + 1]? = some (iI (lk ls k).b) := (flatI_get Lk.rowI 3 (fun _ => rfl) ls k 1 _ (lk_get h) (by omega)).trans rfl
theorem lks_c {ls : List Lk} {k : Nat} (h : k < ls.length) : (lksI ls)[k * 3 + 2]? = some (iI (lk ls k).c) := (flatI_get Lk.rowI 3 (fun _ => rfl) ls k 2 _ (lk_get h) (by omega)).trans rfl
theorem lks_row {ls : List Lk} {k : Nat} (h : k < ls.length) : ((lksI ls).drop (k * 3)).take 3 = [iI (lk ls k).a, iI (lk ls k).b, iI (lk ls k).c] := flatI_row Lk.rowI 3 (fun _ => rfl) ls k _ (lk_get h)
theorem ints_app1 (zs : List Int) (z : Int) : ims (intsI zs) ++ [.im (iI z)] = ims (intsI (zs ++ [z])) := by simp [ims, intsI]
theorem lks_app1 (ls : List Lk) (l : Lk) : ims (lksI ls) ++ [.im (iI l.a), .im (iI l.b), .im (iI l.c)] = ims (lksI (ls ++ [l])) := by simp [ims, lksI, Lk.rowI]
theorem wr_ims (xs ys : List IV) (p : Nat) : wr (ims xs) p (ims ys) = ims (wr xs p ys) := by simp [wr, ims]
theorem wr_flat {α : Type} (enc : α → List IV) (size : Nat) (hs : ∀ x, (enc x).length = size) (ls : List α) (i : Nat) (x : α) (hi : i < ls.length) : wr (ls.flatMap enc) (i * size) (enc x) = (ls.set i x).flatMap enc := by
  induction ls generalizing i with
  | nil => simp at hi
  | cons y r ih =>
    cases i with
    | zero => simp [wr, hs]
    | succ i =>
      rw [List.set_cons_succ, List.flatMap_cons, List.flatMap_cons, ← ih i (by simpa using hi)]
      have e : (i + 1) * size = (enc y).length + i * size := by rw [hs, Nat.succ_mul]; omega
      unfold wr
      rw [e, List.take_length_add_append, Nat.add_assoc, List.drop_length_add_append]
      simp
theorem wr_lks {ls : List Lk} {k : Nat} (a b c : Int) (h : k < ls.length) : wr (ims (lksI ls)) (k * 3) [.im (iI a), .im (iI b), .im (iI c)] = ims (lksI (ls.set k ⟨a, b, c⟩)) :=
  (wr_ims (lksI ls) (Lk.rowI ⟨a, b, c⟩) (k * 3)).trans (by rw [lksI, wr_flat Lk.rowI 3 (fun _ => rfl) ls k ⟨a, b, c⟩ h]; rfl)
theorem wr_ints {zs : List Int} {k : Nat} (z : Int) (h : k < zs.length) : wr (ims (intsI zs)) (k * 1) [.im (iI z)] = ims (intsI (zs.set k z)) := by
  have := wr_flat (fun z : Int => [iI z]) 1 (fun _ => rfl) zs k z h
  have e : ∀ l : List Int, l.flatMap (fun z => [iI z]) = intsI l := fun l => by induction l with | nil => rfl | cons x r ih => rw [List.flatMap_cons, ih]; rfl
  rw [e, e] at this
  exact (wr_ims (intsI zs) [iI z] (k * 1)).trans (by rw [this])
theorem zero_lks (n : Nat) : (List.replicate n (List.map IV.s [.int .i64 0, .int .i64 0, .int .i64 0])).flatten = lksI (List.replicate n ⟨0, 0, 0⟩) := by
  induction n with
  | zero => rfl
  | succ n ih => rw [List.replicate_succ, List.flatten_cons, ih]; simp [lksI, Lk.rowI, List.replicate_succ]
theorem zero_ints (n : Nat) : (List.replicate n (List.map IV.s [.int .i64 0])).flatten = intsI (List.replicate n 0) := by
  induction n with
  | zero => rfl
  | succ n ih => rw [List.replicate_succ, List.flatten_cons, ih]; simp [intsI, List.replicate_succ]
theorem newI_lks (ls : List Lk) : ∀ x ∈ lksI ls, NewI x := newI_flat (by simp [lksI, Lk.rowI, IV.flat])
theorem newI_ints (zs : List Int) : ∀ x ∈ intsI zs, NewI x := newI_flat (by simp [intsI, IV.flat])
/-- Lengths, under one name. -/
theorem axl : (∀ xs : List IV, (ims xs).length = xs.length) ∧ (∀ zs, (intsI zs).length = zs.length) ∧ (∀ ls, (lksI ls).length = ls.length * 3) ∧ (∀ xs ys : List PV, (xs ++ ys).length = xs.length + ys.length) ∧ (∀ (x : PV) xs, (x :: xs).length = xs.length + 1) ∧ (([] : List PV).length = 0) :=
  ⟨ims_len, ints_lenI, lks_lenI, fun _ _ => List.length_append, fun _ _ => rfl, rfl⟩
/-- A call whose contract's side conditions are shown after its arguments are known. -/
theorem ef_call2 {P : Program} {t : List (Nat × PV)} {h : List AObj} {d : Nat} {o : Oper} {f : FuncId} {args : Array Operand} {ts : Array TypeId} {ds : List PV} {R : PV → List AObj → Prop} [T : TC P f] (ho : o.dst = some d) (hop : o.op = .call { callee := .value (.func f), args, argTypes := ts }) (hx : F2 (fun x d => ∃ v, opv t x = some v ∧ Fz h v d) args.toList ds) (hc : AC P f ds R) :
    EffR P true o ⟨t, h⟩ (fun st' => ∃ r hr, R r hr ∧ st' = ⟨(d, sh h.length r) :: t, pushs h (shH h.length hr)⟩) := ef_call ho hop hc hx
end Go.Proofs.Ytkeihpihphefgaa
