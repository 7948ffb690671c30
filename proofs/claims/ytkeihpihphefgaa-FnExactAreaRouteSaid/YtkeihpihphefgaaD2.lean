/- Draws: the frame of a draw, and the draws of this seat. -/
import Derived.Test.YtkeihpihphefgaaD1
namespace Go.Proofs.Ytkeihpihphefgaa
open Go.RowKit

/-! ### The frame of a draw: the reader turns, all else that was there stays -/
/-- At most q bytes are read. -/
def DR (w0 : World) (B g q : Nat) (w : World) : Prop := w0.grownBy w (some g) ∧ B ≤ w0.heap.size ∧ ∃ p, p ≤ q ∧ IsR w B g p
section
variable {w0 w w' : World} {B g q q' : Nat}
theorem DR.mono (h : DR w0 B g q w) (hq : q ≤ q') : DR w0 B g q' w := by
  obtain ⟨h1, h2, p, h3, h4⟩ := h
  exact ⟨h1, h2, p, by omega, h4⟩
theorem DR.start {p : Nat} (h : IsR w B g p) : DR w B g p w := ⟨only_of_below (Below.refl _ _) _, h.2.1, p, Nat.le_refl _, h⟩
theorem DR.begin (h : DR w0 B g q w) : DR w B g q w := by
  obtain ⟨h1, h2, p, h3, h4⟩ := h
  exact ⟨only_of_below (Below.refl _ _) _, Nat.le_trans h2 h1.size, p, h3, h4⟩
theorem DR.alloc (h : DR w0 B g q w) (o : Obj) : DR w0 B g q (w.alloc o) := by
  obtain ⟨h1, h2, p, h3, h4⟩ := h
  exact ⟨only_alloc h1 o, h2, p, h3, h4.alloc o⟩
theorem DR.drew (h : DR w0 B g q w) : DR w0 B g q w.drew := by
  obtain ⟨h1, h2, p, h3, h4⟩ := h
  exact ⟨only_drew h1, h2, p, h3, h4.drew⟩
theorem DR.drewN (h : DR w0 B g q w) (n : Nat) : DR w0 B g q (w.drewN n) := by
  obtain ⟨h1, h2, p, h3, h4⟩ := h
  exact ⟨only_drewN h1 n, h2, p, h3, h4.drewN n⟩
theorem DR.set_ (h : DR w0 B g q w) {a : Addr} (ha : w0.heap.size ≤ a.block) (u : Value) : DR w0 B g q (w.setCell a u) := by
  obtain ⟨h1, h2, p, h3, h4⟩ := h
  exact ⟨only_setCell h1 (.inr ha) u, h2, p, h3, h4.set_ (Nat.le_trans h2 ha) u⟩
theorem DR.below (h : DR w0 B g q w) (hb : Below w0.heap.size w w') : DR w0 B g q w' := by
  obtain ⟨h1, h2, p, h3, h4⟩ := h
  exact ⟨⟨hb.os.trans h1.os, hb.tape.trans h1.tape, hb.output.trans h1.output, Nat.le_trans h1.size hb.size, fun i hi hne => (hb.block i hi).trans (h1.block i hi hne)⟩, h2, p, h3, h4.below (hb.mono h2)⟩
/-- Behind a row that grows: the row is new since w0. -/
theorem DR.grown {row : Option Nat} (h : DR w0 B g q w) (hg : w.grownBy w' row) (hr : ∀ b, row = some b → w0.heap.size ≤ b) : DR w0 B g q w' :=
  h.below ((Below.refl _ w).grown hg h.1.size hr)
/-- Behind a draw. -/
theorem DR.then (h : DR w0 B g q w) (k : DR w B g q' w') : DR w0 B g q' w' := by
  obtain ⟨h1, h2, _⟩ := h
  obtain ⟨k1, k2, p, k3, k4⟩ := k
  exact ⟨only_trans h1 k1 (fun i e => .inl e), h2, p, k3, k4⟩
theorem DR.cells (h : DR w0 B g q w) : (∀ b o, b < w0.heap.size → ¬ b = g → w.cell? ⟨b, o, none⟩ = w0.cell? ⟨b, o, none⟩) ∧ (∀ b o, b < w0.heap.size → ¬ b = g → w.frozen? ⟨b, o, none⟩ = w0.frozen? ⟨b, o, none⟩) := by
  have hk := fun b (h1 : b < w0.heap.size) (h2 : ¬ b = g) => h.1.block b h1 (fun e => h2 (by injection e))
  exact ⟨fun b o h1 h2 => World.cell?_of_block (a := ⟨b, o, none⟩) (hk b h1 h2), fun b o h1 h2 => by simp only [World.frozen?, hk b h1 h2]⟩
theorem DR.blk {r : Nat} {t : TypeId} {cs : Array Value} (h : DR w B g q w') (hb : Blk w r t cs) (hne : ¬ r = g) : Blk w' r t cs := hb.grown h.1 (fun e => hne (by injection e with e; exact e.symm))
theorem DR.size (h : DR w0 B g q w) : w0.heap.size ≤ w.heap.size := h.1.size
theorem DR.glt (h : DR w0 B g q w) : g < w0.heap.size := by
  obtain ⟨_, h2, p, _, h4⟩ := h
  exact Nat.lt_of_lt_of_le h4.1 h2
theorem DR.own {base n : Nat} {E : TypeId} {size : Nat} {v : Value} {xs : List Value} (h : DR w B g q w') (ho : w.ownsRow base E size v n xs) (hg : g < base) : w'.ownsRow base E size v n xs :=
  ho.kept h.1 (by
    right
    intro e
    have := (ho.lt g e).1
    omega)
end
theorem d_pick (w : World) (B g q : Nat) (n : Int) (h : DR w B g q w) (hq : q ≤ 1000000) :
    Calls Try.prog 45 #[.pointer (some ⟨g, 0, none⟩), .int .i64 n] w fun e w' => ∃ z : Int, e = .returned (.int .i64 z) ∧ 0 ≤ z ∧ (z < n ∨ z = 0) ∧ w'.heap.size = w.heap.size ∧ DR w B g (q + 1) w' := by
  obtain ⟨_, h2, p, h3, h4⟩ := h
  refine (s_pick w B g p n h4 (by omega)).mono ?_
  rintro e w' ⟨z, h5, h6, h7, h8, h9, h10⟩
  exact ⟨z, h5, h6, h7, h9, h8, h2, p + 1, by omega, h10⟩

/-- .. where there is a choice. -/
theorem d_pickp (w : World) (B g q : Nat) (n : Int) (h : DR w B g q w) (hq : q ≤ 1000000) (hn : 0 < n) :
    Calls Try.prog 45 #[.pointer (some ⟨g, 0, none⟩), .int .i64 n] w fun e w' => ∃ z : Int, e = .returned (.int .i64 z) ∧ 0 ≤ z ∧ z < n ∧ w'.heap.size = w.heap.size ∧ DR w B g (q + 1) w' := by
  refine (d_pick w B g q n h hq).mono ?_
  rintro e w' ⟨z, h5, h6, h7, h8, h9⟩
  exact ⟨z, h5, h6, by omega, h8, h9⟩

set_option maxHeartbeats 400000 in
theorem d_Node (w : World) (B g q : Nat) (n : Int) (v : Value) (h : DR w B g q w) (hq : q ≤ 999999) :
    Calls Try.prog 31 #[.pointer (some ⟨g, 0, none⟩), .agg #[.int .i64 n, v]] w fun e w' => ∃ z : Int, e = .returned (.int .i64 z) ∧ -1 ≤ z ∧ (z < n ∨ z ≤ 9) ∧ DR w B g (q + 2) w' := by
  have H := Lib.hid h; clear h
  have hgl := H.out.glt
  have hne : ¬ w.heap.size = g := by omega
  go_enter Try.func31, Try.ntmps31
  go_wp2_with (first | (go_at_call_of 45 (Value.int IntKind.i64 20); refine (d_pick _ _ g q 20 (H.out.alloc _).begin (by omega)).mono ?_; rintro e w1 ⟨z, rfl, hz0, hz1, hs, h1⟩; obtain ⟨hc1, _⟩ := h1.cells) | (go_at_call 45; refine (d_pick _ _ g (q + 1) _ h1.begin (by omega)).mono ?_; rintro e w2 ⟨y, rfl, hy0, hy1, hs2, h2⟩))
  all_goals
    go_ret
    refine ⟨_, rfl, ?_, ?_, (H.out.alloc _).then (h1.then h2)⟩
    · omega
    · omega
end Go.Proofs.Ytkeihpihphefgaa
