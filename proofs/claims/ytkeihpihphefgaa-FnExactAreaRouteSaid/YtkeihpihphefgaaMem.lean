/- Words for memory of this family: a slice that reads as a list, a block that is known whole, the frames behind calls, the reader of drawn bytes. No program is named here. -/
import Derived.WalkKit
import Derived.WalkSpells
import Derived.WalkLawsBesides
import Derived.Laws.OwnMore
import Derived.Laws.MakeOwn
import Derived.Maps.AppendAt
import Derived.Deep.AppendLies
import Derived.Deep.Draws
import Derived.Lib.Hide
import Derived.Below
import Derived.BigQuiet
import Derived.Deep.QuietTactic
import Derived.Deep.DeepCutAuto
import Derived.Deep.LoopGhost
import Derived.Deep.RegionHeld3
import Derived.Deep.RegionWith
namespace Go.Proofs.Ytkeihpihphefgaa
open Go.RowKit

theorem ret_bool {a b : Bool} (h : a = b) : Ending.returned (.bool a) = .returned (.bool b) := by rw [h]
theorem ret_int {k : IntKind} {a b : Int} (h : a = b) : Ending.returned (.int k a) = .returned (.int k b) := by rw [h]

def inB (a b c : Int) : Bool := decide (b ≤ a ∧ a ≤ c)
theorem inB_t {a b c : Int} (h : inB a b c = true) : b ≤ a ∧ a ≤ c := of_decide_eq_true h
theorem inB_f {a b c : Int} (h : inB a b c = false) : ¬ (b ≤ a ∧ a ≤ c) := of_decide_eq_false h
theorem inB_mk {a b c : Int} (h : b ≤ a ∧ a ≤ c) : inB a b c = true := decide_eq_true h
theorem inB_no {a b c : Int} (h : ¬ (b ≤ a ∧ a ≤ c)) : inB a b c = false := decide_eq_false h

theorem inB_i {a b c : Int} : (inB a b c = true) = (b ≤ a ∧ a ≤ c) := by simp [inB]
theorem inB_j {a b c : Int} : (inB a b c = false) = ¬ (b ≤ a ∧ a ≤ c) := by unfold inB; rw [decide_eq_false_iff_not]
theorem inB_k {a b c : Int} : ((!inB a b c) = true) = ¬ (b ≤ a ∧ a ≤ c) := by rw [Bool.not_eq_true', inB_j]
theorem inB_l {a b c : Int} : ((!inB a b c) = false) = (b ≤ a ∧ a ≤ c) := by rw [Bool.not_eq_false', inB_i]
/-! ### The ways through a test of several parts -/
theorem cs_bool (p : Bool) : p = false ∨ p = true := by cases p <;> simp
theorem cs_and (p q : Bool) : p = false ∨ (p = true ∧ q = false) ∨ (p = true ∧ q = true) := by cases p <;> cases q <;> simp
theorem cs_or (p q : Bool) : p = true ∨ (p = false ∧ q = true) ∨ (p = false ∧ q = false) := by cases p <;> cases q <;> simp
/-- 'p && (q || r && s)' -/
theorem cs_aoa (p q r s : Bool) : p = false ∨ (p = true ∧ q = true) ∨ (p = true ∧ q = false ∧ r = false) ∨ (p = true ∧ q = false ∧ r = true ∧ s = false) ∨ (p = true ∧ q = false ∧ r = true ∧ s = true) := by
  cases p <;> cases q <;> cases r <;> cases s <;> simp
/-- 'p && (q || r)' -/
theorem cs_ao (p q r : Bool) : p = false ∨ (p = true ∧ q = true) ∨ (p = true ∧ q = false ∧ r = true) ∨ (p = true ∧ q = false ∧ r = false) := by
  cases p <;> cases q <;> cases r <;> simp
/-- '!p || q && r' -/
theorem cs_aa (p q r : Bool) : p = false ∨ (p = true ∧ q = false) ∨ (p = true ∧ q = true ∧ r = false) ∨ (p = true ∧ q = true ∧ r = true) := by
  cases p <;> cases q <;> cases r <;> simp
theorem beq_t {a b : Int} : ((a == b) = true) = (a = b) := by simp
theorem beq_f {a b : Int} : ((a == b) = false) = ¬ (a = b) := by simp
/-- What the tests say, all rules under one name. -/
theorem hys : (∀ a b c : Int, (inB a b c = true) = (b ≤ a ∧ a ≤ c)) ∧ (∀ a b c : Int, (inB a b c = false) = ¬ (b ≤ a ∧ a ≤ c)) ∧ (∀ b : Bool, ((!b) = true) = (b = false)) ∧ (∀ b : Bool, ((!b) = false) = (b = true)) ∧
    (∀ (p : Prop) [Decidable p], (decide p = true) = p) ∧ (∀ (p : Prop) [Decidable p], (decide p = false) = ¬ p) ∧ (∀ a b : Int, ((a == b) = true) = (a = b)) ∧ (∀ a b : Int, ((a == b) = false) = ¬ (a = b)) ∧
    (∀ a b : Int, ((a != b) = true) = ¬ (a = b)) ∧ (∀ a b : Int, ((a != b) = false) = (a = b)) ∧ (∀ b : Bool, (¬ (b = true)) = (b = false)) ∧ (∀ b : Bool, (¬ (b = false)) = (b = true)) :=
  ⟨fun _ _ _ => inB_i, fun _ _ _ => inB_j, fun b => by cases b <;> simp, fun b => by cases b <;> simp, fun p _ => by simp, fun p _ => by simp, fun _ _ => by simp, fun _ _ => by simp, fun _ _ => by simp, fun _ _ => by simp, fun b => by simp, fun b => by simp⟩
/-! ### Frames -/
theorem bcell {B : Nat} {W w1 : World} (hb : Below B W w1) : (∀ b o, b < B → w1.cell? ⟨b, o, none⟩ = W.cell? ⟨b, o, none⟩) ∧ (∀ b o, b < B → w1.frozen? ⟨b, o, none⟩ = W.frozen? ⟨b, o, none⟩) :=
  ⟨fun b o h => hb.cell (p := ⟨b, o, none⟩) h, fun b o h => hb.frozen (p := ⟨b, o, none⟩) h⟩
theorem below_drewN {B : Nat} {a w : World} (h : Below B a w) (n : Nat) : Below B a (w.drewN n) := ⟨h.os, h.tape, h.output, h.size, h.block⟩
theorem below_head {W w1 : World} (hb : Below W.heap.size W w1) {B : Nat} {a : World} (h : Below B a W) (hB : B ≤ W.heap.size) : Below B a w1 := h.trans (hb.mono hB)
theorem only_of_below {a w : World} (h : Below a.heap.size a w) (row : Option Nat) : a.grownBy w row := ⟨h.os, h.tape, h.output, h.size, fun i hi _ => h.block i hi⟩
theorem below_of_none {a w : World} (h : a.grownBy w none) : Below a.heap.size a w := ⟨h.os, h.tape, h.output, h.size, fun i hi => h.block i hi (by simp)⟩
theorem only_drewN {a w : World} {row : Option Nat} (h : a.grownBy w row) (n : Nat) : a.grownBy (w.drewN n) row := ⟨h.os, h.tape, h.output, h.size, h.block⟩
theorem only_drew {a w : World} {row : Option Nat} (h : a.grownBy w row) : a.grownBy w.drew row := ⟨h.os, h.tape, h.output, h.size, h.block⟩
theorem only_alloc {a w : World} {row : Option Nat} (h : a.grownBy w row) (o : Obj) : a.grownBy (w.alloc o) row :=
  ⟨h.os, h.tape, h.output, Nat.le_trans h.size (by simp), fun i hi hne => (Below.heap_alloc w o i (Nat.lt_of_lt_of_le hi h.size)).trans (h.block i hi hne)⟩
theorem only_setCell {a w : World} {g : Nat} (h : a.grownBy w (some g)) {p : Addr} (hp : p.block = g ∨ a.heap.size ≤ p.block) (u : Value) : a.grownBy (w.setCell p u) (some g) :=
  ⟨h.os, h.tape, h.output, by simpa [World.setCell] using h.size, fun i hi hne => (Below.heap_setCell w p u i (by
    rintro rfl
    rcases hp with hp | hp
    · exact hne (by rw [hp])
    · omega)).trans (h.block i hi hne)⟩
/-- Two steps: the second may write what the first wrote, or what is new since the first began. -/
theorem only_trans {a b c : World} {row row' : Option Nat} (h : a.grownBy b row) (k : b.grownBy c row') (hr : ∀ i, row' = some i → row = some i ∨ a.heap.size ≤ i) : a.grownBy c row :=
  ⟨k.os.trans h.os, k.tape.trans h.tape, k.output.trans h.output, Nat.le_trans h.size k.size, fun i hi hne =>
    (k.block i (Nat.lt_of_lt_of_le hi h.size) (fun e => by
      rcases hr i e.symm with h' | h'
      · exact hne h'.symm
      · omega)).trans (h.block i hi hne)⟩
theorem only_below {a b c : World} {row : Option Nat} (h : a.grownBy b row) (k : Below b.heap.size b c) : a.grownBy c row :=
  only_trans h (only_of_below k none) (fun i e => by cases e)

/-! ### Quiet regions behind quiet regions -/
theorem q_add {P : Program} {f : FuncId} {args : Array Value} {w : World} {a n : Nat} {v : Value}
    (h : Calls P f args (w.drewN (a + n)) fun e w' => e = .returned v ∧ ∃ m, w' = (w.drewN (a + n)).drewN m) :
    Calls P f args (w.drewN (a + n)) fun e w'' => e = .returned v ∧ ∃ m, w'' = w.drewN (a + m) :=
  h.mono fun _ _ ⟨he, m, hm⟩ => ⟨he, n + m, by rw [hm, World.drewN_drewN, Nat.add_assoc]⟩
theorem q_add_left {P : Program} {f : FuncId} {args : Array Value} {w : World} {a n : Nat} {v : Value}
    (h : Calls P f args (w.drewN (a + n)) fun e w' => e = .returned v ∧ w.drewN (a + n) = w') :
    Calls P f args (w.drewN (a + n)) fun e w'' => e = .returned v ∧ ∃ m, w'' = w.drewN (a + m) :=
  h.mono fun _ _ ⟨he, hm⟩ => ⟨he, n, hm.symm⟩
theorem q_left {P : Program} {f : FuncId} {args : Array Value} {w : World} {n : Nat} {v : Value}
    (h : Calls P f args (w.drewN n) fun e w' => e = .returned v ∧ w.drewN n = w') : Calls P f args (w.drewN n) fun e w'' => e = .returned v ∧ ∃ m, w'' = w.drewN m :=
  h.mono fun _ _ ⟨he, hm⟩ => ⟨he, n, hm.symm⟩

/-- A contract whose answer is known: the letter in its place. -/
theorem bool_as {P : Program} {f : FuncId} {args : Array Value} {w : World} {x b : Bool} {R : World → Prop} (h : Calls P f args w fun e w' => e = .returned (.bool x) ∧ R w') (hb : x = b) :
    Calls P f args w fun e w' => e = .returned (.bool b) ∧ R w' := by subst hb; exact h
/-- Only draws lie between. -/
def Drawn (w w' : World) : Prop := ∃ n, w' = w.drewN n
theorem Drawn.refl (w : World) : Drawn w w := ⟨0, rfl⟩
theorem Drawn.more {w : World} (n : Nat) : Drawn w (w.drewN n) := ⟨n, rfl⟩
theorem Drawn.two {w : World} (n m : Nat) : Drawn w ((w.drewN n).drewN m) := ⟨n + m, World.drewN_drewN _ _ _⟩
theorem Drawn.below {w w' : World} (h : Drawn w w') (B : Nat) : Below B w w' := by obtain ⟨n, rfl⟩ := h; exact below_drewN (Below.refl _ _) n

/-! ### A region that draws its order, whose calls make memory and hand back plain values -/
/-- The worlds that leave what is there as it is. -/
structure Lat (w : World) where
  now : World
  ok : Below w.heap.size w now
instance (w : World) : Nonempty (Lat w) := ⟨⟨w, Below.refl _ _⟩⟩
theorem wp_region_calm {P : Program} {id : Nat} {Q : Exit → Act → World → Prop} {a : Act} {w : World} {l : List Oper} (hm : P.follows .mixedOrders = true) (hB : Region.lexB .any l.toArray = true)
    (h : (∀ (x : Lat w) b o, b < w.heap.size → x.now.cell? ⟨b, o, none⟩ = w.cell? ⟨b, o, none⟩) →
      wpQuiet P l.toArray (fun w' => ∃ x : Lat w, w' = x.now) (fun a' => ∀ w', (∃ x : Lat w, w' = x.now) → Q .normal a' w') l a) : (Code.region id l.toArray true).wp P Q a w :=
  wp_region_quiet (C := fun w' => ∃ x : Lat w, w' = x.now) hm hB ⟨⟨w.drew, (Below.refl _ _).drew⟩, rfl⟩ (by simpa using h fun x b o hb => x.ok.cell (p := ⟨b, o, none⟩) hb)
theorem calm_call {P : Program} {f : FuncId} {args : Array Value} {w : World} {x : Lat w} {v : Value} (h : Calls P f args x.now fun e w' => e = .returned v ∧ Below x.now.heap.size x.now w') :
    Calls P f args x.now fun e w'' => e = .returned v ∧ ∃ y : Lat w, w'' = y.now := h.mono fun _ w' ⟨he, hb⟩ => ⟨he, ⟨w', x.ok.trans (hb.mono x.ok.size)⟩, rfl⟩
theorem calm_same {P : Program} {f : FuncId} {args : Array Value} {w : World} {x : Lat w} {v : Value} (h : Calls P f args x.now fun e w' => e = .returned v ∧ x.now = w') :
    Calls P f args x.now fun e w'' => e = .returned v ∧ ∃ y : Lat w, w'' = y.now := h.mono fun _ _ ⟨he, hb⟩ => ⟨he, x, hb.symm⟩
theorem calm_drawn {P : Program} {f : FuncId} {args : Array Value} {w : World} {x : Lat w} {v : Value} (h : Calls P f args x.now fun e w' => e = .returned v ∧ Drawn x.now w') :
    Calls P f args x.now fun e w'' => e = .returned v ∧ ∃ y : Lat w, w'' = y.now := h.mono fun _ w' ⟨he, hb⟩ => ⟨he, ⟨w', x.ok.trans (hb.below _)⟩, rfl⟩

/-! ### A block that is known whole -/
def Blk (w : World) (g : Nat) (t : TypeId) (cs : Array Value) : Prop := w.heap[g]? = some (.cells cs t (0, 0))
section
variable {w w' : World} {g : Nat} {t : TypeId} {cs : Array Value}
theorem Blk.lt (h : Blk w g t cs) : g < w.heap.size := by
  rcases Nat.lt_or_ge g w.heap.size with hlt | hge
  · exact hlt
  · unfold Blk at h; rw [Array.getElem?_eq_none hge] at h; cases h
theorem Blk.cell (h : Blk w g t cs) (i : Nat) : w.cell? ⟨g, i, none⟩ = cs[i]? := cell_of_row w g i cs t (0, 0) h
theorem Blk.frozen (h : Blk w g t cs) (i : Nat) : w.frozen? ⟨g, i, none⟩ = false := by
  unfold Blk at h
  simp [World.frozen?, h]
theorem Blk.new (w : World) (t : TypeId) (cs : Array Value) : Blk (w.alloc (.cells cs t)) w.heap.size t cs := heap_alloc_new w _
theorem Blk.drew (h : Blk w g t cs) : Blk w.drew g t cs := h
theorem Blk.drewN (h : Blk w g t cs) (n : Nat) : Blk (w.drewN n) g t cs := h
theorem Blk.alloc (h : Blk w g t cs) (o : Obj) : Blk (w.alloc o) g t cs := (Below.heap_alloc w o g h.lt).trans h
theorem Blk.set_ (h : Blk w g t cs) (i : Nat) (u : Value) : Blk (w.setCell ⟨g, i, none⟩ u) g t (cs.setIfInBounds i u) := by
  unfold Blk at h ⊢
  simp [World.setCell, Array.getElem?_modify, h]
theorem Blk.far (h : Blk w g t cs) {p : Addr} (hp : g ≠ p.block) (u : Value) : Blk (w.setCell p u) g t cs := (Below.heap_setCell w p u g hp).trans h
theorem Blk.below (h : Blk w g t cs) (hb : Below w.heap.size w w') : Blk w' g t cs := (hb.block g h.lt).trans h
theorem Blk.belowB {B : Nat} (h : Blk w g t cs) (hb : Below B w w') (hg : g < B) : Blk w' g t cs := (hb.block g hg).trans h
theorem Blk.grown {row : Option Nat} (h : Blk w g t cs) (hb : w.grownBy w' row) (hg : row ≠ some g) : Blk w' g t cs := (hb.block g h.lt (fun e => hg e.symm)).trans h
theorem Blk.ne_ {g' : Nat} {t' : TypeId} {cs' : Array Value} (h : Blk w g t cs) (h' : Blk w g' t' cs') (hne : t ≠ t') : g ≠ g' := by
  rintro rfl
  unfold Blk at h h'
  rw [h] at h'
  injection h' with h'
  injection h' with _ ht
  exact hne ht
end

/-! ### A slice that reads as a list -/
def Rd (w : World) (size : Nat) (A : Option Addr) (n : Nat) (xs : List Value) : Prop :=
  xs.length = n * size ∧ (0 < n → ∃ b o, A = some ⟨b, o, none⟩ ∧ ∀ j u, xs[j]? = some u → w.cell? ⟨b, o + j, none⟩ = some u)
theorem cell_lt {w : World} {b o : Nat} {v : Value} (h : w.cell? ⟨b, o, none⟩ = some v) : b < w.heap.size := World.block_lt_of_cell? w ⟨b, o, none⟩ h
section
variable {w w' : World} {size n : Nat} {A : Option Addr} {xs : List Value}
theorem Rd.none_ : Rd w size A 0 [] := ⟨by simp, fun h => absurd h (by omega)⟩
/-- Kept where each cell that was there reads as it did. -/
theorem Rd.keep (h : Rd w size A n xs) (hk : ∀ b o, b < w.heap.size → (∃ o', A = some ⟨b, o', none⟩) → w'.cell? ⟨b, o, none⟩ = w.cell? ⟨b, o, none⟩) : Rd w' size A n xs :=
  ⟨h.1, fun hn => by
    obtain ⟨b, o, e, hc⟩ := h.2 hn
    exact ⟨b, o, e, fun j u hu => (hk b _ (cell_lt (hc j u hu)) ⟨o, e⟩).trans (hc j u hu)⟩⟩
theorem Rd.below (h : Rd w size A n xs) (hb : Below w.heap.size w w') : Rd w' size A n xs := h.keep fun b o hlt _ => hb.cell (p := ⟨b, o, none⟩) hlt
theorem Rd.drewN (h : Rd w size A n xs) (k : Nat) : Rd (w.drewN k) size A n xs := h
theorem Rd.drew (h : Rd w size A n xs) : Rd w.drew size A n xs := h
theorem Rd.alloc (h : Rd w size A n xs) (o : Obj) : Rd (w.alloc o) size A n xs := h.below ((Below.refl _ _).alloc (Nat.le_refl _) o)
theorem Rd.grown {row : Option Nat} (h : Rd w size A n xs) (hg : w.grownBy w' row) (hr : ∀ b o, A = some ⟨b, o, none⟩ → row ≠ some b) : Rd w' size A n xs :=
  h.keep fun b o hlt ⟨o', e⟩ => World.cell?_of_block (a := ⟨b, o, none⟩) (hg.block b hlt (fun e' => hr b o' e e'.symm))
theorem Rd.set_ (h : Rd w size A n xs) {p : Addr} (hp : ∀ b o, A = some ⟨b, o, none⟩ → b ≠ p.block) (u : Value) : Rd (w.setCell p u) size A n xs :=
  h.keep fun b o hlt ⟨o', e⟩ => World.cell?_setCell_other w p ⟨b, o, none⟩ u (fun e' => hp b o' e (by rw [e']))
theorem Rd.of_own {base : Nat} {e : TypeId} {c : Nat} (h : w.ownsRow base e size (.slice A n c) n xs) : Rd w size A n xs := by
  refine ⟨h.1, fun hn => ?_⟩
  obtain ⟨g, cap, hv, _, hlt⟩ := h.form hn
  have hA : A = some ⟨g, 0, none⟩ := by injection hv
  subst hA
  refine ⟨g, 0, rfl, fun j u hu => ?_⟩
  have := h.cells (g := g) rfl j u hu
  rwa [Addr.add_lit] at this
theorem Rd.cell (h : Rd w size A n xs) {j : Nat} (hj : j < xs.length) : ∃ b o u, A = some ⟨b, o, none⟩ ∧ b < w.heap.size ∧ xs[j]? = some u ∧ w.cell? ⟨b, o + j, none⟩ = some u := by
  have hn : 0 < n := by
    rcases Nat.eq_zero_or_pos n with h0 | h0
    · have := h.1; rw [h0] at this; omega
    · exact h0
  obtain ⟨b, o, e, hc⟩ := h.2 hn
  have hu : xs[j]? = some xs[j] := List.getElem?_eq_getElem hj
  exact ⟨b, o, _, e, cell_lt (hc j _ hu), hu, hc j _ hu⟩
end

/-- The cells of a list of elements, 'size' cells each. -/
theorem flat_get {α : Type} (enc : α → List Value) (size : Nat) (hs : ∀ x, (enc x).length = size) (ls : List α) (i j : Nat) (x : α) (hi : ls[i]? = some x) (hj : j < size) : (ls.flatMap enc)[i * size + j]? = (enc x)[j]? := by
  induction ls generalizing i with
  | nil => simp at hi
  | cons y r ih =>
    rw [List.flatMap_cons]
    cases i with
    | zero =>
      simp only [List.getElem?_cons_zero, Option.some.injEq] at hi
      subst hi
      rw [Nat.zero_mul, Nat.zero_add, List.getElem?_append_left (by rw [hs]; exact hj)]
    | succ i =>
      rw [List.getElem?_append_right (by rw [hs, Nat.succ_mul]; omega), hs, show (i + 1) * size + j - size = i * size + j by rw [Nat.succ_mul]; omega]
      exact ih i (by simpa using hi)
theorem flat_len {α : Type} (enc : α → List Value) (size : Nat) (hs : ∀ x, (enc x).length = size) (ls : List α) : (ls.flatMap enc).length = ls.length * size := by
  induction ls with
  | nil => simp
  | cons y r ih => rw [List.flatMap_cons, List.length_append, hs, ih, List.length_cons, Nat.succ_mul]; omega

/-! ### Integers; links -/
def ints (zs : List Int) : List Value := zs.map (Value.int .i64)
theorem ints_len (zs : List Int) : (ints zs).length = zs.length * 1 := by simp [ints]
theorem ints_one (zs : List Int) : ∀ u ∈ ints zs, u.oneCell' = true := ints_oneCell .i64 zs
theorem ints_app (zs : List Int) (z : Int) : ints (zs ++ [z]) = ints zs ++ [.int .i64 z] := by simp [ints]
/-- No list here is longer. -/
def big : Nat := 16777216
def RdI (w : World) (A : Option Addr) (len : Nat) (zs : List Int) : Prop := zs.length = len ∧ len ≤ 16777216 ∧ Rd w 1 A len (ints zs)
/-- The number at i, behind a name that the walk does not open. -/
def iz (zs : List Int) (i : Nat) : Int := zs.getD i 0
theorem iz_of {zs : List Int} {i : Nat} {z : Int} (h : zs[i]? = some z) : iz zs i = z := by simp [iz, List.getD, h]
theorem iz_get {zs : List Int} {i : Nat} (h : i < zs.length) : zs[i]? = some (iz zs i) := by simp [iz, List.getD, h]
section
variable {w w' : World} {A : Option Addr} {len : Nat} {zs : List Int}
/-- Where there is an element: the address, and a rule for each cell. -/
theorem RdI.rule (h : RdI w A len zs) (hn : 0 < len) : ∃ b o, A = some ⟨b, o, none⟩ ∧ b < w.heap.size ∧ ∀ i, i < len → w.cell? ⟨b, o + i, none⟩ = some (.int .i64 (iz zs i)) := by
  obtain ⟨hl, _, hr⟩ := h
  obtain ⟨b, o, hA, hc⟩ := hr.2 hn
  have g : ∀ i, i < len → w.cell? ⟨b, o + i, none⟩ = some (.int .i64 (iz zs i)) := fun i hi => hc i _ (by
    have := iz_get (zs := zs) (i := i) (by omega)
    simp [ints, this])
  exact ⟨b, o, hA, cell_lt (g 0 hn), g⟩
theorem RdI.below (h : RdI w A len zs) (hb : Below w.heap.size w w') : RdI w' A len zs := ⟨h.1, h.2.1, h.2.2.below hb⟩
theorem RdI.drewN (h : RdI w A len zs) (k : Nat) : RdI (w.drewN k) A len zs := h
theorem RdI.alloc (h : RdI w A len zs) (o : Obj) : RdI (w.alloc o) A len zs := ⟨h.1, h.2.1, h.2.2.alloc o⟩
theorem RdI.of_own {base : Nat} {e : TypeId} {c : Nat} (h : w.ownsRow base e 1 (.slice A len c) len (ints zs)) (hm : len ≤ 16777216) : RdI w A len zs := ⟨by have := h.1; simpa [ints] using this, hm, Rd.of_own h⟩
end

structure Lk where
  a : Int
  b : Int
  c : Int
  deriving DecidableEq
def Lk.row (l : Lk) : List Value := [.int .i64 l.a, .int .i64 l.b, .int .i64 l.c]
def lks (ls : List Lk) : List Value := ls.flatMap Lk.row
theorem lks_len (ls : List Lk) : (lks ls).length = ls.length * 3 := flat_len _ 3 (fun _ => rfl) ls
theorem lks_app (ls : List Lk) (l : Lk) : lks (ls ++ [l]) = lks ls ++ l.row := by simp [lks]
theorem lks_one (ls : List Lk) : ∀ u ∈ lks ls, u.oneCell' = true := by
  intro u hu
  obtain ⟨l, _, hl⟩ := List.mem_flatMap.1 hu
  simp only [Lk.row, List.mem_cons, List.not_mem_nil, or_false] at hl
  rcases hl with rfl | rfl | rfl <;> rfl
def RdL (w : World) (A : Option Addr) (len : Nat) (ls : List Lk) : Prop := ls.length = len ∧ len ≤ 16777216 ∧ Rd w 3 A len (lks ls)
def lk (ls : List Lk) (i : Nat) : Lk := ls.getD i ⟨0, 0, 0⟩
theorem lk_of {ls : List Lk} {i : Nat} {l : Lk} (h : ls[i]? = some l) : lk ls i = l := by simp [lk, List.getD, h]
theorem lk_get {ls : List Lk} {i : Nat} (h : i < ls.length) : ls[i]? = some (lk ls i) := by simp [lk, List.getD, h]
section
variable {w w' : World} {A : Option Addr} {len : Nat} {ls : List Lk}
theorem RdL.rule (h : RdL w A len ls) (hn : 0 < len) : ∃ b o, A = some ⟨b, o, none⟩ ∧ b < w.heap.size ∧ (∀ i, i < len → w.cell? ⟨b, o + i * 3, none⟩ = some (.int .i64 (lk ls i).a)) ∧
    (∀ i, i < len → w.cell? ⟨b, o + i * 3 + 1, none⟩ = some (.int .i64 (lk ls i).b)) ∧ (∀ i, i < len → w.cell? ⟨b, o + i * 3 + 2, none⟩ = some (.int .i64 (lk ls i).c)) := by
  obtain ⟨hl, _, hr⟩ := h
  obtain ⟨b, o, hA, hc⟩ := hr.2 hn
  have f := fun i (hi : i < len) j hj => flat_get Lk.row 3 (fun _ => rfl) ls i j _ (lk_get (by omega)) hj
  have c0 : ∀ i, i < len → w.cell? ⟨b, o + i * 3, none⟩ = some (.int .i64 (lk ls i).a) := fun i hi => hc _ _ ((f i hi 0 (by omega)).trans rfl)
  exact ⟨b, o, hA, cell_lt (c0 0 hn), c0, fun i hi => hc _ _ ((f i hi 1 (by omega)).trans rfl), fun i hi => hc _ _ ((f i hi 2 (by omega)).trans rfl)⟩
theorem RdL.below (h : RdL w A len ls) (hb : Below w.heap.size w w') : RdL w' A len ls := ⟨h.1, h.2.1, h.2.2.below hb⟩
theorem RdL.drewN (h : RdL w A len ls) (k : Nat) : RdL (w.drewN k) A len ls := h
theorem RdL.alloc (h : RdL w A len ls) (o : Obj) : RdL (w.alloc o) A len ls := ⟨h.1, h.2.1, h.2.2.alloc o⟩
theorem RdL.of_own {base : Nat} {e : TypeId} {c : Nat} (h : w.ownsRow base e 3 (.slice A len c) len (lks ls)) (hm : len ≤ 16777216) : RdL w A len ls := ⟨by have := h.1; rw [lks_len] at this; omega, hm, Rd.of_own h⟩
end

end Go.Proofs.Ytkeihpihphefgaa
