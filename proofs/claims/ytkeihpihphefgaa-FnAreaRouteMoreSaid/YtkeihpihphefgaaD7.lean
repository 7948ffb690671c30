/- Draws: two areas; what AreaRoute is asked. -/
import Derived.Test.YtkeihpihphefgaaD6
namespace Go.Proofs.Ytkeihpihphefgaa
open Go.RowKit

/-- Is the number in the list? -/
def hasB (zs : List Int) (n : Int) : Bool := decide (∃ i, i < zs.length ∧ iz zs i = n)
theorem hasB_t {zs : List Int} {n : Int} {i : Nat} (hi : i < zs.length) (h : iz zs i = n) : hasB zs n = true := decide_eq_true ⟨i, hi, h⟩
theorem hasB_f {zs : List Int} {n : Int} (h : ∀ i, i < zs.length → ¬ iz zs i = n) : hasB zs n = false := decide_eq_false fun ⟨i, hi, e⟩ => h i hi e

set_option maxRecDepth 100000 in
set_option maxHeartbeats 400000 in
theorem s_l1Has (n : Int) (A : Option Addr) (len cap : Nat) (zs : List Int) (w : World) (h : RdI w A len zs) :
    Calls Try.prog 55 #[.slice A len cap, .int .i64 n] w fun e w' => e = .returned (.bool (hasB zs n)) ∧ w = w' := by
  have hmax := h.2.1
  have HL := Lib.hid h.1
  have HR := Lib.hid h.rule; clear h
  go_enter Try.func55, Try.ntmps55
  go_wp2
  go_loop [5] (fun i => ∃ k : Nat, k ≤ len ∧ i = .int .i64 k ∧ Hid (∀ i, i < k → ¬ iz zs i = n)) (fun i => len - (intOf i).toNat)
  case atStart => exact ⟨0, by omega, rfl, fun i hi => by omega⟩
  case round =>
    obtain ⟨k, hk, rfl, HOK⟩ := hrel
    by_cases hlt : k < len
    · obtain ⟨b, o, rfl, hb, hc⟩ := HR.out (by omega)
      have r1 := hc k hlt
      clear hc
      go_wp2
      · have y0 : (iz zs k == n) = true := by assumption
        go_ret
        exact ⟨ret_bool (hasB_t (i := k) (by rw [HL.out]; exact hlt) (by simpa using y0)).symm, rfl⟩
      · have y0 : (iz zs k == n) = false := by assumption
        go_round
        case rel =>
          refine ⟨k + 1, by omega, by go_num, fun i hi => ?_⟩
          by_cases e : i < k
          · exact HOK.out i e
          · obtain rfl : i = k := by omega
            simpa using y0
        case measure => simp [intOf]; omega
    · obtain rfl : k = len := by omega
      go_wp2
      go_ret
      exact ⟨ret_bool (hasB_f (by rw [HL.out]; exact HOK.out)).symm, rfl⟩

set_option maxRecDepth 100000 in
set_option maxHeartbeats 400000 in
theorem l_hasInt (n : Int) (A : Option Addr) (len cap : Nat) (zs : List Int) (w : World) (h : RdI w A len zs) :
    Calls Try.prog 27 #[.slice A len cap, .int .i64 n] w fun e w' => e = .returned (.bool (hasB zs n)) ∧ w = w' := by
  have hmax := h.2.1
  have HL := Lib.hid h.1
  have HR := Lib.hid h.rule; clear h
  go_enter Try.func27, Try.ntmps27
  go_wp2
  go_loop [5] (fun i => ∃ k : Nat, k ≤ len ∧ i = .int .i64 k ∧ Hid (∀ i, i < k → ¬ iz zs i = n)) (fun i => len - (intOf i).toNat)
  case atStart => exact ⟨0, by omega, rfl, fun i hi => by omega⟩
  case round =>
    obtain ⟨k, hk, rfl, HOK⟩ := hrel
    by_cases hlt : k < len
    · obtain ⟨b, o, rfl, hb, hc⟩ := HR.out (by omega)
      have r1 := hc k hlt
      clear hc
      go_wp2
      · have y0 : (iz zs k == n) = true := by assumption
        go_ret
        exact ⟨ret_bool (hasB_t (i := k) (by rw [HL.out]; exact hlt) (by simpa using y0)).symm, rfl⟩
      · have y0 : (iz zs k == n) = false := by assumption
        go_round
        case rel =>
          refine ⟨k + 1, by omega, by go_num, fun i hi => ?_⟩
          by_cases e : i < k
          · exact HOK.out i e
          · obtain rfl : i = k := by omega
            simpa using y0
        case measure => simp [intOf]; omega
    · obtain rfl : k = len := by omega
      go_wp2
      go_ret
      exact ⟨ret_bool (hasB_f (by rw [HL.out]; exact HOK.out)).symm, rfl⟩

theorem RdI.nil_ {w w' : World} {A : Option Addr} {zs : List Int} (h : RdI w A 0 zs) : RdI w' A 0 zs := by
  obtain rfl : zs = [] := List.length_eq_zero_iff.1 h.1
  exact RdI.none_
theorem RdI.grownP {w w' : World} {A : Option Addr} {len : Nat} {zs : List Int} {row : Option Nat} (h : RdI w A len zs) (hg : w.grownBy w' row) (hr : 0 < len → ∀ b o, A = some ⟨b, o, none⟩ → row ≠ some b) : RdI w' A len zs := by
  rcases Nat.eq_zero_or_pos len with h0 | h0
  · subst h0; exact h.nil_
  · exact h.grown hg (hr h0)
theorem RdI.setP {w : World} {A : Option Addr} {len : Nat} {zs : List Int} (h : RdI w A len zs) {p : Addr} (hr : 0 < len → ∀ b o, A = some ⟨b, o, none⟩ → b ≠ p.block) (u : Value) : RdI (w.setCell p u) A len zs := by
  rcases Nat.eq_zero_or_pos len with h0 | h0
  · subst h0; exact h.nil_
  · exact ⟨h.1, h.2.1, h.2.2.set_ (hr h0) u⟩

/-- Two areas are being laid: boxes b8, b9; their rows lie from M on; the drawn graph and the border nodes lie below M. -/
structure ASt (w : World) (B g q M b8 b9 g5 n : Nat) (S : Option Addr) (len cap : Nat) (ls : List Lk) (Z : Option Addr) (lz : Nat) (zs : List Int) (xs ys : List Lk) (va vb : Value) (wr : World) : Prop where
  h0 : Blk wr w.heap.size 25 #[.int .i64 0, .slice none 0 0]
  h1 : Blk wr (w.heap.size + 1) 25 #[.int .i64 0, .slice none 0 0]
  h5 : Blk wr g5 25 #[.int .i64 n, .slice S len cap]
  h8 : Blk wr b8 25 #[.int .i64 n, va]
  h9 : Blk wr b9 25 #[.int .i64 n, vb]
  oa : wr.ownsRow M 70 3 va xs.length (lks xs)
  ob : wr.ownsRow M 70 3 vb ys.length (lks ys)
  ne : va.ownBlock ≠ vb.ownBlock
  src : RdL wr S len ls
  srcM : ∀ b o, S = some ⟨b, o, none⟩ → w.heap.size + 1 < b ∧ b < M
  z : RdI wr Z lz zs
  zM : 0 < lz → ∀ b o, Z = some ⟨b, o, none⟩ → w.heap.size + 1 < b ∧ b < M
  bM : w.heap.size + 1 < g5 ∧ g5 < M ∧ M ≤ b8 ∧ M ≤ b9 ∧ b8 ≠ b9
  dr : DR w B g q wr
section
variable {w wr wr' : World} {B g q q' M b8 b9 g5 n : Nat} {S : Option Addr} {len cap : Nat} {ls : List Lk} {Z : Option Addr} {lz : Nat} {zs : List Int} {xs ys : List Lk} {va vb : Value}
/-- Kept where only a block is written that is none of its own. -/
theorem ASt.keep {row : Option Nat} (h : ASt w B g q M b8 b9 g5 n S len cap ls Z lz zs xs ys va vb wr) (hg : wr.grownBy wr' row) (hd : DR w B g q' wr')
    (hr : ∀ j, row = some j → j = g ∨ wr.heap.size ≤ j) : ASt w B g q' M b8 b9 g5 n S len cap ls Z lz zs xs ys va vb wr' := by
  have hgl := h.dr.glt
  have l1 := h.h1.lt
  have l5 := h.h5.lt
  have l8 := h.h8.lt
  have l9 := h.h9.lt
  have hM := h.bM
  have nr : ∀ b, w.heap.size ≤ b → b < wr.heap.size → row ≠ some b := fun b hb hl e => by
    rcases hr b e with e' | e' <;> omega
  have no : ∀ {v : Value} {m : Nat} {us : List Value}, wr.ownsRow M 70 3 v m us → v.ownBlock = none ∨ v.ownBlock ≠ row := fun {v m us} ho => by
    cases hv : v.ownBlock with
    | none => exact .inl rfl
    | some b => exact .inr (fun e => by have := ho.lt b hv; exact nr b (by omega) this.2 e.symm)
  have hs := h.src
  have hz := h.z
  refine ⟨h.h0.grown hg (nr _ (by omega) (by omega)), h.h1.grown hg (nr _ (by omega) l1), h.h5.grown hg (nr _ (by omega) l5), h.h8.grown hg (nr _ (by omega) l8), h.h9.grown hg (nr _ (by omega) l9),
    h.oa.kept hg (no h.oa), h.ob.kept hg (no h.ob), h.ne, h.src.grown hg (fun b o e => nr b (by have := h.srcM b o e; omega) (by have := h.srcM b o e; omega)), h.srcM,
    h.z.grownP hg (fun h0 b o e => nr b (by have := h.zM h0 b o e; omega) (by have := h.zM h0 b o e; omega)), h.zM, h.bM, hd⟩
theorem ASt.alloc (h : ASt w B g q M b8 b9 g5 n S len cap ls Z lz zs xs ys va vb wr) (o : Obj) : ASt w B g q M b8 b9 g5 n S len cap ls Z lz zs xs ys va vb (wr.alloc o) :=
  h.keep (World.grownBy_alloc wr o none) (h.dr.alloc o) (fun j e => by cases e)
theorem ASt.drew (h : ASt w B g q M b8 b9 g5 n S len cap ls Z lz zs xs ys va vb wr) : ASt w B g q M b8 b9 g5 n S len cap ls Z lz zs xs ys va vb wr.drew :=
  h.keep (row := none) (only_drew (only_of_below (Below.refl _ _) _)) h.dr.drew (fun j e => by cases e)
theorem ASt.more (h : ASt w B g q M b8 b9 g5 n S len cap ls Z lz zs xs ys va vb wr) (hq : q ≤ q') : ASt w B g q' M b8 b9 g5 n S len cap ls Z lz zs xs ys va vb wr :=
  h.keep (row := none) (only_of_below (Below.refl _ _) _) (h.dr.mono hq) (fun j e => by cases e)
theorem ASt.pick {q1 : Nat} (h : ASt w B g q M b8 b9 g5 n S len cap ls Z lz zs xs ys va vb wr) (k : DR wr B g q1 wr') : ASt w B g q1 M b8 b9 g5 n S len cap ls Z lz zs xs ys va vb wr' :=
  h.keep k.1 (h.dr.then k) (fun j e => by injection e with e; exact .inl e.symm)
/-- A box of the round's own is written. -/
theorem ASt.own (h : ASt w B g q M b8 b9 g5 n S len cap ls Z lz zs xs ys va vb wr) {p : Addr} (hp : p.block ≠ w.heap.size ∧ p.block ≠ w.heap.size + 1 ∧ p.block ≠ g5 ∧ p.block ≠ b8 ∧ p.block ≠ b9 ∧ va.ownBlock ≠ some p.block ∧ vb.ownBlock ≠ some p.block ∧ M ≤ p.block) (u : Value) :
    ASt w B g q M b8 b9 g5 n S len cap ls Z lz zs xs ys va vb (wr.setCell p u) := by
  obtain ⟨p0, p1, p2, p3, p4, p5, p6, p7⟩ := hp
  have hM := h.bM
  exact ⟨h.h0.far (Ne.symm p0) _, h.h1.far (Ne.symm p1) _, h.h5.far (Ne.symm p2) _, h.h8.far (Ne.symm p3) _, h.h9.far (Ne.symm p4) _, ownsRow_setCell_other h.oa p5 _, ownsRow_setCell_other h.ob p6 _, h.ne,
    ⟨h.src.1, h.src.2.1, h.src.2.2.set_ (fun b o e => by have := h.srcM b o e; omega) u⟩, h.srcM, h.z.setP (fun h0 b o e => by have := h.zM h0 b o e; omega) u, h.zM, h.bM, h.dr.set_ (by omega) u⟩
theorem ASt.symm (h : ASt w B g q M b8 b9 g5 n S len cap ls Z lz zs xs ys va vb wr) : ASt w B g q M b9 b8 g5 n S len cap ls Z lz zs ys xs vb va wr :=
  ⟨h.h0, h.h1, h.h5, h.h9, h.h8, h.ob, h.oa, Ne.symm h.ne, h.src, h.srcM, h.z, h.zM, ⟨h.bM.1, h.bM.2.1, h.bM.2.2.2.1, h.bM.2.2.1, Ne.symm h.bM.2.2.2.2⟩, h.dr⟩
/-- A link goes into the first area. -/
theorem ASt.app {w1 w2 : World} {va' : Value} {l : Lk} (h : ASt w B g q M b8 b9 g5 n S len cap ls Z lz zs xs ys va vb w1) (hown : w2.ownsRow M 70 3 va' (xs.length + 1) (lks xs ++ l.row))
    (hg : w1.grownBy w2 va.ownBlock) (hor : va'.ownBlock = va.ownBlock ∨ va'.ownBlock = some w1.heap.size) :
    ASt w B g q M b8 b9 g5 n S len cap ls Z lz zs (xs ++ [l]) ys va' vb (w2.setCell ⟨b8, 1, none⟩ va') := by
  have hM := h.bM
  have k0 := h.h0.grown hg (own_ne h.oa h.h0 (by decide))
  have k1 := h.h1.grown hg (own_ne h.oa h.h1 (by decide))
  have k5 := h.h5.grown hg (own_ne h.oa h.h5 (by decide))
  have k8 := h.h8.grown hg (own_ne h.oa h.h8 (by decide))
  have k9 := h.h9.grown hg (own_ne h.oa h.h9 (by decide))
  have kb := h.ob.kept hg (.inr (Ne.symm h.ne))
  have ks : RdL w2 S len ls := h.src.grown hg (fun b o e e' => by have := h.srcM b o e; have := (h.oa.lt b e').1; omega)
  have kz : RdI w2 Z lz zs := h.z.grownP hg (fun h0 b o e e' => by have := h.zM h0 b o e; have := (h.oa.lt b e').1; omega)
  have ne8 := own_ne hown k8 (by decide)
  have nb8 := own_ne kb k8 (by decide)
  refine ⟨k0.far (by simp; omega) _, k1.far (by simp; omega) _, k5.far (by simp; omega) _, by simpa using k8.set_ 1 va', k9.far (by simp; omega) _, ?_, ownsRow_setCell_other kb nb8 _, ?_,
    ⟨ks.1, ks.2.1, ks.2.2.set_ (fun b o e => by have := h.srcM b o e; simp; omega) _⟩, h.srcM, kz.setP (fun h0 b o e => by have := h.zM h0 b o e; simp; omega) _, h.zM, hM,
    (h.dr.grown hg (fun b e => by have := (h.oa.lt b e).1; omega)).set_ (by simp; omega) _⟩
  · rw [lks_app, List.length_append]
    exact ownsRow_setCell_other hown ne8 _
  · intro e
    rcases hor with e' | e'
    · exact h.ne (e'.symm.trans e)
    · rw [e'] at e
      have := (h.ob.lt _ e.symm).2
      omega
end
end Go.Proofs.Ytkeihpihphefgaa
