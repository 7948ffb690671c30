/- What the rows' proofs share when a law is told by the second abstract machine: what came in, as the machine reads it; the law's walk out of its contract. -/
import Derived.Test.YtjdebphkndfolaaRows
import Derived.Test.YtjdebphkndfolaaMv
import Derived.ProofKit
import Derived.OpenShut
import Derived.Carry
import Derived.Deep.Slices
import Derived.Deep.Fields
import Derived.Deep.Strs
import Derived.Lib.SmallJoins
import Derived.ChangeSame
namespace Go.Proofs.Ytjdebphkndfolaa
set_option maxRecDepth 100000
open Go.ChangeShapes Go.WideShapes Go.ChangeAt Go.RowKit Go.Deep Go.Joins

theorem row_own : ownKnob Try.prog.godebug = none := by kernel_rfl
theorem row_laid : laidOutB Try.prog = true := by kernel_rfl
/-- The law's walk: it returns true; nothing that was there has turned. -/
def Holds (f : FuncId) (args : Array Value) (W : World) : Prop := Calls Try.prog f args W fun e W' => e = .returned (.bool true) ∧ Below W.heap.size W W'
def NoB : Nat → Prop := Liv [] []
theorem noB (b : Nat) : ¬ NoB b := fun ⟨k, o, c, h, _⟩ => by simp at h
/-- An argument as the machine reads it. -/
def Opn (w : World) (v : Value) (d : PV) : Prop := Cv w NoB (fun _ => False) [] [] d v
theorem holds_gc {f : FuncId} {e : Entry} (hg : GC Try.prog f e) {s : HL e.ah} {r : HL e.rh} (hs : e.sh s = some r) {ds : List PV} (hf : e.AS.fill (up e.ah s) = some (ds, [])) (hr : e.RS.fill (up e.rh r) = some ([.im (.s (.bool true))], [])) {W : World} {args : List Value} (hx : F2 (fun d v => Opn W v d) ds args) : Holds f args.toArray W := by
  refine (hg s r hs ds [] hf _ _ hr W (fun _ => False) [] args (fun b h => h.elim) ⟨rfl, fun b hb => hb, fun b _ h => h, fun k o hk => by simp at hk, fun j k o o' b c c' hj => by simp at hj⟩ hx).mono ?_
  rintro e' w' ⟨u, β', rfl, st, _, hu⟩
  have : u = .bool true := im_s hu
  exact ⟨by rw [this], st.os, st.tape, st.output, st.size, fun b hb => st.block b hb (noB b)⟩
theorem addr_flat {w : World} {x : Addr} {v : Value} (h : w.cell? x = some v) : ∃ b o, x = ⟨b, o, none⟩ := by
  obtain ⟨b, o, s⟩ := x
  cases s with
  | none => exact ⟨b, o, rfl⟩
  | some t =>
    unfold World.cell? at h
    split at h <;> simp at h
theorem cell_lt' {w : World} {b o : Nat} {v : Value} (h : w.cell? ⟨b, o, none⟩ = some v) : b < w.heap.size := by
  unfold World.cell? at h
  rcases Nat.lt_or_ge b w.heap.size with hb | hb
  · exact hb
  · simp [Array.getElem?_eq_none hb] at h
/-- A slice of plain cells. -/
theorem ri_flat {w : World} (g : Bool) {τ : Ty} {xs : List (El τ)} {A : Option Addr} {cap : Nat} {us : List Value} (hcap : xs.length ≤ cap ∧ cap ≤ maxLen) (hu : flt τ xs = us.map IV.s) (hA : 0 < xs.length → ∃ b o, A = some ⟨b, o, none⟩ ∧ ∀ (j : Nat) v, us[j]? = some v → w.cell? ⟨b, o + j, none⟩ = some v) : Ri w NoB (fun _ => False) (.sl g τ xs) (.slice A xs.length cap) := by
  have hl : us.length = xs.length * sz τ := by rw [← flt_len, hu, List.length_map]
  have hr : ∀ (j : Nat) x u, (flt τ xs)[j]? = some x → us[j]? = some u → Ri w NoB (fun _ => False) x u := fun j x u hx hj => by
    rw [hu, List.getElem?_map, hj] at hx
    injection hx with hx
    subst hx
    exact .s u
  rcases Nat.eq_zero_or_pos xs.length with h0 | h0
  · have hu0 : us = [] := List.length_eq_zero_iff.1 (by rw [hl, h0, Nat.zero_mul])
    subst hu0
    exact .sl g τ xs A cap 0 0 [] (fun h => by omega) hcap (by rw [hu]; rfl) (fun j u hj => by simp at hj) hr
  · obtain ⟨b, o, rfl, hc⟩ := hA h0
    have hp : 0 < us.length := by rw [hl]; exact Nat.mul_pos h0 (sz_pos τ)
    have hb : b < w.heap.size := cell_lt' (hc 0 us[0] (List.getElem?_eq_getElem hp))
    exact .sl g τ xs _ cap b o us (fun _ => ⟨rfl, hb, noB b, fun _ h => h⟩) hcap (by rw [hu, List.length_map]) hc hr
section
variable {H : Type} {enc : TypeId × Value → H} {P : Program} {w : World}
theorem open_zs {τ : Ty} {k : IntKind} (f : Int → El τ) (hf : ∀ z, cells τ (f z) = [.s (.int k z)]) {t e : TypeId} {fuel : Nat} {cs : List Value} {x : DataW H × List MemPlace} (ht : P.underlying t = some (.slice e)) (he : P.underlying e = some (.int k)) (hc : P.cellsOf e = 1)
    (h : DataW.trod enc P w 0 (fun _ => true) true fuel t cs = some x) : ∃ (A : Option Addr) (n cap : Nat) (zs : List Int), cs = [.slice A n cap] ∧ zs.length = n ∧ n ≤ maxLen ∧ (∀ z ∈ zs, (Lit.int k z).wf = true) ∧ ∀ g, Ri w NoB (fun _ => False) (.sl g τ (zs.map f)) (.slice A n cap) := by
  have flat : ∀ zs : List Int, flt τ (zs.map f) = (zs.map (Value.int k)).map IV.s := fun zs => by
    induction zs with
    | nil => rfl
    | cons z r ih => rw [List.map_cons, flt_cons, hf, ih]; rfl
  rcases open_ints ht he hc h with ⟨rfl, _⟩ | ⟨a, len, cap, zs, rfl, _, hl, hm, hz, _, hcell, hw⟩
  · exact ⟨none, 0, 0, [], rfl, rfl, Nat.zero_le _, fun z hz => by simp at hz, fun g => by
      have := ri_flat (w := w) g (τ := τ) (xs := []) (A := none) (cap := 0) (us := []) ⟨Nat.le_refl _, Nat.zero_le _⟩ rfl (fun h => by simp at h)
      exact this⟩
  · simp only [if_true] at hz
    refine ⟨some a, len, cap, zs.take len, rfl, by simp; omega, by omega, fun z hz => hw z (List.mem_of_mem_take hz), fun g => ?_⟩
    have e : ((zs.take len).map f).length = len := by simp; omega
    have := ri_flat (w := w) g (τ := τ) (xs := (zs.take len).map f) (A := some a) (cap := cap) (us := (zs.take len).map (Value.int k)) (by rw [e]; exact ⟨hl, hm⟩) (flat _) (fun h0 => by
      rw [e] at h0
      have h1 := hcell 0 (by omega)
      rw [Addr.add_zero'] at h1
      obtain ⟨b, o, rfl⟩ := addr_flat h1
      refine ⟨b, o, rfl, fun j u hu => ?_⟩
      have hj : j < len := by
        have := (List.getElem?_eq_some_iff.1 hu).1
        simp at this
        omega
      have h2 := hcell j (by omega)
      rw [Addr.add_lit] at h2
      rw [h2]
      simp only [List.getElem?_map, List.getElem?_take, hj, if_true] at hu
      obtain ⟨z, hz1, rfl⟩ := Option.map_eq_some_iff.1 hu
      simp [List.getD, hz1])
    rwa [e] at this
theorem pick_list {α : Type} {n : Nat} {p : Nat → α → Prop} (h : ∀ i, i < n → ∃ x, p i x) : ∃ l : List α, l.length = n ∧ ∀ (i : Nat) x, l[i]? = some x → p i x := by
  induction n with
  | zero => exact ⟨[], rfl, fun i x hx => by simp at hx⟩
  | succ n ih =>
    obtain ⟨l, hl, hp⟩ := ih fun i hi => h i (by omega)
    obtain ⟨x, hx⟩ := h n (by omega)
    refine ⟨l ++ [x], by simp [hl], fun i y hy => ?_⟩
    rcases Nat.lt_or_ge i n with hi | hi
    · rw [List.getElem?_append_left (by omega)] at hy
      exact hp i y hy
    · rw [List.getElem?_append_right (by omega)] at hy
      have hi' : i = n := by
        have := (List.getElem?_eq_some_iff.1 hy).1
        simp at this
        omega
      subst hi'
      rw [hl, Nat.sub_self] at hy
      simp at hy
      subst hy
      exact hx
end
section
variable {H : Type} {enc : TypeId × Value → H} {W : World} {v : Value} {d : DataW H} {p : List MemPlace}
theorem opn_int {r : Reach} {b0 : Nat} (hv : Value.okWide Try.prog W r b0 3 v) (h : DataW.Trod enc Try.prog W 0 (fun _ => true) true 3 v d p) : ∃ z : Int, (Lit.int .i64 z).wf = true ∧ Opn W v (.im (iI z)) := by
  obtain ⟨z, rfl, h1⟩ := open_int Try.underlying3 hv h
  exact ⟨z, h1.2.2, Ri.s _⟩
theorem opn_bytes {r : Reach} {b0 : Nat} (hv : Value.okWide Try.prog W r b0 22 v) (h : DataW.Trod enc Try.prog W 0 (fun _ => true) true 22 v d p) : ∃ zs : List Int, zs.length ≤ maxLen ∧ (∀ z ∈ zs, 0 ≤ z ∧ z < 256) ∧ ∀ g, Opn W v (.im (.sl g .u8 zs)) := by
  obtain ⟨a, len, cap, rfl⟩ := okWide_slice Try.underlying22 hv
  obtain ⟨fuel, hf⟩ := h
  obtain ⟨A, n, cap', zs, e, hl, hm, hw, hr⟩ := open_zs (τ := .u8) (fun z => z) (fun _ => rfl) Try.underlying22 Try.underlying5 (by kernel_rfl) hf
  simp [Value.cells] at e
  obtain ⟨rfl, rfl, rfl⟩ := e
  refine ⟨zs, by omega, fun z hz => ?_, fun g => (by have := hr g; rw [List.map_id'] at this; exact this)⟩
  have := hw z hz
  simp [Lit.wf, IntKind.min, IntKind.max, IntKind.signed, IntKind.bits] at this
  omega
end
end Go.Proofs.Ytjdebphkndfolaa
