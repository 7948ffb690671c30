/- Plain contracts: neighbours in order; what a graph's nodes announce; the graph of announcements; claims. -/
import Derived.Test.YtjdebphkndfolaaPr
namespace Go.Proofs.Ytjdebphkndfolaa
open Go.RowKit
set_option linter.unusedSimpArgs false
set_option linter.unusedVariables false
set_option maxRecDepth 100000

theorem asc_ext : ∀ {l l' : List Int}, l.Pairwise (· < ·) → l'.Pairwise (· < ·) → (∀ x, x ∈ l ↔ x ∈ l') → l = l'
  | [], [], _, _, _ => rfl
  | [], y :: s, _, _, h => by have := (h y).2 (List.mem_cons_self ..); simp at this
  | x :: r, [], _, _, h => by have := (h x).1 (List.mem_cons_self ..); simp at this
  | x :: r, y :: s, h1, h2, h => by
    have h1 := List.pairwise_cons.1 h1
    have h2 := List.pairwise_cons.1 h2
    have e : x = y := by
      rcases List.mem_cons.1 ((h x).1 (List.mem_cons_self ..)) with e | hx
      · exact e
      · rcases List.mem_cons.1 ((h y).2 (List.mem_cons_self ..)) with e | hy
        · exact e.symm
        · have q1 := h1.1 y hy
          have q2 := h2.1 x hx
          omega
    subst e
    have : r = s := asc_ext h1.2 h2.2 fun z => by
      constructor
      · intro hz
        rcases List.mem_cons.1 ((h z).1 (List.mem_cons_of_mem _ hz)) with e | hz'
        · subst e; have := h1.1 z hz; omega
        · exact hz'
      · intro hz
        rcases List.mem_cons.1 ((h z).2 (List.mem_cons_of_mem _ hz)) with e | hz'
        · subst e; have := h2.1 z hz; omega
        · exact hz'
    rw [this]
theorem sortI_mem {x : Int} {l : List Int} : x ∈ sortI l ↔ x ∈ l := List.mem_mergeSort
theorem sortI_asc {l : List Int} (h : l.Pairwise (· ≠ ·)) : (sortI l).Pairwise (· < ·) := by
  have h1 : (sortI l).Pairwise (fun a b => decide (a ≤ b) = true) := List.pairwise_mergeSort (fun a b c h1 h2 => decide_eq_true (by have := of_decide_eq_true h1; have := of_decide_eq_true h2; omega)) (fun a b => by simp; omega) l
  have h2 : (sortI l).Nodup := (List.mergeSort_perm l _).nodup_iff.2 h
  refine List.Pairwise.imp ?_ (List.Pairwise.and h1 h2)
  rintro a b ⟨q1, q2⟩
  have := of_decide_eq_true q1
  omega
theorem nbS_asc (ls : List Lk) (m : Int) (k : Nat) : (nbS ls m k).Pairwise (· < ·) := by
  unfold nbS
  rw [List.pairwise_map]
  refine List.Pairwise.imp ?_ (List.Pairwise.filter _ (List.pairwise_lt_range (n := k)))
  intro a b h
  omega
theorem nbS_mem {ls : List Lk} {m x : Int} {k : Nat} : x ∈ nbS ls m k ↔ ∃ j : Nat, j < k ∧ x = j ∧ (lc ls m j).isSome = true := by
  unfold nbS
  rw [List.mem_map]
  constructor
  · rintro ⟨j, hj, rfl⟩
    obtain ⟨h1, h2⟩ := List.mem_filter.1 hj
    exact ⟨j, List.mem_range.1 h1, rfl, by rw [lc_lof]; exact h2⟩
  · rintro ⟨j, h1, rfl, h2⟩
    rw [lc_lof] at h2
    exact ⟨j, List.mem_filter.2 ⟨List.mem_range.2 h1, h2⟩, rfl⟩
section
variable {N : Nat} {ls : List Lk}
theorem others_mem (g : GV N ls) {m : Int} {x : Int} : x ∈ others ls m ls.length ↔ (lc ls m x).isSome = true := by
  unfold others
  rw [List.mem_map, List.take_of_length_le (Nat.le_refl _)]
  constructor
  · rintro ⟨l, hl, rfl⟩
    obtain ⟨h1, h2⟩ := List.mem_filter.1 hl
    have ho := g.ok h1
    unfold okL at ho
    have h2 : m = l.a ∨ m = l.b := of_decide_eq_true h2
    unfold otherE
    by_cases e : m = l.a
    · rw [if_pos e, e, lc_mem g.pw h1 (by omega)]; rfl
    · have e2 := h2.resolve_left e
      rw [if_neg e, if_pos e2, e2, lc_symm, lc_mem g.pw h1 (by omega)]; rfl
  · intro h
    obtain ⟨c, hc⟩ := Option.isSome_iff_exists.1 h
    have hm := lc_some hc
    have ho := g.ok hm
    unfold okL at ho
    dsimp only at ho
    refine ⟨_, List.mem_filter.2 ⟨hm, decide_eq_true (by dsimp only; omega)⟩, ?_⟩
    unfold otherE
    dsimp only
    split
    · omega
    · rw [if_pos (by omega)]; omega
theorem others_nodup (g : GV N ls) (m : Int) : (others ls m ls.length).Pairwise (· ≠ ·) := by
  unfold others
  rw [List.take_of_length_le (Nat.le_refl _), List.pairwise_map]
  refine List.Pairwise.imp_of_mem ?_ (List.Pairwise.filter _ g.pw)
  intro a b ha hb hab
  obtain ⟨ha, ea⟩ := List.mem_filter.1 ha
  obtain ⟨hb, eb⟩ := List.mem_filter.1 hb
  have oa := g.ok ha
  have ob := g.ok hb
  have ea : m = a.a ∨ m = a.b := of_decide_eq_true ea
  have eb : m = b.a ∨ m = b.b := of_decide_eq_true eb
  unfold okL at oa ob
  unfold lxl at hab
  unfold otherE
  split <;> split <;> (try split) <;> (try split) <;> omega
theorem lc_none_out (g : GV N ls) {m x : Int} (h : (lc ls m x).isSome = true) : 0 ≤ x ∧ x < N ∧ 0 ≤ m ∧ m < N ∧ x ≠ m := by
  obtain ⟨c, hc⟩ := Option.isSome_iff_exists.1 h
  have ho := g.ok (lc_some hc)
  unfold okL at ho
  dsimp only at ho
  omega
theorem sort_nb (g : GV N ls) (m : Int) : sortI (others ls m ls.length) = nbS ls m N := by
  refine asc_ext (sortI_asc (others_nodup g m)) (nbS_asc ls m N) fun x => ?_
  rw [sortI_mem, others_mem g, nbS_mem]
  constructor
  · intro h
    have := lc_none_out g h
    exact ⟨x.toNat, by omega, by omega, by rw [show ((x.toNat : Nat) : Int) = x by omega]; exact h⟩
  · rintro ⟨j, _, rfl, h⟩; exact h
/-! ### What a node announces -/
def endsOf (ls : List Lk) (N : Nat) (o : Int) : List En := (nbS ls o N).map fun n => ⟨n, (lc ls o n).getD 0⟩
theorem nbS_len8 (k : Nat) (m : Int) : (nbS ls m k).length ≤ k := nbS_len ls m k
theorem e_lsaOf (g : GV N ls) (o s : Int) : sh_impl_Graph_lsaOf ((N : Int), ls, o, s, ()) = some (o, s, endsOf ls N o, ()) := by
  have h8 := g.2.1
  have fl : Fits ls := (show Fits ls by have := g.2.2.1; unfold Fits; omega)
  unfold sh_impl_Graph_lsaOf
  simp only [e_neighbours (N : Int) ls o (by have := g.2.2.1; omega), sort_nb g o, Option.bind_some, nI_eq]
  have hlen := nbS_len ls o N
  have hmem : ∀ x ∈ nbS ls o N, ∃ c, lc ls o x = some c := fun x hx => by
    obtain ⟨j, _, rfl, h⟩ := nbS_mem.1 hx
    exact Option.isSome_iff_exists.1 h
  unfold endsOf
  generalize nbS ls o N = nb at *
  refine Sat.out (Sat.bnd (R := fun r => match r with | .inl x => x = (0, 0, o, s, [], nb.map fun n => ⟨n, (lc ls o n).getD 0⟩, ()) | .inr _ => False) ?_ ?_)
  · refine Sat.count nb.length (fun k t => t = (o, (nb.length : Int), (k : Int), (N : Int), ls, 0, 0, o, s, nb, [], (nb.take k).map (fun n => (⟨n, (lc ls o n).getD 0⟩ : En)), ())) ?_ (Nat.zero_le _) (fuel_lt (by omega)) (by simp)
    rintro k t hk rfl
    by_cases hlt : k < nb.length
    · obtain ⟨c, hc⟩ := hmem (iz nb k) (List.mem_of_getElem? (iz_get hlt))
      obtain ⟨h1, h2, h3⟩ := lc_at hc
      simp (disch := omega) only [bo_impl_Graph_lsaOf_3, at_int, at_lk, toN, w64, e_linkOf _ _ _ _ fl, Option.bind_some, List.length_singleton, List.length_map]
      refine Sat.gd (decide_eq_true (by omega)) (Sat.gd (inR_t (by omega) (by omega)) (Sat.gd (inR_t h1 h2) (Sat.gd (decide_eq_true (by simp; omega)) (.some ⟨hlt, ?_⟩))))
      rw [h3, List.take_add_one, iz_get hlt]
      simp [hc]
    · obtain rfl : k = nb.length := by omega
      unfold bo_impl_Graph_lsaOf_3
      simp only [decide_eq_false (show ¬ (nb.length : Int) < nb.length by omega), cond_false, List.take_length]
      exact .some rfl
  · rintro (r | r) hr
    case inr => exact hr.elim
    obtain rfl := hr
    exact .some rfl
theorem endsOf_len (o : Int) : (endsOf ls N o).length ≤ N := by unfold endsOf; rw [List.length_map]; exact nbS_len ls o N
theorem e_l11Of (g : GV N ls) (o s : Int) : sh_spec_l11Of ((N : Int), ls, o, s, ()) = some (o, s, endsOf ls N o, ()) := by
  have h8 := g.2.1
  have fl : Fits ls := (show Fits ls by have := g.2.2.1; unfold Fits; omega)
  unfold sh_spec_l11Of
  refine Sat.out (Sat.bnd (R := fun r => match r with | .inl x => x = (0, 0, [], o, s, endsOf ls N o, ()) | .inr _ => False) ?_ ?_)
  · refine Sat.count N (fun k t => t = (o, (k : Int), (N : Int), ls, 0, 0, [], o, s, (nbS ls o k).map (fun n => (⟨n, (lc ls o n).getD 0⟩ : En)), ())) ?_ (Nat.zero_le _) (fuel_lt (by omega)) (by simp [nbS])
    rintro k t hk rfl
    have hlen := nbS_len ls o k
    simp (disch := omega) only [bo_spec_l11Of_3, at_lk, toN, w64, e_l1Link _ _ _ _ fl, Option.bind_some, List.length_singleton, List.length_map]
    refine Sat.ite (fun hlt => ?_) (fun hlt => ?_)
    · have hlt := of_decide_eq_true hlt
      cases hc : lc ls o k with
      | none =>
        refine Sat.no (by rw [lc_no hc]; rfl) (.some ⟨by omega, ?_⟩)
        rw [nbS_succ, if_neg (by rw [lc_no hc]; omega)]
        rfl
      | some c =>
        obtain ⟨h1, h2, h3⟩ := lc_at hc
        refine Sat.gd (decide_eq_true h1) (Sat.gd (inR_t h1 h2) (Sat.gd (decide_eq_true (by omega)) (.some ⟨by omega, ?_⟩)))
        rw [nbS_succ, if_pos h1, h3]
        simp [hc]
    · have hlt := of_decide_eq_false hlt
      obtain rfl : k = N := by omega
      exact .some rfl
  · rintro (r | r) hr
    case inr => exact hr.elim
    obtain rfl := hr
    exact .some rfl
end
end Go.Proofs.Ytjdebphkndfolaa
