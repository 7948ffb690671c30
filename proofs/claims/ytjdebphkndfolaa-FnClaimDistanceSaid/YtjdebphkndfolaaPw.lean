/- Plain contracts: claims; whether a node is used; the graph without a node. -/
import Derived.Test.YtjdebphkndfolaaPv
namespace Go.Proofs.Ytjdebphkndfolaa
open Go.RowKit
set_option linter.unusedSimpArgs false
set_option linter.unusedVariables false
set_option maxRecDepth 100000

/-- The announcements of all nodes, with that of one node replaced. -/
def clE (ls : List Lk) (N : Nat) (node : Int) (ends : List En) (n : Nat) : Ls := ⟨n, 1, if (n : Int) = node then ends else endsOf ls N n⟩
def clDb (ls : List Lk) (N : Nat) (node : Int) (ends : List En) (k : Nat) : List Ls := (List.range k).map (clE ls N node ends)
theorem clDb_len (ls : List Lk) (N : Nat) (node : Int) (ends : List En) (k : Nat) : (clDb ls N node ends k).length = k := by simp [clDb]
theorem clDb_succ (ls : List Lk) (N : Nat) (node : Int) (ends : List En) (k : Nat) : clDb ls N node ends (k + 1) = clDb ls N node ends k ++ [clE ls N node ends k] := by simp [clDb, List.range_succ]
theorem clDb_at {ls : List Lk} {N : Nat} {node : Int} {ends : List En} {k i : Nat} (h : i < k) : lsa (clDb ls N node ends k) i = clE ls N node ends i := by simp [lsa, clDb, h]
section
variable {N : Nat} {ls : List Lk} {node : Int} {ends : List En}
theorem en_map {l : List Int} {f : Int → En} {i : Nat} (h : i < l.length) : en (l.map f) i = f (iz l i) := by simp [en, iz, h]
theorem pw_iz {l : List Int} (h : l.Pairwise (· < ·)) {i j : Nat} (hij : i < j) (hj : j < l.length) : iz l i < iz l j := by
  have := List.pairwise_iff_getElem.1 h i j (by omega) hj hij
  simpa [iz, hj, show i < l.length by omega] using this
theorem endsOf_ok (g : GV N ls) {n : Nat} (hn : n < N) : LsV ⟨n, 1, endsOf ls N n⟩ := by
  have h8 := g.2.1
  refine ⟨by dsimp only; omega, by dsimp only; omega, by dsimp only; omega, by dsimp only; omega, fun i hi => ?_⟩
  dsimp only at hi ⊢
  have hi' : i < (nbS ls n N).length := by unfold endsOf at hi; simpa using hi
  have hm : iz (nbS ls n N) i ∈ nbS ls n N := List.mem_of_getElem? (iz_get hi')
  obtain ⟨j, hj, e, hs⟩ := nbS_mem.1 hm
  obtain ⟨c, hc⟩ := Option.isSome_iff_exists.1 hs
  have hcc := lc_cost g hc
  have hne := (lc_none_out g hs).2.2.2.2
  unfold EnAt endsOf
  rw [en_map hi', e, hc]
  refine ⟨by dsimp only; omega, by dsimp only; omega, by dsimp only; omega, hcc.1, hcc.2, fun h0 => ?_⟩
  rw [en_map (show i - 1 < (nbS ls n N).length by omega)]
  have := pw_iz (nbS_asc ls n N) (show i - 1 < i by omega) hi'
  dsimp only
  omega
theorem clDb_ok (g : GV N ls) (he : LsV ⟨node, 1, ends⟩) : DbV (clDb ls N node ends N) := by
  intro i hi
  rw [clDb_len] at hi
  rw [clDb_at hi]
  refine ⟨?_, fun h => ?_⟩
  · unfold clE
    by_cases e : (i : Int) = node
    · rw [if_pos e, e]; exact he
    · rw [if_neg e]; exact endsOf_ok g hi
  · rw [clDb_at (show i - 1 < N by omega)]
    unfold clE
    dsimp only
    omega
theorem ec_endsOf (g : GV N ls) {a b : Nat} (hb : b < N) : ec (endsOf ls N a) b = (lc ls a b).getD 0 := by
  unfold ec endsOf
  rw [List.find?_map]
  cases hc : lc ls a b with
  | none =>
    have : List.find? ((fun e : En => decide (e.n = (b : Int))) ∘ fun n => (⟨n, (lc ls a n).getD 0⟩ : En)) (nbS ls a N) = none := by
      rw [List.find?_eq_none]
      intro x hx
      simp only [Function.comp]
      intro e
      have e := of_decide_eq_true e
      obtain ⟨j, _, rfl, hs⟩ := nbS_mem.1 hx
      rw [e, hc] at hs
      cases hs
    rw [this]; rfl
  | some c =>
    have hm : (b : Int) ∈ nbS ls a N := nbS_mem.2 ⟨b, hb, rfl, by rw [hc]; rfl⟩
    obtain ⟨y, hy⟩ : ∃ y, List.find? ((fun e : En => decide (e.n = (b : Int))) ∘ fun n => (⟨n, (lc ls a n).getD 0⟩ : En)) (nbS ls a N) = some y := by
      rw [← Option.isSome_iff_exists, List.find?_isSome]
      exact ⟨b, hm, by simp⟩
    rw [hy]
    have := List.find?_some hy
    simp only [Function.comp] at this
    have := of_decide_eq_true this
    subst this
    simp [hc]
theorem fd_cl {a : Nat} (ha : a < N) : fd (clDb ls N node ends N) a = some (clE ls N node ends a) := by
  unfold fd
  have hl : a < (clDb ls N node ends N).length := by rw [clDb_len]; exact ha
  have := find_hit (p := fun l : Ls => decide (l.o = (a : Int))) (l := clDb ls N node ends N) (k := a) hl (by rw [← lsa_get hl, clDb_at ha]; simp [clE]) fun i hi hia => decide_eq_false (by rw [← lsa_get hi, clDb_at (by omega)]; unfold clE; dsimp only; omega)
  rw [this, ← lsa_get hl, clDb_at ha]
theorem ann_cl (g : GV N ls) {a b : Nat} (ha : a < N) (hb : b < N) : ann (clDb ls N node ends N) a b = if (a : Int) = node then ec ends b else (lc ls a b).getD 0 := by
  unfold ann
  rw [fd_cl ha]
  unfold clE
  dsimp only
  split
  · rfl
  · exact ec_endsOf g hb
/-- The links that a claim leaves. -/
def clF (ls : List Lk) (N : Nat) (node : Int) (ends : List En) : Nat → Nat → Option Int := dbF (clDb ls N node ends N)
theorem clF_sub (g : GV N ls) {a b : Nat} {c : Int} (hab : a < b) (hb : b < N) (h : clF ls N node ends a b = some c) : ∃ d, lc ls a b = some d ∧ d ≤ c := by
  unfold clF dbF at h
  rw [ann_cl g (by omega) hb, ann_cl g hb (by omega), lc_symm ls b a] at h
  generalize hX : (if (a : Int) = node then ec ends b else (lc ls a b).getD 0) = X at h
  generalize hY : (if (b : Int) = node then ec ends a else (lc ls a b).getD 0) = Y at h
  split at h
  · rename_i hp
    injection h with h
    cases e : lc ls a b with
    | none =>
      rw [e] at hX hY
      simp only [Option.getD_none] at hX hY
      exfalso
      split at hX <;> split at hY <;> omega
    | some d =>
      rw [e] at hX hY
      simp only [Option.getD_some] at hX hY
      refine ⟨d, rfl, ?_⟩
      split at hX <;> split at hY <;> omega
  · cases h
theorem ec_le {o : Int} {es : List En} {s : Int} (h : LsV ⟨o, s, es⟩) (b : Int) : 0 ≤ ec es b ∧ ec es b ≤ 20 := by
  unfold ec
  split
  · rename_i e he
    obtain ⟨i, hi, rfl⟩ := List.getElem_of_mem (List.mem_of_find?_eq_some he)
    have := h.2.2.2.2 i hi
    unfold EnAt at this
    rw [en_get hi] at this
    dsimp only at this
    omega
  · omega
theorem clF_cost (g : GV N ls) (he : LsV ⟨node, 1, ends⟩) {a b : Nat} {c : Int} (hab : a < b) (hb : b < N) (h : clF ls N node ends a b = some c) : 1 ≤ c ∧ c ≤ 20 := by
  obtain ⟨d, hd, hdc⟩ := clF_sub g hab hb h
  have hd2 := lc_cost g hd
  unfold clF dbF at h
  rw [ann_cl g (by omega) hb, ann_cl g hb (by omega), lc_symm ls b a, hd] at h
  have q1 := ec_le he b
  have q2 := ec_le he a
  simp only [Option.getD_some] at h
  generalize hX : (if (a : Int) = node then ec ends b else d) = X at h
  generalize hY : (if (b : Int) = node then ec ends a else d) = Y at h
  split at h
  · injection h with h
    split at hX <;> split at hY <;> omega
  · cases h
theorem gridR_le {f g : Nat → Nat → Option Int} {a : Nat} : ∀ {j : Nat}, (∀ b, a < b → b ≤ a + j → (f a b).isSome = true → (g a b).isSome = true) → (gridR f a j).length ≤ (gridR g a j).length
  | 0, _ => by simp [gridR]
  | j + 1, h => by
    rw [gridR_succ, gridR_succ, List.length_append, List.length_append]
    have h1 := gridR_le (j := j) fun b h1 h2 => h b h1 (by omega)
    have h2 := h (a + 1 + j) (by omega) (by omega)
    have : (cell f a (a + 1 + j)).length ≤ (cell g a (a + 1 + j)).length := by
      unfold cell
      cases e : f a (a + 1 + j) with
      | none => simp
      | some c =>
        rw [e] at h2
        obtain ⟨d, hd⟩ := Option.isSome_iff_exists.1 (h2 rfl)
        simp [hd]
    omega
theorem gridK_le {f g : Nat → Nat → Option Int} : ∀ {k : Nat}, (∀ a b, a < k → a < b → b < N → (f a b).isSome = true → (g a b).isSome = true) → (gridK f N k).length ≤ (gridK g N k).length
  | 0, _ => by simp [gridK]
  | k + 1, h => by
    rw [gridK_succ, gridK_succ, List.length_append, List.length_append]
    have h1 := gridK_le (k := k) fun a b ha => h a b (by omega)
    have h2 := gridR_le (f := f) (g := g) (a := k) (j := N - 1 - k) fun b hb1 hb2 => h k b (by omega) hb1 (by omega)
    omega
theorem clF_len (g : GV N ls) : (grid (clF ls N node ends) N).length ≤ 14 := by
  have h := gridK_le (N := N) (f := clF ls N node ends) (g := fun a b => lc ls a b) (k := N) fun a b ha hab hb h => by
    obtain ⟨c, hc⟩ := Option.isSome_iff_exists.1 h
    obtain ⟨d, hd, _⟩ := clF_sub g hab hb hc
    rw [hd]; rfl
  have e : (grid (fun a b => lc ls a b) N).length ≤ 14 := by rw [g.grid]; exact g.2.2.1
  exact Nat.le_trans h e
theorem clF_gv (g : GV N ls) (he : LsV ⟨node, 1, ends⟩) : GV N (grid (clF ls N node ends) N) := grid_gv (by have := g.1; omega) (by have := g.2.1; omega) (fun a b c h1 h2 h3 => clF_cost g he h1 h2 h3) (clF_len g)
end
def clOk (n : Int) (ls : List Lk) (node : Int) (ends : List En) : Bool := gv n ls && inB node 0 (n - 1) && lsv node 1 ends
def clR (n : Int) (ls : List Lk) (node : Int) (ends : List En) : Int × Bool × List Lk := if clOk n ls node ends then (n, true, grid (clF ls n.toNat node ends) n.toNat) else (0, false, [])
theorem dfl_set {db : List Ls} {i : Nat} {l : Ls} {j : Nat} (hi : i < db.length) : lsa (db.set i l) j = if j = i then l else lsa db j := by
  unfold lsa
  simp only [List.getD, List.getElem?_set]
  by_cases h : i = j
  · subst h; simp [hi]
  · rw [if_neg h, if_neg (fun e => h e.symm)]
section
variable {ls : List Lk} {ends : List En}
theorem e_ClaimGraph (n node : Int) (hl : Fits ls) (he : Fits ends) : sh_impl_ClaimGraph (n, ls, node, ends, ()) = some ((clR n ls node ends).1, (clR n ls node ends).2.1, (clR n ls node ends).2.2, ()) := by
  unfold sh_impl_ClaimGraph clR clOk
  simp only [e_hasNode n node ls hl, e_LsaValid node 1 ends he, Option.bind_some]
  cases h1 : gv n ls with
  | false => rfl
  | true =>
  cases h2 : inB node 0 (n - 1) with
  | false => rfl
  | true =>
  cases h3 : lsv node 1 ends with
  | false => rfl
  | true =>
  have hV : LsV ⟨node, 1, ends⟩ := of_decide_eq_true h3
  obtain ⟨N, rfl, g⟩ := gv_nat h1
  have h8 := g.2.1
  have h2 := inB_t h2
  obtain ⟨K, rfl⟩ := Int.eq_ofNat_of_zero_le h2.1
  simp only [Bool.and_self, Bool.not_true, cond_false, if_true, Int.toNat_natCast]
  refine Sat.out (Sat.bnd (R := fun r => match r with | .inl x => x = ((K : Int), ends, (N : Int), ls, 0, [], (List.range N).map (fun n : Nat => (⟨n, 1, endsOf ls N n⟩ : Ls)), ()) | .inr _ => False) ?_ ?_)
  · refine Sat.count N (fun k s => s = ((K : Int), ends, (N : Int), (k : Int), (N : Int), ls, 0, [], (List.range k).map (fun n : Nat => (⟨n, 1, endsOf ls N n⟩ : Ls)), ())) ?_ (Nat.zero_le _) (fuel_lt (by omega)) rfl
    rintro k s hk rfl
    simp (disch := omega) only [bo_impl_ClaimGraph_5, e_lsaOf g, Option.bind_some, w64, List.length_singleton, List.length_map, List.length_range]
    repeat' (first
      | refine Sat.some ?_
      | (refine Sat.gd (decide_eq_true (by omega)) ?_)
      | (refine Sat.gd (by first | exact inR_t (by omega) (by omega) | (simp (disch := omega) only [w64]; exact inR_t (by omega) (by omega))) ?_)
      | (refine Sat.ite (fun h => ?_) (fun h => ?_) <;> try simp only [decide_eq_true_eq, decide_eq_false_iff_not, Bool.not_eq_true', Bool.not_eq_false', inB_i, inB_j, Bool.and_eq_true, Bool.or_eq_true, Bool.and_eq_false_iff, Bool.or_eq_false_iff, El] at h))
    all_goals try dsimp only
    · exact ⟨by omega, by rw [List.range_succ, List.map_append]; rfl⟩
    · obtain rfl : k = N := by omega
      rfl
  · rintro (r | r) hr
    case inr => exact hr.elim
    obtain rfl := hr
    dsimp only
    have hlen : ((List.range N).map (fun n : Nat => (⟨n, 1, endsOf ls N n⟩ : Ls))).length = N := by simp
    have hat : ∀ i, i < N → lsa ((List.range N).map (fun n : Nat => (⟨n, 1, endsOf ls N n⟩ : Ls))) i = ⟨i, 1, endsOf ls N i⟩ := fun i hi => by simp [lsa, hi]
    refine Sat.gd (inR_t (by omega) (by rw [hlen]; omega)) ?_
    rw [toN, at_ls, hat K (by omega)]
    have e : ((List.range N).map (fun n : Nat => (⟨n, 1, endsOf ls N n⟩ : Ls))).set K ⟨(K : Int), 1, ends⟩ = clDb ls N K ends N := by
      refine List.ext_getElem (by simp [clDb]) fun i h1 h2 => ?_
      rw [← lsa_get h1, ← lsa_get h2, dfl_set (by rw [hlen]; omega), clDb_at (by simpa using h1)]
      unfold clE
      by_cases hi : i = K
      · subst hi; simp
      · rw [if_neg hi, if_neg (by omega), hat i (by simpa using h1)]
    rw [e]
    have hd : DbV (clDb ls N K ends N) := clDb_ok g hV
    have hf : ∀ l ∈ clDb ls N K ends N, Fits l.e := fun l hl => by
      obtain ⟨i, hi, rfl⟩ := List.mem_map.1 hl
      unfold clE
      dsimp only
      split
      · exact he
      · have := endsOf_len (ls := ls) (N := N) (i : Int)
        unfold Fits; omega
    rw [e_DbGraph _ _ (by rw [clDb_len]; omega) hf]
    have ho : dbOk (N : Int) (clDb ls N K ends N) = true := by
      unfold dbOk
      rw [inB_mk (show 1 ≤ (N : Int) ∧ (N : Int) ≤ 8 by have := g.1; omega), show dbv (clDb ls N K ends N) = true from decide_eq_true hd, Int.toNat_natCast]
      exact decide_eq_true (clF_len g)
    rw [if_pos ho]
    exact .some rfl
theorem e_sClaimGraph (n node : Int) (hl : Fits ls) (he : ends.length ≤ 1000) : sh_spec_ClaimGraph (n, ls, node, ends, ()) = some ((clR n ls node ends).1, (clR n ls node ends).2.1, (clR n ls node ends).2.2, ()) := by
  have hfe : Fits ends := by unfold Fits; omega
  unfold sh_spec_ClaimGraph sh_spec_l32Ok clR clOk
  simp only [e_sGraphValid n ls hl, e_sLsaValid node 1 ends hfe, Option.bind_some]
  cases h1 : gv n ls with
  | false => rfl
  | true =>
  obtain ⟨N, rfl, g⟩ := gv_nat h1
  have h8 := g.2.1
  simp only [e_l1Node (N : Int) node ls (by omega) (by omega), Option.bind_some, cond_true]
  cases h2 : inB node 0 ((N : Int) - 1) with
  | false => rfl
  | true =>
  cases h3 : lsv node 1 ends with
  | false => rfl
  | true =>
  simp only [Option.bind_some, cond_true, Bool.and_self, Bool.not_true, cond_false, if_true, Int.toNat_natCast]
  have e : sh_spec_l32Db ((N : Int), ls, node, ends, ()) = some (clDb ls N node ends N, ()) := by
    unfold sh_spec_l32Db
    refine Sat.out (Sat.bnd (R := fun r => match r with | .inl x => x.1 = clDb ls N node ends N | .inr _ => False) ?_ ?_)
    · refine Sat.count N (fun k s => s = (node, ends, (k : Int), (N : Int), ls, clDb ls N node ends k, ())) ?_ (Nat.zero_le _) (fuel_lt (by omega)) rfl
      rintro k s hk rfl
      have hcl := clDb_len ls N node ends k
      simp (disch := omega) only [bo_spec_l32Db_3, e_l11Of g, Option.bind_some, w64, List.length_singleton, List.length_nil, List.nil_append, Nat.zero_add]
      repeat' (first
        | refine Sat.some ?_
        | (refine Sat.gd (decide_eq_true (by omega)) ?_)
        | (refine Sat.gd (by first | exact inR_t (by omega) (by omega) | (simp (disch := omega) only [w64]; exact inR_t (by omega) (by omega))) ?_)
        | (refine Sat.ite (fun h => ?_) (fun h => ?_) <;> try simp only [decide_eq_true_eq, decide_eq_false_iff_not, Bool.not_eq_true', Bool.not_eq_false', inB_i, inB_j, Bool.and_eq_true, Bool.or_eq_true, Bool.and_eq_false_iff, Bool.or_eq_false_iff, El] at h))
      all_goals try dsimp only
      all_goals first
        | (refine ⟨by omega, ?_⟩
           rw [clDb_succ]
           unfold clE
           first
             | rw [if_pos (by assumption)]; rfl
             | rw [if_neg (by assumption)]; rfl)
        | (obtain rfl : k = N := by omega
           rfl)
    · rintro (r | r) hr
      case inr => exact hr.elim
      have hr : r.1 = clDb ls N node ends N := hr
      exact .some (by rw [hr])
  have hf : ∀ l ∈ clDb ls N node ends N, Fits l.e := fun l hl => by
    obtain ⟨i, hi, rfl⟩ := List.mem_map.1 hl
    unfold clE
    dsimp only
    split
    · exact hfe
    · have := endsOf_len (ls := ls) (N := N) (i : Int)
      unfold Fits; omega
  rw [e]
  dsimp only [Option.bind_some]
  rw [e_l11Graph (show Fits (clDb ls N node ends N) by unfold Fits; rw [clDb_len]; omega) hf (by omega)]
  rfl
end
end Go.Proofs.Ytjdebphkndfolaa
