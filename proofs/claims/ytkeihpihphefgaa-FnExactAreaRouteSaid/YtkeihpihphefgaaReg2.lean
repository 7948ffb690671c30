/- A region that draws its order, walked along a tree of orders: where two operations that write, make or call come up together, both orders are walked. No program is named here. -/
import Derived.Test.YtkeihpihphefgaaReg
namespace Go.Proofs.Ytkeihpihphefgaa
open Go.RowKit

/-- 'val': what yields a value may come first; 'one': it comes up alone; 'two': two come up together. -/
inductive Tr where
  | done
  | val (k : Nat) (r : Tr)
  | one (k : Nat) (r : Tr)
  | two (k1 : Nat) (r1 : Tr) (k2 : Nat) (r2 : Tr)

section
variable {P : Program} {ops : Array Oper} {md : Region.Mode} {Q : Exit → Act → World → Prop} {S : World → Prop}

def trB (md : Region.Mode) (ops : Array Oper) (g n : Nat) : Nat → Tr → Array Bool → Bool
  | 0, .done, listed => Region.seqB md ops g n listed
  | m + 1, .val k r, listed => decide (k < n) && (match ops[k]? with
     | some o => valOp o.op && (Region.ready md ops listed).contains k && Region.free md ops listed k
     | none => false) && trB md ops g n m r (listed.setIfInBounds k true)
  | m + 1, .one k r, listed => decide (k < n) && decide (Region.ready md ops listed = [k]) && trB md ops g n m r (listed.setIfInBounds k true)
  | m + 1, .two k1 r1 k2 r2, listed => decide (k1 < n) && decide (k2 < n) && decide (Region.ready md ops listed = [k1, k2]) && trB md ops g n m r1 (listed.setIfInBounds k1 true) && trB md ops g n m r2 (listed.setIfInBounds k2 true)
  | _, _, _ => false
def treeB (md : Region.Mode) (ops : Array Oper) (n : Nat) (t : Tr) : Bool :=
  Region.noSelect ops && decide (n < ops.size) && Region.sinkB md ops n && Region.chainB md ops n && trB md ops (ops.size - n) n n t (Array.replicate ops.size false)

/-- One operation, whatever it does. -/
def wpEffT (P : Program) (ops : Array Oper) (Q : Exit → Act → World → Prop) (S : World → Prop) (o : Oper) (a : Act) (w : World) (R : Act → World → Prop) : Prop :=
  if Region.wanted o (yielded ops a.tmps) then o.wp P a w (fun a' w' => S w' ∧ R a' w') (NoP Q) else R (a.put o.dst undef) w
def wpTr (P : Program) (ops : Array Oper) (Q : Exit → Act → World → Prop) (S : World → Prop) (T : Act → World → Prop) : Tr → Act → World → Prop
  | .done, a, w => T a w
  | .val k r, a, w => ∃ o, ops[k]? = some o ∧ (if Region.wanted o (yielded ops a.tmps) then o.quiet P a S (fun a' => wpTr P ops Q S T r a' w) else wpTr P ops Q S T r (a.put o.dst undef) w)
  | .one k r, a, w => ∃ o, ops[k]? = some o ∧ wpEffT P ops Q S o a w (wpTr P ops Q S T r)
  | .two k1 r1 k2 r2, a, w => (∃ o, ops[k1]? = some o ∧ wpEffT P ops Q S o a w (wpTr P ops Q S T r1)) ∧ (∃ o, ops[k2]? = some o ∧ wpEffT P ops Q S o a w (wpTr P ops Q S T r2))

theorem wpOp_effT {o : Oper} {a : Act} {w : World} {k : Nat} {R : Act → World → Prop} {K : Act → World → Prop} (h0 : ops[k]? = some o) (hS : S w) (h : wpEffT P ops Q S o a w R) (hk : ∀ a' w', S w' → R a' w' → K a' w') : wpOp P ops (NoP Q) k K a w := by
  unfold wpOp
  simp only [h0]
  unfold wpEffT at h
  by_cases hw : Region.wanted o (yielded ops a.tmps) = true
  · simp only [hw, if_true] at h ⊢
    exact .inl (Oper.wp_mono (fun a' w' h' => hk a' w' h'.1 h'.2) h)
  · simp only [hw] at h ⊢
    exact hk _ _ hS h

theorem wpAnyK_tree {n g : Nat} {T : Act → World → Prop} (hsel : Region.noSelect ops = true) (hs : Region.sinkB md ops n = true) (hc : Region.chainB md ops n = true) (hn : n < ops.size) :
    ∀ (m : Nat) (t : Tr) (listed : Array Bool) (a : Act) (w : World), HeadInv md ops n listed → trB md ops g n m t listed = true → S w → wpTr P ops Q S T t a w →
    wpAnyK P md ops (NoP Q) S n (fun listed' a' w' => Region.seqB md ops g n listed' = true ∧ T a' w') m listed a w
  | 0, .done, listed, a, w, _, hB, _, h => ⟨by simpa [trB] using hB, h⟩
  | 0, .val _ _, _, _, _, _, hB, _, _ => by simp [trB] at hB
  | 0, .one _ _, _, _, _, _, hB, _, _ => by simp [trB] at hB
  | 0, .two _ _ _ _, _, _, _, _, hB, _, _ => by simp [trB] at hB
  | m + 1, .done, _, _, _, _, hB, _, _ => by simp [trB] at hB
  | m + 1, .val k r, listed, a, w, inv, hB, hS, h => by
    simp only [trB, Bool.and_eq_true, decide_eq_true_eq] at hB
    obtain ⟨⟨hkn, hB1⟩, hB'⟩ := hB
    obtain ⟨o, h0, h⟩ := h
    simp only [h0, Bool.and_eq_true] at hB1
    have hr' : k ∈ Region.ready md ops listed := by simpa using hB1.1.2
    obtain ⟨v, hy, hK⟩ : ∃ v, YieldsIf P ops S o v a ∧ wpTr P ops Q S T r (a.put o.dst v) w := by
      by_cases hw : Region.wanted o (yielded ops a.tmps) = true
      · simp only [hw, if_true] at h
        exact yields_of_quiet hB1.1.1 hw h
      · simp only [hw] at h
        exact ⟨undef, .inr ⟨by simpa using hw, rfl⟩, h⟩
    exact wpAnyK_first h0 (Region.noSelect_spec hsel) (fun _ _ _ h => h) hs hc hn hkn (fun listed' a' w' hL => seqB_ready hL.1) m listed a w inv (Region.free_spec h0 hB1.2) hr' hy hS
      (wpAnyK_tree hsel hs hc hn m r _ _ _ (inv.set hr' hkn) hB' hS hK)
  | m + 1, .one k r, listed, a, w, inv, hB, hS, h => by
    simp only [trB, Bool.and_eq_true, decide_eq_true_eq] at hB
    obtain ⟨⟨hkn, hB1⟩, hB'⟩ := hB
    obtain ⟨o, h0, h⟩ := h
    have hr' : k ∈ Region.ready md ops listed := by rw [hB1]; simp
    refine ⟨by rw [hB1]; simp, fun i hi => ?_⟩
    rw [hB1] at hi
    obtain rfl : i = k := by simpa using hi
    exact ⟨hkn, wpOp_effT h0 hS h fun a' w' hS' h' => ⟨hS', wpAnyK_tree hsel hs hc hn m r _ _ _ (inv.set hr' hkn) hB' hS' h'⟩⟩
  | m + 1, .two k1 r1 k2 r2, listed, a, w, inv, hB, hS, h => by
    simp only [trB, Bool.and_eq_true, decide_eq_true_eq] at hB
    obtain ⟨⟨⟨⟨hk1, hk2⟩, hB1⟩, hBa⟩, hBb⟩ := hB
    obtain ⟨⟨o1, h1, ha⟩, o2, h2, hb⟩ := h
    have hr1 : k1 ∈ Region.ready md ops listed := by rw [hB1]; simp
    have hr2 : k2 ∈ Region.ready md ops listed := by rw [hB1]; simp
    refine ⟨by rw [hB1]; simp, fun i hi => ?_⟩
    rw [hB1] at hi
    have hi : i = k1 ∨ i = k2 := by simpa using hi
    rcases hi with rfl | rfl
    · exact ⟨hk1, wpOp_effT h1 hS ha fun a' w' hS' h' => ⟨hS', wpAnyK_tree hsel hs hc hn m r1 _ _ _ (inv.set hr1 hk1) hBa hS' h'⟩⟩
    · exact ⟨hk2, wpOp_effT h2 hS hb fun a' w' hS' h' => ⟨hS', wpAnyK_tree hsel hs hc hn m r2 _ _ _ (inv.set hr2 hk2) hBb hS' h'⟩⟩

theorem wp_region_tree {id : Nat} {a : Act} {w : World} {l : List Oper} (n : Nat) (t : Tr) (S : World → Prop) (hm : P.follows .mixedOrders = true) (hB : treeB .any l.toArray n t = true) (hS : S w.drew)
    (h : wpTr P l.toArray Q S (fun a' w' => wpList P l.toArray Q (l.drop n) a' w') t a w.drew) : (Code.region id l.toArray true).wp P Q a w := by
  simp only [treeB, Bool.and_eq_true, decide_eq_true_eq] at hB
  obtain ⟨⟨⟨⟨hsel, hn⟩, hs⟩, hc⟩, hlex⟩ := hB
  have hn' : n < l.length := by simpa using hn
  have hdl : (l.drop n).length = l.toArray.size - n := by simp
  have inv0 : HeadInv .any l.toArray n (Array.replicate l.toArray.size false) :=
    ⟨by simp, fun j oj _ hl => (by rw [getD_replicate_false] at hl; cases hl), fun t _ ht => getD_in (by simpa using ht) (getD_replicate_false _ _)⟩
  have H := wpAnyK_tree (md := .any) (g := l.toArray.size - n) hsel hs hc hn n t _ a w.drew inv0 hlex hS h
  refine wp_region_any hm ?_
  have := wpAny_of_headK (Q' := Q) (g := l.toArray.size - n) NoP.le (fun listed a' w' hL => by
    have := wpAny_of_seq (md := .any) (Q' := Q) (l.drop n) n listed a' w' (fun j => by simp [List.getElem?_drop]) (by rw [hdl]; exact hL.1) hL.2
    rwa [hdl] at this) _ _ _ _ H
  rwa [show n + (l.toArray.size - n) = l.toArray.size by simp; omega] at this

/-- The tree with its operations written out. -/
inductive TrO where
  | done
  | bad
  | val (o : Oper) (r : TrO)
  | one (o : Oper) (r : TrO)
  | two (r1 r2 : TrO)
def look (l : List Oper) : Tr → TrO
  | .done => .done
  | .val k r => match l[k]? with | some o => .val o (look l r) | none => .bad
  | .one k r => match l[k]? with | some o => .one o (look l r) | none => .bad
  | .two k1 r1 k2 r2 => .two (match l[k1]? with | some o => .one o (look l r1) | none => .bad) (match l[k2]? with | some o => .one o (look l r2) | none => .bad)
def wpTO (P : Program) (ops : Array Oper) (Q : Exit → Act → World → Prop) (S : World → Prop) (T : Act → World → Prop) : TrO → Act → World → Prop
  | .done, a, w => T a w
  | .bad, _, _ => False
  | .val o r, a, w => if Region.wanted o (yielded ops a.tmps) then o.quiet P a S (fun a' => wpTO P ops Q S T r a' w) else wpTO P ops Q S T r (a.put o.dst undef) w
  | .one o r, a, w => wpEffT P ops Q S o a w (wpTO P ops Q S T r)
  | .two r1 r2, a, w => wpTO P ops Q S T r1 a w ∧ wpTO P ops Q S T r2 a w

theorem wpEffT_mono {o : Oper} {a : Act} {w : World} {R R' : Act → World → Prop} (h : ∀ a w, R a w → R' a w) (H : wpEffT P ops Q S o a w R) : wpEffT P ops Q S o a w R' := by
  unfold wpEffT at *
  split at H
  · rename_i hw
    rw [if_pos hw]
    exact Oper.wp_mono (fun a' w' h' => ⟨h'.1, h _ _ h'.2⟩) H
  · rename_i hw
    rw [if_neg hw]
    exact h _ _ H
theorem quiet_mono' {o : Oper} {a : Act} {K K' : Act → Prop} (h : ∀ a, K a → K' a) (H : o.quiet P a S K) : o.quiet P a S K' := by
  obtain ⟨v, h1, h2⟩ := H
  exact ⟨v, h1, h _ h2⟩
theorem wpTr_of {T : Act → World → Prop} (l : List Oper) : ∀ (t : Tr) (a : Act) (w : World), wpTO P l.toArray Q S T (look l t) a w → wpTr P l.toArray Q S T t a w
  | .done, _, _, h => h
  | .val k r, a, w, h => by
    simp only [look] at h
    cases h0 : l[k]? with
    | none => rw [h0] at h; exact h.elim
    | some o =>
      simp only [h0] at h
      refine ⟨o, by simpa using h0, ?_⟩
      simp only [wpTO] at h
      split at h
      · rename_i hw
        rw [if_pos hw]
        exact quiet_mono' (fun a' h' => wpTr_of l r a' w h') h
      · rename_i hw
        rw [if_neg hw]
        exact wpTr_of l r _ w h
  | .one k r, a, w, h => by
    simp only [look] at h
    cases h0 : l[k]? with
    | none => rw [h0] at h; exact h.elim
    | some o =>
      simp only [h0] at h
      exact ⟨o, by simpa using h0, wpEffT_mono (fun a' w' h' => wpTr_of l r a' w' h') h⟩
  | .two k1 r1 k2 r2, a, w, h => by
    simp only [look, wpTO] at h
    obtain ⟨ha, hb⟩ := h
    refine ⟨?_, ?_⟩
    · cases h0 : l[k1]? with
      | none => rw [h0] at ha; exact ha.elim
      | some o =>
        simp only [h0] at ha
        exact ⟨o, by simpa using h0, wpEffT_mono (fun a' w' h' => wpTr_of l r1 a' w' h') ha⟩
    · cases h0 : l[k2]? with
      | none => rw [h0] at hb; exact hb.elim
      | some o =>
        simp only [h0] at hb
        exact ⟨o, by simpa using h0, wpEffT_mono (fun a' w' h' => wpTr_of l r2 a' w' h') hb⟩

variable {T : Act → World → Prop} {a : Act} {w : World} {o : Oper} {r r1 r2 : TrO}
theorem wpTO_done (h : T a w) : wpTO P ops Q S T .done a w := h
theorem wpTO_skipv (hw : Region.wanted o (yielded ops a.tmps) = false) (h : wpTO P ops Q S T r (a.put o.dst undef) w) : wpTO P ops Q S T (.val o r) a w := by unfold wpTO; simp only [hw]; exact h
theorem wpTO_skip1 (hw : Region.wanted o (yielded ops a.tmps) = false) (h : wpTO P ops Q S T r (a.put o.dst undef) w) : wpTO P ops Q S T (.one o r) a w := by unfold wpTO wpEffT; simp only [hw]; exact h
theorem wpTO_val (hw : Region.wanted o (yielded ops a.tmps) = true) (h : ∀ K : Act → Prop, (∀ a', wpTO P ops Q S T r a' w → K a') → o.quiet P a S K) : wpTO P ops Q S T (.val o r) a w := by
  unfold wpTO; simp only [hw, if_true]; exact h _ fun _ h => h
theorem wpTO_one (hw : Region.wanted o (yielded ops a.tmps) = true) (h : ∀ K : Act → World → Prop, (∀ a' w', S w' → wpTO P ops Q S T r a' w' → K a' w') → o.wp P a w K (NoP Q)) : wpTO P ops Q S T (.one o r) a w := by
  unfold wpTO wpEffT; simp only [hw, if_true]; exact h _ fun _ _ h1 h2 => ⟨h1, h2⟩
theorem wpTO_two (h1 : wpTO P ops Q S T r1 a w) (h2 : wpTO P ops Q S T r2 a w) : wpTO P ops Q S T (.two r1 r2) a w := ⟨h1, h2⟩
/-- At the class of the worlds that leave what is there as it is. -/
theorem wp_tree {id : Nat} {l : List Oper} (n : Nat) (t : Tr) (hm : P.follows .mixedOrders = true) (hB : treeB .any l.toArray n t = true)
    (h : (∀ (x : Lat w) b o, b < w.heap.size → x.now.cell? ⟨b, o, none⟩ = w.cell? ⟨b, o, none⟩) →
      wpTO P l.toArray Q (fun w' => ∃ x : Lat w, w' = x.now) (fun a' w' => wpList P l.toArray Q (l.drop n) a' w') (look l t) a w.drew) : (Code.region id l.toArray true).wp P Q a w :=
  wp_region_tree n t (fun w' => ∃ x : Lat w, w' = x.now) hm hB ⟨⟨w.drew, (Below.refl _ _).drew⟩, rfl⟩ (wpTr_of l t a w.drew (h fun x b o hb => x.ok.cell (p := ⟨b, o, none⟩) hb))
end

/-! ### Classes of worlds of one's own -/
structure LatP (S : World → Prop) where
  now : World
  ok : S now
theorem wp_plan_in {P : Program} {Q : Exit → Act → World → Prop} {a : Act} {w : World} {id : Nat} {l : List Oper} (S : World → Prop) (n : Nat) (ord : List (Nat × Bool)) (hm : P.follows .mixedOrders = true) (hB : planB .any l.toArray n ord = true)
    (hS : S w.drew) (h : Nonempty (LatP S) → wpPlan P l.toArray Q (fun w' => ∃ x : LatP S, w' = x.now) (fun a' w' => wpList P l.toArray Q (l.drop n) a' w') (picked l ord) a w.drew) : (Code.region id l.toArray true).wp P Q a w :=
  wp_region_plan n ord (fun w' => ∃ x : LatP S, w' = x.now) hm hB ⟨⟨_, hS⟩, rfl⟩ (h ⟨⟨_, hS⟩⟩)
theorem wp_tree_in {P : Program} {Q : Exit → Act → World → Prop} {a : Act} {w : World} {id : Nat} {l : List Oper} (S : World → Prop) (n : Nat) (t : Tr) (hm : P.follows .mixedOrders = true) (hB : treeB .any l.toArray n t = true)
    (hS : S w.drew) (h : Nonempty (LatP S) → wpTO P l.toArray Q (fun w' => ∃ x : LatP S, w' = x.now) (fun a' w' => wpList P l.toArray Q (l.drop n) a' w') (look l t) a w.drew) : (Code.region id l.toArray true).wp P Q a w :=
  wp_region_tree n t (fun w' => ∃ x : LatP S, w' = x.now) hm hB ⟨⟨_, hS⟩, rfl⟩ (wpTr_of l t a w.drew (h ⟨⟨_, hS⟩⟩))
end Go.Proofs.Ytkeihpihphefgaa
