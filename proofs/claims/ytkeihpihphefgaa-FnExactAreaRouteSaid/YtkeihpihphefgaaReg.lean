/- A region that draws its order and whose calls, boxes and new slices leave what was there as it was: one walk in the order of the text serves every order. No program is named here. -/
import Derived.OrdersHeld
import Derived.StillTail
import Derived.StillTailTactics
import Derived.Test.YtkeihpihphefgaaMem
namespace Go.Proofs.Ytkeihpihphefgaa
open Go.RowKit

/-- No panic is let out. -/
def NoP (Q : Exit → Act → World → Prop) : Exit → Act → World → Prop
  | .panic _, _, _ => False
  | e, a, w => Q e a w
theorem NoP.le {Q : Exit → Act → World → Prop} : ∀ e a w, NoP Q e a w → Q e a w := by
  intro e a w h
  cases e <;> first | exact h | exact h.elim
theorem wp_weak {P : Program} {o : Oper} {a : Act} {w : World} {K : Act → World → Prop} {Q Q' : Exit → Act → World → Prop} (hq : ∀ e a w, Q e a w → Q' e a w) (h : o.wp P a w K Q) : o.wp P a w K Q' := by
  unfold Oper.wp at *
  generalize (execOp a.eval o).run P w = r at *
  cases r with
  | ok n w' =>
    cases n <;> simp only [Oper.upon] at h ⊢ <;> first | exact h | skip
    case enter f args =>
      refine Calls.mono h fun e w'' he => ?_
      cases e with
      | returned u => exact he
      | panicked c => exact hq _ _ _ he
      | outgrown => obtain ⟨a', w', h'⟩ := he; exact ⟨a', w', hq _ _ _ h'⟩
  | halt x w' =>
    cases x <;> simp only [Oper.upon] at h ⊢
    case panic u => exact hq _ _ _ h
theorem wpOp_weak {P : Program} {ops : Array Oper} {i : Nat} {a : Act} {w : World} {K : Act → World → Prop} {Q Q' : Exit → Act → World → Prop} (hq : ∀ e a w, Q e a w → Q' e a w) (h : wpOp P ops Q i K a w) : wpOp P ops Q' i K a w := by
  unfold wpOp at *
  split at h
  · exact h
  · split at h
    · rename_i hw
      simp only [hw, if_true]
      rcases h with h | ⟨h1, a', w', h2⟩
      · exact .inl (wp_weak hq h)
      · exact .inr ⟨h1, a', w', hq _ _ _ h2⟩
    · rename_i hw
      simp only [hw]
      exact h

section
variable {P : Program} {ops : Array Oper} {md : Region.Mode} {Q : Exit → Act → World → Prop} {S : World → Prop}

/-- The head, in whatever order: behind each operation S holds; then T. -/
def wpAnyK (P : Program) (md : Region.Mode) (ops : Array Oper) (Q : Exit → Act → World → Prop) (S : World → Prop) (n : Nat) (T : Array Bool → Act → World → Prop) : Nat → Array Bool → Act → World → Prop
  | 0, listed, a, w => T listed a w
  | f + 1, listed, a, w => Region.ready md ops listed ≠ [] ∧ ∀ i ∈ Region.ready md ops listed, i < n ∧ wpOp P ops Q i (fun a' w' => S w' ∧ wpAnyK P md ops Q S n T f (listed.setIfInBounds i true) a' w') a w

theorem wpAny_of_headK {n g : Nat} {T : Array Bool → Act → World → Prop} {Q' : Exit → Act → World → Prop} (hq : ∀ e a w, Q e a w → Q' e a w) (hT : ∀ listed a w, T listed a w → wpAny P md ops Q' g listed a w) :
    ∀ (f : Nat) (listed : Array Bool) (a : Act) (w : World), wpAnyK P md ops Q S n T f listed a w → wpAny P md ops Q' (f + g) listed a w
  | 0, listed, a, w, h => by rw [Nat.zero_add]; exact hT _ _ _ h
  | f + 1, listed, a, w, h => by
    rw [show f + 1 + g = (f + g) + 1 by omega]
    exact ⟨fun h0 => absurd h0 h.1, fun i hi => wpOp_mono (fun a' w' h' => wpAny_of_headK hq hT f _ a' w' h'.2) (wpOp_weak hq (h.2 i hi).2)⟩

theorem wpAnyK_first {n i : Nat} {oi : Oper} {v : Value} {T : Array Bool → Act → World → Prop} (hi : ops[i]? = some oi) (hsel : ∀ (j : Nat) (o : Oper) cs b, ops[j]? = some o → o.op ≠ .select cs b)
    (hQ : ∀ c a w, Q (.panic c) (a.put oi.dst v) w → Q (.panic c) a w)
    (hs : Region.sinkB md ops n = true) (hc : Region.chainB md ops n = true) (hn : n < ops.size) (hin : i < n)
    (hdone : ∀ listed a w, T listed a w → ∀ j ∈ Region.ready md ops listed, n ≤ j) :
    ∀ (f : Nat) (listed : Array Bool) (a : Act) (w : World), HeadInv md ops n listed →
      (∀ j oj, ops[j]? = some oj → j ≠ i → listed.getD j true = false → (∀ e ∈ oj.after, Region.binds md e = true → e.on ≠ i) → oi.apart ops oj = true) →
      i ∈ Region.ready md ops listed → YieldsIf P ops S oi v a → S w →
      wpAnyK P md ops Q S n T f (listed.setIfInBounds i true) (a.put oi.dst v) w → wpAnyK P md ops Q S n T (f + 1) listed a w := by
  intro f
  induction f with
  | zero =>
    intro listed a w inv _ hr hy hS H
    have hun := (mem_ready.1 hr).1
    refine ⟨fun h => (by rw [h] at hr; cases hr), fun j hj => ?_⟩
    have hjn : j < n := by
      rcases Nat.lt_or_ge j n with h | h
      · exact h
      · exact absurd hj (tail_waits hs hc hn inv _ i rfl hin hun j h)
    refine ⟨hjn, ?_⟩
    by_cases hji : j = i
    · subst hji; exact hy.wpOp hi hS ⟨hS, H⟩
    · have := hdone _ _ _ H j (ready_mono hj hji)
      omega
  | succ f ih =>
    intro listed a w inv hfree hr hy hS H
    have hun := (mem_ready.1 hr).1
    refine ⟨fun h => (by rw [h] at hr; cases hr), fun j hj => ?_⟩
    have hjn : j < n := by
      rcases Nat.lt_or_ge j n with h | h
      · exact h
      · exact absurd hj (tail_waits hs hc hn inv _ i rfl hin hun j h)
    refine ⟨hjn, ?_⟩
    by_cases hji : j = i
    · subst hji; exact hy.wpOp hi hS ⟨hS, H⟩
    · have h1 := (H.2 j (ready_mono hj hji)).2
      obtain ⟨hjun, oj, hoj, hall⟩ := mem_ready.1 hj
      have hnot : ∀ e ∈ oj.after, Region.binds md e = true → e.on ≠ i := fun e he hb heq => by
        have h1 := hall e he hb
        rw [heq, getD_both hun] at h1
        cases h1
      have h2 := wpOp_putIf hoj (hfree j oj hoj hji hjun hnot) (fun cs b => hsel i oi cs b hi) (fun cs b => hsel j oj cs b hoj) hQ hy h1
      have hfree' : ∀ k ok, ops[k]? = some ok → k ≠ i → (listed.setIfInBounds j true).getD k true = false →
          (∀ e ∈ ok.after, Region.binds md e = true → e.on ≠ i) → oi.apart ops ok = true := fun k ok hk hki hun hno => by
        refine hfree k ok hk hki ?_ hno
        by_cases hjk : j = k
        · subst hjk; exact hjun
        · rw [getD_set_ne true hjk] at hun; exact hun
      refine wpOp_mono (fun a' w' h3 => ⟨h3.2.1, ih (listed.setIfInBounds j true) a' w' (inv.set hj hjn) hfree' (ready_mono hr (Ne.symm hji)) h3.1 h3.2.1 ?_⟩) h2
      rw [Array.setIfInBounds_comm _ _ hji]
      exact h3.2.2

/-- What hands back a value and does nothing else that another operation could see. -/
def valOp : Op → Bool
  | .move _ | .assign _ | .pick _ _ _ | .build _ _ | .load _ _ | .binOp _ _ _ _ _ | .unOp _ _ _ | .convert _ _ _ | .slice _ _ _ _ _ | .fieldAddr _ _ _ | .field _ _ _ | .indexAddr _ _ _ | .index _ _ _ | .extract _ _ | .nilCheck _ => true
  | .call { callee := .builtin .len, .. } | .call { callee := .builtin .cap, .. } | .call { callee := .builtin .min, .. } | .call { callee := .builtin .max, .. } => true
  | _ => false

/-- It hands back a value, if anything. -/
def OnlyV (P : Program) (s : Sem Next) : Prop := ∀ w n w', s.run P w = .ok n w' → ∃ u, n = .value u
theorem OnlyV.bind {α : Type} {s : Sem α} {f : α → Sem Next} (h : ∀ a, OnlyV P (f a)) : OnlyV P (s >>= f) := by
  intro w n w' e
  rw [Sem.run_bind] at e
  generalize s.run P w = r at e
  cases r with
  | ok a w1 => exact h a w1 n w' e
  | halt x w1 => simp [Result.andThen] at e
theorem OnlyV.pure {v : Value} : OnlyV P (pure (Next.value v)) := by
  intro w n w' e
  simp only [Sem.run_pure, Result.ok.injEq] at e
  exact ⟨_, e.1.symm⟩
theorem OnlyV.nilDeref : OnlyV P (runtimePanic .nilDeref) := by
  intro w n w' e
  simp [runtimePanic, go_sem] at e
theorem only_v {ρ : Operand → Value} {o : Oper} (hv : valOp o.op = true) : OnlyV P (execOp ρ o) := by
  obtain ⟨dst, op, ty, pos, after, guard⟩ := o
  cases op <;> simp only [valOp] at hv <;> first | cases hv | skip
  all_goals try (exact OnlyV.bind fun _ => OnlyV.pure)
  all_goals try (exact OnlyV.pure)
  case nilCheck x =>
    simp only [execOp]
    split <;> first | exact OnlyV.nilDeref | exact OnlyV.pure | skip
    split <;> first | exact OnlyV.nilDeref | exact OnlyV.pure | skip
    refine OnlyV.bind fun _ => OnlyV.bind fun _ => ?_
    split
    · exact OnlyV.bind fun _ => OnlyV.pure
    · exact OnlyV.pure
  case call c =>
    obtain ⟨cal, args, tys⟩ := c
    cases cal with
    | builtin b =>
      cases b <;> simp only at hv <;> first | cases hv | skip
      all_goals
        simp only [execOp, resolve, pure_bind, invoke, builtin]
        exact OnlyV.bind fun _ => OnlyV.pure
    | _ => cases hv

theorem yields_of_quiet {o : Oper} {a : Act} {K : Act → Prop} (hv : valOp o.op = true) (hw : Region.wanted o (yielded ops a.tmps) = true) (h : o.quiet P a S K) : ∃ v, YieldsIf P ops S o v a ∧ K (a.put o.dst v) := by
  obtain ⟨v, h1, h2⟩ := h
  refine ⟨v, .inl ⟨hw, fun w hS => ?_⟩, h2⟩
  have h3 := h1 w hS
  unfold Oper.quietAt at h3
  have h4 := only_v (P := P) (ρ := a.eval) hv w
  generalize hr : (execOp a.eval o).run P w = r at h3 h4 ⊢
  cases r with
  | ok n w' =>
    obtain ⟨u, rfl⟩ := h4 n w' rfl
    simp only [Oper.quietUpon] at h3
    rw [h3.1, h3.2]
  | halt x w' => exact h3.elim

/-- The walk in the order of the text: the head. -/
def wpPlan (P : Program) (ops : Array Oper) (Q : Exit → Act → World → Prop) (S : World → Prop) (T : Act → World → Prop) : List (Oper × Bool) → Act → World → Prop
  | [], a, w => T a w
  | (o, f) :: r, a, w =>
    if Region.wanted o (yielded ops a.tmps) then
      (match f && valOp o.op with
       | false => o.wp P a w (fun a' w' => S w' ∧ wpPlan P ops Q S T r a' w') (NoP Q)
       | true => o.quiet P a S (fun a' => wpPlan P ops Q S T r a' w))
    else wpPlan P ops Q S T r (a.put o.dst undef) w

/-- The head in the order 'ord': what yields a value may come first (where its letter is true); all else must come up alone. -/
def planHead (md : Region.Mode) (ops : Array Oper) (g n : Nat) : List (Nat × Bool) → Array Bool → Bool
  | [], listed => Region.seqB md ops g n listed
  | (k, f) :: r, listed =>
    decide (k < n) && (match ops[k]? with
     | some o => (if f && valOp o.op then (Region.ready md ops listed).contains k && Region.free md ops listed k else decide (Region.ready md ops listed = [k]))
     | none => false) && planHead md ops g n r (listed.setIfInBounds k true)
def planB (md : Region.Mode) (ops : Array Oper) (n : Nat) (ord : List (Nat × Bool)) : Bool :=
  Region.noSelect ops && decide (n < ops.size) && Region.sinkB md ops n && Region.chainB md ops n && decide (ord.length = n) && planHead md ops (ops.size - n) n ord (Array.replicate ops.size false)
/-- The operations in that order. -/
def picked (l : List Oper) (ord : List (Nat × Bool)) : List (Oper × Bool) := ord.filterMap fun k => l[k.1]?.map fun o => (o, k.2)

theorem wpAnyK_lex {n g : Nat} {T : Act → World → Prop} (hsel : Region.noSelect ops = true) (hs : Region.sinkB md ops n = true) (hc : Region.chainB md ops n = true) (hn : n < ops.size) :
    ∀ (ord : List (Nat × Bool)) (listed : Array Bool) (a : Act) (w : World), HeadInv md ops n listed → planHead md ops g n ord listed = true → S w → wpPlan P ops Q S T (picked ops.toList ord) a w →
    wpAnyK P md ops (NoP Q) S n (fun listed' a' w' => Region.seqB md ops g n listed' = true ∧ T a' w') ord.length listed a w
  | [], listed, a, w, _, hB, _, h => ⟨by simpa [planHead] using hB, h⟩
  | (k, f) :: l, listed, a, w, inv, hB, hS, h => by
    simp only [planHead, Bool.and_eq_true, decide_eq_true_eq] at hB
    obtain ⟨⟨hkn, hB1⟩, hB'⟩ := hB
    cases h0 : ops[k]? with
    | none => simp [h0] at hB1
    | some o =>
    simp only [h0] at hB1
    have hp : picked ops.toList ((k, f) :: l) = (o, f) :: picked ops.toList l := by
      have : ops.toList[k]? = some o := by rw [Array.getElem?_toList]; exact h0
      unfold picked; rw [List.filterMap_cons]; simp only [this, Option.map_some]
    rw [hp] at h
    have go_on := fun (a' : Act) (w' : World) (hr' : k ∈ Region.ready md ops listed) (hS' : S w') (h' : wpPlan P ops Q S T (picked ops.toList l) a' w') =>
      wpAnyK_lex hsel hs hc hn l (listed.setIfInBounds k true) a' w' (inv.set hr' hkn) hB' hS' h'
    unfold wpPlan at h
    cases hv : f && valOp o.op with
    | true =>
      have hv2 : f = true ∧ valOp o.op = true := by simpa only [Bool.and_eq_true] using hv
      have hv' := hv2.2
      rw [if_pos hv2] at hB1
      simp only [Bool.and_eq_true] at hB1
      have hr' : k ∈ Region.ready md ops listed := by simpa using hB1.1
      obtain ⟨v, hy, hK⟩ : ∃ v, YieldsIf P ops S o v a ∧ wpPlan P ops Q S T (picked ops.toList l) (a.put o.dst v) w := by
        by_cases hw : Region.wanted o (yielded ops a.tmps) = true
        · simp only [hw, if_true, hv] at h
          exact yields_of_quiet hv' hw h
        · simp only [hw] at h
          exact ⟨undef, .inr ⟨by simpa using hw, rfl⟩, h⟩
      exact wpAnyK_first h0 (Region.noSelect_spec hsel) (fun _ _ _ h => h) hs hc hn hkn (fun listed' a' w' hL => seqB_ready hL.1) l.length listed a w inv (Region.free_spec h0 hB1.2) hr' hy hS (go_on _ _ hr' hS hK)
    | false =>
      have hv2 : ¬ (f = true ∧ valOp o.op = true) := by rw [← Bool.and_eq_true, hv]; exact Bool.false_ne_true
      rw [if_neg hv2] at hB1
      simp only [decide_eq_true_eq] at hB1
      have hr' : k ∈ Region.ready md ops listed := by rw [hB1]; simp
      refine ⟨by rw [hB1]; simp, fun i hi => ?_⟩
      rw [hB1] at hi
      obtain rfl : i = k := by simpa using hi
      refine ⟨hkn, ?_⟩
      unfold wpOp
      simp only [h0]
      by_cases hw : Region.wanted o (yielded ops a.tmps) = true
      · simp only [hw, if_true, hv] at h ⊢
        exact .inl (Oper.wp_mono (fun a' w' h' => ⟨h'.1, go_on a' w' hr' h'.1 h'.2⟩) h)
      · simp only [hw] at h ⊢
        exact ⟨hS, go_on _ _ hr' hS h⟩

theorem wp_region_plan {id : Nat} {a : Act} {w : World} {l : List Oper} (n : Nat) (ord : List (Nat × Bool)) (S : World → Prop) (hm : P.follows .mixedOrders = true) (hB : planB .any l.toArray n ord = true) (hS : S w.drew)
    (h : wpPlan P l.toArray Q S (fun a' w' => wpList P l.toArray Q (l.drop n) a' w') (picked l ord) a w.drew) : (Code.region id l.toArray true).wp P Q a w := by
  simp only [planB, Bool.and_eq_true, decide_eq_true_eq] at hB
  obtain ⟨⟨⟨⟨⟨hsel, hn⟩, hs⟩, hc⟩, hon⟩, hlex⟩ := hB
  have hn' : n < l.length := by simpa using hn
  have hdl : (l.drop n).length = l.toArray.size - n := by simp
  have inv0 : HeadInv .any l.toArray n (Array.replicate l.toArray.size false) :=
    ⟨by simp, fun j oj _ hl => (by rw [getD_replicate_false] at hl; cases hl), fun t _ ht => getD_in (by simpa using ht) (getD_replicate_false _ _)⟩
  have H := wpAnyK_lex (md := .any) (g := l.toArray.size - n) hsel hs hc hn ord _ a w.drew inv0 hlex hS h
  refine wp_region_any hm ?_
  have := wpAny_of_headK (Q' := Q) (g := l.toArray.size - n) NoP.le (fun listed a' w' hL => by
    have := wpAny_of_seq (md := .any) (Q' := Q) (l.drop n) n listed a' w' (fun j => by simp [List.getElem?_drop]) (by rw [hdl]; exact hL.1) hL.2
    rwa [hdl] at this) _ _ _ _ H
  rw [hon] at this
  rwa [show n + (l.toArray.size - n) = l.toArray.size by simp; omega] at this

/-! ### The moves of such a walk -/
variable {T : Act → World → Prop} {a : Act} {w : World} {o : Oper} {r : List (Oper × Bool)} {f : Bool}
theorem wpPlan_nil (h : T a w) : wpPlan P ops Q S T [] a w := h
theorem wpPlan_skip (hw : Region.wanted o (yielded ops a.tmps) = false) (h : wpPlan P ops Q S T r (a.put o.dst undef) w) : wpPlan P ops Q S T ((o, f) :: r) a w := by
  unfold wpPlan
  simp only [hw]
  exact h
theorem wpPlan_val (hw : Region.wanted o (yielded ops a.tmps) = true) (hv : (f && valOp o.op) = true) (h : ∀ K : Act → Prop, (∀ a', wpPlan P ops Q S T r a' w → K a') → o.quiet P a S K) : wpPlan P ops Q S T ((o, f) :: r) a w := by
  unfold wpPlan
  simp only [hw, hv, if_true]
  exact h _ fun _ h => h
theorem wpPlan_eff (hw : Region.wanted o (yielded ops a.tmps) = true) (hv : (f && valOp o.op) = false) (h : ∀ K : Act → World → Prop, (∀ a' w', S w' → wpPlan P ops Q S T r a' w' → K a' w') → o.wp P a w K (NoP Q)) : wpPlan P ops Q S T ((o, f) :: r) a w := by
  unfold wpPlan
  simp only [hw, hv, if_true]
  exact h _ fun _ _ h1 h2 => ⟨h1, h2⟩
theorem wp_of_step {K : Act → World → Prop} (hg : o.guard = none) (h : if Region.wanted o (yielded #[] a.tmps) = true then o.wp P a w K Q else False) : o.wp P a w K Q := by
  rw [if_pos (by simp [Region.wanted, hg])] at h
  exact h
/-- At the class of the worlds that leave what is there as it is. -/
theorem wp_plan {id : Nat} {l : List Oper} (n : Nat) (ord : List (Nat × Bool)) (hm : P.follows .mixedOrders = true) (hB : planB .any l.toArray n ord = true)
    (h : (∀ (x : Lat w) b o, b < w.heap.size → x.now.cell? ⟨b, o, none⟩ = w.cell? ⟨b, o, none⟩) →
      wpPlan P l.toArray Q (fun w' => ∃ x : Lat w, w' = x.now) (fun a' w' => wpList P l.toArray Q (l.drop n) a' w') (picked l ord) a w.drew) : (Code.region id l.toArray true).wp P Q a w :=
  wp_region_plan n ord (fun w' => ∃ x : Lat w, w' = x.now) hm hB ⟨⟨w.drew, (Below.refl _ _).drew⟩, rfl⟩ (h fun x b o hb => x.ok.cell (p := ⟨b, o, none⟩) hb)
/-- At all worlds. -/
theorem wp_plan_any {id : Nat} {l : List Oper} (n : Nat) (ord : List (Nat × Bool)) (hm : P.follows .mixedOrders = true) (hB : planB .any l.toArray n ord = true)
    (h : wpPlan P l.toArray Q (fun _ => True) (fun a' w' => wpList P l.toArray Q (l.drop n) a' w') (picked l ord) a w.drew) : (Code.region id l.toArray true).wp P Q a w :=
  wp_region_plan n ord (fun _ => True) hm hB trivial h
end

theorem own_below {w w' : World} {base : Nat} {E : TypeId} {size n : Nat} {v : Value} {xs : List Value} (h : w.ownsRow base E size v n xs) (hb : Below w.heap.size w w') : w'.ownsRow base E size v n xs :=
  h.kept (only_of_below hb none) (by cases v.ownBlock <;> simp)
theorem own_made {w : World} {base g : Nat} {E : TypeId} {size : Nat} (hb : base ≤ w.heap.size) (hg : g = w.heap.size) : (w.alloc (.cells #[] E)).ownsRow base E size (.slice (some ⟨g, 0, none⟩) 0 0) 0 [] := by
  subst hg
  exact World.ownsRow_made w #[] 0 hb (by decide) (by simp)

/-! ### append of one element that a statement has just laid -/
structure IsElem (P : Program) (T E : TypeId) (size bytes : Nat) : Prop where
  und : P.underlying T = some (.slice E)
  info : ∃ i z, P.info? E = some i ∧ i.zero = some z ∧ i.size = size ∧ i.bytes = bytes ∧ z.cells.size = size
  pos : 0 < size
  small : bytes ≤ 1000

section
variable {P : Program} {T E size bytes : Nat} {w : World}
theorem wpl_app {ops : Array Oper} {rest : List Oper} {o : Oper} {a : Act} {Q : Exit → Act → World → Prop} (H : IsElem P T E size bytes) (hgd : o.guard = none) (s x : Operand)
    (ho : o.op = .call { callee := .builtin .append, args := #[s, x], argTypes := #[T, T] }) (base : Nat) (v : Value) (n : Nat) (xs : List Value) (hs : a.eval s = v) (hown : w.ownsRow base E size v n xs)
    (g c : Nat) (news : List Value) (hx : a.eval x = .slice (some ⟨g, 0, none⟩) 1 c) (hl : news.length = size) {t : TypeId} (hblk : w.heap[g]? = some (.cells news.toArray t (0, 0))) (h1 : ∀ u ∈ news, u.oneCell' = true)
    (hn : n ≤ 16777216) (hbase : base ≤ w.heap.size)
    (h : ∀ v' w', w'.ownsRow base E size v' (n + 1) (xs ++ news) → w.grownBy w' v.ownBlock → (v'.ownBlock = v.ownBlock ∨ v'.ownBlock = some w.heap.size) → wpList P ops Q rest (a.put o.dst v') w') : wpList P ops Q (o :: rest) a w := by
  obtain ⟨i, z, hi, hz, hsz, hby, hzs⟩ := H.info
  refine wpList_append_own_at w hgd s x T ho base E i z size bytes H.und hi hz hsz hby hzs H.pos v n xs hs hown ⟨g, 0, none⟩ 1 c news hx (by simpa using hl) (fun j u hu => ?_) h1 (by unfold maxLen; omega) ?_ hbase ?_
  · exact World.news_of_block hblk j u (by simpa using hu)
  · have := H.small
    have : (n + 1) * bytes ≤ 16777217 * 1000 := Nat.mul_le_mul (by omega) this
    omega
  · intro v' w' h2 h3 _ h5
    exact h v' w' h2 h3 h5
end
end Go.Proofs.Ytkeihpihphefgaa
