/- Part 3 of the proof: Kc Kd Ke Kf Mv Mx SD KD Shelf Mso Ml. -/
import Derived.Test.YtjffopopheiinaaGreatProg
import Derived.KernelRfl
import Derived.Test.YtjffopopheiinaaGreatRows
import Derived.ProofKit
import Derived.OpenShut
import Derived.Carry
import Derived.Deep.Slices
import Derived.Deep.Fields
import Derived.Deep.Strs
import Derived.Lib.SmallJoins
import Derived.ChangeSame
import Derived.Shelf.Small.Bits
import Derived.Shelf.Small.Wraps
import Derived.Shelf.Strconv.Itoa0
import Derived.Shelf.Sort.Plain
import Derived.Ground.Names2Prog
import Derived.Shelf.Slices.Clone
import Derived.Shelf.Slices.SearchI
import Derived.Shelf.Slices.In.SortNone
import Derived.Ground.SlgnProg
import Derived.Shelf.SlicesE.Clone
import Derived.Sort.OwnSortedInts
import Derived.Deep.AppendSrc
import Derived.Laws.CopyRow
import Derived.Test.YtjffopopheiinaaGreatQa2
set_option linter.unusedSimpArgs false
set_option linter.unusedVariables false
section
namespace Go.Proofs.YtjffopopheiinaaGreat
open Go.RowKit

def preOk (tab : TypeId → Option TI) (ops : Array Oper) (N : Nat) (q : Nat × Nat) : Bool := match ops[q.1]? with
  | some o => (match o.op, o.dst, o.guard with
    | .buildSlice t n ps, some d, none => Nat.beq n 0 && ps.isEmpty && Nat.beq d q.2 && Nat.blt d N && (match tab t with | some i => (match i.elem with | some _ => true | none => false) | none => false)
    | _, _, _ => false) && o.after.all (fun e => !Region.binds .any e)
  | none => false
structure PreR (P : Program) (ops : Array Oper) (N : Nat) (q : Nat × Nat) (o : Oper) : Prop where
  at_ : ops[q.1]? = some o
  dst : o.dst = some q.2
  guard : o.guard = none
  lt : q.2 < N
  sel : ∀ cs b, o.op ≠ .select cs b
  wait : ∀ e ∈ o.after, Region.binds .any e = true → False
  noval : valOp o.op = false
  run : ∃ e, ∀ (ρ : Operand → Value) w, (execOp ρ o).run P w = .ok (.value (.slice (some ⟨w.heap.size, 0, none⟩) 0 0)) (w.alloc (.cells #[] e))
section
variable {P : Program} {tab : TypeId → Option TI} {ops : Array Oper} {N : Nat}
theorem preOk_ok (H : TabOk P tab) {q : Nat × Nat} (h : preOk tab ops N q = true) : ∃ o, PreR P ops N q o := by
  unfold preOk at h
  split at h
  case h_2 => cases h
  rename_i o ho
  simp only [Bool.and_eq_true] at h
  obtain ⟨h, hw⟩ := h
  split at h
  case h_2 => cases h
  rename_i t n ps d hop hdst hg
  simp only [Bool.and_eq_true] at h
  obtain ⟨⟨⟨⟨h1, h2⟩, h3⟩, h4⟩, h5⟩ := h
  have h1 := Nat.eq_of_beq_eq_true h1
  subst h1
  have h3 := Nat.eq_of_beq_eq_true h3
  subst h3
  have hps : ps = #[] := by simpa using h2
  subst hps
  split at h5
  case h_2 => cases h5
  rename_i i hi
  split at h5
  case h_2 => cases h5
  rename_i el hel
  obtain ⟨e, τ, bytes⟩ := el
  refine ⟨o, ho, hdst, hg, Nat.blt_eq.mp h4, fun cs b => (by rw [hop]; intro h; cases h), fun e' he' hb => ?_, by rw [hop]; rfl, e, fun ρ w => ?_⟩
  · have := Array.all_eq_true_iff_forall_mem.1 hw e' he'
    rw [hb] at this; cases this
  · have T := H t i hi
    simp [execOp, hop, Instr.buildSlice, run_undE T hel, run_sizeE T hel, Instr.fill, newRow, Array.range_zero']
def nilV : Value := .slice none 0 0
def vput : List (Nat × Nat) → Act → Act
  | [], a => a
  | q :: r, a => (vput r a).put (some q.2) nilV
def vl : List (Nat × Nat) → Array Bool → Array Bool
  | [], l => l
  | q :: r, l => (vl r l).setIfInBounds q.1 true
def preSt : List (Nat × Nat) → St → St
  | [], st => st
  | q :: r, st => (preSt r st).put (some q.2) (.im .nil)
theorem vl_set (D : List (Nat × Nat)) (l : Array Bool) (i : Nat) : vl D (l.setIfInBounds i true) = (vl D l).setIfInBounds i true := by
  induction D with
  | nil => rfl
  | cons q r ih =>
    simp only [vl, ih]
    by_cases h : i = q.1
    · subst h; rfl
    · exact Array.setIfInBounds_comm _ _ h
theorem vput_size (D : List (Nat × Nat)) (a : Act) : (vput D a).tmps.size = a.tmps.size := by
  induction D with
  | nil => rfl
  | cons q r ih => simp [vput, Act.put, ih]
theorem vput_defers (D : List (Nat × Nat)) (a : Act) : (vput D a).defers = a.defers := by
  induction D with
  | nil => rfl
  | cons q r ih => simp [vput, Act.put, ih]
theorem vput_at (D : List (Nat × Nat)) (a : Act) (i : Nat) (hi : i < a.tmps.size) : (vput D a).tmps[i]? = if i ∈ D.map (·.2) then some nilV else a.tmps[i]? := by
  induction D with
  | nil => simp [vput]
  | cons q r ih =>
    simp only [vput, Act.put, List.map_cons, List.mem_cons]
    by_cases h : q.2 = i
    · subst h
      rw [if_pos (.inl rfl), Array.getElem?_setIfInBounds, if_pos rfl, if_pos (by rw [vput_size]; exact hi)]
    · rw [Array.getElem?_setIfInBounds_ne h, ih]
      have hne : i ≠ q.2 := fun e => h e.symm
      by_cases hr : i ∈ r.map (·.2)
      · rw [if_pos hr, if_pos (.inr hr)]
      · rw [if_neg hr, if_neg (fun e => e.elim hne hr)]
theorem vput_out (D : List (Nat × Nat)) (a : Act) (i : Nat) (hi : a.tmps.size ≤ i) : (vput D a).tmps[i]? = none := Array.getElem?_eq_none (by rw [vput_size]; exact hi)
theorem vput_put {D : List (Nat × Nat)} {a : Act} {d : Option Tmp} {v : Value} (h : ∀ q ∈ D, d ≠ some q.2) : (vput D a).put d v = vput D (a.put d v) := by
  induction D with
  | nil => rfl
  | cons q r ih =>
    simp only [vput]
    rw [← ih fun q' hq' => h q' (List.mem_cons_of_mem _ hq'), Act.put_comm]
    intro e he hd
    exact h q (List.mem_cons_self ..) (hd.trans he.symm)
theorem wpOp_vput {Q : Exit → Act → World → Prop} {j : Nat} {oj : Oper} (hj : ops[j]? = some oj) (hsj : ∀ cs b, oj.op ≠ .select cs b) : ∀ (D : List (Nat × Nat)) {K : Act → World → Prop} {a : Act} {w : World}, (∀ q ∈ D, ∃ oi, PreR P ops N q oi ∧ oi.apart ops oj = true) → wpOp P ops (NoP Q) j K (vput D a) w → wpOp P ops (NoP Q) j (fun a' w' => K (vput D a') w') a w
  | [], K, a, w, _, h => h
  | q :: r, K, a, w, hD, h => by
    obtain ⟨oi, hp, hap⟩ := hD q (List.mem_cons_self ..)
    simp only [vput] at h
    rw [← hp.dst] at h
    have := wpOp_putIf (S := fun _ => False) hj hap hp.sel hsj (fun c a w h => h) (.inl ⟨by simp [Region.wanted, hp.guard], fun w h => h.elim⟩) h
    rw [hp.dst] at this
    exact wpOp_vput hj hsj r (fun q' hq' => hD q' (List.mem_cons_of_mem _ hq')) (wpOp_mono (fun a' w' h' => h'.2) this)
theorem same_vput {Q : Oper → Act → Prop} {j : Nat} {oj : Oper} (hsj : ∀ cs b, oj.op ≠ .select cs b) : ∀ (D : List (Nat × Nat)) {a : Act}, (∀ q ∈ D, ∃ oi, PreR P ops N q oi ∧ oi.apart ops oj = true) → execOp (vput D a).eval oj = execOp a.eval oj ∧ Region.wanted oj (yielded ops (vput D a).tmps) = Region.wanted oj (yielded ops a.tmps)
  | [], a, _ => ⟨rfl, rfl⟩
  | q :: r, a, hD => by
    obtain ⟨oi, hp, hap⟩ := hD q (List.mem_cons_self ..)
    obtain ⟨h1, _, _⟩ := Oper.apart_spec hap
    obtain ⟨i1, i2⟩ := same_vput (Q := Q) (j := j) hsj r (a := a) (fun q' hq' => hD q' (List.mem_cons_of_mem _ hq'))
    simp only [vput]
    rw [← hp.dst]
    exact ⟨(execOp_put oj hsj _ oi.dst nilV h1).trans i1, (wanted_put oj _ oi.dst nilV h1).trans i2⟩
end
def trP (md : Region.Mode) (ops : Array Oper) : Bool → Nat → Tr → Array Bool → Array Bool → Bool
  | _, 0, .done, _, L => decide (Region.ready md ops L = [])
  | _, m + 1, .val k r, base, L => (match ops[k]? with
     | some o => valOp o.op && (Region.ready md ops base).contains k && Region.free md ops base k
     | none => false) && trP md ops true m r (base.setIfInBounds k true) (L.setIfInBounds k true)
  | b, m + 1, .one k r, base, L => (!b || decide (Region.ready md ops L = [k])) && trP md ops true m r (base.setIfInBounds k true) (L.setIfInBounds k true)
  | b, m + 1, .alt k r t, base, L => (!b || decide (Region.ready md ops L = k :: heads t)) && trP md ops true m r (base.setIfInBounds k true) (L.setIfInBounds k true) && trP md ops false (m + 1) t base L
  | _, _, _, _, _ => false
def distinct : List Nat → Bool
  | [] => true
  | k :: r => notIn r k && distinct r
def preB (tab : TypeId → Option TI) (ops : Array Oper) (N : Nat) (D : List (Nat × Nat)) (t : Tr) : Bool :=
  Region.noSelect ops && D.all (preOk tab ops N) && D.all (fun q => Region.free .any ops (Array.replicate ops.size false) q.1) && distinct (D.map (·.1)) && distinct (D.map (·.2)) && Nat.ble D.length ops.size && trP .any ops true (ops.size - D.length) t (Array.replicate ops.size false) (vl D (Array.replicate ops.size false))
def isNil : Option PV → Bool
  | some (.im .nil) => true
  | _ => false
def chkD (D : List (Nat × Nat)) (t0 t : List (Nat × PV)) : Bool := D.all fun q => noSlot t0 (some q.2) && isNil (slot t q.2)
def evPc {ρ : Type} (G : Env) (ops : List Oper) (ks : List Nat) (D : List (Nat × Nat)) : List (Nat × Bool) → List (Oper × Bool) → St → St → (List (Nat × Bool) → St → Option ρ) → Option ρ
  | kn, [], st0, st, K => bif chkD D st0.t st.t then K kn st else G.bad ρ 37 none st
  | kn, (o, f) :: r, st0, st, K => bif chkD D st0.t st.t then evS G ops ks kn o f st0 st fun kn' s u => evPc G ops ks D kn' r s u K else G.bad ρ 37 (some o) st
def evRP (G : Env) (ops : List Oper) (D : List (Nat × Nat)) (ks : List Nat) (F FX FR : Frame) (p : List (Nat × Bool)) (s : HL F.hs) : Option (HL FX.hs ⊕ HL FR.hs) := bif boxes (F.st s).h ks then evPc G ops ks D [] (picked ops p) ⟨(F.st s).t, killB ks (F.st s).h⟩ (preSt D (F.st s)) fun _ st2 => (match FX.get G.M st2 with | some x => some (.inl x) | none => G.bad _ 52 none st2) else G.bad _ 41 none (F.st s)
theorem notIn_ok2 {k : Nat} : ∀ {l : List Nat}, notIn l k = true → k ∉ l
  | [], _, h => by simp at h
  | j :: r, h, hk => by
    simp only [notIn] at h
    cases hb : Nat.beq j k with
    | true => rw [hb] at h; cases h
    | false =>
      rw [hb] at h
      rcases List.mem_cons.1 hk with rfl | hk
      · simp at hb
      · exact notIn_ok2 h hk
theorem distinct_ok : ∀ {l : List Nat}, distinct l = true → l.Nodup
  | [], _ => List.nodup_nil
  | k :: r, h => by
    simp only [distinct, Bool.and_eq_true] at h
    exact List.nodup_cons.2 ⟨notIn_ok2 h.1, distinct_ok h.2⟩
theorem chkD_ok {D : List (Nat × Nat)} {t0 t : List (Nat × PV)} (h : chkD D t0 t = true) : ∀ q ∈ D, slot t0 q.2 = none ∧ slot t q.2 = some (.im .nil) := fun q hq => by
  have := List.all_eq_true.1 h q hq
  simp only [Bool.and_eq_true] at this
  refine ⟨noSlot_ok this.1 _ rfl, ?_⟩
  have h2 := this.2
  unfold isNil at h2
  split at h2
  · rename_i e; exact e
  · cases h2
theorem vl_ready {md : Region.Mode} {ops : Array Oper} {i : Nat} {l : Array Bool} : ∀ {D : List (Nat × Nat)}, i ∈ Region.ready md ops l → i ∉ D.map (·.1) → i ∈ Region.ready md ops (vl D l)
  | [], h, _ => h
  | q :: r, h, hn => by
    simp only [List.map_cons, List.mem_cons, not_or] at hn
    exact ready_mono (vl_ready (D := r) h hn.2) hn.1
theorem vl_take {D : List (Nat × Nat)} {q : Nat × Nat} {l : Array Bool} (hq : q ∈ D) : vl (D.erase q) (l.setIfInBounds q.1 true) = vl D l := by
  induction D with
  | nil => simp at hq
  | cons p r ih =>
    by_cases h : p = q
    · subst h
      rw [List.erase_cons_head, vl_set]
      rfl
    · have hr : q ∈ r := (List.mem_cons.1 hq).resolve_left (fun e => h e.symm)
      have : (p :: r).erase q = p :: r.erase q := List.erase_cons_tail (by simpa using h)
      rw [this]
      simp only [vl, ih hr]
section
variable {P : Program} {G : Env} {C : Ctx} {E0 : Nat → Prop} {ks : List Nat} {st0 st : St} {a a' : Act} {w0 w : World} {β0 β : List (Nat × Nat)}
theorem Sim.alloc0 (S : SimL C st a w β) (o : Obj) : SimL C st a (w.alloc o) β ∧ Step w st.h β (w.alloc o) st.h β := by
  have hb : Below w.heap.size w (w.alloc o) := (Below.refl _ _).alloc (Nat.le_refl _) _
  have hs : Step w st.h β (w.alloc o) st.h β := ⟨hb.os, hb.tape, hb.output, hb.size, fun b hb' _ => hb.block b hb', fun _ _ h => h, fun _ _ h => h, Hle.refl _⟩
  exact ⟨S.world hs ⟨S.heap.len, fun _ h => h, S.heap.nx, fun k ob hk => (S.heap.ok k ob hk).keep (fun b c h1 h2 => hb.block b (Liv.lt S.heap ⟨k, ob, c, hk, h2, h1⟩)) (fun b hb' _ => hb.block b hb') hb.size (fun _ _ h => h) (Hle.refl _) (fun _ _ h => h), S.heap.inj⟩, hs⟩
theorem Sim.tmps (S : Sim C E0 st a w β) (h1 : a'.tmps.size = a.tmps.size) (h2 : a'.defers = a.defers) (h3 : ∀ i v, slot st.t i = some v → a'.tmps[i]? = a.tmps[i]? ∨ ∃ u, a'.tmps[i]? = some u ∧ Cv w E0 C.X st.h β v u) : Sim C E0 st a' w β := by
  refine ⟨S.cl, S.xw, S.step, S.heap, h1.trans S.sz, h2.trans S.df, fun i v hi => ?_⟩
  rcases h3 i v hi with h | h
  · rw [h]; exact S.tm i v hi
  · exact h
theorem nd_erase {g : Nat × Nat → Nat} {D : List (Nat × Nat)} {q : Nat × Nat} (hn : (D.map g).Nodup) (hq : q ∈ D) : g q ∉ (D.erase q).map g ∧ ∀ i, i ≠ g q → (i ∈ (D.erase q).map g ↔ i ∈ D.map g) := by
  induction D with
  | nil => simp at hq
  | cons p r ih =>
    simp only [List.map_cons, List.nodup_cons] at hn
    by_cases h : p = q
    · subst h
      rw [List.erase_cons_head]
      exact ⟨hn.1, fun i hi => by simp [hi]⟩
    · have hr : q ∈ r := (List.mem_cons.1 hq).resolve_left (fun e => h e.symm)
      have e : (p :: r).erase q = p :: r.erase q := List.erase_cons_tail (by simpa using h)
      obtain ⟨i1, i2⟩ := ih hn.2 hr
      rw [e]
      refine ⟨?_, fun i hi => ?_⟩
      · simp only [List.map_cons, List.mem_cons, not_or]
        exact ⟨fun e => hn.1 (by rw [← e]; exact List.mem_map_of_mem hr), i1⟩
      · simp only [List.map_cons, List.mem_cons, i2 i hi]
theorem sim_come {D : List (Nat × Nat)} {q : Nat × Nat} (hn : (D.map (·.2)).Nodup) (hq : q ∈ D) (hN : q.2 < C.N) (A : Option Addr) (hs : ∀ v, slot st.t q.2 = some v → v = .im .nil) (S : Sim C E0 st (vput D a) w β) : Sim C E0 st (vput (D.erase q) (a.put (some q.2) (.slice A 0 0))) w β := by
  have hsz : a.tmps.size = C.N := by rw [← S.sz, vput_size]
  obtain ⟨n1, n2⟩ := nd_erase (g := (·.2)) hn hq
  refine S.tmps (by simp [vput_size, Act.put]) (by simp [vput_defers, Act.put]) fun i v hi => ?_
  by_cases he : i = q.2
  · subst he
    refine .inr ⟨.slice A 0 0, ?_, by rw [hs v hi]; exact Ri.nil A⟩
    rw [vput_at _ _ _ (by simp [Act.put]; omega), if_neg n1]
    simp [Act.put, hsz, hN]
  · refine .inl ?_
    rcases Nat.lt_or_ge i a.tmps.size with hl | hl
    · rw [vput_at _ _ _ (by simpa [Act.put] using hl), vput_at _ _ _ hl]
      simp only [n2 i he]
      have : ¬ q.2 = i := fun e => he e.symm
      simp [Act.put, Array.getElem?_setIfInBounds_ne this]
    · rw [vput_out _ _ _ (by simpa [Act.put] using hl), vput_out _ _ _ hl]
theorem evPc_all {ρ ι : Type} (HB : BadOk G) {ops : List Oper} {D : List (Nat × Nat)} {kn : List (Nat × Bool)} {o : Oper} {f : Bool} {st0 st : St} {K : List (Nat × Bool) → St → Option ρ} {r : ρ} {L : List ι} {g : ι → List (Oper × Bool)} (hne : L ≠ []) (h : ∀ p ∈ L, evPc G ops ks D kn ((o, f) :: g p) st0 st K = some r) : chkD D st0.t st.t = true ∧ ∃ x : List (Nat × Bool) × St × St, evS G ops ks kn o f st0 st (fun a b c => some (a, b, c)) = some x ∧ ∀ p ∈ L, evPc G ops ks D x.1 (g p) x.2.1 x.2.2 K = some r := by
  have hc : chkD D st0.t st.t = true := by
    obtain ⟨p, hp⟩ := List.exists_mem_of_ne_nil L hne
    have := h p hp
    unfold evPc at this
    cases hc : chkD D st0.t st.t with
    | true => rfl
    | false => rw [hc] at this; simp only [cond_false] at this; rw [HB] at this; cases this
  refine ⟨hc, evS_all HB (K := fun p kn' s u => evPc G ops ks D kn' (g p) s u K) hne fun p hp => ?_⟩
  have := h p hp
  unfold evPc at this
  rw [hc] at this
  exact this
theorem chk_nil {ρ : Type} (HB : BadOk G) {ops : List Oper} {D : List (Nat × Nat)} {kn : List (Nat × Bool)} {l : List (Oper × Bool)} {st0 st : St} {K : List (Nat × Bool) → St → Option ρ} {r : ρ} (h : evPc G ops ks D kn l st0 st K = some r) : chkD D st0.t st.t = true := by
  unfold evPc at h
  cases hc : chkD D st0.t st.t with
  | true => rfl
  | false => cases l <;> simp only [hc, cond_false] at h <;> rw [HB] at h <;> cases h
structure Pend (ops : List Oper) (D Dp : List (Nat × Nat)) (base listed : Array Bool) : Prop where
  sub : ∀ q ∈ Dp, q ∈ D
  nk : (Dp.map (·.1)).Nodup
  ns : (Dp.map (·.2)).Nodup
  un : ∀ q ∈ Dp, listed.getD q.1 true = false
  inv : HeadInv .any ops.toArray ops.length listed
  below : ∀ i, base.getD i false = true → listed.getD i false = true
  off : ∀ i, i ∉ D.map (·.1) → listed.getD i true = base.getD i true
  done : ∀ q ∈ D, q ∉ Dp → listed.getD q.1 false = true
  offD : ∀ q ∈ D, base.getD q.1 true = false
theorem evTp_ok {ρ : Type} {h0 : List AObj} (HB : BadOk G) (HT : TabOk P G.tab) (H : CtrOk P G.Γ) {ops : List Oper} {D : List (Nat × Nat)} {K : List (Nat × Bool) → St → Option ρ} {r : ρ} {Q : Exit → Act → World → Prop} {T : Act → World → Prop} (hN : C.N = G.N)
    (hsel : Region.noSelect ops.toArray = true) (hD : ∀ q ∈ D, ∃ oi, PreR P ops.toArray G.N q oi) (hfree : ∀ q ∈ D, Region.free .any ops.toArray (Array.replicate ops.toArray.size false) q.1 = true)
    (hT : ∀ kn st a w β, K kn st = some r → SimL C st a w β → T a w) : ∀ (f m : Nat) (t : Tr) (Dp : List (Nat × Nat)) (base listed : Array Bool) (kn : List (Nat × Bool)) (st0 st : St) (a : Act) (w : World) (β : List (Nat × Nat)), f = m + Dp.length → Pend ops D Dp base listed → trP .any ops.toArray true m t base (vl Dp listed) = true → inT ops t = true →
      (∀ p ∈ paths t, evPc G ops ks D kn (picked ops p) st0 st K = some r) → st0.h = h0 → Sim C E0 st0 (vput Dp a) w0 β0 → SimL C st (vput Dp a) w β → PlanR ks E0 st0 w0 β0 st w β →
      wpAnyK P .any ops.toArray (NoP Q) (fun w' => Stab w0 w' E0 h0 β0) ops.length (fun listed' a' w' => Region.ready .any ops.toArray listed' = [] ∧ T a' w') f listed a w := by
  -- what is apart from all that is pending
  have apart : ∀ {Dp : List (Nat × Nat)} {base listed : Array Bool}, Pend ops D Dp base listed → ∀ {j : Nat} {oj : Oper}, ops.toArray[j]? = some oj → j ∉ Dp.map (·.1) → (∀ e ∈ oj.after, Region.binds .any e = true → listed.getD e.on false = true) → ∀ q ∈ Dp, ∃ oi, PreR P ops.toArray G.N q oi ∧ oi.apart ops.toArray oj = true := fun {Dp base listed} hp {j oj} hj hnj hall q hq => by
    obtain ⟨oi, hpr⟩ := hD q (hp.sub q hq)
    refine ⟨oi, hpr, Region.free_spec hpr.at_ (hfree q (hp.sub q hq)) j oj hj (fun e => hnj (by rw [e]; exact List.mem_map_of_mem hq)) ?_ fun e he hb heq => ?_⟩
    · have hlt : j < ops.toArray.size := (Array.getElem?_eq_some_iff.1 hj).1
      exact getD_in (by simpa using hlt) (getD_replicate_false _ _)
    · have h1 := hall e he hb
      rw [heq, getD_both (hp.un q hq)] at h1
      cases h1
  intro f
  induction f with
  | zero =>
    intro m t Dp base listed kn st0 st a w β hf hp hB hi h hh S0 S R
    obtain rfl : m = 0 := by omega
    obtain rfl : Dp = [] := List.length_eq_zero_iff.1 (by omega)
    cases t with
    | done =>
      refine ⟨of_decide_eq_true hB, ?_⟩
      have h1 := h [] (by simp [paths])
      have hc := chk_nil HB h1
      unfold evPc at h1
      simp only [picked, List.filterMap_nil, hc, cond_true] at h1
      exact hT kn st a w β h1 S
    | _ => simp [trP] at hB
  | succ f ih =>
    intro m t Dp base listed kn st0 st a w β hf hp hB hi_ h hh S0 S R
    have hcD : chkD D st0.t st.t = true := by
      obtain ⟨p, hp'⟩ := List.exists_mem_of_ne_nil _ (paths_ne t)
      exact chk_nil HB (h p hp')
    have hcD := chkD_ok hcD
    -- a pending one comes
    have come : ∀ q ∈ Dp, q.1 ∈ Region.ready .any ops.toArray listed ∧ wpOp P ops.toArray (NoP Q) q.1 (fun a' w' => Stab w0 w' E0 h0 β0 ∧ wpAnyK P .any ops.toArray (NoP Q) (fun w' => Stab w0 w' E0 h0 β0) ops.length (fun listed' a' w' => Region.ready .any ops.toArray listed' = [] ∧ T a' w') f (listed.setIfInBounds q.1 true) a' w') a w := fun q hq => by
      obtain ⟨oi, hpr⟩ := hD q (hp.sub q hq)
      have hrd : q.1 ∈ Region.ready .any ops.toArray listed := mem_ready.2 ⟨hp.un q hq, oi, hpr.at_, fun e he hb => (hpr.wait e he hb).elim⟩
      refine ⟨hrd, ?_⟩
      obtain ⟨e, hrun⟩ := hpr.run
      have hw : Region.wanted oi (yielded ops.toArray a.tmps) = true := by simp [Region.wanted, hpr.guard]
      unfold wpOp
      simp only [hpr.at_, hw, if_true]
      refine .inl ?_
      unfold Oper.wp
      rw [hrun]
      simp only [Oper.upon]
      rw [hpr.dst]
      have hlt : q.2 < C.N := by rw [hN]; exact hpr.lt
      obtain ⟨h1, h2⟩ := hcD q (hp.sub q hq)
      have S1 := sim_come hp.ns hq hlt (some ⟨w.heap.size, 0, none⟩) (fun v hv => by rw [h2] at hv; injection hv with hv; exact hv.symm) S
      have S2 := sim_come hp.ns hq hlt (some ⟨w.heap.size, 0, none⟩) (fun v hv => by rw [h1] at hv; cases hv) S0
      obtain ⟨S3, hst⟩ := Sim.alloc0 S1 (.cells #[] e)
      have hb : Below w.heap.size w (w.alloc (.cells #[] e)) := (Below.refl _ _).alloc (Nat.le_refl _) _
      have R' := R.step S0.heap.len (l := []) (fun k hk => by simp at hk) hst (fun _ b hb' _ => hb.block b hb')
      have hlenq : (Dp.erase q).length = Dp.length - 1 := List.length_erase_of_mem hq
      have hpos : 0 < Dp.length := List.length_pos_of_mem hq
      have hkn : q.1 < ops.toArray.size := (Array.getElem?_eq_some_iff.1 hpr.at_).1
      have hkn' : q.1 < ops.length := by simpa using hkn
      have hls : listed.size = ops.toArray.size := hp.inv.size
      refine ⟨by rw [← hh]; exact R'.stab, ih m t (Dp.erase q) base (listed.setIfInBounds q.1 true) kn st0 st _ _ β (by omega) ⟨fun p hp' => hp.sub p (List.mem_of_mem_erase hp'), (hp.nk.sublist (List.Sublist.map _ (List.erase_sublist ..))), (hp.ns.sublist (List.Sublist.map _ (List.erase_sublist ..))), fun p hp' => ?_, hp.inv.set hrd hkn', fun i hi => getD_set_true (hp.below i hi), fun i hn => ?_, fun p hpD hpn => ?_, hp.offD⟩ (by rw [vl_take hq]; exact hB) hi_ h hh S2 S3 R'⟩
      · rw [getD_set_ne true (fun e => ?_)]
        · exact hp.un p (List.mem_of_mem_erase hp')
        · exact (nd_erase (g := (·.1)) hp.nk hq).1 (by rw [show q.1 = p.1 from e]; exact List.mem_map_of_mem hp')
      · have e : q.1 ≠ i := by
          rintro rfl
          exact absurd (List.mem_map_of_mem (hp.sub q hq)) hn
        rw [getD_set_ne true e]
        exact hp.off i hn
      · by_cases e : p = q
        · subst e
          simp [Array.getD_eq_getD_getElem?, Array.getElem?_setIfInBounds, hls, hkn']
        · exact getD_set_true (hp.done p hpD fun h => hpn ((List.mem_erase_of_ne e).2 h))
    have hS : Stab w0 w E0 h0 β0 := by rw [← hh]; exact R.stab
    have notD : ∀ k, k ∈ Region.ready .any ops.toArray listed → k ∉ Dp.map (·.1) → ∀ q ∈ D, k ≠ q.1 := fun k hk hn q hq e => by
      by_cases hqp : q ∈ Dp
      · exact hn (by rw [e]; exact List.mem_map_of_mem hqp)
      · have h1 := hp.done q hq hqp
        rw [← e, getD_both (mem_ready.1 hk).1] at h1
        cases h1
    have pend : ∀ k, k ∈ Region.ready .any ops.toArray listed → (∀ q ∈ D, k ≠ q.1) → k ∉ Dp.map (·.1) → Pend ops D Dp (base.setIfInBounds k true) (listed.setIfInBounds k true) := fun k hk hkD hn => by
      obtain ⟨hun, o, ho, hall⟩ := mem_ready.1 hk
      have hkl : k < ops.length := by have := (Array.getElem?_eq_some_iff.1 ho).1; simpa using this
      refine ⟨hp.sub, hp.nk, hp.ns, fun q hq => ?_, hp.inv.set hk hkl, fun i hi => ?_, fun i hi => ?_, fun q hq hqn => getD_set_true (hp.done q hq hqn), fun q hq => ?_⟩
      · rw [getD_set_ne true (hkD q (hp.sub q hq))]; exact hp.un q hq
      · by_cases e : k = i
        · subst e
          have hls : listed.size = ops.toArray.size := hp.inv.size
          simp [Array.getD_eq_getD_getElem?, Array.getElem?_setIfInBounds, hls, hkl]
        · rw [getD_set_ne false e] at hi ⊢
          exact hp.below i hi
      · by_cases e : k = i
        · subst e
          have h1 : ∀ l : Array Bool, (l.setIfInBounds k true).getD k true = true := fun l => by
            rcases Nat.lt_or_ge k l.size with h | h
            · simp [Array.getD_eq_getD_getElem?, Array.getElem?_setIfInBounds, h]
            · simp [Array.getD_eq_getD_getElem?, Array.getElem?_setIfInBounds, Nat.not_lt.2 h]
          rw [h1, h1]
        · rw [getD_set_ne true e, getD_set_ne true e]; exact hp.off i hi
      · rw [getD_set_ne true (hkD q hq)]; exact hp.offD q hq
    -- one that is not pending
    have alts : ∀ (m' : Nat), m = m' + 1 → ∀ (t' : Tr), trP .any ops.toArray false (m' + 1) t' base (vl Dp listed) = true → inT ops t' = true → (∀ p ∈ paths t', evPc G ops ks D kn (picked ops p) st0 st K = some r) → ∀ i ∈ heads t', i ∈ Region.ready .any ops.toArray listed → i ∉ Dp.map (·.1) →
        wpOp P ops.toArray (NoP Q) i (fun a' w' => Stab w0 w' E0 h0 β0 ∧ wpAnyK P .any ops.toArray (NoP Q) (fun w' => Stab w0 w' E0 h0 β0) ops.length (fun listed' a' w' => Region.ready .any ops.toArray listed' = [] ∧ T a' w') f (listed.setIfInBounds i true) a' w') a w := fun m' hm t' => by
      have single : ∀ k t1, trP .any ops.toArray true m' t1 (base.setIfInBounds k true) ((vl Dp listed).setIfInBounds k true) = true → k < ops.length → inT ops t1 = true → (∀ p ∈ paths t1, evPc G ops ks D kn (picked ops ((k, false) :: p)) st0 st K = some r) → k ∈ Region.ready .any ops.toArray listed → k ∉ Dp.map (·.1) →
          wpOp P ops.toArray (NoP Q) k (fun a' w' => Stab w0 w' E0 h0 β0 ∧ wpAnyK P .any ops.toArray (NoP Q) (fun w' => Stab w0 w' E0 h0 β0) ops.length (fun listed' a' w' => Region.ready .any ops.toArray listed' = [] ∧ T a' w') f (listed.setIfInBounds k true) a' w') a w := fun k t1 hB1 hkl hi1 hps hrd hnk => by
        have hk := List.getElem?_eq_getElem hkl
        generalize ops[k] = o at hk
        have hk' : ops.toArray[k]? = some o := by simpa using hk
        obtain ⟨_, x, h1, h2⟩ := evPc_all HB (g := fun p => picked ops p) (L := paths t1) (paths_ne t1) fun p hp' => by
          have := hps p hp'
          rwa [picked_cons hk] at this
        obtain ⟨_, o', ho', hall⟩ := mem_ready.1 hrd
        have hoo : o' = o := by rw [hk'] at ho'; injection ho' with ho'; exact ho'.symm
        subst hoo
        have hstep := evS_ok (r := x) (Q := Q) (T := fun a' w' => ∃ β', Sim C E0 x.2.1 a' w0 β0 ∧ SimL C x.2.2 a' w' β' ∧ PlanR ks E0 x.2.1 w0 β0 x.2.2 w' β' ∧ x.2.1.h = h0) HB HT H hN (fun kn' s u a' w' β' hx hh' S0' S' R' => by
          injection hx with hx
          subst hx
          exact ⟨β', S0', S', R', hh'⟩) h1 hh S0 S R
        have h3 : wpOp P ops.toArray (NoP Q) k (fun a' w' => Stab w0 w' E0 h0 β0 ∧ ∃ β', Sim C E0 x.2.1 a' w0 β0 ∧ SimL C x.2.2 a' w' β' ∧ PlanR ks E0 x.2.1 w0 β0 x.2.2 w' β' ∧ x.2.1.h = h0) (vput Dp a) w := wpOp_effT (S := fun w' => Stab w0 w' E0 h0 β0) hk' hS hstep fun a' w' hS' h' => ⟨hS', h'⟩
        refine wpOp_mono ?_ (wpOp_vput hk' (Region.noSelect_spec hsel k o' · · hk') Dp (apart hp hk' hnk hall) h3)
        rintro a' w' ⟨hS', β', S0', S', R', hh'⟩
        exact ⟨hS', ih m' t1 Dp (base.setIfInBounds k true) (listed.setIfInBounds k true) x.1 x.2.1 x.2.2 a' w' β' (by omega) (pend k hrd (notD k hrd hnk) hnk) (by rw [vl_set]; exact hB1) hi1 h2 hh' S0' S' R'⟩
      induction t' with
      | one k t1 _ =>
        intro hB' hi' hps i hih hrd hnk
        simp only [trP, Bool.not_false, Bool.true_or, Bool.true_and] at hB'
        simp only [inT, Bool.and_eq_true, decide_eq_true_eq] at hi'
        obtain rfl : i = k := by simpa [heads] using hih
        exact single i t1 hB' hi'.1 hi'.2 (fun p hp' => hps _ (by simp only [paths]; exact List.mem_map_of_mem hp')) hrd hnk
      | alt k t1 t2 _ ih2 =>
        intro hB' hi' hps i hih hrd hnk
        simp only [trP, Bool.not_false, Bool.true_or, Bool.true_and, Bool.and_eq_true] at hB'
        simp only [inT, Bool.and_eq_true, decide_eq_true_eq] at hi'
        rcases List.mem_cons.1 (show i ∈ k :: heads t2 from hih) with rfl | hih
        · exact single i t1 hB'.1 hi'.1.1 hi'.1.2 (fun p hp' => hps _ (by simp only [paths]; exact List.mem_append_left _ (List.mem_map_of_mem hp'))) hrd hnk
        · exact ih2 hB'.2 hi'.2 (fun p hp' => hps p (by simp only [paths]; exact List.mem_append_right _ hp')) i hih hrd hnk
      | _ => intro _ _ _ i hih; simp [heads] at hih
    have lt_of : ∀ i, i ∈ Region.ready .any ops.toArray listed → i < ops.length := fun i hi => by
      obtain ⟨_, o, ho, _⟩ := mem_ready.1 hi
      have := (Array.getElem?_eq_some_iff.1 ho).1
      simpa using this
    have key : (Region.ready .any ops.toArray listed ≠ []) → (∀ i ∈ Region.ready .any ops.toArray (vl Dp listed), i ∈ Region.ready .any ops.toArray listed → i ∉ Dp.map (·.1) → wpOp P ops.toArray (NoP Q) i (fun a' w' => Stab w0 w' E0 h0 β0 ∧ wpAnyK P .any ops.toArray (NoP Q) (fun w' => Stab w0 w' E0 h0 β0) ops.length (fun listed' a' w' => Region.ready .any ops.toArray listed' = [] ∧ T a' w') f (listed.setIfInBounds i true) a' w') a w) →
        wpAnyK P .any ops.toArray (NoP Q) (fun w' => Stab w0 w' E0 h0 β0) ops.length (fun listed' a' w' => Region.ready .any ops.toArray listed' = [] ∧ T a' w') (f + 1) listed a w := fun hne hall => ⟨hne, fun i hi => ⟨lt_of i hi, by
      by_cases hik : i ∈ Dp.map (·.1)
      · obtain ⟨q, hq, rfl⟩ := List.mem_map.1 hik
        exact (come q hq).2
      · exact hall i (vl_ready hi hik) hi hik⟩⟩
    have hne0 : Dp ≠ [] → Region.ready .any ops.toArray listed ≠ [] := fun hd => by
      obtain ⟨q, hq⟩ := List.exists_mem_of_ne_nil _ hd
      exact List.ne_nil_of_mem (come q hq).1
    cases m with
    | zero =>
      cases t with
      | done =>
        have hB : Region.ready .any ops.toArray (vl Dp listed) = [] := of_decide_eq_true hB
        refine key (hne0 fun e => by rw [e] at hf; simp at hf) fun i hi => ?_
        rw [hB] at hi
        cases hi
      | _ => simp [trP] at hB
    | succ m' =>
      cases t with
      | done => simp [trP] at hB
      | two => simp [trP] at hB
      | one k t1 =>
        have hB0 : trP .any ops.toArray false (m' + 1) (.one k t1) base (vl Dp listed) = true := by
          simp only [trP, Bool.and_eq_true, Bool.not_false, Bool.true_or, true_and] at hB ⊢
          exact hB.2
        simp only [trP, Bool.and_eq_true, Bool.not_true, Bool.false_or, decide_eq_true_eq] at hB
        refine key ?_ fun i hi hrd hnk => alts m' rfl (.one k t1) hB0 hi_ h i (by rw [hB.1] at hi; exact hi) hrd hnk
        by_cases hd : Dp = []
        · subst hd
          rw [show vl [] listed = listed from rfl] at hB
          rw [hB.1]; simp
        · exact hne0 hd
      | alt k t1 t2 =>
        have hB0 : trP .any ops.toArray false (m' + 1) (.alt k t1 t2) base (vl Dp listed) = true := by
          simp only [trP, Bool.and_eq_true, Bool.not_false, Bool.true_or, true_and] at hB ⊢
          exact ⟨hB.1.2, hB.2⟩
        simp only [trP, Bool.and_eq_true, Bool.not_true, Bool.false_or, decide_eq_true_eq] at hB
        refine key ?_ fun i hi hrd hnk => alts m' rfl (.alt k t1 t2) hB0 hi_ h i (by rw [hB.1.1] at hi; exact hi) hrd hnk
        by_cases hd : Dp = []
        · subst hd
          rw [show vl [] listed = listed from rfl] at hB
          rw [hB.1.1]; simp
        · exact hne0 hd
      | val k t1 =>
        simp only [trP, Bool.and_eq_true] at hB
        obtain ⟨hB1, hB2⟩ := hB
        simp only [inT, Bool.and_eq_true, decide_eq_true_eq] at hi_
        obtain ⟨⟨hkl, hv⟩, hi1⟩ := hi_
        have hk := List.getElem?_eq_getElem hkl
        generalize ops[k] = o at hk
        have hk' : ops.toArray[k]? = some o := by simpa using hk
        rw [hk'] at hB1
        simp only [Bool.and_eq_true] at hB1
        obtain ⟨⟨hval, hrb⟩, hfb⟩ := hB1
        have hrb : k ∈ Region.ready .any ops.toArray base := by simpa using hrb
        have hkD : ∀ q ∈ D, k ≠ q.1 := fun q hq e => by
          obtain ⟨oi, hpr⟩ := hD q hq
          have h1 := hpr.at_
          rw [← e, hk'] at h1
          injection h1 with h1
          subst h1
          rw [hpr.noval] at hval
          cases hval
        have hkD' : k ∉ D.map (·.1) := fun hk => by
          obtain ⟨q, hq, e⟩ := List.mem_map.1 hk
          exact hkD q hq e.symm
        have hnk : k ∉ Dp.map (·.1) := fun hk => by
          obtain ⟨q, hq, e⟩ := List.mem_map.1 hk
          exact hkD q (hp.sub q hq) e.symm
        obtain ⟨hbun, ob, hob, hball⟩ := mem_ready.1 hrb
        have hoo : ob = o := by rw [hk'] at hob; injection hob with hob; exact hob.symm
        subst hoo
        have hrd : k ∈ Region.ready .any ops.toArray listed := mem_ready.2 ⟨by rw [hp.off k hkD']; exact hbun, ob, hk', fun e he hb => hp.below _ (hball e he hb)⟩
        obtain ⟨_, x, h1, h2⟩ := evPc_all HB (g := fun p => picked ops p) (L := paths t1) (paths_ne t1) fun p hp' => by
          have := h ((k, true) :: p) (by simp only [paths]; exact List.mem_map_of_mem hp')
          rwa [picked_cons hk] at this
        have hstep := evS_ok (r := x) (Q := Q) (T := fun a' w' => ∃ β', Sim C E0 x.2.1 a' w0 β0 ∧ SimL C x.2.2 a' w' β' ∧ PlanR ks E0 x.2.1 w0 β0 x.2.2 w' β' ∧ x.2.1.h = h0) HB HT H hN (fun kn' s u a' w' β' hx hh' S0' S' R' => by
          injection hx with hx
          subst hx
          exact ⟨β', S0', S', R', hh'⟩) h1 hh S0 S R
        have hap := apart hp hk' hnk fun e he hb => hp.below _ (hball e he hb)
        obtain ⟨v, hy, hK⟩ : ∃ v, YieldsIf P ops.toArray (fun w' => Stab w0 w' E0 h0 β0) ob v (vput Dp a) ∧ ∃ β', Sim C E0 x.2.1 ((vput Dp a).put ob.dst v) w0 β0 ∧ SimL C x.2.2 ((vput Dp a).put ob.dst v) w β' ∧ PlanR ks E0 x.2.1 w0 β0 x.2.2 w β' ∧ x.2.1.h = h0 := by
          unfold wpPlan at hstep
          split at hstep
          · rename_i hw
            simp only [hval, Bool.and_self] at hstep
            exact yields_of_quiet hval hw hstep
          · rename_i hw
            exact ⟨undef, .inr ⟨by simpa using hw, rfl⟩, hstep⟩
        obtain ⟨β', S0', S', R', hh'⟩ := hK
        have hpp : (vput Dp a).put ob.dst v = vput Dp (a.put ob.dst v) := vput_put fun q hq => by
          obtain ⟨oi, hpr, hap1⟩ := hap q hq
          exact (Oper.apart_spec hap1).2.1 q.2 hpr.dst
        rw [hpp] at S0' S'
        obtain ⟨e1, e2⟩ := same_vput (Q := fun _ _ => True) (j := k) (Region.noSelect_spec hsel k ob · · hk') Dp (a := a) hap
        have hy' : YieldsIf P ops.toArray (fun w' => Stab w0 w' E0 h0 β0) ob v a := hy.of_same e1.symm e2.symm
        rw [show m' + 1 + Dp.length = (m' + Dp.length) + 1 by omega] at hf
        injection hf with hf
        refine wpAnyK_first hk' (Region.noSelect_spec hsel) (fun _ _ _ h => h) (.inl (by simp)) hkl (fun l a w hl j hj => by rw [hl.1] at hj; cases hj) f listed a w hp.inv (fun j oj hj hjk hun hno => Region.free_spec hk' hfb j oj hj hjk ?_ hno) hrd hy' hS (ih m' t1 Dp _ _ x.1 x.2.1 x.2.2 _ w β' hf (pend k hrd hkD hnk) (by rw [vl_set]; exact hB2) hi1 h2 hh' S0' S' R')
        by_cases hjD : j ∈ D.map (·.1)
        · obtain ⟨q, hq, rfl⟩ := List.mem_map.1 hjD
          exact hp.offD q hq
        · rw [← hp.off j hjD]; exact hun
theorem preSt_h (D : List (Nat × Nat)) (st : St) : (preSt D st).h = st.h := by
  induction D with
  | nil => rfl
  | cons q r ih => rw [preSt, put_h, ih]
theorem reg_okP (HB : BadOk G) (HT : TabOk P G.tab) (H : CtrOk P G.Γ) (hm : P.follows .mixedOrders = true) {id : Nat} {ops : Array Oper} {D : List (Nat × Nat)} {ks : List Nat} {t : Tr} {F : Frame} {eid : Nat} {FX FR : Frame} {sh : HL F.hs → Option (HL FX.hs ⊕ HL FR.hs)} (hB : preB G.tab ops G.N D t = true) (hi : inT ops.toList t = true)
    (hs : allP (paths t) fun p => ∀ s, evRP G ops.toList D ks F FX FR p s = sh s) : RegOk P G.M G.N id ops ⟨F, eid, FX, FR, sh⟩ := fun s x hx Q hQ C a w β hN hM S => by
  have hx : sh s = some (.inl x) := hx
  have hs := allP_ok hs
  have h : ∀ p ∈ paths t, boxes (F.st s).h ks = true ∧ evPc G ops.toList ks D [] (picked ops.toList p) ⟨(F.st s).t, killB ks (F.st s).h⟩ (preSt D (F.st s)) (fun _ st2 => (match FX.get G.M st2 with | some x => some (Sum.inl x : HL FX.hs ⊕ HL FR.hs) | none => G.bad _ 52 none st2)) = some (.inl x) := fun p hp => by
    have h1 := hs p hp s
    rw [hx] at h1
    unfold evRP at h1
    cases hb : boxes (F.st s).h ks with
    | false => rw [hb] at h1; simp only [cond_false] at h1; rw [HB] at h1; cases h1
    | true => rw [hb] at h1; exact ⟨rfl, h1⟩
  obtain ⟨p0, hp0⟩ := List.exists_mem_of_ne_nil _ (paths_ne t)
  have hb := (h p0 hp0).1
  have hcD := chkD_ok (chk_nil HB (h p0 hp0).2)
  have S : SimL C (F.st s) a w β := S
  have Sd := S.drew
  have e : ops = ops.toList.toArray := by simp
  show (Code.region id ops true).wp P (conc C Q) a w
  rw [e] at hB ⊢
  generalize ops.toList = l at *
  simp only [preB, Bool.and_eq_true] at hB
  obtain ⟨⟨⟨⟨⟨⟨hsel, hpre⟩, hfree⟩, hnk⟩, hns⟩, hle⟩, htr⟩ := hB
  have hle := Nat.le_of_ble_eq_true hle
  have hpre : ∀ q ∈ D, ∃ oi, PreR P l.toArray G.N q oi := fun q hq => preOk_ok HT (List.all_eq_true.1 hpre q hq)
  have hfree : ∀ q ∈ D, Region.free .any l.toArray (Array.replicate l.toArray.size false) q.1 = true := fun q hq => List.all_eq_true.1 hfree q hq
  let Q1 : AQ := fun e st2 => e = .normal ∧ FX.get G.M st2 = some x
  refine wp_mono (Q := conc C Q1) ?_ ?_
  rotate_left
  · rintro e a2 w2 ⟨st2, β2, ⟨rfl, hq⟩, S2⟩
    obtain ⟨β3, S3⟩ := FX.imp hq C a2 w2 β2 hM S2
    exact ⟨_, β3, hQ, S3⟩
  have hput : ∀ (E : List (Nat × Nat)), (∀ q ∈ E, q ∈ D) → SimL C (preSt E (F.st s)) (vput E a) w.drew β ∧ Sim C (Liv (F.st s).h β) ⟨(F.st s).t, killB ks (F.st s).h⟩ (vput E a) w.drew β := by
    intro E
    induction E with
    | nil => exact fun _ => ⟨Sd, Sd.kill ks⟩
    | cons q r ih =>
      intro hE
      obtain ⟨h1, h2⟩ := ih fun q' hq' => hE q' (List.mem_cons_of_mem _ hq')
      have hq := hE q (List.mem_cons_self ..)
      obtain ⟨oi, hpr⟩ := hpre q hq
      refine ⟨h1.putL (fun i hi => by injection hi with hi; rw [← hi, hN]; exact hpr.lt) (v := .im .nil) (Ri.nil none), h2.other nilV fun i hi => ?_⟩
      injection hi with hi
      rw [← hi]
      exact (hcD q hq).1
  obtain ⟨S1, S0⟩ := hput D fun q hq => hq
  have R : PlanR ks (Liv (F.st s).h β) ⟨(F.st s).t, killB ks (F.st s).h⟩ w.drew β (preSt D (F.st s)) w.drew β := (kill_plan S hb).same rfl (preSt_h D _)
  have hgf : ∀ j, j < l.length → (Array.replicate l.toArray.size false).getD j true = false := fun j hj => getD_in (by simpa using hj) (getD_replicate_false _ _)
  have hpl : ∀ q ∈ D, q.1 < l.length := fun q hq => by
    obtain ⟨oi, hpr⟩ := hpre q hq
    have := (Array.getElem?_eq_some_iff.1 hpr.at_).1
    simpa using this
  have hlen0 : l.length = (l.length - D.length) + D.length := by
    have : D.length ≤ l.length := by simpa using hle
    omega
  have htail0 : ∀ t, l.length ≤ t → t < l.toArray.size → (Array.replicate l.toArray.size false).getD t true = false := fun t h1 h2 => by
    have : t < l.length := by simpa using h2
    omega
  have hW := evTp_ok (Q := conc C Q1) (T := fun a w => conc C Q1 .normal a w) (K := fun _ st2 => (match FX.get G.M st2 with | some x => some (Sum.inl x : HL FX.hs ⊕ HL FR.hs) | none => G.bad _ 52 none st2)) (r := Sum.inl x) HB HT H hN hsel hpre hfree (fun kn st a w β hK S => by
      split at hK
      · rename_i y hy
        injection hK with hK
        injection hK with hK
        subst hK
        exact ⟨st, β, ⟨rfl, hy⟩, S⟩
      · rw [HB] at hK; cases hK) l.length (l.length - D.length) t D (Array.replicate l.toArray.size false) (Array.replicate l.toArray.size false) [] ⟨(F.st s).t, killB ks (F.st s).h⟩ (preSt D (F.st s)) a w.drew β hlen0
    ⟨fun q hq => hq, distinct_ok hnk, distinct_ok hns, fun q hq => hgf _ (hpl q hq), ⟨by simp, fun j oj _ hl => (by rw [getD_replicate_false] at hl; cases hl), htail0⟩, fun i hi => hi, fun i _ => rfl, fun q hq hn => absurd hq hn, fun q hq => hgf _ (hpl q hq)⟩
    (by simpa using htr) hi (fun p hp => (h p hp).2) rfl S0 S1 R
  refine wp_region_any hm ?_
  have := wpAny_of_headK (Q' := conc C Q1) (g := 0) NoP.le (fun listed a' w' hL => ⟨hL.1, hL.2⟩) _ _ _ _ hW
  simpa using this
end
end Go.Proofs.YtjffopopheiinaaGreat
end
section
namespace Go.Proofs.YtjffopopheiinaaGreat
open Go.RowKit

def evV {ρ : Type} (G : Env) (o : Oper) (f : Bool) (st : St) (K : St → Option ρ) : Option ρ := bif f then
  (bif okd G.N o.dst && (valOp o.op && (uniOp o.op && !cvb st o.op)) then (match opV G.tab st o.op with | some (c, v) => bif c then K (st.put o.dst v) else none | none => G.bad ρ 38 (some o) st) else G.bad ρ 39 (some o) st)
  else evO G o st K
def evA {ρ : Type} (G : Env) (ops : List Oper) (kn : List (Nat × Bool)) (o : Oper) (f : Bool) (st : St) (K : List (Nat × Bool) → St → Option ρ) : Option ρ := match o.guard with
    | none => evV G o f st fun st' => K kn st'
    | some (j, want) => match gdOf ops kn st.t j want with
      | .go => evV G o f st fun st' => K kn st'
      | .skip => bif okd G.N o.dst then K kn (st.put o.dst (.im (.s undef))) else G.bad ρ 2 (some o) st
      | .fork d b => bif b
          then (bif want then evV G o f (setB d true st) fun st' => K ((j, true) :: kn) st' else bif okd G.N o.dst then K ((j, true) :: kn) ((setB d true st).put o.dst (.im (.s undef))) else G.bad ρ 2 (some o) st)
          else (bif want then bif okd G.N o.dst then K ((j, false) :: kn) ((setB d false st).put o.dst (.im (.s undef))) else G.bad ρ 2 (some o) st else evV G o f (setB d false st) fun st' => K ((j, false) :: kn) st')
      | .bad => G.bad ρ 3 (some o) st
def evLp {ρ : Type} (G : Env) (ops : List Oper) : List (Nat × Bool) → List (Oper × Bool) → St → (List (Nat × Bool) → St → Option ρ) → Option ρ
  | kn, [], st, K => K kn st
  | kn, (o, f) :: r, st, K => evA G ops kn o f st fun kn' s => evLp G ops kn' r s K
def evRA (G : Env) (ops : List Oper) (F FX FR : Frame) (p : List (Nat × Bool)) (s : HL F.hs) : Option (HL FX.hs ⊕ HL FR.hs) := evLp G ops [] (picked ops p) (F.st s) fun _ st2 => (match FX.get G.M st2 with | some x => some (.inl x) | none => G.bad _ 52 none st2)
def trA (md : Region.Mode) (ops : Array Oper) : Bool → Nat → Tr → Array Bool → Bool
  | _, 0, .done, l => decide (Region.ready md ops l = [])
  | _, m + 1, .val k r, l => (Region.ready md ops l).contains k && Region.free md ops l k && trA md ops true m r (l.setIfInBounds k true)
  | b, m + 1, .one k r, l => (!b || decide (Region.ready md ops l = [k])) && trA md ops true m r (l.setIfInBounds k true)
  | b, m + 1, .alt k r t, l => (!b || decide (Region.ready md ops l = k :: heads t)) && trA md ops true m r (l.setIfInBounds k true) && trA md ops false (m + 1) t l
  | _, _, _, _ => false
def allB (ops : Array Oper) (t : Tr) : Bool := Region.noSelect ops && trA .any ops true ops.size t (Array.replicate ops.size false)
section
variable {P : Program} {G : Env} {C : Ctx} {st : St} {a : Act} {w : World} {β : List (Nat × Nat)}
theorem evO_bind {ρ σ : Type} (HB : BadOk G) {o : Oper} {K : St → Option ρ} {F : St → Option σ} {B : σ → Option ρ} (hK : ∀ s, K s = (F s).bind B) : evO G o st K = (evO G o st F).bind B := by
  unfold evO
  have hb : ∀ (ρ : Type) n o st, G.bad ρ n o st = none := HB
  simp only [hb]
  have hc : ∀ (c : Bool) (x : Option ρ) (y : Option σ), x = y.bind B → (bif c then x else none) = (bif c then y else none).bind B := fun c x y h => by cases c <;> simp [h]
  refine hc _ _ _ ?_
  split
  · exact hc _ _ _ (hK _)
  · split
    · exact hc _ _ _ (hK _)
    · split
      · exact evCall_bind HB fun l st' => hK _
      · split
        · split
          · exact hc _ _ _ (hK _)
          · rfl
        · rfl
theorem evV_bind {ρ σ : Type} (HB : BadOk G) {o : Oper} {f : Bool} {K : St → Option ρ} {F : St → Option σ} {B : σ → Option ρ} (hK : ∀ s, K s = (F s).bind B) : evV G o f st K = (evV G o f st F).bind B := by
  unfold evV
  have hb : ∀ (ρ : Type) n o st, G.bad ρ n o st = none := HB
  simp only [hb]
  have hc : ∀ (c : Bool) (x : Option ρ) (y : Option σ), x = y.bind B → (bif c then x else none) = (bif c then y else none).bind B := fun c x y h => by cases c <;> simp [h]
  cases f <;> simp only [cond_true, cond_false]
  · exact evO_bind HB hK
  · refine hc _ _ _ ?_
    split
    · exact hc _ _ _ (hK _)
    · rfl
theorem evA_bind {ρ σ : Type} (HB : BadOk G) {ops : List Oper} {kn : List (Nat × Bool)} {o : Oper} {f : Bool} {K : List (Nat × Bool) → St → Option ρ} {F : List (Nat × Bool) → St → Option σ} {B : σ → Option ρ} (hK : ∀ k s, K k s = (F k s).bind B) : evA G ops kn o f st K = (evA G ops kn o f st F).bind B := by
  unfold evA
  have hb : ∀ (ρ : Type) n o st, G.bad ρ n o st = none := HB
  simp only [hb]
  have hc : ∀ (c : Bool) (x : Option ρ) (y : Option σ), x = y.bind B → (bif c then x else none) = (bif c then y else none).bind B := fun c x y h => by cases c <;> simp [h]
  have hd : ∀ (c : Bool) (x x' : Option ρ) (y y' : Option σ), x = y.bind B → x' = y'.bind B → (bif c then x else x') = (bif c then y else y').bind B := fun c x x' y y' h h' => by cases c <;> simp [h, h']
  split
  · exact evV_bind HB fun s => hK _ _
  · split
    · exact evV_bind HB fun s => hK _ _
    · exact hc _ _ _ (hK _ _)
    · exact hd _ _ _ _ _ (hd _ _ _ _ _ (evV_bind HB fun s => hK _ _) (hc _ _ _ (hK _ _))) (hd _ _ _ _ _ (hc _ _ _ (hK _ _)) (evV_bind HB fun s => hK _ _))
    · rfl
theorem evA_all {ρ ι : Type} (HB : BadOk G) {ops : List Oper} {kn : List (Nat × Bool)} {o : Oper} {f : Bool} {K : List (Nat × Bool) → St → Option ρ} {r : ρ} {L : List ι} {g : ι → List (Oper × Bool)} (hne : L ≠ []) (h : ∀ p ∈ L, evLp G ops kn ((o, f) :: g p) st K = some r) : ∃ x : List (Nat × Bool) × St, evA G ops kn o f st (fun a b => some (a, b)) = some x ∧ ∀ p ∈ L, evLp G ops x.1 (g p) x.2 K = some r := by
  have e : ∀ p, evLp G ops kn ((o, f) :: g p) st K = (evA G ops kn o f st (fun a b => some (a, b))).bind fun x => evLp G ops x.1 (g p) x.2 K := fun p => evA_bind HB fun _ _ => rfl
  generalize evA G ops kn o f st (fun a b => some (a, b)) = z at e
  cases z with
  | none =>
    obtain ⟨p, hp⟩ := List.exists_mem_of_ne_nil L hne
    have := h p hp
    rw [e] at this
    cases this
  | some x => exact ⟨x, rfl, fun p hp => by have := h p hp; rw [e] at this; exact this⟩
theorem evA_val {ρ : Type} (HB : BadOk G) (HT : TabOk P G.tab) {ops : List Oper} {kn : List (Nat × Bool)} {o : Oper} {K : List (Nat × Bool) → St → Option ρ} {r : ρ} (hN : C.N = G.N) (h : evA G ops kn o true st K = some r) (S : SimL C st a w β) : ∃ v kn' st', Yields P ops.toArray o v a ∧ K kn' st' = some r ∧ SimL C st' (a.put o.dst v) w β := by
  have exec : ∀ kn' s1, SimL C s1 a w β → Region.wanted o (yielded ops.toArray a.tmps) = true → evV G o true s1 (fun st' => K kn' st') = some r → ∃ v kn' st', Yields P ops.toArray o v a ∧ K kn' st' = some r ∧ SimL C st' (a.put o.dst v) w β := fun kn' s1 S hw h => by
    unfold evV at h
    simp only [cond_true] at h
    cases hq : (okd G.N o.dst && (valOp o.op && (uniOp o.op && !cvb s1 o.op))) with
    | false => rw [hq] at h; simp only [cond_false] at h; rw [HB] at h; cases h
    | true =>
      rw [hq] at h
      simp only [cond_true] at h
      simp only [Bool.and_eq_true] at hq
      split at h
      · rename_i c v hv
        cases c with
        | false => cases h
        | true =>
          obtain ⟨u, h1, h2⟩ := opS_ok HT hv rfl (fun t x e => by rw [e] at hq; exact absurd hq.2.2.1 (by simp [uniOp])) (by simpa using hq.2.2.2) C _ a w β S
          exact ⟨u, kn', _, .inl ⟨hw, fun w' => h2 w' trivial⟩, h, S.putL (by rw [hN]; exact okd_ok hq.1) h1⟩
      · rw [HB] at h; cases h
  have skip : ∀ kn' sb s1, SimL C s1 a w β → Region.wanted o (yielded ops.toArray a.tmps) = false → (bif okd G.N o.dst then K kn' (s1.put o.dst (.im (.s undef))) else G.bad ρ 2 (some o) sb) = some r → ∃ v kn' st', Yields P ops.toArray o v a ∧ K kn' st' = some r ∧ SimL C st' (a.put o.dst v) w β := fun kn' sb s1 S hw h => by
    cases hd : okd G.N o.dst with
    | false => rw [hd] at h; simp only [cond_false] at h; rw [HB] at h; cases h
    | true =>
      rw [hd] at h
      exact ⟨undef, kn', _, .inr ⟨hw, rfl⟩, h, S.putL (by rw [hN]; exact okd_ok hd) (Ri.s undef)⟩
  unfold evA at h
  split at h
  · rename_i hg
    exact exec kn st S (by simp [Region.wanted, hg]) h
  · rename_i j want hg
    have gc := guard_cases S (ops := ops) (kn := kn) hg
    split at h
    · rename_i e
      rw [e] at gc
      exact exec kn st S gc h
    · rename_i e
      rw [e] at gc
      exact skip kn st st S gc h
    · rename_i d b e
      rw [e] at gc
      obtain ⟨h1, h2⟩ := gc
      cases b <;> cases want <;> simp only [cond_true, cond_false] at h
      · exact exec _ (setB d false st) (S.setB h1) h2 h
      · exact skip _ _ (setB d false st) (S.setB h1) h2 h
      · exact skip _ _ (setB d true st) (S.setB h1) h2 h
      · exact exec _ (setB d true st) (S.setB h1) h2 h
    · rw [HB] at h; cases h
theorem evA_one {ρ : Type} (HB : BadOk G) (HT : TabOk P G.tab) (H : CtrOk P G.Γ) {ops : List Oper} {k : Nat} {kn : List (Nat × Bool)} {o : Oper} {K : List (Nat × Bool) → St → Option ρ} {r : ρ} {Q : Exit → Act → World → Prop} (hN : C.N = G.N) (hk : ops.toArray[k]? = some o) (h : evA G ops kn o false st K = some r) (S : SimL C st a w β) : wpOp P ops.toArray Q k (fun a' w' => ∃ kn' st' β', K kn' st' = some r ∧ SimL C st' a' w' β') a w := by
  unfold wpOp
  simp only [hk]
  have exec : ∀ kn' s1, SimL C s1 a w β → Region.wanted o (yielded ops.toArray a.tmps) = true → evV G o false s1 (fun st' => K kn' st') = some r → (if Region.wanted o (yielded ops.toArray a.tmps) = true then Oper.wp P o a w (fun a' w' => ∃ kn' st' β', K kn' st' = some r ∧ SimL C st' a' w' β') Q ∨ Oper.asks P o a w ∧ LetsOut Q else ∃ kn' st' β', K kn' st' = some r ∧ SimL C st' (a.put o.dst undef) w β') := fun kn' s1 S hw h => by
    rw [if_pos hw]
    unfold evV at h
    simp only [cond_false] at h
    obtain ⟨_, st', h1, h2⟩ := evO_ok HB HT H h
    exact .inl (h2 C a w β S hN _ _ fun u w' β' S' => ⟨kn', st', β', h1, S'⟩)
  have skip : ∀ kn' sb s1, SimL C s1 a w β → Region.wanted o (yielded ops.toArray a.tmps) = false → (bif okd G.N o.dst then K kn' (s1.put o.dst (.im (.s undef))) else G.bad ρ 2 (some o) sb) = some r → (if Region.wanted o (yielded ops.toArray a.tmps) = true then Oper.wp P o a w (fun a' w' => ∃ kn' st' β', K kn' st' = some r ∧ SimL C st' a' w' β') Q ∨ Oper.asks P o a w ∧ LetsOut Q else ∃ kn' st' β', K kn' st' = some r ∧ SimL C st' (a.put o.dst undef) w β') := fun kn' sb s1 S hw h => by
    rw [if_neg (by rw [hw]; simp)]
    cases hd : okd G.N o.dst with
    | false => rw [hd] at h; simp only [cond_false] at h; rw [HB] at h; cases h
    | true =>
      rw [hd] at h
      exact ⟨kn', _, β, h, S.putL (by rw [hN]; exact okd_ok hd) (Ri.s undef)⟩
  unfold evA at h
  split at h
  · rename_i hg
    exact exec kn st S (by simp [Region.wanted, hg]) h
  · rename_i j want hg
    have gc := guard_cases S (ops := ops) (kn := kn) hg
    split at h
    · rename_i e
      rw [e] at gc
      exact exec kn st S gc h
    · rename_i e
      rw [e] at gc
      exact skip kn st st S gc h
    · rename_i d b e
      rw [e] at gc
      obtain ⟨h1, h2⟩ := gc
      cases b <;> cases want <;> simp only [cond_true, cond_false] at h
      · exact exec _ (setB d false st) (S.setB h1) h2 h
      · exact skip _ _ (setB d false st) (S.setB h1) h2 h
      · exact skip _ _ (setB d true st) (S.setB h1) h2 h
      · exact exec _ (setB d true st) (S.setB h1) h2 h
    · rw [HB] at h; cases h
theorem evAt_ok {ρ : Type} (HB : BadOk G) (HT : TabOk P G.tab) (H : CtrOk P G.Γ) {ops : List Oper} {K : List (Nat × Bool) → St → Option ρ} {r : ρ} {Q : Exit → Act → World → Prop} (hN : C.N = G.N) (hsel : Region.noSelect ops.toArray = true)
    (hT : ∀ kn st a w β, K kn st = some r → SimL C st a w β → Q .normal a w) : ∀ (m : Nat) (t : Tr) (listed : Array Bool) (kn : List (Nat × Bool)) (st : St) (a : Act) (w : World) (β : List (Nat × Nat)), trA .any ops.toArray true m t listed = true → inT ops t = true → (∀ p ∈ paths t, evLp G ops kn (picked ops p) st K = some r) → SimL C st a w β →
      wpAny P .any ops.toArray (NoP Q) m listed a w := by
  intro m
  induction m with
  | zero =>
    intro t listed kn st a w β hB hi h S
    cases t with
    | done =>
      have h1 := h [] (by simp [paths])
      exact ⟨of_decide_eq_true hB, hT kn st a w β h1 S⟩
    | _ => simp [trA] at hB
  | succ m ih =>
    intro t listed kn st a w β hB hi_ h S
    have single : ∀ k t1, trA .any ops.toArray true m t1 (listed.setIfInBounds k true) = true → k < ops.length → inT ops t1 = true → (∀ p ∈ paths t1, evLp G ops kn (picked ops ((k, false) :: p)) st K = some r) → wpOp P ops.toArray (NoP Q) k (wpAny P .any ops.toArray (NoP Q) m (listed.setIfInBounds k true)) a w := fun k t1 hB1 hkl hi1 hps => by
      have hk := List.getElem?_eq_getElem hkl
      generalize ops[k] = o at hk
      have hk' : ops.toArray[k]? = some o := by simpa using hk
      obtain ⟨x, h1, h2⟩ := evA_all HB (g := fun p => picked ops p) (L := paths t1) (paths_ne t1) fun p hp' => by
        have := hps p hp'
        rwa [picked_cons hk] at this
      refine wpOp_mono ?_ (evA_one HB HT H hN hk' h1 S)
      rintro a' w' ⟨kn', st', β', hx, S'⟩
      injection hx with hx
      subst hx
      exact ih t1 _ kn' st' a' w' β' hB1 hi1 h2 S'
    have alts : ∀ (t' : Tr), trA .any ops.toArray false (m + 1) t' listed = true → inT ops t' = true → (∀ p ∈ paths t', evLp G ops kn (picked ops p) st K = some r) → ∀ i ∈ heads t', wpOp P ops.toArray (NoP Q) i (wpAny P .any ops.toArray (NoP Q) m (listed.setIfInBounds i true)) a w := fun t' => by
      induction t' with
      | one k t1 _ =>
        intro hB' hi' hps i hih
        simp only [trA, Bool.not_false, Bool.true_or, Bool.true_and] at hB'
        simp only [inT, Bool.and_eq_true, decide_eq_true_eq] at hi'
        obtain rfl : i = k := by simpa [heads] using hih
        exact single i t1 hB' hi'.1 hi'.2 (fun p hp' => hps _ (by simp only [paths]; exact List.mem_map_of_mem hp'))
      | alt k t1 t2 _ ih2 =>
        intro hB' hi' hps i hih
        simp only [trA, Bool.not_false, Bool.true_or, Bool.true_and, Bool.and_eq_true] at hB'
        simp only [inT, Bool.and_eq_true, decide_eq_true_eq] at hi'
        rcases List.mem_cons.1 (show i ∈ k :: heads t2 from hih) with rfl | hih
        · exact single i t1 hB'.1 hi'.1.1 hi'.1.2 (fun p hp' => hps _ (by simp only [paths]; exact List.mem_append_left _ (List.mem_map_of_mem hp')))
        · exact ih2 hB'.2 hi'.2 (fun p hp' => hps p (by simp only [paths]; exact List.mem_append_right _ hp')) i hih
      | _ => intro _ _ _ i hih; simp [heads] at hih
    cases t with
    | done => simp [trA] at hB
    | two => simp [trA] at hB
    | one k t1 =>
      have hB0 : trA .any ops.toArray false (m + 1) (.one k t1) listed = true := by
        simp only [trA, Bool.and_eq_true, Bool.not_false, Bool.true_or, true_and] at hB ⊢
        exact hB.2
      simp only [trA, Bool.and_eq_true, Bool.not_true, Bool.false_or, decide_eq_true_eq] at hB
      exact ⟨fun h0 => (by rw [hB.1] at h0; cases h0), fun i hi => alts (.one k t1) hB0 hi_ h i (by rw [hB.1] at hi; exact hi)⟩
    | alt k t1 t2 =>
      have hB0 : trA .any ops.toArray false (m + 1) (.alt k t1 t2) listed = true := by
        simp only [trA, Bool.and_eq_true, Bool.not_false, Bool.true_or, true_and] at hB ⊢
        exact ⟨hB.1.2, hB.2⟩
      simp only [trA, Bool.and_eq_true, Bool.not_true, Bool.false_or, decide_eq_true_eq] at hB
      exact ⟨fun h0 => (by rw [hB.1.1] at h0; cases h0), fun i hi => alts (.alt k t1 t2) hB0 hi_ h i (by rw [hB.1.1] at hi; exact hi)⟩
    | val k t1 =>
      simp only [trA, Bool.and_eq_true] at hB
      obtain ⟨⟨hrd, hfr⟩, hB2⟩ := hB
      simp only [inT, Bool.and_eq_true, decide_eq_true_eq] at hi_
      obtain ⟨⟨hkl, _⟩, hi1⟩ := hi_
      have hk := List.getElem?_eq_getElem hkl
      generalize ops[k] = o at hk
      have hk' : ops.toArray[k]? = some o := by simpa using hk
      obtain ⟨x, h1, h2⟩ := evA_all HB (g := fun p => picked ops p) (L := paths t1) (paths_ne t1) fun p hp' => by
        have := h ((k, true) :: p) (by simp only [paths]; exact List.mem_map_of_mem hp')
        rwa [picked_cons hk] at this
      obtain ⟨v, kn', st', hy, hx, S'⟩ := evA_val HB HT hN h1 S
      injection hx with hx
      subst hx
      exact wpAny_first hk' (Region.noSelect_spec hsel) (fun _ _ _ h => h) m listed a w (Region.free_spec hk' hfr) (by simpa using hrd) hy (ih t1 _ kn' st' _ w β hB2 hi1 h2 S')
theorem wpAny_weak {md : Region.Mode} {ops : Array Oper} {Q Q' : Exit → Act → World → Prop} (hq : ∀ e a w, Q e a w → Q' e a w) : ∀ (f : Nat) (l : Array Bool) (a : Act) (w : World), wpAny P md ops Q f l a w → wpAny P md ops Q' f l a w
  | 0, l, a, w, h => ⟨h.1, hq _ _ _ h.2⟩
  | f + 1, l, a, w, h => ⟨fun h0 => hq _ _ _ (h.1 h0), fun i hi => wpOp_mono (fun a' w' h' => wpAny_weak hq f _ a' w' h') (wpOp_weak hq (h.2 i hi))⟩
theorem reg_okA (HB : BadOk G) (HT : TabOk P G.tab) (H : CtrOk P G.Γ) (hm : P.follows .mixedOrders = true) {id : Nat} {ops : Array Oper} {t : Tr} {F : Frame} {eid : Nat} {FX FR : Frame} {sh : HL F.hs → Option (HL FX.hs ⊕ HL FR.hs)} (hB : allB ops t = true) (hi : inT ops.toList t = true)
    (hs : allP (paths t) fun p => ∀ s, evRA G ops.toList F FX FR p s = sh s) : RegOk P G.M G.N id ops ⟨F, eid, FX, FR, sh⟩ := fun s x hx Q hQ C a w β hN hM S => by
  have hx : sh s = some (.inl x) := hx
  have hs := allP_ok hs
  have h : ∀ p ∈ paths t, evLp G ops.toList [] (picked ops.toList p) (F.st s) (fun _ st2 => (match FX.get G.M st2 with | some x => some (Sum.inl x : HL FX.hs ⊕ HL FR.hs) | none => G.bad _ 52 none st2)) = some (.inl x) := fun p hp => by
    have h1 := hs p hp s
    rw [hx] at h1
    exact h1
  have S : SimL C (F.st s) a w β := S
  have e : ops = ops.toList.toArray := by simp
  show (Code.region id ops true).wp P (conc C Q) a w
  rw [e] at hB ⊢
  generalize ops.toList = l at *
  simp only [allB, Bool.and_eq_true] at hB
  obtain ⟨hsel, htr⟩ := hB
  let Q1 : AQ := fun e st2 => e = .normal ∧ FX.get G.M st2 = some x
  refine wp_mono (Q := conc C Q1) ?_ ?_
  rotate_left
  · rintro e a2 w2 ⟨st2, β2, ⟨rfl, hq⟩, S2⟩
    obtain ⟨β3, S3⟩ := FX.imp hq C a2 w2 β2 hM S2
    exact ⟨_, β3, hQ, S3⟩
  refine wp_region_any hm ?_
  exact wpAny_weak NoP.le _ _ _ _ (evAt_ok (Q := conc C Q1) HB HT H hN hsel (fun kn st a w β hK S => by
      split at hK
      · rename_i y hy
        injection hK with hK
        injection hK with hK
        subst hK
        exact ⟨st, β, ⟨rfl, hy⟩, S⟩
      · rw [HB] at hK; cases hK) _ t _ [] (F.st s) a w.drew β htr hi h S.drew)
end
end Go.Proofs.YtjffopopheiinaaGreat
end
section
namespace Go.Proofs.YtjffopopheiinaaGreat
open Go.RowKit

def mvV1 (k n : Nat) : PV → PV
  | .own j => bif Nat.beq j k then .own n else .own j
  | v => v
def mvVF (k n : Nat) : PV → PV
  | .fn f caps => .fn f (caps.map (mvV1 k n))
  | v => mvV1 k n v
def mvV2 (k n : Nat) : PV → PV
  | .agg cs => .agg (cs.map (mvV1 k n))
  | v => mvVF k n v
def mvV (k n : Nat) : PV → PV
  | .tup cs => .tup (cs.map (mvV2 k n))
  | v => mvV2 k n v
def mvO (k n : Nat) : AObj → AObj
  | .box t cs => .box t (cs.map (mvV1 k n))
  | o => o
def mvT (k n : Nat) : List (Nat × PV) → List (Nat × PV)
  | [] => []
  | (i, v) :: r => (i, mvV k n v) :: mvT k n r
def mvH (k n : Nat) : Nat → List AObj → List AObj
  | _, [] => []
  | i, o :: r => (bif Nat.beq i k then .dead else mvO k n o) :: mvH k n (i + 1) r
def mv1 (k : Nat) (st : St) : St := match st.h[k]? with
  | some (.row t τ xs) => ⟨mvT k st.h.length st.t, mvH k st.h.length 0 st.h ++ [.row t τ xs]⟩
  | _ => st
def mvL : List Nat → St → St
  | [], st => st
  | k :: r, st => mvL r (mv1 k st)
theorem mvT_slot (k n : Nat) : ∀ (t : List (Nat × PV)) (i : Nat), slot (mvT k n t) i = (slot t i).map (mvV k n)
  | [], i => rfl
  | (j, v) :: r, i => by
    simp only [mvT, slot]
    cases Nat.beq j i
    · simp only [cond_false]; exact mvT_slot k n r i
    · rfl
theorem mvH_len (k n : Nat) : ∀ (h : List AObj) (i : Nat), (mvH k n i h).length = h.length
  | [], i => rfl
  | o :: r, i => by simp only [mvH, List.length_cons, mvH_len k n r]
theorem mvH_at (k n : Nat) : ∀ (h : List AObj) (i j : Nat), (mvH k n i h)[j]? = h[j]?.map fun o => bif Nat.beq (i + j) k then .dead else mvO k n o
  | [], i, j => by simp [mvH]
  | o :: r, i, 0 => by simp [mvH]
  | o :: r, i, j + 1 => by
    simp only [mvH, List.getElem?_cons_succ]
    rw [mvH_at k n r (i + 1) j, show i + 1 + j = i + (j + 1) by omega]
section
variable {P : Program} {G : Env} {C : Ctx} {st : St} {a : Act} {w : World} {β : List (Nat × Nat)}
theorem mv1_ok (S : SimL C st a w β) (k : Nat) : ∃ β', SimL C (mv1 k st) a w β' := by
  unfold mv1
  split
  case h_2 => exact ⟨β, S⟩
  rename_i t τ xs hk
  obtain ⟨b, c, hβk, hc0, hcm, hrow⟩ := S.heap.ok k _ hk
  have hkl : k < st.h.length := (List.getElem?_eq_some_iff.1 hk).1
  have hl := S.heap.len
  generalize hn : st.h.length = n at *
  have hat : ∀ j, j < n → (mvH k n 0 st.h ++ [AObj.row t τ xs])[j]? = st.h[j]?.map fun o => bif Nat.beq j k then .dead else mvO k n o := fun j hj => by
    rw [List.getElem?_append_left (by rw [mvH_len, hn]; exact hj), mvH_at, Nat.zero_add]
  have hlast : (mvH k n 0 st.h ++ [AObj.row t τ xs])[n]? = some (.row t τ xs) := by
    rw [List.getElem?_append_right (by rw [mvH_len, hn]; exact Nat.le_refl _), mvH_len, hn, Nat.sub_self]; rfl
  have hlen : (mvH k n 0 st.h ++ [AObj.row t τ xs]).length = n + 1 := by simp [mvH_len, hn]
  have only : ∀ j o, (mvH k n 0 st.h ++ [AObj.row t τ xs])[j]? = some o → (j = n ∧ o = .row t τ xs) ∨ (j < n ∧ j = k ∧ o = .dead) ∨ (j < n ∧ j ≠ k ∧ ∃ o0, st.h[j]? = some o0 ∧ o = mvO k n o0) := fun j o hj => by
    rcases Nat.lt_trichotomy j n with h | h | h
    · rw [hat j h] at hj
      obtain ⟨o0, h1, h2⟩ := Option.map_eq_some_iff.1 hj
      by_cases e : j = k
      · subst e
        simp at h2
        exact .inr (.inl ⟨h, rfl, h2.symm⟩)
      · have hb : Nat.beq j k = false := beq_no e
        rw [hb] at h2
        exact .inr (.inr ⟨h, e, o0, h1, h2.symm⟩)
    · subst h
      rw [hlast] at hj
      injection hj with hj
      exact .inl ⟨rfl, hj.symm⟩
    · rw [List.getElem?_eq_none (by rw [hlen]; omega)] at hj
      cases hj
  have hβ : ∀ j, j < n → (β ++ [(b, c)])[j]? = β[j]? := fun j hj => List.getElem?_append_left (by omega)
  have hβn : (β ++ [(b, c)])[n]? = some (b, c) := by rw [List.getElem?_append_right (by omega), hl, Nat.sub_self]; rfl
  have lv : ∀ o c', live (mvO k n o) c' ↔ live o c' := fun o c' => by cases o <;> exact Iff.rfl
  have hkeep : ∀ j o, j < n → j ≠ k → st.h[j]? = some o → (mvH k n 0 st.h ++ [AObj.row t τ xs])[j]? = some (mvO k n o) := fun j o hj e ho => by
    rw [hat j hj, ho]
    have hb : Nat.beq j k = false := beq_no e
    simp only [Option.map_some, hb, cond_false]
  have hdead : (mvH k n 0 st.h ++ [AObj.row t τ xs])[k]? = some .dead := by
    rw [hat k hkl, hk]; simp
  have hE : Liv (mvH k n 0 st.h ++ [AObj.row t τ xs]) (β ++ [(b, c)]) = Liv st.h β := funext fun i => propext ⟨fun ⟨j, o, c', h1, h2, h3⟩ => by
    rcases only j o h1 with ⟨rfl, rfl⟩ | ⟨_, _, rfl⟩ | ⟨hj, _, o0, h4, rfl⟩
    · rw [hβn] at h3
      injection h3 with h3; injection h3 with e1 e2
      subst e1 e2
      exact ⟨k, _, c, hk, h2, hβk⟩
    · exact h2.elim
    · exact ⟨j, o0, c', h4, (lv o0 c').1 h2, by rw [← hβ j hj]; exact h3⟩, fun ⟨j, o, c', h1, h2, h3⟩ => by
    have hj : j < n := by rw [← hn]; exact (List.getElem?_eq_some_iff.1 h1).1
    by_cases e : j = k
    · subst e
      rw [hk] at h1
      injection h1 with h1
      subst h1
      rw [hβk] at h3
      injection h3 with h3; injection h3 with e1 e2
      subst e1 e2
      exact ⟨n, _, c, hlast, h2, hβn⟩
    · exact ⟨j, _, c', hkeep j o hj e h1, (lv o c').2 h2, by rw [hβ j hj]; exact h3⟩⟩
  have vi : ∀ j, j < n → isV (mvH k n 0 st.h ++ [AObj.row t τ xs]) j = isV st.h j := fun j hj => by
    by_cases e : j = k
    · subst e
      simp [isV, hdead, hk]
    · unfold isV
      rw [hat j hj]
      have hb : Nat.beq j k = false := beq_no e
      simp only [hb, cond_false]
      cases h0 : st.h[j]? with
      | none => rfl
      | some o => cases o <;> rfl
  have c1 : ∀ v u, C1 w (Liv st.h β) C.X st.h β v u → C1 w (Liv (mvH k n 0 st.h ++ [AObj.row t τ xs]) (β ++ [(b, c)])) C.X (mvH k n 0 st.h ++ [AObj.row t τ xs]) (β ++ [(b, c)]) (mvV1 k n v) u := fun v u hc => by
    rw [hE]
    cases v with
    | im x => exact hc
    | own j =>
      obtain ⟨h0, hv, h1, h2⟩ := hc
      rw [hn] at h0
      by_cases e : j = k
      · subst e
        simp only [mvV1, Nat.beq_refl, cond_true]
        obtain ⟨b1, c1, A, q1, q2, q3, _⟩ := h2 _ _ _ hk
        rw [hβk] at q1
        injection q1 with q1; injection q1 with e1 e2
        subst e1 e2
        refine ⟨by rw [hlen]; omega, by simp [isV, hlast], h1, fun t' τ' xs' e' => ?_⟩
        rw [hlast] at e'
        injection e' with e'
        cases e'
        exact ⟨b, c, A, hβn, q2, q3, fun _ => trivial⟩
      · have hb : Nat.beq j k = false := beq_no e
        simp only [mvV1, hb, cond_false]
        refine ⟨by rw [hlen]; omega, by rw [vi j h0]; exact hv, h1, fun t' τ' xs' e' => ?_⟩
        rcases only j _ e' with ⟨q, _⟩ | ⟨_, q, _⟩ | ⟨hj, _, o0, h4, h5⟩
        · omega
        · exact absurd q e
        · cases o0 <;> simp only [mvO] at h5 <;> first | (cases h5; done) | skip
          cases h5
          obtain ⟨b1, c1, A, q1, q2, q3, _⟩ := h2 _ _ _ h4
          exact ⟨b1, c1, A, by rw [hβ j h0]; exact q1, q2, q3, fun _ => trivial⟩
    | ptr j o =>
      obtain ⟨b1, c1, h1, h2⟩ := hc
      have hj : j < n := by rw [← hl]; exact (List.getElem?_eq_some_iff.1 h1).1
      exact ⟨b1, c1, by rw [hβ j hj]; exact h1, h2⟩
    | ept j i z o =>
      obtain ⟨h0, hv, b1, c1, h1, h2, h3⟩ := hc
      rw [hn] at h0
      refine ⟨by rw [hlen]; omega, by rw [vi j h0]; exact hv, b1, c1, by rw [hβ j h0]; exact h1, h2, fun t' τ' xs' e' => ?_⟩
      rcases only j _ e' with ⟨q, _⟩ | ⟨_, _, q⟩ | ⟨hj, _, o0, h4, h5⟩
      · omega
      · cases q
      · cases o0 <;> simp only [mvO] at h5 <;> first | (cases h5; done) | skip
        cases h5
        exact h3 _ _ _ h4
    | at_ cs o => exact hc
    | fn f caps => exact hc.elim
    | agg cs => exact hc.elim
    | tup cs => exact hc.elim
  have mapF : ∀ {R R' : PV → Value → Prop} {g : PV → PV} {xs : List PV} {us : List Value}, F2 R xs us → (∀ x u, R x u → R' (g x) u) → F2 R' (xs.map g) us := fun h hr => ⟨by rw [List.length_map]; exact h.1, fun i x u hx hu => by
    rw [List.getElem?_map] at hx
    obtain ⟨y, hy, rfl⟩ := Option.map_eq_some_iff.1 hx
    exact hr _ _ (h.2 i y u hy hu)⟩
  have cF : ∀ v u, CF w (Liv st.h β) C.X st.h β v u → CF w (Liv (mvH k n 0 st.h ++ [AObj.row t τ xs]) (β ++ [(b, c)])) C.X (mvH k n 0 st.h ++ [AObj.row t τ xs]) (β ++ [(b, c)]) (mvVF k n v) u := fun v u hc => by
    have keepF : ∀ v, (∀ f caps, v ≠ .fn f caps) → C1 w (Liv st.h β) C.X st.h β v u → CF w (Liv (mvH k n 0 st.h ++ [AObj.row t τ xs]) (β ++ [(b, c)])) C.X (mvH k n 0 st.h ++ [AObj.row t τ xs]) (β ++ [(b, c)]) (mvV1 k n v) u := fun v _ h => by
      have := c1 v u h
      cases v with
      | own j => simp only [mvV1] at this ⊢; cases hb : Nat.beq j k <;> rw [hb] at this <;> exact this
      | im x => exact this
      | ptr j o => exact this
      | ept j i z o => exact this
      | at_ cs o => exact this
      | fn f caps => exact h.elim
      | agg cs => exact h.elim
      | tup cs => exact h.elim
    cases v with
    | fn f caps => obtain ⟨us, h1, h2⟩ := hc; exact ⟨us, h1, mapF h2 c1⟩
    | im x => exact keepF (.im x) (by intros; intro h; cases h) hc
    | own j => exact keepF (.own j) (by intros; intro h; cases h) hc
    | ptr j o => exact keepF (.ptr j o) (by intros; intro h; cases h) hc
    | ept j i z o => exact keepF (.ept j i z o) (by intros; intro h; cases h) hc
    | at_ cs o => exact keepF (.at_ cs o) (by intros; intro h; cases h) hc
    | agg cs => exact hc.elim
    | tup cs => exact hc.elim
  have c2 : ∀ v u, C2 w (Liv st.h β) C.X st.h β v u → C2 w (Liv (mvH k n 0 st.h ++ [AObj.row t τ xs]) (β ++ [(b, c)])) C.X (mvH k n 0 st.h ++ [AObj.row t τ xs]) (β ++ [(b, c)]) (mvV2 k n v) u := fun v u hc => by
    cases v with
    | agg cs => obtain ⟨us, h1, h2⟩ := hc; exact ⟨us, h1, mapF h2 c1⟩
    | own j =>
      have := cF (.own j) u hc
      simp only [mvVF, mvV1, mvV2] at this ⊢
      cases hb : Nat.beq j k <;> rw [hb] at this <;> exact this
    | im x => exact cF (.im x) u hc
    | ptr j o => exact cF (.ptr j o) u hc
    | ept j i z o => exact cF (.ept j i z o) u hc
    | at_ cs o => exact cF (.at_ cs o) u hc
    | fn f caps => exact cF (.fn f caps) u hc
    | tup cs => exact hc.elim
  have cv : ∀ v u, Cv w (Liv st.h β) C.X st.h β v u → Cv w (Liv (mvH k n 0 st.h ++ [AObj.row t τ xs]) (β ++ [(b, c)])) C.X (mvH k n 0 st.h ++ [AObj.row t τ xs]) (β ++ [(b, c)]) (mvV k n v) u := fun v u hc => by
    cases v with
    | tup cs => obtain ⟨us, h1, h2⟩ := hc; exact ⟨us, h1, mapF h2 c2⟩
    | own j =>
      have := c2 (.own j) u hc
      simp only [mvV, mvVF, mvV1, mvV2] at this ⊢
      cases hb : Nat.beq j k <;> rw [hb] at this <;> exact this
    | im x => exact c2 (.im x) u hc
    | ptr j o => exact c2 (.ptr j o) u hc
    | ept j i z o => exact c2 (.ept j i z o) u hc
    | at_ cs o => exact c2 (.at_ cs o) u hc
    | fn f caps => exact c2 (.fn f caps) u hc
    | agg cs => exact c2 (.agg cs) u hc
  refine ⟨β ++ [(b, c)], S.cl, S.xw, S.step.trans ⟨rfl, rfl, rfl, Nat.le_refl _, fun _ _ _ => rfl, fun i _ h => by rw [hE] at h; exact h, fun j p hj => ?_, ⟨by rw [hlen, hn]; omega, fun j t' τ' xs' hj e' => ?_, fun j hj e' => ?_⟩⟩, ⟨by rw [hlen]; simp [hl], fun i h => h, fun i h => ?_, fun j o hj => ?_, fun i j o o' b1 c1' c2' hi hj li lj bi bj => ?_⟩, S.sz, S.df, fun i v hi => ?_⟩
  · have hjl := (List.getElem?_eq_some_iff.1 hj).1
    rw [hβ j (by omega)]; exact hj
  · rw [hn] at hj
    rcases only j _ e' with ⟨q, _⟩ | ⟨_, _, q⟩ | ⟨_, _, o0, h4, h5⟩
    · omega
    · cases q
    · cases o0 <;> simp only [mvO] at h5 <;> first | (cases h5; done) | skip
      cases h5
      exact .inl ⟨_, h4, rfl⟩
  · rw [hn] at hj
    rw [vi j hj] at e'
    exact e'
  · rw [hE] at h; exact S.heap.nx i h
  · rcases only j o hj with ⟨rfl, rfl⟩ | ⟨_, _, rfl⟩ | ⟨hjn, _, o0, h4, rfl⟩
    · exact ⟨b, c, hβn, hc0, hcm, fun h => by rw [hE]; exact hrow h⟩
    · trivial
    · have ho := S.heap.ok j o0 h4
      cases o0 with
      | dead => trivial
      | vrow t' τ' => obtain ⟨b1, h1⟩ := ho; exact ⟨b1, by rw [hβ j hjn]; exact h1⟩
      | row t' τ' xs' =>
        obtain ⟨b1, c1', q1, q2, q3, q4⟩ := ho
        exact ⟨b1, c1', by rw [hβ j hjn]; exact q1, q2, q3, fun h => by rw [hE]; exact q4 h⟩
      | box t' cs =>
        obtain ⟨b1, c1', us, q1, q2, q3, q4⟩ := ho
        exact ⟨b1, c1', us, by rw [hβ j hjn]; exact q1, q2, mapF q3 c1, q4⟩
  · have back : ∀ j o c', (mvH k n 0 st.h ++ [AObj.row t τ xs])[j]? = some o → live o c' → (β ++ [(b, c)])[j]? = some (b1, c') → ∃ j0 o0, st.h[j0]? = some o0 ∧ live o0 c' ∧ β[j0]? = some (b1, c') ∧ ((j = n ∧ j0 = k) ∨ (j < n ∧ j ≠ k ∧ j0 = j)) := fun j o c' h1 h2 h3 => by
      rcases only j o h1 with ⟨rfl, rfl⟩ | ⟨_, _, rfl⟩ | ⟨hjn, hjk, o0, h4, rfl⟩
      · rw [hβn] at h3
        injection h3 with h3; injection h3 with e1 e2
        subst e1 e2
        exact ⟨k, _, hk, h2, hβk, .inl ⟨rfl, rfl⟩⟩
      · exact h2.elim
      · exact ⟨j, o0, h4, (lv o0 c').1 h2, by rw [← hβ j hjn]; exact h3, .inr ⟨hjn, hjk, rfl⟩⟩
    obtain ⟨i0, p0, q1, q2, q3, q4⟩ := back i o c1' hi li bi
    obtain ⟨j0, p1, r1, r2, r3, r4⟩ := back j o' c2' hj lj bj
    have := S.heap.inj i0 j0 p0 p1 b1 c1' c2' q1 r1 q2 r2 q3 r3
    omega
  · have hi : slot (mvT k n st.t) i = some v := hi
    rw [mvT_slot] at hi
    obtain ⟨v0, h1, rfl⟩ := Option.map_eq_some_iff.1 hi
    obtain ⟨u, h2, h3⟩ := S.tm i v0 h1
    exact ⟨u, h2, cv v0 u h3⟩
theorem mvL_ok : ∀ (l : List Nat) {st : St} {β : List (Nat × Nat)}, SimL C st a w β → ∃ β', SimL C (mvL l st) a w β'
  | [], st, β, S => ⟨β, S⟩
  | k :: r, st, β, S => by
    obtain ⟨β1, S1⟩ := mv1_ok S k
    exact mvL_ok r S1
def evFm (G : Env) (c : Code) (rs : List ResultVar) (AS : Shape) (ah : List Ho) (RS : Shape) (rh : List Ho) (ms : List Nat) (s : HL ah) : Option (HL rh) := match AS.fill (up ah s) with
  | some (ds, os) => bif Nat.beq os.length G.M && Nat.ble ds.length G.N then evC G c (mvL ms ⟨nums 0 ds, os⟩) (fun e st => match e with
    | .normal => (match resV G.tab st rs with
      | some v => (match RS.get G.M st.h [v] with | some l => down rh l | none => G.bad _ 61 none st)
      | none => G.bad _ 62 none st)
    | .ret => (match resV G.tab st rs with
      | some v => (match RS.get G.M st.h [v] with | some l => down rh l | none => G.bad _ 61 none st)
      | none => G.bad _ 62 none st)
    | _ => G.bad _ 63 none st) else G.bad _ 64 none ⟨[], []⟩
  | none => none
theorem gc_ofm (HB : BadOk G) (HT : TabOk P G.tab) (H : CtrOk P G.Γ) (hm : P.follows .mixedOrders = true) {f : FuncId} {fn : Func} {c : Code} (hf : P.funcs[f]? = some fn) (hb : fn.body = some c) (hN : fn.ntmps = G.N) (hc : CodeOk P G c) {AS RS : Shape} {ah rh : List Ho} {sh : HL ah → Option (HL rh)} (ms : List Nat) (hsh : ∀ s, evFm G c fn.results.toList AS ah RS rh ms s = sh s) : GC P f ⟨AS, ah, RS, rh, sh⟩ := fun s r hs ds os hfill d0 h0' hfin => by
  have hs : sh s = some r := hs
  have hs := (hsh s).trans hs
  unfold evFm at hs
  have hfill : AS.fill (up ah s) = some (ds, os) := hfill
  rw [hfill] at hs
  simp only at hs
  cases hb2 : (Nat.beq os.length G.M && Nat.ble ds.length G.N) with
  | false => rw [hb2] at hs; simp only [cond_false] at hs; rw [HB] at hs; cases hs
  | true =>
    rw [hb2] at hs
    simp only [cond_true] at hs
    simp only [Bool.and_eq_true] at hb2
    have hM := Nat.eq_of_beq_eq_true hb2.1
    have hds := Nat.le_of_ble_eq_true hb2.2
    have endQ : ∀ (st : St), (match resV G.tab st fn.results.toList with
      | some v => (match RS.get G.M st.h [v] with | some l => down rh l | none => G.bad _ 61 none st)
      | none => G.bad _ 62 none st) = some r → ∃ v l, resV G.tab st fn.results.toList = some v ∧ RS.get G.M st.h [v] = some l ∧ down rh l = some r := fun st hq => by
      split at hq
      · rename_i v hv
        split at hq
        · rename_i l hl; exact ⟨v, l, hv, hl, hq⟩
        · rw [HB] at hq; cases hq
      · rw [HB] at hq; cases hq
    have hev := evC_ok (r := r) HB HT H hm c _ (mvL ms ⟨nums 0 ds, os⟩) (fun e st => (e = .normal ∨ e = .ret) ∧ ∃ v l, resV G.tab st fn.results.toList = some v ∧ RS.get G.M st.h [v] = some l ∧ down rh l = some r) hc (fun e st hk => by
      cases e with
      | normal => exact ⟨.inl rfl, endQ st hk⟩
      | ret => exact ⟨.inr rfl, endQ st hk⟩
      | _ => (simp only at hk; rw [HB] at hk; cases hk)) hs
    -- the result's shape does not hang on the run
    have key : ∀ w X β args, (∀ b, X b → b < w.heap.size) → HeapOk w (Liv os β) X os β → F2 (Cv w (Liv os β) X os β) ds args → Glb w os β → Calls P f args.toArray w fun ex w' => ∃ d h', RS.fill (up rh r) = some ([d], h') ∧ ∃ u β', ex = .returned u ∧ Step w os β w' h' β' ∧ HeapOk w' (Liv h' β') X h' β' ∧ Cv w' (Liv h' β') X h' β' d u := fun w X β args hX hH hargs hG => by
      refine calls_of_wp hf hb ?_
      have S0 : SimL ⟨w, os, β, G.N, X⟩ ⟨nums 0 ds, os⟩ { tmps := args.toArray ++ Array.replicate (fn.ntmps - args.toArray.size) undef, defers := [] } w β :=
        ⟨⟨hH.len, hG⟩, hX, Step.refl _ _ _, hH, by have := hargs.1; simp; omega, rfl, fun i v hi => by
          obtain ⟨_, h1⟩ := slot_nums ds 0 i v hi
          rw [Nat.sub_zero] at h1
          obtain ⟨u, hu, hR⟩ := hargs.get h1
          refine ⟨u, ?_, hR⟩
          have hl : i < args.length := (List.getElem?_eq_some_iff.1 hu).1
          show (args.toArray ++ Array.replicate (fn.ntmps - args.toArray.size) undef)[i]? = some u
          rw [Array.getElem?_append_left (by simpa using hl)]
          simpa using hu⟩
      obtain ⟨βm, Sm⟩ := mvL_ok ms S0
      have hw := hev ⟨w, os, β, G.N, X⟩ _ w βm rfl hM Sm
      refine wp_mono hw ?_
      rintro e a' w' ⟨st', β', ⟨he, v, l, h1, h2, h3⟩, S'⟩
      unfold Shape.get at h2
      split at h2
      rename_i ρ vr hρ
      cases hb3 : (allV vr && chkρ G.M ρ (st'.h ++ vr)) with
      | false => rw [hb3] at h2; cases h2
      | true =>
        rw [hb3] at h2
        simp only [cond_true] at h2
        simp only [Bool.and_eq_true] at hb3
        obtain ⟨u, hres, hu0⟩ := resV_ok HT S' h1
        obtain ⟨β2, S2, hst2⟩ := S'.virt vr hb3.1
        obtain ⟨ds', os', g1, g2, g3, g4⟩ := drop_ok S2 hM hb3.2 h2
        have hu : Cv w' (Liv (st'.h ++ vr) β2) X (st'.h ++ vr) β2 v u := hu0.keep (fun _ _ _ => rfl) (Nat.le_refl _) (fun b hb hn h => hn (hst2.new b hb h)) (fun _ _ _ h => h) hst2.hle hst2.beta
        have hF := g2 [u] (F2.cons hu F2.nil)
        have hl1 : ds'.length = 1 := by rw [← hF.1]; rfl
        obtain ⟨d, rfl⟩ : ∃ d, ds' = [d] := by
          match ds', hl1 with
          | [d], _ => exact ⟨d, rfl⟩
        have hd : Cv w' (Liv os' (tellβ ρ β2)) X os' (tellβ ρ β2) d u := hF.2 0 d u rfl rfl
        have hup := up_down h3
        rcases he with rfl | rfl
        · exact ⟨S'.df, u, hres, d, os', by rw [hup]; exact g1, u, _, rfl, g4, g3, hd⟩
        · exact ⟨S'.df, u, hres, d, os', by rw [hup]; exact g1, u, _, rfl, g4, g3, hd⟩
    intro w X β args hX hH hargs hG
    refine Calls.mono (key w X β args hX hH hargs hG) fun ex w' hx => ?_
    obtain ⟨d, h', g1, g2⟩ := hx
    have hfin : RS.fill (up rh r) = some ([d0], h0') := hfin
    rw [hfin] at g1
    injection g1 with g1
    injection g1 with e1 e2
    injection e1 with e1
    subst e1 e2
    exact g2
end
end Go.Proofs.YtjffopopheiinaaGreat
end
section
namespace Go.Proofs.YtjffopopheiinaaGreat
open Go.RowKit

section
variable {P : Program} {ops : Array Oper} {md : Region.Mode} {Q : Exit → Act → World → Prop} {S : World → Prop}
theorem wpAnyK_firstI {I : Array Bool → Prop} {n i : Nat} {oi : Oper} {v : Value} {T : Array Bool → Act → World → Prop} (hset : ∀ l i, I l → i ∈ Region.ready md ops l → i < n → I (l.setIfInBounds i true)) (hlt : ∀ l i j, I l → i < n → l.getD i true = false → j ∈ Region.ready md ops l → j < n) (hi : ops[i]? = some oi) (hsel : ∀ (j : Nat) (o : Oper) cs b, ops[j]? = some o → o.op ≠ .select cs b)
    (hQ : ∀ c a w, Q (.panic c) (a.put oi.dst v) w → Q (.panic c) a w) (hin : i < n)
    (hdone : ∀ listed a w, T listed a w → ∀ j ∈ Region.ready md ops listed, n ≤ j) :
    ∀ (f : Nat) (listed : Array Bool) (a : Act) (w : World), I listed →
      (∀ j oj, ops[j]? = some oj → j ≠ i → listed.getD j true = false → (∀ e ∈ oj.after, Region.binds md e = true → e.on ≠ i) → oi.apart ops oj = true) →
      i ∈ Region.ready md ops listed → YieldsIf P ops S oi v a → S w →
      wpAnyK P md ops Q S n T f (listed.setIfInBounds i true) (a.put oi.dst v) w → wpAnyK P md ops Q S n T (f + 1) listed a w := by
  intro f
  induction f with
  | zero =>
    intro listed a w inv _ hr hy hS H
    have hun := (mem_ready.1 hr).1
    refine ⟨fun h => (by rw [h] at hr; cases hr), fun j hj => ?_⟩
    have hjn : j < n := hlt _ _ _ inv hin hun hj
    refine ⟨hjn, ?_⟩
    by_cases hji : j = i
    · subst hji; exact hy.wpOp hi hS ⟨hS, H⟩
    · have := hdone _ _ _ H j (ready_mono hj hji)
      omega
  | succ f ih =>
    intro listed a w inv hfree hr hy hS H
    have hun := (mem_ready.1 hr).1
    refine ⟨fun h => (by rw [h] at hr; cases hr), fun j hj => ?_⟩
    have hjn : j < n := hlt _ _ _ inv hin hun hj
    refine ⟨hjn, ?_⟩
    by_cases hji : j = i
    · subst hji; exact hy.wpOp hi hS ⟨hS, H⟩
    · have h1 := (H.2 j (ready_mono hj hji)).2
      obtain ⟨hjun, oj, hoj, hall⟩ := mem_ready.1 hj
      have hnot : ∀ e ∈ oj.after, Region.binds md e = true → e.on ≠ i := fun e he hb heq => by
        have h1 := hall e he hb
        rw [heq, getD_both hun] at h1
        cases h1
      have h2 := wpOp_putIf hoj (hfree j oj hoj hji hjun hnot) (fun cs b => hsel i oi cs b hi) (fun cs b => hsel j oj cs b hoj) hQ hy h1
      have hfree' : ∀ k ok, ops[k]? = some ok → k ≠ i → (listed.setIfInBounds j true).getD k true = false →
          (∀ e ∈ ok.after, Region.binds md e = true → e.on ≠ i) → oi.apart ops ok = true := fun k ok hk hki hun hno => by
        refine hfree k ok hk hki ?_ hno
        by_cases hjk : j = k
        · subst hjk; exact hjun
        · rw [getD_set_ne true hjk] at hun; exact hun
      refine wpOp_mono (fun a' w' h3 => ⟨h3.2.1, ih (listed.setIfInBounds j true) a' w' (hset _ _ inv hj hjn) hfree' (ready_mono hr (Ne.symm hji)) h3.1 h3.2.1 ?_⟩) h2
      rw [Array.setIfInBounds_comm _ _ hji]
      exact h3.2.2
def seqT (md : Region.Mode) (ops : Array Oper) : List Nat → Array Bool → Bool
  | [], l => decide (Region.ready md ops l = [])
  | t :: r, l => decide (Region.ready md ops l = [t]) && seqT md ops r (l.setIfInBounds t true)
theorem seqT_ready {n : Nat} {tl : List Nat} (htl : ∀ t ∈ tl, n ≤ t) {l : Array Bool} (h : seqT md ops tl l = true) : ∀ j ∈ Region.ready md ops l, n ≤ j := by
  cases tl with
  | nil => intro j hj; rw [of_decide_eq_true h] at hj; cases hj
  | cons t r =>
    intro j hj
    simp only [seqT, Bool.and_eq_true, decide_eq_true_eq] at h
    rw [h.1] at hj
    have : j = t := by simpa using hj
    subst this
    exact htl _ (List.mem_cons_self ..)
def opsAt (l : List Oper) (tl : List Nat) : List Oper := tl.filterMap fun k => l[k]?
theorem wpAny_of_seqT {l : List Oper} {Q' : Exit → Act → World → Prop} : ∀ (tl : List Nat) (listed : Array Bool) (a : Act) (w : World), seqT md l.toArray tl listed = true → (∀ t ∈ tl, t < l.length) → wpList P l.toArray Q' (opsAt l tl) a w → wpAny P md l.toArray Q' tl.length listed a w
  | [], _, _, _, hB, _, h => ⟨of_decide_eq_true hB, h⟩
  | t :: r, listed, a, w, hB, hl, h => by
    have ht := hl t (List.mem_cons_self ..)
    have h0 : l[t]? = some l[t] := List.getElem?_eq_getElem ht
    generalize l[t] = o at h0
    have h1 : l.toArray[t]? = some o := by simpa using h0
    simp only [seqT, Bool.and_eq_true, decide_eq_true_eq] at hB
    refine ⟨fun h1 => (by rw [hB.1] at h1; cases h1), fun i hi => ?_⟩
    rw [hB.1] at hi
    obtain rfl : i = t := by simpa using hi
    have e : opsAt l (i :: r) = o :: opsAt l r := by unfold opsAt; rw [List.filterMap_cons]; simp only [h0]
    rw [e] at h
    unfold wpOp
    simp only [h1]
    unfold wpList at h
    split
    · rename_i hw
      rw [if_pos hw] at h
      exact h.imp (Oper.wp_mono fun a' w' h' => wpAny_of_seqT r _ a' w' hB.2 (fun t' ht' => hl t' (List.mem_cons_of_mem _ ht')) h') id
    · rename_i hw
      rw [if_neg hw] at h
      exact wpAny_of_seqT r _ _ w hB.2 (fun t' ht' => hl t' (List.mem_cons_of_mem _ ht')) h
def trU (md : Region.Mode) (ops : Array Oper) (tl : List Nat) (n : Nat) : Bool → Nat → Tr → Array Bool → Bool
  | _, 0, .done, listed => seqT md ops tl listed
  | _, m + 1, .val k r, listed => decide (k < n) && (match ops[k]? with
     | some o => valOp o.op && (Region.ready md ops listed).contains k && Region.free md ops listed k
     | none => false) && trU md ops tl n true m r (listed.setIfInBounds k true)
  | b, m + 1, .one k r, listed => decide (k < n) && (!b || decide (Region.ready md ops listed = [k])) && trU md ops tl n true m r (listed.setIfInBounds k true)
  | b, m + 1, .alt k r t, listed => decide (k < n) && (!b || decide (Region.ready md ops listed = k :: heads t)) && trU md ops tl n true m r (listed.setIfInBounds k true) && trU md ops tl n false (m + 1) t listed
  | _, _, _, _ => false
theorem alt_allI {I : Array Bool → Prop} {tl : List Nat} {n m : Nat} {T : Act → World → Prop} (hset : ∀ l i, I l → i ∈ Region.ready md ops l → i < n → I (l.setIfInBounds i true)) (IH : ∀ (t : Tr) (listed : Array Bool) (a : Act) (w : World), I listed → trU md ops tl n true m t listed = true → S w → wpTr P ops Q S T t a w →
    wpAnyK P md ops (NoP Q) S n (fun listed' a' w' => seqT md ops tl listed' = true ∧ T a' w') m listed a w) {listed : Array Bool} {a : Act} {w : World} (inv : I listed) (hS : S w) :
    ∀ (t : Tr), trU md ops tl n false (m + 1) t listed = true → wpTr P ops Q S T t a w → ∀ i ∈ heads t, i ∈ Region.ready md ops listed → i < n ∧ wpOp P ops (NoP Q) i (fun a' w' => S w' ∧ wpAnyK P md ops (NoP Q) S n (fun listed' a' w' => seqT md ops tl listed' = true ∧ T a' w') m (listed.setIfInBounds i true) a' w') a w
  | .done, _, _, i, hi, _ => by simp [heads] at hi
  | .val _ _, _, _, i, hi, _ => by simp [heads] at hi
  | .two _ _ _ _, _, _, i, hi, _ => by simp [heads] at hi
  | .one k r, hB, h, i, hi, hr => by
    simp only [trU, Bool.and_eq_true, decide_eq_true_eq] at hB
    obtain ⟨⟨hkn, _⟩, hB'⟩ := hB
    obtain ⟨o, h0, h⟩ := h
    obtain rfl : i = k := by simpa [heads] using hi
    exact ⟨hkn, wpOp_effT h0 hS h fun a' w' hS' h' => ⟨hS', IH r _ _ _ (hset _ _ inv hr hkn) hB' hS' h'⟩⟩
  | .alt k r t, hB, h, i, hi, hr => by
    simp only [trU, Bool.and_eq_true, decide_eq_true_eq] at hB
    obtain ⟨⟨⟨hkn, _⟩, hB'⟩, hBt⟩ := hB
    obtain ⟨⟨o, h0, h⟩, ht⟩ := h
    rcases List.mem_cons.1 (show i ∈ k :: heads t from hi) with rfl | hi
    · exact ⟨hkn, wpOp_effT h0 hS h fun a' w' hS' h' => ⟨hS', IH r _ _ _ (hset _ _ inv hr hkn) hB' hS' h'⟩⟩
    · exact alt_allI hset IH inv hS t hBt ht i hi hr
theorem wpAnyK_treeI {I : Array Bool → Prop} {tl : List Nat} {n : Nat} {T : Act → World → Prop} (hset : ∀ l i, I l → i ∈ Region.ready md ops l → i < n → I (l.setIfInBounds i true)) (hlt : ∀ l i j, I l → i < n → l.getD i true = false → j ∈ Region.ready md ops l → j < n) (hsel : Region.noSelect ops = true) (htl : ∀ t ∈ tl, n ≤ t) :
    ∀ (m : Nat) (t : Tr) (listed : Array Bool) (a : Act) (w : World), I listed → trU md ops tl n true m t listed = true → S w → wpTr P ops Q S T t a w →
    wpAnyK P md ops (NoP Q) S n (fun listed' a' w' => seqT md ops tl listed' = true ∧ T a' w') m listed a w
  | 0, .done, listed, a, w, _, hB, _, h => ⟨by simpa [trU] using hB, h⟩
  | 0, .val _ _, _, _, _, _, hB, _, _ => by simp [trU] at hB
  | 0, .one _ _, _, _, _, _, hB, _, _ => by simp [trU] at hB
  | 0, .two _ _ _ _, _, _, _, _, hB, _, _ => by simp [trU] at hB
  | 0, .alt _ _ _, _, _, _, _, hB, _, _ => by simp [trU] at hB
  | m + 1, .done, _, _, _, _, hB, _, _ => by simp [trU] at hB
  | m + 1, .two _ _ _ _, _, _, _, _, hB, _, _ => by simp [trU] at hB
  | m + 1, .val k r, listed, a, w, inv, hB, hS, h => by
    simp only [trU, Bool.and_eq_true, decide_eq_true_eq] at hB
    obtain ⟨⟨hkn, hB1⟩, hB'⟩ := hB
    obtain ⟨o, h0, h⟩ := h
    simp only [h0, Bool.and_eq_true] at hB1
    have hr' : k ∈ Region.ready md ops listed := by simpa using hB1.1.2
    obtain ⟨v, hy, hK⟩ : ∃ v, YieldsIf P ops S o v a ∧ wpTr P ops Q S T r (a.put o.dst v) w := by
      by_cases hw : Region.wanted o (yielded ops a.tmps) = true
      · simp only [hw, if_true] at h
        exact yields_of_quiet hB1.1.1 hw h
      · simp only [hw] at h
        exact ⟨undef, .inr ⟨by simpa using hw, rfl⟩, h⟩
    exact wpAnyK_firstI hset hlt h0 (Region.noSelect_spec hsel) (fun _ _ _ h => h) hkn (fun listed' a' w' hL => seqT_ready htl hL.1) m listed a w inv (Region.free_spec h0 hB1.2) hr' hy hS
      (wpAnyK_treeI hset hlt hsel htl m r _ _ _ (hset _ _ inv hr' hkn) hB' hS hK)
  | m + 1, .one k r, listed, a, w, inv, hB, hS, h => by
    simp only [trU, Bool.and_eq_true, decide_eq_true_eq, Bool.not_true, Bool.false_or] at hB
    obtain ⟨⟨hkn, hB1⟩, hB'⟩ := hB
    obtain ⟨o, h0, h⟩ := h
    have hr' : k ∈ Region.ready md ops listed := by rw [hB1]; simp
    refine ⟨by rw [hB1]; simp, fun i hi => ?_⟩
    rw [hB1] at hi
    obtain rfl : i = k := by simpa using hi
    exact ⟨hkn, wpOp_effT h0 hS h fun a' w' hS' h' => ⟨hS', wpAnyK_treeI hset hlt hsel htl m r _ _ _ (hset _ _ inv hr' hkn) hB' hS' h'⟩⟩
  | m + 1, .alt k r t, listed, a, w, inv, hB, hS, h => by
    have hB0 : trU md ops tl n false (m + 1) (.alt k r t) listed = true := by
      simp only [trU, Bool.and_eq_true, decide_eq_true_eq, Bool.not_false, Bool.true_or, true_and] at hB ⊢
      exact ⟨⟨⟨hB.1.1.1, trivial⟩, hB.1.2⟩, hB.2⟩
    simp only [trU, Bool.and_eq_true, decide_eq_true_eq, Bool.not_true, Bool.false_or] at hB
    obtain ⟨⟨⟨_, hB1⟩, _⟩, _⟩ := hB
    refine ⟨by rw [hB1]; simp, fun i hi => ?_⟩
    exact alt_allI hset (fun t listed a w => wpAnyK_treeI hset hlt hsel htl m t listed a w) inv hS (.alt k r t) hB0 h i (by rw [hB1] at hi; exact hi) hi
structure InvU (md : Region.Mode) (ops : Array Oper) (n : Nat) (l0 listed : Array Bool) : Prop where
  size : listed.size = ops.size
  closed : ∀ j oj, ops[j]? = some oj → listed.getD j false = true → ∀ e ∈ oj.after, Region.binds md e = true → listed.getD e.on false = true
  more : ∀ j, l0.getD j false = true → listed.getD j false = true
  tail : ∀ t, n ≤ t → l0.getD t true = false → listed.getD t true = false
def sinkU (md : Region.Mode) (ops : Array Oper) (n : Nat) (l0 : Array Bool) : Bool :=
  ((List.range n).all fun i => l0.getD i true || (List.range (n + 1)).any fun j => decide (i < j) && Region.waitsFor md ops j i) && ((List.range ops.size).all fun t => decide (t ≤ n) || l0.getD t true || (List.range t).any fun t' => decide (n ≤ t') && !l0.getD t' true && Region.waitsFor md ops t t')
theorem InvU.waits {n : Nat} {l0 listed : Array Bool} (hs : sinkU md ops n l0 = true) (h0 : l0.size = ops.size) (inv : InvU md ops n l0 listed) (hn : n ≤ ops.size) :
    ∀ (d i : Nat), n - i = d → i < n → listed.getD i true = false → ∀ t, n ≤ t → t ∉ Region.ready md ops listed := by
  simp only [sinkU, Bool.and_eq_true] at hs
  obtain ⟨hs1, hs2⟩ := hs
  have both : ∀ j, j < ops.size → l0.getD j true = true → listed.getD j false = true := fun j hj h => inv.more j (by
    have : j < l0.size := by omega
    simpa [Array.getD_eq_getD_getElem?, this] using h)
  intro d
  induction d using Nat.strongRecOn with
  | _ d ih =>
    intro i hd hi hun t ht hr
    obtain ⟨htun, ot, hot, hall⟩ := mem_ready.1 hr
    have htlt : t < ops.size := (Array.getElem?_eq_some_iff.1 hot).1
    by_cases htn : t = n
    · subst htn
      have h1 := List.all_eq_true.1 hs1 i (List.mem_range.2 hi)
      simp only [Bool.or_eq_true] at h1
      rcases h1 with h1 | h1
      · have h2 := both i (by omega) h1
        rw [getD_both hun] at h2
        cases h2
      · obtain ⟨j, hj, hj2⟩ := List.any_eq_true.1 h1
        simp only [Bool.and_eq_true, decide_eq_true_eq] at hj2
        obtain ⟨oj, hoj, e, he, hb, hon⟩ := Region.waitsFor_spec hj2.2
        have hjle : j ≤ t := by have := List.mem_range.1 hj; omega
        by_cases hjt : j = t
        · subst hjt
          have : oj = ot := Option.some.inj (hoj.symm.trans hot)
          subst this
          have h2 := hall e he hb
          rw [hon, getD_both hun] at h2
          cases h2
        · cases hl : listed.getD j false with
          | true =>
            have h2 := inv.closed j oj hoj hl e he hb
            rw [hon, getD_both hun] at h2
            cases h2
          | false =>
            have hjs : j < listed.size := by rw [inv.size]; omega
            exact ih (t - j) (by omega) j rfl (by omega) (getD_in hjs hl) t (Nat.le_refl _) hr
    · have h1 := List.all_eq_true.1 hs2 t (List.mem_range.2 htlt)
      simp only [Bool.or_eq_true, decide_eq_true_eq] at h1
      rcases h1 with (h1 | h1) | h1
      · omega
      · have h2 := both t htlt h1
        rw [getD_both htun] at h2
        cases h2
      · obtain ⟨t', ht', h2⟩ := List.any_eq_true.1 h1
        simp only [Bool.and_eq_true, decide_eq_true_eq, Bool.not_eq_true'] at h2
        obtain ⟨o', ho', e, he, hb, hon⟩ := Region.waitsFor_spec h2.2
        have : o' = ot := Option.some.inj (ho'.symm.trans hot)
        subst this
        have h3 := hall e he hb
        rw [hon, getD_both (inv.tail t' h2.1.1 h2.1.2)] at h3
        cases h3
theorem InvU.set {n : Nat} {l0 listed : Array Bool} (inv : InvU md ops n l0 listed) {i : Nat} (hi : i ∈ Region.ready md ops listed) (hin : i < n) : InvU md ops n l0 (listed.setIfInBounds i true) := by
  obtain ⟨_, oi, hoi, hall⟩ := mem_ready.1 hi
  refine ⟨by simp [inv.size], fun j oj hj hl e he hb => ?_, fun j hj => getD_set_true (inv.more j hj), fun t ht ht' => by rw [getD_set_ne true (by omega)]; exact inv.tail t ht ht'⟩
  by_cases hij : i = j
  · subst hij
    have : oj = oi := Option.some.inj (hj.symm.trans hoi)
    subst this
    exact getD_set_true (hall e he hb)
  · rw [getD_set_ne false hij] at hl
    exact getD_set_true (inv.closed j oj hj hl e he hb)
def hoistB (md : Region.Mode) (ops : Array Oper) : List Nat → Array Bool → Bool
  | [], _ => true
  | k :: r, l => decide (k < ops.size) && (Region.ready md ops l).contains k && Region.free md ops l k && hoistB md ops r (l.setIfInBounds k true)
def hoisted : List Nat → Array Bool → Array Bool
  | [], l => l
  | k :: r, l => hoisted r (l.setIfInBounds k true)
def allU (ops : Array Oper) (U : List Nat) (n : Nat) (tl : List Nat) (t : Tr) : Bool :=
  Region.noSelect ops && hoistB .any ops U (Array.replicate ops.size false) && sinkU .any ops n (hoisted U (Array.replicate ops.size false)) && Nat.ble n ops.size && Nat.ble (U.length + tl.length) ops.size && tl.all (fun t => Nat.ble n t && Nat.blt t ops.size) && trU .any ops tl n true (ops.size - U.length - tl.length) t (hoisted U (Array.replicate ops.size false))
theorem hoisted_size : ∀ (U : List Nat) (l : Array Bool), (hoisted U l).size = l.size
  | [], l => rfl
  | k :: r, l => by simp only [hoisted]; rw [hoisted_size r]; simp
theorem hoisted_closed : ∀ (U : List Nat) (l : Array Bool), hoistB md ops U l = true → (∀ j oj, ops[j]? = some oj → l.getD j false = true → ∀ e ∈ oj.after, Region.binds md e = true → l.getD e.on false = true) → (∀ j oj, ops[j]? = some oj → (hoisted U l).getD j false = true → ∀ e ∈ oj.after, Region.binds md e = true → (hoisted U l).getD e.on false = true)
  | [], l, _, h => h
  | k :: r, l, hB, h => by
    simp only [hoistB, Bool.and_eq_true, decide_eq_true_eq] at hB
    obtain ⟨⟨⟨hk, hr⟩, _⟩, hB⟩ := hB
    have hr : k ∈ Region.ready md ops l := by simpa using hr
    obtain ⟨_, ok, hok, hall⟩ := mem_ready.1 hr
    refine hoisted_closed r _ hB fun j oj hj hl e he hb => ?_
    by_cases hij : k = j
    · subst hij
      have : oj = ok := Option.some.inj (hj.symm.trans hok)
      subst this
      exact getD_set_true (hall e he hb)
    · rw [getD_set_ne false hij] at hl
      exact getD_set_true (h j oj hj hl e he hb)
end
def evRU (G : Env) (ops : List Oper) (U : List Nat) (tl : List Nat) (ks : List Nat) (F FX FR : Frame) (p : List (Nat × Bool)) (s : HL F.hs) : Option (HL FX.hs ⊕ HL FR.hs) := evLp G ops [] (picked ops (U.map fun k => (k, true))) (F.st s) fun kn st1 => bif boxes st1.h ks then evP G ops ks kn (picked ops p) ⟨st1.t, killB ks st1.h⟩ st1 fun kn' st' => evL G ops kn' (opsAt ops tl) st' fun st2 => (match FX.get G.M st2 with | some x => some (.inl x) | none => G.bad _ 52 none st2) else G.bad _ 41 none st1
section
variable {P : Program} {G : Env} {C : Ctx} {st : St} {a : Act} {w : World} {β : List (Nat × Nat)}
theorem kill_plan' {C : Ctx} {st : St} {a : Act} {w : World} {β : List (Nat × Nat)} {ks : List Nat} (S : SimL C st a w β) (hb : boxes st.h ks = true) : PlanR ks (Liv st.h β) ⟨st.t, killB ks st.h⟩ w β st w β := by
  have hbx := boxes_ok hb
  refine ⟨Stab.refl _ _ _ _, fun _ _ h => h, fun _ _ h => h, (hle_kill ks st.h).2, fun k hk => ?_⟩
  have hbk := hbx k hk
  have hkl : ∃ t cs, st.h[k]? = some (.box t cs) := by
    cases e : st.h[k]? with
    | none => simp [isBox, e] at hbk
    | some o => cases o <;> first | exact ⟨_, _, rfl⟩ | simp [isBox, e] at hbk
  obtain ⟨t, cs, hk'⟩ := hkl
  refine ⟨by rw [S.heap.len]; exact (List.getElem?_eq_some_iff.1 hk').1, fun b c hβ => ⟨⟨k, _, c, hk', trivial, hβ⟩, fun ⟨j, o, c', h1, h2, h3⟩ => ?_⟩⟩
  have hdead := killB_at hk hbk
  rcases killB_cases h1 with e1 | ⟨rfl, _⟩ | rfl
  · have := S.heap.inj j k o _ b c' c e1 hk' h2 trivial h3 hβ
    subst this
    rw [hdead] at h1
    injection h1 with h1
    subst h1
    exact h2
  · exact h2
  · exact h2
theorem hoist_ok {ρ : Type} (HB : BadOk G) (HT : TabOk P G.tab) {ops : List Oper} {K : List (Nat × Bool) → St → Option ρ} {r : ρ} {Q : Exit → Act → World → Prop} (hN : C.N = G.N) (hsel : Region.noSelect ops.toArray = true) (hQ : ∀ c a w, Q (.panic c) a w → False) {f : Nat} : ∀ (U : List Nat) (listed : Array Bool) (kn : List (Nat × Bool)) (st : St) (a : Act), hoistB .any ops.toArray U listed = true → evLp G ops kn (picked ops (U.map fun k => (k, true))) st K = some r → SimL C st a w β →
    (∀ kn st a, K kn st = some r → SimL C st a w β → wpAny P .any ops.toArray Q f (hoisted U listed) a w) → wpAny P .any ops.toArray Q (U.length + f) listed a w
  | [], listed, kn, st, a, _, h, S, hK => by
    rw [List.length_nil, Nat.zero_add]
    exact hK kn st a h S
  | k :: U, listed, kn, st, a, hB, h, S, hK => by
    simp only [hoistB, Bool.and_eq_true, decide_eq_true_eq] at hB
    obtain ⟨⟨⟨hk, hr⟩, hf⟩, hB⟩ := hB
    have hkl : k < ops.length := by simpa using hk
    have hk0 : ops[k]? = some ops[k] := List.getElem?_eq_getElem hkl
    generalize ops[k] = o at hk0
    have hk' : ops.toArray[k]? = some o := by simpa using hk0
    rw [List.map_cons, picked_cons hk0] at h
    obtain ⟨v, kn', st', hy, hx, S'⟩ := evA_val HB HT hN (show evA G ops kn o true st (fun kn' s => evLp G ops kn' (picked ops (U.map fun k => (k, true))) s K) = some r from h) S
    rw [List.length_cons, show U.length + 1 + f = (U.length + f) + 1 by omega]
    exact wpAny_first hk' (Region.noSelect_spec hsel) (fun c a w h => (hQ c _ w h).elim) _ listed a w (Region.free_spec hk' hf) (by simpa using hr) hy (hoist_ok HB HT hN hsel hQ U _ kn' st' _ hB hx S' hK)
theorem reg_okU (HB : BadOk G) (HT : TabOk P G.tab) (H : CtrOk P G.Γ) (hm : P.follows .mixedOrders = true) {id : Nat} {ops : Array Oper} {U : List Nat} {n : Nat} {tl : List Nat} {ks : List Nat} {t : Tr} {F : Frame} {eid : Nat} {FX FR : Frame} {sh : HL F.hs → Option (HL FX.hs ⊕ HL FR.hs)} (hB : allU ops U n tl t = true) (hi : inT ops.toList t = true)
    (hs : allP (paths t) fun p => ∀ s, evRU G ops.toList U tl ks F FX FR p s = sh s) : RegOk P G.M G.N id ops ⟨F, eid, FX, FR, sh⟩ := fun s x hx Q hQ C a w β hN hM S => by
  have hx : sh s = some (.inl x) := hx
  have hs := allP_ok hs
  have h : ∀ p ∈ paths t, evRU G ops.toList U tl ks F FX FR p s = some (.inl x) := fun p hp => (hs p hp s).trans hx
  have S : SimL C (F.st s) a w β := S
  have e : ops = ops.toList.toArray := by simp
  show (Code.region id ops true).wp P (conc C Q) a w
  rw [e] at hB ⊢
  generalize ops.toList = l at *
  simp only [allU, Bool.and_eq_true] at hB
  obtain ⟨⟨⟨⟨⟨⟨hsel, hho⟩, hsink⟩, hn⟩, hul⟩, htl⟩, htr⟩ := hB
  have hn := Nat.le_of_ble_eq_true hn
  have hul := Nat.le_of_ble_eq_true hul
  have htl : ∀ t ∈ tl, n ≤ t ∧ t < l.length := fun t ht => by
    have := List.all_eq_true.1 htl t ht
    simp only [Bool.and_eq_true] at this
    exact ⟨Nat.le_of_ble_eq_true this.1, by simpa using Nat.blt_eq.mp this.2⟩
  let Q1 : AQ := fun e st2 => e = .normal ∧ FX.get G.M st2 = some x
  have hQ1 : ∀ c a w, conc C Q1 (.panic c) a w → False := fun c a w ⟨_, _, ⟨h, _⟩, _⟩ => by cases h
  refine wp_mono (Q := conc C Q1) ?_ ?_
  rotate_left
  · rintro e a2 w2 ⟨st2, β2, ⟨rfl, hq⟩, S2⟩
    obtain ⟨β3, S3⟩ := FX.imp hq C a2 w2 β2 hM S2
    exact ⟨_, β3, hQ, S3⟩
  refine wp_region_any hm ?_
  have hlen : l.toArray.size = U.length + ((l.toArray.size - U.length - tl.length) + tl.length) := by omega
  -- what comes first leads to one frame
  have first : ∀ (V : List Nat) (kn : List (Nat × Bool)) (st : St), (∀ p ∈ paths t, evLp G l kn (picked l (V.map fun k => (k, true))) st (fun kn st1 => bif boxes st1.h ks then evP G l ks kn (picked l p) ⟨st1.t, killB ks st1.h⟩ st1 fun kn' st' => evL G l kn' (opsAt l tl) st' fun st2 => (match FX.get G.M st2 with | some x => some (Sum.inl x : HL FX.hs ⊕ HL FR.hs) | none => G.bad _ 52 none st2) else G.bad _ 41 none st1) = some (.inl x)) →
      ∃ y : List (Nat × Bool) × St, evLp G l kn (picked l (V.map fun k => (k, true))) st (fun a b => some (a, b)) = some y ∧ ∀ p ∈ paths t, (bif boxes y.2.h ks then evP G l ks y.1 (picked l p) ⟨y.2.t, killB ks y.2.h⟩ y.2 fun kn' st' => evL G l kn' (opsAt l tl) st' fun st2 => (match FX.get G.M st2 with | some x => some (Sum.inl x : HL FX.hs ⊕ HL FR.hs) | none => G.bad _ 52 none st2) else G.bad _ 41 none y.2) = some (.inl x) := by
    intro V
    have bind : ∀ {ρ : Type} (q : List (Oper × Bool)) (kn : List (Nat × Bool)) (st : St) (K : List (Nat × Bool) → St → Option ρ), evLp G l kn q st K = (evLp G l kn q st (fun a b => some (a, b))).bind fun y => K y.1 y.2 := by
      intro ρ q
      induction q with
      | nil => intro kn st K; rfl
      | cons o q ih =>
        intro kn st K
        obtain ⟨o, f⟩ := o
        exact evA_bind HB fun kn' s => ih kn' s K
    intro kn st hp
    have e := fun p => bind (picked l (V.map fun k => (k, true))) kn st (fun kn st1 => bif boxes st1.h ks then evP G l ks kn (picked l p) ⟨st1.t, killB ks st1.h⟩ st1 fun kn' st' => evL G l kn' (opsAt l tl) st' fun st2 => (match FX.get G.M st2 with | some x => some (Sum.inl x : HL FX.hs ⊕ HL FR.hs) | none => G.bad _ 52 none st2) else G.bad _ 41 none st1)
    generalize evLp G l kn (picked l (V.map fun k => (k, true))) st (fun a b => some (a, b)) = z at e
    cases z with
    | none =>
      obtain ⟨p, hp'⟩ := List.exists_mem_of_ne_nil _ (paths_ne t)
      have := hp p hp'
      rw [e] at this
      cases this
    | some y => exact ⟨y, rfl, fun p hp' => by have := hp p hp'; rw [e] at this; exact this⟩
  obtain ⟨y, hy, hyp⟩ := first U [] (F.st s) h
  suffices hgo : wpAny P .any l.toArray (conc C Q1) (U.length + ((l.toArray.size - U.length - tl.length) + tl.length)) (Array.replicate l.toArray.size false) a w.drew by rw [← hlen] at hgo; exact hgo
  refine hoist_ok (K := fun a b => some (a, b)) (r := y) HB HT hN hsel hQ1 U (Array.replicate l.toArray.size false) [] (F.st s) a hho hy S.drew fun kn st1 a1 hk S1 => ?_
  injection hk with hk
  subst hk
  have hh : ∀ p ∈ paths t, boxes st1.h ks = true ∧ evP G l ks kn (picked l p) ⟨st1.t, killB ks st1.h⟩ st1 (fun kn' st' => evL G l kn' (opsAt l tl) st' fun st2 => (match FX.get G.M st2 with | some x => some (Sum.inl x : HL FX.hs ⊕ HL FR.hs) | none => G.bad _ 52 none st2)) = some (.inl x) := fun p hp => by
    have h1 := hyp p hp
    simp only at h1
    cases hb : boxes st1.h ks with
    | false => rw [hb] at h1; simp only [cond_false] at h1; rw [HB] at h1; cases h1
    | true => rw [hb] at h1; exact ⟨rfl, h1⟩
  obtain ⟨p0, hp0⟩ := List.exists_mem_of_ne_nil _ (paths_ne t)
  have hb := (hh p0 hp0).1
  have hl0 : (hoisted U (Array.replicate l.toArray.size false)).size = l.toArray.size := by rw [hoisted_size]; simp
  have inv0 : InvU .any l.toArray n (hoisted U (Array.replicate l.toArray.size false)) (hoisted U (Array.replicate l.toArray.size false)) :=
    ⟨hl0, hoisted_closed U _ hho (fun j oj _ hl => by rw [getD_replicate_false] at hl; cases hl), fun j h => h, fun t _ h => h⟩
  have hset : ∀ l' i, InvU .any l.toArray n (hoisted U (Array.replicate l.toArray.size false)) l' → i ∈ Region.ready .any l.toArray l' → i < n → InvU .any l.toArray n (hoisted U (Array.replicate l.toArray.size false)) (l'.setIfInBounds i true) := fun l' i h1 h2 h3 => h1.set h2 h3
  have hlt : ∀ l' i j, InvU .any l.toArray n (hoisted U (Array.replicate l.toArray.size false)) l' → i < n → l'.getD i true = false → j ∈ Region.ready .any l.toArray l' → j < n := fun l' i j h1 h2 h3 h4 => by
    rcases Nat.lt_or_ge j n with h | h
    · exact h
    · exact absurd h4 (h1.waits hsink hl0 hn _ i rfl h2 h3 j h)
  let Q2 : AQ := Q1
  have evL_ok1 : ∀ {kn st'}, evL G l kn (opsAt l tl) st' (fun st2 => (match FX.get G.M st2 with | some x => some (Sum.inl x : HL FX.hs ⊕ HL FR.hs) | none => G.bad _ 52 none st2)) = some (.inl x) → awl P G.M G.N l.toArray Q1 (opsAt l tl) st' := fun {kn st'} hk =>
    evL_ok HB HT H (Q := Q1) (fun st2 h2 => by
      split at h2
      · rename_i y hy
        injection h2 with h2
        injection h2 with h2
        subst h2
        exact ⟨rfl, hy⟩
      · rw [HB] at h2; cases h2) _ kn st' hk
  have hW := wpAnyK_treeI (P := P) (md := .any) (ops := l.toArray) (Q := conc C Q1) (S := fun w' => Stab w.drew w' (Liv st1.h β) (killB ks st1.h) β) (T := fun a' w' => wpList P l.toArray (conc C Q1) (opsAt l tl) a' w') hset hlt hsel (fun t ht => (htl t ht).1) (l.toArray.size - U.length - tl.length) t (hoisted U (Array.replicate l.toArray.size false)) a1 w.drew inv0 htr (Stab.refl _ _ _ _)
    (evT_ok HB HT H hN (fun kn st' a' w' β' hK S' => evL_ok1 hK C a' w' β' hN hM S') t kn ⟨st1.t, killB ks st1.h⟩ st1 a1 w.drew β hi (fun p hp => (hh p hp).2) rfl (S1.kill ks) S1 (kill_plan' S1 hb))
  exact wpAny_of_headK NoP.le (fun listed a' w' hL => wpAny_of_seqT tl listed a' w' hL.1 (fun t ht => (htl t ht).2) hL.2) _ _ _ _ hW
end
end Go.Proofs.YtjffopopheiinaaGreat
end
section
namespace Go.Proofs.YtjffopopheiinaaGreat
open Go.RowKit
theorem info_parts {P : Program} {e : TypeId} {z : Value} {size bytes : Nat} (h : (P.info? e).map (fun i => (i.zero, i.size, i.bytes)) = some (some z, size, bytes)) : ∃ i, P.info? e = some i ∧ i.zero = some z ∧ i.size = size ∧ i.bytes = bytes := by
  obtain ⟨i, h1, h2⟩ := Option.map_eq_some_iff.1 h
  simp only [Prod.mk.injEq] at h2
  exact ⟨i, h1, h2.1, h2.2.1, h2.2.2⟩
theorem tok2 : TOk Tryz.prog 2 ⟨false, 1, [], none, some [.int .i64 0], 0, some .i64, []⟩ := ⟨Tryz.sizeOf2, Tryz.isAgg2, (fun _ => rfl), (fun _ _ _ h => by simp at h), (fun _ _ _ h => by cases h), (fun _ _ _ _ _ h => by cases h), (fun zs h => by cases h; exact ⟨_, Tryz.zeroValue2, rfl, by simp [Value.oneCell']⟩), (fun _ _ h => by cases h), (fun h => by cases h), (fun _ h => by cases h; exact Tryz.runUnderlying2), (fun h => by cases h), (fun h => by cases h), (fun h => by cases h), (fun _ _ _ _ _ h => by simp at h)⟩
theorem tok3 : TOk Tryz.prog 3 ⟨false, 1, [], none, some [.int .i64 0], 0, some .i64, []⟩ := ⟨Tryz.sizeOf3, Tryz.isAgg3, (fun _ => rfl), (fun _ _ _ h => by simp at h), (fun _ _ _ h => by cases h), (fun _ _ _ _ _ h => by cases h), (fun zs h => by cases h; exact ⟨_, Tryz.zeroValue3, rfl, by simp [Value.oneCell']⟩), (fun _ _ h => by cases h), (fun h => by cases h), (fun _ h => by cases h; exact Tryz.runUnderlying3), (fun h => by cases h), (fun h => by cases h), (fun h => by cases h), (fun _ _ _ _ _ h => by simp at h)⟩
theorem tok4 : TOk Tryz.prog 4 ⟨false, 1, [], none, some [.bool false], 1, none, []⟩ := ⟨Tryz.sizeOf4, Tryz.isAgg4, (fun _ => rfl), (fun _ _ _ h => by simp at h), (fun _ _ _ h => by cases h), (fun _ _ _ _ _ h => by cases h), (fun zs h => by cases h; exact ⟨_, Tryz.zeroValue4, rfl, by simp [Value.oneCell']⟩), (fun _ _ h => by cases h), (fun _ => Tryz.underlying4), (fun _ h => by cases h), (fun h => by cases h), (fun h => by cases h), (fun h => by cases h), (fun _ _ _ _ _ h => by simp at h)⟩
theorem tok5 : TOk Tryz.prog 5 ⟨false, 1, [], none, some [.int .u8 0], 0, some .u8, []⟩ := ⟨Tryz.sizeOf5, Tryz.isAgg5, (fun _ => rfl), (fun _ _ _ h => by simp at h), (fun _ _ _ h => by cases h), (fun _ _ _ _ _ h => by cases h), (fun zs h => by cases h; exact ⟨_, Tryz.zeroValue5, rfl, by simp [Value.oneCell']⟩), (fun _ _ h => by cases h), (fun h => by cases h), (fun _ h => by cases h; exact Tryz.runUnderlying5), (fun h => by cases h), (fun h => by cases h), (fun h => by cases h), (fun _ _ _ _ _ h => by simp at h)⟩
theorem tok9 : TOk Tryz.prog 9 ⟨false, 1, [], none, some [.string ⟨#[]⟩], 2, none, []⟩ := ⟨Tryz.sizeOf9, Tryz.isAgg9, (fun _ => rfl), (fun _ _ _ h => by simp at h), (fun _ _ _ h => by cases h), (fun _ _ _ _ _ h => by cases h), (fun zs h => by cases h; exact ⟨_, Tryz.zeroValue9, rfl, by simp [Value.oneCell']⟩), (fun _ _ h => by cases h), (fun h => by cases h), (fun _ h => by cases h), (fun _ => Tryz.underlying9), (fun h => by cases h), (fun h => by cases h), (fun _ _ _ _ _ h => by simp at h)⟩
theorem tok21 : TOk Tryz.prog 21 ⟨false, 1, [], none, some [.int .i32 0], 0, some .i32, []⟩ := ⟨Tryz.sizeOf21, Tryz.isAgg21, (fun _ => rfl), (fun _ _ _ h => by simp at h), (fun _ _ _ h => by cases h), (fun _ _ _ _ _ h => by cases h), (fun zs h => by cases h; exact ⟨_, Tryz.zeroValue21, rfl, by simp [Value.oneCell']⟩), (fun _ _ h => by cases h), (fun h => by cases h), (fun _ h => by cases h; exact Tryz.runUnderlying21), (fun h => by cases h), (fun h => by cases h), (fun h => by cases h), (fun _ _ _ _ _ h => by simp at h)⟩
theorem inf22 : (Tryz.prog.info? 5).map (fun i => (i.zero, i.size, i.bytes)) = some (some (.int .u8 0), 1, 1) := by kernel_rfl
theorem tok22 : TOk Tryz.prog 22 ⟨false, 1, [], some (5, .u8, 1), some [.slice none 0 0], 0, none, []⟩ := ⟨Tryz.sizeOf22, Tryz.isAgg22, (fun _ => rfl), (fun _ _ _ h => by simp at h), (fun _ _ _ h => by cases h; exact ⟨Tryz.underlying22, by obtain ⟨i, h1, h2, h3, h4⟩ := info_parts inf22; exact ⟨i, _, h1, h2, h3, h4, rfl⟩, by decide⟩), (fun _ _ _ inf z h hi hz => by cases h; obtain ⟨i, h1, h2, h3, h4⟩ := info_parts inf22; rw [h1] at hi; cases hi; rw [h2] at hz; cases hz; rfl), (fun zs h => by cases h; exact ⟨_, Tryz.zeroValue22, rfl, by simp [Value.oneCell']⟩), (fun _ _ h => by cases h), (fun h => by cases h), (fun _ h => by cases h), (fun h => by cases h), (fun h => by cases h), (fun h => by cases h), (fun _ _ _ _ _ h => by simp at h)⟩
theorem inf23 : (Tryz.prog.info? 75).map (fun i => (i.zero, i.size, i.bytes)) = some (some (.agg #[.int .i64 0, .int .i64 0, .int .i64 0]), 3, 24) := by kernel_rfl
theorem tok23 : TOk Tryz.prog 23 ⟨false, 1, [], some (75, .lk, 24), some [.slice none 0 0], 0, none, []⟩ := ⟨Tryz.sizeOf23, Tryz.isAgg23, (fun _ => rfl), (fun _ _ _ h => by simp at h), (fun _ _ _ h => by cases h; exact ⟨Tryz.underlying23, by obtain ⟨i, h1, h2, h3, h4⟩ := info_parts inf23; exact ⟨i, _, h1, h2, h3, h4, rfl⟩, by decide⟩), (fun _ _ _ inf z h hi hz => by cases h; obtain ⟨i, h1, h2, h3, h4⟩ := info_parts inf23; rw [h1] at hi; cases hi; rw [h2] at hz; cases hz; rfl), (fun zs h => by cases h; exact ⟨_, Tryz.zeroValue23, rfl, by simp [Value.oneCell']⟩), (fun _ _ h => by cases h), (fun h => by cases h), (fun _ h => by cases h), (fun h => by cases h), (fun h => by cases h), (fun h => by cases h), (fun _ _ _ _ _ h => by simp at h)⟩
theorem tok24 : TOk Tryz.prog 24 ⟨true, 2, [(0, 1), (1, 1)], none, some [.int .i64 0, .slice none 0 0], 0, none, [false, false]⟩ := ⟨Tryz.sizeOf24, Tryz.isAgg24, (fun h => by cases h), (fun j off fs h => match j, h with | 0, h => by injection h with h; injection h with h1 h2; subst h1 h2; exact ⟨_, _, Tryz.runUnderlying24, rfl, rfl, Tryz.sizeOf3, by decide⟩ | 1, h => by injection h with h; injection h with h1 h2; subst h1 h2; exact ⟨_, _, Tryz.runUnderlying24, rfl, rfl, Tryz.sizeOf23, by decide⟩ | _ + 2, h => by simp at h), (fun _ _ _ h => by cases h), (fun _ _ _ _ _ h => by cases h), (fun zs h => by cases h; exact ⟨_, Tryz.zeroValue24, rfl, by simp [Value.oneCell']⟩), (fun _ _ _ => ⟨_, Tryz.runUnderlying24, fun w => by simp [Tryz.sizeOf23, Tryz.sizeOf3]⟩), (fun h => by cases h), (fun _ h => by cases h), (fun h => by cases h), (fun h => by cases h), (fun h => by cases h), (fun j off fs b h h2 => match j, h, h2 with | 0, h, h2 => by injection h with h; injection h with h1 h3; subst h1 h3; injection h2 with h2; subst h2; exact ⟨_, _, Tryz.runUnderlying24, rfl, rfl, Tryz.isAgg3, Tryz.sizeOf3⟩ | 1, h, h2 => by injection h with h; injection h with h1 h3; subst h1 h3; injection h2 with h2; subst h2; exact ⟨_, _, Tryz.runUnderlying24, rfl, rfl, Tryz.isAgg23, Tryz.sizeOf23⟩ | _ + 2, h, _ => by simp at h)⟩
theorem tok25 : TOk Tryz.prog 25 ⟨true, 2, [(0, 1), (1, 1)], none, some [.int .i64 0, .slice none 0 0], 0, none, [false, false]⟩ := ⟨Tryz.sizeOf25, Tryz.isAgg25, (fun h => by cases h), (fun j off fs h => match j, h with | 0, h => by injection h with h; injection h with h1 h2; subst h1 h2; exact ⟨_, _, Tryz.runUnderlying25, rfl, rfl, Tryz.sizeOf3, by decide⟩ | 1, h => by injection h with h; injection h with h1 h2; subst h1 h2; exact ⟨_, _, Tryz.runUnderlying25, rfl, rfl, Tryz.sizeOf23, by decide⟩ | _ + 2, h => by simp at h), (fun _ _ _ h => by cases h), (fun _ _ _ _ _ h => by cases h), (fun zs h => by cases h; exact ⟨_, Tryz.zeroValue25, rfl, by simp [Value.oneCell']⟩), (fun _ _ _ => ⟨_, Tryz.runUnderlying25, fun w => by simp [Tryz.sizeOf23, Tryz.sizeOf3]⟩), (fun h => by cases h), (fun _ h => by cases h), (fun h => by cases h), (fun h => by cases h), (fun h => by cases h), (fun j off fs b h h2 => match j, h, h2 with | 0, h, h2 => by injection h with h; injection h with h1 h3; subst h1 h3; injection h2 with h2; subst h2; exact ⟨_, _, Tryz.runUnderlying25, rfl, rfl, Tryz.isAgg3, Tryz.sizeOf3⟩ | 1, h, h2 => by injection h with h; injection h with h1 h3; subst h1 h3; injection h2 with h2; subst h2; exact ⟨_, _, Tryz.runUnderlying25, rfl, rfl, Tryz.isAgg23, Tryz.sizeOf23⟩ | _ + 2, h, _ => by simp at h)⟩
theorem inf26 : (Tryz.prog.info? 4).map (fun i => (i.zero, i.size, i.bytes)) = some (some (.bool false), 1, 1) := by kernel_rfl
theorem tok26 : TOk Tryz.prog 26 ⟨false, 1, [], some (4, .bool, 1), some [.slice none 0 0], 0, none, []⟩ := ⟨Tryz.sizeOf26, Tryz.isAgg26, (fun _ => rfl), (fun _ _ _ h => by simp at h), (fun _ _ _ h => by cases h; exact ⟨Tryz.underlying26, by obtain ⟨i, h1, h2, h3, h4⟩ := info_parts inf26; exact ⟨i, _, h1, h2, h3, h4, rfl⟩, by decide⟩), (fun _ _ _ inf z h hi hz => by cases h; obtain ⟨i, h1, h2, h3, h4⟩ := info_parts inf26; rw [h1] at hi; cases hi; rw [h2] at hz; cases hz; rfl), (fun zs h => by cases h; exact ⟨_, Tryz.zeroValue26, rfl, by simp [Value.oneCell']⟩), (fun _ _ h => by cases h), (fun h => by cases h), (fun _ h => by cases h), (fun h => by cases h), (fun h => by cases h), (fun h => by cases h), (fun _ _ _ _ _ h => by simp at h)⟩
theorem inf27 : (Tryz.prog.info? 3).map (fun i => (i.zero, i.size, i.bytes)) = some (some (.int .i64 0), 1, 8) := by kernel_rfl
theorem tok27 : TOk Tryz.prog 27 ⟨false, 1, [], some (3, .int, 8), some [.slice none 0 0], 0, none, []⟩ := ⟨Tryz.sizeOf27, Tryz.isAgg27, (fun _ => rfl), (fun _ _ _ h => by simp at h), (fun _ _ _ h => by cases h; exact ⟨Tryz.underlying27, by obtain ⟨i, h1, h2, h3, h4⟩ := info_parts inf27; exact ⟨i, _, h1, h2, h3, h4, rfl⟩, by decide⟩), (fun _ _ _ inf z h hi hz => by cases h; obtain ⟨i, h1, h2, h3, h4⟩ := info_parts inf27; rw [h1] at hi; cases hi; rw [h2] at hz; cases hz; rfl), (fun zs h => by cases h; exact ⟨_, Tryz.zeroValue27, rfl, by simp [Value.oneCell']⟩), (fun _ _ h => by cases h), (fun h => by cases h), (fun _ h => by cases h), (fun h => by cases h), (fun h => by cases h), (fun h => by cases h), (fun _ _ _ _ _ h => by simp at h)⟩
theorem inf28 : (Tryz.prog.info? 45).map (fun i => (i.zero, i.size, i.bytes)) = some (some (.slice none 0 0), 1, 24) := by kernel_rfl
theorem tok28 : TOk Tryz.prog 28 ⟨false, 1, [], some (45, .db, 24), some [.slice none 0 0], 0, none, []⟩ := ⟨Tryz.sizeOf28, Tryz.isAgg28, (fun _ => rfl), (fun _ _ _ h => by simp at h), (fun _ _ _ h => by cases h; exact ⟨Tryz.underlying28, by obtain ⟨i, h1, h2, h3, h4⟩ := info_parts inf28; exact ⟨i, _, h1, h2, h3, h4, rfl⟩, by decide⟩), (fun _ _ _ inf z h hi hz => by cases h; obtain ⟨i, h1, h2, h3, h4⟩ := info_parts inf28; rw [h1] at hi; cases hi; rw [h2] at hz; cases hz; rfl), (fun zs h => by cases h; exact ⟨_, Tryz.zeroValue28, rfl, by simp [Value.oneCell']⟩), (fun _ _ h => by cases h), (fun h => by cases h), (fun _ h => by cases h), (fun h => by cases h), (fun h => by cases h), (fun h => by cases h), (fun _ _ _ _ _ h => by simp at h)⟩
theorem inf29 : (Tryz.prog.info? 54).map (fun i => (i.zero, i.size, i.bytes)) = some (some (.agg #[.int .i64 0, .int .i64 0, .int .i64 0, .slice none 0 0]), 4, 48) := by kernel_rfl
theorem tok29 : TOk Tryz.prog 29 ⟨false, 1, [], some (54, .pk, 48), some [.slice none 0 0], 0, none, []⟩ := ⟨Tryz.sizeOf29, Tryz.isAgg29, (fun _ => rfl), (fun _ _ _ h => by simp at h), (fun _ _ _ h => by cases h; exact ⟨Tryz.underlying29, by obtain ⟨i, h1, h2, h3, h4⟩ := info_parts inf29; exact ⟨i, _, h1, h2, h3, h4, rfl⟩, by decide⟩), (fun _ _ _ inf z h hi hz => by cases h; obtain ⟨i, h1, h2, h3, h4⟩ := info_parts inf29; rw [h1] at hi; cases hi; rw [h2] at hz; cases hz; rfl), (fun zs h => by cases h; exact ⟨_, Tryz.zeroValue29, rfl, by simp [Value.oneCell']⟩), (fun _ _ h => by cases h), (fun h => by cases h), (fun _ h => by cases h), (fun h => by cases h), (fun h => by cases h), (fun h => by cases h), (fun _ _ _ _ _ h => by simp at h)⟩
theorem tok30 : TOk Tryz.prog 30 ⟨true, 6, [(0, 2), (2, 1), (3, 1), (4, 1), (5, 1)], none, some [.int .i64 0, .slice none 0 0, .slice none 0 0, .slice none 0 0, .slice none 0 0, .slice none 0 0], 0, none, [true, false, false, false, false]⟩ := ⟨Tryz.sizeOf30, Tryz.isAgg30, (fun h => by cases h), (fun j off fs h => match j, h with | 0, h => by injection h with h; injection h with h1 h2; subst h1 h2; exact ⟨_, _, Tryz.runUnderlying30, rfl, rfl, Tryz.sizeOf25, by decide⟩ | 1, h => by injection h with h; injection h with h1 h2; subst h1 h2; exact ⟨_, _, Tryz.runUnderlying30, rfl, rfl, Tryz.sizeOf26, by decide⟩ | 2, h => by injection h with h; injection h with h1 h2; subst h1 h2; exact ⟨_, _, Tryz.runUnderlying30, rfl, rfl, Tryz.sizeOf27, by decide⟩ | 3, h => by injection h with h; injection h with h1 h2; subst h1 h2; exact ⟨_, _, Tryz.runUnderlying30, rfl, rfl, Tryz.sizeOf28, by decide⟩ | 4, h => by injection h with h; injection h with h1 h2; subst h1 h2; exact ⟨_, _, Tryz.runUnderlying30, rfl, rfl, Tryz.sizeOf29, by decide⟩ | _ + 5, h => by simp at h), (fun _ _ _ h => by cases h), (fun _ _ _ _ _ h => by cases h), (fun zs h => by cases h; exact ⟨_, Tryz.zeroValue30, rfl, by simp [Value.oneCell']⟩), (fun _ _ _ => ⟨_, Tryz.runUnderlying30, fun w => by simp [Tryz.sizeOf25, Tryz.sizeOf26, Tryz.sizeOf27, Tryz.sizeOf28, Tryz.sizeOf29]⟩), (fun h => by cases h), (fun _ h => by cases h), (fun h => by cases h), (fun h => by cases h), (fun h => by cases h), (fun j off fs b h h2 => match j, h, h2 with | 0, h, h2 => by injection h with h; injection h with h1 h3; subst h1 h3; injection h2 with h2; subst h2; exact ⟨_, _, Tryz.runUnderlying30, rfl, rfl, Tryz.isAgg25, Tryz.sizeOf25⟩ | 1, h, h2 => by injection h with h; injection h with h1 h3; subst h1 h3; injection h2 with h2; subst h2; exact ⟨_, _, Tryz.runUnderlying30, rfl, rfl, Tryz.isAgg26, Tryz.sizeOf26⟩ | 2, h, h2 => by injection h with h; injection h with h1 h3; subst h1 h3; injection h2 with h2; subst h2; exact ⟨_, _, Tryz.runUnderlying30, rfl, rfl, Tryz.isAgg27, Tryz.sizeOf27⟩ | 3, h, h2 => by injection h with h; injection h with h1 h3; subst h1 h3; injection h2 with h2; subst h2; exact ⟨_, _, Tryz.runUnderlying30, rfl, rfl, Tryz.isAgg28, Tryz.sizeOf28⟩ | 4, h, h2 => by injection h with h; injection h with h1 h3; subst h1 h3; injection h2 with h2; subst h2; exact ⟨_, _, Tryz.runUnderlying30, rfl, rfl, Tryz.isAgg29, Tryz.sizeOf29⟩ | _ + 5, h, _ => by simp at h)⟩
theorem tok31 : TOk Tryz.prog 31 ⟨true, 6, [(0, 2), (2, 1), (3, 1), (4, 1), (5, 1)], none, some [.int .i64 0, .slice none 0 0, .slice none 0 0, .slice none 0 0, .slice none 0 0, .slice none 0 0], 0, none, [true, false, false, false, false]⟩ := ⟨Tryz.sizeOf31, Tryz.isAgg31, (fun h => by cases h), (fun j off fs h => match j, h with | 0, h => by injection h with h; injection h with h1 h2; subst h1 h2; exact ⟨_, _, Tryz.runUnderlying31, rfl, rfl, Tryz.sizeOf25, by decide⟩ | 1, h => by injection h with h; injection h with h1 h2; subst h1 h2; exact ⟨_, _, Tryz.runUnderlying31, rfl, rfl, Tryz.sizeOf26, by decide⟩ | 2, h => by injection h with h; injection h with h1 h2; subst h1 h2; exact ⟨_, _, Tryz.runUnderlying31, rfl, rfl, Tryz.sizeOf27, by decide⟩ | 3, h => by injection h with h; injection h with h1 h2; subst h1 h2; exact ⟨_, _, Tryz.runUnderlying31, rfl, rfl, Tryz.sizeOf28, by decide⟩ | 4, h => by injection h with h; injection h with h1 h2; subst h1 h2; exact ⟨_, _, Tryz.runUnderlying31, rfl, rfl, Tryz.sizeOf29, by decide⟩ | _ + 5, h => by simp at h), (fun _ _ _ h => by cases h), (fun _ _ _ _ _ h => by cases h), (fun zs h => by cases h; exact ⟨_, Tryz.zeroValue31, rfl, by simp [Value.oneCell']⟩), (fun _ _ _ => ⟨_, Tryz.runUnderlying31, fun w => by simp [Tryz.sizeOf25, Tryz.sizeOf26, Tryz.sizeOf27, Tryz.sizeOf28, Tryz.sizeOf29]⟩), (fun h => by cases h), (fun _ h => by cases h), (fun h => by cases h), (fun h => by cases h), (fun h => by cases h), (fun j off fs b h h2 => match j, h, h2 with | 0, h, h2 => by injection h with h; injection h with h1 h3; subst h1 h3; injection h2 with h2; subst h2; exact ⟨_, _, Tryz.runUnderlying31, rfl, rfl, Tryz.isAgg25, Tryz.sizeOf25⟩ | 1, h, h2 => by injection h with h; injection h with h1 h3; subst h1 h3; injection h2 with h2; subst h2; exact ⟨_, _, Tryz.runUnderlying31, rfl, rfl, Tryz.isAgg26, Tryz.sizeOf26⟩ | 2, h, h2 => by injection h with h; injection h with h1 h3; subst h1 h3; injection h2 with h2; subst h2; exact ⟨_, _, Tryz.runUnderlying31, rfl, rfl, Tryz.isAgg27, Tryz.sizeOf27⟩ | 3, h, h2 => by injection h with h; injection h with h1 h3; subst h1 h3; injection h2 with h2; subst h2; exact ⟨_, _, Tryz.runUnderlying31, rfl, rfl, Tryz.isAgg28, Tryz.sizeOf28⟩ | 4, h, h2 => by injection h with h; injection h with h1 h3; subst h1 h3; injection h2 with h2; subst h2; exact ⟨_, _, Tryz.runUnderlying31, rfl, rfl, Tryz.isAgg29, Tryz.sizeOf29⟩ | _ + 5, h, _ => by simp at h)⟩
theorem tok36 : TOk Tryz.prog 36 ⟨true, 2, [(0, 1), (1, 1)], none, some [.int .i64 0, .int .i64 0], 0, none, [false, false]⟩ := ⟨Tryz.sizeOf36, Tryz.isAgg36, (fun h => by cases h), (fun j off fs h => match j, h with | 0, h => by injection h with h; injection h with h1 h2; subst h1 h2; exact ⟨_, _, Tryz.runUnderlying36, rfl, rfl, Tryz.sizeOf3, by decide⟩ | 1, h => by injection h with h; injection h with h1 h2; subst h1 h2; exact ⟨_, _, Tryz.runUnderlying36, rfl, rfl, Tryz.sizeOf3, by decide⟩ | _ + 2, h => by simp at h), (fun _ _ _ h => by cases h), (fun _ _ _ _ _ h => by cases h), (fun zs h => by cases h; exact ⟨_, Tryz.zeroValue36, rfl, by simp [Value.oneCell']⟩), (fun _ _ _ => ⟨_, Tryz.runUnderlying36, fun w => by simp [Tryz.sizeOf3]⟩), (fun h => by cases h), (fun _ h => by cases h), (fun h => by cases h), (fun h => by cases h), (fun h => by cases h), (fun j off fs b h h2 => match j, h, h2 with | 0, h, h2 => by injection h with h; injection h with h1 h3; subst h1 h3; injection h2 with h2; subst h2; exact ⟨_, _, Tryz.runUnderlying36, rfl, rfl, Tryz.isAgg3, Tryz.sizeOf3⟩ | 1, h, h2 => by injection h with h; injection h with h1 h3; subst h1 h3; injection h2 with h2; subst h2; exact ⟨_, _, Tryz.runUnderlying36, rfl, rfl, Tryz.isAgg3, Tryz.sizeOf3⟩ | _ + 2, h, _ => by simp at h)⟩
set_option maxRecDepth 100000 in
theorem ieq37 : ∀ (ps qs : List Int), ps.length = 2 → qs.length = 2 → ∀ x y w, (do eqGuard .eql 37 x y (.agg (ps.map (Value.int .i64)).toArray) (.agg (qs.map (Value.int .i64)).toArray); binOp .eql 37 (.agg (ps.map (Value.int .i64)).toArray) (.agg (qs.map (Value.int .i64)).toArray) : Sem Value).run Tryz.prog w = .ok (.bool (eqInts ps qs)) w
  | [a0, a1], [b0, b1], _, _, x, y, w => by
    have hu : Tryz.prog.underlying 37 = some (.struct (Tryz.prog.fieldsOf 37)) := by kernel_rfl
    have hst : Tryz.prog.stoodInHeld 37 = false := by kernel_rfl
    simp only [List.map_cons, List.map_nil]
    rw [Sem.run_bind, run_eqGuard_agg w .eql 37 x y _ _ (by kernel_rfl), Result.andThen_ok, run_eql_struct, run_equalIn_struct w 9999 _ _ _ hu hst]
    have hf : (Tryz.prog.fieldsOf 37).toList = (match Tryz.prog.underlying 37 with | some (.struct fs) => fs | _ => #[]).toList := rfl
    rw [hf, Tryz.underlying37]
    simp [Op.eqFields, go_sem, eqInts]
    by_cases h0 : a0 = b0 <;> by_cases h1 : a1 = b1 <;> simp [h0, h1]
set_option maxRecDepth 100000 in
theorem ine37 : ∀ (ps qs : List Int), ps.length = 2 → qs.length = 2 → ∀ x y w, (do eqGuard .neq 37 x y (.agg (ps.map (Value.int .i64)).toArray) (.agg (qs.map (Value.int .i64)).toArray); binOp .neq 37 (.agg (ps.map (Value.int .i64)).toArray) (.agg (qs.map (Value.int .i64)).toArray) : Sem Value).run Tryz.prog w = .ok (.bool (!eqInts ps qs)) w
  | [a0, a1], [b0, b1], _, _, x, y, w => by
    have hu : Tryz.prog.underlying 37 = some (.struct (Tryz.prog.fieldsOf 37)) := by kernel_rfl
    have hst : Tryz.prog.stoodInHeld 37 = false := by kernel_rfl
    simp only [List.map_cons, List.map_nil]
    rw [Sem.run_bind, run_eqGuard_agg w .neq 37 x y _ _ (by kernel_rfl), Result.andThen_ok, run_neq_struct, run_equalIn_struct w 9999 _ _ _ hu hst]
    have hf : (Tryz.prog.fieldsOf 37).toList = (match Tryz.prog.underlying 37 with | some (.struct fs) => fs | _ => #[]).toList := rfl
    rw [hf, Tryz.underlying37]
    simp [Op.eqFields, go_sem, eqInts]
    by_cases h0 : a0 = b0 <;> by_cases h1 : a1 = b1 <;> simp [h0, h1]
theorem tok37 : TOk Tryz.prog 37 ⟨true, 2, [(0, 1), (1, 1)], none, some [.int .i64 0, .int .i64 0], 3, none, [false, false]⟩ := ⟨Tryz.sizeOf37, Tryz.isAgg37, (fun h => by cases h), (fun j off fs h => match j, h with | 0, h => by injection h with h; injection h with h1 h2; subst h1 h2; exact ⟨_, _, Tryz.runUnderlying37, rfl, rfl, Tryz.sizeOf3, by decide⟩ | 1, h => by injection h with h; injection h with h1 h2; subst h1 h2; exact ⟨_, _, Tryz.runUnderlying37, rfl, rfl, Tryz.sizeOf3, by decide⟩ | _ + 2, h => by simp at h), (fun _ _ _ h => by cases h), (fun _ _ _ _ _ h => by cases h), (fun zs h => by cases h; exact ⟨_, Tryz.zeroValue37, rfl, by simp [Value.oneCell']⟩), (fun _ _ _ => ⟨_, Tryz.runUnderlying37, fun w => by simp [Tryz.sizeOf3]⟩), (fun h => by cases h), (fun _ h => by cases h), (fun h => by cases h), (fun _ => ieq37), (fun _ => ine37), (fun j off fs b h h2 => match j, h, h2 with | 0, h, h2 => by injection h with h; injection h with h1 h3; subst h1 h3; injection h2 with h2; subst h2; exact ⟨_, _, Tryz.runUnderlying37, rfl, rfl, Tryz.isAgg3, Tryz.sizeOf3⟩ | 1, h, h2 => by injection h with h; injection h with h1 h3; subst h1 h3; injection h2 with h2; subst h2; exact ⟨_, _, Tryz.runUnderlying37, rfl, rfl, Tryz.isAgg3, Tryz.sizeOf3⟩ | _ + 2, h, _ => by simp at h)⟩
theorem tok42 : TOk Tryz.prog 42 ⟨false, 1, [], none, some [.pointer none], 0, none, []⟩ := ⟨Tryz.sizeOf42, Tryz.isAgg42, (fun _ => rfl), (fun _ _ _ h => by simp at h), (fun _ _ _ h => by cases h), (fun _ _ _ _ _ h => by cases h), (fun zs h => by cases h; exact ⟨_, Tryz.zeroValue42, rfl, by simp [Value.oneCell']⟩), (fun _ _ h => by cases h), (fun h => by cases h), (fun _ h => by cases h), (fun h => by cases h), (fun h => by cases h), (fun h => by cases h), (fun _ _ _ _ _ h => by simp at h)⟩
theorem inf45 : (Tryz.prog.info? 52).map (fun i => (i.zero, i.size, i.bytes)) = some (some (.agg #[.int .i64 0, .int .i64 0, .slice none 0 0]), 3, 40) := by kernel_rfl
theorem tok45 : TOk Tryz.prog 45 ⟨false, 1, [], some (52, .ls, 40), some [.slice none 0 0], 0, none, []⟩ := ⟨Tryz.sizeOf45, Tryz.isAgg45, (fun _ => rfl), (fun _ _ _ h => by simp at h), (fun _ _ _ h => by cases h; exact ⟨Tryz.underlying45, by obtain ⟨i, h1, h2, h3, h4⟩ := info_parts inf45; exact ⟨i, _, h1, h2, h3, h4, rfl⟩, by decide⟩), (fun _ _ _ inf z h hi hz => by cases h; obtain ⟨i, h1, h2, h3, h4⟩ := info_parts inf45; rw [h1] at hi; cases hi; rw [h2] at hz; cases hz; rfl), (fun zs h => by cases h; exact ⟨_, Tryz.zeroValue45, rfl, by simp [Value.oneCell']⟩), (fun _ _ h => by cases h), (fun h => by cases h), (fun _ h => by cases h), (fun h => by cases h), (fun h => by cases h), (fun h => by cases h), (fun _ _ _ _ _ h => by simp at h)⟩
theorem inf50 : (Tryz.prog.info? 80).map (fun i => (i.zero, i.size, i.bytes)) = some (some (.agg #[.int .i64 0, .int .i64 0]), 2, 16) := by kernel_rfl
theorem tok50 : TOk Tryz.prog 50 ⟨false, 1, [], some (80, .en, 16), some [.slice none 0 0], 0, none, []⟩ := ⟨Tryz.sizeOf50, Tryz.isAgg50, (fun _ => rfl), (fun _ _ _ h => by simp at h), (fun _ _ _ h => by cases h; exact ⟨Tryz.underlying50, by obtain ⟨i, h1, h2, h3, h4⟩ := info_parts inf50; exact ⟨i, _, h1, h2, h3, h4, rfl⟩, by decide⟩), (fun _ _ _ inf z h hi hz => by cases h; obtain ⟨i, h1, h2, h3, h4⟩ := info_parts inf50; rw [h1] at hi; cases hi; rw [h2] at hz; cases hz; rfl), (fun zs h => by cases h; exact ⟨_, Tryz.zeroValue50, rfl, by simp [Value.oneCell']⟩), (fun _ _ h => by cases h), (fun h => by cases h), (fun _ h => by cases h), (fun h => by cases h), (fun h => by cases h), (fun h => by cases h), (fun _ _ _ _ _ h => by simp at h)⟩
theorem tok51 : TOk Tryz.prog 51 ⟨true, 3, [(0, 1), (1, 1), (2, 1)], none, some [.int .i64 0, .int .i64 0, .slice none 0 0], 0, none, [false, false, false]⟩ := ⟨Tryz.sizeOf51, Tryz.isAgg51, (fun h => by cases h), (fun j off fs h => match j, h with | 0, h => by injection h with h; injection h with h1 h2; subst h1 h2; exact ⟨_, _, Tryz.runUnderlying51, rfl, rfl, Tryz.sizeOf3, by decide⟩ | 1, h => by injection h with h; injection h with h1 h2; subst h1 h2; exact ⟨_, _, Tryz.runUnderlying51, rfl, rfl, Tryz.sizeOf3, by decide⟩ | 2, h => by injection h with h; injection h with h1 h2; subst h1 h2; exact ⟨_, _, Tryz.runUnderlying51, rfl, rfl, Tryz.sizeOf50, by decide⟩ | _ + 3, h => by simp at h), (fun _ _ _ h => by cases h), (fun _ _ _ _ _ h => by cases h), (fun zs h => by cases h; exact ⟨_, Tryz.zeroValue51, rfl, by simp [Value.oneCell']⟩), (fun _ _ _ => ⟨_, Tryz.runUnderlying51, fun w => by simp [Tryz.sizeOf3, Tryz.sizeOf50]⟩), (fun h => by cases h), (fun _ h => by cases h), (fun h => by cases h), (fun h => by cases h), (fun h => by cases h), (fun j off fs b h h2 => match j, h, h2 with | 0, h, h2 => by injection h with h; injection h with h1 h3; subst h1 h3; injection h2 with h2; subst h2; exact ⟨_, _, Tryz.runUnderlying51, rfl, rfl, Tryz.isAgg3, Tryz.sizeOf3⟩ | 1, h, h2 => by injection h with h; injection h with h1 h3; subst h1 h3; injection h2 with h2; subst h2; exact ⟨_, _, Tryz.runUnderlying51, rfl, rfl, Tryz.isAgg3, Tryz.sizeOf3⟩ | 2, h, h2 => by injection h with h; injection h with h1 h3; subst h1 h3; injection h2 with h2; subst h2; exact ⟨_, _, Tryz.runUnderlying51, rfl, rfl, Tryz.isAgg50, Tryz.sizeOf50⟩ | _ + 3, h, _ => by simp at h)⟩
theorem tok52 : TOk Tryz.prog 52 ⟨true, 3, [(0, 1), (1, 1), (2, 1)], none, some [.int .i64 0, .int .i64 0, .slice none 0 0], 0, none, [false, false, false]⟩ := ⟨Tryz.sizeOf52, Tryz.isAgg52, (fun h => by cases h), (fun j off fs h => match j, h with | 0, h => by injection h with h; injection h with h1 h2; subst h1 h2; exact ⟨_, _, Tryz.runUnderlying52, rfl, rfl, Tryz.sizeOf3, by decide⟩ | 1, h => by injection h with h; injection h with h1 h2; subst h1 h2; exact ⟨_, _, Tryz.runUnderlying52, rfl, rfl, Tryz.sizeOf3, by decide⟩ | 2, h => by injection h with h; injection h with h1 h2; subst h1 h2; exact ⟨_, _, Tryz.runUnderlying52, rfl, rfl, Tryz.sizeOf50, by decide⟩ | _ + 3, h => by simp at h), (fun _ _ _ h => by cases h), (fun _ _ _ _ _ h => by cases h), (fun zs h => by cases h; exact ⟨_, Tryz.zeroValue52, rfl, by simp [Value.oneCell']⟩), (fun _ _ _ => ⟨_, Tryz.runUnderlying52, fun w => by simp [Tryz.sizeOf3, Tryz.sizeOf50]⟩), (fun h => by cases h), (fun _ h => by cases h), (fun h => by cases h), (fun h => by cases h), (fun h => by cases h), (fun j off fs b h h2 => match j, h, h2 with | 0, h, h2 => by injection h with h; injection h with h1 h3; subst h1 h3; injection h2 with h2; subst h2; exact ⟨_, _, Tryz.runUnderlying52, rfl, rfl, Tryz.isAgg3, Tryz.sizeOf3⟩ | 1, h, h2 => by injection h with h; injection h with h1 h3; subst h1 h3; injection h2 with h2; subst h2; exact ⟨_, _, Tryz.runUnderlying52, rfl, rfl, Tryz.isAgg3, Tryz.sizeOf3⟩ | 2, h, h2 => by injection h with h; injection h with h1 h3; subst h1 h3; injection h2 with h2; subst h2; exact ⟨_, _, Tryz.runUnderlying52, rfl, rfl, Tryz.isAgg50, Tryz.sizeOf50⟩ | _ + 3, h, _ => by simp at h)⟩
theorem tok53 : TOk Tryz.prog 53 ⟨true, 4, [(0, 1), (1, 3)], none, some [.int .i64 0, .int .i64 0, .int .i64 0, .slice none 0 0], 0, none, [false, true]⟩ := ⟨Tryz.sizeOf53, Tryz.isAgg53, (fun h => by cases h), (fun j off fs h => match j, h with | 0, h => by injection h with h; injection h with h1 h2; subst h1 h2; exact ⟨_, _, Tryz.runUnderlying53, rfl, rfl, Tryz.sizeOf3, by decide⟩ | 1, h => by injection h with h; injection h with h1 h2; subst h1 h2; exact ⟨_, _, Tryz.runUnderlying53, rfl, rfl, Tryz.sizeOf52, by decide⟩ | _ + 2, h => by simp at h), (fun _ _ _ h => by cases h), (fun _ _ _ _ _ h => by cases h), (fun zs h => by cases h; exact ⟨_, Tryz.zeroValue53, rfl, by simp [Value.oneCell']⟩), (fun _ _ _ => ⟨_, Tryz.runUnderlying53, fun w => by simp [Tryz.sizeOf3, Tryz.sizeOf52]⟩), (fun h => by cases h), (fun _ h => by cases h), (fun h => by cases h), (fun h => by cases h), (fun h => by cases h), (fun j off fs b h h2 => match j, h, h2 with | 0, h, h2 => by injection h with h; injection h with h1 h3; subst h1 h3; injection h2 with h2; subst h2; exact ⟨_, _, Tryz.runUnderlying53, rfl, rfl, Tryz.isAgg3, Tryz.sizeOf3⟩ | 1, h, h2 => by injection h with h; injection h with h1 h3; subst h1 h3; injection h2 with h2; subst h2; exact ⟨_, _, Tryz.runUnderlying53, rfl, rfl, Tryz.isAgg52, Tryz.sizeOf52⟩ | _ + 2, h, _ => by simp at h)⟩
theorem tok54 : TOk Tryz.prog 54 ⟨true, 4, [(0, 1), (1, 3)], none, some [.int .i64 0, .int .i64 0, .int .i64 0, .slice none 0 0], 0, none, [false, true]⟩ := ⟨Tryz.sizeOf54, Tryz.isAgg54, (fun h => by cases h), (fun j off fs h => match j, h with | 0, h => by injection h with h; injection h with h1 h2; subst h1 h2; exact ⟨_, _, Tryz.runUnderlying54, rfl, rfl, Tryz.sizeOf3, by decide⟩ | 1, h => by injection h with h; injection h with h1 h2; subst h1 h2; exact ⟨_, _, Tryz.runUnderlying54, rfl, rfl, Tryz.sizeOf52, by decide⟩ | _ + 2, h => by simp at h), (fun _ _ _ h => by cases h), (fun _ _ _ _ _ h => by cases h), (fun zs h => by cases h; exact ⟨_, Tryz.zeroValue54, rfl, by simp [Value.oneCell']⟩), (fun _ _ _ => ⟨_, Tryz.runUnderlying54, fun w => by simp [Tryz.sizeOf3, Tryz.sizeOf52]⟩), (fun h => by cases h), (fun _ h => by cases h), (fun h => by cases h), (fun h => by cases h), (fun h => by cases h), (fun j off fs b h h2 => match j, h, h2 with | 0, h, h2 => by injection h with h; injection h with h1 h3; subst h1 h3; injection h2 with h2; subst h2; exact ⟨_, _, Tryz.runUnderlying54, rfl, rfl, Tryz.isAgg3, Tryz.sizeOf3⟩ | 1, h, h2 => by injection h with h; injection h with h1 h3; subst h1 h3; injection h2 with h2; subst h2; exact ⟨_, _, Tryz.runUnderlying54, rfl, rfl, Tryz.isAgg52, Tryz.sizeOf52⟩ | _ + 2, h, _ => by simp at h)⟩
theorem tok72 : TOk Tryz.prog 72 ⟨true, 2, [(0, 1), (1, 1)], none, some [.slice none 0 0, .int .i64 0], 0, none, [false, false]⟩ := ⟨Tryz.sizeOf72, Tryz.isAgg72, (fun h => by cases h), (fun j off fs h => match j, h with | 0, h => by injection h with h; injection h with h1 h2; subst h1 h2; exact ⟨_, _, Tryz.runUnderlying72, rfl, rfl, Tryz.sizeOf22, by decide⟩ | 1, h => by injection h with h; injection h with h1 h2; subst h1 h2; exact ⟨_, _, Tryz.runUnderlying72, rfl, rfl, Tryz.sizeOf3, by decide⟩ | _ + 2, h => by simp at h), (fun _ _ _ h => by cases h), (fun _ _ _ _ _ h => by cases h), (fun zs h => by cases h; exact ⟨_, Tryz.zeroValue72, rfl, by simp [Value.oneCell']⟩), (fun _ _ _ => ⟨_, Tryz.runUnderlying72, fun w => by simp [Tryz.sizeOf22, Tryz.sizeOf3]⟩), (fun h => by cases h), (fun _ h => by cases h), (fun h => by cases h), (fun h => by cases h), (fun h => by cases h), (fun j off fs b h h2 => match j, h, h2 with | 0, h, h2 => by injection h with h; injection h with h1 h3; subst h1 h3; injection h2 with h2; subst h2; exact ⟨_, _, Tryz.runUnderlying72, rfl, rfl, Tryz.isAgg22, Tryz.sizeOf22⟩ | 1, h, h2 => by injection h with h; injection h with h1 h3; subst h1 h3; injection h2 with h2; subst h2; exact ⟨_, _, Tryz.runUnderlying72, rfl, rfl, Tryz.isAgg3, Tryz.sizeOf3⟩ | _ + 2, h, _ => by simp at h)⟩
theorem tok73 : TOk Tryz.prog 73 ⟨true, 2, [(0, 1), (1, 1)], none, some [.slice none 0 0, .int .i64 0], 0, none, [false, false]⟩ := ⟨Tryz.sizeOf73, Tryz.isAgg73, (fun h => by cases h), (fun j off fs h => match j, h with | 0, h => by injection h with h; injection h with h1 h2; subst h1 h2; exact ⟨_, _, Tryz.runUnderlying73, rfl, rfl, Tryz.sizeOf22, by decide⟩ | 1, h => by injection h with h; injection h with h1 h2; subst h1 h2; exact ⟨_, _, Tryz.runUnderlying73, rfl, rfl, Tryz.sizeOf3, by decide⟩ | _ + 2, h => by simp at h), (fun _ _ _ h => by cases h), (fun _ _ _ _ _ h => by cases h), (fun zs h => by cases h; exact ⟨_, Tryz.zeroValue73, rfl, by simp [Value.oneCell']⟩), (fun _ _ _ => ⟨_, Tryz.runUnderlying73, fun w => by simp [Tryz.sizeOf22, Tryz.sizeOf3]⟩), (fun h => by cases h), (fun _ h => by cases h), (fun h => by cases h), (fun h => by cases h), (fun h => by cases h), (fun j off fs b h h2 => match j, h, h2 with | 0, h, h2 => by injection h with h; injection h with h1 h3; subst h1 h3; injection h2 with h2; subst h2; exact ⟨_, _, Tryz.runUnderlying73, rfl, rfl, Tryz.isAgg22, Tryz.sizeOf22⟩ | 1, h, h2 => by injection h with h; injection h with h1 h3; subst h1 h3; injection h2 with h2; subst h2; exact ⟨_, _, Tryz.runUnderlying73, rfl, rfl, Tryz.isAgg3, Tryz.sizeOf3⟩ | _ + 2, h, _ => by simp at h)⟩
theorem tok74 : TOk Tryz.prog 74 ⟨true, 3, [(0, 1), (1, 1), (2, 1)], none, some [.int .i64 0, .int .i64 0, .int .i64 0], 0, none, [false, false, false]⟩ := ⟨Tryz.sizeOf74, Tryz.isAgg74, (fun h => by cases h), (fun j off fs h => match j, h with | 0, h => by injection h with h; injection h with h1 h2; subst h1 h2; exact ⟨_, _, Tryz.runUnderlying74, rfl, rfl, Tryz.sizeOf3, by decide⟩ | 1, h => by injection h with h; injection h with h1 h2; subst h1 h2; exact ⟨_, _, Tryz.runUnderlying74, rfl, rfl, Tryz.sizeOf3, by decide⟩ | 2, h => by injection h with h; injection h with h1 h2; subst h1 h2; exact ⟨_, _, Tryz.runUnderlying74, rfl, rfl, Tryz.sizeOf3, by decide⟩ | _ + 3, h => by simp at h), (fun _ _ _ h => by cases h), (fun _ _ _ _ _ h => by cases h), (fun zs h => by cases h; exact ⟨_, Tryz.zeroValue74, rfl, by simp [Value.oneCell']⟩), (fun _ _ _ => ⟨_, Tryz.runUnderlying74, fun w => by simp [Tryz.sizeOf3]⟩), (fun h => by cases h), (fun _ h => by cases h), (fun h => by cases h), (fun h => by cases h), (fun h => by cases h), (fun j off fs b h h2 => match j, h, h2 with | 0, h, h2 => by injection h with h; injection h with h1 h3; subst h1 h3; injection h2 with h2; subst h2; exact ⟨_, _, Tryz.runUnderlying74, rfl, rfl, Tryz.isAgg3, Tryz.sizeOf3⟩ | 1, h, h2 => by injection h with h; injection h with h1 h3; subst h1 h3; injection h2 with h2; subst h2; exact ⟨_, _, Tryz.runUnderlying74, rfl, rfl, Tryz.isAgg3, Tryz.sizeOf3⟩ | 2, h, h2 => by injection h with h; injection h with h1 h3; subst h1 h3; injection h2 with h2; subst h2; exact ⟨_, _, Tryz.runUnderlying74, rfl, rfl, Tryz.isAgg3, Tryz.sizeOf3⟩ | _ + 3, h, _ => by simp at h)⟩
set_option maxRecDepth 100000 in
theorem ieq75 : ∀ (ps qs : List Int), ps.length = 3 → qs.length = 3 → ∀ x y w, (do eqGuard .eql 75 x y (.agg (ps.map (Value.int .i64)).toArray) (.agg (qs.map (Value.int .i64)).toArray); binOp .eql 75 (.agg (ps.map (Value.int .i64)).toArray) (.agg (qs.map (Value.int .i64)).toArray) : Sem Value).run Tryz.prog w = .ok (.bool (eqInts ps qs)) w
  | [a0, a1, a2], [b0, b1, b2], _, _, x, y, w => by
    have hu : Tryz.prog.underlying 75 = some (.struct (Tryz.prog.fieldsOf 75)) := by kernel_rfl
    have hst : Tryz.prog.stoodInHeld 75 = false := by kernel_rfl
    simp only [List.map_cons, List.map_nil]
    rw [Sem.run_bind, run_eqGuard_agg w .eql 75 x y _ _ (by kernel_rfl), Result.andThen_ok, run_eql_struct, run_equalIn_struct w 9999 _ _ _ hu hst]
    have hf : (Tryz.prog.fieldsOf 75).toList = (match Tryz.prog.underlying 75 with | some (.struct fs) => fs | _ => #[]).toList := rfl
    rw [hf, Tryz.underlying75]
    simp [Op.eqFields, go_sem, eqInts]
    by_cases h0 : a0 = b0 <;> by_cases h1 : a1 = b1 <;> by_cases h2 : a2 = b2 <;> simp [h0, h1, h2]
set_option maxRecDepth 100000 in
theorem ine75 : ∀ (ps qs : List Int), ps.length = 3 → qs.length = 3 → ∀ x y w, (do eqGuard .neq 75 x y (.agg (ps.map (Value.int .i64)).toArray) (.agg (qs.map (Value.int .i64)).toArray); binOp .neq 75 (.agg (ps.map (Value.int .i64)).toArray) (.agg (qs.map (Value.int .i64)).toArray) : Sem Value).run Tryz.prog w = .ok (.bool (!eqInts ps qs)) w
  | [a0, a1, a2], [b0, b1, b2], _, _, x, y, w => by
    have hu : Tryz.prog.underlying 75 = some (.struct (Tryz.prog.fieldsOf 75)) := by kernel_rfl
    have hst : Tryz.prog.stoodInHeld 75 = false := by kernel_rfl
    simp only [List.map_cons, List.map_nil]
    rw [Sem.run_bind, run_eqGuard_agg w .neq 75 x y _ _ (by kernel_rfl), Result.andThen_ok, run_neq_struct, run_equalIn_struct w 9999 _ _ _ hu hst]
    have hf : (Tryz.prog.fieldsOf 75).toList = (match Tryz.prog.underlying 75 with | some (.struct fs) => fs | _ => #[]).toList := rfl
    rw [hf, Tryz.underlying75]
    simp [Op.eqFields, go_sem, eqInts]
    by_cases h0 : a0 = b0 <;> by_cases h1 : a1 = b1 <;> by_cases h2 : a2 = b2 <;> simp [h0, h1, h2]
theorem tok75 : TOk Tryz.prog 75 ⟨true, 3, [(0, 1), (1, 1), (2, 1)], none, some [.int .i64 0, .int .i64 0, .int .i64 0], 3, none, [false, false, false]⟩ := ⟨Tryz.sizeOf75, Tryz.isAgg75, (fun h => by cases h), (fun j off fs h => match j, h with | 0, h => by injection h with h; injection h with h1 h2; subst h1 h2; exact ⟨_, _, Tryz.runUnderlying75, rfl, rfl, Tryz.sizeOf3, by decide⟩ | 1, h => by injection h with h; injection h with h1 h2; subst h1 h2; exact ⟨_, _, Tryz.runUnderlying75, rfl, rfl, Tryz.sizeOf3, by decide⟩ | 2, h => by injection h with h; injection h with h1 h2; subst h1 h2; exact ⟨_, _, Tryz.runUnderlying75, rfl, rfl, Tryz.sizeOf3, by decide⟩ | _ + 3, h => by simp at h), (fun _ _ _ h => by cases h), (fun _ _ _ _ _ h => by cases h), (fun zs h => by cases h; exact ⟨_, Tryz.zeroValue75, rfl, by simp [Value.oneCell']⟩), (fun _ _ _ => ⟨_, Tryz.runUnderlying75, fun w => by simp [Tryz.sizeOf3]⟩), (fun h => by cases h), (fun _ h => by cases h), (fun h => by cases h), (fun _ => ieq75), (fun _ => ine75), (fun j off fs b h h2 => match j, h, h2 with | 0, h, h2 => by injection h with h; injection h with h1 h3; subst h1 h3; injection h2 with h2; subst h2; exact ⟨_, _, Tryz.runUnderlying75, rfl, rfl, Tryz.isAgg3, Tryz.sizeOf3⟩ | 1, h, h2 => by injection h with h; injection h with h1 h3; subst h1 h3; injection h2 with h2; subst h2; exact ⟨_, _, Tryz.runUnderlying75, rfl, rfl, Tryz.isAgg3, Tryz.sizeOf3⟩ | 2, h, h2 => by injection h with h; injection h with h1 h3; subst h1 h3; injection h2 with h2; subst h2; exact ⟨_, _, Tryz.runUnderlying75, rfl, rfl, Tryz.isAgg3, Tryz.sizeOf3⟩ | _ + 3, h, _ => by simp at h)⟩
theorem tok79 : TOk Tryz.prog 79 ⟨true, 2, [(0, 1), (1, 1)], none, some [.int .i64 0, .int .i64 0], 0, none, [false, false]⟩ := ⟨Tryz.sizeOf79, Tryz.isAgg79, (fun h => by cases h), (fun j off fs h => match j, h with | 0, h => by injection h with h; injection h with h1 h2; subst h1 h2; exact ⟨_, _, Tryz.runUnderlying79, rfl, rfl, Tryz.sizeOf3, by decide⟩ | 1, h => by injection h with h; injection h with h1 h2; subst h1 h2; exact ⟨_, _, Tryz.runUnderlying79, rfl, rfl, Tryz.sizeOf3, by decide⟩ | _ + 2, h => by simp at h), (fun _ _ _ h => by cases h), (fun _ _ _ _ _ h => by cases h), (fun zs h => by cases h; exact ⟨_, Tryz.zeroValue79, rfl, by simp [Value.oneCell']⟩), (fun _ _ _ => ⟨_, Tryz.runUnderlying79, fun w => by simp [Tryz.sizeOf3]⟩), (fun h => by cases h), (fun _ h => by cases h), (fun h => by cases h), (fun h => by cases h), (fun h => by cases h), (fun j off fs b h h2 => match j, h, h2 with | 0, h, h2 => by injection h with h; injection h with h1 h3; subst h1 h3; injection h2 with h2; subst h2; exact ⟨_, _, Tryz.runUnderlying79, rfl, rfl, Tryz.isAgg3, Tryz.sizeOf3⟩ | 1, h, h2 => by injection h with h; injection h with h1 h3; subst h1 h3; injection h2 with h2; subst h2; exact ⟨_, _, Tryz.runUnderlying79, rfl, rfl, Tryz.isAgg3, Tryz.sizeOf3⟩ | _ + 2, h, _ => by simp at h)⟩
set_option maxRecDepth 100000 in
theorem ieq80 : ∀ (ps qs : List Int), ps.length = 2 → qs.length = 2 → ∀ x y w, (do eqGuard .eql 80 x y (.agg (ps.map (Value.int .i64)).toArray) (.agg (qs.map (Value.int .i64)).toArray); binOp .eql 80 (.agg (ps.map (Value.int .i64)).toArray) (.agg (qs.map (Value.int .i64)).toArray) : Sem Value).run Tryz.prog w = .ok (.bool (eqInts ps qs)) w
  | [a0, a1], [b0, b1], _, _, x, y, w => by
    have hu : Tryz.prog.underlying 80 = some (.struct (Tryz.prog.fieldsOf 80)) := by kernel_rfl
    have hst : Tryz.prog.stoodInHeld 80 = false := by kernel_rfl
    simp only [List.map_cons, List.map_nil]
    rw [Sem.run_bind, run_eqGuard_agg w .eql 80 x y _ _ (by kernel_rfl), Result.andThen_ok, run_eql_struct, run_equalIn_struct w 9999 _ _ _ hu hst]
    have hf : (Tryz.prog.fieldsOf 80).toList = (match Tryz.prog.underlying 80 with | some (.struct fs) => fs | _ => #[]).toList := rfl
    rw [hf, Tryz.underlying80]
    simp [Op.eqFields, go_sem, eqInts]
    by_cases h0 : a0 = b0 <;> by_cases h1 : a1 = b1 <;> simp [h0, h1]
set_option maxRecDepth 100000 in
theorem ine80 : ∀ (ps qs : List Int), ps.length = 2 → qs.length = 2 → ∀ x y w, (do eqGuard .neq 80 x y (.agg (ps.map (Value.int .i64)).toArray) (.agg (qs.map (Value.int .i64)).toArray); binOp .neq 80 (.agg (ps.map (Value.int .i64)).toArray) (.agg (qs.map (Value.int .i64)).toArray) : Sem Value).run Tryz.prog w = .ok (.bool (!eqInts ps qs)) w
  | [a0, a1], [b0, b1], _, _, x, y, w => by
    have hu : Tryz.prog.underlying 80 = some (.struct (Tryz.prog.fieldsOf 80)) := by kernel_rfl
    have hst : Tryz.prog.stoodInHeld 80 = false := by kernel_rfl
    simp only [List.map_cons, List.map_nil]
    rw [Sem.run_bind, run_eqGuard_agg w .neq 80 x y _ _ (by kernel_rfl), Result.andThen_ok, run_neq_struct, run_equalIn_struct w 9999 _ _ _ hu hst]
    have hf : (Tryz.prog.fieldsOf 80).toList = (match Tryz.prog.underlying 80 with | some (.struct fs) => fs | _ => #[]).toList := rfl
    rw [hf, Tryz.underlying80]
    simp [Op.eqFields, go_sem, eqInts]
    by_cases h0 : a0 = b0 <;> by_cases h1 : a1 = b1 <;> simp [h0, h1]
theorem tok80 : TOk Tryz.prog 80 ⟨true, 2, [(0, 1), (1, 1)], none, some [.int .i64 0, .int .i64 0], 3, none, [false, false]⟩ := ⟨Tryz.sizeOf80, Tryz.isAgg80, (fun h => by cases h), (fun j off fs h => match j, h with | 0, h => by injection h with h; injection h with h1 h2; subst h1 h2; exact ⟨_, _, Tryz.runUnderlying80, rfl, rfl, Tryz.sizeOf3, by decide⟩ | 1, h => by injection h with h; injection h with h1 h2; subst h1 h2; exact ⟨_, _, Tryz.runUnderlying80, rfl, rfl, Tryz.sizeOf3, by decide⟩ | _ + 2, h => by simp at h), (fun _ _ _ h => by cases h), (fun _ _ _ _ _ h => by cases h), (fun zs h => by cases h; exact ⟨_, Tryz.zeroValue80, rfl, by simp [Value.oneCell']⟩), (fun _ _ _ => ⟨_, Tryz.runUnderlying80, fun w => by simp [Tryz.sizeOf3]⟩), (fun h => by cases h), (fun _ h => by cases h), (fun h => by cases h), (fun _ => ieq80), (fun _ => ine80), (fun j off fs b h h2 => match j, h, h2 with | 0, h, h2 => by injection h with h; injection h with h1 h3; subst h1 h3; injection h2 with h2; subst h2; exact ⟨_, _, Tryz.runUnderlying80, rfl, rfl, Tryz.isAgg3, Tryz.sizeOf3⟩ | 1, h, h2 => by injection h with h; injection h with h1 h3; subst h1 h3; injection h2 with h2; subst h2; exact ⟨_, _, Tryz.runUnderlying80, rfl, rfl, Tryz.isAgg3, Tryz.sizeOf3⟩ | _ + 2, h, _ => by simp at h)⟩
theorem tok94 : TOk Tryz.prog 94 ⟨false, 1, [], none, some [.pointer none], 0, none, []⟩ := ⟨Tryz.sizeOf94, Tryz.isAgg94, (fun _ => rfl), (fun _ _ _ h => by simp at h), (fun _ _ _ h => by cases h), (fun _ _ _ _ _ h => by cases h), (fun zs h => by cases h; exact ⟨_, Tryz.zeroValue94, rfl, by simp [Value.oneCell']⟩), (fun _ _ h => by cases h), (fun h => by cases h), (fun _ h => by cases h), (fun h => by cases h), (fun h => by cases h), (fun h => by cases h), (fun _ _ _ _ _ h => by simp at h)⟩
theorem tok107 : TOk Tryz.prog 107 ⟨false, 1, [], none, some [.int .u64 0], 0, some .u64, []⟩ := ⟨Tryz.sizeOf107, Tryz.isAgg107, (fun _ => rfl), (fun _ _ _ h => by simp at h), (fun _ _ _ h => by cases h), (fun _ _ _ _ _ h => by cases h), (fun zs h => by cases h; exact ⟨_, Tryz.zeroValue107, rfl, by simp [Value.oneCell']⟩), (fun _ _ h => by cases h), (fun h => by cases h), (fun _ h => by cases h; exact Tryz.runUnderlying107), (fun h => by cases h), (fun h => by cases h), (fun h => by cases h), (fun _ _ _ _ _ h => by simp at h)⟩
theorem tok125 : TOk Tryz.prog 125 ⟨false, 1, [], none, some [.int .i64 0], 0, some .i64, []⟩ := ⟨Tryz.sizeOf125, Tryz.isAgg125, (fun _ => rfl), (fun _ _ _ h => by simp at h), (fun _ _ _ h => by cases h), (fun _ _ _ _ _ h => by cases h), (fun zs h => by cases h; exact ⟨_, Tryz.zeroValue125, rfl, by simp [Value.oneCell']⟩), (fun _ _ h => by cases h), (fun h => by cases h), (fun _ h => by cases h; exact Tryz.runUnderlying125), (fun h => by cases h), (fun h => by cases h), (fun h => by cases h), (fun _ _ _ _ _ h => by simp at h)⟩
theorem tok133 : TOk Tryz.prog 133 ⟨false, 1, [], none, some [.int .u32 0], 0, some .u32, []⟩ := ⟨Tryz.sizeOf133, Tryz.isAgg133, (fun _ => rfl), (fun _ _ _ h => by simp at h), (fun _ _ _ h => by cases h), (fun _ _ _ _ _ h => by cases h), (fun zs h => by cases h; exact ⟨_, Tryz.zeroValue133, rfl, by simp [Value.oneCell']⟩), (fun _ _ h => by cases h), (fun h => by cases h), (fun _ h => by cases h; exact Tryz.runUnderlying133), (fun h => by cases h), (fun h => by cases h), (fun h => by cases h), (fun _ _ _ _ _ h => by simp at h)⟩
theorem tok135 : TOk Tryz.prog 135 ⟨false, 1, [], none, some [.int .u64 0], 0, some .u64, []⟩ := ⟨Tryz.sizeOf135, Tryz.isAgg135, (fun _ => rfl), (fun _ _ _ h => by simp at h), (fun _ _ _ h => by cases h), (fun _ _ _ _ _ h => by cases h), (fun zs h => by cases h; exact ⟨_, Tryz.zeroValue135, rfl, by simp [Value.oneCell']⟩), (fun _ _ h => by cases h), (fun h => by cases h), (fun _ h => by cases h; exact Tryz.runUnderlying135), (fun h => by cases h), (fun h => by cases h), (fun h => by cases h), (fun _ _ _ _ _ h => by simp at h)⟩
theorem tok138 : TOk Tryz.prog 138 ⟨false, 1, [], none, some [.int .u64 0], 0, some .u64, []⟩ := ⟨Tryz.sizeOf138, Tryz.isAgg138, (fun _ => rfl), (fun _ _ _ h => by simp at h), (fun _ _ _ h => by cases h), (fun _ _ _ _ _ h => by cases h), (fun zs h => by cases h; exact ⟨_, Tryz.zeroValue138, rfl, by simp [Value.oneCell']⟩), (fun _ _ h => by cases h), (fun h => by cases h), (fun _ h => by cases h; exact Tryz.runUnderlying138), (fun h => by cases h), (fun h => by cases h), (fun h => by cases h), (fun _ _ _ _ _ h => by simp at h)⟩
theorem tok142 : TOk Tryz.prog 142 ⟨false, 1, [], none, some [.pointer none], 0, none, []⟩ := ⟨Tryz.sizeOf142, Tryz.isAgg142, (fun _ => rfl), (fun _ _ _ h => by simp at h), (fun _ _ _ h => by cases h), (fun _ _ _ _ _ h => by cases h), (fun zs h => by cases h; exact ⟨_, Tryz.zeroValue142, rfl, by simp [Value.oneCell']⟩), (fun _ _ h => by cases h), (fun h => by cases h), (fun _ h => by cases h), (fun h => by cases h), (fun h => by cases h), (fun h => by cases h), (fun _ _ _ _ _ h => by simp at h)⟩
theorem tok144 : TOk Tryz.prog 144 ⟨false, 1, [], none, some [.pointer none], 0, none, []⟩ := ⟨Tryz.sizeOf144, Tryz.isAgg144, (fun _ => rfl), (fun _ _ _ h => by simp at h), (fun _ _ _ h => by cases h), (fun _ _ _ _ _ h => by cases h), (fun zs h => by cases h; exact ⟨_, Tryz.zeroValue144, rfl, by simp [Value.oneCell']⟩), (fun _ _ h => by cases h), (fun h => by cases h), (fun _ h => by cases h), (fun h => by cases h), (fun h => by cases h), (fun h => by cases h), (fun _ _ _ _ _ h => by simp at h)⟩
theorem tok148 : TOk Tryz.prog 148 ⟨true, 4, [(0, 1), (1, 1), (2, 1), (3, 1)], none, some [.pointer none, .pointer none, .pointer none, .string ⟨#[]⟩], 0, none, [false, false, false, false]⟩ := ⟨Tryz.sizeOf148, Tryz.isAgg148, (fun h => by cases h), (fun j off fs h => match j, h with | 0, h => by injection h with h; injection h with h1 h2; subst h1 h2; exact ⟨_, _, Tryz.runUnderlying148, rfl, rfl, Tryz.sizeOf17, by decide⟩ | 1, h => by injection h with h; injection h with h1 h2; subst h1 h2; exact ⟨_, _, Tryz.runUnderlying148, rfl, rfl, Tryz.sizeOf17, by decide⟩ | 2, h => by injection h with h; injection h with h1 h2; subst h1 h2; exact ⟨_, _, Tryz.runUnderlying148, rfl, rfl, Tryz.sizeOf17, by decide⟩ | 3, h => by injection h with h; injection h with h1 h2; subst h1 h2; exact ⟨_, _, Tryz.runUnderlying148, rfl, rfl, Tryz.sizeOf9, by decide⟩ | _ + 4, h => by simp at h), (fun _ _ _ h => by cases h), (fun _ _ _ _ _ h => by cases h), (fun zs h => by cases h; exact ⟨_, Tryz.zeroValue148, rfl, by simp [Value.oneCell']⟩), (fun _ _ _ => ⟨_, Tryz.runUnderlying148, fun w => by simp [Tryz.sizeOf17, Tryz.sizeOf9]⟩), (fun h => by cases h), (fun _ h => by cases h), (fun h => by cases h), (fun h => by cases h), (fun h => by cases h), (fun j off fs b h h2 => match j, h, h2 with | 0, h, h2 => by injection h with h; injection h with h1 h3; subst h1 h3; injection h2 with h2; subst h2; exact ⟨_, _, Tryz.runUnderlying148, rfl, rfl, Tryz.isAgg17, Tryz.sizeOf17⟩ | 1, h, h2 => by injection h with h; injection h with h1 h3; subst h1 h3; injection h2 with h2; subst h2; exact ⟨_, _, Tryz.runUnderlying148, rfl, rfl, Tryz.isAgg17, Tryz.sizeOf17⟩ | 2, h, h2 => by injection h with h; injection h with h1 h3; subst h1 h3; injection h2 with h2; subst h2; exact ⟨_, _, Tryz.runUnderlying148, rfl, rfl, Tryz.isAgg17, Tryz.sizeOf17⟩ | 3, h, h2 => by injection h with h; injection h with h1 h3; subst h1 h3; injection h2 with h2; subst h2; exact ⟨_, _, Tryz.runUnderlying148, rfl, rfl, Tryz.isAgg9, Tryz.sizeOf9⟩ | _ + 4, h, _ => by simp at h)⟩
theorem tok149 : TOk Tryz.prog 149 ⟨true, 4, [(0, 1), (1, 1), (2, 1), (3, 1)], none, some [.pointer none, .pointer none, .pointer none, .string ⟨#[]⟩], 0, none, [false, false, false, false]⟩ := ⟨Tryz.sizeOf149, Tryz.isAgg149, (fun h => by cases h), (fun j off fs h => match j, h with | 0, h => by injection h with h; injection h with h1 h2; subst h1 h2; exact ⟨_, _, Tryz.runUnderlying149, rfl, rfl, Tryz.sizeOf17, by decide⟩ | 1, h => by injection h with h; injection h with h1 h2; subst h1 h2; exact ⟨_, _, Tryz.runUnderlying149, rfl, rfl, Tryz.sizeOf17, by decide⟩ | 2, h => by injection h with h; injection h with h1 h2; subst h1 h2; exact ⟨_, _, Tryz.runUnderlying149, rfl, rfl, Tryz.sizeOf17, by decide⟩ | 3, h => by injection h with h; injection h with h1 h2; subst h1 h2; exact ⟨_, _, Tryz.runUnderlying149, rfl, rfl, Tryz.sizeOf9, by decide⟩ | _ + 4, h => by simp at h), (fun _ _ _ h => by cases h), (fun _ _ _ _ _ h => by cases h), (fun zs h => by cases h; exact ⟨_, Tryz.zeroValue149, rfl, by simp [Value.oneCell']⟩), (fun _ _ _ => ⟨_, Tryz.runUnderlying149, fun w => by simp [Tryz.sizeOf17, Tryz.sizeOf9]⟩), (fun h => by cases h), (fun _ h => by cases h), (fun h => by cases h), (fun h => by cases h), (fun h => by cases h), (fun j off fs b h h2 => match j, h, h2 with | 0, h, h2 => by injection h with h; injection h with h1 h3; subst h1 h3; injection h2 with h2; subst h2; exact ⟨_, _, Tryz.runUnderlying149, rfl, rfl, Tryz.isAgg17, Tryz.sizeOf17⟩ | 1, h, h2 => by injection h with h; injection h with h1 h3; subst h1 h3; injection h2 with h2; subst h2; exact ⟨_, _, Tryz.runUnderlying149, rfl, rfl, Tryz.isAgg17, Tryz.sizeOf17⟩ | 2, h, h2 => by injection h with h; injection h with h1 h3; subst h1 h3; injection h2 with h2; subst h2; exact ⟨_, _, Tryz.runUnderlying149, rfl, rfl, Tryz.isAgg17, Tryz.sizeOf17⟩ | 3, h, h2 => by injection h with h; injection h with h1 h3; subst h1 h3; injection h2 with h2; subst h2; exact ⟨_, _, Tryz.runUnderlying149, rfl, rfl, Tryz.isAgg9, Tryz.sizeOf9⟩ | _ + 4, h, _ => by simp at h)⟩
theorem tok154 : TOk Tryz.prog 154 ⟨false, 1, [], none, some [.int .u8 0], 0, some .u8, []⟩ := ⟨Tryz.sizeOf154, Tryz.isAgg154, (fun _ => rfl), (fun _ _ _ h => by simp at h), (fun _ _ _ h => by cases h), (fun _ _ _ _ _ h => by cases h), (fun zs h => by cases h; exact ⟨_, Tryz.zeroValue154, rfl, by simp [Value.oneCell']⟩), (fun _ _ h => by cases h), (fun h => by cases h), (fun _ h => by cases h; exact Tryz.runUnderlying154), (fun h => by cases h), (fun h => by cases h), (fun h => by cases h), (fun _ _ _ _ _ h => by simp at h)⟩
theorem tok155 : TOk Tryz.prog 155 ⟨false, 1, [], none, some [.int .u8 0], 0, some .u8, []⟩ := ⟨Tryz.sizeOf155, Tryz.isAgg155, (fun _ => rfl), (fun _ _ _ h => by simp at h), (fun _ _ _ h => by cases h), (fun _ _ _ _ _ h => by cases h), (fun zs h => by cases h; exact ⟨_, Tryz.zeroValue155, rfl, by simp [Value.oneCell']⟩), (fun _ _ h => by cases h), (fun h => by cases h), (fun _ h => by cases h; exact Tryz.runUnderlying155), (fun h => by cases h), (fun h => by cases h), (fun h => by cases h), (fun _ _ _ _ _ h => by simp at h)⟩
theorem tok157 : TOk Tryz.prog 157 ⟨false, 1, [], none, some [.pointer none], 0, none, []⟩ := ⟨Tryz.sizeOf157, Tryz.isAgg157, (fun _ => rfl), (fun _ _ _ h => by simp at h), (fun _ _ _ h => by cases h), (fun _ _ _ _ _ h => by cases h), (fun zs h => by cases h; exact ⟨_, Tryz.zeroValue157, rfl, by simp [Value.oneCell']⟩), (fun _ _ h => by cases h), (fun h => by cases h), (fun _ h => by cases h), (fun h => by cases h), (fun h => by cases h), (fun h => by cases h), (fun _ _ _ _ _ h => by simp at h)⟩
theorem tok158 : TOk Tryz.prog 158 ⟨false, 1, [], none, some [.int .i32 0], 0, some .i32, []⟩ := ⟨Tryz.sizeOf158, Tryz.isAgg158, (fun _ => rfl), (fun _ _ _ h => by simp at h), (fun _ _ _ h => by cases h), (fun _ _ _ _ _ h => by cases h), (fun zs h => by cases h; exact ⟨_, Tryz.zeroValue158, rfl, by simp [Value.oneCell']⟩), (fun _ _ h => by cases h), (fun h => by cases h), (fun _ h => by cases h; exact Tryz.runUnderlying158), (fun h => by cases h), (fun h => by cases h), (fun h => by cases h), (fun _ _ _ _ _ h => by simp at h)⟩
theorem tok159 : TOk Tryz.prog 159 ⟨false, 1, [], none, some [.int .i32 0], 0, some .i32, []⟩ := ⟨Tryz.sizeOf159, Tryz.isAgg159, (fun _ => rfl), (fun _ _ _ h => by simp at h), (fun _ _ _ h => by cases h), (fun _ _ _ _ _ h => by cases h), (fun zs h => by cases h; exact ⟨_, Tryz.zeroValue159, rfl, by simp [Value.oneCell']⟩), (fun _ _ h => by cases h), (fun h => by cases h), (fun _ h => by cases h; exact Tryz.runUnderlying159), (fun h => by cases h), (fun h => by cases h), (fun h => by cases h), (fun _ _ _ _ _ h => by simp at h)⟩
theorem tok160 : TOk Tryz.prog 160 ⟨true, 11, [(0, 1), (1, 1), (2, 1), (3, 1), (4, 1), (5, 1), (6, 1), (7, 1), (8, 1), (9, 1), (10, 1)], none, some [.int .u64 0, .int .u64 0, .int .u32 0, .int .u8 0, .int .u8 0, .int .u8 0, .int .u8 0, .nilFunc, .pointer none, .int .i32 0, .int .i32 0], 0, none, []⟩ := ⟨Tryz.sizeOf160, Tryz.isAgg160, (fun h => by cases h), (fun j off fs h => match j, h with | 0, h => by injection h with h; injection h with h1 h2; subst h1 h2; exact ⟨_, _, Tryz.runUnderlying160, rfl, rfl, Tryz.sizeOf12, by decide⟩ | 1, h => by injection h with h; injection h with h1 h2; subst h1 h2; exact ⟨_, _, Tryz.runUnderlying160, rfl, rfl, Tryz.sizeOf12, by decide⟩ | 2, h => by injection h with h; injection h with h1 h2; subst h1 h2; exact ⟨_, _, Tryz.runUnderlying160, rfl, rfl, Tryz.sizeOf133, by decide⟩ | 3, h => by injection h with h; injection h with h1 h2; subst h1 h2; exact ⟨_, _, Tryz.runUnderlying160, rfl, rfl, Tryz.sizeOf154, by decide⟩ | 4, h => by injection h with h; injection h with h1 h2; subst h1 h2; exact ⟨_, _, Tryz.runUnderlying160, rfl, rfl, Tryz.sizeOf5, by decide⟩ | 5, h => by injection h with h; injection h with h1 h2; subst h1 h2; exact ⟨_, _, Tryz.runUnderlying160, rfl, rfl, Tryz.sizeOf5, by decide⟩ | 6, h => by injection h with h; injection h with h1 h2; subst h1 h2; exact ⟨_, _, Tryz.runUnderlying160, rfl, rfl, Tryz.sizeOf155, by decide⟩ | 7, h => by injection h with h; injection h with h1 h2; subst h1 h2; exact ⟨_, _, Tryz.runUnderlying160, rfl, rfl, Tryz.sizeOf156, by decide⟩ | 8, h => by injection h with h; injection h with h1 h2; subst h1 h2; exact ⟨_, _, Tryz.runUnderlying160, rfl, rfl, Tryz.sizeOf157, by decide⟩ | 9, h => by injection h with h; injection h with h1 h2; subst h1 h2; exact ⟨_, _, Tryz.runUnderlying160, rfl, rfl, Tryz.sizeOf158, by decide⟩ | 10, h => by injection h with h; injection h with h1 h2; subst h1 h2; exact ⟨_, _, Tryz.runUnderlying160, rfl, rfl, Tryz.sizeOf159, by decide⟩ | _ + 11, h => by simp at h), (fun _ _ _ h => by cases h), (fun _ _ _ _ _ h => by cases h), (fun zs h => by cases h; exact ⟨_, Tryz.zeroValue160, rfl, by simp [Value.oneCell']⟩), (fun _ _ _ => ⟨_, Tryz.runUnderlying160, fun w => by simp [Tryz.sizeOf12, Tryz.sizeOf133, Tryz.sizeOf154, Tryz.sizeOf155, Tryz.sizeOf156, Tryz.sizeOf157, Tryz.sizeOf158, Tryz.sizeOf159, Tryz.sizeOf5]⟩), (fun h => by cases h), (fun _ h => by cases h), (fun h => by cases h), (fun h => by cases h), (fun h => by cases h), (fun _ _ _ _ _ h => by simp at h)⟩
theorem tok161 : TOk Tryz.prog 161 ⟨true, 11, [(0, 1), (1, 1), (2, 1), (3, 1), (4, 1), (5, 1), (6, 1), (7, 1), (8, 1), (9, 1), (10, 1)], none, some [.int .u64 0, .int .u64 0, .int .u32 0, .int .u8 0, .int .u8 0, .int .u8 0, .int .u8 0, .nilFunc, .pointer none, .int .i32 0, .int .i32 0], 0, none, []⟩ := ⟨Tryz.sizeOf161, Tryz.isAgg161, (fun h => by cases h), (fun j off fs h => match j, h with | 0, h => by injection h with h; injection h with h1 h2; subst h1 h2; exact ⟨_, _, Tryz.runUnderlying161, rfl, rfl, Tryz.sizeOf12, by decide⟩ | 1, h => by injection h with h; injection h with h1 h2; subst h1 h2; exact ⟨_, _, Tryz.runUnderlying161, rfl, rfl, Tryz.sizeOf12, by decide⟩ | 2, h => by injection h with h; injection h with h1 h2; subst h1 h2; exact ⟨_, _, Tryz.runUnderlying161, rfl, rfl, Tryz.sizeOf133, by decide⟩ | 3, h => by injection h with h; injection h with h1 h2; subst h1 h2; exact ⟨_, _, Tryz.runUnderlying161, rfl, rfl, Tryz.sizeOf154, by decide⟩ | 4, h => by injection h with h; injection h with h1 h2; subst h1 h2; exact ⟨_, _, Tryz.runUnderlying161, rfl, rfl, Tryz.sizeOf5, by decide⟩ | 5, h => by injection h with h; injection h with h1 h2; subst h1 h2; exact ⟨_, _, Tryz.runUnderlying161, rfl, rfl, Tryz.sizeOf5, by decide⟩ | 6, h => by injection h with h; injection h with h1 h2; subst h1 h2; exact ⟨_, _, Tryz.runUnderlying161, rfl, rfl, Tryz.sizeOf155, by decide⟩ | 7, h => by injection h with h; injection h with h1 h2; subst h1 h2; exact ⟨_, _, Tryz.runUnderlying161, rfl, rfl, Tryz.sizeOf156, by decide⟩ | 8, h => by injection h with h; injection h with h1 h2; subst h1 h2; exact ⟨_, _, Tryz.runUnderlying161, rfl, rfl, Tryz.sizeOf157, by decide⟩ | 9, h => by injection h with h; injection h with h1 h2; subst h1 h2; exact ⟨_, _, Tryz.runUnderlying161, rfl, rfl, Tryz.sizeOf158, by decide⟩ | 10, h => by injection h with h; injection h with h1 h2; subst h1 h2; exact ⟨_, _, Tryz.runUnderlying161, rfl, rfl, Tryz.sizeOf159, by decide⟩ | _ + 11, h => by simp at h), (fun _ _ _ h => by cases h), (fun _ _ _ _ _ h => by cases h), (fun zs h => by cases h; exact ⟨_, Tryz.zeroValue161, rfl, by simp [Value.oneCell']⟩), (fun _ _ _ => ⟨_, Tryz.runUnderlying161, fun w => by simp [Tryz.sizeOf12, Tryz.sizeOf133, Tryz.sizeOf154, Tryz.sizeOf155, Tryz.sizeOf156, Tryz.sizeOf157, Tryz.sizeOf158, Tryz.sizeOf159, Tryz.sizeOf5]⟩), (fun h => by cases h), (fun _ h => by cases h), (fun h => by cases h), (fun h => by cases h), (fun h => by cases h), (fun _ _ _ _ _ h => by simp at h)⟩
def tyl : List (Nat × TI) := [(2, ⟨false, 1, [], none, some [.int .i64 0], 0, some .i64, []⟩),
  (3, ⟨false, 1, [], none, some [.int .i64 0], 0, some .i64, []⟩),
  (4, ⟨false, 1, [], none, some [.bool false], 1, none, []⟩),
  (5, ⟨false, 1, [], none, some [.int .u8 0], 0, some .u8, []⟩),
  (9, ⟨false, 1, [], none, some [.string ⟨#[]⟩], 2, none, []⟩),
  (21, ⟨false, 1, [], none, some [.int .i32 0], 0, some .i32, []⟩),
  (22, ⟨false, 1, [], some (5, .u8, 1), some [.slice none 0 0], 0, none, []⟩),
  (23, ⟨false, 1, [], some (75, .lk, 24), some [.slice none 0 0], 0, none, []⟩),
  (24, ⟨true, 2, [(0, 1), (1, 1)], none, some [.int .i64 0, .slice none 0 0], 0, none, [false, false]⟩),
  (25, ⟨true, 2, [(0, 1), (1, 1)], none, some [.int .i64 0, .slice none 0 0], 0, none, [false, false]⟩),
  (26, ⟨false, 1, [], some (4, .bool, 1), some [.slice none 0 0], 0, none, []⟩),
  (27, ⟨false, 1, [], some (3, .int, 8), some [.slice none 0 0], 0, none, []⟩),
  (28, ⟨false, 1, [], some (45, .db, 24), some [.slice none 0 0], 0, none, []⟩),
  (29, ⟨false, 1, [], some (54, .pk, 48), some [.slice none 0 0], 0, none, []⟩),
  (30, ⟨true, 6, [(0, 2), (2, 1), (3, 1), (4, 1), (5, 1)], none, some [.int .i64 0, .slice none 0 0, .slice none 0 0, .slice none 0 0, .slice none 0 0, .slice none 0 0], 0, none, [true, false, false, false, false]⟩),
  (31, ⟨true, 6, [(0, 2), (2, 1), (3, 1), (4, 1), (5, 1)], none, some [.int .i64 0, .slice none 0 0, .slice none 0 0, .slice none 0 0, .slice none 0 0, .slice none 0 0], 0, none, [true, false, false, false, false]⟩),
  (36, ⟨true, 2, [(0, 1), (1, 1)], none, some [.int .i64 0, .int .i64 0], 0, none, [false, false]⟩),
  (37, ⟨true, 2, [(0, 1), (1, 1)], none, some [.int .i64 0, .int .i64 0], 3, none, [false, false]⟩),
  (42, ⟨false, 1, [], none, some [.pointer none], 0, none, []⟩),
  (45, ⟨false, 1, [], some (52, .ls, 40), some [.slice none 0 0], 0, none, []⟩),
  (50, ⟨false, 1, [], some (80, .en, 16), some [.slice none 0 0], 0, none, []⟩),
  (51, ⟨true, 3, [(0, 1), (1, 1), (2, 1)], none, some [.int .i64 0, .int .i64 0, .slice none 0 0], 0, none, [false, false, false]⟩),
  (52, ⟨true, 3, [(0, 1), (1, 1), (2, 1)], none, some [.int .i64 0, .int .i64 0, .slice none 0 0], 0, none, [false, false, false]⟩),
  (53, ⟨true, 4, [(0, 1), (1, 3)], none, some [.int .i64 0, .int .i64 0, .int .i64 0, .slice none 0 0], 0, none, [false, true]⟩),
  (54, ⟨true, 4, [(0, 1), (1, 3)], none, some [.int .i64 0, .int .i64 0, .int .i64 0, .slice none 0 0], 0, none, [false, true]⟩),
  (72, ⟨true, 2, [(0, 1), (1, 1)], none, some [.slice none 0 0, .int .i64 0], 0, none, [false, false]⟩),
  (73, ⟨true, 2, [(0, 1), (1, 1)], none, some [.slice none 0 0, .int .i64 0], 0, none, [false, false]⟩),
  (74, ⟨true, 3, [(0, 1), (1, 1), (2, 1)], none, some [.int .i64 0, .int .i64 0, .int .i64 0], 0, none, [false, false, false]⟩),
  (75, ⟨true, 3, [(0, 1), (1, 1), (2, 1)], none, some [.int .i64 0, .int .i64 0, .int .i64 0], 3, none, [false, false, false]⟩),
  (79, ⟨true, 2, [(0, 1), (1, 1)], none, some [.int .i64 0, .int .i64 0], 0, none, [false, false]⟩),
  (80, ⟨true, 2, [(0, 1), (1, 1)], none, some [.int .i64 0, .int .i64 0], 3, none, [false, false]⟩),
  (94, ⟨false, 1, [], none, some [.pointer none], 0, none, []⟩),
  (107, ⟨false, 1, [], none, some [.int .u64 0], 0, some .u64, []⟩),
  (125, ⟨false, 1, [], none, some [.int .i64 0], 0, some .i64, []⟩),
  (133, ⟨false, 1, [], none, some [.int .u32 0], 0, some .u32, []⟩),
  (135, ⟨false, 1, [], none, some [.int .u64 0], 0, some .u64, []⟩),
  (138, ⟨false, 1, [], none, some [.int .u64 0], 0, some .u64, []⟩),
  (142, ⟨false, 1, [], none, some [.pointer none], 0, none, []⟩),
  (144, ⟨false, 1, [], none, some [.pointer none], 0, none, []⟩),
  (148, ⟨true, 4, [(0, 1), (1, 1), (2, 1), (3, 1)], none, some [.pointer none, .pointer none, .pointer none, .string ⟨#[]⟩], 0, none, [false, false, false, false]⟩),
  (149, ⟨true, 4, [(0, 1), (1, 1), (2, 1), (3, 1)], none, some [.pointer none, .pointer none, .pointer none, .string ⟨#[]⟩], 0, none, [false, false, false, false]⟩),
  (154, ⟨false, 1, [], none, some [.int .u8 0], 0, some .u8, []⟩),
  (155, ⟨false, 1, [], none, some [.int .u8 0], 0, some .u8, []⟩),
  (157, ⟨false, 1, [], none, some [.pointer none], 0, none, []⟩),
  (158, ⟨false, 1, [], none, some [.int .i32 0], 0, some .i32, []⟩),
  (159, ⟨false, 1, [], none, some [.int .i32 0], 0, some .i32, []⟩),
  (160, ⟨true, 11, [(0, 1), (1, 1), (2, 1), (3, 1), (4, 1), (5, 1), (6, 1), (7, 1), (8, 1), (9, 1), (10, 1)], none, some [.int .u64 0, .int .u64 0, .int .u32 0, .int .u8 0, .int .u8 0, .int .u8 0, .int .u8 0, .nilFunc, .pointer none, .int .i32 0, .int .i32 0], 0, none, []⟩),
  (161, ⟨true, 11, [(0, 1), (1, 1), (2, 1), (3, 1), (4, 1), (5, 1), (6, 1), (7, 1), (8, 1), (9, 1), (10, 1)], none, some [.int .u64 0, .int .u64 0, .int .u32 0, .int .u8 0, .int .u8 0, .int .u8 0, .int .u8 0, .nilFunc, .pointer none, .int .i32 0, .int .i32 0], 0, none, []⟩)]
def tab : TypeId → Option TI := lookT tyl
theorem tabOk : TabOk Tryz.prog tab := tab_ok (l := tyl) ⟨tok2, ⟨tok3, ⟨tok4, ⟨tok5, ⟨tok9, ⟨tok21, ⟨tok22, ⟨tok23, ⟨tok24, ⟨tok25, ⟨tok26, ⟨tok27, ⟨tok28, ⟨tok29, ⟨tok30, ⟨tok31, ⟨tok36, ⟨tok37, ⟨tok42, ⟨tok45, ⟨tok50, ⟨tok51, ⟨tok52, ⟨tok53, ⟨tok54, ⟨tok72, ⟨tok73, ⟨tok74, ⟨tok75, ⟨tok79, ⟨tok80, ⟨tok94, ⟨tok107, ⟨tok125, ⟨tok133, ⟨tok135, ⟨tok138, ⟨tok142, ⟨tok144, ⟨tok148, ⟨tok149, ⟨tok154, ⟨tok155, ⟨tok157, ⟨tok158, ⟨tok159, ⟨tok160, ⟨tok161, trivial⟩⟩⟩⟩⟩⟩⟩⟩⟩⟩⟩⟩⟩⟩⟩⟩⟩⟩⟩⟩⟩⟩⟩⟩⟩⟩⟩⟩⟩⟩⟩⟩⟩⟩⟩⟩⟩⟩⟩⟩⟩⟩⟩⟩⟩⟩⟩⟩
theorem mixed : Tryz.prog.follows .mixedOrders = true := by kernel_rfl
end Go.Proofs.YtjffopopheiinaaGreat
end
section
namespace Go.Proofs.YtjffopopheiinaaGreat
set_option maxRecDepth 100000
open Go.ChangeShapes Go.WideShapes Go.ChangeAt Go.RowKit Go.Deep Go.Joins

theorem row_own : ownKnob Tryz.prog.godebug = none := by kernel_rfl
theorem row_laid : laidOutB Tryz.prog = true := by kernel_rfl
def Holds (f : FuncId) (args : Array Value) (W : World) : Prop := Calls Tryz.prog f args W fun e W' => e = .returned (.bool true) ∧ Below W.heap.size W W'
def NoB : Nat → Prop := Liv [] []
theorem noB (b : Nat) : ¬ NoB b := fun ⟨k, o, c, h, _⟩ => by simp at h
def Opn (w : World) (v : Value) (d : PV) : Prop := Cv w NoB (fun _ => False) [] [] d v
theorem holds_gcG {f : FuncId} {e : Entry} (hg : GC Tryz.prog f e) {s : HL e.ah} {r : HL e.rh} (hs : e.sh s = some r) {ds : List PV} (hf : e.AS.fill (up e.ah s) = some (ds, [])) (hr : e.RS.fill (up e.rh r) = some ([.im (.s (.bool true))], [])) {W : World} {args : List Value} (hx : F2 (fun d v => Opn W v d) ds args) (hG : Glb W [] []) : Holds f args.toArray W := by
  refine (hg s r hs ds [] hf _ _ hr W (fun _ => False) [] args (fun b h => h.elim) ⟨rfl, fun b hb => hb, fun b _ h => h, fun k o hk => by simp at hk, fun j k o o' b c c' hj => by simp at hj⟩ hx hG).mono ?_
  rintro e' w' ⟨u, β', rfl, st, _, hu⟩
  have : u = .bool true := im_s hu
  exact ⟨by rw [this], st.os, st.tape, st.output, st.size, fun b hb => st.block b hb (noB b)⟩
theorem holds_gc {f : FuncId} {e : Entry} (hg : GC Tryz.prog f e) {s : HL e.ah} {r : HL e.rh} (hs : e.sh s = some r) {ds : List PV} (hf : e.AS.fill (up e.ah s) = some (ds, [])) (hr : e.RS.fill (up e.rh r) = some ([.im (.s (.bool true))], [])) {W : World} {args : List Value} (hx : F2 (fun d v => Opn W v d) ds args) : Holds f args.toArray W :=
  holds_gcG hg hs hf hr hx fun g cs h => by simp [globs] at h
theorem addr_flat {w : World} {x : Addr} {v : Value} (h : w.cell? x = some v) : ∃ b o, x = ⟨b, o, none⟩ := by
  obtain ⟨b, o, s⟩ := x
  cases s with
  | none => exact ⟨b, o, rfl⟩
  | some t =>
    unfold World.cell? at h
    split at h <;> simp at h
theorem cell_lt' {w : World} {b o : Nat} {v : Value} (h : w.cell? ⟨b, o, none⟩ = some v) : b < w.heap.size := by
  unfold World.cell? at h
  rcases Nat.lt_or_ge b w.heap.size with hb | hb
  · exact hb
  · simp [Array.getElem?_eq_none hb] at h
theorem ri_flat {w : World} (g : Bool) {τ : Ty} {xs : List (El τ)} {A : Option Addr} {cap : Nat} {us : List Value} (hcap : xs.length ≤ cap ∧ cap ≤ maxLen) (hu : flt τ xs = us.map IV.s) (hA : 0 < xs.length → ∃ b o, A = some ⟨b, o, none⟩ ∧ ∀ (j : Nat) v, us[j]? = some v → w.cell? ⟨b, o + j, none⟩ = some v) : Ri w NoB (fun _ => False) (.sl g τ xs) (.slice A xs.length cap) := by
  have hl : us.length = xs.length * sz τ := by rw [← flt_len, hu, List.length_map]
  have hr : ∀ (j : Nat) x u, (flt τ xs)[j]? = some x → us[j]? = some u → Ri w NoB (fun _ => False) x u := fun j x u hx hj => by
    rw [hu, List.getElem?_map, hj] at hx
    injection hx with hx
    subst hx
    exact .s u
  rcases Nat.eq_zero_or_pos xs.length with h0 | h0
  · have hu0 : us = [] := List.length_eq_zero_iff.1 (by rw [hl, h0, Nat.zero_mul])
    subst hu0
    exact .sl g τ xs A cap 0 0 [] (fun h => by omega) hcap (by rw [hu]; rfl) (fun j u hj => by simp at hj) hr
  · obtain ⟨b, o, rfl, hc⟩ := hA h0
    have hp : 0 < us.length := by rw [hl]; exact Nat.mul_pos h0 (sz_pos τ)
    have hb : b < w.heap.size := cell_lt' (hc 0 us[0] (List.getElem?_eq_getElem hp))
    exact .sl g τ xs _ cap b o us (fun _ => ⟨rfl, hb, noB b, fun _ h => h⟩) hcap (by rw [hu, List.length_map]) hc hr
section
variable {H : Type} {enc : TypeId × Value → H} {P : Program} {w : World}
theorem open_zs {τ : Ty} {k : IntKind} (f : Int → El τ) (hf : ∀ z, cells τ (f z) = [.s (.int k z)]) {t e : TypeId} {fuel : Nat} {cs : List Value} {x : DataW H × List MemPlace} (ht : P.underlying t = some (.slice e)) (he : P.underlying e = some (.int k)) (hc : P.cellsOf e = 1)
    (h : DataW.trod enc P w 0 (fun _ => true) true fuel t cs = some x) : ∃ (A : Option Addr) (n cap : Nat) (zs : List Int), cs = [.slice A n cap] ∧ zs.length = n ∧ n ≤ maxLen ∧ (∀ z ∈ zs, (Lit.int k z).wf = true) ∧ ∀ g, Ri w NoB (fun _ => False) (.sl g τ (zs.map f)) (.slice A n cap) := by
  have flat : ∀ zs : List Int, flt τ (zs.map f) = (zs.map (Value.int k)).map IV.s := fun zs => by
    induction zs with
    | nil => rfl
    | cons z r ih => rw [List.map_cons, flt_cons, hf, ih]; rfl
  rcases open_ints ht he hc h with ⟨rfl, _⟩ | ⟨a, len, cap, zs, rfl, _, hl, hm, hz, _, hcell, hw⟩
  · exact ⟨none, 0, 0, [], rfl, rfl, Nat.zero_le _, fun z hz => by simp at hz, fun g => by
      have := ri_flat (w := w) g (τ := τ) (xs := []) (A := none) (cap := 0) (us := []) ⟨Nat.le_refl _, Nat.zero_le _⟩ rfl (fun h => by simp at h)
      exact this⟩
  · simp only [if_true] at hz
    refine ⟨some a, len, cap, zs.take len, rfl, by simp; omega, by omega, fun z hz => hw z (List.mem_of_mem_take hz), fun g => ?_⟩
    have e : ((zs.take len).map f).length = len := by simp; omega
    have := ri_flat (w := w) g (τ := τ) (xs := (zs.take len).map f) (A := some a) (cap := cap) (us := (zs.take len).map (Value.int k)) (by rw [e]; exact ⟨hl, hm⟩) (flat _) (fun h0 => by
      rw [e] at h0
      have h1 := hcell 0 (by omega)
      rw [Addr.add_zero'] at h1
      obtain ⟨b, o, rfl⟩ := addr_flat h1
      refine ⟨b, o, rfl, fun j u hu => ?_⟩
      have hj : j < len := by
        have := (List.getElem?_eq_some_iff.1 hu).1
        simp at this
        omega
      have h2 := hcell j (by omega)
      rw [Addr.add_lit] at h2
      rw [h2]
      simp only [List.getElem?_map, List.getElem?_take, hj, if_true] at hu
      obtain ⟨z, hz1, rfl⟩ := Option.map_eq_some_iff.1 hu
      simp [List.getD, hz1])
    rwa [e] at this
end
section
variable {H : Type} {enc : TypeId × Value → H} {W : World} {v : Value} {d : DataW H} {p : List MemPlace}
theorem opn_bytes {r : Reach} {b0 : Nat} (hv : Value.okWide Tryz.prog W r b0 22 v) (h : DataW.Trod enc Tryz.prog W 0 (fun _ => true) true 22 v d p) : ∃ zs : List Int, zs.length ≤ maxLen ∧ (∀ z ∈ zs, 0 ≤ z ∧ z < 256) ∧ ∀ g, Opn W v (.im (.sl g .u8 zs)) := by
  obtain ⟨a, len, cap, rfl⟩ := okWide_slice Tryz.underlying22 hv
  obtain ⟨fuel, hf⟩ := h
  obtain ⟨A, n, cap', zs, e, hl, hm, hw, hr⟩ := open_zs (τ := .u8) (fun z => z) (fun _ => rfl) Tryz.underlying22 Tryz.underlying5 (by kernel_rfl) hf
  simp [Value.cells] at e
  obtain ⟨rfl, rfl, rfl⟩ := e
  refine ⟨zs, by omega, fun z hz => ?_, fun g => (by have := hr g; rw [List.map_id'] at this; exact this)⟩
  have := hw z hz
  simp [Lit.wf, IntKind.min, IntKind.max, IntKind.signed, IntKind.bits] at this
  omega
end
end Go.Proofs.YtjffopopheiinaaGreat
end
section
namespace Go.Proofs.YtjffopopheiinaaGreat
open Go.RowKit
set_option maxRecDepth 100000
def zK3 (s : (List Int × Unit)) : Option (List Int × Int × Unit) := (bif decide (((2000 : Int) < nI (List.length s.1))) then (bif bnd2 ((0 : Int)) ((2000 : Int)) (List.length s.1) then some ((List.take ((Int.toNat ((2000 : Int)) - Int.toNat ((0 : Int)))) (List.drop (Int.toNat ((0 : Int))) s.1), (0 : Int), ())) else none) else some ((s.1, (0 : Int), ())))
def zK4 (s : (Int × List Int × Int × Unit)) : Option (Int × List Int × Int × Unit) := (bif decide ((s.1 < (1 : Int))) then some (((0 : Int), s.2.1, wrap64 ((s.2.2.1 + (1 : Int))), ())) else (bif decide ((nI (List.length s.2.1) = (0 : Int))) then some (((0 : Int), s.2.1, wrap64 ((s.2.2.1 + (1 : Int))), ())) else (bif decide ((wrap64 ((wrap64 ((s.2.2.1 + (1 : Int))) - (1 : Int))) < nI (List.length s.2.1))) then (bif inR (wrap64 ((wrap64 ((s.2.2.1 + (1 : Int))) - (1 : Int)))) (List.length s.2.1) then (bif (!(decide ((s.1 = (0 : Int))))) then some ((Int.tmod (wrap64 (at! .u8 s.2.1 (Int.toNat (wrap64 ((wrap64 ((s.2.2.1 + (1 : Int))) - (1 : Int))))))) s.1, s.2.1, wrap64 ((s.2.2.1 + (1 : Int))), ())) else none) else none) else (bif (!(decide ((nI (List.length s.2.1) = (0 : Int))))) then (bif inR (Int.tmod (wrap64 ((wrap64 ((s.2.2.1 + (1 : Int))) - (1 : Int)))) (nI (List.length s.2.1))) (List.length s.2.1) then (bif (!(decide ((nI (List.length s.2.1) = (0 : Int))))) then (bif inR (Int.tmod (wrap64 ((wrap64 ((wrap64 ((wrap64 ((s.2.2.1 + (1 : Int))) - (1 : Int))) * (7 : Int))) + (3 : Int)))) (nI (List.length s.2.1))) (List.length s.2.1) then (bif (!(decide ((nI (List.length s.2.1) = (0 : Int))))) then (bif (!(decide ((s.1 = (0 : Int))))) then some ((Int.tmod (xorK .i64 (wrap64 ((wrap64 ((wrap64 ((wrap64 ((wrap64 (at! .u8 s.2.1 (Int.toNat (Int.tmod (wrap64 ((wrap64 ((s.2.2.1 + (1 : Int))) - (1 : Int)))) (nI (List.length s.2.1))))) * (131 : Int))) + wrap64 ((wrap64 (at! .u8 s.2.1 (Int.toNat (Int.tmod (wrap64 ((wrap64 ((wrap64 ((wrap64 ((s.2.2.1 + (1 : Int))) - (1 : Int))) * (7 : Int))) + (3 : Int)))) (nI (List.length s.2.1))))) * (1117 : Int))))) + wrap64 ((wrap64 ((wrap64 ((s.2.2.1 + (1 : Int))) - (1 : Int))) * (29 : Int))))) + wrap64 ((wrap64 (Int.tdiv (wrap64 ((wrap64 ((s.2.2.1 + (1 : Int))) - (1 : Int)))) (nI (List.length s.2.1))) * (53 : Int)))))) (wrap64 (Int.tdiv (wrap64 ((wrap64 ((wrap64 ((wrap64 ((wrap64 (at! .u8 s.2.1 (Int.toNat (Int.tmod (wrap64 ((wrap64 ((s.2.2.1 + (1 : Int))) - (1 : Int)))) (nI (List.length s.2.1))))) * (131 : Int))) + wrap64 ((wrap64 (at! .u8 s.2.1 (Int.toNat (Int.tmod (wrap64 ((wrap64 ((wrap64 ((wrap64 ((s.2.2.1 + (1 : Int))) - (1 : Int))) * (7 : Int))) + (3 : Int)))) (nI (List.length s.2.1))))) * (1117 : Int))))) + wrap64 ((wrap64 ((wrap64 ((s.2.2.1 + (1 : Int))) - (1 : Int))) * (29 : Int))))) + wrap64 ((wrap64 (Int.tdiv (wrap64 ((wrap64 ((s.2.2.1 + (1 : Int))) - (1 : Int)))) (nI (List.length s.2.1))) * (53 : Int)))))) ((64 : Int))))) s.1, s.2.1, wrap64 ((s.2.2.1 + (1 : Int))), ())) else none) else none) else none) else none) else none) else none))))
def zCE (s : (Int × Int × Int × List Int × Int × Int × List Lk × Int × List Lk × Unit)) : Option ((Int × Int × Int × List Int × Int × Int × List Lk × Int × List Lk × Unit) ⊕ ((Int × Int × List Int × Int × Int × List Lk × Int × List Lk × Unit) ⊕ Unit)) := (bif decide ((s.2.2.1 < s.2.2.2.2.2.2.2.1)) then (bif decide ((s.2.2.1 = wrap64 ((s.2.1 + (1 : Int))))) then (bif decide ((nI (List.length s.2.2.2.2.2.2.2.2.1) < (14 : Int))) then (zK4 (((8 : Int), (s.2.2.2.1, (s.2.2.2.2.1, ()))))).bind fun r0 => (bif decide (((0 : Int) < r0.1)) then (zK4 (((3 : Int), (r0.2.1, (r0.2.2.1, ()))))).bind fun r1 => (zK4 (((4 : Int), (r1.2.1, (r1.2.2.1, ()))))).bind fun r2 => (zK4 (((8 : Int), (r2.2.1, (r2.2.2.1, ()))))).bind fun r3 => (bif decide (((List.length s.2.2.2.2.2.2.2.2.1 + List.length ([(Lk.mk s.2.1 s.2.2.1 (wrap64 ((wrap64 (((1 : Int) + r1.1)) + wrap64 ((wrap64 (Int.tdiv r2.1 ((3 : Int))) * r3.1))))))])) ≤ (33554432 : Nat))) then some (Sum.inl ((s.1, s.2.1, wrap64 ((s.2.2.1 + (1 : Int))), r3.2.1, r3.2.2.1, s.2.2.2.2.2.1, s.2.2.2.2.2.2.1, s.2.2.2.2.2.2.2.1, (s.2.2.2.2.2.2.2.2.1 ++ [(Lk.mk s.2.1 s.2.2.1 (wrap64 ((wrap64 (((1 : Int) + r1.1)) + wrap64 ((wrap64 (Int.tdiv r2.1 ((3 : Int))) * r3.1))))))]), ()))) else none) else (zK4 (((6 : Int), (r0.2.1, (r0.2.2.1, ()))))).bind fun r4 => (bif decide ((r4.1 < s.1)) then (zK4 (((3 : Int), (r4.2.1, (r4.2.2.1, ()))))).bind fun r5 => (zK4 (((4 : Int), (r5.2.1, (r5.2.2.1, ()))))).bind fun r6 => (zK4 (((8 : Int), (r6.2.1, (r6.2.2.1, ()))))).bind fun r7 => (bif decide (((List.length s.2.2.2.2.2.2.2.2.1 + List.length ([(Lk.mk s.2.1 s.2.2.1 (wrap64 ((wrap64 (((1 : Int) + r5.1)) + wrap64 ((wrap64 (Int.tdiv r6.1 ((3 : Int))) * r7.1))))))])) ≤ (33554432 : Nat))) then some (Sum.inl ((s.1, s.2.1, wrap64 ((s.2.2.1 + (1 : Int))), r7.2.1, r7.2.2.1, s.2.2.2.2.2.1, s.2.2.2.2.2.2.1, s.2.2.2.2.2.2.2.1, (s.2.2.2.2.2.2.2.2.1 ++ [(Lk.mk s.2.1 s.2.2.1 (wrap64 ((wrap64 (((1 : Int) + r5.1)) + wrap64 ((wrap64 (Int.tdiv r6.1 ((3 : Int))) * r7.1))))))]), ()))) else none) else some (Sum.inl ((s.1, s.2.1, wrap64 ((s.2.2.1 + (1 : Int))), r4.2.1, r4.2.2.1, s.2.2.2.2.2.1, s.2.2.2.2.2.2.1, s.2.2.2.2.2.2.2.1, s.2.2.2.2.2.2.2.2.1, ()))))) else some (Sum.inl ((s.1, s.2.1, wrap64 ((s.2.2.1 + (1 : Int))), s.2.2.2.1, s.2.2.2.2.1, s.2.2.2.2.2.1, s.2.2.2.2.2.2.1, s.2.2.2.2.2.2.2.1, s.2.2.2.2.2.2.2.2.1, ())))) else (bif decide ((s.2.1 = (0 : Int))) then (bif decide ((nI (List.length s.2.2.2.2.2.2.2.2.1) < (14 : Int))) then (bif decide ((s.2.2.1 = wrap64 ((s.2.2.2.2.2.2.2.1 - (1 : Int))))) then (zK4 (((8 : Int), (s.2.2.2.1, (s.2.2.2.2.1, ()))))).bind fun r8 => (bif decide (((0 : Int) < r8.1)) then (zK4 (((3 : Int), (r8.2.1, (r8.2.2.1, ()))))).bind fun r9 => (zK4 (((4 : Int), (r9.2.1, (r9.2.2.1, ()))))).bind fun r10 => (zK4 (((8 : Int), (r10.2.1, (r10.2.2.1, ()))))).bind fun r11 => (bif decide (((List.length s.2.2.2.2.2.2.2.2.1 + List.length ([(Lk.mk s.2.1 s.2.2.1 (wrap64 ((wrap64 (((1 : Int) + r9.1)) + wrap64 ((wrap64 (Int.tdiv r10.1 ((3 : Int))) * r11.1))))))])) ≤ (33554432 : Nat))) then some (Sum.inl ((s.1, s.2.1, wrap64 ((s.2.2.1 + (1 : Int))), r11.2.1, r11.2.2.1, s.2.2.2.2.2.1, s.2.2.2.2.2.2.1, s.2.2.2.2.2.2.2.1, (s.2.2.2.2.2.2.2.2.1 ++ [(Lk.mk s.2.1 s.2.2.1 (wrap64 ((wrap64 (((1 : Int) + r9.1)) + wrap64 ((wrap64 (Int.tdiv r10.1 ((3 : Int))) * r11.1))))))]), ()))) else none) else (zK4 (((6 : Int), (r8.2.1, (r8.2.2.1, ()))))).bind fun r12 => (bif decide ((r12.1 < s.1)) then (zK4 (((3 : Int), (r12.2.1, (r12.2.2.1, ()))))).bind fun r13 => (zK4 (((4 : Int), (r13.2.1, (r13.2.2.1, ()))))).bind fun r14 => (zK4 (((8 : Int), (r14.2.1, (r14.2.2.1, ()))))).bind fun r15 => (bif decide (((List.length s.2.2.2.2.2.2.2.2.1 + List.length ([(Lk.mk s.2.1 s.2.2.1 (wrap64 ((wrap64 (((1 : Int) + r13.1)) + wrap64 ((wrap64 (Int.tdiv r14.1 ((3 : Int))) * r15.1))))))])) ≤ (33554432 : Nat))) then some (Sum.inl ((s.1, s.2.1, wrap64 ((s.2.2.1 + (1 : Int))), r15.2.1, r15.2.2.1, s.2.2.2.2.2.1, s.2.2.2.2.2.2.1, s.2.2.2.2.2.2.2.1, (s.2.2.2.2.2.2.2.2.1 ++ [(Lk.mk s.2.1 s.2.2.1 (wrap64 ((wrap64 (((1 : Int) + r13.1)) + wrap64 ((wrap64 (Int.tdiv r14.1 ((3 : Int))) * r15.1))))))]), ()))) else none) else some (Sum.inl ((s.1, s.2.1, wrap64 ((s.2.2.1 + (1 : Int))), r12.2.1, r12.2.2.1, s.2.2.2.2.2.1, s.2.2.2.2.2.2.1, s.2.2.2.2.2.2.2.1, s.2.2.2.2.2.2.2.2.1, ()))))) else (zK4 (((6 : Int), (s.2.2.2.1, (s.2.2.2.2.1, ()))))).bind fun r16 => (bif decide ((r16.1 < s.1)) then (zK4 (((3 : Int), (r16.2.1, (r16.2.2.1, ()))))).bind fun r17 => (zK4 (((4 : Int), (r17.2.1, (r17.2.2.1, ()))))).bind fun r18 => (zK4 (((8 : Int), (r18.2.1, (r18.2.2.1, ()))))).bind fun r19 => (bif decide (((List.length s.2.2.2.2.2.2.2.2.1 + List.length ([(Lk.mk s.2.1 s.2.2.1 (wrap64 ((wrap64 (((1 : Int) + r17.1)) + wrap64 ((wrap64 (Int.tdiv r18.1 ((3 : Int))) * r19.1))))))])) ≤ (33554432 : Nat))) then some (Sum.inl ((s.1, s.2.1, wrap64 ((s.2.2.1 + (1 : Int))), r19.2.1, r19.2.2.1, s.2.2.2.2.2.1, s.2.2.2.2.2.2.1, s.2.2.2.2.2.2.2.1, (s.2.2.2.2.2.2.2.2.1 ++ [(Lk.mk s.2.1 s.2.2.1 (wrap64 ((wrap64 (((1 : Int) + r17.1)) + wrap64 ((wrap64 (Int.tdiv r18.1 ((3 : Int))) * r19.1))))))]), ()))) else none) else some (Sum.inl ((s.1, s.2.1, wrap64 ((s.2.2.1 + (1 : Int))), r16.2.1, r16.2.2.1, s.2.2.2.2.2.1, s.2.2.2.2.2.2.1, s.2.2.2.2.2.2.2.1, s.2.2.2.2.2.2.2.2.1, ()))))) else some (Sum.inl ((s.1, s.2.1, wrap64 ((s.2.2.1 + (1 : Int))), s.2.2.2.1, s.2.2.2.2.1, s.2.2.2.2.2.1, s.2.2.2.2.2.2.1, s.2.2.2.2.2.2.2.1, s.2.2.2.2.2.2.2.2.1, ())))) else (bif decide ((nI (List.length s.2.2.2.2.2.2.2.2.1) < (14 : Int))) then (zK4 (((6 : Int), (s.2.2.2.1, (s.2.2.2.2.1, ()))))).bind fun r20 => (bif decide ((r20.1 < s.1)) then (zK4 (((3 : Int), (r20.2.1, (r20.2.2.1, ()))))).bind fun r21 => (zK4 (((4 : Int), (r21.2.1, (r21.2.2.1, ()))))).bind fun r22 => (zK4 (((8 : Int), (r22.2.1, (r22.2.2.1, ()))))).bind fun r23 => (bif decide (((List.length s.2.2.2.2.2.2.2.2.1 + List.length ([(Lk.mk s.2.1 s.2.2.1 (wrap64 ((wrap64 (((1 : Int) + r21.1)) + wrap64 ((wrap64 (Int.tdiv r22.1 ((3 : Int))) * r23.1))))))])) ≤ (33554432 : Nat))) then some (Sum.inl ((s.1, s.2.1, wrap64 ((s.2.2.1 + (1 : Int))), r23.2.1, r23.2.2.1, s.2.2.2.2.2.1, s.2.2.2.2.2.2.1, s.2.2.2.2.2.2.2.1, (s.2.2.2.2.2.2.2.2.1 ++ [(Lk.mk s.2.1 s.2.2.1 (wrap64 ((wrap64 (((1 : Int) + r21.1)) + wrap64 ((wrap64 (Int.tdiv r22.1 ((3 : Int))) * r23.1))))))]), ()))) else none) else some (Sum.inl ((s.1, s.2.1, wrap64 ((s.2.2.1 + (1 : Int))), r20.2.1, r20.2.2.1, s.2.2.2.2.2.1, s.2.2.2.2.2.2.1, s.2.2.2.2.2.2.2.1, s.2.2.2.2.2.2.2.2.1, ())))) else some (Sum.inl ((s.1, s.2.1, wrap64 ((s.2.2.1 + (1 : Int))), s.2.2.2.1, s.2.2.2.2.1, s.2.2.2.2.2.1, s.2.2.2.2.2.2.1, s.2.2.2.2.2.2.2.1, s.2.2.2.2.2.2.2.2.1, ())))))) else some (Sum.inr (Sum.inl ((s.1, s.2.1, s.2.2.2.1, s.2.2.2.2.1, s.2.2.2.2.2.1, s.2.2.2.2.2.2.1, s.2.2.2.2.2.2.2.1, s.2.2.2.2.2.2.2.2.1, ())))))
def zCD (s : (Int × Int × List Int × Int × Int × List Lk × Int × List Lk × Unit)) : Option ((Int × Int × List Int × Int × Int × List Lk × Int × List Lk × Unit) ⊕ ((List Int × Int × Int × List Lk × Int × List Lk × Unit) ⊕ Unit)) := (bif decide ((s.2.1 < s.2.2.2.2.2.2.1)) then (lp zCE fuel ((s.1, (s.2.1, (wrap64 ((s.2.1 + (1 : Int))), (s.2.2.1, (s.2.2.2.1, (s.2.2.2.2.1, (s.2.2.2.2.2.1, (s.2.2.2.2.2.2.1, (s.2.2.2.2.2.2.2.1, ()))))))))))).bind fun r0 => (match r0 with | .inl x1 => some (Sum.inl ((x1.1, wrap64 ((x1.2.1 + (1 : Int))), x1.2.2.1, x1.2.2.2.1, x1.2.2.2.2.1, x1.2.2.2.2.2.1, x1.2.2.2.2.2.2.1, x1.2.2.2.2.2.2.2.1, ()))) | .inr _ => none) else some (Sum.inr (Sum.inl ((s.2.2.1, s.2.2.2.1, s.2.2.2.2.1, s.2.2.2.2.2.1, s.2.2.2.2.2.2.1, s.2.2.2.2.2.2.2.1, ())))))
def zK6 (s : (List Int × Int × Unit)) : Option (Int × List Int × Int × List Lk × Unit) := (zK4 (((7 : Int), (s.1, (s.2.1, ()))))).bind fun r0 => (zK4 (((3 : Int), (r0.2.1, (r0.2.2.1, ()))))).bind fun r1 => (bif decide (((0 : Int) < r1.1)) then (zK4 (((4 : Int), (r1.2.1, (r1.2.2.1, ()))))).bind fun r2 => (zK4 (((3 : Int), (r2.2.1, (r2.2.2.1, ()))))).bind fun r3 => (lp zCD fuel ((wrap64 (((1 : Int) + r3.1)), ((0 : Int), (r3.2.1, (r3.2.2.1, ((0 : Int), (([] : List Lk), (wrap64 (((4 : Int) + r2.1)), (([] : List Lk), ())))))))))).bind fun r4 => (match r4 with | .inl x5 => (zK4 (((24 : Int), (x5.1, (x5.2.1, ()))))).bind fun r6 => (bif decide ((r6.1 = (0 : Int))) then some (((1 : Int), r6.2.1, r6.2.2.1, ([] : List Lk), ())) else some ((x5.2.2.2.2.1, r6.2.1, r6.2.2.1, x5.2.2.2.2.2.1, ()))) | .inr _ => none) else (zK4 (((3 : Int), (r1.2.1, (r1.2.2.1, ()))))).bind fun r7 => (lp zCD fuel ((wrap64 (((1 : Int) + r7.1)), ((0 : Int), (r7.2.1, (r7.2.2.1, ((0 : Int), (([] : List Lk), (wrap64 (((2 : Int) + r0.1)), (([] : List Lk), ())))))))))).bind fun r8 => (match r8 with | .inl x9 => (zK4 (((24 : Int), (x9.1, (x9.2.1, ()))))).bind fun r10 => (bif decide ((r10.1 = (0 : Int))) then some (((1 : Int), r10.2.1, r10.2.2.1, ([] : List Lk), ())) else some ((x9.2.2.2.2.1, r10.2.1, r10.2.2.1, x9.2.2.2.2.2.1, ()))) | .inr _ => none))
def zCG (s : (Int × List Int × Int × Int × List Lk × Int × List Lk × Unit)) : Option ((List Int × Int × Int × List Lk × Int × List Lk × Unit) ⊕ Unit) := (zK4 (((3 : Int), (s.2.1, (s.2.2.1, ()))))).bind fun r0 => (bif inR r0.1 (List.length ([(0 : Int), (20 : Int), (21 : Int)])) then (bif inR s.1 (List.length s.2.2.2.2.2.2.1) then some (Sum.inl ((r0.2.1, r0.2.2.1, s.2.2.2.1, s.2.2.2.2.1, s.2.2.2.2.2.1, List.set s.2.2.2.2.2.2.1 (Int.toNat s.1) ((Lk.mk ((at! .lk s.2.2.2.2.2.2.1 (Int.toNat s.1)).a) ((at! .lk s.2.2.2.2.2.2.1 (Int.toNat s.1)).b) (at! .int ([(0 : Int), (20 : Int), (21 : Int)]) (Int.toNat r0.1)))), ()))) else none) else none)
def zK8 (s : (List Int × Int × Unit)) : Option (Int × List Int × Int × List Lk × Unit) := (zK6 ((s.1, (s.2.1, ())))).bind fun r0 => (bif decide ((nI (List.length r0.2.2.2.1) = (0 : Int))) then some ((r0.1, r0.2.1, r0.2.2.1, r0.2.2.2.1, ())) else (zK4 ((nI (List.length r0.2.2.2.1), (r0.2.1, (r0.2.2.1, ()))))).bind fun r1 => (zK4 (((24 : Int), (r1.2.1, (r1.2.2.1, ()))))).bind fun r2 => (bif decide ((r2.1 = (0 : Int))) then (zCG ((r1.1, (r2.2.1, (r2.2.2.1, ((0 : Int), (([] : List Lk), (r0.1, (r0.2.2.2.1, ()))))))))).bind fun r3 => (match r3 with | .inl x4 => some ((x4.2.2.2.2.1, x4.1, x4.2.1, x4.2.2.2.2.2.1, ())) | .inr _ => none) else (bif decide ((r2.1 = (1 : Int))) then (zK4 (((10 : Int), (r2.2.1, (r2.2.2.1, ()))))).bind fun r5 => (bif inR r1.1 (List.length r0.2.2.2.1) then some ((r0.1, r5.2.1, r5.2.2.1, List.set r0.2.2.2.1 (Int.toNat r1.1) ((Lk.mk ((at! .lk r0.2.2.2.1 (Int.toNat r1.1)).a) r5.1 ((at! .lk r0.2.2.2.1 (Int.toNat r1.1)).c))), ())) else none) else (bif decide ((r2.1 = (2 : Int))) then (zK4 (((10 : Int), (r2.2.1, (r2.2.2.1, ()))))).bind fun r6 => some ((r6.1, r6.2.1, r6.2.2.1, r0.2.2.2.1, ())) else (bif decide ((r2.1 = (3 : Int))) then (bif inR r1.1 (List.length r0.2.2.2.1) then (bif decide (((List.length r0.2.2.2.1 + List.length ([(Lk.mk ((at! .lk r0.2.2.2.1 (Int.toNat r1.1)).a) ((at! .lk r0.2.2.2.1 (Int.toNat r1.1)).b) ((at! .lk r0.2.2.2.1 (Int.toNat r1.1)).c))])) ≤ (33554432 : Nat))) then some ((r0.1, r2.2.1, r2.2.2.1, (r0.2.2.2.1 ++ [(Lk.mk ((at! .lk r0.2.2.2.1 (Int.toNat r1.1)).a) ((at! .lk r0.2.2.2.1 (Int.toNat r1.1)).b) ((at! .lk r0.2.2.2.1 (Int.toNat r1.1)).c))]), ())) else none) else none) else some ((r0.1, r2.2.1, r2.2.2.1, r0.2.2.2.1, ())))))))
end Go.Proofs.YtjffopopheiinaaGreat
end
section
namespace Go.Proofs.YtjffopopheiinaaGreat
open Go.RowKit
set_option maxRecDepth 100000
def zFc : Entry := ⟨⟨[.c (.one (.b (.sl true .u8)))], []⟩, [.ls .u8], ⟨[.c (.one (.ptr 0 0))], [.box 73 [(.b (.sl true .u8)), (.b (.int .i64))]]⟩, [.ls .u8, .int], zK3⟩
def zGG : Env := mkEnv tab [] 11 0 [] []
theorem zMv : CtrOk Tryz.prog zGG.Γ := ctr_ok (l := []) trivial
theorem zJv : GC Tryz.prog 12 zFc := gc_of (G := zGG) (c := Tryz.f12.body.getD .skip) bad_ok tabOk zMv mixed Tryz.func12 (by kernel_rfl) Tryz.ntmps12 (code_ok' (G := zGG) (n := 0) (by kernel_rfl) (by kernel_rfl) trivial (by kernel_rfl)) (fun s => by kernel_rfl)
def zFd : Entry := ⟨⟨[.c (.one (.ptr 0 0)), .c (.one (.b (.int .i64)))], [.box 73 [(.b (.sl true .u8)), (.b (.int .i64))]]⟩, [.int, .ls .u8, .int], ⟨[.c (.one (.b (.int .i64)))], [.box 73 [(.b (.sl true .u8)), (.b (.int .i64))]]⟩, [.int, .ls .u8, .int], zK4⟩
def zGH : Env := mkEnv tab [] 99 1 [(7, 44, [(0, true), (1, true), (2, true), (3, true), (4, true), (5, true), (6, true), (7, true), (8, true), (9, true), (10, true), (11, true), (12, true), (13, true), (14, true), (15, true), (16, true), (17, true), (18, true), (19, true), (20, true), (21, true), (22, true), (23, true), (24, true), (25, true), (26, true), (27, true), (28, true), (29, true), (30, true), (31, true), (32, true), (33, true), (34, true), (35, true), (36, true), (37, true), (38, true), (39, true), (40, true), (41, true), (42, true), (43, true)], [])] []
theorem zMw : CtrOk Tryz.prog zGH.Γ := ctr_ok (l := []) trivial
theorem zJw : GC Tryz.prog 38 zFd := gc_of (G := zGH) (c := Tryz.f38.body.getD .skip) bad_ok tabOk zMw mixed Tryz.func38 (by kernel_rfl) Tryz.ntmps38 (code_ok' (G := zGH) (n := 0) (by kernel_rfl) (by kernel_rfl) trivial (by kernel_rfl)) (fun s => by kernel_rfl)
def zBn : Loop := ⟨⟨[0, 2, 3, 4, 5, 6], ⟨[.c (.one (.ptr 0 0)), .c (.one (.ptr 1 0)), .c (.one (.ptr 2 0)), .c (.one (.b (.int .i64))), .c (.one (.b (.int .i64))), .c (.one (.b (.int .i64)))], [.box 73 [(.b (.sl true .u8)), (.b (.int .i64))], .box 25 [(.b (.int .i64)), (.b (.sl true .lk))], .box 25 [(.b (.int .i64)), (.own 3)], .row 75 .lk]⟩, [.int, .int, .int, .ls .u8, .int, .int, .ls .lk, .int, .ls .lk]⟩, 2, ⟨[0, 2, 3, 4, 5], ⟨[.c (.one (.ptr 0 0)), .c (.one (.ptr 1 0)), .c (.one (.ptr 2 0)), .c (.one (.b (.int .i64))), .c (.one (.b (.int .i64)))], [.box 73 [(.b (.sl true .u8)), (.b (.int .i64))], .box 25 [(.b (.int .i64)), (.b (.sl true .lk))], .box 25 [(.b (.int .i64)), (.own 3)], .row 75 .lk]⟩, [.int, .int, .ls .u8, .int, .int, .ls .lk, .int, .ls .lk]⟩, ⟨[999999], ⟨[.c (.one (.own 0))], []⟩, []⟩, lp zCE fuel⟩
def zBm : Loop := ⟨⟨[0, 2, 3, 4, 5], ⟨[.c (.one (.ptr 0 0)), .c (.one (.ptr 1 0)), .c (.one (.ptr 2 0)), .c (.one (.b (.int .i64))), .c (.one (.b (.int .i64)))], [.box 73 [(.b (.sl true .u8)), (.b (.int .i64))], .box 25 [(.b (.int .i64)), (.b (.sl true .lk))], .box 25 [(.b (.int .i64)), (.own 3)], .row 75 .lk]⟩, [.int, .int, .ls .u8, .int, .int, .ls .lk, .int, .ls .lk]⟩, 0, ⟨[0, 2, 3], ⟨[.c (.one (.ptr 0 0)), .c (.one (.ptr 1 0)), .c (.one (.ptr 2 0))], [.box 73 [(.b (.sl true .u8)), (.b (.int .i64))], .box 25 [(.b (.int .i64)), (.b (.sl true .lk))], .box 25 [(.b (.int .i64)), (.own 3)], .row 75 .lk]⟩, [.ls .u8, .int, .int, .ls .lk, .int, .ls .lk]⟩, ⟨[999999], ⟨[.c (.one (.own 0))], []⟩, []⟩, lp zCD fuel⟩
def zFf : Entry := ⟨⟨[.c (.one (.ptr 0 0))], [.box 73 [(.b (.sl true .u8)), (.b (.int .i64))]]⟩, [.ls .u8, .int], ⟨[.c (.agg [(.b (.int .i64)), (.own 1)])], [.box 73 [(.b (.sl true .u8)), (.b (.int .i64))], .row 75 .lk]⟩, [.int, .ls .u8, .int, .ls .lk], zK6⟩
def zGJ : Env := mkEnv tab [(38, [], zFd)] 94 1 [(13, 16, [(0, true), (1, true), (2, true), (3, true), (4, true), (7, true), (10, true), (5, false), (6, true), (8, false), (9, true), (11, false), (12, true), (13, true), (14, true), (15, false)], [0])] [(9, zBn), (6, zBm)]
theorem zMy : CtrOk Tryz.prog zGJ.Γ := ctr_ok (l := [(38, [], zFd)]) ⟨⟨zJw, Tryz.call38⟩, trivial⟩
theorem zH2 : LoopOk Tryz.prog 1 94 (nthC (nthC (Tryz.f75.body.getD .skip) 0) 0) zBn := loop_ok (G := zGJ) (F := zBn.F) (eid := zBn.eid) (FX := zBn.FX) (FR := zBn.FR) (B := zCE) (n := fuel) bad_ok tabOk zMy mixed (code_ok' (G := zGJ) (n := 0) (by kernel_rfl) (by kernel_rfl) trivial (by kernel_rfl)) (fun s => by kernel_rfl)
theorem zH1 : LoopOk Tryz.prog 1 94 (nthC (Tryz.f75.body.getD .skip) 0) zBm := loop_ok (G := zGJ) (F := zBm.F) (eid := zBm.eid) (FX := zBm.FX) (FR := zBm.FR) (B := zCD) (n := fuel) bad_ok tabOk zMy mixed (code_ok' (G := zGJ) (n := 1) (by kernel_rfl) (by kernel_rfl) ⟨trivial, loop_at (id := 9) (L0 := zBn) (by kernel_rfl) (by kernel_rfl) zH2⟩ (by kernel_rfl)) (fun s => by kernel_rfl)
theorem zJy : GC Tryz.prog 75 zFf := gc_of (G := zGJ) (c := Tryz.f75.body.getD .skip) bad_ok tabOk zMy mixed Tryz.func75 (by kernel_rfl) Tryz.ntmps75 (code_ok' (G := zGJ) (n := 1) (by kernel_rfl) (by kernel_rfl) ⟨trivial, loop_at (id := 6) (L0 := zBm) (by kernel_rfl) (by kernel_rfl) zH1⟩ (by kernel_rfl)) (fun s => by kernel_rfl)
def zBp : Loop := ⟨⟨[0, 2, 3, 4], ⟨[.c (.one (.ptr 0 0)), .c (.one (.ptr 1 0)), .c (.one (.ptr 2 0)), .c (.one (.b (.int .i64)))], [.box 73 [(.b (.sl true .u8)), (.b (.int .i64))], .box 25 [(.b (.int .i64)), (.b (.sl true .lk))], .box 25 [(.b (.int .i64)), (.own 3)], .row 75 .lk]⟩, [.int, .ls .u8, .int, .int, .ls .lk, .int, .ls .lk]⟩, 0, ⟨[2, 3], ⟨[.c (.one (.ptr 1 0)), .c (.one (.ptr 2 0))], [.box 73 [(.b (.sl true .u8)), (.b (.int .i64))], .box 25 [(.b (.int .i64)), (.b (.sl true .lk))], .box 25 [(.b (.int .i64)), (.own 3)], .row 75 .lk]⟩, [.ls .u8, .int, .int, .ls .lk, .int, .ls .lk]⟩, ⟨[999999], ⟨[.c (.one (.own 0))], []⟩, []⟩, zCG⟩
def zFh : Entry := ⟨⟨[.c (.one (.ptr 0 0))], [.box 73 [(.b (.sl true .u8)), (.b (.int .i64))]]⟩, [.ls .u8, .int], ⟨[.c (.agg [(.b (.int .i64)), (.own 1)])], [.box 73 [(.b (.sl true .u8)), (.b (.int .i64))], .row 75 .lk]⟩, [.int, .ls .u8, .int, .ls .lk], zK8⟩
def zGL : Env := mkEnv tab [(38, [], zFd), (75, [], zFf)] 58 1 [(9, 5, [(0, true), (1, true), (2, true), (3, true), (4, false)], [0]), (13, 8, [(0, true), (1, true), (2, true), (3, true), (4, true), (5, true), (6, true), (7, false)], [])] [(7, zBp)]
theorem zMA : CtrOk Tryz.prog zGL.Γ := ctr_ok (l := [(38, [], zFd), (75, [], zFf)]) ⟨⟨zJw, Tryz.call38⟩, ⟨⟨zJy, Tryz.call75⟩, trivial⟩⟩
theorem zH4 : RegOk Tryz.prog 1 58 (nthR zGL.plan (Tryz.f39.body.getD .skip) 0).1 (nthR zGL.plan (Tryz.f39.body.getD .skip) 0).2 zBp := reg_ok (G := zGL) (n := 8) (ks := [0]) (t := (.val 0 (.val 1 (.val 2 (.val 4 (.two 3 (.one 5 (.val 6 (.one 7 .done))) 5 (.one 3 (.val 6 (.one 7 .done))))))))) (F := zBp.F) (eid := 0) (FX := zBp.FX) (FR := zBp.FR) (sh := zCG) bad_ok tabOk zMA mixed (by kernel_rfl) (by kernel_rfl) ⟨fun s => by kernel_rfl, fun s => by kernel_rfl, trivial⟩
theorem zJA : GC Tryz.prog 39 zFh := gc_of (G := zGL) (c := Tryz.f39.body.getD .skip) bad_ok tabOk zMA mixed Tryz.func39 (by kernel_rfl) Tryz.ntmps39 (code_ok2 (G := zGL) (n := 0) (m := 1) (by kernel_rfl) (by kernel_rfl) trivial (by kernel_rfl) ⟨trivial, reg_at (L0 := zBp) (by kernel_rfl) zH4⟩) (fun s => by kernel_rfl)
end Go.Proofs.YtjffopopheiinaaGreat
end
section
namespace Go.Proofs
open Go.Shelf
def Tryz.lays189_ren : Go.Shelf.Ren := ⟨fun | 189 => 92 | 125 => 99 | 257 => 98 | 128 => 111 | 129 => 112 | 294 => 102 | 295 => 103 | 296 => 104 | 297 => 105 | 298 => 106 | 299 => 107 | 216 => 108 | 300 => 109 | 301 => 110 | 328 => 115 | 329 => 116 | 330 => 117 | 331 => 118 | 332 => 119 | 215 => 79 | 343 => 120 | n => n, fun | 28 => 27 | 3 => 3 | 46 => 107 | 0 => 0 | 51 => 133 | 53 => 135 | 4 => 4 | 183 => 126 | 182 => 125 | 131 => 48 | 5 => 5 | 9 => 9 | 218 => 138 | 222 => 142 | 228 => 144 | 229 => 145 | n => n, fun | n => n⟩
theorem Tryz.lays189 : Go.Proofs.Lays.n189 Tryz.prog Tryz.lays189_ren := {
  mixed := by kernel_rfl
  f125 := Tryz.func99.trans (congrArg some (by kernel_rfl))
  f128 := Tryz.func111.trans (congrArg some (by kernel_rfl))
  f129 := Tryz.func112.trans (congrArg some (by kernel_rfl))
  f189 := Tryz.func92.trans (congrArg some (by kernel_rfl))
  f215 := Tryz.func79.trans (congrArg some (by kernel_rfl))
  f216 := Tryz.func108.trans (congrArg some (by kernel_rfl))
  f257 := Tryz.func98.trans (congrArg some (by kernel_rfl))
  f294 := Tryz.func102.trans (congrArg some (by kernel_rfl))
  f295 := Tryz.func103.trans (congrArg some (by kernel_rfl))
  f296 := Tryz.func104.trans (congrArg some (by kernel_rfl))
  f297 := Tryz.func105.trans (congrArg some (by kernel_rfl))
  f298 := Tryz.func106.trans (congrArg some (by kernel_rfl))
  f299 := Tryz.func107.trans (congrArg some (by kernel_rfl))
  f300 := Tryz.func109.trans (congrArg some (by kernel_rfl))
  f301 := Tryz.func110.trans (congrArg some (by kernel_rfl))
  f328 := Tryz.func115.trans (congrArg some (by kernel_rfl))
  f329 := Tryz.func116.trans (congrArg some (by kernel_rfl))
  f330 := Tryz.func117.trans (congrArg some (by kernel_rfl))
  f331 := Tryz.func118.trans (congrArg some (by kernel_rfl))
  f332 := Tryz.func119.trans (congrArg some (by kernel_rfl))
  f343 := Tryz.func120.trans (congrArg some (by kernel_rfl))
  t0 := Tryz.underlying0
  a0 := Tryz.isAgg0
  z0 := Tryz.sizeOf0
  v0 := Tryz.zeroValue0
  t3 := Tryz.underlying3
  a3 := Tryz.isAgg3
  z3 := Tryz.sizeOf3
  v3 := Tryz.zeroValue3
  t4 := Tryz.underlying4
  a4 := Tryz.isAgg4
  z4 := Tryz.sizeOf4
  v4 := Tryz.zeroValue4
  t5 := Tryz.underlying5
  a5 := Tryz.isAgg5
  z5 := Tryz.sizeOf5
  v5 := Tryz.zeroValue5
  t9 := Tryz.underlying9
  a9 := Tryz.isAgg9
  z9 := Tryz.sizeOf9
  v9 := Tryz.zeroValue9
  t28 := Tryz.underlying27
  a28 := Tryz.isAgg27
  z28 := Tryz.sizeOf27
  v28 := Tryz.zeroValue27
  t46 := Tryz.underlying107
  a46 := Tryz.isAgg107
  z46 := Tryz.sizeOf107
  v46 := Tryz.zeroValue107
  t51 := Tryz.underlying133
  a51 := Tryz.isAgg133
  z51 := Tryz.sizeOf133
  v51 := Tryz.zeroValue133
  t53 := Tryz.underlying135
  a53 := Tryz.isAgg135
  z53 := Tryz.sizeOf135
  v53 := Tryz.zeroValue135
  t131 := Tryz.underlying48
  a131 := Tryz.isAgg48
  z131 := Tryz.sizeOf48
  v131 := Tryz.zeroValue48
  t182 := Tryz.underlying125
  a182 := Tryz.isAgg125
  z182 := Tryz.sizeOf125
  v182 := Tryz.zeroValue125
  t183 := Tryz.underlying126
  a183 := Tryz.isAgg126
  z183 := Tryz.sizeOf126
  v183 := Tryz.zeroValue126
  t218 := Tryz.underlying138
  a218 := Tryz.isAgg138
  z218 := Tryz.sizeOf138
  v218 := Tryz.zeroValue138
  t222 := Tryz.underlying142
  a222 := Tryz.isAgg142
  z222 := Tryz.sizeOf142
  v222 := Tryz.zeroValue142
  t228 := Tryz.underlying144
  a228 := Tryz.isAgg144
  z228 := Tryz.sizeOf144
  v228 := Tryz.zeroValue144
  t229 := Tryz.underlying145
  a229 := Tryz.isAgg145
  z229 := Tryz.sizeOf145
  v229 := Tryz.zeroValue145 }
open Go.Sort Go.RowKit in
theorem Tryz.slices_Sort_int (blk off cap : Nat) (zs : List Int) (w : World) (hH : Holds (Value.int .i64) w blk off zs.toArray) (hblk : blk < w.heap.size) (hsz : zs.length < 4611686018427387904) :
    Calls Tryz.prog 92 #[.slice (some ⟨blk, off, none⟩) zs.length cap] w fun e w' =>
      e = .returned (.tuple #[]) ∧ ∃ n os, w' = grow (putRow (Value.int .i64) (Sort.ahead w n) blk off (zs.mergeSort fun x y => decide (x ≤ y)).toArray) os := Any.slices_Sort_int Tryz.lays189 blk off cap zs w hH hblk hsz
open Go.RowKit Go.Sort in
theorem Tryz.slices_Sort_int_none (p : Option Addr) (cap : Nat) (w : World) :
    Calls Tryz.prog 92 #[.slice p 0 cap] w fun e w' => e = .returned (.tuple #[]) ∧ w' = w := Any.slices_Sort_int_none Tryz.lays189 p cap w
end Go.Proofs
end
section
namespace Go.Proofs.YtjffopopheiinaaGreat
open Go.RowKit

def sortI (zs : List Int) : List Int := zs.mergeSort fun x y => decide (x ≤ y)
theorem sortI_len (zs : List Int) : (sortI zs).length = zs.length := List.length_mergeSort zs
theorem flt_int (zs : List Int) : flt .int zs = zs.map iI := by
  induction zs with
  | nil => rfl
  | cons z r ih => rw [flt_cons, ih]; rfl
theorem flt_int_us {w : World} {E X : Nat → Prop} {zs : List Int} {us : List Value} (h : F2 (Ri w E X) (flt .int zs) us) : us = zs.map (Value.int .i64) := by
  rw [flt_int] at h
  refine List.ext_getElem? fun i => ?_
  have hlen := h.1
  simp only [List.length_map] at hlen
  rcases Nat.lt_or_ge i us.length with hi | hi
  · have hu : us[i]? = some us[i] := List.getElem?_eq_getElem hi
    have hz : zs[i]? = some zs[i] := List.getElem?_eq_getElem (by omega)
    have h1 : Ri w E X (iI zs[i]) us[i] := h.2 i (iI zs[i]) us[i] (by rw [List.getElem?_map, hz]; rfl) hu
    rw [hu]
    generalize us[i] = q at *
    cases h1
    simp [hz]
  · rw [List.getElem?_eq_none hi, List.getElem?_eq_none (by simp; omega)]
def zKx (s : List Int × Unit) : Option (List Int × Unit) := bif decide (s.1.length ≤ 16777216) then some (sortI s.1, ()) else none
def zEG : Entry := ⟨⟨[.c (.one (.own 0))], [.row 3 .int]⟩, [.ls .int], ⟨[.tup []], [.row 3 .int]⟩, [.ls .int], zKx⟩
theorem zIZ : GC Tryz.prog 92 zEG := by
  intro s r hs ds os hf d h' hr w X β args hX hH hargs _
  obtain ⟨xs, _⟩ := s
  have hs : (bif decide (xs.length ≤ 16777216) then some (sortI xs, ()) else none) = some r := hs
  cases hd : decide (xs.length ≤ 16777216) with
  | false => rw [hd] at hs; cases hs
  | true =>
  rw [hd] at hs
  injection hs with hs
  subst hs
  have hn := of_decide_eq_true hd
  have hf : some ([PV.own 0], [AObj.row 3 .int xs]) = some (ds, os) := hf
  injection hf with hf
  injection hf with hf1 hf2
  subst hf1 hf2
  have hr : some ([PV.tup []], [AObj.row 3 .int (sortI xs)]) = some ([d], h') := hr
  injection hr with hr
  injection hr with hr1 hr2
  injection hr1 with hr1
  subst hr1 hr2
  obtain ⟨u, _, rfl, hu, hnil⟩ := hargs.cons_inv
  obtain rfl := hnil.nil_inv
  obtain ⟨h0, hv, ⟨_, _, _, rfl⟩, h2⟩ := hu
  obtain ⟨b, c, A, hb, hue, hA, hE⟩ := h2 3 .int xs rfl
  obtain ⟨b', c', hb', hc0, hcm, hrow⟩ := hH.ok 0 _ rfl
  rw [hb] at hb'
  injection hb' with hb'
  injection hb' with e1 e2
  subst e1 e2
  rw [hue]
  rcases Nat.eq_zero_or_pos c with hc | hc
  · obtain rfl : xs = [] := hc0 hc
    refine (Tryz.slices_Sort_int_none A c w).mono ?_
    rintro ex w' ⟨rfl, rfl⟩
    have e : sortI [] = [] := by simp [sortI]
    rw [e]
    exact ⟨_, β, rfl, Step.refl _ _ _, hH, [], rfl, F2.nil⟩
  · obtain ⟨us, junk, hblk, hF, hone, hlen⟩ := hrow hc
    have hus := flt_int_us hF
    subst hus
    have hA := hA hc
    subst hA
    have hbl : b < w.heap.size := (Array.getElem?_eq_some_iff.1 hblk).1
    have hlen' : xs.length + junk.length = c := by
      have : ((xs.map (Value.int .i64)) ++ junk).length = c * 1 := hlen
      simpa using this
    have hold : Go.Sort.Holds (Value.int .i64) w b 0 xs.toArray := holds_of_blockI (e := 3) hblk (by simp)
    refine (Tryz.slices_Sort_int b 0 c xs w hold hbl (by omega)).mono ?_
    rintro ex w' ⟨rfl, m, os, rfl⟩
    have how := ownsRow_sortedI (w := w) (base := 0) (g := b) (cap := c) (n := m) (os := os) (ss := xs) (ts := sortI xs) (e := 3) (sortI_len xs) (Nat.zero_le _) hblk (by omega) hcm (by simp; omega)
    have hgr := grownBy_sortedI (w := w) (g := b) (n := m) (os := os) (sortI xs).toArray
    obtain ⟨g2, c2, junk2, hv2, hh2, hl2, hm2, _⟩ := own_split how (by intro h; cases h)
    injection hv2 with q1 q2 q3
    injection q1 with q1
    injection q1 with q1
    subst q1 q3
    generalize hw' : Go.Sort.grow (Go.Sort.putRow (Value.int .i64) (Go.Sort.ahead w m) b 0 (xs.mergeSort fun x y => decide (x ≤ y)).toArray) os = w' at *
    rw [show (xs.mergeSort fun x y => decide (x ≤ y)) = sortI xs from rfl] at hw'
    rw [hw'] at hh2 hgr how
    have live1 : ∀ b', Liv [AObj.row 3 .int (sortI xs)] β b' → Liv [AObj.row 3 .int xs] β b' := fun b' ⟨k, o, c', h1, h2, h3⟩ => by
      match k, h1 with
      | 0, h1 =>
        simp at h1
        subst h1
        exact ⟨0, _, c', rfl, h2, h3⟩
      | k + 1, h1 => simp at h1
    have liveB : Liv [AObj.row 3 .int xs] β b := ⟨0, _, c, rfl, hc, hb⟩
    have onlyB : ∀ b', Liv [AObj.row 3 .int xs] β b' → b' = b := fun b' ⟨k, o, c', h1, h2, h3⟩ => by
      match k, h1 with
      | 0, h1 => rw [hb] at h3; injection h3 with h3; injection h3 with h3; exact h3.symm
      | k + 1, h1 => simp at h1
    refine ⟨_, β, rfl, ⟨hgr.os, hgr.tape, hgr.output, hgr.size, fun i hi hne => hgr.block i hi (fun e => hne (by injection e with e; subst e; exact liveB)), fun i _ h => live1 i h, fun _ _ h => h, ⟨Nat.le_refl _, fun k t τ ys hk e => ?_, fun k hk e => ?_⟩⟩, ⟨hH.len, fun i h => h, fun i h => hH.nx i (live1 i h), fun k o hk => ?_, fun j k o o' b1 c1 c2 hj hk _ _ _ _ => ?_⟩, [], rfl, F2.nil⟩
    · cases k with
      | zero =>
        simp at e
        obtain ⟨rfl, e⟩ := e
        obtain ⟨rfl, e⟩ := e
        obtain rfl := eq_of_heq e
        exact .inl ⟨xs, rfl, (sortI_len xs).symm⟩
      | succ k => simp at e
    · match k, e with
      | 0, e => simp [isV] at e
      | k + 1, e => simp at hk
    · match k, hk with
      | 0, hk =>
        simp at hk
        subst hk
        refine ⟨b, c, hb, fun h => by omega, hcm, fun _ => ⟨(sortI xs).map (Value.int .i64), junk2, hh2, ?_, fun u hu => ?_, by simpa [sz] using hl2⟩⟩
        · rw [flt_int]
          refine ⟨by simp, fun i x u hx hu => ?_⟩
          simp only [List.getElem?_map] at hx hu
          obtain ⟨z, hz, rfl⟩ := Option.map_eq_some_iff.1 hx
          rw [hz] at hu
          injection hu with hu
          subst hu
          exact Ri.s _
        · obtain ⟨z, _, rfl⟩ := List.mem_map.1 hu; rfl
      | k + 1, hk => simp at hk
    · match j, k, hj, hk with
      | 0, 0, _, _ => rfl
      | 0, k + 1, _, hk => simp at hk
      | j + 1, _, hj, _ => simp at hj
end Go.Proofs.YtjffopopheiinaaGreat
end
section
namespace Go.Proofs.YtjffopopheiinaaGreat
open Go.RowKit

theorem own_split2 {w : World} {base e size n : Nat} {v : Value} {us : List Value} (h : w.ownsRow base e size v n us) (hv : v ≠ .slice none 0 0) : ∃ g c junk, v = .slice (some ⟨g, 0, none⟩) n c ∧ base ≤ g ∧ w.heap[g]? = some (.cells (us ++ junk).toArray e (0, 0)) ∧ (us ++ junk).length = c * size ∧ c ≤ maxLen ∧ n ≤ c := by
  rcases h.2 with ⟨h1, _⟩ | ⟨g, c, cur, h1, h2, h3, h4, h5, h6, h7⟩
  · exact absurd h1 hv
  · have e : us ++ cur.toList.drop (n * size) = cur.toList := by rw [← h7, List.take_append_drop]
    exact ⟨g, c, cur.toList.drop (n * size), h1, h2, by rw [e]; simpa using h3, by rw [e]; simpa using h6, h5, h4⟩
theorem end_row {h : List AObj} {β : List (Nat × Nat)} {w w' : World} {X : Nat → Prop} {τ : Ty} {e : TypeId} {ys : List (El τ)} {g c : Nat} {A : Option Addr} (hH : HeapOk w (Liv h β) X h β) (hX : ∀ b, X b → b < w.heap.size) (hos : w'.os = w.os) (hta : w'.tape = w.tape) (hou : w'.output = w.output) (hsz : w.heap.size ≤ w'.heap.size)
    (hblk : ∀ b, b < w.heap.size → ¬ Liv h β b → w'.heap[b]? = w.heap[b]?) (hg : Liv h β g ∨ w.heap.size ≤ g) (hc : c = 0 → ys = []) (hcm : c ≤ maxLen)
    (hrow : 0 < c → ∃ us junk, w'.heap[g]? = some (.cells (us ++ junk).toArray e (0, 0)) ∧ F2 (Ri w (Liv h β) X) (flt τ ys) us ∧ (us ++ junk).length = c * sz τ) (hA : 0 < c → A = some ⟨g, 0, none⟩) :
    Step w h β w' (h.map (fun _ => AObj.dead) ++ [.row e τ ys]) (β ++ [(g, c)]) ∧ HeapOk w' (Liv (h.map (fun _ => AObj.dead) ++ [.row e τ ys]) (β ++ [(g, c)])) X (h.map (fun _ => AObj.dead) ++ [.row e τ ys]) (β ++ [(g, c)]) ∧ Cv w' (Liv (h.map (fun _ => AObj.dead) ++ [.row e τ ys]) (β ++ [(g, c)])) X (h.map (fun _ => AObj.dead) ++ [.row e τ ys]) (β ++ [(g, c)]) (.own h.length) (.slice A ys.length c) := by
  have hlen := hH.len
  have hat : ∀ k, k < h.length → (h.map (fun _ => AObj.dead) ++ [AObj.row e τ ys])[k]? = some .dead := fun k hk => by
    rw [List.getElem?_append_left (by simpa using hk), List.getElem?_map, List.getElem?_eq_getElem hk]; rfl
  have hlast : (h.map (fun _ => AObj.dead) ++ [AObj.row e τ ys])[h.length]? = some (.row e τ ys) := by
    rw [List.getElem?_append_right (by simp)]; simp
  have hβl : (β ++ [(g, c)])[h.length]? = some (g, c) := by
    rw [List.getElem?_append_right (by omega), hlen, Nat.sub_self]; rfl
  have hbe : ∀ k, h.length < k → (h.map (fun _ => AObj.dead) ++ [AObj.row e τ ys])[k]? = none := fun k hk => by
    rw [List.getElem?_eq_none]; simp; omega
  have only : ∀ k o, (h.map (fun _ => AObj.dead) ++ [AObj.row e τ ys])[k]? = some o → (k < h.length ∧ o = .dead) ∨ (k = h.length ∧ o = .row e τ ys) := fun k o hk => by
    rcases Nat.lt_trichotomy k h.length with h1 | h1 | h1
    · rw [hat k h1] at hk; injection hk with hk; exact .inl ⟨h1, hk.symm⟩
    · subst h1; rw [hlast] at hk; injection hk with hk; exact .inr ⟨rfl, hk.symm⟩
    · rw [hbe k h1] at hk; cases hk
  have liv : ∀ b, Liv (h.map (fun _ => AObj.dead) ++ [AObj.row e τ ys]) (β ++ [(g, c)]) b → b = g := fun b ⟨k, o, c', h1, h2, h3⟩ => by
    rcases only k o h1 with ⟨_, rfl⟩ | ⟨rfl, rfl⟩
    · exact h2.elim
    · rw [hβl] at h3; injection h3 with h3; injection h3 with h3; exact h3.symm
  have keepβ : ∀ (k : Nat) p, β[k]? = some p → (β ++ [(g, c)])[k]? = some p := fun k p hk => by
    rw [List.getElem?_append_left (List.getElem?_eq_some_iff.1 hk).1]; exact hk
  have new : ∀ b, b < w.heap.size → Liv (h.map (fun _ => AObj.dead) ++ [AObj.row e τ ys]) (β ++ [(g, c)]) b → Liv h β b := fun b hb hl => by
    have := liv b hl
    subst this
    exact hg.resolve_right (by omega)
  refine ⟨⟨hos, hta, hou, hsz, hblk, new, keepβ, ⟨by simp, fun k t τ' xs' hk e' => ?_, fun k hk e' => ?_⟩⟩, ⟨by simp [hlen], fun b hb => hb, fun b hl hx => ?_, fun k o hk => ?_, fun j k o o' b c1 c2 hj hk l1 l2 b1 b2 => ?_⟩, ⟨by simp, ?_, ⟨_, _, _, rfl⟩, fun t τ' xs' e' => ?_⟩⟩
  · rw [hat k hk] at e'; cases e'
  · simp [isV, hat k hk] at e'
  · have := liv b hl
    subst this
    rcases hg with hg | hg
    · exact hH.nx _ hg hx
    · have := hX _ hx; omega
  · rcases only k o hk with ⟨_, rfl⟩ | ⟨rfl, rfl⟩
    · trivial
    · refine ⟨g, c, hβl, hc, hcm, fun h0 => ?_⟩
      obtain ⟨us, junk, q1, q2, q3⟩ := hrow h0
      exact ⟨us, junk, q1, q2.mono fun x u hx => hx.keep hblk hsz (fun b hb hn hl => hn (new b hb hl)) (fun _ _ _ hx => hx), flt_one q2, q3⟩
  · rcases only j o hj with ⟨_, rfl⟩ | ⟨rfl, rfl⟩
    · exact l1.elim
    · rcases only k o' hk with ⟨_, rfl⟩ | ⟨rfl, rfl⟩
      · exact l2.elim
      · rfl
  · simp [isV, hlast]
  · rw [hlast] at e'
    injection e' with e'
    cases e'
    exact ⟨g, c, A, hβl, rfl, hA, fun _ => trivial⟩
def sh_copy (τ : Ty) (s : List (El τ) × Unit) : Option (List (El τ) × Unit) := bif decide (s.1.length ≤ 16777216) then some s else none
theorem gc_clone {P : Program} {f : FuncId} {τ : Ty} {e : TypeId} (hN : ∀ n c w, Calls P f #[.slice none n c] w fun e w' => e = .returned (.slice none 0 0) ∧ w' = w)
    (hC : ∀ (A : Addr) (n c : Nat) (news : List Value) (w : World), news.length = n * sz τ → n ≤ 16777216 → (∀ j u, news[j]? = some u → w.cell? (A.add j) = some u) → (∀ u ∈ news, u.oneCell' = true) →
      Calls P f #[.slice (some A) n c] w fun ex w' => ∃ v', ex = .returned v' ∧ w'.ownsRow w.heap.size e (sz τ) v' n news ∧ v' ≠ .slice none 0 0 ∧ Below w.heap.size w w') :
    GC P f ⟨⟨[.c (.one (.b (.sl false τ)))], []⟩, [.ls τ], ⟨[.c (.one (.own 0))], [.row e τ]⟩, [.ls τ], sh_copy τ⟩ := by
  intro s r hs ds os hf d h' hr w X β args hX hH hargs _
  obtain ⟨xs, _⟩ := s
  change List (El τ) at xs
  have hs : (bif decide (xs.length ≤ 16777216) then some ((xs, ()) : List (El τ) × Unit) else none) = some r := hs
  cases hd : decide (xs.length ≤ 16777216) with
  | false => rw [hd] at hs; cases hs
  | true =>
  rw [hd] at hs
  injection hs with hs
  subst hs
  have hn := of_decide_eq_true hd
  have hf : some ([PV.im (.sl false τ xs)], ([] : List AObj)) = some (ds, os) := by rw [← hf]; cases τ <;> rfl
  injection hf with hf
  injection hf with hf1 hf2
  subst hf1 hf2
  have hr : some ([PV.own 0], [AObj.row e τ xs]) = some ([d], h') := by rw [← hr]; cases τ <;> rfl
  injection hr with hr
  injection hr with hr1 hr2
  injection hr1 with hr1
  subst hr1 hr2
  obtain ⟨u, _, rfl, hu, hnil⟩ := hargs.cons_inv
  obtain rfl := hnil.nil_inv
  have hu : Ri w (Liv [] β) X (.sl false τ xs) u := hu
  have fin : ∀ {v' : Value} {w' : World} {news : List Value}, F2 (Ri w (Liv [] β) X) (flt τ xs) news → w'.ownsRow w.heap.size e (sz τ) v' xs.length news → v' ≠ .slice none 0 0 → Below w.heap.size w w' → ∃ u β', Ending.returned v' = .returned u ∧ Step w [] β w' [.row e τ xs] β' ∧ HeapOk w' (Liv [.row e τ xs] β') X [.row e τ xs] β' ∧ Cv w' (Liv [.row e τ xs] β') X [.row e τ xs] β' (.own 0) u := fun {v' w' news} hF hown hne hb => by
    obtain ⟨g, c, junk, rfl, hg, hh, hl, hm, hle⟩ := own_split2 hown hne
    obtain ⟨q1, q2, q3⟩ := end_row (h := []) (e := e) (τ := τ) (ys := xs) (g := g) (c := c) (A := some ⟨g, 0, none⟩) hH hX hb.os hb.tape hb.output hb.size (fun i hi _ => hb.block i hi) (.inr hg) (fun h => List.length_eq_zero_iff.1 (by omega)) hm (fun _ => ⟨news, junk, hh, hF, hl⟩) (fun _ => rfl)
    exact ⟨_, _, rfl, q1, q2, q3⟩
  cases hu with
  | sl g τ xs A cap b o us hA hcap hl hc hr =>
  cases A with
  | none =>
    refine (hN _ _ w).mono ?_
    rintro ex w' ⟨rfl, rfl⟩
    obtain rfl : xs = [] := by
      rcases Nat.eq_zero_or_pos xs.length with h0 | h0
      · exact List.length_eq_zero_iff.1 h0
      · have := (hA h0).1; cases this
    obtain ⟨q1, q2, q3⟩ := end_row (h := []) (e := e) (τ := τ) (ys := []) (g := w'.heap.size) (c := 0) (A := none) hH hX rfl rfl rfl (Nat.le_refl _) (fun i hi _ => rfl) (.inr (Nat.le_refl _)) (fun _ => rfl) (Nat.zero_le _) (fun h => by omega) (fun h => by omega)
    exact ⟨_, _, rfl, q1, q2, q3⟩
  | some A =>
    rcases Nat.eq_zero_or_pos xs.length with h0 | h0
    · obtain rfl : xs = [] := List.length_eq_zero_iff.1 h0
      refine (hC A 0 cap [] w (by simp) (Nat.zero_le _) (fun j u hj => by simp at hj) (fun u hu => by simp at hu)).mono ?_
      rintro ex w' ⟨v', rfl, h1, h2, h3⟩
      exact fin F2.nil h1 h2 h3
    · obtain ⟨e1, _, _⟩ := hA h0
      injection e1 with e1
      subst e1
      have hF : F2 (Ri w (Liv [] β) X) (flt τ xs) us := ⟨hl, hr⟩
      refine (hC ⟨b, o, none⟩ xs.length cap us w (by rw [hl, flt_len]) hn (fun j u hj => by rw [addr_add]; exact hc j u hj) (flt_one hF)).mono ?_
      rintro ex w' ⟨v', rfl, h1, h2, h3⟩
      exact fin hF h1 h2 h3
theorem setCells_row {g : Nat} {t : TypeId} : ∀ (vs : List Value) (o : Nat) (cur : Array Value) (w : World), w.heap[g]? = some (.cells cur t (0, 0)) → o + vs.length ≤ cur.size → w.setCells g o vs = w.setRow g (cur.toList.take o ++ vs ++ cur.toList.drop (o + vs.length)).toArray
  | [], o, cur, w, hg, _ => by
    simp only [World.setCells, List.append_nil, List.length_nil, Nat.add_zero, List.take_append_drop, Array.toArray_toList]
    rw [setRow_self w g cur t (0, 0) hg]
  | v :: r, o, cur, w, hg, hl => by
    have hi : o < cur.size := by simp at hl; omega
    have h1 : w.setCell ⟨g, o, none⟩ v = w.setRow g (cur.setIfInBounds o v) := setCell_eq_setRow w g o cur t (0, 0) v hg
    simp only [World.setCells]
    rw [h1, setCells_row r (o + 1) (cur.setIfInBounds o v) (w.setRow g (cur.setIfInBounds o v)) (setRow_heap w g cur _ t _ hg) (by simp at hl ⊢; omega), setRow_setRow]
    congr 2
    have e := list_seg_step cur.toList o v r (by simp at hl ⊢; omega)
    simpa [Array.toList_setIfInBounds, Nat.add_assoc] using e
theorem run_copy_rowN {P : Program} (w : World) (dT sT ty elem : TypeId) (g o dLen dCap : Nat) (a : Addr) (sLen sCap size : Nat) (cur : Array Value) (t : TypeId) (cs : List Value)
    (hu : P.underlying dT = some (.slice elem)) (hs : ∀ w, (sizeOf elem).run P w = .ok size w) (hg : w.heap[g]? = some (.cells cur t (0, 0))) (hn : cs.length = Nat.min sLen dLen * size)
    (hsrc : ∀ j v, cs[j]? = some v → w.cell? (a.add j) = some v) (hfit : o + cs.length ≤ cur.size) (h1 : ∀ v ∈ cs, v.oneCell' = true) :
    (Builtin.copy_ #[dT, sT] ty #[.slice (some ⟨g, o, none⟩) dLen dCap, .slice (some a) sLen sCap]).run P w =
      .ok (goInt (Nat.min sLen dLen)) (w.setRow g (cur.toList.take o ++ cs ++ cur.toList.drop (o + cs.length)).toArray) := by
  have hl := run_firstCells_some (P := P) w size (Nat.min sLen dLen) a sLen sCap cs hn hsrc
  have hst := run_storeCells_at P g o t cs 0 cur w hg (by simpa using hfit) h1
  simp only [Nat.add_zero] at hst
  simp [Builtin.copy_, run_underlying hu, Builtin.lenOf, hs, hl, hst]
theorem zeroCells_len (cs : Array Value) (n : Nat) : (Builtin.zeroCells cs n).toList.length = n * cs.size := by
  simp [Builtin.zeroCells]
theorem run_clear_rowN {P : Program} (w : World) (t e ty : TypeId) (z : Value) (ht : P.underlying t = some (.slice e)) (hv : ∀ w, (zeroValue e).run P w = .ok z w) (h1 : ∀ v ∈ z.cells.toList, v.oneCell' = true) (b o n c : Nat) (hn : 0 < n) (cur : Array Value) (t' : TypeId)
    (hg : w.heap[b]? = some (.cells cur t' (0, 0))) (hfit : o + n * z.cells.size ≤ cur.size) :
    ∃ zs : List Value, zs.length = n * z.cells.size ∧ (Builtin.clear_ #[t] ty #[.slice (some ⟨b, o, none⟩) n c]).run P w = .ok (.tuple #[]) (w.setRow b (cur.toList.take o ++ zs ++ cur.toList.drop (o + zs.length)).toArray) := by
  have hzl := zeroCells_len z.cells n
  have hst := run_storeCells_at P b o t' (Builtin.zeroCells z.cells n).toList 0 cur w hg (by rw [Nat.add_zero, hzl]; exact hfit) (fun v hv' => by
    simp only [Builtin.zeroCells, Array.toList_map, List.mem_map] at hv'
    obtain ⟨j, hj, rfl⟩ := hv'
    have hj : j < n * z.cells.size := by simpa using hj
    have hp : 0 < z.cells.size := by
      rcases Nat.eq_zero_or_pos z.cells.size with h | h
      · rw [h] at hj; omega
      · exact h
    have hm := Nat.mod_lt j hp
    refine h1 _ ?_
    rw [getElem!_pos z.cells (j % z.cells.size) hm]
    exact Array.getElem_mem_toList ..)
  simp only [Nat.add_zero] at hst
  obtain ⟨m, rfl⟩ : ∃ m, n = m + 1 := ⟨n - 1, by omega⟩
  exact ⟨_, hzl, by simp [Builtin.clear_, run_underlying ht, hv, hst]⟩
theorem app_any {P : Program} {t e ty : TypeId} {i : TI} (T : TOk P t i) {τ : Ty} {bytes : Nat} (he : i.elem = some (e, τ, bytes)) {h : List AObj} {β : List (Nat × Nat)} {X : Nat → Prop} {w : World} {A : Option Addr} {b c : Nat} {xs ys : List (El τ)} {u : Value} (hc0 : c = 0 → xs = []) (hA : 0 < c → A = some ⟨b, 0, none⟩) (hcm : c ≤ maxLen)
    (hrow : 0 < c → ∃ us junk, w.heap[b]? = some (.cells (us ++ junk).toArray e (0, 0)) ∧ F2 (Ri w (Liv h β) X) (flt τ xs) us ∧ (us ++ junk).length = c * sz τ) (hx : SrcA w (Liv h β) X τ ys u) (hp : 0 < ys.length) (hb : xs.length + ys.length ≤ 33554432) :
    ∃ g c2 us junk w', (Builtin.append_ #[t, t] ty #[.slice A xs.length c, u]).run P w = .ok (.slice (some ⟨g, 0, none⟩) (xs ++ ys).length c2) w' ∧ (0 < c ∧ g = b ∨ w.heap.size ≤ g) ∧ 0 < c2 ∧ c2 ≤ maxLen ∧ w'.heap[g]? = some (.cells (us ++ junk).toArray e (0, 0)) ∧ F2 (Ri w (Liv h β) X) (flt τ (xs ++ ys)) us ∧ (us ++ junk).length = c2 * sz τ ∧ (∀ j, j < w.heap.size → (0 < c → j ≠ b) → w'.heap[j]? = w.heap[j]?) ∧ w'.os = w.os ∧ w'.tape = w.tape ∧ w'.output = w.output ∧ w.heap.size ≤ w'.heap.size := by
  obtain ⟨hund, ⟨inf, z, g2, g3, g4, g5, g6⟩, hsm⟩ := T.el e τ bytes he
  rcases Nat.eq_zero_or_pos c with hc | hc
  · subst hc
    obtain rfl := hc0 rfl
    obtain ⟨g, c2, junk, news, w', hrun, hg, hcp, hcm2, hh, hF, hl, hbw⟩ := app_raw (C := ⟨w, h, β, 0, X⟩) (st := ⟨[], h⟩) T he rfl (A0 := A) (ty := ty) hx hp (by simpa using hb)
    exact ⟨g, c2, news, junk, w', hrun, .inr hg, hcp, hcm2, hh, hF, hl, fun j hj _ => hbw.block j hj, hbw.os, hbw.tape, hbw.output, hbw.size⟩
  · obtain ⟨us, junk, q1, q2, q4⟩ := hrow hc
    obtain ⟨Ax, cx, rfl, hx⟩ := hx
    obtain ⟨bx, px, news, rfl, hcx, hrx⟩ := hx hp
    have h1x := flt_one hrx
    have hbytes : (xs.length + ys.length) * bytes ≤ 140737488355328 := by
      have := Nat.mul_le_mul hb hsm
      omega
    obtain rfl := hA hc
    have hlen : xs.length ≤ c := by
      have : xs.length * sz τ ≤ c * sz τ := by rw [← q4, ← flt_len, ← q2.1]; simp
      exact Nat.le_of_mul_le_mul_right this (sz_pos τ)
    have hown : w.ownsRow 0 e (sz τ) (.slice (some ⟨b, 0, none⟩) xs.length c) xs.length us := ⟨by rw [q2.1, flt_len], .inr ⟨b, c, (us ++ junk).toArray, rfl, Nat.zero_le _, q1, hlen, hcm, by simpa using q4, by rw [← flt_len, ← q2.1]; simp⟩⟩
    obtain ⟨v', w', hrun, hown', hgr, hnil, hor⟩ := run_append_own_at (P := P) (w := w) 0 t ty e inf z (sz τ) bytes hund g2 g3 g4 g5 g6 (sz_pos τ) _ xs.length us hown ⟨bx, px, none⟩ ys.length cx news (by rw [hrx.1, flt_len]) (fun j u hu => by rw [addr_add]; exact hcx j u hu) h1x (by unfold maxLen; omega) hbytes (Nat.zero_le _)
    obtain ⟨g, c2, junk2, rfl, hh, hl, hmx, hle2⟩ := own_split hown' (fun e => by have := (hnil.1 e).1; cases this)
    have hg : g = b ∨ w.heap.size ≤ g := by
      rcases hor with e | e
      · simp [Value.ownBlock] at e; exact .inl e
      · simp [Value.ownBlock] at e; exact .inr (by omega)
    have hlen2 : (xs ++ ys).length = xs.length + ys.length := List.length_append
    refine ⟨g, c2, us ++ news, junk2, w', by rw [hlen2]; exact hrun, hg.imp (fun h => ⟨hc, h⟩) id, by omega, hmx, hh, by rw [flt_app]; exact q2.app hrx, hl, fun j hj hne => hgr.block j hj (by simpa [Value.ownBlock] using hne hc), hgr.os, hgr.tape, hgr.output, hgr.size⟩
end Go.Proofs.YtjffopopheiinaaGreat
end
