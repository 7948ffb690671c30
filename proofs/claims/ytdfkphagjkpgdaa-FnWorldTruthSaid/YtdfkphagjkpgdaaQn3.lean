/- Part 3 of the proof: Kc Kd Ke Kf Mv Mx Shelf Mso B3 Mrp Ml Mrb Mlb SA KA SD. -/
import Derived.Test.YtdfkphagjkpgdaaProg
import Derived.KernelRfl
import Derived.Test.YtdfkphagjkpgdaaRows
import Derived.ProofKit
import Derived.OpenShut
import Derived.Carry
import Derived.Deep.Slices
import Derived.Deep.Fields
import Derived.Deep.Strs
import Derived.Lib.SmallJoins
import Derived.ChangeSame
import Derived.Shelf.Small.Bits
import Derived.Shelf.Small.Wraps
import Derived.Shelf.Strconv.Itoa0
import Derived.Shelf.Sort.Plain
import Derived.Shelf.Bits.Mul64
import Derived.Ground.Names2Prog
import Derived.Shelf.Slices.SearchI
import Derived.Shelf.Slices.In.SortNone
import Derived.Sort.OwnSortedInts
import Derived.BigQuiet
import Derived.Deep.QuietTactic
import Derived.Deep.DeepCutAuto
import Derived.Deep.LoopGhost
import Derived.Laws.CopyOwn
import Derived.Deep.OwnRows
import Derived.Deep.AppendSrc
import Derived.Laws.CopyRow
import Derived.Test.YtdfkphagjkpgdaaQn2
set_option linter.unusedSimpArgs false
set_option linter.unusedVariables false
section
namespace Go.Proofs.Ytdfkphagjkpgdaa
open Go.RowKit

def preOk (tab : TypeId → Option TI) (ops : Array Oper) (N : Nat) (q : Nat × Nat) : Bool := match ops[q.1]? with
  | some o => (match o.op, o.dst, o.guard with
    | .buildSlice t n ps, some d, none => Nat.beq n 0 && ps.isEmpty && Nat.beq d q.2 && Nat.blt d N && (match tab t with | some i => (match i.elem with | some _ => true | none => false) | none => false)
    | _, _, _ => false) && o.after.all (fun e => !Region.binds .any e)
  | none => false
structure PreR (P : Program) (ops : Array Oper) (N : Nat) (q : Nat × Nat) (o : Oper) : Prop where
  at_ : ops[q.1]? = some o
  dst : o.dst = some q.2
  guard : o.guard = none
  lt : q.2 < N
  sel : ∀ cs b, o.op ≠ .select cs b
  wait : ∀ e ∈ o.after, Region.binds .any e = true → False
  noval : valOp o.op = false
  run : ∃ e, ∀ (ρ : Operand → Value) w, (execOp ρ o).run P w = .ok (.value (.slice (some ⟨w.heap.size, 0, none⟩) 0 0)) (w.alloc (.cells #[] e))
section
variable {P : Program} {tab : TypeId → Option TI} {ops : Array Oper} {N : Nat}
theorem preOk_ok (H : TabOk P tab) {q : Nat × Nat} (h : preOk tab ops N q = true) : ∃ o, PreR P ops N q o := by
  unfold preOk at h
  split at h
  case h_2 => cases h
  rename_i o ho
  simp only [Bool.and_eq_true] at h
  obtain ⟨h, hw⟩ := h
  split at h
  case h_2 => cases h
  rename_i t n ps d hop hdst hg
  simp only [Bool.and_eq_true] at h
  obtain ⟨⟨⟨⟨h1, h2⟩, h3⟩, h4⟩, h5⟩ := h
  have h1 := Nat.eq_of_beq_eq_true h1
  subst h1
  have h3 := Nat.eq_of_beq_eq_true h3
  subst h3
  have hps : ps = #[] := by simpa using h2
  subst hps
  split at h5
  case h_2 => cases h5
  rename_i i hi
  split at h5
  case h_2 => cases h5
  rename_i el hel
  obtain ⟨e, τ, bytes⟩ := el
  refine ⟨o, ho, hdst, hg, Nat.blt_eq.mp h4, fun cs b => (by rw [hop]; intro h; cases h), fun e' he' hb => ?_, by rw [hop]; rfl, e, fun ρ w => ?_⟩
  · have := Array.all_eq_true_iff_forall_mem.1 hw e' he'
    rw [hb] at this; cases this
  · have T := H t i hi
    simp [execOp, hop, Instr.buildSlice, run_undE T hel, run_sizeE T hel, Instr.fill, newRow, Array.range_zero']
def nilV : Value := .slice none 0 0
def vput : List (Nat × Nat) → Act → Act
  | [], a => a
  | q :: r, a => (vput r a).put (some q.2) nilV
def vl : List (Nat × Nat) → Array Bool → Array Bool
  | [], l => l
  | q :: r, l => (vl r l).setIfInBounds q.1 true
def preSt : List (Nat × Nat) → St → St
  | [], st => st
  | q :: r, st => (preSt r st).put (some q.2) (.im .nil)
theorem vl_set (D : List (Nat × Nat)) (l : Array Bool) (i : Nat) : vl D (l.setIfInBounds i true) = (vl D l).setIfInBounds i true := by
  induction D with
  | nil => rfl
  | cons q r ih =>
    simp only [vl, ih]
    by_cases h : i = q.1
    · subst h; rfl
    · exact Array.setIfInBounds_comm _ _ h
theorem vput_size (D : List (Nat × Nat)) (a : Act) : (vput D a).tmps.size = a.tmps.size := by
  induction D with
  | nil => rfl
  | cons q r ih => simp [vput, Act.put, ih]
theorem vput_defers (D : List (Nat × Nat)) (a : Act) : (vput D a).defers = a.defers := by
  induction D with
  | nil => rfl
  | cons q r ih => simp [vput, Act.put, ih]
theorem vput_at (D : List (Nat × Nat)) (a : Act) (i : Nat) (hi : i < a.tmps.size) : (vput D a).tmps[i]? = if i ∈ D.map (·.2) then some nilV else a.tmps[i]? := by
  induction D with
  | nil => simp [vput]
  | cons q r ih =>
    simp only [vput, Act.put, List.map_cons, List.mem_cons]
    by_cases h : q.2 = i
    · subst h
      rw [if_pos (.inl rfl), Array.getElem?_setIfInBounds, if_pos rfl, if_pos (by rw [vput_size]; exact hi)]
    · rw [Array.getElem?_setIfInBounds_ne h, ih]
      have hne : i ≠ q.2 := fun e => h e.symm
      by_cases hr : i ∈ r.map (·.2)
      · rw [if_pos hr, if_pos (.inr hr)]
      · rw [if_neg hr, if_neg (fun e => e.elim hne hr)]
theorem vput_out (D : List (Nat × Nat)) (a : Act) (i : Nat) (hi : a.tmps.size ≤ i) : (vput D a).tmps[i]? = none := Array.getElem?_eq_none (by rw [vput_size]; exact hi)
theorem vput_put {D : List (Nat × Nat)} {a : Act} {d : Option Tmp} {v : Value} (h : ∀ q ∈ D, d ≠ some q.2) : (vput D a).put d v = vput D (a.put d v) := by
  induction D with
  | nil => rfl
  | cons q r ih =>
    simp only [vput]
    rw [← ih fun q' hq' => h q' (List.mem_cons_of_mem _ hq'), Act.put_comm]
    intro e he hd
    exact h q (List.mem_cons_self ..) (hd.trans he.symm)
theorem wpOp_vput {Q : Exit → Act → World → Prop} {j : Nat} {oj : Oper} (hj : ops[j]? = some oj) (hsj : ∀ cs b, oj.op ≠ .select cs b) : ∀ (D : List (Nat × Nat)) {K : Act → World → Prop} {a : Act} {w : World}, (∀ q ∈ D, ∃ oi, PreR P ops N q oi ∧ oi.apart ops oj = true) → wpOp P ops (NoP Q) j K (vput D a) w → wpOp P ops (NoP Q) j (fun a' w' => K (vput D a') w') a w
  | [], K, a, w, _, h => h
  | q :: r, K, a, w, hD, h => by
    obtain ⟨oi, hp, hap⟩ := hD q (List.mem_cons_self ..)
    simp only [vput] at h
    rw [← hp.dst] at h
    have := wpOp_putIf (S := fun _ => False) hj hap hp.sel hsj (fun c a w h => h) (.inl ⟨by simp [Region.wanted, hp.guard], fun w h => h.elim⟩) h
    rw [hp.dst] at this
    exact wpOp_vput hj hsj r (fun q' hq' => hD q' (List.mem_cons_of_mem _ hq')) (wpOp_mono (fun a' w' h' => h'.2) this)
theorem same_vput {Q : Oper → Act → Prop} {j : Nat} {oj : Oper} (hsj : ∀ cs b, oj.op ≠ .select cs b) : ∀ (D : List (Nat × Nat)) {a : Act}, (∀ q ∈ D, ∃ oi, PreR P ops N q oi ∧ oi.apart ops oj = true) → execOp (vput D a).eval oj = execOp a.eval oj ∧ Region.wanted oj (yielded ops (vput D a).tmps) = Region.wanted oj (yielded ops a.tmps)
  | [], a, _ => ⟨rfl, rfl⟩
  | q :: r, a, hD => by
    obtain ⟨oi, hp, hap⟩ := hD q (List.mem_cons_self ..)
    obtain ⟨h1, _, _⟩ := Oper.apart_spec hap
    obtain ⟨i1, i2⟩ := same_vput (Q := Q) (j := j) hsj r (a := a) (fun q' hq' => hD q' (List.mem_cons_of_mem _ hq'))
    simp only [vput]
    rw [← hp.dst]
    exact ⟨(execOp_put oj hsj _ oi.dst nilV h1).trans i1, (wanted_put oj _ oi.dst nilV h1).trans i2⟩
end
def trP (md : Region.Mode) (ops : Array Oper) : Bool → Nat → Tr → Array Bool → Array Bool → Bool
  | _, 0, .done, _, L => decide (Region.ready md ops L = [])
  | _, m + 1, .val k r, base, L => (match ops[k]? with
     | some o => valOp o.op && (Region.ready md ops base).contains k && Region.free md ops base k
     | none => false) && trP md ops true m r (base.setIfInBounds k true) (L.setIfInBounds k true)
  | b, m + 1, .one k r, base, L => (!b || decide (Region.ready md ops L = [k])) && trP md ops true m r (base.setIfInBounds k true) (L.setIfInBounds k true)
  | b, m + 1, .alt k r t, base, L => (!b || decide (Region.ready md ops L = k :: heads t)) && trP md ops true m r (base.setIfInBounds k true) (L.setIfInBounds k true) && trP md ops false (m + 1) t base L
  | _, _, _, _, _ => false
def distinct : List Nat → Bool
  | [] => true
  | k :: r => notIn r k && distinct r
def preB (tab : TypeId → Option TI) (ops : Array Oper) (N : Nat) (D : List (Nat × Nat)) (t : Tr) : Bool :=
  Region.noSelect ops && D.all (preOk tab ops N) && D.all (fun q => Region.free .any ops (Array.replicate ops.size false) q.1) && distinct (D.map (·.1)) && distinct (D.map (·.2)) && Nat.ble D.length ops.size && trP .any ops true (ops.size - D.length) t (Array.replicate ops.size false) (vl D (Array.replicate ops.size false))
def isNil : Option PV → Bool
  | some (.im .nil) => true
  | _ => false
def chkD (D : List (Nat × Nat)) (t0 t : List (Nat × PV)) : Bool := D.all fun q => noSlot t0 (some q.2) && isNil (slot t q.2)
def evPc {ρ : Type} (G : Env) (ops : List Oper) (ks : List Nat) (D : List (Nat × Nat)) : List (Nat × Bool) → List (Oper × Bool) → St → St → (List (Nat × Bool) → St → Option ρ) → Option ρ
  | kn, [], st0, st, K => bif chkD D st0.t st.t then K kn st else G.bad ρ 37 none st
  | kn, (o, f) :: r, st0, st, K => bif chkD D st0.t st.t then evS G ops ks kn o f st0 st fun kn' s u => evPc G ops ks D kn' r s u K else G.bad ρ 37 (some o) st
def evRP (G : Env) (ops : List Oper) (D : List (Nat × Nat)) (ks : List Nat) (F FX FR : Frame) (p : List (Nat × Bool)) (s : HL F.hs) : Option (HL FX.hs ⊕ HL FR.hs) := bif boxes (F.st s).h ks then evPc G ops ks D [] (picked ops p) ⟨(F.st s).t, killB ks (F.st s).h⟩ (preSt D (F.st s)) fun _ st2 => (match FX.get G.M st2 with | some x => some (.inl x) | none => G.bad _ 52 none st2) else G.bad _ 41 none (F.st s)
theorem notIn_ok2 {k : Nat} : ∀ {l : List Nat}, notIn l k = true → k ∉ l
  | [], _, h => by simp at h
  | j :: r, h, hk => by
    simp only [notIn] at h
    cases hb : Nat.beq j k with
    | true => rw [hb] at h; cases h
    | false =>
      rw [hb] at h
      rcases List.mem_cons.1 hk with rfl | hk
      · simp at hb
      · exact notIn_ok2 h hk
theorem distinct_ok : ∀ {l : List Nat}, distinct l = true → l.Nodup
  | [], _ => List.nodup_nil
  | k :: r, h => by
    simp only [distinct, Bool.and_eq_true] at h
    exact List.nodup_cons.2 ⟨notIn_ok2 h.1, distinct_ok h.2⟩
theorem chkD_ok {D : List (Nat × Nat)} {t0 t : List (Nat × PV)} (h : chkD D t0 t = true) : ∀ q ∈ D, slot t0 q.2 = none ∧ slot t q.2 = some (.im .nil) := fun q hq => by
  have := List.all_eq_true.1 h q hq
  simp only [Bool.and_eq_true] at this
  refine ⟨noSlot_ok this.1 _ rfl, ?_⟩
  have h2 := this.2
  unfold isNil at h2
  split at h2
  · rename_i e; exact e
  · cases h2
theorem vl_ready {md : Region.Mode} {ops : Array Oper} {i : Nat} {l : Array Bool} : ∀ {D : List (Nat × Nat)}, i ∈ Region.ready md ops l → i ∉ D.map (·.1) → i ∈ Region.ready md ops (vl D l)
  | [], h, _ => h
  | q :: r, h, hn => by
    simp only [List.map_cons, List.mem_cons, not_or] at hn
    exact ready_mono (vl_ready (D := r) h hn.2) hn.1
theorem vl_take {D : List (Nat × Nat)} {q : Nat × Nat} {l : Array Bool} (hq : q ∈ D) : vl (D.erase q) (l.setIfInBounds q.1 true) = vl D l := by
  induction D with
  | nil => simp at hq
  | cons p r ih =>
    by_cases h : p = q
    · subst h
      rw [List.erase_cons_head, vl_set]
      rfl
    · have hr : q ∈ r := (List.mem_cons.1 hq).resolve_left (fun e => h e.symm)
      have : (p :: r).erase q = p :: r.erase q := List.erase_cons_tail (by simpa using h)
      rw [this]
      simp only [vl, ih hr]
section
variable {P : Program} {G : Env} {C : Ctx} {E0 : Nat → Prop} {ks : List Nat} {st0 st : St} {a a' : Act} {w0 w : World} {β0 β : List (Nat × Nat)}
theorem Sim.alloc0 (S : SimL C st a w β) (o : Obj) : SimL C st a (w.alloc o) β ∧ Step w st.h β (w.alloc o) st.h β := by
  have hb : Below w.heap.size w (w.alloc o) := (Below.refl _ _).alloc (Nat.le_refl _) _
  have hs : Step w st.h β (w.alloc o) st.h β := ⟨hb.os, hb.tape, hb.output, hb.size, fun b hb' _ => hb.block b hb', fun _ _ h => h, fun _ _ h => h, Hle.refl _⟩
  exact ⟨S.world hs ⟨S.heap.len, fun _ h => h, S.heap.nx, fun k ob hk => (S.heap.ok k ob hk).keep (fun b c h1 h2 => hb.block b (Liv.lt S.heap ⟨k, ob, c, hk, h2, h1⟩)) (fun b hb' _ => hb.block b hb') hb.size (fun _ _ h => h) (Hle.refl _) (fun _ _ h => h), S.heap.inj⟩, hs⟩
theorem Sim.tmps (S : Sim C E0 st a w β) (h1 : a'.tmps.size = a.tmps.size) (h2 : a'.defers = a.defers) (h3 : ∀ i v, slot st.t i = some v → a'.tmps[i]? = a.tmps[i]? ∨ ∃ u, a'.tmps[i]? = some u ∧ Cv w E0 C.X st.h β v u) : Sim C E0 st a' w β := by
  refine ⟨S.cl, S.xw, S.step, S.heap, h1.trans S.sz, h2.trans S.df, fun i v hi => ?_⟩
  rcases h3 i v hi with h | h
  · rw [h]; exact S.tm i v hi
  · exact h
theorem nd_erase {g : Nat × Nat → Nat} {D : List (Nat × Nat)} {q : Nat × Nat} (hn : (D.map g).Nodup) (hq : q ∈ D) : g q ∉ (D.erase q).map g ∧ ∀ i, i ≠ g q → (i ∈ (D.erase q).map g ↔ i ∈ D.map g) := by
  induction D with
  | nil => simp at hq
  | cons p r ih =>
    simp only [List.map_cons, List.nodup_cons] at hn
    by_cases h : p = q
    · subst h
      rw [List.erase_cons_head]
      exact ⟨hn.1, fun i hi => by simp [hi]⟩
    · have hr : q ∈ r := (List.mem_cons.1 hq).resolve_left (fun e => h e.symm)
      have e : (p :: r).erase q = p :: r.erase q := List.erase_cons_tail (by simpa using h)
      obtain ⟨i1, i2⟩ := ih hn.2 hr
      rw [e]
      refine ⟨?_, fun i hi => ?_⟩
      · simp only [List.map_cons, List.mem_cons, not_or]
        exact ⟨fun e => hn.1 (by rw [← e]; exact List.mem_map_of_mem hr), i1⟩
      · simp only [List.map_cons, List.mem_cons, i2 i hi]
theorem sim_come {D : List (Nat × Nat)} {q : Nat × Nat} (hn : (D.map (·.2)).Nodup) (hq : q ∈ D) (hN : q.2 < C.N) (A : Option Addr) (hs : ∀ v, slot st.t q.2 = some v → v = .im .nil) (S : Sim C E0 st (vput D a) w β) : Sim C E0 st (vput (D.erase q) (a.put (some q.2) (.slice A 0 0))) w β := by
  have hsz : a.tmps.size = C.N := by rw [← S.sz, vput_size]
  obtain ⟨n1, n2⟩ := nd_erase (g := (·.2)) hn hq
  refine S.tmps (by simp [vput_size, Act.put]) (by simp [vput_defers, Act.put]) fun i v hi => ?_
  by_cases he : i = q.2
  · subst he
    refine .inr ⟨.slice A 0 0, ?_, by rw [hs v hi]; exact Ri.nil A⟩
    rw [vput_at _ _ _ (by simp [Act.put]; omega), if_neg n1]
    simp [Act.put, hsz, hN]
  · refine .inl ?_
    rcases Nat.lt_or_ge i a.tmps.size with hl | hl
    · rw [vput_at _ _ _ (by simpa [Act.put] using hl), vput_at _ _ _ hl]
      simp only [n2 i he]
      have : ¬ q.2 = i := fun e => he e.symm
      simp [Act.put, Array.getElem?_setIfInBounds_ne this]
    · rw [vput_out _ _ _ (by simpa [Act.put] using hl), vput_out _ _ _ hl]
theorem evPc_all {ρ ι : Type} (HB : BadOk G) {ops : List Oper} {D : List (Nat × Nat)} {kn : List (Nat × Bool)} {o : Oper} {f : Bool} {st0 st : St} {K : List (Nat × Bool) → St → Option ρ} {r : ρ} {L : List ι} {g : ι → List (Oper × Bool)} (hne : L ≠ []) (h : ∀ p ∈ L, evPc G ops ks D kn ((o, f) :: g p) st0 st K = some r) : chkD D st0.t st.t = true ∧ ∃ x : List (Nat × Bool) × St × St, evS G ops ks kn o f st0 st (fun a b c => some (a, b, c)) = some x ∧ ∀ p ∈ L, evPc G ops ks D x.1 (g p) x.2.1 x.2.2 K = some r := by
  have hc : chkD D st0.t st.t = true := by
    obtain ⟨p, hp⟩ := List.exists_mem_of_ne_nil L hne
    have := h p hp
    unfold evPc at this
    cases hc : chkD D st0.t st.t with
    | true => rfl
    | false => rw [hc] at this; simp only [cond_false] at this; rw [HB] at this; cases this
  refine ⟨hc, evS_all HB (K := fun p kn' s u => evPc G ops ks D kn' (g p) s u K) hne fun p hp => ?_⟩
  have := h p hp
  unfold evPc at this
  rw [hc] at this
  exact this
theorem chk_nil {ρ : Type} (HB : BadOk G) {ops : List Oper} {D : List (Nat × Nat)} {kn : List (Nat × Bool)} {l : List (Oper × Bool)} {st0 st : St} {K : List (Nat × Bool) → St → Option ρ} {r : ρ} (h : evPc G ops ks D kn l st0 st K = some r) : chkD D st0.t st.t = true := by
  unfold evPc at h
  cases hc : chkD D st0.t st.t with
  | true => rfl
  | false => cases l <;> simp only [hc, cond_false] at h <;> rw [HB] at h <;> cases h
structure Pend (ops : List Oper) (D Dp : List (Nat × Nat)) (base listed : Array Bool) : Prop where
  sub : ∀ q ∈ Dp, q ∈ D
  nk : (Dp.map (·.1)).Nodup
  ns : (Dp.map (·.2)).Nodup
  un : ∀ q ∈ Dp, listed.getD q.1 true = false
  inv : HeadInv .any ops.toArray ops.length listed
  below : ∀ i, base.getD i false = true → listed.getD i false = true
  off : ∀ i, i ∉ D.map (·.1) → listed.getD i true = base.getD i true
  done : ∀ q ∈ D, q ∉ Dp → listed.getD q.1 false = true
  offD : ∀ q ∈ D, base.getD q.1 true = false
theorem evTp_ok {ρ : Type} {h0 : List AObj} (HB : BadOk G) (HT : TabOk P G.tab) (H : CtrOk P G.Γ) {ops : List Oper} {D : List (Nat × Nat)} {K : List (Nat × Bool) → St → Option ρ} {r : ρ} {Q : Exit → Act → World → Prop} {T : Act → World → Prop} (hN : C.N = G.N)
    (hsel : Region.noSelect ops.toArray = true) (hD : ∀ q ∈ D, ∃ oi, PreR P ops.toArray G.N q oi) (hfree : ∀ q ∈ D, Region.free .any ops.toArray (Array.replicate ops.toArray.size false) q.1 = true)
    (hT : ∀ kn st a w β, K kn st = some r → SimL C st a w β → T a w) : ∀ (f m : Nat) (t : Tr) (Dp : List (Nat × Nat)) (base listed : Array Bool) (kn : List (Nat × Bool)) (st0 st : St) (a : Act) (w : World) (β : List (Nat × Nat)), f = m + Dp.length → Pend ops D Dp base listed → trP .any ops.toArray true m t base (vl Dp listed) = true → inT ops t = true →
      (∀ p ∈ paths t, evPc G ops ks D kn (picked ops p) st0 st K = some r) → st0.h = h0 → Sim C E0 st0 (vput Dp a) w0 β0 → SimL C st (vput Dp a) w β → PlanR ks E0 st0 w0 β0 st w β →
      wpAnyK P .any ops.toArray (NoP Q) (fun w' => Stab w0 w' E0 h0 β0) ops.length (fun listed' a' w' => Region.ready .any ops.toArray listed' = [] ∧ T a' w') f listed a w := by
  -- what is apart from all that is pending
  have apart : ∀ {Dp : List (Nat × Nat)} {base listed : Array Bool}, Pend ops D Dp base listed → ∀ {j : Nat} {oj : Oper}, ops.toArray[j]? = some oj → j ∉ Dp.map (·.1) → (∀ e ∈ oj.after, Region.binds .any e = true → listed.getD e.on false = true) → ∀ q ∈ Dp, ∃ oi, PreR P ops.toArray G.N q oi ∧ oi.apart ops.toArray oj = true := fun {Dp base listed} hp {j oj} hj hnj hall q hq => by
    obtain ⟨oi, hpr⟩ := hD q (hp.sub q hq)
    refine ⟨oi, hpr, Region.free_spec hpr.at_ (hfree q (hp.sub q hq)) j oj hj (fun e => hnj (by rw [e]; exact List.mem_map_of_mem hq)) ?_ fun e he hb heq => ?_⟩
    · have hlt : j < ops.toArray.size := (Array.getElem?_eq_some_iff.1 hj).1
      exact getD_in (by simpa using hlt) (getD_replicate_false _ _)
    · have h1 := hall e he hb
      rw [heq, getD_both (hp.un q hq)] at h1
      cases h1
  intro f
  induction f with
  | zero =>
    intro m t Dp base listed kn st0 st a w β hf hp hB hi h hh S0 S R
    obtain rfl : m = 0 := by omega
    obtain rfl : Dp = [] := List.length_eq_zero_iff.1 (by omega)
    cases t with
    | done =>
      refine ⟨of_decide_eq_true hB, ?_⟩
      have h1 := h [] (by simp [paths])
      have hc := chk_nil HB h1
      unfold evPc at h1
      simp only [picked, List.filterMap_nil, hc, cond_true] at h1
      exact hT kn st a w β h1 S
    | _ => simp [trP] at hB
  | succ f ih =>
    intro m t Dp base listed kn st0 st a w β hf hp hB hi_ h hh S0 S R
    have hcD : chkD D st0.t st.t = true := by
      obtain ⟨p, hp'⟩ := List.exists_mem_of_ne_nil _ (paths_ne t)
      exact chk_nil HB (h p hp')
    have hcD := chkD_ok hcD
    -- a pending one comes
    have come : ∀ q ∈ Dp, q.1 ∈ Region.ready .any ops.toArray listed ∧ wpOp P ops.toArray (NoP Q) q.1 (fun a' w' => Stab w0 w' E0 h0 β0 ∧ wpAnyK P .any ops.toArray (NoP Q) (fun w' => Stab w0 w' E0 h0 β0) ops.length (fun listed' a' w' => Region.ready .any ops.toArray listed' = [] ∧ T a' w') f (listed.setIfInBounds q.1 true) a' w') a w := fun q hq => by
      obtain ⟨oi, hpr⟩ := hD q (hp.sub q hq)
      have hrd : q.1 ∈ Region.ready .any ops.toArray listed := mem_ready.2 ⟨hp.un q hq, oi, hpr.at_, fun e he hb => (hpr.wait e he hb).elim⟩
      refine ⟨hrd, ?_⟩
      obtain ⟨e, hrun⟩ := hpr.run
      have hw : Region.wanted oi (yielded ops.toArray a.tmps) = true := by simp [Region.wanted, hpr.guard]
      unfold wpOp
      simp only [hpr.at_, hw, if_true]
      refine .inl ?_
      unfold Oper.wp
      rw [hrun]
      simp only [Oper.upon]
      rw [hpr.dst]
      have hlt : q.2 < C.N := by rw [hN]; exact hpr.lt
      obtain ⟨h1, h2⟩ := hcD q (hp.sub q hq)
      have S1 := sim_come hp.ns hq hlt (some ⟨w.heap.size, 0, none⟩) (fun v hv => by rw [h2] at hv; injection hv with hv; exact hv.symm) S
      have S2 := sim_come hp.ns hq hlt (some ⟨w.heap.size, 0, none⟩) (fun v hv => by rw [h1] at hv; cases hv) S0
      obtain ⟨S3, hst⟩ := Sim.alloc0 S1 (.cells #[] e)
      have hb : Below w.heap.size w (w.alloc (.cells #[] e)) := (Below.refl _ _).alloc (Nat.le_refl _) _
      have R' := R.step S0.heap.len (l := []) (fun k hk => by simp at hk) hst (fun _ b hb' _ => hb.block b hb')
      have hlenq : (Dp.erase q).length = Dp.length - 1 := List.length_erase_of_mem hq
      have hpos : 0 < Dp.length := List.length_pos_of_mem hq
      have hkn : q.1 < ops.toArray.size := (Array.getElem?_eq_some_iff.1 hpr.at_).1
      have hkn' : q.1 < ops.length := by simpa using hkn
      have hls : listed.size = ops.toArray.size := hp.inv.size
      refine ⟨by rw [← hh]; exact R'.stab, ih m t (Dp.erase q) base (listed.setIfInBounds q.1 true) kn st0 st _ _ β (by omega) ⟨fun p hp' => hp.sub p (List.mem_of_mem_erase hp'), (hp.nk.sublist (List.Sublist.map _ (List.erase_sublist ..))), (hp.ns.sublist (List.Sublist.map _ (List.erase_sublist ..))), fun p hp' => ?_, hp.inv.set hrd hkn', fun i hi => getD_set_true (hp.below i hi), fun i hn => ?_, fun p hpD hpn => ?_, hp.offD⟩ (by rw [vl_take hq]; exact hB) hi_ h hh S2 S3 R'⟩
      · rw [getD_set_ne true (fun e => ?_)]
        · exact hp.un p (List.mem_of_mem_erase hp')
        · exact (nd_erase (g := (·.1)) hp.nk hq).1 (by rw [show q.1 = p.1 from e]; exact List.mem_map_of_mem hp')
      · have e : q.1 ≠ i := by
          rintro rfl
          exact absurd (List.mem_map_of_mem (hp.sub q hq)) hn
        rw [getD_set_ne true e]
        exact hp.off i hn
      · by_cases e : p = q
        · subst e
          simp [Array.getD_eq_getD_getElem?, Array.getElem?_setIfInBounds, hls, hkn']
        · exact getD_set_true (hp.done p hpD fun h => hpn ((List.mem_erase_of_ne e).2 h))
    have hS : Stab w0 w E0 h0 β0 := by rw [← hh]; exact R.stab
    have notD : ∀ k, k ∈ Region.ready .any ops.toArray listed → k ∉ Dp.map (·.1) → ∀ q ∈ D, k ≠ q.1 := fun k hk hn q hq e => by
      by_cases hqp : q ∈ Dp
      · exact hn (by rw [e]; exact List.mem_map_of_mem hqp)
      · have h1 := hp.done q hq hqp
        rw [← e, getD_both (mem_ready.1 hk).1] at h1
        cases h1
    have pend : ∀ k, k ∈ Region.ready .any ops.toArray listed → (∀ q ∈ D, k ≠ q.1) → k ∉ Dp.map (·.1) → Pend ops D Dp (base.setIfInBounds k true) (listed.setIfInBounds k true) := fun k hk hkD hn => by
      obtain ⟨hun, o, ho, hall⟩ := mem_ready.1 hk
      have hkl : k < ops.length := by have := (Array.getElem?_eq_some_iff.1 ho).1; simpa using this
      refine ⟨hp.sub, hp.nk, hp.ns, fun q hq => ?_, hp.inv.set hk hkl, fun i hi => ?_, fun i hi => ?_, fun q hq hqn => getD_set_true (hp.done q hq hqn), fun q hq => ?_⟩
      · rw [getD_set_ne true (hkD q (hp.sub q hq))]; exact hp.un q hq
      · by_cases e : k = i
        · subst e
          have hls : listed.size = ops.toArray.size := hp.inv.size
          simp [Array.getD_eq_getD_getElem?, Array.getElem?_setIfInBounds, hls, hkl]
        · rw [getD_set_ne false e] at hi ⊢
          exact hp.below i hi
      · by_cases e : k = i
        · subst e
          have h1 : ∀ l : Array Bool, (l.setIfInBounds k true).getD k true = true := fun l => by
            rcases Nat.lt_or_ge k l.size with h | h
            · simp [Array.getD_eq_getD_getElem?, Array.getElem?_setIfInBounds, h]
            · simp [Array.getD_eq_getD_getElem?, Array.getElem?_setIfInBounds, Nat.not_lt.2 h]
          rw [h1, h1]
        · rw [getD_set_ne true e, getD_set_ne true e]; exact hp.off i hi
      · rw [getD_set_ne true (hkD q hq)]; exact hp.offD q hq
    -- one that is not pending
    have alts : ∀ (m' : Nat), m = m' + 1 → ∀ (t' : Tr), trP .any ops.toArray false (m' + 1) t' base (vl Dp listed) = true → inT ops t' = true → (∀ p ∈ paths t', evPc G ops ks D kn (picked ops p) st0 st K = some r) → ∀ i ∈ heads t', i ∈ Region.ready .any ops.toArray listed → i ∉ Dp.map (·.1) →
        wpOp P ops.toArray (NoP Q) i (fun a' w' => Stab w0 w' E0 h0 β0 ∧ wpAnyK P .any ops.toArray (NoP Q) (fun w' => Stab w0 w' E0 h0 β0) ops.length (fun listed' a' w' => Region.ready .any ops.toArray listed' = [] ∧ T a' w') f (listed.setIfInBounds i true) a' w') a w := fun m' hm t' => by
      have single : ∀ k t1, trP .any ops.toArray true m' t1 (base.setIfInBounds k true) ((vl Dp listed).setIfInBounds k true) = true → k < ops.length → inT ops t1 = true → (∀ p ∈ paths t1, evPc G ops ks D kn (picked ops ((k, false) :: p)) st0 st K = some r) → k ∈ Region.ready .any ops.toArray listed → k ∉ Dp.map (·.1) →
          wpOp P ops.toArray (NoP Q) k (fun a' w' => Stab w0 w' E0 h0 β0 ∧ wpAnyK P .any ops.toArray (NoP Q) (fun w' => Stab w0 w' E0 h0 β0) ops.length (fun listed' a' w' => Region.ready .any ops.toArray listed' = [] ∧ T a' w') f (listed.setIfInBounds k true) a' w') a w := fun k t1 hB1 hkl hi1 hps hrd hnk => by
        have hk := List.getElem?_eq_getElem hkl
        generalize ops[k] = o at hk
        have hk' : ops.toArray[k]? = some o := by simpa using hk
        obtain ⟨_, x, h1, h2⟩ := evPc_all HB (g := fun p => picked ops p) (L := paths t1) (paths_ne t1) fun p hp' => by
          have := hps p hp'
          rwa [picked_cons hk] at this
        obtain ⟨_, o', ho', hall⟩ := mem_ready.1 hrd
        have hoo : o' = o := by rw [hk'] at ho'; injection ho' with ho'; exact ho'.symm
        subst hoo
        have hstep := evS_ok (r := x) (Q := Q) (T := fun a' w' => ∃ β', Sim C E0 x.2.1 a' w0 β0 ∧ SimL C x.2.2 a' w' β' ∧ PlanR ks E0 x.2.1 w0 β0 x.2.2 w' β' ∧ x.2.1.h = h0) HB HT H hN (fun kn' s u a' w' β' hx hh' S0' S' R' => by
          injection hx with hx
          subst hx
          exact ⟨β', S0', S', R', hh'⟩) h1 hh S0 S R
        have h3 : wpOp P ops.toArray (NoP Q) k (fun a' w' => Stab w0 w' E0 h0 β0 ∧ ∃ β', Sim C E0 x.2.1 a' w0 β0 ∧ SimL C x.2.2 a' w' β' ∧ PlanR ks E0 x.2.1 w0 β0 x.2.2 w' β' ∧ x.2.1.h = h0) (vput Dp a) w := wpOp_effT (S := fun w' => Stab w0 w' E0 h0 β0) hk' hS hstep fun a' w' hS' h' => ⟨hS', h'⟩
        refine wpOp_mono ?_ (wpOp_vput hk' (Region.noSelect_spec hsel k o' · · hk') Dp (apart hp hk' hnk hall) h3)
        rintro a' w' ⟨hS', β', S0', S', R', hh'⟩
        exact ⟨hS', ih m' t1 Dp (base.setIfInBounds k true) (listed.setIfInBounds k true) x.1 x.2.1 x.2.2 a' w' β' (by omega) (pend k hrd (notD k hrd hnk) hnk) (by rw [vl_set]; exact hB1) hi1 h2 hh' S0' S' R'⟩
      induction t' with
      | one k t1 _ =>
        intro hB' hi' hps i hih hrd hnk
        simp only [trP, Bool.not_false, Bool.true_or, Bool.true_and] at hB'
        simp only [inT, Bool.and_eq_true, decide_eq_true_eq] at hi'
        obtain rfl : i = k := by simpa [heads] using hih
        exact single i t1 hB' hi'.1 hi'.2 (fun p hp' => hps _ (by simp only [paths]; exact List.mem_map_of_mem hp')) hrd hnk
      | alt k t1 t2 _ ih2 =>
        intro hB' hi' hps i hih hrd hnk
        simp only [trP, Bool.not_false, Bool.true_or, Bool.true_and, Bool.and_eq_true] at hB'
        simp only [inT, Bool.and_eq_true, decide_eq_true_eq] at hi'
        rcases List.mem_cons.1 (show i ∈ k :: heads t2 from hih) with rfl | hih
        · exact single i t1 hB'.1 hi'.1.1 hi'.1.2 (fun p hp' => hps _ (by simp only [paths]; exact List.mem_append_left _ (List.mem_map_of_mem hp'))) hrd hnk
        · exact ih2 hB'.2 hi'.2 (fun p hp' => hps p (by simp only [paths]; exact List.mem_append_right _ hp')) i hih hrd hnk
      | _ => intro _ _ _ i hih; simp [heads] at hih
    have lt_of : ∀ i, i ∈ Region.ready .any ops.toArray listed → i < ops.length := fun i hi => by
      obtain ⟨_, o, ho, _⟩ := mem_ready.1 hi
      have := (Array.getElem?_eq_some_iff.1 ho).1
      simpa using this
    have key : (Region.ready .any ops.toArray listed ≠ []) → (∀ i ∈ Region.ready .any ops.toArray (vl Dp listed), i ∈ Region.ready .any ops.toArray listed → i ∉ Dp.map (·.1) → wpOp P ops.toArray (NoP Q) i (fun a' w' => Stab w0 w' E0 h0 β0 ∧ wpAnyK P .any ops.toArray (NoP Q) (fun w' => Stab w0 w' E0 h0 β0) ops.length (fun listed' a' w' => Region.ready .any ops.toArray listed' = [] ∧ T a' w') f (listed.setIfInBounds i true) a' w') a w) →
        wpAnyK P .any ops.toArray (NoP Q) (fun w' => Stab w0 w' E0 h0 β0) ops.length (fun listed' a' w' => Region.ready .any ops.toArray listed' = [] ∧ T a' w') (f + 1) listed a w := fun hne hall => ⟨hne, fun i hi => ⟨lt_of i hi, by
      by_cases hik : i ∈ Dp.map (·.1)
      · obtain ⟨q, hq, rfl⟩ := List.mem_map.1 hik
        exact (come q hq).2
      · exact hall i (vl_ready hi hik) hi hik⟩⟩
    have hne0 : Dp ≠ [] → Region.ready .any ops.toArray listed ≠ [] := fun hd => by
      obtain ⟨q, hq⟩ := List.exists_mem_of_ne_nil _ hd
      exact List.ne_nil_of_mem (come q hq).1
    cases m with
    | zero =>
      cases t with
      | done =>
        have hB : Region.ready .any ops.toArray (vl Dp listed) = [] := of_decide_eq_true hB
        refine key (hne0 fun e => by rw [e] at hf; simp at hf) fun i hi => ?_
        rw [hB] at hi
        cases hi
      | _ => simp [trP] at hB
    | succ m' =>
      cases t with
      | done => simp [trP] at hB
      | two => simp [trP] at hB
      | one k t1 =>
        have hB0 : trP .any ops.toArray false (m' + 1) (.one k t1) base (vl Dp listed) = true := by
          simp only [trP, Bool.and_eq_true, Bool.not_false, Bool.true_or, true_and] at hB ⊢
          exact hB.2
        simp only [trP, Bool.and_eq_true, Bool.not_true, Bool.false_or, decide_eq_true_eq] at hB
        refine key ?_ fun i hi hrd hnk => alts m' rfl (.one k t1) hB0 hi_ h i (by rw [hB.1] at hi; exact hi) hrd hnk
        by_cases hd : Dp = []
        · subst hd
          rw [show vl [] listed = listed from rfl] at hB
          rw [hB.1]; simp
        · exact hne0 hd
      | alt k t1 t2 =>
        have hB0 : trP .any ops.toArray false (m' + 1) (.alt k t1 t2) base (vl Dp listed) = true := by
          simp only [trP, Bool.and_eq_true, Bool.not_false, Bool.true_or, true_and] at hB ⊢
          exact ⟨hB.1.2, hB.2⟩
        simp only [trP, Bool.and_eq_true, Bool.not_true, Bool.false_or, decide_eq_true_eq] at hB
        refine key ?_ fun i hi hrd hnk => alts m' rfl (.alt k t1 t2) hB0 hi_ h i (by rw [hB.1.1] at hi; exact hi) hrd hnk
        by_cases hd : Dp = []
        · subst hd
          rw [show vl [] listed = listed from rfl] at hB
          rw [hB.1.1]; simp
        · exact hne0 hd
      | val k t1 =>
        simp only [trP, Bool.and_eq_true] at hB
        obtain ⟨hB1, hB2⟩ := hB
        simp only [inT, Bool.and_eq_true, decide_eq_true_eq] at hi_
        obtain ⟨⟨hkl, hv⟩, hi1⟩ := hi_
        have hk := List.getElem?_eq_getElem hkl
        generalize ops[k] = o at hk
        have hk' : ops.toArray[k]? = some o := by simpa using hk
        rw [hk'] at hB1
        simp only [Bool.and_eq_true] at hB1
        obtain ⟨⟨hval, hrb⟩, hfb⟩ := hB1
        have hrb : k ∈ Region.ready .any ops.toArray base := by simpa using hrb
        have hkD : ∀ q ∈ D, k ≠ q.1 := fun q hq e => by
          obtain ⟨oi, hpr⟩ := hD q hq
          have h1 := hpr.at_
          rw [← e, hk'] at h1
          injection h1 with h1
          subst h1
          rw [hpr.noval] at hval
          cases hval
        have hkD' : k ∉ D.map (·.1) := fun hk => by
          obtain ⟨q, hq, e⟩ := List.mem_map.1 hk
          exact hkD q hq e.symm
        have hnk : k ∉ Dp.map (·.1) := fun hk => by
          obtain ⟨q, hq, e⟩ := List.mem_map.1 hk
          exact hkD q (hp.sub q hq) e.symm
        obtain ⟨hbun, ob, hob, hball⟩ := mem_ready.1 hrb
        have hoo : ob = o := by rw [hk'] at hob; injection hob with hob; exact hob.symm
        subst hoo
        have hrd : k ∈ Region.ready .any ops.toArray listed := mem_ready.2 ⟨by rw [hp.off k hkD']; exact hbun, ob, hk', fun e he hb => hp.below _ (hball e he hb)⟩
        obtain ⟨_, x, h1, h2⟩ := evPc_all HB (g := fun p => picked ops p) (L := paths t1) (paths_ne t1) fun p hp' => by
          have := h ((k, true) :: p) (by simp only [paths]; exact List.mem_map_of_mem hp')
          rwa [picked_cons hk] at this
        have hstep := evS_ok (r := x) (Q := Q) (T := fun a' w' => ∃ β', Sim C E0 x.2.1 a' w0 β0 ∧ SimL C x.2.2 a' w' β' ∧ PlanR ks E0 x.2.1 w0 β0 x.2.2 w' β' ∧ x.2.1.h = h0) HB HT H hN (fun kn' s u a' w' β' hx hh' S0' S' R' => by
          injection hx with hx
          subst hx
          exact ⟨β', S0', S', R', hh'⟩) h1 hh S0 S R
        have hap := apart hp hk' hnk fun e he hb => hp.below _ (hball e he hb)
        obtain ⟨v, hy, hK⟩ : ∃ v, YieldsIf P ops.toArray (fun w' => Stab w0 w' E0 h0 β0) ob v (vput Dp a) ∧ ∃ β', Sim C E0 x.2.1 ((vput Dp a).put ob.dst v) w0 β0 ∧ SimL C x.2.2 ((vput Dp a).put ob.dst v) w β' ∧ PlanR ks E0 x.2.1 w0 β0 x.2.2 w β' ∧ x.2.1.h = h0 := by
          unfold wpPlan at hstep
          split at hstep
          · rename_i hw
            simp only [hval, Bool.and_self] at hstep
            exact yields_of_quiet hval hw hstep
          · rename_i hw
            exact ⟨undef, .inr ⟨by simpa using hw, rfl⟩, hstep⟩
        obtain ⟨β', S0', S', R', hh'⟩ := hK
        have hpp : (vput Dp a).put ob.dst v = vput Dp (a.put ob.dst v) := vput_put fun q hq => by
          obtain ⟨oi, hpr, hap1⟩ := hap q hq
          exact (Oper.apart_spec hap1).2.1 q.2 hpr.dst
        rw [hpp] at S0' S'
        obtain ⟨e1, e2⟩ := same_vput (Q := fun _ _ => True) (j := k) (Region.noSelect_spec hsel k ob · · hk') Dp (a := a) hap
        have hy' : YieldsIf P ops.toArray (fun w' => Stab w0 w' E0 h0 β0) ob v a := hy.of_same e1.symm e2.symm
        rw [show m' + 1 + Dp.length = (m' + Dp.length) + 1 by omega] at hf
        injection hf with hf
        refine wpAnyK_first hk' (Region.noSelect_spec hsel) (fun _ _ _ h => h) (.inl (by simp)) hkl (fun l a w hl j hj => by rw [hl.1] at hj; cases hj) f listed a w hp.inv (fun j oj hj hjk hun hno => Region.free_spec hk' hfb j oj hj hjk ?_ hno) hrd hy' hS (ih m' t1 Dp _ _ x.1 x.2.1 x.2.2 _ w β' hf (pend k hrd hkD hnk) (by rw [vl_set]; exact hB2) hi1 h2 hh' S0' S' R')
        by_cases hjD : j ∈ D.map (·.1)
        · obtain ⟨q, hq, rfl⟩ := List.mem_map.1 hjD
          exact hp.offD q hq
        · rw [← hp.off j hjD]; exact hun
theorem preSt_h (D : List (Nat × Nat)) (st : St) : (preSt D st).h = st.h := by
  induction D with
  | nil => rfl
  | cons q r ih => rw [preSt, put_h, ih]
theorem reg_okP (HB : BadOk G) (HT : TabOk P G.tab) (H : CtrOk P G.Γ) (hm : P.follows .mixedOrders = true) {id : Nat} {ops : Array Oper} {D : List (Nat × Nat)} {ks : List Nat} {t : Tr} {F : Frame} {eid : Nat} {FX FR : Frame} {sh : HL F.hs → Option (HL FX.hs ⊕ HL FR.hs)} (hB : preB G.tab ops G.N D t = true) (hi : inT ops.toList t = true)
    (hs : allP (paths t) fun p => ∀ s, evRP G ops.toList D ks F FX FR p s = sh s) : RegOk P G.M G.N id ops ⟨F, eid, FX, FR, sh⟩ := fun s x hx Q hQ C a w β hN hM S => by
  have hx : sh s = some (.inl x) := hx
  have hs := allP_ok hs
  have h : ∀ p ∈ paths t, boxes (F.st s).h ks = true ∧ evPc G ops.toList ks D [] (picked ops.toList p) ⟨(F.st s).t, killB ks (F.st s).h⟩ (preSt D (F.st s)) (fun _ st2 => (match FX.get G.M st2 with | some x => some (Sum.inl x : HL FX.hs ⊕ HL FR.hs) | none => G.bad _ 52 none st2)) = some (.inl x) := fun p hp => by
    have h1 := hs p hp s
    rw [hx] at h1
    unfold evRP at h1
    cases hb : boxes (F.st s).h ks with
    | false => rw [hb] at h1; simp only [cond_false] at h1; rw [HB] at h1; cases h1
    | true => rw [hb] at h1; exact ⟨rfl, h1⟩
  obtain ⟨p0, hp0⟩ := List.exists_mem_of_ne_nil _ (paths_ne t)
  have hb := (h p0 hp0).1
  have hcD := chkD_ok (chk_nil HB (h p0 hp0).2)
  have S : SimL C (F.st s) a w β := S
  have Sd := S.drew
  have e : ops = ops.toList.toArray := by simp
  show (Code.region id ops true).wp P (conc C Q) a w
  rw [e] at hB ⊢
  generalize ops.toList = l at *
  simp only [preB, Bool.and_eq_true] at hB
  obtain ⟨⟨⟨⟨⟨⟨hsel, hpre⟩, hfree⟩, hnk⟩, hns⟩, hle⟩, htr⟩ := hB
  have hle := Nat.le_of_ble_eq_true hle
  have hpre : ∀ q ∈ D, ∃ oi, PreR P l.toArray G.N q oi := fun q hq => preOk_ok HT (List.all_eq_true.1 hpre q hq)
  have hfree : ∀ q ∈ D, Region.free .any l.toArray (Array.replicate l.toArray.size false) q.1 = true := fun q hq => List.all_eq_true.1 hfree q hq
  let Q1 : AQ := fun e st2 => e = .normal ∧ FX.get G.M st2 = some x
  refine wp_mono (Q := conc C Q1) ?_ ?_
  rotate_left
  · rintro e a2 w2 ⟨st2, β2, ⟨rfl, hq⟩, S2⟩
    obtain ⟨β3, S3⟩ := FX.imp hq C a2 w2 β2 hM S2
    exact ⟨_, β3, hQ, S3⟩
  have hput : ∀ (E : List (Nat × Nat)), (∀ q ∈ E, q ∈ D) → SimL C (preSt E (F.st s)) (vput E a) w.drew β ∧ Sim C (Liv (F.st s).h β) ⟨(F.st s).t, killB ks (F.st s).h⟩ (vput E a) w.drew β := by
    intro E
    induction E with
    | nil => exact fun _ => ⟨Sd, Sd.kill ks⟩
    | cons q r ih =>
      intro hE
      obtain ⟨h1, h2⟩ := ih fun q' hq' => hE q' (List.mem_cons_of_mem _ hq')
      have hq := hE q (List.mem_cons_self ..)
      obtain ⟨oi, hpr⟩ := hpre q hq
      refine ⟨h1.putL (fun i hi => by injection hi with hi; rw [← hi, hN]; exact hpr.lt) (v := .im .nil) (Ri.nil none), h2.other nilV fun i hi => ?_⟩
      injection hi with hi
      rw [← hi]
      exact (hcD q hq).1
  obtain ⟨S1, S0⟩ := hput D fun q hq => hq
  have R : PlanR ks (Liv (F.st s).h β) ⟨(F.st s).t, killB ks (F.st s).h⟩ w.drew β (preSt D (F.st s)) w.drew β := (kill_plan S hb).same rfl (preSt_h D _)
  have hgf : ∀ j, j < l.length → (Array.replicate l.toArray.size false).getD j true = false := fun j hj => getD_in (by simpa using hj) (getD_replicate_false _ _)
  have hpl : ∀ q ∈ D, q.1 < l.length := fun q hq => by
    obtain ⟨oi, hpr⟩ := hpre q hq
    have := (Array.getElem?_eq_some_iff.1 hpr.at_).1
    simpa using this
  have hlen0 : l.length = (l.length - D.length) + D.length := by
    have : D.length ≤ l.length := by simpa using hle
    omega
  have htail0 : ∀ t, l.length ≤ t → t < l.toArray.size → (Array.replicate l.toArray.size false).getD t true = false := fun t h1 h2 => by
    have : t < l.length := by simpa using h2
    omega
  have hW := evTp_ok (Q := conc C Q1) (T := fun a w => conc C Q1 .normal a w) (K := fun _ st2 => (match FX.get G.M st2 with | some x => some (Sum.inl x : HL FX.hs ⊕ HL FR.hs) | none => G.bad _ 52 none st2)) (r := Sum.inl x) HB HT H hN hsel hpre hfree (fun kn st a w β hK S => by
      split at hK
      · rename_i y hy
        injection hK with hK
        injection hK with hK
        subst hK
        exact ⟨st, β, ⟨rfl, hy⟩, S⟩
      · rw [HB] at hK; cases hK) l.length (l.length - D.length) t D (Array.replicate l.toArray.size false) (Array.replicate l.toArray.size false) [] ⟨(F.st s).t, killB ks (F.st s).h⟩ (preSt D (F.st s)) a w.drew β hlen0
    ⟨fun q hq => hq, distinct_ok hnk, distinct_ok hns, fun q hq => hgf _ (hpl q hq), ⟨by simp, fun j oj _ hl => (by rw [getD_replicate_false] at hl; cases hl), htail0⟩, fun i hi => hi, fun i _ => rfl, fun q hq hn => absurd hq hn, fun q hq => hgf _ (hpl q hq)⟩
    (by simpa using htr) hi (fun p hp => (h p hp).2) rfl S0 S1 R
  refine wp_region_any hm ?_
  have := wpAny_of_headK (Q' := conc C Q1) (g := 0) NoP.le (fun listed a' w' hL => ⟨hL.1, hL.2⟩) _ _ _ _ hW
  simpa using this
end
end Go.Proofs.Ytdfkphagjkpgdaa
end
section
namespace Go.Proofs.Ytdfkphagjkpgdaa
open Go.RowKit

def evV {ρ : Type} (G : Env) (o : Oper) (f : Bool) (st : St) (K : St → Option ρ) : Option ρ := bif f then
  (bif okd G.N o.dst && (valOp o.op && uniOp o.op) then (match opV G.tab st o.op with | some (c, v) => bif c then K (st.put o.dst v) else none | none => G.bad ρ 38 (some o) st) else G.bad ρ 39 (some o) st)
  else evO G o st K
def evA {ρ : Type} (G : Env) (ops : List Oper) (kn : List (Nat × Bool)) (o : Oper) (f : Bool) (st : St) (K : List (Nat × Bool) → St → Option ρ) : Option ρ := match o.guard with
    | none => evV G o f st fun st' => K kn st'
    | some (j, want) => match gdOf ops kn st.t j want with
      | .go => evV G o f st fun st' => K kn st'
      | .skip => bif okd G.N o.dst then K kn (st.put o.dst (.im (.s undef))) else G.bad ρ 2 (some o) st
      | .fork d b => bif b
          then (bif want then evV G o f (setB d true st) fun st' => K ((j, true) :: kn) st' else bif okd G.N o.dst then K ((j, true) :: kn) ((setB d true st).put o.dst (.im (.s undef))) else G.bad ρ 2 (some o) st)
          else (bif want then bif okd G.N o.dst then K ((j, false) :: kn) ((setB d false st).put o.dst (.im (.s undef))) else G.bad ρ 2 (some o) st else evV G o f (setB d false st) fun st' => K ((j, false) :: kn) st')
      | .bad => G.bad ρ 3 (some o) st
def evLp {ρ : Type} (G : Env) (ops : List Oper) : List (Nat × Bool) → List (Oper × Bool) → St → (List (Nat × Bool) → St → Option ρ) → Option ρ
  | kn, [], st, K => K kn st
  | kn, (o, f) :: r, st, K => evA G ops kn o f st fun kn' s => evLp G ops kn' r s K
def evRA (G : Env) (ops : List Oper) (F FX FR : Frame) (p : List (Nat × Bool)) (s : HL F.hs) : Option (HL FX.hs ⊕ HL FR.hs) := evLp G ops [] (picked ops p) (F.st s) fun _ st2 => (match FX.get G.M st2 with | some x => some (.inl x) | none => G.bad _ 52 none st2)
def trA (md : Region.Mode) (ops : Array Oper) : Bool → Nat → Tr → Array Bool → Bool
  | _, 0, .done, l => decide (Region.ready md ops l = [])
  | _, m + 1, .val k r, l => (Region.ready md ops l).contains k && Region.free md ops l k && trA md ops true m r (l.setIfInBounds k true)
  | b, m + 1, .one k r, l => (!b || decide (Region.ready md ops l = [k])) && trA md ops true m r (l.setIfInBounds k true)
  | b, m + 1, .alt k r t, l => (!b || decide (Region.ready md ops l = k :: heads t)) && trA md ops true m r (l.setIfInBounds k true) && trA md ops false (m + 1) t l
  | _, _, _, _ => false
def allB (ops : Array Oper) (t : Tr) : Bool := Region.noSelect ops && trA .any ops true ops.size t (Array.replicate ops.size false)
section
variable {P : Program} {G : Env} {C : Ctx} {st : St} {a : Act} {w : World} {β : List (Nat × Nat)}
theorem evO_bind {ρ σ : Type} (HB : BadOk G) {o : Oper} {K : St → Option ρ} {F : St → Option σ} {B : σ → Option ρ} (hK : ∀ s, K s = (F s).bind B) : evO G o st K = (evO G o st F).bind B := by
  unfold evO
  have hb : ∀ (ρ : Type) n o st, G.bad ρ n o st = none := HB
  simp only [hb]
  have hc : ∀ (c : Bool) (x : Option ρ) (y : Option σ), x = y.bind B → (bif c then x else none) = (bif c then y else none).bind B := fun c x y h => by cases c <;> simp [h]
  refine hc _ _ _ ?_
  split
  · exact hc _ _ _ (hK _)
  · split
    · exact hc _ _ _ (hK _)
    · split
      · exact evCall_bind HB fun l st' => hK _
      · split
        · split
          · exact hc _ _ _ (hK _)
          · rfl
        · rfl
theorem evV_bind {ρ σ : Type} (HB : BadOk G) {o : Oper} {f : Bool} {K : St → Option ρ} {F : St → Option σ} {B : σ → Option ρ} (hK : ∀ s, K s = (F s).bind B) : evV G o f st K = (evV G o f st F).bind B := by
  unfold evV
  have hb : ∀ (ρ : Type) n o st, G.bad ρ n o st = none := HB
  simp only [hb]
  have hc : ∀ (c : Bool) (x : Option ρ) (y : Option σ), x = y.bind B → (bif c then x else none) = (bif c then y else none).bind B := fun c x y h => by cases c <;> simp [h]
  cases f <;> simp only [cond_true, cond_false]
  · exact evO_bind HB hK
  · refine hc _ _ _ ?_
    split
    · exact hc _ _ _ (hK _)
    · rfl
theorem evA_bind {ρ σ : Type} (HB : BadOk G) {ops : List Oper} {kn : List (Nat × Bool)} {o : Oper} {f : Bool} {K : List (Nat × Bool) → St → Option ρ} {F : List (Nat × Bool) → St → Option σ} {B : σ → Option ρ} (hK : ∀ k s, K k s = (F k s).bind B) : evA G ops kn o f st K = (evA G ops kn o f st F).bind B := by
  unfold evA
  have hb : ∀ (ρ : Type) n o st, G.bad ρ n o st = none := HB
  simp only [hb]
  have hc : ∀ (c : Bool) (x : Option ρ) (y : Option σ), x = y.bind B → (bif c then x else none) = (bif c then y else none).bind B := fun c x y h => by cases c <;> simp [h]
  have hd : ∀ (c : Bool) (x x' : Option ρ) (y y' : Option σ), x = y.bind B → x' = y'.bind B → (bif c then x else x') = (bif c then y else y').bind B := fun c x x' y y' h h' => by cases c <;> simp [h, h']
  split
  · exact evV_bind HB fun s => hK _ _
  · split
    · exact evV_bind HB fun s => hK _ _
    · exact hc _ _ _ (hK _ _)
    · exact hd _ _ _ _ _ (hd _ _ _ _ _ (evV_bind HB fun s => hK _ _) (hc _ _ _ (hK _ _))) (hd _ _ _ _ _ (hc _ _ _ (hK _ _)) (evV_bind HB fun s => hK _ _))
    · rfl
theorem evA_all {ρ ι : Type} (HB : BadOk G) {ops : List Oper} {kn : List (Nat × Bool)} {o : Oper} {f : Bool} {K : List (Nat × Bool) → St → Option ρ} {r : ρ} {L : List ι} {g : ι → List (Oper × Bool)} (hne : L ≠ []) (h : ∀ p ∈ L, evLp G ops kn ((o, f) :: g p) st K = some r) : ∃ x : List (Nat × Bool) × St, evA G ops kn o f st (fun a b => some (a, b)) = some x ∧ ∀ p ∈ L, evLp G ops x.1 (g p) x.2 K = some r := by
  have e : ∀ p, evLp G ops kn ((o, f) :: g p) st K = (evA G ops kn o f st (fun a b => some (a, b))).bind fun x => evLp G ops x.1 (g p) x.2 K := fun p => evA_bind HB fun _ _ => rfl
  generalize evA G ops kn o f st (fun a b => some (a, b)) = z at e
  cases z with
  | none =>
    obtain ⟨p, hp⟩ := List.exists_mem_of_ne_nil L hne
    have := h p hp
    rw [e] at this
    cases this
  | some x => exact ⟨x, rfl, fun p hp => by have := h p hp; rw [e] at this; exact this⟩
theorem evA_val {ρ : Type} (HB : BadOk G) (HT : TabOk P G.tab) {ops : List Oper} {kn : List (Nat × Bool)} {o : Oper} {K : List (Nat × Bool) → St → Option ρ} {r : ρ} (hN : C.N = G.N) (h : evA G ops kn o true st K = some r) (S : SimL C st a w β) : ∃ v kn' st', Yields P ops.toArray o v a ∧ K kn' st' = some r ∧ SimL C st' (a.put o.dst v) w β := by
  have exec : ∀ kn' s1, SimL C s1 a w β → Region.wanted o (yielded ops.toArray a.tmps) = true → evV G o true s1 (fun st' => K kn' st') = some r → ∃ v kn' st', Yields P ops.toArray o v a ∧ K kn' st' = some r ∧ SimL C st' (a.put o.dst v) w β := fun kn' s1 S hw h => by
    unfold evV at h
    simp only [cond_true] at h
    cases hq : (okd G.N o.dst && (valOp o.op && uniOp o.op)) with
    | false => rw [hq] at h; simp only [cond_false] at h; rw [HB] at h; cases h
    | true =>
      rw [hq] at h
      simp only [cond_true] at h
      simp only [Bool.and_eq_true] at hq
      split at h
      · rename_i c v hv
        cases c with
        | false => cases h
        | true =>
          obtain ⟨u, h1, h2⟩ := opS_ok HT hv rfl (fun t x e => by rw [e] at hq; exact absurd hq.2.2 (by simp [uniOp])) C _ a w β S
          exact ⟨u, kn', _, .inl ⟨hw, fun w' => h2 w' trivial⟩, h, S.putL (by rw [hN]; exact okd_ok hq.1) h1⟩
      · rw [HB] at h; cases h
  have skip : ∀ kn' sb s1, SimL C s1 a w β → Region.wanted o (yielded ops.toArray a.tmps) = false → (bif okd G.N o.dst then K kn' (s1.put o.dst (.im (.s undef))) else G.bad ρ 2 (some o) sb) = some r → ∃ v kn' st', Yields P ops.toArray o v a ∧ K kn' st' = some r ∧ SimL C st' (a.put o.dst v) w β := fun kn' sb s1 S hw h => by
    cases hd : okd G.N o.dst with
    | false => rw [hd] at h; simp only [cond_false] at h; rw [HB] at h; cases h
    | true =>
      rw [hd] at h
      exact ⟨undef, kn', _, .inr ⟨hw, rfl⟩, h, S.putL (by rw [hN]; exact okd_ok hd) (Ri.s undef)⟩
  unfold evA at h
  split at h
  · rename_i hg
    exact exec kn st S (by simp [Region.wanted, hg]) h
  · rename_i j want hg
    have gc := guard_cases S (ops := ops) (kn := kn) hg
    split at h
    · rename_i e
      rw [e] at gc
      exact exec kn st S gc h
    · rename_i e
      rw [e] at gc
      exact skip kn st st S gc h
    · rename_i d b e
      rw [e] at gc
      obtain ⟨h1, h2⟩ := gc
      cases b <;> cases want <;> simp only [cond_true, cond_false] at h
      · exact exec _ (setB d false st) (S.setB h1) h2 h
      · exact skip _ _ (setB d false st) (S.setB h1) h2 h
      · exact skip _ _ (setB d true st) (S.setB h1) h2 h
      · exact exec _ (setB d true st) (S.setB h1) h2 h
    · rw [HB] at h; cases h
theorem evA_one {ρ : Type} (HB : BadOk G) (HT : TabOk P G.tab) (H : CtrOk P G.Γ) {ops : List Oper} {k : Nat} {kn : List (Nat × Bool)} {o : Oper} {K : List (Nat × Bool) → St → Option ρ} {r : ρ} {Q : Exit → Act → World → Prop} (hN : C.N = G.N) (hk : ops.toArray[k]? = some o) (h : evA G ops kn o false st K = some r) (S : SimL C st a w β) : wpOp P ops.toArray Q k (fun a' w' => ∃ kn' st' β', K kn' st' = some r ∧ SimL C st' a' w' β') a w := by
  unfold wpOp
  simp only [hk]
  have exec : ∀ kn' s1, SimL C s1 a w β → Region.wanted o (yielded ops.toArray a.tmps) = true → evV G o false s1 (fun st' => K kn' st') = some r → (if Region.wanted o (yielded ops.toArray a.tmps) = true then Oper.wp P o a w (fun a' w' => ∃ kn' st' β', K kn' st' = some r ∧ SimL C st' a' w' β') Q ∨ Oper.asks P o a w ∧ LetsOut Q else ∃ kn' st' β', K kn' st' = some r ∧ SimL C st' (a.put o.dst undef) w β') := fun kn' s1 S hw h => by
    rw [if_pos hw]
    unfold evV at h
    simp only [cond_false] at h
    obtain ⟨_, st', h1, h2⟩ := evO_ok HB HT H h
    exact .inl (h2 C a w β S hN _ _ fun u w' β' S' => ⟨kn', st', β', h1, S'⟩)
  have skip : ∀ kn' sb s1, SimL C s1 a w β → Region.wanted o (yielded ops.toArray a.tmps) = false → (bif okd G.N o.dst then K kn' (s1.put o.dst (.im (.s undef))) else G.bad ρ 2 (some o) sb) = some r → (if Region.wanted o (yielded ops.toArray a.tmps) = true then Oper.wp P o a w (fun a' w' => ∃ kn' st' β', K kn' st' = some r ∧ SimL C st' a' w' β') Q ∨ Oper.asks P o a w ∧ LetsOut Q else ∃ kn' st' β', K kn' st' = some r ∧ SimL C st' (a.put o.dst undef) w β') := fun kn' sb s1 S hw h => by
    rw [if_neg (by rw [hw]; simp)]
    cases hd : okd G.N o.dst with
    | false => rw [hd] at h; simp only [cond_false] at h; rw [HB] at h; cases h
    | true =>
      rw [hd] at h
      exact ⟨kn', _, β, h, S.putL (by rw [hN]; exact okd_ok hd) (Ri.s undef)⟩
  unfold evA at h
  split at h
  · rename_i hg
    exact exec kn st S (by simp [Region.wanted, hg]) h
  · rename_i j want hg
    have gc := guard_cases S (ops := ops) (kn := kn) hg
    split at h
    · rename_i e
      rw [e] at gc
      exact exec kn st S gc h
    · rename_i e
      rw [e] at gc
      exact skip kn st st S gc h
    · rename_i d b e
      rw [e] at gc
      obtain ⟨h1, h2⟩ := gc
      cases b <;> cases want <;> simp only [cond_true, cond_false] at h
      · exact exec _ (setB d false st) (S.setB h1) h2 h
      · exact skip _ _ (setB d false st) (S.setB h1) h2 h
      · exact skip _ _ (setB d true st) (S.setB h1) h2 h
      · exact exec _ (setB d true st) (S.setB h1) h2 h
    · rw [HB] at h; cases h
theorem evAt_ok {ρ : Type} (HB : BadOk G) (HT : TabOk P G.tab) (H : CtrOk P G.Γ) {ops : List Oper} {K : List (Nat × Bool) → St → Option ρ} {r : ρ} {Q : Exit → Act → World → Prop} (hN : C.N = G.N) (hsel : Region.noSelect ops.toArray = true)
    (hT : ∀ kn st a w β, K kn st = some r → SimL C st a w β → Q .normal a w) : ∀ (m : Nat) (t : Tr) (listed : Array Bool) (kn : List (Nat × Bool)) (st : St) (a : Act) (w : World) (β : List (Nat × Nat)), trA .any ops.toArray true m t listed = true → inT ops t = true → (∀ p ∈ paths t, evLp G ops kn (picked ops p) st K = some r) → SimL C st a w β →
      wpAny P .any ops.toArray (NoP Q) m listed a w := by
  intro m
  induction m with
  | zero =>
    intro t listed kn st a w β hB hi h S
    cases t with
    | done =>
      have h1 := h [] (by simp [paths])
      exact ⟨of_decide_eq_true hB, hT kn st a w β h1 S⟩
    | _ => simp [trA] at hB
  | succ m ih =>
    intro t listed kn st a w β hB hi_ h S
    have single : ∀ k t1, trA .any ops.toArray true m t1 (listed.setIfInBounds k true) = true → k < ops.length → inT ops t1 = true → (∀ p ∈ paths t1, evLp G ops kn (picked ops ((k, false) :: p)) st K = some r) → wpOp P ops.toArray (NoP Q) k (wpAny P .any ops.toArray (NoP Q) m (listed.setIfInBounds k true)) a w := fun k t1 hB1 hkl hi1 hps => by
      have hk := List.getElem?_eq_getElem hkl
      generalize ops[k] = o at hk
      have hk' : ops.toArray[k]? = some o := by simpa using hk
      obtain ⟨x, h1, h2⟩ := evA_all HB (g := fun p => picked ops p) (L := paths t1) (paths_ne t1) fun p hp' => by
        have := hps p hp'
        rwa [picked_cons hk] at this
      refine wpOp_mono ?_ (evA_one HB HT H hN hk' h1 S)
      rintro a' w' ⟨kn', st', β', hx, S'⟩
      injection hx with hx
      subst hx
      exact ih t1 _ kn' st' a' w' β' hB1 hi1 h2 S'
    have alts : ∀ (t' : Tr), trA .any ops.toArray false (m + 1) t' listed = true → inT ops t' = true → (∀ p ∈ paths t', evLp G ops kn (picked ops p) st K = some r) → ∀ i ∈ heads t', wpOp P ops.toArray (NoP Q) i (wpAny P .any ops.toArray (NoP Q) m (listed.setIfInBounds i true)) a w := fun t' => by
      induction t' with
      | one k t1 _ =>
        intro hB' hi' hps i hih
        simp only [trA, Bool.not_false, Bool.true_or, Bool.true_and] at hB'
        simp only [inT, Bool.and_eq_true, decide_eq_true_eq] at hi'
        obtain rfl : i = k := by simpa [heads] using hih
        exact single i t1 hB' hi'.1 hi'.2 (fun p hp' => hps _ (by simp only [paths]; exact List.mem_map_of_mem hp'))
      | alt k t1 t2 _ ih2 =>
        intro hB' hi' hps i hih
        simp only [trA, Bool.not_false, Bool.true_or, Bool.true_and, Bool.and_eq_true] at hB'
        simp only [inT, Bool.and_eq_true, decide_eq_true_eq] at hi'
        rcases List.mem_cons.1 (show i ∈ k :: heads t2 from hih) with rfl | hih
        · exact single i t1 hB'.1 hi'.1.1 hi'.1.2 (fun p hp' => hps _ (by simp only [paths]; exact List.mem_append_left _ (List.mem_map_of_mem hp')))
        · exact ih2 hB'.2 hi'.2 (fun p hp' => hps p (by simp only [paths]; exact List.mem_append_right _ hp')) i hih
      | _ => intro _ _ _ i hih; simp [heads] at hih
    cases t with
    | done => simp [trA] at hB
    | two => simp [trA] at hB
    | one k t1 =>
      have hB0 : trA .any ops.toArray false (m + 1) (.one k t1) listed = true := by
        simp only [trA, Bool.and_eq_true, Bool.not_false, Bool.true_or, true_and] at hB ⊢
        exact hB.2
      simp only [trA, Bool.and_eq_true, Bool.not_true, Bool.false_or, decide_eq_true_eq] at hB
      exact ⟨fun h0 => (by rw [hB.1] at h0; cases h0), fun i hi => alts (.one k t1) hB0 hi_ h i (by rw [hB.1] at hi; exact hi)⟩
    | alt k t1 t2 =>
      have hB0 : trA .any ops.toArray false (m + 1) (.alt k t1 t2) listed = true := by
        simp only [trA, Bool.and_eq_true, Bool.not_false, Bool.true_or, true_and] at hB ⊢
        exact ⟨hB.1.2, hB.2⟩
      simp only [trA, Bool.and_eq_true, Bool.not_true, Bool.false_or, decide_eq_true_eq] at hB
      exact ⟨fun h0 => (by rw [hB.1.1] at h0; cases h0), fun i hi => alts (.alt k t1 t2) hB0 hi_ h i (by rw [hB.1.1] at hi; exact hi)⟩
    | val k t1 =>
      simp only [trA, Bool.and_eq_true] at hB
      obtain ⟨⟨hrd, hfr⟩, hB2⟩ := hB
      simp only [inT, Bool.and_eq_true, decide_eq_true_eq] at hi_
      obtain ⟨⟨hkl, _⟩, hi1⟩ := hi_
      have hk := List.getElem?_eq_getElem hkl
      generalize ops[k] = o at hk
      have hk' : ops.toArray[k]? = some o := by simpa using hk
      obtain ⟨x, h1, h2⟩ := evA_all HB (g := fun p => picked ops p) (L := paths t1) (paths_ne t1) fun p hp' => by
        have := h ((k, true) :: p) (by simp only [paths]; exact List.mem_map_of_mem hp')
        rwa [picked_cons hk] at this
      obtain ⟨v, kn', st', hy, hx, S'⟩ := evA_val HB HT hN h1 S
      injection hx with hx
      subst hx
      exact wpAny_first hk' (Region.noSelect_spec hsel) (fun _ _ _ h => h) m listed a w (Region.free_spec hk' hfr) (by simpa using hrd) hy (ih t1 _ kn' st' _ w β hB2 hi1 h2 S')
theorem wpAny_weak {md : Region.Mode} {ops : Array Oper} {Q Q' : Exit → Act → World → Prop} (hq : ∀ e a w, Q e a w → Q' e a w) : ∀ (f : Nat) (l : Array Bool) (a : Act) (w : World), wpAny P md ops Q f l a w → wpAny P md ops Q' f l a w
  | 0, l, a, w, h => ⟨h.1, hq _ _ _ h.2⟩
  | f + 1, l, a, w, h => ⟨fun h0 => hq _ _ _ (h.1 h0), fun i hi => wpOp_mono (fun a' w' h' => wpAny_weak hq f _ a' w' h') (wpOp_weak hq (h.2 i hi))⟩
theorem reg_okA (HB : BadOk G) (HT : TabOk P G.tab) (H : CtrOk P G.Γ) (hm : P.follows .mixedOrders = true) {id : Nat} {ops : Array Oper} {t : Tr} {F : Frame} {eid : Nat} {FX FR : Frame} {sh : HL F.hs → Option (HL FX.hs ⊕ HL FR.hs)} (hB : allB ops t = true) (hi : inT ops.toList t = true)
    (hs : allP (paths t) fun p => ∀ s, evRA G ops.toList F FX FR p s = sh s) : RegOk P G.M G.N id ops ⟨F, eid, FX, FR, sh⟩ := fun s x hx Q hQ C a w β hN hM S => by
  have hx : sh s = some (.inl x) := hx
  have hs := allP_ok hs
  have h : ∀ p ∈ paths t, evLp G ops.toList [] (picked ops.toList p) (F.st s) (fun _ st2 => (match FX.get G.M st2 with | some x => some (Sum.inl x : HL FX.hs ⊕ HL FR.hs) | none => G.bad _ 52 none st2)) = some (.inl x) := fun p hp => by
    have h1 := hs p hp s
    rw [hx] at h1
    exact h1
  have S : SimL C (F.st s) a w β := S
  have e : ops = ops.toList.toArray := by simp
  show (Code.region id ops true).wp P (conc C Q) a w
  rw [e] at hB ⊢
  generalize ops.toList = l at *
  simp only [allB, Bool.and_eq_true] at hB
  obtain ⟨hsel, htr⟩ := hB
  let Q1 : AQ := fun e st2 => e = .normal ∧ FX.get G.M st2 = some x
  refine wp_mono (Q := conc C Q1) ?_ ?_
  rotate_left
  · rintro e a2 w2 ⟨st2, β2, ⟨rfl, hq⟩, S2⟩
    obtain ⟨β3, S3⟩ := FX.imp hq C a2 w2 β2 hM S2
    exact ⟨_, β3, hQ, S3⟩
  refine wp_region_any hm ?_
  exact wpAny_weak NoP.le _ _ _ _ (evAt_ok (Q := conc C Q1) HB HT H hN hsel (fun kn st a w β hK S => by
      split at hK
      · rename_i y hy
        injection hK with hK
        injection hK with hK
        subst hK
        exact ⟨st, β, ⟨rfl, hy⟩, S⟩
      · rw [HB] at hK; cases hK) _ t _ [] (F.st s) a w.drew β htr hi h S.drew)
end
end Go.Proofs.Ytdfkphagjkpgdaa
end
section
namespace Go.Proofs.Ytdfkphagjkpgdaa
open Go.RowKit

def mvV1 (k n : Nat) : PV → PV
  | .own j => bif Nat.beq j k then .own n else .own j
  | v => v
def mvVF (k n : Nat) : PV → PV
  | .fn f caps => .fn f (caps.map (mvV1 k n))
  | v => mvV1 k n v
def mvV2 (k n : Nat) : PV → PV
  | .agg cs => .agg (cs.map (mvV1 k n))
  | v => mvVF k n v
def mvV (k n : Nat) : PV → PV
  | .tup cs => .tup (cs.map (mvV2 k n))
  | v => mvV2 k n v
def mvO (k n : Nat) : AObj → AObj
  | .box t cs => .box t (cs.map (mvV1 k n))
  | o => o
def mvT (k n : Nat) : List (Nat × PV) → List (Nat × PV)
  | [] => []
  | (i, v) :: r => (i, mvV k n v) :: mvT k n r
def mvH (k n : Nat) : Nat → List AObj → List AObj
  | _, [] => []
  | i, o :: r => (bif Nat.beq i k then .dead else mvO k n o) :: mvH k n (i + 1) r
def mv1 (k : Nat) (st : St) : St := match st.h[k]? with
  | some (.row t τ xs) => ⟨mvT k st.h.length st.t, mvH k st.h.length 0 st.h ++ [.row t τ xs]⟩
  | _ => st
def mvL : List Nat → St → St
  | [], st => st
  | k :: r, st => mvL r (mv1 k st)
theorem mvT_slot (k n : Nat) : ∀ (t : List (Nat × PV)) (i : Nat), slot (mvT k n t) i = (slot t i).map (mvV k n)
  | [], i => rfl
  | (j, v) :: r, i => by
    simp only [mvT, slot]
    cases Nat.beq j i
    · simp only [cond_false]; exact mvT_slot k n r i
    · rfl
theorem mvH_len (k n : Nat) : ∀ (h : List AObj) (i : Nat), (mvH k n i h).length = h.length
  | [], i => rfl
  | o :: r, i => by simp only [mvH, List.length_cons, mvH_len k n r]
theorem mvH_at (k n : Nat) : ∀ (h : List AObj) (i j : Nat), (mvH k n i h)[j]? = h[j]?.map fun o => bif Nat.beq (i + j) k then .dead else mvO k n o
  | [], i, j => by simp [mvH]
  | o :: r, i, 0 => by simp [mvH]
  | o :: r, i, j + 1 => by
    simp only [mvH, List.getElem?_cons_succ]
    rw [mvH_at k n r (i + 1) j, show i + 1 + j = i + (j + 1) by omega]
section
variable {P : Program} {G : Env} {C : Ctx} {st : St} {a : Act} {w : World} {β : List (Nat × Nat)}
theorem mv1_ok (S : SimL C st a w β) (k : Nat) : ∃ β', SimL C (mv1 k st) a w β' := by
  unfold mv1
  split
  case h_2 => exact ⟨β, S⟩
  rename_i t τ xs hk
  obtain ⟨b, c, hβk, hc0, hcm, hrow⟩ := S.heap.ok k _ hk
  have hkl : k < st.h.length := (List.getElem?_eq_some_iff.1 hk).1
  have hl := S.heap.len
  generalize hn : st.h.length = n at *
  have hat : ∀ j, j < n → (mvH k n 0 st.h ++ [AObj.row t τ xs])[j]? = st.h[j]?.map fun o => bif Nat.beq j k then .dead else mvO k n o := fun j hj => by
    rw [List.getElem?_append_left (by rw [mvH_len, hn]; exact hj), mvH_at, Nat.zero_add]
  have hlast : (mvH k n 0 st.h ++ [AObj.row t τ xs])[n]? = some (.row t τ xs) := by
    rw [List.getElem?_append_right (by rw [mvH_len, hn]; exact Nat.le_refl _), mvH_len, hn, Nat.sub_self]; rfl
  have hlen : (mvH k n 0 st.h ++ [AObj.row t τ xs]).length = n + 1 := by simp [mvH_len, hn]
  have only : ∀ j o, (mvH k n 0 st.h ++ [AObj.row t τ xs])[j]? = some o → (j = n ∧ o = .row t τ xs) ∨ (j < n ∧ j = k ∧ o = .dead) ∨ (j < n ∧ j ≠ k ∧ ∃ o0, st.h[j]? = some o0 ∧ o = mvO k n o0) := fun j o hj => by
    rcases Nat.lt_trichotomy j n with h | h | h
    · rw [hat j h] at hj
      obtain ⟨o0, h1, h2⟩ := Option.map_eq_some_iff.1 hj
      by_cases e : j = k
      · subst e
        simp at h2
        exact .inr (.inl ⟨h, rfl, h2.symm⟩)
      · have hb : Nat.beq j k = false := beq_no e
        rw [hb] at h2
        exact .inr (.inr ⟨h, e, o0, h1, h2.symm⟩)
    · subst h
      rw [hlast] at hj
      injection hj with hj
      exact .inl ⟨rfl, hj.symm⟩
    · rw [List.getElem?_eq_none (by rw [hlen]; omega)] at hj
      cases hj
  have hβ : ∀ j, j < n → (β ++ [(b, c)])[j]? = β[j]? := fun j hj => List.getElem?_append_left (by omega)
  have hβn : (β ++ [(b, c)])[n]? = some (b, c) := by rw [List.getElem?_append_right (by omega), hl, Nat.sub_self]; rfl
  have lv : ∀ o c', live (mvO k n o) c' ↔ live o c' := fun o c' => by cases o <;> exact Iff.rfl
  have hkeep : ∀ j o, j < n → j ≠ k → st.h[j]? = some o → (mvH k n 0 st.h ++ [AObj.row t τ xs])[j]? = some (mvO k n o) := fun j o hj e ho => by
    rw [hat j hj, ho]
    have hb : Nat.beq j k = false := beq_no e
    simp only [Option.map_some, hb, cond_false]
  have hdead : (mvH k n 0 st.h ++ [AObj.row t τ xs])[k]? = some .dead := by
    rw [hat k hkl, hk]; simp
  have hE : Liv (mvH k n 0 st.h ++ [AObj.row t τ xs]) (β ++ [(b, c)]) = Liv st.h β := funext fun i => propext ⟨fun ⟨j, o, c', h1, h2, h3⟩ => by
    rcases only j o h1 with ⟨rfl, rfl⟩ | ⟨_, _, rfl⟩ | ⟨hj, _, o0, h4, rfl⟩
    · rw [hβn] at h3
      injection h3 with h3; injection h3 with e1 e2
      subst e1 e2
      exact ⟨k, _, c, hk, h2, hβk⟩
    · exact h2.elim
    · exact ⟨j, o0, c', h4, (lv o0 c').1 h2, by rw [← hβ j hj]; exact h3⟩, fun ⟨j, o, c', h1, h2, h3⟩ => by
    have hj : j < n := by rw [← hn]; exact (List.getElem?_eq_some_iff.1 h1).1
    by_cases e : j = k
    · subst e
      rw [hk] at h1
      injection h1 with h1
      subst h1
      rw [hβk] at h3
      injection h3 with h3; injection h3 with e1 e2
      subst e1 e2
      exact ⟨n, _, c, hlast, h2, hβn⟩
    · exact ⟨j, _, c', hkeep j o hj e h1, (lv o c').2 h2, by rw [hβ j hj]; exact h3⟩⟩
  have vi : ∀ j, j < n → isV (mvH k n 0 st.h ++ [AObj.row t τ xs]) j = isV st.h j := fun j hj => by
    by_cases e : j = k
    · subst e
      simp [isV, hdead, hk]
    · unfold isV
      rw [hat j hj]
      have hb : Nat.beq j k = false := beq_no e
      simp only [hb, cond_false]
      cases h0 : st.h[j]? with
      | none => rfl
      | some o => cases o <;> rfl
  have c1 : ∀ v u, C1 w (Liv st.h β) C.X st.h β v u → C1 w (Liv (mvH k n 0 st.h ++ [AObj.row t τ xs]) (β ++ [(b, c)])) C.X (mvH k n 0 st.h ++ [AObj.row t τ xs]) (β ++ [(b, c)]) (mvV1 k n v) u := fun v u hc => by
    rw [hE]
    cases v with
    | im x => exact hc
    | own j =>
      obtain ⟨h0, hv, h1, h2⟩ := hc
      rw [hn] at h0
      by_cases e : j = k
      · subst e
        simp only [mvV1, Nat.beq_refl, cond_true]
        obtain ⟨b1, c1, A, q1, q2, q3, _⟩ := h2 _ _ _ hk
        rw [hβk] at q1
        injection q1 with q1; injection q1 with e1 e2
        subst e1 e2
        refine ⟨by rw [hlen]; omega, by simp [isV, hlast], h1, fun t' τ' xs' e' => ?_⟩
        rw [hlast] at e'
        injection e' with e'
        cases e'
        exact ⟨b, c, A, hβn, q2, q3, fun _ => trivial⟩
      · have hb : Nat.beq j k = false := beq_no e
        simp only [mvV1, hb, cond_false]
        refine ⟨by rw [hlen]; omega, by rw [vi j h0]; exact hv, h1, fun t' τ' xs' e' => ?_⟩
        rcases only j _ e' with ⟨q, _⟩ | ⟨_, q, _⟩ | ⟨hj, _, o0, h4, h5⟩
        · omega
        · exact absurd q e
        · cases o0 <;> simp only [mvO] at h5 <;> first | (cases h5; done) | skip
          cases h5
          obtain ⟨b1, c1, A, q1, q2, q3, _⟩ := h2 _ _ _ h4
          exact ⟨b1, c1, A, by rw [hβ j h0]; exact q1, q2, q3, fun _ => trivial⟩
    | ptr j o =>
      obtain ⟨b1, c1, h1, h2⟩ := hc
      have hj : j < n := by rw [← hl]; exact (List.getElem?_eq_some_iff.1 h1).1
      exact ⟨b1, c1, by rw [hβ j hj]; exact h1, h2⟩
    | ept j i z o =>
      obtain ⟨h0, hv, b1, c1, h1, h2, h3⟩ := hc
      rw [hn] at h0
      refine ⟨by rw [hlen]; omega, by rw [vi j h0]; exact hv, b1, c1, by rw [hβ j h0]; exact h1, h2, fun t' τ' xs' e' => ?_⟩
      rcases only j _ e' with ⟨q, _⟩ | ⟨_, _, q⟩ | ⟨hj, _, o0, h4, h5⟩
      · omega
      · cases q
      · cases o0 <;> simp only [mvO] at h5 <;> first | (cases h5; done) | skip
        cases h5
        exact h3 _ _ _ h4
    | at_ cs o => exact hc
    | fn f caps => exact hc.elim
    | agg cs => exact hc.elim
    | tup cs => exact hc.elim
  have mapF : ∀ {R R' : PV → Value → Prop} {g : PV → PV} {xs : List PV} {us : List Value}, F2 R xs us → (∀ x u, R x u → R' (g x) u) → F2 R' (xs.map g) us := fun h hr => ⟨by rw [List.length_map]; exact h.1, fun i x u hx hu => by
    rw [List.getElem?_map] at hx
    obtain ⟨y, hy, rfl⟩ := Option.map_eq_some_iff.1 hx
    exact hr _ _ (h.2 i y u hy hu)⟩
  have cF : ∀ v u, CF w (Liv st.h β) C.X st.h β v u → CF w (Liv (mvH k n 0 st.h ++ [AObj.row t τ xs]) (β ++ [(b, c)])) C.X (mvH k n 0 st.h ++ [AObj.row t τ xs]) (β ++ [(b, c)]) (mvVF k n v) u := fun v u hc => by
    have keepF : ∀ v, (∀ f caps, v ≠ .fn f caps) → C1 w (Liv st.h β) C.X st.h β v u → CF w (Liv (mvH k n 0 st.h ++ [AObj.row t τ xs]) (β ++ [(b, c)])) C.X (mvH k n 0 st.h ++ [AObj.row t τ xs]) (β ++ [(b, c)]) (mvV1 k n v) u := fun v _ h => by
      have := c1 v u h
      cases v with
      | own j => simp only [mvV1] at this ⊢; cases hb : Nat.beq j k <;> rw [hb] at this <;> exact this
      | im x => exact this
      | ptr j o => exact this
      | ept j i z o => exact this
      | at_ cs o => exact this
      | fn f caps => exact h.elim
      | agg cs => exact h.elim
      | tup cs => exact h.elim
    cases v with
    | fn f caps => obtain ⟨us, h1, h2⟩ := hc; exact ⟨us, h1, mapF h2 c1⟩
    | im x => exact keepF (.im x) (by intros; intro h; cases h) hc
    | own j => exact keepF (.own j) (by intros; intro h; cases h) hc
    | ptr j o => exact keepF (.ptr j o) (by intros; intro h; cases h) hc
    | ept j i z o => exact keepF (.ept j i z o) (by intros; intro h; cases h) hc
    | at_ cs o => exact keepF (.at_ cs o) (by intros; intro h; cases h) hc
    | agg cs => exact hc.elim
    | tup cs => exact hc.elim
  have c2 : ∀ v u, C2 w (Liv st.h β) C.X st.h β v u → C2 w (Liv (mvH k n 0 st.h ++ [AObj.row t τ xs]) (β ++ [(b, c)])) C.X (mvH k n 0 st.h ++ [AObj.row t τ xs]) (β ++ [(b, c)]) (mvV2 k n v) u := fun v u hc => by
    cases v with
    | agg cs => obtain ⟨us, h1, h2⟩ := hc; exact ⟨us, h1, mapF h2 c1⟩
    | own j =>
      have := cF (.own j) u hc
      simp only [mvVF, mvV1, mvV2] at this ⊢
      cases hb : Nat.beq j k <;> rw [hb] at this <;> exact this
    | im x => exact cF (.im x) u hc
    | ptr j o => exact cF (.ptr j o) u hc
    | ept j i z o => exact cF (.ept j i z o) u hc
    | at_ cs o => exact cF (.at_ cs o) u hc
    | fn f caps => exact cF (.fn f caps) u hc
    | tup cs => exact hc.elim
  have cv : ∀ v u, Cv w (Liv st.h β) C.X st.h β v u → Cv w (Liv (mvH k n 0 st.h ++ [AObj.row t τ xs]) (β ++ [(b, c)])) C.X (mvH k n 0 st.h ++ [AObj.row t τ xs]) (β ++ [(b, c)]) (mvV k n v) u := fun v u hc => by
    cases v with
    | tup cs => obtain ⟨us, h1, h2⟩ := hc; exact ⟨us, h1, mapF h2 c2⟩
    | own j =>
      have := c2 (.own j) u hc
      simp only [mvV, mvVF, mvV1, mvV2] at this ⊢
      cases hb : Nat.beq j k <;> rw [hb] at this <;> exact this
    | im x => exact c2 (.im x) u hc
    | ptr j o => exact c2 (.ptr j o) u hc
    | ept j i z o => exact c2 (.ept j i z o) u hc
    | at_ cs o => exact c2 (.at_ cs o) u hc
    | fn f caps => exact c2 (.fn f caps) u hc
    | agg cs => exact c2 (.agg cs) u hc
  refine ⟨β ++ [(b, c)], S.cl, S.xw, S.step.trans ⟨rfl, rfl, rfl, Nat.le_refl _, fun _ _ _ => rfl, fun i _ h => by rw [hE] at h; exact h, fun j p hj => ?_, ⟨by rw [hlen, hn]; omega, fun j t' τ' xs' hj e' => ?_, fun j hj e' => ?_⟩⟩, ⟨by rw [hlen]; simp [hl], fun i h => h, fun i h => ?_, fun j o hj => ?_, fun i j o o' b1 c1' c2' hi hj li lj bi bj => ?_⟩, S.sz, S.df, fun i v hi => ?_⟩
  · have hjl := (List.getElem?_eq_some_iff.1 hj).1
    rw [hβ j (by omega)]; exact hj
  · rw [hn] at hj
    rcases only j _ e' with ⟨q, _⟩ | ⟨_, _, q⟩ | ⟨_, _, o0, h4, h5⟩
    · omega
    · cases q
    · cases o0 <;> simp only [mvO] at h5 <;> first | (cases h5; done) | skip
      cases h5
      exact .inl ⟨_, h4, rfl⟩
  · rw [hn] at hj
    rw [vi j hj] at e'
    exact e'
  · rw [hE] at h; exact S.heap.nx i h
  · rcases only j o hj with ⟨rfl, rfl⟩ | ⟨_, _, rfl⟩ | ⟨hjn, _, o0, h4, rfl⟩
    · exact ⟨b, c, hβn, hc0, hcm, fun h => by rw [hE]; exact hrow h⟩
    · trivial
    · have ho := S.heap.ok j o0 h4
      cases o0 with
      | dead => trivial
      | vrow t' τ' => obtain ⟨b1, h1⟩ := ho; exact ⟨b1, by rw [hβ j hjn]; exact h1⟩
      | row t' τ' xs' =>
        obtain ⟨b1, c1', q1, q2, q3, q4⟩ := ho
        exact ⟨b1, c1', by rw [hβ j hjn]; exact q1, q2, q3, fun h => by rw [hE]; exact q4 h⟩
      | box t' cs =>
        obtain ⟨b1, c1', us, q1, q2, q3, q4⟩ := ho
        exact ⟨b1, c1', us, by rw [hβ j hjn]; exact q1, q2, mapF q3 c1, q4⟩
  · have back : ∀ j o c', (mvH k n 0 st.h ++ [AObj.row t τ xs])[j]? = some o → live o c' → (β ++ [(b, c)])[j]? = some (b1, c') → ∃ j0 o0, st.h[j0]? = some o0 ∧ live o0 c' ∧ β[j0]? = some (b1, c') ∧ ((j = n ∧ j0 = k) ∨ (j < n ∧ j ≠ k ∧ j0 = j)) := fun j o c' h1 h2 h3 => by
      rcases only j o h1 with ⟨rfl, rfl⟩ | ⟨_, _, rfl⟩ | ⟨hjn, hjk, o0, h4, rfl⟩
      · rw [hβn] at h3
        injection h3 with h3; injection h3 with e1 e2
        subst e1 e2
        exact ⟨k, _, hk, h2, hβk, .inl ⟨rfl, rfl⟩⟩
      · exact h2.elim
      · exact ⟨j, o0, h4, (lv o0 c').1 h2, by rw [← hβ j hjn]; exact h3, .inr ⟨hjn, hjk, rfl⟩⟩
    obtain ⟨i0, p0, q1, q2, q3, q4⟩ := back i o c1' hi li bi
    obtain ⟨j0, p1, r1, r2, r3, r4⟩ := back j o' c2' hj lj bj
    have := S.heap.inj i0 j0 p0 p1 b1 c1' c2' q1 r1 q2 r2 q3 r3
    omega
  · have hi : slot (mvT k n st.t) i = some v := hi
    rw [mvT_slot] at hi
    obtain ⟨v0, h1, rfl⟩ := Option.map_eq_some_iff.1 hi
    obtain ⟨u, h2, h3⟩ := S.tm i v0 h1
    exact ⟨u, h2, cv v0 u h3⟩
theorem mvL_ok : ∀ (l : List Nat) {st : St} {β : List (Nat × Nat)}, SimL C st a w β → ∃ β', SimL C (mvL l st) a w β'
  | [], st, β, S => ⟨β, S⟩
  | k :: r, st, β, S => by
    obtain ⟨β1, S1⟩ := mv1_ok S k
    exact mvL_ok r S1
def evFm (G : Env) (c : Code) (rs : List ResultVar) (AS : Shape) (ah : List Ho) (RS : Shape) (rh : List Ho) (ms : List Nat) (s : HL ah) : Option (HL rh) := match AS.fill (up ah s) with
  | some (ds, os) => bif Nat.beq os.length G.M && Nat.ble ds.length G.N then evC G c (mvL ms ⟨nums 0 ds, os⟩) (fun e st => match e with
    | .normal => (match resV G.tab st rs with
      | some v => (match RS.get G.M st.h [v] with | some l => down rh l | none => G.bad _ 61 none st)
      | none => G.bad _ 62 none st)
    | .ret => (match resV G.tab st rs with
      | some v => (match RS.get G.M st.h [v] with | some l => down rh l | none => G.bad _ 61 none st)
      | none => G.bad _ 62 none st)
    | _ => G.bad _ 63 none st) else G.bad _ 64 none ⟨[], []⟩
  | none => none
theorem gc_ofm (HB : BadOk G) (HT : TabOk P G.tab) (H : CtrOk P G.Γ) (hm : P.follows .mixedOrders = true) {f : FuncId} {fn : Func} {c : Code} (hf : P.funcs[f]? = some fn) (hb : fn.body = some c) (hN : fn.ntmps = G.N) (hc : CodeOk P G c) {AS RS : Shape} {ah rh : List Ho} {sh : HL ah → Option (HL rh)} (ms : List Nat) (hsh : ∀ s, evFm G c fn.results.toList AS ah RS rh ms s = sh s) : GC P f ⟨AS, ah, RS, rh, sh⟩ := fun s r hs ds os hfill d0 h0' hfin => by
  have hs : sh s = some r := hs
  have hs := (hsh s).trans hs
  unfold evFm at hs
  have hfill : AS.fill (up ah s) = some (ds, os) := hfill
  rw [hfill] at hs
  simp only at hs
  cases hb2 : (Nat.beq os.length G.M && Nat.ble ds.length G.N) with
  | false => rw [hb2] at hs; simp only [cond_false] at hs; rw [HB] at hs; cases hs
  | true =>
    rw [hb2] at hs
    simp only [cond_true] at hs
    simp only [Bool.and_eq_true] at hb2
    have hM := Nat.eq_of_beq_eq_true hb2.1
    have hds := Nat.le_of_ble_eq_true hb2.2
    have endQ : ∀ (st : St), (match resV G.tab st fn.results.toList with
      | some v => (match RS.get G.M st.h [v] with | some l => down rh l | none => G.bad _ 61 none st)
      | none => G.bad _ 62 none st) = some r → ∃ v l, resV G.tab st fn.results.toList = some v ∧ RS.get G.M st.h [v] = some l ∧ down rh l = some r := fun st hq => by
      split at hq
      · rename_i v hv
        split at hq
        · rename_i l hl; exact ⟨v, l, hv, hl, hq⟩
        · rw [HB] at hq; cases hq
      · rw [HB] at hq; cases hq
    have hev := evC_ok (r := r) HB HT H hm c _ (mvL ms ⟨nums 0 ds, os⟩) (fun e st => (e = .normal ∨ e = .ret) ∧ ∃ v l, resV G.tab st fn.results.toList = some v ∧ RS.get G.M st.h [v] = some l ∧ down rh l = some r) hc (fun e st hk => by
      cases e with
      | normal => exact ⟨.inl rfl, endQ st hk⟩
      | ret => exact ⟨.inr rfl, endQ st hk⟩
      | _ => (simp only at hk; rw [HB] at hk; cases hk)) hs
    -- the result's shape does not hang on the run
    have key : ∀ w X β args, (∀ b, X b → b < w.heap.size) → HeapOk w (Liv os β) X os β → F2 (Cv w (Liv os β) X os β) ds args → Calls P f args.toArray w fun ex w' => ∃ d h', RS.fill (up rh r) = some ([d], h') ∧ ∃ u β', ex = .returned u ∧ Step w os β w' h' β' ∧ HeapOk w' (Liv h' β') X h' β' ∧ Cv w' (Liv h' β') X h' β' d u := fun w X β args hX hH hargs => by
      refine calls_of_wp hf hb ?_
      have S0 : SimL ⟨w, os, β, G.N, X⟩ ⟨nums 0 ds, os⟩ { tmps := args.toArray ++ Array.replicate (fn.ntmps - args.toArray.size) undef, defers := [] } w β :=
        ⟨hH.len, hX, Step.refl _ _ _, hH, by have := hargs.1; simp; omega, rfl, fun i v hi => by
          obtain ⟨_, h1⟩ := slot_nums ds 0 i v hi
          rw [Nat.sub_zero] at h1
          obtain ⟨u, hu, hR⟩ := hargs.get h1
          refine ⟨u, ?_, hR⟩
          have hl : i < args.length := (List.getElem?_eq_some_iff.1 hu).1
          show (args.toArray ++ Array.replicate (fn.ntmps - args.toArray.size) undef)[i]? = some u
          rw [Array.getElem?_append_left (by simpa using hl)]
          simpa using hu⟩
      obtain ⟨βm, Sm⟩ := mvL_ok ms S0
      have hw := hev ⟨w, os, β, G.N, X⟩ _ w βm rfl hM Sm
      refine wp_mono hw ?_
      rintro e a' w' ⟨st', β', ⟨he, v, l, h1, h2, h3⟩, S'⟩
      unfold Shape.get at h2
      split at h2
      rename_i ρ vr hρ
      cases hb3 : (allV vr && chkρ G.M ρ (st'.h ++ vr)) with
      | false => rw [hb3] at h2; cases h2
      | true =>
        rw [hb3] at h2
        simp only [cond_true] at h2
        simp only [Bool.and_eq_true] at hb3
        obtain ⟨u, hres, hu0⟩ := resV_ok HT S' h1
        obtain ⟨β2, S2, hst2⟩ := S'.virt vr hb3.1
        obtain ⟨ds', os', g1, g2, g3, g4⟩ := drop_ok S2 hM hb3.2 h2
        have hu : Cv w' (Liv (st'.h ++ vr) β2) X (st'.h ++ vr) β2 v u := hu0.keep (fun _ _ _ => rfl) (Nat.le_refl _) (fun b hb hn h => hn (hst2.new b hb h)) (fun _ _ _ h => h) hst2.hle hst2.beta
        have hF := g2 [u] (F2.cons hu F2.nil)
        have hl1 : ds'.length = 1 := by rw [← hF.1]; rfl
        obtain ⟨d, rfl⟩ : ∃ d, ds' = [d] := by
          match ds', hl1 with
          | [d], _ => exact ⟨d, rfl⟩
        have hd : Cv w' (Liv os' (tellβ ρ β2)) X os' (tellβ ρ β2) d u := hF.2 0 d u rfl rfl
        have hup := up_down h3
        rcases he with rfl | rfl
        · exact ⟨S'.df, u, hres, d, os', by rw [hup]; exact g1, u, _, rfl, g4, g3, hd⟩
        · exact ⟨S'.df, u, hres, d, os', by rw [hup]; exact g1, u, _, rfl, g4, g3, hd⟩
    intro w X β args hX hH hargs
    refine Calls.mono (key w X β args hX hH hargs) fun ex w' hx => ?_
    obtain ⟨d, h', g1, g2⟩ := hx
    have hfin : RS.fill (up rh r) = some ([d0], h0') := hfin
    rw [hfin] at g1
    injection g1 with g1
    injection g1 with e1 e2
    injection e1 with e1
    subst e1 e2
    exact g2
end
end Go.Proofs.Ytdfkphagjkpgdaa
end
section
namespace Go.Proofs.Ytdfkphagjkpgdaa
open Go.RowKit

section
variable {P : Program} {ops : Array Oper} {md : Region.Mode} {Q : Exit → Act → World → Prop} {S : World → Prop}
structure InvU (md : Region.Mode) (ops : Array Oper) (n : Nat) (l0 listed : Array Bool) : Prop where
  size : listed.size = ops.size
  closed : ∀ j oj, ops[j]? = some oj → listed.getD j false = true → ∀ e ∈ oj.after, Region.binds md e = true → listed.getD e.on false = true
  more : ∀ j, l0.getD j false = true → listed.getD j false = true
  tail : ∀ t, n ≤ t → l0.getD t true = false → listed.getD t true = false
theorem InvU.set {n : Nat} {l0 listed : Array Bool} (inv : InvU md ops n l0 listed) {i : Nat} (hi : i ∈ Region.ready md ops listed) (hin : i < n) : InvU md ops n l0 (listed.setIfInBounds i true) := by
  obtain ⟨_, oi, hoi, hall⟩ := mem_ready.1 hi
  refine ⟨by simp [inv.size], fun j oj hj hl e he hb => ?_, fun j hj => getD_set_true (inv.more j hj), fun t ht ht' => by rw [getD_set_ne true (by omega)]; exact inv.tail t ht ht'⟩
  by_cases hij : i = j
  · subst hij
    have : oj = oi := Option.some.inj (hj.symm.trans hoi)
    subst this
    exact getD_set_true (hall e he hb)
  · rw [getD_set_ne false hij] at hl
    exact getD_set_true (inv.closed j oj hj hl e he hb)
end
section
variable {P : Program} {G : Env} {C : Ctx} {st : St} {a : Act} {w : World} {β : List (Nat × Nat)}
end
end Go.Proofs.Ytdfkphagjkpgdaa
end
section
namespace Go.Proofs.Ytdfkphagjkpgdaa
open Go.RowKit
theorem info_parts {P : Program} {e : TypeId} {z : Value} {size bytes : Nat} (h : (P.info? e).map (fun i => (i.zero, i.size, i.bytes)) = some (some z, size, bytes)) : ∃ i, P.info? e = some i ∧ i.zero = some z ∧ i.size = size ∧ i.bytes = bytes := by
  obtain ⟨i, h1, h2⟩ := Option.map_eq_some_iff.1 h
  simp only [Prod.mk.injEq] at h2
  exact ⟨i, h1, h2.1, h2.2.1, h2.2.2⟩
theorem tok2 : TOk Try.prog 2 ⟨false, 1, [], none, some [.int .i64 0], 0, some .i64⟩ := ⟨Try.sizeOf2, Try.isAgg2, (fun _ => rfl), (fun _ _ _ h => by simp at h), (fun _ _ _ h => by cases h), (fun _ _ _ _ _ h => by cases h), (fun zs h => by cases h; exact ⟨_, Try.zeroValue2, rfl, by simp [Value.oneCell']⟩), (fun _ _ h => by cases h), (fun h => by cases h), (fun _ h => by cases h; exact Try.runUnderlying2), (fun h => by cases h), (fun h => by cases h), (fun h => by cases h)⟩
theorem tok3 : TOk Try.prog 3 ⟨false, 1, [], none, some [.int .i64 0], 0, some .i64⟩ := ⟨Try.sizeOf3, Try.isAgg3, (fun _ => rfl), (fun _ _ _ h => by simp at h), (fun _ _ _ h => by cases h), (fun _ _ _ _ _ h => by cases h), (fun zs h => by cases h; exact ⟨_, Try.zeroValue3, rfl, by simp [Value.oneCell']⟩), (fun _ _ h => by cases h), (fun h => by cases h), (fun _ h => by cases h; exact Try.runUnderlying3), (fun h => by cases h), (fun h => by cases h), (fun h => by cases h)⟩
theorem tok4 : TOk Try.prog 4 ⟨false, 1, [], none, some [.bool false], 1, none⟩ := ⟨Try.sizeOf4, Try.isAgg4, (fun _ => rfl), (fun _ _ _ h => by simp at h), (fun _ _ _ h => by cases h), (fun _ _ _ _ _ h => by cases h), (fun zs h => by cases h; exact ⟨_, Try.zeroValue4, rfl, by simp [Value.oneCell']⟩), (fun _ _ h => by cases h), (fun _ => Try.underlying4), (fun _ h => by cases h), (fun h => by cases h), (fun h => by cases h), (fun h => by cases h)⟩
theorem tok5 : TOk Try.prog 5 ⟨false, 1, [], none, some [.int .u8 0], 0, some .u8⟩ := ⟨Try.sizeOf5, Try.isAgg5, (fun _ => rfl), (fun _ _ _ h => by simp at h), (fun _ _ _ h => by cases h), (fun _ _ _ _ _ h => by cases h), (fun zs h => by cases h; exact ⟨_, Try.zeroValue5, rfl, by simp [Value.oneCell']⟩), (fun _ _ h => by cases h), (fun h => by cases h), (fun _ h => by cases h; exact Try.runUnderlying5), (fun h => by cases h), (fun h => by cases h), (fun h => by cases h)⟩
theorem tok9 : TOk Try.prog 9 ⟨false, 1, [], none, some [.string ⟨#[]⟩], 2, none⟩ := ⟨Try.sizeOf9, Try.isAgg9, (fun _ => rfl), (fun _ _ _ h => by simp at h), (fun _ _ _ h => by cases h), (fun _ _ _ _ _ h => by cases h), (fun zs h => by cases h; exact ⟨_, Try.zeroValue9, rfl, by simp [Value.oneCell']⟩), (fun _ _ h => by cases h), (fun h => by cases h), (fun _ h => by cases h), (fun _ => Try.underlying9), (fun h => by cases h), (fun h => by cases h)⟩
theorem tok21 : TOk Try.prog 21 ⟨false, 1, [], none, some [.int .i32 0], 0, some .i32⟩ := ⟨Try.sizeOf21, Try.isAgg21, (fun _ => rfl), (fun _ _ _ h => by simp at h), (fun _ _ _ h => by cases h), (fun _ _ _ _ _ h => by cases h), (fun zs h => by cases h; exact ⟨_, Try.zeroValue21, rfl, by simp [Value.oneCell']⟩), (fun _ _ h => by cases h), (fun h => by cases h), (fun _ h => by cases h; exact Try.runUnderlying21), (fun h => by cases h), (fun h => by cases h), (fun h => by cases h)⟩
theorem inf22 : (Try.prog.info? 5).map (fun i => (i.zero, i.size, i.bytes)) = some (some (.int .u8 0), 1, 1) := by kernel_rfl
theorem tok22 : TOk Try.prog 22 ⟨false, 1, [], some (5, .u8, 1), some [.slice none 0 0], 0, none⟩ := ⟨Try.sizeOf22, Try.isAgg22, (fun _ => rfl), (fun _ _ _ h => by simp at h), (fun _ _ _ h => by cases h; exact ⟨Try.underlying22, by obtain ⟨i, h1, h2, h3, h4⟩ := info_parts inf22; exact ⟨i, _, h1, h2, h3, h4, rfl⟩, by decide⟩), (fun _ _ _ inf z h hi hz => by cases h; obtain ⟨i, h1, h2, h3, h4⟩ := info_parts inf22; rw [h1] at hi; cases hi; rw [h2] at hz; cases hz; rfl), (fun zs h => by cases h; exact ⟨_, Try.zeroValue22, rfl, by simp [Value.oneCell']⟩), (fun _ _ h => by cases h), (fun h => by cases h), (fun _ h => by cases h), (fun h => by cases h), (fun h => by cases h), (fun h => by cases h)⟩
theorem inf23 : (Try.prog.info? 44).map (fun i => (i.zero, i.size, i.bytes)) = some (some (.agg #[.int .i64 0, .int .i64 0, .int .i64 0]), 3, 24) := by kernel_rfl
theorem tok23 : TOk Try.prog 23 ⟨false, 1, [], some (44, .lk, 24), some [.slice none 0 0], 0, none⟩ := ⟨Try.sizeOf23, Try.isAgg23, (fun _ => rfl), (fun _ _ _ h => by simp at h), (fun _ _ _ h => by cases h; exact ⟨Try.underlying23, by obtain ⟨i, h1, h2, h3, h4⟩ := info_parts inf23; exact ⟨i, _, h1, h2, h3, h4, rfl⟩, by decide⟩), (fun _ _ _ inf z h hi hz => by cases h; obtain ⟨i, h1, h2, h3, h4⟩ := info_parts inf23; rw [h1] at hi; cases hi; rw [h2] at hz; cases hz; rfl), (fun zs h => by cases h; exact ⟨_, Try.zeroValue23, rfl, by simp [Value.oneCell']⟩), (fun _ _ h => by cases h), (fun h => by cases h), (fun _ h => by cases h), (fun h => by cases h), (fun h => by cases h), (fun h => by cases h)⟩
theorem tok24 : TOk Try.prog 24 ⟨true, 2, [(0, 1), (1, 1)], none, some [.int .i64 0, .slice none 0 0], 0, none⟩ := ⟨Try.sizeOf24, Try.isAgg24, (fun h => by cases h), (fun j off fs h => match j, h with | 0, h => by injection h with h; injection h with h1 h2; subst h1 h2; exact ⟨_, _, Try.runUnderlying24, rfl, rfl, Try.sizeOf3, by decide⟩ | 1, h => by injection h with h; injection h with h1 h2; subst h1 h2; exact ⟨_, _, Try.runUnderlying24, rfl, rfl, Try.sizeOf23, by decide⟩ | _ + 2, h => by simp at h), (fun _ _ _ h => by cases h), (fun _ _ _ _ _ h => by cases h), (fun zs h => by cases h; exact ⟨_, Try.zeroValue24, rfl, by simp [Value.oneCell']⟩), (fun _ _ _ => ⟨_, Try.runUnderlying24, fun w => by simp [Try.sizeOf23, Try.sizeOf3]⟩), (fun h => by cases h), (fun _ h => by cases h), (fun h => by cases h), (fun h => by cases h), (fun h => by cases h)⟩
theorem tok25 : TOk Try.prog 25 ⟨true, 2, [(0, 1), (1, 1)], none, some [.int .i64 0, .slice none 0 0], 0, none⟩ := ⟨Try.sizeOf25, Try.isAgg25, (fun h => by cases h), (fun j off fs h => match j, h with | 0, h => by injection h with h; injection h with h1 h2; subst h1 h2; exact ⟨_, _, Try.runUnderlying25, rfl, rfl, Try.sizeOf3, by decide⟩ | 1, h => by injection h with h; injection h with h1 h2; subst h1 h2; exact ⟨_, _, Try.runUnderlying25, rfl, rfl, Try.sizeOf23, by decide⟩ | _ + 2, h => by simp at h), (fun _ _ _ h => by cases h), (fun _ _ _ _ _ h => by cases h), (fun zs h => by cases h; exact ⟨_, Try.zeroValue25, rfl, by simp [Value.oneCell']⟩), (fun _ _ _ => ⟨_, Try.runUnderlying25, fun w => by simp [Try.sizeOf23, Try.sizeOf3]⟩), (fun h => by cases h), (fun _ h => by cases h), (fun h => by cases h), (fun h => by cases h), (fun h => by cases h)⟩
theorem inf27 : (Try.prog.info? 4).map (fun i => (i.zero, i.size, i.bytes)) = some (some (.bool false), 1, 1) := by kernel_rfl
theorem tok27 : TOk Try.prog 27 ⟨false, 1, [], some (4, .bool, 1), some [.slice none 0 0], 0, none⟩ := ⟨Try.sizeOf27, Try.isAgg27, (fun _ => rfl), (fun _ _ _ h => by simp at h), (fun _ _ _ h => by cases h; exact ⟨Try.underlying27, by obtain ⟨i, h1, h2, h3, h4⟩ := info_parts inf27; exact ⟨i, _, h1, h2, h3, h4, rfl⟩, by decide⟩), (fun _ _ _ inf z h hi hz => by cases h; obtain ⟨i, h1, h2, h3, h4⟩ := info_parts inf27; rw [h1] at hi; cases hi; rw [h2] at hz; cases hz; rfl), (fun zs h => by cases h; exact ⟨_, Try.zeroValue27, rfl, by simp [Value.oneCell']⟩), (fun _ _ h => by cases h), (fun h => by cases h), (fun _ h => by cases h), (fun h => by cases h), (fun h => by cases h), (fun h => by cases h)⟩
theorem inf28 : (Try.prog.info? 3).map (fun i => (i.zero, i.size, i.bytes)) = some (some (.int .i64 0), 1, 8) := by kernel_rfl
theorem tok28 : TOk Try.prog 28 ⟨false, 1, [], some (3, .int, 8), some [.slice none 0 0], 0, none⟩ := ⟨Try.sizeOf28, Try.isAgg28, (fun _ => rfl), (fun _ _ _ h => by simp at h), (fun _ _ _ h => by cases h; exact ⟨Try.underlying28, by obtain ⟨i, h1, h2, h3, h4⟩ := info_parts inf28; exact ⟨i, _, h1, h2, h3, h4, rfl⟩, by decide⟩), (fun _ _ _ inf z h hi hz => by cases h; obtain ⟨i, h1, h2, h3, h4⟩ := info_parts inf28; rw [h1] at hi; cases hi; rw [h2] at hz; cases hz; rfl), (fun zs h => by cases h; exact ⟨_, Try.zeroValue28, rfl, by simp [Value.oneCell']⟩), (fun _ _ h => by cases h), (fun h => by cases h), (fun _ h => by cases h), (fun h => by cases h), (fun h => by cases h), (fun h => by cases h)⟩
theorem inf29 : (Try.prog.info? 56).map (fun i => (i.zero, i.size, i.bytes)) = some (some (.slice none 0 0), 1, 24) := by kernel_rfl
theorem tok29 : TOk Try.prog 29 ⟨false, 1, [], some (56, .db, 24), some [.slice none 0 0], 0, none⟩ := ⟨Try.sizeOf29, Try.isAgg29, (fun _ => rfl), (fun _ _ _ h => by simp at h), (fun _ _ _ h => by cases h; exact ⟨Try.underlying29, by obtain ⟨i, h1, h2, h3, h4⟩ := info_parts inf29; exact ⟨i, _, h1, h2, h3, h4, rfl⟩, by decide⟩), (fun _ _ _ inf z h hi hz => by cases h; obtain ⟨i, h1, h2, h3, h4⟩ := info_parts inf29; rw [h1] at hi; cases hi; rw [h2] at hz; cases hz; rfl), (fun zs h => by cases h; exact ⟨_, Try.zeroValue29, rfl, by simp [Value.oneCell']⟩), (fun _ _ h => by cases h), (fun h => by cases h), (fun _ h => by cases h), (fun h => by cases h), (fun h => by cases h), (fun h => by cases h)⟩
theorem inf30 : (Try.prog.info? 68).map (fun i => (i.zero, i.size, i.bytes)) = some (some (.agg #[.int .i64 0, .int .i64 0, .int .i64 0, .slice none 0 0]), 4, 48) := by kernel_rfl
theorem tok30 : TOk Try.prog 30 ⟨false, 1, [], some (68, .pk, 48), some [.slice none 0 0], 0, none⟩ := ⟨Try.sizeOf30, Try.isAgg30, (fun _ => rfl), (fun _ _ _ h => by simp at h), (fun _ _ _ h => by cases h; exact ⟨Try.underlying30, by obtain ⟨i, h1, h2, h3, h4⟩ := info_parts inf30; exact ⟨i, _, h1, h2, h3, h4, rfl⟩, by decide⟩), (fun _ _ _ inf z h hi hz => by cases h; obtain ⟨i, h1, h2, h3, h4⟩ := info_parts inf30; rw [h1] at hi; cases hi; rw [h2] at hz; cases hz; rfl), (fun zs h => by cases h; exact ⟨_, Try.zeroValue30, rfl, by simp [Value.oneCell']⟩), (fun _ _ h => by cases h), (fun h => by cases h), (fun _ h => by cases h), (fun h => by cases h), (fun h => by cases h), (fun h => by cases h)⟩
theorem tok31 : TOk Try.prog 31 ⟨true, 6, [(0, 2), (2, 1), (3, 1), (4, 1), (5, 1)], none, some [.int .i64 0, .slice none 0 0, .slice none 0 0, .slice none 0 0, .slice none 0 0, .slice none 0 0], 0, none⟩ := ⟨Try.sizeOf31, Try.isAgg31, (fun h => by cases h), (fun j off fs h => match j, h with | 0, h => by injection h with h; injection h with h1 h2; subst h1 h2; exact ⟨_, _, Try.runUnderlying31, rfl, rfl, Try.sizeOf25, by decide⟩ | 1, h => by injection h with h; injection h with h1 h2; subst h1 h2; exact ⟨_, _, Try.runUnderlying31, rfl, rfl, Try.sizeOf27, by decide⟩ | 2, h => by injection h with h; injection h with h1 h2; subst h1 h2; exact ⟨_, _, Try.runUnderlying31, rfl, rfl, Try.sizeOf28, by decide⟩ | 3, h => by injection h with h; injection h with h1 h2; subst h1 h2; exact ⟨_, _, Try.runUnderlying31, rfl, rfl, Try.sizeOf29, by decide⟩ | 4, h => by injection h with h; injection h with h1 h2; subst h1 h2; exact ⟨_, _, Try.runUnderlying31, rfl, rfl, Try.sizeOf30, by decide⟩ | _ + 5, h => by simp at h), (fun _ _ _ h => by cases h), (fun _ _ _ _ _ h => by cases h), (fun zs h => by cases h; exact ⟨_, Try.zeroValue31, rfl, by simp [Value.oneCell']⟩), (fun _ _ _ => ⟨_, Try.runUnderlying31, fun w => by simp [Try.sizeOf25, Try.sizeOf27, Try.sizeOf28, Try.sizeOf29, Try.sizeOf30]⟩), (fun h => by cases h), (fun _ h => by cases h), (fun h => by cases h), (fun h => by cases h), (fun h => by cases h)⟩
theorem tok32 : TOk Try.prog 32 ⟨true, 6, [(0, 2), (2, 1), (3, 1), (4, 1), (5, 1)], none, some [.int .i64 0, .slice none 0 0, .slice none 0 0, .slice none 0 0, .slice none 0 0, .slice none 0 0], 0, none⟩ := ⟨Try.sizeOf32, Try.isAgg32, (fun h => by cases h), (fun j off fs h => match j, h with | 0, h => by injection h with h; injection h with h1 h2; subst h1 h2; exact ⟨_, _, Try.runUnderlying32, rfl, rfl, Try.sizeOf25, by decide⟩ | 1, h => by injection h with h; injection h with h1 h2; subst h1 h2; exact ⟨_, _, Try.runUnderlying32, rfl, rfl, Try.sizeOf27, by decide⟩ | 2, h => by injection h with h; injection h with h1 h2; subst h1 h2; exact ⟨_, _, Try.runUnderlying32, rfl, rfl, Try.sizeOf28, by decide⟩ | 3, h => by injection h with h; injection h with h1 h2; subst h1 h2; exact ⟨_, _, Try.runUnderlying32, rfl, rfl, Try.sizeOf29, by decide⟩ | 4, h => by injection h with h; injection h with h1 h2; subst h1 h2; exact ⟨_, _, Try.runUnderlying32, rfl, rfl, Try.sizeOf30, by decide⟩ | _ + 5, h => by simp at h), (fun _ _ _ h => by cases h), (fun _ _ _ _ _ h => by cases h), (fun zs h => by cases h; exact ⟨_, Try.zeroValue32, rfl, by simp [Value.oneCell']⟩), (fun _ _ _ => ⟨_, Try.runUnderlying32, fun w => by simp [Try.sizeOf25, Try.sizeOf27, Try.sizeOf28, Try.sizeOf29, Try.sizeOf30]⟩), (fun h => by cases h), (fun _ h => by cases h), (fun h => by cases h), (fun h => by cases h), (fun h => by cases h)⟩
theorem tok43 : TOk Try.prog 43 ⟨true, 3, [(0, 1), (1, 1), (2, 1)], none, some [.int .i64 0, .int .i64 0, .int .i64 0], 0, none⟩ := ⟨Try.sizeOf43, Try.isAgg43, (fun h => by cases h), (fun j off fs h => match j, h with | 0, h => by injection h with h; injection h with h1 h2; subst h1 h2; exact ⟨_, _, Try.runUnderlying43, rfl, rfl, Try.sizeOf3, by decide⟩ | 1, h => by injection h with h; injection h with h1 h2; subst h1 h2; exact ⟨_, _, Try.runUnderlying43, rfl, rfl, Try.sizeOf3, by decide⟩ | 2, h => by injection h with h; injection h with h1 h2; subst h1 h2; exact ⟨_, _, Try.runUnderlying43, rfl, rfl, Try.sizeOf3, by decide⟩ | _ + 3, h => by simp at h), (fun _ _ _ h => by cases h), (fun _ _ _ _ _ h => by cases h), (fun zs h => by cases h; exact ⟨_, Try.zeroValue43, rfl, by simp [Value.oneCell']⟩), (fun _ _ _ => ⟨_, Try.runUnderlying43, fun w => by simp [Try.sizeOf3]⟩), (fun h => by cases h), (fun _ h => by cases h), (fun h => by cases h), (fun h => by cases h), (fun h => by cases h)⟩
set_option maxRecDepth 100000 in
theorem ieq44 : ∀ (ps qs : List Int), ps.length = 3 → qs.length = 3 → ∀ x y w, (do eqGuard .eql 44 x y (.agg (ps.map (Value.int .i64)).toArray) (.agg (qs.map (Value.int .i64)).toArray); binOp .eql 44 (.agg (ps.map (Value.int .i64)).toArray) (.agg (qs.map (Value.int .i64)).toArray) : Sem Value).run Try.prog w = .ok (.bool (eqInts ps qs)) w
  | [a0, a1, a2], [b0, b1, b2], _, _, x, y, w => by
    have hu : Try.prog.underlying 44 = some (.struct (Try.prog.fieldsOf 44)) := by kernel_rfl
    have hst : Try.prog.stoodInHeld 44 = false := by kernel_rfl
    simp only [List.map_cons, List.map_nil]
    rw [Sem.run_bind, run_eqGuard_agg w .eql 44 x y _ _ (by kernel_rfl), Result.andThen_ok, run_eql_struct, run_equalIn_struct w 9999 _ _ _ hu hst]
    have hf : (Try.prog.fieldsOf 44).toList = (match Try.prog.underlying 44 with | some (.struct fs) => fs | _ => #[]).toList := rfl
    rw [hf, Try.underlying44]
    simp [Op.eqFields, go_sem, eqInts]
    by_cases h0 : a0 = b0 <;> by_cases h1 : a1 = b1 <;> by_cases h2 : a2 = b2 <;> simp [h0, h1, h2]
set_option maxRecDepth 100000 in
theorem ine44 : ∀ (ps qs : List Int), ps.length = 3 → qs.length = 3 → ∀ x y w, (do eqGuard .neq 44 x y (.agg (ps.map (Value.int .i64)).toArray) (.agg (qs.map (Value.int .i64)).toArray); binOp .neq 44 (.agg (ps.map (Value.int .i64)).toArray) (.agg (qs.map (Value.int .i64)).toArray) : Sem Value).run Try.prog w = .ok (.bool (!eqInts ps qs)) w
  | [a0, a1, a2], [b0, b1, b2], _, _, x, y, w => by
    have hu : Try.prog.underlying 44 = some (.struct (Try.prog.fieldsOf 44)) := by kernel_rfl
    have hst : Try.prog.stoodInHeld 44 = false := by kernel_rfl
    simp only [List.map_cons, List.map_nil]
    rw [Sem.run_bind, run_eqGuard_agg w .neq 44 x y _ _ (by kernel_rfl), Result.andThen_ok, run_neq_struct, run_equalIn_struct w 9999 _ _ _ hu hst]
    have hf : (Try.prog.fieldsOf 44).toList = (match Try.prog.underlying 44 with | some (.struct fs) => fs | _ => #[]).toList := rfl
    rw [hf, Try.underlying44]
    simp [Op.eqFields, go_sem, eqInts]
    by_cases h0 : a0 = b0 <;> by_cases h1 : a1 = b1 <;> by_cases h2 : a2 = b2 <;> simp [h0, h1, h2]
theorem tok44 : TOk Try.prog 44 ⟨true, 3, [(0, 1), (1, 1), (2, 1)], none, some [.int .i64 0, .int .i64 0, .int .i64 0], 3, none⟩ := ⟨Try.sizeOf44, Try.isAgg44, (fun h => by cases h), (fun j off fs h => match j, h with | 0, h => by injection h with h; injection h with h1 h2; subst h1 h2; exact ⟨_, _, Try.runUnderlying44, rfl, rfl, Try.sizeOf3, by decide⟩ | 1, h => by injection h with h; injection h with h1 h2; subst h1 h2; exact ⟨_, _, Try.runUnderlying44, rfl, rfl, Try.sizeOf3, by decide⟩ | 2, h => by injection h with h; injection h with h1 h2; subst h1 h2; exact ⟨_, _, Try.runUnderlying44, rfl, rfl, Try.sizeOf3, by decide⟩ | _ + 3, h => by simp at h), (fun _ _ _ h => by cases h), (fun _ _ _ _ _ h => by cases h), (fun zs h => by cases h; exact ⟨_, Try.zeroValue44, rfl, by simp [Value.oneCell']⟩), (fun _ _ _ => ⟨_, Try.runUnderlying44, fun w => by simp [Try.sizeOf3]⟩), (fun h => by cases h), (fun _ h => by cases h), (fun h => by cases h), (fun _ => ieq44), (fun _ => ine44)⟩
theorem tok50 : TOk Try.prog 50 ⟨false, 1, [], none, some [.pointer none], 0, none⟩ := ⟨Try.sizeOf50, Try.isAgg50, (fun _ => rfl), (fun _ _ _ h => by simp at h), (fun _ _ _ h => by cases h), (fun _ _ _ _ _ h => by cases h), (fun zs h => by cases h; exact ⟨_, Try.zeroValue50, rfl, by simp [Value.oneCell']⟩), (fun _ _ h => by cases h), (fun h => by cases h), (fun _ h => by cases h), (fun h => by cases h), (fun h => by cases h), (fun h => by cases h)⟩
theorem inf56 : (Try.prog.info? 59).map (fun i => (i.zero, i.size, i.bytes)) = some (some (.agg #[.int .i64 0, .int .i64 0, .slice none 0 0]), 3, 40) := by kernel_rfl
theorem tok56 : TOk Try.prog 56 ⟨false, 1, [], some (59, .ls, 40), some [.slice none 0 0], 0, none⟩ := ⟨Try.sizeOf56, Try.isAgg56, (fun _ => rfl), (fun _ _ _ h => by simp at h), (fun _ _ _ h => by cases h; exact ⟨Try.underlying56, by obtain ⟨i, h1, h2, h3, h4⟩ := info_parts inf56; exact ⟨i, _, h1, h2, h3, h4, rfl⟩, by decide⟩), (fun _ _ _ inf z h hi hz => by cases h; obtain ⟨i, h1, h2, h3, h4⟩ := info_parts inf56; rw [h1] at hi; cases hi; rw [h2] at hz; cases hz; rfl), (fun zs h => by cases h; exact ⟨_, Try.zeroValue56, rfl, by simp [Value.oneCell']⟩), (fun _ _ h => by cases h), (fun h => by cases h), (fun _ h => by cases h), (fun h => by cases h), (fun h => by cases h), (fun h => by cases h)⟩
theorem inf57 : (Try.prog.info? 96).map (fun i => (i.zero, i.size, i.bytes)) = some (some (.agg #[.int .i64 0, .int .i64 0]), 2, 16) := by kernel_rfl
theorem tok57 : TOk Try.prog 57 ⟨false, 1, [], some (96, .en, 16), some [.slice none 0 0], 0, none⟩ := ⟨Try.sizeOf57, Try.isAgg57, (fun _ => rfl), (fun _ _ _ h => by simp at h), (fun _ _ _ h => by cases h; exact ⟨Try.underlying57, by obtain ⟨i, h1, h2, h3, h4⟩ := info_parts inf57; exact ⟨i, _, h1, h2, h3, h4, rfl⟩, by decide⟩), (fun _ _ _ inf z h hi hz => by cases h; obtain ⟨i, h1, h2, h3, h4⟩ := info_parts inf57; rw [h1] at hi; cases hi; rw [h2] at hz; cases hz; rfl), (fun zs h => by cases h; exact ⟨_, Try.zeroValue57, rfl, by simp [Value.oneCell']⟩), (fun _ _ h => by cases h), (fun h => by cases h), (fun _ h => by cases h), (fun h => by cases h), (fun h => by cases h), (fun h => by cases h)⟩
theorem tok58 : TOk Try.prog 58 ⟨true, 3, [(0, 1), (1, 1), (2, 1)], none, some [.int .i64 0, .int .i64 0, .slice none 0 0], 0, none⟩ := ⟨Try.sizeOf58, Try.isAgg58, (fun h => by cases h), (fun j off fs h => match j, h with | 0, h => by injection h with h; injection h with h1 h2; subst h1 h2; exact ⟨_, _, Try.runUnderlying58, rfl, rfl, Try.sizeOf3, by decide⟩ | 1, h => by injection h with h; injection h with h1 h2; subst h1 h2; exact ⟨_, _, Try.runUnderlying58, rfl, rfl, Try.sizeOf3, by decide⟩ | 2, h => by injection h with h; injection h with h1 h2; subst h1 h2; exact ⟨_, _, Try.runUnderlying58, rfl, rfl, Try.sizeOf57, by decide⟩ | _ + 3, h => by simp at h), (fun _ _ _ h => by cases h), (fun _ _ _ _ _ h => by cases h), (fun zs h => by cases h; exact ⟨_, Try.zeroValue58, rfl, by simp [Value.oneCell']⟩), (fun _ _ _ => ⟨_, Try.runUnderlying58, fun w => by simp [Try.sizeOf3, Try.sizeOf57]⟩), (fun h => by cases h), (fun _ h => by cases h), (fun h => by cases h), (fun h => by cases h), (fun h => by cases h)⟩
theorem tok59 : TOk Try.prog 59 ⟨true, 3, [(0, 1), (1, 1), (2, 1)], none, some [.int .i64 0, .int .i64 0, .slice none 0 0], 0, none⟩ := ⟨Try.sizeOf59, Try.isAgg59, (fun h => by cases h), (fun j off fs h => match j, h with | 0, h => by injection h with h; injection h with h1 h2; subst h1 h2; exact ⟨_, _, Try.runUnderlying59, rfl, rfl, Try.sizeOf3, by decide⟩ | 1, h => by injection h with h; injection h with h1 h2; subst h1 h2; exact ⟨_, _, Try.runUnderlying59, rfl, rfl, Try.sizeOf3, by decide⟩ | 2, h => by injection h with h; injection h with h1 h2; subst h1 h2; exact ⟨_, _, Try.runUnderlying59, rfl, rfl, Try.sizeOf57, by decide⟩ | _ + 3, h => by simp at h), (fun _ _ _ h => by cases h), (fun _ _ _ _ _ h => by cases h), (fun zs h => by cases h; exact ⟨_, Try.zeroValue59, rfl, by simp [Value.oneCell']⟩), (fun _ _ _ => ⟨_, Try.runUnderlying59, fun w => by simp [Try.sizeOf3, Try.sizeOf57]⟩), (fun h => by cases h), (fun _ h => by cases h), (fun h => by cases h), (fun h => by cases h), (fun h => by cases h)⟩
theorem tok67 : TOk Try.prog 67 ⟨true, 4, [(0, 1), (1, 3)], none, some [.int .i64 0, .int .i64 0, .int .i64 0, .slice none 0 0], 0, none⟩ := ⟨Try.sizeOf67, Try.isAgg67, (fun h => by cases h), (fun j off fs h => match j, h with | 0, h => by injection h with h; injection h with h1 h2; subst h1 h2; exact ⟨_, _, Try.runUnderlying67, rfl, rfl, Try.sizeOf3, by decide⟩ | 1, h => by injection h with h; injection h with h1 h2; subst h1 h2; exact ⟨_, _, Try.runUnderlying67, rfl, rfl, Try.sizeOf59, by decide⟩ | _ + 2, h => by simp at h), (fun _ _ _ h => by cases h), (fun _ _ _ _ _ h => by cases h), (fun zs h => by cases h; exact ⟨_, Try.zeroValue67, rfl, by simp [Value.oneCell']⟩), (fun _ _ _ => ⟨_, Try.runUnderlying67, fun w => by simp [Try.sizeOf3, Try.sizeOf59]⟩), (fun h => by cases h), (fun _ h => by cases h), (fun h => by cases h), (fun h => by cases h), (fun h => by cases h)⟩
theorem tok68 : TOk Try.prog 68 ⟨true, 4, [(0, 1), (1, 3)], none, some [.int .i64 0, .int .i64 0, .int .i64 0, .slice none 0 0], 0, none⟩ := ⟨Try.sizeOf68, Try.isAgg68, (fun h => by cases h), (fun j off fs h => match j, h with | 0, h => by injection h with h; injection h with h1 h2; subst h1 h2; exact ⟨_, _, Try.runUnderlying68, rfl, rfl, Try.sizeOf3, by decide⟩ | 1, h => by injection h with h; injection h with h1 h2; subst h1 h2; exact ⟨_, _, Try.runUnderlying68, rfl, rfl, Try.sizeOf59, by decide⟩ | _ + 2, h => by simp at h), (fun _ _ _ h => by cases h), (fun _ _ _ _ _ h => by cases h), (fun zs h => by cases h; exact ⟨_, Try.zeroValue68, rfl, by simp [Value.oneCell']⟩), (fun _ _ _ => ⟨_, Try.runUnderlying68, fun w => by simp [Try.sizeOf3, Try.sizeOf59]⟩), (fun h => by cases h), (fun _ h => by cases h), (fun h => by cases h), (fun h => by cases h), (fun h => by cases h)⟩
theorem tok90 : TOk Try.prog 90 ⟨true, 2, [(0, 1), (1, 1)], none, some [.slice none 0 0, .int .i64 0], 0, none⟩ := ⟨Try.sizeOf90, Try.isAgg90, (fun h => by cases h), (fun j off fs h => match j, h with | 0, h => by injection h with h; injection h with h1 h2; subst h1 h2; exact ⟨_, _, Try.runUnderlying90, rfl, rfl, Try.sizeOf22, by decide⟩ | 1, h => by injection h with h; injection h with h1 h2; subst h1 h2; exact ⟨_, _, Try.runUnderlying90, rfl, rfl, Try.sizeOf3, by decide⟩ | _ + 2, h => by simp at h), (fun _ _ _ h => by cases h), (fun _ _ _ _ _ h => by cases h), (fun zs h => by cases h; exact ⟨_, Try.zeroValue90, rfl, by simp [Value.oneCell']⟩), (fun _ _ _ => ⟨_, Try.runUnderlying90, fun w => by simp [Try.sizeOf22, Try.sizeOf3]⟩), (fun h => by cases h), (fun _ h => by cases h), (fun h => by cases h), (fun h => by cases h), (fun h => by cases h)⟩
theorem tok91 : TOk Try.prog 91 ⟨true, 2, [(0, 1), (1, 1)], none, some [.slice none 0 0, .int .i64 0], 0, none⟩ := ⟨Try.sizeOf91, Try.isAgg91, (fun h => by cases h), (fun j off fs h => match j, h with | 0, h => by injection h with h; injection h with h1 h2; subst h1 h2; exact ⟨_, _, Try.runUnderlying91, rfl, rfl, Try.sizeOf22, by decide⟩ | 1, h => by injection h with h; injection h with h1 h2; subst h1 h2; exact ⟨_, _, Try.runUnderlying91, rfl, rfl, Try.sizeOf3, by decide⟩ | _ + 2, h => by simp at h), (fun _ _ _ h => by cases h), (fun _ _ _ _ _ h => by cases h), (fun zs h => by cases h; exact ⟨_, Try.zeroValue91, rfl, by simp [Value.oneCell']⟩), (fun _ _ _ => ⟨_, Try.runUnderlying91, fun w => by simp [Try.sizeOf22, Try.sizeOf3]⟩), (fun h => by cases h), (fun _ h => by cases h), (fun h => by cases h), (fun h => by cases h), (fun h => by cases h)⟩
theorem tok92 : TOk Try.prog 92 ⟨false, 1, [], none, some [.int .u64 0], 0, some .u64⟩ := ⟨Try.sizeOf92, Try.isAgg92, (fun _ => rfl), (fun _ _ _ h => by simp at h), (fun _ _ _ h => by cases h), (fun _ _ _ _ _ h => by cases h), (fun zs h => by cases h; exact ⟨_, Try.zeroValue92, rfl, by simp [Value.oneCell']⟩), (fun _ _ h => by cases h), (fun h => by cases h), (fun _ h => by cases h; exact Try.runUnderlying92), (fun h => by cases h), (fun h => by cases h), (fun h => by cases h)⟩
theorem tok95 : TOk Try.prog 95 ⟨true, 2, [(0, 1), (1, 1)], none, some [.int .i64 0, .int .i64 0], 0, none⟩ := ⟨Try.sizeOf95, Try.isAgg95, (fun h => by cases h), (fun j off fs h => match j, h with | 0, h => by injection h with h; injection h with h1 h2; subst h1 h2; exact ⟨_, _, Try.runUnderlying95, rfl, rfl, Try.sizeOf3, by decide⟩ | 1, h => by injection h with h; injection h with h1 h2; subst h1 h2; exact ⟨_, _, Try.runUnderlying95, rfl, rfl, Try.sizeOf3, by decide⟩ | _ + 2, h => by simp at h), (fun _ _ _ h => by cases h), (fun _ _ _ _ _ h => by cases h), (fun zs h => by cases h; exact ⟨_, Try.zeroValue95, rfl, by simp [Value.oneCell']⟩), (fun _ _ _ => ⟨_, Try.runUnderlying95, fun w => by simp [Try.sizeOf3]⟩), (fun h => by cases h), (fun _ h => by cases h), (fun h => by cases h), (fun h => by cases h), (fun h => by cases h)⟩
set_option maxRecDepth 100000 in
theorem ieq96 : ∀ (ps qs : List Int), ps.length = 2 → qs.length = 2 → ∀ x y w, (do eqGuard .eql 96 x y (.agg (ps.map (Value.int .i64)).toArray) (.agg (qs.map (Value.int .i64)).toArray); binOp .eql 96 (.agg (ps.map (Value.int .i64)).toArray) (.agg (qs.map (Value.int .i64)).toArray) : Sem Value).run Try.prog w = .ok (.bool (eqInts ps qs)) w
  | [a0, a1], [b0, b1], _, _, x, y, w => by
    have hu : Try.prog.underlying 96 = some (.struct (Try.prog.fieldsOf 96)) := by kernel_rfl
    have hst : Try.prog.stoodInHeld 96 = false := by kernel_rfl
    simp only [List.map_cons, List.map_nil]
    rw [Sem.run_bind, run_eqGuard_agg w .eql 96 x y _ _ (by kernel_rfl), Result.andThen_ok, run_eql_struct, run_equalIn_struct w 9999 _ _ _ hu hst]
    have hf : (Try.prog.fieldsOf 96).toList = (match Try.prog.underlying 96 with | some (.struct fs) => fs | _ => #[]).toList := rfl
    rw [hf, Try.underlying96]
    simp [Op.eqFields, go_sem, eqInts]
    by_cases h0 : a0 = b0 <;> by_cases h1 : a1 = b1 <;> simp [h0, h1]
set_option maxRecDepth 100000 in
theorem ine96 : ∀ (ps qs : List Int), ps.length = 2 → qs.length = 2 → ∀ x y w, (do eqGuard .neq 96 x y (.agg (ps.map (Value.int .i64)).toArray) (.agg (qs.map (Value.int .i64)).toArray); binOp .neq 96 (.agg (ps.map (Value.int .i64)).toArray) (.agg (qs.map (Value.int .i64)).toArray) : Sem Value).run Try.prog w = .ok (.bool (!eqInts ps qs)) w
  | [a0, a1], [b0, b1], _, _, x, y, w => by
    have hu : Try.prog.underlying 96 = some (.struct (Try.prog.fieldsOf 96)) := by kernel_rfl
    have hst : Try.prog.stoodInHeld 96 = false := by kernel_rfl
    simp only [List.map_cons, List.map_nil]
    rw [Sem.run_bind, run_eqGuard_agg w .neq 96 x y _ _ (by kernel_rfl), Result.andThen_ok, run_neq_struct, run_equalIn_struct w 9999 _ _ _ hu hst]
    have hf : (Try.prog.fieldsOf 96).toList = (match Try.prog.underlying 96 with | some (.struct fs) => fs | _ => #[]).toList := rfl
    rw [hf, Try.underlying96]
    simp [Op.eqFields, go_sem, eqInts]
    by_cases h0 : a0 = b0 <;> by_cases h1 : a1 = b1 <;> simp [h0, h1]
theorem tok96 : TOk Try.prog 96 ⟨true, 2, [(0, 1), (1, 1)], none, some [.int .i64 0, .int .i64 0], 3, none⟩ := ⟨Try.sizeOf96, Try.isAgg96, (fun h => by cases h), (fun j off fs h => match j, h with | 0, h => by injection h with h; injection h with h1 h2; subst h1 h2; exact ⟨_, _, Try.runUnderlying96, rfl, rfl, Try.sizeOf3, by decide⟩ | 1, h => by injection h with h; injection h with h1 h2; subst h1 h2; exact ⟨_, _, Try.runUnderlying96, rfl, rfl, Try.sizeOf3, by decide⟩ | _ + 2, h => by simp at h), (fun _ _ _ h => by cases h), (fun _ _ _ _ _ h => by cases h), (fun zs h => by cases h; exact ⟨_, Try.zeroValue96, rfl, by simp [Value.oneCell']⟩), (fun _ _ _ => ⟨_, Try.runUnderlying96, fun w => by simp [Try.sizeOf3]⟩), (fun h => by cases h), (fun _ h => by cases h), (fun h => by cases h), (fun _ => ieq96), (fun _ => ine96)⟩
theorem tok108 : TOk Try.prog 108 ⟨true, 2, [(0, 1), (1, 1)], none, some [.int .i64 0, .int .i64 0], 0, none⟩ := ⟨Try.sizeOf108, Try.isAgg108, (fun h => by cases h), (fun j off fs h => match j, h with | 0, h => by injection h with h; injection h with h1 h2; subst h1 h2; exact ⟨_, _, Try.runUnderlying108, rfl, rfl, Try.sizeOf3, by decide⟩ | 1, h => by injection h with h; injection h with h1 h2; subst h1 h2; exact ⟨_, _, Try.runUnderlying108, rfl, rfl, Try.sizeOf3, by decide⟩ | _ + 2, h => by simp at h), (fun _ _ _ h => by cases h), (fun _ _ _ _ _ h => by cases h), (fun zs h => by cases h; exact ⟨_, Try.zeroValue108, rfl, by simp [Value.oneCell']⟩), (fun _ _ _ => ⟨_, Try.runUnderlying108, fun w => by simp [Try.sizeOf3]⟩), (fun h => by cases h), (fun _ h => by cases h), (fun h => by cases h), (fun h => by cases h), (fun h => by cases h)⟩
set_option maxRecDepth 100000 in
theorem ieq109 : ∀ (ps qs : List Int), ps.length = 2 → qs.length = 2 → ∀ x y w, (do eqGuard .eql 109 x y (.agg (ps.map (Value.int .i64)).toArray) (.agg (qs.map (Value.int .i64)).toArray); binOp .eql 109 (.agg (ps.map (Value.int .i64)).toArray) (.agg (qs.map (Value.int .i64)).toArray) : Sem Value).run Try.prog w = .ok (.bool (eqInts ps qs)) w
  | [a0, a1], [b0, b1], _, _, x, y, w => by
    have hu : Try.prog.underlying 109 = some (.struct (Try.prog.fieldsOf 109)) := by kernel_rfl
    have hst : Try.prog.stoodInHeld 109 = false := by kernel_rfl
    simp only [List.map_cons, List.map_nil]
    rw [Sem.run_bind, run_eqGuard_agg w .eql 109 x y _ _ (by kernel_rfl), Result.andThen_ok, run_eql_struct, run_equalIn_struct w 9999 _ _ _ hu hst]
    have hf : (Try.prog.fieldsOf 109).toList = (match Try.prog.underlying 109 with | some (.struct fs) => fs | _ => #[]).toList := rfl
    rw [hf, Try.underlying109]
    simp [Op.eqFields, go_sem, eqInts]
    by_cases h0 : a0 = b0 <;> by_cases h1 : a1 = b1 <;> simp [h0, h1]
set_option maxRecDepth 100000 in
theorem ine109 : ∀ (ps qs : List Int), ps.length = 2 → qs.length = 2 → ∀ x y w, (do eqGuard .neq 109 x y (.agg (ps.map (Value.int .i64)).toArray) (.agg (qs.map (Value.int .i64)).toArray); binOp .neq 109 (.agg (ps.map (Value.int .i64)).toArray) (.agg (qs.map (Value.int .i64)).toArray) : Sem Value).run Try.prog w = .ok (.bool (!eqInts ps qs)) w
  | [a0, a1], [b0, b1], _, _, x, y, w => by
    have hu : Try.prog.underlying 109 = some (.struct (Try.prog.fieldsOf 109)) := by kernel_rfl
    have hst : Try.prog.stoodInHeld 109 = false := by kernel_rfl
    simp only [List.map_cons, List.map_nil]
    rw [Sem.run_bind, run_eqGuard_agg w .neq 109 x y _ _ (by kernel_rfl), Result.andThen_ok, run_neq_struct, run_equalIn_struct w 9999 _ _ _ hu hst]
    have hf : (Try.prog.fieldsOf 109).toList = (match Try.prog.underlying 109 with | some (.struct fs) => fs | _ => #[]).toList := rfl
    rw [hf, Try.underlying109]
    simp [Op.eqFields, go_sem, eqInts]
    by_cases h0 : a0 = b0 <;> by_cases h1 : a1 = b1 <;> simp [h0, h1]
theorem tok109 : TOk Try.prog 109 ⟨true, 2, [(0, 1), (1, 1)], none, some [.int .i64 0, .int .i64 0], 3, none⟩ := ⟨Try.sizeOf109, Try.isAgg109, (fun h => by cases h), (fun j off fs h => match j, h with | 0, h => by injection h with h; injection h with h1 h2; subst h1 h2; exact ⟨_, _, Try.runUnderlying109, rfl, rfl, Try.sizeOf3, by decide⟩ | 1, h => by injection h with h; injection h with h1 h2; subst h1 h2; exact ⟨_, _, Try.runUnderlying109, rfl, rfl, Try.sizeOf3, by decide⟩ | _ + 2, h => by simp at h), (fun _ _ _ h => by cases h), (fun _ _ _ _ _ h => by cases h), (fun zs h => by cases h; exact ⟨_, Try.zeroValue109, rfl, by simp [Value.oneCell']⟩), (fun _ _ _ => ⟨_, Try.runUnderlying109, fun w => by simp [Try.sizeOf3]⟩), (fun h => by cases h), (fun _ h => by cases h), (fun h => by cases h), (fun _ => ieq109), (fun _ => ine109)⟩
theorem tok116 : TOk Try.prog 116 ⟨false, 1, [], none, some [.int .u32 0], 0, some .u32⟩ := ⟨Try.sizeOf116, Try.isAgg116, (fun _ => rfl), (fun _ _ _ h => by simp at h), (fun _ _ _ h => by cases h), (fun _ _ _ _ _ h => by cases h), (fun zs h => by cases h; exact ⟨_, Try.zeroValue116, rfl, by simp [Value.oneCell']⟩), (fun _ _ h => by cases h), (fun h => by cases h), (fun _ h => by cases h; exact Try.runUnderlying116), (fun h => by cases h), (fun h => by cases h), (fun h => by cases h)⟩
theorem tok119 : TOk Try.prog 119 ⟨false, 1, [], none, some [.int .u64 0], 0, some .u64⟩ := ⟨Try.sizeOf119, Try.isAgg119, (fun _ => rfl), (fun _ _ _ h => by simp at h), (fun _ _ _ h => by cases h), (fun _ _ _ _ _ h => by cases h), (fun zs h => by cases h; exact ⟨_, Try.zeroValue119, rfl, by simp [Value.oneCell']⟩), (fun _ _ h => by cases h), (fun h => by cases h), (fun _ h => by cases h; exact Try.runUnderlying119), (fun h => by cases h), (fun h => by cases h), (fun h => by cases h)⟩
theorem tok131 : TOk Try.prog 131 ⟨false, 1, [], none, some [.int .i64 0], 0, some .i64⟩ := ⟨Try.sizeOf131, Try.isAgg131, (fun _ => rfl), (fun _ _ _ h => by simp at h), (fun _ _ _ h => by cases h), (fun _ _ _ _ _ h => by cases h), (fun zs h => by cases h; exact ⟨_, Try.zeroValue131, rfl, by simp [Value.oneCell']⟩), (fun _ _ h => by cases h), (fun h => by cases h), (fun _ h => by cases h; exact Try.runUnderlying131), (fun h => by cases h), (fun h => by cases h), (fun h => by cases h)⟩
theorem tok141 : TOk Try.prog 141 ⟨false, 1, [], none, some [.int .u64 0], 0, some .u64⟩ := ⟨Try.sizeOf141, Try.isAgg141, (fun _ => rfl), (fun _ _ _ h => by simp at h), (fun _ _ _ h => by cases h), (fun _ _ _ _ _ h => by cases h), (fun zs h => by cases h; exact ⟨_, Try.zeroValue141, rfl, by simp [Value.oneCell']⟩), (fun _ _ h => by cases h), (fun h => by cases h), (fun _ h => by cases h; exact Try.runUnderlying141), (fun h => by cases h), (fun h => by cases h), (fun h => by cases h)⟩
theorem tok145 : TOk Try.prog 145 ⟨false, 1, [], none, some [.pointer none], 0, none⟩ := ⟨Try.sizeOf145, Try.isAgg145, (fun _ => rfl), (fun _ _ _ h => by simp at h), (fun _ _ _ h => by cases h), (fun _ _ _ _ _ h => by cases h), (fun zs h => by cases h; exact ⟨_, Try.zeroValue145, rfl, by simp [Value.oneCell']⟩), (fun _ _ h => by cases h), (fun h => by cases h), (fun _ h => by cases h), (fun h => by cases h), (fun h => by cases h), (fun h => by cases h)⟩
theorem tok147 : TOk Try.prog 147 ⟨false, 1, [], none, some [.pointer none], 0, none⟩ := ⟨Try.sizeOf147, Try.isAgg147, (fun _ => rfl), (fun _ _ _ h => by simp at h), (fun _ _ _ h => by cases h), (fun _ _ _ _ _ h => by cases h), (fun zs h => by cases h; exact ⟨_, Try.zeroValue147, rfl, by simp [Value.oneCell']⟩), (fun _ _ h => by cases h), (fun h => by cases h), (fun _ h => by cases h), (fun h => by cases h), (fun h => by cases h), (fun h => by cases h)⟩
theorem tok151 : TOk Try.prog 151 ⟨true, 4, [(0, 1), (1, 1), (2, 1), (3, 1)], none, some [.pointer none, .pointer none, .pointer none, .string ⟨#[]⟩], 0, none⟩ := ⟨Try.sizeOf151, Try.isAgg151, (fun h => by cases h), (fun j off fs h => match j, h with | 0, h => by injection h with h; injection h with h1 h2; subst h1 h2; exact ⟨_, _, Try.runUnderlying151, rfl, rfl, Try.sizeOf17, by decide⟩ | 1, h => by injection h with h; injection h with h1 h2; subst h1 h2; exact ⟨_, _, Try.runUnderlying151, rfl, rfl, Try.sizeOf17, by decide⟩ | 2, h => by injection h with h; injection h with h1 h2; subst h1 h2; exact ⟨_, _, Try.runUnderlying151, rfl, rfl, Try.sizeOf17, by decide⟩ | 3, h => by injection h with h; injection h with h1 h2; subst h1 h2; exact ⟨_, _, Try.runUnderlying151, rfl, rfl, Try.sizeOf9, by decide⟩ | _ + 4, h => by simp at h), (fun _ _ _ h => by cases h), (fun _ _ _ _ _ h => by cases h), (fun zs h => by cases h; exact ⟨_, Try.zeroValue151, rfl, by simp [Value.oneCell']⟩), (fun _ _ _ => ⟨_, Try.runUnderlying151, fun w => by simp [Try.sizeOf17, Try.sizeOf9]⟩), (fun h => by cases h), (fun _ h => by cases h), (fun h => by cases h), (fun h => by cases h), (fun h => by cases h)⟩
theorem tok152 : TOk Try.prog 152 ⟨true, 4, [(0, 1), (1, 1), (2, 1), (3, 1)], none, some [.pointer none, .pointer none, .pointer none, .string ⟨#[]⟩], 0, none⟩ := ⟨Try.sizeOf152, Try.isAgg152, (fun h => by cases h), (fun j off fs h => match j, h with | 0, h => by injection h with h; injection h with h1 h2; subst h1 h2; exact ⟨_, _, Try.runUnderlying152, rfl, rfl, Try.sizeOf17, by decide⟩ | 1, h => by injection h with h; injection h with h1 h2; subst h1 h2; exact ⟨_, _, Try.runUnderlying152, rfl, rfl, Try.sizeOf17, by decide⟩ | 2, h => by injection h with h; injection h with h1 h2; subst h1 h2; exact ⟨_, _, Try.runUnderlying152, rfl, rfl, Try.sizeOf17, by decide⟩ | 3, h => by injection h with h; injection h with h1 h2; subst h1 h2; exact ⟨_, _, Try.runUnderlying152, rfl, rfl, Try.sizeOf9, by decide⟩ | _ + 4, h => by simp at h), (fun _ _ _ h => by cases h), (fun _ _ _ _ _ h => by cases h), (fun zs h => by cases h; exact ⟨_, Try.zeroValue152, rfl, by simp [Value.oneCell']⟩), (fun _ _ _ => ⟨_, Try.runUnderlying152, fun w => by simp [Try.sizeOf17, Try.sizeOf9]⟩), (fun h => by cases h), (fun _ h => by cases h), (fun h => by cases h), (fun h => by cases h), (fun h => by cases h)⟩
theorem tok157 : TOk Try.prog 157 ⟨false, 1, [], none, some [.int .u8 0], 0, some .u8⟩ := ⟨Try.sizeOf157, Try.isAgg157, (fun _ => rfl), (fun _ _ _ h => by simp at h), (fun _ _ _ h => by cases h), (fun _ _ _ _ _ h => by cases h), (fun zs h => by cases h; exact ⟨_, Try.zeroValue157, rfl, by simp [Value.oneCell']⟩), (fun _ _ h => by cases h), (fun h => by cases h), (fun _ h => by cases h; exact Try.runUnderlying157), (fun h => by cases h), (fun h => by cases h), (fun h => by cases h)⟩
theorem tok158 : TOk Try.prog 158 ⟨false, 1, [], none, some [.int .u8 0], 0, some .u8⟩ := ⟨Try.sizeOf158, Try.isAgg158, (fun _ => rfl), (fun _ _ _ h => by simp at h), (fun _ _ _ h => by cases h), (fun _ _ _ _ _ h => by cases h), (fun zs h => by cases h; exact ⟨_, Try.zeroValue158, rfl, by simp [Value.oneCell']⟩), (fun _ _ h => by cases h), (fun h => by cases h), (fun _ h => by cases h; exact Try.runUnderlying158), (fun h => by cases h), (fun h => by cases h), (fun h => by cases h)⟩
theorem tok160 : TOk Try.prog 160 ⟨false, 1, [], none, some [.pointer none], 0, none⟩ := ⟨Try.sizeOf160, Try.isAgg160, (fun _ => rfl), (fun _ _ _ h => by simp at h), (fun _ _ _ h => by cases h), (fun _ _ _ _ _ h => by cases h), (fun zs h => by cases h; exact ⟨_, Try.zeroValue160, rfl, by simp [Value.oneCell']⟩), (fun _ _ h => by cases h), (fun h => by cases h), (fun _ h => by cases h), (fun h => by cases h), (fun h => by cases h), (fun h => by cases h)⟩
theorem tok161 : TOk Try.prog 161 ⟨false, 1, [], none, some [.int .i32 0], 0, some .i32⟩ := ⟨Try.sizeOf161, Try.isAgg161, (fun _ => rfl), (fun _ _ _ h => by simp at h), (fun _ _ _ h => by cases h), (fun _ _ _ _ _ h => by cases h), (fun zs h => by cases h; exact ⟨_, Try.zeroValue161, rfl, by simp [Value.oneCell']⟩), (fun _ _ h => by cases h), (fun h => by cases h), (fun _ h => by cases h; exact Try.runUnderlying161), (fun h => by cases h), (fun h => by cases h), (fun h => by cases h)⟩
theorem tok162 : TOk Try.prog 162 ⟨false, 1, [], none, some [.int .i32 0], 0, some .i32⟩ := ⟨Try.sizeOf162, Try.isAgg162, (fun _ => rfl), (fun _ _ _ h => by simp at h), (fun _ _ _ h => by cases h), (fun _ _ _ _ _ h => by cases h), (fun zs h => by cases h; exact ⟨_, Try.zeroValue162, rfl, by simp [Value.oneCell']⟩), (fun _ _ h => by cases h), (fun h => by cases h), (fun _ h => by cases h; exact Try.runUnderlying162), (fun h => by cases h), (fun h => by cases h), (fun h => by cases h)⟩
theorem tok163 : TOk Try.prog 163 ⟨true, 11, [(0, 1), (1, 1), (2, 1), (3, 1), (4, 1), (5, 1), (6, 1), (7, 1), (8, 1), (9, 1), (10, 1)], none, some [.int .u64 0, .int .u64 0, .int .u32 0, .int .u8 0, .int .u8 0, .int .u8 0, .int .u8 0, .nilFunc, .pointer none, .int .i32 0, .int .i32 0], 0, none⟩ := ⟨Try.sizeOf163, Try.isAgg163, (fun h => by cases h), (fun j off fs h => match j, h with | 0, h => by injection h with h; injection h with h1 h2; subst h1 h2; exact ⟨_, _, Try.runUnderlying163, rfl, rfl, Try.sizeOf12, by decide⟩ | 1, h => by injection h with h; injection h with h1 h2; subst h1 h2; exact ⟨_, _, Try.runUnderlying163, rfl, rfl, Try.sizeOf12, by decide⟩ | 2, h => by injection h with h; injection h with h1 h2; subst h1 h2; exact ⟨_, _, Try.runUnderlying163, rfl, rfl, Try.sizeOf116, by decide⟩ | 3, h => by injection h with h; injection h with h1 h2; subst h1 h2; exact ⟨_, _, Try.runUnderlying163, rfl, rfl, Try.sizeOf157, by decide⟩ | 4, h => by injection h with h; injection h with h1 h2; subst h1 h2; exact ⟨_, _, Try.runUnderlying163, rfl, rfl, Try.sizeOf5, by decide⟩ | 5, h => by injection h with h; injection h with h1 h2; subst h1 h2; exact ⟨_, _, Try.runUnderlying163, rfl, rfl, Try.sizeOf5, by decide⟩ | 6, h => by injection h with h; injection h with h1 h2; subst h1 h2; exact ⟨_, _, Try.runUnderlying163, rfl, rfl, Try.sizeOf158, by decide⟩ | 7, h => by injection h with h; injection h with h1 h2; subst h1 h2; exact ⟨_, _, Try.runUnderlying163, rfl, rfl, Try.sizeOf159, by decide⟩ | 8, h => by injection h with h; injection h with h1 h2; subst h1 h2; exact ⟨_, _, Try.runUnderlying163, rfl, rfl, Try.sizeOf160, by decide⟩ | 9, h => by injection h with h; injection h with h1 h2; subst h1 h2; exact ⟨_, _, Try.runUnderlying163, rfl, rfl, Try.sizeOf161, by decide⟩ | 10, h => by injection h with h; injection h with h1 h2; subst h1 h2; exact ⟨_, _, Try.runUnderlying163, rfl, rfl, Try.sizeOf162, by decide⟩ | _ + 11, h => by simp at h), (fun _ _ _ h => by cases h), (fun _ _ _ _ _ h => by cases h), (fun zs h => by cases h; exact ⟨_, Try.zeroValue163, rfl, by simp [Value.oneCell']⟩), (fun _ _ _ => ⟨_, Try.runUnderlying163, fun w => by simp [Try.sizeOf116, Try.sizeOf12, Try.sizeOf157, Try.sizeOf158, Try.sizeOf159, Try.sizeOf160, Try.sizeOf161, Try.sizeOf162, Try.sizeOf5]⟩), (fun h => by cases h), (fun _ h => by cases h), (fun h => by cases h), (fun h => by cases h), (fun h => by cases h)⟩
theorem tok164 : TOk Try.prog 164 ⟨true, 11, [(0, 1), (1, 1), (2, 1), (3, 1), (4, 1), (5, 1), (6, 1), (7, 1), (8, 1), (9, 1), (10, 1)], none, some [.int .u64 0, .int .u64 0, .int .u32 0, .int .u8 0, .int .u8 0, .int .u8 0, .int .u8 0, .nilFunc, .pointer none, .int .i32 0, .int .i32 0], 0, none⟩ := ⟨Try.sizeOf164, Try.isAgg164, (fun h => by cases h), (fun j off fs h => match j, h with | 0, h => by injection h with h; injection h with h1 h2; subst h1 h2; exact ⟨_, _, Try.runUnderlying164, rfl, rfl, Try.sizeOf12, by decide⟩ | 1, h => by injection h with h; injection h with h1 h2; subst h1 h2; exact ⟨_, _, Try.runUnderlying164, rfl, rfl, Try.sizeOf12, by decide⟩ | 2, h => by injection h with h; injection h with h1 h2; subst h1 h2; exact ⟨_, _, Try.runUnderlying164, rfl, rfl, Try.sizeOf116, by decide⟩ | 3, h => by injection h with h; injection h with h1 h2; subst h1 h2; exact ⟨_, _, Try.runUnderlying164, rfl, rfl, Try.sizeOf157, by decide⟩ | 4, h => by injection h with h; injection h with h1 h2; subst h1 h2; exact ⟨_, _, Try.runUnderlying164, rfl, rfl, Try.sizeOf5, by decide⟩ | 5, h => by injection h with h; injection h with h1 h2; subst h1 h2; exact ⟨_, _, Try.runUnderlying164, rfl, rfl, Try.sizeOf5, by decide⟩ | 6, h => by injection h with h; injection h with h1 h2; subst h1 h2; exact ⟨_, _, Try.runUnderlying164, rfl, rfl, Try.sizeOf158, by decide⟩ | 7, h => by injection h with h; injection h with h1 h2; subst h1 h2; exact ⟨_, _, Try.runUnderlying164, rfl, rfl, Try.sizeOf159, by decide⟩ | 8, h => by injection h with h; injection h with h1 h2; subst h1 h2; exact ⟨_, _, Try.runUnderlying164, rfl, rfl, Try.sizeOf160, by decide⟩ | 9, h => by injection h with h; injection h with h1 h2; subst h1 h2; exact ⟨_, _, Try.runUnderlying164, rfl, rfl, Try.sizeOf161, by decide⟩ | 10, h => by injection h with h; injection h with h1 h2; subst h1 h2; exact ⟨_, _, Try.runUnderlying164, rfl, rfl, Try.sizeOf162, by decide⟩ | _ + 11, h => by simp at h), (fun _ _ _ h => by cases h), (fun _ _ _ _ _ h => by cases h), (fun zs h => by cases h; exact ⟨_, Try.zeroValue164, rfl, by simp [Value.oneCell']⟩), (fun _ _ _ => ⟨_, Try.runUnderlying164, fun w => by simp [Try.sizeOf116, Try.sizeOf12, Try.sizeOf157, Try.sizeOf158, Try.sizeOf159, Try.sizeOf160, Try.sizeOf161, Try.sizeOf162, Try.sizeOf5]⟩), (fun h => by cases h), (fun _ h => by cases h), (fun h => by cases h), (fun h => by cases h), (fun h => by cases h)⟩
def tyl : List (Nat × TI) := [(2, ⟨false, 1, [], none, some [.int .i64 0], 0, some .i64⟩),
  (3, ⟨false, 1, [], none, some [.int .i64 0], 0, some .i64⟩),
  (4, ⟨false, 1, [], none, some [.bool false], 1, none⟩),
  (5, ⟨false, 1, [], none, some [.int .u8 0], 0, some .u8⟩),
  (9, ⟨false, 1, [], none, some [.string ⟨#[]⟩], 2, none⟩),
  (21, ⟨false, 1, [], none, some [.int .i32 0], 0, some .i32⟩),
  (22, ⟨false, 1, [], some (5, .u8, 1), some [.slice none 0 0], 0, none⟩),
  (23, ⟨false, 1, [], some (44, .lk, 24), some [.slice none 0 0], 0, none⟩),
  (24, ⟨true, 2, [(0, 1), (1, 1)], none, some [.int .i64 0, .slice none 0 0], 0, none⟩),
  (25, ⟨true, 2, [(0, 1), (1, 1)], none, some [.int .i64 0, .slice none 0 0], 0, none⟩),
  (27, ⟨false, 1, [], some (4, .bool, 1), some [.slice none 0 0], 0, none⟩),
  (28, ⟨false, 1, [], some (3, .int, 8), some [.slice none 0 0], 0, none⟩),
  (29, ⟨false, 1, [], some (56, .db, 24), some [.slice none 0 0], 0, none⟩),
  (30, ⟨false, 1, [], some (68, .pk, 48), some [.slice none 0 0], 0, none⟩),
  (31, ⟨true, 6, [(0, 2), (2, 1), (3, 1), (4, 1), (5, 1)], none, some [.int .i64 0, .slice none 0 0, .slice none 0 0, .slice none 0 0, .slice none 0 0, .slice none 0 0], 0, none⟩),
  (32, ⟨true, 6, [(0, 2), (2, 1), (3, 1), (4, 1), (5, 1)], none, some [.int .i64 0, .slice none 0 0, .slice none 0 0, .slice none 0 0, .slice none 0 0, .slice none 0 0], 0, none⟩),
  (43, ⟨true, 3, [(0, 1), (1, 1), (2, 1)], none, some [.int .i64 0, .int .i64 0, .int .i64 0], 0, none⟩),
  (44, ⟨true, 3, [(0, 1), (1, 1), (2, 1)], none, some [.int .i64 0, .int .i64 0, .int .i64 0], 3, none⟩),
  (50, ⟨false, 1, [], none, some [.pointer none], 0, none⟩),
  (56, ⟨false, 1, [], some (59, .ls, 40), some [.slice none 0 0], 0, none⟩),
  (57, ⟨false, 1, [], some (96, .en, 16), some [.slice none 0 0], 0, none⟩),
  (58, ⟨true, 3, [(0, 1), (1, 1), (2, 1)], none, some [.int .i64 0, .int .i64 0, .slice none 0 0], 0, none⟩),
  (59, ⟨true, 3, [(0, 1), (1, 1), (2, 1)], none, some [.int .i64 0, .int .i64 0, .slice none 0 0], 0, none⟩),
  (67, ⟨true, 4, [(0, 1), (1, 3)], none, some [.int .i64 0, .int .i64 0, .int .i64 0, .slice none 0 0], 0, none⟩),
  (68, ⟨true, 4, [(0, 1), (1, 3)], none, some [.int .i64 0, .int .i64 0, .int .i64 0, .slice none 0 0], 0, none⟩),
  (90, ⟨true, 2, [(0, 1), (1, 1)], none, some [.slice none 0 0, .int .i64 0], 0, none⟩),
  (91, ⟨true, 2, [(0, 1), (1, 1)], none, some [.slice none 0 0, .int .i64 0], 0, none⟩),
  (92, ⟨false, 1, [], none, some [.int .u64 0], 0, some .u64⟩),
  (95, ⟨true, 2, [(0, 1), (1, 1)], none, some [.int .i64 0, .int .i64 0], 0, none⟩),
  (96, ⟨true, 2, [(0, 1), (1, 1)], none, some [.int .i64 0, .int .i64 0], 3, none⟩),
  (108, ⟨true, 2, [(0, 1), (1, 1)], none, some [.int .i64 0, .int .i64 0], 0, none⟩),
  (109, ⟨true, 2, [(0, 1), (1, 1)], none, some [.int .i64 0, .int .i64 0], 3, none⟩),
  (116, ⟨false, 1, [], none, some [.int .u32 0], 0, some .u32⟩),
  (119, ⟨false, 1, [], none, some [.int .u64 0], 0, some .u64⟩),
  (131, ⟨false, 1, [], none, some [.int .i64 0], 0, some .i64⟩),
  (141, ⟨false, 1, [], none, some [.int .u64 0], 0, some .u64⟩),
  (145, ⟨false, 1, [], none, some [.pointer none], 0, none⟩),
  (147, ⟨false, 1, [], none, some [.pointer none], 0, none⟩),
  (151, ⟨true, 4, [(0, 1), (1, 1), (2, 1), (3, 1)], none, some [.pointer none, .pointer none, .pointer none, .string ⟨#[]⟩], 0, none⟩),
  (152, ⟨true, 4, [(0, 1), (1, 1), (2, 1), (3, 1)], none, some [.pointer none, .pointer none, .pointer none, .string ⟨#[]⟩], 0, none⟩),
  (157, ⟨false, 1, [], none, some [.int .u8 0], 0, some .u8⟩),
  (158, ⟨false, 1, [], none, some [.int .u8 0], 0, some .u8⟩),
  (160, ⟨false, 1, [], none, some [.pointer none], 0, none⟩),
  (161, ⟨false, 1, [], none, some [.int .i32 0], 0, some .i32⟩),
  (162, ⟨false, 1, [], none, some [.int .i32 0], 0, some .i32⟩),
  (163, ⟨true, 11, [(0, 1), (1, 1), (2, 1), (3, 1), (4, 1), (5, 1), (6, 1), (7, 1), (8, 1), (9, 1), (10, 1)], none, some [.int .u64 0, .int .u64 0, .int .u32 0, .int .u8 0, .int .u8 0, .int .u8 0, .int .u8 0, .nilFunc, .pointer none, .int .i32 0, .int .i32 0], 0, none⟩),
  (164, ⟨true, 11, [(0, 1), (1, 1), (2, 1), (3, 1), (4, 1), (5, 1), (6, 1), (7, 1), (8, 1), (9, 1), (10, 1)], none, some [.int .u64 0, .int .u64 0, .int .u32 0, .int .u8 0, .int .u8 0, .int .u8 0, .int .u8 0, .nilFunc, .pointer none, .int .i32 0, .int .i32 0], 0, none⟩)]
def tab : TypeId → Option TI := lookT tyl
theorem tabOk : TabOk Try.prog tab := tab_ok (l := tyl) ⟨tok2, ⟨tok3, ⟨tok4, ⟨tok5, ⟨tok9, ⟨tok21, ⟨tok22, ⟨tok23, ⟨tok24, ⟨tok25, ⟨tok27, ⟨tok28, ⟨tok29, ⟨tok30, ⟨tok31, ⟨tok32, ⟨tok43, ⟨tok44, ⟨tok50, ⟨tok56, ⟨tok57, ⟨tok58, ⟨tok59, ⟨tok67, ⟨tok68, ⟨tok90, ⟨tok91, ⟨tok92, ⟨tok95, ⟨tok96, ⟨tok108, ⟨tok109, ⟨tok116, ⟨tok119, ⟨tok131, ⟨tok141, ⟨tok145, ⟨tok147, ⟨tok151, ⟨tok152, ⟨tok157, ⟨tok158, ⟨tok160, ⟨tok161, ⟨tok162, ⟨tok163, ⟨tok164, trivial⟩⟩⟩⟩⟩⟩⟩⟩⟩⟩⟩⟩⟩⟩⟩⟩⟩⟩⟩⟩⟩⟩⟩⟩⟩⟩⟩⟩⟩⟩⟩⟩⟩⟩⟩⟩⟩⟩⟩⟩⟩⟩⟩⟩⟩⟩⟩
theorem mixed : Try.prog.follows .mixedOrders = true := by kernel_rfl
end Go.Proofs.Ytdfkphagjkpgdaa
end
section
namespace Go.Proofs.Ytdfkphagjkpgdaa
set_option maxRecDepth 100000
open Go.ChangeShapes Go.WideShapes Go.ChangeAt Go.RowKit Go.Deep Go.Joins

theorem row_own : ownKnob Try.prog.godebug = none := by kernel_rfl
theorem row_laid : laidOutB Try.prog = true := by kernel_rfl
def Holds (f : FuncId) (args : Array Value) (W : World) : Prop := Calls Try.prog f args W fun e W' => e = .returned (.bool true) ∧ Below W.heap.size W W'
def NoB : Nat → Prop := Liv [] []
theorem noB (b : Nat) : ¬ NoB b := fun ⟨k, o, c, h, _⟩ => by simp at h
def Opn (w : World) (v : Value) (d : PV) : Prop := Cv w NoB (fun _ => False) [] [] d v
theorem holds_gc {f : FuncId} {e : Entry} (hg : GC Try.prog f e) {s : HL e.ah} {r : HL e.rh} (hs : e.sh s = some r) {ds : List PV} (hf : e.AS.fill (up e.ah s) = some (ds, [])) (hr : e.RS.fill (up e.rh r) = some ([.im (.s (.bool true))], [])) {W : World} {args : List Value} (hx : F2 (fun d v => Opn W v d) ds args) : Holds f args.toArray W := by
  refine (hg s r hs ds [] hf _ _ hr W (fun _ => False) [] args (fun b h => h.elim) ⟨rfl, fun b hb => hb, fun b _ h => h, fun k o hk => by simp at hk, fun j k o o' b c c' hj => by simp at hj⟩ hx).mono ?_
  rintro e' w' ⟨u, β', rfl, st, _, hu⟩
  have : u = .bool true := im_s hu
  exact ⟨by rw [this], st.os, st.tape, st.output, st.size, fun b hb => st.block b hb (noB b)⟩
theorem addr_flat {w : World} {x : Addr} {v : Value} (h : w.cell? x = some v) : ∃ b o, x = ⟨b, o, none⟩ := by
  obtain ⟨b, o, s⟩ := x
  cases s with
  | none => exact ⟨b, o, rfl⟩
  | some t =>
    unfold World.cell? at h
    split at h <;> simp at h
theorem cell_lt' {w : World} {b o : Nat} {v : Value} (h : w.cell? ⟨b, o, none⟩ = some v) : b < w.heap.size := by
  unfold World.cell? at h
  rcases Nat.lt_or_ge b w.heap.size with hb | hb
  · exact hb
  · simp [Array.getElem?_eq_none hb] at h
theorem ri_flat {w : World} (g : Bool) {τ : Ty} {xs : List (El τ)} {A : Option Addr} {cap : Nat} {us : List Value} (hcap : xs.length ≤ cap ∧ cap ≤ maxLen) (hu : flt τ xs = us.map IV.s) (hA : 0 < xs.length → ∃ b o, A = some ⟨b, o, none⟩ ∧ ∀ (j : Nat) v, us[j]? = some v → w.cell? ⟨b, o + j, none⟩ = some v) : Ri w NoB (fun _ => False) (.sl g τ xs) (.slice A xs.length cap) := by
  have hl : us.length = xs.length * sz τ := by rw [← flt_len, hu, List.length_map]
  have hr : ∀ (j : Nat) x u, (flt τ xs)[j]? = some x → us[j]? = some u → Ri w NoB (fun _ => False) x u := fun j x u hx hj => by
    rw [hu, List.getElem?_map, hj] at hx
    injection hx with hx
    subst hx
    exact .s u
  rcases Nat.eq_zero_or_pos xs.length with h0 | h0
  · have hu0 : us = [] := List.length_eq_zero_iff.1 (by rw [hl, h0, Nat.zero_mul])
    subst hu0
    exact .sl g τ xs A cap 0 0 [] (fun h => by omega) hcap (by rw [hu]; rfl) (fun j u hj => by simp at hj) hr
  · obtain ⟨b, o, rfl, hc⟩ := hA h0
    have hp : 0 < us.length := by rw [hl]; exact Nat.mul_pos h0 (sz_pos τ)
    have hb : b < w.heap.size := cell_lt' (hc 0 us[0] (List.getElem?_eq_getElem hp))
    exact .sl g τ xs _ cap b o us (fun _ => ⟨rfl, hb, noB b, fun _ h => h⟩) hcap (by rw [hu, List.length_map]) hc hr
section
variable {H : Type} {enc : TypeId × Value → H} {P : Program} {w : World}
theorem open_zs {τ : Ty} {k : IntKind} (f : Int → El τ) (hf : ∀ z, cells τ (f z) = [.s (.int k z)]) {t e : TypeId} {fuel : Nat} {cs : List Value} {x : DataW H × List MemPlace} (ht : P.underlying t = some (.slice e)) (he : P.underlying e = some (.int k)) (hc : P.cellsOf e = 1)
    (h : DataW.trod enc P w 0 (fun _ => true) true fuel t cs = some x) : ∃ (A : Option Addr) (n cap : Nat) (zs : List Int), cs = [.slice A n cap] ∧ zs.length = n ∧ n ≤ maxLen ∧ (∀ z ∈ zs, (Lit.int k z).wf = true) ∧ ∀ g, Ri w NoB (fun _ => False) (.sl g τ (zs.map f)) (.slice A n cap) := by
  have flat : ∀ zs : List Int, flt τ (zs.map f) = (zs.map (Value.int k)).map IV.s := fun zs => by
    induction zs with
    | nil => rfl
    | cons z r ih => rw [List.map_cons, flt_cons, hf, ih]; rfl
  rcases open_ints ht he hc h with ⟨rfl, _⟩ | ⟨a, len, cap, zs, rfl, _, hl, hm, hz, _, hcell, hw⟩
  · exact ⟨none, 0, 0, [], rfl, rfl, Nat.zero_le _, fun z hz => by simp at hz, fun g => by
      have := ri_flat (w := w) g (τ := τ) (xs := []) (A := none) (cap := 0) (us := []) ⟨Nat.le_refl _, Nat.zero_le _⟩ rfl (fun h => by simp at h)
      exact this⟩
  · simp only [if_true] at hz
    refine ⟨some a, len, cap, zs.take len, rfl, by simp; omega, by omega, fun z hz => hw z (List.mem_of_mem_take hz), fun g => ?_⟩
    have e : ((zs.take len).map f).length = len := by simp; omega
    have := ri_flat (w := w) g (τ := τ) (xs := (zs.take len).map f) (A := some a) (cap := cap) (us := (zs.take len).map (Value.int k)) (by rw [e]; exact ⟨hl, hm⟩) (flat _) (fun h0 => by
      rw [e] at h0
      have h1 := hcell 0 (by omega)
      rw [Addr.add_zero'] at h1
      obtain ⟨b, o, rfl⟩ := addr_flat h1
      refine ⟨b, o, rfl, fun j u hu => ?_⟩
      have hj : j < len := by
        have := (List.getElem?_eq_some_iff.1 hu).1
        simp at this
        omega
      have h2 := hcell j (by omega)
      rw [Addr.add_lit] at h2
      rw [h2]
      simp only [List.getElem?_map, List.getElem?_take, hj, if_true] at hu
      obtain ⟨z, hz1, rfl⟩ := Option.map_eq_some_iff.1 hu
      simp [List.getD, hz1])
    rwa [e] at this
end
section
variable {H : Type} {enc : TypeId × Value → H} {W : World} {v : Value} {d : DataW H} {p : List MemPlace}
theorem opn_bytes {r : Reach} {b0 : Nat} (hv : Value.okWide Try.prog W r b0 22 v) (h : DataW.Trod enc Try.prog W 0 (fun _ => true) true 22 v d p) : ∃ zs : List Int, zs.length ≤ maxLen ∧ (∀ z ∈ zs, 0 ≤ z ∧ z < 256) ∧ ∀ g, Opn W v (.im (.sl g .u8 zs)) := by
  obtain ⟨a, len, cap, rfl⟩ := okWide_slice Try.underlying22 hv
  obtain ⟨fuel, hf⟩ := h
  obtain ⟨A, n, cap', zs, e, hl, hm, hw, hr⟩ := open_zs (τ := .u8) (fun z => z) (fun _ => rfl) Try.underlying22 Try.underlying5 (by kernel_rfl) hf
  simp [Value.cells] at e
  obtain ⟨rfl, rfl, rfl⟩ := e
  refine ⟨zs, by omega, fun z hz => ?_, fun g => (by have := hr g; rw [List.map_id'] at this; exact this)⟩
  have := hw z hz
  simp [Lit.wf, IntKind.min, IntKind.max, IntKind.signed, IntKind.bits] at this
  omega
end
end Go.Proofs.Ytdfkphagjkpgdaa
end
section
namespace Go.Proofs
open Go.Shelf
open Go.RowKit in
open Go.RowKit in
def Try.lays189_ren : Go.Shelf.Ren := ⟨fun | 189 => 88 | 125 => 98 | 257 => 97 | 128 => 112 | 129 => 113 | 294 => 103 | 295 => 104 | 296 => 105 | 297 => 106 | 298 => 107 | 299 => 108 | 216 => 109 | 300 => 110 | 301 => 111 | 328 => 115 | 329 => 116 | 330 => 117 | 331 => 118 | 332 => 119 | 215 => 92 | 343 => 121 | n => n, fun | 28 => 28 | 3 => 3 | 46 => 92 | 0 => 0 | 51 => 116 | 53 => 119 | 4 => 4 | 183 => 132 | 182 => 131 | 131 => 73 | 5 => 5 | 9 => 9 | 218 => 141 | 222 => 145 | 228 => 147 | 229 => 148 | n => n, fun | n => n⟩
theorem Try.lays189 : Go.Proofs.Lays.n189 Try.prog Try.lays189_ren := {
  mixed := by kernel_rfl
  f125 := Try.func98.trans (congrArg some (by kernel_rfl))
  f128 := Try.func112.trans (congrArg some (by kernel_rfl))
  f129 := Try.func113.trans (congrArg some (by kernel_rfl))
  f189 := Try.func88.trans (congrArg some (by kernel_rfl))
  f215 := Try.func92.trans (congrArg some (by kernel_rfl))
  f216 := Try.func109.trans (congrArg some (by kernel_rfl))
  f257 := Try.func97.trans (congrArg some (by kernel_rfl))
  f294 := Try.func103.trans (congrArg some (by kernel_rfl))
  f295 := Try.func104.trans (congrArg some (by kernel_rfl))
  f296 := Try.func105.trans (congrArg some (by kernel_rfl))
  f297 := Try.func106.trans (congrArg some (by kernel_rfl))
  f298 := Try.func107.trans (congrArg some (by kernel_rfl))
  f299 := Try.func108.trans (congrArg some (by kernel_rfl))
  f300 := Try.func110.trans (congrArg some (by kernel_rfl))
  f301 := Try.func111.trans (congrArg some (by kernel_rfl))
  f328 := Try.func115.trans (congrArg some (by kernel_rfl))
  f329 := Try.func116.trans (congrArg some (by kernel_rfl))
  f330 := Try.func117.trans (congrArg some (by kernel_rfl))
  f331 := Try.func118.trans (congrArg some (by kernel_rfl))
  f332 := Try.func119.trans (congrArg some (by kernel_rfl))
  f343 := Try.func121.trans (congrArg some (by kernel_rfl))
  t0 := Try.underlying0
  a0 := Try.isAgg0
  z0 := Try.sizeOf0
  v0 := Try.zeroValue0
  t3 := Try.underlying3
  a3 := Try.isAgg3
  z3 := Try.sizeOf3
  v3 := Try.zeroValue3
  t4 := Try.underlying4
  a4 := Try.isAgg4
  z4 := Try.sizeOf4
  v4 := Try.zeroValue4
  t5 := Try.underlying5
  a5 := Try.isAgg5
  z5 := Try.sizeOf5
  v5 := Try.zeroValue5
  t9 := Try.underlying9
  a9 := Try.isAgg9
  z9 := Try.sizeOf9
  v9 := Try.zeroValue9
  t28 := Try.underlying28
  a28 := Try.isAgg28
  z28 := Try.sizeOf28
  v28 := Try.zeroValue28
  t46 := Try.underlying92
  a46 := Try.isAgg92
  z46 := Try.sizeOf92
  v46 := Try.zeroValue92
  t51 := Try.underlying116
  a51 := Try.isAgg116
  z51 := Try.sizeOf116
  v51 := Try.zeroValue116
  t53 := Try.underlying119
  a53 := Try.isAgg119
  z53 := Try.sizeOf119
  v53 := Try.zeroValue119
  t131 := Try.underlying73
  a131 := Try.isAgg73
  z131 := Try.sizeOf73
  v131 := Try.zeroValue73
  t182 := Try.underlying131
  a182 := Try.isAgg131
  z182 := Try.sizeOf131
  v182 := Try.zeroValue131
  t183 := Try.underlying132
  a183 := Try.isAgg132
  z183 := Try.sizeOf132
  v183 := Try.zeroValue132
  t218 := Try.underlying141
  a218 := Try.isAgg141
  z218 := Try.sizeOf141
  v218 := Try.zeroValue141
  t222 := Try.underlying145
  a222 := Try.isAgg145
  z222 := Try.sizeOf145
  v222 := Try.zeroValue145
  t228 := Try.underlying147
  a228 := Try.isAgg147
  z228 := Try.sizeOf147
  v228 := Try.zeroValue147
  t229 := Try.underlying148
  a229 := Try.isAgg148
  z229 := Try.sizeOf148
  v229 := Try.zeroValue148 }
open Go.Sort Go.RowKit in
theorem Try.slices_Sort_int (blk off cap : Nat) (zs : List Int) (w : World) (hH : Holds (Value.int .i64) w blk off zs.toArray) (hblk : blk < w.heap.size) (hsz : zs.length < 4611686018427387904) :
    Calls Try.prog 88 #[.slice (some ⟨blk, off, none⟩) zs.length cap] w fun e w' =>
      e = .returned (.tuple #[]) ∧ ∃ n os, w' = grow (putRow (Value.int .i64) (Sort.ahead w n) blk off (zs.mergeSort fun x y => decide (x ≤ y)).toArray) os := Any.slices_Sort_int Try.lays189 blk off cap zs w hH hblk hsz
open Go.RowKit Go.Lib in
def Try.lays212_ren : Go.Shelf.Ren := ⟨fun | 212 => 64 | 263 => 89 | 264 => 90 | n => n, fun | 46 => 92 | 51 => 116 | 146 => 117 | 53 => 119 | 148 => 120 | n => n, fun | n => n⟩
theorem Try.lays212 : Go.Proofs.Lays.n212 Try.prog Try.lays212_ren := {
  mixed := by kernel_rfl
  f212 := Try.func64.trans (congrArg some (by kernel_rfl))
  f263 := Try.func89.trans (congrArg some (by kernel_rfl))
  f264 := Try.func90.trans (congrArg some (by kernel_rfl))
  t46 := Try.underlying92
  a46 := Try.isAgg92
  z46 := Try.sizeOf92
  v46 := Try.zeroValue92
  t51 := Try.underlying116
  a51 := Try.isAgg116
  z51 := Try.sizeOf116
  v51 := Try.zeroValue116
  t53 := Try.underlying119
  a53 := Try.isAgg119
  z53 := Try.sizeOf119
  v53 := Try.zeroValue119
  t146 := Try.underlying117
  a146 := Try.isAgg117
  z146 := Try.sizeOf117
  v146 := Try.zeroValue117
  t148 := Try.underlying120
  a148 := Try.isAgg120
  z148 := Try.sizeOf120
  v148 := Try.zeroValue120 }
open Go.RowKit Go.Lib in
theorem Try.bits_Mul (x y : Nat) (hx : x < 18446744073709551616) (hy : y < 18446744073709551616) (w : World) :
    Calls Try.prog 64 #[.int .u64 x, .int .u64 y] w fun e w' => e = .returned (.tuple #[.int .u64 ((x * y / 18446744073709551616 : Nat) : Int), .int .u64 ((x * y % 18446744073709551616 : Nat) : Int)]) ∧ w' = w := Any.bits_Mul Try.lays212 x y hx hy w
open Go.RowKit Go.Lib in
open Go.RowKit Go.Lib in
open Go.RowKit Go.Sort in
theorem Try.slices_Sort_int_none (p : Option Addr) (cap : Nat) (w : World) :
    Calls Try.prog 88 #[.slice p 0 cap] w fun e w' => e = .returned (.tuple #[]) ∧ w' = w := Any.slices_Sort_int_none Try.lays189 p cap w
end Go.Proofs
end
section
namespace Go.Proofs.Ytdfkphagjkpgdaa
open Go.RowKit

def sortI (zs : List Int) : List Int := zs.mergeSort fun x y => decide (x ≤ y)
theorem sortI_len (zs : List Int) : (sortI zs).length = zs.length := List.length_mergeSort zs
theorem flt_int (zs : List Int) : flt .int zs = zs.map iI := by
  induction zs with
  | nil => rfl
  | cons z r ih => rw [flt_cons, ih]; rfl
theorem flt_int_us {w : World} {E X : Nat → Prop} {zs : List Int} {us : List Value} (h : F2 (Ri w E X) (flt .int zs) us) : us = zs.map (Value.int .i64) := by
  rw [flt_int] at h
  refine List.ext_getElem? fun i => ?_
  have hlen := h.1
  simp only [List.length_map] at hlen
  rcases Nat.lt_or_ge i us.length with hi | hi
  · have hu : us[i]? = some us[i] := List.getElem?_eq_getElem hi
    have hz : zs[i]? = some zs[i] := List.getElem?_eq_getElem (by omega)
    have h1 : Ri w E X (iI zs[i]) us[i] := h.2 i (iI zs[i]) us[i] (by rw [List.getElem?_map, hz]; rfl) hu
    rw [hu]
    generalize us[i] = q at *
    cases h1
    simp [hz]
  · rw [List.getElem?_eq_none hi, List.getElem?_eq_none (by simp; omega)]
def sh_slices_Sort_int_int (s : List Int × Unit) : Option (List Int × Unit) := bif decide (s.1.length ≤ 16777216) then some (sortI s.1, ()) else none
def e_slices_Sort_int_int : Entry := ⟨⟨[.c (.one (.own 0))], [.row 3 .int]⟩, [.ls .int], ⟨[.tup []], [.row 3 .int]⟩, [.ls .int], sh_slices_Sort_int_int⟩
theorem p_slices_Sort_int_int : GC Try.prog 88 e_slices_Sort_int_int := by
  intro s r hs ds os hf d h' hr w X β args hX hH hargs
  obtain ⟨xs, _⟩ := s
  have hs : (bif decide (xs.length ≤ 16777216) then some (sortI xs, ()) else none) = some r := hs
  cases hd : decide (xs.length ≤ 16777216) with
  | false => rw [hd] at hs; cases hs
  | true =>
  rw [hd] at hs
  injection hs with hs
  subst hs
  have hn := of_decide_eq_true hd
  have hf : some ([PV.own 0], [AObj.row 3 .int xs]) = some (ds, os) := hf
  injection hf with hf
  injection hf with hf1 hf2
  subst hf1 hf2
  have hr : some ([PV.tup []], [AObj.row 3 .int (sortI xs)]) = some ([d], h') := hr
  injection hr with hr
  injection hr with hr1 hr2
  injection hr1 with hr1
  subst hr1 hr2
  obtain ⟨u, _, rfl, hu, hnil⟩ := hargs.cons_inv
  obtain rfl := hnil.nil_inv
  obtain ⟨h0, hv, ⟨_, _, _, rfl⟩, h2⟩ := hu
  obtain ⟨b, c, A, hb, hue, hA, hE⟩ := h2 3 .int xs rfl
  obtain ⟨b', c', hb', hc0, hcm, hrow⟩ := hH.ok 0 _ rfl
  rw [hb] at hb'
  injection hb' with hb'
  injection hb' with e1 e2
  subst e1 e2
  rw [hue]
  rcases Nat.eq_zero_or_pos c with hc | hc
  · obtain rfl : xs = [] := hc0 hc
    refine (Try.slices_Sort_int_none A c w).mono ?_
    rintro ex w' ⟨rfl, rfl⟩
    have e : sortI [] = [] := by simp [sortI]
    rw [e]
    exact ⟨_, β, rfl, Step.refl _ _ _, hH, [], rfl, F2.nil⟩
  · obtain ⟨us, junk, hblk, hF, hone, hlen⟩ := hrow hc
    have hus := flt_int_us hF
    subst hus
    have hA := hA hc
    subst hA
    have hbl : b < w.heap.size := (Array.getElem?_eq_some_iff.1 hblk).1
    have hlen' : xs.length + junk.length = c := by
      have : ((xs.map (Value.int .i64)) ++ junk).length = c * 1 := hlen
      simpa using this
    have hold : Go.Sort.Holds (Value.int .i64) w b 0 xs.toArray := holds_of_blockI (e := 3) hblk (by simp)
    refine (Try.slices_Sort_int b 0 c xs w hold hbl (by omega)).mono ?_
    rintro ex w' ⟨rfl, m, os, rfl⟩
    have how := ownsRow_sortedI (w := w) (base := 0) (g := b) (cap := c) (n := m) (os := os) (ss := xs) (ts := sortI xs) (e := 3) (sortI_len xs) (Nat.zero_le _) hblk (by omega) hcm (by simp; omega)
    have hgr := grownBy_sortedI (w := w) (g := b) (n := m) (os := os) (sortI xs).toArray
    obtain ⟨g2, c2, junk2, hv2, hh2, hl2, hm2, _⟩ := own_split how (by intro h; cases h)
    injection hv2 with q1 q2 q3
    injection q1 with q1
    injection q1 with q1
    subst q1 q3
    generalize hw' : Go.Sort.grow (Go.Sort.putRow (Value.int .i64) (Go.Sort.ahead w m) b 0 (xs.mergeSort fun x y => decide (x ≤ y)).toArray) os = w' at *
    rw [show (xs.mergeSort fun x y => decide (x ≤ y)) = sortI xs from rfl] at hw'
    rw [hw'] at hh2 hgr how
    have live1 : ∀ b', Liv [AObj.row 3 .int (sortI xs)] β b' → Liv [AObj.row 3 .int xs] β b' := fun b' ⟨k, o, c', h1, h2, h3⟩ => by
      match k, h1 with
      | 0, h1 =>
        simp at h1
        subst h1
        exact ⟨0, _, c', rfl, h2, h3⟩
      | k + 1, h1 => simp at h1
    have liveB : Liv [AObj.row 3 .int xs] β b := ⟨0, _, c, rfl, hc, hb⟩
    have onlyB : ∀ b', Liv [AObj.row 3 .int xs] β b' → b' = b := fun b' ⟨k, o, c', h1, h2, h3⟩ => by
      match k, h1 with
      | 0, h1 => rw [hb] at h3; injection h3 with h3; injection h3 with h3; exact h3.symm
      | k + 1, h1 => simp at h1
    refine ⟨_, β, rfl, ⟨hgr.os, hgr.tape, hgr.output, hgr.size, fun i hi hne => hgr.block i hi (fun e => hne (by injection e with e; subst e; exact liveB)), fun i _ h => live1 i h, fun _ _ h => h, ⟨Nat.le_refl _, fun k t τ ys hk e => ?_, fun k hk e => ?_⟩⟩, ⟨hH.len, fun i h => h, fun i h => hH.nx i (live1 i h), fun k o hk => ?_, fun j k o o' b1 c1 c2 hj hk _ _ _ _ => ?_⟩, [], rfl, F2.nil⟩
    · cases k with
      | zero =>
        simp at e
        obtain ⟨rfl, e⟩ := e
        obtain ⟨rfl, e⟩ := e
        obtain rfl := eq_of_heq e
        exact .inl ⟨xs, rfl, (sortI_len xs).symm⟩
      | succ k => simp at e
    · match k, e with
      | 0, e => simp [isV] at e
      | k + 1, e => simp at hk
    · match k, hk with
      | 0, hk =>
        simp at hk
        subst hk
        refine ⟨b, c, hb, fun h => by omega, hcm, fun _ => ⟨(sortI xs).map (Value.int .i64), junk2, hh2, ?_, fun u hu => ?_, by simpa [sz] using hl2⟩⟩
        · rw [flt_int]
          refine ⟨by simp, fun i x u hx hu => ?_⟩
          simp only [List.getElem?_map] at hx hu
          obtain ⟨z, hz, rfl⟩ := Option.map_eq_some_iff.1 hx
          rw [hz] at hu
          injection hu with hu
          subst hu
          exact Ri.s _
        · obtain ⟨z, _, rfl⟩ := List.mem_map.1 hu; rfl
      | k + 1, hk => simp at hk
    · match j, k, hj, hk with
      | 0, 0, _, _ => rfl
      | 0, k + 1, _, hk => simp at hk
      | j + 1, _, hj, _ => simp at hj
end Go.Proofs.Ytdfkphagjkpgdaa
end
section
namespace Go.Proofs.Ytdfkphagjkpgdaa
open Go.RowKit

theorem int_info : (Try.prog.info? 3).map (fun i => (i.zero, i.size, i.bytes)) = some (some (.int .i64 0), 1, 8) := by kernel_rfl

theorem l_mul1 (c : Nat) (hc : c ≤ 64) (w : World) : Calls Try.prog 64 #[.int .u64 1, .int .u64 (c : Int)] w fun e w' => e = .returned (.tuple #[.int .u64 0, .int .u64 (c : Int)]) ∧ w = w' := by
  refine (Try.bits_Mul 1 c (by decide) (by omega) w).mono ?_
  rintro e w' ⟨he, hw⟩
  refine ⟨?_, hw.symm⟩
  rw [he, Nat.one_mul, Nat.div_eq_of_lt (by omega), Nat.mod_eq_of_lt (by omega)]
  rfl

def filled (v z : Value) (n m : Nat) : List Value := List.replicate n v ++ List.replicate m z
theorem filled_len (v z : Value) (n m : Nat) : (filled v z n m).length = n + m := by simp [filled]
theorem filled_get (v z : Value) (n m j : Nat) (h : j < n) : (filled v z n m)[j]? = some v := by simp [filled, List.getElem?_append, h]
theorem filled_splice (v z : Value) (n m k : Nat) (hk : k ≤ m) : Go.splice (filled v z n m) n (List.replicate k v) = filled v z (n + k) (m - k) := by
  simp only [Go.splice, filled, List.length_replicate]
  rw [List.take_left' (by simp), List.drop_append, List.drop_of_length_le (by simp), List.nil_append, List.length_replicate, List.drop_replicate, ← List.append_assoc, List.replicate_append_replicate]
  congr 2
  omega

theorem made_filled (w : World) (v z : Value) (c : Nat) (t : TypeId) : (w.alloc (.cells (madeCells #[z] c) t)).heap[w.heap.size]? = some (.cells (filled v z 0 c).toArray t (0, 0)) := by
  have h := heap_alloc_new w (.cells (madeCells #[z] c) t)
  have e : madeCells #[z] c = (filled v z 0 c).toArray := by
    apply Array.toList_inj.1
    rw [toList_madeCells_one]
    simp [filled]
  rw [← e]
  exact h
theorem new_one (w : World) (O : Obj) {b o : Nat} {v : Value} (h : w.cell? ⟨b, o, none⟩ = some v) : ∀ j u, [v][j]? = some u → (w.alloc O).cell? ((⟨b, o, none⟩ : Addr).add j) = some u := by
  intro j u hu
  cases j with
  | zero =>
    simp at hu
    subst hu
    rw [Addr.add_lit, Nat.add_zero, World.cell?_alloc_lt w O _ (cell_lt h)]
    exact h
  | succ j => simp at hu

theorem filled_src {w : World} {g n m k : Nat} {v z : Value} {t : TypeId} (h : w.heap[g]? = some (.cells (filled v z n m).toArray t (0, 0))) (hk : k ≤ n) : ∀ j u, (List.replicate k v)[j]? = some u → w.cell? ((⟨g, 0, none⟩ : Addr).add j) = some u := by
  intro j u hu
  obtain ⟨hj, rfl⟩ := List.getElem?_eq_some_iff.1 hu
  simp only [List.length_replicate] at hj
  rw [Addr.add_lit, Nat.zero_add, cell_of_row w g j _ t (0, 0) h, List.getElem?_toArray, filled_get _ _ _ _ _ (by omega)]
  simp

set_option maxRecDepth 100000 in
set_option maxHeartbeats 1000000 in
theorem l_Repeat_int (v : Int) (b o cap c : Nat) (hc0 : 0 < c) (hc : c ≤ 64) (w : World) (hcell : w.cell? ⟨b, o, none⟩ = some (.int .i64 v)) :
    Calls Try.prog 28 #[.slice (some ⟨b, o, none⟩) 1 cap, .int .i64 (c : Int)] w fun e w' => ∃ g, e = .returned (.slice (some ⟨g, 0, none⟩) c c) ∧ w.heap.size ≤ g ∧ Blk w' g 3 (List.replicate c (.int .i64 v)).toArray ∧ Below w.heap.size w w' := by
  have hb := cell_lt hcell
  have hmk := run_make_row' (P := Try.prog) 28 3 (.int .i64 0) 8 Try.underlying28 int_info rfl .i64 .i64 c (by omega) (by omega)
  have e1 : ((0 : Int) < 0) = False := by simp
  go_enter Try.func28, Try.ntmps28
  go_wp2_with (first
    | (go_at_call 64; refine (l_mul1 c hc _).mono ?_; rintro e w' ⟨rfl, rfl⟩)
    | (with_reducible show wpList _ _ _ (⟨some 33, _, _, _, _, _⟩ :: _) _ _
       go_must (refine wpList_copy_splice (o := ⟨some 33, _, _, _, _, _⟩) rfl (.tmp 31) (.tmp 32) 28 28 rfl 3 Try.underlying28 (by kernel_rfl) (some ⟨w.heap.size, 0, none⟩) (some ⟨b, o, none⟩) c c 1 cap rfl rfl w.heap.size 0 (filled (.int .i64 v) (.int .i64 0) 0 c) 3 (made_filled _ _ _ _ _) [.int .i64 v] (Nat.min_eq_left hc0).symm (fun _ => ⟨rfl, _, rfl, new_one _ _ hcell⟩) (by simp [filled]; omega) (by simp [Value.oneCell']) w.heap.size w ((Below.refl _ _).alloc (Nat.le_refl _) _) (Nat.le_refl _) ?_)
       intro w1 hg1 hb1))
  rw [show Go.splice (filled (.int .i64 v) (.int .i64 0) 0 c) 0 [.int .i64 v] = filled (.int .i64 v) (.int .i64 0) 1 (c - 1) from by have := filled_splice (.int .i64 v) (.int .i64 0) 0 c 1 (by omega); simpa using this] at hg1
  go_loopw [8] (fun i wr => ∃ n : Nat, 0 < n ∧ n ≤ c ∧ i = .int .i64 n ∧ Below w.heap.size w wr ∧ Hid (wr.heap[w.heap.size]? = some (.cells (filled (.int .i64 v) (.int .i64 0) n (c - n)).toArray 3 (0, 0)))) (fun i _ => c - (intOf i).toNat)
  case atStart => exact ⟨1, by omega, by omega, rfl, hb1, hg1⟩
  case round =>
    clear hg1 hb1
    obtain ⟨n, hn0, hn, rfl, hb2, hg2⟩ := hrel
    have Hb := Lib.hid hb2; clear hb2
    by_cases hlt : n < c
    · have hne : ¬ c = n := by omega
      have hg4 : Hid (wr.drew.heap[w.heap.size]? = some (.cells (filled (.int .i64 v) (.int .i64 0) n (c - n)).toArray 3 (0, 0))) := hg2
      go_wp2_with fail
      obtain ⟨m, hme, hmn, hmp⟩ : ∃ m, Hid (m = Nat.min n (c - n)) ∧ m ≤ c - n ∧ 0 < m := ⟨_, rfl, Nat.min_le_right _ _, Nat.lt_min.2 ⟨hn0, by omega⟩⟩
      refine wp_plan_any 9 [(0, true), (1, true), (2, true), (3, true), (4, true), (5, true), (6, true), (7, true), (8, true)] (by kernel_rfl) (by kernel_rfl) ?_
      simp only [picked, List.filterMap_cons, List.filterMap_nil, List.getElem?_cons_zero, List.getElem?_cons_succ, Option.map_some, List.drop_succ_cons, List.drop_zero]
      repeat (first | refine wpPlan_skip rfl ?_ | (refine wpPlan_val rfl rfl (fun K hK => ?_); go_big_quiet_op; refine hK _ ?_; clear hK K))
      try refine wpPlan_nil ?_
      refine wpPlan_eff rfl rfl (fun K hK => ?_)
      refine wp_of_step rfl (step_copy_splice rfl (.tmp 41) (.tmp 44) 28 28 rfl 3 Try.underlying28 (by kernel_rfl) (some ⟨w.heap.size, n, none⟩) (some ⟨w.heap.size, 0, none⟩) (c - n) (c - n) n c rfl rfl w.heap.size n (filled (.int .i64 v) (.int .i64 0) n (c - n)) 3 hg2.out (List.replicate m (.int .i64 v)) (by rw [List.length_replicate]; exact hme.out) (fun _ => ⟨rfl, _, rfl, filled_src hg2.out (hme.out ▸ Nat.min_le_left _ _)⟩) (by rw [filled_len, List.length_replicate]; omega) (fun u hu => by rw [List.eq_of_mem_replicate hu]; rfl) w.heap.size w Hb.out.drew (Nat.le_refl _) ?_)
      intro w2 hg3 hb3
      rw [List.length_replicate]
      go_simp
      refine hK _ _ trivial ?_
      clear hK K
      repeat (first | refine wpPlan_skip rfl ?_ | (refine wpPlan_val rfl rfl (fun K hK => ?_); go_big_quiet_op; refine hK _ ?_; clear hK K))
      try refine wpPlan_nil ?_
      rw [filled_splice _ _ _ _ _ hmn] at hg3
      go_wp2_with fail
      go_roundw
      case rel =>
        refine ⟨n + m, by omega, by omega, by go_num, hb3, ?_⟩
        rw [show c - (n + m) = c - n - m by omega]
        exact hg3
      case measure => simp [intOf]; omega
    · obtain rfl : n = c := by omega
      go_wp2_with fail
      go_ret
      refine ⟨w.heap.size, rfl, Nat.le_refl _, ?_, Hb.out⟩
      have := hg2.out
      simpa [filled, Blk] using this
end Go.Proofs.Ytdfkphagjkpgdaa
end
section
namespace Go.Proofs.Ytdfkphagjkpgdaa
open Go.RowKit

def one! : List Int → Option Int
  | [v] => some v
  | _ => none
def sh_slices_Repeat_int_int (s : List Int × Int × Unit) : Option (List Int × Unit) := match one! s.1 with
  | some v => bif decide (0 < s.2.1 ∧ s.2.1 ≤ 64) then some (List.replicate s.2.1.toNat v, ()) else none
  | none => none
def e_slices_Repeat_int_int : Entry := ⟨⟨[.c (.one (.b (.sl false .int))), .c (.one (.b (.int .i64)))], []⟩, [.ls .int, .int], ⟨[.c (.one (.own 0))], [.row 3 .int]⟩, [.ls .int], sh_slices_Repeat_int_int⟩
theorem p_slices_Repeat_int_int : GC Try.prog 28 e_slices_Repeat_int_int := by
  intro s r hs ds os hf d h' hr w X β args hX hH hargs
  obtain ⟨xs, n, _⟩ := s
  change Int at n
  change List Int at xs
  have hs : (match one! xs with | some v => (bif decide (0 < n ∧ n ≤ 64) then some (List.replicate n.toNat v, ()) else none) | none => none) = some r := hs
  split at hs
  case h_2 => cases hs
  rename_i v hv
  obtain rfl : xs = [v] := by
    unfold one! at hv
    split at hv
    · injection hv with hv; subst hv; rfl
    · cases hv
  have hs : (bif decide (0 < n ∧ n ≤ 64) then some (List.replicate n.toNat v, ()) else none) = some r := hs
  cases hd : decide (0 < n ∧ n ≤ 64) with
  | false => rw [hd] at hs; cases hs
  | true =>
  rw [hd] at hs
  injection hs with hs
  subst hs
  have hn : 0 < n ∧ n ≤ 64 := of_decide_eq_true hd
  obtain ⟨c, rfl⟩ : ∃ c : Nat, n = (c : Int) := ⟨n.toNat, by omega⟩
  have hf : some ([PV.im (.sl false .int [v]), PV.im (iI (c : Int))], ([] : List AObj)) = some (ds, os) := hf
  injection hf with hf
  injection hf with hf1 hf2
  subst hf1 hf2
  have hr : some ([PV.own 0], [AObj.row 3 .int (List.replicate (c : Int).toNat v)]) = some ([d], h') := hr
  rw [Int.toNat_natCast] at hr
  injection hr with hr
  injection hr with hr1 hr2
  injection hr1 with hr1
  subst hr1 hr2
  obtain ⟨u, _, rfl, hu, hr⟩ := hargs.cons_inv
  obtain ⟨u2, _, rfl, hu2, hnil⟩ := hr.cons_inv
  obtain rfl := hnil.nil_inv
  obtain rfl : u2 = .int .i64 (c : Int) := im_s hu2
  have hu : Ri w (Liv [] β) X (.sl false .int [v]) u := hu
  cases hu with
  | sl g τ xs A cap b o us hA hcap hl hc hr =>
  have hus : us = [v].map (Value.int .i64) := flt_int_us ⟨hl, hr⟩
  subst hus
  obtain ⟨rfl, hb, _, _⟩ := hA (by simp)
  have hcell := hc 0 (.int .i64 v) rfl
  refine (l_Repeat_int v b o cap c (by omega) (by omega) w hcell).mono ?_
  rintro ex w' ⟨g, rfl, hg, hblk, hbl⟩
  have hgl : g < w'.heap.size := (Array.getElem?_eq_some_iff.1 hblk).1
  have hβ : β = [] := List.length_eq_zero_iff.1 hH.len
  subst hβ
  have hcm : c ≤ maxLen := by unfold maxLen; omega
  have liv : ∀ b', Liv [AObj.row 3 .int (List.replicate c v)] [(g, c)] b' → b' = g := fun b' ⟨k, o, c', h1, h2, h3⟩ => by
    cases k with
    | zero => simp at h3; exact h3.1.symm
    | succ k => simp at h3
  refine ⟨_, [(g, c)], rfl, ⟨hbl.os, hbl.tape, hbl.output, hbl.size, fun i hi _ => hbl.block i hi, fun i hi h => ?_, fun k p h => by simp at h, ⟨Nat.zero_le _, fun k t τ ys hk e => by simp at hk, fun k hk e => by simp at hk⟩⟩, ⟨rfl, fun i h => h, fun i h hx => ?_, fun k o hk => ?_, fun j k o o' b1 c1 c2 hj hk _ _ _ _ => ?_⟩, ?_⟩
  · rw [liv i h] at hi; omega
  · rw [liv i h] at hx; have := hX g hx; omega
  · cases k with
    | succ k => simp at hk
    | zero =>
      simp at hk
      subst hk
      refine ⟨g, c, rfl, fun h => by omega, hcm, fun _ => ⟨(List.replicate c v).map (Value.int .i64), [], by rw [List.append_nil, List.map_replicate]; exact hblk, ?_, fun u hu => ?_, by simp [sz]⟩⟩
      · rw [flt_int]
        refine ⟨by simp, fun i x u hx hu => ?_⟩
        simp only [List.getElem?_map] at hx hu
        obtain ⟨z, hz, rfl⟩ := Option.map_eq_some_iff.1 hx
        rw [hz] at hu
        injection hu with hu
        subst hu
        exact Ri.s _
      · obtain ⟨z, _, rfl⟩ := List.mem_map.1 hu; rfl
  · cases j with
    | succ j => simp at hj
    | zero => cases k with
      | zero => rfl
      | succ k => simp at hk
  · refine ⟨by simp, rfl, ⟨_, _, _, rfl⟩, fun t τ ys e => ?_⟩
    simp at e
    obtain ⟨rfl, e⟩ := e
    obtain ⟨rfl, e⟩ := e
    obtain rfl := eq_of_heq e
    exact ⟨g, c, some ⟨g, 0, none⟩, rfl, by rw [List.length_replicate], fun _ => rfl, fun h => by omega⟩
end Go.Proofs.Ytdfkphagjkpgdaa
end
section
namespace Go.Proofs.Ytdfkphagjkpgdaa
open Go.RowKit

theorem end_row {h : List AObj} {β : List (Nat × Nat)} {w w' : World} {X : Nat → Prop} {τ : Ty} {e : TypeId} {ys : List (El τ)} {g c : Nat} {A : Option Addr} (hH : HeapOk w (Liv h β) X h β) (hX : ∀ b, X b → b < w.heap.size) (hos : w'.os = w.os) (hta : w'.tape = w.tape) (hou : w'.output = w.output) (hsz : w.heap.size ≤ w'.heap.size)
    (hblk : ∀ b, b < w.heap.size → ¬ Liv h β b → w'.heap[b]? = w.heap[b]?) (hg : Liv h β g ∨ w.heap.size ≤ g) (hc : c = 0 → ys = []) (hcm : c ≤ maxLen)
    (hrow : 0 < c → ∃ us junk, w'.heap[g]? = some (.cells (us ++ junk).toArray e (0, 0)) ∧ F2 (Ri w (Liv h β) X) (flt τ ys) us ∧ (us ++ junk).length = c * sz τ) (hA : 0 < c → A = some ⟨g, 0, none⟩) :
    Step w h β w' (h.map (fun _ => AObj.dead) ++ [.row e τ ys]) (β ++ [(g, c)]) ∧ HeapOk w' (Liv (h.map (fun _ => AObj.dead) ++ [.row e τ ys]) (β ++ [(g, c)])) X (h.map (fun _ => AObj.dead) ++ [.row e τ ys]) (β ++ [(g, c)]) ∧ Cv w' (Liv (h.map (fun _ => AObj.dead) ++ [.row e τ ys]) (β ++ [(g, c)])) X (h.map (fun _ => AObj.dead) ++ [.row e τ ys]) (β ++ [(g, c)]) (.own h.length) (.slice A ys.length c) := by
  have hlen := hH.len
  have hat : ∀ k, k < h.length → (h.map (fun _ => AObj.dead) ++ [AObj.row e τ ys])[k]? = some .dead := fun k hk => by
    rw [List.getElem?_append_left (by simpa using hk), List.getElem?_map, List.getElem?_eq_getElem hk]; rfl
  have hlast : (h.map (fun _ => AObj.dead) ++ [AObj.row e τ ys])[h.length]? = some (.row e τ ys) := by
    rw [List.getElem?_append_right (by simp)]; simp
  have hβl : (β ++ [(g, c)])[h.length]? = some (g, c) := by
    rw [List.getElem?_append_right (by omega), hlen, Nat.sub_self]; rfl
  have hbe : ∀ k, h.length < k → (h.map (fun _ => AObj.dead) ++ [AObj.row e τ ys])[k]? = none := fun k hk => by
    rw [List.getElem?_eq_none]; simp; omega
  have only : ∀ k o, (h.map (fun _ => AObj.dead) ++ [AObj.row e τ ys])[k]? = some o → (k < h.length ∧ o = .dead) ∨ (k = h.length ∧ o = .row e τ ys) := fun k o hk => by
    rcases Nat.lt_trichotomy k h.length with h1 | h1 | h1
    · rw [hat k h1] at hk; injection hk with hk; exact .inl ⟨h1, hk.symm⟩
    · subst h1; rw [hlast] at hk; injection hk with hk; exact .inr ⟨rfl, hk.symm⟩
    · rw [hbe k h1] at hk; cases hk
  have liv : ∀ b, Liv (h.map (fun _ => AObj.dead) ++ [AObj.row e τ ys]) (β ++ [(g, c)]) b → b = g := fun b ⟨k, o, c', h1, h2, h3⟩ => by
    rcases only k o h1 with ⟨_, rfl⟩ | ⟨rfl, rfl⟩
    · exact h2.elim
    · rw [hβl] at h3; injection h3 with h3; injection h3 with h3; exact h3.symm
  have keepβ : ∀ (k : Nat) p, β[k]? = some p → (β ++ [(g, c)])[k]? = some p := fun k p hk => by
    rw [List.getElem?_append_left (List.getElem?_eq_some_iff.1 hk).1]; exact hk
  have new : ∀ b, b < w.heap.size → Liv (h.map (fun _ => AObj.dead) ++ [AObj.row e τ ys]) (β ++ [(g, c)]) b → Liv h β b := fun b hb hl => by
    have := liv b hl
    subst this
    exact hg.resolve_right (by omega)
  refine ⟨⟨hos, hta, hou, hsz, hblk, new, keepβ, ⟨by simp, fun k t τ' xs' hk e' => ?_, fun k hk e' => ?_⟩⟩, ⟨by simp [hlen], fun b hb => hb, fun b hl hx => ?_, fun k o hk => ?_, fun j k o o' b c1 c2 hj hk l1 l2 b1 b2 => ?_⟩, ⟨by simp, ?_, ⟨_, _, _, rfl⟩, fun t τ' xs' e' => ?_⟩⟩
  · rw [hat k hk] at e'; cases e'
  · simp [isV, hat k hk] at e'
  · have := liv b hl
    subst this
    rcases hg with hg | hg
    · exact hH.nx _ hg hx
    · have := hX _ hx; omega
  · rcases only k o hk with ⟨_, rfl⟩ | ⟨rfl, rfl⟩
    · trivial
    · refine ⟨g, c, hβl, hc, hcm, fun h0 => ?_⟩
      obtain ⟨us, junk, q1, q2, q3⟩ := hrow h0
      exact ⟨us, junk, q1, q2.mono fun x u hx => hx.keep hblk hsz (fun b hb hn hl => hn (new b hb hl)) (fun _ _ _ hx => hx), flt_one q2, q3⟩
  · rcases only j o hj with ⟨_, rfl⟩ | ⟨rfl, rfl⟩
    · exact l1.elim
    · rcases only k o' hk with ⟨_, rfl⟩ | ⟨rfl, rfl⟩
      · exact l2.elim
      · rfl
  · simp [isV, hlast]
  · rw [hlast] at e'
    injection e' with e'
    cases e'
    exact ⟨g, c, A, hβl, rfl, hA, fun _ => trivial⟩
end Go.Proofs.Ytdfkphagjkpgdaa
end
section
namespace Go.Proofs.Ytdfkphagjkpgdaa
open Go.RowKit

theorem bool_info : (Try.prog.info? 4).map (fun i => (i.zero, i.size, i.bytes)) = some (some (.bool false), 1, 1) := by kernel_rfl
set_option maxRecDepth 100000 in
set_option maxHeartbeats 1000000 in
theorem l_Repeat_bool (v : Bool) (b o cap c : Nat) (hc0 : 0 < c) (hc : c ≤ 64) (w : World) (hcell : w.cell? ⟨b, o, none⟩ = some (.bool v)) :
    Calls Try.prog 27 #[.slice (some ⟨b, o, none⟩) 1 cap, .int .i64 (c : Int)] w fun e w' => ∃ g, e = .returned (.slice (some ⟨g, 0, none⟩) c c) ∧ w.heap.size ≤ g ∧ Blk w' g 4 (List.replicate c (.bool v)).toArray ∧ Below w.heap.size w w' := by
  have hb := cell_lt hcell
  have hmk := run_make_row' (P := Try.prog) 27 4 (.bool false) 1 Try.underlying27 bool_info rfl .i64 .i64 c (by omega) (by omega)
  have e1 : ((0 : Int) < 0) = False := by simp
  go_enter Try.func27, Try.ntmps27
  go_wp2_with (first
    | (go_at_call 64; refine (l_mul1 c hc _).mono ?_; rintro e w' ⟨rfl, rfl⟩)
    | (with_reducible show wpList _ _ _ (⟨some 33, _, _, _, _, _⟩ :: _) _ _
       go_must (refine wpList_copy_splice (o := ⟨some 33, _, _, _, _, _⟩) rfl (.tmp 31) (.tmp 32) 27 27 rfl 4 Try.underlying27 (by kernel_rfl) (some ⟨w.heap.size, 0, none⟩) (some ⟨b, o, none⟩) c c 1 cap rfl rfl w.heap.size 0 (filled (.bool v) (.bool false) 0 c) 4 (made_filled _ _ _ _ _) [.bool v] (Nat.min_eq_left hc0).symm (fun _ => ⟨rfl, _, rfl, new_one _ _ hcell⟩) (by simp [filled]; omega) (by simp [Value.oneCell']) w.heap.size w ((Below.refl _ _).alloc (Nat.le_refl _) _) (Nat.le_refl _) ?_)
       intro w1 hg1 hb1))
  rw [show Go.splice (filled (.bool v) (.bool false) 0 c) 0 [.bool v] = filled (.bool v) (.bool false) 1 (c - 1) from by have := filled_splice (.bool v) (.bool false) 0 c 1 (by omega); simpa using this] at hg1
  go_loopw [8] (fun i wr => ∃ n : Nat, 0 < n ∧ n ≤ c ∧ i = .int .i64 n ∧ Below w.heap.size w wr ∧ Hid (wr.heap[w.heap.size]? = some (.cells (filled (.bool v) (.bool false) n (c - n)).toArray 4 (0, 0)))) (fun i _ => c - (intOf i).toNat)
  case atStart => exact ⟨1, by omega, by omega, rfl, hb1, hg1⟩
  case round =>
    clear hg1 hb1
    obtain ⟨n, hn0, hn, rfl, hb2, hg2⟩ := hrel
    have Hb := Lib.hid hb2; clear hb2
    by_cases hlt : n < c
    · have hne : ¬ c = n := by omega
      have hg4 : Hid (wr.drew.heap[w.heap.size]? = some (.cells (filled (.bool v) (.bool false) n (c - n)).toArray 4 (0, 0))) := hg2
      go_wp2_with fail
      obtain ⟨m, hme, hmn, hmp⟩ : ∃ m, Hid (m = Nat.min n (c - n)) ∧ m ≤ c - n ∧ 0 < m := ⟨_, rfl, Nat.min_le_right _ _, Nat.lt_min.2 ⟨hn0, by omega⟩⟩
      refine wp_plan_any 9 [(0, true), (1, true), (2, true), (3, true), (4, true), (5, true), (6, true), (7, true), (8, true)] (by kernel_rfl) (by kernel_rfl) ?_
      simp only [picked, List.filterMap_cons, List.filterMap_nil, List.getElem?_cons_zero, List.getElem?_cons_succ, Option.map_some, List.drop_succ_cons, List.drop_zero]
      repeat (first | refine wpPlan_skip rfl ?_ | (refine wpPlan_val rfl rfl (fun K hK => ?_); go_big_quiet_op; refine hK _ ?_; clear hK K))
      try refine wpPlan_nil ?_
      refine wpPlan_eff rfl rfl (fun K hK => ?_)
      refine wp_of_step rfl (step_copy_splice rfl (.tmp 41) (.tmp 44) 27 27 rfl 4 Try.underlying27 (by kernel_rfl) (some ⟨w.heap.size, n, none⟩) (some ⟨w.heap.size, 0, none⟩) (c - n) (c - n) n c rfl rfl w.heap.size n (filled (.bool v) (.bool false) n (c - n)) 4 hg2.out (List.replicate m (.bool v)) (by rw [List.length_replicate]; exact hme.out) (fun _ => ⟨rfl, _, rfl, filled_src hg2.out (hme.out ▸ Nat.min_le_left _ _)⟩) (by rw [filled_len, List.length_replicate]; omega) (fun u hu => by rw [List.eq_of_mem_replicate hu]; rfl) w.heap.size w Hb.out.drew (Nat.le_refl _) ?_)
      intro w2 hg3 hb3
      rw [List.length_replicate]
      go_simp
      refine hK _ _ trivial ?_
      clear hK K
      repeat (first | refine wpPlan_skip rfl ?_ | (refine wpPlan_val rfl rfl (fun K hK => ?_); go_big_quiet_op; refine hK _ ?_; clear hK K))
      try refine wpPlan_nil ?_
      rw [filled_splice _ _ _ _ _ hmn] at hg3
      go_wp2_with fail
      go_roundw
      case rel =>
        refine ⟨n + m, by omega, by omega, by go_num, hb3, ?_⟩
        rw [show c - (n + m) = c - n - m by omega]
        exact hg3
      case measure => simp [intOf]; omega
    · obtain rfl : n = c := by omega
      go_wp2_with fail
      go_ret
      refine ⟨w.heap.size, rfl, Nat.le_refl _, ?_, Hb.out⟩
      have := hg2.out
      simpa [filled, Blk] using this
set_option maxRecDepth 100000 in
set_option maxHeartbeats 1000000 in
theorem l_Repeat_bool0 (v : Bool) (b o cap : Nat) (w : World) : Calls Try.prog 27 #[.slice (some ⟨b, o, none⟩) 1 cap, .int .i64 0] w fun e w' => e = .returned (.slice (some ⟨w.heap.size, 0, none⟩) 0 0) ∧ Below w.heap.size w w' := by
  have hmk := run_make_row' (P := Try.prog) 27 4 (.bool false) 1 Try.underlying27 bool_info rfl .i64 .i64 0 (by omega) (by omega)
  have hmk0 : ∀ w, Sem.run Try.prog (Instr.makeSlice 27 (.int .i64 0) (.int .i64 0)) w = Result.ok (.slice (some ⟨w.heap.size, 0, none⟩) 0 0) (w.alloc (.cells (madeCells #[Value.bool false] 0) 4)) := hmk
  clear hmk
  have hmul := l_mul1 0 (by omega)
  go_enter Try.func27, Try.ntmps27
  go_wp2_with (first
    | (go_at_call 64; refine (hmul _).mono ?_; rintro e w' ⟨rfl, rfl⟩)
    | (with_reducible show wpList _ _ _ (⟨some 33, _, _, _, _, _⟩ :: _) _ _
       go_must (refine wpList_copy_splice (o := ⟨some 33, _, _, _, _, _⟩) rfl (.tmp 31) (.tmp 32) 27 27 rfl 4 Try.underlying27 (by kernel_rfl) (some ⟨w.heap.size, 0, none⟩) (some ⟨b, o, none⟩) 0 0 1 cap rfl rfl w.heap.size 0 (filled (.bool v) (.bool false) 0 0) 4 (made_filled _ _ _ _ _) [] rfl (fun h => by simp at h) (by simp [filled]) (by simp) w.heap.size w ((Below.refl _ _).alloc (Nat.le_refl _) _) (Nat.le_refl _) ?_)
       intro w1 hg1 hb1))
  go_loopw [8] (fun i wr => i = .int .i64 0 ∧ Below w.heap.size w wr) (fun i _ => 0)
  case atStart => exact ⟨rfl, hb1⟩
  case round =>
    clear hg1 hb1
    obtain ⟨rfl, hb2⟩ := hrel
    go_wp2_with fail
    go_ret
    exact ⟨rfl, hb2⟩
end Go.Proofs.Ytdfkphagjkpgdaa
end
section
namespace Go.Proofs.Ytdfkphagjkpgdaa
open Go.RowKit

def oneB : List Bool → Option Bool
  | [v] => some v
  | _ => none
def sh_slices_Repeat_bool_bool (s : List Bool × Int × Unit) : Option (List Bool × Unit) := match oneB s.1 with
  | some v => bif decide (0 ≤ s.2.1 ∧ s.2.1 ≤ 64) then some (List.replicate s.2.1.toNat v, ()) else none
  | none => none
def e_slices_Repeat_bool_bool : Entry := ⟨⟨[.c (.one (.b (.sl false .bool))), .c (.one (.b (.int .i64)))], []⟩, [.ls .bool, .int], ⟨[.c (.one (.own 0))], [.row 4 .bool]⟩, [.ls .bool], sh_slices_Repeat_bool_bool⟩
theorem flt_bool (zs : List Bool) : flt .bool zs = zs.map fun b => IV.s (.bool b) := by
  induction zs with
  | nil => rfl
  | cons z r ih => rw [flt_cons, ih]; rfl
theorem bools_ok {w : World} {E X : Nat → Prop} (zs : List Bool) : F2 (Ri w E X) (flt .bool zs) (zs.map Value.bool) := by
  rw [flt_bool]
  refine ⟨by simp, fun i x u hx hu => ?_⟩
  simp only [List.getElem?_map] at hx hu
  obtain ⟨z, hz, rfl⟩ := Option.map_eq_some_iff.1 hx
  rw [hz] at hu
  injection hu with hu
  subst hu
  exact Ri.s _
theorem p_slices_Repeat_bool_bool : GC Try.prog 27 e_slices_Repeat_bool_bool := by
  intro s r hs ds os hf d h' hr w X β args hX hH hargs
  obtain ⟨xs, n, _⟩ := s
  change Int at n
  change List Bool at xs
  have hs : (match oneB xs with | some v => (bif decide (0 ≤ n ∧ n ≤ 64) then some (List.replicate n.toNat v, ()) else none) | none => none) = some r := hs
  split at hs
  case h_2 => cases hs
  rename_i v hv
  obtain rfl : xs = [v] := by
    unfold oneB at hv
    split at hv
    · injection hv with hv; subst hv; rfl
    · cases hv
  have hs : (bif decide (0 ≤ n ∧ n ≤ 64) then some (List.replicate n.toNat v, ()) else none) = some r := hs
  cases hd : decide (0 ≤ n ∧ n ≤ 64) with
  | false => rw [hd] at hs; cases hs
  | true =>
  rw [hd] at hs
  injection hs with hs
  subst hs
  have hn : 0 ≤ n ∧ n ≤ 64 := of_decide_eq_true hd
  obtain ⟨c, rfl⟩ : ∃ c : Nat, n = (c : Int) := ⟨n.toNat, by omega⟩
  have hf : some ([PV.im (.sl false .bool [v]), PV.im (iI (c : Int))], ([] : List AObj)) = some (ds, os) := hf
  injection hf with hf
  injection hf with hf1 hf2
  subst hf1 hf2
  have hr : some ([PV.own 0], [AObj.row 4 .bool (List.replicate (c : Int).toNat v)]) = some ([d], h') := hr
  rw [Int.toNat_natCast] at hr
  injection hr with hr
  injection hr with hr1 hr2
  injection hr1 with hr1
  subst hr1 hr2
  obtain ⟨u, _, rfl, hu, hr⟩ := hargs.cons_inv
  obtain ⟨u2, _, rfl, hu2, hnil⟩ := hr.cons_inv
  obtain rfl := hnil.nil_inv
  obtain rfl : u2 = .int .i64 (c : Int) := im_s hu2
  have hu : Ri w (Liv [] β) X (.sl false .bool [v]) u := hu
  have hlen : (List.replicate c v).length = c := List.length_replicate
  cases hu with
  | sl g τ xs A cap b o us hA hcap hl hc hr =>
  have hF : F2 (Ri w (Liv [] β) X) [IV.s (.bool v)] us := ⟨hl, hr⟩
  obtain ⟨u0, us0, rfl, hu0, hF0⟩ := hF.cons_inv
  obtain rfl := hF0.nil_inv
  obtain rfl : u0 = .bool v := by cases hu0; rfl
  obtain ⟨rfl, hb, _, _⟩ := hA (by simp)
  have hcell := hc 0 (.bool v) rfl
  rcases Nat.eq_zero_or_pos c with h0 | h0
  · subst h0
    refine (l_Repeat_bool0 v b o cap w).mono ?_
    rintro ex w' ⟨rfl, hbl⟩
    obtain ⟨q1, q2, q3⟩ := end_row (h := []) (e := 4) (τ := .bool) (ys := []) (g := w.heap.size) (c := 0) (A := some ⟨w.heap.size, 0, none⟩) hH hX hbl.os hbl.tape hbl.output hbl.size (fun i hi _ => hbl.block i hi) (.inr (Nat.le_refl _)) (fun _ => rfl) (Nat.zero_le _) (fun h => by omega) (fun h => by omega)
    exact ⟨_, _, rfl, q1, q2, q3⟩
  · refine (l_Repeat_bool v b o cap c h0 (by omega) w hcell).mono ?_
    rintro ex w' ⟨g, rfl, hg, hblk, hbl⟩
    obtain ⟨q1, q2, q3⟩ := end_row (h := []) (e := 4) (τ := .bool) (ys := List.replicate c v) (g := g) (c := c) (A := some ⟨g, 0, none⟩) hH hX hbl.os hbl.tape hbl.output hbl.size (fun i hi _ => hbl.block i hi) (.inr hg) (fun h => by omega) (by unfold maxLen; omega) (fun _ => ⟨(List.replicate c v).map Value.bool, [], by rw [List.append_nil, List.map_replicate]; exact hblk, bools_ok _, by simp [sz]⟩) (fun _ => rfl)
    rw [hlen] at q3
    exact ⟨_, _, rfl, q1, q2, q3⟩
end Go.Proofs.Ytdfkphagjkpgdaa
end
section
namespace Go.Proofs.Ytdfkphagjkpgdaa
open Go.RowKit
set_option maxRecDepth 100000
def sh_impl_within (s : (Int × Int × Int × Unit)) : Option (Bool × Unit) := (bif decide ((s.2.1 ≤ s.1)) then some ((decide ((s.1 ≤ s.2.2.1)), ())) else some ((false, ())))
def sh_spec_l6In (s : (Int × Int × Int × Unit)) : Option (Bool × Unit) := (bif decide ((s.2.1 ≤ s.1)) then some ((decide ((s.1 ≤ s.2.2.1)), ())) else some ((false, ())))
def bo_laws_sameGraph_4 (s : (Int × Int × List Lk × Int × List Lk × Unit)) : Option ((Int × Int × List Lk × Int × List Lk × Unit) ⊕ ((Unit) ⊕ (Bool × Unit))) := (bif decide ((s.1 < nI (List.length s.2.2.1))) then (bif inR s.1 (List.length s.2.2.1) then (bif inR s.1 (List.length s.2.2.2.2.1) then (bif (!(eqInts ([(at! .lk s.2.2.1 (Int.toNat s.1)).a, (at! .lk s.2.2.1 (Int.toNat s.1)).b, (at! .lk s.2.2.1 (Int.toNat s.1)).c]) ([(at! .lk s.2.2.2.2.1 (Int.toNat s.1)).a, (at! .lk s.2.2.2.2.1 (Int.toNat s.1)).b, (at! .lk s.2.2.2.2.1 (Int.toNat s.1)).c]))) then some (Sum.inr (Sum.inr ((false, ())))) else some (Sum.inl ((wrap64 ((s.1 + (1 : Int))), s.2.1, s.2.2.1, s.2.2.2.1, s.2.2.2.2.1, ())))) else none) else none) else some (Sum.inr (Sum.inl (()))))
def sh_laws_sameGraph (s : (Int × List Lk × Int × List Lk × Unit)) : Option (Bool × Unit) := (bif (!(decide ((s.1 = s.2.2.1)))) then some ((false, ())) else (bif (!(decide ((nI (List.length s.2.1) = nI (List.length s.2.2.2.1))))) then some ((false, ())) else (lp bo_laws_sameGraph_4 fuel (((0 : Int), (s.1, (s.2.1, (s.2.2.1, (s.2.2.2.1, ()))))))).bind fun r0 => (match r0 with | .inl _ => some ((true, ())) | .inr y1 => some ((y1.1, ())))))
def bo_laws_sameInts_4 (s : (List Int × List Int × Int × Unit)) : Option ((List Int × List Int × Int × Unit) ⊕ ((Unit) ⊕ (Bool × Unit))) := (bif decide ((s.2.2.1 < nI (List.length s.1))) then (bif inR s.2.2.1 (List.length s.1) then (bif inR s.2.2.1 (List.length s.2.1) then (bif (!(decide ((at! .int s.1 (Int.toNat s.2.2.1) = at! .int s.2.1 (Int.toNat s.2.2.1))))) then some (Sum.inr (Sum.inr ((false, ())))) else some (Sum.inl ((s.1, s.2.1, wrap64 ((s.2.2.1 + (1 : Int))), ())))) else none) else none) else some (Sum.inr (Sum.inl (()))))
def sh_laws_sameInts (s : (List Int × List Int × Unit)) : Option (Bool × Unit) := (bif (!(decide ((nI (List.length s.1) = nI (List.length s.2.1))))) then some ((false, ())) else (lp bo_laws_sameInts_4 fuel ((s.1, (s.2.1, ((0 : Int), ()))))).bind fun r0 => (match r0 with | .inl _ => some ((true, ())) | .inr y1 => some ((y1.1, ()))))
def bo_spec_l1Link_2 (s : (Int × Int × Int × Int × List Lk × Unit)) : Option ((Int × Int × Int × Int × List Lk × Unit) ⊕ ((Unit) ⊕ (Int × Unit))) := (bif decide ((s.2.2.1 < nI (List.length s.2.2.2.2.1))) then (bif inR s.2.2.1 (List.length s.2.2.2.2.1) then (bif decide (((at! .lk s.2.2.2.2.1 (Int.toNat s.2.2.1)).a = min s.1 s.2.1)) then (bif inR s.2.2.1 (List.length s.2.2.2.2.1) then (bif decide (((at! .lk s.2.2.2.2.1 (Int.toNat s.2.2.1)).b = max s.1 s.2.1)) then some (Sum.inr (Sum.inr ((s.2.2.1, ())))) else some (Sum.inl ((s.1, s.2.1, wrap64 ((s.2.2.1 + (1 : Int))), s.2.2.2.1, s.2.2.2.2.1, ())))) else none) else some (Sum.inl ((s.1, s.2.1, wrap64 ((s.2.2.1 + (1 : Int))), s.2.2.2.1, s.2.2.2.2.1, ())))) else none) else some (Sum.inr (Sum.inl (()))))
def sh_spec_l1Link (s : (Int × List Lk × Int × Int × Unit)) : Option (Int × Unit) := (lp bo_spec_l1Link_2 fuel ((s.2.2.1, (s.2.2.2.1, ((0 : Int), (s.1, (s.2.1, ()))))))).bind fun r0 => (match r0 with | .inl _ => some (((-((1 : Int))), ())) | .inr y1 => some ((y1.1, ())))
def bo_impl_GraphValid_4 (s : (List Lk × Int × Int × Int × List Lk × Unit)) : Option ((List Lk × Int × Int × Int × List Lk × Unit) ⊕ ((Unit) ⊕ (Bool × Unit))) := (bif decide ((s.2.2.1 < s.2.1)) then (bif inR s.2.2.1 (List.length s.1) then (bif decide (((at! .lk s.1 (Int.toNat s.2.2.1)).a < (0 : Int))) then some (Sum.inr (Sum.inr ((false, ())))) else (bif decide (((at! .lk s.1 (Int.toNat s.2.2.1)).b ≤ (at! .lk s.1 (Int.toNat s.2.2.1)).a)) then some (Sum.inr (Sum.inr ((false, ())))) else (bif decide ((s.2.2.2.1 ≤ (at! .lk s.1 (Int.toNat s.2.2.1)).b)) then some (Sum.inr (Sum.inr ((false, ())))) else (sh_impl_within (((at! .lk s.1 (Int.toNat s.2.2.1)).c, ((1 : Int), ((20 : Int), ()))))).bind fun r0 => (bif (!r0.1) then some (Sum.inr (Sum.inr ((false, ())))) else (bif decide (((0 : Int) < s.2.2.1)) then (bif inR (wrap64 ((s.2.2.1 - (1 : Int)))) (List.length s.2.2.2.2.1) then (bif decide (((at! .lk s.1 (Int.toNat s.2.2.1)).a < (at! .lk s.2.2.2.2.1 (Int.toNat (wrap64 ((s.2.2.1 - (1 : Int)))))).a)) then some (Sum.inr (Sum.inr ((false, ())))) else (bif inR (wrap64 ((s.2.2.1 - (1 : Int)))) (List.length s.2.2.2.2.1) then (bif decide (((at! .lk s.2.2.2.2.1 (Int.toNat (wrap64 ((s.2.2.1 - (1 : Int)))))).a = (at! .lk s.1 (Int.toNat s.2.2.1)).a)) then (bif inR (wrap64 ((s.2.2.1 - (1 : Int)))) (List.length s.2.2.2.2.1) then (bif decide (((at! .lk s.1 (Int.toNat s.2.2.1)).b ≤ (at! .lk s.2.2.2.2.1 (Int.toNat (wrap64 ((s.2.2.1 - (1 : Int)))))).b)) then some (Sum.inr (Sum.inr ((false, ())))) else some (Sum.inl ((s.1, s.2.1, wrap64 ((s.2.2.1 + (1 : Int))), s.2.2.2.1, s.2.2.2.2.1, ())))) else none) else some (Sum.inl ((s.1, s.2.1, wrap64 ((s.2.2.1 + (1 : Int))), s.2.2.2.1, s.2.2.2.2.1, ())))) else none)) else none) else some (Sum.inl ((s.1, s.2.1, wrap64 ((s.2.2.1 + (1 : Int))), s.2.2.2.1, s.2.2.2.2.1, ())))))))) else none) else some (Sum.inr (Sum.inl (()))))
def sh_impl_GraphValid (s : (Int × List Lk × Unit)) : Option (Bool × Unit) := (sh_impl_within ((s.1, ((1 : Int), ((8 : Int), ()))))).bind fun r0 => (bif (!r0.1) then some ((false, ())) else (bif decide (((14 : Int) < nI (List.length s.2.1))) then some ((false, ())) else (lp bo_impl_GraphValid_4 fuel ((s.2.1, (nI (List.length s.2.1), ((0 : Int), (s.1, (s.2.1, ()))))))).bind fun r1 => (match r1 with | .inl _ => some ((true, ())) | .inr y2 => some ((y2.1, ())))))
def bo_spec_GraphValid_2 (s : (Int × Int × List Lk × Unit)) : Option ((Int × Int × List Lk × Unit) ⊕ ((Int × List Lk × Unit) ⊕ (Bool × Unit))) := (bif decide ((s.1 < nI (List.length s.2.2.1))) then (bif inR s.1 (List.length s.2.2.1) then (sh_spec_l6In (((at! .lk s.2.2.1 (Int.toNat s.1)).a, ((0 : Int), (wrap64 ((s.2.1 - (1 : Int))), ()))))).bind fun r0 => (bif (!r0.1) then some (Sum.inr (Sum.inr ((false, ())))) else (sh_spec_l6In (((at! .lk s.2.2.1 (Int.toNat s.1)).b, (wrap64 (((at! .lk s.2.2.1 (Int.toNat s.1)).a + (1 : Int))), (wrap64 ((s.2.1 - (1 : Int))), ()))))).bind fun r1 => (bif (!r1.1) then some (Sum.inr (Sum.inr ((false, ())))) else (sh_spec_l6In (((at! .lk s.2.2.1 (Int.toNat s.1)).c, ((1 : Int), ((20 : Int), ()))))).bind fun r2 => (bif (!r2.1) then some (Sum.inr (Sum.inr ((false, ())))) else (bif decide (((0 : Int) < s.1)) then (bif inR (wrap64 ((s.1 - (1 : Int)))) (List.length s.2.2.1) then (bif decide (((at! .lk s.2.2.1 (Int.toNat s.1)).a < (at! .lk s.2.2.1 (Int.toNat (wrap64 ((s.1 - (1 : Int)))))).a)) then some (Sum.inr (Sum.inr ((false, ())))) else (bif inR (wrap64 ((s.1 - (1 : Int)))) (List.length s.2.2.1) then (bif decide (((at! .lk s.2.2.1 (Int.toNat (wrap64 ((s.1 - (1 : Int)))))).a = (at! .lk s.2.2.1 (Int.toNat s.1)).a)) then (bif inR (wrap64 ((s.1 - (1 : Int)))) (List.length s.2.2.1) then (bif decide (((at! .lk s.2.2.1 (Int.toNat s.1)).b ≤ (at! .lk s.2.2.1 (Int.toNat (wrap64 ((s.1 - (1 : Int)))))).b)) then some (Sum.inr (Sum.inr ((false, ())))) else some (Sum.inl ((wrap64 ((s.1 + (1 : Int))), s.2.1, s.2.2.1, ())))) else none) else some (Sum.inl ((wrap64 ((s.1 + (1 : Int))), s.2.1, s.2.2.1, ())))) else none)) else none) else some (Sum.inl ((wrap64 ((s.1 + (1 : Int))), s.2.1, s.2.2.1, ()))))))) else none) else some (Sum.inr (Sum.inl ((s.2.1, s.2.2.1, ())))))
def sh_spec_GraphValid (s : (Int × List Lk × Unit)) : Option (Bool × Unit) := (lp bo_spec_GraphValid_2 fuel (((0 : Int), (s.1, (s.2.1, ()))))).bind fun r0 => (match r0 with | .inl x1 => (sh_spec_l6In ((x1.1, ((1 : Int), ((8 : Int), ()))))).bind fun r2 => (bif r2.1 then some ((decide ((nI (List.length x1.2.1) ≤ (14 : Int))), ())) else some ((false, ()))) | .inr y1 => some ((y1.1, ())))
def sh_impl_Graph_hasNode (s : (Int × List Lk × Int × Unit)) : Option (Bool × Unit) := (sh_impl_GraphValid ((s.1, (s.2.1, ())))).bind fun r0 => (bif r0.1 then (sh_impl_within ((s.2.2.1, ((0 : Int), (wrap64 ((s.1 - (1 : Int))), ()))))).bind fun r1 => some ((r1.1, ())) else some ((false, ())))
def sh_impl_Link_other (s : (Int × Int × Int × Int × Unit)) : Option (Int × Bool × Unit) := (bif decide ((s.2.2.2.1 = s.1)) then some ((s.2.1, true, ())) else (bif decide ((s.2.2.2.1 = s.2.1)) then some ((s.1, true, ())) else some (((0 : Int), false, ()))))
def bo_spec_GraphNeighbours_3 (s : (Int × Int × Int × List Lk × List Int × Unit)) : Option ((Int × Int × Int × List Lk × List Int × Unit) ⊕ ((List Int × Unit) ⊕ Unit)) := (bif decide ((s.2.1 < (8 : Int))) then (sh_spec_GraphValid ((s.2.2.1, (s.2.2.2.1, ())))).bind fun r0 => (bif r0.1 then (sh_spec_l1Link ((s.2.2.1, (s.2.2.2.1, (s.1, (s.2.1, ())))))).bind fun r1 => (bif decide (((0 : Int) ≤ r1.1)) then (bif decide (((List.length s.2.2.2.2.1 + List.length ([s.2.1])) ≤ (33554432 : Nat))) then some (Sum.inl ((s.1, wrap64 ((s.2.1 + (1 : Int))), s.2.2.1, s.2.2.2.1, (s.2.2.2.2.1 ++ [s.2.1]), ()))) else none) else some (Sum.inl ((s.1, wrap64 ((s.2.1 + (1 : Int))), s.2.2.1, s.2.2.2.1, s.2.2.2.2.1, ())))) else some (Sum.inr (Sum.inl ((s.2.2.2.2.1, ()))))) else some (Sum.inr (Sum.inl ((s.2.2.2.2.1, ())))))
def sh_spec_GraphNeighbours (s : (Int × List Lk × Int × Unit)) : Option (List Int × Unit) := (lp bo_spec_GraphNeighbours_3 fuel ((s.2.2.1, ((0 : Int), (s.1, (s.2.1, (([] : List Int), ()))))))).bind fun r0 => (match r0 with | .inl x1 => some ((x1.1, ())) | .inr _ => none)
def bo_impl_Graph_neighbours_3 (s : (Int × List Lk × Int × Int × List Int × Unit)) : Option ((Int × List Lk × Int × Int × List Int × Unit) ⊕ ((List Int × Unit) ⊕ Unit)) := (bif decide ((s.2.2.2.1 < s.2.2.1)) then (bif inR s.2.2.2.1 (List.length s.2.1) then (sh_impl_Link_other (((at! .lk s.2.1 (Int.toNat s.2.2.2.1)).a, ((at! .lk s.2.1 (Int.toNat s.2.2.2.1)).b, ((at! .lk s.2.1 (Int.toNat s.2.2.2.1)).c, (s.1, ())))))).bind fun r0 => (bif r0.2.1 then (bif decide (((List.length s.2.2.2.2.1 + List.length ([r0.1])) ≤ (33554432 : Nat))) then some (Sum.inl ((s.1, s.2.1, s.2.2.1, wrap64 ((s.2.2.2.1 + (1 : Int))), (s.2.2.2.2.1 ++ [r0.1]), ()))) else none) else some (Sum.inl ((s.1, s.2.1, s.2.2.1, wrap64 ((s.2.2.2.1 + (1 : Int))), s.2.2.2.2.1, ())))) else none) else some (Sum.inr (Sum.inl ((s.2.2.2.2.1, ())))))
def sh_impl_Graph_neighbours (s : (Int × List Lk × Int × Unit)) : Option (List Int × Unit) := (lp bo_impl_Graph_neighbours_3 fuel ((s.2.2.1, (s.2.1, (nI (List.length s.2.1), ((0 : Int), (([] : List Int), ()))))))).bind fun r0 => (match r0 with | .inl x1 => (sh_slices_Sort_int_int ((x1.1, ()))).bind fun r2 => some ((r2.1, ())) | .inr _ => none)
def sh_impl_Graph_linkOf_1 (s : (Int × Int × Int × Int × Int × Unit)) : Option (Bool × Unit) := (bif decide ((s.1 = min s.2.2.2.1 s.2.2.2.2.1)) then some ((decide ((s.2.1 = max s.2.2.2.1 s.2.2.2.2.1)), ())) else some ((false, ())))
def bo_slices_IndexFunc_impl_Link_impl_Link_Graph_linkOf_1_2 (s : (List Lk × Int × Int × Int × Int × Unit)) : Option ((List Lk × Int × Int × Int × Int × Unit) ⊕ ((Unit) ⊕ (Int × Unit))) := (bif decide ((s.2.2.2.2.1 < s.2.2.2.1)) then (bif inR s.2.2.2.2.1 (List.length s.1) then (sh_impl_Graph_linkOf_1 (((at! .lk s.1 (Int.toNat s.2.2.2.2.1)).a, ((at! .lk s.1 (Int.toNat s.2.2.2.2.1)).b, ((at! .lk s.1 (Int.toNat s.2.2.2.2.1)).c, (s.2.1, (s.2.2.1, ()))))))).bind fun r0 => (bif r0.1 then some (Sum.inr (Sum.inr ((s.2.2.2.2.1, ())))) else some (Sum.inl ((s.1, s.2.1, s.2.2.1, s.2.2.2.1, wrap64 ((s.2.2.2.2.1 + (1 : Int))), ())))) else none) else some (Sum.inr (Sum.inl (()))))
def sh_slices_IndexFunc_impl_Link_impl_Link_Graph_linkOf_1 (s : (List Lk × Int × Int × Unit)) : Option (Int × Unit) := (lp bo_slices_IndexFunc_impl_Link_impl_Link_Graph_linkOf_1_2 fuel ((s.1, (s.2.1, (s.2.2.1, (nI (List.length s.1), ((0 : Int), ()))))))).bind fun r0 => (match r0 with | .inl _ => some (((-((1 : Int))), ())) | .inr y1 => some ((y1.1, ())))
def sh_impl_Graph_linkOf (s : (Int × List Lk × Int × Int × Unit)) : Option (Int × Unit) := (sh_slices_IndexFunc_impl_Link_impl_Link_Graph_linkOf_1 ((s.2.1, (s.2.2.1, (s.2.2.2.1, ()))))).bind fun r0 => some ((r0.1, ()))
def sh_impl_GraphLink (s : (Int × List Lk × Int × Int × Unit)) : Option (Int × Unit) := (sh_impl_GraphValid ((s.1, (s.2.1, ())))).bind fun r0 => (bif (!r0.1) then some (((-((1 : Int))), ())) else (sh_impl_Graph_linkOf ((s.1, (s.2.1, (s.2.2.1, (s.2.2.2.1, ())))))).bind fun r1 => some ((r1.1, ())))
def sh_impl_GraphNeighbours (s : (Int × List Lk × Int × Unit)) : Option (List Int × Unit) := (sh_impl_Graph_hasNode ((s.1, (s.2.1, (s.2.2.1, ()))))).bind fun r0 => (bif (!r0.1) then some ((([] : List Int), ())) else (sh_impl_Graph_neighbours ((s.1, (s.2.1, (s.2.2.1, ()))))).bind fun r1 => some ((r1.1, ())))
def sh_spec_l1Node (s : (Int × List Lk × Int × Unit)) : Option (Bool × Unit) := (sh_spec_l6In ((s.2.2.1, ((0 : Int), (wrap64 ((s.1 - (1 : Int))), ()))))).bind fun r0 => some ((r0.1, ()))
end Go.Proofs.Ytdfkphagjkpgdaa
end
section
namespace Go.Proofs.Ytdfkphagjkpgdaa
open Go.RowKit
set_option maxRecDepth 100000
def e_impl_within : Entry := ⟨⟨[.c (.one (.b (.int .i64))), .c (.one (.b (.int .i64))), .c (.one (.b (.int .i64)))], []⟩, [.int, .int, .int], ⟨[.c (.one (.b .bool))], []⟩, [.bool], sh_impl_within⟩
def g_impl_within : Env := mkEnv tab [] 15 0 [] []
theorem t_impl_within : CtrOk Try.prog g_impl_within.Γ := ctr_ok (l := []) trivial
theorem p_impl_within : GC Try.prog 38 e_impl_within := gc_of (G := g_impl_within) (c := Try.f38.body.getD .skip) bad_ok tabOk t_impl_within mixed Try.func38 (by kernel_rfl) Try.ntmps38 (code_ok' (G := g_impl_within) (n := 0) (by kernel_rfl) (by kernel_rfl) trivial (by kernel_rfl)) (fun s => by kernel_rfl)
def e_spec_l6In : Entry := ⟨⟨[.c (.one (.b (.int .i64))), .c (.one (.b (.int .i64))), .c (.one (.b (.int .i64)))], []⟩, [.int, .int, .int], ⟨[.c (.one (.b .bool))], []⟩, [.bool], sh_spec_l6In⟩
def g_spec_l6In : Env := mkEnv tab [] 15 0 [] []
theorem t_spec_l6In : CtrOk Try.prog g_spec_l6In.Γ := ctr_ok (l := []) trivial
theorem p_spec_l6In : GC Try.prog 56 e_spec_l6In := gc_of (G := g_spec_l6In) (c := Try.f56.body.getD .skip) bad_ok tabOk t_spec_l6In mixed Try.func56 (by kernel_rfl) Try.ntmps56 (code_ok' (G := g_spec_l6In) (n := 0) (by kernel_rfl) (by kernel_rfl) trivial (by kernel_rfl)) (fun s => by kernel_rfl)
def L_laws_sameGraph_4 : Loop := ⟨⟨[2, 3, 5], ⟨[.c (.one (.ptr 0 0)), .c (.one (.ptr 1 0)), .c (.one (.b (.int .i64)))], [.box 25 [(.b (.int .i64)), (.b (.sl false .lk))], .box 25 [(.b (.int .i64)), (.b (.sl false .lk))]]⟩, [.int, .int, .ls .lk, .int, .ls .lk]⟩, 0, ⟨[], ⟨[], []⟩, []⟩, ⟨[4], ⟨[.c (.one (.b .bool))], []⟩, [.bool]⟩, lp bo_laws_sameGraph_4 fuel⟩
def e_laws_sameGraph : Entry := ⟨⟨[.c (.agg [(.b (.int .i64)), (.b (.sl false .lk))]), .c (.agg [(.b (.int .i64)), (.b (.sl false .lk))])], []⟩, [.int, .ls .lk, .int, .ls .lk], ⟨[.c (.one (.b .bool))], []⟩, [.bool], sh_laws_sameGraph⟩
def g_laws_sameGraph : Env := mkEnv tab [] 38 0 [(6, 10, [(0, true), (1, true), (2, true), (3, true), (4, true), (5, true), (6, true), (7, true), (8, true), (9, true)], [])] [(4, L_laws_sameGraph_4)]
theorem t_laws_sameGraph : CtrOk Try.prog g_laws_sameGraph.Γ := ctr_ok (l := []) trivial
theorem k_laws_sameGraph_4 : LoopOk Try.prog 0 38 (nthC (Try.f11.body.getD .skip) 0) L_laws_sameGraph_4 := loop_ok (G := g_laws_sameGraph) (F := L_laws_sameGraph_4.F) (eid := L_laws_sameGraph_4.eid) (FX := L_laws_sameGraph_4.FX) (FR := L_laws_sameGraph_4.FR) (B := bo_laws_sameGraph_4) (n := fuel) bad_ok tabOk t_laws_sameGraph mixed (code_ok' (G := g_laws_sameGraph) (n := 0) (by kernel_rfl) (by kernel_rfl) trivial (by kernel_rfl)) (fun s => by kernel_rfl)
theorem p_laws_sameGraph : GC Try.prog 11 e_laws_sameGraph := gc_of (G := g_laws_sameGraph) (c := Try.f11.body.getD .skip) bad_ok tabOk t_laws_sameGraph mixed Try.func11 (by kernel_rfl) Try.ntmps11 (code_ok' (G := g_laws_sameGraph) (n := 1) (by kernel_rfl) (by kernel_rfl) ⟨trivial, loop_at (id := 4) (L0 := L_laws_sameGraph_4) (by kernel_rfl) (by kernel_rfl) k_laws_sameGraph_4⟩ (by kernel_rfl)) (fun s => by kernel_rfl)
def L_laws_sameInts_4 : Loop := ⟨⟨[0, 1, 5], ⟨[.c (.one (.b (.sl false .int))), .c (.one (.b (.sl false .int))), .c (.one (.b (.int .i64)))], []⟩, [.ls .int, .ls .int, .int]⟩, 0, ⟨[], ⟨[], []⟩, []⟩, ⟨[4], ⟨[.c (.one (.b .bool))], []⟩, [.bool]⟩, lp bo_laws_sameInts_4 fuel⟩
def e_laws_sameInts : Entry := ⟨⟨[.c (.one (.b (.sl false .int))), .c (.one (.b (.sl false .int)))], []⟩, [.ls .int, .ls .int], ⟨[.c (.one (.b .bool))], []⟩, [.bool], sh_laws_sameInts⟩
def g_laws_sameInts : Env := mkEnv tab [] 26 0 [(6, 8, [(0, true), (1, true), (2, true), (3, true), (4, true), (5, true), (6, true), (7, true)], [])] [(4, L_laws_sameInts_4)]
theorem t_laws_sameInts : CtrOk Try.prog g_laws_sameInts.Γ := ctr_ok (l := []) trivial
theorem k_laws_sameInts_4 : LoopOk Try.prog 0 26 (nthC (Try.f35.body.getD .skip) 0) L_laws_sameInts_4 := loop_ok (G := g_laws_sameInts) (F := L_laws_sameInts_4.F) (eid := L_laws_sameInts_4.eid) (FX := L_laws_sameInts_4.FX) (FR := L_laws_sameInts_4.FR) (B := bo_laws_sameInts_4) (n := fuel) bad_ok tabOk t_laws_sameInts mixed (code_ok' (G := g_laws_sameInts) (n := 0) (by kernel_rfl) (by kernel_rfl) trivial (by kernel_rfl)) (fun s => by kernel_rfl)
theorem p_laws_sameInts : GC Try.prog 35 e_laws_sameInts := gc_of (G := g_laws_sameInts) (c := Try.f35.body.getD .skip) bad_ok tabOk t_laws_sameInts mixed Try.func35 (by kernel_rfl) Try.ntmps35 (code_ok' (G := g_laws_sameInts) (n := 1) (by kernel_rfl) (by kernel_rfl) ⟨trivial, loop_at (id := 4) (L0 := L_laws_sameInts_4) (by kernel_rfl) (by kernel_rfl) k_laws_sameInts_4⟩ (by kernel_rfl)) (fun s => by kernel_rfl)
def L_spec_l1Link_2 : Loop := ⟨⟨[1, 2, 3, 7], ⟨[.c (.one (.b (.int .i64))), .c (.one (.b (.int .i64))), .c (.one (.ptr 0 0)), .c (.one (.b (.int .i64)))], [.box 25 [(.b (.int .i64)), (.b (.sl false .lk))]]⟩, [.int, .int, .int, .int, .ls .lk]⟩, 0, ⟨[], ⟨[], []⟩, []⟩, ⟨[6], ⟨[.c (.one (.b (.int .i64)))], []⟩, [.int]⟩, lp bo_spec_l1Link_2 fuel⟩
def e_spec_l1Link : Entry := ⟨⟨[.c (.agg [(.b (.int .i64)), (.b (.sl false .lk))]), .c (.one (.b (.int .i64))), .c (.one (.b (.int .i64)))], []⟩, [.int, .ls .lk, .int, .int], ⟨[.c (.one (.b (.int .i64)))], []⟩, [.int], sh_spec_l1Link⟩
def g_spec_l1Link : Env := mkEnv tab [] 38 0 [] [(2, L_spec_l1Link_2)]
theorem t_spec_l1Link : CtrOk Try.prog g_spec_l1Link.Γ := ctr_ok (l := []) trivial
theorem k_spec_l1Link_2 : LoopOk Try.prog 0 38 (nthC (Try.f65.body.getD .skip) 0) L_spec_l1Link_2 := loop_ok (G := g_spec_l1Link) (F := L_spec_l1Link_2.F) (eid := L_spec_l1Link_2.eid) (FX := L_spec_l1Link_2.FX) (FR := L_spec_l1Link_2.FR) (B := bo_spec_l1Link_2) (n := fuel) bad_ok tabOk t_spec_l1Link mixed (code_ok' (G := g_spec_l1Link) (n := 0) (by kernel_rfl) (by kernel_rfl) trivial (by kernel_rfl)) (fun s => by kernel_rfl)
theorem p_spec_l1Link : GC Try.prog 65 e_spec_l1Link := gc_of (G := g_spec_l1Link) (c := Try.f65.body.getD .skip) bad_ok tabOk t_spec_l1Link mixed Try.func65 (by kernel_rfl) Try.ntmps65 (code_ok' (G := g_spec_l1Link) (n := 1) (by kernel_rfl) (by kernel_rfl) ⟨trivial, loop_at (id := 2) (L0 := L_spec_l1Link_2) (by kernel_rfl) (by kernel_rfl) k_spec_l1Link_2⟩ (by kernel_rfl)) (fun s => by kernel_rfl)
def L_impl_GraphValid_4 : Loop := ⟨⟨[1, 16, 17, 18], ⟨[.c (.one (.ptr 0 0)), .c (.one (.b (.sl false .lk))), .c (.one (.b (.int .i64))), .c (.one (.b (.int .i64)))], [.box 25 [(.b (.int .i64)), (.b (.sl false .lk))]]⟩, [.ls .lk, .int, .int, .int, .ls .lk]⟩, 0, ⟨[], ⟨[], []⟩, []⟩, ⟨[2], ⟨[.c (.one (.b .bool))], []⟩, [.bool]⟩, lp bo_impl_GraphValid_4 fuel⟩
def e_impl_GraphValid : Entry := ⟨⟨[.c (.agg [(.b (.int .i64)), (.b (.sl false .lk))])], []⟩, [.int, .ls .lk], ⟨[.c (.one (.b .bool))], []⟩, [.bool], sh_impl_GraphValid⟩
def g_impl_GraphValid : Env := mkEnv tab [(38, [], e_impl_within)] 85 0 [(8, 34, [(0, true), (1, true), (2, true), (3, true), (4, true), (5, true), (6, true), (7, true), (8, true), (9, true), (10, true), (11, true), (12, true), (13, true), (14, true), (15, true), (16, true), (17, true), (18, true), (19, true), (20, true), (21, true), (22, true), (23, true), (24, true), (25, true), (26, true), (27, true), (28, true), (29, true), (30, true), (31, true), (32, true), (33, true)], [])] [(4, L_impl_GraphValid_4)]
theorem t_impl_GraphValid : CtrOk Try.prog g_impl_GraphValid.Γ := ctr_ok (l := [(38, [], e_impl_within)]) ⟨⟨p_impl_within, Try.call38⟩, trivial⟩
theorem k_impl_GraphValid_4 : LoopOk Try.prog 0 85 (nthC (Try.f19.body.getD .skip) 0) L_impl_GraphValid_4 := loop_ok (G := g_impl_GraphValid) (F := L_impl_GraphValid_4.F) (eid := L_impl_GraphValid_4.eid) (FX := L_impl_GraphValid_4.FX) (FR := L_impl_GraphValid_4.FR) (B := bo_impl_GraphValid_4) (n := fuel) bad_ok tabOk t_impl_GraphValid mixed (code_ok' (G := g_impl_GraphValid) (n := 0) (by kernel_rfl) (by kernel_rfl) trivial (by kernel_rfl)) (fun s => by kernel_rfl)
theorem p_impl_GraphValid : GC Try.prog 19 e_impl_GraphValid := gc_of (G := g_impl_GraphValid) (c := Try.f19.body.getD .skip) bad_ok tabOk t_impl_GraphValid mixed Try.func19 (by kernel_rfl) Try.ntmps19 (code_ok' (G := g_impl_GraphValid) (n := 1) (by kernel_rfl) (by kernel_rfl) ⟨trivial, loop_at (id := 4) (L0 := L_impl_GraphValid_4) (by kernel_rfl) (by kernel_rfl) k_impl_GraphValid_4⟩ (by kernel_rfl)) (fun s => by kernel_rfl)
def L_spec_GraphValid_2 : Loop := ⟨⟨[1, 3], ⟨[.c (.one (.ptr 0 0)), .c (.one (.b (.int .i64)))], [.box 25 [(.b (.int .i64)), (.b (.sl false .lk))]]⟩, [.int, .int, .ls .lk]⟩, 0, ⟨[1], ⟨[.c (.one (.ptr 0 0))], [.box 25 [(.b (.int .i64)), (.b (.sl false .lk))]]⟩, [.int, .ls .lk]⟩, ⟨[2], ⟨[.c (.one (.b .bool))], []⟩, [.bool]⟩, lp bo_spec_GraphValid_2 fuel⟩
def e_spec_GraphValid : Entry := ⟨⟨[.c (.agg [(.b (.int .i64)), (.b (.sl false .lk))])], []⟩, [.int, .ls .lk], ⟨[.c (.one (.b .bool))], []⟩, [.bool], sh_spec_GraphValid⟩
def g_spec_GraphValid : Env := mkEnv tab [(56, [], e_spec_l6In)] 89 0 [(7, 34, [(0, true), (1, true), (2, true), (3, true), (4, true), (5, true), (6, true), (7, true), (8, true), (9, true), (10, true), (11, true), (12, true), (13, true), (14, true), (15, true), (16, true), (17, true), (18, true), (19, true), (20, true), (21, true), (22, true), (23, true), (24, true), (25, true), (26, true), (27, true), (28, true), (29, true), (30, true), (31, true), (32, true), (33, true)], [])] [(2, L_spec_GraphValid_2)]
theorem t_spec_GraphValid : CtrOk Try.prog g_spec_GraphValid.Γ := ctr_ok (l := [(56, [], e_spec_l6In)]) ⟨⟨p_spec_l6In, Try.call56⟩, trivial⟩
theorem k_spec_GraphValid_2 : LoopOk Try.prog 0 89 (nthC (Try.f30.body.getD .skip) 0) L_spec_GraphValid_2 := loop_ok (G := g_spec_GraphValid) (F := L_spec_GraphValid_2.F) (eid := L_spec_GraphValid_2.eid) (FX := L_spec_GraphValid_2.FX) (FR := L_spec_GraphValid_2.FR) (B := bo_spec_GraphValid_2) (n := fuel) bad_ok tabOk t_spec_GraphValid mixed (code_ok' (G := g_spec_GraphValid) (n := 0) (by kernel_rfl) (by kernel_rfl) trivial (by kernel_rfl)) (fun s => by kernel_rfl)
theorem p_spec_GraphValid : GC Try.prog 30 e_spec_GraphValid := gc_of (G := g_spec_GraphValid) (c := Try.f30.body.getD .skip) bad_ok tabOk t_spec_GraphValid mixed Try.func30 (by kernel_rfl) Try.ntmps30 (code_ok' (G := g_spec_GraphValid) (n := 1) (by kernel_rfl) (by kernel_rfl) ⟨trivial, loop_at (id := 2) (L0 := L_spec_GraphValid_2) (by kernel_rfl) (by kernel_rfl) k_spec_GraphValid_2⟩ (by kernel_rfl)) (fun s => by kernel_rfl)
def e_impl_Graph_hasNode : Entry := ⟨⟨[.c (.agg [(.b (.int .i64)), (.b (.sl false .lk))]), .c (.one (.b (.int .i64)))], []⟩, [.int, .ls .lk, .int], ⟨[.c (.one (.b .bool))], []⟩, [.bool], sh_impl_Graph_hasNode⟩
def g_impl_Graph_hasNode : Env := mkEnv tab [(38, [], e_impl_within), (19, [], e_impl_GraphValid)] 14 0 [] []
theorem t_impl_Graph_hasNode : CtrOk Try.prog g_impl_Graph_hasNode.Γ := ctr_ok (l := [(38, [], e_impl_within), (19, [], e_impl_GraphValid)]) ⟨⟨p_impl_within, Try.call38⟩, ⟨⟨p_impl_GraphValid, Try.call19⟩, trivial⟩⟩
theorem p_impl_Graph_hasNode : GC Try.prog 61 e_impl_Graph_hasNode := gc_of (G := g_impl_Graph_hasNode) (c := Try.f61.body.getD .skip) bad_ok tabOk t_impl_Graph_hasNode mixed Try.func61 (by kernel_rfl) Try.ntmps61 (code_ok' (G := g_impl_Graph_hasNode) (n := 0) (by kernel_rfl) (by kernel_rfl) trivial (by kernel_rfl)) (fun s => by kernel_rfl)
def e_impl_Link_other : Entry := ⟨⟨[.c (.agg [(.b (.int .i64)), (.b (.int .i64)), (.b (.int .i64))]), .c (.one (.b (.int .i64)))], []⟩, [.int, .int, .int, .int], ⟨[.tup [(.one (.b (.int .i64))), (.one (.b .bool))]], []⟩, [.int, .bool], sh_impl_Link_other⟩
def g_impl_Link_other : Env := mkEnv tab [] 19 0 [] []
theorem t_impl_Link_other : CtrOk Try.prog g_impl_Link_other.Γ := ctr_ok (l := []) trivial
theorem p_impl_Link_other : GC Try.prog 87 e_impl_Link_other := gc_of (G := g_impl_Link_other) (c := Try.f87.body.getD .skip) bad_ok tabOk t_impl_Link_other mixed Try.func87 (by kernel_rfl) Try.ntmps87 (code_ok' (G := g_impl_Link_other) (n := 0) (by kernel_rfl) (by kernel_rfl) trivial (by kernel_rfl)) (fun s => by kernel_rfl)
def L_spec_GraphNeighbours_3 : Loop := ⟨⟨[1, 2, 5, 6], ⟨[.c (.one (.b (.int .i64))), .c (.one (.ptr 0 0)), .c (.one (.own 1)), .c (.one (.b (.int .i64)))], [.box 25 [(.b (.int .i64)), (.b (.sl false .lk))], .row 3 .int]⟩, [.int, .int, .int, .ls .lk, .ls .int]⟩, 0, ⟨[5], ⟨[.c (.one (.own 0))], [.row 3 .int]⟩, [.ls .int]⟩, ⟨[999999], ⟨[.c (.one (.own 0))], []⟩, []⟩, lp bo_spec_GraphNeighbours_3 fuel⟩
def e_spec_GraphNeighbours : Entry := ⟨⟨[.c (.agg [(.b (.int .i64)), (.b (.sl false .lk))]), .c (.one (.b (.int .i64)))], []⟩, [.int, .ls .lk, .int], ⟨[.c (.one (.own 0))], [.row 3 .int]⟩, [.ls .int], sh_spec_GraphNeighbours⟩
def g_spec_GraphNeighbours : Env := mkEnv tab [(65, [], e_spec_l1Link), (30, [], e_spec_GraphValid)] 26 0 [] [(3, L_spec_GraphNeighbours_3)]
theorem t_spec_GraphNeighbours : CtrOk Try.prog g_spec_GraphNeighbours.Γ := ctr_ok (l := [(65, [], e_spec_l1Link), (30, [], e_spec_GraphValid)]) ⟨⟨p_spec_l1Link, Try.call65⟩, ⟨⟨p_spec_GraphValid, Try.call30⟩, trivial⟩⟩
theorem k_spec_GraphNeighbours_3 : LoopOk Try.prog 0 26 (nthC (Try.f120.body.getD .skip) 0) L_spec_GraphNeighbours_3 := loop_ok (G := g_spec_GraphNeighbours) (F := L_spec_GraphNeighbours_3.F) (eid := L_spec_GraphNeighbours_3.eid) (FX := L_spec_GraphNeighbours_3.FX) (FR := L_spec_GraphNeighbours_3.FR) (B := bo_spec_GraphNeighbours_3) (n := fuel) bad_ok tabOk t_spec_GraphNeighbours mixed (code_ok' (G := g_spec_GraphNeighbours) (n := 0) (by kernel_rfl) (by kernel_rfl) trivial (by kernel_rfl)) (fun s => by kernel_rfl)
theorem p_spec_GraphNeighbours : GC Try.prog 120 e_spec_GraphNeighbours := gc_of (G := g_spec_GraphNeighbours) (c := Try.f120.body.getD .skip) bad_ok tabOk t_spec_GraphNeighbours mixed Try.func120 (by kernel_rfl) Try.ntmps120 (code_ok' (G := g_spec_GraphNeighbours) (n := 1) (by kernel_rfl) (by kernel_rfl) ⟨trivial, loop_at (id := 3) (L0 := L_spec_GraphNeighbours_3) (by kernel_rfl) (by kernel_rfl) k_spec_GraphNeighbours_3⟩ (by kernel_rfl)) (fun s => by kernel_rfl)
def L_impl_Graph_neighbours_3 : Loop := ⟨⟨[1, 5, 12, 13, 14], ⟨[.c (.one (.b (.int .i64))), .c (.one (.own 0)), .c (.one (.b (.sl false .lk))), .c (.one (.b (.int .i64))), .c (.one (.b (.int .i64)))], [.row 3 .int]⟩, [.int, .ls .lk, .int, .int, .ls .int]⟩, 0, ⟨[5], ⟨[.c (.one (.own 0))], [.row 3 .int]⟩, [.ls .int]⟩, ⟨[999999], ⟨[.c (.one (.own 0))], []⟩, []⟩, lp bo_impl_Graph_neighbours_3 fuel⟩
def e_impl_Graph_neighbours : Entry := ⟨⟨[.c (.agg [(.b (.int .i64)), (.b (.sl false .lk))]), .c (.one (.b (.int .i64)))], []⟩, [.int, .ls .lk, .int], ⟨[.c (.one (.own 0))], [.row 3 .int]⟩, [.ls .int], sh_impl_Graph_neighbours⟩
def g_impl_Graph_neighbours : Env := mkEnv tab [(88, [], e_slices_Sort_int_int), (87, [], e_impl_Link_other)] 33 0 [] [(3, L_impl_Graph_neighbours_3)]
theorem t_impl_Graph_neighbours : CtrOk Try.prog g_impl_Graph_neighbours.Γ := ctr_ok (l := [(88, [], e_slices_Sort_int_int), (87, [], e_impl_Link_other)]) ⟨⟨p_slices_Sort_int_int, Try.call88⟩, ⟨⟨p_impl_Link_other, Try.call87⟩, trivial⟩⟩
theorem k_impl_Graph_neighbours_3 : LoopOk Try.prog 0 33 (nthC (Try.f62.body.getD .skip) 0) L_impl_Graph_neighbours_3 := loop_ok (G := g_impl_Graph_neighbours) (F := L_impl_Graph_neighbours_3.F) (eid := L_impl_Graph_neighbours_3.eid) (FX := L_impl_Graph_neighbours_3.FX) (FR := L_impl_Graph_neighbours_3.FR) (B := bo_impl_Graph_neighbours_3) (n := fuel) bad_ok tabOk t_impl_Graph_neighbours mixed (code_ok' (G := g_impl_Graph_neighbours) (n := 0) (by kernel_rfl) (by kernel_rfl) trivial (by kernel_rfl)) (fun s => by kernel_rfl)
theorem p_impl_Graph_neighbours : GC Try.prog 62 e_impl_Graph_neighbours := gc_of (G := g_impl_Graph_neighbours) (c := Try.f62.body.getD .skip) bad_ok tabOk t_impl_Graph_neighbours mixed Try.func62 (by kernel_rfl) Try.ntmps62 (code_ok' (G := g_impl_Graph_neighbours) (n := 1) (by kernel_rfl) (by kernel_rfl) ⟨trivial, loop_at (id := 3) (L0 := L_impl_Graph_neighbours_3) (by kernel_rfl) (by kernel_rfl) k_impl_Graph_neighbours_3⟩ (by kernel_rfl)) (fun s => by kernel_rfl)
def e_impl_Graph_linkOf_1 : Entry := ⟨⟨[.c (.agg [(.b (.int .i64)), (.b (.int .i64)), (.b (.int .i64))]), .c (.one (.at_ [(.int .i64)] 0)), .c (.one (.at_ [(.int .i64)] 0))], []⟩, [.int, .int, .int, .int, .int], ⟨[.c (.one (.b .bool))], []⟩, [.bool], sh_impl_Graph_linkOf_1⟩
def g_impl_Graph_linkOf_1 : Env := mkEnv tab [] 19 0 [] []
theorem t_impl_Graph_linkOf_1 : CtrOk Try.prog g_impl_Graph_linkOf_1.Γ := ctr_ok (l := []) trivial
theorem p_impl_Graph_linkOf_1 : GC Try.prog 85 e_impl_Graph_linkOf_1 := gc_of (G := g_impl_Graph_linkOf_1) (c := Try.f85.body.getD .skip) bad_ok tabOk t_impl_Graph_linkOf_1 mixed Try.func85 (by kernel_rfl) Try.ntmps85 (code_ok' (G := g_impl_Graph_linkOf_1) (n := 0) (by kernel_rfl) (by kernel_rfl) trivial (by kernel_rfl)) (fun s => by kernel_rfl)
def L_slices_IndexFunc_impl_Link_impl_Link_Graph_linkOf_1_2 : Loop := ⟨⟨[0, 1, 7, 8], ⟨[.c (.one (.b (.sl false .lk))), .c (.fn 85 [(.at_ [(.int .i64)] 0), (.at_ [(.int .i64)] 0)]), .c (.one (.b (.int .i64))), .c (.one (.b (.int .i64)))], []⟩, [.ls .lk, .int, .int, .int, .int]⟩, 0, ⟨[], ⟨[], []⟩, []⟩, ⟨[4], ⟨[.c (.one (.b (.int .i64)))], []⟩, [.int]⟩, lp bo_slices_IndexFunc_impl_Link_impl_Link_Graph_linkOf_1_2 fuel⟩
def e_slices_IndexFunc_impl_Link_impl_Link_Graph_linkOf_1 : Entry := ⟨⟨[.c (.one (.b (.sl false .lk))), .c (.fn 85 [(.at_ [(.int .i64)] 0), (.at_ [(.int .i64)] 0)])], []⟩, [.ls .lk, .int, .int], ⟨[.c (.one (.b (.int .i64)))], []⟩, [.int], sh_slices_IndexFunc_impl_Link_impl_Link_Graph_linkOf_1⟩
def g_slices_IndexFunc_impl_Link_impl_Link_Graph_linkOf_1 : Env := mkEnv tab [(85, [], e_impl_Graph_linkOf_1)] 19 0 [] [(2, L_slices_IndexFunc_impl_Link_impl_Link_Graph_linkOf_1_2)]
theorem t_slices_IndexFunc_impl_Link_impl_Link_Graph_linkOf_1 : CtrOk Try.prog g_slices_IndexFunc_impl_Link_impl_Link_Graph_linkOf_1.Γ := ctr_ok (l := [(85, [], e_impl_Graph_linkOf_1)]) ⟨⟨p_impl_Graph_linkOf_1, Try.call85⟩, trivial⟩
theorem k_slices_IndexFunc_impl_Link_impl_Link_Graph_linkOf_1_2 : LoopOk Try.prog 0 19 (nthC (Try.f84.body.getD .skip) 0) L_slices_IndexFunc_impl_Link_impl_Link_Graph_linkOf_1_2 := loop_ok (G := g_slices_IndexFunc_impl_Link_impl_Link_Graph_linkOf_1) (F := L_slices_IndexFunc_impl_Link_impl_Link_Graph_linkOf_1_2.F) (eid := L_slices_IndexFunc_impl_Link_impl_Link_Graph_linkOf_1_2.eid) (FX := L_slices_IndexFunc_impl_Link_impl_Link_Graph_linkOf_1_2.FX) (FR := L_slices_IndexFunc_impl_Link_impl_Link_Graph_linkOf_1_2.FR) (B := bo_slices_IndexFunc_impl_Link_impl_Link_Graph_linkOf_1_2) (n := fuel) bad_ok tabOk t_slices_IndexFunc_impl_Link_impl_Link_Graph_linkOf_1 mixed (code_ok' (G := g_slices_IndexFunc_impl_Link_impl_Link_Graph_linkOf_1) (n := 0) (by kernel_rfl) (by kernel_rfl) trivial (by kernel_rfl)) (fun s => by kernel_rfl)
theorem p_slices_IndexFunc_impl_Link_impl_Link_Graph_linkOf_1 : GC Try.prog 84 e_slices_IndexFunc_impl_Link_impl_Link_Graph_linkOf_1 := gc_of (G := g_slices_IndexFunc_impl_Link_impl_Link_Graph_linkOf_1) (c := Try.f84.body.getD .skip) bad_ok tabOk t_slices_IndexFunc_impl_Link_impl_Link_Graph_linkOf_1 mixed Try.func84 (by kernel_rfl) Try.ntmps84 (code_ok' (G := g_slices_IndexFunc_impl_Link_impl_Link_Graph_linkOf_1) (n := 1) (by kernel_rfl) (by kernel_rfl) ⟨trivial, loop_at (id := 2) (L0 := L_slices_IndexFunc_impl_Link_impl_Link_Graph_linkOf_1_2) (by kernel_rfl) (by kernel_rfl) k_slices_IndexFunc_impl_Link_impl_Link_Graph_linkOf_1_2⟩ (by kernel_rfl)) (fun s => by kernel_rfl)
def e_impl_Graph_linkOf : Entry := ⟨⟨[.c (.agg [(.b (.int .i64)), (.b (.sl false .lk))]), .c (.one (.b (.int .i64))), .c (.one (.b (.int .i64)))], []⟩, [.int, .ls .lk, .int, .int], ⟨[.c (.one (.b (.int .i64)))], []⟩, [.int], sh_impl_Graph_linkOf⟩
def g_impl_Graph_linkOf : Env := mkEnv tab [(85, [], e_impl_Graph_linkOf_1), (84, [85], e_slices_IndexFunc_impl_Link_impl_Link_Graph_linkOf_1)] 11 0 [] []
theorem t_impl_Graph_linkOf : CtrOk Try.prog g_impl_Graph_linkOf.Γ := ctr_ok (l := [(85, [], e_impl_Graph_linkOf_1), (84, [85], e_slices_IndexFunc_impl_Link_impl_Link_Graph_linkOf_1)]) ⟨⟨p_impl_Graph_linkOf_1, Try.call85⟩, ⟨⟨p_slices_IndexFunc_impl_Link_impl_Link_Graph_linkOf_1, Try.call84⟩, trivial⟩⟩
theorem p_impl_Graph_linkOf : GC Try.prog 57 e_impl_Graph_linkOf := gc_of (G := g_impl_Graph_linkOf) (c := Try.f57.body.getD .skip) bad_ok tabOk t_impl_Graph_linkOf mixed Try.func57 (by kernel_rfl) Try.ntmps57 (code_ok' (G := g_impl_Graph_linkOf) (n := 0) (by kernel_rfl) (by kernel_rfl) trivial (by kernel_rfl)) (fun s => by kernel_rfl)
def e_impl_GraphLink : Entry := ⟨⟨[.c (.agg [(.b (.int .i64)), (.b (.sl false .lk))]), .c (.one (.b (.int .i64))), .c (.one (.b (.int .i64)))], []⟩, [.int, .ls .lk, .int, .int], ⟨[.c (.one (.b (.int .i64)))], []⟩, [.int], sh_impl_GraphLink⟩
def g_impl_GraphLink : Env := mkEnv tab [(19, [], e_impl_GraphValid), (57, [], e_impl_Graph_linkOf)] 14 0 [] []
theorem t_impl_GraphLink : CtrOk Try.prog g_impl_GraphLink.Γ := ctr_ok (l := [(19, [], e_impl_GraphValid), (57, [], e_impl_Graph_linkOf)]) ⟨⟨p_impl_GraphValid, Try.call19⟩, ⟨⟨p_impl_Graph_linkOf, Try.call57⟩, trivial⟩⟩
theorem p_impl_GraphLink : GC Try.prog 18 e_impl_GraphLink := gc_of (G := g_impl_GraphLink) (c := Try.f18.body.getD .skip) bad_ok tabOk t_impl_GraphLink mixed Try.func18 (by kernel_rfl) Try.ntmps18 (code_ok' (G := g_impl_GraphLink) (n := 0) (by kernel_rfl) (by kernel_rfl) trivial (by kernel_rfl)) (fun s => by kernel_rfl)
def e_impl_GraphNeighbours : Entry := ⟨⟨[.c (.agg [(.b (.int .i64)), (.b (.sl false .lk))]), .c (.one (.b (.int .i64)))], []⟩, [.int, .ls .lk, .int], ⟨[.c (.one (.own 0))], [.row 3 .int]⟩, [.ls .int], sh_impl_GraphNeighbours⟩
def g_impl_GraphNeighbours : Env := mkEnv tab [(61, [], e_impl_Graph_hasNode), (62, [], e_impl_Graph_neighbours)] 12 0 [] []
theorem t_impl_GraphNeighbours : CtrOk Try.prog g_impl_GraphNeighbours.Γ := ctr_ok (l := [(61, [], e_impl_Graph_hasNode), (62, [], e_impl_Graph_neighbours)]) ⟨⟨p_impl_Graph_hasNode, Try.call61⟩, ⟨⟨p_impl_Graph_neighbours, Try.call62⟩, trivial⟩⟩
theorem p_impl_GraphNeighbours : GC Try.prog 22 e_impl_GraphNeighbours := gc_of (G := g_impl_GraphNeighbours) (c := Try.f22.body.getD .skip) bad_ok tabOk t_impl_GraphNeighbours mixed Try.func22 (by kernel_rfl) Try.ntmps22 (code_ok' (G := g_impl_GraphNeighbours) (n := 0) (by kernel_rfl) (by kernel_rfl) trivial (by kernel_rfl)) (fun s => by kernel_rfl)
def e_spec_l1Node : Entry := ⟨⟨[.c (.agg [(.b (.int .i64)), (.b (.sl false .lk))]), .c (.one (.b (.int .i64)))], []⟩, [.int, .ls .lk, .int], ⟨[.c (.one (.b .bool))], []⟩, [.bool], sh_spec_l1Node⟩
def g_spec_l1Node : Env := mkEnv tab [(56, [], e_spec_l6In)] 10 0 [] []
theorem t_spec_l1Node : CtrOk Try.prog g_spec_l1Node.Γ := ctr_ok (l := [(56, [], e_spec_l6In)]) ⟨⟨p_spec_l6In, Try.call56⟩, trivial⟩
theorem p_spec_l1Node : GC Try.prog 59 e_spec_l1Node := gc_of (G := g_spec_l1Node) (c := Try.f59.body.getD .skip) bad_ok tabOk t_spec_l1Node mixed Try.func59 (by kernel_rfl) Try.ntmps59 (code_ok' (G := g_spec_l1Node) (n := 0) (by kernel_rfl) (by kernel_rfl) trivial (by kernel_rfl)) (fun s => by kernel_rfl)
end Go.Proofs.Ytdfkphagjkpgdaa
end
section
namespace Go.Proofs.Ytdfkphagjkpgdaa
open Go.RowKit
set_option maxRecDepth 100000
def sh_spec_l6Rd_pick (s : (Int × List Int × Int × Unit)) : Option (Int × List Int × Int × Unit) := (bif decide ((s.1 < (1 : Int))) then some (((0 : Int), s.2.1, wrap64 ((s.2.2.1 + (1 : Int))), ())) else (bif decide ((nI (List.length s.2.1) = (0 : Int))) then some (((0 : Int), s.2.1, wrap64 ((s.2.2.1 + (1 : Int))), ())) else (bif decide ((wrap64 ((wrap64 ((s.2.2.1 + (1 : Int))) - (1 : Int))) < nI (List.length s.2.1))) then (bif inR (wrap64 ((wrap64 ((s.2.2.1 + (1 : Int))) - (1 : Int)))) (List.length s.2.1) then (bif (!(decide ((s.1 = (0 : Int))))) then some ((Int.tmod (wrap64 (at! .u8 s.2.1 (Int.toNat (wrap64 ((wrap64 ((s.2.2.1 + (1 : Int))) - (1 : Int))))))) s.1, s.2.1, wrap64 ((s.2.2.1 + (1 : Int))), ())) else none) else none) else (bif (!(decide ((nI (List.length s.2.1) = (0 : Int))))) then (bif inR (Int.tmod (wrap64 ((wrap64 ((s.2.2.1 + (1 : Int))) - (1 : Int)))) (nI (List.length s.2.1))) (List.length s.2.1) then (bif (!(decide ((nI (List.length s.2.1) = (0 : Int))))) then (bif inR (Int.tmod (wrap64 ((wrap64 ((wrap64 ((wrap64 ((s.2.2.1 + (1 : Int))) - (1 : Int))) * (7 : Int))) + (3 : Int)))) (nI (List.length s.2.1))) (List.length s.2.1) then (bif (!(decide ((nI (List.length s.2.1) = (0 : Int))))) then (bif (!(decide ((s.1 = (0 : Int))))) then some ((Int.tmod (xorK .i64 (wrap64 ((wrap64 ((wrap64 ((wrap64 ((wrap64 (at! .u8 s.2.1 (Int.toNat (Int.tmod (wrap64 ((wrap64 ((s.2.2.1 + (1 : Int))) - (1 : Int)))) (nI (List.length s.2.1))))) * (131 : Int))) + wrap64 ((wrap64 (at! .u8 s.2.1 (Int.toNat (Int.tmod (wrap64 ((wrap64 ((wrap64 ((wrap64 ((s.2.2.1 + (1 : Int))) - (1 : Int))) * (7 : Int))) + (3 : Int)))) (nI (List.length s.2.1))))) * (1117 : Int))))) + wrap64 ((wrap64 ((wrap64 ((s.2.2.1 + (1 : Int))) - (1 : Int))) * (29 : Int))))) + wrap64 ((wrap64 (Int.tdiv (wrap64 ((wrap64 ((s.2.2.1 + (1 : Int))) - (1 : Int)))) (nI (List.length s.2.1))) * (53 : Int)))))) (wrap64 (Int.tdiv (wrap64 ((wrap64 ((wrap64 ((wrap64 ((wrap64 (at! .u8 s.2.1 (Int.toNat (Int.tmod (wrap64 ((wrap64 ((s.2.2.1 + (1 : Int))) - (1 : Int)))) (nI (List.length s.2.1))))) * (131 : Int))) + wrap64 ((wrap64 (at! .u8 s.2.1 (Int.toNat (Int.tmod (wrap64 ((wrap64 ((wrap64 ((wrap64 ((s.2.2.1 + (1 : Int))) - (1 : Int))) * (7 : Int))) + (3 : Int)))) (nI (List.length s.2.1))))) * (1117 : Int))))) + wrap64 ((wrap64 ((wrap64 ((s.2.2.1 + (1 : Int))) - (1 : Int))) * (29 : Int))))) + wrap64 ((wrap64 (Int.tdiv (wrap64 ((wrap64 ((s.2.2.1 + (1 : Int))) - (1 : Int)))) (nI (List.length s.2.1))) * (53 : Int)))))) ((64 : Int))))) s.1, s.2.1, wrap64 ((s.2.2.1 + (1 : Int))), ())) else none) else none) else none) else none) else none) else none))))
def sh_spec_l6Open (s : (List Int × Unit)) : Option (List Int × Int × Unit) := (bif decide (((2000 : Int) < nI (List.length s.1))) then (bif bnd2 ((0 : Int)) ((2000 : Int)) (List.length s.1) then some ((List.take ((Int.toNat ((2000 : Int)) - Int.toNat ((0 : Int)))) (List.drop (Int.toNat ((0 : Int))) s.1), (0 : Int), ())) else none) else some ((s.1, (0 : Int), ())))
def bo_spec_l91Graph_9 (s : (Int × Int × Int × List Int × Int × Int × List Lk × Int × List Lk × Unit)) : Option ((Int × Int × Int × List Int × Int × Int × List Lk × Int × List Lk × Unit) ⊕ ((Int × Int × List Int × Int × Int × List Lk × Int × List Lk × Unit) ⊕ Unit)) := (bif decide ((s.2.2.1 < s.2.2.2.2.2.2.2.1)) then (bif decide ((s.2.2.1 = wrap64 ((s.2.1 + (1 : Int))))) then (bif decide ((nI (List.length s.2.2.2.2.2.2.2.2.1) < (14 : Int))) then (sh_spec_l6Rd_pick (((8 : Int), (s.2.2.2.1, (s.2.2.2.2.1, ()))))).bind fun r0 => (bif decide (((0 : Int) < r0.1)) then (sh_spec_l6Rd_pick (((3 : Int), (r0.2.1, (r0.2.2.1, ()))))).bind fun r1 => (sh_spec_l6Rd_pick (((4 : Int), (r1.2.1, (r1.2.2.1, ()))))).bind fun r2 => (sh_spec_l6Rd_pick (((8 : Int), (r2.2.1, (r2.2.2.1, ()))))).bind fun r3 => (bif decide (((List.length s.2.2.2.2.2.2.2.2.1 + List.length ([(Lk.mk s.2.1 s.2.2.1 (wrap64 ((wrap64 (((1 : Int) + r1.1)) + wrap64 ((wrap64 (Int.tdiv r2.1 ((3 : Int))) * r3.1))))))])) ≤ (33554432 : Nat))) then some (Sum.inl ((s.1, s.2.1, wrap64 ((s.2.2.1 + (1 : Int))), r3.2.1, r3.2.2.1, s.2.2.2.2.2.1, s.2.2.2.2.2.2.1, s.2.2.2.2.2.2.2.1, (s.2.2.2.2.2.2.2.2.1 ++ [(Lk.mk s.2.1 s.2.2.1 (wrap64 ((wrap64 (((1 : Int) + r1.1)) + wrap64 ((wrap64 (Int.tdiv r2.1 ((3 : Int))) * r3.1))))))]), ()))) else none) else (sh_spec_l6Rd_pick (((6 : Int), (r0.2.1, (r0.2.2.1, ()))))).bind fun r4 => (bif decide ((r4.1 < s.1)) then (sh_spec_l6Rd_pick (((3 : Int), (r4.2.1, (r4.2.2.1, ()))))).bind fun r5 => (sh_spec_l6Rd_pick (((4 : Int), (r5.2.1, (r5.2.2.1, ()))))).bind fun r6 => (sh_spec_l6Rd_pick (((8 : Int), (r6.2.1, (r6.2.2.1, ()))))).bind fun r7 => (bif decide (((List.length s.2.2.2.2.2.2.2.2.1 + List.length ([(Lk.mk s.2.1 s.2.2.1 (wrap64 ((wrap64 (((1 : Int) + r5.1)) + wrap64 ((wrap64 (Int.tdiv r6.1 ((3 : Int))) * r7.1))))))])) ≤ (33554432 : Nat))) then some (Sum.inl ((s.1, s.2.1, wrap64 ((s.2.2.1 + (1 : Int))), r7.2.1, r7.2.2.1, s.2.2.2.2.2.1, s.2.2.2.2.2.2.1, s.2.2.2.2.2.2.2.1, (s.2.2.2.2.2.2.2.2.1 ++ [(Lk.mk s.2.1 s.2.2.1 (wrap64 ((wrap64 (((1 : Int) + r5.1)) + wrap64 ((wrap64 (Int.tdiv r6.1 ((3 : Int))) * r7.1))))))]), ()))) else none) else some (Sum.inl ((s.1, s.2.1, wrap64 ((s.2.2.1 + (1 : Int))), r4.2.1, r4.2.2.1, s.2.2.2.2.2.1, s.2.2.2.2.2.2.1, s.2.2.2.2.2.2.2.1, s.2.2.2.2.2.2.2.2.1, ()))))) else some (Sum.inl ((s.1, s.2.1, wrap64 ((s.2.2.1 + (1 : Int))), s.2.2.2.1, s.2.2.2.2.1, s.2.2.2.2.2.1, s.2.2.2.2.2.2.1, s.2.2.2.2.2.2.2.1, s.2.2.2.2.2.2.2.2.1, ())))) else (bif decide ((s.2.1 = (0 : Int))) then (bif decide ((nI (List.length s.2.2.2.2.2.2.2.2.1) < (14 : Int))) then (bif decide ((s.2.2.1 = wrap64 ((s.2.2.2.2.2.2.2.1 - (1 : Int))))) then (sh_spec_l6Rd_pick (((8 : Int), (s.2.2.2.1, (s.2.2.2.2.1, ()))))).bind fun r8 => (bif decide (((0 : Int) < r8.1)) then (sh_spec_l6Rd_pick (((3 : Int), (r8.2.1, (r8.2.2.1, ()))))).bind fun r9 => (sh_spec_l6Rd_pick (((4 : Int), (r9.2.1, (r9.2.2.1, ()))))).bind fun r10 => (sh_spec_l6Rd_pick (((8 : Int), (r10.2.1, (r10.2.2.1, ()))))).bind fun r11 => (bif decide (((List.length s.2.2.2.2.2.2.2.2.1 + List.length ([(Lk.mk s.2.1 s.2.2.1 (wrap64 ((wrap64 (((1 : Int) + r9.1)) + wrap64 ((wrap64 (Int.tdiv r10.1 ((3 : Int))) * r11.1))))))])) ≤ (33554432 : Nat))) then some (Sum.inl ((s.1, s.2.1, wrap64 ((s.2.2.1 + (1 : Int))), r11.2.1, r11.2.2.1, s.2.2.2.2.2.1, s.2.2.2.2.2.2.1, s.2.2.2.2.2.2.2.1, (s.2.2.2.2.2.2.2.2.1 ++ [(Lk.mk s.2.1 s.2.2.1 (wrap64 ((wrap64 (((1 : Int) + r9.1)) + wrap64 ((wrap64 (Int.tdiv r10.1 ((3 : Int))) * r11.1))))))]), ()))) else none) else (sh_spec_l6Rd_pick (((6 : Int), (r8.2.1, (r8.2.2.1, ()))))).bind fun r12 => (bif decide ((r12.1 < s.1)) then (sh_spec_l6Rd_pick (((3 : Int), (r12.2.1, (r12.2.2.1, ()))))).bind fun r13 => (sh_spec_l6Rd_pick (((4 : Int), (r13.2.1, (r13.2.2.1, ()))))).bind fun r14 => (sh_spec_l6Rd_pick (((8 : Int), (r14.2.1, (r14.2.2.1, ()))))).bind fun r15 => (bif decide (((List.length s.2.2.2.2.2.2.2.2.1 + List.length ([(Lk.mk s.2.1 s.2.2.1 (wrap64 ((wrap64 (((1 : Int) + r13.1)) + wrap64 ((wrap64 (Int.tdiv r14.1 ((3 : Int))) * r15.1))))))])) ≤ (33554432 : Nat))) then some (Sum.inl ((s.1, s.2.1, wrap64 ((s.2.2.1 + (1 : Int))), r15.2.1, r15.2.2.1, s.2.2.2.2.2.1, s.2.2.2.2.2.2.1, s.2.2.2.2.2.2.2.1, (s.2.2.2.2.2.2.2.2.1 ++ [(Lk.mk s.2.1 s.2.2.1 (wrap64 ((wrap64 (((1 : Int) + r13.1)) + wrap64 ((wrap64 (Int.tdiv r14.1 ((3 : Int))) * r15.1))))))]), ()))) else none) else some (Sum.inl ((s.1, s.2.1, wrap64 ((s.2.2.1 + (1 : Int))), r12.2.1, r12.2.2.1, s.2.2.2.2.2.1, s.2.2.2.2.2.2.1, s.2.2.2.2.2.2.2.1, s.2.2.2.2.2.2.2.2.1, ()))))) else (sh_spec_l6Rd_pick (((6 : Int), (s.2.2.2.1, (s.2.2.2.2.1, ()))))).bind fun r16 => (bif decide ((r16.1 < s.1)) then (sh_spec_l6Rd_pick (((3 : Int), (r16.2.1, (r16.2.2.1, ()))))).bind fun r17 => (sh_spec_l6Rd_pick (((4 : Int), (r17.2.1, (r17.2.2.1, ()))))).bind fun r18 => (sh_spec_l6Rd_pick (((8 : Int), (r18.2.1, (r18.2.2.1, ()))))).bind fun r19 => (bif decide (((List.length s.2.2.2.2.2.2.2.2.1 + List.length ([(Lk.mk s.2.1 s.2.2.1 (wrap64 ((wrap64 (((1 : Int) + r17.1)) + wrap64 ((wrap64 (Int.tdiv r18.1 ((3 : Int))) * r19.1))))))])) ≤ (33554432 : Nat))) then some (Sum.inl ((s.1, s.2.1, wrap64 ((s.2.2.1 + (1 : Int))), r19.2.1, r19.2.2.1, s.2.2.2.2.2.1, s.2.2.2.2.2.2.1, s.2.2.2.2.2.2.2.1, (s.2.2.2.2.2.2.2.2.1 ++ [(Lk.mk s.2.1 s.2.2.1 (wrap64 ((wrap64 (((1 : Int) + r17.1)) + wrap64 ((wrap64 (Int.tdiv r18.1 ((3 : Int))) * r19.1))))))]), ()))) else none) else some (Sum.inl ((s.1, s.2.1, wrap64 ((s.2.2.1 + (1 : Int))), r16.2.1, r16.2.2.1, s.2.2.2.2.2.1, s.2.2.2.2.2.2.1, s.2.2.2.2.2.2.2.1, s.2.2.2.2.2.2.2.2.1, ()))))) else some (Sum.inl ((s.1, s.2.1, wrap64 ((s.2.2.1 + (1 : Int))), s.2.2.2.1, s.2.2.2.2.1, s.2.2.2.2.2.1, s.2.2.2.2.2.2.1, s.2.2.2.2.2.2.2.1, s.2.2.2.2.2.2.2.2.1, ())))) else (bif decide ((nI (List.length s.2.2.2.2.2.2.2.2.1) < (14 : Int))) then (sh_spec_l6Rd_pick (((6 : Int), (s.2.2.2.1, (s.2.2.2.2.1, ()))))).bind fun r20 => (bif decide ((r20.1 < s.1)) then (sh_spec_l6Rd_pick (((3 : Int), (r20.2.1, (r20.2.2.1, ()))))).bind fun r21 => (sh_spec_l6Rd_pick (((4 : Int), (r21.2.1, (r21.2.2.1, ()))))).bind fun r22 => (sh_spec_l6Rd_pick (((8 : Int), (r22.2.1, (r22.2.2.1, ()))))).bind fun r23 => (bif decide (((List.length s.2.2.2.2.2.2.2.2.1 + List.length ([(Lk.mk s.2.1 s.2.2.1 (wrap64 ((wrap64 (((1 : Int) + r21.1)) + wrap64 ((wrap64 (Int.tdiv r22.1 ((3 : Int))) * r23.1))))))])) ≤ (33554432 : Nat))) then some (Sum.inl ((s.1, s.2.1, wrap64 ((s.2.2.1 + (1 : Int))), r23.2.1, r23.2.2.1, s.2.2.2.2.2.1, s.2.2.2.2.2.2.1, s.2.2.2.2.2.2.2.1, (s.2.2.2.2.2.2.2.2.1 ++ [(Lk.mk s.2.1 s.2.2.1 (wrap64 ((wrap64 (((1 : Int) + r21.1)) + wrap64 ((wrap64 (Int.tdiv r22.1 ((3 : Int))) * r23.1))))))]), ()))) else none) else some (Sum.inl ((s.1, s.2.1, wrap64 ((s.2.2.1 + (1 : Int))), r20.2.1, r20.2.2.1, s.2.2.2.2.2.1, s.2.2.2.2.2.2.1, s.2.2.2.2.2.2.2.1, s.2.2.2.2.2.2.2.2.1, ())))) else some (Sum.inl ((s.1, s.2.1, wrap64 ((s.2.2.1 + (1 : Int))), s.2.2.2.1, s.2.2.2.2.1, s.2.2.2.2.2.1, s.2.2.2.2.2.2.1, s.2.2.2.2.2.2.2.1, s.2.2.2.2.2.2.2.2.1, ())))))) else some (Sum.inr (Sum.inl ((s.1, s.2.1, s.2.2.2.1, s.2.2.2.2.1, s.2.2.2.2.2.1, s.2.2.2.2.2.2.1, s.2.2.2.2.2.2.2.1, s.2.2.2.2.2.2.2.2.1, ())))))
def bo_spec_l91Graph_6 (s : (Int × Int × List Int × Int × Int × List Lk × Int × List Lk × Unit)) : Option ((Int × Int × List Int × Int × Int × List Lk × Int × List Lk × Unit) ⊕ ((List Int × Int × Int × List Lk × Int × List Lk × Unit) ⊕ Unit)) := (bif decide ((s.2.1 < s.2.2.2.2.2.2.1)) then (lp bo_spec_l91Graph_9 fuel ((s.1, (s.2.1, (wrap64 ((s.2.1 + (1 : Int))), (s.2.2.1, (s.2.2.2.1, (s.2.2.2.2.1, (s.2.2.2.2.2.1, (s.2.2.2.2.2.2.1, (s.2.2.2.2.2.2.2.1, ()))))))))))).bind fun r0 => (match r0 with | .inl x1 => some (Sum.inl ((x1.1, wrap64 ((x1.2.1 + (1 : Int))), x1.2.2.1, x1.2.2.2.1, x1.2.2.2.2.1, x1.2.2.2.2.2.1, x1.2.2.2.2.2.2.1, x1.2.2.2.2.2.2.2.1, ()))) | .inr _ => none) else some (Sum.inr (Sum.inl ((s.2.2.1, s.2.2.2.1, s.2.2.2.2.1, s.2.2.2.2.2.1, s.2.2.2.2.2.2.1, s.2.2.2.2.2.2.2.1, ())))))
def sh_spec_l91Graph (s : (List Int × Int × Unit)) : Option (Int × List Int × Int × List Lk × Unit) := (sh_spec_l6Rd_pick (((7 : Int), (s.1, (s.2.1, ()))))).bind fun r0 => (sh_spec_l6Rd_pick (((3 : Int), (r0.2.1, (r0.2.2.1, ()))))).bind fun r1 => (bif decide (((0 : Int) < r1.1)) then (sh_spec_l6Rd_pick (((4 : Int), (r1.2.1, (r1.2.2.1, ()))))).bind fun r2 => (sh_spec_l6Rd_pick (((3 : Int), (r2.2.1, (r2.2.2.1, ()))))).bind fun r3 => (lp bo_spec_l91Graph_6 fuel ((wrap64 (((1 : Int) + r3.1)), ((0 : Int), (r3.2.1, (r3.2.2.1, ((0 : Int), (([] : List Lk), (wrap64 (((4 : Int) + r2.1)), (([] : List Lk), ())))))))))).bind fun r4 => (match r4 with | .inl x5 => (sh_spec_l6Rd_pick (((24 : Int), (x5.1, (x5.2.1, ()))))).bind fun r6 => (bif decide ((r6.1 = (0 : Int))) then some (((1 : Int), r6.2.1, r6.2.2.1, ([] : List Lk), ())) else some ((x5.2.2.2.2.1, r6.2.1, r6.2.2.1, x5.2.2.2.2.2.1, ()))) | .inr _ => none) else (sh_spec_l6Rd_pick (((3 : Int), (r1.2.1, (r1.2.2.1, ()))))).bind fun r7 => (lp bo_spec_l91Graph_6 fuel ((wrap64 (((1 : Int) + r7.1)), ((0 : Int), (r7.2.1, (r7.2.2.1, ((0 : Int), (([] : List Lk), (wrap64 (((2 : Int) + r0.1)), (([] : List Lk), ())))))))))).bind fun r8 => (match r8 with | .inl x9 => (sh_spec_l6Rd_pick (((24 : Int), (x9.1, (x9.2.1, ()))))).bind fun r10 => (bif decide ((r10.1 = (0 : Int))) then some (((1 : Int), r10.2.1, r10.2.2.1, ([] : List Lk), ())) else some ((x9.2.2.2.2.1, r10.2.1, r10.2.2.1, x9.2.2.2.2.2.1, ()))) | .inr _ => none))
def sh_spec_l91Node (s : (Int × List Lk × List Int × Int × Unit)) : Option (Int × List Int × Int × Unit) := (sh_spec_l6Rd_pick (((20 : Int), (s.2.2.1, (s.2.2.2.1, ()))))).bind fun r0 => (bif decide ((r0.1 = (0 : Int))) then (sh_spec_l6Rd_pick (((11 : Int), (r0.2.1, (r0.2.2.1, ()))))).bind fun r1 => some ((wrap64 ((r1.1 - (1 : Int))), r1.2.1, r1.2.2.1, ())) else (sh_spec_l6Rd_pick ((max s.1 ((1 : Int)), (r0.2.1, (r0.2.2.1, ()))))).bind fun r2 => some ((r2.1, r2.2.1, r2.2.2.1, ())))
def bo_spec_l91Spoilt_7 (s : (Int × List Int × Int × Int × List Lk × Int × List Lk × Unit)) : Option ((List Int × Int × Int × List Lk × Int × List Lk × Unit) ⊕ Unit) := (sh_spec_l6Rd_pick (((3 : Int), (s.2.1, (s.2.2.1, ()))))).bind fun r0 => (bif inR r0.1 (List.length ([(0 : Int), (20 : Int), (21 : Int)])) then (bif inR s.1 (List.length s.2.2.2.2.2.2.1) then some (Sum.inl ((r0.2.1, r0.2.2.1, s.2.2.2.1, s.2.2.2.2.1, s.2.2.2.2.2.1, List.set s.2.2.2.2.2.2.1 (Int.toNat s.1) ((Lk.mk ((at! .lk s.2.2.2.2.2.2.1 (Int.toNat s.1)).a) ((at! .lk s.2.2.2.2.2.2.1 (Int.toNat s.1)).b) (at! .int ([(0 : Int), (20 : Int), (21 : Int)]) (Int.toNat r0.1)))), ()))) else none) else none)
def sh_spec_l91Spoilt (s : (List Int × Int × Unit)) : Option (Int × List Int × Int × List Lk × Unit) := (sh_spec_l91Graph ((s.1, (s.2.1, ())))).bind fun r0 => (bif decide ((nI (List.length r0.2.2.2.1) = (0 : Int))) then some ((r0.1, r0.2.1, r0.2.2.1, r0.2.2.2.1, ())) else (sh_spec_l6Rd_pick ((nI (List.length r0.2.2.2.1), (r0.2.1, (r0.2.2.1, ()))))).bind fun r1 => (sh_spec_l6Rd_pick (((24 : Int), (r1.2.1, (r1.2.2.1, ()))))).bind fun r2 => (bif decide ((r2.1 = (0 : Int))) then (bo_spec_l91Spoilt_7 ((r1.1, (r2.2.1, (r2.2.2.1, ((0 : Int), (([] : List Lk), (r0.1, (r0.2.2.2.1, ()))))))))).bind fun r3 => (match r3 with | .inl x4 => some ((x4.2.2.2.2.1, x4.1, x4.2.1, x4.2.2.2.2.2.1, ())) | .inr _ => none) else (bif decide ((r2.1 = (1 : Int))) then (sh_spec_l6Rd_pick (((10 : Int), (r2.2.1, (r2.2.2.1, ()))))).bind fun r5 => (bif inR r1.1 (List.length r0.2.2.2.1) then some ((r0.1, r5.2.1, r5.2.2.1, List.set r0.2.2.2.1 (Int.toNat r1.1) ((Lk.mk ((at! .lk r0.2.2.2.1 (Int.toNat r1.1)).a) r5.1 ((at! .lk r0.2.2.2.1 (Int.toNat r1.1)).c))), ())) else none) else (bif decide ((r2.1 = (2 : Int))) then (sh_spec_l6Rd_pick (((10 : Int), (r2.2.1, (r2.2.2.1, ()))))).bind fun r6 => some ((r6.1, r6.2.1, r6.2.2.1, r0.2.2.2.1, ())) else (bif decide ((r2.1 = (3 : Int))) then (bif inR r1.1 (List.length r0.2.2.2.1) then (bif decide (((List.length r0.2.2.2.1 + List.length ([(Lk.mk ((at! .lk r0.2.2.2.1 (Int.toNat r1.1)).a) ((at! .lk r0.2.2.2.1 (Int.toNat r1.1)).b) ((at! .lk r0.2.2.2.1 (Int.toNat r1.1)).c))])) ≤ (33554432 : Nat))) then some ((r0.1, r2.2.1, r2.2.2.1, (r0.2.2.2.1 ++ [(Lk.mk ((at! .lk r0.2.2.2.1 (Int.toNat r1.1)).a) ((at! .lk r0.2.2.2.1 (Int.toNat r1.1)).b) ((at! .lk r0.2.2.2.1 (Int.toNat r1.1)).c))]), ())) else none) else none) else some ((r0.1, r2.2.1, r2.2.2.1, r0.2.2.2.1, ())))))))
end Go.Proofs.Ytdfkphagjkpgdaa
end
