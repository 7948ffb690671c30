/- The abstract machine: what an operation that makes or writes memory does. No program is named here. -/
import Derived.Test.YtkeihpihphefgaaAx3
import Derived.Great.BuildSlice
import Derived.Maps.AppendAt
namespace Go.Proofs.Ytkeihpihphefgaa
open Go.RowKit

class TZ (P : Program) (t : TypeId) (zs : outParam (List Value)) : Prop where
  zero : ∃ z, (∀ w, (zeroValue t).run P w = .ok z w) ∧ z.cells.toList = zs ∧ ∀ u ∈ zs, u.oneCell' = true
class TC (P : Program) (f : FuncId) : Prop where
  call : ∀ args w, (callFunc f args).run P w = .ok (.enter f args) w

def EffR (P : Program) (bl : Bool) (o : Oper) (st : St) (R : St → Prop) : Prop := ∀ C a w β, Sim C st a w β → (∀ i, o.dst = some i → i < C.N) → ∀ K Q, (∀ st' u w' β', R st' → Sim C st' (a.put o.dst u) w' β' → Step w st.h β w' st'.h β' → (bl = true → Below w.heap.size w w') → K (a.put o.dst u) w') → o.wp P a w K Q
/-- Cells of a value that a store or a box lays down. -/
def okc : PV → Bool
  | .im (.s v) => v.oneCell'
  | .im (.sl _ _ _) => true
  | .own _ _ | .ptr _ _ | .at_ _ _ => true
  | _ => false
def cellsOf : PV → List PV
  | .agg cs => cs
  | v => [v]
section
variable {P : Program} {st : St} {o : Oper} {C : Ctx} {a : Act} {w w' : World} {β β' : List (Nat × Nat)} {M N : Nat} {Q : AQ} {ops : Array Oper} {rest : List Oper}
theorem awl_eff {bl : Bool} {R : St → Prop} (hg : o.guard = none) (he : EffR P bl o st R) (hd : ∀ i, o.dst = some i → i < N) (h : ∀ st', R st' → awl P M N ops Q rest st') : awl P M N ops Q (o :: rest) st := fun C a w β hN hM S =>
  wpList_plain hg fun _ hK => he C a w β S (by rw [hN]; exact hd) _ _ fun st' _ _ β' hR S' _ _ => hK _ _ (h st' hR C _ _ β' hN hM S')
theorem C1.okc {E : Nat → Prop} {B : Nat} {v : PV} {u : Value} (h : C1 w E B β v u) (hv : okc v = true) : u.oneCell' = true := h.one fun v' e => by subst e; exact hv
theorem cells_of {E : Nat → Prop} {B : Nat} {v : PV} {u : Value} (h : Cv w E B β v u) (hv : (cellsOf v).all okc = true) : ∃ us : List Value, u.cells = us.toArray ∧ F2 (C1 w E B β) (cellsOf v) us ∧ ∀ x ∈ us, x.oneCell' = true := by
  have one : C1 w E B β v u → cellsOf v = [v] → ∃ us : List Value, u.cells = us.toArray ∧ F2 (C1 w E B β) (cellsOf v) us ∧ ∀ x ∈ us, x.oneCell' = true := fun h e => by
    rw [e] at hv ⊢
    have h1 := h.okc (by simpa using hv)
    refine ⟨[u], ?_, F2.nil.cons h, by simpa using h1⟩
    cases u <;> first | rfl | cases h1
  cases v with
  | agg cs =>
    obtain ⟨us, rfl, h2⟩ := h
    refine ⟨us, rfl, h2, fun x hx => ?_⟩
    obtain ⟨i, hi⟩ := List.getElem?_of_mem hx
    have hl : i < cs.length := by rw [← h2.1]; exact (List.getElem?_eq_some_iff.1 hi).1
    have hc := List.getElem?_eq_getElem hl
    exact (h2.2 i _ x hc hi).okc (by
      have := List.all_eq_true.1 hv cs[i] (List.mem_iff_getElem.2 ⟨i, hl, rfl⟩)
      exact this)
  | im x => exact one h rfl
  | own k n => exact one h rfl
  | ptr k o => exact one h rfl
  | at_ xs o => exact one h rfl
  | fn f caps => simp [cellsOf, okc] at hv
  | tup cs => simp [cellsOf, okc] at hv
theorem eff_new {t : TypeId} {xs : List PV} {us : List Value} {v : PV} {u : Value} (S : Sim C st a w β) (hd : ∀ i, o.dst = some i → i < C.N) {r c : Nat} {st' : St} (hst : st' = (St.mk st.t (st.h ++ [.obj t xs r])).put o.dst v) (hr : F2 (C1 w (Liv st.h β) C.B β) xs us)
    (h1 : ∀ u ∈ us, u.oneCell' = true) (hc : 0 < r → us.length = c * r ∧ c ≤ maxLen)
    (hv : (β ++ [(w.heap.size, c)])[st.h.length]? = some (w.heap.size, c) → Cv (w.alloc (.cells us.toArray t)) (Liv (st.h ++ [.obj t xs r]) (β ++ [(w.heap.size, c)])) C.B (β ++ [(w.heap.size, c)]) v u) :
    Sim C st' (a.put o.dst u) (w.alloc (.cells us.toArray t)) (β ++ [(w.heap.size, c)]) ∧ Step w st.h β (w.alloc (.cells us.toArray t)) st'.h (β ++ [(w.heap.size, c)]) ∧ Below w.heap.size w (w.alloc (.cells us.toArray t)) := by
  have hb : Below w.heap.size w (w.alloc (.cells us.toArray t)) := (Below.refl _ _).alloc (Nat.le_refl _) _
  have S1 := S.new (w' := w.alloc (.cells us.toArray t)) hb (B := w.heap.size) (c := c) (r := r) (t := t) (us := us) (junk := []) (xs := xs) (Nat.le_refl _) (by rw [List.append_nil]; exact heap_alloc_new w _) hr h1 (fun _ => rfl) (by simpa using hc)
  have hβ : (β ++ [(w.heap.size, c)])[st.h.length]? = some (w.heap.size, c) := by rw [List.getElem?_append_right (by rw [S.heap.len]; exact Nat.le_refl _), S.heap.len, Nat.sub_self]; rfl
  have S2 := S1.putO hd (hv hβ)
  rw [← hst] at S2
  refine ⟨S2, ⟨hb.os, hb.tape, hb.output, hb.size, fun i hi _ => hb.block i hi, fun i hi h => ?_, pre_app _⟩, hb⟩
  have hh : st'.h = st.h ++ [.obj t xs r] := by rw [hst]; cases o.dst <;> rfl
  rw [hh] at h
  exact (liv_push S.heap.len h).resolve_right (by omega)
theorem eff_box {t k : Nat} {x : Operand} {v : PV} (ho : o.op = .box t x) (hx : opv st.t x = some v) (hv : (cellsOf v).all okc = true) (hk : st.h.length = k) : EffR P true o st (· = (St.mk st.t (st.h ++ [.obj t (cellsOf v) 0])).put o.dst (.ptr k 0)) := by
  intro C a w β S hd K Q' hK
  obtain ⟨us, h1, h2, h3⟩ := cells_of (S.op hx) hv
  obtain ⟨S', hs, hb⟩ := eff_new (o := o) (t := t) (r := 0) (c := 0) (v := .ptr k 0) (u := .pointer (some ⟨w.heap.size, 0, none⟩)) S hd rfl h2 h3 (fun h => by omega) (fun h => by rw [hk] at h; exact ⟨_, _, h, rfl⟩)
  have hr : (execOp a.eval o).run P w = .ok (.value (.pointer (some ⟨w.heap.size, 0, none⟩))) (w.alloc (.cells us.toArray t)) := by simp [execOp, ho, Instr.box, newVar, newRow, h1]
  unfold Oper.wp
  rw [hr]
  exact hK _ _ _ _ rfl S' hs fun _ => hb
theorem eff_alloc {t k : Nat} {zs : List Value} [T : TZ P t zs] (ho : o.op = .alloc t) (hk : st.h.length = k) : EffR P true o st (· = (St.mk st.t (st.h ++ [.obj t (zs.map fun z => .im (.s z)) 0])).put o.dst (.ptr k 0)) := by
  intro C a w β S hd K Q' hK
  obtain ⟨z, hz, hzs, h1⟩ := T.zero
  have h2 : F2 (C1 w (Liv st.h β) C.B β) (zs.map fun z => .im (.s z)) zs := ⟨by simp, fun i x u hx hu => by
    simp only [List.getElem?_map, hu, Option.map_some, Option.some.injEq] at hx
    subst hx
    exact Ri.s u⟩
  obtain ⟨S', hs, hb⟩ := eff_new (o := o) (t := t) (r := 0) (c := 0) (v := .ptr k 0) (u := .pointer (some ⟨w.heap.size, 0, none⟩)) S hd rfl h2 h1 (fun h => by omega) (fun h => by rw [hk] at h; exact ⟨_, _, h, rfl⟩)
  have hr : (execOp a.eval o).run P w = .ok (.value (.pointer (some ⟨w.heap.size, 0, none⟩))) (w.alloc (.cells zs.toArray t)) := by
    have e : z.cells = zs.toArray := by rw [← hzs]
    simp [execOp, ho, Instr.alloc, newVar, newRow, hz, e]
  unfold Oper.wp
  rw [hr]
  exact hK _ _ _ _ rfl S' hs fun _ => hb

/-! ### A store -/
def wr {α : Type} (xs : List α) (p : Nat) (ys : List α) : List α := xs.take p ++ ys ++ xs.drop (p + ys.length)
theorem F2.wr {α γ : Type} {R : α → γ → Prop} {xs ys : List α} {us vs : List γ} (h : F2 R xs us) (k : F2 R ys vs) (p : Nat) : F2 R (wr xs p ys) (us.take p ++ vs ++ us.drop (p + vs.length)) := by
  have h1 := h.part 0 p
  have h2 := h.part (p + ys.length) (xs.length - (p + ys.length))
  simp only [List.drop_zero] at h1
  rw [List.take_of_length_le (by simp), List.take_of_length_le (by simp [h.1])] at h2
  rw [k.1]
  exact (h1.app k).app h2
theorem eff_store {t t' size r k p : Nat} {ag : Bool} {x y : Operand} {v : PV} {xs : List PV} [T : TB P t ag size] (ho : o.op = .store t x y) (hx : opv st.t x = some (.ptr k p)) (hy : opv st.t y = some v) (hv : (cellsOf v).all okc = true) (hl : (cellsOf v).length = size)
    (hk : st.h[k]? = some (.obj t' xs r)) (hin : p + size ≤ xs.length) (hdst : o.dst = none) : EffR P false o st (· = St.mk st.t (st.h.set k (.obj t' (wr xs p (cellsOf v)) r))) := by
  intro C a w β S hd K Q' hK
  obtain ⟨vs, h1, h2, h3⟩ := cells_of (S.op hy) hv
  obtain ⟨b, c, hb, ex⟩ := S.op hx
  obtain ⟨b', c', us, junk, hb', hh, hr, h4, h5, h6⟩ := S.obj hk
  rw [hb] at hb'
  injection hb' with e
  injection e with e1 e2
  subst e1 e2
  have hvl : vs.length = size := by rw [h2.1, hl]
  have hul := hr.1
  have hst := run_storeCells_at (P := P) b p t' vs 0 (us ++ junk).toArray w hh (by simp; omega) h3
  have htk : ((us ++ junk).take p ++ vs ++ (us ++ junk).drop (p + vs.length)) = (us.take p ++ vs ++ us.drop (p + vs.length)) ++ junk := by
    rw [List.take_append_of_le_length (by omega), List.drop_append_of_le_length (by omega)]
    simp
  simp only [Nat.add_zero] at hst
  rw [htk] at hst
  have hrun : (execOp a.eval o).run P w = .ok .skip (w.setRow b ((us.take p ++ vs ++ us.drop (p + vs.length)) ++ junk).toArray) := by
    simp [execOp, ho, ex, Instr.storeAt, Instr.sureAddr, storeVar, h1, T.sz, hvl, hst]
  have hlen : (us.take p ++ vs ++ us.drop (p + vs.length)).length = us.length := by simp; omega
  have S1 := S.turn (w' := w.setRow b ((us.take p ++ vs ++ us.drop (p + vs.length)) ++ junk).toArray) (junk := junk) hk hb rfl rfl rfl (by simp [World.setRow]) (fun i _ hne => setRow_other w b i _ hne) (setRow_heap w b _ _ _ _ hh) (hr.wr h2 p)
    (fun u hu => by
      simp only [List.mem_append] at hu
      rcases hu with (hu | hu) | hu
      · exact h4 u (List.mem_of_mem_take hu)
      · exact h3 u hu
      · exact h4 u (List.mem_of_mem_drop hu)) h5 (fun h0 => by rw [List.length_append, hlen, ← List.length_append]; exact h6 h0)
  unfold Oper.wp
  rw [hrun]
  have hput : ∀ u, a.put o.dst u = a := fun u => by rw [hdst]; rfl
  have := hK ⟨st.t, st.h.set k (.obj t' (Go.Proofs.Ytkeihpihphefgaa.wr xs p (cellsOf v)) r)⟩ undef (w.setRow b ((us.take p ++ vs ++ us.drop (p + vs.length)) ++ junk).toArray) β rfl (by rw [hput]; exact S1)
    ⟨rfl, rfl, rfl, by simp [World.setRow], fun i hi hn => setRow_other w b i _ (by rintro rfl; exact hn ⟨k, t', xs, r, c, hk, hb⟩), fun i _ h => liv_set hk h, fun _ _ h => h⟩ (fun h => by cases h)
  exact this

/-! ### Slices that are made -/
theorem fold_set (off : Nat) : ∀ (us : List Value) (k : Nat) (cs : Array Value), off + k + us.length ≤ cs.size → (us.zipIdx k).foldl (fun (cs : Array Value) (p : Value × Nat) => cs.setIfInBounds (off + p.2) p.1) cs = (cs.toList.take (off + k) ++ us ++ cs.toList.drop (off + k + us.length)).toArray
  | [], k, cs, h => by simp
  | u :: r, k, cs, h => by
    rw [List.zipIdx_cons, List.foldl_cons, fold_set off r (k + 1) _ (by simp at h ⊢; omega)]
    simp only [List.length_cons] at h
    congr 1
    rw [Array.toList_setIfInBounds, show off + (k + 1) = off + k + 1 by omega, List.take_succ_eq_append_getElem (by simp; omega)]
    rw [List.take_set_of_le (by omega), List.getElem_set_self, List.drop_set_of_lt (by omega)]
    simp only [List.append_assoc, List.nil_append, List.cons_append, List.length_cons]
    rw [show off + k + 1 + r.length = off + k + (r.length + 1) by omega]
theorem fill1 {place : Nat → Option (Nat × Nat)} {cells : Array Value} {i off size : Nat} {v : Value} {us : List Value} {rest : List (Nat × Value)} (hp : place i = some (off, size)) (hv : v.cells = us.toArray) (hl : us.length = size) (hin : off + size ≤ cells.size) : Instr.fill place cells ((i, v) :: rest) = Instr.fill place (cells.toList.take off ++ us ++ cells.toList.drop (off + size)).toArray rest := by
  have hsz : v.cells.size = size := by rw [hv]; simpa using hl
  have hfo := fold_set off us 0 cells (by omega)
  have hno : ¬ (v.cells.size ≠ size || decide (off + v.cells.size > cells.size)) = true := by simp [hsz]; omega
  have he : Array.foldl (fun (cs : Array Value) (x : Value × Nat) => cs.setIfInBounds (off + x.2) x.1) cells v.cells.zipIdx = List.foldl (fun (cs : Array Value) (p : Value × Nat) => cs.setIfInBounds (off + p.2) p.1) cells (us.zipIdx 0) := by
    rw [hv, ← Array.foldl_toList]; simp
  rw [Instr.fill, hp]
  simp only [hno]
  rw [he, hfo, Nat.add_zero, hl]
  rfl
theorem made_flat {α : Type} (enc : α → List Value) (z : α) (zc : Array Value) (hz : zc.toList = enc z) (h0 : 0 < zc.size) (n : Nat) : (madeCells zc (n * zc.size)).toList = (List.replicate n z).flatMap enc := by
  have hl : ∀ x : α, x = z → (enc x).length = zc.size := by rintro x rfl; rw [← hz]; simp
  have hlen : ((List.replicate n z).flatMap enc).length = n * zc.size := by
    induction n with
    | zero => simp
    | succ n ih => rw [List.replicate_succ, List.flatMap_cons, List.length_append, ih, hl z rfl, Nat.succ_mul]; omega
  refine List.ext_getElem? fun j => ?_
  rcases Nat.lt_or_ge j (n * zc.size) with hj | hj
  · have e1 : (madeCells zc (n * zc.size)).toList[j]? = some zc[j % zc.size]! := by
      simp [madeCells, hj]
    have hm := Nat.mod_lt j h0
    have e2 : ((List.replicate n z).flatMap enc)[j]? = (enc z)[j % zc.size]? := by
      clear e1 hlen hl
      induction n generalizing j with
      | zero => omega
      | succ n ih =>
        rw [List.replicate_succ, List.flatMap_cons]
        have hez : (enc z).length = zc.size := by rw [← hz]; simp
        rcases Nat.lt_or_ge j zc.size with h | h
        · rw [List.getElem?_append_left (by omega), Nat.mod_eq_of_lt h]
        · rw [List.getElem?_append_right (by omega), hez, ih (j - zc.size) (by rw [Nat.succ_mul] at hj; omega) (Nat.mod_lt _ h0), Nat.mod_eq_sub_mod h]
    rw [e1, e2, ← hz]
    simp [hm]
  · rw [List.getElem?_eq_none (by simp [madeCells]; omega), List.getElem?_eq_none (by omega)]
theorem run_elem {t e size bytes : Nat} [T : TS P t e size bytes] : ∃ i z, P.info? e = some i ∧ i.zero = some z ∧ i.size = size ∧ i.bytes = bytes ∧ z.cells.size = size := T.info
theorem eff_make {t e size bytes k n : Nat} {kl kc : IntKind} {x y : Operand} {zs : List Value} [T : TS P t e size bytes] [Z : TZ P e zs] (ho : o.op = .makeSlice t x y) (hx : opv st.t x = some (.im (.s (.int kl (n : Int))))) (hy : opv st.t y = some (.im (.s (.int kc (n : Int)))))
    (hn : n ≤ 16777216) (hk : st.h.length = k) : EffR P true o st (· = (St.mk st.t (st.h ++ [.obj e (ims ((List.replicate n (zs.map IV.s)).flatten)) size])).put o.dst (.own k n)) := by
  intro C a w β S hd K Q' hK
  obtain ⟨i, z, h1, h2, h3, h4, h5⟩ := T.info
  obtain ⟨z', hz, hzs, h1c⟩ := Z.zero
  have hzz : z' = z := by
    have := hz w
    simp [zeroValue, typeInfo, h1, h2] at this
    exact this.symm
  subst hzz
  have hsm := T.small
  have hb : i.bytes * n ≤ 281474976710656 := by
    have := Nat.mul_le_mul hsm hn
    rw [h4]; omega
  have hpos := T.pos
  have hb2 : (i.bytes : Int) * (n : Int) ≤ 281474976710656 := by
    have : ((i.bytes * n : Nat) : Int) ≤ 281474976710656 := by omega
    simpa using this
  have hrun := run_make (P := P) (w := w) t e i z' T.und h1 h2 kl kc n n (by omega) (Int.le_refl _) hb2 (by omega)
  simp only [Int.toNat_natCast, h3] at hrun
  have hcs : (madeCells z'.cells (n * size)).toList = (List.replicate n zs).flatten := by
    have := made_flat (fun _ : Unit => zs) () z'.cells hzs (by omega) n
    rw [h5] at this
    rw [this, List.flatMap_def]
    simp
  have hr : F2 (C1 w (Liv st.h β) C.B β) (ims ((List.replicate n (zs.map IV.s)).flatten)) ((List.replicate n zs).flatten) := by
    have e : (List.replicate n (zs.map IV.s)).flatten = ((List.replicate n zs).flatten).map IV.s := by simp [List.map_flatten]
    rw [e]
    refine ⟨by simp [ims], fun j x u hx hu => ?_⟩
    simp only [ims, List.map_map, List.getElem?_map, hu, Option.map_some, Option.some.injEq, Function.comp] at hx
    subst hx
    exact Ri.s u
  have hone : ∀ u ∈ (List.replicate n zs).flatten, u.oneCell' = true := fun u hu => by
    simp only [List.mem_flatten, List.mem_replicate] at hu
    obtain ⟨l, ⟨_, rfl⟩, hm⟩ := hu
    exact h1c u hm
  have hlen : ((List.replicate n zs).flatten).length = n * size := by rw [← hcs]; simp [madeCells]
  obtain ⟨S', hs, hb⟩ := eff_new (o := o) (t := e) (r := size) (c := n) (v := .own k n) (u := .slice (some ⟨w.heap.size, 0, none⟩) n n) S hd rfl hr hone (fun _ => ⟨hlen, by unfold maxLen; omega⟩) (fun h => by rw [hk] at h; exact ⟨_, _, h, rfl⟩)
  have hr : (execOp a.eval o).run P w = .ok (.value (.slice (some ⟨w.heap.size, 0, none⟩) n n)) (w.alloc (.cells ((List.replicate n zs).flatten).toArray e)) := by
    have e1 : madeCells z'.cells (n * size) = ((List.replicate n zs).flatten).toArray := by rw [← hcs]
    simp only [execOp, ho, S.ev hx, S.ev hy, Sem.run_bind, hrun, e1, Result.andThen_ok]
    simp
  unfold Oper.wp
  rw [hr]
  exact hK _ _ _ _ rfl S' hs fun _ => hb
theorem eff_slice0 {t e size bytes k : Nat} [T : TS P t e size bytes] (ho : o.op = .buildSlice t 0 #[]) (hk : st.h.length = k) : EffR P true o st (· = (St.mk st.t (st.h ++ [.obj e [] size])).put o.dst (.own k 0)) := by
  intro C a w β S hd K Q' hK
  obtain ⟨S', hs, hb⟩ := eff_new (o := o) (t := e) (r := size) (c := 0) (v := .own k 0) (u := .slice (some ⟨w.heap.size, 0, none⟩) 0 0) S hd rfl (F2.nil (R := C1 w (Liv st.h β) C.B β)) (by simp) (fun _ => ⟨by simp, by unfold maxLen; omega⟩) (fun h => by rw [hk] at h; exact ⟨_, _, h, rfl⟩)
  have hr : (execOp a.eval o).run P w = .ok (.value (.slice (some ⟨w.heap.size, 0, none⟩) 0 0)) (w.alloc (.cells #[] e)) := by
    simp [execOp, ho, Instr.buildSlice, run_underlying T.und, run_sizeS (t := t) (e := e) (bytes := bytes) (size := size), Instr.fill, newRow, Array.range_zero']
  unfold Oper.wp
  rw [hr]
  exact hK _ _ _ _ rfl S' hs fun _ => hb
/-- One element. -/
theorem eff_slice1 {t e size bytes k : Nat} {x : Operand} {v : PV} [T : TS P t e size bytes] (ho : o.op = .buildSlice t 1 #[(0, x)]) (hx : opv st.t x = some v) (hv : (cellsOf v).all okc = true) (hl : (cellsOf v).length = size) (hsize : size ≤ 1000) (hk : st.h.length = k) :
    EffR P true o st (· = (St.mk st.t (st.h ++ [.obj e (cellsOf v) size])).put o.dst (.own k 1)) := by
  intro C a w β S hd K Q' hK
  obtain ⟨us, h1, h2, h3⟩ := cells_of (S.op hx) hv
  have hul : us.length = size := by rw [h2.1, hl]
  obtain ⟨S', hs, hb⟩ := eff_new (o := o) (t := e) (r := size) (c := 1) (v := .own k 1) (u := .slice (some ⟨w.heap.size, 0, none⟩) 1 1) S hd rfl h2 h3 (fun _ => ⟨by omega, by unfold maxLen; omega⟩) (fun h => by rw [hk] at h; exact ⟨_, _, h, rfl⟩)
  have hr : (execOp a.eval o).run P w = .ok (.value (.slice (some ⟨w.heap.size, 0, none⟩) 1 1)) (w.alloc (.cells us.toArray e)) := by
    obtain ⟨i, z, g1, g2, g3, g4, g5⟩ := T.info
    have hpos := T.pos
    have hfill := fill1 (place := fun i => some (i * size, size)) (cells := (Array.range (1 * size)).map (z.cells[· % z.cells.size]!)) (i := 0) (off := 0) (size := size) (v := a.eval x) (us := us) (rest := []) (by simp) h1 hul (by simp)
    simp only [List.take_zero, List.nil_append, Nat.zero_add] at hfill
    rw [List.drop_eq_nil_of_le (by simp), List.append_nil, Instr.fill] at hfill
    have := run_buildSlice (P := P) w t e 1 #[(0, a.eval x)] us.toArray i z T.und g1 g2 (by rw [g3]; have := hsize; omega) (by rw [g3]; omega) (by rw [g3]; exact hfill)
    simp [execOp, ho, this]
  unfold Oper.wp
  rw [hr]
  exact hK _ _ _ _ rfl S' hs fun _ => hb

/-! ### Append -/
theorem obj_own {E : Nat → Prop} {B k n size : Nat} {e : TypeId} {xs : List PV} (h : ObjAt w E B β k e xs size) (hp : 0 < size) (hn : xs.length = n * size) : ∃ b c us, β[k]? = some (b, c) ∧ w.ownsRow 0 e size (.slice (some ⟨b, 0, none⟩) n c) n us ∧ F2 (C1 w E B β) xs us ∧ (∀ u ∈ us, u.oneCell' = true) ∧ (∀ (j : Nat) u, us[j]? = some u → w.cell? ⟨b, j, none⟩ = some u) ∧ n ≤ c := by
  obtain ⟨b, c, us, junk, hb, hh, hr, h4, h5, h6⟩ := h
  obtain ⟨h7, h8⟩ := h6 hp
  have hnc : n ≤ c := by
    have h9 : n * size ≤ c * size := by rw [← h7, ← hn, ← hr.1]; simp
    exact Nat.le_of_mul_le_mul_right h9 hp
  refine ⟨b, c, us, hb, ⟨by rw [hr.1, hn], .inr ⟨b, c, (us ++ junk).toArray, rfl, Nat.zero_le _, hh, hnc, h8, by simpa using h7, ?_⟩⟩, hr, h4, fun j u hu => obj_cell hh hu, hnc⟩
  rw [← hn, ← hr.1]
  simp
theorem own_split {w : World} {base e size n : Nat} {v : Value} {us : List Value} (h : w.ownsRow base e size v n us) (hv : v ≠ .slice none 0 0) : ∃ g c junk, v = .slice (some ⟨g, 0, none⟩) n c ∧ w.heap[g]? = some (.cells (us ++ junk).toArray e (0, 0)) ∧ (us ++ junk).length = c * size ∧ c ≤ maxLen := by
  rcases h.2 with ⟨h1, _⟩ | ⟨g, c, cur, h1, h2, h3, h4, h5, h6, h7⟩
  · exact absurd h1 hv
  · have e : us ++ cur.toList.drop (n * size) = cur.toList := by rw [← h7, List.take_append_drop]
    exact ⟨g, c, cur.toList.drop (n * size), h1, by rw [e]; simpa using h3, by rw [e]; simpa using h6, h5⟩
/-- What is appended: cells that memory holds one after the other. -/
def SrcA (w : World) (E : Nat → Prop) (B : Nat) (β : List (Nat × Nat)) (u : Value) (m : Nat) (ys : List PV) : Prop :=
  ∃ b p c news, u = .slice (some ⟨b, p, none⟩) m c ∧ (∀ (j : Nat) v, news[j]? = some v → w.cell? ⟨b, p + j, none⟩ = some v) ∧ F2 (C1 w E B β) ys news ∧ ∀ v ∈ news, v.oneCell' = true
theorem src_own (S : Sim C st a w β) {j m r : Nat} {x : Operand} {e : TypeId} {ys : List PV} (hx : opv st.t x = some (.own j m)) (hj : st.h[j]? = some (.obj e ys r)) : SrcA w (Liv st.h β) C.B β (a.eval x) m ys := by
  obtain ⟨b, c, hb, ex⟩ := S.op hx
  obtain ⟨b', c', us, junk, hb', hh, hr, h4, _⟩ := S.obj hj
  rw [hb] at hb'
  injection hb' with q
  injection q with e1 e2
  subst e1 e2
  exact ⟨b, 0, c, us, ex, fun j v hv => by rw [Nat.zero_add]; exact obj_cell hh hv, hr, h4⟩
theorem eff_app {t e size bytes k n m : Nat} {s x : Operand} {xs ys : List PV} [T : TS P t e size bytes] (ho : o.op = .call { callee := .builtin .append, args := #[s, x], argTypes := #[t, t] }) (hs : opv st.t s = some (.own k n)) (hk : st.h[k]? = some (.obj e xs size)) (hn : xs.length = n * size)
    (hx : ∀ C a w β, Sim C st a w β → SrcA w (Liv st.h β) C.B β (a.eval x) m ys) (hm : ys.length = m * size) (hb : n + m ≤ 33554432) {K : Nat} (hK : st.h.length = K) : EffR P false o st (· = (St.mk st.t (st.h.set k .dead ++ [.obj e (xs ++ ys) size])).put o.dst (.own K (n + m))) := by
  intro C a w β S hd KK Q' hKK
  obtain ⟨i, z, g1, g2, g3, g4, g5⟩ := T.info
  have hpos := T.pos
  have hsm := T.small
  obtain ⟨b, c, hb1, es⟩ := S.op hs
  obtain ⟨b', c', us, hb1', hown, hr, hone, hcell, hnc⟩ := obj_own (S.obj hk) hpos hn
  rw [hb1] at hb1'
  injection hb1' with q
  injection q with e1 e2
  subst e1 e2
  obtain ⟨bx, px, cx, news, ex, hcx, hrx, h1x⟩ := hx C a w β S
  have hbytes : (n + m) * bytes ≤ 140737488355328 := by
    have := Nat.mul_le_mul hb hsm
    omega
  obtain ⟨v', w', hrun, hown', hgr, hnil, hor⟩ := run_append_own_at (P := P) (w := w) 0 t o.type e i z size bytes T.und g1 g2 g3 g4 g5 hpos _ n us hown ⟨bx, px, none⟩ m cx news (by rw [hrx.1, hm]) (fun j u hu => by rw [addr_add]; exact hcx j u hu) h1x (by unfold maxLen; omega) hbytes (Nat.zero_le _)
  obtain ⟨g, c2, junk, rfl, hh, hl, hmx⟩ := own_split hown' (fun e => by have := (hnil.1 e).1; cases this)
  have hg : g = b ∨ w.heap.size ≤ g := by
    rcases hor with e | e
    · simp [Value.ownBlock] at e; exact .inl e
    · simp [Value.ownBlock] at e; exact .inr (by omega)
  have hoth : ∀ i, i < w.heap.size → i ≠ b → w'.heap[i]? = w.heap[i]? := fun i hi hne => hgr.block i hi (by simpa [Value.ownBlock] using hne)
  have S1 := S.app (w' := w') (b' := g) (c' := c2) (junk := junk) (us := us ++ news) (xs' := xs ++ ys) hk hb1 hgr.os hgr.tape hgr.output hgr.size hoth hg hh (hr.app hrx) (fun u hu => by
    rcases List.mem_append.1 hu with h | h
    · exact hone u h
    · exact h1x u h) (fun e => by omega) (fun _ => ⟨hl, hmx⟩)
  have hβ : (β ++ [(g, c2)])[K]? = some (g, c2) := by rw [← hK, List.getElem?_append_right (by rw [S.heap.len]; exact Nat.le_refl _), S.heap.len, Nat.sub_self]; rfl
  have S2 := S1.putO hd (v := .own K (n + m)) (u := .slice (some ⟨g, 0, none⟩) (n + m) c2) ⟨_, _, hβ, rfl⟩
  have hrun2 : (execOp a.eval o).run P w = .ok (.value (.slice (some ⟨g, 0, none⟩) (n + m) c2)) w' := by
    simp only [execOp, ho, resolve, invoke, builtin, Sem.run_bind, Sem.run_pure, Result.andThen_ok, List.map_toArray, List.map_cons, List.map_nil, es, ex, hrun]
  unfold Oper.wp
  rw [hrun2]
  have hlb : Liv st.h β b := ⟨k, e, xs, size, c, hk, hb1⟩
  refine hKK _ _ _ _ rfl S2 ⟨hgr.os, hgr.tape, hgr.output, hgr.size, fun i hi hn => hoth i hi (by rintro rfl; exact hn hlb), fun i hi h => ?_, pre_app _⟩ (fun h => by cases h)
  have hh' : ((St.mk st.t (st.h.set k .dead ++ [.obj e (xs ++ ys) size])).put o.dst (.own K (n + m))).h = st.h.set k .dead ++ [.obj e (xs ++ ys) size] := by cases o.dst <;> rfl
  rw [hh'] at h
  rcases liv_push (by simp [S.heap.len]) h with h | h
  · obtain ⟨j, t1, xs1, r1, c1, h1, h2⟩ := h
    rw [List.getElem?_set] at h1
    split at h1
    · split at h1 <;> cases h1
    · exact ⟨j, t1, xs1, r1, c1, h1, h2⟩
  · rcases hg with e' | e'
    · rw [h, e']; exact hlb
    · omega
/-- Nil grows. -/
theorem eff_app0 {t e size bytes m : Nat} {s x : Operand} {ys : List PV} [T : TS P t e size bytes] (ho : o.op = .call { callee := .builtin .append, args := #[s, x], argTypes := #[t, t] }) (hs : opv st.t s = some (.im (.s (.slice none 0 0))))
    (hx : ∀ C a w β, Sim C st a w β → SrcA w (Liv st.h β) C.B β (a.eval x) m ys) (hm : ys.length = m * size) (h0 : 0 < m) (hb : m ≤ 33554432) {K : Nat} (hK : st.h.length = K) : EffR P true o st (· = (St.mk st.t (st.h ++ [.obj e ys size])).put o.dst (.own K m)) := by
  intro C a w β S hd KK Q' hKK
  obtain ⟨i, z, g1, g2, g3, g4, g5⟩ := T.info
  have hpos := T.pos
  have hsm := T.small
  have es := S.ev hs
  obtain ⟨bx, px, cx, news, ex, hcx, hrx, h1x⟩ := hx C a w β S
  have hbytes : (0 + m) * bytes ≤ 140737488355328 := by
    have := Nat.mul_le_mul hb hsm
    rw [Nat.zero_add]
    omega
  obtain ⟨v', w', hrun, hown', hgr, hnil, hor⟩ := run_append_own_at (P := P) (w := w) 0 t o.type e i z size bytes T.und g1 g2 g3 g4 g5 hpos _ 0 [] (World.ownsRow_nil w 0 e size) ⟨bx, px, none⟩ m cx news (by rw [hrx.1, hm]) (fun j u hu => by rw [addr_add]; exact hcx j u hu) h1x (by unfold maxLen; omega) hbytes (Nat.zero_le _)
  obtain ⟨g, c2, junk, rfl, hh, hl, hmx⟩ := own_split hown' (fun e => by have := (hnil.1 e).2; omega)
  rw [List.nil_append] at hh hl
  simp only [Nat.zero_add] at *
  have hg : w.heap.size ≤ g := by
    rcases hor with e | e
    · simp [Value.ownBlock] at e
    · simp [Value.ownBlock] at e; omega
  have hbw := below_of_none hgr
  have S1 := S.new (w' := w') hbw (B := g) (c := c2) (r := size) (junk := junk) (us := news) (xs := ys) hg hh hrx h1x (fun e => by omega) (fun _ => ⟨hl, hmx⟩)
  have hβ : (β ++ [(g, c2)])[K]? = some (g, c2) := by rw [← hK, List.getElem?_append_right (by rw [S.heap.len]; exact Nat.le_refl _), S.heap.len, Nat.sub_self]; rfl
  have S2 := S1.putO hd (v := .own K m) (u := .slice (some ⟨g, 0, none⟩) m c2) ⟨_, _, hβ, rfl⟩
  have hrun2 : (execOp a.eval o).run P w = .ok (.value (.slice (some ⟨g, 0, none⟩) m c2)) w' := by
    simp only [execOp, ho, resolve, invoke, builtin, Sem.run_bind, Sem.run_pure, Result.andThen_ok, List.map_toArray, List.map_cons, List.map_nil, es, ex, hrun]
  unfold Oper.wp
  rw [hrun2]
  refine hKK _ _ _ _ rfl S2 ⟨hgr.os, hgr.tape, hgr.output, hgr.size, fun i hi _ => hbw.block i hi, fun i hi h => ?_, pre_app _⟩ (fun _ => hbw)
  have hh' : ((St.mk st.t (st.h ++ [.obj e ys size])).put o.dst (.own K m)).h = st.h ++ [.obj e ys size] := by cases o.dst <;> rfl
  rw [hh'] at h
  exact (liv_push S.heap.len h).resolve_right (by omega)
end
end Go.Proofs.Ytkeihpihphefgaa
