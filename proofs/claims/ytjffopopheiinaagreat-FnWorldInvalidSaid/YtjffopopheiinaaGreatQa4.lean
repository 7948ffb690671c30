/- Part 4 of the proof: Mlc Mde Min Mlb SA KA SC KC SW. -/
import Derived.Lib.SliceRun
import Derived.Lib.Hide
import Derived.Lib.SlicesDelete
import Derived.Deep.RegionLaw
import Derived.Shelf.RegionOpenPlain
import Derived.Lib.Walk
import Derived.Lib.Overlaps
import Derived.Laws.Externs
import Derived.Lib.AppendZerosOnto
import Derived.Laws.CopyOwn
import Derived.Test.YtjffopopheiinaaGreatQa3
set_option linter.unusedSimpArgs false
set_option linter.unusedVariables false
section
namespace Go.Proofs.YtjffopopheiinaaGreat
open Go.RowKit

set_option maxRecDepth 100000 in
set_option maxHeartbeats 1000000 in
theorem l_Clone_bool_nil (n c : Nat) (w : World) : Calls Tryz.prog 61 #[.slice none n c] w fun e w' => e = .returned (.slice none 0 0) ∧ w' = w := by
  have q22 : ∀ (w : World) (a : Option Addr) (n c n' c' : Nat), (binOp .eql 26 (.slice a n c) (.slice none n' c')).run Tryz.prog w = .ok (.bool a.isNone) w := fun w a n c n' c' => Go.Lib.run_eql_slice_nil w _ _ a n c n' c' Tryz.underlying26
  go_enter Tryz.func61, Tryz.ntmps61
  go_wp2
  go_ret
  exact ⟨rfl, rfl⟩
set_option maxRecDepth 100000 in
set_option maxHeartbeats 1000000 in
theorem l_Clone_bool (A : Addr) (n c : Nat) (news : List Value) (w : World) (hl : news.length = n * 1) (hn : n ≤ 16777216) (hc : ∀ j u, news[j]? = some u → w.cell? (A.add j) = some u) (h1 : ∀ u ∈ news, u.oneCell' = true) :
    Calls Tryz.prog 61 #[.slice (some A) n c] w fun ex w' => ∃ v', ex = .returned v' ∧ w'.ownsRow w.heap.size 4 1 v' n news ∧ v' ≠ .slice none 0 0 ∧ Below w.heap.size w w' := by
  have q22 : ∀ (w : World) (a : Option Addr) (n c n' c' : Nat), (binOp .eql 26 (.slice a n c) (.slice none n' c')).run Tryz.prog w = .ok (.bool a.isNone) w := fun w a n c n' c' => Go.Lib.run_eql_slice_nil w _ _ a n c n' c' Tryz.underlying26
  have A0 : Hid (∀ j u, news[j]? = some u → w.cell? (A.add j) = some u) := Lib.hid hc
  clear hc
  obtain ⟨i0, hi, hz0, hz1, hz2⟩ := info_parts inf26
  obtain ⟨AB, AO, AS⟩ := A
  go_enter Tryz.func61, Tryz.ntmps61
  go_wp2_with (at_builtin; refine wpList_append_own _ rfl _ _ 26 rfl w.heap.size 4 i0 _ 1 1 Tryz.underlying26 hi hz0 hz1 hz2 rfl (by decide) _ _ _ rfl (World.ownsRow_made w #[] 0 (Nat.le_refl _) (Nat.zero_le _) (by simp)) ⟨AB, AO, AS⟩ n c news rfl ?qc1 ?qc2 ?qc3 ?qc4 ?qc5 ?qc6 ?_)
  case qc1 => exact hl
  case qc2 => exact fun j u hj => Go.Lib.cell?_alloc_some _ (A0.out j u hj)
  case qc3 => exact h1
  case qc4 => unfold maxLen; omega
  case qc5 => omega
  case qc6 => simp
  intro v' w1 hown hgrow hnil
  go_wp2
  go_ret
  refine ⟨v', rfl, by simpa using hown, hnil, ?_⟩
  exact ((Below.refl _ w).alloc (Nat.le_refl _) _).grown hgrow (by simp) (by intro k hk; simp [Value.ownBlock] at hk; omega)
set_option maxRecDepth 100000 in
set_option maxHeartbeats 1000000 in
theorem l_Clone_int_nil (n c : Nat) (w : World) : Calls Tryz.prog 62 #[.slice none n c] w fun e w' => e = .returned (.slice none 0 0) ∧ w' = w := by
  have q22 : ∀ (w : World) (a : Option Addr) (n c n' c' : Nat), (binOp .eql 27 (.slice a n c) (.slice none n' c')).run Tryz.prog w = .ok (.bool a.isNone) w := fun w a n c n' c' => Go.Lib.run_eql_slice_nil w _ _ a n c n' c' Tryz.underlying27
  go_enter Tryz.func62, Tryz.ntmps62
  go_wp2
  go_ret
  exact ⟨rfl, rfl⟩
set_option maxRecDepth 100000 in
set_option maxHeartbeats 1000000 in
theorem l_Clone_int (A : Addr) (n c : Nat) (news : List Value) (w : World) (hl : news.length = n * 1) (hn : n ≤ 16777216) (hc : ∀ j u, news[j]? = some u → w.cell? (A.add j) = some u) (h1 : ∀ u ∈ news, u.oneCell' = true) :
    Calls Tryz.prog 62 #[.slice (some A) n c] w fun ex w' => ∃ v', ex = .returned v' ∧ w'.ownsRow w.heap.size 3 1 v' n news ∧ v' ≠ .slice none 0 0 ∧ Below w.heap.size w w' := by
  have q22 : ∀ (w : World) (a : Option Addr) (n c n' c' : Nat), (binOp .eql 27 (.slice a n c) (.slice none n' c')).run Tryz.prog w = .ok (.bool a.isNone) w := fun w a n c n' c' => Go.Lib.run_eql_slice_nil w _ _ a n c n' c' Tryz.underlying27
  have A0 : Hid (∀ j u, news[j]? = some u → w.cell? (A.add j) = some u) := Lib.hid hc
  clear hc
  obtain ⟨i0, hi, hz0, hz1, hz2⟩ := info_parts inf27
  obtain ⟨AB, AO, AS⟩ := A
  go_enter Tryz.func62, Tryz.ntmps62
  go_wp2_with (at_builtin; refine wpList_append_own _ rfl _ _ 27 rfl w.heap.size 3 i0 _ 1 8 Tryz.underlying27 hi hz0 hz1 hz2 rfl (by decide) _ _ _ rfl (World.ownsRow_made w #[] 0 (Nat.le_refl _) (Nat.zero_le _) (by simp)) ⟨AB, AO, AS⟩ n c news rfl ?qc1 ?qc2 ?qc3 ?qc4 ?qc5 ?qc6 ?_)
  case qc1 => exact hl
  case qc2 => exact fun j u hj => Go.Lib.cell?_alloc_some _ (A0.out j u hj)
  case qc3 => exact h1
  case qc4 => unfold maxLen; omega
  case qc5 => omega
  case qc6 => simp
  intro v' w1 hown hgrow hnil
  go_wp2
  go_ret
  refine ⟨v', rfl, by simpa using hown, hnil, ?_⟩
  exact ((Below.refl _ w).alloc (Nat.le_refl _) _).grown hgrow (by simp) (by intro k hk; simp [Value.ownBlock] at hk; omega)
set_option maxRecDepth 100000 in
set_option maxHeartbeats 1000000 in
theorem l_Clone_End_nil (n c : Nat) (w : World) : Calls Tryz.prog 84 #[.slice none n c] w fun e w' => e = .returned (.slice none 0 0) ∧ w' = w := by
  have q22 : ∀ (w : World) (a : Option Addr) (n c n' c' : Nat), (binOp .eql 50 (.slice a n c) (.slice none n' c')).run Tryz.prog w = .ok (.bool a.isNone) w := fun w a n c n' c' => Go.Lib.run_eql_slice_nil w _ _ a n c n' c' Tryz.underlying50
  go_enter Tryz.func84, Tryz.ntmps84
  go_wp2
  go_ret
  exact ⟨rfl, rfl⟩
set_option maxRecDepth 100000 in
set_option maxHeartbeats 1000000 in
theorem l_Clone_End (A : Addr) (n c : Nat) (news : List Value) (w : World) (hl : news.length = n * 2) (hn : n ≤ 16777216) (hc : ∀ j u, news[j]? = some u → w.cell? (A.add j) = some u) (h1 : ∀ u ∈ news, u.oneCell' = true) :
    Calls Tryz.prog 84 #[.slice (some A) n c] w fun ex w' => ∃ v', ex = .returned v' ∧ w'.ownsRow w.heap.size 80 2 v' n news ∧ v' ≠ .slice none 0 0 ∧ Below w.heap.size w w' := by
  have q22 : ∀ (w : World) (a : Option Addr) (n c n' c' : Nat), (binOp .eql 50 (.slice a n c) (.slice none n' c')).run Tryz.prog w = .ok (.bool a.isNone) w := fun w a n c n' c' => Go.Lib.run_eql_slice_nil w _ _ a n c n' c' Tryz.underlying50
  have A0 : Hid (∀ j u, news[j]? = some u → w.cell? (A.add j) = some u) := Lib.hid hc
  clear hc
  obtain ⟨i0, hi, hz0, hz1, hz2⟩ := info_parts inf50
  obtain ⟨AB, AO, AS⟩ := A
  go_enter Tryz.func84, Tryz.ntmps84
  go_wp2_with (at_builtin; refine wpList_append_own _ rfl _ _ 50 rfl w.heap.size 80 i0 _ 2 16 Tryz.underlying50 hi hz0 hz1 hz2 rfl (by decide) _ _ _ rfl (World.ownsRow_made w #[] 0 (Nat.le_refl _) (Nat.zero_le _) (by simp)) ⟨AB, AO, AS⟩ n c news rfl ?qc1 ?qc2 ?qc3 ?qc4 ?qc5 ?qc6 ?_)
  case qc1 => exact hl
  case qc2 => exact fun j u hj => Go.Lib.cell?_alloc_some _ (A0.out j u hj)
  case qc3 => exact h1
  case qc4 => unfold maxLen; omega
  case qc5 => omega
  case qc6 => simp
  intro v' w1 hown hgrow hnil
  go_wp2
  go_ret
  refine ⟨v', rfl, by simpa using hown, hnil, ?_⟩
  exact ((Below.refl _ w).alloc (Nat.le_refl _) _).grown hgrow (by simp) (by intro k hk; simp [Value.ownBlock] at hk; omega)
end Go.Proofs.YtjffopopheiinaaGreat
end
section
namespace Go.Proofs.YtjffopopheiinaaGreat
open Go.RowKit

theorem frozen_row {w : World} {b j : Nat} {cur : Array Value} {t : TypeId} (h : w.heap[b]? = some (.cells cur t (0, 0))) : w.frozen? ⟨b, j, none⟩ = false := by simp [World.frozen?, h]
theorem some_row {w : World} {b j : Nat} {cur : Array Value} {t : TypeId} (h : w.heap[b]? = some (.cells cur t (0, 0))) (hj : j < cur.size) : (w.cell? ⟨b, j, none⟩).isSome = true := by simp [World.cell?, h, hj]
theorem at_row {w : World} {b j : Nat} {l : List Value} {t : TypeId} {u : Value} (h : w.heap[b]? = some (.cells l.toArray t (0, 0))) (hj : l[j]? = some u) : w.cell? ⟨b, j, none⟩ = some u := by
  have := (List.getElem?_eq_some_iff.1 hj).1
  simp [World.cell?, h, hj]
set_option maxRecDepth 100000 in
set_option maxHeartbeats 4000000 in
theorem l_Delete (b c n i : Nat) (us junk : List Value) (w : World) (hblk : w.heap[b]? = some (.cells (us ++ junk).toArray 54 (0, 0))) (hul : us.length = n * 4) (hcl : (us ++ junk).length = c * 4) (hi : i < n) (hn : n ≤ c) (hm : c ≤ 9223372036854775807) (h1 : ∀ u ∈ us, u.oneCell' = true) : Calls Tryz.prog 66 #[.slice (some ⟨b, 0, none⟩) n c, .int .i64 (i : Int), .int .i64 ((i : Int) + 1)] w fun e w' => e = .returned (.slice (some ⟨b, 0, none⟩) (n - 1) c) ∧ ∃ q X, X.length = (us ++ junk).length - (n - 1) * 4 ∧ w' = (w.drewN q).setRow b (us.take (i * 4) ++ us.drop ((i + 1) * 4) ++ X).toArray := by
  have hj : ((i : Int) + 1) = ((i + 1 : Nat) : Int) := by omega
  rw [hj]
  obtain ⟨news, hnews⟩ : ∃ news, news = us.drop ((i + 1) * 4) := ⟨_, rfl⟩
  have hlen : news.length = (n - (i + 1)) * 4 := by rw [hnews, List.length_drop, hul, Nat.sub_mul]
  obtain ⟨A, hA, hsrc⟩ : ∃ A : Addr, (if c = i + 1 then some (⟨b, 0, none⟩ : Addr) else some ⟨b, (i + 1) * 4, none⟩) = some A ∧ Hid (∀ t u, news[t]? = some u → w.drew.cell? (A.add t) = some u) := by
    by_cases h : c = i + 1
    · refine ⟨⟨b, 0, none⟩, by simp [h], fun t u hu => ?_⟩
      have h0 : news.length = 0 := by rw [hlen]; omega
      rw [List.length_eq_zero_iff.1 h0] at hu
      simp at hu
    · refine ⟨⟨b, (i + 1) * 4, none⟩, by simp [h], fun t u hu => ?_⟩
      rw [hnews, List.getElem?_drop] at hu
      rw [Addr.add_lit]
      have hlt := (List.getElem?_eq_some_iff.1 hu).1
      exact at_row (w := w) (l := us ++ junk) hblk (by rw [List.getElem?_append_left hlt]; exact hu)
  have s1 : Hid (news.length = (n - (i + 1)) * 4) := hlen
  have s2 : Hid (∀ u ∈ news, u.oneCell' = true) := fun u hu => h1 u (List.mem_of_mem_drop (by rw [← hnews]; exact hu))
  have s3 : Hid (∀ t, t < news.length → (w.drew.cell? ⟨b, 0 + i * 4 + t, none⟩).isSome = true ∧ w.drew.frozen? ⟨b, 0 + i * 4 + t, none⟩ = false) := fun t ht => by
    rw [hlen] at ht
    refine ⟨some_row (w := w.drew) (t := 54) (cur := (us ++ junk).toArray) hblk ?_, frozen_row (w := w.drew) (t := 54) (cur := (us ++ junk).toArray) hblk⟩
    have : (us ++ junk).toArray.size = c * 4 := by simpa using hcl
    rw [this]; omega
  obtain ⟨W1, hW1⟩ : ∃ W1, W1 = w.drew.setCells b (0 + i * 4) news := ⟨_, rfl⟩
  have hW1' : W1 = w.drew.setRow b ((us ++ junk).take (i * 4) ++ news ++ (us ++ junk).drop (i * 4 + news.length)).toArray := by
    rw [hW1, setCells_row news (0 + i * 4) (us ++ junk).toArray w.drew hblk (by simp only [List.size_toArray]; rw [hcl, hlen]; omega)]
    simp
  have hrow1 : W1.heap[b]? = some (.cells ((us ++ junk).take (i * 4) ++ news ++ (us ++ junk).drop (i * 4 + news.length)).toArray 54 (0, 0)) := by rw [hW1']; exact setRow_heap w.drew b _ _ _ _ hblk
  have hsz1 : ((us ++ junk).take (i * 4) ++ news ++ (us ++ junk).drop (i * 4 + news.length)).length = c * 4 := by
    simp only [List.length_append, List.length_take, List.length_drop] at hcl ⊢
    rw [hlen]; omega
  obtain ⟨zs, hzl, hcl0⟩ : ∃ zs : List Value, zs.length = 1 * 4 ∧ ∀ ty, (Builtin.clear_ #[29] ty #[.slice (some ⟨b, (i + (n - (i + 1))) * 4, none⟩) (n - (i + (n - (i + 1)))) (c - (i + (n - (i + 1))))]).run Tryz.prog W1 = .ok (.tuple #[]) (W1.setRow b (((us ++ junk).take (i * 4) ++ news ++ (us ++ junk).drop (i * 4 + news.length)).take ((n - 1) * 4) ++ zs ++ ((us ++ junk).take (i * 4) ++ news ++ (us ++ junk).drop (i * 4 + news.length)).drop ((n - 1) * 4 + zs.length)).toArray) := by
    rw [show i + (n - (i + 1)) = n - 1 by omega, show n - (n - 1) = 1 by omega]
    obtain ⟨zs, h2, h3⟩ := run_clear_rowN (P := Tryz.prog) W1 29 54 0 _ Tryz.underlying29 Tryz.zeroValue54 (by simp [Value.cells, Value.oneCell']) b ((n - 1) * 4) 1 (c - (n - 1)) (by omega) _ 54 hrow1 (by simp only [List.size_toArray]; rw [hsz1]; simp [Value.cells]; omega)
    refine ⟨zs, by simpa [Value.cells] using h2, fun ty => ?_⟩
    have := h3
    simpa [Builtin.clear_] using h3
  have X : Hid (W1 = w.drew.setRow b ((us ++ junk).take (i * 4) ++ news ++ (us ++ junk).drop (i * 4 + news.length)).toArray) := hW1'
  have hW : Hid (W1 = w.drew.setCells b (0 + i * 4) news) := hW1
  have N0 : Hid (news = us.drop ((i + 1) * 4)) := hnews
  have Hr : Hid (W1.heap[b]? = some (.cells ((us ++ junk).take (i * 4) ++ news ++ (us ++ junk).drop (i * 4 + news.length)).toArray 54 (0, 0))) := hrow1
  have Hs : Hid (((us ++ junk).take (i * 4) ++ news ++ (us ++ junk).drop (i * 4 + news.length)).length = c * 4) := hsz1
  have hic : i ≤ c := by omega
  have hjc : i + 1 ≤ c := by omega
  have hne : ¬ (i = i + 1) := by omega
  have mixed0 := mixed
  have hp0 : (0 : Int) ≤ (i : Int) + 1 := by omega
  have hp1 : (i : Int) + 1 ≤ (n : Int) := by omega
  obtain ⟨i0, hi0, hz0, hz1, hz2⟩ := info_parts inf29
  clear hW1 hW1' hrow1 hsz1 hnews hlen hj hblk
  go_enter Tryz.func66, Tryz.ntmps66
  go_wp2_with fail
  go_region_law_o (refine step_append_room rfl (.tmp 22) (.tmp 25) 29 rfl 54 i0 4 Tryz.underlying29 hi0 hz1 b 0 i c (by simp [Act.eval, Act.put]) A (n - (i + 1)) (c - (i + 1)) news (by simp [Act.eval, Act.put]) s1.out hsrc.out s2.out (by omega) s3.out ?_; rw [← hW.out])
  go_wp2
  go_ret
  refine ⟨by rw [show n - 1 = i + (n - (i + 1)) by omega]; rfl, 1, zs ++ ((us ++ junk).take (i * 4) ++ news ++ (us ++ junk).drop (i * 4 + news.length)).drop ((n - 1) * 4 + zs.length), ?_, ?_⟩
  · rw [List.length_append, List.length_drop, Hs.out, hzl, hcl]; omega
  · rw [X.out, setRow_setRow]
    have hnl := s1.out
    have e1 : ((us ++ junk).take (i * 4) ++ news ++ (us ++ junk).drop (i * 4 + news.length)).take ((n - 1) * 4) = us.take (i * 4) ++ us.drop ((i + 1) * 4) := by
      have h0 : (us ++ junk).take (i * 4) = us.take (i * 4) := List.take_append_of_le_length (by omega)
      have h2 : ((n - 1) * 4) = (us.take (i * 4) ++ news).length := by rw [List.length_append, List.length_take, hnl, hul]; omega
      rw [h0, h2, List.take_left, N0.out]
    simp only [List.append_assoc] at e1 ⊢
    rw [e1]
    have hz4 : zs.length = 4 := by omega
    simp only [List.append_assoc, hz4]
    rfl
end Go.Proofs.YtjffopopheiinaaGreat
end
section
namespace Go.Proofs.YtjffopopheiinaaGreat
open Go.RowKit

theorem wp_copyR {P : Program} (w : World) {o : Oper} {a : Act} {K : Act → World → Prop} {Q : Exit → Act → World → Prop} (d s : Operand) (t t' : TypeId)
    (ho : o.op = .call { callee := .builtin .copy, args := #[d, s], argTypes := #[t, t'] }) (v u : Value) (hd : a.eval d = v) (hs : a.eval s = u) {v' : Value} {w' : World}
    (hr : (Builtin.copy_ #[t, t'] o.type #[v, u]).run P w = .ok v' w') (h : K (a.put o.dst v') w') : o.wp P a w K Q := by
  unfold Oper.wp execOp
  simp only [ho, resolve, invoke, builtin, Sem.run_bind, Sem.run_pure, Result.andThen_ok, List.map_toArray, List.map_cons, List.map_nil, hd, hs, hr]
  exact h
theorem wpList_copyR {P : Program} (w : World) {ops : Array Oper} {rest : List Oper} {o : Oper} {a : Act} {Q : Exit → Act → World → Prop} (hgd : o.guard = none) (d s : Operand) (t t' : TypeId)
    (ho : o.op = .call { callee := .builtin .copy, args := #[d, s], argTypes := #[t, t'] }) (v u : Value) (hd : a.eval d = v) (hs : a.eval s = u) {v' : Value} {w' : World}
    (hr : (Builtin.copy_ #[t, t'] o.type #[v, u]).run P w = .ok v' w') (h : wpList P ops Q rest (a.put o.dst v') w') : wpList P ops Q (o :: rest) a w :=
  wpList_plain hgd fun _ hK => wp_copyR w d s t t' ho v u hd hs hr (hK _ _ h)
theorem step_copyR {P : Program} {ops : Array Oper} {o : Oper} {a : Act} {w : World} {K : Act → World → Prop} {Q : Exit → Act → World → Prop} {E : Prop}
    (hg : o.guard = none) (d x : Operand) (dT sT : TypeId) (hop : o.op = Op.call { callee := Callee.builtin Builtin.copy, args := #[d, x], argTypes := #[dT, sT] })
    (v u : Value) (hd : a.eval d = v) (hx : a.eval x = u) {v' : Value} {w' : World} (hr : (Builtin.copy_ #[dT, sT] o.type #[v, u]).run P w = .ok v' w') (hK : K (a.put o.dst v') w') :
    if Region.wanted o (yielded ops a.tmps) = true then Oper.wp P o a w K Q else E := by
  rw [if_pos (by simp [Region.wanted, hg])]
  exact wp_copyR w d x dT sT hop v u hd hx hr hK
theorem shape_row {w : World} {b : Nat} {cur : Array Value} {t : TypeId} (h : w.heap[b]? = some (.cells cur t (0, 0))) : w.shape? b = some (t, cur.size) := by simp [World.shape?, h]

set_option maxRecDepth 100000 in
set_option maxHeartbeats 4000000 in
theorem l_InsertEnd (A : Option Addr) (n c : Nat) (vb vc : Nat) (w w1 : World) (v1 : Value) (hrun : ∀ ty, (Builtin.append_ #[45, 45] ty #[.slice A n c, .slice (some ⟨vb, 0, none⟩) 1 vc]).run Tryz.prog w = .ok v1 w1) (hnc : n ≤ c) (hc : c ≤ 9223372036854775807) : Calls Tryz.prog 85 #[.slice A n c, .int .i64 (n : Int), .slice (some ⟨vb, 0, none⟩) 1 vc] w fun e w' => e = .returned v1 ∧ w' = w1 := by
  go_enter Tryz.func85, Tryz.ntmps85
  cases A with
  | none =>
    go_wp2_with (at_builtin; refine Lib.wpList_append_run _ rfl _ _ _ _ rfl _ _ rfl rfl _ _ (hrun _) ?_)
    go_ret
    exact ⟨rfl, rfl⟩
  | some a =>
    obtain ⟨ab, ao, asp⟩ := a
    go_wp2_with (at_builtin; refine Lib.wpList_append_run _ rfl _ _ _ _ rfl _ _ rfl rfl _ _ (hrun _) ?_)
    all_goals (go_ret; exact ⟨rfl, rfl⟩)
set_option maxRecDepth 100000 in
set_option maxHeartbeats 4000000 in
theorem l_InsertShift (b c n i vb vc : Nat) (us junk vs junkv : List Value) (tv : TypeId) (w : World) (hblk : w.heap[b]? = some (.cells (us ++ junk).toArray 52 (0, 0))) (hul : us.length = n * 3) (hcl : (us ++ junk).length = c * 3) (hi : i < n) (hn : n + 1 ≤ c) (hm : c ≤ 9223372036854775807) (h1 : ∀ u ∈ us, u.oneCell' = true) (hvblk : w.heap[vb]? = some (.cells (vs ++ junkv).toArray tv (0, 0))) (hvl : vs.length = 3) (hv1 : ∀ u ∈ vs, u.oneCell' = true) (hne : vb ≠ b) : Calls Tryz.prog 85 #[.slice (some ⟨b, 0, none⟩) n c, .int .i64 (i : Int), .slice (some ⟨vb, 0, none⟩) 1 vc] w fun e w' => e = .returned (.slice (some ⟨b, 0, none⟩) (n + 1) c) ∧ ∃ q X, X.length = c * 3 - (n + 1) * 3 ∧ w' = (w.drewN q).setRow b (us.take (i * 3) ++ vs ++ us.drop (i * 3) ++ X).toArray := by
  obtain ⟨ds, hds⟩ : ∃ ds, ds = us.drop (i * 3) := ⟨_, rfl⟩
  have hdl : ds.length = (n - i) * 3 := by rw [hds, List.length_drop, hul, Nat.sub_mul]
  have hov : ∀ lb cb, (callFunc 93 #[.slice (some ⟨vb, 0, none⟩) 1 vc, .slice (some ⟨b, (i + 1) * 3, none⟩) lb cb]).run Tryz.prog w = .ok (.value (.bool false)) w := fun lb cb => by
    rw [run_callFunc_extern Tryz.func93 (by kernel_rfl) (by kernel_rfl) (by kernel_rfl) (e := Extern.SlicesOverlaps.overlaps #[45, 45] #[4]) (by kernel_rfl),
      Lib.run_overlaps_apart w 45 4 52 Tryz.underlying45 3 Tryz.sizeOf52 ⟨vb, 0, none⟩ ⟨b, (i + 1) * 3, none⟩ 1 vc lb cb hne tv 52 _ _ (shape_row hvblk) (shape_row hblk) (by simp only [List.size_toArray]; omega) (frozen_row hvblk) (frozen_row hvblk)]
    rfl
  -- the two copies
  obtain ⟨R1, hR1⟩ : ∃ R1 : List Value, R1 = (us ++ junk).take ((i + 1) * 3) ++ ds ++ (us ++ junk).drop ((i + 1) * 3 + ds.length) := ⟨_, rfl⟩
  have hR1l : R1.length = c * 3 := by
    rw [hR1]
    simp only [List.length_append, List.length_take, List.length_drop] at hcl ⊢
    rw [hdl]; omega
  have hcp1 : ∀ ty dc sc, (Builtin.copy_ #[45, 45] ty #[.slice (some ⟨b, (i + 1) * 3, none⟩) (n - i) dc, .slice (some ⟨b, i * 3, none⟩) (n + 1 - i) sc]).run Tryz.prog w.drew = .ok (goInt (Nat.min (n + 1 - i) (n - i))) (w.drew.setRow b R1.toArray) := fun ty dc sc => by
    have := run_copy_rowN (P := Tryz.prog) w.drew 45 45 ty 52 b ((i + 1) * 3) (n - i) dc ⟨b, i * 3, none⟩ (n + 1 - i) sc 3 (us ++ junk).toArray 52 ds Tryz.underlying45 Tryz.sizeOf52 hblk (by rw [hdl, show Nat.min (n + 1 - i) (n - i) = n - i by simp only [Nat.min_def]; split <;> omega])
      (fun j v hj => by
        rw [hds, List.getElem?_drop] at hj
        rw [Addr.add_lit]
        have hlt := (List.getElem?_eq_some_iff.1 hj).1
        exact at_row (w := w) (l := us ++ junk) hblk (by rw [List.getElem?_append_left hlt]; exact hj))
      (by simp only [List.size_toArray]; rw [hcl, hdl]; omega) (fun u hu => h1 u (List.mem_of_mem_drop (by rw [← hds]; exact hu)))
    rw [this, hR1]
  have hrow1 : (w.drew.setRow b R1.toArray).heap[b]? = some (.cells R1.toArray 52 (0, 0)) := setRow_heap w.drew b _ _ _ _ hblk
  obtain ⟨R2, hR2⟩ : ∃ R2 : List Value, R2 = R1.take (i * 3) ++ vs ++ R1.drop (i * 3 + vs.length) := ⟨_, rfl⟩
  have hcp2 : ∀ ty dc, (Builtin.copy_ #[45, 45] ty #[.slice (some ⟨b, i * 3, none⟩) (n + 1 - i) dc, .slice (some ⟨vb, 0, none⟩) 1 vc]).run Tryz.prog (w.drew.setRow b R1.toArray) = .ok (goInt (Nat.min 1 (n + 1 - i))) ((w.drew.setRow b R1.toArray).setRow b R2.toArray) := fun ty dc => by
    have := run_copy_rowN (P := Tryz.prog) (w.drew.setRow b R1.toArray) 45 45 ty 52 b (i * 3) (n + 1 - i) dc ⟨vb, 0, none⟩ 1 vc 3 R1.toArray 52 vs Tryz.underlying45 Tryz.sizeOf52 hrow1 (by rw [hvl, show Nat.min 1 (n + 1 - i) = 1 by simp only [Nat.min_def]; split <;> omega])
      (fun j v hj => by
        rw [Addr.add_lit, Nat.zero_add]
        have hlt := (List.getElem?_eq_some_iff.1 hj).1
        have hv := at_row (w := w) (l := vs ++ junkv) hvblk (j := j) (u := v) (by rw [List.getElem?_append_left hlt]; exact hj)
        have hoth : (w.drew.setRow b R1.toArray).heap[vb]? = w.heap[vb]? := setRow_other w.drew b vb _ hne
        rw [World.cell?_of_block (a := ⟨vb, j, none⟩) hoth]
        exact hv)
      (by simp only [List.size_toArray]; rw [hR1l, hvl]; omega) hv1
    rw [this, hR2]
  have hmin1 : ∀ x : Nat, goInt x = .int .i64 (x : Int) := fun x => rfl
  have H1 : Hid (R1 = (us ++ junk).take ((i + 1) * 3) ++ ds ++ (us ++ junk).drop ((i + 1) * 3 + ds.length)) := hR1
  have H2 : Hid (R2 = R1.take (i * 3) ++ vs ++ R1.drop (i * 3 + vs.length)) := hR2
  have H3 : Hid (ds = us.drop (i * 3)) := hds
  have H4 : Hid (R1.length = c * 3) := hR1l
  have mixed0 := mixed
  have hz1 : ¬ ((i : Int) = (n : Int)) := by omega
  have hz3 : ¬ ((c : Int) < (n : Int) + 1) := by omega
  have hw1 : IntKind.i64.wrap ((i : Int) + 1) = (i : Int) + 1 := by rw [IntKind.wrap_i64]; omega
  have hw2 : IntKind.i64.wrap ((n : Int) + 1) = (n : Int) + 1 := by rw [IntKind.wrap_i64]; omega
  have hb1 : (0 : Int) ≤ (i : Int) + 1 := by omega
  have hb0 : (0 : Int) ≤ (n : Int) + 1 := by omega
  have hin : i ≤ n := by omega
  have hb2 : ¬ (c = i + 1) := by omega
  have hb3 : (i : Int) ≤ (n : Int) + 1 := by omega
  have hb5 : (i : Int) + 1 ≤ (n : Int) + 1 := by omega
  have hb6 : (n : Int) + 1 ≤ (c : Int) := by omega
  have hb4 : ¬ (c = i) := by omega
  clear hR1 hR2 hds hR1l hrow1 hblk hvblk
  go_enter Tryz.func85, Tryz.ntmps85
  go_wp2_with (simp only [hov])
  go_region_law_o (refine step_copyR rfl _ _ 45 45 rfl _ _ (by simp [Act.eval, Act.put]) (by simp [Act.eval, Act.put]) (hcp1 _ _ _) ?_)
  go_wp2_with (at_builtin; refine wpList_copyR _ rfl _ _ 45 45 rfl _ _ rfl rfl (hcp2 _ _) ?_)
  go_ret
  have hdl' := hdl
  refine ⟨rfl, 1, (us ++ junk).drop ((i + 1) * 3 + ds.length), ?_, ?_⟩
  · rw [List.length_drop, hcl, hdl]; omega
  · rw [setRow_setRow]
    have e1 : R1.take (i * 3) = us.take (i * 3) := by
      rw [H1.out, List.append_assoc, List.take_append_of_le_length (by rw [List.length_take, hcl]; omega), List.take_take, Nat.min_eq_left (by omega), List.take_append_of_le_length (by omega)]
    have e2 : R1.drop (i * 3 + vs.length) = ds ++ (us ++ junk).drop ((i + 1) * 3 + ds.length) := by
      rw [H1.out, hvl, List.append_assoc, show i * 3 + 3 = ((us ++ junk).take ((i + 1) * 3)).length by rw [List.length_take, hcl]; omega, List.drop_left]
    rw [H2.out, e1, e2, ← List.append_assoc, H3.out]
    rfl
set_option maxRecDepth 100000 in
set_option maxHeartbeats 4000000 in
theorem l_InsertGrow (b n i vb vc : Nat) (us junk vs junkv : List Value) (tv : TypeId) (w : World) (hblk : w.heap[b]? = some (.cells (us ++ junk).toArray 52 (0, 0))) (hul : us.length = n * 3) (hi : i < n) (hm : n ≤ 1048576) (h1 : ∀ u ∈ us, u.oneCell' = true) (hvblk : w.heap[vb]? = some (.cells (vs ++ junkv).toArray tv (0, 0))) (hvl : vs.length = 3) (hv1 : ∀ u ∈ vs, u.oneCell' = true) : Calls Tryz.prog 85 #[.slice (some ⟨b, 0, none⟩) n n, .int .i64 (i : Int), .slice (some ⟨vb, 0, none⟩) 1 vc] w fun e w' => ∃ G X, e = .returned (.slice (some ⟨w.heap.size, 0, none⟩) (n + 1) G) ∧ G ≤ maxLen ∧ n + 1 ≤ G ∧ X.length = G * 3 - (n + 1) * 3 ∧ Below w.heap.size w w' ∧ w'.heap[w.heap.size]? = some (.cells (us.take (i * 3) ++ vs ++ us.drop (i * 3) ++ X).toArray 52 (0, 0)) := by
  obtain ⟨i0, hi0, hz0, hzs, hzb⟩ := info_parts inf45
  obtain ⟨ds, hds⟩ : ∃ ds, ds = us.drop (i * 3) := ⟨_, rfl⟩
  have hdl : ds.length = (n - i) * 3 := by rw [hds, List.length_drop, hul, Nat.sub_mul]
  have hbw : b < w.heap.size := (Array.getElem?_eq_some_iff.1 hblk).1
  have hvw : vb < w.heap.size := (Array.getElem?_eq_some_iff.1 hvblk).1
  have hkk : (n : Int) + 1 - (i : Int) = ((n + 1 - i : Nat) : Int) := by omega
  have hik : i + (n + 1 - i) = n + 1 := by omega
  have hold : (Builtin.firstCells i0.size i (.slice (some ⟨b, 0, none⟩) i n)).run Tryz.prog w.drew = .ok (us.take (i * 3)).toArray w.drew := by
    rw [hzs]
    exact run_firstCells_some w.drew 3 i ⟨b, 0, none⟩ i n (us.take (i * 3)) (by rw [List.length_take]; omega) (fun j v hj => by
      rw [Addr.add_lit, Nat.zero_add]
      rw [List.getElem?_take] at hj
      split at hj
      · have hlt := (List.getElem?_eq_some_iff.1 hj).1
        exact at_row (w := w) (l := us ++ junk) hblk (by rw [List.getElem?_append_left hlt]; exact hj)
      · cases hj)
  obtain ⟨G, hG⟩ : ∃ G, G = grownCap w (n + 1) n 52 := ⟨_, rfl⟩
  have hGn : n + 1 ≤ G := by rw [hG]; exact grownCap_ge w _ _ _
  have hG63 : G ≤ maxLen := by rw [hG]; exact grownCap_le_maxLen w (n + 1) n 52 (by unfold maxLen; omega)
  obtain ⟨ROW, hROW, hRl, hrz⟩ : ∃ ROW : List Value, ROW.take (i * 3) = us.take (i * 3) ∧ ROW.length = G * 3 ∧ ∀ ty, (Builtin.append_ #[45, 3] ty #[.slice (some ⟨b, 0, none⟩) i n, .int .i64 ((n : Int) + 1 - (i : Int))]).run Tryz.prog w = .ok (.slice (some ⟨w.heap.size, 0, none⟩) (n + 1) G) (w.drew.alloc (.cells ROW.toArray 52)) := by
    refine ⟨us.take (i * 3) ++ (Builtin.zeroCells (Value.agg #[.int .i64 0, .int .i64 0, .slice none 0 0]).cells (n + 1 - i)).toList ++ (Builtin.zeroCells (Value.agg #[.int .i64 0, .int .i64 0, .slice none 0 0]).cells (G - (n + 1))).toList, ?_, ?_, fun ty => ?_⟩
    · have hl : (us.take (i * 3)).length = i * 3 := by rw [List.length_take]; omega
      rw [List.append_assoc, List.take_append_of_le_length (by rw [hl]; exact Nat.le_refl _), List.take_take, Nat.min_self]
    · rw [List.length_append, List.length_append, List.length_take, zeroCells_len, zeroCells_len]
      simp only [Value.cells, List.size_toArray, List.length_cons, List.length_nil]
      omega
    · have h := Lib.run_append_grow_zeros w 45 3 ty 52 i0 _ .i64 .i64 Tryz.underlying45 Tryz.underlying3 hi0 hz0 (some ⟨b, 0, none⟩) i n (us.take (i * 3)) hold (n + 1 - i) (by omega) (by omega) (by omega) (by omega) (by rw [hzb]; omega) (by rw [hzb, hik]; exact growslice_fits (by omega) (by omega))
      rw [hik] at h
      rw [hkk, h, hG]
      congr 3
      apply Array.ext'
      simp
  obtain ⟨W1, hW1⟩ : ∃ W1, W1 = w.drew.alloc (.cells ROW.toArray 52) := ⟨_, rfl⟩
  rw [← hW1] at hrz
  have hrow : W1.heap[w.heap.size]? = some (.cells ROW.toArray 52 (0, 0)) := by rw [hW1]; exact heap_alloc_new w.drew _
  have hb1 : Below w.heap.size w W1 := by rw [hW1]; exact ((Below.refl _ w).drew).alloc (Nat.le_refl _) _
  have hcell : ∀ (W : World), Below w.heap.size w W → ∀ (x : Nat) j, x < w.heap.size → W.cell? ⟨x, j, none⟩ = w.cell? ⟨x, j, none⟩ := fun W hb x j hx => World.cell?_of_block (a := ⟨x, j, none⟩) (hb.block x hx)
  obtain ⟨R1, hR1⟩ : ∃ R1 : List Value, R1 = ROW.take (i * 3) ++ vs ++ ROW.drop (i * 3 + vs.length) := ⟨_, rfl⟩
  have hR1l : R1.length = G * 3 := by
    rw [hR1]
    simp only [List.length_append, List.length_take, List.length_drop, hRl, hvl]
    omega
  have hcp1 : ∀ ty dc, (Builtin.copy_ #[45, 45] ty #[.slice (some ⟨w.heap.size, i * 3, none⟩) (n + 1 - i) dc, .slice (some ⟨vb, 0, none⟩) 1 vc]).run Tryz.prog W1 = .ok (goInt (Nat.min 1 (n + 1 - i))) (W1.setRow w.heap.size R1.toArray) := fun ty dc => by
    have := run_copy_rowN (P := Tryz.prog) W1 45 45 ty 52 w.heap.size (i * 3) (n + 1 - i) dc ⟨vb, 0, none⟩ 1 vc 3 ROW.toArray 52 vs Tryz.underlying45 Tryz.sizeOf52 hrow (by rw [hvl, show Nat.min 1 (n + 1 - i) = 1 by simp only [Nat.min_def]; split <;> omega])
      (fun j v hj => by
        rw [Addr.add_lit, Nat.zero_add, hcell W1 hb1 vb j hvw]
        have hlt := (List.getElem?_eq_some_iff.1 hj).1
        exact at_row (w := w) (l := vs ++ junkv) hvblk (by rw [List.getElem?_append_left hlt]; exact hj))
      (by simp only [List.size_toArray]; rw [hRl, hvl]; omega) hv1
    rw [this, hR1]
  obtain ⟨W2, hW2⟩ : ∃ W2, W2 = W1.setRow w.heap.size R1.toArray := ⟨_, rfl⟩
  have hrow2 : W2.drew.heap[w.heap.size]? = some (.cells R1.toArray 52 (0, 0)) := by rw [hW2]; exact setRow_heap W1 w.heap.size _ _ _ _ hrow
  have hb2 : Below w.heap.size w W2.drew := by rw [hW2]; exact (below_setRow hb1 (Nat.le_refl _) _).drew
  rw [← hW2] at hcp1
  obtain ⟨R2, hR2⟩ : ∃ R2 : List Value, R2 = R1.take ((i + 1) * 3) ++ ds ++ R1.drop ((i + 1) * 3 + ds.length) := ⟨_, rfl⟩
  have hcp2 : ∀ ty dc sc, (Builtin.copy_ #[45, 45] ty #[.slice (some ⟨w.heap.size, (i + 1) * 3, none⟩) (n - i) dc, .slice (some ⟨b, i * 3, none⟩) (n - i) sc]).run Tryz.prog W2.drew = .ok (goInt (Nat.min (n - i) (n - i))) (W2.drew.setRow w.heap.size R2.toArray) := fun ty dc sc => by
    have := run_copy_rowN (P := Tryz.prog) W2.drew 45 45 ty 52 w.heap.size ((i + 1) * 3) (n - i) dc ⟨b, i * 3, none⟩ (n - i) sc 3 R1.toArray 52 ds Tryz.underlying45 Tryz.sizeOf52 hrow2 (by rw [hdl, show Nat.min (n - i) (n - i) = n - i from Nat.min_self _])
      (fun j v hj => by
        rw [hds, List.getElem?_drop] at hj
        rw [Addr.add_lit, hcell W2.drew hb2 b _ hbw]
        have hlt := (List.getElem?_eq_some_iff.1 hj).1
        exact at_row (w := w) (l := us ++ junk) hblk (by rw [List.getElem?_append_left hlt]; exact hj))
      (by simp only [List.size_toArray]; rw [hR1l, hdl]; omega) (fun u hu => h1 u (List.mem_of_mem_drop (by rw [← hds]; exact hu)))
    rw [this, hR2]
  have hb3 : Below w.heap.size w (W2.drew.setRow w.heap.size R2.toArray) := below_setRow hb2 (Nat.le_refl _) _
  have hrow3 : (W2.drew.setRow w.heap.size R2.toArray).heap[w.heap.size]? = some (.cells R2.toArray 52 (0, 0)) := setRow_heap W2.drew w.heap.size _ _ _ _ hrow2
  have e1 : R1.take ((i + 1) * 3) = us.take (i * 3) ++ vs := by
    rw [hR1, show (i + 1) * 3 = (ROW.take (i * 3) ++ vs).length by rw [List.length_append, List.length_take, hRl, hvl]; omega, List.take_left, hROW]
  have hres : Hid (∃ X : List Value, X.length = G * 3 - (n + 1) * 3 ∧ R2 = us.take (i * 3) ++ vs ++ us.drop (i * 3) ++ X) := by
    refine ⟨R1.drop ((i + 1) * 3 + ds.length), by rw [List.length_drop, hR1l, hdl]; omega, ?_⟩
    rw [hR2, e1, hds]
  have B3 : Hid (Below w.heap.size w (W2.drew.setRow w.heap.size R2.toArray)) := hb3
  have R3 : Hid ((W2.drew.setRow w.heap.size R2.toArray).heap[w.heap.size]? = some (.cells R2.toArray 52 (0, 0))) := hrow3
  have mixed0 := mixed
  have hz1 : ¬ ((i : Int) = (n : Int)) := by omega
  have hz3 : (n : Int) < (n : Int) + 1 := by omega
  have hw1 : IntKind.i64.wrap ((i : Int) + 1) = (i : Int) + 1 := by rw [IntKind.wrap_i64]; omega
  have hw2 : IntKind.i64.wrap ((n : Int) + 1) = (n : Int) + 1 := by rw [IntKind.wrap_i64]; omega
  have hw3 : IntKind.i64.wrap ((n : Int) + 1 - (i : Int)) = (n : Int) + 1 - (i : Int) := by rw [IntKind.wrap_i64]; omega
  have hq1 : (0 : Int) ≤ (i : Int) + 1 := by omega
  have hin : i ≤ n := by omega
  have hq3 : (i : Int) ≤ (n : Int) := by omega
  have hq4 : (i : Int) ≤ (n : Int) + 1 := by omega
  have hq5 : (i : Int) + 1 ≤ (n : Int) + 1 := by omega
  have hGi : ¬ (G = i) := by omega
  have hGim : ¬ (G = i + 1) := by omega
  have hci : ¬ (n = i) := by omega
  have GL : Hid (G ≤ maxLen) := hG63
  have hG64 : G ≤ 9223372036854775807 := by unfold maxLen at hG63; omega
  have hq6 : i ≤ G := by omega
  have hq7 : i + 1 ≤ G := by omega
  clear hR1 hR2 hds hR1l hrow hrow2 hrow3 hb1 hb2 hb3 hblk hvblk hcell hold hROW hRl e1 hG hkk hik hW1 hG63 hW2
  go_enter Tryz.func85, Tryz.ntmps85
  go_wp2_with (first
    | (at_builtin; refine Lib.wpList_append_run _ rfl _ _ _ _ rfl _ _ rfl rfl _ _ (hrz _) ?_)
    | (at_builtin; refine wpList_copyR _ rfl _ _ 45 45 rfl _ _ rfl rfl (hcp1 _ _) ?_))
  go_region_law_o (refine step_copyR rfl _ _ 45 45 rfl _ _ (by simp [Act.eval, Act.put]) (by simp [Act.eval, Act.put]) (hcp2 _ _ _) ?_)
  go_wp2
  go_ret
  obtain ⟨X, hX1, hX2⟩ := hres.out
  exact ⟨G, X, rfl, GL.out, hGn, hX1, B3.out, by rw [← hX2]; exact R3.out⟩
end Go.Proofs.YtjffopopheiinaaGreat
end
section
namespace Go.Proofs.YtjffopopheiinaaGreat
open Go.RowKit

def zKo (s : List Bool × Unit) : Option (List Bool × Unit) := bif decide (s.1.length ≤ 16777216) then some s else none
def zEx : Entry := ⟨⟨[.c (.one (.b (.sl false .bool)))], []⟩, [.ls .bool], ⟨[.c (.one (.own 0))], [.row 4 .bool]⟩, [.ls .bool], zKo⟩
def zKq (s : List Int × Unit) : Option (List Int × Unit) := bif decide (s.1.length ≤ 16777216) then some s else none
def zEz : Entry := ⟨⟨[.c (.one (.b (.sl false .int)))], []⟩, [.ls .int], ⟨[.c (.one (.own 0))], [.row 3 .int]⟩, [.ls .int], zKq⟩
def zKp (s : List En × Unit) : Option (List En × Unit) := bif decide (s.1.length ≤ 16777216) then some s else none
def zEy : Entry := ⟨⟨[.c (.one (.b (.sl false .en)))], []⟩, [.ls .en], ⟨[.c (.one (.own 0))], [.row 80 .en]⟩, [.ls .en], zKp⟩
theorem zIQ : GC Tryz.prog 61 zEx := gc_clone (τ := .bool) l_Clone_bool_nil l_Clone_bool
theorem zIS : GC Tryz.prog 62 zEz := gc_clone (τ := .int) l_Clone_int_nil l_Clone_int
theorem zIR : GC Tryz.prog 84 zEy := gc_clone (τ := .en) l_Clone_End_nil l_Clone_End
def zKs (s : Int × Int × List Pk × Unit) : Option (List Pk × Unit) := bif decide (0 ≤ s.1 ∧ s.2.1 = s.1 + 1 ∧ s.1 < (s.2.2.1.length : Int) ∧ s.2.2.1.length ≤ 16777216) then some (s.2.2.1.take s.1.toNat ++ s.2.2.1.drop (s.1.toNat + 1), ()) else none
def zEB : Entry := ⟨⟨[.c (.one (.own 0)), .c (.one (.b (.int .i64))), .c (.one (.b (.int .i64)))], [.row 54 .pk]⟩, [.int, .int, .ls .pk], ⟨[.c (.one (.own 1))], [.dead, .row 54 .pk]⟩, [.ls .pk], zKs⟩
theorem zIU : GC Tryz.prog 66 zEB := by
  intro s r hs ds os hf d h' hr w X β args hX hH hargs _
  obtain ⟨i, j, xs, _⟩ := s
  change Int at i
  change Int at j
  change List Pk at xs
  have hs : (bif decide (0 ≤ i ∧ j = i + 1 ∧ i < (xs.length : Int) ∧ xs.length ≤ 16777216) then some ((xs.take i.toNat ++ xs.drop (i.toNat + 1), ()) : List Pk × Unit) else none) = some r := hs
  cases hd : decide (0 ≤ i ∧ j = i + 1 ∧ i < (xs.length : Int) ∧ xs.length ≤ 16777216) with
  | false => rw [hd] at hs; cases hs
  | true =>
  rw [hd] at hs
  injection hs with hs
  subst hs
  obtain ⟨hi0, hj, hil, hln⟩ := of_decide_eq_true hd
  subst hj
  obtain ⟨k, rfl⟩ : ∃ k : Nat, i = (k : Int) := ⟨i.toNat, by omega⟩
  have hk : k < xs.length := by omega
  have hf : some ([PV.own 0, PV.im (iI (k : Int)), PV.im (iI ((k : Int) + 1))], [AObj.row 54 .pk xs]) = some (ds, os) := hf
  injection hf with hf
  injection hf with hf1 hf2
  subst hf1 hf2
  have hr : some ([PV.own 1], [AObj.dead, AObj.row 54 .pk (xs.take (k : Int).toNat ++ xs.drop ((k : Int).toNat + 1))]) = some ([d], h') := hr
  rw [Int.toNat_natCast] at hr
  injection hr with hr
  injection hr with hr1 hr2
  injection hr1 with hr1
  subst hr1 hr2
  obtain ⟨u, _, rfl, hu, hr⟩ := hargs.cons_inv
  obtain ⟨u2, _, rfl, hu2, hr⟩ := hr.cons_inv
  obtain ⟨u3, _, rfl, hu3, hnil⟩ := hr.cons_inv
  obtain rfl := hnil.nil_inv
  obtain rfl : u2 = .int .i64 (k : Int) := im_s hu2
  obtain rfl : u3 = .int .i64 ((k : Int) + 1) := im_s hu3
  obtain ⟨h0, hv, ⟨_, _, _, rfl⟩, h2⟩ := hu
  obtain ⟨b, c, A, hb, hue, hA, hE⟩ := h2 54 .pk xs rfl
  obtain ⟨b', c', hb', hc0, hcm, hrow⟩ := hH.ok 0 _ rfl
  rw [hb] at hb'
  injection hb' with hb'
  injection hb' with e1 e2
  subst e1 e2
  rw [hue]
  have hc : 0 < c := by
    rcases Nat.eq_zero_or_pos c with h | h
    · have := hc0 h; subst this; simp at hk
    · exact h
  obtain ⟨us, junk, hblk, hF, hone, hlen⟩ := hrow hc
  obtain rfl := hA hc
  have hul : us.length = xs.length * 4 := by rw [hF.1, flt_len]; rfl
  have hlen : (us ++ junk).length = c * 4 := hlen
  have hnc : xs.length ≤ c := by rw [List.length_append] at hlen; omega
  have hbl : b < w.heap.size := (Array.getElem?_eq_some_iff.1 hblk).1
  have hlb : Liv [AObj.row 54 .pk xs] β b := ⟨0, _, c, rfl, hc, hb⟩
  refine (l_Delete b c xs.length k us junk w hblk hul hlen hk hnc (by unfold maxLen at hcm; omega) hone).mono ?_
  rintro ex w' ⟨rfl, q, Z, hZ, rfl⟩
  have hys : (xs.take k ++ xs.drop (k + 1)).length = xs.length - 1 := by rw [List.length_append, List.length_take, List.length_drop]; omega
  have hFy : F2 (Ri w (Liv [AObj.row 54 .pk xs] β) X) (flt .pk (xs.take k ++ xs.drop (k + 1))) (us.take (k * 4) ++ us.drop ((k + 1) * 4)) := by
    rw [flt_app]
    have e1 : flt .pk (xs.take k) = (flt .pk xs).take (k * 4) := by
      have := flt_part .pk xs 0 k (by omega)
      simpa [sz] using this.symm
    have e2 : flt .pk (xs.drop (k + 1)) = (flt .pk xs).drop ((k + 1) * 4) := by
      have := flt_part .pk xs (k + 1) (xs.length - (k + 1)) (by omega)
      rw [List.take_of_length_le (by rw [List.length_drop, flt_len]; simp only [sz]; omega), List.take_of_length_le (by rw [List.length_drop]; exact Nat.le_refl _)] at this
      simpa [sz] using this.symm
    rw [e1, e2]
    have p1 := hF.part 0 (k * 4)
    simp only [List.drop_zero] at p1
    have p2 := hF.part ((k + 1) * 4) (us.length)
    rw [List.take_of_length_le (by rw [List.length_drop, ← hF.1]; omega), List.take_of_length_le (by rw [List.length_drop]; omega)] at p2
    exact p1.app p2
  obtain ⟨q1, q2, q3⟩ := end_row (h := [AObj.row 54 .pk xs]) (e := 54) (τ := .pk) (ys := xs.take k ++ xs.drop (k + 1)) (g := b) (c := c) (A := some ⟨b, 0, none⟩) (w' := (w.drewN q).setRow b (us.take (k * 4) ++ us.drop ((k + 1) * 4) ++ Z).toArray) hH hX rfl rfl rfl (by simp [World.setRow, World.drewN]) (fun j hj hn => setRow_other (w.drewN q) b j _ (by rintro rfl; exact hn hlb)) (.inl hlb) (fun h => by omega) hcm (fun _ => ⟨_, Z, setRow_heap (w.drewN q) b _ _ _ _ hblk, hFy, by
    rw [List.length_append, hZ, hlen, hFy.1, flt_len, hys]
    have : (xs.length - 1) * sz .pk = (xs.length - 1) * 4 := rfl
    rw [this]
    have : c * sz .pk = c * 4 := rfl
    rw [this]
    omega⟩) (fun _ => rfl)
  rw [hys] at q3
  exact ⟨_, _, rfl, q1, q2, q3⟩
def oneL : List Ls → Option Ls
  | [v] => some v
  | _ => none
def zKw (s : Int × List Ls × List Ls × Unit) : Option (List Ls × Unit) := match oneL s.2.2.1 with
  | some v => bif decide (0 ≤ s.1 ∧ s.1 ≤ (s.2.1.length : Int) ∧ s.2.1.length ≤ 1048576) then some (s.2.1.take s.1.toNat ++ v :: s.2.1.drop s.1.toNat, ()) else none
  | none => none
def zEF : Entry := ⟨⟨[.c (.one (.own 0)), .c (.one (.b (.int .i64))), .c (.one (.own 1))], [.row 52 .ls, .row 52 .ls]⟩, [.int, .ls .ls, .ls .ls], ⟨[.c (.one (.own 2))], [.dead, .dead, .row 52 .ls]⟩, [.ls .ls], zKw⟩
theorem zIY : GC Tryz.prog 85 zEF := by
  intro s r hs ds os hf d h' hr w X β args hX hH hargs _
  obtain ⟨i, xs, vs, _⟩ := s
  change Int at i
  change List Ls at xs
  change List Ls at vs
  have hs : (match oneL vs with | some v => (bif decide (0 ≤ i ∧ i ≤ (xs.length : Int) ∧ xs.length ≤ 1048576) then some ((xs.take i.toNat ++ v :: xs.drop i.toNat, ()) : List Ls × Unit) else none) | none => none) = some r := hs
  split at hs
  case h_2 => cases hs
  rename_i v hv
  obtain rfl : vs = [v] := by
    unfold oneL at hv
    split at hv
    · injection hv with hv; subst hv; rfl
    · cases hv
  have hs : (bif decide (0 ≤ i ∧ i ≤ (xs.length : Int) ∧ xs.length ≤ 1048576) then some ((xs.take i.toNat ++ v :: xs.drop i.toNat, ()) : List Ls × Unit) else none) = some r := hs
  cases hd : decide (0 ≤ i ∧ i ≤ (xs.length : Int) ∧ xs.length ≤ 1048576) with
  | false => rw [hd] at hs; cases hs
  | true =>
  rw [hd] at hs
  injection hs with hs
  subst hs
  obtain ⟨hi0, hil, hln⟩ := of_decide_eq_true hd
  obtain ⟨k, rfl⟩ : ∃ k : Nat, i = (k : Int) := ⟨i.toNat, by omega⟩
  have hk : k ≤ xs.length := by omega
  have hf : some ([PV.own 0, PV.im (iI (k : Int)), PV.own 1], [AObj.row 52 .ls xs, AObj.row 52 .ls [v]]) = some (ds, os) := hf
  injection hf with hf
  injection hf with hf1 hf2
  subst hf1 hf2
  have hr : some ([PV.own 2], [AObj.dead, AObj.dead, AObj.row 52 .ls (xs.take (k : Int).toNat ++ v :: xs.drop (k : Int).toNat)]) = some ([d], h') := hr
  rw [Int.toNat_natCast] at hr
  injection hr with hr
  injection hr with hr1 hr2
  injection hr1 with hr1
  subst hr1 hr2
  obtain ⟨u, _, rfl, hu, hr⟩ := hargs.cons_inv
  obtain ⟨u2, _, rfl, hu2, hr⟩ := hr.cons_inv
  obtain ⟨u3, _, rfl, hu3, hnil⟩ := hr.cons_inv
  obtain rfl := hnil.nil_inv
  obtain rfl : u2 = .int .i64 (k : Int) := im_s hu2
  obtain ⟨h0, hvv, ⟨_, _, _, rfl⟩, h2⟩ := hu
  obtain ⟨b, c, A, hb, hue, hA, hE⟩ := h2 52 .ls xs rfl
  obtain ⟨b', c', hb', hc0, hcm, hrow⟩ := hH.ok 0 _ rfl
  rw [hb] at hb'
  injection hb' with hb'
  injection hb' with e1 e2
  subst e1 e2
  obtain ⟨g0, gvv, ⟨_, _, _, rfl⟩, g2⟩ := hu3
  obtain ⟨vb, vc, A3, gb, gue, gA, gE⟩ := g2 52 .ls [v] rfl
  obtain ⟨vb', vc', gb', gc0, gcm, grow⟩ := hH.ok 1 _ rfl
  rw [gb] at gb'
  injection gb' with gb'
  injection gb' with e1 e2
  subst e1 e2
  rw [hue, gue]
  have gc : 0 < vc := by
    rcases Nat.eq_zero_or_pos vc with h | h
    · have := gc0 h; cases this
    · exact h
  obtain ⟨us, junkv, vblk, vF, vone, vlen⟩ := grow gc
  obtain rfl := gA gc
  have hvl : us.length = 3 := by rw [vF.1, flt_len]; rfl
  have hlv : Liv [AObj.row 52 .ls xs, AObj.row 52 .ls [v]] β vb := ⟨1, _, vc, rfl, gc, gb⟩
  have hlb : 0 < c → Liv [AObj.row 52 .ls xs, AObj.row 52 .ls [v]] β b := fun hc => ⟨0, _, c, rfl, hc, hb⟩
  have hys : (xs.take k ++ v :: xs.drop k).length = xs.length + 1 := by simp; omega
  have flt1 : flt .ls (xs.take k ++ v :: xs.drop k) = (flt .ls xs).take (k * 3) ++ flt .ls [v] ++ (flt .ls xs).drop (k * 3) := by
    have e1 : flt .ls (xs.take k) = (flt .ls xs).take (k * 3) := by
      have := flt_part .ls xs 0 k (by omega)
      simpa [sz] using this.symm
    have e2 : flt .ls (xs.drop k) = (flt .ls xs).drop (k * 3) := by
      have := flt_part .ls xs k (xs.length - k) (by omega)
      rw [List.take_of_length_le (by rw [List.length_drop, flt_len]; simp only [sz]; omega), List.take_of_length_le (by rw [List.length_drop]; exact Nat.le_refl _)] at this
      simpa [sz] using this.symm
    rw [flt_app, show v :: xs.drop k = [v] ++ xs.drop k from rfl, flt_app, e1, e2, List.append_assoc]
  rcases Nat.lt_or_ge k xs.length with hkl | hkl
  · have hc : 0 < c := by
      rcases Nat.eq_zero_or_pos c with h | h
      · have := hc0 h; subst this; simp at hkl
      · exact h
    obtain ⟨ws, junk, hblk, hF, hone, hlen⟩ := hrow hc
    obtain rfl := hA hc
    have hul : ws.length = xs.length * 3 := by rw [hF.1, flt_len]; rfl
    have hlen : (ws ++ junk).length = c * 3 := hlen
    have hnc : xs.length ≤ c := by rw [List.length_append] at hlen; omega
    have hne : vb ≠ b := by
      rintro rfl
      have := hH.inj 0 1 _ _ vb c vc rfl rfl hc gc hb gb
      cases this
    have hFy : F2 (Ri w (Liv [AObj.row 52 .ls xs, AObj.row 52 .ls [v]] β) X) (flt .ls (xs.take k ++ v :: xs.drop k)) (ws.take (k * 3) ++ us ++ ws.drop (k * 3)) := by
      rw [flt1]
      have p1 := hF.part 0 (k * 3)
      simp only [List.drop_zero] at p1
      have p2 := hF.part (k * 3) ws.length
      rw [List.take_of_length_le (by rw [List.length_drop, ← hF.1]; omega), List.take_of_length_le (by rw [List.length_drop]; omega)] at p2
      exact (p1.app vF).app p2
    have hyl : (ws.take (k * 3) ++ us ++ ws.drop (k * 3)).length = (xs.length + 1) * 3 := by
      rw [hFy.1, flt_len, hys]; rfl
    rcases Nat.lt_or_ge xs.length c with hroom | hroom
    · refine (l_InsertShift b c xs.length k vb vc ws junk us junkv 52 w hblk hul hlen hkl hroom (by unfold maxLen at hcm; omega) hone vblk hvl vone hne).mono ?_
      rintro ex w' ⟨rfl, q, Z, hZ, rfl⟩
      obtain ⟨q1, q2, q3⟩ := end_row (h := [AObj.row 52 .ls xs, AObj.row 52 .ls [v]]) (e := 52) (τ := .ls) (ys := xs.take k ++ v :: xs.drop k) (g := b) (c := c) (A := some ⟨b, 0, none⟩) (w' := (w.drewN q).setRow b (ws.take (k * 3) ++ us ++ ws.drop (k * 3) ++ Z).toArray) hH hX rfl rfl rfl (by simp [World.setRow, World.drewN]) (fun j hj hn => setRow_other (w.drewN q) b j _ (by rintro rfl; exact hn (hlb hc))) (.inl (hlb hc)) (fun h => by omega) hcm (fun _ => ⟨_, Z, setRow_heap (w.drewN q) b _ _ _ _ hblk, hFy, by
        rw [List.length_append, hZ, hyl]
        have : c * sz .ls = c * 3 := rfl
        rw [this]
        omega⟩) (fun _ => rfl)
      rw [hys] at q3
      exact ⟨_, _, rfl, q1, q2, q3⟩
    · obtain rfl : c = xs.length := by omega
      refine (l_InsertGrow b xs.length k vb vc ws junk us junkv 52 w hblk hul hkl hln hone vblk hvl vone).mono ?_
      rintro ex w' ⟨G, Z, rfl, hG, hGn, hZ, hbl, hh⟩
      obtain ⟨q1, q2, q3⟩ := end_row (h := [AObj.row 52 .ls xs, AObj.row 52 .ls [v]]) (e := 52) (τ := .ls) (ys := xs.take k ++ v :: xs.drop k) (g := w.heap.size) (c := G) (A := some ⟨w.heap.size, 0, none⟩) (w' := w') hH hX hbl.os hbl.tape hbl.output hbl.size (fun j hj _ => hbl.block j hj) (.inr (Nat.le_refl _)) (fun h => by omega) hG (fun _ => ⟨_, Z, hh, hFy, by
        rw [List.length_append, hZ, hyl]
        have : G * sz .ls = G * 3 := rfl
        rw [this]
        omega⟩) (fun _ => rfl)
      rw [hys] at q3
      exact ⟨_, _, rfl, q1, q2, q3⟩
  · obtain rfl : k = xs.length := by omega
    have hxc : xs.length ≤ c := by
      rcases Nat.eq_zero_or_pos c with h | h
      · have := hc0 h; subst this; exact Nat.zero_le _
      · obtain ⟨ws, junk, hblk, hF, hone, hlen⟩ := hrow h
        have hul : ws.length = xs.length * 3 := by rw [hF.1, flt_len]; rfl
        have hlen : (ws ++ junk).length = c * 3 := hlen
        rw [List.length_append] at hlen; omega
    have e0 : xs.take xs.length ++ v :: xs.drop xs.length = xs ++ [v] := by simp
    rw [e0] at hys ⊢
    have hsrc : SrcA w (Liv [AObj.row 52 .ls xs, AObj.row 52 .ls [v]] β) X .ls [v] (.slice (some ⟨vb, 0, none⟩) [v].length vc) := ⟨_, _, rfl, fun _ => ⟨vb, 0, us, rfl, fun j u hj => by
      rw [Nat.zero_add]
      have hlt := (List.getElem?_eq_some_iff.1 hj).1
      exact at_row (w := w) (l := us ++ junkv) vblk (by rw [List.getElem?_append_left hlt]; exact hj), vF⟩⟩
    have happ := fun ty => app_any (ty := ty) tok45 (τ := .ls) rfl (h := [AObj.row 52 .ls xs, AObj.row 52 .ls [v]]) (β := β) (X := X) (w := w) (A := A) (b := b) (c := c) (xs := xs) (ys := [v]) hc0 hA hcm (fun h => by
      obtain ⟨ws, junk, q1, q2, q3, q4⟩ := hrow h
      exact ⟨ws, junk, q1, q2, q4⟩) hsrc (by simp) (by simp; omega)
    obtain ⟨g, c2, ws, junk, w', hrun, hg, hcp, hcm2, hh, hFy, hl, hoth, o1, o2, o3, o4⟩ := happ 0
    have hrun' : ∀ ty, (Builtin.append_ #[45, 45] ty #[.slice A xs.length c, .slice (some ⟨vb, 0, none⟩) 1 vc]).run Tryz.prog w = .ok (.slice (some ⟨g, 0, none⟩) (xs ++ [v]).length c2) w' := fun ty => hrun
    refine (l_InsertEnd A xs.length c vb vc w w' _ hrun' hxc (by unfold maxLen at hcm; omega)).mono ?_
    rintro ex w2 ⟨rfl, rfl⟩
    obtain ⟨q1, q2, q3⟩ := end_row (h := [AObj.row 52 .ls xs, AObj.row 52 .ls [v]]) (e := 52) (τ := .ls) (ys := xs ++ [v]) (g := g) (c := c2) (A := some ⟨g, 0, none⟩) (w' := w2) hH hX o1 o2 o3 o4 (fun j hj hn => hoth j hj (fun hc => by rintro rfl; exact hn (hlb hc))) (hg.imp (fun h => by rw [h.2]; exact hlb h.1) id) (fun h => by omega) hcm2 (fun _ => ⟨ws, junk, hh, hFy, hl⟩) (fun _ => rfl)
    exact ⟨_, _, rfl, q1, q2, q3⟩
end Go.Proofs.YtjffopopheiinaaGreat
end
section
namespace Go.Proofs.YtjffopopheiinaaGreat
open Go.RowKit
set_option maxRecDepth 100000
def zKe (s : (Int × Int × Int × Unit)) : Option (Bool × Unit) := (bif decide ((s.2.1 ≤ s.1)) then some ((decide ((s.1 ≤ s.2.2.1)), ())) else some ((false, ())))
def zK2 (s : (Int × Int × Int × Unit)) : Option (Bool × Unit) := (bif decide ((s.2.1 ≤ s.1)) then some ((decide ((s.1 ≤ s.2.2.1)), ())) else some ((false, ())))
def zBZ (s : (List Int × List Int × Int × Unit)) : Option ((List Int × List Int × Int × Unit) ⊕ ((Unit) ⊕ (Bool × Unit))) := (bif decide ((s.2.2.1 < nI (List.length s.1))) then (bif inR s.2.2.1 (List.length s.1) then (bif inR s.2.2.1 (List.length s.2.1) then (bif (!(decide ((at! .int s.1 (Int.toNat s.2.2.1) = at! .int s.2.1 (Int.toNat s.2.2.1))))) then some (Sum.inr (Sum.inr ((false, ())))) else some (Sum.inl ((s.1, s.2.1, wrap64 ((s.2.2.1 + (1 : Int))), ())))) else none) else none) else some (Sum.inr (Sum.inl (()))))
def zKk (s : (List Int × List Int × Unit)) : Option (Bool × Unit) := (bif (!(decide ((nI (List.length s.1) = nI (List.length s.2.1))))) then some ((false, ())) else (lp zBZ fuel ((s.1, (s.2.1, ((0 : Int), ()))))).bind fun r0 => (match r0 with | .inl _ => some ((true, ())) | .inr y1 => some ((y1.1, ()))))
def zBY (s : (Int × Int × List Lk × Int × List Lk × Unit)) : Option ((Int × Int × List Lk × Int × List Lk × Unit) ⊕ ((Unit) ⊕ (Bool × Unit))) := (bif decide ((s.1 < nI (List.length s.2.2.1))) then (bif inR s.1 (List.length s.2.2.1) then (bif inR s.1 (List.length s.2.2.2.2.1) then (bif (!(eqInts ([(at! .lk s.2.2.1 (Int.toNat s.1)).a, (at! .lk s.2.2.1 (Int.toNat s.1)).b, (at! .lk s.2.2.1 (Int.toNat s.1)).c]) ([(at! .lk s.2.2.2.2.1 (Int.toNat s.1)).a, (at! .lk s.2.2.2.2.1 (Int.toNat s.1)).b, (at! .lk s.2.2.2.2.1 (Int.toNat s.1)).c]))) then some (Sum.inr (Sum.inr ((false, ())))) else some (Sum.inl ((wrap64 ((s.1 + (1 : Int))), s.2.1, s.2.2.1, s.2.2.2.1, s.2.2.2.2.1, ())))) else none) else none) else some (Sum.inr (Sum.inl (()))))
def zKj (s : (Int × List Lk × Int × List Lk × Unit)) : Option (Bool × Unit) := (bif (!(decide ((s.1 = s.2.2.1)))) then some ((false, ())) else (bif (!(decide ((nI (List.length s.2.1) = nI (List.length s.2.2.2.1))))) then some ((false, ())) else (lp zBY fuel (((0 : Int), (s.1, (s.2.1, (s.2.2.1, (s.2.2.2.1, ()))))))).bind fun r0 => (match r0 with | .inl _ => some ((true, ())) | .inr y1 => some ((y1.1, ())))))
def zCm (s : (Int × Int × Int × Int × List Lk × Unit)) : Option ((Int × Int × Int × Int × List Lk × Unit) ⊕ ((Unit) ⊕ (Int × Unit))) := (bif decide ((s.2.2.1 < nI (List.length s.2.2.2.2.1))) then (bif inR s.2.2.1 (List.length s.2.2.2.2.1) then (bif decide (((at! .lk s.2.2.2.2.1 (Int.toNat s.2.2.1)).a = min s.1 s.2.1)) then (bif inR s.2.2.1 (List.length s.2.2.2.2.1) then (bif decide (((at! .lk s.2.2.2.2.1 (Int.toNat s.2.2.1)).b = max s.1 s.2.1)) then some (Sum.inr (Sum.inr ((s.2.2.1, ())))) else some (Sum.inl ((s.1, s.2.1, wrap64 ((s.2.2.1 + (1 : Int))), s.2.2.2.1, s.2.2.2.2.1, ())))) else none) else some (Sum.inl ((s.1, s.2.1, wrap64 ((s.2.2.1 + (1 : Int))), s.2.2.2.1, s.2.2.2.2.1, ())))) else none) else some (Sum.inr (Sum.inl (()))))
def zKN (s : (Int × List Lk × Int × Int × Unit)) : Option (Int × Unit) := (lp zCm fuel ((s.2.2.1, (s.2.2.2.1, ((0 : Int), (s.1, (s.2.1, ()))))))).bind fun r0 => (match r0 with | .inl _ => some (((-((1 : Int))), ())) | .inr y1 => some ((y1.1, ())))
def zBu (s : (List Lk × Int × Int × Int × List Lk × Unit)) : Option ((List Lk × Int × Int × Int × List Lk × Unit) ⊕ ((Unit) ⊕ (Bool × Unit))) := (bif decide ((s.2.2.1 < s.2.1)) then (bif inR s.2.2.1 (List.length s.1) then (bif decide (((at! .lk s.1 (Int.toNat s.2.2.1)).a < (0 : Int))) then some (Sum.inr (Sum.inr ((false, ())))) else (bif decide (((at! .lk s.1 (Int.toNat s.2.2.1)).b ≤ (at! .lk s.1 (Int.toNat s.2.2.1)).a)) then some (Sum.inr (Sum.inr ((false, ())))) else (bif decide ((s.2.2.2.1 ≤ (at! .lk s.1 (Int.toNat s.2.2.1)).b)) then some (Sum.inr (Sum.inr ((false, ())))) else (zKe (((at! .lk s.1 (Int.toNat s.2.2.1)).c, ((1 : Int), ((20 : Int), ()))))).bind fun r0 => (bif (!r0.1) then some (Sum.inr (Sum.inr ((false, ())))) else (bif decide (((0 : Int) < s.2.2.1)) then (bif inR (wrap64 ((s.2.2.1 - (1 : Int)))) (List.length s.2.2.2.2.1) then (bif decide (((at! .lk s.1 (Int.toNat s.2.2.1)).a < (at! .lk s.2.2.2.2.1 (Int.toNat (wrap64 ((s.2.2.1 - (1 : Int)))))).a)) then some (Sum.inr (Sum.inr ((false, ())))) else (bif inR (wrap64 ((s.2.2.1 - (1 : Int)))) (List.length s.2.2.2.2.1) then (bif decide (((at! .lk s.2.2.2.2.1 (Int.toNat (wrap64 ((s.2.2.1 - (1 : Int)))))).a = (at! .lk s.1 (Int.toNat s.2.2.1)).a)) then (bif inR (wrap64 ((s.2.2.1 - (1 : Int)))) (List.length s.2.2.2.2.1) then (bif decide (((at! .lk s.1 (Int.toNat s.2.2.1)).b ≤ (at! .lk s.2.2.2.2.1 (Int.toNat (wrap64 ((s.2.2.1 - (1 : Int)))))).b)) then some (Sum.inr (Sum.inr ((false, ())))) else some (Sum.inl ((s.1, s.2.1, wrap64 ((s.2.2.1 + (1 : Int))), s.2.2.2.1, s.2.2.2.2.1, ())))) else none) else some (Sum.inl ((s.1, s.2.1, wrap64 ((s.2.2.1 + (1 : Int))), s.2.2.2.1, s.2.2.2.2.1, ())))) else none)) else none) else some (Sum.inl ((s.1, s.2.1, wrap64 ((s.2.2.1 + (1 : Int))), s.2.2.2.1, s.2.2.2.2.1, ())))))))) else none) else some (Sum.inr (Sum.inl (()))))
def zJI (s : (Int × List Lk × Unit)) : Option (Bool × Unit) := (zKe ((s.1, ((1 : Int), ((8 : Int), ()))))).bind fun r0 => (bif (!r0.1) then some ((false, ())) else (bif decide (((14 : Int) < nI (List.length s.2.1))) then some ((false, ())) else (lp zBu fuel ((s.2.1, (nI (List.length s.2.1), ((0 : Int), (s.1, (s.2.1, ()))))))).bind fun r1 => (match r1 with | .inl _ => some ((true, ())) | .inr y2 => some ((y2.1, ())))))
def zB8 (s : (Int × Int × List Lk × Unit)) : Option ((Int × Int × List Lk × Unit) ⊕ ((Int × List Lk × Unit) ⊕ (Bool × Unit))) := (bif decide ((s.1 < nI (List.length s.2.2.1))) then (bif inR s.1 (List.length s.2.2.1) then (zK2 (((at! .lk s.2.2.1 (Int.toNat s.1)).a, ((0 : Int), (wrap64 ((s.2.1 - (1 : Int))), ()))))).bind fun r0 => (bif (!r0.1) then some (Sum.inr (Sum.inr ((false, ())))) else (zK2 (((at! .lk s.2.2.1 (Int.toNat s.1)).b, (wrap64 (((at! .lk s.2.2.1 (Int.toNat s.1)).a + (1 : Int))), (wrap64 ((s.2.1 - (1 : Int))), ()))))).bind fun r1 => (bif (!r1.1) then some (Sum.inr (Sum.inr ((false, ())))) else (zK2 (((at! .lk s.2.2.1 (Int.toNat s.1)).c, ((1 : Int), ((20 : Int), ()))))).bind fun r2 => (bif (!r2.1) then some (Sum.inr (Sum.inr ((false, ())))) else (bif decide (((0 : Int) < s.1)) then (bif inR (wrap64 ((s.1 - (1 : Int)))) (List.length s.2.2.1) then (bif decide (((at! .lk s.2.2.1 (Int.toNat s.1)).a < (at! .lk s.2.2.1 (Int.toNat (wrap64 ((s.1 - (1 : Int)))))).a)) then some (Sum.inr (Sum.inr ((false, ())))) else (bif inR (wrap64 ((s.1 - (1 : Int)))) (List.length s.2.2.1) then (bif decide (((at! .lk s.2.2.1 (Int.toNat (wrap64 ((s.1 - (1 : Int)))))).a = (at! .lk s.2.2.1 (Int.toNat s.1)).a)) then (bif inR (wrap64 ((s.1 - (1 : Int)))) (List.length s.2.2.1) then (bif decide (((at! .lk s.2.2.1 (Int.toNat s.1)).b ≤ (at! .lk s.2.2.1 (Int.toNat (wrap64 ((s.1 - (1 : Int)))))).b)) then some (Sum.inr (Sum.inr ((false, ())))) else some (Sum.inl ((wrap64 ((s.1 + (1 : Int))), s.2.1, s.2.2.1, ())))) else none) else some (Sum.inl ((wrap64 ((s.1 + (1 : Int))), s.2.1, s.2.2.1, ())))) else none)) else none) else some (Sum.inl ((wrap64 ((s.1 + (1 : Int))), s.2.1, s.2.2.1, ()))))))) else none) else some (Sum.inr (Sum.inl ((s.2.1, s.2.2.1, ())))))
def zKC (s : (Int × List Lk × Unit)) : Option (Bool × Unit) := (lp zB8 fuel (((0 : Int), (s.1, (s.2.1, ()))))).bind fun r0 => (match r0 with | .inl x1 => (zK2 ((x1.1, ((1 : Int), ((8 : Int), ()))))).bind fun r2 => (bif r2.1 then some ((decide ((nI (List.length x1.2.1) ≤ (14 : Int))), ())) else some ((false, ()))) | .inr y1 => some ((y1.1, ())))
def zJP (s : (Int × Int × Int × Int × Unit)) : Option (Int × Bool × Unit) := (bif decide ((s.2.2.2.1 = s.1)) then some ((s.2.1, true, ())) else (bif decide ((s.2.2.2.1 = s.2.1)) then some ((s.1, true, ())) else some (((0 : Int), false, ()))))
def zB7 (s : (Int × Int × Int × List Lk × List Int × Unit)) : Option ((Int × Int × Int × List Lk × List Int × Unit) ⊕ ((List Int × Unit) ⊕ Unit)) := (bif decide ((s.2.1 < (8 : Int))) then (zKC ((s.2.2.1, (s.2.2.2.1, ())))).bind fun r0 => (bif r0.1 then (zKN ((s.2.2.1, (s.2.2.2.1, (s.1, (s.2.1, ())))))).bind fun r1 => (bif decide (((0 : Int) ≤ r1.1)) then (bif decide (((List.length s.2.2.2.2.1 + List.length ([s.2.1])) ≤ (33554432 : Nat))) then some (Sum.inl ((s.1, wrap64 ((s.2.1 + (1 : Int))), s.2.2.1, s.2.2.2.1, (s.2.2.2.2.1 ++ [s.2.1]), ()))) else none) else some (Sum.inl ((s.1, wrap64 ((s.2.1 + (1 : Int))), s.2.2.1, s.2.2.2.1, s.2.2.2.2.1, ())))) else some (Sum.inr (Sum.inl ((s.2.2.2.2.1, ()))))) else some (Sum.inr (Sum.inl ((s.2.2.2.2.1, ())))))
def zKB (s : (Int × List Lk × Int × Unit)) : Option (List Int × Unit) := (lp zB7 fuel ((s.2.2.1, ((0 : Int), (s.1, (s.2.1, (([] : List Int), ()))))))).bind fun r0 => (match r0 with | .inl x1 => some ((x1.1, ())) | .inr _ => none)
def zBy (s : (Int × List Lk × Int × Int × List Int × Unit)) : Option ((Int × List Lk × Int × Int × List Int × Unit) ⊕ ((List Int × Unit) ⊕ Unit)) := (bif decide ((s.2.2.2.1 < s.2.2.1)) then (bif inR s.2.2.2.1 (List.length s.2.1) then (zJP (((at! .lk s.2.1 (Int.toNat s.2.2.2.1)).a, ((at! .lk s.2.1 (Int.toNat s.2.2.2.1)).b, ((at! .lk s.2.1 (Int.toNat s.2.2.2.1)).c, (s.1, ())))))).bind fun r0 => (bif r0.2.1 then (bif decide (((List.length s.2.2.2.2.1 + List.length ([r0.1])) ≤ (33554432 : Nat))) then some (Sum.inl ((s.1, s.2.1, s.2.2.1, wrap64 ((s.2.2.2.1 + (1 : Int))), (s.2.2.2.2.1 ++ [r0.1]), ()))) else none) else some (Sum.inl ((s.1, s.2.1, s.2.2.1, wrap64 ((s.2.2.2.1 + (1 : Int))), s.2.2.2.2.1, ())))) else none) else some (Sum.inr (Sum.inl ((s.2.2.2.2.1, ())))))
def zJO (s : (Int × List Lk × Int × Unit)) : Option (List Int × Unit) := (lp zBy fuel ((s.2.2.1, (s.2.1, (nI (List.length s.2.1), ((0 : Int), (([] : List Int), ()))))))).bind fun r0 => (match r0 with | .inl x1 => (zKx ((x1.1, ()))).bind fun r2 => some ((r2.1, ())) | .inr _ => none)
def zJM (s : (Int × Int × Int × Int × Int × Unit)) : Option (Bool × Unit) := (bif decide ((s.1 = min s.2.2.2.1 s.2.2.2.2.1)) then some ((decide ((s.2.1 = max s.2.2.2.1 s.2.2.2.2.1)), ())) else some ((false, ())))
def zB4 (s : (List Lk × Int × Int × Int × Int × Unit)) : Option ((List Lk × Int × Int × Int × Int × Unit) ⊕ ((Unit) ⊕ (Int × Unit))) := (bif decide ((s.2.2.2.2.1 < s.2.2.2.1)) then (bif inR s.2.2.2.2.1 (List.length s.1) then (zJM (((at! .lk s.1 (Int.toNat s.2.2.2.2.1)).a, ((at! .lk s.1 (Int.toNat s.2.2.2.2.1)).b, ((at! .lk s.1 (Int.toNat s.2.2.2.2.1)).c, (s.2.1, (s.2.2.1, ()))))))).bind fun r0 => (bif r0.1 then some (Sum.inr (Sum.inr ((s.2.2.2.2.1, ())))) else some (Sum.inl ((s.1, s.2.1, s.2.2.1, s.2.2.2.1, wrap64 ((s.2.2.2.2.1 + (1 : Int))), ())))) else none) else some (Sum.inr (Sum.inl (()))))
def zKu (s : (List Lk × Int × Int × Unit)) : Option (Int × Unit) := (lp zB4 fuel ((s.1, (s.2.1, (s.2.2.1, (nI (List.length s.1), ((0 : Int), ()))))))).bind fun r0 => (match r0 with | .inl _ => some (((-((1 : Int))), ())) | .inr y1 => some ((y1.1, ())))
def zJL (s : (Int × List Lk × Int × Int × Unit)) : Option (Int × Unit) := (zKu ((s.2.1, (s.2.2.1, (s.2.2.2.1, ()))))).bind fun r0 => some ((r0.1, ()))
end Go.Proofs.YtjffopopheiinaaGreat
end
section
namespace Go.Proofs.YtjffopopheiinaaGreat
open Go.RowKit
set_option maxRecDepth 100000
def zDF : Entry := ⟨⟨[.c (.one (.b (.int .i64))), .c (.one (.b (.int .i64))), .c (.one (.b (.int .i64)))], []⟩, [.int, .int, .int], ⟨[.c (.one (.b .bool))], []⟩, [.bool], zKe⟩
def zFX : Env := mkEnv tab [] 15 0 [] []
theorem zLM : CtrOk Tryz.prog zFX.Γ := ctr_ok (l := []) trivial
theorem zIG : GC Tryz.prog 14 zDF := gc_of (G := zFX) (c := Tryz.f14.body.getD .skip) bad_ok tabOk zLM mixed Tryz.func14 (by kernel_rfl) Tryz.ntmps14 (code_ok' (G := zFX) (n := 0) (by kernel_rfl) (by kernel_rfl) trivial (by kernel_rfl)) (fun s => by kernel_rfl)
def zFb : Entry := ⟨⟨[.c (.one (.b (.int .i64))), .c (.one (.b (.int .i64))), .c (.one (.b (.int .i64)))], []⟩, [.int, .int, .int], ⟨[.c (.one (.b .bool))], []⟩, [.bool], zK2⟩
def zGF : Env := mkEnv tab [] 15 0 [] []
theorem zMu : CtrOk Tryz.prog zGF.Γ := ctr_ok (l := []) trivial
theorem zJu : GC Tryz.prog 26 zFb := gc_of (G := zGF) (c := Tryz.f26.body.getD .skip) bad_ok tabOk zMu mixed Tryz.func26 (by kernel_rfl) Tryz.ntmps26 (code_ok' (G := zGF) (n := 0) (by kernel_rfl) (by kernel_rfl) trivial (by kernel_rfl)) (fun s => by kernel_rfl)
def zAI : Loop := ⟨⟨[0, 1, 5], ⟨[.c (.one (.b (.sl false .int))), .c (.one (.b (.sl false .int))), .c (.one (.b (.int .i64)))], []⟩, [.ls .int, .ls .int, .int]⟩, 0, ⟨[], ⟨[], []⟩, []⟩, ⟨[4], ⟨[.c (.one (.b .bool))], []⟩, [.bool]⟩, lp zBZ fuel⟩
def zD9 : Entry := ⟨⟨[.c (.one (.b (.sl false .int))), .c (.one (.b (.sl false .int)))], []⟩, [.ls .int, .ls .int], ⟨[.c (.one (.b .bool))], []⟩, [.bool], zKk⟩
def zF3 : Env := mkEnv tab [] 26 0 [(6, 8, [(0, true), (1, true), (2, true), (3, true), (4, true), (5, true), (6, true), (7, true)], [])] [(4, zAI)]
theorem zLS : CtrOk Tryz.prog zF3.Γ := ctr_ok (l := []) trivial
theorem zHn : LoopOk Tryz.prog 0 26 (nthC (Tryz.f29.body.getD .skip) 0) zAI := loop_ok (G := zF3) (F := zAI.F) (eid := zAI.eid) (FX := zAI.FX) (FR := zAI.FR) (B := zBZ) (n := fuel) bad_ok tabOk zLS mixed (code_ok' (G := zF3) (n := 0) (by kernel_rfl) (by kernel_rfl) trivial (by kernel_rfl)) (fun s => by kernel_rfl)
theorem zIM : GC Tryz.prog 29 zD9 := gc_of (G := zF3) (c := Tryz.f29.body.getD .skip) bad_ok tabOk zLS mixed Tryz.func29 (by kernel_rfl) Tryz.ntmps29 (code_ok' (G := zF3) (n := 1) (by kernel_rfl) (by kernel_rfl) ⟨trivial, loop_at (id := 4) (L0 := zAI) (by kernel_rfl) (by kernel_rfl) zHn⟩ (by kernel_rfl)) (fun s => by kernel_rfl)
def zAH : Loop := ⟨⟨[2, 3, 5], ⟨[.c (.one (.ptr 0 0)), .c (.one (.ptr 1 0)), .c (.one (.b (.int .i64)))], [.box 25 [(.b (.int .i64)), (.b (.sl false .lk))], .box 25 [(.b (.int .i64)), (.b (.sl false .lk))]]⟩, [.int, .int, .ls .lk, .int, .ls .lk]⟩, 0, ⟨[], ⟨[], []⟩, []⟩, ⟨[4], ⟨[.c (.one (.b .bool))], []⟩, [.bool]⟩, lp zBY fuel⟩
def zD8 : Entry := ⟨⟨[.c (.agg [(.b (.int .i64)), (.b (.sl false .lk))]), .c (.agg [(.b (.int .i64)), (.b (.sl false .lk))])], []⟩, [.int, .ls .lk, .int, .ls .lk], ⟨[.c (.one (.b .bool))], []⟩, [.bool], zKj⟩
def zF2 : Env := mkEnv tab [] 38 0 [(6, 10, [(0, true), (1, true), (2, true), (3, true), (4, true), (5, true), (6, true), (7, true), (8, true), (9, true)], [])] [(4, zAH)]
theorem zLR : CtrOk Tryz.prog zF2.Γ := ctr_ok (l := []) trivial
theorem zHm : LoopOk Tryz.prog 0 38 (nthC (Tryz.f27.body.getD .skip) 0) zAH := loop_ok (G := zF2) (F := zAH.F) (eid := zAH.eid) (FX := zAH.FX) (FR := zAH.FR) (B := zBY) (n := fuel) bad_ok tabOk zLR mixed (code_ok' (G := zF2) (n := 0) (by kernel_rfl) (by kernel_rfl) trivial (by kernel_rfl)) (fun s => by kernel_rfl)
theorem zIL : GC Tryz.prog 27 zD8 := gc_of (G := zF2) (c := Tryz.f27.body.getD .skip) bad_ok tabOk zLR mixed Tryz.func27 (by kernel_rfl) Tryz.ntmps27 (code_ok' (G := zF2) (n := 1) (by kernel_rfl) (by kernel_rfl) ⟨trivial, loop_at (id := 4) (L0 := zAH) (by kernel_rfl) (by kernel_rfl) zHm⟩ (by kernel_rfl)) (fun s => by kernel_rfl)
def zA5 : Loop := ⟨⟨[1, 2, 3, 7], ⟨[.c (.one (.b (.int .i64))), .c (.one (.b (.int .i64))), .c (.one (.ptr 0 0)), .c (.one (.b (.int .i64)))], [.box 25 [(.b (.int .i64)), (.b (.sl false .lk))]]⟩, [.int, .int, .int, .int, .ls .lk]⟩, 0, ⟨[], ⟨[], []⟩, []⟩, ⟨[6], ⟨[.c (.one (.b (.int .i64)))], []⟩, [.int]⟩, lp zCm fuel⟩
def zEW : Entry := ⟨⟨[.c (.agg [(.b (.int .i64)), (.b (.sl false .lk))]), .c (.one (.b (.int .i64))), .c (.one (.b (.int .i64)))], []⟩, [.int, .ls .lk, .int, .int], ⟨[.c (.one (.b (.int .i64)))], []⟩, [.int], zKN⟩
def zGq : Env := mkEnv tab [] 38 0 [] [(2, zA5)]
theorem zMf : CtrOk Tryz.prog zGq.Γ := ctr_ok (l := []) trivial
theorem zHK : LoopOk Tryz.prog 0 38 (nthC (Tryz.f55.body.getD .skip) 0) zA5 := loop_ok (G := zGq) (F := zA5.F) (eid := zA5.eid) (FX := zA5.FX) (FR := zA5.FR) (B := zCm) (n := fuel) bad_ok tabOk zMf mixed (code_ok' (G := zGq) (n := 0) (by kernel_rfl) (by kernel_rfl) trivial (by kernel_rfl)) (fun s => by kernel_rfl)
theorem zJf : GC Tryz.prog 55 zEW := gc_of (G := zGq) (c := Tryz.f55.body.getD .skip) bad_ok tabOk zMf mixed Tryz.func55 (by kernel_rfl) Tryz.ntmps55 (code_ok' (G := zGq) (n := 1) (by kernel_rfl) (by kernel_rfl) ⟨trivial, loop_at (id := 2) (L0 := zA5) (by kernel_rfl) (by kernel_rfl) zHK⟩ (by kernel_rfl)) (fun s => by kernel_rfl)
def zAd : Loop := ⟨⟨[1, 16, 17, 18], ⟨[.c (.one (.ptr 0 0)), .c (.one (.b (.sl false .lk))), .c (.one (.b (.int .i64))), .c (.one (.b (.int .i64)))], [.box 25 [(.b (.int .i64)), (.b (.sl false .lk))]]⟩, [.ls .lk, .int, .int, .int, .ls .lk]⟩, 0, ⟨[], ⟨[], []⟩, []⟩, ⟨[2], ⟨[.c (.one (.b .bool))], []⟩, [.bool]⟩, lp zBu fuel⟩
def zC9 : Entry := ⟨⟨[.c (.agg [(.b (.int .i64)), (.b (.sl false .lk))])], []⟩, [.int, .ls .lk], ⟨[.c (.one (.b .bool))], []⟩, [.bool], zJI⟩
def zFr : Env := mkEnv tab [(14, [], zDF)] 85 0 [(8, 34, [(0, true), (1, true), (2, true), (3, true), (4, true), (5, true), (6, true), (7, true), (8, true), (9, true), (10, true), (11, true), (12, true), (13, true), (14, true), (15, true), (16, true), (17, true), (18, true), (19, true), (20, true), (21, true), (22, true), (23, true), (24, true), (25, true), (26, true), (27, true), (28, true), (29, true), (30, true), (31, true), (32, true), (33, true)], [])] [(4, zAd)]
theorem zLg : CtrOk Tryz.prog zFr.Γ := ctr_ok (l := [(14, [], zDF)]) ⟨⟨zIG, Tryz.call14⟩, trivial⟩
theorem zGS : LoopOk Tryz.prog 0 85 (nthC (Tryz.f13.body.getD .skip) 0) zAd := loop_ok (G := zFr) (F := zAd.F) (eid := zAd.eid) (FX := zAd.FX) (FR := zAd.FR) (B := zBu) (n := fuel) bad_ok tabOk zLg mixed (code_ok' (G := zFr) (n := 0) (by kernel_rfl) (by kernel_rfl) trivial (by kernel_rfl)) (fun s => by kernel_rfl)
theorem zIa : GC Tryz.prog 13 zC9 := gc_of (G := zFr) (c := Tryz.f13.body.getD .skip) bad_ok tabOk zLg mixed Tryz.func13 (by kernel_rfl) Tryz.ntmps13 (code_ok' (G := zFr) (n := 1) (by kernel_rfl) (by kernel_rfl) ⟨trivial, loop_at (id := 4) (L0 := zAd) (by kernel_rfl) (by kernel_rfl) zGS⟩ (by kernel_rfl)) (fun s => by kernel_rfl)
def zAR : Loop := ⟨⟨[1, 3], ⟨[.c (.one (.ptr 0 0)), .c (.one (.b (.int .i64)))], [.box 25 [(.b (.int .i64)), (.b (.sl false .lk))]]⟩, [.int, .int, .ls .lk]⟩, 0, ⟨[1], ⟨[.c (.one (.ptr 0 0))], [.box 25 [(.b (.int .i64)), (.b (.sl false .lk))]]⟩, [.int, .ls .lk]⟩, ⟨[2], ⟨[.c (.one (.b .bool))], []⟩, [.bool]⟩, lp zB8 fuel⟩
def zEL : Entry := ⟨⟨[.c (.agg [(.b (.int .i64)), (.b (.sl false .lk))])], []⟩, [.int, .ls .lk], ⟨[.c (.one (.b .bool))], []⟩, [.bool], zKC⟩
def zGf : Env := mkEnv tab [(26, [], zFb)] 89 0 [(7, 34, [(0, true), (1, true), (2, true), (3, true), (4, true), (5, true), (6, true), (7, true), (8, true), (9, true), (10, true), (11, true), (12, true), (13, true), (14, true), (15, true), (16, true), (17, true), (18, true), (19, true), (20, true), (21, true), (22, true), (23, true), (24, true), (25, true), (26, true), (27, true), (28, true), (29, true), (30, true), (31, true), (32, true), (33, true)], [])] [(2, zAR)]
theorem zL4 : CtrOk Tryz.prog zGf.Γ := ctr_ok (l := [(26, [], zFb)]) ⟨⟨zJu, Tryz.call26⟩, trivial⟩
theorem zHw : LoopOk Tryz.prog 0 89 (nthC (Tryz.f51.body.getD .skip) 0) zAR := loop_ok (G := zGf) (F := zAR.F) (eid := zAR.eid) (FX := zAR.FX) (FR := zAR.FR) (B := zB8) (n := fuel) bad_ok tabOk zL4 mixed (code_ok' (G := zGf) (n := 0) (by kernel_rfl) (by kernel_rfl) trivial (by kernel_rfl)) (fun s => by kernel_rfl)
theorem zI4 : GC Tryz.prog 51 zEL := gc_of (G := zGf) (c := Tryz.f51.body.getD .skip) bad_ok tabOk zL4 mixed Tryz.func51 (by kernel_rfl) Tryz.ntmps51 (code_ok' (G := zGf) (n := 1) (by kernel_rfl) (by kernel_rfl) ⟨trivial, loop_at (id := 2) (L0 := zAR) (by kernel_rfl) (by kernel_rfl) zHw⟩ (by kernel_rfl)) (fun s => by kernel_rfl)
def zDg : Entry := ⟨⟨[.c (.agg [(.b (.int .i64)), (.b (.int .i64)), (.b (.int .i64))]), .c (.one (.b (.int .i64)))], []⟩, [.int, .int, .int, .int], ⟨[.tup [(.one (.b (.int .i64))), (.one (.b .bool))]], []⟩, [.int, .bool], zJP⟩
def zFy : Env := mkEnv tab [] 19 0 [] []
theorem zLn : CtrOk Tryz.prog zFy.Γ := ctr_ok (l := []) trivial
theorem zIh : GC Tryz.prog 91 zDg := gc_of (G := zFy) (c := Tryz.f91.body.getD .skip) bad_ok tabOk zLn mixed Tryz.func91 (by kernel_rfl) Tryz.ntmps91 (code_ok' (G := zFy) (n := 0) (by kernel_rfl) (by kernel_rfl) trivial (by kernel_rfl)) (fun s => by kernel_rfl)
def zAQ : Loop := ⟨⟨[1, 2, 5, 6], ⟨[.c (.one (.b (.int .i64))), .c (.one (.ptr 0 0)), .c (.one (.own 1)), .c (.one (.b (.int .i64)))], [.box 25 [(.b (.int .i64)), (.b (.sl false .lk))], .row 3 .int]⟩, [.int, .int, .int, .ls .lk, .ls .int]⟩, 0, ⟨[5], ⟨[.c (.one (.own 0))], [.row 3 .int]⟩, [.ls .int]⟩, ⟨[999999], ⟨[.c (.one (.own 0))], []⟩, []⟩, lp zB7 fuel⟩
def zEK : Entry := ⟨⟨[.c (.agg [(.b (.int .i64)), (.b (.sl false .lk))]), .c (.one (.b (.int .i64)))], []⟩, [.int, .ls .lk, .int], ⟨[.c (.one (.own 0))], [.row 3 .int]⟩, [.ls .int], zKB⟩
def zGe : Env := mkEnv tab [(55, [], zEW), (51, [], zEL)] 26 0 [] [(3, zAQ)]
theorem zL3 : CtrOk Tryz.prog zGe.Γ := ctr_ok (l := [(55, [], zEW), (51, [], zEL)]) ⟨⟨zJf, Tryz.call55⟩, ⟨⟨zI4, Tryz.call51⟩, trivial⟩⟩
theorem zHv : LoopOk Tryz.prog 0 26 (nthC (Tryz.f114.body.getD .skip) 0) zAQ := loop_ok (G := zGe) (F := zAQ.F) (eid := zAQ.eid) (FX := zAQ.FX) (FR := zAQ.FR) (B := zB7) (n := fuel) bad_ok tabOk zL3 mixed (code_ok' (G := zGe) (n := 0) (by kernel_rfl) (by kernel_rfl) trivial (by kernel_rfl)) (fun s => by kernel_rfl)
theorem zI3 : GC Tryz.prog 114 zEK := gc_of (G := zGe) (c := Tryz.f114.body.getD .skip) bad_ok tabOk zL3 mixed Tryz.func114 (by kernel_rfl) Tryz.ntmps114 (code_ok' (G := zGe) (n := 1) (by kernel_rfl) (by kernel_rfl) ⟨trivial, loop_at (id := 3) (L0 := zAQ) (by kernel_rfl) (by kernel_rfl) zHv⟩ (by kernel_rfl)) (fun s => by kernel_rfl)
def zAh : Loop := ⟨⟨[1, 5, 12, 13, 14], ⟨[.c (.one (.b (.int .i64))), .c (.one (.own 0)), .c (.one (.b (.sl false .lk))), .c (.one (.b (.int .i64))), .c (.one (.b (.int .i64)))], [.row 3 .int]⟩, [.int, .ls .lk, .int, .int, .ls .int]⟩, 0, ⟨[5], ⟨[.c (.one (.own 0))], [.row 3 .int]⟩, [.ls .int]⟩, ⟨[999999], ⟨[.c (.one (.own 0))], []⟩, []⟩, lp zBy fuel⟩
def zDf : Entry := ⟨⟨[.c (.agg [(.b (.int .i64)), (.b (.sl false .lk))]), .c (.one (.b (.int .i64)))], []⟩, [.int, .ls .lk, .int], ⟨[.c (.one (.own 0))], [.row 3 .int]⟩, [.ls .int], zJO⟩
def zFx : Env := mkEnv tab [(92, [], zEG), (91, [], zDg)] 33 0 [] [(3, zAh)]
theorem zLm : CtrOk Tryz.prog zFx.Γ := ctr_ok (l := [(92, [], zEG), (91, [], zDg)]) ⟨⟨zIZ, Tryz.call92⟩, ⟨⟨zIh, Tryz.call91⟩, trivial⟩⟩
theorem zGW : LoopOk Tryz.prog 0 33 (nthC (Tryz.f83.body.getD .skip) 0) zAh := loop_ok (G := zFx) (F := zAh.F) (eid := zAh.eid) (FX := zAh.FX) (FR := zAh.FR) (B := zBy) (n := fuel) bad_ok tabOk zLm mixed (code_ok' (G := zFx) (n := 0) (by kernel_rfl) (by kernel_rfl) trivial (by kernel_rfl)) (fun s => by kernel_rfl)
theorem zIg : GC Tryz.prog 83 zDf := gc_of (G := zFx) (c := Tryz.f83.body.getD .skip) bad_ok tabOk zLm mixed Tryz.func83 (by kernel_rfl) Tryz.ntmps83 (code_ok' (G := zFx) (n := 1) (by kernel_rfl) (by kernel_rfl) ⟨trivial, loop_at (id := 3) (L0 := zAh) (by kernel_rfl) (by kernel_rfl) zGW⟩ (by kernel_rfl)) (fun s => by kernel_rfl)
def zDd : Entry := ⟨⟨[.c (.agg [(.b (.int .i64)), (.b (.int .i64)), (.b (.int .i64))]), .c (.one (.at_ [(.int .i64)] 0)), .c (.one (.at_ [(.int .i64)] 0))], []⟩, [.int, .int, .int, .int, .int], ⟨[.c (.one (.b .bool))], []⟩, [.bool], zJM⟩
def zFv : Env := mkEnv tab [] 19 0 [] []
theorem zLk : CtrOk Tryz.prog zFv.Γ := ctr_ok (l := []) trivial
theorem zIe : GC Tryz.prog 81 zDd := gc_of (G := zFv) (c := Tryz.f81.body.getD .skip) bad_ok tabOk zLk mixed Tryz.func81 (by kernel_rfl) Tryz.ntmps81 (code_ok' (G := zFv) (n := 0) (by kernel_rfl) (by kernel_rfl) trivial (by kernel_rfl)) (fun s => by kernel_rfl)
def zAN : Loop := ⟨⟨[0, 1, 7, 8], ⟨[.c (.one (.b (.sl false .lk))), .c (.fn 81 [(.at_ [(.int .i64)] 0), (.at_ [(.int .i64)] 0)]), .c (.one (.b (.int .i64))), .c (.one (.b (.int .i64)))], []⟩, [.ls .lk, .int, .int, .int, .int]⟩, 0, ⟨[], ⟨[], []⟩, []⟩, ⟨[4], ⟨[.c (.one (.b (.int .i64)))], []⟩, [.int]⟩, lp zB4 fuel⟩
def zED : Entry := ⟨⟨[.c (.one (.b (.sl false .lk))), .c (.fn 81 [(.at_ [(.int .i64)] 0), (.at_ [(.int .i64)] 0)])], []⟩, [.ls .lk, .int, .int], ⟨[.c (.one (.b (.int .i64)))], []⟩, [.int], zKu⟩
def zF9 : Env := mkEnv tab [(81, [], zDd)] 19 0 [] [(2, zAN)]
theorem zLY : CtrOk Tryz.prog zF9.Γ := ctr_ok (l := [(81, [], zDd)]) ⟨⟨zIe, Tryz.call81⟩, trivial⟩
theorem zHs : LoopOk Tryz.prog 0 19 (nthC (Tryz.f80.body.getD .skip) 0) zAN := loop_ok (G := zF9) (F := zAN.F) (eid := zAN.eid) (FX := zAN.FX) (FR := zAN.FR) (B := zB4) (n := fuel) bad_ok tabOk zLY mixed (code_ok' (G := zF9) (n := 0) (by kernel_rfl) (by kernel_rfl) trivial (by kernel_rfl)) (fun s => by kernel_rfl)
theorem zIW : GC Tryz.prog 80 zED := gc_of (G := zF9) (c := Tryz.f80.body.getD .skip) bad_ok tabOk zLY mixed Tryz.func80 (by kernel_rfl) Tryz.ntmps80 (code_ok' (G := zF9) (n := 1) (by kernel_rfl) (by kernel_rfl) ⟨trivial, loop_at (id := 2) (L0 := zAN) (by kernel_rfl) (by kernel_rfl) zHs⟩ (by kernel_rfl)) (fun s => by kernel_rfl)
def zDc : Entry := ⟨⟨[.c (.agg [(.b (.int .i64)), (.b (.sl false .lk))]), .c (.one (.b (.int .i64))), .c (.one (.b (.int .i64)))], []⟩, [.int, .ls .lk, .int, .int], ⟨[.c (.one (.b (.int .i64)))], []⟩, [.int], zJL⟩
def zFu : Env := mkEnv tab [(81, [], zDd), (80, [81], zED)] 11 0 [] []
theorem zLj : CtrOk Tryz.prog zFu.Γ := ctr_ok (l := [(81, [], zDd), (80, [81], zED)]) ⟨⟨zIe, Tryz.call81⟩, ⟨⟨zIW, Tryz.call80⟩, trivial⟩⟩
theorem zId : GC Tryz.prog 46 zDc := gc_of (G := zFu) (c := Tryz.f46.body.getD .skip) bad_ok tabOk zLj mixed Tryz.func46 (by kernel_rfl) Tryz.ntmps46 (code_ok' (G := zFu) (n := 0) (by kernel_rfl) (by kernel_rfl) trivial (by kernel_rfl)) (fun s => by kernel_rfl)
end Go.Proofs.YtjffopopheiinaaGreat
end
section
namespace Go.Proofs.YtjffopopheiinaaGreat
open Go.RowKit
set_option maxRecDepth 100000
def zJF (s : (Int × Unit)) : Option (Bool × Unit) := some (((!(decide ((s.1 = s.1)))), ()))
def zJE (s : (Int × Int × Unit)) : Option (Int × Unit) := (zJF ((s.1, ()))).bind fun r0 => (zJF ((s.2.1, ()))).bind fun r1 => (bif r0.1 then (bif r1.1 then some (((0 : Int), ())) else some (((-((1 : Int))), ()))) else (bif r1.1 then some (((1 : Int), ())) else (bif decide ((s.1 < s.2.1)) then some (((-((1 : Int))), ())) else (bif decide ((s.2.1 < s.1)) then some (((1 : Int), ())) else some (((0 : Int), ()))))))
def zCh (s : (List Ls × Int × Int × Int × Int × List En × Unit)) : Option ((List Ls × Int × Int × Int × Int × List En × Unit) ⊕ ((Int × Int × List En × Unit) ⊕ (Bool × Int × Int × List En × Unit))) := (bif decide ((s.2.2.1 < nI (List.length s.1))) then (bif inR s.2.2.1 (List.length s.1) then (bif decide (((at! .ls s.1 (Int.toNat s.2.2.1)).o = s.2.1)) then (bif inR s.2.2.1 (List.length s.1) then some (Sum.inr (Sum.inr ((true, (at! .ls s.1 (Int.toNat s.2.2.1)).o, (at! .ls s.1 (Int.toNat s.2.2.1)).s, (at! .ls s.1 (Int.toNat s.2.2.1)).e, ())))) else none) else some (Sum.inl ((s.1, s.2.1, wrap64 ((s.2.2.1 + (1 : Int))), s.2.2.2.1, s.2.2.2.2.1, s.2.2.2.2.2.1, ())))) else none) else some (Sum.inr (Sum.inl ((s.2.2.2.1, s.2.2.2.2.1, s.2.2.2.2.2.1, ())))))
def zKH (s : (List Ls × Int × Unit)) : Option (Int × Int × List En × Bool × Unit) := (lp zCh fuel ((s.1, (s.2.1, ((0 : Int), ((0 : Int), ((0 : Int), (([] : List En), ())))))))).bind fun r0 => (match r0 with | .inl _ => some (((0 : Int), (0 : Int), ([] : List En), false, ())) | .inr y1 => some ((y1.2.1, y1.2.2.1, y1.2.2.2.1, y1.1, ())))
def zBz (s : (List En × Int × Int × Int × Int × List En × Unit)) : Option ((List En × Int × Int × Int × Int × List En × Unit) ⊕ ((Unit) ⊕ (Bool × Unit))) := (bif decide ((s.2.2.1 < s.2.1)) then (bif inR s.2.2.1 (List.length s.1) then (zKe (((at! .en s.1 (Int.toNat s.2.2.1)).n, ((0 : Int), ((7 : Int), ()))))).bind fun r0 => (bif (!r0.1) then some (Sum.inr (Sum.inr ((false, ())))) else (bif decide (((at! .en s.1 (Int.toNat s.2.2.1)).n = s.2.2.2.1)) then some (Sum.inr (Sum.inr ((false, ())))) else (zKe (((at! .en s.1 (Int.toNat s.2.2.1)).c, ((1 : Int), ((20 : Int), ()))))).bind fun r1 => (bif (!r1.1) then some (Sum.inr (Sum.inr ((false, ())))) else (bif decide (((0 : Int) < s.2.2.1)) then (bif inR (wrap64 ((s.2.2.1 - (1 : Int)))) (List.length s.2.2.2.2.2.1) then (bif decide (((at! .en s.1 (Int.toNat s.2.2.1)).n ≤ (at! .en s.2.2.2.2.2.1 (Int.toNat (wrap64 ((s.2.2.1 - (1 : Int)))))).n)) then some (Sum.inr (Sum.inr ((false, ())))) else some (Sum.inl ((s.1, s.2.1, wrap64 ((s.2.2.1 + (1 : Int))), s.2.2.2.1, s.2.2.2.2.1, s.2.2.2.2.2.1, ())))) else none) else some (Sum.inl ((s.1, s.2.1, wrap64 ((s.2.2.1 + (1 : Int))), s.2.2.2.1, s.2.2.2.2.1, s.2.2.2.2.2.1, ()))))))) else none) else some (Sum.inr (Sum.inl (()))))
def zJQ (s : (Int × Int × List En × Unit)) : Option (Bool × Unit) := (zKe ((s.1, ((0 : Int), ((7 : Int), ()))))).bind fun r0 => (bif (!r0.1) then some ((false, ())) else (zKe ((s.2.1, ((1 : Int), ((99 : Int), ()))))).bind fun r1 => (bif (!r1.1) then some ((false, ())) else (lp zBz fuel ((s.2.2.1, (nI (List.length s.2.2.1), ((0 : Int), (s.1, (s.2.1, (s.2.2.1, ())))))))).bind fun r2 => (match r2 with | .inl _ => some ((true, ())) | .inr y3 => some ((y3.1, ())))))
def zB9 (s : (Int × Int × Int × List En × Unit)) : Option ((Int × Int × Int × List En × Unit) ⊕ ((Int × Int × List En × Unit) ⊕ (Bool × Unit))) := (bif decide ((s.1 < nI (List.length s.2.2.2.1))) then (bif inR s.1 (List.length s.2.2.2.1) then (zK2 (((at! .en s.2.2.2.1 (Int.toNat s.1)).n, ((0 : Int), ((7 : Int), ()))))).bind fun r0 => (bif (!r0.1) then some (Sum.inr (Sum.inr ((false, ())))) else (bif decide (((at! .en s.2.2.2.1 (Int.toNat s.1)).n = s.2.1)) then some (Sum.inr (Sum.inr ((false, ())))) else (zK2 (((at! .en s.2.2.2.1 (Int.toNat s.1)).c, ((1 : Int), ((20 : Int), ()))))).bind fun r1 => (bif (!r1.1) then some (Sum.inr (Sum.inr ((false, ())))) else (bif decide (((0 : Int) < s.1)) then (bif inR (wrap64 ((s.1 - (1 : Int)))) (List.length s.2.2.2.1) then (bif decide (((at! .en s.2.2.2.1 (Int.toNat s.1)).n ≤ (at! .en s.2.2.2.1 (Int.toNat (wrap64 ((s.1 - (1 : Int)))))).n)) then some (Sum.inr (Sum.inr ((false, ())))) else some (Sum.inl ((wrap64 ((s.1 + (1 : Int))), s.2.1, s.2.2.1, s.2.2.2.1, ())))) else none) else some (Sum.inl ((wrap64 ((s.1 + (1 : Int))), s.2.1, s.2.2.1, s.2.2.2.1, ()))))))) else none) else some (Sum.inr (Sum.inl ((s.2.1, s.2.2.1, s.2.2.2.1, ())))))
def zKD (s : (Int × Int × List En × Unit)) : Option (Bool × Unit) := (lp zB9 fuel (((0 : Int), (s.1, (s.2.1, (s.2.2.1, ())))))).bind fun r0 => (match r0 with | .inl x1 => (zK2 ((x1.1, ((0 : Int), ((7 : Int), ()))))).bind fun r2 => (bif r2.1 then (zK2 ((x1.2.1, ((1 : Int), ((99 : Int), ()))))).bind fun r3 => some ((r3.1, ())) else some ((false, ()))) | .inr y1 => some ((y1.1, ())))
def zCj (s : (Int × Int × Int × List Lk × Int × Int × List En × Int × Int × List En × Unit)) : Option ((Int × Int × Int × List Lk × Int × Int × List En × Int × Int × List En × Unit) ⊕ ((Int × Int × List En × Int × Int × List En × Unit) ⊕ Unit)) := (bif decide ((s.2.1 < s.2.2.1)) then (zKN ((s.2.2.1, (s.2.2.2.1, (s.1, (s.2.1, ())))))).bind fun r0 => (bif decide (((0 : Int) ≤ r0.1)) then (bif inR r0.1 (List.length s.2.2.2.1) then (bif decide (((List.length s.2.2.2.2.2.2.2.2.2.1 + List.length ([(En.mk s.2.1 ((at! .lk s.2.2.2.1 (Int.toNat r0.1)).c))])) ≤ (33554432 : Nat))) then some (Sum.inl ((s.1, wrap64 ((s.2.1 + (1 : Int))), s.2.2.1, s.2.2.2.1, s.2.2.2.2.1, s.2.2.2.2.2.1, s.2.2.2.2.2.2.1, s.2.2.2.2.2.2.2.1, s.2.2.2.2.2.2.2.2.1, (s.2.2.2.2.2.2.2.2.2.1 ++ [(En.mk s.2.1 ((at! .lk s.2.2.2.1 (Int.toNat r0.1)).c))]), ()))) else none) else none) else some (Sum.inl ((s.1, wrap64 ((s.2.1 + (1 : Int))), s.2.2.1, s.2.2.2.1, s.2.2.2.2.1, s.2.2.2.2.2.1, s.2.2.2.2.2.2.1, s.2.2.2.2.2.2.2.1, s.2.2.2.2.2.2.2.2.1, s.2.2.2.2.2.2.2.2.2.1, ())))) else some (Sum.inr (Sum.inl ((s.2.2.2.2.1, s.2.2.2.2.2.1, s.2.2.2.2.2.2.1, s.2.2.2.2.2.2.2.1, s.2.2.2.2.2.2.2.2.1, s.2.2.2.2.2.2.2.2.2.1, ())))))
def zKJ (s : (Int × List Lk × Int × Int × Unit)) : Option (Int × Int × List En × Unit) := (lp zCj fuel ((s.2.2.1, ((0 : Int), (s.1, (s.2.1, ((0 : Int), ((0 : Int), (([] : List En), (s.2.2.1, (s.2.2.2.1, (([] : List En), ())))))))))))).bind fun r0 => (match r0 with | .inl x1 => some ((x1.2.2.2.1, x1.2.2.2.2.1, x1.2.2.2.2.2.1, ())) | .inr _ => none)
def zBt (s : (List Ls × List Ls × Int × Int × Unit)) : Option ((List Ls × List Ls × Int × Int × Unit) ⊕ ((Unit) ⊕ (Bool × Unit))) := (bif decide ((s.2.2.2.1 < s.2.2.1)) then (bif inR s.2.2.2.1 (List.length s.2.1) then (zJQ (((at! .ls s.2.1 (Int.toNat s.2.2.2.1)).o, ((at! .ls s.2.1 (Int.toNat s.2.2.2.1)).s, ((at! .ls s.2.1 (Int.toNat s.2.2.2.1)).e, ()))))).bind fun r0 => (bif (!r0.1) then some (Sum.inr (Sum.inr ((false, ())))) else (bif decide (((0 : Int) < s.2.2.2.1)) then (bif inR (wrap64 ((s.2.2.2.1 - (1 : Int)))) (List.length s.1) then (bif decide (((at! .ls s.2.1 (Int.toNat s.2.2.2.1)).o ≤ (at! .ls s.1 (Int.toNat (wrap64 ((s.2.2.2.1 - (1 : Int)))))).o)) then some (Sum.inr (Sum.inr ((false, ())))) else some (Sum.inl ((s.1, s.2.1, s.2.2.1, wrap64 ((s.2.2.2.1 + (1 : Int))), ())))) else none) else some (Sum.inl ((s.1, s.2.1, s.2.2.1, wrap64 ((s.2.2.2.1 + (1 : Int))), ()))))) else none) else some (Sum.inr (Sum.inl (()))))
def zJH (s : (List Ls × Unit)) : Option (Bool × Unit) := (lp zBt fuel ((s.1, (s.1, (nI (List.length s.1), ((0 : Int), ())))))).bind fun r0 => (match r0 with | .inl _ => some ((true, ())) | .inr y1 => some ((y1.1, ())))
def zB6 (s : (List Ls × Int × Unit)) : Option ((List Ls × Int × Unit) ⊕ ((Unit) ⊕ (Bool × Unit))) := (bif decide ((s.2.1 < nI (List.length s.1))) then (bif inR s.2.1 (List.length s.1) then (zKD (((at! .ls s.1 (Int.toNat s.2.1)).o, ((at! .ls s.1 (Int.toNat s.2.1)).s, ((at! .ls s.1 (Int.toNat s.2.1)).e, ()))))).bind fun r0 => (bif (!r0.1) then some (Sum.inr (Sum.inr ((false, ())))) else (bif decide (((0 : Int) < s.2.1)) then (bif inR (wrap64 ((s.2.1 - (1 : Int)))) (List.length s.1) then (bif inR s.2.1 (List.length s.1) then (bif decide (((at! .ls s.1 (Int.toNat s.2.1)).o ≤ (at! .ls s.1 (Int.toNat (wrap64 ((s.2.1 - (1 : Int)))))).o)) then some (Sum.inr (Sum.inr ((false, ())))) else some (Sum.inl ((s.1, wrap64 ((s.2.1 + (1 : Int))), ())))) else none) else none) else some (Sum.inl ((s.1, wrap64 ((s.2.1 + (1 : Int))), ()))))) else none) else some (Sum.inr (Sum.inl (()))))
def zKz (s : (List Ls × Unit)) : Option (Bool × Unit) := (lp zB6 fuel ((s.1, ((0 : Int), ())))).bind fun r0 => (match r0 with | .inl _ => some ((true, ())) | .inr y1 => some ((y1.1, ())))
def zKa (s : (Int × Int × List En × Int × Unit)) : Option (Int × Unit) := (zJE ((s.1, (s.2.2.2.1, ())))).bind fun r0 => some ((r0.1, ()))
def zB2 (s : (List Ls × Int × Int × Int × Int × Unit)) : Option ((List Ls × Int × Int × Int × Int × Unit) ⊕ ((List Ls × Int × Int × Int × Unit) ⊕ Unit)) := (bif decide ((s.2.2.2.1 < s.2.2.2.2.1)) then (bif inR (wrap64 (shrK .u64 (wrapK .u64 (wrap64 ((s.2.2.2.1 + s.2.2.2.2.1)))) ((1 : Int)))) (List.length s.1) then (zKa (((at! .ls s.1 (Int.toNat (wrap64 (shrK .u64 (wrapK .u64 (wrap64 ((s.2.2.2.1 + s.2.2.2.2.1)))) ((1 : Int)))))).o, ((at! .ls s.1 (Int.toNat (wrap64 (shrK .u64 (wrapK .u64 (wrap64 ((s.2.2.2.1 + s.2.2.2.2.1)))) ((1 : Int)))))).s, ((at! .ls s.1 (Int.toNat (wrap64 (shrK .u64 (wrapK .u64 (wrap64 ((s.2.2.2.1 + s.2.2.2.2.1)))) ((1 : Int)))))).e, (s.2.1, ())))))).bind fun r0 => (bif decide ((r0.1 < (0 : Int))) then some (Sum.inl ((s.1, s.2.1, s.2.2.1, wrap64 ((wrap64 (shrK .u64 (wrapK .u64 (wrap64 ((s.2.2.2.1 + s.2.2.2.2.1)))) ((1 : Int))) + (1 : Int))), s.2.2.2.2.1, ()))) else some (Sum.inl ((s.1, s.2.1, s.2.2.1, s.2.2.2.1, wrap64 (shrK .u64 (wrapK .u64 (wrap64 ((s.2.2.2.1 + s.2.2.2.2.1)))) ((1 : Int))), ())))) else none) else some (Sum.inr (Sum.inl ((s.1, s.2.1, s.2.2.1, s.2.2.2.1, ())))))
def zKn (s : (List Ls × Int × Unit)) : Option (Int × Bool × Unit) := (lp zB2 fuel ((s.1, (s.2.1, (nI (List.length s.1), ((0 : Int), (nI (List.length s.1), ()))))))).bind fun r0 => (match r0 with | .inl x1 => (bif decide ((x1.2.2.2.1 < x1.2.2.1)) then (bif inR x1.2.2.2.1 (List.length x1.1) then (zKa (((at! .ls x1.1 (Int.toNat x1.2.2.2.1)).o, ((at! .ls x1.1 (Int.toNat x1.2.2.2.1)).s, ((at! .ls x1.1 (Int.toNat x1.2.2.2.1)).e, (x1.2.1, ())))))).bind fun r2 => some ((x1.2.2.2.1, decide ((r2.1 = (0 : Int))), ())) else none) else some ((x1.2.2.2.1, false, ()))) | .inr _ => none)
def zJ9 (s : (List Ls × Int × Unit)) : Option (Int × Bool × Unit) := (zKn ((s.1, (s.2.1, ())))).bind fun r0 => some ((r0.1, r0.2.1, ()))
def zBP (s : (Int × List En × Int × Int × Unit)) : Option ((Int × List En × Int × Int × Unit) ⊕ ((Unit) ⊕ (Int × Unit))) := (bif decide ((s.2.2.2.1 < s.2.2.1)) then (bif inR s.2.2.2.1 (List.length s.2.1) then (bif decide (((at! .en s.2.1 (Int.toNat s.2.2.2.1)).n = s.1)) then some (Sum.inr (Sum.inr (((at! .en s.2.1 (Int.toNat s.2.2.2.1)).c, ())))) else some (Sum.inl ((s.1, s.2.1, s.2.2.1, wrap64 ((s.2.2.2.1 + (1 : Int))), ())))) else none) else some (Sum.inr (Sum.inl (()))))
def zJ4 (s : (List Ls × Int × Int × Unit)) : Option (Int × Unit) := (zJ9 ((s.1, (s.2.1, ())))).bind fun r0 => (bif (!r0.2.1) then some (((0 : Int), ())) else (bif inR r0.1 (List.length s.1) then (lp zBP fuel ((s.2.2.1, ((at! .ls s.1 (Int.toNat r0.1)).e, (nI (List.length ((at! .ls s.1 (Int.toNat r0.1)).e)), ((0 : Int), ())))))).bind fun r1 => (match r1 with | .inl _ => some (((0 : Int), ())) | .inr y2 => some ((y2.1, ()))) else none))
def zBx (s : (Int × Int × Int × Int × List Lk × Int × Int × Int × Int × List Int × List En × List En × Unit)) : Option ((Int × Int × Int × Int × List Lk × Int × Int × Int × Int × List Int × List En × List En × Unit) ⊕ ((Int × Int × Int × Int × List En × List En × Unit) ⊕ Unit)) := (bif decide ((s.2.2.1 < s.2.1)) then (bif inR s.2.2.1 (List.length s.2.2.2.2.2.2.2.2.2.1) then (zJL ((s.2.2.2.1, (s.2.2.2.2.1, (s.1, (at! .int s.2.2.2.2.2.2.2.2.2.1 (Int.toNat s.2.2.1), ())))))).bind fun r0 => (bif inR r0.1 (List.length s.2.2.2.2.1) then (bif decide (((List.length s.2.2.2.2.2.2.2.2.2.2.2.1 + List.length ([(En.mk (at! .int s.2.2.2.2.2.2.2.2.2.1 (Int.toNat s.2.2.1)) ((at! .lk s.2.2.2.2.1 (Int.toNat r0.1)).c))])) ≤ (33554432 : Nat))) then some (Sum.inl ((s.1, s.2.1, wrap64 ((s.2.2.1 + (1 : Int))), s.2.2.2.1, s.2.2.2.2.1, s.2.2.2.2.2.1, s.2.2.2.2.2.2.1, s.2.2.2.2.2.2.2.1, s.2.2.2.2.2.2.2.2.1, s.2.2.2.2.2.2.2.2.2.1, s.2.2.2.2.2.2.2.2.2.2.1, (s.2.2.2.2.2.2.2.2.2.2.2.1 ++ [(En.mk (at! .int s.2.2.2.2.2.2.2.2.2.1 (Int.toNat s.2.2.1)) ((at! .lk s.2.2.2.2.1 (Int.toNat r0.1)).c))]), ()))) else none) else none) else none) else some (Sum.inr (Sum.inl ((s.2.2.2.2.2.1, s.2.2.2.2.2.2.1, s.2.2.2.2.2.2.2.1, s.2.2.2.2.2.2.2.2.1, s.2.2.2.2.2.2.2.2.2.2.1, s.2.2.2.2.2.2.2.2.2.2.2.1, ())))))
def zJN (s : (Int × List Lk × Int × Int × Unit)) : Option (Int × Int × List En × Unit) := (zJO ((s.1, (s.2.1, (s.2.2.1, ()))))).bind fun r0 => (lp zBx fuel ((s.2.2.1, (nI (List.length r0.1), ((0 : Int), (s.1, (s.2.1, ((0 : Int), ((0 : Int), (s.2.2.1, (s.2.2.2.1, (r0.1, (([] : List En), (([] : List En), ())))))))))))))).bind fun r1 => (match r1 with | .inl x2 => some ((x2.2.2.1, x2.2.2.2.1, x2.2.2.2.2.2.1, ())) | .inr _ => none)
def zBs (s : (Int × List Ls × Int × Int × Int × Int × Int × Int × List Lk × List Lk × Unit)) : Option ((Int × List Ls × Int × Int × Int × Int × Int × Int × List Lk × List Lk × Unit) ⊕ ((Int × List Ls × Int × Int × Int × Int × List Lk × List Lk × Unit) ⊕ Unit)) := (bif decide ((s.2.2.2.1 < s.1)) then (zJ4 ((s.2.1, (s.2.2.1, (s.2.2.2.1, ()))))).bind fun r0 => (zJ4 ((s.2.1, (s.2.2.2.1, (s.2.2.1, ()))))).bind fun r1 => (bif decide (((0 : Int) < r0.1)) then (bif decide (((0 : Int) < r1.1)) then (bif decide (((List.length s.2.2.2.2.2.2.2.2.2.1 + List.length ([(Lk.mk s.2.2.1 s.2.2.2.1 (max r0.1 r1.1))])) ≤ (33554432 : Nat))) then some (Sum.inl ((s.1, s.2.1, s.2.2.1, wrap64 ((s.2.2.2.1 + (1 : Int))), s.2.2.2.2.1, s.2.2.2.2.2.1, s.2.2.2.2.2.2.1, s.2.2.2.2.2.2.2.1, s.2.2.2.2.2.2.2.2.1, (s.2.2.2.2.2.2.2.2.2.1 ++ [(Lk.mk s.2.2.1 s.2.2.2.1 (max r0.1 r1.1))]), ()))) else none) else some (Sum.inl ((s.1, s.2.1, s.2.2.1, wrap64 ((s.2.2.2.1 + (1 : Int))), s.2.2.2.2.1, s.2.2.2.2.2.1, s.2.2.2.2.2.2.1, s.2.2.2.2.2.2.2.1, s.2.2.2.2.2.2.2.2.1, s.2.2.2.2.2.2.2.2.2.1, ())))) else some (Sum.inl ((s.1, s.2.1, s.2.2.1, wrap64 ((s.2.2.2.1 + (1 : Int))), s.2.2.2.2.1, s.2.2.2.2.2.1, s.2.2.2.2.2.2.1, s.2.2.2.2.2.2.2.1, s.2.2.2.2.2.2.2.2.1, s.2.2.2.2.2.2.2.2.2.1, ())))) else some (Sum.inr (Sum.inl ((s.1, s.2.1, s.2.2.2.2.1, s.2.2.2.2.2.1, s.2.2.2.2.2.2.1, s.2.2.2.2.2.2.2.1, s.2.2.2.2.2.2.2.2.1, s.2.2.2.2.2.2.2.2.2.1, ())))))
def zBr (s : (Int × List Ls × Int × Int × Int × Int × List Lk × List Lk × Unit)) : Option ((Int × List Ls × Int × Int × Int × Int × List Lk × List Lk × Unit) ⊕ ((Int × Int × List Lk × List Lk × Unit) ⊕ Unit)) := (bif decide ((s.2.2.2.1 < s.2.2.1)) then (lp zBs fuel ((s.1, (s.2.1, (s.2.2.2.1, (wrap64 ((s.2.2.2.1 + (1 : Int))), (s.2.2.1, (s.2.2.2.1, (s.2.2.2.2.1, (s.2.2.2.2.2.1, (s.2.2.2.2.2.2.1, (s.2.2.2.2.2.2.2.1, ())))))))))))).bind fun r0 => (match r0 with | .inl x1 => some (Sum.inl ((x1.1, x1.2.1, x1.2.2.1, wrap64 ((x1.2.2.2.1 + (1 : Int))), x1.2.2.2.2.1, x1.2.2.2.2.2.1, x1.2.2.2.2.2.2.1, x1.2.2.2.2.2.2.2.1, ()))) | .inr _ => none) else some (Sum.inr (Sum.inl ((s.2.2.2.2.1, s.2.2.2.2.2.1, s.2.2.2.2.2.2.1, s.2.2.2.2.2.2.2.1, ())))))
def zJG (s : (Int × List Ls × Unit)) : Option (Int × Bool × List Lk × Unit) := (zKe ((s.1, ((1 : Int), ((8 : Int), ()))))).bind fun r0 => (bif (!r0.1) then some (((0 : Int), false, ([] : List Lk), ())) else (zJH ((s.2.1, ()))).bind fun r1 => (bif (!r1.1) then some (((0 : Int), false, ([] : List Lk), ())) else (lp zBr fuel ((s.1, (s.2.1, (s.1, ((0 : Int), ((0 : Int), (s.1, (([] : List Lk), (([] : List Lk), ())))))))))).bind fun r2 => (match r2 with | .inl x3 => (bif decide (((14 : Int) < nI (List.length x3.2.2.2.1))) then some (((0 : Int), false, ([] : List Lk), ())) else some ((x3.2.1, true, x3.2.2.2.1, ()))) | .inr _ => none)))
end Go.Proofs.YtjffopopheiinaaGreat
end
section
namespace Go.Proofs.YtjffopopheiinaaGreat
open Go.RowKit
set_option maxRecDepth 100000
def zCZ : Entry := ⟨⟨[.c (.one (.b (.int .i64)))], []⟩, [.int], ⟨[.c (.one (.b .bool))], []⟩, [.bool], zJF⟩
def zFo : Env := mkEnv tab [] 6 0 [] []
theorem zLd : CtrOk Tryz.prog zFo.Γ := ctr_ok (l := []) trivial
theorem zH7 : GC Tryz.prog 79 zCZ := gc_of (G := zFo) (c := Tryz.f79.body.getD .skip) bad_ok tabOk zLd mixed Tryz.func79 (by kernel_rfl) Tryz.ntmps79 (code_ok' (G := zFo) (n := 0) (by kernel_rfl) (by kernel_rfl) trivial (by kernel_rfl)) (fun s => by kernel_rfl)
def zCY : Entry := ⟨⟨[.c (.one (.b (.int .i64))), .c (.one (.b (.int .i64)))], []⟩, [.int, .int], ⟨[.c (.one (.b (.int .i64)))], []⟩, [.int], zJE⟩
def zFn : Env := mkEnv tab [(79, [], zCZ)] 20 0 [] []
theorem zLc : CtrOk Tryz.prog zFn.Γ := ctr_ok (l := [(79, [], zCZ)]) ⟨⟨zH7, Tryz.call79⟩, trivial⟩
theorem zH6 : GC Tryz.prog 45 zCY := gc_of (G := zFn) (c := Tryz.f45.body.getD .skip) bad_ok tabOk zLc mixed Tryz.func45 (by kernel_rfl) Tryz.ntmps45 (code_ok' (G := zFn) (n := 0) (by kernel_rfl) (by kernel_rfl) trivial (by kernel_rfl)) (fun s => by kernel_rfl)
def zA0 : Loop := ⟨⟨[0, 1, 4, 6], ⟨[.c (.one (.b (.sl false .ls))), .c (.one (.b (.int .i64))), .c (.one (.ptr 0 0)), .c (.one (.b (.int .i64)))], [.box 52 [(.b (.int .i64)), (.b (.int .i64)), (.b (.sl true .en))]]⟩, [.ls .ls, .int, .int, .int, .int, .ls .en]⟩, 0, ⟨[4], ⟨[.c (.one (.ptr 0 0))], [.box 52 [(.b (.int .i64)), (.b (.int .i64)), (.b (.sl true .en))]]⟩, [.int, .int, .ls .en]⟩, ⟨[4, 5], ⟨[.c (.one (.ptr 0 0)), .c (.one (.b .bool))], [.box 52 [(.b (.int .i64)), (.b (.int .i64)), (.b (.sl true .en))]]⟩, [.bool, .int, .int, .ls .en]⟩, lp zCh fuel⟩
def zEQ : Entry := ⟨⟨[.c (.one (.b (.sl false .ls))), .c (.one (.b (.int .i64)))], []⟩, [.ls .ls, .int], ⟨[.tup [(.agg [(.b (.int .i64)), (.b (.int .i64)), (.b (.sl true .en))]), (.one (.b .bool))]], []⟩, [.int, .int, .ls .en, .bool], zKH⟩
def zGk : Env := mkEnv tab [] 25 0 [] [(2, zA0)]
theorem zL9 : CtrOk Tryz.prog zGk.Γ := ctr_ok (l := []) trivial
theorem zHF : LoopOk Tryz.prog 0 25 (nthC (Tryz.f25.body.getD .skip) 0) zA0 := loop_ok (G := zGk) (F := zA0.F) (eid := zA0.eid) (FX := zA0.FX) (FR := zA0.FR) (B := zCh) (n := fuel) bad_ok tabOk zL9 mixed (code_ok' (G := zGk) (n := 0) (by kernel_rfl) (by kernel_rfl) trivial (by kernel_rfl)) (fun s => by kernel_rfl)
theorem zI9 : GC Tryz.prog 25 zEQ := gc_of (G := zGk) (c := Tryz.f25.body.getD .skip) bad_ok tabOk zL9 mixed Tryz.func25 (by kernel_rfl) Tryz.ntmps25 (code_ok' (G := zGk) (n := 1) (by kernel_rfl) (by kernel_rfl) ⟨trivial, loop_at (id := 2) (L0 := zA0) (by kernel_rfl) (by kernel_rfl) zHF⟩ (by kernel_rfl)) (fun s => by kernel_rfl)
def zAi : Loop := ⟨⟨[1, 16, 17, 18], ⟨[.c (.one (.ptr 0 0)), .c (.one (.b (.sl false .en))), .c (.one (.b (.int .i64))), .c (.one (.b (.int .i64)))], [.box 52 [(.b (.int .i64)), (.b (.int .i64)), (.b (.sl false .en))]]⟩, [.ls .en, .int, .int, .int, .int, .ls .en]⟩, 0, ⟨[], ⟨[], []⟩, []⟩, ⟨[2], ⟨[.c (.one (.b .bool))], []⟩, [.bool]⟩, lp zBz fuel⟩
def zDh : Entry := ⟨⟨[.c (.agg [(.b (.int .i64)), (.b (.int .i64)), (.b (.sl false .en))])], []⟩, [.int, .int, .ls .en], ⟨[.c (.one (.b .bool))], []⟩, [.bool], zJQ⟩
def zFz : Env := mkEnv tab [(14, [], zDF)] 57 0 [(6, 30, [(0, true), (1, true), (2, false), (3, true), (4, true), (5, true), (6, true), (7, true), (8, true), (9, true), (10, true), (11, true), (12, true), (13, true), (14, false), (15, true), (16, true), (17, true), (18, true), (19, true), (20, true), (21, true), (22, true), (23, true), (24, true), (25, true), (26, true), (27, true), (28, true), (29, true)], [])] [(4, zAi)]
theorem zLo : CtrOk Tryz.prog zFz.Γ := ctr_ok (l := [(14, [], zDF)]) ⟨⟨zIG, Tryz.call14⟩, trivial⟩
theorem zGX : LoopOk Tryz.prog 0 57 (nthC (Tryz.f42.body.getD .skip) 0) zAi := loop_ok (G := zFz) (F := zAi.F) (eid := zAi.eid) (FX := zAi.FX) (FR := zAi.FR) (B := zBz) (n := fuel) bad_ok tabOk zLo mixed (code_ok' (G := zFz) (n := 0) (by kernel_rfl) (by kernel_rfl) trivial (by kernel_rfl)) (fun s => by kernel_rfl)
theorem zIi : GC Tryz.prog 42 zDh := gc_of (G := zFz) (c := Tryz.f42.body.getD .skip) bad_ok tabOk zLo mixed Tryz.func42 (by kernel_rfl) Tryz.ntmps42 (code_ok' (G := zFz) (n := 1) (by kernel_rfl) (by kernel_rfl) ⟨trivial, loop_at (id := 4) (L0 := zAi) (by kernel_rfl) (by kernel_rfl) zGX⟩ (by kernel_rfl)) (fun s => by kernel_rfl)
def zAS : Loop := ⟨⟨[1, 3], ⟨[.c (.one (.ptr 0 0)), .c (.one (.b (.int .i64)))], [.box 52 [(.b (.int .i64)), (.b (.int .i64)), (.b (.sl false .en))]]⟩, [.int, .int, .int, .ls .en]⟩, 0, ⟨[1], ⟨[.c (.one (.ptr 0 0))], [.box 52 [(.b (.int .i64)), (.b (.int .i64)), (.b (.sl false .en))]]⟩, [.int, .int, .ls .en]⟩, ⟨[2], ⟨[.c (.one (.b .bool))], []⟩, [.bool]⟩, lp zB9 fuel⟩
def zEM : Entry := ⟨⟨[.c (.agg [(.b (.int .i64)), (.b (.int .i64)), (.b (.sl false .en))])], []⟩, [.int, .int, .ls .en], ⟨[.c (.one (.b .bool))], []⟩, [.bool], zKD⟩
def zGg : Env := mkEnv tab [(26, [], zFb)] 58 0 [(5, 30, [(0, true), (1, true), (2, false), (3, true), (4, true), (5, true), (6, true), (7, true), (8, true), (9, true), (10, true), (11, true), (12, true), (13, true), (14, false), (15, true), (16, true), (17, true), (18, true), (19, true), (20, true), (21, true), (22, true), (23, true), (24, true), (25, true), (26, true), (27, true), (28, true), (29, true)], [])] [(2, zAS)]
theorem zL5 : CtrOk Tryz.prog zGg.Γ := ctr_ok (l := [(26, [], zFb)]) ⟨⟨zJu, Tryz.call26⟩, trivial⟩
theorem zHx : LoopOk Tryz.prog 0 58 (nthC (Tryz.f54.body.getD .skip) 0) zAS := loop_ok (G := zGg) (F := zAS.F) (eid := zAS.eid) (FX := zAS.FX) (FR := zAS.FR) (B := zB9) (n := fuel) bad_ok tabOk zL5 mixed (code_ok' (G := zGg) (n := 0) (by kernel_rfl) (by kernel_rfl) trivial (by kernel_rfl)) (fun s => by kernel_rfl)
theorem zI5 : GC Tryz.prog 54 zEM := gc_of (G := zGg) (c := Tryz.f54.body.getD .skip) bad_ok tabOk zL5 mixed Tryz.func54 (by kernel_rfl) Tryz.ntmps54 (code_ok' (G := zGg) (n := 1) (by kernel_rfl) (by kernel_rfl) ⟨trivial, loop_at (id := 2) (L0 := zAS) (by kernel_rfl) (by kernel_rfl) zHx⟩ (by kernel_rfl)) (fun s => by kernel_rfl)
def zA2 : Loop := ⟨⟨[1, 3, 6, 7, 8], ⟨[.c (.one (.b (.int .i64))), .c (.one (.ptr 0 0)), .c (.one (.ptr 1 0)), .c (.one (.ptr 2 0)), .c (.one (.b (.int .i64)))], [.box 25 [(.b (.int .i64)), (.b (.sl false .lk))], .box 52 [(.b (.int .i64)), (.b (.int .i64)), (.b (.sl true .en))], .box 52 [(.b (.int .i64)), (.b (.int .i64)), (.own 3)], .row 80 .en]⟩, [.int, .int, .int, .ls .lk, .int, .int, .ls .en, .int, .int, .ls .en]⟩, 0, ⟨[6, 7], ⟨[.c (.one (.ptr 0 0)), .c (.one (.ptr 1 0))], [.box 52 [(.b (.int .i64)), (.b (.int .i64)), (.b (.sl true .en))], .box 52 [(.b (.int .i64)), (.b (.int .i64)), (.own 2)], .row 80 .en]⟩, [.int, .int, .ls .en, .int, .int, .ls .en]⟩, ⟨[999999], ⟨[.c (.one (.own 0))], []⟩, []⟩, lp zCj fuel⟩
def zES : Entry := ⟨⟨[.c (.agg [(.b (.int .i64)), (.b (.sl false .lk))]), .c (.one (.b (.int .i64))), .c (.one (.b (.int .i64)))], []⟩, [.int, .ls .lk, .int, .int], ⟨[.c (.agg [(.b (.int .i64)), (.b (.int .i64)), (.own 0)])], [.row 80 .en]⟩, [.int, .int, .ls .en], zKJ⟩
def zGm : Env := mkEnv tab [(55, [], zEW)] 40 0 [(7, 11, [(0, true), (1, true), (2, true), (3, true), (4, true), (5, true), (6, true), (7, true), (8, true), (9, true), (10, false)], [])] [(3, zA2)]
theorem zMb : CtrOk Tryz.prog zGm.Γ := ctr_ok (l := [(55, [], zEW)]) ⟨⟨zJf, Tryz.call55⟩, trivial⟩
theorem zHH : LoopOk Tryz.prog 0 40 (nthC (Tryz.f56.body.getD .skip) 0) zA2 := loop_ok (G := zGm) (F := zA2.F) (eid := zA2.eid) (FX := zA2.FX) (FR := zA2.FR) (B := zCj) (n := fuel) bad_ok tabOk zMb mixed (code_ok' (G := zGm) (n := 0) (by kernel_rfl) (by kernel_rfl) trivial (by kernel_rfl)) (fun s => by kernel_rfl)
theorem zJb : GC Tryz.prog 56 zES := gc_of (G := zGm) (c := Tryz.f56.body.getD .skip) bad_ok tabOk zMb mixed Tryz.func56 (by kernel_rfl) Tryz.ntmps56 (code_ok' (G := zGm) (n := 1) (by kernel_rfl) (by kernel_rfl) ⟨trivial, loop_at (id := 3) (L0 := zA2) (by kernel_rfl) (by kernel_rfl) zHH⟩ (by kernel_rfl)) (fun s => by kernel_rfl)
def zAc : Loop := ⟨⟨[0, 5, 6, 7], ⟨[.c (.one (.b (.sl false .ls))), .c (.one (.b (.sl false .ls))), .c (.one (.b (.int .i64))), .c (.one (.b (.int .i64)))], []⟩, [.ls .ls, .ls .ls, .int, .int]⟩, 0, ⟨[], ⟨[], []⟩, []⟩, ⟨[2], ⟨[.c (.one (.b .bool))], []⟩, [.bool]⟩, lp zBt fuel⟩
def zC8 : Entry := ⟨⟨[.c (.one (.b (.sl false .ls)))], []⟩, [.ls .ls], ⟨[.c (.one (.b .bool))], []⟩, [.bool], zJH⟩
def zFq : Env := mkEnv tab [(42, [], zDh)] 31 0 [(4, 15, [(0, true), (1, false), (2, true), (3, true), (4, true), (5, true), (6, true), (7, true), (8, true), (9, true), (10, true), (11, true), (12, true), (13, true), (14, true)], [])] [(2, zAc)]
theorem zLf : CtrOk Tryz.prog zFq.Γ := ctr_ok (l := [(42, [], zDh)]) ⟨⟨zIi, Tryz.call42⟩, trivial⟩
theorem zGR : LoopOk Tryz.prog 0 31 (nthC (Tryz.f15.body.getD .skip) 0) zAc := loop_ok (G := zFq) (F := zAc.F) (eid := zAc.eid) (FX := zAc.FX) (FR := zAc.FR) (B := zBt) (n := fuel) bad_ok tabOk zLf mixed (code_ok' (G := zFq) (n := 0) (by kernel_rfl) (by kernel_rfl) trivial (by kernel_rfl)) (fun s => by kernel_rfl)
theorem zH9 : GC Tryz.prog 15 zC8 := gc_of (G := zFq) (c := Tryz.f15.body.getD .skip) bad_ok tabOk zLf mixed Tryz.func15 (by kernel_rfl) Tryz.ntmps15 (code_ok' (G := zFq) (n := 1) (by kernel_rfl) (by kernel_rfl) ⟨trivial, loop_at (id := 2) (L0 := zAc) (by kernel_rfl) (by kernel_rfl) zGR⟩ (by kernel_rfl)) (fun s => by kernel_rfl)
def zAP : Loop := ⟨⟨[0, 3], ⟨[.c (.one (.b (.sl false .ls))), .c (.one (.b (.int .i64)))], []⟩, [.ls .ls, .int]⟩, 0, ⟨[], ⟨[], []⟩, []⟩, ⟨[2], ⟨[.c (.one (.b .bool))], []⟩, [.bool]⟩, lp zB6 fuel⟩
def zEI : Entry := ⟨⟨[.c (.one (.b (.sl false .ls)))], []⟩, [.ls .ls], ⟨[.c (.one (.b .bool))], []⟩, [.bool], zKz⟩
def zGc : Env := mkEnv tab [(54, [], zEM)] 34 0 [(4, 21, [(0, true), (1, true), (2, true), (3, true), (4, false), (5, true), (6, true), (7, true), (8, true), (9, true), (10, true), (11, true), (12, true), (13, true), (14, true), (15, true), (16, true), (17, true), (18, true), (19, true), (20, true)], [])] [(2, zAP)]
theorem zL1 : CtrOk Tryz.prog zGc.Γ := ctr_ok (l := [(54, [], zEM)]) ⟨⟨zI5, Tryz.call54⟩, trivial⟩
theorem zHu : LoopOk Tryz.prog 0 34 (nthC (Tryz.f52.body.getD .skip) 0) zAP := loop_ok (G := zGc) (F := zAP.F) (eid := zAP.eid) (FX := zAP.FX) (FR := zAP.FR) (B := zB6) (n := fuel) bad_ok tabOk zL1 mixed (code_ok' (G := zGc) (n := 0) (by kernel_rfl) (by kernel_rfl) trivial (by kernel_rfl)) (fun s => by kernel_rfl)
theorem zI1 : GC Tryz.prog 52 zEI := gc_of (G := zGc) (c := Tryz.f52.body.getD .skip) bad_ok tabOk zL1 mixed Tryz.func52 (by kernel_rfl) Tryz.ntmps52 (code_ok' (G := zGc) (n := 1) (by kernel_rfl) (by kernel_rfl) ⟨trivial, loop_at (id := 2) (L0 := zAP) (by kernel_rfl) (by kernel_rfl) zHu⟩ (by kernel_rfl)) (fun s => by kernel_rfl)
def zDB : Entry := ⟨⟨[.c (.agg [(.b (.int .i64)), (.b (.int .i64)), (.b (.sl false .en))]), .c (.one (.b (.int .i64)))], []⟩, [.int, .int, .ls .en, .int], ⟨[.c (.one (.b (.int .i64)))], []⟩, [.int], zKa⟩
def zFT : Env := mkEnv tab [(45, [], zCY)] 9 0 [] []
theorem zLI : CtrOk Tryz.prog zFT.Γ := ctr_ok (l := [(45, [], zCY)]) ⟨⟨zH6, Tryz.call45⟩, trivial⟩
theorem zIC : GC Tryz.prog 44 zDB := gc_of (G := zFT) (c := Tryz.f44.body.getD .skip) bad_ok tabOk zLI mixed Tryz.func44 (by kernel_rfl) Tryz.ntmps44 (code_ok' (G := zFT) (n := 0) (by kernel_rfl) (by kernel_rfl) trivial (by kernel_rfl)) (fun s => by kernel_rfl)
def zAL : Loop := ⟨⟨[0, 1, 2, 8, 9, 10], ⟨[.c (.one (.b (.sl false .ls))), .c (.one (.b (.int .i64))), .c (.fn 44 []), .c (.one (.b (.int .i64))), .c (.one (.b (.int .i64))), .c (.one (.b (.int .i64)))], []⟩, [.ls .ls, .int, .int, .int, .int]⟩, 0, ⟨[0, 1, 2, 8, 9], ⟨[.c (.one (.b (.sl false .ls))), .c (.one (.b (.int .i64))), .c (.fn 44 []), .c (.one (.b (.int .i64))), .c (.one (.b (.int .i64)))], []⟩, [.ls .ls, .int, .int, .int]⟩, ⟨[999999], ⟨[.c (.one (.own 0))], []⟩, []⟩, lp zB2 fuel⟩
def zEw : Entry := ⟨⟨[.c (.one (.b (.sl false .ls))), .c (.one (.b (.int .i64))), .c (.fn 44 [])], []⟩, [.ls .ls, .int], ⟨[.tup [(.one (.b (.int .i64))), (.one (.b .bool))]], []⟩, [.int, .bool], zKn⟩
def zF6 : Env := mkEnv tab [(44, [], zDB)] 49 0 [] [(3, zAL)]
theorem zLV : CtrOk Tryz.prog zF6.Γ := ctr_ok (l := [(44, [], zDB)]) ⟨⟨zIC, Tryz.call44⟩, trivial⟩
theorem zHq : LoopOk Tryz.prog 0 49 (nthC (Tryz.f43.body.getD .skip) 0) zAL := loop_ok (G := zF6) (F := zAL.F) (eid := zAL.eid) (FX := zAL.FX) (FR := zAL.FR) (B := zB2) (n := fuel) bad_ok tabOk zLV mixed (code_ok' (G := zF6) (n := 0) (by kernel_rfl) (by kernel_rfl) trivial (by kernel_rfl)) (fun s => by kernel_rfl)
theorem zIP : GC Tryz.prog 43 zEw := gc_of (G := zF6) (c := Tryz.f43.body.getD .skip) bad_ok tabOk zLV mixed Tryz.func43 (by kernel_rfl) Tryz.ntmps43 (code_ok' (G := zF6) (n := 1) (by kernel_rfl) (by kernel_rfl) ⟨trivial, loop_at (id := 3) (L0 := zAL) (by kernel_rfl) (by kernel_rfl) zHq⟩ (by kernel_rfl)) (fun s => by kernel_rfl)
def zDA : Entry := ⟨⟨[.c (.one (.b (.sl false .ls))), .c (.one (.b (.int .i64)))], []⟩, [.ls .ls, .int], ⟨[.tup [(.one (.b (.int .i64))), (.one (.b .bool))]], []⟩, [.int, .bool], zJ9⟩
def zFS : Env := mkEnv tab [(44, [], zDB), (43, [44], zEw)] 11 0 [] []
theorem zLH : CtrOk Tryz.prog zFS.Γ := ctr_ok (l := [(44, [], zDB), (43, [44], zEw)]) ⟨⟨zIC, Tryz.call44⟩, ⟨⟨zIP, Tryz.call43⟩, trivial⟩⟩
theorem zIB : GC Tryz.prog 16 zDA := gc_of (G := zFS) (c := Tryz.f16.body.getD .skip) bad_ok tabOk zLH mixed Tryz.func16 (by kernel_rfl) Tryz.ntmps16 (code_ok' (G := zFS) (n := 0) (by kernel_rfl) (by kernel_rfl) trivial (by kernel_rfl)) (fun s => by kernel_rfl)
def zAy : Loop := ⟨⟨[2, 23, 24, 25], ⟨[.c (.one (.b (.int .i64))), .c (.one (.b (.sl true .en))), .c (.one (.b (.int .i64))), .c (.one (.b (.int .i64)))], []⟩, [.int, .ls .en, .int, .int]⟩, 0, ⟨[], ⟨[], []⟩, []⟩, ⟨[6], ⟨[.c (.one (.b (.int .i64)))], []⟩, [.int]⟩, lp zBP fuel⟩
def zDv : Entry := ⟨⟨[.c (.one (.b (.sl false .ls))), .c (.one (.b (.int .i64))), .c (.one (.b (.int .i64)))], []⟩, [.ls .ls, .int, .int], ⟨[.c (.one (.b (.int .i64)))], []⟩, [.int], zJ4⟩
def zFN : Env := mkEnv tab [(16, [], zDA)] 36 0 [] [(5, zAy)]
theorem zLC : CtrOk Tryz.prog zFN.Γ := ctr_ok (l := [(16, [], zDA)]) ⟨⟨zIB, Tryz.call16⟩, trivial⟩
theorem zHd : LoopOk Tryz.prog 0 36 (nthC (Tryz.f86.body.getD .skip) 0) zAy := loop_ok (G := zFN) (F := zAy.F) (eid := zAy.eid) (FX := zAy.FX) (FR := zAy.FR) (B := zBP) (n := fuel) bad_ok tabOk zLC mixed (code_ok' (G := zFN) (n := 0) (by kernel_rfl) (by kernel_rfl) trivial (by kernel_rfl)) (fun s => by kernel_rfl)
theorem zIw : GC Tryz.prog 86 zDv := gc_of (G := zFN) (c := Tryz.f86.body.getD .skip) bad_ok tabOk zLC mixed Tryz.func86 (by kernel_rfl) Tryz.ntmps86 (code_ok' (G := zFN) (n := 1) (by kernel_rfl) (by kernel_rfl) ⟨trivial, loop_at (id := 5) (L0 := zAy) (by kernel_rfl) (by kernel_rfl) zHd⟩ (by kernel_rfl)) (fun s => by kernel_rfl)
def zAg : Loop := ⟨⟨[1, 3, 6, 7, 15, 16, 17], ⟨[.c (.one (.b (.int .i64))), .c (.one (.ptr 0 0)), .c (.one (.ptr 1 0)), .c (.one (.ptr 2 0)), .c (.one (.own 3)), .c (.one (.b (.int .i64))), .c (.one (.b (.int .i64)))], [.box 25 [(.b (.int .i64)), (.b (.sl false .lk))], .box 52 [(.b (.int .i64)), (.b (.int .i64)), (.own 4)], .box 52 [(.b (.int .i64)), (.b (.int .i64)), (.own 5)], .row 3 .int, .row 80 .en, .row 80 .en]⟩, [.int, .int, .int, .int, .ls .lk, .int, .int, .int, .int, .ls .int, .ls .en, .ls .en]⟩, 0, ⟨[6, 7], ⟨[.c (.one (.ptr 0 0)), .c (.one (.ptr 1 0))], [.box 52 [(.b (.int .i64)), (.b (.int .i64)), (.own 2)], .box 52 [(.b (.int .i64)), (.b (.int .i64)), (.own 3)], .row 80 .en, .row 80 .en]⟩, [.int, .int, .int, .int, .ls .en, .ls .en]⟩, ⟨[999999], ⟨[.c (.one (.own 0))], []⟩, []⟩, lp zBx fuel⟩
def zDe : Entry := ⟨⟨[.c (.agg [(.b (.int .i64)), (.b (.sl false .lk))]), .c (.one (.b (.int .i64))), .c (.one (.b (.int .i64)))], []⟩, [.int, .ls .lk, .int, .int], ⟨[.c (.agg [(.b (.int .i64)), (.b (.int .i64)), (.own 0)])], [.row 80 .en]⟩, [.int, .int, .ls .en], zJN⟩
def zFw : Env := mkEnv tab [(83, [], zDf), (46, [], zDc)] 39 0 [(5, 14, [(0, true), (1, true), (2, true), (3, true), (4, true), (5, true), (6, true), (7, true), (8, false), (9, true), (10, true), (11, false), (12, true), (13, false)], [])] [(3, zAg)]
theorem zLl : CtrOk Tryz.prog zFw.Γ := ctr_ok (l := [(83, [], zDf), (46, [], zDc)]) ⟨⟨zIg, Tryz.call83⟩, ⟨⟨zId, Tryz.call46⟩, trivial⟩⟩
theorem zGV : LoopOk Tryz.prog 0 39 (nthC (Tryz.f48.body.getD .skip) 0) zAg := loop_ok (G := zFw) (F := zAg.F) (eid := zAg.eid) (FX := zAg.FX) (FR := zAg.FR) (B := zBx) (n := fuel) bad_ok tabOk zLl mixed (code_ok' (G := zFw) (n := 0) (by kernel_rfl) (by kernel_rfl) trivial (by kernel_rfl)) (fun s => by kernel_rfl)
theorem zIf : GC Tryz.prog 48 zDe := gc_of (G := zFw) (c := Tryz.f48.body.getD .skip) bad_ok tabOk zLl mixed Tryz.func48 (by kernel_rfl) Tryz.ntmps48 (code_ok' (G := zFw) (n := 1) (by kernel_rfl) (by kernel_rfl) ⟨trivial, loop_at (id := 3) (L0 := zAg) (by kernel_rfl) (by kernel_rfl) zGV⟩ (by kernel_rfl)) (fun s => by kernel_rfl)
def zAb : Loop := ⟨⟨[0, 1, 4, 6, 7, 8, 22, 23], ⟨[.c (.one (.b (.int .i64))), .c (.one (.b (.sl false .ls))), .c (.one (.ptr 0 0)), .c (.one (.ptr 1 0)), .c (.one (.b (.int .i64))), .c (.one (.b (.int .i64))), .c (.one (.b (.int .i64))), .c (.one (.b (.int .i64)))], [.box 25 [(.b (.int .i64)), (.own 2)], .box 25 [(.b (.int .i64)), (.own 3)], .row 75 .lk, .row 75 .lk]⟩, [.int, .ls .ls, .int, .int, .int, .int, .int, .int, .ls .lk, .ls .lk]⟩, 2, ⟨[0, 1, 4, 6, 22, 23], ⟨[.c (.one (.b (.int .i64))), .c (.one (.b (.sl false .ls))), .c (.one (.ptr 0 0)), .c (.one (.ptr 1 0)), .c (.one (.b (.int .i64))), .c (.one (.b (.int .i64)))], [.box 25 [(.b (.int .i64)), (.own 2)], .box 25 [(.b (.int .i64)), (.own 3)], .row 75 .lk, .row 75 .lk]⟩, [.int, .ls .ls, .int, .int, .int, .int, .ls .lk, .ls .lk]⟩, ⟨[999999], ⟨[.c (.one (.own 0))], []⟩, []⟩, lp zBs fuel⟩
def zAa : Loop := ⟨⟨[0, 1, 4, 6, 22, 23], ⟨[.c (.one (.b (.int .i64))), .c (.one (.b (.sl false .ls))), .c (.one (.ptr 0 0)), .c (.one (.ptr 1 0)), .c (.one (.b (.int .i64))), .c (.one (.b (.int .i64)))], [.box 25 [(.b (.int .i64)), (.own 2)], .box 25 [(.b (.int .i64)), (.own 3)], .row 75 .lk, .row 75 .lk]⟩, [.int, .ls .ls, .int, .int, .int, .int, .ls .lk, .ls .lk]⟩, 0, ⟨[4, 6], ⟨[.c (.one (.ptr 0 0)), .c (.one (.ptr 1 0))], [.box 25 [(.b (.int .i64)), (.own 2)], .box 25 [(.b (.int .i64)), (.own 3)], .row 75 .lk, .row 75 .lk]⟩, [.int, .int, .ls .lk, .ls .lk]⟩, ⟨[999999], ⟨[.c (.one (.own 0))], []⟩, []⟩, lp zBr fuel⟩
def zC7 : Entry := ⟨⟨[.c (.one (.b (.int .i64))), .c (.one (.b (.sl false .ls)))], []⟩, [.int, .ls .ls], ⟨[.tup [(.agg [(.b (.int .i64)), (.own 0)]), (.one (.b .bool))]], [.row 75 .lk]⟩, [.int, .bool, .ls .lk], zJG⟩
def zFp : Env := mkEnv tab [(14, [], zDF), (15, [], zC8), (86, [], zDv)] 65 0 [] [(8, zAb), (5, zAa)]
theorem zLe : CtrOk Tryz.prog zFp.Γ := ctr_ok (l := [(14, [], zDF), (15, [], zC8), (86, [], zDv)]) ⟨⟨zIG, Tryz.call14⟩, ⟨⟨zH9, Tryz.call15⟩, ⟨⟨zIw, Tryz.call86⟩, trivial⟩⟩⟩
theorem zGQ : LoopOk Tryz.prog 0 65 (nthC (nthC (Tryz.f70.body.getD .skip) 0) 0) zAb := loop_ok (G := zFp) (F := zAb.F) (eid := zAb.eid) (FX := zAb.FX) (FR := zAb.FR) (B := zBs) (n := fuel) bad_ok tabOk zLe mixed (code_ok' (G := zFp) (n := 0) (by kernel_rfl) (by kernel_rfl) trivial (by kernel_rfl)) (fun s => by kernel_rfl)
theorem zGP : LoopOk Tryz.prog 0 65 (nthC (Tryz.f70.body.getD .skip) 0) zAa := loop_ok (G := zFp) (F := zAa.F) (eid := zAa.eid) (FX := zAa.FX) (FR := zAa.FR) (B := zBr) (n := fuel) bad_ok tabOk zLe mixed (code_ok' (G := zFp) (n := 1) (by kernel_rfl) (by kernel_rfl) ⟨trivial, loop_at (id := 8) (L0 := zAb) (by kernel_rfl) (by kernel_rfl) zGQ⟩ (by kernel_rfl)) (fun s => by kernel_rfl)
theorem zH8 : GC Tryz.prog 70 zC7 := gc_of (G := zFp) (c := Tryz.f70.body.getD .skip) bad_ok tabOk zLe mixed Tryz.func70 (by kernel_rfl) Tryz.ntmps70 (code_ok' (G := zFp) (n := 1) (by kernel_rfl) (by kernel_rfl) ⟨trivial, loop_at (id := 5) (L0 := zAa) (by kernel_rfl) (by kernel_rfl) zGP⟩ (by kernel_rfl)) (fun s => by kernel_rfl)
end Go.Proofs.YtjffopopheiinaaGreat
end
section
namespace Go.Proofs.YtjffopopheiinaaGreat
open Go.RowKit
set_option maxRecDepth 100000
def zBV (s : (List Bool × List Bool × Int × Unit)) : Option ((List Bool × List Bool × Int × Unit) ⊕ ((Unit) ⊕ (Bool × Unit))) := (bif decide ((s.2.2.1 < nI (List.length s.1))) then (bif inR s.2.2.1 (List.length s.1) then (bif inR s.2.2.1 (List.length s.2.1) then (bif (!((at! .bool s.1 (Int.toNat s.2.2.1) == at! .bool s.2.1 (Int.toNat s.2.2.1)))) then some (Sum.inr (Sum.inr ((false, ())))) else some (Sum.inl ((s.1, s.2.1, wrap64 ((s.2.2.1 + (1 : Int))), ())))) else none) else none) else some (Sum.inr (Sum.inl (()))))
def zKg (s : (List Bool × List Bool × Unit)) : Option (Bool × Unit) := (bif (!(decide ((nI (List.length s.1) = nI (List.length s.2.1))))) then some ((false, ())) else (lp zBV fuel ((s.1, (s.2.1, ((0 : Int), ()))))).bind fun r0 => (match r0 with | .inl _ => some ((true, ())) | .inr y1 => some ((y1.1, ()))))
def zBX (s : (List En × List En × Int × Unit)) : Option ((List En × List En × Int × Unit) ⊕ ((Unit) ⊕ (Bool × Unit))) := (bif decide ((s.2.2.1 < nI (List.length s.1))) then (bif inR s.2.2.1 (List.length s.1) then (bif inR s.2.2.1 (List.length s.2.1) then (bif (!(eqInts ([(at! .en s.1 (Int.toNat s.2.2.1)).n, (at! .en s.1 (Int.toNat s.2.2.1)).c]) ([(at! .en s.2.1 (Int.toNat s.2.2.1)).n, (at! .en s.2.1 (Int.toNat s.2.2.1)).c]))) then some (Sum.inr (Sum.inr ((false, ())))) else some (Sum.inl ((s.1, s.2.1, wrap64 ((s.2.2.1 + (1 : Int))), ())))) else none) else none) else some (Sum.inr (Sum.inl (()))))
def zKi (s : (List En × List En × Unit)) : Option (Bool × Unit) := (bif (!(decide ((nI (List.length s.1) = nI (List.length s.2.1))))) then some ((false, ())) else (lp zBX fuel ((s.1, (s.2.1, ((0 : Int), ()))))).bind fun r0 => (match r0 with | .inl _ => some ((true, ())) | .inr y1 => some ((y1.1, ()))))
def zKM (s : (Int × List Lk × Unit)) : Option (Int × List Lk × Unit) := (bif decide (((List.length (([] : List Lk)) + List.length s.2.1) ≤ (33554432 : Nat))) then some ((s.1, (([] : List Lk) ++ s.2.1), ())) else none)
def zKK (s : (Int × Int × List En × Unit)) : Option (Int × Int × List En × Unit) := (bif decide (((List.length (([] : List En)) + List.length s.2.2.1) ≤ (33554432 : Nat))) then some ((s.1, s.2.1, (([] : List En) ++ s.2.2.1), ())) else none)
def zKl (s : (Int × Int × List En × Int × Int × List En × Unit)) : Option (Bool × Unit) := (bif decide ((s.1 = s.2.2.2.1)) then (bif decide ((s.2.1 = s.2.2.2.2.1)) then (zKi ((s.2.2.1, (s.2.2.2.2.2.1, ())))).bind fun r0 => some ((r0.1, ())) else some ((false, ()))) else some ((false, ())))
def zCy (s : (Int × Int × Int × List En × Int × Int × List En × Unit)) : Option ((Int × Int × Int × List En × Int × Int × List En × Unit) ⊕ ((Unit) ⊕ (Bool × Unit))) := (bif decide ((s.1 < nI (List.length s.2.2.2.1))) then (bif inR s.1 (List.length s.2.2.2.1) then (bif inR s.1 (List.length s.2.2.2.2.2.2.1) then (bif (!(eqInts ([(at! .en s.2.2.2.1 (Int.toNat s.1)).n, (at! .en s.2.2.2.1 (Int.toNat s.1)).c]) ([(at! .en s.2.2.2.2.2.2.1 (Int.toNat s.1)).n, (at! .en s.2.2.2.2.2.2.1 (Int.toNat s.1)).c]))) then some (Sum.inr (Sum.inr ((false, ())))) else some (Sum.inl ((wrap64 ((s.1 + (1 : Int))), s.2.1, s.2.2.1, s.2.2.2.1, s.2.2.2.2.1, s.2.2.2.2.2.1, s.2.2.2.2.2.2.1, ())))) else none) else none) else some (Sum.inr (Sum.inl (()))))
def zKX (s : (Int × Int × List En × Int × Int × List En × Unit)) : Option (Bool × Unit) := (bif (!(decide ((s.1 = s.2.2.2.1)))) then some ((false, ())) else (bif (!(decide ((s.2.1 = s.2.2.2.2.1)))) then some ((false, ())) else (bif (!(decide ((nI (List.length s.2.2.1) = nI (List.length s.2.2.2.2.2.1))))) then some ((false, ())) else (lp zCy fuel (((0 : Int), (s.1, (s.2.1, (s.2.2.1, (s.2.2.2.1, (s.2.2.2.2.1, (s.2.2.2.2.2.1, ()))))))))).bind fun r0 => (match r0 with | .inl _ => some ((true, ())) | .inr y1 => some ((y1.1, ()))))))
def zCg (s : (List Ls × Int × List Ls × Unit)) : Option ((List Ls × Int × List Ls × Unit) ⊕ ((List Ls × Unit) ⊕ Unit)) := (bif decide ((s.2.1 < nI (List.length s.1))) then (bif inR s.2.1 (List.length s.1) then (zKK (((at! .ls s.1 (Int.toNat s.2.1)).o, ((at! .ls s.1 (Int.toNat s.2.1)).s, ((at! .ls s.1 (Int.toNat s.2.1)).e, ()))))).bind fun r0 => (bif decide (((List.length s.2.2.1 + List.length ([(Ls.mk r0.1 r0.2.1 r0.2.2.1)])) ≤ (33554432 : Nat))) then some (Sum.inl ((s.1, wrap64 ((s.2.1 + (1 : Int))), (s.2.2.1 ++ [(Ls.mk r0.1 r0.2.1 r0.2.2.1)]), ()))) else none) else none) else some (Sum.inr (Sum.inl ((s.2.2.1, ())))))
def zKG (s : (List Ls × Unit)) : Option (List Ls × Unit) := (lp zCg fuel ((s.1, ((0 : Int), (([] : List Ls), ()))))).bind fun r0 => (match r0 with | .inl x1 => some ((x1.1, ())) | .inr _ => none)
def zBW (s : (List Ls × List Ls × Int × Unit)) : Option ((List Ls × List Ls × Int × Unit) ⊕ ((Unit) ⊕ (Bool × Unit))) := (bif decide ((s.2.2.1 < nI (List.length s.1))) then (bif inR s.2.2.1 (List.length s.1) then (bif inR s.2.2.1 (List.length s.2.1) then (zKl (((at! .ls s.1 (Int.toNat s.2.2.1)).o, ((at! .ls s.1 (Int.toNat s.2.2.1)).s, ((at! .ls s.1 (Int.toNat s.2.2.1)).e, ((at! .ls s.2.1 (Int.toNat s.2.2.1)).o, ((at! .ls s.2.1 (Int.toNat s.2.2.1)).s, ((at! .ls s.2.1 (Int.toNat s.2.2.1)).e, ())))))))).bind fun r0 => (bif (!r0.1) then some (Sum.inr (Sum.inr ((false, ())))) else some (Sum.inl ((s.1, s.2.1, wrap64 ((s.2.2.1 + (1 : Int))), ())))) else none) else none) else some (Sum.inr (Sum.inl (()))))
def zKh (s : (List Ls × List Ls × Unit)) : Option (Bool × Unit) := (bif (!(decide ((nI (List.length s.1) = nI (List.length s.2.1))))) then some ((false, ())) else (lp zBW fuel ((s.1, (s.2.1, ((0 : Int), ()))))).bind fun r0 => (match r0 with | .inl _ => some ((true, ())) | .inr y1 => some ((y1.1, ()))))
def zCA (s : (Int × Int × List Lk × List Bool × List Int × List (List Ls) × List Pk × Int × List Lk × Int × List Lk × Unit)) : Option ((Int × Int × List Lk × List Bool × List Int × List (List Ls) × List Pk × Int × List Lk × Int × List Lk × Unit) ⊕ ((Int × List Lk × Int × List Lk × Unit) ⊕ Unit)) := (bif decide ((s.1 < nI (List.length s.2.2.2.1))) then (bif inR s.1 (List.length s.2.2.2.1) then (bif at! .bool s.2.2.2.1 (Int.toNat s.1) then (bif inR s.1 (List.length s.2.2.1) then (bif decide (((List.length s.2.2.2.2.2.2.2.2.2.2.1 + List.length ([(Lk.mk ((at! .lk s.2.2.1 (Int.toNat s.1)).a) ((at! .lk s.2.2.1 (Int.toNat s.1)).b) ((at! .lk s.2.2.1 (Int.toNat s.1)).c))])) ≤ (33554432 : Nat))) then some (Sum.inl ((wrap64 ((s.1 + (1 : Int))), s.2.1, s.2.2.1, s.2.2.2.1, s.2.2.2.2.1, s.2.2.2.2.2.1, s.2.2.2.2.2.2.1, s.2.2.2.2.2.2.2.1, s.2.2.2.2.2.2.2.2.1, s.2.2.2.2.2.2.2.2.2.1, (s.2.2.2.2.2.2.2.2.2.2.1 ++ [(Lk.mk ((at! .lk s.2.2.1 (Int.toNat s.1)).a) ((at! .lk s.2.2.1 (Int.toNat s.1)).b) ((at! .lk s.2.2.1 (Int.toNat s.1)).c))]), ()))) else none) else none) else some (Sum.inl ((wrap64 ((s.1 + (1 : Int))), s.2.1, s.2.2.1, s.2.2.2.1, s.2.2.2.2.1, s.2.2.2.2.2.1, s.2.2.2.2.2.2.1, s.2.2.2.2.2.2.2.1, s.2.2.2.2.2.2.2.2.1, s.2.2.2.2.2.2.2.2.2.1, s.2.2.2.2.2.2.2.2.2.2.1, ())))) else none) else some (Sum.inr (Sum.inl ((s.2.2.2.2.2.2.2.1, s.2.2.2.2.2.2.2.2.1, s.2.2.2.2.2.2.2.2.2.1, s.2.2.2.2.2.2.2.2.2.2.1, ())))))
def zK0 (s : (Int × List Lk × List Bool × List Int × List (List Ls) × List Pk × Unit)) : Option (Int × List Lk × Unit) := (lp zCA fuel (((0 : Int), (s.1, (s.2.1, (s.2.2.1, (s.2.2.2.1, (s.2.2.2.2.1, (s.2.2.2.2.2.1, ((0 : Int), (([] : List Lk), (s.1, (([] : List Lk), ()))))))))))))).bind fun r0 => (match r0 with | .inl x1 => some ((x1.2.2.1, x1.2.2.2.1, ())) | .inr _ => none)
def zCz (s : (Int × Int × List Lk × List Bool × List Int × List (List Ls) × List Pk × Unit)) : Option ((Int × Int × List Lk × List Bool × List Int × List (List Ls) × List Pk × Unit) ⊕ ((Unit) ⊕ (Bool × Unit))) := (bif decide ((s.1 < s.2.1)) then (bif inR s.1 (List.length s.2.2.2.2.1) then (zK2 ((at! .int s.2.2.2.2.1 (Int.toNat s.1), ((1 : Int), ((99 : Int), ()))))).bind fun r0 => (bif (!r0.1) then some (Sum.inr (Sum.inr ((false, ())))) else (bif inR s.1 (List.length s.2.2.2.2.2.1) then (zKz ((at! .db s.2.2.2.2.2.1 (Int.toNat s.1), ()))).bind fun r1 => (bif (!r1.1) then some (Sum.inr (Sum.inr ((false, ())))) else some (Sum.inl ((wrap64 ((s.1 + (1 : Int))), s.2.1, s.2.2.1, s.2.2.2.1, s.2.2.2.2.1, s.2.2.2.2.2.1, s.2.2.2.2.2.2.1, ())))) else none)) else none) else some (Sum.inr (Sum.inl (()))))
def zKY (s : (Int × List Lk × List Bool × List Int × List (List Ls) × List Pk × Unit)) : Option (Bool × Unit) := (zKC ((s.1, (s.2.1, ())))).bind fun r0 => (bif (!r0.1) then some ((false, ())) else (bif (!(decide ((nI (List.length s.2.2.1) = nI (List.length s.2.1))))) then some ((false, ())) else (bif (!(decide ((nI (List.length s.2.2.2.1) = s.1)))) then some ((false, ())) else (bif (!(decide ((nI (List.length s.2.2.2.2.1) = s.1)))) then some ((false, ())) else (bif decide (((16 : Int) < nI (List.length s.2.2.2.2.2.1))) then some ((false, ())) else (lp zCz fuel (((0 : Int), (s.1, (s.2.1, (s.2.2.1, (s.2.2.2.1, (s.2.2.2.2.1, (s.2.2.2.2.2.1, ()))))))))).bind fun r1 => (match r1 with | .inl _ => some ((true, ())) | .inr y2 => some ((y2.1, ()))))))))
def zCn (s : (Int × Int × List Lk × List Bool × List Int × List (List Ls) × List Pk × List Ls × Unit)) : Option ((Int × Int × List Lk × List Bool × List Int × List (List Ls) × List Pk × List Ls × Unit) ⊕ ((Int × List Lk × List Bool × List Int × List (List Ls) × List Pk × List Ls × Unit) ⊕ Unit)) := (bif decide ((s.1 < nI (List.length s.2.2.2.2.2.1))) then (bif inR s.1 (List.length s.2.2.2.2.2.1) then (bif decide (((List.length s.2.2.2.2.2.2.2.1 + List.length (at! .db s.2.2.2.2.2.1 (Int.toNat s.1))) ≤ (33554432 : Nat))) then some (Sum.inl ((wrap64 ((s.1 + (1 : Int))), s.2.1, s.2.2.1, s.2.2.2.1, s.2.2.2.2.1, s.2.2.2.2.2.1, s.2.2.2.2.2.2.1, (s.2.2.2.2.2.2.2.1 ++ at! .db s.2.2.2.2.2.1 (Int.toNat s.1)), ()))) else none) else none) else some (Sum.inr (Sum.inl ((s.2.1, s.2.2.1, s.2.2.2.1, s.2.2.2.2.1, s.2.2.2.2.2.1, s.2.2.2.2.2.2.1, s.2.2.2.2.2.2.2.1, ())))))
def zCo (s : (Int × Int × List Lk × List Bool × List Int × List (List Ls) × List Pk × List Ls × Unit)) : Option ((Int × Int × List Lk × List Bool × List Int × List (List Ls) × List Pk × List Ls × Unit) ⊕ ((List Ls × Unit) ⊕ Unit)) := (bif decide ((s.1 < nI (List.length s.2.2.2.2.2.2.1))) then (bif inR s.1 (List.length s.2.2.2.2.2.2.1) then (bif decide (((List.length s.2.2.2.2.2.2.2.1 + List.length ([(Ls.mk (((at! .pk s.2.2.2.2.2.2.1 (Int.toNat s.1)).p).o) (((at! .pk s.2.2.2.2.2.2.1 (Int.toNat s.1)).p).s) (((at! .pk s.2.2.2.2.2.2.1 (Int.toNat s.1)).p).e))])) ≤ (33554432 : Nat))) then some (Sum.inl ((wrap64 ((s.1 + (1 : Int))), s.2.1, s.2.2.1, s.2.2.2.1, s.2.2.2.2.1, s.2.2.2.2.2.1, s.2.2.2.2.2.2.1, (s.2.2.2.2.2.2.2.1 ++ [(Ls.mk (((at! .pk s.2.2.2.2.2.2.1 (Int.toNat s.1)).p).o) (((at! .pk s.2.2.2.2.2.2.1 (Int.toNat s.1)).p).s) (((at! .pk s.2.2.2.2.2.2.1 (Int.toNat s.1)).p).e))]), ()))) else none) else none) else some (Sum.inr (Sum.inl ((s.2.2.2.2.2.2.2.1, ())))))
def zKO (s : (Int × List Lk × List Bool × List Int × List (List Ls) × List Pk × Unit)) : Option (List Ls × Unit) := (lp zCn fuel (((0 : Int), (s.1, (s.2.1, (s.2.2.1, (s.2.2.2.1, (s.2.2.2.2.1, (s.2.2.2.2.2.1, (([] : List Ls), ())))))))))).bind fun r0 => (match r0 with | .inl x1 => (lp zCo fuel (((0 : Int), (x1.1, (x1.2.1, (x1.2.2.1, (x1.2.2.2.1, (x1.2.2.2.2.1, (x1.2.2.2.2.2.1, (x1.2.2.2.2.2.2.1, ())))))))))).bind fun r2 => (match r2 with | .inl x3 => some ((x3.1, ())) | .inr _ => none) | .inr _ => none)
def zJ6 (s : (Int × Int × List En × Unit)) : Option (Int × Int × List En × Unit) := (zKp ((s.2.2.1, ()))).bind fun r0 => some ((s.1, s.2.1, r0.1, ()))
def zCu (s : (Int × Int × List Lk × List Bool × List Int × List (List Ls) × List Pk × Int × Int × List En × Unit)) : Option ((Int × Int × List Lk × List Bool × List Int × List (List Ls) × List Pk × Int × Int × List En × Unit) ⊕ ((Int × List Lk × List Bool × List Int × List (List Ls) × List Pk × Int × Int × List En × Unit) ⊕ (Bool × Unit))) := (bif decide ((s.1 < nI (List.length s.2.2.2.2.2.2.2.2.2.1))) then (bif inR s.1 (List.length s.2.2.2.2.2.2.2.2.2.1) then (zKN ((s.2.1, (s.2.2.1, (s.2.2.2.2.2.2.2.1, ((at! .en s.2.2.2.2.2.2.2.2.2.1 (Int.toNat s.1)).n, ())))))).bind fun r0 => (bif decide ((r0.1 < (0 : Int))) then some (Sum.inr (Sum.inr ((false, ())))) else (bif inR r0.1 (List.length s.2.2.1) then (bif inR s.1 (List.length s.2.2.2.2.2.2.2.2.2.1) then (bif (!(decide (((at! .lk s.2.2.1 (Int.toNat r0.1)).c = (at! .en s.2.2.2.2.2.2.2.2.2.1 (Int.toNat s.1)).c)))) then some (Sum.inr (Sum.inr ((false, ())))) else some (Sum.inl ((wrap64 ((s.1 + (1 : Int))), s.2.1, s.2.2.1, s.2.2.2.1, s.2.2.2.2.1, s.2.2.2.2.2.1, s.2.2.2.2.2.2.1, s.2.2.2.2.2.2.2.1, s.2.2.2.2.2.2.2.2.1, s.2.2.2.2.2.2.2.2.2.1, ())))) else none) else none)) else none) else some (Sum.inr (Sum.inl ((s.2.1, s.2.2.1, s.2.2.2.1, s.2.2.2.2.1, s.2.2.2.2.2.1, s.2.2.2.2.2.2.1, s.2.2.2.2.2.2.2.1, s.2.2.2.2.2.2.2.2.1, s.2.2.2.2.2.2.2.2.2.1, ())))))
def zKU (s : (Int × List Lk × List Bool × List Int × List (List Ls) × List Pk × Int × Int × List En × Unit)) : Option (Bool × Unit) := (zKD ((s.2.2.2.2.2.2.1, (s.2.2.2.2.2.2.2.1, (s.2.2.2.2.2.2.2.2.1, ()))))).bind fun r0 => (bif (!r0.1) then some ((false, ())) else (bif decide ((s.1 ≤ s.2.2.2.2.2.2.1)) then some ((false, ())) else (bif inR s.2.2.2.2.2.2.1 (List.length s.2.2.2.1) then (bif decide ((at! .int s.2.2.2.1 (Int.toNat s.2.2.2.2.2.2.1) < s.2.2.2.2.2.2.2.1)) then some ((false, ())) else (lp zCu fuel (((0 : Int), (s.1, (s.2.1, (s.2.2.1, (s.2.2.2.1, (s.2.2.2.2.1, (s.2.2.2.2.2.1, (s.2.2.2.2.2.2.1, (s.2.2.2.2.2.2.2.1, (s.2.2.2.2.2.2.2.2.1, ())))))))))))).bind fun r1 => (match r1 with | .inl x2 => (bif inR x2.2.2.2.2.2.2.1 (List.length x2.2.2.2.1) then (bif decide ((x2.2.2.2.2.2.2.2.1 < at! .int x2.2.2.2.1 (Int.toNat x2.2.2.2.2.2.2.1))) then some ((true, ())) else (zK0 ((x2.1, (x2.2.1, (x2.2.2.1, (x2.2.2.2.1, (x2.2.2.2.2.1, (x2.2.2.2.2.2.1, ())))))))).bind fun r3 => (zKJ ((r3.1, (r3.2.1, (x2.2.2.2.2.2.2.1, (x2.2.2.2.2.2.2.2.1, ())))))).bind fun r4 => (zKX ((x2.2.2.2.2.2.2.1, (x2.2.2.2.2.2.2.2.1, (x2.2.2.2.2.2.2.2.2.1, (r4.1, (r4.2.1, (r4.2.2.1, ())))))))).bind fun r5 => some ((r5.1, ()))) else none) | .inr y2 => some ((y2.1, ())))) else none)))
def zCx (s : (List Ls × Int × Int × Unit)) : Option ((List Ls × Int × Int × Unit) ⊕ ((List Ls × Int × Unit) ⊕ (Bool × Unit))) := (bif decide ((s.2.2.1 < s.2.1)) then (bif inR s.2.1 (List.length s.1) then (bif inR s.2.2.1 (List.length s.1) then (bif decide (((at! .ls s.1 (Int.toNat s.2.1)).o = (at! .ls s.1 (Int.toNat s.2.2.1)).o)) then (bif inR s.2.1 (List.length s.1) then (bif inR s.2.2.1 (List.length s.1) then (bif decide (((at! .ls s.1 (Int.toNat s.2.1)).s = (at! .ls s.1 (Int.toNat s.2.2.1)).s)) then (bif inR s.2.1 (List.length s.1) then (bif inR s.2.2.1 (List.length s.1) then (zKX (((at! .ls s.1 (Int.toNat s.2.1)).o, ((at! .ls s.1 (Int.toNat s.2.1)).s, ((at! .ls s.1 (Int.toNat s.2.1)).e, ((at! .ls s.1 (Int.toNat s.2.2.1)).o, ((at! .ls s.1 (Int.toNat s.2.2.1)).s, ((at! .ls s.1 (Int.toNat s.2.2.1)).e, ())))))))).bind fun r0 => (bif (!r0.1) then some (Sum.inr (Sum.inr ((false, ())))) else some (Sum.inl ((s.1, s.2.1, wrap64 ((s.2.2.1 + (1 : Int))), ())))) else none) else none) else some (Sum.inl ((s.1, s.2.1, wrap64 ((s.2.2.1 + (1 : Int))), ())))) else none) else none) else some (Sum.inl ((s.1, s.2.1, wrap64 ((s.2.2.1 + (1 : Int))), ())))) else none) else none) else some (Sum.inr (Sum.inl ((s.1, s.2.1, ())))))
def zCw (s : (List Ls × Int × Unit)) : Option ((List Ls × Int × Unit) ⊕ ((Unit) ⊕ (Bool × Unit))) := (bif decide ((s.2.1 < nI (List.length s.1))) then (lp zCx fuel ((s.1, (s.2.1, ((0 : Int), ()))))).bind fun r0 => (match r0 with | .inl x1 => some (Sum.inl ((x1.1, wrap64 ((x1.2.1 + (1 : Int))), ()))) | .inr y1 => some (Sum.inr (Sum.inr ((y1.1, ()))))) else some (Sum.inr (Sum.inl (()))))
def zKW (s : (List Ls × Unit)) : Option (Bool × Unit) := (lp zCw fuel ((s.1, ((0 : Int), ())))).bind fun r0 => (match r0 with | .inl _ => some ((true, ())) | .inr y1 => some ((y1.1, ())))
def zBQ (s : (List Ls × Int × Int × List Ls × Unit)) : Option ((List Ls × Int × Int × List Ls × Unit) ⊕ ((List Ls × Unit) ⊕ Unit)) := (bif decide ((s.2.2.1 < s.2.1)) then (bif inR s.2.2.1 (List.length s.1) then (zJ6 (((at! .ls s.1 (Int.toNat s.2.2.1)).o, ((at! .ls s.1 (Int.toNat s.2.2.1)).s, ((at! .ls s.1 (Int.toNat s.2.2.1)).e, ()))))).bind fun r0 => (bif decide (((List.length s.2.2.2.1 + List.length ([(Ls.mk r0.1 r0.2.1 r0.2.2.1)])) ≤ (33554432 : Nat))) then some (Sum.inl ((s.1, s.2.1, wrap64 ((s.2.2.1 + (1 : Int))), (s.2.2.2.1 ++ [(Ls.mk r0.1 r0.2.1 r0.2.2.1)]), ()))) else none) else none) else some (Sum.inr (Sum.inl ((s.2.2.2.1, ())))))
def zJ5 (s : (List Ls × Unit)) : Option (List Ls × Unit) := (lp zBQ fuel ((s.1, (nI (List.length s.1), ((0 : Int), (([] : List Ls), ())))))).bind fun r0 => (match r0 with | .inl x1 => some ((x1.1, ())) | .inr _ => none)
def zCq (s : (Int × List Lk × List Bool × List Int × List (List Ls) × List Pk × Int × List Lk × List Bool × List Int × List (List Ls) × List Pk × Unit)) : Option ((Int × List Lk × List Bool × List Int × List (List Ls) × List Pk × Int × List Lk × List Bool × List Int × List (List Ls) × List Pk × Int × List Lk × List Bool × List Int × List (List Ls) × List Pk × Unit) ⊕ Unit) := (zKM ((s.1, (s.2.1, ())))).bind fun r0 => (bif decide ((List.length s.2.2.1 ≤ (33554432 : Nat))) then (bif decide ((List.length s.2.2.2.1 ≤ (33554432 : Nat))) then some (Sum.inl ((s.1, s.2.1, s.2.2.1, s.2.2.2.1, s.2.2.2.2.1, s.2.2.2.2.2.1, s.2.2.2.2.2.2.1, s.2.2.2.2.2.2.2.1, s.2.2.2.2.2.2.2.2.1, s.2.2.2.2.2.2.2.2.2.1, s.2.2.2.2.2.2.2.2.2.2.1, s.2.2.2.2.2.2.2.2.2.2.2.1, r0.1, r0.2.1, s.2.2.1, s.2.2.2.1, ([] : List (List Ls)), ([] : List Pk), ()))) else none) else none)
def zCr (s : (Int × Int × List Lk × List Bool × List Int × List (List Ls) × List Pk × Int × List Lk × List Bool × List Int × List (List Ls) × List Pk × Int × List Lk × List Bool × List Int × List (List Ls) × List Pk × Unit)) : Option ((Int × Int × List Lk × List Bool × List Int × List (List Ls) × List Pk × Int × List Lk × List Bool × List Int × List (List Ls) × List Pk × Int × List Lk × List Bool × List Int × List (List Ls) × List Pk × Unit) ⊕ ((Int × List Lk × List Bool × List Int × List (List Ls) × List Pk × Int × List Lk × List Bool × List Int × List (List Ls) × List Pk × Int × List Lk × List Bool × List Int × List (List Ls) × List Pk × Unit) ⊕ Unit)) := (bif decide ((s.1 < nI (List.length s.2.2.2.2.2.1))) then (bif inR s.1 (List.length s.2.2.2.2.2.1) then (zKG ((at! .db s.2.2.2.2.2.1 (Int.toNat s.1), ()))).bind fun r0 => (bif decide (((List.length s.2.2.2.2.2.2.2.2.2.2.2.2.2.2.2.2.2.1 + List.length ([r0.1])) ≤ (33554432 : Nat))) then some (Sum.inl ((wrap64 ((s.1 + (1 : Int))), s.2.1, s.2.2.1, s.2.2.2.1, s.2.2.2.2.1, s.2.2.2.2.2.1, s.2.2.2.2.2.2.1, s.2.2.2.2.2.2.2.1, s.2.2.2.2.2.2.2.2.1, s.2.2.2.2.2.2.2.2.2.1, s.2.2.2.2.2.2.2.2.2.2.1, s.2.2.2.2.2.2.2.2.2.2.2.1, s.2.2.2.2.2.2.2.2.2.2.2.2.1, s.2.2.2.2.2.2.2.2.2.2.2.2.2.1, s.2.2.2.2.2.2.2.2.2.2.2.2.2.2.1, s.2.2.2.2.2.2.2.2.2.2.2.2.2.2.2.1, s.2.2.2.2.2.2.2.2.2.2.2.2.2.2.2.2.1, (s.2.2.2.2.2.2.2.2.2.2.2.2.2.2.2.2.2.1 ++ [r0.1]), s.2.2.2.2.2.2.2.2.2.2.2.2.2.2.2.2.2.2.1, ()))) else none) else none) else some (Sum.inr (Sum.inl ((s.2.1, s.2.2.1, s.2.2.2.1, s.2.2.2.2.1, s.2.2.2.2.2.1, s.2.2.2.2.2.2.1, s.2.2.2.2.2.2.2.1, s.2.2.2.2.2.2.2.2.1, s.2.2.2.2.2.2.2.2.2.1, s.2.2.2.2.2.2.2.2.2.2.1, s.2.2.2.2.2.2.2.2.2.2.2.1, s.2.2.2.2.2.2.2.2.2.2.2.2.1, s.2.2.2.2.2.2.2.2.2.2.2.2.2.1, s.2.2.2.2.2.2.2.2.2.2.2.2.2.2.1, s.2.2.2.2.2.2.2.2.2.2.2.2.2.2.2.1, s.2.2.2.2.2.2.2.2.2.2.2.2.2.2.2.2.1, s.2.2.2.2.2.2.2.2.2.2.2.2.2.2.2.2.2.1, s.2.2.2.2.2.2.2.2.2.2.2.2.2.2.2.2.2.2.1, ())))))
def zCs (s : (Int × Int × List Lk × List Bool × List Int × List (List Ls) × List Pk × Int × List Lk × List Bool × List Int × List (List Ls) × List Pk × Int × List Lk × List Bool × List Int × List (List Ls) × List Pk × Unit)) : Option ((Int × Int × List Lk × List Bool × List Int × List (List Ls) × List Pk × Int × List Lk × List Bool × List Int × List (List Ls) × List Pk × Int × List Lk × List Bool × List Int × List (List Ls) × List Pk × Unit) ⊕ ((Int × List Lk × List Bool × List Int × List (List Ls) × List Pk × Int × List Lk × List Bool × List Int × List (List Ls) × List Pk × Unit) ⊕ Unit)) := (bif decide ((s.1 < nI (List.length s.2.2.2.2.2.2.1))) then (bif inR s.1 (List.length s.2.2.2.2.2.2.1) then (bif inR s.1 (List.length s.2.2.2.2.2.2.1) then (zKK ((((at! .pk s.2.2.2.2.2.2.1 (Int.toNat s.1)).p).o, (((at! .pk s.2.2.2.2.2.2.1 (Int.toNat s.1)).p).s, (((at! .pk s.2.2.2.2.2.2.1 (Int.toNat s.1)).p).e, ()))))).bind fun r0 => (bif decide (((List.length s.2.2.2.2.2.2.2.2.2.2.2.2.2.2.2.2.2.2.1 + List.length ([(Pk.mk ((at! .pk s.2.2.2.2.2.2.1 (Int.toNat s.1)).t) ((Ls.mk r0.1 r0.2.1 r0.2.2.1)))])) ≤ (33554432 : Nat))) then some (Sum.inl ((wrap64 ((s.1 + (1 : Int))), s.2.1, s.2.2.1, s.2.2.2.1, s.2.2.2.2.1, s.2.2.2.2.2.1, s.2.2.2.2.2.2.1, s.2.2.2.2.2.2.2.1, s.2.2.2.2.2.2.2.2.1, s.2.2.2.2.2.2.2.2.2.1, s.2.2.2.2.2.2.2.2.2.2.1, s.2.2.2.2.2.2.2.2.2.2.2.1, s.2.2.2.2.2.2.2.2.2.2.2.2.1, s.2.2.2.2.2.2.2.2.2.2.2.2.2.1, s.2.2.2.2.2.2.2.2.2.2.2.2.2.2.1, s.2.2.2.2.2.2.2.2.2.2.2.2.2.2.2.1, s.2.2.2.2.2.2.2.2.2.2.2.2.2.2.2.2.1, s.2.2.2.2.2.2.2.2.2.2.2.2.2.2.2.2.2.1, (s.2.2.2.2.2.2.2.2.2.2.2.2.2.2.2.2.2.2.1 ++ [(Pk.mk ((at! .pk s.2.2.2.2.2.2.1 (Int.toNat s.1)).t) ((Ls.mk r0.1 r0.2.1 r0.2.2.1)))]), ()))) else none) else none) else none) else some (Sum.inr (Sum.inl ((s.2.2.2.2.2.2.2.1, s.2.2.2.2.2.2.2.2.1, s.2.2.2.2.2.2.2.2.2.1, s.2.2.2.2.2.2.2.2.2.2.1, s.2.2.2.2.2.2.2.2.2.2.2.1, s.2.2.2.2.2.2.2.2.2.2.2.2.1, s.2.2.2.2.2.2.2.2.2.2.2.2.2.1, s.2.2.2.2.2.2.2.2.2.2.2.2.2.2.1, s.2.2.2.2.2.2.2.2.2.2.2.2.2.2.2.1, s.2.2.2.2.2.2.2.2.2.2.2.2.2.2.2.2.1, s.2.2.2.2.2.2.2.2.2.2.2.2.2.2.2.2.2.1, s.2.2.2.2.2.2.2.2.2.2.2.2.2.2.2.2.2.2.1, ())))))
def zKQ (s : (Int × List Lk × List Bool × List Int × List (List Ls) × List Pk × Unit)) : Option (Int × List Lk × List Bool × List Int × List (List Ls) × List Pk × Unit) := (zCq ((s.1, (s.2.1, (s.2.2.1, (s.2.2.2.1, (s.2.2.2.2.1, (s.2.2.2.2.2.1, ((0 : Int), (([] : List Lk), (([] : List Bool), (([] : List Int), (([] : List (List Ls)), (([] : List Pk), ())))))))))))))).bind fun r0 => (match r0 with | .inl x1 => (lp zCr fuel (((0 : Int), (x1.1, (x1.2.1, (x1.2.2.1, (x1.2.2.2.1, (x1.2.2.2.2.1, (x1.2.2.2.2.2.1, (x1.2.2.2.2.2.2.1, (x1.2.2.2.2.2.2.2.1, (x1.2.2.2.2.2.2.2.2.1, (x1.2.2.2.2.2.2.2.2.2.1, (x1.2.2.2.2.2.2.2.2.2.2.1, (x1.2.2.2.2.2.2.2.2.2.2.2.1, (x1.2.2.2.2.2.2.2.2.2.2.2.2.1, (x1.2.2.2.2.2.2.2.2.2.2.2.2.2.1, (x1.2.2.2.2.2.2.2.2.2.2.2.2.2.2.1, (x1.2.2.2.2.2.2.2.2.2.2.2.2.2.2.2.1, (x1.2.2.2.2.2.2.2.2.2.2.2.2.2.2.2.2.1, (x1.2.2.2.2.2.2.2.2.2.2.2.2.2.2.2.2.2.1, ()))))))))))))))))))))).bind fun r2 => (match r2 with | .inl x3 => (lp zCs fuel (((0 : Int), (x3.1, (x3.2.1, (x3.2.2.1, (x3.2.2.2.1, (x3.2.2.2.2.1, (x3.2.2.2.2.2.1, (x3.2.2.2.2.2.2.1, (x3.2.2.2.2.2.2.2.1, (x3.2.2.2.2.2.2.2.2.1, (x3.2.2.2.2.2.2.2.2.2.1, (x3.2.2.2.2.2.2.2.2.2.2.1, (x3.2.2.2.2.2.2.2.2.2.2.2.1, (x3.2.2.2.2.2.2.2.2.2.2.2.2.1, (x3.2.2.2.2.2.2.2.2.2.2.2.2.2.1, (x3.2.2.2.2.2.2.2.2.2.2.2.2.2.2.1, (x3.2.2.2.2.2.2.2.2.2.2.2.2.2.2.2.1, (x3.2.2.2.2.2.2.2.2.2.2.2.2.2.2.2.2.1, (x3.2.2.2.2.2.2.2.2.2.2.2.2.2.2.2.2.2.1, ()))))))))))))))))))))).bind fun r4 => (match r4 with | .inl x5 => some ((x5.2.2.2.2.2.2.1, x5.2.2.2.2.2.2.2.1, x5.2.2.2.2.2.2.2.2.1, x5.2.2.2.2.2.2.2.2.2.1, x5.2.2.2.2.2.2.2.2.2.2.1, x5.2.2.2.2.2.2.2.2.2.2.2.1, ())) | .inr _ => none) | .inr _ => none) | .inr _ => none)
def zB0 (s : (Int × Int × List Lk × List Bool × List Int × List (List Ls) × List Pk × Int × List Lk × List Bool × List Int × List (List Ls) × List Pk × Unit)) : Option ((Int × Int × List Lk × List Bool × List Int × List (List Ls) × List Pk × Int × List Lk × List Bool × List Int × List (List Ls) × List Pk × Unit) ⊕ ((Int × List Lk × List Bool × List Int × List (List Ls) × List Pk × Int × List Lk × List Bool × List Int × List (List Ls) × List Pk × Unit) ⊕ (Bool × Unit))) := (bif decide ((s.1 < nI (List.length s.2.2.2.2.2.1))) then (bif inR s.1 (List.length s.2.2.2.2.2.1) then (bif inR s.1 (List.length s.2.2.2.2.2.2.2.2.2.2.2.1) then (zKh ((at! .db s.2.2.2.2.2.1 (Int.toNat s.1), (at! .db s.2.2.2.2.2.2.2.2.2.2.2.1 (Int.toNat s.1), ())))).bind fun r0 => (bif (!r0.1) then some (Sum.inr (Sum.inr ((false, ())))) else some (Sum.inl ((wrap64 ((s.1 + (1 : Int))), s.2.1, s.2.2.1, s.2.2.2.1, s.2.2.2.2.1, s.2.2.2.2.2.1, s.2.2.2.2.2.2.1, s.2.2.2.2.2.2.2.1, s.2.2.2.2.2.2.2.2.1, s.2.2.2.2.2.2.2.2.2.1, s.2.2.2.2.2.2.2.2.2.2.1, s.2.2.2.2.2.2.2.2.2.2.2.1, s.2.2.2.2.2.2.2.2.2.2.2.2.1, ())))) else none) else none) else some (Sum.inr (Sum.inl ((s.2.1, s.2.2.1, s.2.2.2.1, s.2.2.2.2.1, s.2.2.2.2.2.1, s.2.2.2.2.2.2.1, s.2.2.2.2.2.2.2.1, s.2.2.2.2.2.2.2.2.1, s.2.2.2.2.2.2.2.2.2.1, s.2.2.2.2.2.2.2.2.2.2.1, s.2.2.2.2.2.2.2.2.2.2.2.1, s.2.2.2.2.2.2.2.2.2.2.2.2.1, ())))))
def zB1 (s : (Int × Int × List Lk × List Bool × List Int × List (List Ls) × List Pk × Int × List Lk × List Bool × List Int × List (List Ls) × List Pk × Unit)) : Option ((Int × Int × List Lk × List Bool × List Int × List (List Ls) × List Pk × Int × List Lk × List Bool × List Int × List (List Ls) × List Pk × Unit) ⊕ ((Unit) ⊕ (Bool × Unit))) := (bif decide ((s.1 < nI (List.length s.2.2.2.2.2.2.1))) then (bif inR s.1 (List.length s.2.2.2.2.2.2.1) then (bif inR s.1 (List.length s.2.2.2.2.2.2.2.2.2.2.2.2.1) then (bif (!(decide (((at! .pk s.2.2.2.2.2.2.1 (Int.toNat s.1)).t = (at! .pk s.2.2.2.2.2.2.2.2.2.2.2.2.1 (Int.toNat s.1)).t)))) then some (Sum.inr (Sum.inr ((false, ())))) else (bif inR s.1 (List.length s.2.2.2.2.2.2.1) then (bif inR s.1 (List.length s.2.2.2.2.2.2.2.2.2.2.2.2.1) then (zKl ((((at! .pk s.2.2.2.2.2.2.1 (Int.toNat s.1)).p).o, (((at! .pk s.2.2.2.2.2.2.1 (Int.toNat s.1)).p).s, (((at! .pk s.2.2.2.2.2.2.1 (Int.toNat s.1)).p).e, (((at! .pk s.2.2.2.2.2.2.2.2.2.2.2.2.1 (Int.toNat s.1)).p).o, (((at! .pk s.2.2.2.2.2.2.2.2.2.2.2.2.1 (Int.toNat s.1)).p).s, (((at! .pk s.2.2.2.2.2.2.2.2.2.2.2.2.1 (Int.toNat s.1)).p).e, ())))))))).bind fun r0 => (bif (!r0.1) then some (Sum.inr (Sum.inr ((false, ())))) else some (Sum.inl ((wrap64 ((s.1 + (1 : Int))), s.2.1, s.2.2.1, s.2.2.2.1, s.2.2.2.2.1, s.2.2.2.2.2.1, s.2.2.2.2.2.2.1, s.2.2.2.2.2.2.2.1, s.2.2.2.2.2.2.2.2.1, s.2.2.2.2.2.2.2.2.2.1, s.2.2.2.2.2.2.2.2.2.2.1, s.2.2.2.2.2.2.2.2.2.2.2.1, s.2.2.2.2.2.2.2.2.2.2.2.2.1, ())))) else none) else none)) else none) else none) else some (Sum.inr (Sum.inl (()))))
def zKm (s : (Int × List Lk × List Bool × List Int × List (List Ls) × List Pk × Int × List Lk × List Bool × List Int × List (List Ls) × List Pk × Unit)) : Option (Bool × Unit) := (zKj ((s.1, (s.2.1, (s.2.2.2.2.2.2.1, (s.2.2.2.2.2.2.2.1, ())))))).bind fun r0 => (bif (!r0.1) then some ((false, ())) else (zKg ((s.2.2.1, (s.2.2.2.2.2.2.2.2.1, ())))).bind fun r1 => (bif (!r1.1) then some ((false, ())) else (zKk ((s.2.2.2.1, (s.2.2.2.2.2.2.2.2.2.1, ())))).bind fun r2 => (bif (!r2.1) then some ((false, ())) else (bif (!(decide ((nI (List.length s.2.2.2.2.1) = nI (List.length s.2.2.2.2.2.2.2.2.2.2.1))))) then some ((false, ())) else (bif (!(decide ((nI (List.length s.2.2.2.2.2.1) = nI (List.length s.2.2.2.2.2.2.2.2.2.2.2.1))))) then some ((false, ())) else (lp zB0 fuel (((0 : Int), (s.1, (s.2.1, (s.2.2.1, (s.2.2.2.1, (s.2.2.2.2.1, (s.2.2.2.2.2.1, (s.2.2.2.2.2.2.1, (s.2.2.2.2.2.2.2.1, (s.2.2.2.2.2.2.2.2.1, (s.2.2.2.2.2.2.2.2.2.1, (s.2.2.2.2.2.2.2.2.2.2.1, (s.2.2.2.2.2.2.2.2.2.2.2.1, ()))))))))))))))).bind fun r3 => (match r3 with | .inl x4 => (lp zB1 fuel (((0 : Int), (x4.1, (x4.2.1, (x4.2.2.1, (x4.2.2.2.1, (x4.2.2.2.2.1, (x4.2.2.2.2.2.1, (x4.2.2.2.2.2.2.1, (x4.2.2.2.2.2.2.2.1, (x4.2.2.2.2.2.2.2.2.1, (x4.2.2.2.2.2.2.2.2.2.1, (x4.2.2.2.2.2.2.2.2.2.2.1, (x4.2.2.2.2.2.2.2.2.2.2.2.1, ()))))))))))))))).bind fun r5 => (match r5 with | .inl _ => some ((true, ())) | .inr y6 => some ((y6.1, ()))) | .inr y4 => some ((y4.1, ()))))))))
def zJ8 (_ : (Int × Int × Int × Int × Unit)) : Option (Bool × Unit) := some ((true, ()))
def zJ3 (s : (Int × Int × Int × Int × Int × List Lk × List Bool × List Int × List (List Ls) × List Pk × Unit)) : Option (Bool × Unit) := (bif inR s.1 (List.length s.2.2.2.2.2.2.1) then some ((at! .bool s.2.2.2.2.2.2.1 (Int.toNat s.1), ())) else none)
def zB3 (s : (List En × List En × Int × Int × Unit)) : Option ((List En × List En × Int × Int × Unit) ⊕ ((Unit) ⊕ (Bool × Unit))) := (bif decide ((s.2.2.2.1 < s.2.2.1)) then (bif inR s.2.2.2.1 (List.length s.1) then (bif inR s.2.2.2.1 (List.length s.2.1) then (bif (!(eqInts ([(at! .en s.1 (Int.toNat s.2.2.2.1)).n, (at! .en s.1 (Int.toNat s.2.2.2.1)).c]) ([(at! .en s.2.1 (Int.toNat s.2.2.2.1)).n, (at! .en s.2.1 (Int.toNat s.2.2.2.1)).c]))) then some (Sum.inr (Sum.inr ((false, ())))) else some (Sum.inl ((s.1, s.2.1, s.2.2.1, wrap64 ((s.2.2.2.1 + (1 : Int))), ())))) else none) else none) else some (Sum.inr (Sum.inl (()))))
def zKt (s : (List En × List En × Unit)) : Option (Bool × Unit) := (bif (!(decide ((nI (List.length s.1) = nI (List.length s.2.1))))) then some ((false, ())) else (lp zB3 fuel ((s.1, (s.2.1, (nI (List.length s.1), ((0 : Int), ())))))).bind fun r0 => (match r0 with | .inl _ => some ((true, ())) | .inr y1 => some ((y1.1, ()))))
def zKd (s : (Int × Int × List En × Int × Int × List En × Unit)) : Option (Bool × Unit) := (bif decide ((s.1 = s.2.2.2.1)) then (bif decide ((s.2.1 = s.2.2.2.2.1)) then (zKt ((s.2.2.1, (s.2.2.2.2.2.1, ())))).bind fun r0 => some ((r0.1, ())) else some ((false, ()))) else some ((false, ())))
def zBv (s : (List Lk × Int × Int × Int × Int × List Lk × List Lk × Unit)) : Option ((List Lk × Int × Int × Int × Int × List Lk × List Lk × Unit) ⊕ ((Int × Int × List Lk × List Lk × Unit) ⊕ Unit)) := (bif decide ((s.2.2.1 < s.2.1)) then (bif inR s.2.2.1 (List.length s.1) then (zJ8 ((s.2.2.1, ((at! .lk s.1 (Int.toNat s.2.2.1)).a, ((at! .lk s.1 (Int.toNat s.2.2.1)).b, ((at! .lk s.1 (Int.toNat s.2.2.1)).c, ())))))).bind fun r0 => (bif r0.1 then (bif decide (((List.length s.2.2.2.2.2.2.1 + List.length ([(Lk.mk ((at! .lk s.1 (Int.toNat s.2.2.1)).a) ((at! .lk s.1 (Int.toNat s.2.2.1)).b) ((at! .lk s.1 (Int.toNat s.2.2.1)).c))])) ≤ (33554432 : Nat))) then some (Sum.inl ((s.1, s.2.1, wrap64 ((s.2.2.1 + (1 : Int))), s.2.2.2.1, s.2.2.2.2.1, s.2.2.2.2.2.1, (s.2.2.2.2.2.2.1 ++ [(Lk.mk ((at! .lk s.1 (Int.toNat s.2.2.1)).a) ((at! .lk s.1 (Int.toNat s.2.2.1)).b) ((at! .lk s.1 (Int.toNat s.2.2.1)).c))]), ()))) else none) else some (Sum.inl ((s.1, s.2.1, wrap64 ((s.2.2.1 + (1 : Int))), s.2.2.2.1, s.2.2.2.2.1, s.2.2.2.2.2.1, s.2.2.2.2.2.2.1, ())))) else none) else some (Sum.inr (Sum.inl ((s.2.2.2.1, s.2.2.2.2.1, s.2.2.2.2.2.1, s.2.2.2.2.2.2.1, ())))))
def zJJ (s : (Int × List Lk × Unit)) : Option (Int × List Lk × Unit) := (lp zBv fuel ((s.2.1, (nI (List.length s.2.1), ((0 : Int), ((0 : Int), (s.1, (([] : List Lk), (([] : List Lk), ()))))))))).bind fun r0 => (match r0 with | .inl x1 => some ((x1.2.1, x1.2.2.2.1, ())) | .inr _ => none)
def zBw (s : (Int × List Lk × List Bool × List Int × List (List Ls) × List Pk × List Lk × Int × Int × Int × Int × List Lk × List Lk × Unit)) : Option ((Int × List Lk × List Bool × List Int × List (List Ls) × List Pk × List Lk × Int × Int × Int × Int × List Lk × List Lk × Unit) ⊕ ((Int × Int × List Lk × List Lk × Unit) ⊕ Unit)) := (bif decide ((s.2.2.2.2.2.2.2.2.1 < s.2.2.2.2.2.2.2.1)) then (bif inR s.2.2.2.2.2.2.2.2.1 (List.length s.2.2.2.2.2.2.1) then (zJ3 ((s.2.2.2.2.2.2.2.2.1, ((at! .lk s.2.2.2.2.2.2.1 (Int.toNat s.2.2.2.2.2.2.2.2.1)).a, ((at! .lk s.2.2.2.2.2.2.1 (Int.toNat s.2.2.2.2.2.2.2.2.1)).b, ((at! .lk s.2.2.2.2.2.2.1 (Int.toNat s.2.2.2.2.2.2.2.2.1)).c, (s.1, (s.2.1, (s.2.2.1, (s.2.2.2.1, (s.2.2.2.2.1, (s.2.2.2.2.2.1, ())))))))))))).bind fun r0 => (bif r0.1 then (bif decide (((List.length s.2.2.2.2.2.2.2.2.2.2.2.2.1 + List.length ([(Lk.mk ((at! .lk s.2.2.2.2.2.2.1 (Int.toNat s.2.2.2.2.2.2.2.2.1)).a) ((at! .lk s.2.2.2.2.2.2.1 (Int.toNat s.2.2.2.2.2.2.2.2.1)).b) ((at! .lk s.2.2.2.2.2.2.1 (Int.toNat s.2.2.2.2.2.2.2.2.1)).c))])) ≤ (33554432 : Nat))) then some (Sum.inl ((s.1, s.2.1, s.2.2.1, s.2.2.2.1, s.2.2.2.2.1, s.2.2.2.2.2.1, s.2.2.2.2.2.2.1, s.2.2.2.2.2.2.2.1, wrap64 ((s.2.2.2.2.2.2.2.2.1 + (1 : Int))), s.2.2.2.2.2.2.2.2.2.1, s.2.2.2.2.2.2.2.2.2.2.1, s.2.2.2.2.2.2.2.2.2.2.2.1, (s.2.2.2.2.2.2.2.2.2.2.2.2.1 ++ [(Lk.mk ((at! .lk s.2.2.2.2.2.2.1 (Int.toNat s.2.2.2.2.2.2.2.2.1)).a) ((at! .lk s.2.2.2.2.2.2.1 (Int.toNat s.2.2.2.2.2.2.2.2.1)).b) ((at! .lk s.2.2.2.2.2.2.1 (Int.toNat s.2.2.2.2.2.2.2.2.1)).c))]), ()))) else none) else some (Sum.inl ((s.1, s.2.1, s.2.2.1, s.2.2.2.1, s.2.2.2.2.1, s.2.2.2.2.2.1, s.2.2.2.2.2.2.1, s.2.2.2.2.2.2.2.1, wrap64 ((s.2.2.2.2.2.2.2.2.1 + (1 : Int))), s.2.2.2.2.2.2.2.2.2.1, s.2.2.2.2.2.2.2.2.2.2.1, s.2.2.2.2.2.2.2.2.2.2.2.1, s.2.2.2.2.2.2.2.2.2.2.2.2.1, ())))) else none) else some (Sum.inr (Sum.inl ((s.2.2.2.2.2.2.2.2.2.1, s.2.2.2.2.2.2.2.2.2.2.1, s.2.2.2.2.2.2.2.2.2.2.2.1, s.2.2.2.2.2.2.2.2.2.2.2.2.1, ())))))
def zJK (s : (Int × List Lk × Int × List Lk × List Bool × List Int × List (List Ls) × List Pk × Unit)) : Option (Int × List Lk × Unit) := (lp zBw fuel ((s.2.2.1, (s.2.2.2.1, (s.2.2.2.2.1, (s.2.2.2.2.2.1, (s.2.2.2.2.2.2.1, (s.2.2.2.2.2.2.2.1, (s.2.1, (nI (List.length s.2.1), ((0 : Int), ((0 : Int), (s.1, (([] : List Lk), (([] : List Lk), ()))))))))))))))).bind fun r0 => (match r0 with | .inl x1 => some ((x1.2.1, x1.2.2.2.1, ())) | .inr _ => none)
def zJV (s : (Int × Int × List En × Int × Int × List En × Unit)) : Option (Bool × Unit) := (bif decide ((s.1 = s.2.2.2.1)) then (bif decide ((s.2.1 = s.2.2.2.2.1)) then (zKd ((s.1, (s.2.1, (s.2.2.1, (s.2.2.2.1, (s.2.2.2.2.1, (s.2.2.2.2.2.1, ())))))))).bind fun r0 => some (((!r0.1), ())) else some ((false, ()))) else some ((false, ())))
def zJ2 (s : (Int × List Lk × List Bool × List Int × List (List Ls) × List Pk × Unit)) : Option (Int × List Lk × Unit) := (zJK ((s.1, (s.2.1, (s.1, (s.2.1, (s.2.2.1, (s.2.2.2.1, (s.2.2.2.2.1, (s.2.2.2.2.2.1, ())))))))))).bind fun r0 => some ((r0.1, r0.2.1, ()))
def zCf (s : (Int × Int × Int × List Lk × List Bool × List Int × List (List Ls) × List Pk × Unit)) : Option ((Int × Int × Int × List Lk × List Bool × List Int × List (List Ls) × List Pk × Unit) ⊕ ((Int × Int × List Lk × List Bool × List Int × List (List Ls) × List Pk × Unit) ⊕ (Bool × Unit))) := (bif inR s.1 (List.length s.2.2.2.2.2.2.1) then (bif decide ((s.2.1 < nI (List.length (at! .db s.2.2.2.2.2.2.1 (Int.toNat s.1))))) then (bif inR s.1 (List.length s.2.2.2.2.2.2.1) then (bif inR s.2.1 (List.length (at! .db s.2.2.2.2.2.2.1 (Int.toNat s.1))) then (zKU ((s.2.2.1, (s.2.2.2.1, (s.2.2.2.2.1, (s.2.2.2.2.2.1, (s.2.2.2.2.2.2.1, (s.2.2.2.2.2.2.2.1, ((at! .ls (at! .db s.2.2.2.2.2.2.1 (Int.toNat s.1)) (Int.toNat s.2.1)).o, ((at! .ls (at! .db s.2.2.2.2.2.2.1 (Int.toNat s.1)) (Int.toNat s.2.1)).s, ((at! .ls (at! .db s.2.2.2.2.2.2.1 (Int.toNat s.1)) (Int.toNat s.2.1)).e, ()))))))))))).bind fun r0 => (bif (!r0.1) then some (Sum.inr (Sum.inr ((false, ())))) else some (Sum.inl ((s.1, wrap64 ((s.2.1 + (1 : Int))), s.2.2.1, s.2.2.2.1, s.2.2.2.2.1, s.2.2.2.2.2.1, s.2.2.2.2.2.2.1, s.2.2.2.2.2.2.2.1, ())))) else none) else none) else some (Sum.inr (Sum.inl ((s.1, s.2.2.1, s.2.2.2.1, s.2.2.2.2.1, s.2.2.2.2.2.1, s.2.2.2.2.2.2.1, s.2.2.2.2.2.2.2.1, ()))))) else none)
def zCe (s : (Int × Int × List Lk × List Bool × List Int × List (List Ls) × List Pk × Unit)) : Option ((Int × Int × List Lk × List Bool × List Int × List (List Ls) × List Pk × Unit) ⊕ ((Int × List Lk × List Bool × List Int × List (List Ls) × List Pk × Unit) ⊕ (Bool × Unit))) := (bif decide ((s.1 < s.2.1)) then (lp zCf fuel ((s.1, ((0 : Int), (s.2.1, (s.2.2.1, (s.2.2.2.1, (s.2.2.2.2.1, (s.2.2.2.2.2.1, (s.2.2.2.2.2.2.1, ())))))))))).bind fun r0 => (match r0 with | .inl x1 => (bif inR x1.1 (List.length x1.2.2.2.2.2.1) then (zKH ((at! .db x1.2.2.2.2.2.1 (Int.toNat x1.1), (x1.1, ())))).bind fun r2 => (bif (!r2.2.2.2.1) then some (Sum.inr (Sum.inr ((false, ())))) else (bif inR x1.1 (List.length x1.2.2.2.2.1) then (bif (!(decide ((r2.2.1 = at! .int x1.2.2.2.2.1 (Int.toNat x1.1))))) then some (Sum.inr (Sum.inr ((false, ())))) else some (Sum.inl ((wrap64 ((x1.1 + (1 : Int))), x1.2.1, x1.2.2.1, x1.2.2.2.1, x1.2.2.2.2.1, x1.2.2.2.2.2.1, x1.2.2.2.2.2.2.1, ())))) else none)) else none) | .inr y1 => some (Sum.inr (Sum.inr ((y1.1, ()))))) else some (Sum.inr (Sum.inl ((s.2.1, s.2.2.1, s.2.2.2.1, s.2.2.2.2.1, s.2.2.2.2.2.1, s.2.2.2.2.2.2.1, ())))))
def zCd (s : (Int × Int × List Lk × List Bool × List Int × List (List Ls) × List Pk × Unit)) : Option ((Int × Int × List Lk × List Bool × List Int × List (List Ls) × List Pk × Unit) ⊕ ((Unit) ⊕ (Bool × Unit))) := (bif decide ((s.1 < nI (List.length s.2.2.2.2.2.2.1))) then (bif inR s.1 (List.length s.2.2.2.2.2.2.1) then (zK2 (((at! .pk s.2.2.2.2.2.2.1 (Int.toNat s.1)).t, ((0 : Int), (wrap64 ((s.2.1 - (1 : Int))), ()))))).bind fun r0 => (bif (!r0.1) then some (Sum.inr (Sum.inr ((false, ())))) else (bif inR s.1 (List.length s.2.2.2.2.2.2.1) then (zKU ((s.2.1, (s.2.2.1, (s.2.2.2.1, (s.2.2.2.2.1, (s.2.2.2.2.2.1, (s.2.2.2.2.2.2.1, (((at! .pk s.2.2.2.2.2.2.1 (Int.toNat s.1)).p).o, (((at! .pk s.2.2.2.2.2.2.1 (Int.toNat s.1)).p).s, (((at! .pk s.2.2.2.2.2.2.1 (Int.toNat s.1)).p).e, ()))))))))))).bind fun r1 => (bif (!r1.1) then some (Sum.inr (Sum.inr ((false, ())))) else some (Sum.inl ((wrap64 ((s.1 + (1 : Int))), s.2.1, s.2.2.1, s.2.2.2.1, s.2.2.2.2.1, s.2.2.2.2.2.1, s.2.2.2.2.2.2.1, ())))) else none)) else none) else some (Sum.inr (Sum.inl (()))))
def zKF (s : (Int × List Lk × List Bool × List Int × List (List Ls) × List Pk × Unit)) : Option (Bool × Unit) := (zKY ((s.1, (s.2.1, (s.2.2.1, (s.2.2.2.1, (s.2.2.2.2.1, (s.2.2.2.2.2.1, ())))))))).bind fun r0 => (bif (!r0.1) then some ((false, ())) else (zKO ((s.1, (s.2.1, (s.2.2.1, (s.2.2.2.1, (s.2.2.2.2.1, (s.2.2.2.2.2.1, ())))))))).bind fun r1 => (zKW ((r1.1, ()))).bind fun r2 => (bif (!r2.1) then some ((false, ())) else (lp zCe fuel (((0 : Int), (s.1, (s.2.1, (s.2.2.1, (s.2.2.2.1, (s.2.2.2.2.1, (s.2.2.2.2.2.1, ()))))))))).bind fun r3 => (match r3 with | .inl x4 => (lp zCd fuel (((0 : Int), (x4.1, (x4.2.1, (x4.2.2.1, (x4.2.2.2.1, (x4.2.2.2.2.1, (x4.2.2.2.2.2.1, ()))))))))).bind fun r5 => (match r5 with | .inl _ => some ((true, ())) | .inr y6 => some ((y6.1, ()))) | .inr y4 => some ((y4.1, ())))))
def zB5 (s : (List Ls × Int × Int × List En × Int × Int × Unit)) : Option ((List Ls × Int × Int × List En × Int × Int × Unit) ⊕ ((Unit) ⊕ (Int × Unit))) := (bif decide ((s.2.2.2.2.2.1 < s.2.2.2.2.1)) then (bif inR s.2.2.2.2.2.1 (List.length s.1) then (zJV (((at! .ls s.1 (Int.toNat s.2.2.2.2.2.1)).o, ((at! .ls s.1 (Int.toNat s.2.2.2.2.2.1)).s, ((at! .ls s.1 (Int.toNat s.2.2.2.2.2.1)).e, (s.2.1, (s.2.2.1, (s.2.2.2.1, ())))))))).bind fun r0 => (bif r0.1 then some (Sum.inr (Sum.inr ((s.2.2.2.2.2.1, ())))) else some (Sum.inl ((s.1, s.2.1, s.2.2.1, s.2.2.2.1, s.2.2.2.2.1, wrap64 ((s.2.2.2.2.2.1 + (1 : Int))), ())))) else none) else some (Sum.inr (Sum.inl (()))))
def zKv (s : (List Ls × Int × Int × List En × Unit)) : Option (Int × Unit) := (lp zB5 fuel ((s.1, (s.2.1, (s.2.2.1, (s.2.2.2.1, (nI (List.length s.1), ((0 : Int), ())))))))).bind fun r0 => (match r0 with | .inl _ => some (((-((1 : Int))), ())) | .inr y1 => some ((y1.1, ())))
def zKr (s : (List Ls × Int × Int × List En × Unit)) : Option (Bool × Unit) := (zKv ((s.1, (s.2.1, (s.2.2.1, (s.2.2.2.1, ())))))).bind fun r0 => some ((decide (((0 : Int) ≤ r0.1)), ()))
def zBN (s : (List En × Int × Int × Int × List Lk × List Bool × List Int × List (List Ls) × List Pk × Int × Int × List En × Unit)) : Option ((List En × Int × Int × Int × List Lk × List Bool × List Int × List (List Ls) × List Pk × Int × Int × List En × Unit) ⊕ ((Int × List Lk × List Bool × List Int × List (List Ls) × List Pk × Int × Int × List En × Unit) ⊕ (Bool × Unit))) := (bif decide ((s.2.2.1 < s.2.1)) then (bif inR s.2.2.1 (List.length s.1) then (zJL ((s.2.2.2.1, (s.2.2.2.2.1, (s.2.2.2.2.2.2.2.2.2.1, ((at! .en s.1 (Int.toNat s.2.2.1)).n, ())))))).bind fun r0 => (bif decide ((r0.1 < (0 : Int))) then some (Sum.inr (Sum.inr ((false, ())))) else (bif inR r0.1 (List.length s.2.2.2.2.1) then (bif (!(decide (((at! .lk s.2.2.2.2.1 (Int.toNat r0.1)).c = (at! .en s.1 (Int.toNat s.2.2.1)).c)))) then some (Sum.inr (Sum.inr ((false, ())))) else some (Sum.inl ((s.1, s.2.1, wrap64 ((s.2.2.1 + (1 : Int))), s.2.2.2.1, s.2.2.2.2.1, s.2.2.2.2.2.1, s.2.2.2.2.2.2.1, s.2.2.2.2.2.2.2.1, s.2.2.2.2.2.2.2.2.1, s.2.2.2.2.2.2.2.2.2.1, s.2.2.2.2.2.2.2.2.2.2.1, s.2.2.2.2.2.2.2.2.2.2.2.1, ())))) else none)) else none) else some (Sum.inr (Sum.inl ((s.2.2.2.1, s.2.2.2.2.1, s.2.2.2.2.2.1, s.2.2.2.2.2.2.1, s.2.2.2.2.2.2.2.1, s.2.2.2.2.2.2.2.2.1, s.2.2.2.2.2.2.2.2.2.1, s.2.2.2.2.2.2.2.2.2.2.1, s.2.2.2.2.2.2.2.2.2.2.2.1, ())))))
def zJ0 (s : (Int × List Lk × List Bool × List Int × List (List Ls) × List Pk × Int × Int × List En × Unit)) : Option (Bool × Unit) := (zJQ ((s.2.2.2.2.2.2.1, (s.2.2.2.2.2.2.2.1, (s.2.2.2.2.2.2.2.2.1, ()))))).bind fun r0 => (bif (!r0.1) then some ((false, ())) else (bif decide ((s.1 ≤ s.2.2.2.2.2.2.1)) then some ((false, ())) else (bif inR s.2.2.2.2.2.2.1 (List.length s.2.2.2.1) then (bif decide ((at! .int s.2.2.2.1 (Int.toNat s.2.2.2.2.2.2.1) < s.2.2.2.2.2.2.2.1)) then some ((false, ())) else (lp zBN fuel ((s.2.2.2.2.2.2.2.2.1, (nI (List.length s.2.2.2.2.2.2.2.2.1), ((0 : Int), (s.1, (s.2.1, (s.2.2.1, (s.2.2.2.1, (s.2.2.2.2.1, (s.2.2.2.2.2.1, (s.2.2.2.2.2.2.1, (s.2.2.2.2.2.2.2.1, (s.2.2.2.2.2.2.2.2.1, ())))))))))))))).bind fun r1 => (match r1 with | .inl x2 => (bif inR x2.2.2.2.2.2.2.1 (List.length x2.2.2.2.1) then (bif decide ((x2.2.2.2.2.2.2.2.1 < at! .int x2.2.2.2.1 (Int.toNat x2.2.2.2.2.2.2.1))) then some ((true, ())) else (zJ2 ((x2.1, (x2.2.1, (x2.2.2.1, (x2.2.2.2.1, (x2.2.2.2.2.1, (x2.2.2.2.2.2.1, ())))))))).bind fun r3 => (zJN ((r3.1, (r3.2.1, (x2.2.2.2.2.2.2.1, (x2.2.2.2.2.2.2.2.1, ())))))).bind fun r4 => (zKd ((x2.2.2.2.2.2.2.1, (x2.2.2.2.2.2.2.2.1, (x2.2.2.2.2.2.2.2.2.1, (r4.1, (r4.2.1, (r4.2.2.1, ())))))))).bind fun r5 => some ((r5.1, ()))) else none) | .inr y2 => some ((y2.1, ())))) else none)))
def zKc (s : (List Ls × Int × Int × List En × Unit)) : Option (Int × List Ls × Unit) := (zJ5 ((s.1, ()))).bind fun r0 => (zJ9 ((r0.1, (s.2.1, ())))).bind fun r1 => (bif r1.2.1 then (bif inR r1.1 (List.length r0.1) then (bif decide (((at! .ls r0.1 (Int.toNat r1.1)).s = s.2.2.1)) then some (((1 : Int), r0.1, ())) else (bif r1.2.1 then (bif inR r1.1 (List.length r0.1) then (bif decide ((s.2.2.1 < (at! .ls r0.1 (Int.toNat r1.1)).s)) then some (((2 : Int), r0.1, ())) else (bif r1.2.1 then (zJ6 ((s.2.1, (s.2.2.1, (s.2.2.2.1, ()))))).bind fun r2 => (bif inR r1.1 (List.length r0.1) then some (((0 : Int), List.set r0.1 (Int.toNat r1.1) ((Ls.mk r2.1 r2.2.1 r2.2.2.1)), ())) else none) else (zJ6 ((s.2.1, (s.2.2.1, (s.2.2.2.1, ()))))).bind fun r3 => (zKw ((r1.1, (r0.1, ([(Ls.mk r3.1 r3.2.1 r3.2.2.1)], ()))))).bind fun r4 => some (((0 : Int), r4.1, ())))) else none) else (bif r1.2.1 then (zJ6 ((s.2.1, (s.2.2.1, (s.2.2.2.1, ()))))).bind fun r5 => (bif inR r1.1 (List.length r0.1) then some (((0 : Int), List.set r0.1 (Int.toNat r1.1) ((Ls.mk r5.1 r5.2.1 r5.2.2.1)), ())) else none) else (zJ6 ((s.2.1, (s.2.2.1, (s.2.2.2.1, ()))))).bind fun r6 => (zKw ((r1.1, (r0.1, ([(Ls.mk r6.1 r6.2.1 r6.2.2.1)], ()))))).bind fun r7 => some (((0 : Int), r7.1, ()))))) else none) else (bif r1.2.1 then (bif inR r1.1 (List.length r0.1) then (bif decide ((s.2.2.1 < (at! .ls r0.1 (Int.toNat r1.1)).s)) then some (((2 : Int), r0.1, ())) else (bif r1.2.1 then (zJ6 ((s.2.1, (s.2.2.1, (s.2.2.2.1, ()))))).bind fun r8 => (bif inR r1.1 (List.length r0.1) then some (((0 : Int), List.set r0.1 (Int.toNat r1.1) ((Ls.mk r8.1 r8.2.1 r8.2.2.1)), ())) else none) else (zJ6 ((s.2.1, (s.2.2.1, (s.2.2.2.1, ()))))).bind fun r9 => (zKw ((r1.1, (r0.1, ([(Ls.mk r9.1 r9.2.1 r9.2.2.1)], ()))))).bind fun r10 => some (((0 : Int), r10.1, ())))) else none) else (bif r1.2.1 then (zJ6 ((s.2.1, (s.2.2.1, (s.2.2.2.1, ()))))).bind fun r11 => (bif inR r1.1 (List.length r0.1) then some (((0 : Int), List.set r0.1 (Int.toNat r1.1) ((Ls.mk r11.1 r11.2.1 r11.2.2.1)), ())) else none) else (zJ6 ((s.2.1, (s.2.2.1, (s.2.2.2.1, ()))))).bind fun r12 => (zKw ((r1.1, (r0.1, ([(Ls.mk r12.1 r12.2.1 r12.2.2.1)], ()))))).bind fun r13 => some (((0 : Int), r13.1, ())))))
def zBR (s : (Int × List Lk × List Bool × List Int × List (List Ls) × List Pk × Int × List Lk × List Bool × List Int × List (List Ls) × List Pk × Unit)) : Option ((Int × List Lk × List Bool × List Int × List (List Ls) × List Pk × Int × List Lk × List Bool × List Int × List (List Ls) × List Pk × Int × List Lk × List Bool × List Int × List (List Ls) × List Pk × Unit) ⊕ Unit) := (zJJ ((s.1, (s.2.1, ())))).bind fun r0 => (zKo ((s.2.2.1, ()))).bind fun r1 => (zKq ((s.2.2.2.1, ()))).bind fun r2 => some (Sum.inl ((s.1, s.2.1, s.2.2.1, s.2.2.2.1, s.2.2.2.2.1, s.2.2.2.2.2.1, s.2.2.2.2.2.2.1, s.2.2.2.2.2.2.2.1, s.2.2.2.2.2.2.2.2.1, s.2.2.2.2.2.2.2.2.2.1, s.2.2.2.2.2.2.2.2.2.2.1, s.2.2.2.2.2.2.2.2.2.2.2.1, r0.1, r0.2.1, r1.1, r2.1, ([] : List (List Ls)), ([] : List Pk), ())))
def zBS (s : (List (List Ls) × Int × Int × Int × List Lk × List Bool × List Int × List (List Ls) × List Pk × Int × List Lk × List Bool × List Int × List (List Ls) × List Pk × Int × List Lk × List Bool × List Int × List (List Ls) × List Pk × Unit)) : Option ((List (List Ls) × Int × Int × Int × List Lk × List Bool × List Int × List (List Ls) × List Pk × Int × List Lk × List Bool × List Int × List (List Ls) × List Pk × Int × List Lk × List Bool × List Int × List (List Ls) × List Pk × Unit) ⊕ ((Int × List Lk × List Bool × List Int × List (List Ls) × List Pk × Int × List Lk × List Bool × List Int × List (List Ls) × List Pk × Int × List Lk × List Bool × List Int × List (List Ls) × List Pk × Unit) ⊕ Unit)) := (bif decide ((s.2.2.1 < s.2.1)) then (bif inR s.2.2.1 (List.length s.1) then (zJ5 ((at! .db s.1 (Int.toNat s.2.2.1), ()))).bind fun r0 => (bif decide (((List.length s.2.2.2.2.2.2.2.2.2.2.2.2.2.2.2.2.2.2.2.1 + List.length ([r0.1])) ≤ (33554432 : Nat))) then some (Sum.inl ((s.1, s.2.1, wrap64 ((s.2.2.1 + (1 : Int))), s.2.2.2.1, s.2.2.2.2.1, s.2.2.2.2.2.1, s.2.2.2.2.2.2.1, s.2.2.2.2.2.2.2.1, s.2.2.2.2.2.2.2.2.1, s.2.2.2.2.2.2.2.2.2.1, s.2.2.2.2.2.2.2.2.2.2.1, s.2.2.2.2.2.2.2.2.2.2.2.1, s.2.2.2.2.2.2.2.2.2.2.2.2.1, s.2.2.2.2.2.2.2.2.2.2.2.2.2.1, s.2.2.2.2.2.2.2.2.2.2.2.2.2.2.1, s.2.2.2.2.2.2.2.2.2.2.2.2.2.2.2.1, s.2.2.2.2.2.2.2.2.2.2.2.2.2.2.2.2.1, s.2.2.2.2.2.2.2.2.2.2.2.2.2.2.2.2.2.1, s.2.2.2.2.2.2.2.2.2.2.2.2.2.2.2.2.2.2.1, (s.2.2.2.2.2.2.2.2.2.2.2.2.2.2.2.2.2.2.2.1 ++ [r0.1]), s.2.2.2.2.2.2.2.2.2.2.2.2.2.2.2.2.2.2.2.2.1, ()))) else none) else none) else some (Sum.inr (Sum.inl ((s.2.2.2.1, s.2.2.2.2.1, s.2.2.2.2.2.1, s.2.2.2.2.2.2.1, s.2.2.2.2.2.2.2.1, s.2.2.2.2.2.2.2.2.1, s.2.2.2.2.2.2.2.2.2.1, s.2.2.2.2.2.2.2.2.2.2.1, s.2.2.2.2.2.2.2.2.2.2.2.1, s.2.2.2.2.2.2.2.2.2.2.2.2.1, s.2.2.2.2.2.2.2.2.2.2.2.2.2.1, s.2.2.2.2.2.2.2.2.2.2.2.2.2.2.1, s.2.2.2.2.2.2.2.2.2.2.2.2.2.2.2.1, s.2.2.2.2.2.2.2.2.2.2.2.2.2.2.2.2.1, s.2.2.2.2.2.2.2.2.2.2.2.2.2.2.2.2.2.1, s.2.2.2.2.2.2.2.2.2.2.2.2.2.2.2.2.2.2.1, s.2.2.2.2.2.2.2.2.2.2.2.2.2.2.2.2.2.2.2.1, s.2.2.2.2.2.2.2.2.2.2.2.2.2.2.2.2.2.2.2.2.1, ())))))
def zBT (s : (List Pk × Int × Int × Int × List Lk × List Bool × List Int × List (List Ls) × List Pk × Int × List Lk × List Bool × List Int × List (List Ls) × List Pk × Unit)) : Option ((List Pk × Int × Int × Int × List Lk × List Bool × List Int × List (List Ls) × List Pk × Int × List Lk × List Bool × List Int × List (List Ls) × List Pk × Unit) ⊕ ((Int × List Lk × List Bool × List Int × List (List Ls) × List Pk × Int × List Lk × List Bool × List Int × List (List Ls) × List Pk × Unit) ⊕ Unit)) := (bif decide ((s.2.2.1 < s.2.1)) then (bif inR s.2.2.1 (List.length s.1) then (zJ6 ((((at! .pk s.1 (Int.toNat s.2.2.1)).p).o, (((at! .pk s.1 (Int.toNat s.2.2.1)).p).s, (((at! .pk s.1 (Int.toNat s.2.2.1)).p).e, ()))))).bind fun r0 => (bif decide (((List.length s.2.2.2.2.2.2.2.2.2.2.2.2.2.2.1 + List.length ([(Pk.mk ((at! .pk s.1 (Int.toNat s.2.2.1)).t) ((Ls.mk r0.1 r0.2.1 r0.2.2.1)))])) ≤ (33554432 : Nat))) then some (Sum.inl ((s.1, s.2.1, wrap64 ((s.2.2.1 + (1 : Int))), s.2.2.2.1, s.2.2.2.2.1, s.2.2.2.2.2.1, s.2.2.2.2.2.2.1, s.2.2.2.2.2.2.2.1, s.2.2.2.2.2.2.2.2.1, s.2.2.2.2.2.2.2.2.2.1, s.2.2.2.2.2.2.2.2.2.2.1, s.2.2.2.2.2.2.2.2.2.2.2.1, s.2.2.2.2.2.2.2.2.2.2.2.2.1, s.2.2.2.2.2.2.2.2.2.2.2.2.2.1, (s.2.2.2.2.2.2.2.2.2.2.2.2.2.2.1 ++ [(Pk.mk ((at! .pk s.1 (Int.toNat s.2.2.1)).t) ((Ls.mk r0.1 r0.2.1 r0.2.2.1)))]), ()))) else none) else none) else some (Sum.inr (Sum.inl ((s.2.2.2.1, s.2.2.2.2.1, s.2.2.2.2.2.1, s.2.2.2.2.2.2.1, s.2.2.2.2.2.2.2.1, s.2.2.2.2.2.2.2.2.1, s.2.2.2.2.2.2.2.2.2.1, s.2.2.2.2.2.2.2.2.2.2.1, s.2.2.2.2.2.2.2.2.2.2.2.1, s.2.2.2.2.2.2.2.2.2.2.2.2.1, s.2.2.2.2.2.2.2.2.2.2.2.2.2.1, s.2.2.2.2.2.2.2.2.2.2.2.2.2.2.1, ())))))
def zJ7 (s : (Int × List Lk × List Bool × List Int × List (List Ls) × List Pk × Unit)) : Option (Int × List Lk × List Bool × List Int × List (List Ls) × List Pk × Unit) := (zBR ((s.1, (s.2.1, (s.2.2.1, (s.2.2.2.1, (s.2.2.2.2.1, (s.2.2.2.2.2.1, ((0 : Int), (([] : List Lk), (([] : List Bool), (([] : List Int), (([] : List (List Ls)), (([] : List Pk), ())))))))))))))).bind fun r0 => (match r0 with | .inl x1 => (lp zBS fuel ((x1.2.2.2.2.1, (nI (List.length x1.2.2.2.2.1), ((0 : Int), (x1.1, (x1.2.1, (x1.2.2.1, (x1.2.2.2.1, (x1.2.2.2.2.1, (x1.2.2.2.2.2.1, (x1.2.2.2.2.2.2.1, (x1.2.2.2.2.2.2.2.1, (x1.2.2.2.2.2.2.2.2.1, (x1.2.2.2.2.2.2.2.2.2.1, (x1.2.2.2.2.2.2.2.2.2.2.1, (x1.2.2.2.2.2.2.2.2.2.2.2.1, (x1.2.2.2.2.2.2.2.2.2.2.2.2.1, (x1.2.2.2.2.2.2.2.2.2.2.2.2.2.1, (x1.2.2.2.2.2.2.2.2.2.2.2.2.2.2.1, (x1.2.2.2.2.2.2.2.2.2.2.2.2.2.2.2.1, (x1.2.2.2.2.2.2.2.2.2.2.2.2.2.2.2.2.1, (x1.2.2.2.2.2.2.2.2.2.2.2.2.2.2.2.2.2.1, ()))))))))))))))))))))))).bind fun r2 => (match r2 with | .inl x3 => (lp zBT fuel ((x3.2.2.2.2.2.1, (nI (List.length x3.2.2.2.2.2.1), ((0 : Int), (x3.2.2.2.2.2.2.1, (x3.2.2.2.2.2.2.2.1, (x3.2.2.2.2.2.2.2.2.1, (x3.2.2.2.2.2.2.2.2.2.1, (x3.2.2.2.2.2.2.2.2.2.2.1, (x3.2.2.2.2.2.2.2.2.2.2.2.1, (x3.2.2.2.2.2.2.2.2.2.2.2.2.1, (x3.2.2.2.2.2.2.2.2.2.2.2.2.2.1, (x3.2.2.2.2.2.2.2.2.2.2.2.2.2.2.1, (x3.2.2.2.2.2.2.2.2.2.2.2.2.2.2.2.1, (x3.2.2.2.2.2.2.2.2.2.2.2.2.2.2.2.2.1, (x3.2.2.2.2.2.2.2.2.2.2.2.2.2.2.2.2.2.1, ()))))))))))))))))).bind fun r4 => (match r4 with | .inl x5 => some ((x5.2.2.2.2.2.2.1, x5.2.2.2.2.2.2.2.1, x5.2.2.2.2.2.2.2.2.1, x5.2.2.2.2.2.2.2.2.2.1, x5.2.2.2.2.2.2.2.2.2.2.1, x5.2.2.2.2.2.2.2.2.2.2.2.1, ())) | .inr _ => none) | .inr _ => none) | .inr _ => none)
def zCc (s : (Int × Int × List Lk × Int × List Lk × List Bool × List Int × List (List Ls) × List Pk × List Ls × Int × List Lk × List Bool × List Int × List (List Ls) × List Pk × Unit)) : Option ((Int × Int × List Lk × Int × List Lk × List Bool × List Int × List (List Ls) × List Pk × List Ls × Int × List Lk × List Bool × List Int × List (List Ls) × List Pk × Unit) ⊕ ((Int × List Lk × Int × List Lk × List Bool × List Int × List (List Ls) × List Pk × List Ls × Int × List Lk × List Bool × List Int × List (List Ls) × List Pk × Unit) ⊕ Unit)) := (bif decide ((s.1 < s.2.1)) then (zKJ ((s.2.1, (s.2.2.1, (s.1, ((1 : Int), ())))))).bind fun r0 => (bif decide (((List.length s.2.2.2.2.2.2.2.2.2.1 + List.length ([(Ls.mk r0.1 r0.2.1 r0.2.2.1)])) ≤ (33554432 : Nat))) then (bif decide (((List.length s.2.2.2.2.2.2.2.2.2.2.2.2.2.1 + List.length ([(1 : Int)])) ≤ (33554432 : Nat))) then some (Sum.inl ((wrap64 ((s.1 + (1 : Int))), s.2.1, s.2.2.1, s.2.2.2.1, s.2.2.2.2.1, s.2.2.2.2.2.1, s.2.2.2.2.2.2.1, s.2.2.2.2.2.2.2.1, s.2.2.2.2.2.2.2.2.1, (s.2.2.2.2.2.2.2.2.2.1 ++ [(Ls.mk r0.1 r0.2.1 r0.2.2.1)]), s.2.2.2.2.2.2.2.2.2.2.1, s.2.2.2.2.2.2.2.2.2.2.2.1, s.2.2.2.2.2.2.2.2.2.2.2.2.1, (s.2.2.2.2.2.2.2.2.2.2.2.2.2.1 ++ [(1 : Int)]), s.2.2.2.2.2.2.2.2.2.2.2.2.2.2.1, s.2.2.2.2.2.2.2.2.2.2.2.2.2.2.2.1, ()))) else none) else none) else some (Sum.inr (Sum.inl ((s.2.1, s.2.2.1, s.2.2.2.1, s.2.2.2.2.1, s.2.2.2.2.2.1, s.2.2.2.2.2.2.1, s.2.2.2.2.2.2.2.1, s.2.2.2.2.2.2.2.2.1, s.2.2.2.2.2.2.2.2.2.1, s.2.2.2.2.2.2.2.2.2.2.1, s.2.2.2.2.2.2.2.2.2.2.2.1, s.2.2.2.2.2.2.2.2.2.2.2.2.1, s.2.2.2.2.2.2.2.2.2.2.2.2.2.1, s.2.2.2.2.2.2.2.2.2.2.2.2.2.2.1, s.2.2.2.2.2.2.2.2.2.2.2.2.2.2.2.1, ())))))
def zCa (s : (Int × Int × List Lk × Int × List Lk × List Bool × List Int × List (List Ls) × List Pk × List Ls × Int × List Lk × List Bool × List Int × List (List Ls) × List Pk × Unit)) : Option ((Int × Int × List Lk × Int × List Lk × List Bool × List Int × List (List Ls) × List Pk × List Ls × Int × List Lk × List Bool × List Int × List (List Ls) × List Pk × Unit) ⊕ ((Int × List Lk × Int × List Lk × List Bool × List Int × List (List Ls) × List Pk × Int × List Lk × List Bool × List Int × List (List Ls) × List Pk × Unit) ⊕ Unit)) := (bif decide ((s.1 < s.2.1)) then (zKG ((s.2.2.2.2.2.2.2.2.2.1, ()))).bind fun r0 => (bif decide (((List.length s.2.2.2.2.2.2.2.2.2.2.2.2.2.2.1 + List.length ([r0.1])) ≤ (33554432 : Nat))) then some (Sum.inl ((wrap64 ((s.1 + (1 : Int))), s.2.1, s.2.2.1, s.2.2.2.1, s.2.2.2.2.1, s.2.2.2.2.2.1, s.2.2.2.2.2.2.1, s.2.2.2.2.2.2.2.1, s.2.2.2.2.2.2.2.2.1, s.2.2.2.2.2.2.2.2.2.1, s.2.2.2.2.2.2.2.2.2.2.1, s.2.2.2.2.2.2.2.2.2.2.2.1, s.2.2.2.2.2.2.2.2.2.2.2.2.1, s.2.2.2.2.2.2.2.2.2.2.2.2.2.1, (s.2.2.2.2.2.2.2.2.2.2.2.2.2.2.1 ++ [r0.1]), s.2.2.2.2.2.2.2.2.2.2.2.2.2.2.2.1, ()))) else none) else some (Sum.inr (Sum.inl ((s.2.1, s.2.2.1, s.2.2.2.1, s.2.2.2.2.1, s.2.2.2.2.2.1, s.2.2.2.2.2.2.1, s.2.2.2.2.2.2.2.1, s.2.2.2.2.2.2.2.2.1, s.2.2.2.2.2.2.2.2.2.2.1, s.2.2.2.2.2.2.2.2.2.2.2.1, s.2.2.2.2.2.2.2.2.2.2.2.2.1, s.2.2.2.2.2.2.2.2.2.2.2.2.2.1, s.2.2.2.2.2.2.2.2.2.2.2.2.2.2.1, s.2.2.2.2.2.2.2.2.2.2.2.2.2.2.2.1, ())))))
def zCb (s : (Int × Int × List Lk × Int × List Lk × List Bool × List Int × List (List Ls) × List Pk × Int × List Lk × List Bool × List Int × List (List Ls) × List Pk × Unit)) : Option ((Int × Int × List Lk × Int × List Lk × List Bool × List Int × List (List Ls) × List Pk × Int × List Lk × List Bool × List Int × List (List Ls) × List Pk × Unit) ⊕ ((Int × List Lk × List Bool × List Int × List (List Ls) × List Pk × Int × List Lk × List Bool × List Int × List (List Ls) × List Pk × Unit) ⊕ Unit)) := (bif decide ((s.1 < nI (List.length s.2.2.1))) then (bif decide (((List.length s.2.2.2.2.2.2.2.2.2.2.2.1 + List.length ([true])) ≤ (33554432 : Nat))) then some (Sum.inl ((wrap64 ((s.1 + (1 : Int))), s.2.1, s.2.2.1, s.2.2.2.1, s.2.2.2.2.1, s.2.2.2.2.2.1, s.2.2.2.2.2.2.1, s.2.2.2.2.2.2.2.1, s.2.2.2.2.2.2.2.2.1, s.2.2.2.2.2.2.2.2.2.1, s.2.2.2.2.2.2.2.2.2.2.1, (s.2.2.2.2.2.2.2.2.2.2.2.1 ++ [true]), s.2.2.2.2.2.2.2.2.2.2.2.2.1, s.2.2.2.2.2.2.2.2.2.2.2.2.2.1, s.2.2.2.2.2.2.2.2.2.2.2.2.2.2.1, ()))) else none) else some (Sum.inr (Sum.inl ((s.2.2.2.1, s.2.2.2.2.1, s.2.2.2.2.2.1, s.2.2.2.2.2.2.1, s.2.2.2.2.2.2.2.1, s.2.2.2.2.2.2.2.2.1, s.2.2.2.2.2.2.2.2.2.1, s.2.2.2.2.2.2.2.2.2.2.1, s.2.2.2.2.2.2.2.2.2.2.2.1, s.2.2.2.2.2.2.2.2.2.2.2.2.1, s.2.2.2.2.2.2.2.2.2.2.2.2.2.1, s.2.2.2.2.2.2.2.2.2.2.2.2.2.2.1, ())))))
def zKE (s : (Int × List Lk × Unit)) : Option (Int × Bool × List Lk × List Bool × List Int × List (List Ls) × List Pk × Unit) := (zKC ((s.1, (s.2.1, ())))).bind fun r0 => (bif (!r0.1) then some (((0 : Int), false, ([] : List Lk), ([] : List Bool), ([] : List Int), ([] : List (List Ls)), ([] : List Pk), ())) else (zKM ((s.1, (s.2.1, ())))).bind fun r1 => (lp zCc fuel (((0 : Int), (s.1, (s.2.1, ((0 : Int), (([] : List Lk), (([] : List Bool), (([] : List Int), (([] : List (List Ls)), (([] : List Pk), (([] : List Ls), (r1.1, (r1.2.1, (([] : List Bool), (([] : List Int), (([] : List (List Ls)), (([] : List Pk), ())))))))))))))))))).bind fun r2 => (match r2 with | .inl x3 => (lp zCa fuel (((0 : Int), (x3.1, (x3.2.1, (x3.2.2.1, (x3.2.2.2.1, (x3.2.2.2.2.1, (x3.2.2.2.2.2.1, (x3.2.2.2.2.2.2.1, (x3.2.2.2.2.2.2.2.1, (x3.2.2.2.2.2.2.2.2.1, (x3.2.2.2.2.2.2.2.2.2.1, (x3.2.2.2.2.2.2.2.2.2.2.1, (x3.2.2.2.2.2.2.2.2.2.2.2.1, (x3.2.2.2.2.2.2.2.2.2.2.2.2.1, (x3.2.2.2.2.2.2.2.2.2.2.2.2.2.1, (x3.2.2.2.2.2.2.2.2.2.2.2.2.2.2.1, ())))))))))))))))))).bind fun r4 => (match r4 with | .inl x5 => (lp zCb fuel (((0 : Int), (x5.1, (x5.2.1, (x5.2.2.1, (x5.2.2.2.1, (x5.2.2.2.2.1, (x5.2.2.2.2.2.1, (x5.2.2.2.2.2.2.1, (x5.2.2.2.2.2.2.2.1, (x5.2.2.2.2.2.2.2.2.1, (x5.2.2.2.2.2.2.2.2.2.1, (x5.2.2.2.2.2.2.2.2.2.2.1, (x5.2.2.2.2.2.2.2.2.2.2.2.1, (x5.2.2.2.2.2.2.2.2.2.2.2.2.1, (x5.2.2.2.2.2.2.2.2.2.2.2.2.2.1, ()))))))))))))))))).bind fun r6 => (match r6 with | .inl x7 => some ((x7.2.2.2.2.2.2.1, true, x7.2.2.2.2.2.2.2.1, x7.2.2.2.2.2.2.2.2.1, x7.2.2.2.2.2.2.2.2.2.1, x7.2.2.2.2.2.2.2.2.2.2.1, x7.2.2.2.2.2.2.2.2.2.2.2.1, ())) | .inr _ => none) | .inr _ => none) | .inr _ => none))
def zCl (s : (List Ls × Int × Int × Int × List En × List Ls × Unit)) : Option ((List Ls × Int × Int × Int × List En × List Ls × Unit) ⊕ ((List Ls × Int × Int × List En × List Ls × Unit) ⊕ Unit)) := (bif decide ((s.2.1 < nI (List.length s.1))) then (bif inR s.2.1 (List.length s.1) then (bif decide (((at! .ls s.1 (Int.toNat s.2.1)).o < s.2.2.1)) then (bif inR s.2.1 (List.length s.1) then (zKK (((at! .ls s.1 (Int.toNat s.2.1)).o, ((at! .ls s.1 (Int.toNat s.2.1)).s, ((at! .ls s.1 (Int.toNat s.2.1)).e, ()))))).bind fun r0 => (bif decide (((List.length s.2.2.2.2.2.1 + List.length ([(Ls.mk r0.1 r0.2.1 r0.2.2.1)])) ≤ (33554432 : Nat))) then some (Sum.inl ((s.1, wrap64 ((s.2.1 + (1 : Int))), s.2.2.1, s.2.2.2.1, s.2.2.2.2.1, (s.2.2.2.2.2.1 ++ [(Ls.mk r0.1 r0.2.1 r0.2.2.1)]), ()))) else none) else none) else some (Sum.inr (Sum.inl ((s.1, s.2.2.1, s.2.2.2.1, s.2.2.2.2.1, s.2.2.2.2.2.1, ()))))) else none) else some (Sum.inr (Sum.inl ((s.1, s.2.2.1, s.2.2.2.1, s.2.2.2.2.1, s.2.2.2.2.2.1, ())))))
def zCk (s : (List Ls × Int × Int × Int × List En × List Ls × Unit)) : Option ((List Ls × Int × Int × Int × List En × List Ls × Unit) ⊕ ((List Ls × Unit) ⊕ Unit)) := (bif decide ((s.2.1 < nI (List.length s.1))) then (bif inR s.2.1 (List.length s.1) then (bif decide ((s.2.2.1 < (at! .ls s.1 (Int.toNat s.2.1)).o)) then (bif inR s.2.1 (List.length s.1) then (zKK (((at! .ls s.1 (Int.toNat s.2.1)).o, ((at! .ls s.1 (Int.toNat s.2.1)).s, ((at! .ls s.1 (Int.toNat s.2.1)).e, ()))))).bind fun r0 => (bif decide (((List.length s.2.2.2.2.2.1 + List.length ([(Ls.mk r0.1 r0.2.1 r0.2.2.1)])) ≤ (33554432 : Nat))) then some (Sum.inl ((s.1, wrap64 ((s.2.1 + (1 : Int))), s.2.2.1, s.2.2.2.1, s.2.2.2.2.1, (s.2.2.2.2.2.1 ++ [(Ls.mk r0.1 r0.2.1 r0.2.2.1)]), ()))) else none) else none) else some (Sum.inl ((s.1, wrap64 ((s.2.1 + (1 : Int))), s.2.2.1, s.2.2.2.1, s.2.2.2.2.1, s.2.2.2.2.2.1, ())))) else none) else some (Sum.inr (Sum.inl ((s.2.2.2.2.2.1, ())))))
def zKL (s : (List Ls × Int × Int × List En × Unit)) : Option (Int × List Ls × Unit) := (zKH ((s.1, (s.2.1, ())))).bind fun r0 => (bif r0.2.2.2.1 then (bif decide ((r0.2.1 = s.2.2.1)) then (zKG ((s.1, ()))).bind fun r1 => some (((1 : Int), r1.1, ())) else (bif r0.2.2.2.1 then (bif decide ((s.2.2.1 < r0.2.1)) then (zKG ((s.1, ()))).bind fun r2 => some (((2 : Int), r2.1, ())) else (lp zCl fuel ((s.1, ((0 : Int), (s.2.1, (s.2.2.1, (s.2.2.2.1, (([] : List Ls), ())))))))).bind fun r3 => (match r3 with | .inl x4 => (zKK ((x4.2.1, (x4.2.2.1, (x4.2.2.2.1, ()))))).bind fun r5 => (bif decide (((List.length x4.2.2.2.2.1 + List.length ([(Ls.mk r5.1 r5.2.1 r5.2.2.1)])) ≤ (33554432 : Nat))) then (lp zCk fuel ((x4.1, ((0 : Int), (x4.2.1, (x4.2.2.1, (x4.2.2.2.1, ((x4.2.2.2.2.1 ++ [(Ls.mk r5.1 r5.2.1 r5.2.2.1)]), ())))))))).bind fun r6 => (match r6 with | .inl x7 => some (((0 : Int), x7.1, ())) | .inr _ => none) else none) | .inr _ => none)) else (lp zCl fuel ((s.1, ((0 : Int), (s.2.1, (s.2.2.1, (s.2.2.2.1, (([] : List Ls), ())))))))).bind fun r8 => (match r8 with | .inl x9 => (zKK ((x9.2.1, (x9.2.2.1, (x9.2.2.2.1, ()))))).bind fun r10 => (bif decide (((List.length x9.2.2.2.2.1 + List.length ([(Ls.mk r10.1 r10.2.1 r10.2.2.1)])) ≤ (33554432 : Nat))) then (lp zCk fuel ((x9.1, ((0 : Int), (x9.2.1, (x9.2.2.1, (x9.2.2.2.1, ((x9.2.2.2.2.1 ++ [(Ls.mk r10.1 r10.2.1 r10.2.2.1)]), ())))))))).bind fun r11 => (match r11 with | .inl x12 => some (((0 : Int), x12.1, ())) | .inr _ => none) else none) | .inr _ => none))) else (bif r0.2.2.2.1 then (bif decide ((s.2.2.1 < r0.2.1)) then (zKG ((s.1, ()))).bind fun r13 => some (((2 : Int), r13.1, ())) else (lp zCl fuel ((s.1, ((0 : Int), (s.2.1, (s.2.2.1, (s.2.2.2.1, (([] : List Ls), ())))))))).bind fun r14 => (match r14 with | .inl x15 => (zKK ((x15.2.1, (x15.2.2.1, (x15.2.2.2.1, ()))))).bind fun r16 => (bif decide (((List.length x15.2.2.2.2.1 + List.length ([(Ls.mk r16.1 r16.2.1 r16.2.2.1)])) ≤ (33554432 : Nat))) then (lp zCk fuel ((x15.1, ((0 : Int), (x15.2.1, (x15.2.2.1, (x15.2.2.2.1, ((x15.2.2.2.2.1 ++ [(Ls.mk r16.1 r16.2.1 r16.2.2.1)]), ())))))))).bind fun r17 => (match r17 with | .inl x18 => some (((0 : Int), x18.1, ())) | .inr _ => none) else none) | .inr _ => none)) else (lp zCl fuel ((s.1, ((0 : Int), (s.2.1, (s.2.2.1, (s.2.2.2.1, (([] : List Ls), ())))))))).bind fun r19 => (match r19 with | .inl x20 => (zKK ((x20.2.1, (x20.2.2.1, (x20.2.2.2.1, ()))))).bind fun r21 => (bif decide (((List.length x20.2.2.2.2.1 + List.length ([(Ls.mk r21.1 r21.2.1 r21.2.2.1)])) ≤ (33554432 : Nat))) then (lp zCk fuel ((x20.1, ((0 : Int), (x20.2.1, (x20.2.2.1, (x20.2.2.2.1, ((x20.2.2.2.2.1 ++ [(Ls.mk r21.1 r21.2.1 r21.2.2.1)]), ())))))))).bind fun r22 => (match r22 with | .inl x23 => some (((0 : Int), x23.1, ())) | .inr _ => none) else none) | .inr _ => none)))
def zBO (s : (Int × Int × List Lk × List Bool × List Int × List (List Ls) × List Pk × Int × List Lk × Unit)) : Option ((Int × List Lk × Int × List Lk × Unit) ⊕ Unit) := (bif inR s.1 (List.length s.2.2.2.2.2.1) then (zJG ((s.2.1, (at! .db s.2.2.2.2.2.1 (Int.toNat s.1), ())))).bind fun r0 => some (Sum.inl ((s.2.2.2.2.2.2.2.1, s.2.2.2.2.2.2.2.2.1, r0.1, r0.2.2.1, ()))) else none)
def zJ1 (s : (Int × List Lk × List Bool × List Int × List (List Ls) × List Pk × Int × Unit)) : Option (Int × List Lk × Unit) := (zBO ((s.2.2.2.2.2.2.1, (s.1, (s.2.1, (s.2.2.1, (s.2.2.2.1, (s.2.2.2.2.1, (s.2.2.2.2.2.1, ((0 : Int), (([] : List Lk), ()))))))))))).bind fun r0 => (match r0 with | .inl x1 => some ((x1.2.2.1, x1.2.2.2.1, ())) | .inr _ => none)
def zKy (s : (List Ls × Int × Int × List En × Unit)) : Option (Int × List Ls × Unit) := (zKz ((s.1, ()))).bind fun r0 => (bif (!r0.1) then some (((3 : Int), ([] : List Ls), ())) else (zKD ((s.2.1, (s.2.2.1, (s.2.2.2.1, ()))))).bind fun r1 => (bif (!r1.1) then some (((3 : Int), ([] : List Ls), ())) else (zKL ((s.1, (s.2.1, (s.2.2.1, (s.2.2.2.1, ())))))).bind fun r2 => some ((r2.1, r2.2.1, ()))))
def zBU (s : (List Ls × Int × Int × List Ls × Unit)) : Option ((List Ls × Int × Int × List Ls × Unit) ⊕ ((List Ls × Unit) ⊕ Unit)) := (bif decide ((s.2.2.1 < s.2.1)) then (bif inR s.2.2.1 (List.length s.1) then (zKc ((s.2.2.2.1, ((at! .ls s.1 (Int.toNat s.2.2.1)).o, ((at! .ls s.1 (Int.toNat s.2.2.1)).s, ((at! .ls s.1 (Int.toNat s.2.2.1)).e, ())))))).bind fun r0 => some (Sum.inl ((s.1, s.2.1, wrap64 ((s.2.2.1 + (1 : Int))), r0.2.1, ()))) else none) else some (Sum.inr (Sum.inl ((s.2.2.2.1, ())))))
def zKb (s : (List Ls × List Ls × Unit)) : Option (List Ls × Unit) := (zJ5 ((s.1, ()))).bind fun r0 => (lp zBU fuel ((s.2.1, (nI (List.length s.2.1), ((0 : Int), (r0.1, ())))))).bind fun r1 => (match r1 with | .inl x2 => some ((x2.1, ())) | .inr _ => none)
def zCi (s : (List Ls × Int × List Ls × Unit)) : Option ((List Ls × Int × List Ls × Unit) ⊕ ((List Ls × Unit) ⊕ Unit)) := (bif decide ((s.2.1 < nI (List.length s.1))) then (bif inR s.2.1 (List.length s.1) then (zKL ((s.2.2.1, ((at! .ls s.1 (Int.toNat s.2.1)).o, ((at! .ls s.1 (Int.toNat s.2.1)).s, ((at! .ls s.1 (Int.toNat s.2.1)).e, ())))))).bind fun r0 => some (Sum.inl ((s.1, wrap64 ((s.2.1 + (1 : Int))), r0.2.1, ()))) else none) else some (Sum.inr (Sum.inl ((s.2.2.1, ())))))
def zKI (s : (List Ls × List Ls × Unit)) : Option (List Ls × Unit) := (zKG ((s.1, ()))).bind fun r0 => (lp zCi fuel ((s.2.1, ((0 : Int), (r0.1, ()))))).bind fun r1 => (match r1 with | .inl x2 => some ((x2.1, ())) | .inr _ => none)
def zBC (s : (Int × List (List Ls) × Int × Int × Int × List Lk × List Bool × List Int × List (List Ls) × List Pk × List Ls × Unit)) : Option ((Int × List (List Ls) × Int × Int × Int × List Lk × List Bool × List Int × List (List Ls) × List Pk × List Ls × Unit) ⊕ ((Int × Int × List Lk × List Bool × List Int × List (List Ls) × List Pk × List Ls × Unit) ⊕ (Bool × Unit))) := (bif decide ((s.2.2.2.1 < s.2.2.1)) then (bif inR s.2.2.2.1 (List.length s.2.1) then (bif inR s.2.2.2.1 (List.length s.2.2.2.2.2.2.2.1) then (zKe ((at! .int s.2.2.2.2.2.2.2.1 (Int.toNat s.2.2.2.1), ((1 : Int), ((99 : Int), ()))))).bind fun r0 => (bif (!r0.1) then some (Sum.inr (Sum.inr ((false, ())))) else (zJH ((at! .db s.2.1 (Int.toNat s.2.2.2.1), ()))).bind fun r1 => (bif (!r1.1) then some (Sum.inr (Sum.inr ((false, ())))) else (zJ9 ((at! .db s.2.1 (Int.toNat s.2.2.2.1), (s.2.2.2.1, ())))).bind fun r2 => (bif (!r2.2.1) then some (Sum.inr (Sum.inr ((false, ())))) else (bif inR r2.1 (List.length (at! .db s.2.1 (Int.toNat s.2.2.2.1))) then (bif inR s.2.2.2.1 (List.length s.2.2.2.2.2.2.2.1) then (bif (!(decide (((at! .ls (at! .db s.2.1 (Int.toNat s.2.2.2.1)) (Int.toNat r2.1)).s = at! .int s.2.2.2.2.2.2.2.1 (Int.toNat s.2.2.2.1))))) then some (Sum.inr (Sum.inr ((false, ())))) else (bif decide (((List.length s.2.2.2.2.2.2.2.2.2.2.1 + List.length (at! .db s.2.1 (Int.toNat s.2.2.2.1))) ≤ (33554432 : Nat))) then some (Sum.inl ((s.1, s.2.1, s.2.2.1, wrap64 ((s.2.2.2.1 + (1 : Int))), s.2.2.2.2.1, s.2.2.2.2.2.1, s.2.2.2.2.2.2.1, s.2.2.2.2.2.2.2.1, s.2.2.2.2.2.2.2.2.1, s.2.2.2.2.2.2.2.2.2.1, (s.2.2.2.2.2.2.2.2.2.2.1 ++ at! .db s.2.1 (Int.toNat s.2.2.2.1)), ()))) else none)) else none) else none)))) else none) else none) else some (Sum.inr (Sum.inl ((s.1, s.2.2.2.2.1, s.2.2.2.2.2.1, s.2.2.2.2.2.2.1, s.2.2.2.2.2.2.2.1, s.2.2.2.2.2.2.2.2.1, s.2.2.2.2.2.2.2.2.2.1, s.2.2.2.2.2.2.2.2.2.2.1, ())))))
def zBA (s : (Int × List Pk × Int × Int × Int × List Lk × List Bool × List Int × List (List Ls) × List Pk × List Ls × Unit)) : Option ((Int × List Pk × Int × Int × Int × List Lk × List Bool × List Int × List (List Ls) × List Pk × List Ls × Unit) ⊕ ((Int × List Lk × List Bool × List Int × List (List Ls) × List Pk × List Ls × Unit) ⊕ (Bool × Unit))) := (bif decide ((s.2.2.2.1 < s.2.2.1)) then (bif inR s.2.2.2.1 (List.length s.2.1) then (zKe (((at! .pk s.2.1 (Int.toNat s.2.2.2.1)).t, ((0 : Int), (wrap64 ((s.1 - (1 : Int))), ()))))).bind fun r0 => (bif (!r0.1) then some (Sum.inr (Sum.inr ((false, ())))) else (bif decide (((List.length s.2.2.2.2.2.2.2.2.2.2.1 + List.length ([(Ls.mk (((at! .pk s.2.1 (Int.toNat s.2.2.2.1)).p).o) (((at! .pk s.2.1 (Int.toNat s.2.2.2.1)).p).s) (((at! .pk s.2.1 (Int.toNat s.2.2.2.1)).p).e))])) ≤ (33554432 : Nat))) then some (Sum.inl ((s.1, s.2.1, s.2.2.1, wrap64 ((s.2.2.2.1 + (1 : Int))), s.2.2.2.2.1, s.2.2.2.2.2.1, s.2.2.2.2.2.2.1, s.2.2.2.2.2.2.2.1, s.2.2.2.2.2.2.2.2.1, s.2.2.2.2.2.2.2.2.2.1, (s.2.2.2.2.2.2.2.2.2.2.1 ++ [(Ls.mk (((at! .pk s.2.1 (Int.toNat s.2.2.2.1)).p).o) (((at! .pk s.2.1 (Int.toNat s.2.2.2.1)).p).s) (((at! .pk s.2.1 (Int.toNat s.2.2.2.1)).p).e))]), ()))) else none)) else none) else some (Sum.inr (Sum.inl ((s.2.2.2.2.1, s.2.2.2.2.2.1, s.2.2.2.2.2.2.1, s.2.2.2.2.2.2.2.1, s.2.2.2.2.2.2.2.2.1, s.2.2.2.2.2.2.2.2.2.1, s.2.2.2.2.2.2.2.2.2.2.1, ())))))
def zBB (s : (List Ls × List Ls × Int × Int × Int × List Lk × List Bool × List Int × List (List Ls) × List Pk × Unit)) : Option ((List Ls × List Ls × Int × Int × Int × List Lk × List Bool × List Int × List (List Ls) × List Pk × Unit) ⊕ ((Unit) ⊕ (Bool × Unit))) := (bif decide ((s.2.2.2.1 < s.2.2.1)) then (bif inR s.2.2.2.1 (List.length s.2.1) then (zJ0 ((s.2.2.2.2.1, (s.2.2.2.2.2.1, (s.2.2.2.2.2.2.1, (s.2.2.2.2.2.2.2.1, (s.2.2.2.2.2.2.2.2.1, (s.2.2.2.2.2.2.2.2.2.1, ((at! .ls s.2.1 (Int.toNat s.2.2.2.1)).o, ((at! .ls s.2.1 (Int.toNat s.2.2.2.1)).s, ((at! .ls s.2.1 (Int.toNat s.2.2.2.1)).e, ()))))))))))).bind fun r0 => (bif (!r0.1) then some (Sum.inr (Sum.inr ((false, ())))) else (bif bnd2 ((0 : Int)) s.2.2.2.1 (List.length s.1) then (zKr ((List.take ((Int.toNat s.2.2.2.1 - Int.toNat ((0 : Int)))) (List.drop (Int.toNat ((0 : Int))) s.1), ((at! .ls s.2.1 (Int.toNat s.2.2.2.1)).o, ((at! .ls s.2.1 (Int.toNat s.2.2.2.1)).s, ((at! .ls s.2.1 (Int.toNat s.2.2.2.1)).e, ())))))).bind fun r1 => (bif r1.1 then some (Sum.inr (Sum.inr ((false, ())))) else some (Sum.inl ((s.1, s.2.1, s.2.2.1, wrap64 ((s.2.2.2.1 + (1 : Int))), s.2.2.2.2.1, s.2.2.2.2.2.1, s.2.2.2.2.2.2.1, s.2.2.2.2.2.2.2.1, s.2.2.2.2.2.2.2.2.1, s.2.2.2.2.2.2.2.2.2.1, ())))) else none)) else none) else some (Sum.inr (Sum.inl (()))))
def zJU (s : (Int × List Lk × List Bool × List Int × List (List Ls) × List Pk × Unit)) : Option (Bool × Unit) := (zJI ((s.1, (s.2.1, ())))).bind fun r0 => (bif (!r0.1) then some ((false, ())) else (bif (!(decide ((nI (List.length s.2.2.1) = nI (List.length s.2.1))))) then some ((false, ())) else (bif (!(decide ((nI (List.length s.2.2.2.1) = s.1)))) then some ((false, ())) else (bif (!(decide ((nI (List.length s.2.2.2.2.1) = s.1)))) then some ((false, ())) else (bif decide (((16 : Int) < nI (List.length s.2.2.2.2.2.1))) then some ((false, ())) else (lp zBC fuel ((s.1, (s.2.2.2.2.1, (nI (List.length s.2.2.2.2.1), ((0 : Int), (s.1, (s.2.1, (s.2.2.1, (s.2.2.2.1, (s.2.2.2.2.1, (s.2.2.2.2.2.1, (([] : List Ls), ()))))))))))))).bind fun r1 => (match r1 with | .inl x2 => (lp zBA fuel ((x2.1, (x2.2.2.2.2.2.2.1, (nI (List.length x2.2.2.2.2.2.2.1), ((0 : Int), (x2.2.1, (x2.2.2.1, (x2.2.2.2.1, (x2.2.2.2.2.1, (x2.2.2.2.2.2.1, (x2.2.2.2.2.2.2.1, (x2.2.2.2.2.2.2.2.1, ()))))))))))))).bind fun r3 => (match r3 with | .inl x4 => (lp zBB fuel ((x4.2.2.2.2.2.2.1, (x4.2.2.2.2.2.2.1, (nI (List.length x4.2.2.2.2.2.2.1), ((0 : Int), (x4.1, (x4.2.1, (x4.2.2.1, (x4.2.2.2.1, (x4.2.2.2.2.1, (x4.2.2.2.2.2.1, ())))))))))))).bind fun r5 => (match r5 with | .inl _ => some ((true, ())) | .inr y6 => some ((y6.1, ()))) | .inr y4 => some ((y4.1, ()))) | .inr y2 => some ((y2.1, ()))))))))
def zJT (s : (Int × List Lk × List Bool × List Int × List (List Ls) × List Pk × Int × Unit)) : Option (Int × List Lk × Unit) := (zJU ((s.1, (s.2.1, (s.2.2.1, (s.2.2.2.1, (s.2.2.2.2.1, (s.2.2.2.2.2.1, ())))))))).bind fun r0 => (bif (!r0.1) then some (((0 : Int), ([] : List Lk), ())) else (zKe ((s.2.2.2.2.2.2.1, ((0 : Int), (wrap64 ((s.1 - (1 : Int))), ()))))).bind fun r1 => (bif (!r1.1) then some (((0 : Int), ([] : List Lk), ())) else (zJ1 ((s.1, (s.2.1, (s.2.2.1, (s.2.2.2.1, (s.2.2.2.2.1, (s.2.2.2.2.2.1, (s.2.2.2.2.2.2.1, ()))))))))).bind fun r2 => some ((r2.1, r2.2.1, ()))))
end Go.Proofs.YtjffopopheiinaaGreat
end
