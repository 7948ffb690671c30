/- Contract: slices.Repeat of one element. -/
import Derived.Test.YtjdebphkndfolaaProg
import Derived.BigQuiet
import Derived.Deep.QuietTactic
import Derived.Deep.DeepCutAuto
import Derived.Deep.LoopGhost
import Derived.Test.YtjdebphkndfolaaShelf
import Derived.Laws.CopyOwn
import Derived.Deep.OwnRows
import Derived.Test.YtjdebphkndfolaaKa
namespace Go.Proofs.Ytjdebphkndfolaa
open Go.RowKit

theorem int_info : (Try.prog.info? 3).map (fun i => (i.zero, i.size, i.bytes)) = some (some (.int .i64 0), 1, 8) := by kernel_rfl

theorem l_mul1 (c : Nat) (hc : c ≤ 64) (w : World) : Calls Try.prog 107 #[.int .u64 1, .int .u64 (c : Int)] w fun e w' => e = .returned (.tuple #[.int .u64 0, .int .u64 (c : Int)]) ∧ w = w' := by
  refine (Try.bits_Mul 1 c (by decide) (by omega) w).mono ?_
  rintro e w' ⟨he, hw⟩
  refine ⟨?_, hw.symm⟩
  rw [he, Nat.one_mul, Nat.div_eq_of_lt (by omega), Nat.mod_eq_of_lt (by omega)]
  rfl

/-- n times v, then m times z. -/
def filled (v z : Value) (n m : Nat) : List Value := List.replicate n v ++ List.replicate m z
theorem filled_len (v z : Value) (n m : Nat) : (filled v z n m).length = n + m := by simp [filled]
theorem filled_get (v z : Value) (n m j : Nat) (h : j < n) : (filled v z n m)[j]? = some v := by simp [filled, List.getElem?_append, h]
theorem filled_splice (v z : Value) (n m k : Nat) (hk : k ≤ m) : Go.splice (filled v z n m) n (List.replicate k v) = filled v z (n + k) (m - k) := by
  simp only [Go.splice, filled, List.length_replicate]
  rw [List.take_left' (by simp), List.drop_append, List.drop_of_length_le (by simp), List.nil_append, List.length_replicate, List.drop_replicate, ← List.append_assoc, List.replicate_append_replicate]
  congr 2
  omega

theorem made_filled (w : World) (v z : Value) (c : Nat) (t : TypeId) : (w.alloc (.cells (madeCells #[z] c) t)).heap[w.heap.size]? = some (.cells (filled v z 0 c).toArray t (0, 0)) := by
  have h := heap_alloc_new w (.cells (madeCells #[z] c) t)
  have e : madeCells #[z] c = (filled v z 0 c).toArray := by
    apply Array.toList_inj.1
    rw [toList_madeCells_one]
    simp [filled]
  rw [← e]
  exact h
theorem new_one (w : World) (O : Obj) {b o : Nat} {v : Value} (h : w.cell? ⟨b, o, none⟩ = some v) : ∀ j u, [v][j]? = some u → (w.alloc O).cell? ((⟨b, o, none⟩ : Addr).add j) = some u := by
  intro j u hu
  cases j with
  | zero =>
    simp at hu
    subst hu
    rw [Addr.add_lit, Nat.add_zero, World.cell?_alloc_lt w O _ (cell_lt h)]
    exact h
  | succ j => simp at hu

theorem filled_src {w : World} {g n m k : Nat} {v z : Value} {t : TypeId} (h : w.heap[g]? = some (.cells (filled v z n m).toArray t (0, 0))) (hk : k ≤ n) : ∀ j u, (List.replicate k v)[j]? = some u → w.cell? ((⟨g, 0, none⟩ : Addr).add j) = some u := by
  intro j u hu
  obtain ⟨hj, rfl⟩ := List.getElem?_eq_some_iff.1 hu
  simp only [List.length_replicate] at hj
  rw [Addr.add_lit, Nat.zero_add, cell_of_row w g j _ t (0, 0) h, List.getElem?_toArray, filled_get _ _ _ _ _ (by omega)]
  simp

set_option maxRecDepth 100000 in
set_option maxHeartbeats 1000000 in
theorem l_Repeat_int (v : Int) (b o cap c : Nat) (hc0 : 0 < c) (hc : c ≤ 64) (w : World) (hcell : w.cell? ⟨b, o, none⟩ = some (.int .i64 v)) :
    Calls Try.prog 99 #[.slice (some ⟨b, o, none⟩) 1 cap, .int .i64 (c : Int)] w fun e w' => ∃ g, e = .returned (.slice (some ⟨g, 0, none⟩) c c) ∧ w.heap.size ≤ g ∧ Blk w' g 3 (List.replicate c (.int .i64 v)).toArray ∧ Below w.heap.size w w' := by
  have hb := cell_lt hcell
  have hmk := run_make_row' (P := Try.prog) 26 3 (.int .i64 0) 8 Try.underlying26 int_info rfl .i64 .i64 c (by omega) (by omega)
  have e1 : ((0 : Int) < 0) = False := by simp
  go_enter Try.func99, Try.ntmps99
  go_wp2_with (first
    | (go_at_call 107; refine (l_mul1 c hc _).mono ?_; rintro e w' ⟨rfl, rfl⟩)
    | (with_reducible show wpList _ _ _ (⟨some 33, _, _, _, _, _⟩ :: _) _ _
       go_must (refine wpList_copy_splice (o := ⟨some 33, _, _, _, _, _⟩) rfl (.tmp 31) (.tmp 32) 26 26 rfl 3 Try.underlying26 (by kernel_rfl) (some ⟨w.heap.size, 0, none⟩) (some ⟨b, o, none⟩) c c 1 cap rfl rfl w.heap.size 0 (filled (.int .i64 v) (.int .i64 0) 0 c) 3 (made_filled _ _ _ _ _) [.int .i64 v] (Nat.min_eq_left hc0).symm (fun _ => ⟨rfl, _, rfl, new_one _ _ hcell⟩) (by simp [filled]; omega) (by simp [Value.oneCell']) w.heap.size w ((Below.refl _ _).alloc (Nat.le_refl _) _) (Nat.le_refl _) ?_)
       intro w1 hg1 hb1))
  rw [show Go.splice (filled (.int .i64 v) (.int .i64 0) 0 c) 0 [.int .i64 v] = filled (.int .i64 v) (.int .i64 0) 1 (c - 1) from by have := filled_splice (.int .i64 v) (.int .i64 0) 0 c 1 (by omega); simpa using this] at hg1
  go_loopw [8] (fun i wr => ∃ n : Nat, 0 < n ∧ n ≤ c ∧ i = .int .i64 n ∧ Below w.heap.size w wr ∧ Hid (wr.heap[w.heap.size]? = some (.cells (filled (.int .i64 v) (.int .i64 0) n (c - n)).toArray 3 (0, 0)))) (fun i _ => c - (intOf i).toNat)
  case atStart => exact ⟨1, by omega, by omega, rfl, hb1, hg1⟩
  case round =>
    clear hg1 hb1
    obtain ⟨n, hn0, hn, rfl, hb2, hg2⟩ := hrel
    have Hb := Lib.hid hb2; clear hb2
    by_cases hlt : n < c
    · have hne : ¬ c = n := by omega
      have hg4 : Hid (wr.drew.heap[w.heap.size]? = some (.cells (filled (.int .i64 v) (.int .i64 0) n (c - n)).toArray 3 (0, 0))) := hg2
      go_wp2_with fail
      obtain ⟨m, hme, hmn, hmp⟩ : ∃ m, Hid (m = Nat.min n (c - n)) ∧ m ≤ c - n ∧ 0 < m := ⟨_, rfl, Nat.min_le_right _ _, Nat.lt_min.2 ⟨hn0, by omega⟩⟩
      refine wp_plan_any 9 [(0, true), (1, true), (2, true), (3, true), (4, true), (5, true), (6, true), (7, true), (8, true)] (by kernel_rfl) (by kernel_rfl) ?_
      simp only [picked, List.filterMap_cons, List.filterMap_nil, List.getElem?_cons_zero, List.getElem?_cons_succ, Option.map_some, List.drop_succ_cons, List.drop_zero]
      repeat (first | refine wpPlan_skip rfl ?_ | (refine wpPlan_val rfl rfl (fun K hK => ?_); go_big_quiet_op; refine hK _ ?_; clear hK K))
      try refine wpPlan_nil ?_
      refine wpPlan_eff rfl rfl (fun K hK => ?_)
      refine wp_of_step rfl (step_copy_splice rfl (.tmp 41) (.tmp 44) 26 26 rfl 3 Try.underlying26 (by kernel_rfl) (some ⟨w.heap.size, n, none⟩) (some ⟨w.heap.size, 0, none⟩) (c - n) (c - n) n c rfl rfl w.heap.size n (filled (.int .i64 v) (.int .i64 0) n (c - n)) 3 hg2.out (List.replicate m (.int .i64 v)) (by rw [List.length_replicate]; exact hme.out) (fun _ => ⟨rfl, _, rfl, filled_src hg2.out (hme.out ▸ Nat.min_le_left _ _)⟩) (by rw [filled_len, List.length_replicate]; omega) (fun u hu => by rw [List.eq_of_mem_replicate hu]; rfl) w.heap.size w Hb.out.drew (Nat.le_refl _) ?_)
      intro w2 hg3 hb3
      rw [List.length_replicate]
      go_simp
      refine hK _ _ trivial ?_
      clear hK K
      repeat (first | refine wpPlan_skip rfl ?_ | (refine wpPlan_val rfl rfl (fun K hK => ?_); go_big_quiet_op; refine hK _ ?_; clear hK K))
      try refine wpPlan_nil ?_
      rw [filled_splice _ _ _ _ _ hmn] at hg3
      go_wp2_with fail
      go_roundw
      case rel =>
        refine ⟨n + m, by omega, by omega, by go_num, hb3, ?_⟩
        rw [show c - (n + m) = c - n - m by omega]
        exact hg3
      case measure => simp [intOf]; omega
    · obtain rfl : n = c := by omega
      go_wp2_with fail
      go_ret
      refine ⟨w.heap.size, rfl, Nat.le_refl _, ?_, Hb.out⟩
      have := hg2.out
      simpa [filled, Blk] using this
end Go.Proofs.Ytjdebphkndfolaa
