/- The contract of the library's slices.Repeat of one number, for the second machine. -/
import Derived.Test.YtjdebphkndfolaaMso
import Derived.Test.YtjdebphkndfolaaB3
namespace Go.Proofs.Ytjdebphkndfolaa
open Go.RowKit

def one! : List Int → Option Int
  | [v] => some v
  | _ => none
def sh_slices_Repeat_int_int (s : List Int × Int × Unit) : Option (List Int × Unit) := match one! s.1 with
  | some v => bif decide (0 < s.2.1 ∧ s.2.1 ≤ 64) then some (List.replicate s.2.1.toNat v, ()) else none
  | none => none
def e_slices_Repeat_int_int : Entry := ⟨⟨[.c (.one (.b (.sl false .int))), .c (.one (.b (.int .i64)))], []⟩, [.ls .int, .int], ⟨[.c (.one (.own 0))], [.row 3 .int]⟩, [.ls .int], sh_slices_Repeat_int_int⟩
theorem p_slices_Repeat_int_int : GC Try.prog 99 e_slices_Repeat_int_int := by
  intro s r hs ds os hf d h' hr w X β args hX hH hargs
  obtain ⟨xs, n, _⟩ := s
  change Int at n
  change List Int at xs
  have hs : (match one! xs with | some v => (bif decide (0 < n ∧ n ≤ 64) then some (List.replicate n.toNat v, ()) else none) | none => none) = some r := hs
  split at hs
  case h_2 => cases hs
  rename_i v hv
  obtain rfl : xs = [v] := by
    unfold one! at hv
    split at hv
    · injection hv with hv; subst hv; rfl
    · cases hv
  have hs : (bif decide (0 < n ∧ n ≤ 64) then some (List.replicate n.toNat v, ()) else none) = some r := hs
  cases hd : decide (0 < n ∧ n ≤ 64) with
  | false => rw [hd] at hs; cases hs
  | true =>
  rw [hd] at hs
  injection hs with hs
  subst hs
  have hn : 0 < n ∧ n ≤ 64 := of_decide_eq_true hd
  obtain ⟨c, rfl⟩ : ∃ c : Nat, n = (c : Int) := ⟨n.toNat, by omega⟩
  have hf : some ([PV.im (.sl false .int [v]), PV.im (iI (c : Int))], ([] : List AObj)) = some (ds, os) := hf
  injection hf with hf
  injection hf with hf1 hf2
  subst hf1 hf2
  have hr : some ([PV.own 0], [AObj.row 3 .int (List.replicate (c : Int).toNat v)]) = some ([d], h') := hr
  rw [Int.toNat_natCast] at hr
  injection hr with hr
  injection hr with hr1 hr2
  injection hr1 with hr1
  subst hr1 hr2
  obtain ⟨u, _, rfl, hu, hr⟩ := hargs.cons_inv
  obtain ⟨u2, _, rfl, hu2, hnil⟩ := hr.cons_inv
  obtain rfl := hnil.nil_inv
  obtain rfl : u2 = .int .i64 (c : Int) := im_s hu2
  have hu : Ri w (Liv [] β) X (.sl false .int [v]) u := hu
  cases hu with
  | sl g τ xs A cap b o us hA hcap hl hc hr =>
  have hus : us = [v].map (Value.int .i64) := flt_int_us ⟨hl, hr⟩
  subst hus
  obtain ⟨rfl, hb, _, _⟩ := hA (by simp)
  have hcell := hc 0 (.int .i64 v) rfl
  refine (l_Repeat_int v b o cap c (by omega) (by omega) w hcell).mono ?_
  rintro ex w' ⟨g, rfl, hg, hblk, hbl⟩
  have hgl : g < w'.heap.size := (Array.getElem?_eq_some_iff.1 hblk).1
  have hβ : β = [] := List.length_eq_zero_iff.1 hH.len
  subst hβ
  have hcm : c ≤ maxLen := by unfold maxLen; omega
  have liv : ∀ b', Liv [AObj.row 3 .int (List.replicate c v)] [(g, c)] b' → b' = g := fun b' ⟨k, o, c', h1, h2, h3⟩ => by
    cases k with
    | zero => simp at h3; exact h3.1.symm
    | succ k => simp at h3
  refine ⟨_, [(g, c)], rfl, ⟨hbl.os, hbl.tape, hbl.output, hbl.size, fun i hi _ => hbl.block i hi, fun i hi h => ?_, fun k p h => by simp at h, ⟨Nat.zero_le _, fun k t τ ys hk e => by simp at hk, fun k hk e => by simp at hk⟩⟩, ⟨rfl, fun i h => h, fun i h hx => ?_, fun k o hk => ?_, fun j k o o' b1 c1 c2 hj hk _ _ _ _ => ?_⟩, ?_⟩
  · rw [liv i h] at hi; omega
  · rw [liv i h] at hx; have := hX g hx; omega
  · cases k with
    | succ k => simp at hk
    | zero =>
      simp at hk
      subst hk
      refine ⟨g, c, rfl, fun h => by omega, hcm, fun _ => ⟨(List.replicate c v).map (Value.int .i64), [], by rw [List.append_nil, List.map_replicate]; exact hblk, ?_, fun u hu => ?_, by simp [sz]⟩⟩
      · rw [flt_int]
        refine ⟨by simp, fun i x u hx hu => ?_⟩
        simp only [List.getElem?_map] at hx hu
        obtain ⟨z, hz, rfl⟩ := Option.map_eq_some_iff.1 hx
        rw [hz] at hu
        injection hu with hu
        subst hu
        exact Ri.s _
      · obtain ⟨z, _, rfl⟩ := List.mem_map.1 hu; rfl
  · cases j with
    | succ j => simp at hj
    | zero => cases k with
      | zero => rfl
      | succ k => simp at hk
  · refine ⟨by simp, rfl, ⟨_, _, _, rfl⟩, fun t τ ys e => ?_⟩
    simp at e
    obtain ⟨rfl, e⟩ := e
    obtain ⟨rfl, e⟩ := e
    obtain rfl := eq_of_heq e
    exact ⟨g, c, some ⟨g, 0, none⟩, rfl, by rw [List.length_replicate], fun _ => rfl, fun h => by omega⟩
end Go.Proofs.Ytjdebphkndfolaa
