/- The contract of the library's slices.Sort at a row of numbers of one's own, out of the shelf. -/
import Derived.Test.YtjdebphkndfolaaMv
import Derived.Test.YtjdebphkndfolaaShelf
import Derived.Sort.OwnSortedInts
namespace Go.Proofs.Ytjdebphkndfolaa
open Go.RowKit

def sortI (zs : List Int) : List Int := zs.mergeSort fun x y => decide (x ≤ y)
theorem sortI_len (zs : List Int) : (sortI zs).length = zs.length := List.length_mergeSort zs
theorem flt_int (zs : List Int) : flt .int zs = zs.map iI := by
  induction zs with
  | nil => rfl
  | cons z r ih => rw [flt_cons, ih]; rfl
theorem flt_int_us {w : World} {E X : Nat → Prop} {zs : List Int} {us : List Value} (h : F2 (Ri w E X) (flt .int zs) us) : us = zs.map (Value.int .i64) := by
  rw [flt_int] at h
  refine List.ext_getElem? fun i => ?_
  have hlen := h.1
  simp only [List.length_map] at hlen
  rcases Nat.lt_or_ge i us.length with hi | hi
  · have hu : us[i]? = some us[i] := List.getElem?_eq_getElem hi
    have hz : zs[i]? = some zs[i] := List.getElem?_eq_getElem (by omega)
    have h1 : Ri w E X (iI zs[i]) us[i] := h.2 i (iI zs[i]) us[i] (by rw [List.getElem?_map, hz]; rfl) hu
    rw [hu]
    generalize us[i] = q at *
    cases h1
    simp [hz]
  · rw [List.getElem?_eq_none hi, List.getElem?_eq_none (by simp; omega)]
def sh_slices_Sort_int_int (s : List Int × Unit) : Option (List Int × Unit) := bif decide (s.1.length ≤ 16777216) then some (sortI s.1, ()) else none
def e_slices_Sort_int_int : Entry := ⟨⟨[.c (.one (.own 0))], [.row 3 .int]⟩, [.ls .int], ⟨[.tup []], [.row 3 .int]⟩, [.ls .int], sh_slices_Sort_int_int⟩
theorem p_slices_Sort_int_int : GC Try.prog 92 e_slices_Sort_int_int := by
  intro s r hs ds os hf d h' hr w X β args hX hH hargs
  obtain ⟨xs, _⟩ := s
  have hs : (bif decide (xs.length ≤ 16777216) then some (sortI xs, ()) else none) = some r := hs
  cases hd : decide (xs.length ≤ 16777216) with
  | false => rw [hd] at hs; cases hs
  | true =>
  rw [hd] at hs
  injection hs with hs
  subst hs
  have hn := of_decide_eq_true hd
  have hf : some ([PV.own 0], [AObj.row 3 .int xs]) = some (ds, os) := hf
  injection hf with hf
  injection hf with hf1 hf2
  subst hf1 hf2
  have hr : some ([PV.tup []], [AObj.row 3 .int (sortI xs)]) = some ([d], h') := hr
  injection hr with hr
  injection hr with hr1 hr2
  injection hr1 with hr1
  subst hr1 hr2
  obtain ⟨u, _, rfl, hu, hnil⟩ := hargs.cons_inv
  obtain rfl := hnil.nil_inv
  obtain ⟨h0, hv, ⟨_, _, _, rfl⟩, h2⟩ := hu
  obtain ⟨b, c, A, hb, hue, hA, hE⟩ := h2 3 .int xs rfl
  obtain ⟨b', c', hb', hc0, hcm, hrow⟩ := hH.ok 0 _ rfl
  rw [hb] at hb'
  injection hb' with hb'
  injection hb' with e1 e2
  subst e1 e2
  rw [hue]
  rcases Nat.eq_zero_or_pos c with hc | hc
  · obtain rfl : xs = [] := hc0 hc
    refine (Try.slices_Sort_int_none A c w).mono ?_
    rintro ex w' ⟨rfl, rfl⟩
    have e : sortI [] = [] := by simp [sortI]
    rw [e]
    exact ⟨_, β, rfl, Step.refl _ _ _, hH, [], rfl, F2.nil⟩
  · obtain ⟨us, junk, hblk, hF, hone, hlen⟩ := hrow hc
    have hus := flt_int_us hF
    subst hus
    have hA := hA hc
    subst hA
    have hbl : b < w.heap.size := (Array.getElem?_eq_some_iff.1 hblk).1
    have hlen' : xs.length + junk.length = c := by
      have : ((xs.map (Value.int .i64)) ++ junk).length = c * 1 := hlen
      simpa using this
    have hold : Go.Sort.Holds (Value.int .i64) w b 0 xs.toArray := holds_of_blockI (e := 3) hblk (by simp)
    refine (Try.slices_Sort_int b 0 c xs w hold hbl (by omega)).mono ?_
    rintro ex w' ⟨rfl, m, os, rfl⟩
    have how := ownsRow_sortedI (w := w) (base := 0) (g := b) (cap := c) (n := m) (os := os) (ss := xs) (ts := sortI xs) (e := 3) (sortI_len xs) (Nat.zero_le _) hblk (by omega) hcm (by simp; omega)
    have hgr := grownBy_sortedI (w := w) (g := b) (n := m) (os := os) (sortI xs).toArray
    obtain ⟨g2, c2, junk2, hv2, hh2, hl2, hm2, _⟩ := own_split how (by intro h; cases h)
    injection hv2 with q1 q2 q3
    injection q1 with q1
    injection q1 with q1
    subst q1 q3
    generalize hw' : Go.Sort.grow (Go.Sort.putRow (Value.int .i64) (Go.Sort.ahead w m) b 0 (xs.mergeSort fun x y => decide (x ≤ y)).toArray) os = w' at *
    rw [show (xs.mergeSort fun x y => decide (x ≤ y)) = sortI xs from rfl] at hw'
    rw [hw'] at hh2 hgr how
    have live1 : ∀ b', Liv [AObj.row 3 .int (sortI xs)] β b' → Liv [AObj.row 3 .int xs] β b' := fun b' ⟨k, o, c', h1, h2, h3⟩ => by
      match k, h1 with
      | 0, h1 =>
        simp at h1
        subst h1
        exact ⟨0, _, c', rfl, h2, h3⟩
      | k + 1, h1 => simp at h1
    have liveB : Liv [AObj.row 3 .int xs] β b := ⟨0, _, c, rfl, hc, hb⟩
    have onlyB : ∀ b', Liv [AObj.row 3 .int xs] β b' → b' = b := fun b' ⟨k, o, c', h1, h2, h3⟩ => by
      match k, h1 with
      | 0, h1 => rw [hb] at h3; injection h3 with h3; injection h3 with h3; exact h3.symm
      | k + 1, h1 => simp at h1
    refine ⟨_, β, rfl, ⟨hgr.os, hgr.tape, hgr.output, hgr.size, fun i hi hne => hgr.block i hi (fun e => hne (by injection e with e; subst e; exact liveB)), fun i _ h => live1 i h, fun _ _ h => h, ⟨Nat.le_refl _, fun k t τ ys hk e => ?_, fun k hk e => ?_⟩⟩, ⟨hH.len, fun i h => h, fun i h => hH.nx i (live1 i h), fun k o hk => ?_, fun j k o o' b1 c1 c2 hj hk _ _ _ _ => ?_⟩, [], rfl, F2.nil⟩
    · cases k with
      | zero =>
        simp at e
        obtain ⟨rfl, e⟩ := e
        obtain ⟨rfl, e⟩ := e
        obtain rfl := eq_of_heq e
        exact .inl ⟨xs, rfl, (sortI_len xs).symm⟩
      | succ k => simp at e
    · match k, e with
      | 0, e => simp [isV] at e
      | k + 1, e => simp at hk
    · match k, hk with
      | 0, hk =>
        simp at hk
        subst hk
        refine ⟨b, c, hb, fun h => by omega, hcm, fun _ => ⟨(sortI xs).map (Value.int .i64), junk2, hh2, ?_, fun u hu => ?_, by simpa [sz] using hl2⟩⟩
        · rw [flt_int]
          refine ⟨by simp, fun i x u hx hu => ?_⟩
          simp only [List.getElem?_map] at hx hu
          obtain ⟨z, hz, rfl⟩ := Option.map_eq_some_iff.1 hx
          rw [hz] at hu
          injection hu with hu
          subst hu
          exact Ri.s _
        · obtain ⟨z, _, rfl⟩ := List.mem_map.1 hu; rfl
      | k + 1, hk => simp at hk
    · match j, k, hj, hk with
      | 0, 0, _, _ => rfl
      | 0, k + 1, _, hk => simp at hk
      | j + 1, _, hj, _ => simp at hj
end Go.Proofs.Ytjdebphkndfolaa
