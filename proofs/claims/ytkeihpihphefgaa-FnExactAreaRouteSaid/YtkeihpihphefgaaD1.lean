/- The reader of drawn bytes: l6Open, pick. -/
import Derived.Laws.Bits64
import Derived.Test.YtkeihpihphefgaaReg
import Derived.Test.YtkeihpihphefgaaB1
namespace Go.Proofs.Ytkeihpihphefgaa
open Go.RowKit

theorem xor_i64 (a b : Nat) (ha : a < 9223372036854775808) (hb : b < 9223372036854775808) : bits .xor .i64 (a : Int) (b : Int) = ((a ^^^ b : Nat) : Int) := by
  have hx : a ^^^ b < 2 ^ 63 := Nat.xor_lt_two_pow (by omega) (by omega)
  have h1 : (BitVec.ofInt 64 (a : Int)).toNat = a := by
    rw [BitVec.ofInt_natCast, BitVec.toNat_ofNat]; exact Nat.mod_eq_of_lt (by omega)
  have h2 : (BitVec.ofInt 64 (b : Int)).toNat = b := by
    rw [BitVec.ofInt_natCast, BitVec.toNat_ofNat]; exact Nat.mod_eq_of_lt (by omega)
  show IntKind.i64.wrap ((BitVec.ofInt 64 (a : Int) ^^^ BitVec.ofInt 64 (b : Int)).toNat : Int) = _
  rw [BitVec.toNat_xor, h1, h2]
  exact IntWalk.i64_in _ ⟨by omega, by omega⟩

/-- The reader at block g: its bytes lie below B, so does it; p bytes are read. -/
def IsR (w : World) (B g p : Nat) : Prop :=
  g < B ∧ B ≤ w.heap.size ∧ ∃ C L cap, L ≤ 2000 ∧ Blk w g 67 #[.slice C L cap, .int .i64 p] ∧
    (0 < L → ∃ b o, C = some ⟨b, o, none⟩ ∧ b < B ∧ b ≠ g ∧ ∀ k, k < L → ∃ z : Int, 0 ≤ z ∧ z < 256 ∧ w.cell? ⟨b, o + k, none⟩ = some (.int .u8 z))
theorem IsR.below {w w' : World} {B g p : Nat} (h : IsR w B g p) (hb : Below B w w') : IsR w' B g p := by
  obtain ⟨h1, h2, C, L, cap, h3, h4, h5⟩ := h
  refine ⟨h1, Nat.le_trans h2 hb.size, C, L, cap, h3, h4.belowB hb h1, fun hL => ?_⟩
  obtain ⟨b, o, e, hb1, hb2, hb3⟩ := h5 hL
  refine ⟨b, o, e, hb1, hb2, fun k hk => ?_⟩
  obtain ⟨z, z0, z1, hz⟩ := hb3 k hk
  exact ⟨z, z0, z1, (hb.cell (p := ⟨b, o + k, none⟩) hb1).trans hz⟩
theorem IsR.alloc {w : World} {B g p : Nat} (h : IsR w B g p) (o : Obj) : IsR (w.alloc o) B g p := h.below ((Below.refl _ _).alloc h.2.1 o)
theorem IsR.drew {w : World} {B g p : Nat} (h : IsR w B g p) : IsR w.drew B g p := h.below (Below.refl _ _).drew
theorem IsR.drewN {w : World} {B g p : Nat} (h : IsR w B g p) (n : Nat) : IsR (w.drewN n) B g p := h.below (below_drewN (Below.refl _ _) n)
theorem IsR.set_ {w : World} {B g p : Nat} (h : IsR w B g p) {q : Addr} (hq : B ≤ q.block) (u : Value) : IsR (w.setCell q u) B g p := h.below ((Below.refl _ _).setCell hq u)
theorem IsR.lt {w : World} {B g p : Nat} (h : IsR w B g p) : g < w.heap.size := Nat.lt_of_lt_of_le h.1 h.2.1

/-- Bytes that are there. -/
def RdB (w : World) (A : Option Addr) (len cap : Nat) : Prop :=
  len ≤ cap ∧ cap ≤ maxLen ∧ (0 < len → ∃ b o, A = some ⟨b, o, none⟩ ∧ b < w.heap.size ∧ ∀ k, k < len → ∃ z : Int, 0 ≤ z ∧ z < 256 ∧ w.cell? ⟨b, o + k, none⟩ = some (.int .u8 z))
theorem rdB_of {w : World} {a : Option Addr} {len cap : Nat} {zs : List Int}
    (h : (a = none ∧ len = 0 ∧ cap = 0 ∧ zs = []) ∨ ∃ x, a = some x ∧ len ≤ cap ∧ cap ≤ maxLen ∧ zs.length = cap ∧ (∀ i, i < zs.length → w.cell? (x.add i) = some (.int .u8 (zs.getD i 0))) ∧ ∀ n ∈ zs, (Lit.int .u8 n).wf = true) : RdB w a len cap := by
  rcases h with ⟨rfl, rfl, rfl, rfl⟩ | ⟨⟨b, o, s⟩, rfl, h1, h2, h3, h4, h5⟩
  · exact ⟨Nat.le_refl _, Nat.zero_le _, fun h => absurd h (by omega)⟩
  · refine ⟨h1, h2, fun h0 => ?_⟩
    have hs : s = none := by
      have h6 := h4 0 (by omega)
      unfold World.cell? at h6
      cases s with
      | none => rfl
      | some t =>
        simp only [Addr.add] at h6
        split at h6 <;> simp at h6
    subst hs
    have h7 := h4 0 (by omega)
    refine ⟨b, o, rfl, cell_lt h7, fun k hk => ⟨zs.getD k 0, ?_, ?_, by have := h4 k (by omega); rwa [Addr.add_lit] at this⟩⟩
    all_goals
      have hm : zs.getD k 0 ∈ zs := by
        rw [List.getD_eq_getElem?_getD, List.getElem?_eq_getElem (by omega), Option.getD_some]
        exact List.getElem_mem _
      have := h5 _ hm
      generalize zs.getD k 0 = zz at *
      simp [Lit.wf, IntKind.min, IntKind.max, IntKind.signed, IntKind.bits] at this
      omega

set_option maxRecDepth 100000 in
theorem s_Open (A : Option Addr) (len cap : Nat) (w : World) (h : RdB w A len cap) :
    Calls Try.prog 28 #[.slice A len cap] w fun e w' => e = .returned (.pointer (some ⟨w.heap.size, 0, none⟩)) ∧ Below w.heap.size w w' ∧ w'.heap.size = w.heap.size + 1 ∧ IsR w' (w.heap.size + 1) w.heap.size 0 := by
  obtain ⟨h1, h2, h3⟩ := h
  have hm : cap ≤ 9223372036854775807 := h2
  have H3 := Lib.hid h3; clear h3
  by_cases hl : 2000 < len
  · obtain ⟨b, o, rfl, hb, hz⟩ := H3.out (by omega)
    have HZ := Lib.hid hz; clear hz
    go_enter Try.func28, Try.ntmps28
    go_wp2_with fail
    go_ret
    refine ⟨rfl, (Below.refl _ _).alloc (Nat.le_refl _) _, by simp, by omega, by simp, _, _, _, Nat.le_refl _, Blk.new _ _ _, fun _ => ⟨b, o, rfl, by omega, by omega, fun k hk => ?_⟩⟩
    obtain ⟨z, z0, z1, z2⟩ := HZ.out k (by omega)
    exact ⟨z, z0, z1, (((Below.refl _ w).alloc (Nat.le_refl _) _).cell (p := ⟨b, o + k, none⟩) hb).trans z2⟩
  · go_enter Try.func28, Try.ntmps28
    go_wp2_with fail
    go_ret
    refine ⟨rfl, (Below.refl _ _).alloc (Nat.le_refl _) _, by simp, by omega, by simp, _, _, _, by omega, Blk.new _ _ _, fun hL => ?_⟩
    obtain ⟨b, o, rfl, hb, hz⟩ := H3.out hL
    refine ⟨b, o, rfl, by omega, by omega, fun k hk => ?_⟩
    obtain ⟨z, z0, z1, z2⟩ := hz k hk
    exact ⟨z, z0, z1, (((Below.refl _ w).alloc (Nat.le_refl _) _).cell (p := ⟨b, o + k, none⟩) hb).trans z2⟩

theorem rem_nat (a b : Nat) : (a : Int).tmod (b : Int) = ((a % b : Nat) : Int) := by rw [Int.tmod_eq_emod_of_nonneg (by omega)]; simp
theorem quo_nat (a b : Nat) : (a : Int).tdiv (b : Int) = ((a / b : Nat) : Int) := by rw [Int.tdiv_eq_ediv_of_nonneg (by omega)]; simp

theorem pick_val (Z Y p L N : Nat) (hZ : Z < 256) (hY : Y < 256) (hp : p ≤ 1000000) (hN : 0 < N) :
    ∃ z : Nat, (bits BinOp.xor IntKind.i64 (wrap64 ((Z : Int) * 131 + (Y : Int) * 1117 + (p : Int) * 29 + wrap64 (wrap64 ((p : Int) / (L : Int)) * 53)))
          (wrap64 ((wrap64 ((Z : Int) * 131 + (Y : Int) * 1117 + (p : Int) * 29 + wrap64 (wrap64 ((p : Int) / (L : Int)) * 53))).tdiv 64))).tmod (N : Int) = (z : Int) ∧ z < N := by
  have h1 : p / L ≤ p := Nat.div_le_self p L
  have e1 : (p : Int) / (L : Int) = ((p / L : Nat) : Int) := by simp
  rw [e1]
  clear e1
  generalize p / L = q at *
  rw [IntWalk.wrap64_in (q : Int) ⟨by omega, by omega⟩, IntWalk.wrap64_in ((q : Int) * 53) ⟨by omega, by omega⟩]
  have e2 : (Z : Int) * 131 + (Y : Int) * 1117 + (p : Int) * 29 + (q : Int) * 53 = ((Z * 131 + Y * 1117 + p * 29 + q * 53 : Nat) : Int) := by omega
  rw [e2]
  have h2 : Z * 131 + Y * 1117 + p * 29 + q * 53 < 1000000000000 := by omega
  generalize Z * 131 + Y * 1117 + p * 29 + q * 53 = X at *
  rw [IntWalk.wrap64_in (X : Int) ⟨by omega, by omega⟩]
  have e3 : (X : Int).tdiv 64 = ((X / 64 : Nat) : Int) := quo_nat X 64
  have h3 : X / 64 ≤ X := Nat.div_le_self X 64
  rw [e3, IntWalk.wrap64_in ((X / 64 : Nat) : Int) ⟨by omega, by omega⟩, xor_i64 X (X / 64) (by omega) (by omega), rem_nat]
  exact ⟨_, rfl, Nat.mod_lt _ hN⟩

set_option maxRecDepth 100000 in
set_option maxHeartbeats 2000000 in
theorem s_pick (w : World) (B g p : Nat) (n : Int) (h : IsR w B g p) (hp : p ≤ 1000000) :
    Calls Try.prog 45 #[.pointer (some ⟨g, 0, none⟩), .int .i64 n] w fun e w' => ∃ z : Int, e = .returned (.int .i64 z) ∧ 0 ≤ z ∧ (z < n ∨ z = 0) ∧ w.grownBy w' (some g) ∧ w'.heap.size = w.heap.size ∧ IsR w' B g (p + 1) := by
  obtain ⟨hgB, hBw, C, L, cap, hL, hblk, hrow⟩ := h
  have hfz := hblk.frozen
  have q0 := hblk.cell 0
  have q1 := hblk.cell 1
  have hlt := hblk.lt
  have HB := Lib.hid hblk
  have HRW := Lib.hid hrow
  clear hblk hrow
  have hgrow : w.grownBy (w.setCell ⟨g, 1, none⟩ (.int .i64 ((p : Int) + 1))) (some g) := only_setCell (only_of_below (Below.refl _ _) _) (.inl rfl) _
  have hB' : Blk (w.setCell ⟨g, 1, none⟩ (.int .i64 ((p : Int) + 1))) g 67 #[.slice C L cap, .int .i64 ((p : Int) + 1)] := HB.out.set_ 1 _
  have hsz : (w.setCell ⟨g, 1, none⟩ (.int .i64 ((p : Int) + 1))).heap.size = w.heap.size := by simp
  have HR' : Hid (IsR (w.setCell ⟨g, 1, none⟩ (.int .i64 ((p : Int) + 1))) B g (p + 1)) := by
    refine ⟨hgB, by omega, C, L, cap, hL, by simpa using hB', fun h => ?_⟩
    obtain ⟨b, o, e, hb1, hb2, hb3⟩ := HRW.out h
    refine ⟨b, o, e, hb1, hb2, fun k hk => ?_⟩
    obtain ⟨z, z0, z1, z2⟩ := hb3 k hk
    exact ⟨z, z0, z1, (World.cell?_setCell_other w ⟨g, 1, none⟩ ⟨b, o + k, none⟩ _ (fun e => hb2 (congrArg Addr.block e).symm)).trans z2⟩
  by_cases hn1 : n < 1
  · go_enter Try.func45, Try.ntmps45
    go_wp2_with fail
    all_goals
      go_ret
      exact ⟨_, rfl, by omega, .inr rfl, hgrow, hsz, HR'.out⟩
  by_cases hL0 : L = 0
  · go_enter Try.func45, Try.ntmps45
    go_wp2_with fail
    all_goals
      go_ret
      exact ⟨_, rfl, by omega, .inr rfl, hgrow, hsz, HR'.out⟩
  obtain ⟨N, rfl⟩ := Int.eq_ofNat_of_zero_le (show 0 ≤ n by omega)
  obtain ⟨b, o, rfl, hb1, hb2, hb3⟩ := HRW.out (by omega)
  have hbg : ¬ (b = g) := hb2
  by_cases hpL : p < L
  · obtain ⟨z, z0, z1, z2⟩ := hb3 p hpL
    obtain ⟨Z, rfl⟩ := Int.eq_ofNat_of_zero_le z0
    clear hb3
    go_enter Try.func45, Try.ntmps45
    go_wp2_with fail
    go_ret
    refine ⟨((Z % N : Nat) : Int), congrArg (fun z => Ending.returned (.int .i64 z)) ?_, by omega, .inl ?_, hgrow, hsz, HR'.out⟩
    · simp
    · have := Nat.mod_lt Z (show 0 < N by omega)
      omega
  · obtain ⟨z, z0, z1, z2⟩ := hb3 (p % L) (Nat.mod_lt _ (by omega))
    obtain ⟨Z, rfl⟩ := Int.eq_ofNat_of_zero_le z0
    obtain ⟨y, y0, y1, y2⟩ := hb3 ((p * 7 + 3) % L) (Nat.mod_lt _ (by omega))
    obtain ⟨Y, rfl⟩ := Int.eq_ofNat_of_zero_le y0
    clear hb3
    have m1 := Nat.mod_lt p (show 0 < L by omega)
    have m2 := Nat.mod_lt (p * 7 + 3) (show 0 < L by omega)
    have m3 := Nat.div_le_self p L
    go_enter Try.func45, Try.ntmps45
    go_wp2_with fail
    have f0 := hB'.cell 0
    have f1 := hB'.cell 1
    have fz : (w.setCell ⟨g, 1, none⟩ (.int .i64 ((p : Int) + 1))).cell? ⟨b, o + p % L, none⟩ = some (.int .u8 Z) := (World.cell?_setCell_other w ⟨g, 1, none⟩ ⟨b, o + p % L, none⟩ _ (fun e => hb2 (congrArg Addr.block e).symm)).trans z2
    have fy : (w.setCell ⟨g, 1, none⟩ (.int .i64 ((p : Int) + 1))).cell? ⟨b, o + (p * 7 + 3) % L, none⟩ = some (.int .u8 Y) := (World.cell?_setCell_other w ⟨g, 1, none⟩ ⟨b, o + (p * 7 + 3) % L, none⟩ _ (fun e => hb2 (congrArg Addr.block e).symm)).trans y2
    have hg1 : g < (w.setCell ⟨g, 1, none⟩ (.int .i64 ((p : Int) + 1))).heap.size := by omega
    have hb1' : b < (w.setCell ⟨g, 1, none⟩ (.int .i64 ((p : Int) + 1))).heap.size := by omega
    clear z2 y2 q0 q1 hfz HB HRW hB' z0 y0
    generalize w.setCell ⟨g, 1, none⟩ (.int .i64 ((p : Int) + 1)) = w1 at *
    have HSZ := Lib.hid hsz; clear hsz
    have e0 : ((p : Int) * 7 + 3) % (L : Int) = (((p * 7 + 3) % L : Nat) : Int) := by simp
    have e1 : 0 ≤ ((p : Int) * 7 + 3) % (L : Int) := by rw [e0]; omega
    have e2 : ((p : Int) * 7 + 3) % (L : Int) < L := by rw [e0]; omega
    have e3 : (((p : Int) * 7 + 3) % (L : Int)).toNat = (p * 7 + 3) % L := by rw [e0]; exact Int.toNat_natCast _
    clear e0
    refine wp_region_quiet_lit (by kernel_rfl) (by kernel_rfl) ?_
    repeat (go_big_quiet_step ((fail)))
    refine wpQuiet_nil ?_
    rintro _ ⟨nq, rfl⟩
    go_wp2_with fail
    go_ret
    obtain ⟨z, hz1, hz2⟩ := pick_val Z Y p L N (by omega) (by omega) hp (by omega)
    exact ⟨_, congrArg (fun z => Ending.returned (.int .i64 z)) hz1, by omega, .inl (by omega), only_drewN hgrow _, HSZ.out, HR'.out.drewN _⟩
end Go.Proofs.Ytkeihpihphefgaa
