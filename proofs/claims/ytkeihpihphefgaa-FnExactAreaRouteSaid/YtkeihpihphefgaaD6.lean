/- Draws: what AreaSummary is asked. -/
import Derived.Test.YtkeihpihphefgaaD5
import Derived.Test.YtkeihpihphefgaaA1
namespace Go.Proofs.Ytkeihpihphefgaa
open Go.RowKit

theorem DR.rdL {w w' : World} {B g q base len : Nat} {A : Option Addr} {ls : List Lk} (h : DR w B g q w') (hr : RdL w A len ls) (hn : New base A) (hg : g < base) : RdL w' A len ls :=
  hr.grown h.1 (fun b o e e' => by have := hn b o e; injection e' with e'; omega)
theorem DR.rdI {w w' : World} {B g q base len : Nat} {A : Option Addr} {zs : List Int} (h : DR w B g q w') (hr : RdI w A len zs) (hn : New base A) (hg : g < base) : RdI w' A len zs :=
  hr.grown h.1 (fun b o e e' => by have := hn b o e; injection e' with e'; omega)
theorem New.mono {base base' : Nat} {A : Option Addr} (h : New base A) (hb : base' ≤ base) : New base' A := fun b o e => Nat.le_trans hb (h b o e)
theorem RdL.set_ {w : World} {A : Option Addr} {len base : Nat} {ls : List Lk} (h : RdL w A len ls) (hn : New base A) {p : Addr} (hp : p.block < base) (u : Value) : RdL (w.setCell p u) A len ls :=
  ⟨h.1, h.2.1, h.2.2.set_ (fun b o e => by have := hn b o e; omega) u⟩
theorem RdI.set_ {w : World} {A : Option Addr} {len base : Nat} {zs : List Int} (h : RdI w A len zs) (hn : New base A) {p : Addr} (hp : p.block < base) (u : Value) : RdI (w.setCell p u) A len zs :=
  ⟨h.1, h.2.1, h.2.2.set_ (fun b o e => by have := hn b o e; omega) u⟩
theorem DR.under {w w' : World} {B g q base : Nat} (h : DR w B g q w') (hb : base ≤ w.heap.size) (hg : base ≤ g) : Below base w w' :=
  (Below.refl _ _).grown h.1 hb (fun k e => by injection e with e; omega)

theorem RdB.below {w w' : World} {A : Option Addr} {len cap : Nat} (h : RdB w A len cap) (hb : Below w.heap.size w w') : RdB w' A len cap := by
  obtain ⟨h1, h2, h3⟩ := h
  refine ⟨h1, h2, fun h0 => ?_⟩
  obtain ⟨b, o, e, hlt, hz⟩ := h3 h0
  refine ⟨b, o, e, Nat.lt_of_lt_of_le hlt hb.size, fun k hk => ?_⟩
  obtain ⟨z, z0, z1, z2⟩ := hz k hk
  exact ⟨z, z0, z1, (hb.cell (p := ⟨b, o + k, none⟩) hlt).trans z2⟩
theorem RdB.alloc {w : World} {A : Option Addr} {len cap : Nat} (h : RdB w A len cap) (o : Obj) : RdB (w.alloc o) A len cap := h.below ((Below.refl _ _).alloc (Nat.le_refl _) o)

/-- What is drawn for AreaSummary. -/
def DrawnAS (w w' : World) (e : Ending) : Prop :=
  ∃ (n : Nat) (A : Option Addr) (len cap : Nat) (ls : List Lk) (B : Option Addr) (lb cb : Nat) (bs : List Int) (z : Int), e = .returned (.tuple #[.agg #[.int .i64 n, .slice A len cap], .slice B lb cb, .int .i64 z]) ∧ RdL w' A len ls ∧ RdI w' B lb bs ∧ (lb ≤ 102 ∧ Caps len cap ∧ Caps lb cb) ∧ Below w.heap.size w w'

set_option maxRecDepth 100000 in
set_option maxHeartbeats 400000 in
theorem d_AreaSummary (w : World) (C : Option Addr) (L cap : Nat) (h : RdB w C L cap) :
    Calls Try.prog 11 #[.slice C L cap] w fun e w' => DrawnAS w w' e := by
  have H := Lib.hid h; clear h
  go_enter Try.func11, Try.ntmps11
  go_upto_region 4 with (first | (go_at_call 28; go_must (refine (s_Open _ _ _ _ (RdB.alloc H.out _)).mono ?_); rintro e w1 ⟨rfl, hb1, hs1, hR⟩; simp only [World.size_alloc] at hb1 hs1 hR; have HD1 := Lib.hid (DR.start hR); have HB1 := Lib.hid hb1; have HS1 := Lib.hid hs1; clear hR hb1 hs1) | (go_at_call 29; go_must (refine (d_Spoilt _ _ _ 0 HD1.out (by omega)).mono ?_); rintro e w2 ⟨n, A, len, cp, ls, rfl, hn, hA, hnew, hlen, h2⟩; have HA2 := Lib.hid hA; have HN2 := Lib.hid hnew; have HD2 := Lib.hid h2; have HLEN := Lib.hid hlen; clear hA hnew h2 hlen) | (go_at_call 30; go_must (refine (d_Borders _ _ _ 1010 _ (HD2.out.alloc _).begin (by omega) (by omega)).mono ?_); rintro e w3 ⟨Ab, lb, cb, bs, rfl, hB, hnb, hlb, hcz3, h3⟩; have HC3 := Lib.hid hcz3; clear hcz3; have HB3 := Lib.hid hB; have HN3 := Lib.hid hnb; have HD3 := Lib.hid h3; clear hB hnb h3))
  have hz1 := HD2.out.size
  have hs1 := HS1.out
  have hgw : ¬ w2.heap.size = w.heap.size + 1 := by omega
  have hrg : ¬ w.heap.size = w.heap.size + 1 := by omega
  have HG : Hid (Blk w3 w2.heap.size 25 #[.int .i64 n, .slice A len cp]) := HD3.out.blk (Blk.new _ _ _) hgw
  have HR : Hid (Blk w3 w.heap.size 25 #[.int .i64 0, .slice none 0 0]) := HD3.out.blk ((HD2.out.blk ((Blk.new w _ _).belowB HB1.out (by omega)) hrg).alloc _) hrg
  have HA : Hid (RdL w3 A len ls) := HD3.out.rdL (HA2.out.alloc _) HN2.out (by omega)
  have HN : Hid (New (w.heap.size + 1 + 1) A) := HN2.out.mono (by omega)
  have HM : Hid (New (w.heap.size + 1 + 1) Ab) := HN3.out.mono (by simp; omega)
  have HD : Hid (DR w1 (w.heap.size + 1 + 1) (w.heap.size + 1) 1113 w3) := ((HD2.out.alloc _).then HD3.out).mono (by omega)
  have hz3 := HG.out.lt
  clear HD3 HD2 HA2 HN2 HN3 hs1
  generalize w2.heap.size = g2 at *
  have HZ := Lib.hid hz1; clear hz1
  have q0 := HG.out.cell 0; have q1 := HG.out.cell 1; have qf := HG.out.frozen; have ql := HG.out.lt
  have r0 := HR.out.cell 0; have r1 := HR.out.cell 1; have rf := HR.out.frozen; have rl := HR.out.lt
  refine wp_plan_in (fun w' => Blk w' g2 25 #[.int .i64 n, .slice A len cp]) 6 [(0, true), (1, true), (2, true), (3, true), (4, false), (5, false)] (by kernel_rfl) (by kernel_rfl) HG.out.drew fun hne9 => ?_
  have hx0 : ∀ x : LatP (fun w' => Blk w' g2 25 #[.int .i64 n, .slice A len cp]), x.now.cell? ⟨g2, 0, none⟩ = some (.int .i64 n) := fun x => x.ok.cell 0
  have hx1 : ∀ x : LatP (fun w' => Blk w' g2 25 #[.int .i64 n, .slice A len cp]), x.now.cell? ⟨g2, 1, none⟩ = some (.slice A len cp) := fun x => x.ok.cell 1
  simp only [picked, List.filterMap_cons, List.filterMap_nil, List.getElem?_cons_zero, List.getElem?_cons_succ, Option.map_some, List.drop_succ_cons, List.drop_zero]
  repeat (first | refine wpPlan_skip rfl ?_ | (refine wpPlan_val rfl rfl (fun K hK => ?_); go_big_quiet_op; refine hK _ ?_; clear hK K))
  try refine wpPlan_nil ?_
  refine wpPlan_eff rfl rfl (fun K hK => ?_); unfold Oper.wp; go_simp
  go_must (refine (d_Node _ _ _ 1113 _ _ HD.out.drew.begin (by omega)).mono ?_)
  rintro e w4 ⟨z, rfl, hz0, hz1, h4⟩
  have HG4 := h4.blk (w := w3.drew) HG.out hgw
  have HR4 := h4.blk (w := w3.drew) HR.out hrg
  refine hK _ _ ⟨⟨w4, HG4⟩, rfl⟩ ?_
  clear hK K
  clear q0 q1 qf ql
  clear r0 r1 rf rl
  have q0 := HG4.cell 0; have q1 := HG4.cell 1; have qf := HG4.frozen; have ql := HG4.lt
  have r0 := HR4.cell 0; have r1 := HR4.cell 1; have rf := HR4.frozen; have rl := HR4.lt
  repeat (first | refine wpPlan_skip rfl ?_ | (refine wpPlan_val rfl rfl (fun K hK => ?_); go_big_quiet_op; refine hK _ ?_; clear hK K))
  try refine wpPlan_nil ?_
  refine wpPlan_eff rfl rfl (fun K hK => ?_); unfold Oper.wp; go_simp
  have hrr : ¬ g2 = w.heap.size := by have := HS1.out; have := HZ.out; omega
  refine hK _ _ ⟨⟨_, (HG4.far (by simp; exact hrr) _).far (by simp; exact hrr) _⟩, rfl⟩ ?_
  clear hK K
  repeat (first | refine wpPlan_skip rfl ?_ | (refine wpPlan_val rfl rfl (fun K hK => ?_); go_big_quiet_op; refine hK _ ?_; clear hK K))
  try refine wpPlan_nil ?_
  go_wp2_with fail
  (try simp only [Exit.inBlock, Exit.then])
  refine bodyPost_ret (v := .tuple #[.agg #[.int .i64 n, .slice A len cp], .slice Ab lb cb, .int .i64 z]) (by simp only [results, Try.results11]; go_simp) rfl ?_
  have HA4 := h4.rdL (w := w3.drew) HA.out HN.out (by omega)
  have HB4 := h4.rdI (w := w3.drew) HB3.out HM.out (by omega)
  have hu : Below w.heap.size w w4 := (((Below.refl _ _).alloc (Nat.le_refl _) _).trans (HB1.out.mono (by omega))).trans ((HD.out.drew.then h4).under (by have := HS1.out; omega) (by omega))
  exact ⟨n, A, len, cp, ls, Ab, lb, cb, bs, z, rfl, (HA4.set_ HN.out (by simp; omega) _).set_ HN.out (by simp; omega) _, (HB4.set_ HM.out (by simp; omega) _).set_ HM.out (by simp; omega) _, ⟨hlb, HLEN.out.2, HC3.out⟩, (hu.setCell (by simp) _).setCell (by simp) _⟩
end Go.Proofs.Ytkeihpihphefgaa
