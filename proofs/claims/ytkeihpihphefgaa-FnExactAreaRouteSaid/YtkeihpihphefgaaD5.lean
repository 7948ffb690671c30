/- Draws: spoilt graphs; what AreaSummary is asked. -/
import Derived.Test.YtkeihpihphefgaaCaps
import Derived.Test.YtkeihpihphefgaaD4
import Derived.Test.YtkeihpihphefgaaReg2
namespace Go.Proofs.Ytkeihpihphefgaa
open Go.RowKit

theorem wp_tree_row {P : Program} {Q : Exit → Act → World → Prop} {a : Act} {w : World} {id : Nat} {l : List Oper} (g n : Nat) (t : Tr) (hm : P.follows .mixedOrders = true) (hB : treeB .any l.toArray n t = true)
    (h : (∀ (x : Latg g w) b o, b < w.heap.size → ¬ b = g → x.now.cell? ⟨b, o, none⟩ = w.cell? ⟨b, o, none⟩) →
      wpTO P l.toArray Q (fun w' => ∃ x : Latg g w, w' = x.now) (fun a' w' => wpList P l.toArray Q (l.drop n) a' w') (look l t) a w.drew) : (Code.region id l.toArray true).wp P Q a w :=
  wp_region_tree n t (fun w' => ∃ x : Latg g w, w' = x.now) hm hB ⟨⟨w.drew, only_drew (only_of_below (Below.refl _ _) _)⟩, rfl⟩
    (wpTr_of l t a w.drew (h fun x b o hb hn => World.cell?_of_block (a := ⟨b, o, none⟩) (x.ok.block b hb (fun e => hn (by injection e)))))

theorem lks_set (ls : List Lk) (k j : Nat) (z : Int) (hj : j < 3) : ∃ ls' : List Lk, ls'.length = ls.length ∧ (lks ls).set (k * 3 + j) (.int .i64 z) = lks ls' := by
  induction ls generalizing k with
  | nil => exact ⟨[], rfl, by simp [lks]⟩
  | cons l r ih =>
    have e : lks (l :: r) = l.row ++ lks r := by simp [lks]
    rw [e]
    cases k with
    | zero =>
      rw [Nat.zero_mul, Nat.zero_add, List.set_append_left _ _ (by simpa [Lk.row] using hj)]
      match j, hj with
      | 0, _ => exact ⟨⟨z, l.b, l.c⟩ :: r, rfl, by simp [lks, Lk.row]⟩
      | 1, _ => exact ⟨⟨l.a, z, l.c⟩ :: r, rfl, by simp [lks, Lk.row]⟩
      | 2, _ => exact ⟨⟨l.a, l.b, z⟩ :: r, rfl, by simp [lks, Lk.row]⟩
    | succ k =>
      obtain ⟨r', h1, h2⟩ := ih k
      refine ⟨l :: r', by simp [h1], ?_⟩
      rw [List.set_append_right _ _ (by simp [Lk.row]; omega)]
      have e2 : (k + 1) * 3 + j - l.row.length = k * 3 + j := by simp [Lk.row]; omega
      rw [e2, h2]
      simp [lks]
/-- A number is written into a link of a row of the call's own. -/
theorem own_setL {w : World} {base g n cap : Nat} {ls : List Lk} (h : w.ownsRow base 70 3 (.slice (some ⟨g, 0, none⟩) n cap) n (lks ls)) (k j : Nat) (hj : j < 3) (z : Int) :
    ∃ ls' : List Lk, ls'.length = ls.length ∧ (w.setCell ⟨g, k * 3 + j, none⟩ (.int .i64 z)).ownsRow base 70 3 (.slice (some ⟨g, 0, none⟩) n cap) n (lks ls') := by
  obtain ⟨ls', h1, h2⟩ := lks_set ls k j z hj
  exact ⟨ls', h1, h2 ▸ (h.stored (k * 3 + j) (.int .i64 z)).1⟩
theorem Rd3.row {w : World} {base g n cap : Nat} {ls : List Lk} (h : w.ownsRow base 70 3 (.slice (some ⟨g, 0, none⟩) n cap) n (lks ls)) {k : Nat} (hk : k < n) :
    g < w.heap.size ∧ base ≤ g ∧ w.cell? ⟨g, k * 3, none⟩ = some (.int .i64 (lk ls k).a) ∧ w.cell? ⟨g, k * 3 + 1, none⟩ = some (.int .i64 (lk ls k).b) ∧ w.cell? ⟨g, k * 3 + 2, none⟩ = some (.int .i64 (lk ls k).c) ∧ (∀ j, w.frozen? ⟨g, j, none⟩ = false) := by
  have hl : ls.length = n := by have := h.1; rw [lks_len] at this; omega
  have f := fun j hj => flat_get Lk.row 3 (fun _ => rfl) ls k j _ (lk_get (by omega)) hj
  refine ⟨(h.lt g rfl).2, (h.lt g rfl).1, ?_, ?_, ?_, fun j => h.frozenAt j⟩
  · rw [h.cellAt _ (by omega)]; exact (f 0 (by omega)).trans rfl
  · rw [h.cellAt _ (by omega)]; exact (f 1 (by omega)).trans rfl
  · rw [h.cellAt _ (by omega)]; exact (f 2 (by omega)).trans rfl

theorem own_at {w : World} {base : Nat} {E : TypeId} {size n cap : Nat} {A : Option Addr} {xs : List Value} (h : w.ownsRow base E size (.slice A n cap) n xs) (hn : 0 < n) :
    ∃ g, A = some ⟨g, 0, none⟩ ∧ base ≤ g ∧ g < w.heap.size := by
  rcases h.2 with ⟨_, h0⟩ | ⟨g, cap', cur, e, h1, h2, _⟩
  · omega
  · injection e with e
    subst e
    refine ⟨g, rfl, h1, ?_⟩
    rcases Nat.lt_or_ge g w.heap.size with h | h
    · exact h
    · rw [Array.getElem?_eq_none h] at h2; cases h2
theorem own_new {w : World} {base base' : Nat} {E : TypeId} {size n cap : Nat} {A : Option Addr} {xs : List Value} (h : w.ownsRow base E size (.slice A n cap) n xs) (hb : base' ≤ base) : New base' A := by
  obtain ⟨A', cap', e, _, _, hn⟩ := own_slice h
  injection e with e
  subst e
  exact fun b o e => Nat.le_trans hb (hn b o none e).1
theorem three_at {w : World} {b : Nat} {t : TypeId} {x y z : Int} (h : Blk w b t #[.int .i64 x, .int .i64 y, .int .i64 z]) {k : Nat} (hk : k < 3) : ∃ u : Int, w.cell? ⟨b, k, none⟩ = some (.int .i64 u) := by
  match k, hk with
  | 0, _ => exact ⟨x, h.cell 0⟩
  | 1, _ => exact ⟨y, h.cell 1⟩
  | 2, _ => exact ⟨z, h.cell 2⟩
/-- What a drawn graph is, behind the call. -/
def DrawnG (w w' : World) (B g q : Nat) (e : Ending) : Prop :=
  ∃ (n : Nat) (A : Option Addr) (len cap : Nat) (ls : List Lk), e = .returned (.agg #[.int .i64 n, .slice A len cap]) ∧ n ≤ 9 ∧ RdL w' A len ls ∧ New w.heap.size A ∧ (len ≤ 15 ∧ Caps len cap) ∧ DR w B g q w'

theorem spoilt_fin {w w1 : World} {B g q n cap : Nat} {A : Option Addr} {ls : List Lk} (hO : w1.ownsRow (w.heap.size + 1) 70 3 (.slice A ls.length cap) ls.length (lks ls)) (_ : w.heap.size < w1.heap.size)
    (hn : n ≤ 9) (hl : ls.length ≤ 15) (hD : DR w B g q w1) (x y : Value) :
    DrawnG w ((w1.setCell ⟨w.heap.size, 0, none⟩ x).setCell ⟨w.heap.size, 1, none⟩ y) B g q (.returned (.agg #[.int .i64 n, .slice A ls.length cap])) := by
  have h1 : ∀ {w1 : World} {x : Value} {i : Nat}, w1.ownsRow (w.heap.size + 1) 70 3 (.slice A ls.length cap) ls.length (lks ls) → (w1.setCell ⟨w.heap.size, i, none⟩ x).ownsRow (w.heap.size + 1) 70 3 (.slice A ls.length cap) ls.length (lks ls) :=
    fun h => ownsRow_setCell_below h (by simp) _
  have h2 := h1 (x := y) (i := 1) (h1 (x := x) (i := 0) hO)
  exact ⟨n, A, ls.length, cap, ls, rfl, hn, RdL.of_own h2 (by omega), own_new h2 (by omega), ⟨hl, by obtain ⟨A', c', e, h1, h2, _⟩ := own_slice hO; injection e with _ _ e; subst e; exact ⟨h1, h2⟩⟩, (hD.set_ (by simp) _).set_ (by simp) _⟩

set_option maxRecDepth 100000 in
set_option maxHeartbeats 2000000 in
theorem d_Spoilt (w : World) (B g q : Nat) (h : DR w B g q w) (hq : q ≤ 700000) :
    Calls Try.prog 29 #[.pointer (some ⟨g, 0, none⟩)] w fun e w' => DrawnG w w' B g (q + 1010) e := by
  have H := Lib.hid h; clear h
  have hgl := H.out.glt
  have hrg : ¬ w.heap.size = g := by omega
  go_enter Try.func29, Try.ntmps29
  go_upto_region 2 with (first | (go_at_call 44; go_must (refine (d_Graph _ _ g q (H.out.alloc _).begin (by omega)).mono ?_); rintro e w1 ⟨n, v, ls, rfl, hn1, hn2, hO, hlen, h1⟩; obtain ⟨A, cap, rfl, _, _, _⟩ := own_slice hO))
  have hs1 := h1.size
  have HR : Hid (Blk (w1.alloc (.cells #[.int .i64 n, .slice A ls.length cap] 25)) w.heap.size 25 #[.int .i64 0, .slice none 0 0]) := (h1.blk (Blk.new _ _ _) (by omega)).alloc _
  have HG : Hid (Blk (w1.alloc (.cells #[.int .i64 n, .slice A ls.length cap] 25)) w1.heap.size 25 #[.int .i64 n, .slice A ls.length cap]) := Blk.new _ _ _
  have HO : Hid ((w1.alloc (.cells #[.int .i64 n, .slice A ls.length cap] 25)).ownsRow (w.heap.size + 1) 70 3 (.slice A ls.length cap) ls.length (lks ls)) := Lib.hid (by have := hO.alloc (.cells #[.int .i64 n, .slice A ls.length cap] 25); simpa using this)
  have HD : Hid (DR w B g (q + 1000) (w1.alloc (.cells #[.int .i64 n, .slice A ls.length cap] 25))) := ((H.out.alloc _).then h1).alloc _
  have hgr : ¬ w1.heap.size = g := by have := h1.glt; omega
  have hrr : ¬ w.heap.size = w1.heap.size := by simp at hs1; omega
  have hz : w1.heap.size < (w1.alloc (.cells #[.int .i64 n, .slice A ls.length cap] 25)).heap.size := by simp
  have hzr : w.heap.size < w1.heap.size := by simp at hs1; omega
  generalize w1.alloc (.cells #[.int .i64 n, .slice A ls.length cap] 25) = w2 at *
  clear hO h1 hs1
  generalize w1.heap.size = g1 at *
  have q0 := HG.out.cell 0; have q1 := HG.out.cell 1; have qf := HG.out.frozen; have ql := HG.out.lt
  have r0 := HR.out.cell 0; have r1 := HR.out.cell 1; have rf := HR.out.frozen; have rl := HR.out.lt
  by_cases hl0 : ls.length = 0
  · have hls : ls = [] := List.length_eq_zero_iff.1 hl0
    subst hls
    simp only [List.length_nil] at *
    go_wp2_with fail
    (try simp only [Exit.inBlock, Exit.then])
    refine bodyPost_ret (v := .agg #[.int .i64 n, .slice A 0 cap]) (by simp only [results, Try.results29]; go_simp) rfl ?_
    exact ⟨n, A, 0, cap, [], rfl, by omega, RdL.none_, own_new HO.out (by omega), ⟨by omega, by obtain ⟨A', c', e, h1, h2, _⟩ := own_slice HO.out; injection e with _ _ e; subst e; first | exact ⟨h1, h2⟩ | exact ⟨by simpa using h1, h2⟩⟩, ((HD.out.set_ (by simp) _).set_ (by simp) _).mono (by omega)⟩
  obtain ⟨gl, rfl, hgl1, hgl2⟩ := own_at HO.out (by omega)
  go_upto_region 6 with (first | (go_at_call_of 45 (Value.int IntKind.i64 24); go_must (refine (d_pickp _ _ g (q + 1001) 24 h3.begin (by omega) (by omega)).mono ?_); rintro e w5 ⟨y, rfl, hy0, hy1, hs5, h5⟩) | (go_at_call 45; go_must (refine (d_pickp _ _ g (q + 1000) ls.length HD.out.begin (by omega) (by omega)).mono ?_); rintro e w3 ⟨k, rfl, hk0, hk1, hs3, h3⟩))
  obtain ⟨kk, rfl⟩ := Int.eq_ofNat_of_zero_le hk0
  have hK : kk < ls.length := by omega
  have HD5 : Hid (DR w B g (q + 1002) w5) := (HD.out.then h3).then h5
  have HR5 : Hid (Blk w5 w.heap.size 25 #[.int .i64 0, .slice none 0 0]) := h5.blk (h3.blk HR.out hrg) hrg
  have HG5 : Hid (Blk w5 g1 25 #[.int .i64 n, .slice (some ⟨gl, 0, none⟩) ls.length cap]) := h5.blk (h3.blk HG.out hgr) hgr
  have HO5 : Hid (w5.ownsRow (w.heap.size + 1) 70 3 (.slice (some ⟨gl, 0, none⟩) ls.length cap) ls.length (lks ls)) := h5.own (h3.own HO.out (by omega)) (by omega)
  clear HD HR HG HO h3 h5 hs3 hs5 hz hgl1 hgl2
  clear q0 q1 qf ql
  clear r0 r1 rf rl
  have hne : ¬ gl = g1 := fun e => own_ne HO5.out HG5.out (by decide) (by simp [Value.ownBlock, e])
  have hne2 : ¬ gl = w.heap.size := fun e => own_ne HO5.out HR5.out (by decide) (by simp [Value.ownBlock, e])
  have q0 := HG5.out.cell 0; have q1 := HG5.out.cell 1; have qf := HG5.out.frozen; have ql := HG5.out.lt
  have r0 := HR5.out.cell 0; have r1 := HR5.out.cell 1; have rf := HR5.out.frozen; have rl := HR5.out.lt
  obtain ⟨hz1, hz2, c0, c1, c2, cf⟩ := Rd3.row HO5.out hK
  have hgl3 : ¬ gl = g := by omega
  rcases cs_bool (y == 0) with y0 | y0
  rcases cs_bool (y == 1) with y1 | y1
  rcases cs_bool (y == 2) with y2 | y2
  rcases cs_bool (y == 3) with y3 | y3
  · go_wp2_with fail
    (try simp only [Exit.inBlock, Exit.then])
    refine bodyPost_ret (v := .agg #[.int .i64 n, .slice (some ⟨gl, 0, none⟩) ls.length cap]) (by simp only [results, Try.results29]; go_simp) rfl ?_
    exact spoilt_fin HO5.out rl (by omega) (by omega) (HD5.out.mono (by omega)) _ _
  · -- a link twice
    obtain rfl : y = 3 := by simpa using y3
    go_wp2_with fail
    refine wp_plan 8 [(0, true), (1, true), (2, true), (3, true), (4, true), (5, true), (6, true), (7, false)] (by kernel_rfl) (by kernel_rfl) fun hx9 => ?_
    simp only [picked, List.filterMap_cons, List.filterMap_nil, List.getElem?_cons_zero, List.getElem?_cons_succ, Option.map_some, List.drop_succ_cons, List.drop_zero]
    repeat (first | refine wpPlan_skip rfl ?_ | (refine wpPlan_val rfl rfl (fun K hK => ?_); go_big_quiet_op; refine hK _ ?_; clear hK K))
    try refine wpPlan_nil ?_
    refine wpPlan_eff rfl rfl (fun K hK => ?_); unfold Oper.wp; go_simp
    refine hK _ _ ⟨⟨_, (Below.refl _ _).drew.alloc (by simp) _⟩, rfl⟩ ?_
    clear hK K
    repeat (first | refine wpPlan_skip rfl ?_ | (refine wpPlan_val rfl rfl (fun K hK => ?_); go_big_quiet_op; refine hK _ ?_; clear hK K))
    try refine wpPlan_nil ?_
    go_wp2_with (at_builtin; go_must (refine wpl_app el_Link rfl (.tmp 48) (.tmp 54) rfl (w.heap.size + 1) _ ls.length _ rfl (World.ownsRow.alloc (own_below HO5.out (Below.refl _ _).drew) _) _ 1 [_, _, _] rfl rfl (heap_alloc_new _ _) (by simp [Value.oneCell']) (by omega) (by simp; omega) ?_; intro v1 w8 hown1 hg1 hor; clear hor; obtain ⟨A1, cap1, rfl, _, _, _⟩ := own_slice hown1; have HG8 := ((HG5.out.drew).alloc _).grown (show World.grownBy _ w8 (some gl) from hg1) (fun e => hne (by injection e)); have g80 := HG8.cell 0; have g81 := HG8.cell 1; have g8f := HG8.frozen; have g8l := HG8.lt; have HR8 := ((HR5.out.drew).alloc _).grown (show World.grownBy _ w8 (some gl) from hg1) (fun e => hne2 (by injection e)); have r80 := HR8.cell 0; have r81 := HR8.cell 1; have r8f := HR8.frozen; have r8l := HR8.lt; have HD8 := Lib.hid ((HD5.out.drew.alloc _).grown (show World.grownBy _ w8 (some gl) from hg1) (fun b e => by injection e with e; omega)); have HN8 := Lib.hid (own_ne hown1 HG8 (by decide)); have HO8 := Lib.hid hown1; clear hown1))
    (try simp only [Exit.inBlock, Exit.then])
    refine bodyPost_ret (v := .agg #[.int .i64 n, .slice A1 (ls.length + 1) cap1]) (by simp only [results, Try.results29]; go_simp) rfl ?_
    have hO := HO8.out.kept (only_setCell (g := g1) (only_of_below (Below.refl _ _) _) (p := ⟨g1, 1, none⟩) (.inl rfl) (.slice A1 (ls.length + 1) cap1)) (.inr HN8.out)
    have h2 := spoilt_fin (w := w) (B := B) (g := g) (q := q + 1010) (ls := ls ++ [lk ls kk]) (n := n) (by simpa [lks, Lk.row, lk] using hO) (by simp; omega) (by omega) (by simp; omega) ((HD8.out.set_ (by simp; omega) _).mono (by omega)) (.int .i64 n) (.slice A1 (ls.length + 1) cap1)
    simpa using h2
  · -- other nodes
    obtain rfl : y = 2 := by simpa using y2
    go_wp2_with (first | (go_at_call 45; go_must (refine (d_pickp _ _ g (q + 1002) 10 HD5.out.begin (by omega) (by omega)).mono ?_); rintro e w6 ⟨x, rfl, hx0, hx1, hs6, h6⟩; have HG6 := h6.blk HG5.out hgr; have g60 := HG6.cell 0; have g61 := HG6.cell 1; have g6f := HG6.frozen; have g6l := HG6.lt; have HR6 := h6.blk HR5.out hrg; have r60 := HR6.cell 0; have r61 := HR6.cell 1; have r6f := HR6.frozen; have r6l := HR6.lt; have HS := Lib.hid hs6; clear hs6))
    obtain ⟨X, rfl⟩ := Int.eq_ofNat_of_zero_le hx0
    (try simp only [Exit.inBlock, Exit.then])
    refine bodyPost_ret (v := .agg #[.int .i64 X, .slice (some ⟨gl, 0, none⟩) ls.length cap]) (by simp only [results, Try.results29]; go_simp) rfl ?_
    exact spoilt_fin (((h6.own HO5.out (by omega))).kept (only_setCell (only_of_below (Below.refl _ _) _) (.inl rfl) _) (.inr (by simp [Value.ownBlock]; omega))) (by simp; omega) (by omega) (by omega) (((HD5.out.then h6).set_ (by simp; omega) _).mono (by omega)) _ _
  · -- another end
    obtain rfl : y = 1 := by simpa using y1
    go_wp2_with fail
    refine wp_plan_row g 7 [(0, true), (1, true), (2, true), (3, true), (4, false), (5, true), (6, true)] (by kernel_rfl) (by kernel_rfl) fun hx9 => ?_
    simp only [picked, List.filterMap_cons, List.filterMap_nil, List.getElem?_cons_zero, List.getElem?_cons_succ, Option.map_some, List.drop_succ_cons, List.drop_zero]
    repeat (first | refine wpPlan_skip rfl ?_ | (refine wpPlan_val rfl rfl (fun K hK => ?_); go_big_quiet_op; refine hK _ ?_; clear hK K))
    try refine wpPlan_nil ?_
    refine wpPlan_eff rfl rfl (fun K hK => ?_); unfold Oper.wp; go_simp
    go_must (refine (d_pickp _ _ g (q + 1002) 10 HD5.out.drew.begin (by omega) (by omega)).mono ?_)
    rintro e w6 ⟨x, rfl, hx0, hx1, hs6, h6⟩
    refine hK _ _ ⟨⟨w6, (HD5.out.begin.drew.then h6).1⟩, rfl⟩ ?_
    clear hK K
    repeat (first | refine wpPlan_skip rfl ?_ | (refine wpPlan_val rfl rfl (fun K hK => ?_); go_big_quiet_op; refine hK _ ?_; clear hK K))
    try refine wpPlan_nil ?_
    have HO6 := h6.own (w := w5.drew) HO5.out (by omega)
    have HG6 := h6.blk (w := w5.drew) HG5.out hgr
    have HR6 := h6.blk (w := w5.drew) HR5.out hrg
    obtain ⟨_, _, d0, d1, d2, df⟩ := Rd3.row HO6 hK
    have g60 := HG6.cell 0; have g61 := HG6.cell 1; have g6f := HG6.frozen; have g6l := HG6.lt
    have r60 := HR6.cell 0; have r61 := HR6.cell 1; have r6f := HR6.frozen; have r6l := HR6.lt
    have HS := Lib.hid hs6; clear hs6
    go_wp2_with fail
    (try simp only [Exit.inBlock, Exit.then])
    refine bodyPost_ret (v := .agg #[.int .i64 n, .slice (some ⟨gl, 0, none⟩) ls.length cap]) (by simp only [results, Try.results29]; go_simp) rfl ?_
    obtain ⟨ls', hl', hO'⟩ := own_setL HO6 kk 1 (by omega) x
    rw [← hl'] at hO' ⊢
    exact spoilt_fin hO' (by simp; omega) (by omega) (by omega) (((HD5.out.drew.then h6).set_ (by simp; omega) _).mono (by omega)) _ _
  · -- another cost
    obtain rfl : y = 0 := by simpa using y0
    go_wp2_with fail
    refine wp_tree_row g 10 (Tr.val 0 (Tr.val 1 (Tr.val 2 (Tr.val 4 (Tr.two 3 (Tr.one 5 (Tr.val 6 (Tr.one 7 (Tr.val 8 (Tr.val 9 Tr.done))))) 5 (Tr.one 3 (Tr.val 6 (Tr.one 7 (Tr.val 8 (Tr.val 9 Tr.done)))))))))) (by kernel_rfl) (by kernel_rfl) fun hx9 => ?_
    obtain ⟨wd, hwd⟩ : ∃ wd : World, wd = w5.drew := ⟨_, rfl⟩
    rw [← hwd]
    have HDd : DR w B g (q + 1002) wd := hwd ▸ HD5.out.drew
    have HOd : wd.ownsRow (w.heap.size + 1) 70 3 (.slice (some ⟨gl, 0, none⟩) ls.length cap) ls.length (lks ls) := by rw [hwd]; exact HO5.out
    have HGd : Blk wd g1 25 #[.int .i64 n, .slice (some ⟨gl, 0, none⟩) ls.length cap] := by rw [hwd]; exact HG5.out
    have HRd : Blk wd w.heap.size 25 #[.int .i64 0, .slice none 0 0] := by rw [hwd]; exact HR5.out
    have HLd : w5.grownBy wd (some g) := hwd ▸ only_drew (only_of_below (Below.refl _ w5) (some g))
    clear hwd
    simp only [look, List.getElem?_cons_zero, List.getElem?_cons_succ, List.drop_succ_cons, List.drop_zero]
    repeat (first | refine wpTO_skipv rfl ?_ | refine wpTO_skip1 rfl ?_ | (refine wpTO_val rfl (fun K hK => ?_); go_big_quiet_op; refine hK _ ?_; clear hK K))
    try refine wpTO_done ?_
    refine wpTO_two ?_ ?_
    · skip
      repeat (first | refine wpTO_skipv rfl ?_ | refine wpTO_skip1 rfl ?_ | (refine wpTO_val rfl (fun K hK => ?_); go_big_quiet_op; refine hK _ ?_; clear hK K))
      try refine wpTO_done ?_
      refine wpTO_one rfl (fun K hK => ?_); unfold Oper.wp; go_simp
      have DA : DR w B g (q + 1002) (wd.alloc (.cells #[.int .i64 0, .int .i64 20, .int .i64 21] 3)) := HDd.alloc _
      refine hK _ _ ⟨⟨_, only_alloc HLd _⟩, rfl⟩ ?_
      clear hK K
      repeat (first | refine wpTO_skipv rfl ?_ | refine wpTO_skip1 rfl ?_ | (refine wpTO_val rfl (fun K hK => ?_); go_big_quiet_op; refine hK _ ?_; clear hK K))
      try refine wpTO_done ?_
      refine wpTO_one rfl (fun K hK => ?_); unfold Oper.wp; go_simp
      go_must (refine (d_pickp _ _ g (q + 1002) 3 DA.begin (by omega) (by omega)).mono ?_)
      rintro e w6 ⟨x, rfl, hx0, hx1, hs6, h6⟩
      have hgX : ¬ wd.heap.size = g := by have := HDd.size; omega
      have hk6 : Blk w6 wd.heap.size 3 #[.int .i64 0, .int .i64 20, .int .i64 21] := h6.blk (Blk.new wd _ _) hgX
      have HD6 := (DA.then h6).mono (q' := q + 1003) (by omega)
      have hlat := only_trans (only_alloc HLd (.cells #[.int .i64 0, .int .i64 20, .int .i64 21] 3)) h6.1 (fun i e => .inl e)
      have HO6 := h6.own (HOd.alloc _) (by omega)
      have HG6 := h6.blk (HGd.alloc _) hgr
      have HR6 := h6.blk (HRd.alloc _) hrg
      refine hK _ _ ⟨⟨w6, hlat⟩, rfl⟩ ?_
      clear hK K hs6
      generalize wd.heap.size = bX at *
      obtain ⟨X, rfl⟩ := Int.eq_ofNat_of_zero_le hx0
      obtain ⟨u, hu⟩ := three_at hk6 (k := X) (by omega)
      have lX := hk6.lt
      obtain ⟨_, _, d0, d1, d2, df⟩ := Rd3.row HO6 hK
      have g60 := HG6.cell 0; have g61 := HG6.cell 1; have g6f := HG6.frozen; have g6l := HG6.lt
      have r60 := HR6.cell 0; have r61 := HR6.cell 1; have r6f := HR6.frozen; have r6l := HR6.lt
      clear hk6 h6
      repeat (first | refine wpTO_skipv rfl ?_ | refine wpTO_skip1 rfl ?_ | (refine wpTO_val rfl (fun K hK => ?_); go_big_quiet_op; refine hK _ ?_; clear hK K))
      try refine wpTO_done ?_
      refine wpTO_one rfl (fun K hK => ?_); unfold Oper.wp; go_simp
      refine hK _ _ ⟨⟨w6, hlat⟩, rfl⟩ ?_
      clear hK K
      repeat (first | refine wpTO_skipv rfl ?_ | refine wpTO_skip1 rfl ?_ | (refine wpTO_val rfl (fun K hK => ?_); go_big_quiet_op; refine hK _ ?_; clear hK K))
      try refine wpTO_done ?_
      go_wp2_with fail
      (try simp only [Exit.inBlock, Exit.then])
      refine bodyPost_ret (v := .agg #[.int .i64 n, .slice (some ⟨gl, 0, none⟩) ls.length cap]) (by simp only [results, Try.results29]; go_simp) rfl ?_
      obtain ⟨ls', hl', hO'⟩ := own_setL HO6 kk 2 (by omega) u
      rw [← hl'] at hO' ⊢
      exact spoilt_fin hO' (by simp; omega) (by omega) (by omega) ((HD6.set_ (by simp; omega) _).mono (by omega)) _ _
    · skip
      repeat (first | refine wpTO_skipv rfl ?_ | refine wpTO_skip1 rfl ?_ | (refine wpTO_val rfl (fun K hK => ?_); go_big_quiet_op; refine hK _ ?_; clear hK K))
      try refine wpTO_done ?_
      refine wpTO_one rfl (fun K hK => ?_); unfold Oper.wp; go_simp
      go_must (refine (d_pickp _ _ g (q + 1002) 3 HDd.begin (by omega) (by omega)).mono ?_)
      rintro e w4 ⟨x, rfl, hx0, hx1, hs4, h4⟩
      clear hs4
      refine hK _ _ ⟨⟨w4, only_trans HLd h4.1 (fun i e => .inl e)⟩, rfl⟩ ?_
      clear hK K
      have hk6 := Blk.new w4 3 #[.int .i64 0, .int .i64 20, .int .i64 21]
      have h6 := h4.alloc (.cells #[.int .i64 0, .int .i64 20, .int .i64 21] 3)
      repeat (first | refine wpTO_skipv rfl ?_ | refine wpTO_skip1 rfl ?_ | (refine wpTO_val rfl (fun K hK => ?_); go_big_quiet_op; refine hK _ ?_; clear hK K))
      try refine wpTO_done ?_
      refine wpTO_one rfl (fun K hK => ?_); unfold Oper.wp; go_simp
      have HD6 := (HDd.then h6).mono (q' := q + 1003) (by omega)
      have hlat := only_trans HLd h6.1 (fun i e => .inl e)
      have HO6 := h6.own HOd (by omega)
      have HG6 := h6.blk HGd hgr
      have HR6 := h6.blk HRd hrg
      have hgX : ¬ w4.heap.size = g := by have e1 := h4.size; have e2 := h4.glt; omega
      refine hK _ _ ⟨⟨_, hlat⟩, rfl⟩ ?_
      clear hK K
      generalize w4.alloc (.cells #[.int .i64 0, .int .i64 20, .int .i64 21] 3) = w6 at *
      clear h4
      generalize w4.heap.size = bX at *
      obtain ⟨X, rfl⟩ := Int.eq_ofNat_of_zero_le hx0
      obtain ⟨u, hu⟩ := three_at hk6 (k := X) (by omega)
      have lX := hk6.lt
      obtain ⟨_, _, d0, d1, d2, df⟩ := Rd3.row HO6 hK
      have g60 := HG6.cell 0; have g61 := HG6.cell 1; have g6f := HG6.frozen; have g6l := HG6.lt
      have r60 := HR6.cell 0; have r61 := HR6.cell 1; have r6f := HR6.frozen; have r6l := HR6.lt
      clear hk6 h6
      repeat (first | refine wpTO_skipv rfl ?_ | refine wpTO_skip1 rfl ?_ | (refine wpTO_val rfl (fun K hK => ?_); go_big_quiet_op; refine hK _ ?_; clear hK K))
      try refine wpTO_done ?_
      refine wpTO_one rfl (fun K hK => ?_); unfold Oper.wp; go_simp
      refine hK _ _ ⟨⟨w6, hlat⟩, rfl⟩ ?_
      clear hK K
      repeat (first | refine wpTO_skipv rfl ?_ | refine wpTO_skip1 rfl ?_ | (refine wpTO_val rfl (fun K hK => ?_); go_big_quiet_op; refine hK _ ?_; clear hK K))
      try refine wpTO_done ?_
      go_wp2_with fail
      (try simp only [Exit.inBlock, Exit.then])
      refine bodyPost_ret (v := .agg #[.int .i64 n, .slice (some ⟨gl, 0, none⟩) ls.length cap]) (by simp only [results, Try.results29]; go_simp) rfl ?_
      obtain ⟨ls', hl', hO'⟩ := own_setL HO6 kk 2 (by omega) u
      rw [← hl'] at hO' ⊢
      exact spoilt_fin hO' (by simp; omega) (by omega) (by omega) ((HD6.set_ (by simp; omega) _).mono (by omega)) _ _
end Go.Proofs.Ytkeihpihphefgaa
