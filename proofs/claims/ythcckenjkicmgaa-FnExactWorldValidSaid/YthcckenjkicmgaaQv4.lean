/- Part 4 of the proof: KW SX KX SE KE Pa Pb Pq Pk1 Pr Ps Py Pe1 Pe2 Pz Px Pw1 Pw3 Pw5 Pw8 Pe3 Pe4 Pe5 Pe7. -/
import Derived.Test.YthcckenjkicmgaaQv3
set_option linter.unusedSimpArgs false
set_option linter.unusedVariables false
section
namespace Go.Proofs.Ythcckenjkicmgaa
open Go.RowKit
set_option maxRecDepth 100000
def L_spec_l51Same_4 : Loop := ⟨⟨[2, 3, 5], ⟨[.c (.one (.ptr 0 0)), .c (.one (.ptr 1 0)), .c (.one (.b (.int .i64)))], [.box 89 [(.b (.int .i64)), (.b (.int .i64)), (.b (.sl false .en))], .box 89 [(.b (.int .i64)), (.b (.int .i64)), (.b (.sl false .en))]]⟩, [.int, .int, .int, .ls .en, .int, .int, .ls .en]⟩, 0, ⟨[], ⟨[], []⟩, []⟩, ⟨[4], ⟨[.c (.one (.b .bool))], []⟩, [.bool]⟩, lp bo_spec_l51Same_4 fuel⟩
def e_spec_l51Same : Entry := ⟨⟨[.c (.agg [(.b (.int .i64)), (.b (.int .i64)), (.b (.sl false .en))]), .c (.agg [(.b (.int .i64)), (.b (.int .i64)), (.b (.sl false .en))])], []⟩, [.int, .int, .ls .en, .int, .int, .ls .en], ⟨[.c (.one (.b .bool))], []⟩, [.bool], sh_spec_l51Same⟩
def g_spec_l51Same : Env := mkEnv tab [] 45 0 [(6, 10, [(0, true), (1, true), (2, true), (3, true), (4, true), (5, true), (6, true), (7, true), (8, true), (9, true)], [])] [(4, L_spec_l51Same_4)]
theorem t_spec_l51Same : CtrOk Try.prog g_spec_l51Same.Γ := ctr_ok (l := []) trivial
theorem k_spec_l51Same_4 : LoopOk Try.prog 0 45 (nthC (Try.f120.body.getD .skip) 0) L_spec_l51Same_4 := loop_ok (G := g_spec_l51Same) (F := L_spec_l51Same_4.F) (eid := L_spec_l51Same_4.eid) (FX := L_spec_l51Same_4.FX) (FR := L_spec_l51Same_4.FR) (B := bo_spec_l51Same_4) (n := fuel) bad_ok tabOk t_spec_l51Same mixed (code_ok' (G := g_spec_l51Same) (n := 0) (by kernel_rfl) (by kernel_rfl) trivial (by kernel_rfl)) (fun s => by kernel_rfl)
theorem p_spec_l51Same : GC Try.prog 120 e_spec_l51Same := gc_of (G := g_spec_l51Same) (c := Try.f120.body.getD .skip) bad_ok tabOk t_spec_l51Same mixed Try.func120 (by kernel_rfl) Try.ntmps120 (code_ok' (G := g_spec_l51Same) (n := 1) (by kernel_rfl) (by kernel_rfl) ⟨trivial, loop_at (id := 4) (L0 := L_spec_l51Same_4) (by kernel_rfl) (by kernel_rfl) k_spec_l51Same_4⟩ (by kernel_rfl)) (fun s => by kernel_rfl)
def L_spec_l51Truth_3 : Loop := ⟨⟨[1, 2, 3, 4], ⟨[.c (.one (.ptr 0 0)), .c (.one (.ptr 1 0)), .c (.one (.ptr 2 0)), .c (.one (.b (.int .i64)))], [.box 69 [(.b (.int .i64)), (.b (.sl false .lk)), (.b (.sl false .bool)), (.b (.sl false .int)), (.b (.sl false .db)), (.b (.sl false .pk))], .box 25 [(.b (.int .i64)), (.b (.sl true .lk))], .box 25 [(.b (.int .i64)), (.own 3)], .row 105 .lk]⟩, [.int, .int, .ls .lk, .ls .bool, .ls .int, .ls .db, .ls .pk, .int, .ls .lk, .int, .ls .lk]⟩, 0, ⟨[2, 3], ⟨[.c (.one (.ptr 0 0)), .c (.one (.ptr 1 0))], [.box 25 [(.b (.int .i64)), (.b (.sl true .lk))], .box 25 [(.b (.int .i64)), (.own 2)], .row 105 .lk]⟩, [.int, .ls .lk, .int, .ls .lk]⟩, ⟨[999999], ⟨[.c (.one (.own 0))], []⟩, []⟩, lp bo_spec_l51Truth_3 fuel⟩
def e_spec_l51Truth : Entry := ⟨⟨[.c (.agg [(.b (.int .i64)), (.b (.sl false .lk)), (.b (.sl false .bool)), (.b (.sl false .int)), (.b (.sl false .db)), (.b (.sl false .pk))])], []⟩, [.int, .ls .lk, .ls .bool, .ls .int, .ls .db, .ls .pk], ⟨[.c (.agg [(.b (.int .i64)), (.own 0)])], [.row 105 .lk]⟩, [.int, .ls .lk], sh_spec_l51Truth⟩
def g_spec_l51Truth : Env := mkEnv tab [] 34 0 [(6, 9, [(0, true), (1, true), (2, true), (3, true), (4, true), (5, true), (6, true), (7, true), (8, false)], [])] [(3, L_spec_l51Truth_3)]
theorem t_spec_l51Truth : CtrOk Try.prog g_spec_l51Truth.Γ := ctr_ok (l := []) trivial
theorem k_spec_l51Truth_3 : LoopOk Try.prog 0 34 (nthC (Try.f121.body.getD .skip) 0) L_spec_l51Truth_3 := loop_ok (G := g_spec_l51Truth) (F := L_spec_l51Truth_3.F) (eid := L_spec_l51Truth_3.eid) (FX := L_spec_l51Truth_3.FX) (FR := L_spec_l51Truth_3.FR) (B := bo_spec_l51Truth_3) (n := fuel) bad_ok tabOk t_spec_l51Truth mixed (code_ok' (G := g_spec_l51Truth) (n := 0) (by kernel_rfl) (by kernel_rfl) trivial (by kernel_rfl)) (fun s => by kernel_rfl)
theorem p_spec_l51Truth : GC Try.prog 121 e_spec_l51Truth := gc_of (G := g_spec_l51Truth) (c := Try.f121.body.getD .skip) bad_ok tabOk t_spec_l51Truth mixed Try.func121 (by kernel_rfl) Try.ntmps121 (code_ok' (G := g_spec_l51Truth) (n := 1) (by kernel_rfl) (by kernel_rfl) ⟨trivial, loop_at (id := 3) (L0 := L_spec_l51Truth_3) (by kernel_rfl) (by kernel_rfl) k_spec_l51Truth_3⟩ (by kernel_rfl)) (fun s => by kernel_rfl)
def L_spec_DbValid_2 : Loop := ⟨⟨[0, 3], ⟨[.c (.one (.b (.sl false .ls))), .c (.one (.b (.int .i64)))], []⟩, [.ls .ls, .int]⟩, 0, ⟨[], ⟨[], []⟩, []⟩, ⟨[2], ⟨[.c (.one (.b .bool))], []⟩, [.bool]⟩, lp bo_spec_DbValid_2 fuel⟩
def e_spec_DbValid : Entry := ⟨⟨[.c (.one (.b (.sl false .ls)))], []⟩, [.ls .ls], ⟨[.c (.one (.b .bool))], []⟩, [.bool], sh_spec_DbValid⟩
def g_spec_DbValid : Env := mkEnv tab [(103, [], e_spec_LsaValid)] 34 0 [(4, 21, [(0, true), (1, true), (2, true), (3, true), (4, false), (5, true), (6, true), (7, true), (8, true), (9, true), (10, true), (11, true), (12, true), (13, true), (14, true), (15, true), (16, true), (17, true), (18, true), (19, true), (20, true)], [])] [(2, L_spec_DbValid_2)]
theorem t_spec_DbValid : CtrOk Try.prog g_spec_DbValid.Γ := ctr_ok (l := [(103, [], e_spec_LsaValid)]) ⟨⟨p_spec_LsaValid, Try.call103⟩, trivial⟩
theorem k_spec_DbValid_2 : LoopOk Try.prog 0 34 (nthC (Try.f119.body.getD .skip) 0) L_spec_DbValid_2 := loop_ok (G := g_spec_DbValid) (F := L_spec_DbValid_2.F) (eid := L_spec_DbValid_2.eid) (FX := L_spec_DbValid_2.FX) (FR := L_spec_DbValid_2.FR) (B := bo_spec_DbValid_2) (n := fuel) bad_ok tabOk t_spec_DbValid mixed (code_ok' (G := g_spec_DbValid) (n := 0) (by kernel_rfl) (by kernel_rfl) trivial (by kernel_rfl)) (fun s => by kernel_rfl)
theorem p_spec_DbValid : GC Try.prog 119 e_spec_DbValid := gc_of (G := g_spec_DbValid) (c := Try.f119.body.getD .skip) bad_ok tabOk t_spec_DbValid mixed Try.func119 (by kernel_rfl) Try.ntmps119 (code_ok' (G := g_spec_DbValid) (n := 1) (by kernel_rfl) (by kernel_rfl) ⟨trivial, loop_at (id := 2) (L0 := L_spec_DbValid_2) (by kernel_rfl) (by kernel_rfl) k_spec_DbValid_2⟩ (by kernel_rfl)) (fun s => by kernel_rfl)
def L_spec_l51All_3 : Loop := ⟨⟨[1, 3, 4], ⟨[.c (.one (.ptr 0 0)), .c (.one (.own 1)), .c (.one (.b (.int .i64)))], [.box 69 [(.b (.int .i64)), (.b (.sl false .lk)), (.b (.sl false .bool)), (.b (.sl false .int)), (.b (.sl false .db)), (.b (.sl false .pk))], .row 89 .ls]⟩, [.int, .int, .ls .lk, .ls .bool, .ls .int, .ls .db, .ls .pk, .ls .ls]⟩, 0, ⟨[1, 3], ⟨[.c (.one (.ptr 0 0)), .c (.one (.own 1))], [.box 69 [(.b (.int .i64)), (.b (.sl false .lk)), (.b (.sl false .bool)), (.b (.sl false .int)), (.b (.sl false .db)), (.b (.sl false .pk))], .row 89 .ls]⟩, [.int, .ls .lk, .ls .bool, .ls .int, .ls .db, .ls .pk, .ls .ls]⟩, ⟨[999999], ⟨[.c (.one (.own 0))], []⟩, []⟩, lp bo_spec_l51All_3 fuel⟩
def L_spec_l51All_7 : Loop := ⟨⟨[1, 3, 5], ⟨[.c (.one (.ptr 0 0)), .c (.one (.own 1)), .c (.one (.b (.int .i64)))], [.box 69 [(.b (.int .i64)), (.b (.sl false .lk)), (.b (.sl false .bool)), (.b (.sl false .int)), (.b (.sl false .db)), (.b (.sl false .pk))], .row 89 .ls]⟩, [.int, .int, .ls .lk, .ls .bool, .ls .int, .ls .db, .ls .pk, .ls .ls]⟩, 2, ⟨[3], ⟨[.c (.one (.own 0))], [.row 89 .ls]⟩, [.ls .ls]⟩, ⟨[999999], ⟨[.c (.one (.own 0))], []⟩, []⟩, lp bo_spec_l51All_7 fuel⟩
def e_spec_l51All : Entry := ⟨⟨[.c (.agg [(.b (.int .i64)), (.b (.sl false .lk)), (.b (.sl false .bool)), (.b (.sl false .int)), (.b (.sl false .db)), (.b (.sl false .pk))])], []⟩, [.int, .ls .lk, .ls .bool, .ls .int, .ls .db, .ls .pk], ⟨[.c (.one (.own 0))], [.row 89 .ls]⟩, [.ls .ls], sh_spec_l51All⟩
def g_spec_l51All : Env := mkEnv tab [] 38 0 [] [(3, L_spec_l51All_3), (7, L_spec_l51All_7)]
theorem t_spec_l51All : CtrOk Try.prog g_spec_l51All.Γ := ctr_ok (l := []) trivial
theorem k_spec_l51All_3 : LoopOk Try.prog 0 38 (nthC (Try.f83.body.getD .skip) 0) L_spec_l51All_3 := loop_ok (G := g_spec_l51All) (F := L_spec_l51All_3.F) (eid := L_spec_l51All_3.eid) (FX := L_spec_l51All_3.FX) (FR := L_spec_l51All_3.FR) (B := bo_spec_l51All_3) (n := fuel) bad_ok tabOk t_spec_l51All mixed (code_ok' (G := g_spec_l51All) (n := 0) (by kernel_rfl) (by kernel_rfl) trivial (by kernel_rfl)) (fun s => by kernel_rfl)
theorem k_spec_l51All_7 : LoopOk Try.prog 0 38 (nthC (Try.f83.body.getD .skip) 1) L_spec_l51All_7 := loop_ok (G := g_spec_l51All) (F := L_spec_l51All_7.F) (eid := L_spec_l51All_7.eid) (FX := L_spec_l51All_7.FX) (FR := L_spec_l51All_7.FR) (B := bo_spec_l51All_7) (n := fuel) bad_ok tabOk t_spec_l51All mixed (code_ok' (G := g_spec_l51All) (n := 0) (by kernel_rfl) (by kernel_rfl) trivial (by kernel_rfl)) (fun s => by kernel_rfl)
theorem p_spec_l51All : GC Try.prog 83 e_spec_l51All := gc_of (G := g_spec_l51All) (c := Try.f83.body.getD .skip) bad_ok tabOk t_spec_l51All mixed Try.func83 (by kernel_rfl) Try.ntmps83 (code_ok' (G := g_spec_l51All) (n := 2) (by kernel_rfl) (by kernel_rfl) ⟨⟨trivial, loop_at (id := 3) (L0 := L_spec_l51All_3) (by kernel_rfl) (by kernel_rfl) k_spec_l51All_3⟩, loop_at (id := 7) (L0 := L_spec_l51All_7) (by kernel_rfl) (by kernel_rfl) k_spec_l51All_7⟩ (by kernel_rfl)) (fun s => by kernel_rfl)
def L_spec_l51Lsa_4 : Loop := ⟨⟨[2, 3, 5], ⟨[.c (.one (.ptr 0 0)), .c (.one (.ptr 1 0)), .c (.one (.b (.int .i64)))], [.box 69 [(.b (.int .i64)), (.b (.sl false .lk)), (.b (.sl false .bool)), (.b (.sl false .int)), (.b (.sl false .db)), (.b (.sl false .pk))], .box 89 [(.b (.int .i64)), (.b (.int .i64)), (.b (.sl false .en))]]⟩, [.int, .int, .ls .lk, .ls .bool, .ls .int, .ls .db, .ls .pk, .int, .int, .ls .en]⟩, 0, ⟨[2, 3], ⟨[.c (.one (.ptr 0 0)), .c (.one (.ptr 1 0))], [.box 69 [(.b (.int .i64)), (.b (.sl false .lk)), (.b (.sl false .bool)), (.b (.sl false .int)), (.b (.sl false .db)), (.b (.sl false .pk))], .box 89 [(.b (.int .i64)), (.b (.int .i64)), (.b (.sl false .en))]]⟩, [.int, .ls .lk, .ls .bool, .ls .int, .ls .db, .ls .pk, .int, .int, .ls .en]⟩, ⟨[4], ⟨[.c (.one (.b .bool))], []⟩, [.bool]⟩, lp bo_spec_l51Lsa_4 fuel⟩
def e_spec_l51Lsa : Entry := ⟨⟨[.c (.agg [(.b (.int .i64)), (.b (.sl false .lk)), (.b (.sl false .bool)), (.b (.sl false .int)), (.b (.sl false .db)), (.b (.sl false .pk))]), .c (.agg [(.b (.int .i64)), (.b (.int .i64)), (.b (.sl false .en))])], []⟩, [.int, .ls .lk, .ls .bool, .ls .int, .ls .db, .ls .pk, .int, .int, .ls .en], ⟨[.c (.one (.b .bool))], []⟩, [.bool], sh_spec_l51Lsa⟩
def g_spec_l51Lsa : Env := mkEnv tab [(71, [], e_spec_l1Link), (105, [], e_spec_l11Of), (103, [], e_spec_LsaValid), (120, [], e_spec_l51Same), (121, [], e_spec_l51Truth)] 85 0 [(1, 20, [(0, true), (1, false), (2, true), (3, true), (4, true), (5, true), (6, true), (7, true), (8, true), (9, true), (10, true), (11, true), (12, true), (13, true), (14, true), (15, true), (16, true), (17, true), (18, true), (19, true)], []), (6, 10, [(0, true), (1, true), (2, true), (3, true), (4, true), (5, true), (6, true), (7, true), (8, true), (9, true)], []), (7, 16, [(0, true), (1, true), (2, true), (3, true), (4, true), (5, true), (6, true), (7, true), (8, true), (9, true), (10, true), (11, true), (12, true), (13, true), (14, true), (15, true)], []), (9, 18, [(0, true), (1, true), (2, true), (3, true), (4, true), (5, true), (6, true), (7, true), (8, true), (9, true), (10, true), (11, true), (13, true), (14, true), (15, true), (16, true), (12, false), (17, false)], [])] [(4, L_spec_l51Lsa_4)]
theorem t_spec_l51Lsa : CtrOk Try.prog g_spec_l51Lsa.Γ := ctr_ok (l := [(71, [], e_spec_l1Link), (105, [], e_spec_l11Of), (103, [], e_spec_LsaValid), (120, [], e_spec_l51Same), (121, [], e_spec_l51Truth)]) ⟨⟨p_spec_l1Link, Try.call71⟩, ⟨⟨p_spec_l11Of, Try.call105⟩, ⟨⟨p_spec_LsaValid, Try.call103⟩, ⟨⟨p_spec_l51Same, Try.call120⟩, ⟨⟨p_spec_l51Truth, Try.call121⟩, trivial⟩⟩⟩⟩⟩
theorem k_spec_l51Lsa_4 : LoopOk Try.prog 0 85 (nthC (Try.f84.body.getD .skip) 0) L_spec_l51Lsa_4 := loop_ok (G := g_spec_l51Lsa) (F := L_spec_l51Lsa_4.F) (eid := L_spec_l51Lsa_4.eid) (FX := L_spec_l51Lsa_4.FX) (FR := L_spec_l51Lsa_4.FR) (B := bo_spec_l51Lsa_4) (n := fuel) bad_ok tabOk t_spec_l51Lsa mixed (code_ok' (G := g_spec_l51Lsa) (n := 0) (by kernel_rfl) (by kernel_rfl) trivial (by kernel_rfl)) (fun s => by kernel_rfl)
theorem p_spec_l51Lsa : GC Try.prog 84 e_spec_l51Lsa := gc_of (G := g_spec_l51Lsa) (c := Try.f84.body.getD .skip) bad_ok tabOk t_spec_l51Lsa mixed Try.func84 (by kernel_rfl) Try.ntmps84 (code_ok' (G := g_spec_l51Lsa) (n := 1) (by kernel_rfl) (by kernel_rfl) ⟨trivial, loop_at (id := 4) (L0 := L_spec_l51Lsa_4) (by kernel_rfl) (by kernel_rfl) k_spec_l51Lsa_4⟩ (by kernel_rfl)) (fun s => by kernel_rfl)
def L_spec_l51Shape_4 : Loop := ⟨⟨[1, 3], ⟨[.c (.one (.ptr 0 0)), .c (.one (.b (.int .i64)))], [.box 69 [(.b (.int .i64)), (.b (.sl false .lk)), (.b (.sl false .bool)), (.b (.sl false .int)), (.b (.sl false .db)), (.b (.sl false .pk))]]⟩, [.int, .int, .ls .lk, .ls .bool, .ls .int, .ls .db, .ls .pk]⟩, 0, ⟨[], ⟨[], []⟩, []⟩, ⟨[2], ⟨[.c (.one (.b .bool))], []⟩, [.bool]⟩, lp bo_spec_l51Shape_4 fuel⟩
def e_spec_l51Shape : Entry := ⟨⟨[.c (.agg [(.b (.int .i64)), (.b (.sl false .lk)), (.b (.sl false .bool)), (.b (.sl false .int)), (.b (.sl false .db)), (.b (.sl false .pk))])], []⟩, [.int, .ls .lk, .ls .bool, .ls .int, .ls .db, .ls .pk], ⟨[.c (.one (.b .bool))], []⟩, [.bool], sh_spec_l51Shape⟩
def g_spec_l51Shape : Env := mkEnv tab [(86, [], e_spec_l6In), (72, [], e_spec_GraphValid), (119, [], e_spec_DbValid)] 65 0 [] [(4, L_spec_l51Shape_4)]
theorem t_spec_l51Shape : CtrOk Try.prog g_spec_l51Shape.Γ := ctr_ok (l := [(86, [], e_spec_l6In), (72, [], e_spec_GraphValid), (119, [], e_spec_DbValid)]) ⟨⟨p_spec_l6In, Try.call86⟩, ⟨⟨p_spec_GraphValid, Try.call72⟩, ⟨⟨p_spec_DbValid, Try.call119⟩, trivial⟩⟩⟩
theorem k_spec_l51Shape_4 : LoopOk Try.prog 0 65 (nthC (Try.f81.body.getD .skip) 0) L_spec_l51Shape_4 := loop_ok (G := g_spec_l51Shape) (F := L_spec_l51Shape_4.F) (eid := L_spec_l51Shape_4.eid) (FX := L_spec_l51Shape_4.FX) (FR := L_spec_l51Shape_4.FR) (B := bo_spec_l51Shape_4) (n := fuel) bad_ok tabOk t_spec_l51Shape mixed (code_ok' (G := g_spec_l51Shape) (n := 0) (by kernel_rfl) (by kernel_rfl) trivial (by kernel_rfl)) (fun s => by kernel_rfl)
theorem p_spec_l51Shape : GC Try.prog 81 e_spec_l51Shape := gc_of (G := g_spec_l51Shape) (c := Try.f81.body.getD .skip) bad_ok tabOk t_spec_l51Shape mixed Try.func81 (by kernel_rfl) Try.ntmps81 (code_ok' (G := g_spec_l51Shape) (n := 1) (by kernel_rfl) (by kernel_rfl) ⟨trivial, loop_at (id := 4) (L0 := L_spec_l51Shape_4) (by kernel_rfl) (by kernel_rfl) k_spec_l51Shape_4⟩ (by kernel_rfl)) (fun s => by kernel_rfl)
def e_impl_World_truth_1 : Entry := ⟨⟨[.c (.one (.b (.int .i64))), .c (.agg [(.b (.int .i64)), (.b (.int .i64)), (.b (.int .i64))]), .c (.one (.at_ [(.int .i64), (.sl false .lk), (.sl false .bool), (.sl false .int), (.sl false .db), (.sl false .pk)] 0))], []⟩, [.int, .int, .int, .int, .int, .ls .lk, .ls .bool, .ls .int, .ls .db, .ls .pk], ⟨[.c (.one (.b .bool))], []⟩, [.bool], sh_impl_World_truth_1⟩
def g_impl_World_truth_1 : Env := mkEnv tab [] 11 0 [] []
theorem t_impl_World_truth_1 : CtrOk Try.prog g_impl_World_truth_1.Γ := ctr_ok (l := []) trivial
theorem p_impl_World_truth_1 : GC Try.prog 140 e_impl_World_truth_1 := gc_of (G := g_impl_World_truth_1) (c := Try.f140.body.getD .skip) bad_ok tabOk t_impl_World_truth_1 mixed Try.func140 (by kernel_rfl) Try.ntmps140 (code_ok' (G := g_impl_World_truth_1) (n := 0) (by kernel_rfl) (by kernel_rfl) trivial (by kernel_rfl)) (fun s => by kernel_rfl)
def L_spec_l51One_5 : Loop := ⟨⟨[0, 3, 4], ⟨[.c (.one (.b (.sl false .ls))), .c (.one (.b (.int .i64))), .c (.one (.b (.int .i64)))], []⟩, [.ls .ls, .int, .int]⟩, 2, ⟨[0, 3], ⟨[.c (.one (.b (.sl false .ls))), .c (.one (.b (.int .i64)))], []⟩, [.ls .ls, .int]⟩, ⟨[2], ⟨[.c (.one (.b .bool))], []⟩, [.bool]⟩, lp bo_spec_l51One_5 fuel⟩
def L_spec_l51One_2 : Loop := ⟨⟨[0, 3], ⟨[.c (.one (.b (.sl false .ls))), .c (.one (.b (.int .i64)))], []⟩, [.ls .ls, .int]⟩, 0, ⟨[], ⟨[], []⟩, []⟩, ⟨[2], ⟨[.c (.one (.b .bool))], []⟩, [.bool]⟩, lp bo_spec_l51One_2 fuel⟩
def e_spec_l51One : Entry := ⟨⟨[.c (.one (.b (.sl false .ls)))], []⟩, [.ls .ls], ⟨[.c (.one (.b .bool))], []⟩, [.bool], sh_spec_l51One⟩
def g_spec_l51One : Env := mkEnv tab [(120, [], e_spec_l51Same)] 52 0 [(7, 33, [(0, true), (1, true), (2, true), (3, true), (4, true), (5, true), (6, true), (7, true), (8, true), (9, true), (10, true), (11, true), (12, true), (13, true), (14, true), (15, true), (16, true), (17, true), (18, true), (19, true), (20, true), (21, true), (22, true), (23, true), (24, true), (25, true), (26, true), (27, true), (28, true), (29, true), (30, true), (31, true), (32, true)], [])] [(5, L_spec_l51One_5), (2, L_spec_l51One_2)]
theorem t_spec_l51One : CtrOk Try.prog g_spec_l51One.Γ := ctr_ok (l := [(120, [], e_spec_l51Same)]) ⟨⟨p_spec_l51Same, Try.call120⟩, trivial⟩
theorem k_spec_l51One_5 : LoopOk Try.prog 0 52 (nthC (nthC (Try.f82.body.getD .skip) 0) 0) L_spec_l51One_5 := loop_ok (G := g_spec_l51One) (F := L_spec_l51One_5.F) (eid := L_spec_l51One_5.eid) (FX := L_spec_l51One_5.FX) (FR := L_spec_l51One_5.FR) (B := bo_spec_l51One_5) (n := fuel) bad_ok tabOk t_spec_l51One mixed (code_ok' (G := g_spec_l51One) (n := 0) (by kernel_rfl) (by kernel_rfl) trivial (by kernel_rfl)) (fun s => by kernel_rfl)
theorem k_spec_l51One_2 : LoopOk Try.prog 0 52 (nthC (Try.f82.body.getD .skip) 0) L_spec_l51One_2 := loop_ok (G := g_spec_l51One) (F := L_spec_l51One_2.F) (eid := L_spec_l51One_2.eid) (FX := L_spec_l51One_2.FX) (FR := L_spec_l51One_2.FR) (B := bo_spec_l51One_2) (n := fuel) bad_ok tabOk t_spec_l51One mixed (code_ok' (G := g_spec_l51One) (n := 1) (by kernel_rfl) (by kernel_rfl) ⟨trivial, loop_at (id := 5) (L0 := L_spec_l51One_5) (by kernel_rfl) (by kernel_rfl) k_spec_l51One_5⟩ (by kernel_rfl)) (fun s => by kernel_rfl)
theorem p_spec_l51One : GC Try.prog 82 e_spec_l51One := gc_of (G := g_spec_l51One) (c := Try.f82.body.getD .skip) bad_ok tabOk t_spec_l51One mixed Try.func82 (by kernel_rfl) Try.ntmps82 (code_ok' (G := g_spec_l51One) (n := 1) (by kernel_rfl) (by kernel_rfl) ⟨trivial, loop_at (id := 2) (L0 := L_spec_l51One_2) (by kernel_rfl) (by kernel_rfl) k_spec_l51One_2⟩ (by kernel_rfl)) (fun s => by kernel_rfl)
def L_slices_Equal_impl_End_impl_End_4 : Loop := ⟨⟨[0, 1, 12, 13], ⟨[.c (.one (.b (.sl false .en))), .c (.one (.b (.sl false .en))), .c (.one (.b (.int .i64))), .c (.one (.b (.int .i64)))], []⟩, [.ls .en, .ls .en, .int, .int]⟩, 0, ⟨[], ⟨[], []⟩, []⟩, ⟨[4], ⟨[.c (.one (.b .bool))], []⟩, [.bool]⟩, lp bo_slices_Equal_impl_End_impl_End_4 fuel⟩
def e_slices_Equal_impl_End_impl_End : Entry := ⟨⟨[.c (.one (.b (.sl false .en))), .c (.one (.b (.sl false .en)))], []⟩, [.ls .en, .ls .en], ⟨[.c (.one (.b .bool))], []⟩, [.bool], sh_slices_Equal_impl_End_impl_End⟩
def g_slices_Equal_impl_End_impl_End : Env := mkEnv tab [] 26 0 [(6, 8, [(0, true), (1, true), (2, true), (3, true), (4, true), (5, true), (6, true), (7, true)], [])] [(4, L_slices_Equal_impl_End_impl_End_4)]
theorem t_slices_Equal_impl_End_impl_End : CtrOk Try.prog g_slices_Equal_impl_End_impl_End.Γ := ctr_ok (l := []) trivial
theorem k_slices_Equal_impl_End_impl_End_4 : LoopOk Try.prog 0 26 (nthC (Try.f129.body.getD .skip) 0) L_slices_Equal_impl_End_impl_End_4 := loop_ok (G := g_slices_Equal_impl_End_impl_End) (F := L_slices_Equal_impl_End_impl_End_4.F) (eid := L_slices_Equal_impl_End_impl_End_4.eid) (FX := L_slices_Equal_impl_End_impl_End_4.FX) (FR := L_slices_Equal_impl_End_impl_End_4.FR) (B := bo_slices_Equal_impl_End_impl_End_4) (n := fuel) bad_ok tabOk t_slices_Equal_impl_End_impl_End mixed (code_ok' (G := g_slices_Equal_impl_End_impl_End) (n := 0) (by kernel_rfl) (by kernel_rfl) trivial (by kernel_rfl)) (fun s => by kernel_rfl)
theorem p_slices_Equal_impl_End_impl_End : GC Try.prog 129 e_slices_Equal_impl_End_impl_End := gc_of (G := g_slices_Equal_impl_End_impl_End) (c := Try.f129.body.getD .skip) bad_ok tabOk t_slices_Equal_impl_End_impl_End mixed Try.func129 (by kernel_rfl) Try.ntmps129 (code_ok' (G := g_slices_Equal_impl_End_impl_End) (n := 1) (by kernel_rfl) (by kernel_rfl) ⟨trivial, loop_at (id := 4) (L0 := L_slices_Equal_impl_End_impl_End_4) (by kernel_rfl) (by kernel_rfl) k_slices_Equal_impl_End_impl_End_4⟩ (by kernel_rfl)) (fun s => by kernel_rfl)
def L_impl_Graph_keep_truth_1_3 : Loop := ⟨⟨[1, 4, 5, 12, 13, 14], ⟨[.c (.fn 140 [(.at_ [(.int .i64), (.sl false .lk), (.sl false .bool), (.sl false .int), (.sl false .db), (.sl false .pk)] 0)]), .c (.one (.ptr 0 0)), .c (.one (.ptr 1 0)), .c (.one (.b (.sl false .lk))), .c (.one (.b (.int .i64))), .c (.one (.b (.int .i64)))], [.box 25 [(.b (.int .i64)), (.own 2)], .box 25 [(.b (.int .i64)), (.own 3)], .row 105 .lk, .row 105 .lk]⟩, [.int, .ls .lk, .ls .bool, .ls .int, .ls .db, .ls .pk, .ls .lk, .int, .int, .int, .int, .ls .lk, .ls .lk]⟩, 0, ⟨[4, 5], ⟨[.c (.one (.ptr 0 0)), .c (.one (.ptr 1 0))], [.box 25 [(.b (.int .i64)), (.own 2)], .box 25 [(.b (.int .i64)), (.own 3)], .row 105 .lk, .row 105 .lk]⟩, [.int, .int, .ls .lk, .ls .lk]⟩, ⟨[999999], ⟨[.c (.one (.own 0))], []⟩, []⟩, lp bo_impl_Graph_keep_truth_1_3 fuel⟩
def e_impl_Graph_keep_truth_1 : Entry := ⟨⟨[.c (.agg [(.b (.int .i64)), (.b (.sl false .lk))]), .c (.fn 140 [(.at_ [(.int .i64), (.sl false .lk), (.sl false .bool), (.sl false .int), (.sl false .db), (.sl false .pk)] 0)])], []⟩, [.int, .ls .lk, .int, .ls .lk, .ls .bool, .ls .int, .ls .db, .ls .pk], ⟨[.c (.agg [(.b (.int .i64)), (.own 0)])], [.row 105 .lk]⟩, [.int, .ls .lk], sh_impl_Graph_keep_truth_1⟩
def g_impl_Graph_keep_truth_1 : Env := mkEnv tab [(140, [], e_impl_World_truth_1)] 31 0 [] [(3, L_impl_Graph_keep_truth_1_3)]
theorem t_impl_Graph_keep_truth_1 : CtrOk Try.prog g_impl_Graph_keep_truth_1.Γ := ctr_ok (l := [(140, [], e_impl_World_truth_1)]) ⟨⟨p_impl_World_truth_1, Try.call140⟩, trivial⟩
theorem k_impl_Graph_keep_truth_1_3 : LoopOk Try.prog 0 31 (nthC (Try.f139.body.getD .skip) 0) L_impl_Graph_keep_truth_1_3 := loop_ok (G := g_impl_Graph_keep_truth_1) (F := L_impl_Graph_keep_truth_1_3.F) (eid := L_impl_Graph_keep_truth_1_3.eid) (FX := L_impl_Graph_keep_truth_1_3.FX) (FR := L_impl_Graph_keep_truth_1_3.FR) (B := bo_impl_Graph_keep_truth_1_3) (n := fuel) bad_ok tabOk t_impl_Graph_keep_truth_1 mixed (code_ok' (G := g_impl_Graph_keep_truth_1) (n := 0) (by kernel_rfl) (by kernel_rfl) trivial (by kernel_rfl)) (fun s => by kernel_rfl)
theorem p_impl_Graph_keep_truth_1 : GC Try.prog 139 e_impl_Graph_keep_truth_1 := gc_of (G := g_impl_Graph_keep_truth_1) (c := Try.f139.body.getD .skip) bad_ok tabOk t_impl_Graph_keep_truth_1 mixed Try.func139 (by kernel_rfl) Try.ntmps139 (code_ok' (G := g_impl_Graph_keep_truth_1) (n := 1) (by kernel_rfl) (by kernel_rfl) ⟨trivial, loop_at (id := 3) (L0 := L_impl_Graph_keep_truth_1_3) (by kernel_rfl) (by kernel_rfl) k_impl_Graph_keep_truth_1_3⟩ (by kernel_rfl)) (fun s => by kernel_rfl)
def e_impl_sameLsa : Entry := ⟨⟨[.c (.agg [(.b (.int .i64)), (.b (.int .i64)), (.b (.sl false .en))]), .c (.agg [(.b (.int .i64)), (.b (.int .i64)), (.b (.sl false .en))])], []⟩, [.int, .int, .ls .en, .int, .int, .ls .en], ⟨[.c (.one (.b .bool))], []⟩, [.bool], sh_impl_sameLsa⟩
def g_impl_sameLsa : Env := mkEnv tab [(129, [], e_slices_Equal_impl_End_impl_End)] 24 0 [] []
theorem t_impl_sameLsa : CtrOk Try.prog g_impl_sameLsa.Γ := ctr_ok (l := [(129, [], e_slices_Equal_impl_End_impl_End)]) ⟨⟨p_slices_Equal_impl_End_impl_End, Try.call129⟩, trivial⟩
theorem p_impl_sameLsa : GC Try.prog 97 e_impl_sameLsa := gc_of (G := g_impl_sameLsa) (c := Try.f97.body.getD .skip) bad_ok tabOk t_impl_sameLsa mixed Try.func97 (by kernel_rfl) Try.ntmps97 (code_ok' (G := g_impl_sameLsa) (n := 0) (by kernel_rfl) (by kernel_rfl) trivial (by kernel_rfl)) (fun s => by kernel_rfl)
def e_impl_WorldValid_1 : Entry := ⟨⟨[.c (.agg [(.b (.int .i64)), (.b (.int .i64)), (.b (.sl false .en))]), .c (.one (.at_ [(.int .i64), (.int .i64), (.sl false .en)] 0))], []⟩, [.int, .int, .ls .en, .int, .int, .ls .en], ⟨[.c (.one (.b .bool))], []⟩, [.bool], sh_impl_WorldValid_1⟩
def g_impl_WorldValid_1 : Env := mkEnv tab [(97, [], e_impl_sameLsa)] 22 0 [] []
theorem t_impl_WorldValid_1 : CtrOk Try.prog g_impl_WorldValid_1.Γ := ctr_ok (l := [(97, [], e_impl_sameLsa)]) ⟨⟨p_impl_sameLsa, Try.call97⟩, trivial⟩
theorem p_impl_WorldValid_1 : GC Try.prog 96 e_impl_WorldValid_1 := gc_of (G := g_impl_WorldValid_1) (c := Try.f96.body.getD .skip) bad_ok tabOk t_impl_WorldValid_1 mixed Try.func96 (by kernel_rfl) Try.ntmps96 (code_ok' (G := g_impl_WorldValid_1) (n := 0) (by kernel_rfl) (by kernel_rfl) trivial (by kernel_rfl)) (fun s => by kernel_rfl)
def e_impl_World_truth : Entry := ⟨⟨[.c (.agg [(.b (.int .i64)), (.b (.sl false .lk)), (.b (.sl false .bool)), (.b (.sl false .int)), (.b (.sl false .db)), (.b (.sl false .pk))])], []⟩, [.int, .ls .lk, .ls .bool, .ls .int, .ls .db, .ls .pk], ⟨[.c (.agg [(.b (.int .i64)), (.own 0)])], [.row 105 .lk]⟩, [.int, .ls .lk], sh_impl_World_truth⟩
def g_impl_World_truth : Env := mkEnv tab [(140, [], e_impl_World_truth_1), (139, [140], e_impl_Graph_keep_truth_1)] 7 0 [] []
theorem t_impl_World_truth : CtrOk Try.prog g_impl_World_truth.Γ := ctr_ok (l := [(140, [], e_impl_World_truth_1), (139, [140], e_impl_Graph_keep_truth_1)]) ⟨⟨p_impl_World_truth_1, Try.call140⟩, ⟨⟨p_impl_Graph_keep_truth_1, Try.call139⟩, trivial⟩⟩
theorem p_impl_World_truth : GC Try.prog 127 e_impl_World_truth := gc_of (G := g_impl_World_truth) (c := Try.f127.body.getD .skip) bad_ok tabOk t_impl_World_truth mixed Try.func127 (by kernel_rfl) Try.ntmps127 (code_ok' (G := g_impl_World_truth) (n := 0) (by kernel_rfl) (by kernel_rfl) trivial (by kernel_rfl)) (fun s => by kernel_rfl)
def L_slices_IndexFunc_impl_Lsa_impl_Lsa_WorldValid_1_2 : Loop := ⟨⟨[0, 1, 7, 8], ⟨[.c (.one (.b (.sl false .ls))), .c (.fn 96 [(.at_ [(.int .i64), (.int .i64), (.sl false .en)] 0)]), .c (.one (.b (.int .i64))), .c (.one (.b (.int .i64)))], []⟩, [.ls .ls, .int, .int, .ls .en, .int, .int]⟩, 0, ⟨[], ⟨[], []⟩, []⟩, ⟨[4], ⟨[.c (.one (.b (.int .i64)))], []⟩, [.int]⟩, lp bo_slices_IndexFunc_impl_Lsa_impl_Lsa_WorldValid_1_2 fuel⟩
def e_slices_IndexFunc_impl_Lsa_impl_Lsa_WorldValid_1 : Entry := ⟨⟨[.c (.one (.b (.sl false .ls))), .c (.fn 96 [(.at_ [(.int .i64), (.int .i64), (.sl false .en)] 0)])], []⟩, [.ls .ls, .int, .int, .ls .en], ⟨[.c (.one (.b (.int .i64)))], []⟩, [.int], sh_slices_IndexFunc_impl_Lsa_impl_Lsa_WorldValid_1⟩
def g_slices_IndexFunc_impl_Lsa_impl_Lsa_WorldValid_1 : Env := mkEnv tab [(96, [], e_impl_WorldValid_1)] 19 0 [] [(2, L_slices_IndexFunc_impl_Lsa_impl_Lsa_WorldValid_1_2)]
theorem t_slices_IndexFunc_impl_Lsa_impl_Lsa_WorldValid_1 : CtrOk Try.prog g_slices_IndexFunc_impl_Lsa_impl_Lsa_WorldValid_1.Γ := ctr_ok (l := [(96, [], e_impl_WorldValid_1)]) ⟨⟨p_impl_WorldValid_1, Try.call96⟩, trivial⟩
theorem k_slices_IndexFunc_impl_Lsa_impl_Lsa_WorldValid_1_2 : LoopOk Try.prog 0 19 (nthC (Try.f128.body.getD .skip) 0) L_slices_IndexFunc_impl_Lsa_impl_Lsa_WorldValid_1_2 := loop_ok (G := g_slices_IndexFunc_impl_Lsa_impl_Lsa_WorldValid_1) (F := L_slices_IndexFunc_impl_Lsa_impl_Lsa_WorldValid_1_2.F) (eid := L_slices_IndexFunc_impl_Lsa_impl_Lsa_WorldValid_1_2.eid) (FX := L_slices_IndexFunc_impl_Lsa_impl_Lsa_WorldValid_1_2.FX) (FR := L_slices_IndexFunc_impl_Lsa_impl_Lsa_WorldValid_1_2.FR) (B := bo_slices_IndexFunc_impl_Lsa_impl_Lsa_WorldValid_1_2) (n := fuel) bad_ok tabOk t_slices_IndexFunc_impl_Lsa_impl_Lsa_WorldValid_1 mixed (code_ok' (G := g_slices_IndexFunc_impl_Lsa_impl_Lsa_WorldValid_1) (n := 0) (by kernel_rfl) (by kernel_rfl) trivial (by kernel_rfl)) (fun s => by kernel_rfl)
theorem p_slices_IndexFunc_impl_Lsa_impl_Lsa_WorldValid_1 : GC Try.prog 128 e_slices_IndexFunc_impl_Lsa_impl_Lsa_WorldValid_1 := gc_of (G := g_slices_IndexFunc_impl_Lsa_impl_Lsa_WorldValid_1) (c := Try.f128.body.getD .skip) bad_ok tabOk t_slices_IndexFunc_impl_Lsa_impl_Lsa_WorldValid_1 mixed Try.func128 (by kernel_rfl) Try.ntmps128 (code_ok' (G := g_slices_IndexFunc_impl_Lsa_impl_Lsa_WorldValid_1) (n := 1) (by kernel_rfl) (by kernel_rfl) ⟨trivial, loop_at (id := 2) (L0 := L_slices_IndexFunc_impl_Lsa_impl_Lsa_WorldValid_1_2) (by kernel_rfl) (by kernel_rfl) k_slices_IndexFunc_impl_Lsa_impl_Lsa_WorldValid_1_2⟩ (by kernel_rfl)) (fun s => by kernel_rfl)
def L_spec_WorldValid_7 : Loop := ⟨⟨[1, 3, 4], ⟨[.c (.one (.ptr 0 0)), .c (.one (.b (.int .i64))), .c (.one (.b (.int .i64)))], [.box 69 [(.b (.int .i64)), (.b (.sl false .lk)), (.b (.sl false .bool)), (.b (.sl false .int)), (.b (.sl false .db)), (.b (.sl false .pk))]]⟩, [.int, .int, .int, .ls .lk, .ls .bool, .ls .int, .ls .db, .ls .pk]⟩, 2, ⟨[1, 3], ⟨[.c (.one (.ptr 0 0)), .c (.one (.b (.int .i64)))], [.box 69 [(.b (.int .i64)), (.b (.sl false .lk)), (.b (.sl false .bool)), (.b (.sl false .int)), (.b (.sl false .db)), (.b (.sl false .pk))]]⟩, [.int, .int, .ls .lk, .ls .bool, .ls .int, .ls .db, .ls .pk]⟩, ⟨[2], ⟨[.c (.one (.b .bool))], []⟩, [.bool]⟩, lp bo_spec_WorldValid_7 fuel⟩
def L_spec_WorldValid_4 : Loop := ⟨⟨[1, 3], ⟨[.c (.one (.ptr 0 0)), .c (.one (.b (.int .i64)))], [.box 69 [(.b (.int .i64)), (.b (.sl false .lk)), (.b (.sl false .bool)), (.b (.sl false .int)), (.b (.sl false .db)), (.b (.sl false .pk))]]⟩, [.int, .int, .ls .lk, .ls .bool, .ls .int, .ls .db, .ls .pk]⟩, 0, ⟨[1], ⟨[.c (.one (.ptr 0 0))], [.box 69 [(.b (.int .i64)), (.b (.sl false .lk)), (.b (.sl false .bool)), (.b (.sl false .int)), (.b (.sl false .db)), (.b (.sl false .pk))]]⟩, [.int, .ls .lk, .ls .bool, .ls .int, .ls .db, .ls .pk]⟩, ⟨[2], ⟨[.c (.one (.b .bool))], []⟩, [.bool]⟩, lp bo_spec_WorldValid_4 fuel⟩
def L_spec_WorldValid_15 : Loop := ⟨⟨[1, 7], ⟨[.c (.one (.ptr 0 0)), .c (.one (.b (.int .i64)))], [.box 69 [(.b (.int .i64)), (.b (.sl false .lk)), (.b (.sl false .bool)), (.b (.sl false .int)), (.b (.sl false .db)), (.b (.sl false .pk))]]⟩, [.int, .int, .ls .lk, .ls .bool, .ls .int, .ls .db, .ls .pk]⟩, 4, ⟨[], ⟨[], []⟩, []⟩, ⟨[2], ⟨[.c (.one (.b .bool))], []⟩, [.bool]⟩, lp bo_spec_WorldValid_15 fuel⟩
def e_spec_WorldValid : Entry := ⟨⟨[.c (.agg [(.b (.int .i64)), (.b (.sl false .lk)), (.b (.sl false .bool)), (.b (.sl false .int)), (.b (.sl false .db)), (.b (.sl false .pk))])], []⟩, [.int, .ls .lk, .ls .bool, .ls .int, .ls .db, .ls .pk], ⟨[.c (.one (.b .bool))], []⟩, [.bool], sh_spec_WorldValid⟩
def g_spec_WorldValid : Env := mkEnv tab [(86, [], e_spec_l6In), (85, [], e_spec_l11Find), (83, [], e_spec_l51All), (84, [], e_spec_l51Lsa), (81, [], e_spec_l51Shape), (82, [], e_spec_l51One)] 97 0 [(9, 9, [(0, true), (1, true), (2, true), (3, true), (4, true), (5, true), (6, true), (7, true), (8, true)], []), (12, 10, [(0, true), (1, true), (2, true), (3, true), (4, true), (5, true), (6, true), (7, true), (8, true), (9, true)], []), (17, 20, [(0, true), (1, true), (2, true), (3, true), (4, true), (5, true), (6, true), (7, true), (8, true), (9, true), (10, false), (11, true), (12, true), (13, true), (14, true), (15, true), (16, true), (17, true), (18, true), (19, true)], [])] [(7, L_spec_WorldValid_7), (4, L_spec_WorldValid_4), (15, L_spec_WorldValid_15)]
theorem t_spec_WorldValid : CtrOk Try.prog g_spec_WorldValid.Γ := ctr_ok (l := [(86, [], e_spec_l6In), (85, [], e_spec_l11Find), (83, [], e_spec_l51All), (84, [], e_spec_l51Lsa), (81, [], e_spec_l51Shape), (82, [], e_spec_l51One)]) ⟨⟨p_spec_l6In, Try.call86⟩, ⟨⟨p_spec_l11Find, Try.call85⟩, ⟨⟨p_spec_l51All, Try.call83⟩, ⟨⟨p_spec_l51Lsa, Try.call84⟩, ⟨⟨p_spec_l51Shape, Try.call81⟩, ⟨⟨p_spec_l51One, Try.call82⟩, trivial⟩⟩⟩⟩⟩⟩
theorem k_spec_WorldValid_7 : LoopOk Try.prog 0 97 (nthC (nthC (Try.f38.body.getD .skip) 0) 0) L_spec_WorldValid_7 := loop_ok (G := g_spec_WorldValid) (F := L_spec_WorldValid_7.F) (eid := L_spec_WorldValid_7.eid) (FX := L_spec_WorldValid_7.FX) (FR := L_spec_WorldValid_7.FR) (B := bo_spec_WorldValid_7) (n := fuel) bad_ok tabOk t_spec_WorldValid mixed (code_ok' (G := g_spec_WorldValid) (n := 0) (by kernel_rfl) (by kernel_rfl) trivial (by kernel_rfl)) (fun s => by kernel_rfl)
theorem k_spec_WorldValid_4 : LoopOk Try.prog 0 97 (nthC (Try.f38.body.getD .skip) 0) L_spec_WorldValid_4 := loop_ok (G := g_spec_WorldValid) (F := L_spec_WorldValid_4.F) (eid := L_spec_WorldValid_4.eid) (FX := L_spec_WorldValid_4.FX) (FR := L_spec_WorldValid_4.FR) (B := bo_spec_WorldValid_4) (n := fuel) bad_ok tabOk t_spec_WorldValid mixed (code_ok' (G := g_spec_WorldValid) (n := 1) (by kernel_rfl) (by kernel_rfl) ⟨trivial, loop_at (id := 7) (L0 := L_spec_WorldValid_7) (by kernel_rfl) (by kernel_rfl) k_spec_WorldValid_7⟩ (by kernel_rfl)) (fun s => by kernel_rfl)
theorem k_spec_WorldValid_15 : LoopOk Try.prog 0 97 (nthC (Try.f38.body.getD .skip) 1) L_spec_WorldValid_15 := loop_ok (G := g_spec_WorldValid) (F := L_spec_WorldValid_15.F) (eid := L_spec_WorldValid_15.eid) (FX := L_spec_WorldValid_15.FX) (FR := L_spec_WorldValid_15.FR) (B := bo_spec_WorldValid_15) (n := fuel) bad_ok tabOk t_spec_WorldValid mixed (code_ok' (G := g_spec_WorldValid) (n := 0) (by kernel_rfl) (by kernel_rfl) trivial (by kernel_rfl)) (fun s => by kernel_rfl)
theorem p_spec_WorldValid : GC Try.prog 38 e_spec_WorldValid := gc_of (G := g_spec_WorldValid) (c := Try.f38.body.getD .skip) bad_ok tabOk t_spec_WorldValid mixed Try.func38 (by kernel_rfl) Try.ntmps38 (code_ok' (G := g_spec_WorldValid) (n := 2) (by kernel_rfl) (by kernel_rfl) ⟨⟨trivial, loop_at (id := 4) (L0 := L_spec_WorldValid_4) (by kernel_rfl) (by kernel_rfl) k_spec_WorldValid_4⟩, loop_at (id := 15) (L0 := L_spec_WorldValid_15) (by kernel_rfl) (by kernel_rfl) k_spec_WorldValid_15⟩ (by kernel_rfl)) (fun s => by kernel_rfl)
def L_impl_World_possible_4 : Loop := ⟨⟨[2, 3, 31, 32, 33], ⟨[.c (.one (.ptr 0 0)), .c (.one (.ptr 1 0)), .c (.one (.b (.sl false .en))), .c (.one (.b (.int .i64))), .c (.one (.b (.int .i64)))], [.box 69 [(.b (.int .i64)), (.b (.sl false .lk)), (.b (.sl false .bool)), (.b (.sl false .int)), (.b (.sl false .db)), (.b (.sl false .pk))], .box 89 [(.b (.int .i64)), (.b (.int .i64)), (.b (.sl false .en))]]⟩, [.ls .en, .int, .int, .int, .ls .lk, .ls .bool, .ls .int, .ls .db, .ls .pk, .int, .int, .ls .en]⟩, 0, ⟨[2, 3], ⟨[.c (.one (.ptr 0 0)), .c (.one (.ptr 1 0))], [.box 69 [(.b (.int .i64)), (.b (.sl false .lk)), (.b (.sl false .bool)), (.b (.sl false .int)), (.b (.sl false .db)), (.b (.sl false .pk))], .box 89 [(.b (.int .i64)), (.b (.int .i64)), (.b (.sl false .en))]]⟩, [.int, .ls .lk, .ls .bool, .ls .int, .ls .db, .ls .pk, .int, .int, .ls .en]⟩, ⟨[4], ⟨[.c (.one (.b .bool))], []⟩, [.bool]⟩, lp bo_impl_World_possible_4 fuel⟩
def e_impl_World_possible : Entry := ⟨⟨[.c (.agg [(.b (.int .i64)), (.b (.sl false .lk)), (.b (.sl false .bool)), (.b (.sl false .int)), (.b (.sl false .db)), (.b (.sl false .pk))]), .c (.agg [(.b (.int .i64)), (.b (.int .i64)), (.b (.sl false .en))])], []⟩, [.int, .ls .lk, .ls .bool, .ls .int, .ls .db, .ls .pk, .int, .int, .ls .en], ⟨[.c (.one (.b .bool))], []⟩, [.bool], sh_impl_World_possible⟩
def g_impl_World_possible : Env := mkEnv tab [(57, [], e_impl_LsaValid), (75, [], e_impl_Graph_linkOf), (97, [], e_impl_sameLsa), (58, [], e_impl_Graph_lsaOf), (127, [], e_impl_World_truth)] 79 0 [(1, 20, [(0, true), (1, false), (2, true), (3, true), (4, true), (5, true), (6, true), (7, true), (8, true), (9, true), (10, true), (11, true), (12, true), (13, true), (14, true), (15, true), (16, true), (17, true), (18, true), (19, true)], []), (7, 12, [(0, true), (1, true), (2, true), (3, true), (4, true), (5, true), (6, true), (7, true), (8, true), (9, true), (10, true), (11, true)], []), (10, 18, [(0, true), (1, true), (2, true), (3, true), (4, true), (5, true), (6, true), (7, true), (8, true), (9, true), (10, true), (11, true), (13, true), (14, true), (15, true), (16, true), (12, false), (17, false)], [])] [(4, L_impl_World_possible_4)]
theorem t_impl_World_possible : CtrOk Try.prog g_impl_World_possible.Γ := ctr_ok (l := [(57, [], e_impl_LsaValid), (75, [], e_impl_Graph_linkOf), (97, [], e_impl_sameLsa), (58, [], e_impl_Graph_lsaOf), (127, [], e_impl_World_truth)]) ⟨⟨p_impl_LsaValid, Try.call57⟩, ⟨⟨p_impl_Graph_linkOf, Try.call75⟩, ⟨⟨p_impl_sameLsa, Try.call97⟩, ⟨⟨p_impl_Graph_lsaOf, Try.call58⟩, ⟨⟨p_impl_World_truth, Try.call127⟩, trivial⟩⟩⟩⟩⟩
theorem k_impl_World_possible_4 : LoopOk Try.prog 0 79 (nthC (Try.f94.body.getD .skip) 0) L_impl_World_possible_4 := loop_ok (G := g_impl_World_possible) (F := L_impl_World_possible_4.F) (eid := L_impl_World_possible_4.eid) (FX := L_impl_World_possible_4.FX) (FR := L_impl_World_possible_4.FR) (B := bo_impl_World_possible_4) (n := fuel) bad_ok tabOk t_impl_World_possible mixed (code_ok' (G := g_impl_World_possible) (n := 0) (by kernel_rfl) (by kernel_rfl) trivial (by kernel_rfl)) (fun s => by kernel_rfl)
theorem p_impl_World_possible : GC Try.prog 94 e_impl_World_possible := gc_of (G := g_impl_World_possible) (c := Try.f94.body.getD .skip) bad_ok tabOk t_impl_World_possible mixed Try.func94 (by kernel_rfl) Try.ntmps94 (code_ok' (G := g_impl_World_possible) (n := 1) (by kernel_rfl) (by kernel_rfl) ⟨trivial, loop_at (id := 4) (L0 := L_impl_World_possible_4) (by kernel_rfl) (by kernel_rfl) k_impl_World_possible_4⟩ (by kernel_rfl)) (fun s => by kernel_rfl)
def e_slices_ContainsFunc_impl_Lsa_impl_Lsa_WorldValid_1 : Entry := ⟨⟨[.c (.one (.b (.sl false .ls))), .c (.fn 96 [(.at_ [(.int .i64), (.int .i64), (.sl false .en)] 0)])], []⟩, [.ls .ls, .int, .int, .ls .en], ⟨[.c (.one (.b .bool))], []⟩, [.bool], sh_slices_ContainsFunc_impl_Lsa_impl_Lsa_WorldValid_1⟩
def g_slices_ContainsFunc_impl_Lsa_impl_Lsa_WorldValid_1 : Env := mkEnv tab [(96, [], e_impl_WorldValid_1), (128, [96], e_slices_IndexFunc_impl_Lsa_impl_Lsa_WorldValid_1)] 9 0 [] []
theorem t_slices_ContainsFunc_impl_Lsa_impl_Lsa_WorldValid_1 : CtrOk Try.prog g_slices_ContainsFunc_impl_Lsa_impl_Lsa_WorldValid_1.Γ := ctr_ok (l := [(96, [], e_impl_WorldValid_1), (128, [96], e_slices_IndexFunc_impl_Lsa_impl_Lsa_WorldValid_1)]) ⟨⟨p_impl_WorldValid_1, Try.call96⟩, ⟨⟨p_slices_IndexFunc_impl_Lsa_impl_Lsa_WorldValid_1, Try.call128⟩, trivial⟩⟩
theorem p_slices_ContainsFunc_impl_Lsa_impl_Lsa_WorldValid_1 : GC Try.prog 95 e_slices_ContainsFunc_impl_Lsa_impl_Lsa_WorldValid_1 := gc_of (G := g_slices_ContainsFunc_impl_Lsa_impl_Lsa_WorldValid_1) (c := Try.f95.body.getD .skip) bad_ok tabOk t_slices_ContainsFunc_impl_Lsa_impl_Lsa_WorldValid_1 mixed Try.func95 (by kernel_rfl) Try.ntmps95 (code_ok' (G := g_slices_ContainsFunc_impl_Lsa_impl_Lsa_WorldValid_1) (n := 0) (by kernel_rfl) (by kernel_rfl) trivial (by kernel_rfl)) (fun s => by kernel_rfl)
def L_impl_WorldValid_6 : Loop := ⟨⟨[1, 3, 4, 52, 53, 54], ⟨[.c (.one (.ptr 0 0)), .c (.one (.b (.int .i64))), .c (.one (.own 1)), .c (.one (.b (.sl false .db))), .c (.one (.b (.int .i64))), .c (.one (.b (.int .i64)))], [.box 69 [(.b (.int .i64)), (.b (.sl false .lk)), (.b (.sl false .bool)), (.b (.sl false .int)), (.b (.sl false .db)), (.b (.sl false .pk))], .row 89 .ls]⟩, [.int, .ls .db, .int, .int, .int, .ls .lk, .ls .bool, .ls .int, .ls .db, .ls .pk, .ls .ls]⟩, 0, ⟨[1, 3, 4], ⟨[.c (.one (.ptr 0 0)), .c (.one (.b (.int .i64))), .c (.one (.own 1))], [.box 69 [(.b (.int .i64)), (.b (.sl false .lk)), (.b (.sl false .bool)), (.b (.sl false .int)), (.b (.sl false .db)), (.b (.sl false .pk))], .row 89 .ls]⟩, [.int, .int, .ls .lk, .ls .bool, .ls .int, .ls .db, .ls .pk, .ls .ls]⟩, ⟨[2], ⟨[.c (.one (.b .bool))], []⟩, [.bool]⟩, lp bo_impl_WorldValid_6 fuel⟩
def L_impl_WorldValid_16 : Loop := ⟨⟨[1, 3, 4, 97, 98, 99], ⟨[.c (.one (.ptr 0 0)), .c (.one (.b (.int .i64))), .c (.one (.own 1)), .c (.one (.b (.sl false .pk))), .c (.one (.b (.int .i64))), .c (.one (.b (.int .i64)))], [.box 69 [(.b (.int .i64)), (.b (.sl false .lk)), (.b (.sl false .bool)), (.b (.sl false .int)), (.b (.sl false .db)), (.b (.sl false .pk))], .row 89 .ls]⟩, [.int, .ls .pk, .int, .int, .int, .ls .lk, .ls .bool, .ls .int, .ls .db, .ls .pk, .ls .ls]⟩, 2, ⟨[1, 4], ⟨[.c (.one (.ptr 0 0)), .c (.one (.own 1))], [.box 69 [(.b (.int .i64)), (.b (.sl false .lk)), (.b (.sl false .bool)), (.b (.sl false .int)), (.b (.sl false .db)), (.b (.sl false .pk))], .row 89 .ls]⟩, [.int, .ls .lk, .ls .bool, .ls .int, .ls .db, .ls .pk, .ls .ls]⟩, ⟨[2], ⟨[.c (.one (.b .bool))], []⟩, [.bool]⟩, lp bo_impl_WorldValid_16 fuel⟩
def L_impl_WorldValid_23 : Loop := ⟨⟨[1, 4, 115, 116, 117], ⟨[.c (.one (.ptr 0 0)), .c (.one (.b (.sl true .ls))), .c (.one (.b (.sl true .ls))), .c (.one (.b (.int .i64))), .c (.one (.b (.int .i64)))], [.box 69 [(.b (.int .i64)), (.b (.sl false .lk)), (.b (.sl false .bool)), (.b (.sl false .int)), (.b (.sl false .db)), (.b (.sl false .pk))]]⟩, [.ls .ls, .ls .ls, .int, .int, .int, .ls .lk, .ls .bool, .ls .int, .ls .db, .ls .pk]⟩, 4, ⟨[], ⟨[], []⟩, []⟩, ⟨[2], ⟨[.c (.one (.b .bool))], []⟩, [.bool]⟩, lp bo_impl_WorldValid_23 fuel⟩
def e_impl_WorldValid : Entry := ⟨⟨[.c (.agg [(.b (.int .i64)), (.b (.sl false .lk)), (.b (.sl false .bool)), (.b (.sl false .int)), (.b (.sl false .db)), (.b (.sl false .pk))])], []⟩, [.int, .ls .lk, .ls .bool, .ls .int, .ls .db, .ls .pk], ⟨[.c (.one (.b .bool))], []⟩, [.bool], sh_impl_WorldValid⟩
def g_impl_WorldValid : Env := mkEnv tab [(91, [], e_impl_within), (90, [], e_impl_GraphValid), (92, [], e_impl_DbValid), (93, [], e_impl_dbPlace), (96, [], e_impl_WorldValid_1), (94, [], e_impl_World_possible), (95, [96], e_slices_ContainsFunc_impl_Lsa_impl_Lsa_WorldValid_1)] 134 0 [(11, 13, [(0, true), (1, true), (2, true), (3, true), (4, true), (5, true), (6, true), (7, true), (8, true), (9, true), (10, true), (11, true), (12, true)], [])] [(6, L_impl_WorldValid_6), (16, L_impl_WorldValid_16), (23, L_impl_WorldValid_23)]
theorem t_impl_WorldValid : CtrOk Try.prog g_impl_WorldValid.Γ := ctr_ok (l := [(91, [], e_impl_within), (90, [], e_impl_GraphValid), (92, [], e_impl_DbValid), (93, [], e_impl_dbPlace), (96, [], e_impl_WorldValid_1), (94, [], e_impl_World_possible), (95, [96], e_slices_ContainsFunc_impl_Lsa_impl_Lsa_WorldValid_1)]) ⟨⟨p_impl_within, Try.call91⟩, ⟨⟨p_impl_GraphValid, Try.call90⟩, ⟨⟨p_impl_DbValid, Try.call92⟩, ⟨⟨p_impl_dbPlace, Try.call93⟩, ⟨⟨p_impl_WorldValid_1, Try.call96⟩, ⟨⟨p_impl_World_possible, Try.call94⟩, ⟨⟨p_slices_ContainsFunc_impl_Lsa_impl_Lsa_WorldValid_1, Try.call95⟩, trivial⟩⟩⟩⟩⟩⟩⟩
theorem k_impl_WorldValid_6 : LoopOk Try.prog 0 134 (nthC (Try.f40.body.getD .skip) 0) L_impl_WorldValid_6 := loop_ok (G := g_impl_WorldValid) (F := L_impl_WorldValid_6.F) (eid := L_impl_WorldValid_6.eid) (FX := L_impl_WorldValid_6.FX) (FR := L_impl_WorldValid_6.FR) (B := bo_impl_WorldValid_6) (n := fuel) bad_ok tabOk t_impl_WorldValid mixed (code_ok' (G := g_impl_WorldValid) (n := 0) (by kernel_rfl) (by kernel_rfl) trivial (by kernel_rfl)) (fun s => by kernel_rfl)
theorem k_impl_WorldValid_16 : LoopOk Try.prog 0 134 (nthC (Try.f40.body.getD .skip) 1) L_impl_WorldValid_16 := loop_ok (G := g_impl_WorldValid) (F := L_impl_WorldValid_16.F) (eid := L_impl_WorldValid_16.eid) (FX := L_impl_WorldValid_16.FX) (FR := L_impl_WorldValid_16.FR) (B := bo_impl_WorldValid_16) (n := fuel) bad_ok tabOk t_impl_WorldValid mixed (code_ok' (G := g_impl_WorldValid) (n := 0) (by kernel_rfl) (by kernel_rfl) trivial (by kernel_rfl)) (fun s => by kernel_rfl)
theorem k_impl_WorldValid_23 : LoopOk Try.prog 0 134 (nthC (Try.f40.body.getD .skip) 2) L_impl_WorldValid_23 := loop_ok (G := g_impl_WorldValid) (F := L_impl_WorldValid_23.F) (eid := L_impl_WorldValid_23.eid) (FX := L_impl_WorldValid_23.FX) (FR := L_impl_WorldValid_23.FR) (B := bo_impl_WorldValid_23) (n := fuel) bad_ok tabOk t_impl_WorldValid mixed (code_ok' (G := g_impl_WorldValid) (n := 0) (by kernel_rfl) (by kernel_rfl) trivial (by kernel_rfl)) (fun s => by kernel_rfl)
theorem p_impl_WorldValid : GC Try.prog 40 e_impl_WorldValid := gc_of (G := g_impl_WorldValid) (c := Try.f40.body.getD .skip) bad_ok tabOk t_impl_WorldValid mixed Try.func40 (by kernel_rfl) Try.ntmps40 (code_ok' (G := g_impl_WorldValid) (n := 3) (by kernel_rfl) (by kernel_rfl) ⟨⟨⟨trivial, loop_at (id := 6) (L0 := L_impl_WorldValid_6) (by kernel_rfl) (by kernel_rfl) k_impl_WorldValid_6⟩, loop_at (id := 16) (L0 := L_impl_WorldValid_16) (by kernel_rfl) (by kernel_rfl) k_impl_WorldValid_16⟩, loop_at (id := 23) (L0 := L_impl_WorldValid_23) (by kernel_rfl) (by kernel_rfl) k_impl_WorldValid_23⟩ (by kernel_rfl)) (fun s => by kernel_rfl)
end Go.Proofs.Ythcckenjkicmgaa
end
section
namespace Go.Proofs.Ythcckenjkicmgaa
open Go.RowKit
set_option maxRecDepth 100000
def sh_laws_szLinkS (s : (List Lk × Int × Unit)) : Option (Int × Unit) := (bif decide ((wrap64 ((s.2.1 - nI (List.length s.1))) < (0 : Int))) then some (((-((1 : Int))), ())) else some ((wrap64 ((s.2.1 - nI (List.length s.1))), ())))
def sh_laws_szGraph (s : (Int × List Lk × Int × Unit)) : Option (Int × Unit) := (sh_laws_szLinkS ((s.2.1, (s.2.2.1, ())))).bind fun r0 => (bif decide ((r0.1 < (0 : Int))) then some (((-((1 : Int))), ())) else some ((r0.1, ())))
def sh_laws_toLink (s : (Int × Int × Int × Unit)) : Option (Int × Int × Int × Unit) := some ((s.1, s.2.1, s.2.2.1, ()))
def sh_laws_eqLink (s : (Int × Int × Int × Int × Int × Int × Unit)) : Option (Bool × Unit) := (bif (!(decide ((s.1 = s.2.2.2.1)))) then some ((false, ())) else (bif (!(decide ((s.2.1 = s.2.2.2.2.1)))) then some ((false, ())) else (bif (!(decide ((s.2.2.1 = s.2.2.2.2.2.1)))) then some ((false, ())) else some ((true, ())))))
def bo_laws_toIntS_3 (s : (List Int × Int × List Int × Unit)) : Option ((List Int × Int × List Int × Unit) ⊕ ((List Int × Unit) ⊕ Unit)) := (bif decide ((s.2.1 < nI (List.length s.1))) then (bif inR s.2.1 (List.length s.1) then (bif inR s.2.1 (List.length s.2.2.1) then some (Sum.inl ((s.1, wrap64 ((s.2.1 + (1 : Int))), List.set s.2.2.1 (Int.toNat s.2.1) (at! .int s.1 (Int.toNat s.2.1)), ()))) else none) else none) else some (Sum.inr (Sum.inl ((s.2.2.1, ())))))
def sh_laws_toIntS (s : (List Int × Unit)) : Option (List Int × Unit) := (bif (decide ((nI (List.length s.1) = nI (List.length s.1))) && (decide (((0 : Int) ≤ nI (List.length s.1))) && decide ((nI (List.length s.1) ≤ (16777216 : Int))))) then (lp bo_laws_toIntS_3 fuel ((s.1, ((0 : Int), (List.replicate (Int.toNat (nI (List.length s.1))) (dfl .int), ()))))).bind fun r0 => (match r0 with | .inl x1 => some ((x1.1, ())) | .inr _ => none) else none)
def sh_laws_szEndS (s : (List En × Int × Unit)) : Option (Int × Unit) := (bif decide ((wrap64 ((s.2.1 - nI (List.length s.1))) < (0 : Int))) then some (((-((1 : Int))), ())) else some ((wrap64 ((s.2.1 - nI (List.length s.1))), ())))
def bo_laws_toLinkS_3 (s : (List Lk × Int × List Lk × Unit)) : Option ((List Lk × Int × List Lk × Unit) ⊕ ((List Lk × Unit) ⊕ Unit)) := (bif decide ((s.2.1 < nI (List.length s.1))) then (bif inR s.2.1 (List.length s.1) then (sh_laws_toLink (((at! .lk s.1 (Int.toNat s.2.1)).a, ((at! .lk s.1 (Int.toNat s.2.1)).b, ((at! .lk s.1 (Int.toNat s.2.1)).c, ()))))).bind fun r0 => (bif inR s.2.1 (List.length s.2.2.1) then some (Sum.inl ((s.1, wrap64 ((s.2.1 + (1 : Int))), List.set s.2.2.1 (Int.toNat s.2.1) ((Lk.mk r0.1 r0.2.1 r0.2.2.1)), ()))) else none) else none) else some (Sum.inr (Sum.inl ((s.2.2.1, ())))))
def sh_laws_toLinkS (s : (List Lk × Unit)) : Option (List Lk × Unit) := (bif (decide ((nI (List.length s.1) = nI (List.length s.1))) && (decide (((0 : Int) ≤ nI (List.length s.1))) && decide ((nI (List.length s.1) ≤ (16777216 : Int))))) then (lp bo_laws_toLinkS_3 fuel ((s.1, ((0 : Int), (List.replicate (Int.toNat (nI (List.length s.1))) (dfl .lk), ()))))).bind fun r0 => (match r0 with | .inl x1 => some ((x1.1, ())) | .inr _ => none) else none)
def sh_laws_toEnd (s : (Int × Int × Unit)) : Option (Int × Int × Unit) := some ((s.1, s.2.1, ()))
def bo_laws_eqIntS_4 (s : (List Int × List Int × Int × Unit)) : Option ((List Int × List Int × Int × Unit) ⊕ ((Unit) ⊕ (Bool × Unit))) := (bif decide ((s.2.2.1 < nI (List.length s.1))) then (bif inR s.2.2.1 (List.length s.1) then (bif inR s.2.2.1 (List.length s.2.1) then (bif (!(decide ((at! .int s.1 (Int.toNat s.2.2.1) = at! .int s.2.1 (Int.toNat s.2.2.1))))) then some (Sum.inr (Sum.inr ((false, ())))) else some (Sum.inl ((s.1, s.2.1, wrap64 ((s.2.2.1 + (1 : Int))), ())))) else none) else none) else some (Sum.inr (Sum.inl (()))))
def sh_laws_eqIntS (s : (List Int × List Int × Unit)) : Option (Bool × Unit) := (bif (!(decide ((nI (List.length s.1) = nI (List.length s.2.1))))) then some ((false, ())) else (lp bo_laws_eqIntS_4 fuel ((s.1, (s.2.1, ((0 : Int), ()))))).bind fun r0 => (match r0 with | .inl _ => some ((true, ())) | .inr y1 => some ((y1.1, ()))))
def sh_laws_eqEnd (s : (Int × Int × Int × Int × Unit)) : Option (Bool × Unit) := (bif (!(decide ((s.1 = s.2.2.1)))) then some ((false, ())) else (bif (!(decide ((s.2.1 = s.2.2.2.1)))) then some ((false, ())) else some ((true, ()))))
def bo_laws_eqLinkS_4 (s : (List Lk × List Lk × Int × Unit)) : Option ((List Lk × List Lk × Int × Unit) ⊕ ((Unit) ⊕ (Bool × Unit))) := (bif decide ((s.2.2.1 < nI (List.length s.1))) then (bif inR s.2.2.1 (List.length s.1) then (bif inR s.2.2.1 (List.length s.2.1) then (sh_laws_eqLink (((at! .lk s.1 (Int.toNat s.2.2.1)).a, ((at! .lk s.1 (Int.toNat s.2.2.1)).b, ((at! .lk s.1 (Int.toNat s.2.2.1)).c, ((at! .lk s.2.1 (Int.toNat s.2.2.1)).a, ((at! .lk s.2.1 (Int.toNat s.2.2.1)).b, ((at! .lk s.2.1 (Int.toNat s.2.2.1)).c, ())))))))).bind fun r0 => (bif (!r0.1) then some (Sum.inr (Sum.inr ((false, ())))) else some (Sum.inl ((s.1, s.2.1, wrap64 ((s.2.2.1 + (1 : Int))), ())))) else none) else none) else some (Sum.inr (Sum.inl (()))))
def sh_laws_eqLinkS (s : (List Lk × List Lk × Unit)) : Option (Bool × Unit) := (bif (!(decide ((nI (List.length s.1) = nI (List.length s.2.1))))) then some ((false, ())) else (lp bo_laws_eqLinkS_4 fuel ((s.1, (s.2.1, ((0 : Int), ()))))).bind fun r0 => (match r0 with | .inl _ => some ((true, ())) | .inr y1 => some ((y1.1, ()))))
def sh_laws_toGraph (s : (Int × List Lk × Unit)) : Option (Int × List Lk × Unit) := (sh_laws_toLinkS ((s.2.1, ()))).bind fun r0 => some ((s.1, r0.1, ()))
def sh_laws_eqGraph (s : (Int × List Lk × Int × List Lk × Unit)) : Option (Bool × Unit) := (bif (!(decide ((s.1 = s.2.2.1)))) then some ((false, ())) else (sh_laws_eqLinkS ((s.2.1, (s.2.2.2.1, ())))).bind fun r0 => (bif (!r0.1) then some ((false, ())) else some ((true, ()))))
def bo_laws_toEndS_3 (s : (List En × Int × List En × Unit)) : Option ((List En × Int × List En × Unit) ⊕ ((List En × Unit) ⊕ Unit)) := (bif decide ((s.2.1 < nI (List.length s.1))) then (bif inR s.2.1 (List.length s.1) then (sh_laws_toEnd (((at! .en s.1 (Int.toNat s.2.1)).n, ((at! .en s.1 (Int.toNat s.2.1)).c, ())))).bind fun r0 => (bif inR s.2.1 (List.length s.2.2.1) then some (Sum.inl ((s.1, wrap64 ((s.2.1 + (1 : Int))), List.set s.2.2.1 (Int.toNat s.2.1) ((En.mk r0.1 r0.2.1)), ()))) else none) else none) else some (Sum.inr (Sum.inl ((s.2.2.1, ())))))
def sh_laws_toEndS (s : (List En × Unit)) : Option (List En × Unit) := (bif (decide ((nI (List.length s.1) = nI (List.length s.1))) && (decide (((0 : Int) ≤ nI (List.length s.1))) && decide ((nI (List.length s.1) ≤ (16777216 : Int))))) then (lp bo_laws_toEndS_3 fuel ((s.1, ((0 : Int), (List.replicate (Int.toNat (nI (List.length s.1))) (dfl .en), ()))))).bind fun r0 => (match r0 with | .inl x1 => some ((x1.1, ())) | .inr _ => none) else none)
def sh_laws_szBoolS (s : (List Bool × Int × Unit)) : Option (Int × Unit) := (bif decide ((wrap64 ((s.2.1 - nI (List.length s.1))) < (0 : Int))) then some (((-((1 : Int))), ())) else some ((wrap64 ((s.2.1 - nI (List.length s.1))), ())))
def bo_laws_toBoolS_3 (s : (List Bool × Int × List Bool × Unit)) : Option ((List Bool × Int × List Bool × Unit) ⊕ ((List Bool × Unit) ⊕ Unit)) := (bif decide ((s.2.1 < nI (List.length s.1))) then (bif inR s.2.1 (List.length s.1) then (bif inR s.2.1 (List.length s.2.2.1) then some (Sum.inl ((s.1, wrap64 ((s.2.1 + (1 : Int))), List.set s.2.2.1 (Int.toNat s.2.1) (at! .bool s.1 (Int.toNat s.2.1)), ()))) else none) else none) else some (Sum.inr (Sum.inl ((s.2.2.1, ())))))
def sh_laws_toBoolS (s : (List Bool × Unit)) : Option (List Bool × Unit) := (bif (decide ((nI (List.length s.1) = nI (List.length s.1))) && (decide (((0 : Int) ≤ nI (List.length s.1))) && decide ((nI (List.length s.1) ≤ (16777216 : Int))))) then (lp bo_laws_toBoolS_3 fuel ((s.1, ((0 : Int), (List.replicate (Int.toNat (nI (List.length s.1))) (dfl .bool), ()))))).bind fun r0 => (match r0 with | .inl x1 => some ((x1.1, ())) | .inr _ => none) else none)
def sh_laws_szIntS (s : (List Int × Int × Unit)) : Option (Int × Unit) := (bif decide ((wrap64 ((s.2.1 - nI (List.length s.1))) < (0 : Int))) then some (((-((1 : Int))), ())) else some ((wrap64 ((s.2.1 - nI (List.length s.1))), ())))
def bo_laws_eqEndS_4 (s : (List En × List En × Int × Unit)) : Option ((List En × List En × Int × Unit) ⊕ ((Unit) ⊕ (Bool × Unit))) := (bif decide ((s.2.2.1 < nI (List.length s.1))) then (bif inR s.2.2.1 (List.length s.1) then (bif inR s.2.2.1 (List.length s.2.1) then (sh_laws_eqEnd (((at! .en s.1 (Int.toNat s.2.2.1)).n, ((at! .en s.1 (Int.toNat s.2.2.1)).c, ((at! .en s.2.1 (Int.toNat s.2.2.1)).n, ((at! .en s.2.1 (Int.toNat s.2.2.1)).c, ())))))).bind fun r0 => (bif (!r0.1) then some (Sum.inr (Sum.inr ((false, ())))) else some (Sum.inl ((s.1, s.2.1, wrap64 ((s.2.2.1 + (1 : Int))), ())))) else none) else none) else some (Sum.inr (Sum.inl (()))))
def sh_laws_eqEndS (s : (List En × List En × Unit)) : Option (Bool × Unit) := (bif (!(decide ((nI (List.length s.1) = nI (List.length s.2.1))))) then some ((false, ())) else (lp bo_laws_eqEndS_4 fuel ((s.1, (s.2.1, ((0 : Int), ()))))).bind fun r0 => (match r0 with | .inl _ => some ((true, ())) | .inr y1 => some ((y1.1, ()))))
def sh_laws_toLsa (s : (Int × Int × List En × Unit)) : Option (Int × Int × List En × Unit) := (sh_laws_toEndS ((s.2.2.1, ()))).bind fun r0 => some ((s.1, s.2.1, r0.1, ()))
def bo_laws_eqBoolS_4 (s : (List Bool × List Bool × Int × Unit)) : Option ((List Bool × List Bool × Int × Unit) ⊕ ((Unit) ⊕ (Bool × Unit))) := (bif decide ((s.2.2.1 < nI (List.length s.1))) then (bif inR s.2.2.1 (List.length s.1) then (bif inR s.2.2.1 (List.length s.2.1) then (bif (!((at! .bool s.1 (Int.toNat s.2.2.1) == at! .bool s.2.1 (Int.toNat s.2.2.1)))) then some (Sum.inr (Sum.inr ((false, ())))) else some (Sum.inl ((s.1, s.2.1, wrap64 ((s.2.2.1 + (1 : Int))), ())))) else none) else none) else some (Sum.inr (Sum.inl (()))))
def sh_laws_eqBoolS (s : (List Bool × List Bool × Unit)) : Option (Bool × Unit) := (bif (!(decide ((nI (List.length s.1) = nI (List.length s.2.1))))) then some ((false, ())) else (lp bo_laws_eqBoolS_4 fuel ((s.1, (s.2.1, ((0 : Int), ()))))).bind fun r0 => (match r0 with | .inl _ => some ((true, ())) | .inr y1 => some ((y1.1, ()))))
def sh_laws_szLsa (s : (Int × Int × List En × Int × Unit)) : Option (Int × Unit) := (sh_laws_szEndS ((s.2.2.1, (s.2.2.2.1, ())))).bind fun r0 => (bif decide ((r0.1 < (0 : Int))) then some (((-((1 : Int))), ())) else some ((r0.1, ())))
def sh_laws_eqLsa (s : (Int × Int × List En × Int × Int × List En × Unit)) : Option (Bool × Unit) := (bif (!(decide ((s.1 = s.2.2.2.1)))) then some ((false, ())) else (bif (!(decide ((s.2.1 = s.2.2.2.2.1)))) then some ((false, ())) else (sh_laws_eqEndS ((s.2.2.1, (s.2.2.2.2.2.1, ())))).bind fun r0 => (bif (!r0.1) then some ((false, ())) else some ((true, ())))))
def sh_laws_toPacket (s : (Int × Int × Int × List En × Unit)) : Option (Int × Int × Int × List En × Unit) := (sh_laws_toLsa ((s.2.1, (s.2.2.1, (s.2.2.2.1, ()))))).bind fun r0 => some ((s.1, r0.1, r0.2.1, r0.2.2.1, ()))
def sh_laws_szPacket (s : (Int × Int × Int × List En × Int × Unit)) : Option (Int × Unit) := (sh_laws_szLsa ((s.2.1, (s.2.2.1, (s.2.2.2.1, (s.2.2.2.2.1, ())))))).bind fun r0 => (bif decide ((r0.1 < (0 : Int))) then some (((-((1 : Int))), ())) else some ((r0.1, ())))
def bo_laws_toLsaS_3 (s : (List Ls × Int × List Ls × Unit)) : Option ((List Ls × Int × List Ls × Unit) ⊕ ((List Ls × Unit) ⊕ Unit)) := (bif decide ((s.2.1 < nI (List.length s.1))) then (bif inR s.2.1 (List.length s.1) then (sh_laws_toLsa (((at! .ls s.1 (Int.toNat s.2.1)).o, ((at! .ls s.1 (Int.toNat s.2.1)).s, ((at! .ls s.1 (Int.toNat s.2.1)).e, ()))))).bind fun r0 => (bif inR s.2.1 (List.length s.2.2.1) then some (Sum.inl ((s.1, wrap64 ((s.2.1 + (1 : Int))), List.set s.2.2.1 (Int.toNat s.2.1) ((Ls.mk r0.1 r0.2.1 r0.2.2.1)), ()))) else none) else none) else some (Sum.inr (Sum.inl ((s.2.2.1, ())))))
def sh_laws_toLsaS (s : (List Ls × Unit)) : Option (List Ls × Unit) := (bif (decide ((nI (List.length s.1) = nI (List.length s.1))) && (decide (((0 : Int) ≤ nI (List.length s.1))) && decide ((nI (List.length s.1) ≤ (16777216 : Int))))) then (lp bo_laws_toLsaS_3 fuel ((s.1, ((0 : Int), (List.replicate (Int.toNat (nI (List.length s.1))) (dfl .ls), ()))))).bind fun r0 => (match r0 with | .inl x1 => some ((x1.1, ())) | .inr _ => none) else none)
def bo_laws_szLsaS_5 (s : (List Ls × Int × Int × Unit)) : Option ((List Ls × Int × Int × Unit) ⊕ ((Int × Unit) ⊕ (Int × Unit))) := (bif decide ((s.2.2.1 < nI (List.length s.1))) then (bif inR s.2.2.1 (List.length s.1) then (sh_laws_szLsa (((at! .ls s.1 (Int.toNat s.2.2.1)).o, ((at! .ls s.1 (Int.toNat s.2.2.1)).s, ((at! .ls s.1 (Int.toNat s.2.2.1)).e, (s.2.1, ())))))).bind fun r0 => (bif decide ((r0.1 < (0 : Int))) then some (Sum.inr (Sum.inr (((-((1 : Int))), ())))) else some (Sum.inl ((s.1, r0.1, wrap64 ((s.2.2.1 + (1 : Int))), ())))) else none) else some (Sum.inr (Sum.inl ((s.2.1, ())))))
def sh_laws_szLsaS (s : (List Ls × Int × Unit)) : Option (Int × Unit) := (bif decide ((wrap64 ((s.2.1 - nI (List.length s.1))) < (0 : Int))) then some (((-((1 : Int))), ())) else (lp bo_laws_szLsaS_5 fuel ((s.1, (wrap64 ((s.2.1 - nI (List.length s.1))), ((0 : Int), ()))))).bind fun r0 => (match r0 with | .inl x1 => some ((x1.1, ())) | .inr y1 => some ((y1.1, ()))))
def bo_laws_toPacketS_3 (s : (List Pk × Int × List Pk × Unit)) : Option ((List Pk × Int × List Pk × Unit) ⊕ ((List Pk × Unit) ⊕ Unit)) := (bif decide ((s.2.1 < nI (List.length s.1))) then (bif inR s.2.1 (List.length s.1) then (sh_laws_toPacket (((at! .pk s.1 (Int.toNat s.2.1)).t, (((at! .pk s.1 (Int.toNat s.2.1)).p).o, (((at! .pk s.1 (Int.toNat s.2.1)).p).s, (((at! .pk s.1 (Int.toNat s.2.1)).p).e, ())))))).bind fun r0 => (bif inR s.2.1 (List.length s.2.2.1) then some (Sum.inl ((s.1, wrap64 ((s.2.1 + (1 : Int))), List.set s.2.2.1 (Int.toNat s.2.1) ((Pk.mk r0.1 ((Ls.mk r0.2.1 r0.2.2.1 r0.2.2.2.1)))), ()))) else none) else none) else some (Sum.inr (Sum.inl ((s.2.2.1, ())))))
def sh_laws_toPacketS (s : (List Pk × Unit)) : Option (List Pk × Unit) := (bif (decide ((nI (List.length s.1) = nI (List.length s.1))) && (decide (((0 : Int) ≤ nI (List.length s.1))) && decide ((nI (List.length s.1) ≤ (16777216 : Int))))) then (lp bo_laws_toPacketS_3 fuel ((s.1, ((0 : Int), (List.replicate (Int.toNat (nI (List.length s.1))) (dfl .pk), ()))))).bind fun r0 => (match r0 with | .inl x1 => some ((x1.1, ())) | .inr _ => none) else none)
def sh_laws_eqPacket (s : (Int × Int × Int × List En × Int × Int × Int × List En × Unit)) : Option (Bool × Unit) := (bif (!(decide ((s.1 = s.2.2.2.2.1)))) then some ((false, ())) else (sh_laws_eqLsa ((s.2.1, (s.2.2.1, (s.2.2.2.1, (s.2.2.2.2.2.1, (s.2.2.2.2.2.2.1, (s.2.2.2.2.2.2.2.1, ())))))))).bind fun r0 => (bif (!r0.1) then some ((false, ())) else some ((true, ()))))
def bo_laws_szPacketS_5 (s : (List Pk × Int × Int × Unit)) : Option ((List Pk × Int × Int × Unit) ⊕ ((Int × Unit) ⊕ (Int × Unit))) := (bif decide ((s.2.2.1 < nI (List.length s.1))) then (bif inR s.2.2.1 (List.length s.1) then (sh_laws_szPacket (((at! .pk s.1 (Int.toNat s.2.2.1)).t, (((at! .pk s.1 (Int.toNat s.2.2.1)).p).o, (((at! .pk s.1 (Int.toNat s.2.2.1)).p).s, (((at! .pk s.1 (Int.toNat s.2.2.1)).p).e, (s.2.1, ()))))))).bind fun r0 => (bif decide ((r0.1 < (0 : Int))) then some (Sum.inr (Sum.inr (((-((1 : Int))), ())))) else some (Sum.inl ((s.1, r0.1, wrap64 ((s.2.2.1 + (1 : Int))), ())))) else none) else some (Sum.inr (Sum.inl ((s.2.1, ())))))
def sh_laws_szPacketS (s : (List Pk × Int × Unit)) : Option (Int × Unit) := (bif decide ((wrap64 ((s.2.1 - nI (List.length s.1))) < (0 : Int))) then some (((-((1 : Int))), ())) else (lp bo_laws_szPacketS_5 fuel ((s.1, (wrap64 ((s.2.1 - nI (List.length s.1))), ((0 : Int), ()))))).bind fun r0 => (match r0 with | .inl x1 => some ((x1.1, ())) | .inr y1 => some ((y1.1, ()))))
def bo_laws_eqLsaS_4 (s : (List Ls × List Ls × Int × Unit)) : Option ((List Ls × List Ls × Int × Unit) ⊕ ((Unit) ⊕ (Bool × Unit))) := (bif decide ((s.2.2.1 < nI (List.length s.1))) then (bif inR s.2.2.1 (List.length s.1) then (bif inR s.2.2.1 (List.length s.2.1) then (sh_laws_eqLsa (((at! .ls s.1 (Int.toNat s.2.2.1)).o, ((at! .ls s.1 (Int.toNat s.2.2.1)).s, ((at! .ls s.1 (Int.toNat s.2.2.1)).e, ((at! .ls s.2.1 (Int.toNat s.2.2.1)).o, ((at! .ls s.2.1 (Int.toNat s.2.2.1)).s, ((at! .ls s.2.1 (Int.toNat s.2.2.1)).e, ())))))))).bind fun r0 => (bif (!r0.1) then some (Sum.inr (Sum.inr ((false, ())))) else some (Sum.inl ((s.1, s.2.1, wrap64 ((s.2.2.1 + (1 : Int))), ())))) else none) else none) else some (Sum.inr (Sum.inl (()))))
def sh_laws_eqLsaS (s : (List Ls × List Ls × Unit)) : Option (Bool × Unit) := (bif (!(decide ((nI (List.length s.1) = nI (List.length s.2.1))))) then some ((false, ())) else (lp bo_laws_eqLsaS_4 fuel ((s.1, (s.2.1, ((0 : Int), ()))))).bind fun r0 => (match r0 with | .inl _ => some ((true, ())) | .inr y1 => some ((y1.1, ()))))
def bo_laws_toLsaSS_3 (s : (List (List Ls) × Int × List (List Ls) × Unit)) : Option ((List (List Ls) × Int × List (List Ls) × Unit) ⊕ ((List (List Ls) × Unit) ⊕ Unit)) := (bif decide ((s.2.1 < nI (List.length s.1))) then (bif inR s.2.1 (List.length s.1) then (sh_laws_toLsaS ((at! .db s.1 (Int.toNat s.2.1), ()))).bind fun r0 => (bif inR s.2.1 (List.length s.2.2.1) then some (Sum.inl ((s.1, wrap64 ((s.2.1 + (1 : Int))), List.set s.2.2.1 (Int.toNat s.2.1) r0.1, ()))) else none) else none) else some (Sum.inr (Sum.inl ((s.2.2.1, ())))))
def sh_laws_toLsaSS (s : (List (List Ls) × Unit)) : Option (List (List Ls) × Unit) := (bif (decide ((nI (List.length s.1) = nI (List.length s.1))) && (decide (((0 : Int) ≤ nI (List.length s.1))) && decide ((nI (List.length s.1) ≤ (16777216 : Int))))) then (lp bo_laws_toLsaSS_3 fuel ((s.1, ((0 : Int), (List.replicate (Int.toNat (nI (List.length s.1))) (dfl .db), ()))))).bind fun r0 => (match r0 with | .inl x1 => some ((x1.1, ())) | .inr _ => none) else none)
def sh_laws_toWorld (s : (Int × List Lk × List Bool × List Int × List (List Ls) × List Pk × Unit)) : Option (Int × List Lk × List Bool × List Int × List (List Ls) × List Pk × Unit) := (sh_laws_toGraph ((s.1, (s.2.1, ())))).bind fun r0 => (sh_laws_toBoolS ((s.2.2.1, ()))).bind fun r1 => (sh_laws_toIntS ((s.2.2.2.1, ()))).bind fun r2 => (sh_laws_toLsaSS ((s.2.2.2.2.1, ()))).bind fun r3 => (sh_laws_toPacketS ((s.2.2.2.2.2.1, ()))).bind fun r4 => some ((r0.1, r0.2.1, r1.1, r2.1, r3.1, r4.1, ()))
def bo_laws_szLsaSS_5 (s : (List (List Ls) × Int × Int × Unit)) : Option ((List (List Ls) × Int × Int × Unit) ⊕ ((Int × Unit) ⊕ (Int × Unit))) := (bif decide ((s.2.2.1 < nI (List.length s.1))) then (bif inR s.2.2.1 (List.length s.1) then (sh_laws_szLsaS ((at! .db s.1 (Int.toNat s.2.2.1), (s.2.1, ())))).bind fun r0 => (bif decide ((r0.1 < (0 : Int))) then some (Sum.inr (Sum.inr (((-((1 : Int))), ())))) else some (Sum.inl ((s.1, r0.1, wrap64 ((s.2.2.1 + (1 : Int))), ())))) else none) else some (Sum.inr (Sum.inl ((s.2.1, ())))))
def sh_laws_szLsaSS (s : (List (List Ls) × Int × Unit)) : Option (Int × Unit) := (bif decide ((wrap64 ((s.2.1 - nI (List.length s.1))) < (0 : Int))) then some (((-((1 : Int))), ())) else (lp bo_laws_szLsaSS_5 fuel ((s.1, (wrap64 ((s.2.1 - nI (List.length s.1))), ((0 : Int), ()))))).bind fun r0 => (match r0 with | .inl x1 => some ((x1.1, ())) | .inr y1 => some ((y1.1, ()))))
def bo_laws_eqPacketS_4 (s : (List Pk × List Pk × Int × Unit)) : Option ((List Pk × List Pk × Int × Unit) ⊕ ((Unit) ⊕ (Bool × Unit))) := (bif decide ((s.2.2.1 < nI (List.length s.1))) then (bif inR s.2.2.1 (List.length s.1) then (bif inR s.2.2.1 (List.length s.2.1) then (sh_laws_eqPacket (((at! .pk s.1 (Int.toNat s.2.2.1)).t, (((at! .pk s.1 (Int.toNat s.2.2.1)).p).o, (((at! .pk s.1 (Int.toNat s.2.2.1)).p).s, (((at! .pk s.1 (Int.toNat s.2.2.1)).p).e, ((at! .pk s.2.1 (Int.toNat s.2.2.1)).t, (((at! .pk s.2.1 (Int.toNat s.2.2.1)).p).o, (((at! .pk s.2.1 (Int.toNat s.2.2.1)).p).s, (((at! .pk s.2.1 (Int.toNat s.2.2.1)).p).e, ())))))))))).bind fun r0 => (bif (!r0.1) then some (Sum.inr (Sum.inr ((false, ())))) else some (Sum.inl ((s.1, s.2.1, wrap64 ((s.2.2.1 + (1 : Int))), ())))) else none) else none) else some (Sum.inr (Sum.inl (()))))
def sh_laws_eqPacketS (s : (List Pk × List Pk × Unit)) : Option (Bool × Unit) := (bif (!(decide ((nI (List.length s.1) = nI (List.length s.2.1))))) then some ((false, ())) else (lp bo_laws_eqPacketS_4 fuel ((s.1, (s.2.1, ((0 : Int), ()))))).bind fun r0 => (match r0 with | .inl _ => some ((true, ())) | .inr y1 => some ((y1.1, ()))))
def sh_laws_szWorld (s : (Int × List Lk × List Bool × List Int × List (List Ls) × List Pk × Int × Unit)) : Option (Int × Unit) := (sh_laws_szGraph ((s.1, (s.2.1, (s.2.2.2.2.2.2.1, ()))))).bind fun r0 => (bif decide ((r0.1 < (0 : Int))) then some (((-((1 : Int))), ())) else (sh_laws_szBoolS ((s.2.2.1, (r0.1, ())))).bind fun r1 => (bif decide ((r1.1 < (0 : Int))) then some (((-((1 : Int))), ())) else (sh_laws_szIntS ((s.2.2.2.1, (r1.1, ())))).bind fun r2 => (bif decide ((r2.1 < (0 : Int))) then some (((-((1 : Int))), ())) else (sh_laws_szLsaSS ((s.2.2.2.2.1, (r2.1, ())))).bind fun r3 => (bif decide ((r3.1 < (0 : Int))) then some (((-((1 : Int))), ())) else (sh_laws_szPacketS ((s.2.2.2.2.2.1, (r3.1, ())))).bind fun r4 => (bif decide ((r4.1 < (0 : Int))) then some (((-((1 : Int))), ())) else some ((r4.1, ())))))))
def bo_laws_eqLsaSS_4 (s : (List (List Ls) × List (List Ls) × Int × Unit)) : Option ((List (List Ls) × List (List Ls) × Int × Unit) ⊕ ((Unit) ⊕ (Bool × Unit))) := (bif decide ((s.2.2.1 < nI (List.length s.1))) then (bif inR s.2.2.1 (List.length s.1) then (bif inR s.2.2.1 (List.length s.2.1) then (sh_laws_eqLsaS ((at! .db s.1 (Int.toNat s.2.2.1), (at! .db s.2.1 (Int.toNat s.2.2.1), ())))).bind fun r0 => (bif (!r0.1) then some (Sum.inr (Sum.inr ((false, ())))) else some (Sum.inl ((s.1, s.2.1, wrap64 ((s.2.2.1 + (1 : Int))), ())))) else none) else none) else some (Sum.inr (Sum.inl (()))))
def sh_laws_eqLsaSS (s : (List (List Ls) × List (List Ls) × Unit)) : Option (Bool × Unit) := (bif (!(decide ((nI (List.length s.1) = nI (List.length s.2.1))))) then some ((false, ())) else (lp bo_laws_eqLsaSS_4 fuel ((s.1, (s.2.1, ((0 : Int), ()))))).bind fun r0 => (match r0 with | .inl _ => some ((true, ())) | .inr y1 => some ((y1.1, ()))))
def sh_laws_eqWorld (s : (Int × List Lk × List Bool × List Int × List (List Ls) × List Pk × Int × List Lk × List Bool × List Int × List (List Ls) × List Pk × Unit)) : Option (Bool × Unit) := (sh_laws_eqGraph ((s.1, (s.2.1, (s.2.2.2.2.2.2.1, (s.2.2.2.2.2.2.2.1, ())))))).bind fun r0 => (bif (!r0.1) then some ((false, ())) else (sh_laws_eqBoolS ((s.2.2.1, (s.2.2.2.2.2.2.2.2.1, ())))).bind fun r1 => (bif (!r1.1) then some ((false, ())) else (sh_laws_eqIntS ((s.2.2.2.1, (s.2.2.2.2.2.2.2.2.2.1, ())))).bind fun r2 => (bif (!r2.1) then some ((false, ())) else (sh_laws_eqLsaSS ((s.2.2.2.2.1, (s.2.2.2.2.2.2.2.2.2.2.1, ())))).bind fun r3 => (bif (!r3.1) then some ((false, ())) else (sh_laws_eqPacketS ((s.2.2.2.2.2.1, (s.2.2.2.2.2.2.2.2.2.2.2.1, ())))).bind fun r4 => (bif (!r4.1) then some ((false, ())) else some ((true, ())))))))
end Go.Proofs.Ythcckenjkicmgaa
end
section
namespace Go.Proofs.Ythcckenjkicmgaa
open Go.RowKit
set_option maxRecDepth 100000
def e_laws_szLinkS : Entry := ⟨⟨[.c (.one (.b (.sl false .lk))), .c (.one (.b (.int .i64)))], []⟩, [.ls .lk, .int], ⟨[.c (.one (.b (.int .i64)))], []⟩, [.int], sh_laws_szLinkS⟩
def g_laws_szLinkS : Env := mkEnv tab [] 12 0 [] []
theorem t_laws_szLinkS : CtrOk Try.prog g_laws_szLinkS.Γ := ctr_ok (l := []) trivial
theorem p_laws_szLinkS : GC Try.prog 60 e_laws_szLinkS := gc_of (G := g_laws_szLinkS) (c := Try.f60.body.getD .skip) bad_ok tabOk t_laws_szLinkS mixed Try.func60 (by kernel_rfl) Try.ntmps60 (code_ok' (G := g_laws_szLinkS) (n := 0) (by kernel_rfl) (by kernel_rfl) trivial (by kernel_rfl)) (fun s => by kernel_rfl)
def e_laws_szGraph : Entry := ⟨⟨[.c (.agg [(.b (.int .i64)), (.b (.sl false .lk))]), .c (.one (.b (.int .i64)))], []⟩, [.int, .ls .lk, .int], ⟨[.c (.one (.b (.int .i64)))], []⟩, [.int], sh_laws_szGraph⟩
def g_laws_szGraph : Env := mkEnv tab [(60, [], e_laws_szLinkS)] 12 0 [] []
theorem t_laws_szGraph : CtrOk Try.prog g_laws_szGraph.Γ := ctr_ok (l := [(60, [], e_laws_szLinkS)]) ⟨⟨p_laws_szLinkS, Try.call60⟩, trivial⟩
theorem p_laws_szGraph : GC Try.prog 19 e_laws_szGraph := gc_of (G := g_laws_szGraph) (c := Try.f19.body.getD .skip) bad_ok tabOk t_laws_szGraph mixed Try.func19 (by kernel_rfl) Try.ntmps19 (code_ok' (G := g_laws_szGraph) (n := 0) (by kernel_rfl) (by kernel_rfl) trivial (by kernel_rfl)) (fun s => by kernel_rfl)
def e_laws_toLink : Entry := ⟨⟨[.c (.agg [(.b (.int .i64)), (.b (.int .i64)), (.b (.int .i64))])], []⟩, [.int, .int, .int], ⟨[.c (.agg [(.b (.int .i64)), (.b (.int .i64)), (.b (.int .i64))])], []⟩, [.int, .int, .int], sh_laws_toLink⟩
def g_laws_toLink : Env := mkEnv tab [] 14 0 [] []
theorem t_laws_toLink : CtrOk Try.prog g_laws_toLink.Γ := ctr_ok (l := []) trivial
theorem p_laws_toLink : GC Try.prog 108 e_laws_toLink := gc_of (G := g_laws_toLink) (c := Try.f108.body.getD .skip) bad_ok tabOk t_laws_toLink mixed Try.func108 (by kernel_rfl) Try.ntmps108 (code_ok' (G := g_laws_toLink) (n := 0) (by kernel_rfl) (by kernel_rfl) trivial (by kernel_rfl)) (fun s => by kernel_rfl)
def e_laws_eqLink : Entry := ⟨⟨[.c (.agg [(.b (.int .i64)), (.b (.int .i64)), (.b (.int .i64))]), .c (.agg [(.b (.int .i64)), (.b (.int .i64)), (.b (.int .i64))])], []⟩, [.int, .int, .int, .int, .int, .int], ⟨[.c (.one (.b .bool))], []⟩, [.bool], sh_laws_eqLink⟩
def g_laws_eqLink : Env := mkEnv tab [] 20 0 [] []
theorem t_laws_eqLink : CtrOk Try.prog g_laws_eqLink.Γ := ctr_ok (l := []) trivial
theorem p_laws_eqLink : GC Try.prog 109 e_laws_eqLink := gc_of (G := g_laws_eqLink) (c := Try.f109.body.getD .skip) bad_ok tabOk t_laws_eqLink mixed Try.func109 (by kernel_rfl) Try.ntmps109 (code_ok' (G := g_laws_eqLink) (n := 0) (by kernel_rfl) (by kernel_rfl) trivial (by kernel_rfl)) (fun s => by kernel_rfl)
def L_laws_toIntS_3 : Loop := ⟨⟨[0, 3, 4], ⟨[.c (.one (.b (.sl false .int))), .c (.one (.own 0)), .c (.one (.b (.int .i64)))], [.row 3 .int]⟩, [.ls .int, .int, .ls .int]⟩, 0, ⟨[3], ⟨[.c (.one (.own 0))], [.row 3 .int]⟩, [.ls .int]⟩, ⟨[999999], ⟨[.c (.one (.own 0))], []⟩, []⟩, lp bo_laws_toIntS_3 fuel⟩
def e_laws_toIntS : Entry := ⟨⟨[.c (.one (.b (.sl false .int)))], []⟩, [.ls .int], ⟨[.c (.one (.own 0))], [.row 3 .int]⟩, [.ls .int], sh_laws_toIntS⟩
def g_laws_toIntS : Env := mkEnv tab [] 22 0 [] [(3, L_laws_toIntS_3)]
theorem t_laws_toIntS : CtrOk Try.prog g_laws_toIntS.Γ := ctr_ok (l := []) trivial
theorem k_laws_toIntS_3 : LoopOk Try.prog 0 22 (nthC (Try.f31.body.getD .skip) 0) L_laws_toIntS_3 := loop_ok (G := g_laws_toIntS) (F := L_laws_toIntS_3.F) (eid := L_laws_toIntS_3.eid) (FX := L_laws_toIntS_3.FX) (FR := L_laws_toIntS_3.FR) (B := bo_laws_toIntS_3) (n := fuel) bad_ok tabOk t_laws_toIntS mixed (code_ok' (G := g_laws_toIntS) (n := 0) (by kernel_rfl) (by kernel_rfl) trivial (by kernel_rfl)) (fun s => by kernel_rfl)
theorem p_laws_toIntS : GC Try.prog 31 e_laws_toIntS := gc_of (G := g_laws_toIntS) (c := Try.f31.body.getD .skip) bad_ok tabOk t_laws_toIntS mixed Try.func31 (by kernel_rfl) Try.ntmps31 (code_ok' (G := g_laws_toIntS) (n := 1) (by kernel_rfl) (by kernel_rfl) ⟨trivial, loop_at (id := 3) (L0 := L_laws_toIntS_3) (by kernel_rfl) (by kernel_rfl) k_laws_toIntS_3⟩ (by kernel_rfl)) (fun s => by kernel_rfl)
def e_laws_szEndS : Entry := ⟨⟨[.c (.one (.b (.sl false .en))), .c (.one (.b (.int .i64)))], []⟩, [.ls .en, .int], ⟨[.c (.one (.b (.int .i64)))], []⟩, [.int], sh_laws_szEndS⟩
def g_laws_szEndS : Env := mkEnv tab [] 12 0 [] []
theorem t_laws_szEndS : CtrOk Try.prog g_laws_szEndS.Γ := ctr_ok (l := []) trivial
theorem p_laws_szEndS : GC Try.prog 20 e_laws_szEndS := gc_of (G := g_laws_szEndS) (c := Try.f20.body.getD .skip) bad_ok tabOk t_laws_szEndS mixed Try.func20 (by kernel_rfl) Try.ntmps20 (code_ok' (G := g_laws_szEndS) (n := 0) (by kernel_rfl) (by kernel_rfl) trivial (by kernel_rfl)) (fun s => by kernel_rfl)
def L_laws_toLinkS_3 : Loop := ⟨⟨[0, 3, 4], ⟨[.c (.one (.b (.sl false .lk))), .c (.one (.own 0)), .c (.one (.b (.int .i64)))], [.row 105 .lk]⟩, [.ls .lk, .int, .ls .lk]⟩, 0, ⟨[3], ⟨[.c (.one (.own 0))], [.row 105 .lk]⟩, [.ls .lk]⟩, ⟨[999999], ⟨[.c (.one (.own 0))], []⟩, []⟩, lp bo_laws_toLinkS_3 fuel⟩
def e_laws_toLinkS : Entry := ⟨⟨[.c (.one (.b (.sl false .lk)))], []⟩, [.ls .lk], ⟨[.c (.one (.own 0))], [.row 105 .lk]⟩, [.ls .lk], sh_laws_toLinkS⟩
def g_laws_toLinkS : Env := mkEnv tab [(108, [], e_laws_toLink)] 23 0 [] [(3, L_laws_toLinkS_3)]
theorem t_laws_toLinkS : CtrOk Try.prog g_laws_toLinkS.Γ := ctr_ok (l := [(108, [], e_laws_toLink)]) ⟨⟨p_laws_toLink, Try.call108⟩, trivial⟩
theorem k_laws_toLinkS_3 : LoopOk Try.prog 0 23 (nthC (Try.f61.body.getD .skip) 0) L_laws_toLinkS_3 := loop_ok (G := g_laws_toLinkS) (F := L_laws_toLinkS_3.F) (eid := L_laws_toLinkS_3.eid) (FX := L_laws_toLinkS_3.FX) (FR := L_laws_toLinkS_3.FR) (B := bo_laws_toLinkS_3) (n := fuel) bad_ok tabOk t_laws_toLinkS mixed (code_ok' (G := g_laws_toLinkS) (n := 0) (by kernel_rfl) (by kernel_rfl) trivial (by kernel_rfl)) (fun s => by kernel_rfl)
theorem p_laws_toLinkS : GC Try.prog 61 e_laws_toLinkS := gc_of (G := g_laws_toLinkS) (c := Try.f61.body.getD .skip) bad_ok tabOk t_laws_toLinkS mixed Try.func61 (by kernel_rfl) Try.ntmps61 (code_ok' (G := g_laws_toLinkS) (n := 1) (by kernel_rfl) (by kernel_rfl) ⟨trivial, loop_at (id := 3) (L0 := L_laws_toLinkS_3) (by kernel_rfl) (by kernel_rfl) k_laws_toLinkS_3⟩ (by kernel_rfl)) (fun s => by kernel_rfl)
def e_laws_toEnd : Entry := ⟨⟨[.c (.agg [(.b (.int .i64)), (.b (.int .i64))])], []⟩, [.int, .int], ⟨[.c (.agg [(.b (.int .i64)), (.b (.int .i64))])], []⟩, [.int, .int], sh_laws_toEnd⟩
def g_laws_toEnd : Env := mkEnv tab [] 11 0 [] []
theorem t_laws_toEnd : CtrOk Try.prog g_laws_toEnd.Γ := ctr_ok (l := []) trivial
theorem p_laws_toEnd : GC Try.prog 62 e_laws_toEnd := gc_of (G := g_laws_toEnd) (c := Try.f62.body.getD .skip) bad_ok tabOk t_laws_toEnd mixed Try.func62 (by kernel_rfl) Try.ntmps62 (code_ok' (G := g_laws_toEnd) (n := 0) (by kernel_rfl) (by kernel_rfl) trivial (by kernel_rfl)) (fun s => by kernel_rfl)
def L_laws_eqIntS_4 : Loop := ⟨⟨[0, 1, 5], ⟨[.c (.one (.b (.sl false .int))), .c (.one (.b (.sl false .int))), .c (.one (.b (.int .i64)))], []⟩, [.ls .int, .ls .int, .int]⟩, 0, ⟨[], ⟨[], []⟩, []⟩, ⟨[4], ⟨[.c (.one (.b .bool))], []⟩, [.bool]⟩, lp bo_laws_eqIntS_4 fuel⟩
def e_laws_eqIntS : Entry := ⟨⟨[.c (.one (.b (.sl false .int))), .c (.one (.b (.sl false .int)))], []⟩, [.ls .int, .ls .int], ⟨[.c (.one (.b .bool))], []⟩, [.bool], sh_laws_eqIntS⟩
def g_laws_eqIntS : Env := mkEnv tab [] 26 0 [(6, 8, [(0, true), (1, true), (2, true), (3, true), (4, true), (5, true), (6, true), (7, true)], [])] [(4, L_laws_eqIntS_4)]
theorem t_laws_eqIntS : CtrOk Try.prog g_laws_eqIntS.Γ := ctr_ok (l := []) trivial
theorem k_laws_eqIntS_4 : LoopOk Try.prog 0 26 (nthC (Try.f23.body.getD .skip) 0) L_laws_eqIntS_4 := loop_ok (G := g_laws_eqIntS) (F := L_laws_eqIntS_4.F) (eid := L_laws_eqIntS_4.eid) (FX := L_laws_eqIntS_4.FX) (FR := L_laws_eqIntS_4.FR) (B := bo_laws_eqIntS_4) (n := fuel) bad_ok tabOk t_laws_eqIntS mixed (code_ok' (G := g_laws_eqIntS) (n := 0) (by kernel_rfl) (by kernel_rfl) trivial (by kernel_rfl)) (fun s => by kernel_rfl)
theorem p_laws_eqIntS : GC Try.prog 23 e_laws_eqIntS := gc_of (G := g_laws_eqIntS) (c := Try.f23.body.getD .skip) bad_ok tabOk t_laws_eqIntS mixed Try.func23 (by kernel_rfl) Try.ntmps23 (code_ok' (G := g_laws_eqIntS) (n := 1) (by kernel_rfl) (by kernel_rfl) ⟨trivial, loop_at (id := 4) (L0 := L_laws_eqIntS_4) (by kernel_rfl) (by kernel_rfl) k_laws_eqIntS_4⟩ (by kernel_rfl)) (fun s => by kernel_rfl)
def e_laws_eqEnd : Entry := ⟨⟨[.c (.agg [(.b (.int .i64)), (.b (.int .i64))]), .c (.agg [(.b (.int .i64)), (.b (.int .i64))])], []⟩, [.int, .int, .int, .int], ⟨[.c (.one (.b .bool))], []⟩, [.bool], sh_laws_eqEnd⟩
def g_laws_eqEnd : Env := mkEnv tab [] 15 0 [] []
theorem t_laws_eqEnd : CtrOk Try.prog g_laws_eqEnd.Γ := ctr_ok (l := []) trivial
theorem p_laws_eqEnd : GC Try.prog 64 e_laws_eqEnd := gc_of (G := g_laws_eqEnd) (c := Try.f64.body.getD .skip) bad_ok tabOk t_laws_eqEnd mixed Try.func64 (by kernel_rfl) Try.ntmps64 (code_ok' (G := g_laws_eqEnd) (n := 0) (by kernel_rfl) (by kernel_rfl) trivial (by kernel_rfl)) (fun s => by kernel_rfl)
def L_laws_eqLinkS_4 : Loop := ⟨⟨[0, 1, 5], ⟨[.c (.one (.b (.sl false .lk))), .c (.one (.b (.sl false .lk))), .c (.one (.b (.int .i64)))], []⟩, [.ls .lk, .ls .lk, .int]⟩, 0, ⟨[], ⟨[], []⟩, []⟩, ⟨[4], ⟨[.c (.one (.b .bool))], []⟩, [.bool]⟩, lp bo_laws_eqLinkS_4 fuel⟩
def e_laws_eqLinkS : Entry := ⟨⟨[.c (.one (.b (.sl false .lk))), .c (.one (.b (.sl false .lk)))], []⟩, [.ls .lk, .ls .lk], ⟨[.c (.one (.b .bool))], []⟩, [.bool], sh_laws_eqLinkS⟩
def g_laws_eqLinkS : Env := mkEnv tab [(109, [], e_laws_eqLink)] 27 0 [(6, 8, [(0, true), (1, true), (2, true), (3, true), (4, true), (5, true), (6, true), (7, true)], [])] [(4, L_laws_eqLinkS_4)]
theorem t_laws_eqLinkS : CtrOk Try.prog g_laws_eqLinkS.Γ := ctr_ok (l := [(109, [], e_laws_eqLink)]) ⟨⟨p_laws_eqLink, Try.call109⟩, trivial⟩
theorem k_laws_eqLinkS_4 : LoopOk Try.prog 0 27 (nthC (Try.f63.body.getD .skip) 0) L_laws_eqLinkS_4 := loop_ok (G := g_laws_eqLinkS) (F := L_laws_eqLinkS_4.F) (eid := L_laws_eqLinkS_4.eid) (FX := L_laws_eqLinkS_4.FX) (FR := L_laws_eqLinkS_4.FR) (B := bo_laws_eqLinkS_4) (n := fuel) bad_ok tabOk t_laws_eqLinkS mixed (code_ok' (G := g_laws_eqLinkS) (n := 0) (by kernel_rfl) (by kernel_rfl) trivial (by kernel_rfl)) (fun s => by kernel_rfl)
theorem p_laws_eqLinkS : GC Try.prog 63 e_laws_eqLinkS := gc_of (G := g_laws_eqLinkS) (c := Try.f63.body.getD .skip) bad_ok tabOk t_laws_eqLinkS mixed Try.func63 (by kernel_rfl) Try.ntmps63 (code_ok' (G := g_laws_eqLinkS) (n := 1) (by kernel_rfl) (by kernel_rfl) ⟨trivial, loop_at (id := 4) (L0 := L_laws_eqLinkS_4) (by kernel_rfl) (by kernel_rfl) k_laws_eqLinkS_4⟩ (by kernel_rfl)) (fun s => by kernel_rfl)
def e_laws_toGraph : Entry := ⟨⟨[.c (.agg [(.b (.int .i64)), (.b (.sl false .lk))])], []⟩, [.int, .ls .lk], ⟨[.c (.agg [(.b (.int .i64)), (.own 0)])], [.row 105 .lk]⟩, [.int, .ls .lk], sh_laws_toGraph⟩
def g_laws_toGraph : Env := mkEnv tab [(61, [], e_laws_toLinkS)] 12 0 [] []
theorem t_laws_toGraph : CtrOk Try.prog g_laws_toGraph.Γ := ctr_ok (l := [(61, [], e_laws_toLinkS)]) ⟨⟨p_laws_toLinkS, Try.call61⟩, trivial⟩
theorem p_laws_toGraph : GC Try.prog 21 e_laws_toGraph := gc_of (G := g_laws_toGraph) (c := Try.f21.body.getD .skip) bad_ok tabOk t_laws_toGraph mixed Try.func21 (by kernel_rfl) Try.ntmps21 (code_ok' (G := g_laws_toGraph) (n := 0) (by kernel_rfl) (by kernel_rfl) trivial (by kernel_rfl)) (fun s => by kernel_rfl)
def e_laws_eqGraph : Entry := ⟨⟨[.c (.agg [(.b (.int .i64)), (.b (.sl false .lk))]), .c (.agg [(.b (.int .i64)), (.b (.sl false .lk))])], []⟩, [.int, .ls .lk, .int, .ls .lk], ⟨[.c (.one (.b .bool))], []⟩, [.bool], sh_laws_eqGraph⟩
def g_laws_eqGraph : Env := mkEnv tab [(63, [], e_laws_eqLinkS)] 16 0 [] []
theorem t_laws_eqGraph : CtrOk Try.prog g_laws_eqGraph.Γ := ctr_ok (l := [(63, [], e_laws_eqLinkS)]) ⟨⟨p_laws_eqLinkS, Try.call63⟩, trivial⟩
theorem p_laws_eqGraph : GC Try.prog 24 e_laws_eqGraph := gc_of (G := g_laws_eqGraph) (c := Try.f24.body.getD .skip) bad_ok tabOk t_laws_eqGraph mixed Try.func24 (by kernel_rfl) Try.ntmps24 (code_ok' (G := g_laws_eqGraph) (n := 0) (by kernel_rfl) (by kernel_rfl) trivial (by kernel_rfl)) (fun s => by kernel_rfl)
def L_laws_toEndS_3 : Loop := ⟨⟨[0, 3, 4], ⟨[.c (.one (.b (.sl false .en))), .c (.one (.own 0)), .c (.one (.b (.int .i64)))], [.row 95 .en]⟩, [.ls .en, .int, .ls .en]⟩, 0, ⟨[3], ⟨[.c (.one (.own 0))], [.row 95 .en]⟩, [.ls .en]⟩, ⟨[999999], ⟨[.c (.one (.own 0))], []⟩, []⟩, lp bo_laws_toEndS_3 fuel⟩
def e_laws_toEndS : Entry := ⟨⟨[.c (.one (.b (.sl false .en)))], []⟩, [.ls .en], ⟨[.c (.one (.own 0))], [.row 95 .en]⟩, [.ls .en], sh_laws_toEndS⟩
def g_laws_toEndS : Env := mkEnv tab [(62, [], e_laws_toEnd)] 23 0 [] [(3, L_laws_toEndS_3)]
theorem t_laws_toEndS : CtrOk Try.prog g_laws_toEndS.Γ := ctr_ok (l := [(62, [], e_laws_toEnd)]) ⟨⟨p_laws_toEnd, Try.call62⟩, trivial⟩
theorem k_laws_toEndS_3 : LoopOk Try.prog 0 23 (nthC (Try.f22.body.getD .skip) 0) L_laws_toEndS_3 := loop_ok (G := g_laws_toEndS) (F := L_laws_toEndS_3.F) (eid := L_laws_toEndS_3.eid) (FX := L_laws_toEndS_3.FX) (FR := L_laws_toEndS_3.FR) (B := bo_laws_toEndS_3) (n := fuel) bad_ok tabOk t_laws_toEndS mixed (code_ok' (G := g_laws_toEndS) (n := 0) (by kernel_rfl) (by kernel_rfl) trivial (by kernel_rfl)) (fun s => by kernel_rfl)
theorem p_laws_toEndS : GC Try.prog 22 e_laws_toEndS := gc_of (G := g_laws_toEndS) (c := Try.f22.body.getD .skip) bad_ok tabOk t_laws_toEndS mixed Try.func22 (by kernel_rfl) Try.ntmps22 (code_ok' (G := g_laws_toEndS) (n := 1) (by kernel_rfl) (by kernel_rfl) ⟨trivial, loop_at (id := 3) (L0 := L_laws_toEndS_3) (by kernel_rfl) (by kernel_rfl) k_laws_toEndS_3⟩ (by kernel_rfl)) (fun s => by kernel_rfl)
def e_laws_szBoolS : Entry := ⟨⟨[.c (.one (.b (.sl false .bool))), .c (.one (.b (.int .i64)))], []⟩, [.ls .bool, .int], ⟨[.c (.one (.b (.int .i64)))], []⟩, [.int], sh_laws_szBoolS⟩
def g_laws_szBoolS : Env := mkEnv tab [] 12 0 [] []
theorem t_laws_szBoolS : CtrOk Try.prog g_laws_szBoolS.Γ := ctr_ok (l := []) trivial
theorem p_laws_szBoolS : GC Try.prog 77 e_laws_szBoolS := gc_of (G := g_laws_szBoolS) (c := Try.f77.body.getD .skip) bad_ok tabOk t_laws_szBoolS mixed Try.func77 (by kernel_rfl) Try.ntmps77 (code_ok' (G := g_laws_szBoolS) (n := 0) (by kernel_rfl) (by kernel_rfl) trivial (by kernel_rfl)) (fun s => by kernel_rfl)
def L_laws_toBoolS_3 : Loop := ⟨⟨[0, 3, 4], ⟨[.c (.one (.b (.sl false .bool))), .c (.one (.own 0)), .c (.one (.b (.int .i64)))], [.row 4 .bool]⟩, [.ls .bool, .int, .ls .bool]⟩, 0, ⟨[3], ⟨[.c (.one (.own 0))], [.row 4 .bool]⟩, [.ls .bool]⟩, ⟨[999999], ⟨[.c (.one (.own 0))], []⟩, []⟩, lp bo_laws_toBoolS_3 fuel⟩
def e_laws_toBoolS : Entry := ⟨⟨[.c (.one (.b (.sl false .bool)))], []⟩, [.ls .bool], ⟨[.c (.one (.own 0))], [.row 4 .bool]⟩, [.ls .bool], sh_laws_toBoolS⟩
def g_laws_toBoolS : Env := mkEnv tab [] 22 0 [] [(3, L_laws_toBoolS_3)]
theorem t_laws_toBoolS : CtrOk Try.prog g_laws_toBoolS.Γ := ctr_ok (l := []) trivial
theorem k_laws_toBoolS_3 : LoopOk Try.prog 0 22 (nthC (Try.f87.body.getD .skip) 0) L_laws_toBoolS_3 := loop_ok (G := g_laws_toBoolS) (F := L_laws_toBoolS_3.F) (eid := L_laws_toBoolS_3.eid) (FX := L_laws_toBoolS_3.FX) (FR := L_laws_toBoolS_3.FR) (B := bo_laws_toBoolS_3) (n := fuel) bad_ok tabOk t_laws_toBoolS mixed (code_ok' (G := g_laws_toBoolS) (n := 0) (by kernel_rfl) (by kernel_rfl) trivial (by kernel_rfl)) (fun s => by kernel_rfl)
theorem p_laws_toBoolS : GC Try.prog 87 e_laws_toBoolS := gc_of (G := g_laws_toBoolS) (c := Try.f87.body.getD .skip) bad_ok tabOk t_laws_toBoolS mixed Try.func87 (by kernel_rfl) Try.ntmps87 (code_ok' (G := g_laws_toBoolS) (n := 1) (by kernel_rfl) (by kernel_rfl) ⟨trivial, loop_at (id := 3) (L0 := L_laws_toBoolS_3) (by kernel_rfl) (by kernel_rfl) k_laws_toBoolS_3⟩ (by kernel_rfl)) (fun s => by kernel_rfl)
def e_laws_szIntS : Entry := ⟨⟨[.c (.one (.b (.sl false .int))), .c (.one (.b (.int .i64)))], []⟩, [.ls .int, .int], ⟨[.c (.one (.b (.int .i64)))], []⟩, [.int], sh_laws_szIntS⟩
def g_laws_szIntS : Env := mkEnv tab [] 12 0 [] []
theorem t_laws_szIntS : CtrOk Try.prog g_laws_szIntS.Γ := ctr_ok (l := []) trivial
theorem p_laws_szIntS : GC Try.prog 78 e_laws_szIntS := gc_of (G := g_laws_szIntS) (c := Try.f78.body.getD .skip) bad_ok tabOk t_laws_szIntS mixed Try.func78 (by kernel_rfl) Try.ntmps78 (code_ok' (G := g_laws_szIntS) (n := 0) (by kernel_rfl) (by kernel_rfl) trivial (by kernel_rfl)) (fun s => by kernel_rfl)
def L_laws_eqEndS_4 : Loop := ⟨⟨[0, 1, 5], ⟨[.c (.one (.b (.sl false .en))), .c (.one (.b (.sl false .en))), .c (.one (.b (.int .i64)))], []⟩, [.ls .en, .ls .en, .int]⟩, 0, ⟨[], ⟨[], []⟩, []⟩, ⟨[4], ⟨[.c (.one (.b .bool))], []⟩, [.bool]⟩, lp bo_laws_eqEndS_4 fuel⟩
def e_laws_eqEndS : Entry := ⟨⟨[.c (.one (.b (.sl false .en))), .c (.one (.b (.sl false .en)))], []⟩, [.ls .en, .ls .en], ⟨[.c (.one (.b .bool))], []⟩, [.bool], sh_laws_eqEndS⟩
def g_laws_eqEndS : Env := mkEnv tab [(64, [], e_laws_eqEnd)] 27 0 [(6, 8, [(0, true), (1, true), (2, true), (3, true), (4, true), (5, true), (6, true), (7, true)], [])] [(4, L_laws_eqEndS_4)]
theorem t_laws_eqEndS : CtrOk Try.prog g_laws_eqEndS.Γ := ctr_ok (l := [(64, [], e_laws_eqEnd)]) ⟨⟨p_laws_eqEnd, Try.call64⟩, trivial⟩
theorem k_laws_eqEndS_4 : LoopOk Try.prog 0 27 (nthC (Try.f25.body.getD .skip) 0) L_laws_eqEndS_4 := loop_ok (G := g_laws_eqEndS) (F := L_laws_eqEndS_4.F) (eid := L_laws_eqEndS_4.eid) (FX := L_laws_eqEndS_4.FX) (FR := L_laws_eqEndS_4.FR) (B := bo_laws_eqEndS_4) (n := fuel) bad_ok tabOk t_laws_eqEndS mixed (code_ok' (G := g_laws_eqEndS) (n := 0) (by kernel_rfl) (by kernel_rfl) trivial (by kernel_rfl)) (fun s => by kernel_rfl)
theorem p_laws_eqEndS : GC Try.prog 25 e_laws_eqEndS := gc_of (G := g_laws_eqEndS) (c := Try.f25.body.getD .skip) bad_ok tabOk t_laws_eqEndS mixed Try.func25 (by kernel_rfl) Try.ntmps25 (code_ok' (G := g_laws_eqEndS) (n := 1) (by kernel_rfl) (by kernel_rfl) ⟨trivial, loop_at (id := 4) (L0 := L_laws_eqEndS_4) (by kernel_rfl) (by kernel_rfl) k_laws_eqEndS_4⟩ (by kernel_rfl)) (fun s => by kernel_rfl)
def e_laws_toLsa : Entry := ⟨⟨[.c (.agg [(.b (.int .i64)), (.b (.int .i64)), (.b (.sl false .en))])], []⟩, [.int, .int, .ls .en], ⟨[.c (.agg [(.b (.int .i64)), (.b (.int .i64)), (.own 0)])], [.row 95 .en]⟩, [.int, .int, .ls .en], sh_laws_toLsa⟩
def g_laws_toLsa : Env := mkEnv tab [(22, [], e_laws_toEndS)] 15 0 [] []
theorem t_laws_toLsa : CtrOk Try.prog g_laws_toLsa.Γ := ctr_ok (l := [(22, [], e_laws_toEndS)]) ⟨⟨p_laws_toEndS, Try.call22⟩, trivial⟩
theorem p_laws_toLsa : GC Try.prog 137 e_laws_toLsa := gc_of (G := g_laws_toLsa) (c := Try.f137.body.getD .skip) bad_ok tabOk t_laws_toLsa mixed Try.func137 (by kernel_rfl) Try.ntmps137 (code_ok' (G := g_laws_toLsa) (n := 0) (by kernel_rfl) (by kernel_rfl) trivial (by kernel_rfl)) (fun s => by kernel_rfl)
def L_laws_eqBoolS_4 : Loop := ⟨⟨[0, 1, 5], ⟨[.c (.one (.b (.sl false .bool))), .c (.one (.b (.sl false .bool))), .c (.one (.b (.int .i64)))], []⟩, [.ls .bool, .ls .bool, .int]⟩, 0, ⟨[], ⟨[], []⟩, []⟩, ⟨[4], ⟨[.c (.one (.b .bool))], []⟩, [.bool]⟩, lp bo_laws_eqBoolS_4 fuel⟩
def e_laws_eqBoolS : Entry := ⟨⟨[.c (.one (.b (.sl false .bool))), .c (.one (.b (.sl false .bool)))], []⟩, [.ls .bool, .ls .bool], ⟨[.c (.one (.b .bool))], []⟩, [.bool], sh_laws_eqBoolS⟩
def g_laws_eqBoolS : Env := mkEnv tab [] 26 0 [(6, 8, [(0, true), (1, true), (2, true), (3, true), (4, true), (5, true), (6, true), (7, true)], [])] [(4, L_laws_eqBoolS_4)]
theorem t_laws_eqBoolS : CtrOk Try.prog g_laws_eqBoolS.Γ := ctr_ok (l := []) trivial
theorem k_laws_eqBoolS_4 : LoopOk Try.prog 0 26 (nthC (Try.f98.body.getD .skip) 0) L_laws_eqBoolS_4 := loop_ok (G := g_laws_eqBoolS) (F := L_laws_eqBoolS_4.F) (eid := L_laws_eqBoolS_4.eid) (FX := L_laws_eqBoolS_4.FX) (FR := L_laws_eqBoolS_4.FR) (B := bo_laws_eqBoolS_4) (n := fuel) bad_ok tabOk t_laws_eqBoolS mixed (code_ok' (G := g_laws_eqBoolS) (n := 0) (by kernel_rfl) (by kernel_rfl) trivial (by kernel_rfl)) (fun s => by kernel_rfl)
theorem p_laws_eqBoolS : GC Try.prog 98 e_laws_eqBoolS := gc_of (G := g_laws_eqBoolS) (c := Try.f98.body.getD .skip) bad_ok tabOk t_laws_eqBoolS mixed Try.func98 (by kernel_rfl) Try.ntmps98 (code_ok' (G := g_laws_eqBoolS) (n := 1) (by kernel_rfl) (by kernel_rfl) ⟨trivial, loop_at (id := 4) (L0 := L_laws_eqBoolS_4) (by kernel_rfl) (by kernel_rfl) k_laws_eqBoolS_4⟩ (by kernel_rfl)) (fun s => by kernel_rfl)
def e_laws_szLsa : Entry := ⟨⟨[.c (.agg [(.b (.int .i64)), (.b (.int .i64)), (.b (.sl false .en))]), .c (.one (.b (.int .i64)))], []⟩, [.int, .int, .ls .en, .int], ⟨[.c (.one (.b (.int .i64)))], []⟩, [.int], sh_laws_szLsa⟩
def g_laws_szLsa : Env := mkEnv tab [(20, [], e_laws_szEndS)] 12 0 [] []
theorem t_laws_szLsa : CtrOk Try.prog g_laws_szLsa.Γ := ctr_ok (l := [(20, [], e_laws_szEndS)]) ⟨⟨p_laws_szEndS, Try.call20⟩, trivial⟩
theorem p_laws_szLsa : GC Try.prog 136 e_laws_szLsa := gc_of (G := g_laws_szLsa) (c := Try.f136.body.getD .skip) bad_ok tabOk t_laws_szLsa mixed Try.func136 (by kernel_rfl) Try.ntmps136 (code_ok' (G := g_laws_szLsa) (n := 0) (by kernel_rfl) (by kernel_rfl) trivial (by kernel_rfl)) (fun s => by kernel_rfl)
def e_laws_eqLsa : Entry := ⟨⟨[.c (.agg [(.b (.int .i64)), (.b (.int .i64)), (.b (.sl false .en))]), .c (.agg [(.b (.int .i64)), (.b (.int .i64)), (.b (.sl false .en))])], []⟩, [.int, .int, .ls .en, .int, .int, .ls .en], ⟨[.c (.one (.b .bool))], []⟩, [.bool], sh_laws_eqLsa⟩
def g_laws_eqLsa : Env := mkEnv tab [(25, [], e_laws_eqEndS)] 21 0 [] []
theorem t_laws_eqLsa : CtrOk Try.prog g_laws_eqLsa.Γ := ctr_ok (l := [(25, [], e_laws_eqEndS)]) ⟨⟨p_laws_eqEndS, Try.call25⟩, trivial⟩
theorem p_laws_eqLsa : GC Try.prog 141 e_laws_eqLsa := gc_of (G := g_laws_eqLsa) (c := Try.f141.body.getD .skip) bad_ok tabOk t_laws_eqLsa mixed Try.func141 (by kernel_rfl) Try.ntmps141 (code_ok' (G := g_laws_eqLsa) (n := 0) (by kernel_rfl) (by kernel_rfl) trivial (by kernel_rfl)) (fun s => by kernel_rfl)
def e_laws_toPacket : Entry := ⟨⟨[.c (.agg [(.b (.int .i64)), (.b (.int .i64)), (.b (.int .i64)), (.b (.sl false .en))])], []⟩, [.int, .int, .int, .ls .en], ⟨[.c (.agg [(.b (.int .i64)), (.b (.int .i64)), (.b (.int .i64)), (.own 0)])], [.row 95 .en]⟩, [.int, .int, .int, .ls .en], sh_laws_toPacket⟩
def g_laws_toPacket : Env := mkEnv tab [(137, [], e_laws_toLsa)] 12 0 [] []
theorem t_laws_toPacket : CtrOk Try.prog g_laws_toPacket.Γ := ctr_ok (l := [(137, [], e_laws_toLsa)]) ⟨⟨p_laws_toLsa, Try.call137⟩, trivial⟩
theorem p_laws_toPacket : GC Try.prog 123 e_laws_toPacket := gc_of (G := g_laws_toPacket) (c := Try.f123.body.getD .skip) bad_ok tabOk t_laws_toPacket mixed Try.func123 (by kernel_rfl) Try.ntmps123 (code_ok' (G := g_laws_toPacket) (n := 0) (by kernel_rfl) (by kernel_rfl) trivial (by kernel_rfl)) (fun s => by kernel_rfl)
def e_laws_szPacket : Entry := ⟨⟨[.c (.agg [(.b (.int .i64)), (.b (.int .i64)), (.b (.int .i64)), (.b (.sl false .en))]), .c (.one (.b (.int .i64)))], []⟩, [.int, .int, .int, .ls .en, .int], ⟨[.c (.one (.b (.int .i64)))], []⟩, [.int], sh_laws_szPacket⟩
def g_laws_szPacket : Env := mkEnv tab [(136, [], e_laws_szLsa)] 12 0 [] []
theorem t_laws_szPacket : CtrOk Try.prog g_laws_szPacket.Γ := ctr_ok (l := [(136, [], e_laws_szLsa)]) ⟨⟨p_laws_szLsa, Try.call136⟩, trivial⟩
theorem p_laws_szPacket : GC Try.prog 118 e_laws_szPacket := gc_of (G := g_laws_szPacket) (c := Try.f118.body.getD .skip) bad_ok tabOk t_laws_szPacket mixed Try.func118 (by kernel_rfl) Try.ntmps118 (code_ok' (G := g_laws_szPacket) (n := 0) (by kernel_rfl) (by kernel_rfl) trivial (by kernel_rfl)) (fun s => by kernel_rfl)
def L_laws_toLsaS_3 : Loop := ⟨⟨[0, 3, 4], ⟨[.c (.one (.b (.sl false .ls))), .c (.one (.own 0)), .c (.one (.b (.int .i64)))], [.row 89 .ls]⟩, [.ls .ls, .int, .ls .ls]⟩, 0, ⟨[3], ⟨[.c (.one (.own 0))], [.row 89 .ls]⟩, [.ls .ls]⟩, ⟨[999999], ⟨[.c (.one (.own 0))], []⟩, []⟩, lp bo_laws_toLsaS_3 fuel⟩
def e_laws_toLsaS : Entry := ⟨⟨[.c (.one (.b (.sl false .ls)))], []⟩, [.ls .ls], ⟨[.c (.one (.own 0))], [.row 89 .ls]⟩, [.ls .ls], sh_laws_toLsaS⟩
def g_laws_toLsaS : Env := mkEnv tab [(137, [], e_laws_toLsa)] 23 0 [] [(3, L_laws_toLsaS_3)]
theorem t_laws_toLsaS : CtrOk Try.prog g_laws_toLsaS.Γ := ctr_ok (l := [(137, [], e_laws_toLsa)]) ⟨⟨p_laws_toLsa, Try.call137⟩, trivial⟩
theorem k_laws_toLsaS_3 : LoopOk Try.prog 0 23 (nthC (Try.f122.body.getD .skip) 0) L_laws_toLsaS_3 := loop_ok (G := g_laws_toLsaS) (F := L_laws_toLsaS_3.F) (eid := L_laws_toLsaS_3.eid) (FX := L_laws_toLsaS_3.FX) (FR := L_laws_toLsaS_3.FR) (B := bo_laws_toLsaS_3) (n := fuel) bad_ok tabOk t_laws_toLsaS mixed (code_ok' (G := g_laws_toLsaS) (n := 0) (by kernel_rfl) (by kernel_rfl) trivial (by kernel_rfl)) (fun s => by kernel_rfl)
theorem p_laws_toLsaS : GC Try.prog 122 e_laws_toLsaS := gc_of (G := g_laws_toLsaS) (c := Try.f122.body.getD .skip) bad_ok tabOk t_laws_toLsaS mixed Try.func122 (by kernel_rfl) Try.ntmps122 (code_ok' (G := g_laws_toLsaS) (n := 1) (by kernel_rfl) (by kernel_rfl) ⟨trivial, loop_at (id := 3) (L0 := L_laws_toLsaS_3) (by kernel_rfl) (by kernel_rfl) k_laws_toLsaS_3⟩ (by kernel_rfl)) (fun s => by kernel_rfl)
def L_laws_szLsaS_5 : Loop := ⟨⟨[0, 1, 5], ⟨[.c (.one (.b (.sl false .ls))), .c (.one (.b (.int .i64))), .c (.one (.b (.int .i64)))], []⟩, [.ls .ls, .int, .int]⟩, 0, ⟨[1], ⟨[.c (.one (.b (.int .i64)))], []⟩, [.int]⟩, ⟨[4], ⟨[.c (.one (.b (.int .i64)))], []⟩, [.int]⟩, lp bo_laws_szLsaS_5 fuel⟩
def e_laws_szLsaS : Entry := ⟨⟨[.c (.one (.b (.sl false .ls))), .c (.one (.b (.int .i64)))], []⟩, [.ls .ls, .int], ⟨[.c (.one (.b (.int .i64)))], []⟩, [.int], sh_laws_szLsaS⟩
def g_laws_szLsaS : Env := mkEnv tab [(136, [], e_laws_szLsa)] 27 0 [] [(5, L_laws_szLsaS_5)]
theorem t_laws_szLsaS : CtrOk Try.prog g_laws_szLsaS.Γ := ctr_ok (l := [(136, [], e_laws_szLsa)]) ⟨⟨p_laws_szLsa, Try.call136⟩, trivial⟩
theorem k_laws_szLsaS_5 : LoopOk Try.prog 0 27 (nthC (Try.f117.body.getD .skip) 0) L_laws_szLsaS_5 := loop_ok (G := g_laws_szLsaS) (F := L_laws_szLsaS_5.F) (eid := L_laws_szLsaS_5.eid) (FX := L_laws_szLsaS_5.FX) (FR := L_laws_szLsaS_5.FR) (B := bo_laws_szLsaS_5) (n := fuel) bad_ok tabOk t_laws_szLsaS mixed (code_ok' (G := g_laws_szLsaS) (n := 0) (by kernel_rfl) (by kernel_rfl) trivial (by kernel_rfl)) (fun s => by kernel_rfl)
theorem p_laws_szLsaS : GC Try.prog 117 e_laws_szLsaS := gc_of (G := g_laws_szLsaS) (c := Try.f117.body.getD .skip) bad_ok tabOk t_laws_szLsaS mixed Try.func117 (by kernel_rfl) Try.ntmps117 (code_ok' (G := g_laws_szLsaS) (n := 1) (by kernel_rfl) (by kernel_rfl) ⟨trivial, loop_at (id := 5) (L0 := L_laws_szLsaS_5) (by kernel_rfl) (by kernel_rfl) k_laws_szLsaS_5⟩ (by kernel_rfl)) (fun s => by kernel_rfl)
def L_laws_toPacketS_3 : Loop := ⟨⟨[0, 3, 4], ⟨[.c (.one (.b (.sl false .pk))), .c (.one (.own 0)), .c (.one (.b (.int .i64)))], [.row 119 .pk]⟩, [.ls .pk, .int, .ls .pk]⟩, 0, ⟨[3], ⟨[.c (.one (.own 0))], [.row 119 .pk]⟩, [.ls .pk]⟩, ⟨[999999], ⟨[.c (.one (.own 0))], []⟩, []⟩, lp bo_laws_toPacketS_3 fuel⟩
def e_laws_toPacketS : Entry := ⟨⟨[.c (.one (.b (.sl false .pk)))], []⟩, [.ls .pk], ⟨[.c (.one (.own 0))], [.row 119 .pk]⟩, [.ls .pk], sh_laws_toPacketS⟩
def g_laws_toPacketS : Env := mkEnv tab [(123, [], e_laws_toPacket)] 23 0 [] [(3, L_laws_toPacketS_3)]
theorem t_laws_toPacketS : CtrOk Try.prog g_laws_toPacketS.Γ := ctr_ok (l := [(123, [], e_laws_toPacket)]) ⟨⟨p_laws_toPacket, Try.call123⟩, trivial⟩
theorem k_laws_toPacketS_3 : LoopOk Try.prog 0 23 (nthC (Try.f89.body.getD .skip) 0) L_laws_toPacketS_3 := loop_ok (G := g_laws_toPacketS) (F := L_laws_toPacketS_3.F) (eid := L_laws_toPacketS_3.eid) (FX := L_laws_toPacketS_3.FX) (FR := L_laws_toPacketS_3.FR) (B := bo_laws_toPacketS_3) (n := fuel) bad_ok tabOk t_laws_toPacketS mixed (code_ok' (G := g_laws_toPacketS) (n := 0) (by kernel_rfl) (by kernel_rfl) trivial (by kernel_rfl)) (fun s => by kernel_rfl)
theorem p_laws_toPacketS : GC Try.prog 89 e_laws_toPacketS := gc_of (G := g_laws_toPacketS) (c := Try.f89.body.getD .skip) bad_ok tabOk t_laws_toPacketS mixed Try.func89 (by kernel_rfl) Try.ntmps89 (code_ok' (G := g_laws_toPacketS) (n := 1) (by kernel_rfl) (by kernel_rfl) ⟨trivial, loop_at (id := 3) (L0 := L_laws_toPacketS_3) (by kernel_rfl) (by kernel_rfl) k_laws_toPacketS_3⟩ (by kernel_rfl)) (fun s => by kernel_rfl)
def e_laws_eqPacket : Entry := ⟨⟨[.c (.agg [(.b (.int .i64)), (.b (.int .i64)), (.b (.int .i64)), (.b (.sl false .en))]), .c (.agg [(.b (.int .i64)), (.b (.int .i64)), (.b (.int .i64)), (.b (.sl false .en))])], []⟩, [.int, .int, .int, .ls .en, .int, .int, .int, .ls .en], ⟨[.c (.one (.b .bool))], []⟩, [.bool], sh_laws_eqPacket⟩
def g_laws_eqPacket : Env := mkEnv tab [(141, [], e_laws_eqLsa)] 16 0 [] []
theorem t_laws_eqPacket : CtrOk Try.prog g_laws_eqPacket.Γ := ctr_ok (l := [(141, [], e_laws_eqLsa)]) ⟨⟨p_laws_eqLsa, Try.call141⟩, trivial⟩
theorem p_laws_eqPacket : GC Try.prog 131 e_laws_eqPacket := gc_of (G := g_laws_eqPacket) (c := Try.f131.body.getD .skip) bad_ok tabOk t_laws_eqPacket mixed Try.func131 (by kernel_rfl) Try.ntmps131 (code_ok' (G := g_laws_eqPacket) (n := 0) (by kernel_rfl) (by kernel_rfl) trivial (by kernel_rfl)) (fun s => by kernel_rfl)
def L_laws_szPacketS_5 : Loop := ⟨⟨[0, 1, 5], ⟨[.c (.one (.b (.sl false .pk))), .c (.one (.b (.int .i64))), .c (.one (.b (.int .i64)))], []⟩, [.ls .pk, .int, .int]⟩, 0, ⟨[1], ⟨[.c (.one (.b (.int .i64)))], []⟩, [.int]⟩, ⟨[4], ⟨[.c (.one (.b (.int .i64)))], []⟩, [.int]⟩, lp bo_laws_szPacketS_5 fuel⟩
def e_laws_szPacketS : Entry := ⟨⟨[.c (.one (.b (.sl false .pk))), .c (.one (.b (.int .i64)))], []⟩, [.ls .pk, .int], ⟨[.c (.one (.b (.int .i64)))], []⟩, [.int], sh_laws_szPacketS⟩
def g_laws_szPacketS : Env := mkEnv tab [(118, [], e_laws_szPacket)] 27 0 [] [(5, L_laws_szPacketS_5)]
theorem t_laws_szPacketS : CtrOk Try.prog g_laws_szPacketS.Γ := ctr_ok (l := [(118, [], e_laws_szPacket)]) ⟨⟨p_laws_szPacket, Try.call118⟩, trivial⟩
theorem k_laws_szPacketS_5 : LoopOk Try.prog 0 27 (nthC (Try.f80.body.getD .skip) 0) L_laws_szPacketS_5 := loop_ok (G := g_laws_szPacketS) (F := L_laws_szPacketS_5.F) (eid := L_laws_szPacketS_5.eid) (FX := L_laws_szPacketS_5.FX) (FR := L_laws_szPacketS_5.FR) (B := bo_laws_szPacketS_5) (n := fuel) bad_ok tabOk t_laws_szPacketS mixed (code_ok' (G := g_laws_szPacketS) (n := 0) (by kernel_rfl) (by kernel_rfl) trivial (by kernel_rfl)) (fun s => by kernel_rfl)
theorem p_laws_szPacketS : GC Try.prog 80 e_laws_szPacketS := gc_of (G := g_laws_szPacketS) (c := Try.f80.body.getD .skip) bad_ok tabOk t_laws_szPacketS mixed Try.func80 (by kernel_rfl) Try.ntmps80 (code_ok' (G := g_laws_szPacketS) (n := 1) (by kernel_rfl) (by kernel_rfl) ⟨trivial, loop_at (id := 5) (L0 := L_laws_szPacketS_5) (by kernel_rfl) (by kernel_rfl) k_laws_szPacketS_5⟩ (by kernel_rfl)) (fun s => by kernel_rfl)
def L_laws_eqLsaS_4 : Loop := ⟨⟨[0, 1, 5], ⟨[.c (.one (.b (.sl false .ls))), .c (.one (.b (.sl false .ls))), .c (.one (.b (.int .i64)))], []⟩, [.ls .ls, .ls .ls, .int]⟩, 0, ⟨[], ⟨[], []⟩, []⟩, ⟨[4], ⟨[.c (.one (.b .bool))], []⟩, [.bool]⟩, lp bo_laws_eqLsaS_4 fuel⟩
def e_laws_eqLsaS : Entry := ⟨⟨[.c (.one (.b (.sl false .ls))), .c (.one (.b (.sl false .ls)))], []⟩, [.ls .ls, .ls .ls], ⟨[.c (.one (.b .bool))], []⟩, [.bool], sh_laws_eqLsaS⟩
def g_laws_eqLsaS : Env := mkEnv tab [(141, [], e_laws_eqLsa)] 27 0 [(6, 8, [(0, true), (1, true), (2, true), (3, true), (4, true), (5, true), (6, true), (7, true)], [])] [(4, L_laws_eqLsaS_4)]
theorem t_laws_eqLsaS : CtrOk Try.prog g_laws_eqLsaS.Γ := ctr_ok (l := [(141, [], e_laws_eqLsa)]) ⟨⟨p_laws_eqLsa, Try.call141⟩, trivial⟩
theorem k_laws_eqLsaS_4 : LoopOk Try.prog 0 27 (nthC (Try.f130.body.getD .skip) 0) L_laws_eqLsaS_4 := loop_ok (G := g_laws_eqLsaS) (F := L_laws_eqLsaS_4.F) (eid := L_laws_eqLsaS_4.eid) (FX := L_laws_eqLsaS_4.FX) (FR := L_laws_eqLsaS_4.FR) (B := bo_laws_eqLsaS_4) (n := fuel) bad_ok tabOk t_laws_eqLsaS mixed (code_ok' (G := g_laws_eqLsaS) (n := 0) (by kernel_rfl) (by kernel_rfl) trivial (by kernel_rfl)) (fun s => by kernel_rfl)
theorem p_laws_eqLsaS : GC Try.prog 130 e_laws_eqLsaS := gc_of (G := g_laws_eqLsaS) (c := Try.f130.body.getD .skip) bad_ok tabOk t_laws_eqLsaS mixed Try.func130 (by kernel_rfl) Try.ntmps130 (code_ok' (G := g_laws_eqLsaS) (n := 1) (by kernel_rfl) (by kernel_rfl) ⟨trivial, loop_at (id := 4) (L0 := L_laws_eqLsaS_4) (by kernel_rfl) (by kernel_rfl) k_laws_eqLsaS_4⟩ (by kernel_rfl)) (fun s => by kernel_rfl)
def L_laws_toLsaSS_3 : Loop := ⟨⟨[0, 3, 4], ⟨[.c (.one (.b (.sl false .db))), .c (.one (.own 0)), .c (.one (.b (.int .i64)))], [.row 84 .db]⟩, [.ls .db, .int, .ls .db]⟩, 0, ⟨[3], ⟨[.c (.one (.own 0))], [.row 84 .db]⟩, [.ls .db]⟩, ⟨[999999], ⟨[.c (.one (.own 0))], []⟩, []⟩, lp bo_laws_toLsaSS_3 fuel⟩
def e_laws_toLsaSS : Entry := ⟨⟨[.c (.one (.b (.sl false .db)))], []⟩, [.ls .db], ⟨[.c (.one (.own 0))], [.row 84 .db]⟩, [.ls .db], sh_laws_toLsaSS⟩
def g_laws_toLsaSS : Env := mkEnv tab [(122, [], e_laws_toLsaS)] 23 0 [] [(3, L_laws_toLsaSS_3)]
theorem t_laws_toLsaSS : CtrOk Try.prog g_laws_toLsaSS.Γ := ctr_ok (l := [(122, [], e_laws_toLsaS)]) ⟨⟨p_laws_toLsaS, Try.call122⟩, trivial⟩
theorem k_laws_toLsaSS_3 : LoopOk Try.prog 0 23 (nthC (Try.f88.body.getD .skip) 0) L_laws_toLsaSS_3 := loop_ok (G := g_laws_toLsaSS) (F := L_laws_toLsaSS_3.F) (eid := L_laws_toLsaSS_3.eid) (FX := L_laws_toLsaSS_3.FX) (FR := L_laws_toLsaSS_3.FR) (B := bo_laws_toLsaSS_3) (n := fuel) bad_ok tabOk t_laws_toLsaSS mixed (code_ok' (G := g_laws_toLsaSS) (n := 0) (by kernel_rfl) (by kernel_rfl) trivial (by kernel_rfl)) (fun s => by kernel_rfl)
theorem p_laws_toLsaSS : GC Try.prog 88 e_laws_toLsaSS := gc_of (G := g_laws_toLsaSS) (c := Try.f88.body.getD .skip) bad_ok tabOk t_laws_toLsaSS mixed Try.func88 (by kernel_rfl) Try.ntmps88 (code_ok' (G := g_laws_toLsaSS) (n := 1) (by kernel_rfl) (by kernel_rfl) ⟨trivial, loop_at (id := 3) (L0 := L_laws_toLsaSS_3) (by kernel_rfl) (by kernel_rfl) k_laws_toLsaSS_3⟩ (by kernel_rfl)) (fun s => by kernel_rfl)
def e_laws_toWorld : Entry := ⟨⟨[.c (.agg [(.b (.int .i64)), (.b (.sl false .lk)), (.b (.sl false .bool)), (.b (.sl false .int)), (.b (.sl false .db)), (.b (.sl false .pk))])], []⟩, [.int, .ls .lk, .ls .bool, .ls .int, .ls .db, .ls .pk], ⟨[.c (.agg [(.b (.int .i64)), (.own 0), (.own 1), (.own 2), (.own 3), (.own 4)])], [.row 105 .lk, .row 4 .bool, .row 3 .int, .row 84 .db, .row 119 .pk]⟩, [.int, .ls .lk, .ls .bool, .ls .int, .ls .db, .ls .pk], sh_laws_toWorld⟩
def g_laws_toWorld : Env := mkEnv tab [(31, [], e_laws_toIntS), (21, [], e_laws_toGraph), (87, [], e_laws_toBoolS), (89, [], e_laws_toPacketS), (88, [], e_laws_toLsaSS)] 25 0 [] []
theorem t_laws_toWorld : CtrOk Try.prog g_laws_toWorld.Γ := ctr_ok (l := [(31, [], e_laws_toIntS), (21, [], e_laws_toGraph), (87, [], e_laws_toBoolS), (89, [], e_laws_toPacketS), (88, [], e_laws_toLsaSS)]) ⟨⟨p_laws_toIntS, Try.call31⟩, ⟨⟨p_laws_toGraph, Try.call21⟩, ⟨⟨p_laws_toBoolS, Try.call87⟩, ⟨⟨p_laws_toPacketS, Try.call89⟩, ⟨⟨p_laws_toLsaSS, Try.call88⟩, trivial⟩⟩⟩⟩⟩
theorem p_laws_toWorld : GC Try.prog 39 e_laws_toWorld := gc_of (G := g_laws_toWorld) (c := Try.f39.body.getD .skip) bad_ok tabOk t_laws_toWorld mixed Try.func39 (by kernel_rfl) Try.ntmps39 (code_ok' (G := g_laws_toWorld) (n := 0) (by kernel_rfl) (by kernel_rfl) trivial (by kernel_rfl)) (fun s => by kernel_rfl)
def L_laws_szLsaSS_5 : Loop := ⟨⟨[0, 1, 5], ⟨[.c (.one (.b (.sl false .db))), .c (.one (.b (.int .i64))), .c (.one (.b (.int .i64)))], []⟩, [.ls .db, .int, .int]⟩, 0, ⟨[1], ⟨[.c (.one (.b (.int .i64)))], []⟩, [.int]⟩, ⟨[4], ⟨[.c (.one (.b (.int .i64)))], []⟩, [.int]⟩, lp bo_laws_szLsaSS_5 fuel⟩
def e_laws_szLsaSS : Entry := ⟨⟨[.c (.one (.b (.sl false .db))), .c (.one (.b (.int .i64)))], []⟩, [.ls .db, .int], ⟨[.c (.one (.b (.int .i64)))], []⟩, [.int], sh_laws_szLsaSS⟩
def g_laws_szLsaSS : Env := mkEnv tab [(117, [], e_laws_szLsaS)] 27 0 [] [(5, L_laws_szLsaSS_5)]
theorem t_laws_szLsaSS : CtrOk Try.prog g_laws_szLsaSS.Γ := ctr_ok (l := [(117, [], e_laws_szLsaS)]) ⟨⟨p_laws_szLsaS, Try.call117⟩, trivial⟩
theorem k_laws_szLsaSS_5 : LoopOk Try.prog 0 27 (nthC (Try.f79.body.getD .skip) 0) L_laws_szLsaSS_5 := loop_ok (G := g_laws_szLsaSS) (F := L_laws_szLsaSS_5.F) (eid := L_laws_szLsaSS_5.eid) (FX := L_laws_szLsaSS_5.FX) (FR := L_laws_szLsaSS_5.FR) (B := bo_laws_szLsaSS_5) (n := fuel) bad_ok tabOk t_laws_szLsaSS mixed (code_ok' (G := g_laws_szLsaSS) (n := 0) (by kernel_rfl) (by kernel_rfl) trivial (by kernel_rfl)) (fun s => by kernel_rfl)
theorem p_laws_szLsaSS : GC Try.prog 79 e_laws_szLsaSS := gc_of (G := g_laws_szLsaSS) (c := Try.f79.body.getD .skip) bad_ok tabOk t_laws_szLsaSS mixed Try.func79 (by kernel_rfl) Try.ntmps79 (code_ok' (G := g_laws_szLsaSS) (n := 1) (by kernel_rfl) (by kernel_rfl) ⟨trivial, loop_at (id := 5) (L0 := L_laws_szLsaSS_5) (by kernel_rfl) (by kernel_rfl) k_laws_szLsaSS_5⟩ (by kernel_rfl)) (fun s => by kernel_rfl)
def L_laws_eqPacketS_4 : Loop := ⟨⟨[0, 1, 5], ⟨[.c (.one (.b (.sl false .pk))), .c (.one (.b (.sl false .pk))), .c (.one (.b (.int .i64)))], []⟩, [.ls .pk, .ls .pk, .int]⟩, 0, ⟨[], ⟨[], []⟩, []⟩, ⟨[4], ⟨[.c (.one (.b .bool))], []⟩, [.bool]⟩, lp bo_laws_eqPacketS_4 fuel⟩
def e_laws_eqPacketS : Entry := ⟨⟨[.c (.one (.b (.sl false .pk))), .c (.one (.b (.sl false .pk)))], []⟩, [.ls .pk, .ls .pk], ⟨[.c (.one (.b .bool))], []⟩, [.bool], sh_laws_eqPacketS⟩
def g_laws_eqPacketS : Env := mkEnv tab [(131, [], e_laws_eqPacket)] 27 0 [(6, 8, [(0, true), (1, true), (2, true), (3, true), (4, true), (5, true), (6, true), (7, true)], [])] [(4, L_laws_eqPacketS_4)]
theorem t_laws_eqPacketS : CtrOk Try.prog g_laws_eqPacketS.Γ := ctr_ok (l := [(131, [], e_laws_eqPacket)]) ⟨⟨p_laws_eqPacket, Try.call131⟩, trivial⟩
theorem k_laws_eqPacketS_4 : LoopOk Try.prog 0 27 (nthC (Try.f100.body.getD .skip) 0) L_laws_eqPacketS_4 := loop_ok (G := g_laws_eqPacketS) (F := L_laws_eqPacketS_4.F) (eid := L_laws_eqPacketS_4.eid) (FX := L_laws_eqPacketS_4.FX) (FR := L_laws_eqPacketS_4.FR) (B := bo_laws_eqPacketS_4) (n := fuel) bad_ok tabOk t_laws_eqPacketS mixed (code_ok' (G := g_laws_eqPacketS) (n := 0) (by kernel_rfl) (by kernel_rfl) trivial (by kernel_rfl)) (fun s => by kernel_rfl)
theorem p_laws_eqPacketS : GC Try.prog 100 e_laws_eqPacketS := gc_of (G := g_laws_eqPacketS) (c := Try.f100.body.getD .skip) bad_ok tabOk t_laws_eqPacketS mixed Try.func100 (by kernel_rfl) Try.ntmps100 (code_ok' (G := g_laws_eqPacketS) (n := 1) (by kernel_rfl) (by kernel_rfl) ⟨trivial, loop_at (id := 4) (L0 := L_laws_eqPacketS_4) (by kernel_rfl) (by kernel_rfl) k_laws_eqPacketS_4⟩ (by kernel_rfl)) (fun s => by kernel_rfl)
def e_laws_szWorld : Entry := ⟨⟨[.c (.agg [(.b (.int .i64)), (.b (.sl false .lk)), (.b (.sl false .bool)), (.b (.sl false .int)), (.b (.sl false .db)), (.b (.sl false .pk))]), .c (.one (.b (.int .i64)))], []⟩, [.int, .ls .lk, .ls .bool, .ls .int, .ls .db, .ls .pk, .int], ⟨[.c (.one (.b (.int .i64)))], []⟩, [.int], sh_laws_szWorld⟩
def g_laws_szWorld : Env := mkEnv tab [(19, [], e_laws_szGraph), (77, [], e_laws_szBoolS), (78, [], e_laws_szIntS), (80, [], e_laws_szPacketS), (79, [], e_laws_szLsaSS)] 36 0 [] []
theorem t_laws_szWorld : CtrOk Try.prog g_laws_szWorld.Γ := ctr_ok (l := [(19, [], e_laws_szGraph), (77, [], e_laws_szBoolS), (78, [], e_laws_szIntS), (80, [], e_laws_szPacketS), (79, [], e_laws_szLsaSS)]) ⟨⟨p_laws_szGraph, Try.call19⟩, ⟨⟨p_laws_szBoolS, Try.call77⟩, ⟨⟨p_laws_szIntS, Try.call78⟩, ⟨⟨p_laws_szPacketS, Try.call80⟩, ⟨⟨p_laws_szLsaSS, Try.call79⟩, trivial⟩⟩⟩⟩⟩
theorem p_laws_szWorld : GC Try.prog 37 e_laws_szWorld := gc_of (G := g_laws_szWorld) (c := Try.f37.body.getD .skip) bad_ok tabOk t_laws_szWorld mixed Try.func37 (by kernel_rfl) Try.ntmps37 (code_ok' (G := g_laws_szWorld) (n := 0) (by kernel_rfl) (by kernel_rfl) trivial (by kernel_rfl)) (fun s => by kernel_rfl)
def L_laws_eqLsaSS_4 : Loop := ⟨⟨[0, 1, 5], ⟨[.c (.one (.b (.sl false .db))), .c (.one (.b (.sl false .db))), .c (.one (.b (.int .i64)))], []⟩, [.ls .db, .ls .db, .int]⟩, 0, ⟨[], ⟨[], []⟩, []⟩, ⟨[4], ⟨[.c (.one (.b .bool))], []⟩, [.bool]⟩, lp bo_laws_eqLsaSS_4 fuel⟩
def e_laws_eqLsaSS : Entry := ⟨⟨[.c (.one (.b (.sl false .db))), .c (.one (.b (.sl false .db)))], []⟩, [.ls .db, .ls .db], ⟨[.c (.one (.b .bool))], []⟩, [.bool], sh_laws_eqLsaSS⟩
def g_laws_eqLsaSS : Env := mkEnv tab [(130, [], e_laws_eqLsaS)] 27 0 [(6, 8, [(0, true), (1, true), (2, true), (3, true), (4, true), (5, true), (6, true), (7, true)], [])] [(4, L_laws_eqLsaSS_4)]
theorem t_laws_eqLsaSS : CtrOk Try.prog g_laws_eqLsaSS.Γ := ctr_ok (l := [(130, [], e_laws_eqLsaS)]) ⟨⟨p_laws_eqLsaS, Try.call130⟩, trivial⟩
theorem k_laws_eqLsaSS_4 : LoopOk Try.prog 0 27 (nthC (Try.f99.body.getD .skip) 0) L_laws_eqLsaSS_4 := loop_ok (G := g_laws_eqLsaSS) (F := L_laws_eqLsaSS_4.F) (eid := L_laws_eqLsaSS_4.eid) (FX := L_laws_eqLsaSS_4.FX) (FR := L_laws_eqLsaSS_4.FR) (B := bo_laws_eqLsaSS_4) (n := fuel) bad_ok tabOk t_laws_eqLsaSS mixed (code_ok' (G := g_laws_eqLsaSS) (n := 0) (by kernel_rfl) (by kernel_rfl) trivial (by kernel_rfl)) (fun s => by kernel_rfl)
theorem p_laws_eqLsaSS : GC Try.prog 99 e_laws_eqLsaSS := gc_of (G := g_laws_eqLsaSS) (c := Try.f99.body.getD .skip) bad_ok tabOk t_laws_eqLsaSS mixed Try.func99 (by kernel_rfl) Try.ntmps99 (code_ok' (G := g_laws_eqLsaSS) (n := 1) (by kernel_rfl) (by kernel_rfl) ⟨trivial, loop_at (id := 4) (L0 := L_laws_eqLsaSS_4) (by kernel_rfl) (by kernel_rfl) k_laws_eqLsaSS_4⟩ (by kernel_rfl)) (fun s => by kernel_rfl)
def e_laws_eqWorld : Entry := ⟨⟨[.c (.agg [(.b (.int .i64)), (.b (.sl false .lk)), (.b (.sl false .bool)), (.b (.sl false .int)), (.b (.sl false .db)), (.b (.sl false .pk))]), .c (.agg [(.b (.int .i64)), (.b (.sl false .lk)), (.b (.sl false .bool)), (.b (.sl false .int)), (.b (.sl false .db)), (.b (.sl false .pk))])], []⟩, [.int, .ls .lk, .ls .bool, .ls .int, .ls .db, .ls .pk, .int, .ls .lk, .ls .bool, .ls .int, .ls .db, .ls .pk], ⟨[.c (.one (.b .bool))], []⟩, [.bool], sh_laws_eqWorld⟩
def g_laws_eqWorld : Env := mkEnv tab [(23, [], e_laws_eqIntS), (24, [], e_laws_eqGraph), (98, [], e_laws_eqBoolS), (100, [], e_laws_eqPacketS), (99, [], e_laws_eqLsaSS)] 35 0 [] []
theorem t_laws_eqWorld : CtrOk Try.prog g_laws_eqWorld.Γ := ctr_ok (l := [(23, [], e_laws_eqIntS), (24, [], e_laws_eqGraph), (98, [], e_laws_eqBoolS), (100, [], e_laws_eqPacketS), (99, [], e_laws_eqLsaSS)]) ⟨⟨p_laws_eqIntS, Try.call23⟩, ⟨⟨p_laws_eqGraph, Try.call24⟩, ⟨⟨p_laws_eqBoolS, Try.call98⟩, ⟨⟨p_laws_eqPacketS, Try.call100⟩, ⟨⟨p_laws_eqLsaSS, Try.call99⟩, trivial⟩⟩⟩⟩⟩
theorem p_laws_eqWorld : GC Try.prog 41 e_laws_eqWorld := gc_of (G := g_laws_eqWorld) (c := Try.f41.body.getD .skip) bad_ok tabOk t_laws_eqWorld mixed Try.func41 (by kernel_rfl) Try.ntmps41 (code_ok' (G := g_laws_eqWorld) (n := 0) (by kernel_rfl) (by kernel_rfl) trivial (by kernel_rfl)) (fun s => by kernel_rfl)
end Go.Proofs.Ythcckenjkicmgaa
end
section
namespace Go.Proofs.Ythcckenjkicmgaa
open Go.RowKit
set_option maxRecDepth 100000
def sh_laws_FnExactWorldValid (s : (Int × List Lk × List Bool × List Int × List (List Ls) × List Pk × Unit)) : Option (Bool × Unit) := (sh_laws_szWorld ((s.1, (s.2.1, (s.2.2.1, (s.2.2.2.1, (s.2.2.2.2.1, (s.2.2.2.2.2.1, ((1048576 : Int), ()))))))))).bind fun r0 => (bif decide ((r0.1 < (0 : Int))) then some ((true, ())) else (sh_laws_toWorld ((s.1, (s.2.1, (s.2.2.1, (s.2.2.2.1, (s.2.2.2.2.1, (s.2.2.2.2.2.1, ())))))))).bind fun r1 => (sh_spec_WorldValid ((r1.1, (r1.2.1, (r1.2.2.1, (r1.2.2.2.1, (r1.2.2.2.2.1, (r1.2.2.2.2.2.1, ())))))))).bind fun r2 => (sh_laws_toWorld ((s.1, (s.2.1, (s.2.2.1, (s.2.2.2.1, (s.2.2.2.2.1, (s.2.2.2.2.2.1, ())))))))).bind fun r3 => (sh_impl_WorldValid ((r3.1, (r3.2.1, (r3.2.2.1, (r3.2.2.2.1, (r3.2.2.2.2.1, (r3.2.2.2.2.2.1, ())))))))).bind fun r4 => (bif (!((r4.1 == r2.1))) then some ((false, ())) else (sh_laws_toWorld ((s.1, (s.2.1, (s.2.2.1, (s.2.2.2.1, (s.2.2.2.2.1, (s.2.2.2.2.2.1, ())))))))).bind fun r5 => (sh_laws_eqWorld ((r3.1, (r3.2.1, (r3.2.2.1, (r3.2.2.2.1, (r3.2.2.2.2.1, (r3.2.2.2.2.2.1, (r5.1, (r5.2.1, (r5.2.2.1, (r5.2.2.2.1, (r5.2.2.2.2.1, (r5.2.2.2.2.2.1, ())))))))))))))).bind fun r6 => (bif (!r6.1) then some ((false, ())) else some ((true, ())))))
end Go.Proofs.Ythcckenjkicmgaa
end
section
namespace Go.Proofs.Ythcckenjkicmgaa
open Go.RowKit
set_option maxRecDepth 100000
def e_laws_FnExactWorldValid : Entry := ⟨⟨[.c (.agg [(.b (.int .i64)), (.b (.sl false .lk)), (.b (.sl false .bool)), (.b (.sl false .int)), (.b (.sl false .db)), (.b (.sl false .pk))])], []⟩, [.int, .ls .lk, .ls .bool, .ls .int, .ls .db, .ls .pk], ⟨[.c (.one (.b .bool))], []⟩, [.bool], sh_laws_FnExactWorldValid⟩
def g_laws_FnExactWorldValid : Env := mkEnv tab [(38, [], e_spec_WorldValid), (40, [], e_impl_WorldValid), (39, [], e_laws_toWorld), (37, [], e_laws_szWorld), (41, [], e_laws_eqWorld)] 27 0 [(10, 3, [(0, true), (1, true), (2, false)], [])] []
theorem t_laws_FnExactWorldValid : CtrOk Try.prog g_laws_FnExactWorldValid.Γ := ctr_ok (l := [(38, [], e_spec_WorldValid), (40, [], e_impl_WorldValid), (39, [], e_laws_toWorld), (37, [], e_laws_szWorld), (41, [], e_laws_eqWorld)]) ⟨⟨p_spec_WorldValid, Try.call38⟩, ⟨⟨p_impl_WorldValid, Try.call40⟩, ⟨⟨p_laws_toWorld, Try.call39⟩, ⟨⟨p_laws_szWorld, Try.call37⟩, ⟨⟨p_laws_eqWorld, Try.call41⟩, trivial⟩⟩⟩⟩⟩
theorem p_laws_FnExactWorldValid : GC Try.prog 9 e_laws_FnExactWorldValid := gc_of (G := g_laws_FnExactWorldValid) (c := Try.f9.body.getD .skip) bad_ok tabOk t_laws_FnExactWorldValid mixed Try.func9 (by kernel_rfl) Try.ntmps9 (code_ok' (G := g_laws_FnExactWorldValid) (n := 0) (by kernel_rfl) (by kernel_rfl) trivial (by kernel_rfl)) (fun s => by kernel_rfl)
end Go.Proofs.Ythcckenjkicmgaa
end
section
namespace Go.Proofs.Ythcckenjkicmgaa
open Go.RowKit

def LkAt (n : Int) (ls : List Lk) (i : Nat) : Prop :=
  0 ≤ (lk ls i).a ∧ (lk ls i).a < (lk ls i).b ∧ (lk ls i).b < n ∧ 1 ≤ (lk ls i).c ∧ (lk ls i).c ≤ 20 ∧
    (0 < i → (lk ls (i - 1)).a < (lk ls i).a ∨ (lk ls (i - 1)).a = (lk ls i).a ∧ (lk ls (i - 1)).b < (lk ls i).b)
instance (n : Int) (ls : List Lk) (i : Nat) : Decidable (LkAt n ls i) := by unfold LkAt; infer_instance
def GV (n : Int) (ls : List Lk) : Prop := 1 ≤ n ∧ n ≤ 8 ∧ ls.length ≤ 14 ∧ ∀ i, i < ls.length → LkAt n ls i
instance (n : Int) (ls : List Lk) : Decidable (GV n ls) := by unfold GV; infer_instance
def gv (n : Int) (ls : List Lk) : Bool := decide (GV n ls)
theorem gv_f {n : Int} {ls : List Lk} (h : ¬ GV n ls) : gv n ls = false := decide_eq_false h
theorem gv_at {n : Int} {ls : List Lk} {k : Nat} (hk : k < ls.length) (h : 1 ≤ n → n ≤ 8 → ¬ LkAt n ls k) : gv n ls = false :=
  gv_f fun g => h g.1 g.2.1 (g.2.2.2 k hk)
theorem gv_end {n : Int} {ls : List Lk} {k : Nat} (hl : ls.length = k) (h : 1 ≤ n → n ≤ 8 → ∀ i, i < k → LkAt n ls i) : gv n ls = (inB n 1 8 && decide ((k : Int) ≤ 14)) := by
  subst hl
  unfold gv GV inB
  by_cases h1 : 1 ≤ n ∧ n ≤ 8
  · by_cases h2 : ls.length ≤ 14
    · have h3 := h h1.1 h1.2
      have : ((ls.length : Nat) : Int) ≤ 14 := by omega
      simp [h1, h2, this]
      exact fun i hi => h3 i hi
    · have : ¬ ((ls.length : Nat) : Int) ≤ 14 := by omega
      simp [h1, h2, this]
  · have : ¬ (1 ≤ n ∧ n ≤ 8 ∧ ls.length ≤ 14 ∧ ∀ i, i < ls.length → LkAt n ls i) := fun g => h1 ⟨g.1, g.2.1⟩
    simp [this, h1]
end Go.Proofs.Ythcckenjkicmgaa

namespace Go.Proofs.Ythcckenjkicmgaa
open Go.RowKit

def relaxB (d : List Int) (x y : Nat) (c : Int) : Bool := decide (0 ≤ iz d x) && (decide (iz d y < 0) || decide (iz d x + c < iz d y))
def relax (d : List Int) (x y : Nat) (c : Int) : List Int := if relaxB d x y c then d.set y (iz d x + c) else d
def relaxL (d : List Int) (l : Lk) : List Int := relax (relax d l.a.toNat l.b.toNat l.c) l.b.toNat l.a.toNat l.c
def sweep (ls : List Lk) (d : List Int) : List Int := ls.foldl relaxL d
def dinit (n f : Nat) : List Int := (List.replicate n (-1)).set f 0
def rounds (ls : List Lk) (d : List Int) : Nat → List Int
  | 0 => d
  | k + 1 => sweep ls (rounds ls d k)
def dst (n : Nat) (ls : List Lk) (f r i : Nat) : List Int := (ls.take i).foldl relaxL (rounds ls (dinit n f) r)
def dists (n : Nat) (ls : List Lk) (f : Nat) : List Int := rounds ls (dinit n f) n

theorem GV.at_ {n : Int} {ls : List Lk} (h : GV n ls) {i : Nat} (hi : i < ls.length) : ∃ x y : Nat, (lk ls i).a = x ∧ (lk ls i).b = y ∧ x < y ∧ (y : Int) < n ∧ 1 ≤ (lk ls i).c ∧ (lk ls i).c ≤ 20 := by
  have := h.2.2.2 i hi
  unfold LkAt at this
  exact ⟨(lk ls i).a.toNat, (lk ls i).b.toNat, by omega, by omega, by omega, by omega, by omega, by omega⟩
end Go.Proofs.Ythcckenjkicmgaa

namespace Go.Proofs.Ythcckenjkicmgaa
open Go.RowKit

structure Src (d : List Int) (f : Nat) : Prop where
  zero : iz d f = 0
  low : ∀ j, -1 ≤ iz d j
  only : ∀ j, j < d.length → iz d j = 0 → j = f
end Go.Proofs.Ythcckenjkicmgaa

namespace Go.Proofs.Ythcckenjkicmgaa
open Go.RowKit

def Adj (ls : List Lk) (x y : Nat) (c : Int) : Prop := ∃ l, l ∈ ls ∧ l.c = c ∧ (l.a = x ∧ l.b = y ∨ l.a = y ∧ l.b = x)
theorem Adj.symm {ls : List Lk} {x y : Nat} {c : Int} (h : Adj ls x y c) : Adj ls y x c := by
  obtain ⟨l, h1, h2, h3⟩ := h
  exact ⟨l, h1, h2, h3.symm⟩
inductive Wk (ls : List Lk) (u : Nat) : Nat → Nat → Int → Prop
  | nil : Wk ls u 0 u 0
  | step {k x y : Nat} {s c : Int} : Wk ls u k x s → Adj ls x y c → Wk ls u (k + 1) y (s + c)
theorem Wk.append {ls : List Lk} {u v : Nat} {k : Nat} {s : Int} (h : Wk ls u k v s) {m w : Nat} {t : Int} (h' : Wk ls v m w t) : Wk ls u (k + m) w (s + t) := by
  induction h' with
  | nil => simpa using h
  | step _ ha ih => rw [← Int.add_assoc]; exact ih.step ha
theorem Wk.one {ls : List Lk} {x y : Nat} {c : Int} (h : Adj ls x y c) : Wk ls x 1 y c := by simpa using Wk.nil.step h
theorem Wk.symm {ls : List Lk} {u v k : Nat} {s : Int} (h : Wk ls u k v s) : Wk ls v k u s := by
  induction h with
  | nil => exact .nil
  | step _ ha ih =>
    have := (Wk.one ha.symm).append ih
    rwa [Nat.add_comm, Int.add_comm] at this
theorem Wk.mono {ls ls' : List Lk} (hs : ∀ x y c, Adj ls x y c → Adj ls' x y c) {u v k : Nat} {s : Int} (h : Wk ls u k v s) : Wk ls' u k v s := by
  induction h with
  | nil => exact .nil
  | step _ ha ih => exact ih.step (hs _ _ _ ha)
def Ends (n : Nat) (ls : List Lk) : Prop := ∀ l ∈ ls, ∃ x y : Nat, l.a = x ∧ l.b = y ∧ x < n ∧ y < n
theorem Adj.lt {n : Nat} {ls : List Lk} (he : Ends n ls) {x y : Nat} {c : Int} (h : Adj ls x y c) : x < n ∧ y < n := by
  obtain ⟨l, h1, _, h3⟩ := h
  obtain ⟨a, b, ha, hb, ha', hb'⟩ := he l h1
  rcases h3 with ⟨e1, e2⟩ | ⟨e1, e2⟩ <;> omega
def Le (d' d : List Int) : Prop := ∀ v, 0 ≤ iz d v → 0 ≤ iz d' v ∧ iz d' v ≤ iz d v
theorem Le.refl (d : List Int) : Le d d := fun _ h => ⟨h, Int.le_refl _⟩
theorem Le.trans {a b c : List Int} (h : Le a b) (k : Le b c) : Le a c := fun v hv => by
  have h1 := k v hv
  have h2 := h v h1.1
  exact ⟨h2.1, by omega⟩
end Go.Proofs.Ythcckenjkicmgaa

namespace Go.Proofs.Ythcckenjkicmgaa
open Go.RowKit

def Sat {α : Type} (o : Option α) (Q : α → Prop) : Prop := ∃ r, o = some r ∧ Q r
theorem Sat.some {α : Type} {x : α} {Q : α → Prop} (h : Q x) : Sat (some x) Q := ⟨x, rfl, h⟩
theorem Sat.mono {α : Type} {o : Option α} {Q R : α → Prop} (h : Sat o Q) (k : ∀ x, Q x → R x) : Sat o R := by
  obtain ⟨r, h1, h2⟩ := h; exact ⟨r, h1, k r h2⟩
theorem Sat.bind {α β : Type} {o : Option α} {f : α → Option β} {Q : β → Prop} (h : Sat o fun x => Sat (f x) Q) : Sat (o.bind f) Q := by
  obtain ⟨x, rfl, y, h1, h2⟩ := h; exact ⟨y, h1, h2⟩
theorem Sat.bnd {α β : Type} {o : Option α} {R : α → Prop} {f : α → Option β} {Q : β → Prop} (h : Sat o R) (k : ∀ x, R x → Sat (f x) Q) : Sat (o.bind f) Q := Sat.bind (h.mono k)
theorem Sat.ite {α : Type} {c : Bool} {a b : Option α} {Q : α → Prop} (h : c = true → Sat a Q) (k : c = false → Sat b Q) : Sat (bif c then a else b) Q := by
  cases c with
  | true => exact h rfl
  | false => exact k rfl
theorem Sat.gd {α : Type} {c : Bool} {a b : Option α} {Q : α → Prop} (hc : c = true) (h : Sat a Q) : Sat (bif c then a else b) Q := by subst hc; exact h
theorem Sat.no {α : Type} {c : Bool} {a b : Option α} {Q : α → Prop} (hc : c = false) (h : Sat b Q) : Sat (bif c then a else b) Q := by subst hc; exact h
theorem Sat.out {α : Type} {o : Option α} {x : α} (h : Sat o (· = x)) : o = Option.some x := by obtain ⟨r, h1, h2⟩ := h; rw [h1, h2]
theorem Sat.loop {σ τ : Type} {B : σ → Option (σ ⊕ τ)} (I : σ → Prop) (μ : σ → Nat) {Q : τ → Prop} (hB : ∀ s, I s → Sat (B s) fun r => match r with | .inl s' => I s' ∧ μ s' < μ s | .inr x => Q x) : ∀ (n : Nat) (s : σ), μ s < n → I s → Sat (lp B n s) Q
  | 0, _, h, _ => by omega
  | n + 1, s, h, hi => by
    unfold Go.Proofs.Ythcckenjkicmgaa.lp
    refine Sat.bnd (hB s hi) fun r hr => ?_
    cases r with
    | inl s' => exact Sat.loop I μ hB n s' (by have := hr.2; omega) hr.1
    | inr x => exact .some hr
theorem Sat.count {σ τ : Type} {B : σ → Option (σ ⊕ τ)} (n : Nat) (I : Nat → σ → Prop) {Q : τ → Prop} (hB : ∀ k s, k ≤ n → I k s → Sat (B s) fun r => match r with | .inl s' => k < n ∧ I (k + 1) s' | .inr x => Q x) {m : Nat} {s : σ} {k : Nat} (hk : k ≤ n) (hm : n - k < m) (h : I k s) : Sat (lp B m s) Q := by
  induction m generalizing s k with
  | zero => omega
  | succ m ih =>
    unfold Go.Proofs.Ythcckenjkicmgaa.lp
    refine Sat.bnd (hB k s hk h) fun r hr => ?_
    cases r with
    | inl s' => exact ih (k := k + 1) (by have := hr.1; omega) (by omega) hr.2
    | inr x => exact .some hr
theorem w64 {x : Int} (h1 : -9223372036854775808 ≤ x) (h2 : x ≤ 9223372036854775807) : wrap64 x = x := IntWalk.wrap64_in x (by omega)
theorem inR_t {z : Int} {n : Nat} (h1 : 0 ≤ z) (h2 : z < n) : inR z n = true := by simp [inR, h1, h2]
end Go.Proofs.Ythcckenjkicmgaa

namespace Go.Proofs.Ythcckenjkicmgaa
open Go.RowKit

def Asc (zs : List Int) (n : Int) : Prop := ∀ i, i < zs.length → 0 ≤ iz zs i ∧ iz zs i < n ∧ (0 < i → iz zs (i - 1) < iz zs i)
instance (zs : List Int) (n : Int) : Decidable (Asc zs n) := by unfold Asc; infer_instance
def asc (zs : List Int) (n : Int) : Bool := decide (Asc zs n)
theorem Asc.le {zs : List Int} {n : Int} (h : Asc zs n) {i : Nat} (j : Nat) (hj : i + j < zs.length) : iz zs i ≤ iz zs (i + j) := by
  induction j with
  | zero => exact Int.le_refl _
  | succ j ih =>
    have h1 := (h (i + (j + 1)) hj).2.2 (by omega)
    have h2 := ih (by omega)
    rw [show i + (j + 1) - 1 = i + j by omega] at h1
    omega
def bv (n : Int) (ls : List Lk) (bs : List Int) : Bool := gv n ls && decide (0 < bs.length) && asc bs n
def summL (d bs : List Int) (k : Nat) : List Int := (bs.take k).map fun b => iz d b.toNat
def summ (n : Int) (ls : List Lk) (bs : List Int) (t : Int) : List Int :=
  if bv n ls bs && inB t 0 (n - 1) then summL (dists n.toNat ls t.toNat) bs bs.length else []
def routeOk (na : Int) (la : List Lk) (nb : Int) (lb : List Lk) (bs : List Int) (f t : Int) : Bool := (bv na la bs && inB f 0 (na - 1)) && (bv nb lb bs && inB t 0 (nb - 1))
structure ROk (na nb f t : Nat) (la lb : List Lk) (bs : List Int) : Prop where
  va : gv na la = true
  vb : gv nb lb = true
  ga : GV na la
  gb : GV nb lb
  aa : Asc bs na
  ab : Asc bs nb
  pos : 0 < bs.length
  hf : f < na
  ht : t < nb
  one : summ na la bs f = summL (dists na la f) bs bs.length
  two : summ nb lb bs t = summL (dists nb lb t) bs bs.length
theorem ROk.ok {na nb f t : Nat} {la lb : List Lk} {bs : List Int} (h : ROk na nb f t la lb bs) : routeOk na la nb lb bs f t = true := by
  have i1 : inB (f : Int) 0 ((na : Int) - 1) = true := inB_mk (by have := h.hf; omega)
  have i2 : inB (t : Int) 0 ((nb : Int) - 1) = true := inB_mk (by have := h.ht; omega)
  simp [routeOk, bv, h.va, h.vb, i1, i2, h.pos, asc, h.aa, h.ab]
def hitB (x y : Int) (l : Lk) : Bool := decide (l.a = x) && decide (l.b = y)
def lof (ls : List Lk) (a b : Int) : Int := if ls.findIdx (hitB (min a b) (max a b)) < ls.length then ls.findIdx (hitB (min a b) (max a b)) else -1
theorem hit_lk {ls : List Lk} {i : Nat} (h : i < ls.length) : lk ls i = ls[i] := by simp [lk, List.getD, List.getElem?_eq_getElem h]
theorem lof_hit {ls : List Lk} {a b : Int} {k : Nat} (hk : k < ls.length) (h1 : hitB (min a b) (max a b) (lk ls k) = true) (h : ∀ i, i < k → hitB (min a b) (max a b) (lk ls i) = false) : lof ls a b = k := by
  have e : ls.findIdx (hitB (min a b) (max a b)) = k := (List.findIdx_eq hk).2 ⟨by rw [← hit_lk hk]; exact h1, fun j hj => by rw [← hit_lk (by omega)]; exact h j hj⟩
  unfold lof
  rw [e, if_pos hk]
theorem lof_miss {ls : List Lk} {a b : Int} (h : ∀ i, i < ls.length → hitB (min a b) (max a b) (lk ls i) = false) : lof ls a b = -1 := by
  have e : ls.findIdx (hitB (min a b) (max a b)) = ls.length := List.findIdx_eq_length_of_false fun x hx => by
    obtain ⟨i, hi, rfl⟩ := List.mem_iff_getElem.1 hx
    rw [← hit_lk hi]; exact h i hi
  unfold lof
  rw [e, if_neg (by omega)]
theorem hit_t {x y : Int} {l : Lk} (h : hitB x y l = true) : l.a = x ∧ l.b = y := by simpa [hitB] using h
theorem lof_cases (ls : List Lk) (a b : Int) : (lof ls a b = -1 ∧ ∀ i, i < ls.length → hitB (min a b) (max a b) (lk ls i) = false) ∨ ∃ k : Nat, lof ls a b = k ∧ k < ls.length ∧ (lk ls k).a = min a b ∧ (lk ls k).b = max a b := by
  by_cases h : ls.findIdx (hitB (min a b) (max a b)) < ls.length
  · right
    refine ⟨ls.findIdx (hitB (min a b) (max a b)), by unfold lof; rw [if_pos h], h, ?_⟩
    have := (List.findIdx_getElem (w := h))
    rw [← hit_lk h] at this
    exact hit_t this
  · left
    refine ⟨by unfold lof; rw [if_neg h], fun i hi => ?_⟩
    have hle := List.findIdx_le_length (p := hitB (min a b) (max a b)) (xs := ls)
    have := List.not_of_lt_findIdx (p := hitB (min a b) (max a b)) (xs := ls) (i := i) (by omega)
    rw [hit_lk hi]
    simpa using this
theorem hit_no {x y : Int} {l : Lk} (h : ¬ (l.a = x ∧ l.b = y)) : hitB x y l = false := by
  unfold hitB
  rw [Bool.and_eq_false_iff]
  by_cases h1 : l.a = x
  · right; exact decide_eq_false fun e => h ⟨h1, e⟩
  · left; exact decide_eq_false h1
theorem hit_yes {x y : Int} {l : Lk} (h1 : l.a = x) (h2 : l.b = y) : hitB x y l = true := by simp [hitB, h1, h2]
def otherE (l : Lk) (n : Int) : Int := if n = l.a then l.b else if n = l.b then l.a else 0
def isEnd (l : Lk) (n : Int) : Bool := decide (n = l.a ∨ n = l.b)
def others (ls : List Lk) (n : Int) (k : Nat) : List Int := ((ls.take k).filter (fun l => isEnd l n)).map (fun l => otherE l n)
theorem others_succ (ls : List Lk) (n : Int) (k : Nat) (h : k < ls.length) : others ls n (k + 1) = if isEnd (lk ls k) n then others ls n k ++ [otherE (lk ls k) n] else others ls n k := by
  have e : ls[k]? = some (lk ls k) := lk_get h
  unfold others
  rw [List.take_add_one, e]
  cases hq : isEnd (lk ls k) n <;> simp [hq]
theorem others_len (ls : List Lk) (n : Int) (k : Nat) : (others ls n k).length ≤ k := by
  unfold others
  rw [List.length_map]
  exact Nat.le_trans (List.length_filter_le _ _) (List.length_take_le _ _)
def nbS (ls : List Lk) (m : Int) (k : Nat) : List Int := ((List.range k).filter (fun x : Nat => decide (0 ≤ lof ls m (x : Int)))).map fun x : Nat => (x : Int)
theorem nbS_succ (ls : List Lk) (m : Int) (k : Nat) : nbS ls m (k + 1) = if 0 ≤ lof ls m k then nbS ls m k ++ [(k : Int)] else nbS ls m k := by
  unfold nbS
  rw [List.range_succ, List.filter_append, List.map_append]
  by_cases h : 0 ≤ lof ls m k <;> simp [h]
theorem nbS_len (ls : List Lk) (m : Int) (k : Nat) : (nbS ls m k).length ≤ k := by
  unfold nbS
  rw [List.length_map]
  exact Nat.le_trans (List.length_filter_le _ _) (by simp)
def pk (la lb : List Lk) (n m : Int) : List Lk :=
  if 0 ≤ lof la n m ∧ (lof lb n m < 0 ∨ (lk la (lof la n m).toNat).c ≤ (lk lb (lof lb n m).toNat).c) then [⟨n, m, (lk la (lof la n m).toNat).c⟩]
  else if 0 ≤ lof lb n m then [⟨n, m, (lk lb (lof lb n m).toNat).c⟩] else []
end Go.Proofs.Ythcckenjkicmgaa

namespace Go.Proofs.Ythcckenjkicmgaa
open Go.RowKit
set_option linter.unusedSimpArgs false
set_option linter.unusedVariables false

def okL (n : Int) (l : Lk) : Prop := 0 ≤ l.a ∧ l.a < l.b ∧ l.b < n ∧ 1 ≤ l.c ∧ l.c ≤ 20
def lxl (l m : Lk) : Prop := l.a < m.a ∨ l.a = m.a ∧ l.b < m.b
theorem lxl.trans {a b c : Lk} (h : lxl a b) (k : lxl b c) : lxl a c := by unfold lxl at *; omega
theorem lk_mem {ls : List Lk} {i : Nat} (h : i < ls.length) : lk ls i ∈ ls := List.mem_of_getElem? (lk_get h)
theorem mem_lk {ls : List Lk} {l : Lk} (h : l ∈ ls) : ∃ i, i < ls.length ∧ lk ls i = l := by
  obtain ⟨i, hi, rfl⟩ := List.getElem_of_mem h
  exact ⟨i, hi, hit_lk hi⟩
theorem lkAt_lt {n : Int} {ls : List Lk} (h : ∀ i, i < ls.length → LkAt n ls i) : ∀ (d i : Nat), i + d + 1 < ls.length → lxl (lk ls i) (lk ls (i + d + 1))
  | 0, i, hi => by
    have := (h (i + 1) hi).2.2.2.2.2 (by omega)
    simpa [lxl] using this
  | d + 1, i, hi => by
    have h1 := lkAt_lt h d i (by omega)
    have h2 := (h (i + (d + 1) + 1) hi).2.2.2.2.2 (by omega)
    rw [Nat.add_sub_cancel] at h2
    exact h1.trans h2
theorem gv_pw {n : Int} {ls : List Lk} : GV n ls ↔ 1 ≤ n ∧ n ≤ 8 ∧ ls.length ≤ 14 ∧ (∀ l ∈ ls, okL n l) ∧ ls.Pairwise lxl := by
  constructor
  · rintro ⟨h1, h2, h3, h⟩
    refine ⟨h1, h2, h3, fun l hl => ?_, List.pairwise_iff_getElem.2 fun i j hi hj hij => ?_⟩
    · obtain ⟨i, hi, rfl⟩ := mem_lk hl
      have := h i hi
      unfold LkAt at this
      unfold okL
      omega
    · have := lkAt_lt h (j - i - 1) i (by omega)
      rw [show i + (j - i - 1) + 1 = j by omega, hit_lk hi, hit_lk hj] at this
      exact this
  · rintro ⟨h1, h2, h3, h, hp⟩
    refine ⟨h1, h2, h3, fun i hi => ?_⟩
    have h4 := h _ (lk_mem hi)
    unfold okL at h4
    refine ⟨h4.1, h4.2.1, h4.2.2.1, h4.2.2.2.1, h4.2.2.2.2, fun h0 => ?_⟩
    have := List.pairwise_iff_getElem.1 hp (i - 1) i (by omega) hi (by omega)
    rw [← hit_lk, ← hit_lk] at this
    exact this
theorem GV.ok {n : Int} {ls : List Lk} (h : GV n ls) {l : Lk} (hl : l ∈ ls) : okL n l := (gv_pw.1 h).2.2.2.1 l hl
def cell (f : Nat → Nat → Option Int) (a b : Nat) : List Lk := match f a b with | some c => [⟨a, b, c⟩] | none => []
def lc (ls : List Lk) (a b : Int) : Option Int := if 0 ≤ lof ls a b then some (lk ls (lof ls a b).toNat).c else none
theorem lc_some {ls : List Lk} {a b c : Int} (h : lc ls a b = some c) : (⟨min a b, max a b, c⟩ : Lk) ∈ ls := by
  unfold lc at h
  rcases lof_cases ls a b with ⟨e, _⟩ | ⟨k, e, hk, h1, h2⟩
  · rw [e] at h; simp at h
  · rw [e] at h
    rw [if_pos (by omega)] at h
    injection h with h
    rw [Int.toNat_natCast] at h
    have : (⟨min a b, max a b, c⟩ : Lk) = lk ls k := by rw [← h1, ← h2, ← h]
    rw [this]
    exact lk_mem hk
theorem lc_none {ls : List Lk} {a b : Int} (h : lc ls a b = none) : ∀ c, (⟨min a b, max a b, c⟩ : Lk) ∉ ls := by
  intro c hm
  unfold lc at h
  rcases lof_cases ls a b with ⟨e, hn⟩ | ⟨k, e, hk, h1, h2⟩
  · obtain ⟨i, hi, e2⟩ := mem_lk hm
    have := hn i hi
    rw [e2, show hitB (min a b) (max a b) ⟨min a b, max a b, c⟩ = true from hit_yes rfl rfl] at this
    cases this
  · rw [e, if_pos (by omega)] at h
    cases h
theorem pw_uniq {ls : List Lk} (h : ls.Pairwise lxl) {x y : Lk} (hx : x ∈ ls) (hy : y ∈ ls) (ha : x.a = y.a) (hb : x.b = y.b) : x = y := by
  obtain ⟨i, hi, rfl⟩ := List.getElem_of_mem hx
  obtain ⟨j, hj, rfl⟩ := List.getElem_of_mem hy
  rcases Nat.lt_trichotomy i j with h1 | h1 | h1
  · have := List.pairwise_iff_getElem.1 h i j hi hj h1
    unfold lxl at this
    omega
  · subst h1; rfl
  · have := List.pairwise_iff_getElem.1 h j i hj hi h1
    unfold lxl at this
    omega
theorem GV.pw {n : Int} {ls : List Lk} (h : GV n ls) : ls.Pairwise lxl := (gv_pw.1 h).2.2.2.2
theorem lc_iff {ls : List Lk} (h : ls.Pairwise lxl) {a b c : Int} : lc ls a b = some c ↔ (⟨min a b, max a b, c⟩ : Lk) ∈ ls := by
  constructor
  · exact lc_some
  · intro hm
    cases e : lc ls a b with
    | none => exact absurd hm (lc_none e c)
    | some c' =>
      have := pw_uniq h (lc_some e) hm rfl rfl
      injection this with _ _ e3
      rw [e3]
theorem lc_symm (ls : List Lk) (a b : Int) : lc ls a b = lc ls b a := by
  have : lof ls a b = lof ls b a := by unfold lof; rw [show min a b = min b a by omega, show max a b = max b a by omega]
  unfold lc
  rw [this]
theorem lc_mem {ls : List Lk} (h : ls.Pairwise lxl) {l : Lk} (hl : l ∈ ls) (hab : l.a ≤ l.b) : lc ls l.a l.b = some l.c := (lc_iff h).2 (by rw [show min l.a l.b = l.a by omega, show max l.a l.b = l.b by omega]; exact hl)
theorem lc_lof {ls : List Lk} {a b : Int} : (lc ls a b).isSome = decide (0 ≤ lof ls a b) := by
  unfold lc
  by_cases h : 0 ≤ lof ls a b <;> simp [h]
theorem lc_at {ls : List Lk} {a b c : Int} (e : lc ls a b = some c) : 0 ≤ lof ls a b ∧ lof ls a b < ls.length ∧ lk ls (lof ls a b).toNat = ⟨min a b, max a b, c⟩ := by
  unfold lc at e
  rcases lof_cases ls a b with ⟨e1, hn⟩ | ⟨k, e1, hk, h1, h2⟩
  · rw [e1] at e; simp at e
  · rw [e1, if_pos (by omega), Int.toNat_natCast] at e
    injection e with e
    rw [e1, Int.toNat_natCast]
    exact ⟨by omega, by omega, by rw [← h1, ← h2, ← e]⟩
theorem lc_no {ls : List Lk} {a b : Int} (e : lc ls a b = none) : lof ls a b = -1 := by
  unfold lc at e
  rcases lof_cases ls a b with ⟨e1, hn⟩ | ⟨k, e1, hk, h1, h2⟩
  · exact e1
  · rw [e1, if_pos (by omega)] at e; cases e
end Go.Proofs.Ythcckenjkicmgaa
end
section
namespace Go.Proofs.Ythcckenjkicmgaa
open Go.RowKit
set_option linter.unusedSimpArgs false
set_option linter.unusedVariables false

theorem at_int (zs : List Int) (i : Nat) : at! .int zs i = iz zs i := by
  induction zs generalizing i with
  | nil => rfl
  | cons z r ih => cases i with
    | zero => rfl
    | succ i => exact (ih i).trans (by simp [iz])
theorem at_lk (ls : List Lk) (i : Nat) : at! .lk ls i = lk ls i := by
  induction ls generalizing i with
  | nil => rfl
  | cons z r ih => cases i with
    | zero => rfl
    | succ i => exact (ih i).trans (by simp [lk])
abbrev Fits {α : Type} (l : List α) : Prop := l.length ≤ 4611686018427387904
theorem e_within (a b c : Int) : sh_impl_within (a, b, c, ()) = some (inB a b c, ()) := by
  unfold sh_impl_within inB
  by_cases h : b ≤ a <;> simp [h]
theorem e_l6In (a b c : Int) : sh_spec_l6In (a, b, c, ()) = some (inB a b c, ()) := by
  unfold sh_spec_l6In inB
  by_cases h : b ≤ a <;> simp [h]
theorem fuel_lt {n : Nat} (h : n ≤ 4611686018427387904) : n < fuel := by unfold fuel; omega
theorem toN (k : Nat) : Int.toNat (k : Int) = k := rfl
theorem toN1 (k : Nat) : Int.toNat ((k : Int) - 1) = k - 1 := by omega

theorem e_GraphValid (n : Int) (ls : List Lk) (hl : Fits ls) : sh_impl_GraphValid (n, ls, ()) = some (gv n ls, ()) := by
  unfold sh_impl_GraphValid
  simp only [e_within, Option.bind_some, nI_eq]
  cases h1 : inB n 1 8 with
  | false => simp; rw [gv_f fun g => inB_f h1 ⟨g.1, g.2.1⟩]
  | true =>
  have h1 := inB_t h1
  by_cases h2 : ls.length ≤ 14
  case neg => 
    have : (14 : Int) < ls.length := by omega
    simp [this]; rw [gv_f fun g => h2 g.2.2.1]
  have h2' : ¬ (14 : Int) < ls.length := by omega
  simp only [h2', decide_false, cond_false, Bool.not_true]
  refine Sat.out (Sat.bnd (R := fun r => match r with | .inl _ => gv n ls = true | .inr y => y.1 = gv n ls) ?_ ?_)
  · refine Sat.count ls.length (fun k s => s = (ls, (ls.length : Int), (k : Int), n, ls, ()) ∧ ∀ i, i < k → LkAt n ls i) ?_ (Nat.zero_le _) (fuel_lt (by omega)) ⟨rfl, fun i hi => by omega⟩
    rintro k s hk ⟨rfl, hok⟩
    simp (disch := omega) only [bo_impl_GraphValid_4, at_lk, toN, toN1, w64, e_within, Option.bind_some]
    repeat' (first
      | refine Sat.some ?_
      | fail
      | (refine Sat.gd (by first | exact inR_t (by omega) (by omega) | (simp (disch := omega) only [w64]; exact inR_t (by omega) (by omega))) ?_)
      | (refine Sat.ite (fun h => ?_) (fun h => ?_) <;> try simp only [decide_eq_true_eq, decide_eq_false_iff_not, Bool.not_eq_true', Bool.not_eq_false', inB_i, inB_j, Bool.and_eq_true, Bool.or_eq_true, Bool.and_eq_false_iff, Bool.or_eq_false_iff, El] at h))
    all_goals dsimp only
    all_goals first
      | exact (gv_at (k := k) (by omega) fun _ _ g => by unfold LkAt at g; omega).symm
      | (refine ⟨by omega, rfl, fun i hi => ?_⟩
         by_cases e : i < k
         · exact hok i e
         · obtain rfl : i = k := by omega
           unfold LkAt
           omega)
      | (obtain rfl : k = ls.length := by omega
         exact decide_eq_true ⟨h1.1, h1.2, h2, hok⟩)
  · rintro (r | r) hr
    · exact .some (by simp [hr])
    · obtain ⟨b, u⟩ := r
      have hr : b = gv n ls := hr
      exact .some (by rw [hr])

theorem e_sGraphValid (n : Int) (ls : List Lk) (hl : Fits ls) : sh_spec_GraphValid (n, ls, ()) = some (gv n ls, ()) := by
  unfold sh_spec_GraphValid
  refine Sat.out (Sat.bnd (R := fun r => match r with | .inl x => x = (n, ls, ()) ∧ gv n ls = (inB n 1 8 && decide ((ls.length : Int) ≤ 14)) | .inr y => y.1 = false ∧ gv n ls = false) ?_ ?_)
  · refine Sat.count ls.length (fun k s => s = ((k : Int), n, ls, ()) ∧ (1 ≤ n → n ≤ 8 → ∀ i, i < k → LkAt n ls i)) ?_ (Nat.zero_le _) (fuel_lt (by omega)) ⟨rfl, fun _ _ i hi => by omega⟩
    rintro k s hk ⟨rfl, hok⟩
    simp (disch := omega) only [bo_spec_GraphValid_2, at_lk, toN, toN1, w64, nI_eq, e_l6In, Option.bind_some]
    repeat' (first
      | refine Sat.some ?_
      | fail
      | (refine Sat.gd (by first | exact inR_t (by omega) (by omega) | (simp (disch := omega) only [w64]; exact inR_t (by omega) (by omega))) ?_)
      | (refine Sat.ite (fun h => ?_) (fun h => ?_) <;> try simp only [decide_eq_true_eq, decide_eq_false_iff_not, Bool.not_eq_true', Bool.not_eq_false', inB_i, inB_j, Bool.and_eq_true, Bool.or_eq_true, Bool.and_eq_false_iff, Bool.or_eq_false_iff, El] at h))
    all_goals dsimp only
    all_goals first
      | (refine ⟨rfl, gv_at (k := k) (by omega) fun h1 h2 g => ?_⟩
         unfold LkAt at g
         have e1 : wrap64 (n - 1) = n - 1 := w64 (by omega) (by omega)
         have e2 : wrap64 ((lk ls k).a + 1) = (lk ls k).a + 1 := w64 (by omega) (by omega)
         simp only [e1, e2] at *
         omega)
      | (refine ⟨by omega, rfl, fun h1 h2 i hi => ?_⟩
         by_cases e : i < k
         · exact hok h1 h2 i e
         · obtain rfl : i = k := by omega
           have e1 : wrap64 (n - 1) = n - 1 := w64 (by omega) (by omega)
           simp only [e1] at *
           have e2 : wrap64 ((lk ls i).a + 1) = (lk ls i).a + 1 := w64 (by omega) (by omega)
           simp only [e2] at *
           unfold LkAt
           omega)
      | exact ⟨rfl, gv_end (show ls.length = k by omega) hok ▸ (by rw [show ls.length = k by omega])⟩
  · rintro (r | r) hr
    · have hr : r = (n, ls, ()) ∧ gv n ls = (inB n 1 8 && decide ((ls.length : Int) ≤ 14)) := hr
      obtain ⟨rfl, hr⟩ := hr
      simp only [e_l6In, Option.bind_some, nI_eq, hr]
      cases inB n 1 8 <;> exact .some rfl
    · obtain ⟨b, u⟩ := r
      have hr : b = false ∧ gv n ls = false := hr
      exact .some (by rw [hr.1, hr.2])
end Go.Proofs.Ythcckenjkicmgaa

namespace Go.Proofs.Ythcckenjkicmgaa
open Go.RowKit
set_option linter.unusedSimpArgs false
set_option linter.unusedVariables false

theorem e_l1Link (n : Int) (ls : List Lk) (a b : Int) (hl : Fits ls) : sh_spec_l1Link (n, ls, a, b, ()) = some (lof ls a b, ()) := by
  unfold sh_spec_l1Link
  refine Sat.out (Sat.bnd (R := fun r => match r with | .inl _ => lof ls a b = -1 | .inr y => y.1 = lof ls a b) ?_ ?_)
  · refine Sat.count ls.length (fun k s => s = (a, b, (k : Int), n, ls, ()) ∧ ∀ i, i < k → hitB (min a b) (max a b) (lk ls i) = false) ?_ (Nat.zero_le _) (fuel_lt (by omega)) ⟨rfl, fun i hi => by omega⟩
    rintro k s hk ⟨rfl, hok⟩
    simp (disch := omega) only [bo_spec_l1Link_2, at_lk, toN, w64, nI_eq]
    repeat' (first
      | refine Sat.some ?_
      | fail
      | (refine Sat.gd (by first | exact inR_t (by omega) (by omega) | (simp (disch := omega) only [w64]; exact inR_t (by omega) (by omega))) ?_)
      | (refine Sat.ite (fun h => ?_) (fun h => ?_) <;> try simp only [decide_eq_true_eq, decide_eq_false_iff_not, Bool.not_eq_true', Bool.not_eq_false', inB_i, inB_j, Bool.and_eq_true, Bool.or_eq_true, Bool.and_eq_false_iff, Bool.or_eq_false_iff, El] at h))
    all_goals try dsimp only
    all_goals first
      | (exact (lof_hit (by omega) (hit_yes (by assumption) (by assumption)) hok).symm)
      | (refine ⟨by omega, rfl, fun i hi => ?_⟩
         by_cases e : i < k
         · exact hok i e
         · obtain rfl : i = k := by omega
           exact hit_no (by omega))
      | exact lof_miss fun i hi => hok i (by omega)
  · rintro (r | r) hr
    · have hr : lof ls a b = -1 := hr
      exact .some (by rw [hr])
    · obtain ⟨z, u⟩ := r
      have hr : z = lof ls a b := hr
      exact .some (by rw [hr])
theorem e_linkOf (n : Int) (ls : List Lk) (a b : Int) (hl : Fits ls) : sh_impl_Graph_linkOf (n, ls, a, b, ()) = some (lof ls a b, ()) := by
  unfold sh_impl_Graph_linkOf sh_slices_IndexFunc_impl_Link_impl_Link_Graph_linkOf_1
  refine Sat.out (Sat.bnd (R := fun r => r.1 = lof ls a b) (Sat.bnd (R := fun r => match r with | .inl _ => lof ls a b = -1 | .inr y => y.1 = lof ls a b) ?_ ?_) ?_)
  · refine Sat.count ls.length (fun k s => s = (ls, a, b, (ls.length : Int), (k : Int), ()) ∧ ∀ i, i < k → hitB (min a b) (max a b) (lk ls i) = false) ?_ (Nat.zero_le _) (fuel_lt (by omega)) ⟨by simp [nI_eq], fun i hi => by omega⟩
    rintro k s hk ⟨rfl, hok⟩
    have e1 : ∀ x y z p q : Int, sh_impl_Graph_linkOf_1 (x, y, z, p, q, ()) = some (decide (x = min p q) && decide (y = max p q), ()) := fun x y z p q => by
      unfold sh_impl_Graph_linkOf_1
      by_cases h : x = min p q <;> simp [h]
    simp (disch := omega) only [bo_slices_IndexFunc_impl_Link_impl_Link_Graph_linkOf_1_2, at_lk, toN, w64, nI_eq, e1, Option.bind_some]
    repeat' (first
      | refine Sat.some ?_
      | fail
      | (refine Sat.gd (by first | exact inR_t (by omega) (by omega) | (simp (disch := omega) only [w64]; exact inR_t (by omega) (by omega))) ?_)
      | (refine Sat.ite (fun h => ?_) (fun h => ?_) <;> try simp only [decide_eq_true_eq, decide_eq_false_iff_not, Bool.not_eq_true', Bool.not_eq_false', inB_i, inB_j, Bool.and_eq_true, Bool.or_eq_true, Bool.and_eq_false_iff, Bool.or_eq_false_iff, El] at h))
    all_goals try dsimp only
    all_goals first
      | (exact (lof_hit (by omega) (hit_yes (by omega) (by omega)) hok).symm)
      | (refine ⟨by omega, rfl, fun i hi => ?_⟩
         by_cases e : i < k
         · exact hok i e
         · obtain rfl : i = k := by omega
           exact hit_no (by omega))
      | exact lof_miss fun i hi => hok i (by omega)
  · rintro (r | r) hr
    · have hr : lof ls a b = -1 := hr
      exact .some (by rw [hr])
    · exact .some hr
  · rintro ⟨z, u⟩ hr
    have hr : z = lof ls a b := hr
    exact .some (by rw [hr])
theorem e_other (a b c n : Int) : sh_impl_Link_other (a, b, c, n, ()) = some (otherE ⟨a, b, c⟩ n, isEnd ⟨a, b, c⟩ n, ()) := by
  unfold sh_impl_Link_other otherE isEnd
  by_cases h : n = a
  · simp [h]
  · by_cases h' : n = b
    · subst h'; simp [h]
    · simp [h, h']
theorem e_neighbours (n : Int) (ls : List Lk) (m : Int) (hl : ls.length ≤ 16777216) : sh_impl_Graph_neighbours (n, ls, m, ()) = some (sortI (others ls m ls.length), ()) := by
  unfold sh_impl_Graph_neighbours
  refine Sat.out (Sat.bnd (R := fun r => match r with | .inl x => x.1 = others ls m ls.length | .inr _ => False) ?_ ?_)
  · refine Sat.count ls.length (fun k s => s = (m, ls, (ls.length : Int), (k : Int), others ls m k, ())) ?_ (Nat.zero_le _) (fuel_lt (by omega)) (by simp [nI_eq, others])
    rintro k s hk rfl
    have hlen := others_len ls m k
    simp (disch := omega) only [bo_impl_Graph_neighbours_3, at_lk, toN, w64, nI_eq, e_other, Option.bind_some, List.length_singleton]
    repeat' (first
      | refine Sat.some ?_
      | (refine Sat.gd (decide_eq_true (by omega)) ?_)
      | (refine Sat.gd (by first | exact inR_t (by omega) (by omega) | (simp (disch := omega) only [w64]; exact inR_t (by omega) (by omega))) ?_)
      | (refine Sat.ite (fun h => ?_) (fun h => ?_) <;> try simp only [decide_eq_true_eq, decide_eq_false_iff_not, Bool.not_eq_true', Bool.not_eq_false', inB_i, inB_j, Bool.and_eq_true, Bool.or_eq_true, Bool.and_eq_false_iff, Bool.or_eq_false_iff, El] at h))
    all_goals try dsimp only
    all_goals first
      | (refine ⟨by omega, ?_⟩
         rw [others_succ ls m k (by omega)]
         simp [*])
      | (obtain rfl : k = ls.length := by omega
         rfl)
  · rintro (r | r) hr
    · have hr : r.1 = others ls m ls.length := hr
      show Sat ((sh_slices_Sort_int_int (r.1, ())).bind _) _
      rw [hr]
      have hlen := others_len ls m ls.length
      unfold sh_slices_Sort_int_int
      rw [decide_eq_true (show (others ls m ls.length).length ≤ 16777216 by omega)]
      exact .some rfl
    · exact hr.elim
end Go.Proofs.Ythcckenjkicmgaa

namespace Go.Proofs.Ythcckenjkicmgaa
open Go.RowKit
set_option linter.unusedSimpArgs false
set_option linter.unusedVariables false
set_option maxRecDepth 100000

section
variable {n : Nat} {ls : List Lk}
end
end Go.Proofs.Ythcckenjkicmgaa

namespace Go.Proofs.Ythcckenjkicmgaa
open Go.RowKit
set_option linter.unusedSimpArgs false
set_option linter.unusedVariables false
set_option maxRecDepth 100000

section
variable {n : Nat} {ls : List Lk}
end
end Go.Proofs.Ythcckenjkicmgaa

namespace Go.Proofs.Ythcckenjkicmgaa
open Go.RowKit
set_option linter.unusedSimpArgs false
set_option linter.unusedVariables false
set_option maxRecDepth 100000

section
variable {N : Nat} {la lb : List Lk} {bs : List Int}
end
end Go.Proofs.Ythcckenjkicmgaa

namespace Go.Proofs.Ythcckenjkicmgaa
open Go.RowKit
set_option linter.unusedSimpArgs false
set_option linter.unusedVariables false
set_option maxRecDepth 100000

section
variable {N : Nat} {la lb : List Lk} {bs : List Int}
end
end Go.Proofs.Ythcckenjkicmgaa

namespace Go.Proofs.Ythcckenjkicmgaa
open Go.RowKit
set_option linter.unusedSimpArgs false
set_option linter.unusedVariables false
set_option maxRecDepth 100000

section
variable {N : Nat} {la lb : List Lk} {bs : List Int}
end
end Go.Proofs.Ythcckenjkicmgaa
end
section
namespace Go.Proofs.Ythcckenjkicmgaa
open Go.RowKit
set_option linter.unusedSimpArgs false
set_option linter.unusedVariables false
set_option maxRecDepth 100000

def en (es : List En) (i : Nat) : En := es.getD i ⟨0, 0⟩
def lsa (db : List Ls) (i : Nat) : Ls := db.getD i ⟨0, 0, []⟩
theorem at_en (es : List En) (i : Nat) : at! .en es i = en es i := by
  induction es generalizing i with
  | nil => rfl
  | cons z r ih => cases i with
    | zero => rfl
    | succ i => exact (ih i).trans (by simp [en])
theorem at_ls (es : List Ls) (i : Nat) : at! .ls es i = lsa es i := by
  induction es generalizing i with
  | nil => rfl
  | cons z r ih => cases i with
    | zero => rfl
    | succ i => exact (ih i).trans (by simp [lsa])
theorem en_get {es : List En} {i : Nat} (h : i < es.length) : en es i = es[i] := by simp [en, h]
theorem lsa_get {es : List Ls} {i : Nat} (h : i < es.length) : lsa es i = es[i] := by simp [lsa, h]
def EnAt (o : Int) (es : List En) (i : Nat) : Prop := 0 ≤ (en es i).n ∧ (en es i).n ≤ 7 ∧ (en es i).n ≠ o ∧ 1 ≤ (en es i).c ∧ (en es i).c ≤ 20 ∧ (0 < i → (en es (i - 1)).n < (en es i).n)
instance (o : Int) (es : List En) (i : Nat) : Decidable (EnAt o es i) := by unfold EnAt; infer_instance
def LsV (l : Ls) : Prop := 0 ≤ l.o ∧ l.o ≤ 7 ∧ 1 ≤ l.s ∧ l.s ≤ 99 ∧ ∀ i, i < l.e.length → EnAt l.o l.e i
instance (l : Ls) : Decidable (LsV l) := by unfold LsV; infer_instance
def lsv (o s : Int) (es : List En) : Bool := decide (LsV ⟨o, s, es⟩)
theorem lsv_f {o s : Int} {es : List En} (h : ¬ LsV ⟨o, s, es⟩) : lsv o s es = false := decide_eq_false h
theorem e_LsaValid (o s : Int) (es : List En) (hl : Fits es) : sh_impl_LsaValid (o, s, es, ()) = some (lsv o s es, ()) := by
  unfold sh_impl_LsaValid
  simp only [e_within, Option.bind_some, nI_eq]
  cases h1 : inB o 0 7 with
  | false => simp; exact lsv_f fun g => inB_f h1 ⟨g.1, g.2.1⟩
  | true =>
  cases h2 : inB s 1 99 with
  | false => simp; exact lsv_f fun g => inB_f h2 ⟨g.2.2.1, g.2.2.2.1⟩
  | true =>
  have h1 := inB_t h1
  have h2 := inB_t h2
  simp only [Bool.not_true, cond_false]
  refine Sat.out (Sat.bnd (R := fun r => match r with | .inl _ => lsv o s es = true | .inr y => y.1 = false ∧ lsv o s es = false) ?_ ?_)
  · refine Sat.count es.length (fun k t => t = (es, (es.length : Int), (k : Int), o, s, es, ()) ∧ ∀ i, i < k → EnAt o es i) ?_ (Nat.zero_le _) (fuel_lt (by omega)) ⟨rfl, fun i hi => by omega⟩
    rintro k t hk ⟨rfl, hok⟩
    simp (disch := omega) only [bo_impl_LsaValid_4, at_en, toN, toN1, w64, e_within, Option.bind_some]
    repeat' (first
      | refine Sat.some ?_
      | fail
      | (refine Sat.gd (by first | exact inR_t (by omega) (by omega) | (simp (disch := omega) only [w64]; exact inR_t (by omega) (by omega))) ?_)
      | (refine Sat.ite (fun h => ?_) (fun h => ?_) <;> try simp only [decide_eq_true_eq, decide_eq_false_iff_not, Bool.not_eq_true', Bool.not_eq_false', inB_i, inB_j, Bool.and_eq_true, Bool.or_eq_true, Bool.and_eq_false_iff, Bool.or_eq_false_iff, El] at h))
    all_goals try dsimp only
    all_goals first
      | (refine ⟨rfl, decide_eq_false fun g => ?_⟩
         have := g.2.2.2.2 k (by dsimp only; omega)
         unfold EnAt at this
         dsimp only at this
         omega)
      | (refine ⟨by omega, rfl, fun i hi => ?_⟩
         by_cases e : i < k
         · exact hok i e
         · obtain rfl : i = k := by omega
           unfold EnAt
           omega)
      | exact decide_eq_true ⟨h1.1, h1.2, h2.1, h2.2, fun i hi => hok i (by dsimp only at hi; omega)⟩
  · rintro (r | r) hr
    · have hr : lsv o s es = true := hr
      exact .some (by rw [hr])
    · obtain ⟨b, u⟩ := r
      have hr : b = false ∧ lsv o s es = false := hr
      exact .some (by rw [hr.1, hr.2])
theorem e_sLsaValid (o s : Int) (es : List En) (hl : Fits es) : sh_spec_LsaValid (o, s, es, ()) = some (lsv o s es, ()) := by
  unfold sh_spec_LsaValid
  refine Sat.out (Sat.bnd (R := fun r => match r with | .inl x => x = (o, s, es, ()) ∧ ∀ i, i < es.length → EnAt o es i | .inr y => y.1 = false ∧ lsv o s es = false) ?_ ?_)
  · refine Sat.count es.length (fun k t => t = ((k : Int), o, s, es, ()) ∧ ∀ i, i < k → EnAt o es i) ?_ (Nat.zero_le _) (fuel_lt (by omega)) ⟨rfl, fun i hi => by omega⟩
    rintro k t hk ⟨rfl, hok⟩
    simp (disch := omega) only [bo_spec_LsaValid_2, at_en, toN, toN1, w64, nI_eq, e_l6In, Option.bind_some]
    repeat' (first
      | refine Sat.some ?_
      | fail
      | (refine Sat.gd (by first | exact inR_t (by omega) (by omega) | (simp (disch := omega) only [w64]; exact inR_t (by omega) (by omega))) ?_)
      | (refine Sat.ite (fun h => ?_) (fun h => ?_) <;> try simp only [decide_eq_true_eq, decide_eq_false_iff_not, Bool.not_eq_true', Bool.not_eq_false', inB_i, inB_j, Bool.and_eq_true, Bool.or_eq_true, Bool.and_eq_false_iff, Bool.or_eq_false_iff, El] at h))
    all_goals try dsimp only
    all_goals first
      | (refine ⟨rfl, decide_eq_false fun g => ?_⟩
         have := g.2.2.2.2 k (by dsimp only; omega)
         unfold EnAt at this
         dsimp only at this
         omega)
      | (refine ⟨by omega, rfl, fun i hi => ?_⟩
         by_cases e : i < k
         · exact hok i e
         · obtain rfl : i = k := by omega
           unfold EnAt
           omega)
      | exact ⟨rfl, fun i hi => hok i (by omega)⟩
  · rintro (r | r) hr
    · have hr : r = (o, s, es, ()) ∧ ∀ i, i < es.length → EnAt o es i := hr
      obtain ⟨rfl, hq⟩ := hr
      simp only [e_l6In, Option.bind_some]
      cases h1 : inB o 0 7 with
      | false => exact .some (by rw [show lsv o s es = false from decide_eq_false fun g => inB_f h1 ⟨g.1, g.2.1⟩])
      | true =>
        cases h2 : inB s 1 99 with
        | false => exact .some (by rw [show lsv o s es = false from decide_eq_false fun g => inB_f h2 ⟨g.2.2.1, g.2.2.2.1⟩])
        | true =>
          have h1 := inB_t h1
          have h2 := inB_t h2
          exact .some (by rw [show lsv o s es = true from decide_eq_true ⟨h1.1, h1.2, h2.1, h2.2, hq⟩])
    · obtain ⟨b, u⟩ := r
      have hr : b = false ∧ lsv o s es = false := hr
      exact .some (by rw [hr.1, hr.2])
def DbV (db : List Ls) : Prop := ∀ i, i < db.length → LsV (lsa db i) ∧ (0 < i → (lsa db (i - 1)).o < (lsa db i).o)
instance (db : List Ls) : Decidable (DbV db) := by unfold DbV; infer_instance
def dbv (db : List Ls) : Bool := decide (DbV db)
theorem e_DbValid (db : List Ls) (hl : Fits db) (he : ∀ l ∈ db, Fits l.e) : sh_impl_DbValid (db, ()) = some (dbv db, ()) := by
  unfold sh_impl_DbValid
  refine Sat.out (Sat.bnd (R := fun r => match r with | .inl _ => dbv db = true | .inr y => y.1 = false ∧ dbv db = false) ?_ ?_)
  · refine Sat.count db.length (fun k t => t = (db, db, (db.length : Int), (k : Int), ()) ∧ ∀ i, i < k → LsV (lsa db i) ∧ (0 < i → (lsa db (i - 1)).o < (lsa db i).o)) ?_ (Nat.zero_le _) (fuel_lt (by omega)) ⟨by simp [nI_eq], fun i hi => by omega⟩
    rintro k t hk ⟨rfl, hok⟩
    by_cases hlt : k < db.length
    · have hf : Fits (lsa db k).e := he _ (by rw [lsa_get hlt]; exact List.getElem_mem hlt)
      simp (disch := omega) only [bo_impl_DbValid_2, at_ls, toN, toN1, w64, e_LsaValid _ _ _ hf, Option.bind_some]
      repeat' (first
        | refine Sat.some ?_
        | fail
        | (refine Sat.gd (by first | exact inR_t (by omega) (by omega) | (simp (disch := omega) only [w64]; exact inR_t (by omega) (by omega))) ?_)
        | (refine Sat.ite (fun h => ?_) (fun h => ?_) <;> try simp only [decide_eq_true_eq, decide_eq_false_iff_not, Bool.not_eq_true', Bool.not_eq_false', inB_i, inB_j, Bool.and_eq_true, Bool.or_eq_true, Bool.and_eq_false_iff, Bool.or_eq_false_iff, El] at h))
      all_goals try dsimp only
      all_goals first
        | (refine ⟨rfl, decide_eq_false fun g => ?_⟩
           have := g k hlt
           first | exact of_decide_eq_false (by assumption) this.1 | omega)
        | (refine ⟨by omega, rfl, fun i hi => ?_⟩
           by_cases e : i < k
           · exact hok i e
           · obtain rfl : i = k := by omega
             exact ⟨of_decide_eq_true (by assumption), fun _ => by omega⟩)
        | omega
    · obtain rfl : k = db.length := by omega
      unfold bo_impl_DbValid_2
      simp only [decide_eq_false (show ¬ (db.length : Int) < db.length by omega), cond_false]
      exact .some (decide_eq_true hok)
  · rintro (r | r) hr
    · have hr : dbv db = true := hr
      exact .some (by rw [hr])
    · obtain ⟨b, u⟩ := r
      have hr : b = false ∧ dbv db = false := hr
      exact .some (by rw [hr.1, hr.2])
def fd (db : List Ls) (o : Int) : Option Ls := db.find? fun l => decide (l.o = o)
theorem find_hit {α : Type} {p : α → Bool} {l : List α} {k : Nat} (hk : k < l.length) (h : p l[k] = true) (hn : ∀ i (hi : i < l.length), i < k → p l[i] = false) : l.find? p = some l[k] := by
  rw [List.find?_eq_some_iff_getElem]
  exact ⟨h, k, hk, rfl, fun j hj => by simp [hn j (by omega) hj]⟩
theorem find_miss {α : Type} {p : α → Bool} {l : List α} (hn : ∀ i (hi : i < l.length), p l[i] = false) : l.find? p = none := by
  rw [List.find?_eq_none]
  intro x hx
  obtain ⟨i, hi, rfl⟩ := List.getElem_of_mem hx
  simp [hn i hi]
theorem e_l11Find (db : List Ls) (o : Int) (hl : Fits db) : sh_spec_l11Find (db, o, ()) = some (match fd db o with | some l => (l.o, l.s, l.e, true, ()) | none => (0, 0, [], false, ())) := by
  unfold sh_spec_l11Find
  refine Sat.out (Sat.bnd (R := fun r => match r with | .inl _ => fd db o = none | .inr y => ∃ l, fd db o = some l ∧ y = (true, l.o, l.s, l.e, ())) ?_ ?_)
  · refine Sat.count db.length (fun k t => t = (db, o, (k : Int), 0, 0, [], ()) ∧ ∀ i, i < k → (lsa db i).o ≠ o) ?_ (Nat.zero_le _) (fuel_lt (by omega)) ⟨rfl, fun i hi => by omega⟩
    rintro k t hk ⟨rfl, hok⟩
    simp (disch := omega) only [bo_spec_l11Find_2, at_ls, toN, w64, nI_eq]
    repeat' (first
      | refine Sat.some ?_
      | fail
      | (refine Sat.gd (by first | exact inR_t (by omega) (by omega) | (simp (disch := omega) only [w64]; exact inR_t (by omega) (by omega))) ?_)
      | (refine Sat.ite (fun h => ?_) (fun h => ?_) <;> try simp only [decide_eq_true_eq, decide_eq_false_iff_not, Bool.not_eq_true', Bool.not_eq_false', inB_i, inB_j, Bool.and_eq_true, Bool.or_eq_true, Bool.and_eq_false_iff, Bool.or_eq_false_iff, El] at h))
    all_goals try dsimp only
    · have hlt : k < db.length := by omega
      refine ⟨lsa db k, ?_, rfl⟩
      unfold fd
      rw [lsa_get hlt]
      exact find_hit hlt (decide_eq_true (by rw [← lsa_get hlt]; assumption)) fun i hi hik => decide_eq_false (by rw [← lsa_get hi]; exact hok i hik)
    · refine ⟨by omega, rfl, fun i hi => ?_⟩
      by_cases e : i < k
      · exact hok i e
      · obtain rfl : i = k := by omega
        assumption
    · exact find_miss fun i hi => decide_eq_false (by rw [← lsa_get hi]; exact hok i (by omega))
  · rintro (r | r) hr
    · have hr : fd db o = none := hr
      exact .some (by rw [hr])
    · obtain ⟨l, h1, rfl⟩ := hr
      exact .some (by rw [h1])
end Go.Proofs.Ythcckenjkicmgaa
end
section
namespace Go.Proofs.Ythcckenjkicmgaa
open Go.RowKit
set_option linter.unusedSimpArgs false
set_option linter.unusedVariables false
set_option maxRecDepth 100000

theorem sv {α β : Type} {o : Option α} {f : α → Option β} {r : α} {Q : β → Prop} (h : o = some r) (k : Sat (f r) Q) : Sat (o.bind f) Q := by subst h; exact k
theorem fill_step {α : Type} (xs : List α) (d : α) {x : α} {k : Nat} (hx : xs[k]? = some x) : (xs.take k ++ List.replicate (xs.length - k) d).set k x = xs.take (k + 1) ++ List.replicate (xs.length - (k + 1)) d := by
  have hk := (List.getElem?_eq_some_iff.1 hx).1
  rw [List.set_append_right _ _ (by rw [List.length_take]; omega), List.length_take, Nat.min_eq_left (by omega), Nat.sub_self, show xs.length - k = (xs.length - (k + 1)) + 1 by omega, List.replicate_succ, List.set_cons_zero, List.take_add_one, hx]
  simp
theorem to_gen {α : Type} {B : (List α × Int × List α × Unit) → Option ((List α × Int × List α × Unit) ⊕ ((List α × Unit) ⊕ Unit))} (xs : List α) (d : α) (hx : xs.length ≤ 16777216)
    (hB : ∀ (k : Nat) (x : α) (out : List α), xs[k]? = some x → out.length = xs.length → B (xs, (k : Int), out, ()) = some (.inl (xs, ((k + 1 : Nat) : Int), out.set k x, ())))
    (hE : ∀ out : List α, B (xs, (xs.length : Int), out, ()) = some (.inr (.inl (out, ())))) : lp B fuel (xs, (0 : Int), List.replicate xs.length d, ()) = some (.inl (xs, ())) := by
  refine Sat.out (Sat.count xs.length (fun k t => t = (xs, (k : Int), xs.take k ++ List.replicate (xs.length - k) d, ())) ?_ (Nat.zero_le _) (fuel_lt (by omega)) (by simp))
  rintro k t hk rfl
  by_cases hlt : k < xs.length
  · have hx := List.getElem?_eq_getElem hlt
    rw [hB k _ _ hx (by simp; omega)]
    exact .some ⟨hlt, by rw [fill_step xs d hx]⟩
  · obtain rfl : k = xs.length := by omega
    rw [hE]
    exact .some (by simp)
theorem eq_gen {α : Type} {B : (List α × List α × Int × Unit) → Option ((List α × List α × Int × Unit) ⊕ (Unit ⊕ (Bool × Unit)))} (xs : List α) (hx : Fits xs)
    (hB : ∀ (k : Nat) (x : α), xs[k]? = some x → B (xs, xs, (k : Int), ()) = some (.inl (xs, xs, ((k + 1 : Nat) : Int), ())))
    (hE : B (xs, xs, (xs.length : Int), ()) = some (.inr (.inl ()))) : lp B fuel (xs, xs, (0 : Int), ()) = some (.inl ()) := by
  refine Sat.out (Sat.count xs.length (fun k t => t = (xs, xs, (k : Int), ())) ?_ (Nat.zero_le _) (fuel_lt hx) rfl)
  rintro k t hk rfl
  by_cases hlt : k < xs.length
  · rw [hB k _ (List.getElem?_eq_getElem hlt)]
    exact .some ⟨hlt, rfl⟩
  · obtain rfl : k = xs.length := by omega
    rw [hE]
    exact .some rfl
theorem at_of {τ : Ty} {xs : List (El τ)} {i : Nat} {x : El τ} (h : xs[i]? = some x) : at! τ xs i = x := by
  have := at_get τ xs i (List.getElem?_eq_some_iff.1 h).1
  rw [h] at this
  exact (Option.some.inj this).symm
theorem lt_of {α : Type} {xs : List α} {i : Nat} {x : α} (h : xs[i]? = some x) : i < xs.length := (List.getElem?_eq_some_iff.1 h).1
theorem e_toLinkS (xs : List Lk) (h : xs.length ≤ 16777216) : sh_laws_toLinkS (xs, ()) = some (xs, ()) := by
  unfold sh_laws_toLinkS
  simp only [nI_eq, toN]
  refine Sat.out (Sat.gd (by simp; omega) (sv (to_gen xs _ h (fun k x out hx ho => ?_) (fun out => ?_)) (.some rfl)))
  · have hk := lt_of hx
    simp (disch := omega) only [bo_laws_toLinkS_3, at_of (τ := .lk) hx, toN, w64, nI_eq, Option.bind_some, sh_laws_toLink]
    exact Sat.out (Sat.gd (decide_eq_true (by omega)) (Sat.gd (inR_t (by omega) (by omega)) (Sat.gd (inR_t (by omega) (by omega)) (.some rfl))))
  · simp only [bo_laws_toLinkS_3, nI_eq]
    exact Sat.out (Sat.no (decide_eq_false (by omega)) (.some rfl))
theorem e_toIntS (xs : List Int) (h : xs.length ≤ 16777216) : sh_laws_toIntS (xs, ()) = some (xs, ()) := by
  unfold sh_laws_toIntS
  simp only [nI_eq, toN]
  refine Sat.out (Sat.gd (by simp; omega) (sv (to_gen xs _ h (fun k x out hx ho => ?_) (fun out => ?_)) (.some rfl)))
  · have hk := lt_of hx
    simp (disch := omega) only [bo_laws_toIntS_3, at_of (τ := .int) hx, toN, w64, nI_eq, Option.bind_some]
    exact Sat.out (Sat.gd (decide_eq_true (by omega)) (Sat.gd (inR_t (by omega) (by omega)) (Sat.gd (inR_t (by omega) (by omega)) (.some rfl))))
  · simp only [bo_laws_toIntS_3, nI_eq]
    exact Sat.out (Sat.no (decide_eq_false (by omega)) (.some rfl))
theorem e_toEndS (xs : List En) (h : xs.length ≤ 16777216) : sh_laws_toEndS (xs, ()) = some (xs, ()) := by
  unfold sh_laws_toEndS
  simp only [nI_eq, toN]
  refine Sat.out (Sat.gd (by simp; omega) (sv (to_gen xs _ h (fun k x out hx ho => ?_) (fun out => ?_)) (.some rfl)))
  · have hk := lt_of hx
    simp (disch := omega) only [bo_laws_toEndS_3, at_of (τ := .en) hx, toN, w64, nI_eq, Option.bind_some, sh_laws_toEnd]
    exact Sat.out (Sat.gd (decide_eq_true (by omega)) (Sat.gd (inR_t (by omega) (by omega)) (Sat.gd (inR_t (by omega) (by omega)) (.some rfl))))
  · simp only [bo_laws_toEndS_3, nI_eq]
    exact Sat.out (Sat.no (decide_eq_false (by omega)) (.some rfl))
theorem e_eqLinkS (xs : List Lk) (h : Fits xs) : sh_laws_eqLinkS (xs, xs, ()) = some (true, ()) := by
  unfold sh_laws_eqLinkS
  unfold Fits at h
  simp only [nI_eq]
  refine Sat.out (Sat.no (by simp) (sv (eq_gen xs h (fun k x hx => ?_) ?_) (.some rfl)))
  · have hk := lt_of hx
    simp (disch := omega) only [bo_laws_eqLinkS_4, at_of (τ := .lk) hx, toN, w64, nI_eq, Option.bind_some, decide_true, Bool.not_true, cond_false, sh_laws_eqLink]
    exact Sat.out (Sat.gd (decide_eq_true (by omega)) (Sat.gd (inR_t (by omega) (by omega)) (Sat.gd (inR_t (by omega) (by omega)) (.some rfl))))
  · simp only [bo_laws_eqLinkS_4, nI_eq]
    exact Sat.out (Sat.no (decide_eq_false (by omega)) (.some rfl))
theorem e_eqIntS (xs : List Int) (h : Fits xs) : sh_laws_eqIntS (xs, xs, ()) = some (true, ()) := by
  unfold sh_laws_eqIntS
  unfold Fits at h
  simp only [nI_eq]
  refine Sat.out (Sat.no (by simp) (sv (eq_gen xs h (fun k x hx => ?_) ?_) (.some rfl)))
  · have hk := lt_of hx
    simp (disch := omega) only [bo_laws_eqIntS_4, at_of (τ := .int) hx, toN, w64, nI_eq, Option.bind_some, decide_true, Bool.not_true, cond_false]
    exact Sat.out (Sat.gd (decide_eq_true (by omega)) (Sat.gd (inR_t (by omega) (by omega)) (Sat.gd (inR_t (by omega) (by omega)) (.some rfl))))
  · simp only [bo_laws_eqIntS_4, nI_eq]
    exact Sat.out (Sat.no (decide_eq_false (by omega)) (.some rfl))
theorem e_eqEndS (xs : List En) (h : Fits xs) : sh_laws_eqEndS (xs, xs, ()) = some (true, ()) := by
  unfold sh_laws_eqEndS
  unfold Fits at h
  simp only [nI_eq]
  refine Sat.out (Sat.no (by simp) (sv (eq_gen xs h (fun k x hx => ?_) ?_) (.some rfl)))
  · have hk := lt_of hx
    simp (disch := omega) only [bo_laws_eqEndS_4, at_of (τ := .en) hx, toN, w64, nI_eq, Option.bind_some, decide_true, Bool.not_true, cond_false, sh_laws_eqEnd]
    exact Sat.out (Sat.gd (decide_eq_true (by omega)) (Sat.gd (inR_t (by omega) (by omega)) (Sat.gd (inR_t (by omega) (by omega)) (.some rfl))))
  · simp only [bo_laws_eqEndS_4, nI_eq]
    exact Sat.out (Sat.no (decide_eq_false (by omega)) (.some rfl))
theorem e_toGraph (n : Int) (ls : List Lk) (h : ls.length ≤ 16777216) : sh_laws_toGraph (n, ls, ()) = some (n, ls, ()) := by
  unfold sh_laws_toGraph
  rw [e_toLinkS ls h]; rfl
theorem e_eqGraph (n : Int) (ls : List Lk) (h : Fits ls) : sh_laws_eqGraph (n, ls, n, ls, ()) = some (true, ()) := by
  unfold sh_laws_eqGraph
  refine Sat.out (Sat.no (by simp) (sv (e_eqLinkS ls h) (Sat.no rfl (.some rfl))))
abbrev Mxl {α : Type} (l : List α) : Prop := l.length ≤ 9223372036854775807
theorem e_szL (s : List Lk × Int × Unit) (h : Mxl s.1) (h1 : -1 ≤ s.2.1 ∧ s.2.1 ≤ 2000000) : sh_laws_szLinkS s = some (if s.2.1 - s.1.length < 0 then -1 else s.2.1 - s.1.length, ()) := by
  unfold Mxl at h
  unfold sh_laws_szLinkS
  simp (disch := omega) only [nI_eq, w64]
  by_cases e : s.2.1 - (s.1.length : Int) < 0
  · rw [if_pos e, decide_eq_true e]; rfl
  · rw [if_neg e, decide_eq_false e]; rfl
theorem e_szGraph (n : Int) (ls : List Lk) (left : Int) (h : Mxl ls) (h1 : -1 ≤ left ∧ left ≤ 2000000) : sh_laws_szGraph (n, ls, left, ()) = some (if left - ls.length < 0 then -1 else left - ls.length, ()) := by
  unfold sh_laws_szGraph
  rw [e_szL _ h h1]
  dsimp only [Option.bind_some]
  by_cases e : left - (ls.length : Int) < 0
  · rw [if_pos e]; rfl
  · rw [if_neg e]
    exact Sat.out (Sat.no (decide_eq_false e) (.some rfl))
theorem e_szE (s : List En × Int × Unit) (h : Mxl s.1) (h1 : -1 ≤ s.2.1 ∧ s.2.1 ≤ 2000000) : sh_laws_szEndS s = some (if s.2.1 - s.1.length < 0 then -1 else s.2.1 - s.1.length, ()) := by
  unfold Mxl at h
  unfold sh_laws_szEndS
  simp (disch := omega) only [nI_eq, w64]
  by_cases e : s.2.1 - (s.1.length : Int) < 0
  · rw [if_pos e, decide_eq_true e]; rfl
  · rw [if_neg e, decide_eq_false e]; rfl
end Go.Proofs.Ythcckenjkicmgaa
end
section
namespace Go.Proofs.Ythcckenjkicmgaa
open Go.RowKit
set_option linter.unusedSimpArgs false
set_option linter.unusedVariables false
set_option maxRecDepth 100000

theorem half {i j : Nat} (h : i + j ≤ 4611686018427387904) : wrap64 (shrK .u64 (wrapK .u64 (wrap64 ((i : Int) + (j : Int)))) 1) = (((i + j) / 2 : Nat) : Int) := by
  rw [w64 (x := (i : Int) + j) (by omega) (by omega)]
  have e : wrapK .u64 ((i : Int) + j) = (i : Int) + j := by
    simp [wrapK, IntKind.wrap, IntKind.signed, IntKind.bits]
    omega
  rw [e]
  unfold shrK
  rw [show (1 : Int).toNat = 1 from rfl, show min 1 (IntKind.bits .u64) = 1 from rfl]
  rw [Int.fdiv_eq_ediv_of_nonneg _ (by decide)]
  rw [w64 (by omega) (by omega)]
  omega
def IsPl (db : List Ls) (o : Int) (i : Nat) : Prop := i ≤ db.length ∧ (∀ x, x < i → (lsa db x).o < o) ∧ ∀ x, i ≤ x → x < db.length → o ≤ (lsa db x).o
def hasAt (db : List Ls) (o : Int) (i : Nat) : Bool := decide (i < db.length ∧ (lsa db i).o = o)
def Srt (db : List Ls) : Prop := ∀ i j, i < j → j < db.length → (lsa db i).o < (lsa db j).o
theorem DbV.srt {db : List Ls} (h : DbV db) : Srt db := by
  have step : ∀ d i, i + d + 1 < db.length → (lsa db i).o < (lsa db (i + d + 1)).o := fun d => by
    induction d with
    | zero => intro i hi; exact (h (i + 1) hi).2 (by omega)
    | succ d ih =>
      intro i hi
      have h1 := ih i (by omega)
      have h2 := (h (i + (d + 1) + 1) hi).2 (by omega)
      rw [Nat.add_sub_cancel] at h2
      rw [show i + (d + 1) = i + d + 1 by omega] at h2 ⊢
      omega
  intro i j hij hj
  have := step (j - i - 1) i (by omega)
  rwa [show i + (j - i - 1) + 1 = j by omega] at this
theorem e_cmp (a b : Int) : sh_cmp_Compare_int (a, b, ()) = some (if a < b then -1 else if b < a then 1 else 0, ()) := by
  have e : ∀ x : Int, sh_cmp_isNaN_int (x, ()) = some (false, ()) := fun x => by simp [sh_cmp_isNaN_int]
  unfold sh_cmp_Compare_int
  simp only [e, Option.bind_some, cond_false]
  by_cases h1 : a < b
  · simp [h1]
  · by_cases h2 : b < a <;> simp [h1, h2]
theorem e_dbPlace (db : List Ls) (o : Int) (hs : Srt db) (hl : db.length ≤ 2000000000) : ∃ i : Nat, IsPl db o i ∧ sh_impl_dbPlace (db, o, ()) = some ((i : Int), hasAt db o i, ()) := by
  have hmono : ∀ i j, i ≤ j → j < db.length → (lsa db i).o ≤ (lsa db j).o := fun i j hij hj => by
    rcases Nat.eq_or_lt_of_le hij with e | e
    · subst e; exact Int.le_refl _
    · have := hs i j e hj; omega
  have key : Sat (sh_impl_dbPlace (db, o, ())) fun r => ∃ i : Nat, IsPl db o i ∧ r = ((i : Int), hasAt db o i, ()) := by
    unfold sh_impl_dbPlace sh_slices_BinarySearchFunc_impl_Lsa_impl_Lsa_int_dbPlace_1
    refine Sat.bnd (R := fun r => ∃ i : Nat, IsPl db o i ∧ r = ((i : Int), hasAt db o i, ())) (Sat.bnd (R := fun r => match r with | .inl x => ∃ i : Nat, IsPl db o i ∧ x = (db, o, (db.length : Int), (i : Int), ()) | .inr _ => False) ?_ ?_) ?_
    · refine Sat.loop (fun s => ∃ i j : Nat, s = (db, o, (db.length : Int), (i : Int), (j : Int), ()) ∧ i ≤ j ∧ j ≤ db.length ∧ (∀ x, x < i → (lsa db x).o < o) ∧ ∀ x, j ≤ x → x < db.length → o ≤ (lsa db x).o) (fun s => (s.2.2.2.2.1 - s.2.2.2.1).toNat) ?_ fuel _ ?_ ?_
      · rintro _ ⟨i, j, rfl, hij, hj, h1, h2⟩
        simp only [bo_slices_BinarySearchFunc_impl_Lsa_impl_Lsa_int_dbPlace_1_3, half (show i + j ≤ 4611686018427387904 by omega), at_ls, toN, sh_impl_dbPlace_1, e_cmp, Option.bind_some]
        refine Sat.ite (fun hlt => ?_) (fun hlt => ?_)
        · have hlt := of_decide_eq_true hlt
          have hm : (i + j) / 2 < j ∧ i ≤ (i + j) / 2 := by omega
          generalize (i + j) / 2 = m at *
          refine Sat.gd (inR_t (by omega) (by omega)) (Sat.ite (fun hc => ?_) (fun hc => ?_))
          · have hc := of_decide_eq_true hc
            have hc : (lsa db m).o < o := by
              by_cases h : (lsa db m).o < o
              · exact h
              · rw [if_neg h] at hc
                split at hc <;> omega
            rw [w64 (by omega) (by omega)]
            refine .some ⟨⟨m + 1, j, rfl, by omega, hj, fun x hx => ?_, h2⟩, by dsimp only; omega⟩
            have := hmono x m (by omega) (by omega)
            omega
          · have hc := of_decide_eq_false hc
            have hc : o ≤ (lsa db m).o := by
              by_cases h : (lsa db m).o < o
              · rw [if_pos h] at hc; omega
              · omega
            refine .some ⟨⟨i, m, rfl, by omega, by omega, h1, fun x hx hxl => ?_⟩, by dsimp only; omega⟩
            have := hmono m x hx hxl
            omega
        · have hlt := of_decide_eq_false hlt
          obtain rfl : i = j := by omega
          exact .some ⟨i, ⟨hj, h1, h2⟩, rfl⟩
      · rw [nI_eq]; dsimp only; unfold fuel; omega
      · exact ⟨0, db.length, by rw [nI_eq]; rfl, by omega, by omega, fun x hx => by omega, fun x hx hxl => by omega⟩
    · rintro (r | r) hr
      case inr => exact hr.elim
      obtain ⟨i, hi, rfl⟩ := hr
      simp only [at_ls, toN, sh_impl_dbPlace_1, e_cmp, Option.bind_some]
      refine Sat.ite (fun hlt => ?_) (fun hlt => ?_)
      · have hlt := of_decide_eq_true hlt
        refine Sat.gd (inR_t (by omega) (by omega)) (.some ⟨i, hi, ?_⟩)
        have hge := hi.2.2 i (Nat.le_refl _) (by omega)
        unfold hasAt
        by_cases h : (lsa db i).o = o
        · rw [decide_eq_true (show i < db.length ∧ (lsa db i).o = o from ⟨by omega, h⟩), h, if_neg (by omega), if_neg (by omega)]; rfl
        · rw [decide_eq_false (show ¬ (i < db.length ∧ (lsa db i).o = o) from fun g => h g.2), if_neg (by omega), if_pos (by omega)]; rfl
      · have hlt := of_decide_eq_false hlt
        refine .some ⟨i, hi, ?_⟩
        unfold hasAt
        rw [decide_eq_false (show ¬ (i < db.length ∧ (lsa db i).o = o) from fun g => by omega)]
    · rintro _ ⟨i, hi, rfl⟩
      exact .some ⟨i, hi, rfl⟩
  obtain ⟨r, h1, i, h2, h3⟩ := key
  exact ⟨i, h2, by rw [h1, h3]⟩
theorem fd_place {db : List Ls} {o : Int} {i : Nat} (hs : Srt db) (h : IsPl db o i) : fd db o = if hasAt db o i then some (lsa db i) else none := by
  unfold hasAt
  by_cases hc : i < db.length ∧ (lsa db i).o = o
  · rw [decide_eq_true hc, if_pos rfl]
    unfold fd
    rw [lsa_get hc.1]
    exact find_hit hc.1 (decide_eq_true (by rw [← lsa_get hc.1]; exact hc.2)) fun x hx hxi => decide_eq_false (by rw [← lsa_get hx]; have := h.2.1 x hxi; omega)
  · rw [decide_eq_false hc]
    unfold fd
    refine find_miss (p := fun l : Ls => decide (l.o = o)) (l := db) fun x hx => decide_eq_false ?_
    rw [← lsa_get hx]
    rcases Nat.lt_or_ge x i with h1 | h1
    · have := h.2.1 x h1; omega
    · intro e
      have h2 := h.2.2 x h1 hx
      have h3 := h.2.2 i (Nat.le_refl _) (by omega)
      rcases Nat.eq_or_lt_of_le h1 with e2 | e2
      · subst e2; exact hc ⟨hx, e⟩
      · have := hs i x e2 hx; omega
end Go.Proofs.Ythcckenjkicmgaa
end
section
namespace Go.Proofs.Ythcckenjkicmgaa
open Go.RowKit
set_option linter.unusedSimpArgs false
set_option linter.unusedVariables false
set_option maxRecDepth 100000

theorem asc_ext : ∀ {l l' : List Int}, l.Pairwise (· < ·) → l'.Pairwise (· < ·) → (∀ x, x ∈ l ↔ x ∈ l') → l = l'
  | [], [], _, _, _ => rfl
  | [], y :: s, _, _, h => by have := (h y).2 (List.mem_cons_self ..); simp at this
  | x :: r, [], _, _, h => by have := (h x).1 (List.mem_cons_self ..); simp at this
  | x :: r, y :: s, h1, h2, h => by
    have h1 := List.pairwise_cons.1 h1
    have h2 := List.pairwise_cons.1 h2
    have e : x = y := by
      rcases List.mem_cons.1 ((h x).1 (List.mem_cons_self ..)) with e | hx
      · exact e
      · rcases List.mem_cons.1 ((h y).2 (List.mem_cons_self ..)) with e | hy
        · exact e.symm
        · have q1 := h1.1 y hy
          have q2 := h2.1 x hx
          omega
    subst e
    have : r = s := asc_ext h1.2 h2.2 fun z => by
      constructor
      · intro hz
        rcases List.mem_cons.1 ((h z).1 (List.mem_cons_of_mem _ hz)) with e | hz'
        · subst e; have := h1.1 z hz; omega
        · exact hz'
      · intro hz
        rcases List.mem_cons.1 ((h z).2 (List.mem_cons_of_mem _ hz)) with e | hz'
        · subst e; have := h2.1 z hz; omega
        · exact hz'
    rw [this]
theorem sortI_mem {x : Int} {l : List Int} : x ∈ sortI l ↔ x ∈ l := List.mem_mergeSort
theorem sortI_asc {l : List Int} (h : l.Pairwise (· ≠ ·)) : (sortI l).Pairwise (· < ·) := by
  have h1 : (sortI l).Pairwise (fun a b => decide (a ≤ b) = true) := List.pairwise_mergeSort (fun a b c h1 h2 => decide_eq_true (by have := of_decide_eq_true h1; have := of_decide_eq_true h2; omega)) (fun a b => by simp; omega) l
  have h2 : (sortI l).Nodup := (List.mergeSort_perm l _).nodup_iff.2 h
  refine List.Pairwise.imp ?_ (List.Pairwise.and h1 h2)
  rintro a b ⟨q1, q2⟩
  have := of_decide_eq_true q1
  omega
theorem nbS_asc (ls : List Lk) (m : Int) (k : Nat) : (nbS ls m k).Pairwise (· < ·) := by
  unfold nbS
  rw [List.pairwise_map]
  refine List.Pairwise.imp ?_ (List.Pairwise.filter _ (List.pairwise_lt_range (n := k)))
  intro a b h
  omega
theorem nbS_mem {ls : List Lk} {m x : Int} {k : Nat} : x ∈ nbS ls m k ↔ ∃ j : Nat, j < k ∧ x = j ∧ (lc ls m j).isSome = true := by
  unfold nbS
  rw [List.mem_map]
  constructor
  · rintro ⟨j, hj, rfl⟩
    obtain ⟨h1, h2⟩ := List.mem_filter.1 hj
    exact ⟨j, List.mem_range.1 h1, rfl, by rw [lc_lof]; exact h2⟩
  · rintro ⟨j, h1, rfl, h2⟩
    rw [lc_lof] at h2
    exact ⟨j, List.mem_filter.2 ⟨List.mem_range.2 h1, h2⟩, rfl⟩
section
variable {N : Nat} {ls : List Lk}
theorem others_mem (g : GV N ls) {m : Int} {x : Int} : x ∈ others ls m ls.length ↔ (lc ls m x).isSome = true := by
  unfold others
  rw [List.mem_map, List.take_of_length_le (Nat.le_refl _)]
  constructor
  · rintro ⟨l, hl, rfl⟩
    obtain ⟨h1, h2⟩ := List.mem_filter.1 hl
    have ho := g.ok h1
    unfold okL at ho
    have h2 : m = l.a ∨ m = l.b := of_decide_eq_true h2
    unfold otherE
    by_cases e : m = l.a
    · rw [if_pos e, e, lc_mem g.pw h1 (by omega)]; rfl
    · have e2 := h2.resolve_left e
      rw [if_neg e, if_pos e2, e2, lc_symm, lc_mem g.pw h1 (by omega)]; rfl
  · intro h
    obtain ⟨c, hc⟩ := Option.isSome_iff_exists.1 h
    have hm := lc_some hc
    have ho := g.ok hm
    unfold okL at ho
    dsimp only at ho
    refine ⟨_, List.mem_filter.2 ⟨hm, decide_eq_true (by dsimp only; omega)⟩, ?_⟩
    unfold otherE
    dsimp only
    split
    · omega
    · rw [if_pos (by omega)]; omega
theorem others_nodup (g : GV N ls) (m : Int) : (others ls m ls.length).Pairwise (· ≠ ·) := by
  unfold others
  rw [List.take_of_length_le (Nat.le_refl _), List.pairwise_map]
  refine List.Pairwise.imp_of_mem ?_ (List.Pairwise.filter _ g.pw)
  intro a b ha hb hab
  obtain ⟨ha, ea⟩ := List.mem_filter.1 ha
  obtain ⟨hb, eb⟩ := List.mem_filter.1 hb
  have oa := g.ok ha
  have ob := g.ok hb
  have ea : m = a.a ∨ m = a.b := of_decide_eq_true ea
  have eb : m = b.a ∨ m = b.b := of_decide_eq_true eb
  unfold okL at oa ob
  unfold lxl at hab
  unfold otherE
  split <;> split <;> (try split) <;> (try split) <;> omega
theorem lc_none_out (g : GV N ls) {m x : Int} (h : (lc ls m x).isSome = true) : 0 ≤ x ∧ x < N ∧ 0 ≤ m ∧ m < N ∧ x ≠ m := by
  obtain ⟨c, hc⟩ := Option.isSome_iff_exists.1 h
  have ho := g.ok (lc_some hc)
  unfold okL at ho
  dsimp only at ho
  omega
theorem sort_nb (g : GV N ls) (m : Int) : sortI (others ls m ls.length) = nbS ls m N := by
  refine asc_ext (sortI_asc (others_nodup g m)) (nbS_asc ls m N) fun x => ?_
  rw [sortI_mem, others_mem g, nbS_mem]
  constructor
  · intro h
    have := lc_none_out g h
    exact ⟨x.toNat, by omega, by omega, by rw [show ((x.toNat : Nat) : Int) = x by omega]; exact h⟩
  · rintro ⟨j, _, rfl, h⟩; exact h
def endsOf (ls : List Lk) (N : Nat) (o : Int) : List En := (nbS ls o N).map fun n => ⟨n, (lc ls o n).getD 0⟩
theorem e_lsaOf (g : GV N ls) (o s : Int) : sh_impl_Graph_lsaOf ((N : Int), ls, o, s, ()) = some (o, s, endsOf ls N o, ()) := by
  have h8 := g.2.1
  have fl : Fits ls := (show Fits ls by have := g.2.2.1; unfold Fits; omega)
  unfold sh_impl_Graph_lsaOf
  simp only [e_neighbours (N : Int) ls o (by have := g.2.2.1; omega), sort_nb g o, Option.bind_some, nI_eq]
  have hlen := nbS_len ls o N
  have hmem : ∀ x ∈ nbS ls o N, ∃ c, lc ls o x = some c := fun x hx => by
    obtain ⟨j, _, rfl, h⟩ := nbS_mem.1 hx
    exact Option.isSome_iff_exists.1 h
  unfold endsOf
  generalize nbS ls o N = nb at *
  refine Sat.out (Sat.bnd (R := fun r => match r with | .inl x => x = (0, 0, o, s, [], nb.map fun n => ⟨n, (lc ls o n).getD 0⟩, ()) | .inr _ => False) ?_ ?_)
  · refine Sat.count nb.length (fun k t => t = (o, (nb.length : Int), (k : Int), (N : Int), ls, 0, 0, o, s, nb, [], (nb.take k).map (fun n => (⟨n, (lc ls o n).getD 0⟩ : En)), ())) ?_ (Nat.zero_le _) (fuel_lt (by omega)) (by simp)
    rintro k t hk rfl
    by_cases hlt : k < nb.length
    · obtain ⟨c, hc⟩ := hmem (iz nb k) (List.mem_of_getElem? (iz_get hlt))
      obtain ⟨h1, h2, h3⟩ := lc_at hc
      simp (disch := omega) only [bo_impl_Graph_lsaOf_3, at_int, at_lk, toN, w64, e_linkOf _ _ _ _ fl, Option.bind_some, List.length_singleton, List.length_map]
      refine Sat.gd (decide_eq_true (by omega)) (Sat.gd (inR_t (by omega) (by omega)) (Sat.gd (inR_t h1 h2) (Sat.gd (decide_eq_true (by simp; omega)) (.some ⟨hlt, ?_⟩))))
      rw [h3, List.take_add_one, iz_get hlt]
      simp [hc]
    · obtain rfl : k = nb.length := by omega
      unfold bo_impl_Graph_lsaOf_3
      simp only [decide_eq_false (show ¬ (nb.length : Int) < nb.length by omega), cond_false, List.take_length]
      exact .some rfl
  · rintro (r | r) hr
    case inr => exact hr.elim
    obtain rfl := hr
    exact .some rfl
theorem endsOf_len (o : Int) : (endsOf ls N o).length ≤ N := by unfold endsOf; rw [List.length_map]; exact nbS_len ls o N
theorem e_l11Of (g : GV N ls) (o s : Int) : sh_spec_l11Of ((N : Int), ls, o, s, ()) = some (o, s, endsOf ls N o, ()) := by
  have h8 := g.2.1
  have fl : Fits ls := (show Fits ls by have := g.2.2.1; unfold Fits; omega)
  unfold sh_spec_l11Of
  refine Sat.out (Sat.bnd (R := fun r => match r with | .inl x => x = (0, 0, [], o, s, endsOf ls N o, ()) | .inr _ => False) ?_ ?_)
  · refine Sat.count N (fun k t => t = (o, (k : Int), (N : Int), ls, 0, 0, [], o, s, (nbS ls o k).map (fun n => (⟨n, (lc ls o n).getD 0⟩ : En)), ())) ?_ (Nat.zero_le _) (fuel_lt (by omega)) (by simp [nbS])
    rintro k t hk rfl
    have hlen := nbS_len ls o k
    simp (disch := omega) only [bo_spec_l11Of_3, at_lk, toN, w64, e_l1Link _ _ _ _ fl, Option.bind_some, List.length_singleton, List.length_map]
    refine Sat.ite (fun hlt => ?_) (fun hlt => ?_)
    · have hlt := of_decide_eq_true hlt
      cases hc : lc ls o k with
      | none =>
        refine Sat.no (by rw [lc_no hc]; rfl) (.some ⟨by omega, ?_⟩)
        rw [nbS_succ, if_neg (by rw [lc_no hc]; omega)]
        rfl
      | some c =>
        obtain ⟨h1, h2, h3⟩ := lc_at hc
        refine Sat.gd (decide_eq_true h1) (Sat.gd (inR_t h1 h2) (Sat.gd (decide_eq_true (by omega)) (.some ⟨by omega, ?_⟩)))
        rw [nbS_succ, if_pos h1, h3]
        simp [hc]
    · have hlt := of_decide_eq_false hlt
      obtain rfl : k = N := by omega
      exact .some rfl
  · rintro (r | r) hr
    case inr => exact hr.elim
    obtain rfl := hr
    exact .some rfl
end
end Go.Proofs.Ythcckenjkicmgaa
end
section
namespace Go.Proofs.Ythcckenjkicmgaa
open Go.RowKit
set_option linter.unusedSimpArgs false
set_option linter.unusedVariables false

abbrev SrtP (db : List Ls) : Prop := db.Pairwise fun x y => x.o < y.o
theorem srt_iff {db : List Ls} : Srt db ↔ SrtP db := by
  unfold SrtP
  rw [List.pairwise_iff_getElem]
  constructor
  · intro h i j hi hj hij
    have := h i j hij hj
    rwa [lsa_get hi, lsa_get hj] at this
  · intro h i j hij hj
    rw [lsa_get (show i < db.length by omega), lsa_get hj]
    exact h i j (by omega) hj hij
theorem dbV_iff {db : List Ls} : DbV db ↔ (∀ l ∈ db, LsV l) ∧ SrtP db := by
  constructor
  · intro h
    refine ⟨fun l hl => ?_, srt_iff.1 h.srt⟩
    obtain ⟨i, hi, rfl⟩ := List.getElem_of_mem hl
    have := (h i hi).1
    rwa [lsa_get hi] at this
  · rintro ⟨h1, h2⟩ i hi
    refine ⟨?_, fun h0 => srt_iff.2 h2 (i - 1) i (by omega) hi⟩
    rw [lsa_get hi]
    exact h1 _ (List.getElem_mem hi)
def putL (db : List Ls) (l : Ls) : List Ls := db.filter (fun x => decide (x.o < l.o)) ++ l :: db.filter (fun x => decide (l.o < x.o))
def putC (db : List Ls) (l : Ls) : Int := match fd db l.o with | some old => if old.s = l.s then 1 else if l.s < old.s then 2 else 0 | none => 0
def putD (db : List Ls) (l : Ls) : List Ls := if putC db l = 0 then putL db l else db
theorem putL_mem {db : List Ls} {l x : Ls} : x ∈ putL db l ↔ x = l ∨ x ∈ db ∧ x.o ≠ l.o := by
  unfold putL
  rw [List.mem_append, List.mem_cons, List.mem_filter, List.mem_filter]
  simp only [decide_eq_true_eq]
  constructor
  · rintro (⟨h1, h2⟩ | rfl | ⟨h1, h2⟩)
    · exact .inr ⟨h1, by omega⟩
    · exact .inl rfl
    · exact .inr ⟨h1, by omega⟩
  · rintro (rfl | ⟨h1, h2⟩)
    · exact .inr (.inl rfl)
    · rcases Int.lt_or_gt_of_ne h2 with h | h
      · exact .inl ⟨h1, h⟩
      · exact .inr (.inr ⟨h1, h⟩)
theorem putL_srt {db : List Ls} (h : SrtP db) (l : Ls) : SrtP (putL db l) := by
  unfold putL SrtP
  rw [List.pairwise_append, List.pairwise_cons]
  refine ⟨List.Pairwise.filter _ h, ⟨fun x hx => ?_, List.Pairwise.filter _ h⟩, fun x hx y hy => ?_⟩
  · exact of_decide_eq_true (List.mem_filter.1 hx).2
  · have h1 : x.o < l.o := of_decide_eq_true (List.mem_filter.1 hx).2
    rcases List.mem_cons.1 hy with rfl | hy
    · exact h1
    · have h2 : l.o < y.o := of_decide_eq_true (List.mem_filter.1 hy).2
      omega
theorem putD_srt {db : List Ls} (h : SrtP db) (l : Ls) : SrtP (putD db l) := by
  unfold putD
  split
  · exact putL_srt h l
  · exact h
theorem srt_uniq {db : List Ls} (h : SrtP db) {x y : Ls} (hx : x ∈ db) (hy : y ∈ db) (e : x.o = y.o) : x = y := by
  obtain ⟨i, hi, rfl⟩ := List.getElem_of_mem hx
  obtain ⟨j, hj, rfl⟩ := List.getElem_of_mem hy
  rcases Nat.lt_trichotomy i j with h1 | h1 | h1
  · have := List.pairwise_iff_getElem.1 h i j hi hj h1; omega
  · subst h1; rfl
  · have := List.pairwise_iff_getElem.1 h j i hj hi h1; omega
theorem fd_some {db : List Ls} (h : SrtP db) {o : Int} {x : Ls} : fd db o = some x ↔ x ∈ db ∧ x.o = o := by
  unfold fd
  constructor
  · intro e
    exact ⟨List.mem_of_find?_eq_some e, of_decide_eq_true (List.find?_some (p := fun l : Ls => decide (l.o = o)) e)⟩
  · rintro ⟨hx, rfl⟩
    cases e : db.find? (fun l => decide (l.o = x.o)) with
    | none =>
      have := List.find?_eq_none.1 e x hx
      simp at this
    | some y =>
      have h1 := List.mem_of_find?_eq_some e
      have h2 : y.o = x.o := of_decide_eq_true (List.find?_some (p := fun l : Ls => decide (l.o = x.o)) e)
      rw [srt_uniq h h1 hx h2]
theorem fd_none {db : List Ls} {o : Int} : fd db o = none ↔ ∀ x ∈ db, x.o ≠ o := by
  unfold fd
  rw [List.find?_eq_none]
  constructor
  · intro h x hx e; exact h x hx (decide_eq_true e)
  · intro h x hx e; exact h x hx (of_decide_eq_true e)
theorem fd_put {db : List Ls} (h : SrtP db) (l : Ls) (o : Int) : fd (putD db l) o = if o = l.o ∧ putC db l = 0 then some l else fd db o := by
  unfold putD
  by_cases hc : putC db l = 0
  · rw [if_pos hc]
    by_cases ho : o = l.o
    · rw [if_pos ⟨ho, hc⟩]
      exact (fd_some (putL_srt h l)).2 ⟨putL_mem.2 (.inl rfl), ho.symm⟩
    · rw [if_neg fun g => ho g.1]
      cases e : fd db o with
      | none =>
        rw [fd_none] at e ⊢
        intro x hx
        rcases putL_mem.1 hx with rfl | ⟨hx, _⟩
        · exact fun g => ho g.symm
        · exact e x hx
      | some y =>
        obtain ⟨h1, h2⟩ := (fd_some h).1 e
        exact (fd_some (putL_srt h l)).2 ⟨putL_mem.2 (.inr ⟨h1, by omega⟩), h2⟩
  · rw [if_neg hc, if_neg fun g => hc g.2]
def mergeD (db other : List Ls) : List Ls := other.foldl putD db
def seqD (db : List Ls) (o : Int) : Int := match fd db o with | some l => l.s | none => -1
theorem mergeD_srt {db : List Ls} (h : SrtP db) (other : List Ls) : SrtP (mergeD db other) := by
  unfold mergeD
  induction other generalizing db with
  | nil => exact h
  | cons l r ih => exact ih (putD_srt h l)
theorem seq_put {db : List Ls} (h : SrtP db) {l : Ls} (hl : 0 ≤ l.s) (o : Int) : seqD (putD db l) o = if o = l.o then max (seqD db o) l.s else seqD db o := by
  unfold seqD
  rw [fd_put h l o]
  by_cases ho : o = l.o
  · subst ho
    rw [if_pos rfl]
    cases e : fd db l.o with
    | none =>
      have hc : putC db l = 0 := by unfold putC; rw [e]
      rw [hc, if_pos ⟨rfl, rfl⟩]
      dsimp only
      omega
    | some old =>
      by_cases h1 : old.s = l.s
      · have hc : putC db l = 1 := by unfold putC; rw [e]; exact if_pos h1
        rw [hc, if_neg (fun g => by have := g.2; omega)]
        dsimp only
        omega
      · by_cases h2 : l.s < old.s
        · have hc : putC db l = 2 := by unfold putC; rw [e]; dsimp only; rw [if_neg h1, if_pos h2]
          rw [hc, if_neg (fun g => by have := g.2; omega)]
          dsimp only
          omega
        · have hc : putC db l = 0 := by unfold putC; rw [e]; dsimp only; rw [if_neg h1, if_neg h2]
          rw [hc, if_pos ⟨rfl, rfl⟩]
          dsimp only
          omega
  · rw [if_neg fun g => ho g.1, if_neg ho]
theorem putC_zero {db : List Ls} {l : Ls} (hl : 0 ≤ l.s) : putC db l = 0 ↔ seqD db l.o < l.s := by
  unfold putC seqD
  cases fd db l.o with
  | none => simp; omega
  | some old =>
    dsimp only
    by_cases h1 : old.s = l.s
    · rw [if_pos h1]; omega
    · rw [if_neg h1]
      by_cases h2 : l.s < old.s
      · rw [if_pos h2]; omega
      · rw [if_neg h2]; omega
theorem fd_cons (l : Ls) (r : List Ls) (o : Int) : fd (l :: r) o = if l.o = o then some l else fd r o := by
  unfold fd
  rw [List.find?_cons]
  by_cases h : l.o = o
  · rw [if_pos h, decide_eq_true h]
  · rw [if_neg h, decide_eq_false h]
theorem seq_low {db : List Ls} (h : ∀ l ∈ db, 0 ≤ l.s) (o : Int) : -1 ≤ seqD db o := by
  unfold seqD
  cases e : fd db o with
  | none => simp
  | some l => have := h l (List.mem_of_find?_eq_some e); dsimp only; omega
theorem fd_merge {a b : List Ls} (ha : SrtP a) (hb : SrtP b) (hs : ∀ l ∈ b, 0 ≤ l.s) (hsa : ∀ l ∈ a, 0 ≤ l.s) (o : Int) : fd (mergeD a b) o = if seqD a o < seqD b o then fd b o else fd a o := by
  unfold mergeD
  induction b generalizing a with
  | nil =>
    have : seqD [] o = -1 := rfl
    rw [if_neg (by have := seq_low hsa o; omega)]
    rfl
  | cons l r ih =>
    have hb' := List.pairwise_cons.1 hb
    have hl := hs l (List.mem_cons_self ..)
    have hsa' : ∀ x ∈ putD a l, 0 ≤ x.s := fun x hx => by
      unfold putD at hx
      split at hx
      · rcases putL_mem.1 hx with rfl | hx
        · exact hl
        · exact hsa x hx.1
      · exact hsa x hx
    have ih := ih (putD_srt ha l) hb'.2 (fun x hx => hs x (List.mem_cons_of_mem _ hx)) hsa'
    rw [List.foldl_cons, ih, seq_put ha hl, fd_put ha, fd_cons]
    have hq : seqD (l :: r) o = if l.o = o then l.s else seqD r o := by
      unfold seqD
      rw [fd_cons]
      by_cases e : l.o = o
      · rw [if_pos e, if_pos e]
      · rw [if_neg e, if_neg e]
    rw [hq]
    by_cases ho : o = l.o
    · subst ho
      have hr : seqD r l.o = -1 := by
        unfold seqD
        rw [fd_none.2 fun x hx e => by have := hb'.1 x hx; omega]
      have hla := seq_low hsa l.o
      rw [if_pos rfl, if_pos rfl, if_pos rfl, hr, if_neg (by omega)]
      by_cases hc : putC a l = 0
      · rw [if_pos ⟨rfl, hc⟩, if_pos ((putC_zero hl).1 hc)]
      · rw [if_neg fun g => hc g.2, if_neg fun g => hc ((putC_zero hl).2 g)]
    · have h1 : ¬ l.o = o := fun g => ho g.symm
      have h2 : ¬ (o = l.o ∧ putC a l = 0) := fun g => ho g.1
      simp only [if_neg ho, if_neg h1, if_neg h2]
theorem seq_merge {a b : List Ls} (ha : SrtP a) (hb : SrtP b) (hs : ∀ l ∈ b, 0 ≤ l.s) (hsa : ∀ l ∈ a, 0 ≤ l.s) (o : Int) : seqD (mergeD a b) o = max (seqD a o) (seqD b o) := by
  have h := fd_merge ha hb hs hsa o
  by_cases hc : seqD a o < seqD b o
  · rw [if_pos hc] at h
    have : seqD (mergeD a b) o = seqD b o := by unfold seqD; rw [h]
    omega
  · rw [if_neg hc] at h
    have : seqD (mergeD a b) o = seqD a o := by unfold seqD; rw [h]
    omega
def Agree (a b : List Ls) : Prop := ∀ x ∈ a, ∀ y ∈ b, x.o = y.o → x.s = y.s → x = y
theorem merge_mem {a b : List Ls} {x : Ls} (hx : x ∈ mergeD a b) : x ∈ a ∨ x ∈ b := by
  unfold mergeD at hx
  induction b generalizing a with
  | nil => exact .inl hx
  | cons l r ih =>
    rcases ih hx with h | h
    · unfold putD at h
      split at h
      · rcases putL_mem.1 h with rfl | h
        · exact .inr (List.mem_cons_self ..)
        · exact .inl h.1
      · exact .inl h
    · exact .inr (List.mem_cons_of_mem _ h)
end Go.Proofs.Ythcckenjkicmgaa
end
section
namespace Go.Proofs.Ythcckenjkicmgaa
open Go.RowKit
set_option linter.unusedSimpArgs false
set_option linter.unusedVariables false
set_option maxRecDepth 100000

instance : DecidableEq En := fun a b => decidable_of_iff (a.n = b.n ∧ a.c = b.c) ⟨fun ⟨h1, h2⟩ => by cases a; cases b; simp_all, fun h => by subst h; exact ⟨rfl, rfl⟩⟩
instance : DecidableEq Ls := fun a b => decidable_of_iff (a.o = b.o ∧ a.s = b.s ∧ a.e = b.e) ⟨fun ⟨h1, h2, h3⟩ => by cases a; cases b; simp_all, fun h => by subst h; exact ⟨rfl, rfl, rfl⟩⟩
abbrev Sm {α : Type} (l : List α) : Prop := l.length ≤ 16000000
def SmD (db : List Ls) : Prop := Sm db ∧ ∀ l ∈ db, Sm l.e
theorem SmD.fits {db : List Ls} (h : SmD db) : Fits db := by have := h.1; unfold Fits; unfold Sm at this; omega
theorem SmD.fe {db : List Ls} (h : SmD db) : ∀ l ∈ db, Fits l.e := fun l hl => by have := h.2 l hl; unfold Fits; unfold Sm at this; omega
theorem lsa_mem {db : List Ls} {k : Nat} (h : k < db.length) : lsa db k ∈ db := by rw [lsa_get h]; exact List.getElem_mem h
theorem eqI (a b c d : Int) : eqInts [a, b] [c, d] = decide ((⟨a, b⟩ : En) = ⟨c, d⟩) := by
  by_cases h1 : a = c <;> by_cases h2 : b = d <;> simp [eqInts, h1, h2]
theorem ens_ext {es fs : List En} (hl : es.length = fs.length) (h : ∀ i, i < es.length → en es i = en fs i) : es = fs := by
  refine List.ext_getElem hl fun i h1 h2 => ?_
  have := h i h1
  rwa [en_get h1, en_get h2] at this
theorem eta_en (e : En) : (⟨e.n, e.c⟩ : En) = e := rfl
theorem e_Equal (es fs : List En) (ha : Fits es) (hb : Fits fs) : sh_slices_Equal_impl_End_impl_End (es, fs, ()) = some (decide (es = fs), ()) := by
  unfold sh_slices_Equal_impl_End_impl_End
  by_cases hl : es.length = fs.length
  case neg =>
    have : es ≠ fs := fun e => hl (by rw [e])
    have hl2 : ¬ (es.length : Int) = fs.length := by omega
    simp [nI_eq, hl2, this]
  simp only [nI_eq, hl, decide_true, Bool.not_true, cond_false]
  try rw [← hl]
  refine Sat.out (Sat.bnd (R := fun r => match r with | .inl _ => es = fs | .inr y => y = (false, ()) ∧ es ≠ fs) ?_ ?_)
  · refine Sat.count es.length (fun k t => t = (es, fs, (es.length : Int), (k : Int), ()) ∧ ∀ i, i < k → en es i = en fs i) ?_ (Nat.zero_le _) (fuel_lt (by omega)) ⟨rfl, fun i hi => by omega⟩
    rintro k t hk ⟨rfl, hok⟩
    simp (disch := omega) only [bo_slices_Equal_impl_End_impl_End_4, at_en, toN, w64, nI_eq, eqI, eta_en]
    refine Sat.ite (fun h => ?_) (fun h => ?_)
    · have h := of_decide_eq_true h
      refine Sat.gd (inR_t (by omega) (by omega)) (Sat.gd (inR_t (by omega) (by omega)) (Sat.ite (fun h2 => ?_) (fun h2 => ?_)))
      · have h2 : ¬ en es k = en fs k := by simpa using h2
        exact .some ⟨rfl, fun e => h2 (by rw [e])⟩
      · have h2 : en es k = en fs k := by simpa using h2
        exact .some ⟨by omega, rfl, fun i hi => by
          by_cases e : i < k
          · exact hok i e
          · obtain rfl : i = k := by omega
            exact h2⟩
    · have h := of_decide_eq_false h
      exact .some (ens_ext hl fun i hi => hok i (by omega))
  · rintro (r | r) hr
    · have hr : es = fs := hr
      exact .some (by rw [decide_eq_true hr])
    · obtain ⟨rfl, hr⟩ := hr
      exact .some (by rw [decide_eq_false hr])
theorem e_sameLsa (a b : Ls) (ha : Fits a.e) (hb : Fits b.e) : sh_impl_sameLsa (a.o, a.s, a.e, b.o, b.s, b.e, ()) = some (decide (a = b), ()) := by
  unfold sh_impl_sameLsa
  cases a with | mk o s e =>
  cases b with | mk o' s' e' =>
  dsimp only
  by_cases h1 : o = o' <;> by_cases h2 : s = s' <;> simp [h1, h2, e_Equal e e' ha hb]
theorem e_l51Same (a b : Ls) (ha : Fits a.e) (hb : Fits b.e) : sh_spec_l51Same (a.o, a.s, a.e, b.o, b.s, b.e, ()) = some (decide (a = b), ()) := by
  unfold sh_spec_l51Same
  cases a with | mk o s es =>
  cases b with | mk o' s' fs =>
  dsimp only at *
  by_cases h1 : o = o'
  case neg => simp [h1]
  by_cases h2 : s = s'
  case neg => simp [h2]
  subst h1 h2
  by_cases hl : es.length = fs.length
  case neg =>
    have : es ≠ fs := fun e => hl (by rw [e])
    have hl2 : ¬ (es.length : Int) = fs.length := by omega
    simp [nI_eq, hl2, this]
  simp only [nI_eq, hl, decide_true, Bool.not_true, cond_false]
  refine Sat.out (Sat.bnd (R := fun r => match r with | .inl _ => es = fs | .inr y => y = (false, ()) ∧ es ≠ fs) ?_ ?_)
  · refine Sat.count es.length (fun k t => t = ((k : Int), o, s, es, o, s, fs, ()) ∧ ∀ i, i < k → en es i = en fs i) ?_ (Nat.zero_le _) (fuel_lt (by omega)) ⟨rfl, fun i hi => by omega⟩
    rintro k t hk ⟨rfl, hok⟩
    simp (disch := omega) only [bo_spec_l51Same_4, at_en, toN, w64, nI_eq, eqI, eta_en]
    refine Sat.ite (fun h => ?_) (fun h => ?_)
    · have h := of_decide_eq_true h
      refine Sat.gd (inR_t (by omega) (by omega)) (Sat.gd (inR_t (by omega) (by omega)) (Sat.ite (fun h2 => ?_) (fun h2 => ?_)))
      · have h2 : ¬ en es k = en fs k := by simpa using h2
        exact .some ⟨rfl, fun e => h2 (by rw [e])⟩
      · have h2 : en es k = en fs k := by simpa using h2
        exact .some ⟨by omega, rfl, fun i hi => by
          by_cases e : i < k
          · exact hok i e
          · obtain rfl : i = k := by omega
            exact h2⟩
    · have h := of_decide_eq_false h
      exact .some (ens_ext hl fun i hi => hok i (by omega))
  · rintro (r | r) hr
    · have hr : es = fs := hr
      exact .some (by rw [decide_eq_true (by rw [hr])])
    · obtain ⟨rfl, hr⟩ := hr
      exact .some (by rw [decide_eq_false (by intro e; injection e with _ _ e; exact hr e)])
theorem SmD.put {db : List Ls} (h : SmD db) {l : Ls} (hl : Sm l.e) (hs : db.length ≤ 1000000) : SmD (putD db l) ∧ (putD db l).length ≤ db.length + 1 := by
  have hlen : (putL db l).length ≤ db.length + 1 := by
    unfold putL
    have h1 : ∀ ds : List Ls, (ds.filter fun x => decide (x.o < l.o)).length + (ds.filter fun x => decide (l.o < x.o)).length ≤ ds.length := fun ds => by
      induction ds with
      | nil => simp
      | cons x r ih =>
        simp only [List.filter_cons]
        by_cases a : x.o < l.o
        · have b : ¬ l.o < x.o := by omega
          simp [a, b]; omega
        · by_cases b : l.o < x.o
          · simp [a, b]; omega
          · simp [a, b]; omega
    have := h1 db
    simp only [List.length_append, List.length_cons]
    omega
  unfold putD
  split
  · refine ⟨⟨by unfold Sm; omega, fun x hx => ?_⟩, hlen⟩
    rcases putL_mem.1 hx with rfl | ⟨hx, _⟩
    · exact hl
    · exact h.2 x hx
  · exact ⟨h, by omega⟩
end Go.Proofs.Ythcckenjkicmgaa
end
section
namespace Go.Proofs.Ythcckenjkicmgaa
open Go.RowKit
set_option linter.unusedSimpArgs false
set_option linter.unusedVariables false
set_option maxRecDepth 100000

theorem e_sDbValid (db : List Ls) (hl : Fits db) (he : ∀ l ∈ db, Fits l.e) : sh_spec_DbValid (db, ()) = some (dbv db, ()) := by
  unfold sh_spec_DbValid
  refine Sat.out (Sat.bnd (R := fun r => match r with | .inl _ => dbv db = true | .inr y => y.1 = false ∧ dbv db = false) ?_ ?_)
  · refine Sat.count db.length (fun k t => t = (db, (k : Int), ()) ∧ ∀ i, i < k → LsV (lsa db i) ∧ (0 < i → (lsa db (i - 1)).o < (lsa db i).o)) ?_ (Nat.zero_le _) (fuel_lt (by omega)) ⟨by simp, fun i hi => by omega⟩
    rintro k t hk ⟨rfl, hok⟩
    by_cases hlt : k < db.length
    · have hf : Fits (lsa db k).e := he _ (by rw [lsa_get hlt]; exact List.getElem_mem hlt)
      simp (disch := omega) only [bo_spec_DbValid_2, at_ls, toN, toN1, w64, nI_eq, e_sLsaValid _ _ _ hf, Option.bind_some]
      repeat' (first
        | refine Sat.some ?_
        | fail
        | (refine Sat.gd (by first | exact inR_t (by omega) (by omega) | (simp (disch := omega) only [w64]; exact inR_t (by omega) (by omega))) ?_)
        | (refine Sat.ite (fun h => ?_) (fun h => ?_) <;> try simp only [decide_eq_true_eq, decide_eq_false_iff_not, Bool.not_eq_true', Bool.not_eq_false', inB_i, inB_j, Bool.and_eq_true, Bool.or_eq_true, Bool.and_eq_false_iff, Bool.or_eq_false_iff, El] at h))
      all_goals try dsimp only
      all_goals first
        | (refine ⟨rfl, decide_eq_false fun g => ?_⟩
           have := g k hlt
           first | exact of_decide_eq_false (by assumption) this.1 | omega)
        | (refine ⟨by omega, rfl, fun i hi => ?_⟩
           by_cases e : i < k
           · exact hok i e
           · obtain rfl : i = k := by omega
             exact ⟨of_decide_eq_true (by assumption), fun _ => by omega⟩)
        | omega
    · obtain rfl : k = db.length := by omega
      unfold bo_spec_DbValid_2
      simp only [nI_eq, decide_eq_false (show ¬ (db.length : Int) < db.length by omega), cond_false]
      exact .some (decide_eq_true hok)
  · rintro (r | r) hr
    · have hr : dbv db = true := hr
      exact .some (by rw [hr])
    · obtain ⟨b, u⟩ := r
      have hr : b = false ∧ dbv db = false := hr
      exact .some (by rw [hr.1, hr.2])
end Go.Proofs.Ythcckenjkicmgaa
end
section
namespace Go.Proofs.Ythcckenjkicmgaa
open Go.RowKit
set_option linter.unusedSimpArgs false
set_option linter.unusedVariables false

def sy (f : Nat → Int) (e : Nat × Nat) : Nat → Int := fun n => if n = e.1 ∨ n = e.2 then max (f e.1) (f e.2) else f n
def Jn (ls : List Lk) (u v : Nat) : Prop := ∃ k s, Wk ls u k v s
theorem Jn.refl (ls : List Lk) (u : Nat) : Jn ls u u := ⟨0, 0, .nil⟩
theorem Jn.symm {ls : List Lk} {u v : Nat} (h : Jn ls u v) : Jn ls v u := by
  obtain ⟨k, s, w⟩ := h
  exact ⟨k, s, w.symm⟩
theorem Jn.trans {ls : List Lk} {u v x : Nat} (h : Jn ls u v) (h' : Jn ls v x) : Jn ls u x := by
  obtain ⟨k, s, w⟩ := h
  obtain ⟨k', s', w'⟩ := h'
  exact ⟨_, _, w.append w'⟩
section
variable {N : Nat} {ls : List Lk}
end
end Go.Proofs.Ythcckenjkicmgaa
end
section
namespace Go.Proofs.Ythcckenjkicmgaa
open Go.RowKit
set_option linter.unusedSimpArgs false
set_option linter.unusedVariables false

structure Know (D : Nat → List Ls) : Prop where
  srt : ∀ n, SrtP (D n)
  pos : ∀ n, ∀ l ∈ D n, 0 ≤ l.s
  agr : ∀ m n, Agree (D m) (D n)
def syD (D : Nat → List Ls) (e : Nat × Nat) : Nat → List Ls := fun n => if n = e.1 ∨ n = e.2 then mergeD (D e.1) (D e.2) else D n
theorem syD_mem {D : Nat → List Ls} {e : Nat × Nat} {n : Nat} {x : Ls} (h : x ∈ syD D e n) : ∃ m, x ∈ D m := by
  unfold syD at h
  split at h
  · rcases merge_mem h with h | h
    · exact ⟨_, h⟩
    · exact ⟨_, h⟩
  · exact ⟨n, h⟩
theorem Know.sy {D : Nat → List Ls} (K : Know D) (e : Nat × Nat) : Know (syD D e) := by
  refine ⟨fun n => ?_, fun n l hl => ?_, fun m n x hx y hy => ?_⟩
  · unfold syD
    split
    · exact mergeD_srt (K.srt _) _
    · exact K.srt n
  · obtain ⟨m, hm⟩ := syD_mem hl
    exact K.pos m l hm
  · obtain ⟨i, hi⟩ := syD_mem hx
    obtain ⟨j, hj⟩ := syD_mem hy
    exact K.agr i j x hi y hj
theorem Know.seq {D : Nat → List Ls} (K : Know D) (e : Nat × Nat) (o : Int) (n : Nat) : seqD (syD D e n) o = Go.Proofs.Ythcckenjkicmgaa.sy (fun n => seqD (D n) o) e n := by
  unfold syD Go.Proofs.Ythcckenjkicmgaa.sy
  split
  · exact seq_merge (K.srt _) (K.srt _) (K.pos _) (K.pos _) o
  · rfl
section
variable {N : Nat} {ls : List Lk} {D : Nat → List Ls}
end
end Go.Proofs.Ythcckenjkicmgaa
end
section
namespace Go.Proofs.Ythcckenjkicmgaa
open Go.RowKit
set_option linter.unusedSimpArgs false
set_option linter.unusedVariables false

structure Wd where
  n : Int
  ls : List Lk
  up : List Bool
  sq : List Int
  db : List (List Ls)
  net : List Pk
def dbx (db : List (List Ls)) (i : Nat) : List Ls := db.getD i []
def trK (ls : List Lk) (up : List Bool) (k : Nat) : List Lk := ((List.range k).filter fun i => up.getD i false).map (lk ls)
def tru (ls : List Lk) (up : List Bool) : List Lk := trK ls up ls.length
theorem trK_succ (ls : List Lk) (up : List Bool) (k : Nat) : trK ls up (k + 1) = if up.getD k false then trK ls up k ++ [lk ls k] else trK ls up k := by
  unfold trK
  rw [List.range_succ, List.filter_append, List.map_append, List.filter_cons]
  cases h : up.getD k false with
  | false => simp
  | true => rfl
theorem tru_mem {ls : List Lk} {up : List Bool} {l : Lk} : l ∈ tru ls up ↔ ∃ i, i < ls.length ∧ up.getD i false = true ∧ l = lk ls i := by
  unfold tru trK
  rw [List.mem_map]
  constructor
  · rintro ⟨i, hi, rfl⟩
    obtain ⟨h1, h2⟩ := List.mem_filter.1 hi
    exact ⟨i, List.mem_range.1 h1, h2, rfl⟩
  · rintro ⟨i, h1, h2, rfl⟩
    exact ⟨i, List.mem_filter.2 ⟨List.mem_range.2 h1, h2⟩, rfl⟩
theorem tru_len (ls : List Lk) (up : List Bool) : (tru ls up).length ≤ ls.length := by
  unfold tru trK
  rw [List.length_map]
  exact Nat.le_trans (List.length_filter_le _ _) (by simp)
theorem tru_gv {n : Int} {ls : List Lk} (g : GV n ls) (up : List Bool) : GV n (tru ls up) := by
  refine gv_pw.2 ⟨g.1, g.2.1, Nat.le_trans (tru_len ls up) g.2.2.1, fun l hl => ?_, ?_⟩
  · obtain ⟨i, hi, _, rfl⟩ := tru_mem.1 hl
    exact g.ok (lk_mem hi)
  · unfold tru trK
    rw [List.pairwise_map]
    refine List.Pairwise.imp_of_mem ?_ (List.Pairwise.filter _ (List.pairwise_lt_range (n := ls.length)))
    intro a b ha hb hab
    have h1 := List.mem_range.1 (List.mem_filter.1 ha).1
    have h2 := List.mem_range.1 (List.mem_filter.1 hb).1
    have := List.pairwise_iff_getElem.1 g.pw a b h1 h2 hab
    rwa [hit_lk h1, hit_lk h2]
def Poss (w : Wd) (A : Int → Prop) (l : Ls) : Prop := LsV l ∧ l.o < w.n ∧ l.s ≤ iz w.sq l.o.toNat ∧ (∀ e ∈ l.e, lc w.ls l.o e.n = some e.c) ∧ (l.s < iz w.sq l.o.toNat ∨ l.e = endsOf (tru w.ls w.up) w.n.toNat l.o ∨ A l.o)
def Said (w : Wd) (l : Ls) : Prop := (∃ i, i < w.db.length ∧ l ∈ dbx w.db i) ∨ ∃ p ∈ w.net, l = p.p
structure WV (w : Wd) (A : Int → Prop) : Prop where
  g : GV w.n w.ls
  up : w.up.length = w.ls.length
  sq : (w.sq.length : Int) = w.n
  db : (w.db.length : Int) = w.n
  net : w.net.length ≤ 16
  rng : ∀ i, i < w.sq.length → 1 ≤ iz w.sq i ∧ iz w.sq i ≤ 99
  ok : ∀ i, i < w.db.length → DbV (dbx w.db i)
  own : ∀ i, i < w.db.length → ∃ l ∈ dbx w.db i, l.o = i ∧ l.s = iz w.sq i
  poss : ∀ l, Said w l → Poss w A l
  agr : ∀ x y, Said w x → Said w y → x.o = y.o → x.s = y.s → x = y
  tgt : ∀ p ∈ w.net, 0 ≤ p.t ∧ p.t < w.n
end Go.Proofs.Ythcckenjkicmgaa
end
section
namespace Go.Proofs.Ythcckenjkicmgaa
open Go.RowKit
set_option linter.unusedSimpArgs false
set_option linter.unusedVariables false

abbrev Nob : Int → Prop := fun _ => False
theorem WV.mono {w : Wd} {A B : Int → Prop} (h : WV w A) (k : ∀ o, A o → B o) : WV w B :=
  ⟨h.g, h.up, h.sq, h.db, h.net, h.rng, h.ok, h.own, fun l hl => by
    obtain ⟨p1, p2, p3, p4, p5⟩ := h.poss l hl
    exact ⟨p1, p2, p3, p4, p5.imp id fun q => q.imp id (k _)⟩, h.agr, h.tgt⟩
section
variable {w : Wd}
theorem DbV.pos {db : List Ls} (h : DbV db) : ∀ l ∈ db, 0 ≤ l.s := fun l hl => by
  have := ((dbV_iff.1 h).1 l hl).2.2.1
  omega
end
end Go.Proofs.Ythcckenjkicmgaa
end
section
namespace Go.Proofs.Ythcckenjkicmgaa
open Go.RowKit
set_option linter.unusedSimpArgs false
set_option linter.unusedVariables false

def pkx (net : List Pk) (i : Nat) : Pk := net.getD i ⟨0, ⟨0, 0, []⟩⟩
theorem pkx_mem {net : List Pk} {i : Nat} (h : i < net.length) : pkx net i ∈ net := by
  unfold pkx
  rw [List.getD, List.getElem?_eq_getElem h]
  exact List.getElem_mem h
end Go.Proofs.Ythcckenjkicmgaa
end
section
namespace Go.Proofs.Ythcckenjkicmgaa
open Go.RowKit
set_option linter.unusedSimpArgs false
set_option linter.unusedVariables false

theorem Wd.same {a b : Wd} (h1 : a.n = b.n) (h2 : a.ls = b.ls) (h3 : a.up = b.up) (h4 : a.sq = b.sq) (h5 : a.db = b.db) (h6 : a.net = b.net) : a = b := by
  cases a; cases b; dsimp only at h1 h2 h3 h4 h5 h6; subst h1 h2 h3 h4 h5 h6; rfl
section
variable {w : Wd} {N : Nat}
end
end Go.Proofs.Ythcckenjkicmgaa
end
section
namespace Go.Proofs.Ythcckenjkicmgaa
open Go.RowKit
set_option linter.unusedSimpArgs false
set_option linter.unusedVariables false
set_option maxRecDepth 100000

theorem at_bo (es : List Bool) (i : Nat) : at! .bool es i = es.getD i false := by
  induction es generalizing i with
  | nil => rfl
  | cons z r ih => cases i with
    | zero => rfl
    | succ i => exact (ih i).trans (by simp)
theorem at_db (es : List (List Ls)) (i : Nat) : at! .db es i = dbx es i := by
  induction es generalizing i with
  | nil => rfl
  | cons z r ih => cases i with
    | zero => rfl
    | succ i => exact (ih i).trans (by simp [dbx])
theorem at_pk (es : List Pk) (i : Nat) : at! .pk es i = pkx es i := by
  induction es generalizing i with
  | nil => rfl
  | cons z r ih => cases i with
    | zero => rfl
    | succ i => exact (ih i).trans (by simp [pkx])
theorem trK_len (ls : List Lk) (up : List Bool) (k : Nat) : (trK ls up k).length ≤ k := by
  unfold trK
  rw [List.length_map]
  exact Nat.le_trans (List.length_filter_le _ _) (by simp)
theorem e_truth (w : Wd) (h : w.up.length = w.ls.length) (hl : w.ls.length ≤ 1000) : sh_impl_World_truth (w.n, w.ls, w.up, w.sq, w.db, w.net, ()) = some (w.n, tru w.ls w.up, ()) := by
  cases w with | mk n ls up sq db net =>
  dsimp only at h hl
  unfold sh_impl_World_truth sh_impl_Graph_keep_truth_1
  refine Sat.out (Sat.bnd (R := fun r => r = (n, tru ls up, ())) (Sat.bnd (R := fun r => match r with | .inl x => x = (0, n, [], tru ls up, ()) | .inr _ => False) ?_ ?_) ?_)
  · refine Sat.count ls.length (fun k t => t = (n, ls, up, sq, db, net, ls, (ls.length : Int), (k : Int), 0, n, [], trK ls up k, ())) ?_ (Nat.zero_le _) (fuel_lt (by omega)) (by simp [nI_eq, trK])
    rintro k t hk rfl
    have hq := trK_len ls up k
    simp (disch := omega) only [bo_impl_Graph_keep_truth_1_3, sh_impl_World_truth_1, at_lk, at_bo, toN, w64, nI_eq]
    by_cases hlt : k < ls.length
    · refine Sat.gd (decide_eq_true (by omega)) (Sat.gd (inR_t (by omega) (by omega)) (Sat.bnd (R := fun r => r = (up.getD k false, ())) (Sat.gd (inR_t (by omega) (by omega)) (.some rfl)) ?_))
      rintro _ rfl
      refine Sat.ite (fun hu => Sat.gd (decide_eq_true (by simp only [List.length_singleton]; omega)) (.some ⟨hlt, ?_⟩)) (fun hu => .some ⟨hlt, ?_⟩)
      · have hu : up.getD k false = true := hu
        rw [trK_succ, if_pos hu]; rfl
      · have hu : up.getD k false = false := hu
        rw [trK_succ, hu]; rfl
    · obtain rfl : k = ls.length := by omega
      refine Sat.no (decide_eq_false (by omega)) (.some rfl)
  · rintro (r | r) hr
    case inr => exact hr.elim
    obtain rfl := hr
    exact .some rfl
  · rintro _ rfl
    exact .some rfl
theorem e_l51Truth (w : Wd) (h : w.up.length = w.ls.length) (hl : w.ls.length ≤ 1000) : sh_spec_l51Truth (w.n, w.ls, w.up, w.sq, w.db, w.net, ()) = some (w.n, tru w.ls w.up, ()) := by
  cases w with | mk n ls up sq db net =>
  dsimp only at h hl
  unfold sh_spec_l51Truth
  refine Sat.out (Sat.bnd (R := fun r => match r with | .inl x => x = (0, [], n, tru ls up, ()) | .inr _ => False) ?_ ?_)
  · refine Sat.count ls.length (fun k t => t = ((k : Int), n, ls, up, sq, db, net, 0, [], n, trK ls up k, ())) ?_ (Nat.zero_le _) (fuel_lt (by omega)) (by simp [nI_eq, trK])
    rintro k t hk rfl
    have hq := trK_len ls up k
    simp (disch := omega) only [bo_spec_l51Truth_3, at_lk, at_bo, toN, w64, nI_eq]
    by_cases hlt : k < ls.length
    · refine Sat.gd (decide_eq_true (by omega)) (Sat.gd (inR_t (by omega) (by omega)) ?_)
      refine Sat.ite (fun hu => Sat.gd (inR_t (by omega) (by omega)) (Sat.gd (decide_eq_true (by simp only [List.length_singleton]; omega)) (.some ⟨hlt, ?_⟩))) (fun hu => .some ⟨hlt, ?_⟩)
      · have hu : up.getD k false = true := hu
        rw [trK_succ, if_pos hu]; rfl
      · have hu : up.getD k false = false := hu
        rw [trK_succ, hu]; rfl
    · obtain rfl : k = ls.length := by omega
      refine Sat.no (decide_eq_false (by omega)) (.some rfl)
  · rintro (r | r) hr
    case inr => exact hr.elim
    obtain rfl := hr
    exact .some rfl
theorem DbV.len {db : List Ls} (h : DbV db) : db.length ≤ 8 := by
  have key : ∀ i, i < db.length → (i : Int) ≤ (lsa db i).o := fun i => by
    induction i with
    | zero => intro hi; exact (h 0 hi).1.1
    | succ i ih =>
      intro hi
      have h1 := ih (by omega)
      have h2 := (h (i + 1) hi).2 (by omega)
      rw [Nat.add_sub_cancel] at h2
      omega
  rcases Nat.lt_or_ge 8 db.length with h8 | h8
  · have h1 := key 8 h8
    have h2 := (h 8 h8).1.2.1
    omega
  · exact h8
theorem LsV.len {l : Ls} (h : LsV l) : l.e.length ≤ 8 := by
  have key : ∀ i, i < l.e.length → (i : Int) ≤ (en l.e i).n := fun i => by
    induction i with
    | zero => intro hi; exact (h.2.2.2.2 0 hi).1
    | succ i ih =>
      intro hi
      have h1 := ih (by omega)
      have h2 := (h.2.2.2.2 (i + 1) hi).2.2.2.2.2 (by omega)
      rw [Nat.add_sub_cancel] at h2
      omega
  rcases Nat.lt_or_ge 8 l.e.length with h8 | h8
  · have h1 := key 8 h8
    have h2 := (h.2.2.2.2 8 h8).2.1
    omega
  · exact h8
theorem DbV.sm {db : List Ls} (h : DbV db) : SmD db := ⟨by have := h.len; unfold Sm; omega, fun l hl => by
  have := ((dbV_iff.1 h).1 l hl).len
  unfold Sm; omega⟩
theorem LsV.sm {l : Ls} (h : LsV l) : Sm l.e := by have := h.len; unfold Sm; omega
theorem DbV.so {db : List Ls} (h : DbV db) : SrtP db := srt_iff.1 h.srt
theorem WV.nn {w : Wd} {A : Int → Prop} (h : WV w A) : 1 ≤ w.n ∧ w.n ≤ 8 := ⟨h.g.1, h.g.2.1⟩
theorem WV.lsl {w : Wd} {A : Int → Prop} (h : WV w A) : w.ls.length ≤ 14 := h.g.2.2.1
end Go.Proofs.Ythcckenjkicmgaa
end
section
namespace Go.Proofs.Ythcckenjkicmgaa
open Go.RowKit
set_option linter.unusedSimpArgs false
set_option linter.unusedVariables false
set_option maxRecDepth 100000

theorem sov {α β : Type} {o : Option α} {f : α → Option β} {r : α} {Q : β → Prop} (h : o = some r) (k : Sat (f r) Q) : Sat (o.bind f) Q := by subst h; exact k
theorem lsa_i {n : Int} {ls : List Lk} (g : GV n ls) (o s : Int) : sh_impl_Graph_lsaOf (n, ls, o, s, ()) = some (o, s, endsOf ls n.toNat o, ()) := by
  have h1 := g.1
  obtain ⟨N, rfl⟩ := Int.eq_ofNat_of_zero_le (show 0 ≤ n by omega)
  exact e_lsaOf g o s
theorem lsa_s {n : Int} {ls : List Lk} (g : GV n ls) (o s : Int) : sh_spec_l11Of (n, ls, o, s, ()) = some (o, s, endsOf ls n.toNat o, ()) := by
  have h1 := g.1
  obtain ⟨N, rfl⟩ := Int.eq_ofNat_of_zero_le (show 0 ≤ n by omega)
  exact e_l11Of g o s
section
variable {w : Wd} {A : Int → Prop}
structure SmW (w : Wd) : Prop where
  ls : w.ls.length ≤ 2000000
  up : w.up.length ≤ 2000000
  sq : w.sq.length ≤ 2000000
  db : w.db.length ≤ 2000000
  net : w.net.length ≤ 2000000
  dbs : ∀ i, i < w.db.length → SmD (dbx w.db i)
  pks : ∀ i, i < w.net.length → Sm (pkx w.net i).p.e
theorem WV.sm (h : WV w A) : SmW w := by
  have h1 := h.lsl
  have h2 := h.up
  have h3 := h.sq
  have h4 := h.db
  have h5 := h.net
  have h6 := h.nn
  exact ⟨by omega, by omega, by omega, by omega, by omega, fun i hi => (h.ok i hi).sm, fun i hi => (h.poss _ (.inr ⟨_, pkx_mem hi, rfl⟩)).1.sm⟩
theorem take_dbx {db : List (List Ls)} {k : Nat} (h : k < db.length) : db.take k ++ [dbx db k] = db.take (k + 1) := by
  rw [List.take_add_one, List.getElem?_eq_getElem h]; simp [dbx, List.getD, h]
theorem take_pkx {net : List Pk} {k : Nat} (h : k < net.length) : net.take k ++ [⟨(pkx net k).t, ⟨(pkx net k).p.o, (pkx net k).p.s, (pkx net k).p.e⟩⟩] = net.take (k + 1) := by
  rw [List.take_add_one, List.getElem?_eq_getElem h]
  have : pkx net k = net[k] := by simp [pkx, List.getD, h]
  rw [this]; rfl
end
end Go.Proofs.Ythcckenjkicmgaa
end
section
namespace Go.Proofs.Ythcckenjkicmgaa
open Go.RowKit
set_option linter.unusedSimpArgs false
set_option linter.unusedVariables false
set_option maxRecDepth 100000

section
variable {w : Wd} {A : Int → Prop}
theorem bnd_t {lo hi : Int} {n : Nat} (h1 : 0 ≤ lo) (h2 : lo ≤ hi) (h3 : hi ≤ n) : bnd2 lo hi n = true := by unfold bnd2; simp; omega
end
end Go.Proofs.Ythcckenjkicmgaa
end
section
namespace Go.Proofs.Ythcckenjkicmgaa
open Go.RowKit
set_option linter.unusedSimpArgs false
set_option linter.unusedVariables false
set_option maxRecDepth 100000

noncomputable def poss (w : Wd) (l : Ls) : Bool := @decide (Poss w Nob l) (Classical.propDecidable _)
theorem poss_t {w : Wd} {l : Ls} : poss w l = true ↔ Poss w Nob l := by unfold poss; simp
theorem poss_f {w : Wd} {l : Ls} : poss w l = false ↔ ¬ Poss w Nob l := by unfold poss; simp
theorem lof_lt (ls : List Lk) (a b : Int) : lof ls a b < ls.length := by
  rcases lof_cases ls a b with ⟨h, _⟩ | ⟨k, h, hk, _⟩ <;> omega
section
variable {w : Wd}
set_option maxHeartbeats 2000000 in
theorem e_possible (g : GV w.n w.ls) (hu : w.up.length = w.ls.length) (hsq : (w.sq.length : Int) = w.n) (l : Ls) (hl : Sm l.e) : sh_impl_World_possible (w.n, w.ls, w.up, w.sq, w.db, w.net, l.o, l.s, l.e, ()) = some (poss w l, ()) := by
  have h14 := g.2.2.1
  have fl : Fits l.e := by unfold Fits; unfold Sm at hl; omega
  have fls : Fits w.ls := by unfold Fits; omega
  unfold Sm at hl
  have no : ¬ Poss w Nob l → poss w l = false := fun h => poss_f.2 h
  cases l with | mk o s es =>
  cases w with | mk n ls up sq db net =>
  dsimp only at *
  unfold sh_impl_World_possible
  dsimp only
  rw [e_LsaValid o s es fl]
  refine Sat.out (Sat.ite (fun hc => .some ?_) (fun hc => ?_))
  · rw [no fun h => of_decide_eq_false (show lsv o s es = false by simpa using hc) h.1]
  have hV : LsV ⟨o, s, es⟩ := of_decide_eq_true (show lsv o s es = true by simpa using hc)
  have h0 : 0 ≤ o := hV.1
  refine Sat.ite (fun hc => .some ?_) (fun hc => ?_)
  · have hc := of_decide_eq_true hc
    rw [no fun h => by have : o < n := h.2.1; omega]
  have hn := of_decide_eq_false hc
  simp only [at_int]
  refine Sat.gd (inR_t (by omega) (by omega)) (Sat.ite (fun hc => .some ?_) (fun hc => ?_))
  · have hc : iz sq o.toNat < s := of_decide_eq_true hc
    rw [no fun h => by have : s ≤ iz sq o.toNat := h.2.2.1; omega]
  have hs : ¬ iz sq o.toNat < s := of_decide_eq_false hc
  try simp only [nI_eq]
  refine Sat.bnd (R := fun r => match r with | .inl x => x = (n, ls, up, sq, db, net, o, s, es, ()) ∧ ∀ e ∈ es, lc ls o e.n = some e.c | .inr y => y = (false, ()) ∧ ¬ ∀ e ∈ es, lc ls o e.n = some e.c) ?_ ?_
  · refine Sat.count es.length (fun k t => t = (es, (es.length : Int), (k : Int), n, ls, up, sq, db, net, o, s, es, ()) ∧ ∀ i, i < k → lc ls o (en es i).n = some (en es i).c) ?_ (Nat.zero_le _) (fuel_lt (by omega)) ⟨rfl, fun i hi => by omega⟩
    rintro k t hk ⟨rfl, hok⟩
    by_cases hlt : k < es.length
    · have hm : en es k ∈ es := by rw [en_get hlt]; exact List.getElem_mem hlt
      simp (disch := omega) only [bo_impl_World_possible_4, at_en, at_lk, toN, w64, nI_eq, e_linkOf _ _ _ _ fls, Option.bind_some]
      refine Sat.gd (decide_eq_true (by omega)) (Sat.gd (inR_t (by omega) (by omega)) (Sat.ite (fun hc => .some ⟨rfl, ?_⟩) (fun hc => ?_)))
      · have hc := of_decide_eq_true hc
        intro h
        have := (lc_at (h _ hm)).1
        omega
      · have hc := of_decide_eq_false hc
        have hlo := lof_lt ls o (en es k).n
        repeat refine Sat.gd (inR_t (by omega) (by omega)) ?_
        refine Sat.ite (fun hc2 => .some ⟨rfl, ?_⟩) (fun hc2 => .some ⟨hlt, rfl, fun i hi => ?_⟩)
        · have hc2 : ¬ (lk ls (lof ls o (en es k).n).toNat).c = (en es k).c := by simpa using hc2
          intro h
          have := (lc_at (h _ hm)).2.2
          rw [this] at hc2
          exact hc2 rfl
        · have hc2 : (lk ls (lof ls o (en es k).n).toNat).c = (en es k).c := by simpa using hc2
          by_cases e : i < k
          · exact hok i e
          · obtain rfl : i = k := by omega
            unfold lc
            rw [if_pos (by omega), hc2]
    · obtain rfl : k = es.length := by omega
      unfold bo_impl_World_possible_4
      simp only [nI_eq]
      refine Sat.no (decide_eq_false (by omega)) (.some ⟨rfl, fun e he => ?_⟩)
      obtain ⟨i, hi, rfl⟩ := List.getElem_of_mem he
      rw [← en_get hi]
      exact hok i hi
  rintro (r | r) hr
  case inr =>
    obtain ⟨rfl, hr⟩ := hr
    exact .some (by rw [no fun h => hr h.2.2.2.1])
  obtain ⟨rfl, hr⟩ := hr
  simp only [at_int]
  refine Sat.gd (inR_t (by omega) (by omega)) (Sat.ite (fun hc => .some ?_) (fun hc => ?_))
  · have hc : s < iz sq o.toNat := of_decide_eq_true hc
    rw [poss_t.2 ⟨hV, by show o < n; omega, by show s ≤ iz sq o.toNat; omega, hr, .inl hc⟩]
  have hlt : ¬ s < iz sq o.toNat := of_decide_eq_false hc
  refine sov (e_truth ⟨n, ls, up, sq, db, net⟩ hu (by show ls.length ≤ 1000; omega)) ?_
  dsimp only
  refine sov (lsa_i (tru_gv g up) o s) ?_
  have hel := endsOf_len (N := n.toNat) (ls := tru ls up) o
  have hn8 := g.2.1
  refine sov (e_sameLsa ⟨o, s, es⟩ ⟨o, s, endsOf (tru ls up) n.toNat o⟩ fl (by unfold Fits; dsimp only; omega)) (.some ?_)
  by_cases he : es = endsOf (tru ls up) n.toNat o
  · rw [poss_t.2 ⟨hV, by show o < n; omega, by show s ≤ iz sq o.toNat; omega, hr, .inr (.inl he)⟩]
    dsimp only
    rw [decide_eq_true (by rw [← he])]
  · rw [no fun h => by
      rcases h.2.2.2.2 with h | h | h
      · exact hlt h
      · exact he h
      · exact h]
    dsimp only
    rw [decide_eq_false (by intro e; injection e with _ _ e; exact he e)]
set_option maxHeartbeats 2000000 in
theorem e_l51Lsa (g : GV w.n w.ls) (hu : w.up.length = w.ls.length) (hsq : (w.sq.length : Int) = w.n) (l : Ls) (hl : Sm l.e) : sh_spec_l51Lsa (w.n, w.ls, w.up, w.sq, w.db, w.net, l.o, l.s, l.e, ()) = some (poss w l, ()) := by
  have h14 := g.2.2.1
  have fl : Fits l.e := by unfold Fits; unfold Sm at hl; omega
  have fls : Fits w.ls := by unfold Fits; omega
  unfold Sm at hl
  have no : ¬ Poss w Nob l → poss w l = false := fun h => poss_f.2 h
  cases l with | mk o s es =>
  cases w with | mk n ls up sq db net =>
  dsimp only at *
  unfold sh_spec_l51Lsa
  dsimp only
  rw [e_sLsaValid o s es fl]
  refine Sat.out (Sat.ite (fun hc => .some ?_) (fun hc => ?_))
  · rw [no fun h => of_decide_eq_false (show lsv o s es = false by simpa using hc) h.1]
  have hV : LsV ⟨o, s, es⟩ := of_decide_eq_true (show lsv o s es = true by simpa using hc)
  have h0 : 0 ≤ o := hV.1
  refine Sat.ite (fun hc => .some ?_) (fun hc => ?_)
  · have hc := of_decide_eq_true hc
    rw [no fun h => by have : o < n := h.2.1; omega]
  have hn := of_decide_eq_false hc
  simp only [at_int]
  refine Sat.gd (inR_t (by omega) (by omega)) (Sat.ite (fun hc => .some ?_) (fun hc => ?_))
  · have hc : iz sq o.toNat < s := of_decide_eq_true hc
    rw [no fun h => by have : s ≤ iz sq o.toNat := h.2.2.1; omega]
  have hs : ¬ iz sq o.toNat < s := of_decide_eq_false hc
  try simp only [nI_eq]
  refine Sat.bnd (R := fun r => match r with | .inl x => x = (n, ls, up, sq, db, net, o, s, es, ()) ∧ ∀ e ∈ es, lc ls o e.n = some e.c | .inr y => y = (false, ()) ∧ ¬ ∀ e ∈ es, lc ls o e.n = some e.c) ?_ ?_
  · refine Sat.count es.length (fun k t => t = ((k : Int), n, ls, up, sq, db, net, o, s, es, ()) ∧ ∀ i, i < k → lc ls o (en es i).n = some (en es i).c) ?_ (Nat.zero_le _) (fuel_lt (by omega)) ⟨rfl, fun i hi => by omega⟩
    rintro k t hk ⟨rfl, hok⟩
    by_cases hlt : k < es.length
    · have hm : en es k ∈ es := by rw [en_get hlt]; exact List.getElem_mem hlt
      simp (disch := omega) only [bo_spec_l51Lsa_4, at_en, at_lk, toN, w64, nI_eq, e_l1Link _ _ _ _ fls, Option.bind_some]
      refine Sat.gd (decide_eq_true (by omega)) (Sat.gd (inR_t (by omega) (by omega)) (Sat.ite (fun hc => .some ⟨rfl, ?_⟩) (fun hc => ?_)))
      · have hc := of_decide_eq_true hc
        intro h
        have := (lc_at (h _ hm)).1
        omega
      · have hc := of_decide_eq_false hc
        have hlo := lof_lt ls o (en es k).n
        repeat refine Sat.gd (inR_t (by omega) (by omega)) ?_
        refine Sat.ite (fun hc2 => .some ⟨rfl, ?_⟩) (fun hc2 => .some ⟨hlt, rfl, fun i hi => ?_⟩)
        · have hc2 : ¬ (lk ls (lof ls o (en es k).n).toNat).c = (en es k).c := by simpa using hc2
          intro h
          have := (lc_at (h _ hm)).2.2
          rw [this] at hc2
          exact hc2 rfl
        · have hc2 : (lk ls (lof ls o (en es k).n).toNat).c = (en es k).c := by simpa using hc2
          by_cases e : i < k
          · exact hok i e
          · obtain rfl : i = k := by omega
            unfold lc
            rw [if_pos (by omega), hc2]
    · obtain rfl : k = es.length := by omega
      unfold bo_spec_l51Lsa_4
      simp only [nI_eq]
      refine Sat.no (decide_eq_false (by omega)) (.some ⟨rfl, fun e he => ?_⟩)
      obtain ⟨i, hi, rfl⟩ := List.getElem_of_mem he
      rw [← en_get hi]
      exact hok i hi
  rintro (r | r) hr
  case inr =>
    obtain ⟨rfl, hr⟩ := hr
    exact .some (by rw [no fun h => hr h.2.2.2.1])
  obtain ⟨rfl, hr⟩ := hr
  simp only [at_int]
  refine Sat.gd (inR_t (by omega) (by omega)) (Sat.ite (fun hc => .some ?_) (fun hc => ?_))
  · have hc : s < iz sq o.toNat := of_decide_eq_true hc
    rw [poss_t.2 ⟨hV, by show o < n; omega, by show s ≤ iz sq o.toNat; omega, hr, .inl hc⟩]
  have hlt : ¬ s < iz sq o.toNat := of_decide_eq_false hc
  refine sov (e_l51Truth ⟨n, ls, up, sq, db, net⟩ hu (by show ls.length ≤ 1000; omega)) ?_
  dsimp only
  refine sov (lsa_s (tru_gv g up) o s) ?_
  have hel := endsOf_len (N := n.toNat) (ls := tru ls up) o
  have hn8 := g.2.1
  refine sov (e_l51Same ⟨o, s, es⟩ ⟨o, s, endsOf (tru ls up) n.toNat o⟩ fl (by unfold Fits; dsimp only; omega)) (.some ?_)
  by_cases he : es = endsOf (tru ls up) n.toNat o
  · rw [poss_t.2 ⟨hV, by show o < n; omega, by show s ≤ iz sq o.toNat; omega, hr, .inr (.inl he)⟩]
    dsimp only
    rw [decide_eq_true (by rw [← he])]
  · rw [no fun h => by
      rcases h.2.2.2.2 with h | h | h
      · exact hlt h
      · exact he h
      · exact h]
    dsimp only
    rw [decide_eq_false (by intro e; injection e with _ _ e; exact he e)]
end
end Go.Proofs.Ythcckenjkicmgaa
end
