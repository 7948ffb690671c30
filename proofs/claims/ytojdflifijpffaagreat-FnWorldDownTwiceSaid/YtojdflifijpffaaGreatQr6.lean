/- Part 6 of the proof: KV SE KE SG KG SF KF Pa Pb Pq Pr Ps Py. -/
import Derived.Test.YtojdflifijpffaaGreatQr5
set_option linter.unusedSimpArgs false
set_option linter.unusedVariables false
section
namespace Go.Proofs.YtojdflifijpffaaGreat
open Go.RowKit
set_option maxRecDepth 100000
def L_spec_l51Flood_3 : Loop := ⟨⟨[3, 4, 6, 8, 9, 10], ⟨[.c (.one (.b (.int .i64))), .c (.one (.ptr 5 0)), .c (.one (.ptr 6 0)), .c (.one (.ptr 7 0)), .c (.one (.own 8)), .c (.one (.b (.int .i64)))], [.row 45 .lk, .row 4 .bool, .row 3 .int, .row 47 .db, .dead, .box 31 [(.b (.int .i64)), (.own 0), (.own 1), (.own 2), (.own 3), (.own 9)], .box 53 [(.b (.int .i64)), (.b (.int .i64)), (.b (.sl true .en))], .box 31 [(.b (.int .i64)), (.b (.sl true .lk)), (.b (.sl true .bool)), (.b (.sl true .int)), (.b (.sl true .db)), (.b (.sl true .pk))], .row 3 .int, .row 55 .pk]⟩, [.int, .int, .ls .lk, .ls .bool, .ls .int, .ls .db, .int, .int, .int, .ls .en, .int, .ls .lk, .ls .bool, .ls .int, .ls .db, .ls .pk, .ls .int, .ls .pk]⟩, 0, ⟨[4, 8], ⟨[.c (.one (.ptr 5 0)), .c (.one (.ptr 6 0))], [.row 45 .lk, .row 4 .bool, .row 3 .int, .row 47 .db, .dead, .box 31 [(.b (.int .i64)), (.own 0), (.own 1), (.own 2), (.own 3), (.own 7)], .box 31 [(.b (.int .i64)), (.b (.sl true .lk)), (.b (.sl true .bool)), (.b (.sl true .int)), (.b (.sl true .db)), (.b (.sl true .pk))], .row 55 .pk]⟩, [.ls .lk, .ls .bool, .ls .int, .ls .db, .int, .int, .ls .lk, .ls .bool, .ls .int, .ls .db, .ls .pk, .ls .pk]⟩, ⟨[999999], ⟨[.c (.one (.own 0))], []⟩, []⟩, lp bo_spec_l51Flood_3 fuel⟩
def e_spec_l51Flood : Entry := ⟨⟨[.c (.agg [(.b (.int .i64)), (.own 0), (.own 1), (.own 2), (.own 3), (.own 4)]), .c (.one (.b (.int .i64))), .c (.agg [(.b (.int .i64)), (.b (.int .i64)), (.b (.sl true .en))]), .c (.one (.b (.int .i64)))], [.row 45 .lk, .row 4 .bool, .row 3 .int, .row 47 .db, .row 55 .pk]⟩, [.int, .int, .int, .int, .ls .en, .int, .ls .lk, .ls .bool, .ls .int, .ls .db, .ls .pk], ⟨[.c (.agg [(.b (.int .i64)), (.own 0), (.own 1), (.own 2), (.own 3), (.own 5)])], [.row 45 .lk, .row 4 .bool, .row 3 .int, .row 47 .db, .dead, .row 55 .pk]⟩, [.int, .ls .lk, .ls .bool, .ls .int, .ls .db, .ls .pk], sh_spec_l51Flood⟩
def g_spec_l51Flood : Env := mkEnv tab [(129, [], e_spec_GraphNeighbours), (101, [], e_spec_l11One), (83, [], e_spec_l51Truth)] 48 5 [(6, 10, [(1, true), (2, true), (4, true), (5, true), (6, true), (7, true), (8, true), (0, false), (3, false), (9, false)], [])] [(3, L_spec_l51Flood_3)]
theorem t_spec_l51Flood : CtrOk Tryz.prog g_spec_l51Flood.Γ := ctr_ok (l := [(129, [], e_spec_GraphNeighbours), (101, [], e_spec_l11One), (83, [], e_spec_l51Truth)]) ⟨⟨p_spec_GraphNeighbours, Tryz.call129⟩, ⟨⟨p_spec_l11One, Tryz.call101⟩, ⟨⟨p_spec_l51Truth, Tryz.call83⟩, trivial⟩⟩⟩
theorem k_spec_l51Flood_3 : LoopOk Tryz.prog 5 48 (nthC (Tryz.f123.body.getD .skip) 0) L_spec_l51Flood_3 := loop_ok (G := g_spec_l51Flood) (F := L_spec_l51Flood_3.F) (eid := L_spec_l51Flood_3.eid) (FX := L_spec_l51Flood_3.FX) (FR := L_spec_l51Flood_3.FR) (B := bo_spec_l51Flood_3) (n := fuel) bad_ok tabOk t_spec_l51Flood mixed (code_ok' (G := g_spec_l51Flood) (n := 0) (by kernel_rfl) (by kernel_rfl) trivial (by kernel_rfl)) (fun s => by kernel_rfl)
theorem p_spec_l51Flood : GC Tryz.prog 123 e_spec_l51Flood := gc_ofm (G := g_spec_l51Flood) (c := Tryz.f123.body.getD .skip) bad_ok tabOk t_spec_l51Flood mixed Tryz.func123 (by kernel_rfl) Tryz.ntmps123 (code_ok' (G := g_spec_l51Flood) (n := 1) (by kernel_rfl) (by kernel_rfl) ⟨trivial, loop_at (id := 3) (L0 := L_spec_l51Flood_3) (by kernel_rfl) (by kernel_rfl) k_spec_l51Flood_3⟩ (by kernel_rfl)) [4] (fun s => by kernel_rfl)
def e_spec_l51Hear : Entry := ⟨⟨[.c (.agg [(.b (.int .i64)), (.b (.sl true .lk)), (.b (.sl true .bool)), (.b (.sl true .int)), (.b (.sl true .db)), (.b (.sl true .pk))]), .c (.agg [(.b (.int .i64)), (.b (.int .i64)), (.b (.int .i64)), (.b (.sl true .en))])], []⟩, [.int, .ls .lk, .ls .bool, .ls .int, .ls .db, .ls .pk, .int, .int, .int, .ls .en], ⟨[.c (.agg [(.b (.int .i64)), (.b (.sl true .lk)), (.b (.sl true .bool)), (.b (.sl true .int)), (.b (.sl true .db)), (.b (.sl true .pk))])], []⟩, [.int, .ls .lk, .ls .bool, .ls .int, .ls .db, .ls .pk], sh_spec_l51Hear⟩
def g_spec_l51Hear : Env := mkEnv tab [(58, [], e_spec_l51Copy), (117, [], e_spec_l11Put), (123, [], e_spec_l51Flood)] 39 0 [(1, 13, [(0, true), (1, true), (2, true), (3, true), (4, true), (5, true), (6, true), (7, true), (8, false), (9, true), (10, true), (11, true), (12, true)], [])] []
theorem t_spec_l51Hear : CtrOk Tryz.prog g_spec_l51Hear.Γ := ctr_ok (l := [(58, [], e_spec_l51Copy), (117, [], e_spec_l11Put), (123, [], e_spec_l51Flood)]) ⟨⟨p_spec_l51Copy, Tryz.call58⟩, ⟨⟨p_spec_l11Put, Tryz.call117⟩, ⟨⟨p_spec_l51Flood, Tryz.call123⟩, trivial⟩⟩⟩
theorem p_spec_l51Hear : GC Tryz.prog 115 e_spec_l51Hear := gc_of (G := g_spec_l51Hear) (c := Tryz.f115.body.getD .skip) bad_ok tabOk t_spec_l51Hear mixed Tryz.func115 (by kernel_rfl) Tryz.ntmps115 (code_ok' (G := g_spec_l51Hear) (n := 0) (by kernel_rfl) (by kernel_rfl) trivial (by kernel_rfl)) (fun s => by kernel_rfl)
def e_spec_l51Sync : Entry := ⟨⟨[.c (.agg [(.b (.int .i64)), (.b (.sl true .lk)), (.b (.sl true .bool)), (.b (.sl true .int)), (.b (.sl true .db)), (.b (.sl true .pk))]), .c (.one (.b (.int .i64)))], []⟩, [.int, .ls .lk, .ls .bool, .ls .int, .ls .db, .ls .pk, .int], ⟨[.c (.agg [(.b (.int .i64)), (.b (.sl true .lk)), (.b (.sl true .bool)), (.b (.sl true .int)), (.b (.sl true .db)), (.b (.sl true .pk))])], []⟩, [.int, .ls .lk, .ls .bool, .ls .int, .ls .db, .ls .pk], sh_spec_l51Sync⟩
def g_spec_l51Sync : Env := mkEnv tab [(100, [], e_spec_l11Copy), (58, [], e_spec_l51Copy), (105, [], e_spec_l11Merge)] 49 0 [(5, 12, [(0, true), (1, true), (2, true), (3, true), (4, true), (5, true), (6, true), (7, true), (8, true), (9, true), (10, true), (11, true)], []), (7, 6, [(0, true), (1, true), (2, true), (3, true), (4, true), (5, false)], [])] []
theorem t_spec_l51Sync : CtrOk Tryz.prog g_spec_l51Sync.Γ := ctr_ok (l := [(100, [], e_spec_l11Copy), (58, [], e_spec_l51Copy), (105, [], e_spec_l11Merge)]) ⟨⟨p_spec_l11Copy, Tryz.call100⟩, ⟨⟨p_spec_l51Copy, Tryz.call58⟩, ⟨⟨p_spec_l11Merge, Tryz.call105⟩, trivial⟩⟩⟩
theorem p_spec_l51Sync : GC Tryz.prog 63 e_spec_l51Sync := gc_of (G := g_spec_l51Sync) (c := Tryz.f63.body.getD .skip) bad_ok tabOk t_spec_l51Sync mixed Tryz.func63 (by kernel_rfl) Tryz.ntmps63 (code_ok' (G := g_spec_l51Sync) (n := 0) (by kernel_rfl) (by kernel_rfl) trivial (by kernel_rfl)) (fun s => by kernel_rfl)
def L_spec_l51Announce_2 : Loop := ⟨⟨[1, 2, 4], ⟨[.c (.one (.b (.int .i64))), .c (.one (.ptr 5 0)), .c (.one (.ptr 6 0))], [.row 45 .lk, .row 4 .bool, .row 3 .int, .row 47 .db, .dead, .box 31 [(.b (.int .i64)), (.own 0), (.own 1), (.own 2), (.own 3), (.own 7)], .box 31 [(.b (.int .i64)), (.b (.sl true .lk)), (.b (.sl true .bool)), (.b (.sl true .int)), (.b (.sl true .db)), (.b (.sl true .pk))], .row 55 .pk]⟩, [.int, .ls .lk, .ls .bool, .ls .int, .ls .db, .int, .int, .ls .lk, .ls .bool, .ls .int, .ls .db, .ls .pk, .ls .pk]⟩, 0, ⟨[1, 2, 4, 5], ⟨[.c (.one (.b (.int .i64))), .c (.one (.ptr 5 0)), .c (.one (.ptr 6 0)), .c (.one (.ptr 7 0))], [.row 45 .lk, .row 4 .bool, .row 3 .int, .row 47 .db, .dead, .box 31 [(.b (.int .i64)), (.own 0), (.own 1), (.own 2), (.own 3), (.own 8)], .box 31 [(.b (.int .i64)), (.b (.sl true .lk)), (.b (.sl true .bool)), (.b (.sl true .int)), (.b (.sl true .db)), (.b (.sl true .pk))], .box 53 [(.b (.int .i64)), (.b (.int .i64)), (.own 9)], .row 55 .pk, .row 92 .en]⟩, [.int, .ls .lk, .ls .bool, .ls .int, .ls .db, .int, .int, .ls .lk, .ls .bool, .ls .int, .ls .db, .ls .pk, .int, .int, .ls .pk, .ls .en]⟩, ⟨[999999], ⟨[.c (.one (.own 0))], []⟩, []⟩, bo_spec_l51Announce_2⟩
def e_spec_l51Announce : Entry := ⟨⟨[.c (.agg [(.b (.int .i64)), (.own 0), (.own 1), (.own 2), (.own 3), (.own 4)]), .c (.one (.b (.int .i64)))], [.row 45 .lk, .row 4 .bool, .row 3 .int, .row 47 .db, .row 55 .pk]⟩, [.int, .int, .ls .lk, .ls .bool, .ls .int, .ls .db, .ls .pk], ⟨[.c (.agg [(.b (.int .i64)), (.own 0), (.own 1), (.own 2), (.own 3), (.own 5)])], [.row 45 .lk, .row 4 .bool, .row 3 .int, .row 47 .db, .dead, .row 55 .pk]⟩, [.int, .ls .lk, .ls .bool, .ls .int, .ls .db, .ls .pk], sh_spec_l51Announce⟩
def g_spec_l51Announce : Env := mkEnv tab [(82, [], e_spec_l11Of), (83, [], e_spec_l51Truth), (117, [], e_spec_l11Put), (123, [], e_spec_l51Flood)] 46 5 [(1, 9, [(0, true), (1, true), (2, true), (3, true), (4, true), (5, true), (6, true), (7, true), (8, true)], []), (3, 11, [(0, true), (1, true), (2, true), (3, true), (4, true), (5, true), (6, false), (7, true), (8, true), (9, true), (10, true)], [])] [(2, L_spec_l51Announce_2)]
theorem t_spec_l51Announce : CtrOk Tryz.prog g_spec_l51Announce.Γ := ctr_ok (l := [(82, [], e_spec_l11Of), (83, [], e_spec_l51Truth), (117, [], e_spec_l11Put), (123, [], e_spec_l51Flood)]) ⟨⟨p_spec_l11Of, Tryz.call82⟩, ⟨⟨p_spec_l51Truth, Tryz.call83⟩, ⟨⟨p_spec_l11Put, Tryz.call117⟩, ⟨⟨p_spec_l51Flood, Tryz.call123⟩, trivial⟩⟩⟩⟩
theorem k_spec_l51Announce_2 : RegOk Tryz.prog 5 46 (nthR g_spec_l51Announce.plan (Tryz.f116.body.getD .skip) 0).1 (nthR g_spec_l51Announce.plan (Tryz.f116.body.getD .skip) 0).2 L_spec_l51Announce_2 := reg_ok (G := g_spec_l51Announce) (n := 10) (ks := []) (t := (.val 0 (.val 2 (.val 3 (.val 4 (.val 5 (.val 6 (.val 7 (.two 1 (.two 8 (.one 9 .done) 9 (.one 8 .done)) 9 (.one 1 (.one 8 .done))))))))))) (F := L_spec_l51Announce_2.F) (eid := 0) (FX := L_spec_l51Announce_2.FX) (FR := L_spec_l51Announce_2.FR) (sh := bo_spec_l51Announce_2) bad_ok tabOk t_spec_l51Announce mixed (by kernel_rfl) (by kernel_rfl) ⟨fun s => by kernel_rfl, fun s => by kernel_rfl, fun s => by kernel_rfl, trivial⟩
theorem p_spec_l51Announce : GC Tryz.prog 116 e_spec_l51Announce := gc_ofm (G := g_spec_l51Announce) (c := Tryz.f116.body.getD .skip) bad_ok tabOk t_spec_l51Announce mixed Tryz.func116 (by kernel_rfl) Tryz.ntmps116 (code_ok2 (G := g_spec_l51Announce) (n := 0) (m := 1) (by kernel_rfl) (by kernel_rfl) trivial (by kernel_rfl) ⟨trivial, reg_at (L0 := L_spec_l51Announce_2) (by kernel_rfl) k_spec_l51Announce_2⟩) [4] (fun s => by kernel_rfl)
def L_impl_World_flood_5 : Loop := ⟨⟨[0, 3, 6, 9, 15, 16, 17], ⟨[.c (.one (.ptr 0 0)), .c (.one (.b (.int .i64))), .c (.one (.ptr 6 0)), .c (.one (.b (.int .i64))), .c (.one (.own 7)), .c (.one (.b (.int .i64))), .c (.one (.b (.int .i64)))], [.box 31 [(.b (.int .i64)), (.own 1), (.own 2), (.own 3), (.own 4), (.own 8)], .row 45 .lk, .row 4 .bool, .row 3 .int, .row 47 .db, .dead, .box 53 [(.b (.int .i64)), (.b (.int .i64)), (.b (.sl true .en))], .row 3 .int, .row 55 .pk]⟩, [.int, .int, .int, .int, .int, .ls .lk, .ls .bool, .ls .int, .ls .db, .int, .int, .ls .en, .ls .int, .ls .pk]⟩, 0, ⟨[0, 3, 6, 15, 16, 17], ⟨[.c (.one (.ptr 0 0)), .c (.one (.b (.int .i64))), .c (.one (.ptr 6 0)), .c (.one (.own 7)), .c (.one (.b (.int .i64))), .c (.one (.b (.int .i64)))], [.box 31 [(.b (.int .i64)), (.own 1), (.own 2), (.own 3), (.own 4), (.own 8)], .row 45 .lk, .row 4 .bool, .row 3 .int, .row 47 .db, .dead, .box 53 [(.b (.int .i64)), (.b (.int .i64)), (.b (.sl true .en))], .row 3 .int, .row 55 .pk]⟩, [.int, .int, .int, .int, .ls .lk, .ls .bool, .ls .int, .ls .db, .int, .int, .ls .en, .ls .int, .ls .pk]⟩, ⟨[999999], ⟨[.c (.one (.own 0))], []⟩, []⟩, bo_impl_World_flood_5⟩
def L_impl_World_flood_2 : Loop := ⟨⟨[0, 3, 6, 15, 16, 17], ⟨[.c (.one (.ptr 0 0)), .c (.one (.b (.int .i64))), .c (.one (.ptr 6 0)), .c (.one (.own 7)), .c (.one (.b (.int .i64))), .c (.one (.b (.int .i64)))], [.box 31 [(.b (.int .i64)), (.own 1), (.own 2), (.own 3), (.own 4), (.own 8)], .row 45 .lk, .row 4 .bool, .row 3 .int, .row 47 .db, .dead, .box 53 [(.b (.int .i64)), (.b (.int .i64)), (.b (.sl true .en))], .row 3 .int, .row 55 .pk]⟩, [.int, .int, .int, .int, .ls .lk, .ls .bool, .ls .int, .ls .db, .int, .int, .ls .en, .ls .int, .ls .pk]⟩, 0, ⟨[], ⟨[], [.box 31 [(.b (.int .i64)), (.own 1), (.own 2), (.own 3), (.own 4), (.own 6)], .row 45 .lk, .row 4 .bool, .row 3 .int, .row 47 .db, .dead, .row 55 .pk]⟩, [.int, .ls .lk, .ls .bool, .ls .int, .ls .db, .ls .pk]⟩, ⟨[999999], ⟨[.c (.one (.own 0))], []⟩, []⟩, lp bo_impl_World_flood_2 fuel⟩
def e_impl_World_flood : Entry := ⟨⟨[.c (.one (.ptr 0 0)), .c (.one (.b (.int .i64))), .c (.agg [(.b (.int .i64)), (.b (.int .i64)), (.b (.sl true .en))]), .c (.one (.b (.int .i64)))], [.box 31 [(.b (.int .i64)), (.own 1), (.own 2), (.own 3), (.own 4), (.own 5)], .row 45 .lk, .row 4 .bool, .row 3 .int, .row 47 .db, .row 55 .pk]⟩, [.int, .int, .int, .ls .en, .int, .int, .ls .lk, .ls .bool, .ls .int, .ls .db, .ls .pk], ⟨[.tup []], [.box 31 [(.b (.int .i64)), (.own 1), (.own 2), (.own 3), (.own 4), (.own 6)], .row 45 .lk, .row 4 .bool, .row 3 .int, .row 47 .db, .dead, .row 55 .pk]⟩, [.int, .ls .lk, .ls .bool, .ls .int, .ls .db, .ls .pk], sh_impl_World_flood⟩
def g_impl_World_flood : Env := mkEnv tab [(111, [], e_impl_Graph_neighbours), (90, [], e_impl_copyLsa), (60, [], e_impl_World_truth)] 46 6 [] [(5, L_impl_World_flood_5), (2, L_impl_World_flood_2)]
theorem t_impl_World_flood : CtrOk Tryz.prog g_impl_World_flood.Γ := ctr_ok (l := [(111, [], e_impl_Graph_neighbours), (90, [], e_impl_copyLsa), (60, [], e_impl_World_truth)]) ⟨⟨p_impl_Graph_neighbours, Tryz.call111⟩, ⟨⟨p_impl_copyLsa, Tryz.call90⟩, ⟨⟨p_impl_World_truth, Tryz.call60⟩, trivial⟩⟩⟩
theorem k_impl_World_flood_5 : RegOk Tryz.prog 6 46 (nthR g_impl_World_flood.plan (nthC (Tryz.f94.body.getD .skip) 0) 0).1 (nthR g_impl_World_flood.plan (nthC (Tryz.f94.body.getD .skip) 0) 0).2 L_impl_World_flood_5 := reg_okU (G := g_impl_World_flood) (U := [0,1,2,3,5]) (n := 10) (tl := [10,11,12,13]) (ks := []) (t := (.val 4 (.val 6 (.one 7 (.val 8 (.one 9 .done)))))) (F := L_impl_World_flood_5.F) (eid := 0) (FX := L_impl_World_flood_5.FX) (FR := L_impl_World_flood_5.FR) (sh := bo_impl_World_flood_5) bad_ok tabOk t_impl_World_flood mixed (by kernel_rfl) (by kernel_rfl) ⟨fun s => by kernel_rfl, trivial⟩
theorem k_impl_World_flood_2 : LoopOk Tryz.prog 6 46 (nthC (Tryz.f94.body.getD .skip) 0) L_impl_World_flood_2 := loop_ok (G := g_impl_World_flood) (F := L_impl_World_flood_2.F) (eid := L_impl_World_flood_2.eid) (FX := L_impl_World_flood_2.FX) (FR := L_impl_World_flood_2.FR) (B := bo_impl_World_flood_2) (n := fuel) bad_ok tabOk t_impl_World_flood mixed (code_ok2 (G := g_impl_World_flood) (n := 0) (m := 1) (by kernel_rfl) (by kernel_rfl) trivial (by kernel_rfl) ⟨trivial, reg_at (L0 := L_impl_World_flood_5) (by kernel_rfl) k_impl_World_flood_5⟩) (fun s => by kernel_rfl)
theorem p_impl_World_flood : GC Tryz.prog 94 e_impl_World_flood := gc_ofm (G := g_impl_World_flood) (c := Tryz.f94.body.getD .skip) bad_ok tabOk t_impl_World_flood mixed Tryz.func94 (by kernel_rfl) Tryz.ntmps94 (code_ok' (G := g_impl_World_flood) (n := 1) (by kernel_rfl) (by kernel_rfl) ⟨trivial, loop_at (id := 2) (L0 := L_impl_World_flood_2) (by kernel_rfl) (by kernel_rfl) k_impl_World_flood_2⟩ (by kernel_rfl)) [5] (fun s => by kernel_rfl)
def L_spec_l51Net_6 : Loop := ⟨⟨[2, 4, 5], ⟨[.c (.one (.ptr 0 0)), .c (.one (.ptr 1 0)), .c (.one (.ptr 2 0))], [.box 31 [(.b (.int .i64)), (.b (.sl true .lk)), (.b (.sl true .bool)), (.b (.sl true .int)), (.b (.sl true .db)), (.b (.sl true .pk))], .box 31 [(.b (.int .i64)), (.b (.sl true .lk)), (.b (.sl true .bool)), (.b (.sl true .int)), (.b (.sl true .db)), (.b (.sl true .pk))], .box 55 [(.b (.int .i64)), (.b (.int .i64)), (.b (.int .i64)), (.b (.sl true .en))]]⟩, [.int, .ls .lk, .ls .bool, .ls .int, .ls .db, .ls .pk, .int, .ls .lk, .ls .bool, .ls .int, .ls .db, .ls .pk, .int, .int, .int, .ls .en]⟩, 0, ⟨[2, 4], ⟨[.c (.one (.ptr 0 0)), .c (.one (.ptr 1 0))], [.box 31 [(.b (.int .i64)), (.b (.sl true .lk)), (.b (.sl true .bool)), (.b (.sl true .int)), (.b (.sl true .db)), (.own 2)], .box 31 [(.b (.int .i64)), (.b (.sl true .lk)), (.b (.sl true .bool)), (.b (.sl true .int)), (.b (.sl true .db)), (.b (.sl true .pk))], .row 55 .pk]⟩, [.int, .ls .lk, .ls .bool, .ls .int, .ls .db, .int, .ls .lk, .ls .bool, .ls .int, .ls .db, .ls .pk, .ls .pk]⟩, ⟨[999999], ⟨[.c (.one (.own 0))], []⟩, []⟩, bo_spec_l51Net_6⟩
def e_spec_l51Net : Entry := ⟨⟨[.c (.agg [(.b (.int .i64)), (.b (.sl true .lk)), (.b (.sl true .bool)), (.b (.sl true .int)), (.b (.sl true .db)), (.b (.sl true .pk))]), .c (.agg [(.b (.int .i64)), (.b (.int .i64))])], []⟩, [.int, .ls .lk, .ls .bool, .ls .int, .ls .db, .ls .pk, .int, .int], ⟨[.c (.agg [(.b (.int .i64)), (.b (.sl true .lk)), (.b (.sl true .bool)), (.b (.sl true .int)), (.b (.sl true .db)), (.b (.sl true .pk))])], []⟩, [.int, .ls .lk, .ls .bool, .ls .int, .ls .db, .ls .pk], sh_spec_l51Net⟩
def g_spec_l51Net : Env := mkEnv tab [(49, [], e_spec_l6In), (115, [], e_spec_l51Hear)] 59 0 [(8, 13, [(1, true), (2, true), (3, true), (4, true), (5, true), (7, true), (8, true), (9, true), (10, true), (11, true), (12, true), (0, false), (6, false)], [])] [(6, L_spec_l51Net_6)]
theorem t_spec_l51Net : CtrOk Tryz.prog g_spec_l51Net.Γ := ctr_ok (l := [(49, [], e_spec_l6In), (115, [], e_spec_l51Hear)]) ⟨⟨p_spec_l6In, Tryz.call49⟩, ⟨⟨p_spec_l51Hear, Tryz.call115⟩, trivial⟩⟩
theorem k_spec_l51Net_6 : RegOk Tryz.prog 0 59 (nthR g_spec_l51Net.plan (Tryz.f102.body.getD .skip) 0).1 (nthR g_spec_l51Net.plan (Tryz.f102.body.getD .skip) 0).2 L_spec_l51Net_6 := reg_ok (G := g_spec_l51Net) (n := 6) (ks := []) (t := (.val 1 (.val 2 (.val 4 (.two 0 (.two 3 (.one 5 .done) 5 (.one 3 .done)) 5 (.one 0 (.one 3 .done))))))) (F := L_spec_l51Net_6.F) (eid := 0) (FX := L_spec_l51Net_6.FX) (FR := L_spec_l51Net_6.FR) (sh := bo_spec_l51Net_6) bad_ok tabOk t_spec_l51Net mixed (by kernel_rfl) (by kernel_rfl) ⟨fun s => by kernel_rfl, fun s => by kernel_rfl, fun s => by kernel_rfl, trivial⟩
theorem p_spec_l51Net : GC Tryz.prog 102 e_spec_l51Net := gc_of (G := g_spec_l51Net) (c := Tryz.f102.body.getD .skip) bad_ok tabOk t_spec_l51Net mixed Tryz.func102 (by kernel_rfl) Tryz.ntmps102 (code_ok2 (G := g_spec_l51Net) (n := 0) (m := 1) (by kernel_rfl) (by kernel_rfl) trivial (by kernel_rfl) ⟨trivial, reg_at (L0 := L_spec_l51Net_6) (by kernel_rfl) k_spec_l51Net_6⟩) (fun s => by kernel_rfl)
def L_spec_l51Turn_6 : Loop := ⟨⟨[3, 6, 7], ⟨[.c (.one (.ptr 0 0)), .c (.one (.ptr 1 0)), .c (.one (.ptr 2 0))], [.box 31 [(.b (.int .i64)), (.own 3), (.own 4), (.own 5), (.own 6), (.own 7)], .box 31 [(.b (.int .i64)), (.b (.sl true .lk)), (.b (.sl true .bool)), (.b (.sl true .int)), (.b (.sl true .db)), (.b (.sl true .pk))], .box 45 [(.b (.int .i64)), (.b (.int .i64)), (.b (.int .i64))], .row 45 .lk, .row 4 .bool, .row 3 .int, .row 47 .db, .row 55 .pk]⟩, [.int, .int, .ls .lk, .ls .bool, .ls .int, .ls .db, .ls .pk, .int, .int, .int, .ls .lk, .ls .bool, .ls .int, .ls .db, .ls .pk]⟩, 0, ⟨[6], ⟨[.c (.one (.ptr 0 0))], [.box 31 [(.b (.int .i64)), (.own 1), (.own 2), (.own 3), (.own 4), (.own 5)], .row 45 .lk, .row 4 .bool, .row 3 .int, .row 47 .db, .row 55 .pk]⟩, [.int, .ls .lk, .ls .bool, .ls .int, .ls .db, .ls .pk]⟩, ⟨[999999], ⟨[.c (.one (.own 0))], []⟩, []⟩, bo_spec_l51Turn_6⟩
def e_spec_l51Turn : Entry := ⟨⟨[.c (.agg [(.b (.int .i64)), (.b (.sl true .lk)), (.b (.sl true .bool)), (.b (.sl true .int)), (.b (.sl true .db)), (.b (.sl true .pk))]), .c (.one (.b (.int .i64))), .c (.one (.b .bool))], []⟩, [.int, .ls .lk, .ls .bool, .ls .int, .ls .db, .ls .pk, .int, .bool], ⟨[.c (.agg [(.b (.int .i64)), (.b (.sl true .lk)), (.b (.sl true .bool)), (.b (.sl true .int)), (.b (.sl true .db)), (.b (.sl true .pk))])], []⟩, [.int, .ls .lk, .ls .bool, .ls .int, .ls .db, .ls .pk], sh_spec_l51Turn⟩
def g_spec_l51Turn : Env := mkEnv tab [(58, [], e_spec_l51Copy), (116, [], e_spec_l51Announce)] 54 0 [] [(6, L_spec_l51Turn_6)]
theorem t_spec_l51Turn : CtrOk Tryz.prog g_spec_l51Turn.Γ := ctr_ok (l := [(58, [], e_spec_l51Copy), (116, [], e_spec_l51Announce)]) ⟨⟨p_spec_l51Copy, Tryz.call58⟩, ⟨⟨p_spec_l51Announce, Tryz.call116⟩, trivial⟩⟩
theorem k_spec_l51Turn_6 : RegOk Tryz.prog 0 54 (nthR g_spec_l51Turn.plan (Tryz.f103.body.getD .skip) 0).1 (nthR g_spec_l51Turn.plan (Tryz.f103.body.getD .skip) 0).2 L_spec_l51Turn_6 := reg_okA (G := g_spec_l51Turn) (t := (.val 1 (.val 4 (.alt 0 (.alt 2 (.alt 3 (.one 5 (.one 6 (.one 7 .done))) (.one 5 (.one 3 (.one 6 (.one 7 .done))))) (.one 5 (.one 2 (.one 3 (.one 6 (.one 7 .done)))))) (.alt 2 (.alt 0 (.alt 3 (.one 5 (.one 6 (.one 7 .done))) (.one 5 (.one 3 (.one 6 (.one 7 .done))))) (.one 5 (.one 0 (.one 3 (.one 6 (.one 7 .done)))))) (.one 5 (.alt 0 (.one 2 (.one 3 (.one 6 (.one 7 .done)))) (.one 2 (.one 0 (.one 3 (.one 6 (.one 7 .done)))))))))))) (F := L_spec_l51Turn_6.F) (eid := 0) (FX := L_spec_l51Turn_6.FX) (FR := L_spec_l51Turn_6.FR) (sh := bo_spec_l51Turn_6) bad_ok tabOk t_spec_l51Turn mixed (by kernel_rfl) (by kernel_rfl) ⟨fun s => by kernel_rfl, fun s => by kernel_rfl, fun s => by kernel_rfl, fun s => by kernel_rfl, fun s => by kernel_rfl, fun s => by kernel_rfl, fun s => by kernel_rfl, fun s => by kernel_rfl, trivial⟩
theorem p_spec_l51Turn : GC Tryz.prog 103 e_spec_l51Turn := gc_of (G := g_spec_l51Turn) (c := Tryz.f103.body.getD .skip) bad_ok tabOk t_spec_l51Turn mixed Tryz.func103 (by kernel_rfl) Tryz.ntmps103 (code_ok2 (G := g_spec_l51Turn) (n := 0) (m := 1) (by kernel_rfl) (by kernel_rfl) trivial (by kernel_rfl) ⟨trivial, reg_at (L0 := L_spec_l51Turn_6) (by kernel_rfl) k_spec_l51Turn_6⟩) (fun s => by kernel_rfl)
def L_impl_World_announce_1 : Loop := ⟨⟨[0, 1], ⟨[.c (.one (.ptr 0 0)), .c (.one (.b (.int .i64)))], [.box 31 [(.b (.int .i64)), (.own 1), (.own 2), (.own 3), (.own 4), (.own 6)], .row 45 .lk, .row 4 .bool, .row 3 .int, .row 47 .db, .dead, .row 55 .pk]⟩, [.int, .int, .ls .lk, .ls .bool, .ls .int, .ls .db, .ls .pk]⟩, 0, ⟨[0, 1, 4], ⟨[.c (.one (.ptr 0 0)), .c (.one (.b (.int .i64))), .c (.one (.ptr 6 0))], [.box 31 [(.b (.int .i64)), (.own 1), (.own 2), (.own 3), (.own 4), (.own 7)], .row 45 .lk, .row 4 .bool, .row 3 .int, .row 47 .db, .dead, .box 53 [(.b (.int .i64)), (.b (.int .i64)), (.own 8)], .row 55 .pk, .row 92 .en]⟩, [.int, .int, .ls .lk, .ls .bool, .ls .int, .ls .db, .int, .int, .ls .pk, .ls .en]⟩, ⟨[999999], ⟨[.c (.one (.own 0))], []⟩, []⟩, bo_impl_World_announce_1⟩
def L_impl_World_announce_2 : Loop := ⟨⟨[0, 1, 4], ⟨[.c (.one (.ptr 0 0)), .c (.one (.b (.int .i64))), .c (.one (.ptr 6 0))], [.box 31 [(.b (.int .i64)), (.own 1), (.own 2), (.own 3), (.own 4), (.own 7)], .row 45 .lk, .row 4 .bool, .row 3 .int, .row 47 .db, .dead, .box 53 [(.b (.int .i64)), (.b (.int .i64)), (.own 8)], .row 55 .pk, .row 92 .en]⟩, [.int, .int, .ls .lk, .ls .bool, .ls .int, .ls .db, .int, .int, .ls .pk, .ls .en]⟩, 0, ⟨[0, 1, 4], ⟨[.c (.one (.ptr 0 0)), .c (.one (.b (.int .i64))), .c (.one (.ptr 6 0))], [.box 31 [(.b (.int .i64)), (.own 1), (.own 2), (.own 3), (.own 4), (.own 7)], .row 45 .lk, .row 4 .bool, .row 3 .int, .row 47 .db, .dead, .box 53 [(.b (.int .i64)), (.b (.int .i64)), (.own 8)], .row 55 .pk, .row 92 .en]⟩, [.int, .int, .ls .lk, .ls .bool, .ls .int, .ls .db, .int, .int, .ls .pk, .ls .en]⟩, ⟨[999999], ⟨[.c (.one (.own 0))], []⟩, []⟩, bo_impl_World_announce_2⟩
def e_impl_World_announce : Entry := ⟨⟨[.c (.one (.ptr 0 0)), .c (.one (.b (.int .i64)))], [.box 31 [(.b (.int .i64)), (.own 1), (.own 2), (.own 3), (.own 4), (.own 5)], .row 45 .lk, .row 4 .bool, .row 3 .int, .row 47 .db, .row 55 .pk]⟩, [.int, .int, .ls .lk, .ls .bool, .ls .int, .ls .db, .ls .pk], ⟨[.tup []], [.box 31 [(.b (.int .i64)), (.own 1), (.own 2), (.own 3), (.own 4), (.own 6)], .row 45 .lk, .row 4 .bool, .row 3 .int, .row 47 .db, .dead, .row 55 .pk]⟩, [.int, .ls .lk, .ls .bool, .ls .int, .ls .db, .ls .pk], sh_impl_World_announce⟩
def g_impl_World_announce : Env := mkEnv tab [(74, [], e_impl_Graph_lsaOf), (60, [], e_impl_World_truth), (93, [], e_impl_put), (94, [], e_impl_World_flood)] 49 6 [] [(1, L_impl_World_announce_1), (2, L_impl_World_announce_2)]
theorem t_impl_World_announce : CtrOk Tryz.prog g_impl_World_announce.Γ := ctr_ok (l := [(74, [], e_impl_Graph_lsaOf), (60, [], e_impl_World_truth), (93, [], e_impl_put), (94, [], e_impl_World_flood)]) ⟨⟨p_impl_Graph_lsaOf, Tryz.call74⟩, ⟨⟨p_impl_World_truth, Tryz.call60⟩, ⟨⟨p_impl_put, Tryz.call93⟩, ⟨⟨p_impl_World_flood, Tryz.call94⟩, trivial⟩⟩⟩⟩
theorem k_impl_World_announce_1 : RegOk Tryz.prog 6 49 (nthR g_impl_World_announce.plan (Tryz.f91.body.getD .skip) 0).1 (nthR g_impl_World_announce.plan (Tryz.f91.body.getD .skip) 0).2 L_impl_World_announce_1 := reg_ok (G := g_impl_World_announce) (n := 14) (ks := []) (t := (.val 0 (.val 1 (.val 2 (.val 4 (.val 5 (.val 6 (.val 7 (.val 8 (.val 9 (.val 10 (.val 11 (.two 3 (.two 12 (.one 13 .done) 13 (.one 12 .done)) 13 (.one 3 (.one 12 .done))))))))))))))) (F := L_impl_World_announce_1.F) (eid := 0) (FX := L_impl_World_announce_1.FX) (FR := L_impl_World_announce_1.FR) (sh := bo_impl_World_announce_1) bad_ok tabOk t_impl_World_announce mixed (by kernel_rfl) (by kernel_rfl) ⟨fun s => by kernel_rfl, fun s => by kernel_rfl, fun s => by kernel_rfl, trivial⟩
theorem k_impl_World_announce_2 : RegOk Tryz.prog 6 49 (nthR g_impl_World_announce.plan (Tryz.f91.body.getD .skip) 1).1 (nthR g_impl_World_announce.plan (Tryz.f91.body.getD .skip) 1).2 L_impl_World_announce_2 := reg_okA (G := g_impl_World_announce) (t := (.val 0 (.val 1 (.val 2 (.val 4 (.val 5 (.val 6 (.val 7 (.val 9 (.alt 3 (.alt 8 (.val 10 (.alt 11 (.one 12 (.one 13 (.val 14 (.val 15 (.val 16 (.val 17 (.one 18 .done))))))) (.one 12 (.one 11 (.one 13 (.val 14 (.val 15 (.val 16 (.val 17 (.one 18 .done)))))))))) (.one 12 (.one 8 (.val 10 (.one 11 (.one 13 (.val 14 (.val 15 (.val 16 (.val 17 (.one 18 .done))))))))))) (.alt 8 (.val 10 (.alt 3 (.alt 11 (.one 12 (.one 13 (.val 14 (.val 15 (.val 16 (.val 17 (.one 18 .done))))))) (.one 12 (.one 11 (.one 13 (.val 14 (.val 15 (.val 16 (.val 17 (.one 18 .done))))))))) (.alt 11 (.alt 3 (.one 12 (.one 13 (.val 14 (.val 15 (.val 16 (.val 17 (.one 18 .done))))))) (.one 12 (.alt 3 (.one 13 (.val 14 (.val 15 (.val 16 (.val 17 (.one 18 .done)))))) (.one 13 (.val 14 (.val 15 (.val 16 (.one 3 (.val 17 (.one 18 .done)))))))))) (.one 12 (.alt 3 (.one 11 (.one 13 (.val 14 (.val 15 (.val 16 (.val 17 (.one 18 .done))))))) (.one 11 (.alt 3 (.one 13 (.val 14 (.val 15 (.val 16 (.val 17 (.one 18 .done)))))) (.one 13 (.val 14 (.val 15 (.val 16 (.one 3 (.val 17 (.one 18 .done)))))))))))))) (.one 12 (.alt 3 (.one 8 (.val 10 (.one 11 (.one 13 (.val 14 (.val 15 (.val 16 (.val 17 (.one 18 .done))))))))) (.one 8 (.val 10 (.alt 3 (.one 11 (.one 13 (.val 14 (.val 15 (.val 16 (.val 17 (.one 18 .done))))))) (.one 11 (.alt 3 (.one 13 (.val 14 (.val 15 (.val 16 (.val 17 (.one 18 .done)))))) (.one 13 (.val 14 (.val 15 (.val 16 (.one 3 (.val 17 (.one 18 .done))))))))))))))))))))))))) (F := L_impl_World_announce_2.F) (eid := 0) (FX := L_impl_World_announce_2.FX) (FR := L_impl_World_announce_2.FR) (sh := bo_impl_World_announce_2) bad_ok tabOk t_impl_World_announce mixed (by kernel_rfl) (by kernel_rfl) ⟨fun s => by kernel_rfl, fun s => by kernel_rfl, fun s => by kernel_rfl, fun s => by kernel_rfl, fun s => by kernel_rfl, fun s => by kernel_rfl, fun s => by kernel_rfl, fun s => by kernel_rfl, fun s => by kernel_rfl, fun s => by kernel_rfl, fun s => by kernel_rfl, fun s => by kernel_rfl, fun s => by kernel_rfl, fun s => by kernel_rfl, fun s => by kernel_rfl, trivial⟩
theorem p_impl_World_announce : GC Tryz.prog 91 e_impl_World_announce := gc_ofm (G := g_impl_World_announce) (c := Tryz.f91.body.getD .skip) bad_ok tabOk t_impl_World_announce mixed Tryz.func91 (by kernel_rfl) Tryz.ntmps91 (code_ok2 (G := g_impl_World_announce) (n := 0) (m := 2) (by kernel_rfl) (by kernel_rfl) trivial (by kernel_rfl) ⟨⟨trivial, reg_at (L0 := L_impl_World_announce_1) (by kernel_rfl) k_impl_World_announce_1⟩, reg_at (L0 := L_impl_World_announce_2) (by kernel_rfl) k_impl_World_announce_2⟩) [5] (fun s => by kernel_rfl)
def e_spec_l51Do : Entry := ⟨⟨[.c (.agg [(.b (.int .i64)), (.b (.sl true .lk)), (.b (.sl true .bool)), (.b (.sl true .int)), (.b (.sl true .db)), (.b (.sl true .pk))]), .c (.agg [(.b (.int .i64)), (.b (.int .i64))])], []⟩, [.int, .ls .lk, .ls .bool, .ls .int, .ls .db, .ls .pk, .int, .int], ⟨[.c (.agg [(.b (.int .i64)), (.b (.sl true .lk)), (.b (.sl true .bool)), (.b (.sl true .int)), (.b (.sl true .db)), (.b (.sl true .pk))])], []⟩, [.int, .ls .lk, .ls .bool, .ls .int, .ls .db, .ls .pk], sh_spec_l51Do⟩
def g_spec_l51Do : Env := mkEnv tab [(49, [], e_spec_l6In), (63, [], e_spec_l51Sync), (102, [], e_spec_l51Net), (103, [], e_spec_l51Turn)] 42 0 [] []
theorem t_spec_l51Do : CtrOk Tryz.prog g_spec_l51Do.Γ := ctr_ok (l := [(49, [], e_spec_l6In), (63, [], e_spec_l51Sync), (102, [], e_spec_l51Net), (103, [], e_spec_l51Turn)]) ⟨⟨p_spec_l6In, Tryz.call49⟩, ⟨⟨p_spec_l51Sync, Tryz.call63⟩, ⟨⟨p_spec_l51Net, Tryz.call102⟩, ⟨⟨p_spec_l51Turn, Tryz.call103⟩, trivial⟩⟩⟩⟩
theorem p_spec_l51Do : GC Tryz.prog 59 e_spec_l51Do := gc_of (G := g_spec_l51Do) (c := Tryz.f59.body.getD .skip) bad_ok tabOk t_spec_l51Do mixed Tryz.func59 (by kernel_rfl) Tryz.ntmps59 (code_ok' (G := g_spec_l51Do) (n := 0) (by kernel_rfl) (by kernel_rfl) trivial (by kernel_rfl)) (fun s => by kernel_rfl)
def e_spec_WorldDo : Entry := ⟨⟨[.c (.agg [(.b (.int .i64)), (.b (.sl true .lk)), (.b (.sl true .bool)), (.b (.sl true .int)), (.b (.sl true .db)), (.b (.sl true .pk))]), .c (.agg [(.b (.int .i64)), (.b (.int .i64))])], []⟩, [.int, .ls .lk, .ls .bool, .ls .int, .ls .db, .ls .pk, .int, .int], ⟨[.c (.agg [(.b (.int .i64)), (.own 0), (.own 1), (.own 2), (.own 3), (.own 4)])], [.row 45 .lk, .row 4 .bool, .row 3 .int, .row 47 .db, .row 55 .pk]⟩, [.int, .ls .lk, .ls .bool, .ls .int, .ls .db, .ls .pk], sh_spec_WorldDo⟩
def g_spec_WorldDo : Env := mkEnv tab [(58, [], e_spec_l51Copy), (16, [], e_spec_WorldValid), (59, [], e_spec_l51Do)] 13 0 [] []
theorem t_spec_WorldDo : CtrOk Tryz.prog g_spec_WorldDo.Γ := ctr_ok (l := [(58, [], e_spec_l51Copy), (16, [], e_spec_WorldValid), (59, [], e_spec_l51Do)]) ⟨⟨p_spec_l51Copy, Tryz.call58⟩, ⟨⟨p_spec_WorldValid, Tryz.call16⟩, ⟨⟨p_spec_l51Do, Tryz.call59⟩, trivial⟩⟩⟩
theorem p_spec_WorldDo : GC Tryz.prog 22 e_spec_WorldDo := gc_of (G := g_spec_WorldDo) (c := Tryz.f22.body.getD .skip) bad_ok tabOk t_spec_WorldDo mixed Tryz.func22 (by kernel_rfl) Tryz.ntmps22 (code_ok' (G := g_spec_WorldDo) (n := 0) (by kernel_rfl) (by kernel_rfl) trivial (by kernel_rfl)) (fun s => by kernel_rfl)
def L_impl_World_apply_11 : Loop := ⟨⟨[0, 3, 8], ⟨[.c (.one (.ptr 0 0)), .c (.one (.ptr 6 0)), .c (.one (.ptr 7 0))], [.box 31 [(.b (.int .i64)), (.own 1), (.own 2), (.own 3), (.own 4), (.own 8)], .row 45 .lk, .row 4 .bool, .row 3 .int, .row 47 .db, .dead, .box 37 [(.b (.int .i64)), (.b (.int .i64))], .box 55 [(.b (.int .i64)), (.b (.int .i64)), (.b (.int .i64)), (.b (.sl true .en))], .row 55 .pk]⟩, [.int, .ls .lk, .ls .bool, .ls .int, .ls .db, .int, .int, .int, .int, .int, .ls .en, .ls .pk]⟩, 0, ⟨[0, 8], ⟨[.c (.one (.ptr 0 0)), .c (.one (.ptr 6 0))], [.box 31 [(.b (.int .i64)), (.own 1), (.own 2), (.own 3), (.own 4), (.own 7)], .row 45 .lk, .row 4 .bool, .row 3 .int, .row 47 .db, .dead, .box 55 [(.b (.int .i64)), (.b (.int .i64)), (.b (.int .i64)), (.b (.sl true .en))], .row 55 .pk]⟩, [.int, .ls .lk, .ls .bool, .ls .int, .ls .db, .int, .int, .int, .ls .en, .ls .pk]⟩, ⟨[999999], ⟨[.c (.one (.own 0))], []⟩, []⟩, bo_impl_World_apply_11⟩
def L_impl_World_apply_17 : Loop := ⟨⟨[0, 3], ⟨[.c (.one (.ptr 0 0)), .c (.one (.ptr 6 0))], [.box 31 [(.b (.int .i64)), (.own 1), (.own 2), (.own 3), (.own 4), (.own 7)], .row 45 .lk, .row 4 .bool, .row 3 .int, .row 47 .db, .dead, .box 37 [(.b (.int .i64)), (.b (.int .i64))], .row 55 .pk]⟩, [.int, .ls .lk, .ls .bool, .ls .int, .ls .db, .int, .int, .ls .pk]⟩, 0, ⟨[], ⟨[], [.box 31 [(.b (.int .i64)), (.own 1), (.own 2), (.own 3), (.own 4), (.own 6)], .row 45 .lk, .row 4 .bool, .row 3 .int, .row 47 .db, .dead, .row 55 .pk]⟩, [.int, .ls .lk, .ls .bool, .ls .int, .ls .db, .ls .pk]⟩, ⟨[999999], ⟨[.c (.one (.own 0))], []⟩, []⟩, bo_impl_World_apply_17⟩
def L_impl_World_apply_20 : Loop := ⟨⟨[0, 3], ⟨[.c (.one (.ptr 0 0)), .c (.one (.ptr 6 0))], [.box 31 [(.b (.int .i64)), (.own 1), (.own 2), (.own 3), (.own 4), (.own 7)], .row 45 .lk, .row 4 .bool, .row 3 .int, .row 47 .db, .dead, .box 37 [(.b (.int .i64)), (.b (.int .i64))], .row 55 .pk]⟩, [.int, .ls .lk, .ls .bool, .ls .int, .ls .db, .int, .int, .ls .pk]⟩, 0, ⟨[], ⟨[], [.box 31 [(.b (.int .i64)), (.own 1), (.own 2), (.own 3), (.own 4), (.own 6)], .row 45 .lk, .row 4 .bool, .row 3 .int, .row 47 .db, .dead, .row 55 .pk]⟩, [.int, .ls .lk, .ls .bool, .ls .int, .ls .db, .ls .pk]⟩, ⟨[999999], ⟨[.c (.one (.own 0))], []⟩, []⟩, bo_impl_World_apply_20⟩
def L_impl_World_apply_25 : Loop := ⟨⟨[0, 11, 12], ⟨[.c (.one (.ptr 0 0)), .c (.one (.ptr 6 0)), .c (.one (.own 7))], [.box 31 [(.b (.int .i64)), (.own 1), (.own 2), (.own 3), (.own 4), (.own 8)], .row 45 .lk, .row 4 .bool, .row 3 .int, .row 47 .db, .dead, .box 45 [(.b (.int .i64)), (.b (.int .i64)), (.b (.int .i64))], .row 53 .ls, .row 55 .pk]⟩, [.int, .ls .lk, .ls .bool, .ls .int, .ls .db, .int, .int, .int, .ls .ls, .ls .pk]⟩, 0, ⟨[], ⟨[], [.box 31 [(.b (.int .i64)), (.own 1), (.own 2), (.own 3), (.own 4), (.own 6)], .row 45 .lk, .row 4 .bool, .row 3 .int, .row 47 .db, .dead, .row 55 .pk]⟩, [.int, .ls .lk, .ls .bool, .ls .int, .ls .db, .ls .pk]⟩, ⟨[999999], ⟨[.c (.one (.own 0))], []⟩, []⟩, bo_impl_World_apply_25⟩
def e_impl_World_apply : Entry := ⟨⟨[.c (.one (.ptr 0 0)), .c (.agg [(.b (.int .i64)), (.b (.int .i64))])], [.box 31 [(.b (.int .i64)), (.own 1), (.own 2), (.own 3), (.own 4), (.own 5)], .row 45 .lk, .row 4 .bool, .row 3 .int, .row 47 .db, .row 55 .pk]⟩, [.int, .int, .int, .ls .lk, .ls .bool, .ls .int, .ls .db, .ls .pk], ⟨[.tup []], [.box 31 [(.b (.int .i64)), (.own 1), (.own 2), (.own 3), (.own 4), (.own 6)], .row 45 .lk, .row 4 .bool, .row 3 .int, .row 47 .db, .dead, .row 55 .pk]⟩, [.int, .ls .lk, .ls .bool, .ls .int, .ls .db, .ls .pk], sh_impl_World_apply⟩
def g_impl_World_apply : Env := mkEnv tab [(92, [], e_slices_Delete_impl_Packet_impl_Packet), (37, [], e_impl_within), (90, [], e_impl_copyLsa), (89, [], e_impl_copyDb), (93, [], e_impl_put), (95, [], e_impl_merge), (94, [], e_impl_World_flood), (91, [], e_impl_World_announce)] 284 6 [(1, 17, [(0, true), (1, true), (2, true), (3, true), (4, true), (5, true), (6, true), (7, true), (9, true), (10, true), (11, true), (12, true), (13, true), (14, true), (15, true), (16, true), (8, false)], []), (3, 10, [(0, true), (1, true), (2, true), (3, true), (4, true), (5, true), (6, true), (7, true), (8, true), (9, false)], []), (5, 28, [(0, true), (1, true), (2, true), (3, true), (4, true), (5, true), (6, true), (7, true), (8, true), (9, true), (10, true), (11, true), (12, true), (13, true), (14, true), (15, true), (16, true), (17, true), (18, true), (19, true), (20, true), (21, true), (22, true), (23, true), (24, true), (25, true), (26, true), (27, true)], []), (6, 7, [(0, true), (1, true), (2, true), (3, true), (4, true), (5, true), (6, true)], []), (10, 9, [(0, true), (1, true), (2, true), (3, true), (4, true), (5, true), (6, true), (7, true), (8, false)], []), (12, 15, [(0, true), (1, true), (2, true), (3, true), (4, true), (5, true), (6, true), (7, true), (8, true), (9, true), (10, false), (11, true), (12, true), (13, true), (14, true)], []), (13, 7, [(0, true), (1, true), (2, true), (3, true), (4, true), (5, true), (6, true)], []), (22, 10, [(0, true), (1, true), (2, true), (3, true), (4, true), (5, true), (6, true), (7, true), (8, true), (9, false)], []), (23, 6, [(0, true), (1, true), (2, true), (3, true), (4, true), (5, true)], []), (24, 16, [(0, true), (1, true), (2, true), (3, true), (4, true), (5, true), (6, true), (7, true), (8, true), (9, true), (10, true), (11, true), (12, true), (13, true), (14, true), (15, true)], [])] [(11, L_impl_World_apply_11), (17, L_impl_World_apply_17), (20, L_impl_World_apply_20), (25, L_impl_World_apply_25)]
theorem t_impl_World_apply : CtrOk Tryz.prog g_impl_World_apply.Γ := ctr_ok (l := [(92, [], e_slices_Delete_impl_Packet_impl_Packet), (37, [], e_impl_within), (90, [], e_impl_copyLsa), (89, [], e_impl_copyDb), (93, [], e_impl_put), (95, [], e_impl_merge), (94, [], e_impl_World_flood), (91, [], e_impl_World_announce)]) ⟨⟨p_slices_Delete_impl_Packet_impl_Packet, Tryz.call92⟩, ⟨⟨p_impl_within, Tryz.call37⟩, ⟨⟨p_impl_copyLsa, Tryz.call90⟩, ⟨⟨p_impl_copyDb, Tryz.call89⟩, ⟨⟨p_impl_put, Tryz.call93⟩, ⟨⟨p_impl_merge, Tryz.call95⟩, ⟨⟨p_impl_World_flood, Tryz.call94⟩, ⟨⟨p_impl_World_announce, Tryz.call91⟩, trivial⟩⟩⟩⟩⟩⟩⟩⟩
theorem k_impl_World_apply_11 : RegOk Tryz.prog 6 284 (nthR g_impl_World_apply.plan (Tryz.f52.body.getD .skip) 0).1 (nthR g_impl_World_apply.plan (Tryz.f52.body.getD .skip) 0).2 L_impl_World_apply_11 := reg_okU (G := g_impl_World_apply) (U := [0,1,2,3,5,7]) (n := 10) (tl := [10,11,12,13]) (ks := []) (t := (.val 4 (.val 6 (.val 8 (.val 9 .done))))) (F := L_impl_World_apply_11.F) (eid := 0) (FX := L_impl_World_apply_11.FX) (FR := L_impl_World_apply_11.FR) (sh := bo_impl_World_apply_11) bad_ok tabOk t_impl_World_apply mixed (by kernel_rfl) (by kernel_rfl) ⟨fun s => by kernel_rfl, trivial⟩
theorem k_impl_World_apply_17 : RegOk Tryz.prog 6 284 (nthR g_impl_World_apply.plan (Tryz.f52.body.getD .skip) 1).1 (nthR g_impl_World_apply.plan (Tryz.f52.body.getD .skip) 1).2 L_impl_World_apply_17 := reg_okU (G := g_impl_World_apply) (U := [0,1,2,3,5,7]) (n := 10) (tl := [10,11,12,13]) (ks := []) (t := (.val 4 (.val 6 (.val 8 (.val 9 .done))))) (F := L_impl_World_apply_17.F) (eid := 0) (FX := L_impl_World_apply_17.FX) (FR := L_impl_World_apply_17.FR) (sh := bo_impl_World_apply_17) bad_ok tabOk t_impl_World_apply mixed (by kernel_rfl) (by kernel_rfl) ⟨fun s => by kernel_rfl, trivial⟩
theorem k_impl_World_apply_20 : RegOk Tryz.prog 6 284 (nthR g_impl_World_apply.plan (Tryz.f52.body.getD .skip) 2).1 (nthR g_impl_World_apply.plan (Tryz.f52.body.getD .skip) 2).2 L_impl_World_apply_20 := reg_okU (G := g_impl_World_apply) (U := [0,1,2,3,5,6,7,9,14,15,16,18]) (n := 26) (tl := [26,27,28,29]) (ks := []) (t := (.val 4 (.val 8 (.val 10 (.val 11 (.val 12 (.val 13 (.val 17 (.val 19 (.val 20 (.val 21 (.val 22 (.one 23 (.val 24 (.one 25 .done))))))))))))))) (F := L_impl_World_apply_20.F) (eid := 0) (FX := L_impl_World_apply_20.FX) (FR := L_impl_World_apply_20.FR) (sh := bo_impl_World_apply_20) bad_ok tabOk t_impl_World_apply mixed (by kernel_rfl) (by kernel_rfl) ⟨fun s => by kernel_rfl, trivial⟩
theorem k_impl_World_apply_25 : RegOk Tryz.prog 6 284 (nthR g_impl_World_apply.plan (Tryz.f52.body.getD .skip) 3).1 (nthR g_impl_World_apply.plan (Tryz.f52.body.getD .skip) 3).2 L_impl_World_apply_25 := reg_okA (G := g_impl_World_apply) (t := (.val 0 (.val 1 (.val 2 (.val 4 (.val 6 (.val 7 (.val 8 (.val 10 (.val 12 (.val 13 (.alt 3 (.alt 5 (.alt 9 (.alt 11 (.one 14 (.val 15 (.one 16 (.val 17 (.one 18 .done))))) (.one 14 (.val 15 (.alt 11 (.one 16 (.val 17 (.one 18 .done))) (.one 16 (.one 11 (.val 17 (.one 18 .done)))))))) (.alt 11 (.alt 9 (.one 14 (.val 15 (.one 16 (.val 17 (.one 18 .done))))) (.one 14 (.one 9 (.val 15 (.one 16 (.val 17 (.one 18 .done))))))) (.one 14 (.alt 9 (.val 15 (.alt 11 (.one 16 (.val 17 (.one 18 .done))) (.one 16 (.one 11 (.val 17 (.one 18 .done)))))) (.one 11 (.one 9 (.val 15 (.one 16 (.val 17 (.one 18 .done)))))))))) (.alt 9 (.alt 5 (.alt 11 (.one 14 (.val 15 (.one 16 (.val 17 (.one 18 .done))))) (.one 14 (.val 15 (.alt 11 (.one 16 (.val 17 (.one 18 .done))) (.one 16 (.one 11 (.val 17 (.one 18 .done)))))))) (.alt 11 (.alt 5 (.one 14 (.val 15 (.one 16 (.val 17 (.one 18 .done))))) (.one 14 (.one 5 (.val 15 (.one 16 (.val 17 (.one 18 .done))))))) (.one 14 (.alt 5 (.val 15 (.alt 11 (.one 16 (.val 17 (.one 18 .done))) (.one 16 (.one 11 (.val 17 (.one 18 .done)))))) (.one 11 (.one 5 (.val 15 (.one 16 (.val 17 (.one 18 .done)))))))))) (.alt 11 (.alt 5 (.alt 9 (.one 14 (.val 15 (.one 16 (.val 17 (.one 18 .done))))) (.one 14 (.one 9 (.val 15 (.one 16 (.val 17 (.one 18 .done))))))) (.alt 9 (.alt 5 (.one 14 (.val 15 (.one 16 (.val 17 (.one 18 .done))))) (.one 14 (.one 5 (.val 15 (.one 16 (.val 17 (.one 18 .done))))))) (.one 14 (.alt 5 (.one 9 (.val 15 (.one 16 (.val 17 (.one 18 .done))))) (.one 9 (.one 5 (.val 15 (.one 16 (.val 17 (.one 18 .done)))))))))) (.one 14 (.alt 5 (.alt 9 (.val 15 (.alt 11 (.one 16 (.val 17 (.one 18 .done))) (.one 16 (.one 11 (.val 17 (.one 18 .done)))))) (.one 11 (.one 9 (.val 15 (.one 16 (.val 17 (.one 18 .done))))))) (.alt 9 (.alt 5 (.val 15 (.alt 11 (.one 16 (.val 17 (.one 18 .done))) (.one 16 (.one 11 (.val 17 (.one 18 .done)))))) (.one 11 (.one 5 (.val 15 (.one 16 (.val 17 (.one 18 .done))))))) (.one 11 (.alt 5 (.one 9 (.val 15 (.one 16 (.val 17 (.one 18 .done))))) (.one 9 (.one 5 (.val 15 (.one 16 (.val 17 (.one 18 .done)))))))))))))) (.alt 5 (.alt 3 (.alt 9 (.alt 11 (.one 14 (.val 15 (.one 16 (.val 17 (.one 18 .done))))) (.one 14 (.val 15 (.alt 11 (.one 16 (.val 17 (.one 18 .done))) (.one 16 (.one 11 (.val 17 (.one 18 .done)))))))) (.alt 11 (.alt 9 (.one 14 (.val 15 (.one 16 (.val 17 (.one 18 .done))))) (.one 14 (.one 9 (.val 15 (.one 16 (.val 17 (.one 18 .done))))))) (.one 14 (.alt 9 (.val 15 (.alt 11 (.one 16 (.val 17 (.one 18 .done))) (.one 16 (.one 11 (.val 17 (.one 18 .done)))))) (.one 11 (.one 9 (.val 15 (.one 16 (.val 17 (.one 18 .done)))))))))) (.alt 9 (.alt 3 (.alt 11 (.one 14 (.val 15 (.one 16 (.val 17 (.one 18 .done))))) (.one 14 (.val 15 (.alt 11 (.one 16 (.val 17 (.one 18 .done))) (.one 16 (.one 11 (.val 17 (.one 18 .done)))))))) (.alt 11 (.alt 3 (.one 14 (.val 15 (.one 16 (.val 17 (.one 18 .done))))) (.one 14 (.one 3 (.val 15 (.one 16 (.val 17 (.one 18 .done))))))) (.one 14 (.alt 3 (.val 15 (.alt 11 (.one 16 (.val 17 (.one 18 .done))) (.one 16 (.one 11 (.val 17 (.one 18 .done)))))) (.one 11 (.one 3 (.val 15 (.one 16 (.val 17 (.one 18 .done)))))))))) (.alt 11 (.alt 3 (.alt 9 (.one 14 (.val 15 (.one 16 (.val 17 (.one 18 .done))))) (.one 14 (.one 9 (.val 15 (.one 16 (.val 17 (.one 18 .done))))))) (.alt 9 (.alt 3 (.one 14 (.val 15 (.one 16 (.val 17 (.one 18 .done))))) (.one 14 (.one 3 (.val 15 (.one 16 (.val 17 (.one 18 .done))))))) (.one 14 (.alt 3 (.one 9 (.val 15 (.one 16 (.val 17 (.one 18 .done))))) (.one 9 (.one 3 (.val 15 (.one 16 (.val 17 (.one 18 .done)))))))))) (.one 14 (.alt 3 (.alt 9 (.val 15 (.alt 11 (.one 16 (.val 17 (.one 18 .done))) (.one 16 (.one 11 (.val 17 (.one 18 .done)))))) (.one 11 (.one 9 (.val 15 (.one 16 (.val 17 (.one 18 .done))))))) (.alt 9 (.alt 3 (.val 15 (.alt 11 (.one 16 (.val 17 (.one 18 .done))) (.one 16 (.one 11 (.val 17 (.one 18 .done)))))) (.one 11 (.one 3 (.val 15 (.one 16 (.val 17 (.one 18 .done))))))) (.one 11 (.alt 3 (.one 9 (.val 15 (.one 16 (.val 17 (.one 18 .done))))) (.one 9 (.one 3 (.val 15 (.one 16 (.val 17 (.one 18 .done)))))))))))))) (.alt 9 (.alt 3 (.alt 5 (.alt 11 (.one 14 (.val 15 (.one 16 (.val 17 (.one 18 .done))))) (.one 14 (.val 15 (.alt 11 (.one 16 (.val 17 (.one 18 .done))) (.one 16 (.one 11 (.val 17 (.one 18 .done)))))))) (.alt 11 (.alt 5 (.one 14 (.val 15 (.one 16 (.val 17 (.one 18 .done))))) (.one 14 (.one 5 (.val 15 (.one 16 (.val 17 (.one 18 .done))))))) (.one 14 (.alt 5 (.val 15 (.alt 11 (.one 16 (.val 17 (.one 18 .done))) (.one 16 (.one 11 (.val 17 (.one 18 .done)))))) (.one 11 (.one 5 (.val 15 (.one 16 (.val 17 (.one 18 .done)))))))))) (.alt 5 (.alt 3 (.alt 11 (.one 14 (.val 15 (.one 16 (.val 17 (.one 18 .done))))) (.one 14 (.val 15 (.alt 11 (.one 16 (.val 17 (.one 18 .done))) (.one 16 (.one 11 (.val 17 (.one 18 .done)))))))) (.alt 11 (.alt 3 (.one 14 (.val 15 (.one 16 (.val 17 (.one 18 .done))))) (.one 14 (.one 3 (.val 15 (.one 16 (.val 17 (.one 18 .done))))))) (.one 14 (.alt 3 (.val 15 (.alt 11 (.one 16 (.val 17 (.one 18 .done))) (.one 16 (.one 11 (.val 17 (.one 18 .done)))))) (.one 11 (.one 3 (.val 15 (.one 16 (.val 17 (.one 18 .done)))))))))) (.alt 11 (.alt 3 (.alt 5 (.one 14 (.val 15 (.one 16 (.val 17 (.one 18 .done))))) (.one 14 (.one 5 (.val 15 (.one 16 (.val 17 (.one 18 .done))))))) (.alt 5 (.alt 3 (.one 14 (.val 15 (.one 16 (.val 17 (.one 18 .done))))) (.one 14 (.one 3 (.val 15 (.one 16 (.val 17 (.one 18 .done))))))) (.one 14 (.alt 3 (.one 5 (.val 15 (.one 16 (.val 17 (.one 18 .done))))) (.one 5 (.one 3 (.val 15 (.one 16 (.val 17 (.one 18 .done)))))))))) (.one 14 (.alt 3 (.alt 5 (.val 15 (.alt 11 (.one 16 (.val 17 (.one 18 .done))) (.one 16 (.one 11 (.val 17 (.one 18 .done)))))) (.one 11 (.one 5 (.val 15 (.one 16 (.val 17 (.one 18 .done))))))) (.alt 5 (.alt 3 (.val 15 (.alt 11 (.one 16 (.val 17 (.one 18 .done))) (.one 16 (.one 11 (.val 17 (.one 18 .done)))))) (.one 11 (.one 3 (.val 15 (.one 16 (.val 17 (.one 18 .done))))))) (.one 11 (.alt 3 (.one 5 (.val 15 (.one 16 (.val 17 (.one 18 .done))))) (.one 5 (.one 3 (.val 15 (.one 16 (.val 17 (.one 18 .done)))))))))))))) (.alt 11 (.alt 3 (.alt 5 (.alt 9 (.one 14 (.val 15 (.one 16 (.val 17 (.one 18 .done))))) (.one 14 (.one 9 (.val 15 (.one 16 (.val 17 (.one 18 .done))))))) (.alt 9 (.alt 5 (.one 14 (.val 15 (.one 16 (.val 17 (.one 18 .done))))) (.one 14 (.one 5 (.val 15 (.one 16 (.val 17 (.one 18 .done))))))) (.one 14 (.alt 5 (.one 9 (.val 15 (.one 16 (.val 17 (.one 18 .done))))) (.one 9 (.one 5 (.val 15 (.one 16 (.val 17 (.one 18 .done)))))))))) (.alt 5 (.alt 3 (.alt 9 (.one 14 (.val 15 (.one 16 (.val 17 (.one 18 .done))))) (.one 14 (.one 9 (.val 15 (.one 16 (.val 17 (.one 18 .done))))))) (.alt 9 (.alt 3 (.one 14 (.val 15 (.one 16 (.val 17 (.one 18 .done))))) (.one 14 (.one 3 (.val 15 (.one 16 (.val 17 (.one 18 .done))))))) (.one 14 (.alt 3 (.one 9 (.val 15 (.one 16 (.val 17 (.one 18 .done))))) (.one 9 (.one 3 (.val 15 (.one 16 (.val 17 (.one 18 .done)))))))))) (.alt 9 (.alt 3 (.alt 5 (.one 14 (.val 15 (.one 16 (.val 17 (.one 18 .done))))) (.one 14 (.one 5 (.val 15 (.one 16 (.val 17 (.one 18 .done))))))) (.alt 5 (.alt 3 (.one 14 (.val 15 (.one 16 (.val 17 (.one 18 .done))))) (.one 14 (.one 3 (.val 15 (.one 16 (.val 17 (.one 18 .done))))))) (.one 14 (.alt 3 (.one 5 (.val 15 (.one 16 (.val 17 (.one 18 .done))))) (.one 5 (.one 3 (.val 15 (.one 16 (.val 17 (.one 18 .done)))))))))) (.one 14 (.alt 3 (.alt 5 (.one 9 (.val 15 (.one 16 (.val 17 (.one 18 .done))))) (.one 9 (.one 5 (.val 15 (.one 16 (.val 17 (.one 18 .done))))))) (.alt 5 (.alt 3 (.one 9 (.val 15 (.one 16 (.val 17 (.one 18 .done))))) (.one 9 (.one 3 (.val 15 (.one 16 (.val 17 (.one 18 .done))))))) (.one 9 (.alt 3 (.one 5 (.val 15 (.one 16 (.val 17 (.one 18 .done))))) (.one 5 (.one 3 (.val 15 (.one 16 (.val 17 (.one 18 .done)))))))))))))) (.one 14 (.alt 3 (.alt 5 (.alt 9 (.val 15 (.alt 11 (.one 16 (.val 17 (.one 18 .done))) (.one 16 (.one 11 (.val 17 (.one 18 .done)))))) (.one 11 (.one 9 (.val 15 (.one 16 (.val 17 (.one 18 .done))))))) (.alt 9 (.alt 5 (.val 15 (.alt 11 (.one 16 (.val 17 (.one 18 .done))) (.one 16 (.one 11 (.val 17 (.one 18 .done)))))) (.one 11 (.one 5 (.val 15 (.one 16 (.val 17 (.one 18 .done))))))) (.one 11 (.alt 5 (.one 9 (.val 15 (.one 16 (.val 17 (.one 18 .done))))) (.one 9 (.one 5 (.val 15 (.one 16 (.val 17 (.one 18 .done)))))))))) (.alt 5 (.alt 3 (.alt 9 (.val 15 (.alt 11 (.one 16 (.val 17 (.one 18 .done))) (.one 16 (.one 11 (.val 17 (.one 18 .done)))))) (.one 11 (.one 9 (.val 15 (.one 16 (.val 17 (.one 18 .done))))))) (.alt 9 (.alt 3 (.val 15 (.alt 11 (.one 16 (.val 17 (.one 18 .done))) (.one 16 (.one 11 (.val 17 (.one 18 .done)))))) (.one 11 (.one 3 (.val 15 (.one 16 (.val 17 (.one 18 .done))))))) (.one 11 (.alt 3 (.one 9 (.val 15 (.one 16 (.val 17 (.one 18 .done))))) (.one 9 (.one 3 (.val 15 (.one 16 (.val 17 (.one 18 .done)))))))))) (.alt 9 (.alt 3 (.alt 5 (.val 15 (.alt 11 (.one 16 (.val 17 (.one 18 .done))) (.one 16 (.one 11 (.val 17 (.one 18 .done)))))) (.one 11 (.one 5 (.val 15 (.one 16 (.val 17 (.one 18 .done))))))) (.alt 5 (.alt 3 (.val 15 (.alt 11 (.one 16 (.val 17 (.one 18 .done))) (.one 16 (.one 11 (.val 17 (.one 18 .done)))))) (.one 11 (.one 3 (.val 15 (.one 16 (.val 17 (.one 18 .done))))))) (.one 11 (.alt 3 (.one 5 (.val 15 (.one 16 (.val 17 (.one 18 .done))))) (.one 5 (.one 3 (.val 15 (.one 16 (.val 17 (.one 18 .done)))))))))) (.one 11 (.alt 3 (.alt 5 (.one 9 (.val 15 (.one 16 (.val 17 (.one 18 .done))))) (.one 9 (.one 5 (.val 15 (.one 16 (.val 17 (.one 18 .done))))))) (.alt 5 (.alt 3 (.one 9 (.val 15 (.one 16 (.val 17 (.one 18 .done))))) (.one 9 (.one 3 (.val 15 (.one 16 (.val 17 (.one 18 .done))))))) (.one 9 (.alt 3 (.one 5 (.val 15 (.one 16 (.val 17 (.one 18 .done))))) (.one 5 (.one 3 (.val 15 (.one 16 (.val 17 (.one 18 .done)))))))))))))))))))))))))))))) (F := L_impl_World_apply_25.F) (eid := 0) (FX := L_impl_World_apply_25.FX) (FR := L_impl_World_apply_25.FR) (sh := bo_impl_World_apply_25) bad_ok tabOk t_impl_World_apply mixed (by kernel_rfl) (by kernel_rfl) ⟨fun s => by kernel_rfl, fun s => by kernel_rfl, fun s => by kernel_rfl, fun s => by kernel_rfl, fun s => by kernel_rfl, fun s => by kernel_rfl, fun s => by kernel_rfl, fun s => by kernel_rfl, fun s => by kernel_rfl, fun s => by kernel_rfl, fun s => by kernel_rfl, fun s => by kernel_rfl, fun s => by kernel_rfl, fun s => by kernel_rfl, fun s => by kernel_rfl, fun s => by kernel_rfl, fun s => by kernel_rfl, fun s => by kernel_rfl, fun s => by kernel_rfl, fun s => by kernel_rfl, fun s => by kernel_rfl, fun s => by kernel_rfl, fun s => by kernel_rfl, fun s => by kernel_rfl, fun s => by kernel_rfl, fun s => by kernel_rfl, fun s => by kernel_rfl, fun s => by kernel_rfl, fun s => by kernel_rfl, fun s => by kernel_rfl, fun s => by kernel_rfl, fun s => by kernel_rfl, fun s => by kernel_rfl, fun s => by kernel_rfl, fun s => by kernel_rfl, fun s => by kernel_rfl, fun s => by kernel_rfl, fun s => by kernel_rfl, fun s => by kernel_rfl, fun s => by kernel_rfl, fun s => by kernel_rfl, fun s => by kernel_rfl, fun s => by kernel_rfl, fun s => by kernel_rfl, fun s => by kernel_rfl, fun s => by kernel_rfl, fun s => by kernel_rfl, fun s => by kernel_rfl, fun s => by kernel_rfl, fun s => by kernel_rfl, fun s => by kernel_rfl, fun s => by kernel_rfl, fun s => by kernel_rfl, fun s => by kernel_rfl, fun s => by kernel_rfl, fun s => by kernel_rfl, fun s => by kernel_rfl, fun s => by kernel_rfl, fun s => by kernel_rfl, fun s => by kernel_rfl, fun s => by kernel_rfl, fun s => by kernel_rfl, fun s => by kernel_rfl, fun s => by kernel_rfl, fun s => by kernel_rfl, fun s => by kernel_rfl, fun s => by kernel_rfl, fun s => by kernel_rfl, fun s => by kernel_rfl, fun s => by kernel_rfl, fun s => by kernel_rfl, fun s => by kernel_rfl, fun s => by kernel_rfl, fun s => by kernel_rfl, fun s => by kernel_rfl, fun s => by kernel_rfl, fun s => by kernel_rfl, fun s => by kernel_rfl, fun s => by kernel_rfl, fun s => by kernel_rfl, fun s => by kernel_rfl, fun s => by kernel_rfl, fun s => by kernel_rfl, fun s => by kernel_rfl, fun s => by kernel_rfl, fun s => by kernel_rfl, fun s => by kernel_rfl, fun s => by kernel_rfl, fun s => by kernel_rfl, fun s => by kernel_rfl, fun s => by kernel_rfl, fun s => by kernel_rfl, fun s => by kernel_rfl, fun s => by kernel_rfl, fun s => by kernel_rfl, fun s => by kernel_rfl, fun s => by kernel_rfl, fun s => by kernel_rfl, fun s => by kernel_rfl, fun s => by kernel_rfl, fun s => by kernel_rfl, fun s => by kernel_rfl, fun s => by kernel_rfl, fun s => by kernel_rfl, fun s => by kernel_rfl, fun s => by kernel_rfl, fun s => by kernel_rfl, fun s => by kernel_rfl, fun s => by kernel_rfl, fun s => by kernel_rfl, fun s => by kernel_rfl, fun s => by kernel_rfl, fun s => by kernel_rfl, fun s => by kernel_rfl, fun s => by kernel_rfl, fun s => by kernel_rfl, fun s => by kernel_rfl, fun s => by kernel_rfl, fun s => by kernel_rfl, fun s => by kernel_rfl, fun s => by kernel_rfl, fun s => by kernel_rfl, fun s => by kernel_rfl, fun s => by kernel_rfl, fun s => by kernel_rfl, fun s => by kernel_rfl, fun s => by kernel_rfl, fun s => by kernel_rfl, fun s => by kernel_rfl, fun s => by kernel_rfl, fun s => by kernel_rfl, fun s => by kernel_rfl, fun s => by kernel_rfl, fun s => by kernel_rfl, fun s => by kernel_rfl, fun s => by kernel_rfl, fun s => by kernel_rfl, fun s => by kernel_rfl, fun s => by kernel_rfl, fun s => by kernel_rfl, fun s => by kernel_rfl, fun s => by kernel_rfl, fun s => by kernel_rfl, fun s => by kernel_rfl, trivial⟩
theorem p_impl_World_apply : GC Tryz.prog 52 e_impl_World_apply := gc_ofm (G := g_impl_World_apply) (c := Tryz.f52.body.getD .skip) bad_ok tabOk t_impl_World_apply mixed Tryz.func52 (by kernel_rfl) Tryz.ntmps52 (code_ok2 (G := g_impl_World_apply) (n := 0) (m := 4) (by kernel_rfl) (by kernel_rfl) trivial (by kernel_rfl) ⟨⟨⟨⟨trivial, reg_at (L0 := L_impl_World_apply_11) (by kernel_rfl) k_impl_World_apply_11⟩, reg_at (L0 := L_impl_World_apply_17) (by kernel_rfl) k_impl_World_apply_17⟩, reg_at (L0 := L_impl_World_apply_20) (by kernel_rfl) k_impl_World_apply_20⟩, reg_at (L0 := L_impl_World_apply_25) (by kernel_rfl) k_impl_World_apply_25⟩) [5] (fun s => by kernel_rfl)
def e_impl_WorldDo : Entry := ⟨⟨[.c (.agg [(.b (.int .i64)), (.b (.sl true .lk)), (.b (.sl true .bool)), (.b (.sl true .int)), (.b (.sl true .db)), (.b (.sl true .pk))]), .c (.agg [(.b (.int .i64)), (.b (.int .i64))])], []⟩, [.int, .ls .lk, .ls .bool, .ls .int, .ls .db, .ls .pk, .int, .int], ⟨[.c (.agg [(.b (.int .i64)), (.own 0), (.own 1), (.own 2), (.own 3), (.own 4)])], [.row 45 .lk, .row 4 .bool, .row 3 .int, .row 47 .db, .row 55 .pk]⟩, [.int, .ls .lk, .ls .bool, .ls .int, .ls .db, .ls .pk], sh_impl_WorldDo⟩
def g_impl_WorldDo : Env := mkEnv tab [(51, [], e_impl_copyWorld), (15, [], e_impl_WorldValid), (52, [], e_impl_World_apply)] 15 0 [] []
theorem t_impl_WorldDo : CtrOk Tryz.prog g_impl_WorldDo.Γ := ctr_ok (l := [(51, [], e_impl_copyWorld), (15, [], e_impl_WorldValid), (52, [], e_impl_World_apply)]) ⟨⟨p_impl_copyWorld, Tryz.call51⟩, ⟨⟨p_impl_WorldValid, Tryz.call15⟩, ⟨⟨p_impl_World_apply, Tryz.call52⟩, trivial⟩⟩⟩
theorem p_impl_WorldDo : GC Tryz.prog 18 e_impl_WorldDo := gc_of (G := g_impl_WorldDo) (c := Tryz.f18.body.getD .skip) bad_ok tabOk t_impl_WorldDo mixed Tryz.func18 (by kernel_rfl) Tryz.ntmps18 (code_ok' (G := g_impl_WorldDo) (n := 0) (by kernel_rfl) (by kernel_rfl) trivial (by kernel_rfl)) (fun s => by kernel_rfl)
end Go.Proofs.YtojdflifijpffaaGreat
end
section
namespace Go.Proofs.YtojdflifijpffaaGreat
open Go.RowKit
set_option maxRecDepth 100000
def bo_spec_l91Lsa_3 (s : (Int × List Int × Int × Int × Int × List En × Int × Int × List En × Unit)) : Option ((Int × List Int × Int × Int × Int × List En × Int × Int × List En × Unit) ⊕ ((List Int × Int × Int × Int × List En × Int × Int × List En × Unit) ⊕ Unit)) := (bif decide ((s.1 < (6 : Int))) then (bif (!(decide ((s.1 = s.2.2.2.2.2.2.1)))) then (sh_spec_l6Rd_pick (((2 : Int), (s.2.1, (s.2.2.1, ()))))).bind fun r0 => (bif decide ((r0.1 = (0 : Int))) then (sh_spec_l6Rd_pick (((3 : Int), (r0.2.1, (r0.2.2.1, ()))))).bind fun r1 => (bif decide (((List.length s.2.2.2.2.2.2.2.2.1 + List.length ([(En.mk s.1 (wrap64 (((1 : Int) + r1.1))))])) ≤ (33554432 : Nat))) then some (Sum.inl ((wrap64 ((s.1 + (1 : Int))), r1.2.1, r1.2.2.1, s.2.2.2.1, s.2.2.2.2.1, s.2.2.2.2.2.1, s.2.2.2.2.2.2.1, s.2.2.2.2.2.2.2.1, (s.2.2.2.2.2.2.2.2.1 ++ [(En.mk s.1 (wrap64 (((1 : Int) + r1.1))))]), ()))) else none) else some (Sum.inl ((wrap64 ((s.1 + (1 : Int))), r0.2.1, r0.2.2.1, s.2.2.2.1, s.2.2.2.2.1, s.2.2.2.2.2.1, s.2.2.2.2.2.2.1, s.2.2.2.2.2.2.2.1, s.2.2.2.2.2.2.2.2.1, ())))) else some (Sum.inl ((wrap64 ((s.1 + (1 : Int))), s.2.1, s.2.2.1, s.2.2.2.1, s.2.2.2.2.1, s.2.2.2.2.2.1, s.2.2.2.2.2.2.1, s.2.2.2.2.2.2.2.1, s.2.2.2.2.2.2.2.2.1, ())))) else some (Sum.inr (Sum.inl ((s.2.1, s.2.2.1, s.2.2.2.1, s.2.2.2.2.1, s.2.2.2.2.2.1, s.2.2.2.2.2.2.1, s.2.2.2.2.2.2.2.1, s.2.2.2.2.2.2.2.2.1, ())))))
def sh_spec_l91Lsa (s : (List Int × Int × Unit)) : Option (Int × Int × List Int × Int × List En × Unit) := (sh_spec_l6Rd_pick (((6 : Int), (s.1, (s.2.1, ()))))).bind fun r0 => (sh_spec_l6Rd_pick (((4 : Int), (r0.2.1, (r0.2.2.1, ()))))).bind fun r1 => (lp bo_spec_l91Lsa_3 fuel (((0 : Int), (r1.2.1, (r1.2.2.1, ((0 : Int), ((0 : Int), (([] : List En), (r0.1, (wrap64 (((1 : Int) + r1.1)), (([] : List En), ()))))))))))).bind fun r2 => (match r2 with | .inl x3 => (sh_spec_l6Rd_pick (((30 : Int), (x3.1, (x3.2.1, ()))))).bind fun r4 => (bif decide ((r4.1 = (0 : Int))) then (sh_spec_l6Rd_pick (((3 : Int), (r4.2.1, (r4.2.2.1, ()))))).bind fun r5 => (bif inR r5.1 (List.length ([(0 : Int), (99 : Int), (100 : Int)])) then some ((x3.2.2.2.2.2.1, at! .int ([(0 : Int), (99 : Int), (100 : Int)]) (Int.toNat r5.1), r5.2.1, r5.2.2.1, x3.2.2.2.2.2.2.2.1, ())) else none) else (bif decide ((r4.1 = (1 : Int))) then (sh_spec_l6Rd_pick (((10 : Int), (r4.2.1, (r4.2.2.1, ()))))).bind fun r6 => some ((wrap64 ((r6.1 - (1 : Int))), x3.2.2.2.2.2.2.1, r6.2.1, r6.2.2.1, x3.2.2.2.2.2.2.2.1, ())) else (bif decide ((r4.1 = (2 : Int))) then (sh_spec_l6Rd_pick (((10 : Int), (r4.2.1, (r4.2.2.1, ()))))).bind fun r7 => (sh_spec_l6Rd_pick (((22 : Int), (r7.2.1, (r7.2.2.1, ()))))).bind fun r8 => (bif decide (((List.length x3.2.2.2.2.2.2.2.1 + List.length ([(En.mk (wrap64 ((r7.1 - (1 : Int)))) r8.1)])) ≤ (33554432 : Nat))) then some ((x3.2.2.2.2.2.1, x3.2.2.2.2.2.2.1, r8.2.1, r8.2.2.1, (x3.2.2.2.2.2.2.2.1 ++ [(En.mk (wrap64 ((r7.1 - (1 : Int)))) r8.1)]), ())) else none) else some ((x3.2.2.2.2.2.1, x3.2.2.2.2.2.2.1, r4.2.1, r4.2.2.1, x3.2.2.2.2.2.2.2.1, ()))))) | .inr _ => none)
def bo_spec_l91Db_4 (s : (Int × Int × List Int × Int × List Ls × Unit)) : Option ((Int × Int × List Int × Int × List Ls × Unit) ⊕ ((List Int × Int × List Ls × Unit) ⊕ Unit)) := (bif decide ((s.2.1 < s.1)) then (sh_spec_l91Lsa ((s.2.2.1, (s.2.2.2.1, ())))).bind fun r0 => (sh_spec_DbPut ((s.2.2.2.2.1, (r0.1, (r0.2.1, (r0.2.2.2.2.1, ())))))).bind fun r1 => (bif decide ((r1.1 = (0 : Int))) then some (Sum.inl ((s.1, wrap64 ((s.2.1 + (1 : Int))), r0.2.2.1, r0.2.2.2.1, r1.2.1, ()))) else some (Sum.inl ((s.1, wrap64 ((s.2.1 + (1 : Int))), r0.2.2.1, r0.2.2.2.1, s.2.2.2.2.1, ())))) else some (Sum.inr (Sum.inl ((s.2.2.1, s.2.2.2.1, s.2.2.2.2.1, ())))))
def sh_spec_l91Db (s : (List Int × Int × Unit)) : Option (List Int × Int × List Ls × Unit) := (sh_spec_l6Rd_pick (((8 : Int), (s.1, (s.2.1, ()))))).bind fun r0 => (lp bo_spec_l91Db_4 fuel ((r0.1, ((0 : Int), (r0.2.1, (r0.2.2.1, (([] : List Ls), ()))))))).bind fun r1 => (match r1 with | .inl x2 => (sh_spec_l6Rd_pick (((20 : Int), (x2.1, (x2.2.1, ()))))).bind fun r3 => (bif decide ((r3.1 = (0 : Int))) then (sh_spec_l91Lsa ((r3.2.1, (r3.2.2.1, ())))).bind fun r4 => (bif decide (((List.length x2.2.2.1 + List.length ([(Ls.mk r4.1 r4.2.1 r4.2.2.2.2.1)])) ≤ (33554432 : Nat))) then some ((r4.2.2.1, r4.2.2.2.1, (x2.2.2.1 ++ [(Ls.mk r4.1 r4.2.1 r4.2.2.2.2.1)]), ())) else none) else some ((r3.2.1, r3.2.2.1, x2.2.2.1, ()))) | .inr _ => none)
def sh_spec_l92Event (s : (Int × List Lk × List Bool × List Int × List (List Ls) × List Pk × List Int × Int × Unit)) : Option (Int × Int × List Int × Int × Unit) := (sh_spec_l6Rd_pick ((max (nI (List.length s.2.2.1)) ((1 : Int)), (s.2.2.2.2.2.2.1, (s.2.2.2.2.2.2.2.1, ()))))).bind fun r0 => (sh_spec_l6Rd_pick ((max (nI (List.length s.2.2.2.2.2.1)) ((1 : Int)), (r0.2.1, (r0.2.2.1, ()))))).bind fun r1 => (sh_spec_l6Rd_pick (((12 : Int), (r1.2.1, (r1.2.2.1, ()))))).bind fun r2 => (bif decide ((r2.1 = (0 : Int))) then (bif decide ((r2.1 = (0 : Int))) then (sh_spec_l6Rd_pick (((40 : Int), (r2.2.1, (r2.2.2.1, ()))))).bind fun r3 => (bif decide ((r3.1 = (0 : Int))) then (sh_spec_l6Rd_pick (((9 : Int), (r3.2.1, (r3.2.2.1, ()))))).bind fun r4 => some ((wrap64 ((r4.1 - (1 : Int))), r0.1, r4.2.1, r4.2.2.1, ())) else (bif decide ((r3.1 = (1 : Int))) then (sh_spec_l6Rd_pick (((20 : Int), (r3.2.1, (r3.2.2.1, ()))))).bind fun r5 => some (((1 : Int), wrap64 ((r5.1 - (2 : Int))), r5.2.1, r5.2.2.1, ())) else some (((1 : Int), r0.1, r3.2.1, r3.2.2.1, ())))) else (bif decide ((r2.1 = (2 : Int))) then (sh_spec_l6Rd_pick (((40 : Int), (r2.2.1, (r2.2.2.1, ()))))).bind fun r6 => (bif decide ((r6.1 = (0 : Int))) then (sh_spec_l6Rd_pick (((9 : Int), (r6.2.1, (r6.2.2.1, ()))))).bind fun r7 => some ((wrap64 ((r7.1 - (1 : Int))), r0.1, r7.2.1, r7.2.2.1, ())) else (bif decide ((r6.1 = (1 : Int))) then (sh_spec_l6Rd_pick (((20 : Int), (r6.2.1, (r6.2.2.1, ()))))).bind fun r8 => some (((2 : Int), wrap64 ((r8.1 - (2 : Int))), r8.2.1, r8.2.2.1, ())) else some (((2 : Int), r0.1, r6.2.1, r6.2.2.1, ())))) else (bif decide ((r2.1 = (3 : Int))) then (sh_spec_l6Rd_pick (((40 : Int), (r2.2.1, (r2.2.2.1, ()))))).bind fun r9 => (bif decide ((r9.1 = (0 : Int))) then (sh_spec_l6Rd_pick (((9 : Int), (r9.2.1, (r9.2.2.1, ()))))).bind fun r10 => some ((wrap64 ((r10.1 - (1 : Int))), r1.1, r10.2.1, r10.2.2.1, ())) else (bif decide ((r9.1 = (1 : Int))) then (sh_spec_l6Rd_pick (((20 : Int), (r9.2.1, (r9.2.2.1, ()))))).bind fun r11 => some (((4 : Int), wrap64 ((r11.1 - (2 : Int))), r11.2.1, r11.2.2.1, ())) else some (((4 : Int), r1.1, r9.2.1, r9.2.2.1, ())))) else (bif decide ((r2.1 = (4 : Int))) then (sh_spec_l6Rd_pick (((40 : Int), (r2.2.1, (r2.2.2.1, ()))))).bind fun r12 => (bif decide ((r12.1 = (0 : Int))) then (sh_spec_l6Rd_pick (((9 : Int), (r12.2.1, (r12.2.2.1, ()))))).bind fun r13 => some ((wrap64 ((r13.1 - (1 : Int))), r1.1, r13.2.1, r13.2.2.1, ())) else (bif decide ((r12.1 = (1 : Int))) then (sh_spec_l6Rd_pick (((20 : Int), (r12.2.1, (r12.2.2.1, ()))))).bind fun r14 => some (((5 : Int), wrap64 ((r14.1 - (2 : Int))), r14.2.1, r14.2.2.1, ())) else some (((5 : Int), r1.1, r12.2.1, r12.2.2.1, ())))) else (bif decide ((r2.1 = (5 : Int))) then (sh_spec_l6Rd_pick (((40 : Int), (r2.2.1, (r2.2.2.1, ()))))).bind fun r15 => (bif decide ((r15.1 = (0 : Int))) then (sh_spec_l6Rd_pick (((9 : Int), (r15.2.1, (r15.2.2.1, ()))))).bind fun r16 => some ((wrap64 ((r16.1 - (1 : Int))), r0.1, r16.2.1, r16.2.2.1, ())) else (bif decide ((r15.1 = (1 : Int))) then (sh_spec_l6Rd_pick (((20 : Int), (r15.2.1, (r15.2.2.1, ()))))).bind fun r17 => some (((6 : Int), wrap64 ((r17.1 - (2 : Int))), r17.2.1, r17.2.2.1, ())) else some (((6 : Int), r0.1, r15.2.1, r15.2.2.1, ())))) else (sh_spec_l6Rd_pick (((40 : Int), (r2.2.1, (r2.2.2.1, ()))))).bind fun r18 => (bif decide ((r18.1 = (0 : Int))) then (sh_spec_l6Rd_pick (((9 : Int), (r18.2.1, (r18.2.2.1, ()))))).bind fun r19 => some ((wrap64 ((r19.1 - (1 : Int))), r1.1, r19.2.1, r19.2.2.1, ())) else (bif decide ((r18.1 = (1 : Int))) then (sh_spec_l6Rd_pick (((20 : Int), (r18.2.1, (r18.2.2.1, ()))))).bind fun r20 => some (((3 : Int), wrap64 ((r20.1 - (2 : Int))), r20.2.1, r20.2.2.1, ())) else some (((3 : Int), r1.1, r18.2.1, r18.2.2.1, ()))))))))) else (bif decide ((r2.1 = (1 : Int))) then (sh_spec_l6Rd_pick (((40 : Int), (r2.2.1, (r2.2.2.1, ()))))).bind fun r21 => (bif decide ((r21.1 = (0 : Int))) then (sh_spec_l6Rd_pick (((9 : Int), (r21.2.1, (r21.2.2.1, ()))))).bind fun r22 => some ((wrap64 ((r22.1 - (1 : Int))), r0.1, r22.2.1, r22.2.2.1, ())) else (bif decide ((r21.1 = (1 : Int))) then (sh_spec_l6Rd_pick (((20 : Int), (r21.2.1, (r21.2.2.1, ()))))).bind fun r23 => some (((1 : Int), wrap64 ((r23.1 - (2 : Int))), r23.2.1, r23.2.2.1, ())) else some (((1 : Int), r0.1, r21.2.1, r21.2.2.1, ())))) else (bif decide ((r2.1 = (2 : Int))) then (sh_spec_l6Rd_pick (((40 : Int), (r2.2.1, (r2.2.2.1, ()))))).bind fun r24 => (bif decide ((r24.1 = (0 : Int))) then (sh_spec_l6Rd_pick (((9 : Int), (r24.2.1, (r24.2.2.1, ()))))).bind fun r25 => some ((wrap64 ((r25.1 - (1 : Int))), r0.1, r25.2.1, r25.2.2.1, ())) else (bif decide ((r24.1 = (1 : Int))) then (sh_spec_l6Rd_pick (((20 : Int), (r24.2.1, (r24.2.2.1, ()))))).bind fun r26 => some (((2 : Int), wrap64 ((r26.1 - (2 : Int))), r26.2.1, r26.2.2.1, ())) else some (((2 : Int), r0.1, r24.2.1, r24.2.2.1, ())))) else (bif decide ((r2.1 = (3 : Int))) then (sh_spec_l6Rd_pick (((40 : Int), (r2.2.1, (r2.2.2.1, ()))))).bind fun r27 => (bif decide ((r27.1 = (0 : Int))) then (sh_spec_l6Rd_pick (((9 : Int), (r27.2.1, (r27.2.2.1, ()))))).bind fun r28 => some ((wrap64 ((r28.1 - (1 : Int))), r1.1, r28.2.1, r28.2.2.1, ())) else (bif decide ((r27.1 = (1 : Int))) then (sh_spec_l6Rd_pick (((20 : Int), (r27.2.1, (r27.2.2.1, ()))))).bind fun r29 => some (((4 : Int), wrap64 ((r29.1 - (2 : Int))), r29.2.1, r29.2.2.1, ())) else some (((4 : Int), r1.1, r27.2.1, r27.2.2.1, ())))) else (bif decide ((r2.1 = (4 : Int))) then (sh_spec_l6Rd_pick (((40 : Int), (r2.2.1, (r2.2.2.1, ()))))).bind fun r30 => (bif decide ((r30.1 = (0 : Int))) then (sh_spec_l6Rd_pick (((9 : Int), (r30.2.1, (r30.2.2.1, ()))))).bind fun r31 => some ((wrap64 ((r31.1 - (1 : Int))), r1.1, r31.2.1, r31.2.2.1, ())) else (bif decide ((r30.1 = (1 : Int))) then (sh_spec_l6Rd_pick (((20 : Int), (r30.2.1, (r30.2.2.1, ()))))).bind fun r32 => some (((5 : Int), wrap64 ((r32.1 - (2 : Int))), r32.2.1, r32.2.2.1, ())) else some (((5 : Int), r1.1, r30.2.1, r30.2.2.1, ())))) else (bif decide ((r2.1 = (5 : Int))) then (sh_spec_l6Rd_pick (((40 : Int), (r2.2.1, (r2.2.2.1, ()))))).bind fun r33 => (bif decide ((r33.1 = (0 : Int))) then (sh_spec_l6Rd_pick (((9 : Int), (r33.2.1, (r33.2.2.1, ()))))).bind fun r34 => some ((wrap64 ((r34.1 - (1 : Int))), r0.1, r34.2.1, r34.2.2.1, ())) else (bif decide ((r33.1 = (1 : Int))) then (sh_spec_l6Rd_pick (((20 : Int), (r33.2.1, (r33.2.2.1, ()))))).bind fun r35 => some (((6 : Int), wrap64 ((r35.1 - (2 : Int))), r35.2.1, r35.2.2.1, ())) else some (((6 : Int), r0.1, r33.2.1, r33.2.2.1, ())))) else (sh_spec_l6Rd_pick (((40 : Int), (r2.2.1, (r2.2.2.1, ()))))).bind fun r36 => (bif decide ((r36.1 = (0 : Int))) then (sh_spec_l6Rd_pick (((9 : Int), (r36.2.1, (r36.2.2.1, ()))))).bind fun r37 => some ((wrap64 ((r37.1 - (1 : Int))), r1.1, r37.2.1, r37.2.2.1, ())) else (bif decide ((r36.1 = (1 : Int))) then (sh_spec_l6Rd_pick (((20 : Int), (r36.2.1, (r36.2.2.1, ()))))).bind fun r38 => some (((3 : Int), wrap64 ((r38.1 - (2 : Int))), r38.2.1, r38.2.2.1, ())) else some (((3 : Int), r1.1, r36.2.1, r36.2.2.1, ()))))))))))
def bo_spec_l92World_4 (s : (Int × Int × List Int × Int × Int × List Lk × List Bool × List Int × List (List Ls) × List Pk × Int × List Lk × List Bool × List Int × List (List Ls) × List Pk × Unit)) : Option ((Int × Int × List Int × Int × Int × List Lk × List Bool × List Int × List (List Ls) × List Pk × Int × List Lk × List Bool × List Int × List (List Ls) × List Pk × Unit) ⊕ ((List Int × Int × Int × List Lk × List Bool × List Int × List (List Ls) × List Pk × Int × List Lk × List Bool × List Int × List (List Ls) × List Pk × Unit) ⊕ Unit)) := (bif decide ((s.2.1 < s.1)) then (sh_spec_l92Event ((s.2.2.2.2.2.2.2.2.2.2.1, (s.2.2.2.2.2.2.2.2.2.2.2.1, (s.2.2.2.2.2.2.2.2.2.2.2.2.1, (s.2.2.2.2.2.2.2.2.2.2.2.2.2.1, (s.2.2.2.2.2.2.2.2.2.2.2.2.2.2.1, (s.2.2.2.2.2.2.2.2.2.2.2.2.2.2.2.1, (s.2.2.1, (s.2.2.2.1, ())))))))))).bind fun r0 => (sh_spec_l51Do ((s.2.2.2.2.2.2.2.2.2.2.1, (s.2.2.2.2.2.2.2.2.2.2.2.1, (s.2.2.2.2.2.2.2.2.2.2.2.2.1, (s.2.2.2.2.2.2.2.2.2.2.2.2.2.1, (s.2.2.2.2.2.2.2.2.2.2.2.2.2.2.1, (s.2.2.2.2.2.2.2.2.2.2.2.2.2.2.2.1, (r0.1, (r0.2.1, ())))))))))).bind fun r1 => some (Sum.inl ((s.1, wrap64 ((s.2.1 + (1 : Int))), r0.2.2.1, r0.2.2.2.1, s.2.2.2.2.1, s.2.2.2.2.2.1, s.2.2.2.2.2.2.1, s.2.2.2.2.2.2.2.1, s.2.2.2.2.2.2.2.2.1, s.2.2.2.2.2.2.2.2.2.1, r1.1, r1.2.1, r1.2.2.1, r1.2.2.2.1, r1.2.2.2.2.1, r1.2.2.2.2.2.1, ()))) else some (Sum.inr (Sum.inl ((s.2.2.1, s.2.2.2.1, s.2.2.2.2.1, s.2.2.2.2.2.1, s.2.2.2.2.2.2.1, s.2.2.2.2.2.2.2.1, s.2.2.2.2.2.2.2.2.1, s.2.2.2.2.2.2.2.2.2.1, s.2.2.2.2.2.2.2.2.2.2.1, s.2.2.2.2.2.2.2.2.2.2.2.1, s.2.2.2.2.2.2.2.2.2.2.2.2.1, s.2.2.2.2.2.2.2.2.2.2.2.2.2.1, s.2.2.2.2.2.2.2.2.2.2.2.2.2.2.1, s.2.2.2.2.2.2.2.2.2.2.2.2.2.2.2.1, ())))))
def sh_spec_l92World (s : (List Int × Int × Unit)) : Option (Int × List Lk × List Bool × List Int × List (List Ls) × List Pk × List Int × Int × Unit) := (sh_spec_l91Graph ((s.1, (s.2.1, ())))).bind fun r0 => (sh_spec_WorldNew ((r0.1, (r0.2.2.2.1, ())))).bind fun r1 => (sh_spec_l6Rd_pick (((50 : Int), (r0.2.1, (r0.2.2.1, ()))))).bind fun r2 => (lp bo_spec_l92World_4 fuel ((r2.1, ((0 : Int), (r2.2.1, (r2.2.2.1, ((0 : Int), (([] : List Lk), (([] : List Bool), (([] : List Int), (([] : List (List Ls)), (([] : List Pk), (r1.1, (r1.2.2.1, (r1.2.2.2.1, (r1.2.2.2.2.1, (r1.2.2.2.2.2.1, (r1.2.2.2.2.2.2.1, ())))))))))))))))))).bind fun r3 => (match r3 with | .inl x4 => some ((x4.2.2.2.2.2.2.2.2.1, x4.2.2.2.2.2.2.2.2.2.1, x4.2.2.2.2.2.2.2.2.2.2.1, x4.2.2.2.2.2.2.2.2.2.2.2.1, x4.2.2.2.2.2.2.2.2.2.2.2.2.1, x4.2.2.2.2.2.2.2.2.2.2.2.2.2.1, x4.1, x4.2.1, ())) | .inr _ => none)
def sh_spec_l92Wrong (s : (List Int × Int × Unit)) : Option (Int × List Int × Int × List Lk × List Bool × List Int × List (List Ls) × List Pk × Unit) := (sh_spec_l92World ((s.1, (s.2.1, ())))).bind fun r0 => (sh_spec_l51Copy ((r0.1, (r0.2.1, (r0.2.2.1, (r0.2.2.2.1, (r0.2.2.2.2.1, (r0.2.2.2.2.2.1, ())))))))).bind fun r1 => (sh_spec_l6Rd_pick ((r1.1, (r0.2.2.2.2.2.2.1, (r0.2.2.2.2.2.2.2.1, ()))))).bind fun r2 => (sh_spec_l6Rd_pick (((9 : Int), (r2.2.1, (r2.2.2.1, ()))))).bind fun r3 => (bif decide ((r3.1 = (0 : Int))) then (sh_spec_l91Spoilt ((r3.2.1, (r3.2.2.1, ())))).bind fun r4 => some ((r4.1, r4.2.1, r4.2.2.1, r4.2.2.2.1, r1.2.2.1, r1.2.2.2.1, r1.2.2.2.2.1, r1.2.2.2.2.2.1, ())) else (bif decide ((r3.1 = (1 : Int))) then (bif decide (((0 : Int) < nI (List.length r1.2.2.1))) then (sh_spec_l6Rd_pick ((nI (List.length r1.2.2.1), (r3.2.1, (r3.2.2.1, ()))))).bind fun r5 => (bif inR r5.1 (List.length r1.2.2.1) then (bif inR r5.1 (List.length r1.2.2.1) then some ((r1.1, r5.2.1, r5.2.2.1, r1.2.1, List.set r1.2.2.1 (Int.toNat r5.1) ((!(at! .bool r1.2.2.1 (Int.toNat r5.1)))), r1.2.2.2.1, r1.2.2.2.2.1, r1.2.2.2.2.2.1, ())) else none) else none) else some ((r1.1, r3.2.1, r3.2.2.1, r1.2.1, r1.2.2.1, r1.2.2.2.1, r1.2.2.2.2.1, r1.2.2.2.2.2.1, ()))) else (bif decide ((r3.1 = (2 : Int))) then (sh_spec_l6Rd_pick (((12 : Int), (r3.2.1, (r3.2.2.1, ()))))).bind fun r6 => (bif inR r2.1 (List.length r1.2.2.2.1) then some ((r1.1, r6.2.1, r6.2.2.1, r1.2.1, r1.2.2.1, List.set r1.2.2.2.1 (Int.toNat r2.1) r6.1, r1.2.2.2.2.1, r1.2.2.2.2.2.1, ())) else none) else (bif decide ((r3.1 = (3 : Int))) then (sh_spec_l91Db ((r3.2.1, (r3.2.2.1, ())))).bind fun r7 => (bif inR r2.1 (List.length r1.2.2.2.2.1) then some ((r1.1, r7.1, r7.2.1, r1.2.1, r1.2.2.1, r1.2.2.2.1, List.set r1.2.2.2.2.1 (Int.toNat r2.1) r7.2.2.1, r1.2.2.2.2.2.1, ())) else none) else (bif decide ((r3.1 = (4 : Int))) then (sh_spec_l6Rd_pick (((9 : Int), (r3.2.1, (r3.2.2.1, ()))))).bind fun r8 => (sh_spec_l91Lsa ((r8.2.1, (r8.2.2.1, ())))).bind fun r9 => (bif decide (((List.length r1.2.2.2.2.2.1 + List.length ([(Pk.mk (wrap64 ((r8.1 - (1 : Int)))) ((Ls.mk r9.1 r9.2.1 r9.2.2.2.2.1)))])) ≤ (33554432 : Nat))) then some ((r1.1, r9.2.2.1, r9.2.2.2.1, r1.2.1, r1.2.2.1, r1.2.2.2.1, r1.2.2.2.2.1, (r1.2.2.2.2.2.1 ++ [(Pk.mk (wrap64 ((r8.1 - (1 : Int)))) ((Ls.mk r9.1 r9.2.1 r9.2.2.2.2.1)))]), ())) else none) else (bif decide ((r3.1 = (5 : Int))) then (bif inR r2.1 (List.length r1.2.2.2.2.1) then (bif decide (((0 : Int) < nI (List.length (at! .db r1.2.2.2.2.1 (Int.toNat r2.1))))) then (bif inR r2.1 (List.length r1.2.2.2.2.1) then (bif bnd2 ((1 : Int)) ((((List.length (at! .db r1.2.2.2.2.1 (Int.toNat r2.1))) : Nat) : Int)) (List.length (at! .db r1.2.2.2.2.1 (Int.toNat r2.1))) then (bif inR r2.1 (List.length r1.2.2.2.2.1) then some ((r1.1, r3.2.1, r3.2.2.1, r1.2.1, r1.2.2.1, r1.2.2.2.1, List.set r1.2.2.2.2.1 (Int.toNat r2.1) (List.take ((Int.toNat ((((List.length (at! .db r1.2.2.2.2.1 (Int.toNat r2.1))) : Nat) : Int)) - Int.toNat ((1 : Int)))) (List.drop (Int.toNat ((1 : Int))) (at! .db r1.2.2.2.2.1 (Int.toNat r2.1)))), r1.2.2.2.2.2.1, ())) else none) else none) else none) else some ((r1.1, r3.2.1, r3.2.2.1, r1.2.1, r1.2.2.1, r1.2.2.2.1, r1.2.2.2.2.1, r1.2.2.2.2.2.1, ()))) else none) else (bif decide ((r3.1 = (6 : Int))) then (bif decide (((List.length r1.2.2.1 + List.length ([true])) ≤ (33554432 : Nat))) then some ((r1.1, r3.2.1, r3.2.2.1, r1.2.1, (r1.2.2.1 ++ [true]), r1.2.2.2.1, r1.2.2.2.2.1, r1.2.2.2.2.2.1, ())) else none) else some ((r1.1, r3.2.1, r3.2.2.1, r1.2.1, r1.2.2.1, r1.2.2.2.1, r1.2.2.2.2.1, r1.2.2.2.2.2.1, ())))))))))
def sh_spec_DrawWorldDo (s : (List Int × Unit)) : Option (Int × List Lk × List Bool × List Int × List (List Ls) × List Pk × Int × Int × Unit) := (sh_spec_l6Open ((s.1, ()))).bind fun r0 => (sh_spec_l92World ((r0.1, (r0.2.1, ())))).bind fun r1 => (sh_spec_l92Event ((r1.1, (r1.2.1, (r1.2.2.1, (r1.2.2.2.1, (r1.2.2.2.2.1, (r1.2.2.2.2.2.1, (r1.2.2.2.2.2.2.1, (r1.2.2.2.2.2.2.2.1, ())))))))))).bind fun r2 => (sh_spec_l6Rd_pick (((12 : Int), (r2.2.2.1, (r2.2.2.2.1, ()))))).bind fun r3 => (bif decide ((r3.1 = (0 : Int))) then (sh_spec_l92Wrong ((r3.2.1, (r3.2.2.1, ())))).bind fun r4 => some ((r4.1, r4.2.2.2.1, r4.2.2.2.2.1, r4.2.2.2.2.2.1, r4.2.2.2.2.2.2.1, r4.2.2.2.2.2.2.2.1, r2.1, r2.2.1, ())) else some ((r1.1, r1.2.1, r1.2.2.1, r1.2.2.2.1, r1.2.2.2.2.1, r1.2.2.2.2.2.1, r2.1, r2.2.1, ())))
end Go.Proofs.YtojdflifijpffaaGreat
end
section
namespace Go.Proofs.YtojdflifijpffaaGreat
open Go.RowKit
set_option maxRecDepth 100000
def L_spec_l91Lsa_3 : Loop := ⟨⟨[0, 2, 3, 4], ⟨[.c (.one (.ptr 0 0)), .c (.one (.ptr 1 0)), .c (.one (.ptr 2 0)), .c (.one (.b (.int .i64)))], [.box 87 [(.b (.sl true .u8)), (.b (.int .i64))], .box 53 [(.b (.int .i64)), (.b (.int .i64)), (.b (.sl true .en))], .box 53 [(.b (.int .i64)), (.b (.int .i64)), (.own 3)], .row 92 .en]⟩, [.int, .ls .u8, .int, .int, .int, .ls .en, .int, .int, .ls .en]⟩, 0, ⟨[0, 2, 3], ⟨[.c (.one (.ptr 0 0)), .c (.one (.ptr 1 0)), .c (.one (.ptr 2 0))], [.box 87 [(.b (.sl true .u8)), (.b (.int .i64))], .box 53 [(.b (.int .i64)), (.b (.int .i64)), (.b (.sl true .en))], .box 53 [(.b (.int .i64)), (.b (.int .i64)), (.own 3)], .row 92 .en]⟩, [.ls .u8, .int, .int, .int, .ls .en, .int, .int, .ls .en]⟩, ⟨[999999], ⟨[.c (.one (.own 0))], []⟩, []⟩, lp bo_spec_l91Lsa_3 fuel⟩
def e_spec_l91Lsa : Entry := ⟨⟨[.c (.one (.ptr 0 0))], [.box 87 [(.b (.sl true .u8)), (.b (.int .i64))]]⟩, [.ls .u8, .int], ⟨[.c (.agg [(.b (.int .i64)), (.b (.int .i64)), (.own 1)])], [.box 87 [(.b (.sl true .u8)), (.b (.int .i64))], .row 92 .en]⟩, [.int, .int, .ls .u8, .int, .ls .en], sh_spec_l91Lsa⟩
def g_spec_l91Lsa : Env := mkEnv tab [(57, [], e_spec_l6Rd_pick)] 65 1 [(6, 8, [(0, true), (1, true), (2, true), (3, true), (4, false), (5, true), (6, true), (7, false)], [0]), (13, 9, [(0, true), (1, true), (2, true), (5, true), (3, false), (4, true), (6, false), (7, true), (8, false)], [0])] [(3, L_spec_l91Lsa_3)]
theorem t_spec_l91Lsa : CtrOk Tryz.prog g_spec_l91Lsa.Γ := ctr_ok (l := [(57, [], e_spec_l6Rd_pick)]) ⟨⟨p_spec_l6Rd_pick, Tryz.call57⟩, trivial⟩
theorem k_spec_l91Lsa_3 : LoopOk Tryz.prog 1 65 (nthC (Tryz.f68.body.getD .skip) 0) L_spec_l91Lsa_3 := loop_ok (G := g_spec_l91Lsa) (F := L_spec_l91Lsa_3.F) (eid := L_spec_l91Lsa_3.eid) (FX := L_spec_l91Lsa_3.FX) (FR := L_spec_l91Lsa_3.FR) (B := bo_spec_l91Lsa_3) (n := fuel) bad_ok tabOk t_spec_l91Lsa mixed (code_ok' (G := g_spec_l91Lsa) (n := 0) (by kernel_rfl) (by kernel_rfl) trivial (by kernel_rfl)) (fun s => by kernel_rfl)
theorem p_spec_l91Lsa : GC Tryz.prog 68 e_spec_l91Lsa := gc_of (G := g_spec_l91Lsa) (c := Tryz.f68.body.getD .skip) bad_ok tabOk t_spec_l91Lsa mixed Tryz.func68 (by kernel_rfl) Tryz.ntmps68 (code_ok' (G := g_spec_l91Lsa) (n := 1) (by kernel_rfl) (by kernel_rfl) ⟨trivial, loop_at (id := 3) (L0 := L_spec_l91Lsa_3) (by kernel_rfl) (by kernel_rfl) k_spec_l91Lsa_3⟩ (by kernel_rfl)) (fun s => by kernel_rfl)
def L_spec_l91Db_4 : Loop := ⟨⟨[0, 3, 4, 5], ⟨[.c (.one (.ptr 0 0)), .c (.one (.own 1)), .c (.one (.b (.int .i64))), .c (.one (.b (.int .i64)))], [.box 87 [(.b (.sl true .u8)), (.b (.int .i64))], .row 53 .ls]⟩, [.int, .int, .ls .u8, .int, .ls .ls]⟩, 0, ⟨[0, 3], ⟨[.c (.one (.ptr 0 0)), .c (.one (.own 1))], [.box 87 [(.b (.sl true .u8)), (.b (.int .i64))], .row 53 .ls]⟩, [.ls .u8, .int, .ls .ls]⟩, ⟨[999999], ⟨[.c (.one (.own 0))], []⟩, []⟩, lp bo_spec_l91Db_4 fuel⟩
def e_spec_l91Db : Entry := ⟨⟨[.c (.one (.ptr 0 0))], [.box 87 [(.b (.sl true .u8)), (.b (.int .i64))]]⟩, [.ls .u8, .int], ⟨[.c (.one (.own 1))], [.box 87 [(.b (.sl true .u8)), (.b (.int .i64))], .row 53 .ls]⟩, [.ls .u8, .int, .ls .ls], sh_spec_l91Db⟩
def g_spec_l91Db : Env := mkEnv tab [(107, [], e_spec_DbPut), (57, [], e_spec_l6Rd_pick), (68, [], e_spec_l91Lsa)] 35 1 [] [(4, L_spec_l91Db_4)]
theorem t_spec_l91Db : CtrOk Tryz.prog g_spec_l91Db.Γ := ctr_ok (l := [(107, [], e_spec_DbPut), (57, [], e_spec_l6Rd_pick), (68, [], e_spec_l91Lsa)]) ⟨⟨p_spec_DbPut, Tryz.call107⟩, ⟨⟨p_spec_l6Rd_pick, Tryz.call57⟩, ⟨⟨p_spec_l91Lsa, Tryz.call68⟩, trivial⟩⟩⟩
theorem k_spec_l91Db_4 : LoopOk Tryz.prog 1 35 (nthC (Tryz.f67.body.getD .skip) 0) L_spec_l91Db_4 := loop_ok (G := g_spec_l91Db) (F := L_spec_l91Db_4.F) (eid := L_spec_l91Db_4.eid) (FX := L_spec_l91Db_4.FX) (FR := L_spec_l91Db_4.FR) (B := bo_spec_l91Db_4) (n := fuel) bad_ok tabOk t_spec_l91Db mixed (code_ok' (G := g_spec_l91Db) (n := 0) (by kernel_rfl) (by kernel_rfl) trivial (by kernel_rfl)) (fun s => by kernel_rfl)
theorem p_spec_l91Db : GC Tryz.prog 67 e_spec_l91Db := gc_of (G := g_spec_l91Db) (c := Tryz.f67.body.getD .skip) bad_ok tabOk t_spec_l91Db mixed Tryz.func67 (by kernel_rfl) Tryz.ntmps67 (code_ok' (G := g_spec_l91Db) (n := 1) (by kernel_rfl) (by kernel_rfl) ⟨trivial, loop_at (id := 4) (L0 := L_spec_l91Db_4) (by kernel_rfl) (by kernel_rfl) k_spec_l91Db_4⟩ (by kernel_rfl)) (fun s => by kernel_rfl)
def e_spec_l92Event : Entry := ⟨⟨[.c (.one (.ptr 0 0)), .c (.agg [(.b (.int .i64)), (.b (.sl true .lk)), (.b (.sl true .bool)), (.b (.sl true .int)), (.b (.sl true .db)), (.b (.sl true .pk))])], [.box 87 [(.b (.sl true .u8)), (.b (.int .i64))]]⟩, [.int, .ls .lk, .ls .bool, .ls .int, .ls .db, .ls .pk, .ls .u8, .int], ⟨[.c (.agg [(.b (.int .i64)), (.b (.int .i64))])], [.box 87 [(.b (.sl true .u8)), (.b (.int .i64))]]⟩, [.int, .int, .ls .u8, .int], sh_spec_l92Event⟩
def g_spec_l92Event : Env := mkEnv tab [(57, [], e_spec_l6Rd_pick)] 58 1 [] []
theorem t_spec_l92Event : CtrOk Tryz.prog g_spec_l92Event.Γ := ctr_ok (l := [(57, [], e_spec_l6Rd_pick)]) ⟨⟨p_spec_l6Rd_pick, Tryz.call57⟩, trivial⟩
theorem p_spec_l92Event : GC Tryz.prog 56 e_spec_l92Event := gc_of (G := g_spec_l92Event) (c := Tryz.f56.body.getD .skip) bad_ok tabOk t_spec_l92Event mixed Tryz.func56 (by kernel_rfl) Tryz.ntmps56 (code_ok' (G := g_spec_l92Event) (n := 0) (by kernel_rfl) (by kernel_rfl) trivial (by kernel_rfl)) (fun s => by kernel_rfl)
def L_spec_l92World_4 : Loop := ⟨⟨[0, 2, 3, 5, 6], ⟨[.c (.one (.ptr 0 0)), .c (.one (.ptr 1 0)), .c (.one (.ptr 2 0)), .c (.one (.b (.int .i64))), .c (.one (.b (.int .i64)))], [.box 87 [(.b (.sl true .u8)), (.b (.int .i64))], .box 31 [(.b (.int .i64)), (.b (.sl true .lk)), (.b (.sl true .bool)), (.b (.sl true .int)), (.b (.sl true .db)), (.b (.sl true .pk))], .box 31 [(.b (.int .i64)), (.b (.sl true .lk)), (.b (.sl true .bool)), (.b (.sl true .int)), (.b (.sl true .db)), (.b (.sl true .pk))]]⟩, [.int, .int, .ls .u8, .int, .int, .ls .lk, .ls .bool, .ls .int, .ls .db, .ls .pk, .int, .ls .lk, .ls .bool, .ls .int, .ls .db, .ls .pk]⟩, 0, ⟨[2, 3], ⟨[.c (.one (.ptr 1 0)), .c (.one (.ptr 2 0))], [.box 87 [(.b (.sl true .u8)), (.b (.int .i64))], .box 31 [(.b (.int .i64)), (.b (.sl true .lk)), (.b (.sl true .bool)), (.b (.sl true .int)), (.b (.sl true .db)), (.b (.sl true .pk))], .box 31 [(.b (.int .i64)), (.b (.sl true .lk)), (.b (.sl true .bool)), (.b (.sl true .int)), (.b (.sl true .db)), (.b (.sl true .pk))]]⟩, [.ls .u8, .int, .int, .ls .lk, .ls .bool, .ls .int, .ls .db, .ls .pk, .int, .ls .lk, .ls .bool, .ls .int, .ls .db, .ls .pk]⟩, ⟨[999999], ⟨[.c (.one (.own 0))], []⟩, []⟩, lp bo_spec_l92World_4 fuel⟩
def e_spec_l92World : Entry := ⟨⟨[.c (.one (.ptr 0 0))], [.box 87 [(.b (.sl true .u8)), (.b (.int .i64))]]⟩, [.ls .u8, .int], ⟨[.c (.agg [(.b (.int .i64)), (.b (.sl true .lk)), (.b (.sl true .bool)), (.b (.sl true .int)), (.b (.sl true .db)), (.b (.sl true .pk))])], [.box 87 [(.b (.sl true .u8)), (.b (.int .i64))]]⟩, [.int, .ls .lk, .ls .bool, .ls .int, .ls .db, .ls .pk, .ls .u8, .int], sh_spec_l92World⟩
def g_spec_l92World : Env := mkEnv tab [(97, [], e_spec_WorldNew), (57, [], e_spec_l6Rd_pick), (98, [], e_spec_l91Graph), (59, [], e_spec_l51Do), (56, [], e_spec_l92Event)] 26 1 [(6, 4, [(0, true), (1, true), (2, true), (3, false)], [0])] [(4, L_spec_l92World_4)]
theorem t_spec_l92World : CtrOk Tryz.prog g_spec_l92World.Γ := ctr_ok (l := [(97, [], e_spec_WorldNew), (57, [], e_spec_l6Rd_pick), (98, [], e_spec_l91Graph), (59, [], e_spec_l51Do), (56, [], e_spec_l92Event)]) ⟨⟨p_spec_WorldNew, Tryz.call97⟩, ⟨⟨p_spec_l6Rd_pick, Tryz.call57⟩, ⟨⟨p_spec_l91Graph, Tryz.call98⟩, ⟨⟨p_spec_l51Do, Tryz.call59⟩, ⟨⟨p_spec_l92Event, Tryz.call56⟩, trivial⟩⟩⟩⟩⟩
theorem k_spec_l92World_4 : LoopOk Tryz.prog 1 26 (nthC (Tryz.f55.body.getD .skip) 0) L_spec_l92World_4 := loop_ok (G := g_spec_l92World) (F := L_spec_l92World_4.F) (eid := L_spec_l92World_4.eid) (FX := L_spec_l92World_4.FX) (FR := L_spec_l92World_4.FR) (B := bo_spec_l92World_4) (n := fuel) bad_ok tabOk t_spec_l92World mixed (code_ok' (G := g_spec_l92World) (n := 0) (by kernel_rfl) (by kernel_rfl) trivial (by kernel_rfl)) (fun s => by kernel_rfl)
theorem p_spec_l92World : GC Tryz.prog 55 e_spec_l92World := gc_of (G := g_spec_l92World) (c := Tryz.f55.body.getD .skip) bad_ok tabOk t_spec_l92World mixed Tryz.func55 (by kernel_rfl) Tryz.ntmps55 (code_ok' (G := g_spec_l92World) (n := 1) (by kernel_rfl) (by kernel_rfl) ⟨trivial, loop_at (id := 4) (L0 := L_spec_l92World_4) (by kernel_rfl) (by kernel_rfl) k_spec_l92World_4⟩ (by kernel_rfl)) (fun s => by kernel_rfl)
def e_spec_l92Wrong : Entry := ⟨⟨[.c (.one (.ptr 0 0))], [.box 87 [(.b (.sl true .u8)), (.b (.int .i64))]]⟩, [.ls .u8, .int], ⟨[.c (.agg [(.b (.int .i64)), (.own 1), (.own 2), (.own 3), (.own 4), (.own 5)])], [.box 87 [(.b (.sl true .u8)), (.b (.int .i64))], .row 45 .lk, .row 4 .bool, .row 3 .int, .row 47 .db, .row 55 .pk]⟩, [.int, .ls .u8, .int, .ls .lk, .ls .bool, .ls .int, .ls .db, .ls .pk], sh_spec_l92Wrong⟩
def g_spec_l92Wrong : Env := mkEnv tab [(58, [], e_spec_l51Copy), (57, [], e_spec_l6Rd_pick), (68, [], e_spec_l91Lsa), (67, [], e_spec_l91Db), (66, [], e_spec_l91Spoilt), (55, [], e_spec_l92World)] 98 1 [(9, 9, [(0, true), (1, true), (2, true), (3, true), (4, true), (5, true), (6, true), (7, true), (8, true)], []), (11, 5, [(0, true), (1, true), (2, true), (3, true), (4, false)], [0]), (13, 5, [(0, true), (1, true), (2, true), (3, true), (4, false)], [0]), (15, 9, [(0, true), (1, true), (2, true), (5, true), (3, false), (4, true), (6, false), (7, true), (8, false)], [0]), (18, 9, [(0, true), (1, true), (2, true), (3, true), (4, true), (5, true), (6, true), (7, true), (8, true)], [])] []
theorem t_spec_l92Wrong : CtrOk Tryz.prog g_spec_l92Wrong.Γ := ctr_ok (l := [(58, [], e_spec_l51Copy), (57, [], e_spec_l6Rd_pick), (68, [], e_spec_l91Lsa), (67, [], e_spec_l91Db), (66, [], e_spec_l91Spoilt), (55, [], e_spec_l92World)]) ⟨⟨p_spec_l51Copy, Tryz.call58⟩, ⟨⟨p_spec_l6Rd_pick, Tryz.call57⟩, ⟨⟨p_spec_l91Lsa, Tryz.call68⟩, ⟨⟨p_spec_l91Db, Tryz.call67⟩, ⟨⟨p_spec_l91Spoilt, Tryz.call66⟩, ⟨⟨p_spec_l92World, Tryz.call55⟩, trivial⟩⟩⟩⟩⟩⟩
theorem p_spec_l92Wrong : GC Tryz.prog 34 e_spec_l92Wrong := gc_of (G := g_spec_l92Wrong) (c := Tryz.f34.body.getD .skip) bad_ok tabOk t_spec_l92Wrong mixed Tryz.func34 (by kernel_rfl) Tryz.ntmps34 (code_ok' (G := g_spec_l92Wrong) (n := 0) (by kernel_rfl) (by kernel_rfl) trivial (by kernel_rfl)) (fun s => by kernel_rfl)
def e_spec_DrawWorldDo : Entry := ⟨⟨[.c (.one (.b (.sl true .u8)))], []⟩, [.ls .u8], ⟨[.tup [(.agg [(.b (.int .i64)), (.b (.sl true .lk)), (.b (.sl true .bool)), (.b (.sl true .int)), (.b (.sl true .db)), (.b (.sl true .pk))]), (.agg [(.b (.int .i64)), (.b (.int .i64))])]], []⟩, [.int, .ls .lk, .ls .bool, .ls .int, .ls .db, .ls .pk, .int, .int], sh_spec_DrawWorldDo⟩
def g_spec_DrawWorldDo : Env := mkEnv tab [(57, [], e_spec_l6Rd_pick), (35, [], e_spec_l6Open), (56, [], e_spec_l92Event), (55, [], e_spec_l92World), (34, [], e_spec_l92Wrong)] 21 0 [(6, 3, [(0, true), (1, true), (2, false)], [0])] []
theorem t_spec_DrawWorldDo : CtrOk Tryz.prog g_spec_DrawWorldDo.Γ := ctr_ok (l := [(57, [], e_spec_l6Rd_pick), (35, [], e_spec_l6Open), (56, [], e_spec_l92Event), (55, [], e_spec_l92World), (34, [], e_spec_l92Wrong)]) ⟨⟨p_spec_l6Rd_pick, Tryz.call57⟩, ⟨⟨p_spec_l6Open, Tryz.call35⟩, ⟨⟨p_spec_l92Event, Tryz.call56⟩, ⟨⟨p_spec_l92World, Tryz.call55⟩, ⟨⟨p_spec_l92Wrong, Tryz.call34⟩, trivial⟩⟩⟩⟩⟩
theorem p_spec_DrawWorldDo : GC Tryz.prog 21 e_spec_DrawWorldDo := gc_of (G := g_spec_DrawWorldDo) (c := Tryz.f21.body.getD .skip) bad_ok tabOk t_spec_DrawWorldDo mixed Tryz.func21 (by kernel_rfl) Tryz.ntmps21 (code_ok' (G := g_spec_DrawWorldDo) (n := 0) (by kernel_rfl) (by kernel_rfl) trivial (by kernel_rfl)) (fun s => by kernel_rfl)
end Go.Proofs.YtojdflifijpffaaGreat
end
section
namespace Go.Proofs.YtojdflifijpffaaGreat
open Go.RowKit
set_option maxRecDepth 100000
def bo_impl_missing_3 (s : (List Ls × List Ls × Int × Int × List Int × Unit)) : Option ((List Ls × List Ls × Int × Int × List Int × Unit) ⊕ ((List Int × Unit) ⊕ Unit)) := (bif decide ((s.2.2.2.1 < s.2.2.1)) then (bif inR s.2.2.2.1 (List.length s.2.1) then (sh_impl_dbPlace ((s.1, ((at! .ls s.2.1 (Int.toNat s.2.2.2.1)).o, ())))).bind fun r0 => (bif (!r0.2.1) then (bif decide (((List.length s.2.2.2.2.1 + List.length ([(at! .ls s.2.1 (Int.toNat s.2.2.2.1)).o])) ≤ (33554432 : Nat))) then some (Sum.inl ((s.1, s.2.1, s.2.2.1, wrap64 ((s.2.2.2.1 + (1 : Int))), (s.2.2.2.2.1 ++ [(at! .ls s.2.1 (Int.toNat s.2.2.2.1)).o]), ()))) else none) else (bif inR r0.1 (List.length s.1) then (bif decide (((at! .ls s.1 (Int.toNat r0.1)).s < (at! .ls s.2.1 (Int.toNat s.2.2.2.1)).s)) then (bif decide (((List.length s.2.2.2.2.1 + List.length ([(at! .ls s.2.1 (Int.toNat s.2.2.2.1)).o])) ≤ (33554432 : Nat))) then some (Sum.inl ((s.1, s.2.1, s.2.2.1, wrap64 ((s.2.2.2.1 + (1 : Int))), (s.2.2.2.2.1 ++ [(at! .ls s.2.1 (Int.toNat s.2.2.2.1)).o]), ()))) else none) else some (Sum.inl ((s.1, s.2.1, s.2.2.1, wrap64 ((s.2.2.2.1 + (1 : Int))), s.2.2.2.2.1, ())))) else none)) else none) else some (Sum.inr (Sum.inl ((s.2.2.2.2.1, ())))))
def sh_impl_missing (s : (List Ls × List Ls × Unit)) : Option (List Int × Unit) := (lp bo_impl_missing_3 fuel ((s.1, (s.2.1, (nI (List.length s.2.1), ((0 : Int), (([] : List Int), ()))))))).bind fun r0 => (match r0 with | .inl x1 => some ((x1.1, ())) | .inr _ => none)
def sh_impl_DbMissing (s : (List Ls × List Ls × Unit)) : Option (List Int × Unit) := (sh_impl_DbValid ((s.1, ()))).bind fun r0 => (bif (!r0.1) then some ((([] : List Int), ())) else (sh_impl_DbValid ((s.2.1, ()))).bind fun r1 => (bif (!r1.1) then some ((([] : List Int), ())) else (sh_impl_missing ((s.1, (s.2.1, ())))).bind fun r2 => some ((r2.1, ()))))
end Go.Proofs.YtojdflifijpffaaGreat
end
section
namespace Go.Proofs.YtojdflifijpffaaGreat
open Go.RowKit
set_option maxRecDepth 100000
def L_impl_missing_3 : Loop := ⟨⟨[0, 5, 11, 12, 13], ⟨[.c (.one (.b (.sl false .ls))), .c (.one (.own 0)), .c (.one (.b (.sl false .ls))), .c (.one (.b (.int .i64))), .c (.one (.b (.int .i64)))], [.row 3 .int]⟩, [.ls .ls, .ls .ls, .int, .int, .ls .int]⟩, 0, ⟨[5], ⟨[.c (.one (.own 0))], [.row 3 .int]⟩, [.ls .int]⟩, ⟨[999999], ⟨[.c (.one (.own 0))], []⟩, []⟩, lp bo_impl_missing_3 fuel⟩
def e_impl_missing : Entry := ⟨⟨[.c (.one (.b (.sl false .ls))), .c (.one (.b (.sl false .ls)))], []⟩, [.ls .ls, .ls .ls], ⟨[.c (.one (.own 0))], [.row 3 .int]⟩, [.ls .int], sh_impl_missing⟩
def g_impl_missing : Env := mkEnv tab [(39, [], e_impl_dbPlace)] 43 0 [(6, 10, [(0, true), (1, true), (2, true), (3, true), (4, true), (5, true), (6, true), (7, true), (8, true), (9, true)], [])] [(3, L_impl_missing_3)]
theorem t_impl_missing : CtrOk Tryz.prog g_impl_missing.Γ := ctr_ok (l := [(39, [], e_impl_dbPlace)]) ⟨⟨p_impl_dbPlace, Tryz.call39⟩, trivial⟩
theorem k_impl_missing_3 : LoopOk Tryz.prog 0 43 (nthC (Tryz.f61.body.getD .skip) 0) L_impl_missing_3 := loop_ok (G := g_impl_missing) (F := L_impl_missing_3.F) (eid := L_impl_missing_3.eid) (FX := L_impl_missing_3.FX) (FR := L_impl_missing_3.FR) (B := bo_impl_missing_3) (n := fuel) bad_ok tabOk t_impl_missing mixed (code_ok' (G := g_impl_missing) (n := 0) (by kernel_rfl) (by kernel_rfl) trivial (by kernel_rfl)) (fun s => by kernel_rfl)
theorem p_impl_missing : GC Tryz.prog 61 e_impl_missing := gc_of (G := g_impl_missing) (c := Tryz.f61.body.getD .skip) bad_ok tabOk t_impl_missing mixed Tryz.func61 (by kernel_rfl) Tryz.ntmps61 (code_ok' (G := g_impl_missing) (n := 1) (by kernel_rfl) (by kernel_rfl) ⟨trivial, loop_at (id := 3) (L0 := L_impl_missing_3) (by kernel_rfl) (by kernel_rfl) k_impl_missing_3⟩ (by kernel_rfl)) (fun s => by kernel_rfl)
def e_impl_DbMissing : Entry := ⟨⟨[.c (.one (.b (.sl false .ls))), .c (.one (.b (.sl false .ls)))], []⟩, [.ls .ls, .ls .ls], ⟨[.c (.one (.own 0))], [.row 3 .int]⟩, [.ls .int], sh_impl_DbMissing⟩
def g_impl_DbMissing : Env := mkEnv tab [(38, [], e_impl_DbValid), (61, [], e_impl_missing)] 16 0 [] []
theorem t_impl_DbMissing : CtrOk Tryz.prog g_impl_DbMissing.Γ := ctr_ok (l := [(38, [], e_impl_DbValid), (61, [], e_impl_missing)]) ⟨⟨p_impl_DbValid, Tryz.call38⟩, ⟨⟨p_impl_missing, Tryz.call61⟩, trivial⟩⟩
theorem p_impl_DbMissing : GC Tryz.prog 29 e_impl_DbMissing := gc_of (G := g_impl_DbMissing) (c := Tryz.f29.body.getD .skip) bad_ok tabOk t_impl_DbMissing mixed Tryz.func29 (by kernel_rfl) Tryz.ntmps29 (code_ok' (G := g_impl_DbMissing) (n := 0) (by kernel_rfl) (by kernel_rfl) trivial (by kernel_rfl)) (fun s => by kernel_rfl)
end Go.Proofs.YtojdflifijpffaaGreat
end
section
namespace Go.Proofs.YtojdflifijpffaaGreat
open Go.RowKit
set_option maxRecDepth 100000
def sh_laws_FnWorldDownTwice (s : (List Int × List Int × Unit)) : Option (Bool × Unit) := (bif decide (((1048576 : Int) < nI (List.length s.1))) then some ((true, ())) else (bif decide (((1048576 : Int) < nI (List.length s.2.1))) then some ((true, ())) else (sh_spec_DrawWorldDo ((s.1, ()))).bind fun r0 => (sh_impl_WorldDo ((r0.1, (r0.2.1, (r0.2.2.1, (r0.2.2.2.1, (r0.2.2.2.2.1, (r0.2.2.2.2.2.1, (r0.2.2.2.2.2.2.1, (r0.2.2.2.2.2.2.2.1, ())))))))))).bind fun r1 => (sh_spec_WorldDo ((r0.1, (r0.2.1, (r0.2.2.1, (r0.2.2.2.1, (r0.2.2.2.2.1, (r0.2.2.2.2.2.1, (r0.2.2.2.2.2.2.1, (r0.2.2.2.2.2.2.2.1, ())))))))))).bind fun r2 => (sh_laws_sameWorld ((r1.1, (r1.2.1, (r1.2.2.1, (r1.2.2.2.1, (r1.2.2.2.2.1, (r1.2.2.2.2.2.1, (r2.1, (r2.2.1, (r2.2.2.1, (r2.2.2.2.1, (r2.2.2.2.2.1, (r2.2.2.2.2.2.1, ())))))))))))))).bind fun r3 => (bif (!r3.1) then (sh_laws_sameWorld ((r1.1, (r1.2.1, (r1.2.2.1, (r1.2.2.2.1, (r1.2.2.2.2.1, (r1.2.2.2.2.2.1, (r2.1, (r2.2.1, (r2.2.2.1, (r2.2.2.2.1, (r2.2.2.2.2.1, (r2.2.2.2.2.2.1, ())))))))))))))).bind fun r4 => some ((r4.1, ())) else (sh_spec_WorldValid ((r0.1, (r0.2.1, (r0.2.2.1, (r0.2.2.2.1, (r0.2.2.2.2.1, (r0.2.2.2.2.2.1, ())))))))).bind fun r5 => (bif (!r5.1) then (sh_laws_sameWorld ((r1.1, (r1.2.1, (r1.2.2.1, (r1.2.2.2.1, (r1.2.2.2.2.1, (r1.2.2.2.2.2.1, (r2.1, (r2.2.1, (r2.2.2.1, (r2.2.2.2.1, (r2.2.2.2.2.1, (r2.2.2.2.2.2.1, ())))))))))))))).bind fun r6 => some ((r6.1, ())) else (bif decide ((nI (List.length r0.2.2.1) = (0 : Int))) then (sh_laws_sameWorld ((r1.1, (r1.2.1, (r1.2.2.1, (r1.2.2.2.1, (r1.2.2.2.2.1, (r1.2.2.2.2.2.1, (r2.1, (r2.2.1, (r2.2.2.1, (r2.2.2.2.1, (r2.2.2.2.2.1, (r2.2.2.2.2.2.1, ())))))))))))))).bind fun r7 => some ((r7.1, ())) else (bif (!(decide ((nI (List.length r0.2.2.1) = (0 : Int))))) then (bif inR (Int.tmod (nI (List.length s.2.1)) (nI (List.length r0.2.2.1))) (List.length r0.2.2.1) then (bif at! .bool r0.2.2.1 (Int.toNat (Int.tmod (nI (List.length s.2.1)) (nI (List.length r0.2.2.1)))) then (sh_impl_WorldDo ((r0.1, (r0.2.1, (r0.2.2.1, (r0.2.2.2.1, (r0.2.2.2.2.1, (r0.2.2.2.2.2.1, ((2 : Int), (Int.tmod (nI (List.length s.2.1)) (nI (List.length r0.2.2.1)), ())))))))))).bind fun r8 => (sh_laws_sameWorld ((r8.1, (r8.2.1, (r8.2.2.1, (r8.2.2.2.1, (r8.2.2.2.2.1, (r8.2.2.2.2.2.1, (r0.1, (r0.2.1, (r0.2.2.1, (r0.2.2.2.1, (r0.2.2.2.2.1, (r0.2.2.2.2.2.1, ())))))))))))))).bind fun r9 => some ((r9.1, ())) else (sh_impl_WorldDo ((r0.1, (r0.2.1, (r0.2.2.1, (r0.2.2.2.1, (r0.2.2.2.2.1, (r0.2.2.2.2.2.1, ((1 : Int), (Int.tmod (nI (List.length s.2.1)) (nI (List.length r0.2.2.1)), ())))))))))).bind fun r10 => (sh_laws_sameWorld ((r10.1, (r10.2.1, (r10.2.2.1, (r10.2.2.2.1, (r10.2.2.2.2.1, (r10.2.2.2.2.2.1, (r0.1, (r0.2.1, (r0.2.2.1, (r0.2.2.2.1, (r0.2.2.2.2.1, (r0.2.2.2.2.2.1, ())))))))))))))).bind fun r11 => some ((r11.1, ()))) else none) else none))))))
def sh_laws_FnWorldRepaired (s : (List Int × List Int × Unit)) : Option (Bool × Unit) := (bif decide (((1048576 : Int) < nI (List.length s.1))) then some ((true, ())) else (bif decide (((1048576 : Int) < nI (List.length s.2.1))) then some ((true, ())) else (sh_spec_DrawWorldDo ((s.1, ()))).bind fun r0 => (sh_impl_WorldDo ((r0.1, (r0.2.1, (r0.2.2.1, (r0.2.2.2.1, (r0.2.2.2.2.1, (r0.2.2.2.2.2.1, (r0.2.2.2.2.2.2.1, (r0.2.2.2.2.2.2.2.1, ())))))))))).bind fun r1 => (sh_spec_WorldDo ((r0.1, (r0.2.1, (r0.2.2.1, (r0.2.2.2.1, (r0.2.2.2.2.1, (r0.2.2.2.2.2.1, (r0.2.2.2.2.2.2.1, (r0.2.2.2.2.2.2.2.1, ())))))))))).bind fun r2 => (sh_laws_sameWorld ((r1.1, (r1.2.1, (r1.2.2.1, (r1.2.2.2.1, (r1.2.2.2.2.1, (r1.2.2.2.2.2.1, (r2.1, (r2.2.1, (r2.2.2.1, (r2.2.2.2.1, (r2.2.2.2.2.1, (r2.2.2.2.2.2.1, ())))))))))))))).bind fun r3 => (bif (!r3.1) then (sh_laws_sameWorld ((r1.1, (r1.2.1, (r1.2.2.1, (r1.2.2.2.1, (r1.2.2.2.2.1, (r1.2.2.2.2.2.1, (r2.1, (r2.2.1, (r2.2.2.1, (r2.2.2.2.1, (r2.2.2.2.2.1, (r2.2.2.2.2.2.1, ())))))))))))))).bind fun r4 => some ((r4.1, ())) else (sh_spec_WorldValid ((r0.1, (r0.2.1, (r0.2.2.1, (r0.2.2.2.1, (r0.2.2.2.2.1, (r0.2.2.2.2.2.1, ())))))))).bind fun r5 => (bif (!r5.1) then (sh_laws_sameWorld ((r1.1, (r1.2.1, (r1.2.2.1, (r1.2.2.2.1, (r1.2.2.2.2.1, (r1.2.2.2.2.2.1, (r2.1, (r2.2.1, (r2.2.2.1, (r2.2.2.2.1, (r2.2.2.2.2.1, (r2.2.2.2.2.2.1, ())))))))))))))).bind fun r6 => some ((r6.1, ())) else (bif decide ((nI (List.length r0.2.2.1) = (0 : Int))) then (sh_laws_sameWorld ((r1.1, (r1.2.1, (r1.2.2.1, (r1.2.2.2.1, (r1.2.2.2.2.1, (r1.2.2.2.2.2.1, (r2.1, (r2.2.1, (r2.2.2.1, (r2.2.2.2.1, (r2.2.2.2.2.1, (r2.2.2.2.2.2.1, ())))))))))))))).bind fun r7 => some ((r7.1, ())) else (bif (!(decide ((nI (List.length r0.2.2.1) = (0 : Int))))) then (bif inR (Int.tmod (nI (List.length s.2.1)) (nI (List.length r0.2.2.1))) (List.length r0.2.2.1) then (bif (!(at! .bool r0.2.2.1 (Int.toNat (Int.tmod (nI (List.length s.2.1)) (nI (List.length r0.2.2.1)))))) then some ((true, ())) else (sh_impl_WorldDo ((r0.1, (r0.2.1, (r0.2.2.1, (r0.2.2.2.1, (r0.2.2.2.2.1, (r0.2.2.2.2.2.1, ((1 : Int), (Int.tmod (nI (List.length s.2.1)) (nI (List.length r0.2.2.1)), ())))))))))).bind fun r8 => (sh_impl_WorldDo ((r8.1, (r8.2.1, (r8.2.2.1, (r8.2.2.2.1, (r8.2.2.2.2.1, (r8.2.2.2.2.2.1, ((2 : Int), (Int.tmod (nI (List.length s.2.1)) (nI (List.length r0.2.2.1)), ())))))))))).bind fun r9 => (bif inR (Int.tmod (nI (List.length s.2.1)) (nI (List.length r0.2.2.1))) (List.length r9.2.2.1) then (bif inR (Int.tmod (nI (List.length s.2.1)) (nI (List.length r0.2.2.1))) (List.length r8.2.2.1) then (bif (at! .bool r9.2.2.1 (Int.toNat (Int.tmod (nI (List.length s.2.1)) (nI (List.length r0.2.2.1)))) == at! .bool r8.2.2.1 (Int.toNat (Int.tmod (nI (List.length s.2.1)) (nI (List.length r0.2.2.1))))) then some ((true, ())) else (sh_impl_WorldTruth ((r9.1, (r9.2.1, (r9.2.2.1, (r9.2.2.2.1, (r9.2.2.2.2.1, (r9.2.2.2.2.2.1, ())))))))).bind fun r10 => (sh_impl_WorldTruth ((r0.1, (r0.2.1, (r0.2.2.1, (r0.2.2.2.1, (r0.2.2.2.2.1, (r0.2.2.2.2.2.1, ())))))))).bind fun r11 => (sh_laws_sameGraph ((r10.1, (r10.2.1, (r11.1, (r11.2.1, ())))))).bind fun r12 => some ((r12.1, ()))) else none) else none)) else none) else none))))))
def sh_laws_FnWorldStale (s : (List Int × List Int × Unit)) : Option (Bool × Unit) := (bif decide (((1048576 : Int) < nI (List.length s.1))) then some ((true, ())) else (bif decide (((1048576 : Int) < nI (List.length s.2.1))) then some ((true, ())) else (sh_spec_DrawWorldDo ((s.1, ()))).bind fun r0 => (sh_impl_WorldDo ((r0.1, (r0.2.1, (r0.2.2.1, (r0.2.2.2.1, (r0.2.2.2.2.1, (r0.2.2.2.2.2.1, (r0.2.2.2.2.2.2.1, (r0.2.2.2.2.2.2.2.1, ())))))))))).bind fun r1 => (sh_spec_WorldDo ((r0.1, (r0.2.1, (r0.2.2.1, (r0.2.2.2.1, (r0.2.2.2.2.1, (r0.2.2.2.2.2.1, (r0.2.2.2.2.2.2.1, (r0.2.2.2.2.2.2.2.1, ())))))))))).bind fun r2 => (sh_laws_sameWorld ((r1.1, (r1.2.1, (r1.2.2.1, (r1.2.2.2.1, (r1.2.2.2.2.1, (r1.2.2.2.2.2.1, (r2.1, (r2.2.1, (r2.2.2.1, (r2.2.2.2.1, (r2.2.2.2.2.1, (r2.2.2.2.2.2.1, ())))))))))))))).bind fun r3 => (bif (!r3.1) then (sh_laws_sameWorld ((r1.1, (r1.2.1, (r1.2.2.1, (r1.2.2.2.1, (r1.2.2.2.2.1, (r1.2.2.2.2.2.1, (r2.1, (r2.2.1, (r2.2.2.1, (r2.2.2.2.1, (r2.2.2.2.2.1, (r2.2.2.2.2.2.1, ())))))))))))))).bind fun r4 => some ((r4.1, ())) else (sh_spec_WorldValid ((r0.1, (r0.2.1, (r0.2.2.1, (r0.2.2.2.1, (r0.2.2.2.2.1, (r0.2.2.2.2.2.1, ())))))))).bind fun r5 => (bif (!r5.1) then (sh_laws_sameWorld ((r1.1, (r1.2.1, (r1.2.2.1, (r1.2.2.2.1, (r1.2.2.2.2.1, (r1.2.2.2.2.2.1, (r2.1, (r2.2.1, (r2.2.2.1, (r2.2.2.2.1, (r2.2.2.2.2.1, (r2.2.2.2.2.2.1, ())))))))))))))).bind fun r6 => some ((r6.1, ())) else (bif decide ((nI (List.length r0.2.2.2.2.2.1) = (0 : Int))) then (sh_laws_sameWorld ((r1.1, (r1.2.1, (r1.2.2.1, (r1.2.2.2.1, (r1.2.2.2.2.1, (r1.2.2.2.2.2.1, (r2.1, (r2.2.1, (r2.2.2.1, (r2.2.2.2.1, (r2.2.2.2.2.1, (r2.2.2.2.2.2.1, ())))))))))))))).bind fun r7 => some ((r7.1, ())) else (bif (!(decide ((nI (List.length r0.2.2.2.2.2.1) = (0 : Int))))) then (bif inR (Int.tmod (nI (List.length s.2.1)) (nI (List.length r0.2.2.2.2.2.1))) (List.length r0.2.2.2.2.2.1) then (bif inR ((at! .pk r0.2.2.2.2.2.1 (Int.toNat (Int.tmod (nI (List.length s.2.1)) (nI (List.length r0.2.2.2.2.2.1))))).t) (List.length r0.2.2.2.2.1) then (sh_laws_seqOf ((at! .db r0.2.2.2.2.1 (Int.toNat ((at! .pk r0.2.2.2.2.2.1 (Int.toNat (Int.tmod (nI (List.length s.2.1)) (nI (List.length r0.2.2.2.2.2.1))))).t)), (((at! .pk r0.2.2.2.2.2.1 (Int.toNat (Int.tmod (nI (List.length s.2.1)) (nI (List.length r0.2.2.2.2.2.1))))).p).o, ())))).bind fun r8 => (bif decide ((r8.1 < ((at! .pk r0.2.2.2.2.2.1 (Int.toNat (Int.tmod (nI (List.length s.2.1)) (nI (List.length r0.2.2.2.2.2.1))))).p).s)) then some ((true, ())) else (sh_impl_WorldDo ((r0.1, (r0.2.1, (r0.2.2.1, (r0.2.2.2.1, (r0.2.2.2.2.1, (r0.2.2.2.2.2.1, ((3 : Int), (Int.tmod (nI (List.length s.2.1)) (nI (List.length r0.2.2.2.2.2.1)), ())))))))))).bind fun r9 => (sh_impl_WorldDo ((r0.1, (r0.2.1, (r0.2.2.1, (r0.2.2.2.1, (r0.2.2.2.2.1, (r0.2.2.2.2.2.1, ((4 : Int), (Int.tmod (nI (List.length s.2.1)) (nI (List.length r0.2.2.2.2.2.1)), ())))))))))).bind fun r10 => (sh_laws_sameWorld ((r9.1, (r9.2.1, (r9.2.2.1, (r9.2.2.2.1, (r9.2.2.2.2.1, (r9.2.2.2.2.2.1, (r10.1, (r10.2.1, (r10.2.2.1, (r10.2.2.2.1, (r10.2.2.2.2.1, (r10.2.2.2.2.2.1, ())))))))))))))).bind fun r11 => some ((r11.1, ()))) else none) else none) else none))))))
def bo_laws_FnWorldSyncOthers_11 (s : (Int × Int × Int × List Lk × List Bool × List Int × List (List Ls) × List Pk × Int × List Lk × List Bool × List Int × List (List Ls) × List Pk × Unit)) : Option ((Int × Int × Int × List Lk × List Bool × List Int × List (List Ls) × List Pk × Int × List Lk × List Bool × List Int × List (List Ls) × List Pk × Unit) ⊕ ((Int × List Lk × List Bool × List Int × List (List Ls) × List Pk × Int × List Lk × List Bool × List Int × List (List Ls) × List Pk × Unit) ⊕ (Bool × Unit))) := (bif decide ((s.2.1 < nI (List.length s.2.2.2.2.2.2.1))) then (bif inR s.1 (List.length s.2.2.2.1) then (bif (!(decide ((s.2.1 = (at! .lk s.2.2.2.1 (Int.toNat s.1)).a)))) then (bif inR s.1 (List.length s.2.2.2.1) then (bif (!(decide ((s.2.1 = (at! .lk s.2.2.2.1 (Int.toNat s.1)).b)))) then (bif inR s.2.1 (List.length s.2.2.2.2.2.2.2.2.2.2.2.2.1) then (bif inR s.2.1 (List.length s.2.2.2.2.2.2.1) then (sh_laws_sameDb ((at! .db s.2.2.2.2.2.2.2.2.2.2.2.2.1 (Int.toNat s.2.1), (at! .db s.2.2.2.2.2.2.1 (Int.toNat s.2.1), ())))).bind fun r0 => (bif (!r0.1) then some (Sum.inr (Sum.inr ((false, ())))) else some (Sum.inl ((s.1, wrap64 ((s.2.1 + (1 : Int))), s.2.2.1, s.2.2.2.1, s.2.2.2.2.1, s.2.2.2.2.2.1, s.2.2.2.2.2.2.1, s.2.2.2.2.2.2.2.1, s.2.2.2.2.2.2.2.2.1, s.2.2.2.2.2.2.2.2.2.1, s.2.2.2.2.2.2.2.2.2.2.1, s.2.2.2.2.2.2.2.2.2.2.2.1, s.2.2.2.2.2.2.2.2.2.2.2.2.1, s.2.2.2.2.2.2.2.2.2.2.2.2.2.1, ())))) else none) else none) else some (Sum.inl ((s.1, wrap64 ((s.2.1 + (1 : Int))), s.2.2.1, s.2.2.2.1, s.2.2.2.2.1, s.2.2.2.2.2.1, s.2.2.2.2.2.2.1, s.2.2.2.2.2.2.2.1, s.2.2.2.2.2.2.2.2.1, s.2.2.2.2.2.2.2.2.2.1, s.2.2.2.2.2.2.2.2.2.2.1, s.2.2.2.2.2.2.2.2.2.2.2.1, s.2.2.2.2.2.2.2.2.2.2.2.2.1, s.2.2.2.2.2.2.2.2.2.2.2.2.2.1, ())))) else none) else some (Sum.inl ((s.1, wrap64 ((s.2.1 + (1 : Int))), s.2.2.1, s.2.2.2.1, s.2.2.2.2.1, s.2.2.2.2.2.1, s.2.2.2.2.2.2.1, s.2.2.2.2.2.2.2.1, s.2.2.2.2.2.2.2.2.1, s.2.2.2.2.2.2.2.2.2.1, s.2.2.2.2.2.2.2.2.2.2.1, s.2.2.2.2.2.2.2.2.2.2.2.1, s.2.2.2.2.2.2.2.2.2.2.2.2.1, s.2.2.2.2.2.2.2.2.2.2.2.2.2.1, ())))) else none) else some (Sum.inr (Sum.inl ((s.2.2.1, s.2.2.2.1, s.2.2.2.2.1, s.2.2.2.2.2.1, s.2.2.2.2.2.2.1, s.2.2.2.2.2.2.2.1, s.2.2.2.2.2.2.2.2.1, s.2.2.2.2.2.2.2.2.2.1, s.2.2.2.2.2.2.2.2.2.2.1, s.2.2.2.2.2.2.2.2.2.2.2.1, s.2.2.2.2.2.2.2.2.2.2.2.2.1, s.2.2.2.2.2.2.2.2.2.2.2.2.2.1, ())))))
def sh_laws_FnWorldSyncOthers (s : (List Int × List Int × Unit)) : Option (Bool × Unit) := (bif decide (((1048576 : Int) < nI (List.length s.1))) then some ((true, ())) else (bif decide (((1048576 : Int) < nI (List.length s.2.1))) then some ((true, ())) else (sh_spec_DrawWorldDo ((s.1, ()))).bind fun r0 => (sh_impl_WorldDo ((r0.1, (r0.2.1, (r0.2.2.1, (r0.2.2.2.1, (r0.2.2.2.2.1, (r0.2.2.2.2.2.1, (r0.2.2.2.2.2.2.1, (r0.2.2.2.2.2.2.2.1, ())))))))))).bind fun r1 => (sh_spec_WorldDo ((r0.1, (r0.2.1, (r0.2.2.1, (r0.2.2.2.1, (r0.2.2.2.2.1, (r0.2.2.2.2.2.1, (r0.2.2.2.2.2.2.1, (r0.2.2.2.2.2.2.2.1, ())))))))))).bind fun r2 => (sh_laws_sameWorld ((r1.1, (r1.2.1, (r1.2.2.1, (r1.2.2.2.1, (r1.2.2.2.2.1, (r1.2.2.2.2.2.1, (r2.1, (r2.2.1, (r2.2.2.1, (r2.2.2.2.1, (r2.2.2.2.2.1, (r2.2.2.2.2.2.1, ())))))))))))))).bind fun r3 => (bif (!r3.1) then (sh_laws_sameWorld ((r1.1, (r1.2.1, (r1.2.2.1, (r1.2.2.2.1, (r1.2.2.2.2.1, (r1.2.2.2.2.2.1, (r2.1, (r2.2.1, (r2.2.2.1, (r2.2.2.2.1, (r2.2.2.2.2.1, (r2.2.2.2.2.2.1, ())))))))))))))).bind fun r4 => some ((r4.1, ())) else (sh_spec_WorldValid ((r0.1, (r0.2.1, (r0.2.2.1, (r0.2.2.2.1, (r0.2.2.2.2.1, (r0.2.2.2.2.2.1, ())))))))).bind fun r5 => (bif (!r5.1) then (sh_laws_sameWorld ((r1.1, (r1.2.1, (r1.2.2.1, (r1.2.2.2.1, (r1.2.2.2.2.1, (r1.2.2.2.2.2.1, (r2.1, (r2.2.1, (r2.2.2.1, (r2.2.2.2.1, (r2.2.2.2.2.1, (r2.2.2.2.2.2.1, ())))))))))))))).bind fun r6 => some ((r6.1, ())) else (bif decide ((nI (List.length r0.2.2.1) = (0 : Int))) then (sh_laws_sameWorld ((r1.1, (r1.2.1, (r1.2.2.1, (r1.2.2.2.1, (r1.2.2.2.2.1, (r1.2.2.2.2.2.1, (r2.1, (r2.2.1, (r2.2.2.1, (r2.2.2.2.1, (r2.2.2.2.2.1, (r2.2.2.2.2.2.1, ())))))))))))))).bind fun r7 => some ((r7.1, ())) else (bif (!(decide ((nI (List.length r0.2.2.1) = (0 : Int))))) then (sh_impl_WorldDo ((r0.1, (r0.2.1, (r0.2.2.1, (r0.2.2.2.1, (r0.2.2.2.2.1, (r0.2.2.2.2.2.1, ((6 : Int), (Int.tmod (nI (List.length s.2.1)) (nI (List.length r0.2.2.1)), ())))))))))).bind fun r8 => (lp bo_laws_FnWorldSyncOthers_11 fuel ((Int.tmod (nI (List.length s.2.1)) (nI (List.length r0.2.2.1)), ((0 : Int), (r0.1, (r0.2.1, (r0.2.2.1, (r0.2.2.2.1, (r0.2.2.2.2.1, (r0.2.2.2.2.2.1, (r8.1, (r8.2.1, (r8.2.2.1, (r8.2.2.2.1, (r8.2.2.2.2.1, (r8.2.2.2.2.2.1, ())))))))))))))))).bind fun r9 => (match r9 with | .inl x10 => (bif decide ((nI (List.length x10.2.2.2.2.2.2.2.2.2.2.2.1) = nI (List.length x10.2.2.2.2.2.1))) then (sh_laws_sameInts ((x10.2.2.2.2.2.2.2.2.2.1, (x10.2.2.2.1, ())))).bind fun r11 => some ((r11.1, ())) else some ((false, ()))) | .inr y10 => some ((y10.1, ()))) else none))))))
def bo_laws_FnWorldOneDb_11 (s : (Int × Int × Int × List Lk × List Bool × List Int × List (List Ls) × List Pk × Int × List Lk × List Bool × List Int × List (List Ls) × List Pk × Unit)) : Option ((Int × Int × Int × List Lk × List Bool × List Int × List (List Ls) × List Pk × Int × List Lk × List Bool × List Int × List (List Ls) × List Pk × Unit) ⊕ ((Int × Int × List Lk × List Bool × List Int × List (List Ls) × List Pk × Int × List Lk × List Bool × List Int × List (List Ls) × List Pk × Unit) ⊕ (Bool × Unit))) := (bif decide ((s.2.1 < nI (List.length s.2.2.2.2.2.2.1))) then (bif inR s.1 (List.length s.2.2.2.2.2.2.2.1) then (bif (!(decide ((s.2.1 = (at! .pk s.2.2.2.2.2.2.2.1 (Int.toNat s.1)).t)))) then (bif inR s.2.1 (List.length s.2.2.2.2.2.2.2.2.2.2.2.2.1) then (bif inR s.2.1 (List.length s.2.2.2.2.2.2.1) then (sh_laws_sameDb ((at! .db s.2.2.2.2.2.2.2.2.2.2.2.2.1 (Int.toNat s.2.1), (at! .db s.2.2.2.2.2.2.1 (Int.toNat s.2.1), ())))).bind fun r0 => (bif (!r0.1) then some (Sum.inr (Sum.inr ((false, ())))) else some (Sum.inl ((s.1, wrap64 ((s.2.1 + (1 : Int))), s.2.2.1, s.2.2.2.1, s.2.2.2.2.1, s.2.2.2.2.2.1, s.2.2.2.2.2.2.1, s.2.2.2.2.2.2.2.1, s.2.2.2.2.2.2.2.2.1, s.2.2.2.2.2.2.2.2.2.1, s.2.2.2.2.2.2.2.2.2.2.1, s.2.2.2.2.2.2.2.2.2.2.2.1, s.2.2.2.2.2.2.2.2.2.2.2.2.1, s.2.2.2.2.2.2.2.2.2.2.2.2.2.1, ())))) else none) else none) else some (Sum.inl ((s.1, wrap64 ((s.2.1 + (1 : Int))), s.2.2.1, s.2.2.2.1, s.2.2.2.2.1, s.2.2.2.2.2.1, s.2.2.2.2.2.2.1, s.2.2.2.2.2.2.2.1, s.2.2.2.2.2.2.2.2.1, s.2.2.2.2.2.2.2.2.2.1, s.2.2.2.2.2.2.2.2.2.2.1, s.2.2.2.2.2.2.2.2.2.2.2.1, s.2.2.2.2.2.2.2.2.2.2.2.2.1, s.2.2.2.2.2.2.2.2.2.2.2.2.2.1, ())))) else none) else some (Sum.inr (Sum.inl ((s.1, s.2.2.1, s.2.2.2.1, s.2.2.2.2.1, s.2.2.2.2.2.1, s.2.2.2.2.2.2.1, s.2.2.2.2.2.2.2.1, s.2.2.2.2.2.2.2.2.1, s.2.2.2.2.2.2.2.2.2.1, s.2.2.2.2.2.2.2.2.2.2.1, s.2.2.2.2.2.2.2.2.2.2.2.1, s.2.2.2.2.2.2.2.2.2.2.2.2.1, s.2.2.2.2.2.2.2.2.2.2.2.2.2.1, ())))))
def sh_laws_FnWorldOneDb (s : (List Int × List Int × Unit)) : Option (Bool × Unit) := (bif decide (((1048576 : Int) < nI (List.length s.1))) then some ((true, ())) else (bif decide (((1048576 : Int) < nI (List.length s.2.1))) then some ((true, ())) else (sh_spec_DrawWorldDo ((s.1, ()))).bind fun r0 => (sh_impl_WorldDo ((r0.1, (r0.2.1, (r0.2.2.1, (r0.2.2.2.1, (r0.2.2.2.2.1, (r0.2.2.2.2.2.1, (r0.2.2.2.2.2.2.1, (r0.2.2.2.2.2.2.2.1, ())))))))))).bind fun r1 => (sh_spec_WorldDo ((r0.1, (r0.2.1, (r0.2.2.1, (r0.2.2.2.1, (r0.2.2.2.2.1, (r0.2.2.2.2.2.1, (r0.2.2.2.2.2.2.1, (r0.2.2.2.2.2.2.2.1, ())))))))))).bind fun r2 => (sh_laws_sameWorld ((r1.1, (r1.2.1, (r1.2.2.1, (r1.2.2.2.1, (r1.2.2.2.2.1, (r1.2.2.2.2.2.1, (r2.1, (r2.2.1, (r2.2.2.1, (r2.2.2.2.1, (r2.2.2.2.2.1, (r2.2.2.2.2.2.1, ())))))))))))))).bind fun r3 => (bif (!r3.1) then (sh_laws_sameWorld ((r1.1, (r1.2.1, (r1.2.2.1, (r1.2.2.2.1, (r1.2.2.2.2.1, (r1.2.2.2.2.2.1, (r2.1, (r2.2.1, (r2.2.2.1, (r2.2.2.2.1, (r2.2.2.2.2.1, (r2.2.2.2.2.2.1, ())))))))))))))).bind fun r4 => some ((r4.1, ())) else (sh_spec_WorldValid ((r0.1, (r0.2.1, (r0.2.2.1, (r0.2.2.2.1, (r0.2.2.2.2.1, (r0.2.2.2.2.2.1, ())))))))).bind fun r5 => (bif (!r5.1) then (sh_laws_sameWorld ((r1.1, (r1.2.1, (r1.2.2.1, (r1.2.2.2.1, (r1.2.2.2.2.1, (r1.2.2.2.2.2.1, (r2.1, (r2.2.1, (r2.2.2.1, (r2.2.2.2.1, (r2.2.2.2.2.1, (r2.2.2.2.2.2.1, ())))))))))))))).bind fun r6 => some ((r6.1, ())) else (bif decide ((nI (List.length r0.2.2.2.2.2.1) = (0 : Int))) then (sh_laws_sameWorld ((r1.1, (r1.2.1, (r1.2.2.1, (r1.2.2.2.1, (r1.2.2.2.2.1, (r1.2.2.2.2.2.1, (r2.1, (r2.2.1, (r2.2.2.1, (r2.2.2.2.1, (r2.2.2.2.2.1, (r2.2.2.2.2.2.1, ())))))))))))))).bind fun r7 => some ((r7.1, ())) else (bif (!(decide ((nI (List.length r0.2.2.2.2.2.1) = (0 : Int))))) then (sh_impl_WorldDo ((r0.1, (r0.2.1, (r0.2.2.1, (r0.2.2.2.1, (r0.2.2.2.2.1, (r0.2.2.2.2.2.1, ((3 : Int), (Int.tmod (nI (List.length s.2.1)) (nI (List.length r0.2.2.2.2.2.1)), ())))))))))).bind fun r8 => (lp bo_laws_FnWorldOneDb_11 fuel ((Int.tmod (nI (List.length s.2.1)) (nI (List.length r0.2.2.2.2.2.1)), ((0 : Int), (r0.1, (r0.2.1, (r0.2.2.1, (r0.2.2.2.1, (r0.2.2.2.2.1, (r0.2.2.2.2.2.1, (r8.1, (r8.2.1, (r8.2.2.1, (r8.2.2.2.1, (r8.2.2.2.2.1, (r8.2.2.2.2.2.1, ())))))))))))))))).bind fun r9 => (match r9 with | .inl x10 => (sh_laws_sameBools ((x10.2.2.2.2.2.2.2.2.2.1, (x10.2.2.2.1, ())))).bind fun r11 => (bif r11.1 then (sh_laws_sameInts ((x10.2.2.2.2.2.2.2.2.2.2.1, (x10.2.2.2.2.1, ())))).bind fun r12 => (bif r12.1 then (bif inR x10.1 (List.length x10.2.2.2.2.2.2.1) then (bif inR ((at! .pk x10.2.2.2.2.2.2.1 (Int.toNat x10.1)).t) (List.length x10.2.2.2.2.2.2.2.2.2.2.2.1) then (bif inR x10.1 (List.length x10.2.2.2.2.2.2.1) then (bif inR x10.1 (List.length x10.2.2.2.2.2.2.1) then (sh_laws_seqOf ((at! .db x10.2.2.2.2.2.2.2.2.2.2.2.1 (Int.toNat ((at! .pk x10.2.2.2.2.2.2.1 (Int.toNat x10.1)).t)), (((at! .pk x10.2.2.2.2.2.2.1 (Int.toNat x10.1)).p).o, ())))).bind fun r13 => some ((decide ((((at! .pk x10.2.2.2.2.2.2.1 (Int.toNat x10.1)).p).s ≤ r13.1)), ())) else none) else none) else none) else none) else some ((false, ()))) else some ((false, ()))) | .inr y10 => some ((y10.1, ()))) else none))))))
def bo_laws_FnWorldLose_11 (s : (Int × Int × List Lk × List Bool × List Int × List (List Ls) × List Pk × Int × List Lk × List Bool × List Int × List (List Ls) × List Pk × Unit)) : Option ((Int × List Lk × List Bool × List Int × List (List Ls) × List Pk × Int × Int × List Lk × List Bool × List Int × List (List Ls) × List Pk × List Lk × List Bool × List Int × List (List Ls) × List Pk × Unit) ⊕ Unit) := (sh_impl_WorldDo ((s.2.1, (s.2.2.1, (s.2.2.2.1, (s.2.2.2.2.1, (s.2.2.2.2.2.1, (s.2.2.2.2.2.2.1, ((5 : Int), (s.1, ())))))))))).bind fun r0 => (sh_impl_WorldDo ((r0.1, (r0.2.1, (r0.2.2.1, (r0.2.2.2.1, (r0.2.2.2.2.1, (r0.2.2.2.2.2.1, ((4 : Int), (nI (List.length s.2.2.2.2.2.2.1), ())))))))))).bind fun r1 => some (Sum.inl ((s.2.1, s.2.2.1, s.2.2.2.1, s.2.2.2.2.1, s.2.2.2.2.2.1, s.2.2.2.2.2.2.1, s.2.2.2.2.2.2.2.1, r1.1, s.2.2.2.2.2.2.2.2.1, s.2.2.2.2.2.2.2.2.2.1, s.2.2.2.2.2.2.2.2.2.2.1, s.2.2.2.2.2.2.2.2.2.2.2.1, s.2.2.2.2.2.2.2.2.2.2.2.2.1, r1.2.1, r1.2.2.1, r1.2.2.2.1, r1.2.2.2.2.1, r1.2.2.2.2.2.1, ())))
def sh_laws_FnWorldLose (s : (List Int × List Int × Unit)) : Option (Bool × Unit) := (bif decide (((1048576 : Int) < nI (List.length s.1))) then some ((true, ())) else (bif decide (((1048576 : Int) < nI (List.length s.2.1))) then some ((true, ())) else (sh_spec_DrawWorldDo ((s.1, ()))).bind fun r0 => (sh_impl_WorldDo ((r0.1, (r0.2.1, (r0.2.2.1, (r0.2.2.2.1, (r0.2.2.2.2.1, (r0.2.2.2.2.2.1, (r0.2.2.2.2.2.2.1, (r0.2.2.2.2.2.2.2.1, ())))))))))).bind fun r1 => (sh_spec_WorldDo ((r0.1, (r0.2.1, (r0.2.2.1, (r0.2.2.2.1, (r0.2.2.2.2.1, (r0.2.2.2.2.2.1, (r0.2.2.2.2.2.2.1, (r0.2.2.2.2.2.2.2.1, ())))))))))).bind fun r2 => (sh_laws_sameWorld ((r1.1, (r1.2.1, (r1.2.2.1, (r1.2.2.2.1, (r1.2.2.2.2.1, (r1.2.2.2.2.2.1, (r2.1, (r2.2.1, (r2.2.2.1, (r2.2.2.2.1, (r2.2.2.2.2.1, (r2.2.2.2.2.2.1, ())))))))))))))).bind fun r3 => (bif (!r3.1) then (sh_laws_sameWorld ((r1.1, (r1.2.1, (r1.2.2.1, (r1.2.2.2.1, (r1.2.2.2.2.1, (r1.2.2.2.2.2.1, (r2.1, (r2.2.1, (r2.2.2.1, (r2.2.2.2.1, (r2.2.2.2.2.1, (r2.2.2.2.2.2.1, ())))))))))))))).bind fun r4 => some ((r4.1, ())) else (sh_spec_WorldValid ((r0.1, (r0.2.1, (r0.2.2.1, (r0.2.2.2.1, (r0.2.2.2.2.1, (r0.2.2.2.2.2.1, ())))))))).bind fun r5 => (bif (!r5.1) then (sh_laws_sameWorld ((r1.1, (r1.2.1, (r1.2.2.1, (r1.2.2.2.1, (r1.2.2.2.2.1, (r1.2.2.2.2.2.1, (r2.1, (r2.2.1, (r2.2.2.1, (r2.2.2.2.1, (r2.2.2.2.2.1, (r2.2.2.2.2.2.1, ())))))))))))))).bind fun r6 => some ((r6.1, ())) else (bif decide ((nI (List.length r0.2.2.2.2.2.1) = (0 : Int))) then (sh_laws_sameWorld ((r1.1, (r1.2.1, (r1.2.2.1, (r1.2.2.2.1, (r1.2.2.2.2.1, (r1.2.2.2.2.2.1, (r2.1, (r2.2.1, (r2.2.2.1, (r2.2.2.2.1, (r2.2.2.2.2.1, (r2.2.2.2.2.2.1, ())))))))))))))).bind fun r7 => some ((r7.1, ())) else (bif (!(decide ((nI (List.length r0.2.2.2.2.2.1) = (0 : Int))))) then (sh_impl_WorldDo ((r0.1, (r0.2.1, (r0.2.2.1, (r0.2.2.2.1, (r0.2.2.2.2.1, (r0.2.2.2.2.2.1, ((4 : Int), (Int.tmod (nI (List.length s.2.1)) (nI (List.length r0.2.2.2.2.2.1)), ())))))))))).bind fun r8 => (bif decide ((nI (List.length r0.2.2.2.2.2.1) < (16 : Int))) then (bo_laws_FnWorldLose_11 ((Int.tmod (nI (List.length s.2.1)) (nI (List.length r0.2.2.2.2.2.1)), (r0.1, (r0.2.1, (r0.2.2.1, (r0.2.2.2.1, (r0.2.2.2.2.1, (r0.2.2.2.2.2.1, (r8.1, (r8.2.1, (r8.2.2.1, (r8.2.2.2.1, (r8.2.2.2.2.1, (r8.2.2.2.2.2.1, ()))))))))))))))).bind fun r9 => (match r9 with | .inl x10 => (sh_laws_sameWorld ((x10.2.2.2.2.2.2.2.1, (x10.2.2.2.2.2.2.2.2.2.2.2.2.2.1, (x10.2.2.2.2.2.2.2.2.2.2.2.2.2.2.1, (x10.2.2.2.2.2.2.2.2.2.2.2.2.2.2.2.1, (x10.2.2.2.2.2.2.2.2.2.2.2.2.2.2.2.2.1, (x10.2.2.2.2.2.2.2.2.2.2.2.2.2.2.2.2.2.1, (x10.1, (x10.2.1, (x10.2.2.1, (x10.2.2.2.1, (x10.2.2.2.2.1, (x10.2.2.2.2.2.1, ())))))))))))))).bind fun r11 => (bif (!r11.1) then some ((false, ())) else (bif decide ((nI (List.length x10.2.2.2.2.2.2.2.2.2.2.2.2.1) = wrap64 ((nI (List.length x10.2.2.2.2.2.1) - (1 : Int))))) then (sh_laws_sameWorld ((x10.2.2.2.2.2.2.1, (x10.2.2.2.2.2.2.2.2.1, (x10.2.2.2.2.2.2.2.2.2.1, (x10.2.2.2.2.2.2.2.2.2.2.1, (x10.2.2.2.2.2.2.2.2.2.2.2.1, (x10.2.2.2.2.2.1, (x10.1, (x10.2.1, (x10.2.2.1, (x10.2.2.2.1, (x10.2.2.2.2.1, (x10.2.2.2.2.2.1, ())))))))))))))).bind fun r12 => some ((r12.1, ())) else some ((false, ())))) | .inr _ => none) else (bif decide ((nI (List.length r8.2.2.2.2.2.1) = wrap64 ((nI (List.length r0.2.2.2.2.2.1) - (1 : Int))))) then (sh_laws_sameWorld ((r8.1, (r8.2.1, (r8.2.2.1, (r8.2.2.2.1, (r8.2.2.2.2.1, (r0.2.2.2.2.2.1, (r0.1, (r0.2.1, (r0.2.2.1, (r0.2.2.2.1, (r0.2.2.2.2.1, (r0.2.2.2.2.2.1, ())))))))))))))).bind fun r13 => some ((r13.1, ())) else some ((false, ())))) else none))))))
def sh_laws_FnWorldSync (s : (List Int × List Int × Unit)) : Option (Bool × Unit) := (bif decide (((1048576 : Int) < nI (List.length s.1))) then some ((true, ())) else (bif decide (((1048576 : Int) < nI (List.length s.2.1))) then some ((true, ())) else (sh_spec_DrawWorldDo ((s.1, ()))).bind fun r0 => (sh_impl_WorldDo ((r0.1, (r0.2.1, (r0.2.2.1, (r0.2.2.2.1, (r0.2.2.2.2.1, (r0.2.2.2.2.2.1, (r0.2.2.2.2.2.2.1, (r0.2.2.2.2.2.2.2.1, ())))))))))).bind fun r1 => (sh_spec_WorldDo ((r0.1, (r0.2.1, (r0.2.2.1, (r0.2.2.2.1, (r0.2.2.2.2.1, (r0.2.2.2.2.2.1, (r0.2.2.2.2.2.2.1, (r0.2.2.2.2.2.2.2.1, ())))))))))).bind fun r2 => (sh_laws_sameWorld ((r1.1, (r1.2.1, (r1.2.2.1, (r1.2.2.2.1, (r1.2.2.2.2.1, (r1.2.2.2.2.2.1, (r2.1, (r2.2.1, (r2.2.2.1, (r2.2.2.2.1, (r2.2.2.2.2.1, (r2.2.2.2.2.2.1, ())))))))))))))).bind fun r3 => (bif (!r3.1) then (sh_laws_sameWorld ((r1.1, (r1.2.1, (r1.2.2.1, (r1.2.2.2.1, (r1.2.2.2.2.1, (r1.2.2.2.2.2.1, (r2.1, (r2.2.1, (r2.2.2.1, (r2.2.2.2.1, (r2.2.2.2.2.1, (r2.2.2.2.2.2.1, ())))))))))))))).bind fun r4 => some ((r4.1, ())) else (sh_spec_WorldValid ((r0.1, (r0.2.1, (r0.2.2.1, (r0.2.2.2.1, (r0.2.2.2.2.1, (r0.2.2.2.2.2.1, ())))))))).bind fun r5 => (bif (!r5.1) then (sh_laws_sameWorld ((r1.1, (r1.2.1, (r1.2.2.1, (r1.2.2.2.1, (r1.2.2.2.2.1, (r1.2.2.2.2.2.1, (r2.1, (r2.2.1, (r2.2.2.1, (r2.2.2.2.1, (r2.2.2.2.2.1, (r2.2.2.2.2.2.1, ())))))))))))))).bind fun r6 => some ((r6.1, ())) else (bif decide ((nI (List.length r0.2.2.1) = (0 : Int))) then (sh_laws_sameWorld ((r1.1, (r1.2.1, (r1.2.2.1, (r1.2.2.2.1, (r1.2.2.2.2.1, (r1.2.2.2.2.2.1, (r2.1, (r2.2.1, (r2.2.2.1, (r2.2.2.2.1, (r2.2.2.2.2.1, (r2.2.2.2.2.2.1, ())))))))))))))).bind fun r7 => some ((r7.1, ())) else (bif (!(decide ((nI (List.length r0.2.2.1) = (0 : Int))))) then (sh_impl_WorldDo ((r0.1, (r0.2.1, (r0.2.2.1, (r0.2.2.2.1, (r0.2.2.2.2.1, (r0.2.2.2.2.2.1, ((6 : Int), (Int.tmod (nI (List.length s.2.1)) (nI (List.length r0.2.2.1)), ())))))))))).bind fun r8 => (bif inR (Int.tmod (nI (List.length s.2.1)) (nI (List.length r0.2.2.1))) (List.length r0.2.2.1) then (bif (!(at! .bool r0.2.2.1 (Int.toNat (Int.tmod (nI (List.length s.2.1)) (nI (List.length r0.2.2.1)))))) then (sh_laws_sameWorld ((r8.1, (r8.2.1, (r8.2.2.1, (r8.2.2.2.1, (r8.2.2.2.2.1, (r8.2.2.2.2.2.1, (r0.1, (r0.2.1, (r0.2.2.1, (r0.2.2.2.1, (r0.2.2.2.2.1, (r0.2.2.2.2.2.1, ())))))))))))))).bind fun r9 => some ((r9.1, ())) else (bif inR (Int.tmod (nI (List.length s.2.1)) (nI (List.length r0.2.2.1))) (List.length r0.2.1) then (bif inR (Int.tmod (nI (List.length s.2.1)) (nI (List.length r0.2.2.1))) (List.length r0.2.1) then (bif inR ((at! .lk r0.2.1 (Int.toNat (Int.tmod (nI (List.length s.2.1)) (nI (List.length r0.2.2.1))))).a) (List.length r8.2.2.2.2.1) then (bif inR ((at! .lk r0.2.1 (Int.toNat (Int.tmod (nI (List.length s.2.1)) (nI (List.length r0.2.2.1))))).b) (List.length r8.2.2.2.2.1) then (sh_laws_sameDb ((at! .db r8.2.2.2.2.1 (Int.toNat ((at! .lk r0.2.1 (Int.toNat (Int.tmod (nI (List.length s.2.1)) (nI (List.length r0.2.2.1))))).a)), (at! .db r8.2.2.2.2.1 (Int.toNat ((at! .lk r0.2.1 (Int.toNat (Int.tmod (nI (List.length s.2.1)) (nI (List.length r0.2.2.1))))).b)), ())))).bind fun r10 => (bif r10.1 then (bif inR ((at! .lk r0.2.1 (Int.toNat (Int.tmod (nI (List.length s.2.1)) (nI (List.length r0.2.2.1))))).a) (List.length r8.2.2.2.2.1) then (bif inR ((at! .lk r0.2.1 (Int.toNat (Int.tmod (nI (List.length s.2.1)) (nI (List.length r0.2.2.1))))).a) (List.length r0.2.2.2.2.1) then (sh_impl_DbMissing ((at! .db r8.2.2.2.2.1 (Int.toNat ((at! .lk r0.2.1 (Int.toNat (Int.tmod (nI (List.length s.2.1)) (nI (List.length r0.2.2.1))))).a)), (at! .db r0.2.2.2.2.1 (Int.toNat ((at! .lk r0.2.1 (Int.toNat (Int.tmod (nI (List.length s.2.1)) (nI (List.length r0.2.2.1))))).a)), ())))).bind fun r11 => (bif decide ((nI (List.length r11.1) = (0 : Int))) then (bif inR ((at! .lk r0.2.1 (Int.toNat (Int.tmod (nI (List.length s.2.1)) (nI (List.length r0.2.2.1))))).a) (List.length r8.2.2.2.2.1) then (bif inR ((at! .lk r0.2.1 (Int.toNat (Int.tmod (nI (List.length s.2.1)) (nI (List.length r0.2.2.1))))).b) (List.length r0.2.2.2.2.1) then (sh_impl_DbMissing ((at! .db r8.2.2.2.2.1 (Int.toNat ((at! .lk r0.2.1 (Int.toNat (Int.tmod (nI (List.length s.2.1)) (nI (List.length r0.2.2.1))))).a)), (at! .db r0.2.2.2.2.1 (Int.toNat ((at! .lk r0.2.1 (Int.toNat (Int.tmod (nI (List.length s.2.1)) (nI (List.length r0.2.2.1))))).b)), ())))).bind fun r12 => some ((decide ((nI (List.length r12.1) = (0 : Int))), ())) else none) else none) else some ((false, ()))) else none) else none) else some ((false, ()))) else none) else none) else none) else none)) else none) else none))))))
end Go.Proofs.YtojdflifijpffaaGreat
end
section
namespace Go.Proofs.YtojdflifijpffaaGreat
open Go.RowKit
set_option maxRecDepth 100000
def e_laws_FnWorldDownTwice : Entry := ⟨⟨[.c (.one (.b (.sl true .u8))), .c (.one (.b (.sl true .u8)))], []⟩, [.ls .u8, .ls .u8], ⟨[.c (.one (.b .bool))], []⟩, [.bool], sh_laws_FnWorldDownTwice⟩
def g_laws_FnWorldDownTwice : Env := mkEnv tab [(17, [], e_laws_sameWorld), (16, [], e_spec_WorldValid), (22, [], e_spec_WorldDo), (21, [], e_spec_DrawWorldDo), (18, [], e_impl_WorldDo)] 66 0 [(12, 6, [(0, true), (1, true), (2, true), (3, true), (5, true), (4, false)], [])] []
theorem t_laws_FnWorldDownTwice : CtrOk Tryz.prog g_laws_FnWorldDownTwice.Γ := ctr_ok (l := [(17, [], e_laws_sameWorld), (16, [], e_spec_WorldValid), (22, [], e_spec_WorldDo), (21, [], e_spec_DrawWorldDo), (18, [], e_impl_WorldDo)]) ⟨⟨p_laws_sameWorld, Tryz.call17⟩, ⟨⟨p_spec_WorldValid, Tryz.call16⟩, ⟨⟨p_spec_WorldDo, Tryz.call22⟩, ⟨⟨p_spec_DrawWorldDo, Tryz.call21⟩, ⟨⟨p_impl_WorldDo, Tryz.call18⟩, trivial⟩⟩⟩⟩⟩
theorem p_laws_FnWorldDownTwice : GC Tryz.prog 4 e_laws_FnWorldDownTwice := gc_of (G := g_laws_FnWorldDownTwice) (c := Tryz.f4.body.getD .skip) bad_ok tabOk t_laws_FnWorldDownTwice mixed Tryz.func4 (by kernel_rfl) Tryz.ntmps4 (code_ok' (G := g_laws_FnWorldDownTwice) (n := 0) (by kernel_rfl) (by kernel_rfl) trivial (by kernel_rfl)) (fun s => by kernel_rfl)
def e_laws_FnWorldRepaired : Entry := ⟨⟨[.c (.one (.b (.sl true .u8))), .c (.one (.b (.sl true .u8)))], []⟩, [.ls .u8, .ls .u8], ⟨[.c (.one (.b .bool))], []⟩, [.bool], sh_laws_FnWorldRepaired⟩
def g_laws_FnWorldRepaired : Env := mkEnv tab [(25, [], e_laws_sameGraph), (17, [], e_laws_sameWorld), (16, [], e_spec_WorldValid), (26, [], e_impl_WorldTruth), (22, [], e_spec_WorldDo), (21, [], e_spec_DrawWorldDo), (18, [], e_impl_WorldDo)] 87 0 [(13, 15, [(0, true), (1, true), (2, true), (3, true), (4, true), (5, true), (6, true), (7, true), (8, true), (9, true), (10, true), (11, true), (12, true), (14, true), (13, false)], [])] []
theorem t_laws_FnWorldRepaired : CtrOk Tryz.prog g_laws_FnWorldRepaired.Γ := ctr_ok (l := [(25, [], e_laws_sameGraph), (17, [], e_laws_sameWorld), (16, [], e_spec_WorldValid), (26, [], e_impl_WorldTruth), (22, [], e_spec_WorldDo), (21, [], e_spec_DrawWorldDo), (18, [], e_impl_WorldDo)]) ⟨⟨p_laws_sameGraph, Tryz.call25⟩, ⟨⟨p_laws_sameWorld, Tryz.call17⟩, ⟨⟨p_spec_WorldValid, Tryz.call16⟩, ⟨⟨p_impl_WorldTruth, Tryz.call26⟩, ⟨⟨p_spec_WorldDo, Tryz.call22⟩, ⟨⟨p_spec_DrawWorldDo, Tryz.call21⟩, ⟨⟨p_impl_WorldDo, Tryz.call18⟩, trivial⟩⟩⟩⟩⟩⟩⟩
theorem p_laws_FnWorldRepaired : GC Tryz.prog 7 e_laws_FnWorldRepaired := gc_of (G := g_laws_FnWorldRepaired) (c := Tryz.f7.body.getD .skip) bad_ok tabOk t_laws_FnWorldRepaired mixed Tryz.func7 (by kernel_rfl) Tryz.ntmps7 (code_ok' (G := g_laws_FnWorldRepaired) (n := 0) (by kernel_rfl) (by kernel_rfl) trivial (by kernel_rfl)) (fun s => by kernel_rfl)
def e_laws_FnWorldStale : Entry := ⟨⟨[.c (.one (.b (.sl true .u8))), .c (.one (.b (.sl true .u8)))], []⟩, [.ls .u8, .ls .u8], ⟨[.c (.one (.b .bool))], []⟩, [.bool], sh_laws_FnWorldStale⟩
def g_laws_FnWorldStale : Env := mkEnv tab [(17, [], e_laws_sameWorld), (16, [], e_spec_WorldValid), (22, [], e_spec_WorldDo), (28, [], e_laws_seqOf), (21, [], e_spec_DrawWorldDo), (18, [], e_impl_WorldDo)] 86 0 [(10, 13, [(0, true), (1, true), (2, true), (3, true), (4, true), (5, true), (6, true), (7, true), (8, true), (10, true), (11, true), (12, true), (9, false)], [])] []
theorem t_laws_FnWorldStale : CtrOk Tryz.prog g_laws_FnWorldStale.Γ := ctr_ok (l := [(17, [], e_laws_sameWorld), (16, [], e_spec_WorldValid), (22, [], e_spec_WorldDo), (28, [], e_laws_seqOf), (21, [], e_spec_DrawWorldDo), (18, [], e_impl_WorldDo)]) ⟨⟨p_laws_sameWorld, Tryz.call17⟩, ⟨⟨p_spec_WorldValid, Tryz.call16⟩, ⟨⟨p_spec_WorldDo, Tryz.call22⟩, ⟨⟨p_laws_seqOf, Tryz.call28⟩, ⟨⟨p_spec_DrawWorldDo, Tryz.call21⟩, ⟨⟨p_impl_WorldDo, Tryz.call18⟩, trivial⟩⟩⟩⟩⟩⟩
theorem p_laws_FnWorldStale : GC Tryz.prog 9 e_laws_FnWorldStale := gc_of (G := g_laws_FnWorldStale) (c := Tryz.f9.body.getD .skip) bad_ok tabOk t_laws_FnWorldStale mixed Tryz.func9 (by kernel_rfl) Tryz.ntmps9 (code_ok' (G := g_laws_FnWorldStale) (n := 0) (by kernel_rfl) (by kernel_rfl) trivial (by kernel_rfl)) (fun s => by kernel_rfl)
def L_laws_FnWorldSyncOthers_11 : Loop := ⟨⟨[5, 9, 10, 11], ⟨[.c (.one (.ptr 0 0)), .c (.one (.b (.int .i64))), .c (.one (.ptr 1 0)), .c (.one (.b (.int .i64)))], [.box 31 [(.b (.int .i64)), (.b (.sl true .lk)), (.b (.sl true .bool)), (.b (.sl true .int)), (.b (.sl true .db)), (.b (.sl true .pk))], .box 31 [(.b (.int .i64)), (.own 2), (.own 3), (.own 4), (.own 5), (.own 6)], .row 45 .lk, .row 4 .bool, .row 3 .int, .row 47 .db, .row 55 .pk]⟩, [.int, .int, .int, .ls .lk, .ls .bool, .ls .int, .ls .db, .ls .pk, .int, .ls .lk, .ls .bool, .ls .int, .ls .db, .ls .pk]⟩, 0, ⟨[5, 10], ⟨[.c (.one (.ptr 0 0)), .c (.one (.ptr 1 0))], [.box 31 [(.b (.int .i64)), (.b (.sl true .lk)), (.b (.sl true .bool)), (.b (.sl true .int)), (.b (.sl true .db)), (.b (.sl true .pk))], .box 31 [(.b (.int .i64)), (.own 2), (.own 3), (.own 4), (.own 5), (.own 6)], .row 45 .lk, .row 4 .bool, .row 3 .int, .row 47 .db, .row 55 .pk]⟩, [.int, .ls .lk, .ls .bool, .ls .int, .ls .db, .ls .pk, .int, .ls .lk, .ls .bool, .ls .int, .ls .db, .ls .pk]⟩, ⟨[4], ⟨[.c (.one (.b .bool))], []⟩, [.bool]⟩, lp bo_laws_FnWorldSyncOthers_11 fuel⟩
def e_laws_FnWorldSyncOthers : Entry := ⟨⟨[.c (.one (.b (.sl true .u8))), .c (.one (.b (.sl true .u8)))], []⟩, [.ls .u8, .ls .u8], ⟨[.c (.one (.b .bool))], []⟩, [.bool], sh_laws_FnWorldSyncOthers⟩
def g_laws_FnWorldSyncOthers : Env := mkEnv tab [(24, [], e_laws_sameInts), (23, [], e_laws_sameDb), (17, [], e_laws_sameWorld), (16, [], e_spec_WorldValid), (22, [], e_spec_WorldDo), (21, [], e_spec_DrawWorldDo), (18, [], e_impl_WorldDo)] 114 0 [(13, 31, [(0, true), (1, true), (2, true), (3, true), (4, true), (5, true), (6, true), (7, true), (8, true), (9, true), (10, true), (11, true), (12, true), (13, true), (14, true), (15, true), (16, true), (17, true), (18, true), (19, true), (20, true), (21, true), (22, true), (23, true), (24, true), (25, true), (26, true), (27, true), (28, true), (29, true), (30, true)], [])] [(11, L_laws_FnWorldSyncOthers_11)]
theorem t_laws_FnWorldSyncOthers : CtrOk Tryz.prog g_laws_FnWorldSyncOthers.Γ := ctr_ok (l := [(24, [], e_laws_sameInts), (23, [], e_laws_sameDb), (17, [], e_laws_sameWorld), (16, [], e_spec_WorldValid), (22, [], e_spec_WorldDo), (21, [], e_spec_DrawWorldDo), (18, [], e_impl_WorldDo)]) ⟨⟨p_laws_sameInts, Tryz.call24⟩, ⟨⟨p_laws_sameDb, Tryz.call23⟩, ⟨⟨p_laws_sameWorld, Tryz.call17⟩, ⟨⟨p_spec_WorldValid, Tryz.call16⟩, ⟨⟨p_spec_WorldDo, Tryz.call22⟩, ⟨⟨p_spec_DrawWorldDo, Tryz.call21⟩, ⟨⟨p_impl_WorldDo, Tryz.call18⟩, trivial⟩⟩⟩⟩⟩⟩⟩
theorem k_laws_FnWorldSyncOthers_11 : LoopOk Tryz.prog 0 114 (nthC (Tryz.f6.body.getD .skip) 0) L_laws_FnWorldSyncOthers_11 := loop_ok (G := g_laws_FnWorldSyncOthers) (F := L_laws_FnWorldSyncOthers_11.F) (eid := L_laws_FnWorldSyncOthers_11.eid) (FX := L_laws_FnWorldSyncOthers_11.FX) (FR := L_laws_FnWorldSyncOthers_11.FR) (B := bo_laws_FnWorldSyncOthers_11) (n := fuel) bad_ok tabOk t_laws_FnWorldSyncOthers mixed (code_ok' (G := g_laws_FnWorldSyncOthers) (n := 0) (by kernel_rfl) (by kernel_rfl) trivial (by kernel_rfl)) (fun s => by kernel_rfl)
theorem p_laws_FnWorldSyncOthers : GC Tryz.prog 6 e_laws_FnWorldSyncOthers := gc_of (G := g_laws_FnWorldSyncOthers) (c := Tryz.f6.body.getD .skip) bad_ok tabOk t_laws_FnWorldSyncOthers mixed Tryz.func6 (by kernel_rfl) Tryz.ntmps6 (code_ok' (G := g_laws_FnWorldSyncOthers) (n := 1) (by kernel_rfl) (by kernel_rfl) ⟨trivial, loop_at (id := 11) (L0 := L_laws_FnWorldSyncOthers_11) (by kernel_rfl) (by kernel_rfl) k_laws_FnWorldSyncOthers_11⟩ (by kernel_rfl)) (fun s => by kernel_rfl)
def L_laws_FnWorldOneDb_11 : Loop := ⟨⟨[5, 9, 10, 11], ⟨[.c (.one (.ptr 0 0)), .c (.one (.b (.int .i64))), .c (.one (.ptr 1 0)), .c (.one (.b (.int .i64)))], [.box 31 [(.b (.int .i64)), (.b (.sl true .lk)), (.b (.sl true .bool)), (.b (.sl true .int)), (.b (.sl true .db)), (.b (.sl true .pk))], .box 31 [(.b (.int .i64)), (.own 2), (.own 3), (.own 4), (.own 5), (.own 6)], .row 45 .lk, .row 4 .bool, .row 3 .int, .row 47 .db, .row 55 .pk]⟩, [.int, .int, .int, .ls .lk, .ls .bool, .ls .int, .ls .db, .ls .pk, .int, .ls .lk, .ls .bool, .ls .int, .ls .db, .ls .pk]⟩, 0, ⟨[5, 9, 10], ⟨[.c (.one (.ptr 0 0)), .c (.one (.b (.int .i64))), .c (.one (.ptr 1 0))], [.box 31 [(.b (.int .i64)), (.b (.sl true .lk)), (.b (.sl true .bool)), (.b (.sl true .int)), (.b (.sl true .db)), (.b (.sl true .pk))], .box 31 [(.b (.int .i64)), (.own 2), (.own 3), (.own 4), (.own 5), (.own 6)], .row 45 .lk, .row 4 .bool, .row 3 .int, .row 47 .db, .row 55 .pk]⟩, [.int, .int, .ls .lk, .ls .bool, .ls .int, .ls .db, .ls .pk, .int, .ls .lk, .ls .bool, .ls .int, .ls .db, .ls .pk]⟩, ⟨[4], ⟨[.c (.one (.b .bool))], []⟩, [.bool]⟩, lp bo_laws_FnWorldOneDb_11 fuel⟩
def e_laws_FnWorldOneDb : Entry := ⟨⟨[.c (.one (.b (.sl true .u8))), .c (.one (.b (.sl true .u8)))], []⟩, [.ls .u8, .ls .u8], ⟨[.c (.one (.b .bool))], []⟩, [.bool], sh_laws_FnWorldOneDb⟩
def g_laws_FnWorldOneDb : Env := mkEnv tab [(24, [], e_laws_sameInts), (27, [], e_laws_sameBools), (23, [], e_laws_sameDb), (17, [], e_laws_sameWorld), (16, [], e_spec_WorldValid), (22, [], e_spec_WorldDo), (28, [], e_laws_seqOf), (21, [], e_spec_DrawWorldDo), (18, [], e_impl_WorldDo)] 128 0 [(13, 19, [(0, true), (1, true), (2, true), (3, true), (4, true), (5, true), (6, true), (7, true), (8, true), (9, true), (10, true), (11, true), (12, true), (13, true), (14, true), (15, true), (16, true), (17, true), (18, true)], []), (15, 38, [(0, true), (1, true), (2, true), (3, true), (4, false), (5, true), (6, true), (7, true), (8, true), (9, true), (10, false), (11, true), (12, true), (13, true), (14, true), (15, true), (16, true), (17, true), (18, true), (19, true), (20, true), (21, true), (22, true), (23, true), (24, true), (25, true), (26, true), (27, true), (28, true), (29, true), (31, true), (32, true), (33, true), (34, true), (35, true), (36, true), (37, true), (30, false)], [])] [(11, L_laws_FnWorldOneDb_11)]
theorem t_laws_FnWorldOneDb : CtrOk Tryz.prog g_laws_FnWorldOneDb.Γ := ctr_ok (l := [(24, [], e_laws_sameInts), (27, [], e_laws_sameBools), (23, [], e_laws_sameDb), (17, [], e_laws_sameWorld), (16, [], e_spec_WorldValid), (22, [], e_spec_WorldDo), (28, [], e_laws_seqOf), (21, [], e_spec_DrawWorldDo), (18, [], e_impl_WorldDo)]) ⟨⟨p_laws_sameInts, Tryz.call24⟩, ⟨⟨p_laws_sameBools, Tryz.call27⟩, ⟨⟨p_laws_sameDb, Tryz.call23⟩, ⟨⟨p_laws_sameWorld, Tryz.call17⟩, ⟨⟨p_spec_WorldValid, Tryz.call16⟩, ⟨⟨p_spec_WorldDo, Tryz.call22⟩, ⟨⟨p_laws_seqOf, Tryz.call28⟩, ⟨⟨p_spec_DrawWorldDo, Tryz.call21⟩, ⟨⟨p_impl_WorldDo, Tryz.call18⟩, trivial⟩⟩⟩⟩⟩⟩⟩⟩⟩
theorem k_laws_FnWorldOneDb_11 : LoopOk Tryz.prog 0 128 (nthC (Tryz.f8.body.getD .skip) 0) L_laws_FnWorldOneDb_11 := loop_ok (G := g_laws_FnWorldOneDb) (F := L_laws_FnWorldOneDb_11.F) (eid := L_laws_FnWorldOneDb_11.eid) (FX := L_laws_FnWorldOneDb_11.FX) (FR := L_laws_FnWorldOneDb_11.FR) (B := bo_laws_FnWorldOneDb_11) (n := fuel) bad_ok tabOk t_laws_FnWorldOneDb mixed (code_ok' (G := g_laws_FnWorldOneDb) (n := 0) (by kernel_rfl) (by kernel_rfl) trivial (by kernel_rfl)) (fun s => by kernel_rfl)
theorem p_laws_FnWorldOneDb : GC Tryz.prog 8 e_laws_FnWorldOneDb := gc_of (G := g_laws_FnWorldOneDb) (c := Tryz.f8.body.getD .skip) bad_ok tabOk t_laws_FnWorldOneDb mixed Tryz.func8 (by kernel_rfl) Tryz.ntmps8 (code_ok' (G := g_laws_FnWorldOneDb) (n := 1) (by kernel_rfl) (by kernel_rfl) ⟨trivial, loop_at (id := 11) (L0 := L_laws_FnWorldOneDb_11) (by kernel_rfl) (by kernel_rfl) k_laws_FnWorldOneDb_11⟩ (by kernel_rfl)) (fun s => by kernel_rfl)
def L_laws_FnWorldLose_11 : Loop := ⟨⟨[5, 9, 10], ⟨[.c (.one (.ptr 0 0)), .c (.one (.b (.int .i64))), .c (.one (.ptr 1 0))], [.box 31 [(.b (.int .i64)), (.b (.sl true .lk)), (.b (.sl true .bool)), (.b (.sl true .int)), (.b (.sl true .db)), (.b (.sl true .pk))], .box 31 [(.b (.int .i64)), (.own 2), (.own 3), (.own 4), (.own 5), (.own 6)], .row 45 .lk, .row 4 .bool, .row 3 .int, .row 47 .db, .row 55 .pk]⟩, [.int, .int, .ls .lk, .ls .bool, .ls .int, .ls .db, .ls .pk, .int, .ls .lk, .ls .bool, .ls .int, .ls .db, .ls .pk]⟩, 0, ⟨[5, 10, 11], ⟨[.c (.one (.ptr 0 0)), .c (.one (.ptr 1 0)), .c (.one (.ptr 2 0))], [.box 31 [(.b (.int .i64)), (.b (.sl true .lk)), (.b (.sl true .bool)), (.b (.sl true .int)), (.b (.sl true .db)), (.b (.sl true .pk))], .box 31 [(.b (.int .i64)), (.own 3), (.own 4), (.own 5), (.own 6), (.own 7)], .box 31 [(.b (.int .i64)), (.own 8), (.own 9), (.own 10), (.own 11), (.own 12)], .row 45 .lk, .row 4 .bool, .row 3 .int, .row 47 .db, .row 55 .pk, .row 45 .lk, .row 4 .bool, .row 3 .int, .row 47 .db, .row 55 .pk]⟩, [.int, .ls .lk, .ls .bool, .ls .int, .ls .db, .ls .pk, .int, .int, .ls .lk, .ls .bool, .ls .int, .ls .db, .ls .pk, .ls .lk, .ls .bool, .ls .int, .ls .db, .ls .pk]⟩, ⟨[999999], ⟨[.c (.one (.own 0))], []⟩, []⟩, bo_laws_FnWorldLose_11⟩
def e_laws_FnWorldLose : Entry := ⟨⟨[.c (.one (.b (.sl true .u8))), .c (.one (.b (.sl true .u8)))], []⟩, [.ls .u8, .ls .u8], ⟨[.c (.one (.b .bool))], []⟩, [.bool], sh_laws_FnWorldLose⟩
def g_laws_FnWorldLose : Env := mkEnv tab [(17, [], e_laws_sameWorld), (16, [], e_spec_WorldValid), (22, [], e_spec_WorldDo), (21, [], e_spec_DrawWorldDo), (18, [], e_impl_WorldDo)] 94 0 [] [(11, L_laws_FnWorldLose_11)]
theorem t_laws_FnWorldLose : CtrOk Tryz.prog g_laws_FnWorldLose.Γ := ctr_ok (l := [(17, [], e_laws_sameWorld), (16, [], e_spec_WorldValid), (22, [], e_spec_WorldDo), (21, [], e_spec_DrawWorldDo), (18, [], e_impl_WorldDo)]) ⟨⟨p_laws_sameWorld, Tryz.call17⟩, ⟨⟨p_spec_WorldValid, Tryz.call16⟩, ⟨⟨p_spec_WorldDo, Tryz.call22⟩, ⟨⟨p_spec_DrawWorldDo, Tryz.call21⟩, ⟨⟨p_impl_WorldDo, Tryz.call18⟩, trivial⟩⟩⟩⟩⟩
theorem k_laws_FnWorldLose_11 : RegOk Tryz.prog 0 94 (nthR g_laws_FnWorldLose.plan (Tryz.f5.body.getD .skip) 0).1 (nthR g_laws_FnWorldLose.plan (Tryz.f5.body.getD .skip) 0).2 L_laws_FnWorldLose_11 := reg_ok (G := g_laws_FnWorldLose) (n := 10) (ks := []) (t := (.val 0 (.val 1 (.val 2 (.val 4 (.val 5 (.val 6 (.val 7 (.two 3 (.two 8 (.one 9 .done) 9 (.one 8 .done)) 9 (.one 3 (.one 8 .done))))))))))) (F := L_laws_FnWorldLose_11.F) (eid := 0) (FX := L_laws_FnWorldLose_11.FX) (FR := L_laws_FnWorldLose_11.FR) (sh := bo_laws_FnWorldLose_11) bad_ok tabOk t_laws_FnWorldLose mixed (by kernel_rfl) (by kernel_rfl) ⟨fun s => by kernel_rfl, fun s => by kernel_rfl, fun s => by kernel_rfl, trivial⟩
theorem p_laws_FnWorldLose : GC Tryz.prog 5 e_laws_FnWorldLose := gc_of (G := g_laws_FnWorldLose) (c := Tryz.f5.body.getD .skip) bad_ok tabOk t_laws_FnWorldLose mixed Tryz.func5 (by kernel_rfl) Tryz.ntmps5 (code_ok2 (G := g_laws_FnWorldLose) (n := 0) (m := 1) (by kernel_rfl) (by kernel_rfl) trivial (by kernel_rfl) ⟨trivial, reg_at (L0 := L_laws_FnWorldLose_11) (by kernel_rfl) k_laws_FnWorldLose_11⟩) (fun s => by kernel_rfl)
def e_laws_FnWorldSync : Entry := ⟨⟨[.c (.one (.b (.sl true .u8))), .c (.one (.b (.sl true .u8)))], []⟩, [.ls .u8, .ls .u8], ⟨[.c (.one (.b .bool))], []⟩, [.bool], sh_laws_FnWorldSync⟩
def g_laws_FnWorldSync : Env := mkEnv tab [(23, [], e_laws_sameDb), (17, [], e_laws_sameWorld), (16, [], e_spec_WorldValid), (22, [], e_spec_WorldDo), (29, [], e_impl_DbMissing), (21, [], e_spec_DrawWorldDo), (18, [], e_impl_WorldDo)] 124 0 [(14, 37, [(0, true), (1, true), (2, true), (3, true), (4, true), (5, true), (6, true), (7, true), (8, true), (9, true), (10, false), (11, true), (12, true), (13, true), (14, true), (15, true), (16, true), (17, true), (18, true), (19, true), (20, true), (21, true), (22, false), (23, true), (24, true), (25, true), (26, true), (27, true), (28, true), (29, true), (30, true), (31, true), (32, true), (33, true), (34, true), (35, true), (36, true)], [])] []
theorem t_laws_FnWorldSync : CtrOk Tryz.prog g_laws_FnWorldSync.Γ := ctr_ok (l := [(23, [], e_laws_sameDb), (17, [], e_laws_sameWorld), (16, [], e_spec_WorldValid), (22, [], e_spec_WorldDo), (29, [], e_impl_DbMissing), (21, [], e_spec_DrawWorldDo), (18, [], e_impl_WorldDo)]) ⟨⟨p_laws_sameDb, Tryz.call23⟩, ⟨⟨p_laws_sameWorld, Tryz.call17⟩, ⟨⟨p_spec_WorldValid, Tryz.call16⟩, ⟨⟨p_spec_WorldDo, Tryz.call22⟩, ⟨⟨p_impl_DbMissing, Tryz.call29⟩, ⟨⟨p_spec_DrawWorldDo, Tryz.call21⟩, ⟨⟨p_impl_WorldDo, Tryz.call18⟩, trivial⟩⟩⟩⟩⟩⟩⟩
theorem p_laws_FnWorldSync : GC Tryz.prog 10 e_laws_FnWorldSync := gc_of (G := g_laws_FnWorldSync) (c := Tryz.f10.body.getD .skip) bad_ok tabOk t_laws_FnWorldSync mixed Tryz.func10 (by kernel_rfl) Tryz.ntmps10 (code_ok' (G := g_laws_FnWorldSync) (n := 0) (by kernel_rfl) (by kernel_rfl) trivial (by kernel_rfl)) (fun s => by kernel_rfl)
end Go.Proofs.YtojdflifijpffaaGreat
end
section
namespace Go.Proofs.YtojdflifijpffaaGreat
open Go.RowKit

def LkAt (n : Int) (ls : List Lk) (i : Nat) : Prop :=
  0 ≤ (lk ls i).a ∧ (lk ls i).a < (lk ls i).b ∧ (lk ls i).b < n ∧ 1 ≤ (lk ls i).c ∧ (lk ls i).c ≤ 20 ∧
    (0 < i → (lk ls (i - 1)).a < (lk ls i).a ∨ (lk ls (i - 1)).a = (lk ls i).a ∧ (lk ls (i - 1)).b < (lk ls i).b)
instance (n : Int) (ls : List Lk) (i : Nat) : Decidable (LkAt n ls i) := by unfold LkAt; infer_instance
def GV (n : Int) (ls : List Lk) : Prop := 1 ≤ n ∧ n ≤ 8 ∧ ls.length ≤ 14 ∧ ∀ i, i < ls.length → LkAt n ls i
instance (n : Int) (ls : List Lk) : Decidable (GV n ls) := by unfold GV; infer_instance
def gv (n : Int) (ls : List Lk) : Bool := decide (GV n ls)
theorem gv_t {n : Int} {ls : List Lk} (h : gv n ls = true) : GV n ls := of_decide_eq_true h
theorem gv_f {n : Int} {ls : List Lk} (h : ¬ GV n ls) : gv n ls = false := decide_eq_false h
theorem gv_at {n : Int} {ls : List Lk} {k : Nat} (hk : k < ls.length) (h : 1 ≤ n → n ≤ 8 → ¬ LkAt n ls k) : gv n ls = false :=
  gv_f fun g => h g.1 g.2.1 (g.2.2.2 k hk)
theorem gv_end {n : Int} {ls : List Lk} {k : Nat} (hl : ls.length = k) (h : 1 ≤ n → n ≤ 8 → ∀ i, i < k → LkAt n ls i) : gv n ls = (inB n 1 8 && decide ((k : Int) ≤ 14)) := by
  subst hl
  unfold gv GV inB
  by_cases h1 : 1 ≤ n ∧ n ≤ 8
  · by_cases h2 : ls.length ≤ 14
    · have h3 := h h1.1 h1.2
      have : ((ls.length : Nat) : Int) ≤ 14 := by omega
      simp [h1, h2, this]
      exact fun i hi => h3 i hi
    · have : ¬ ((ls.length : Nat) : Int) ≤ 14 := by omega
      simp [h1, h2, this]
  · have : ¬ (1 ≤ n ∧ n ≤ 8 ∧ ls.length ≤ 14 ∧ ∀ i, i < ls.length → LkAt n ls i) := fun g => h1 ⟨g.1, g.2.1⟩
    simp [this, h1]
end Go.Proofs.YtojdflifijpffaaGreat

namespace Go.Proofs.YtojdflifijpffaaGreat
open Go.RowKit

def relaxB (d : List Int) (x y : Nat) (c : Int) : Bool := decide (0 ≤ iz d x) && (decide (iz d y < 0) || decide (iz d x + c < iz d y))
def relax (d : List Int) (x y : Nat) (c : Int) : List Int := if relaxB d x y c then d.set y (iz d x + c) else d
def relaxL (d : List Int) (l : Lk) : List Int := relax (relax d l.a.toNat l.b.toNat l.c) l.b.toNat l.a.toNat l.c
def sweep (ls : List Lk) (d : List Int) : List Int := ls.foldl relaxL d
def dinit (n f : Nat) : List Int := (List.replicate n (-1)).set f 0
def rounds (ls : List Lk) (d : List Int) : Nat → List Int
  | 0 => d
  | k + 1 => sweep ls (rounds ls d k)
def dst (n : Nat) (ls : List Lk) (f r i : Nat) : List Int := (ls.take i).foldl relaxL (rounds ls (dinit n f) r)
def dists (n : Nat) (ls : List Lk) (f : Nat) : List Int := rounds ls (dinit n f) n

theorem iz_set (d : List Int) (y j : Nat) (v : Int) (hy : y < d.length) : iz (d.set y v) j = if j = y then v else iz d j := by
  unfold iz
  simp only [List.getD, List.getElem?_set]
  by_cases h : y = j
  · subst h; simp [hy]
  · have h' : ¬ j = y := fun e => h e.symm
    simp [h, h']
theorem GV.at_ {n : Int} {ls : List Lk} (h : GV n ls) {i : Nat} (hi : i < ls.length) : ∃ x y : Nat, (lk ls i).a = x ∧ (lk ls i).b = y ∧ x < y ∧ (y : Int) < n ∧ 1 ≤ (lk ls i).c ∧ (lk ls i).c ≤ 20 := by
  have := h.2.2.2 i hi
  unfold LkAt at this
  exact ⟨(lk ls i).a.toNat, (lk ls i).b.toNat, by omega, by omega, by omega, by omega, by omega, by omega⟩
end Go.Proofs.YtojdflifijpffaaGreat

namespace Go.Proofs.YtojdflifijpffaaGreat
open Go.RowKit

structure Src (d : List Int) (f : Nat) : Prop where
  zero : iz d f = 0
  low : ∀ j, -1 ≤ iz d j
  only : ∀ j, j < d.length → iz d j = 0 → j = f
end Go.Proofs.YtojdflifijpffaaGreat

namespace Go.Proofs.YtojdflifijpffaaGreat
open Go.RowKit

def Adj (ls : List Lk) (x y : Nat) (c : Int) : Prop := ∃ l, l ∈ ls ∧ l.c = c ∧ (l.a = x ∧ l.b = y ∨ l.a = y ∧ l.b = x)
theorem Adj.symm {ls : List Lk} {x y : Nat} {c : Int} (h : Adj ls x y c) : Adj ls y x c := by
  obtain ⟨l, h1, h2, h3⟩ := h
  exact ⟨l, h1, h2, h3.symm⟩
inductive Wk (ls : List Lk) (u : Nat) : Nat → Nat → Int → Prop
  | nil : Wk ls u 0 u 0
  | step {k x y : Nat} {s c : Int} : Wk ls u k x s → Adj ls x y c → Wk ls u (k + 1) y (s + c)
theorem Wk.append {ls : List Lk} {u v : Nat} {k : Nat} {s : Int} (h : Wk ls u k v s) {m w : Nat} {t : Int} (h' : Wk ls v m w t) : Wk ls u (k + m) w (s + t) := by
  induction h' with
  | nil => simpa using h
  | step _ ha ih => rw [← Int.add_assoc]; exact ih.step ha
theorem Wk.one {ls : List Lk} {x y : Nat} {c : Int} (h : Adj ls x y c) : Wk ls x 1 y c := by simpa using Wk.nil.step h
theorem Wk.symm {ls : List Lk} {u v k : Nat} {s : Int} (h : Wk ls u k v s) : Wk ls v k u s := by
  induction h with
  | nil => exact .nil
  | step _ ha ih =>
    have := (Wk.one ha.symm).append ih
    rwa [Nat.add_comm, Int.add_comm] at this
theorem Wk.mono {ls ls' : List Lk} (hs : ∀ x y c, Adj ls x y c → Adj ls' x y c) {u v k : Nat} {s : Int} (h : Wk ls u k v s) : Wk ls' u k v s := by
  induction h with
  | nil => exact .nil
  | step _ ha ih => exact ih.step (hs _ _ _ ha)
def Ends (n : Nat) (ls : List Lk) : Prop := ∀ l ∈ ls, ∃ x y : Nat, l.a = x ∧ l.b = y ∧ x < n ∧ y < n
theorem GV.ends {n : Nat} {ls : List Lk} (h : GV n ls) : Ends n ls := by
  intro l hl
  obtain ⟨i, hi, rfl⟩ := List.getElem_of_mem hl
  have := h.at_ hi
  rw [lk_of (List.getElem?_eq_getElem hi)] at this
  obtain ⟨x, y, h1, h2, h3, h4, _⟩ := this
  exact ⟨x, y, h1, h2, by omega, by omega⟩
theorem Adj.lt {n : Nat} {ls : List Lk} (he : Ends n ls) {x y : Nat} {c : Int} (h : Adj ls x y c) : x < n ∧ y < n := by
  obtain ⟨l, h1, _, h3⟩ := h
  obtain ⟨a, b, ha, hb, ha', hb'⟩ := he l h1
  rcases h3 with ⟨e1, e2⟩ | ⟨e1, e2⟩ <;> omega
def Le (d' d : List Int) : Prop := ∀ v, 0 ≤ iz d v → 0 ≤ iz d' v ∧ iz d' v ≤ iz d v
theorem Le.refl (d : List Int) : Le d d := fun _ h => ⟨h, Int.le_refl _⟩
theorem Le.trans {a b c : List Int} (h : Le a b) (k : Le b c) : Le a c := fun v hv => by
  have h1 := k v hv
  have h2 := h v h1.1
  exact ⟨h2.1, by omega⟩
end Go.Proofs.YtojdflifijpffaaGreat

namespace Go.Proofs.YtojdflifijpffaaGreat
open Go.RowKit

def Sat {α : Type} (o : Option α) (Q : α → Prop) : Prop := ∃ r, o = some r ∧ Q r
theorem Sat.some {α : Type} {x : α} {Q : α → Prop} (h : Q x) : Sat (some x) Q := ⟨x, rfl, h⟩
theorem Sat.mono {α : Type} {o : Option α} {Q R : α → Prop} (h : Sat o Q) (k : ∀ x, Q x → R x) : Sat o R := by
  obtain ⟨r, h1, h2⟩ := h; exact ⟨r, h1, k r h2⟩
theorem Sat.bind {α β : Type} {o : Option α} {f : α → Option β} {Q : β → Prop} (h : Sat o fun x => Sat (f x) Q) : Sat (o.bind f) Q := by
  obtain ⟨x, rfl, y, h1, h2⟩ := h; exact ⟨y, h1, h2⟩
theorem Sat.bnd {α β : Type} {o : Option α} {R : α → Prop} {f : α → Option β} {Q : β → Prop} (h : Sat o R) (k : ∀ x, R x → Sat (f x) Q) : Sat (o.bind f) Q := Sat.bind (h.mono k)
theorem Sat.ite {α : Type} {c : Bool} {a b : Option α} {Q : α → Prop} (h : c = true → Sat a Q) (k : c = false → Sat b Q) : Sat (bif c then a else b) Q := by
  cases c with
  | true => exact h rfl
  | false => exact k rfl
theorem Sat.gd {α : Type} {c : Bool} {a b : Option α} {Q : α → Prop} (hc : c = true) (h : Sat a Q) : Sat (bif c then a else b) Q := by subst hc; exact h
theorem Sat.no {α : Type} {c : Bool} {a b : Option α} {Q : α → Prop} (hc : c = false) (h : Sat b Q) : Sat (bif c then a else b) Q := by subst hc; exact h
theorem Sat.out {α : Type} {o : Option α} {x : α} (h : Sat o (· = x)) : o = Option.some x := by obtain ⟨r, h1, h2⟩ := h; rw [h1, h2]
theorem Sat.loop {σ τ : Type} {B : σ → Option (σ ⊕ τ)} (I : σ → Prop) (μ : σ → Nat) {Q : τ → Prop} (hB : ∀ s, I s → Sat (B s) fun r => match r with | .inl s' => I s' ∧ μ s' < μ s | .inr x => Q x) : ∀ (n : Nat) (s : σ), μ s < n → I s → Sat (lp B n s) Q
  | 0, _, h, _ => by omega
  | n + 1, s, h, hi => by
    unfold Go.Proofs.YtojdflifijpffaaGreat.lp
    refine Sat.bnd (hB s hi) fun r hr => ?_
    cases r with
    | inl s' => exact Sat.loop I μ hB n s' (by have := hr.2; omega) hr.1
    | inr x => exact .some hr
theorem Sat.count {σ τ : Type} {B : σ → Option (σ ⊕ τ)} (n : Nat) (I : Nat → σ → Prop) {Q : τ → Prop} (hB : ∀ k s, k ≤ n → I k s → Sat (B s) fun r => match r with | .inl s' => k < n ∧ I (k + 1) s' | .inr x => Q x) {m : Nat} {s : σ} {k : Nat} (hk : k ≤ n) (hm : n - k < m) (h : I k s) : Sat (lp B m s) Q := by
  induction m generalizing s k with
  | zero => omega
  | succ m ih =>
    unfold Go.Proofs.YtojdflifijpffaaGreat.lp
    refine Sat.bnd (hB k s hk h) fun r hr => ?_
    cases r with
    | inl s' => exact ih (k := k + 1) (by have := hr.1; omega) (by omega) hr.2
    | inr x => exact .some hr
theorem w64 {x : Int} (h1 : -9223372036854775808 ≤ x) (h2 : x ≤ 9223372036854775807) : wrap64 x = x := IntWalk.wrap64_in x (by omega)
theorem wI {x : Int} (h1 : -9223372036854775808 ≤ x) (h2 : x ≤ 9223372036854775807) : wrapK .i64 x = x := w64 h1 h2
theorem inR_t {z : Int} {n : Nat} (h1 : 0 ≤ z) (h2 : z < n) : inR z n = true := by simp [inR, h1, h2]
theorem bnd2_t {lo hi : Int} {n : Nat} (h1 : 0 ≤ lo) (h2 : lo ≤ hi) (h3 : hi ≤ n) : bnd2 lo hi n = true := by simp [bnd2, h1, h2, h3]
end Go.Proofs.YtojdflifijpffaaGreat

namespace Go.Proofs.YtojdflifijpffaaGreat
open Go.RowKit

def Asc (zs : List Int) (n : Int) : Prop := ∀ i, i < zs.length → 0 ≤ iz zs i ∧ iz zs i < n ∧ (0 < i → iz zs (i - 1) < iz zs i)
instance (zs : List Int) (n : Int) : Decidable (Asc zs n) := by unfold Asc; infer_instance
def asc (zs : List Int) (n : Int) : Bool := decide (Asc zs n)
theorem Asc.le {zs : List Int} {n : Int} (h : Asc zs n) {i : Nat} (j : Nat) (hj : i + j < zs.length) : iz zs i ≤ iz zs (i + j) := by
  induction j with
  | zero => exact Int.le_refl _
  | succ j ih =>
    have h1 := (h (i + (j + 1)) hj).2.2 (by omega)
    have h2 := ih (by omega)
    rw [show i + (j + 1) - 1 = i + j by omega] at h1
    omega
def bv (n : Int) (ls : List Lk) (bs : List Int) : Bool := gv n ls && decide (0 < bs.length) && asc bs n
def summL (d bs : List Int) (k : Nat) : List Int := (bs.take k).map fun b => iz d b.toNat
def summ (n : Int) (ls : List Lk) (bs : List Int) (t : Int) : List Int :=
  if bv n ls bs && inB t 0 (n - 1) then summL (dists n.toNat ls t.toNat) bs bs.length else []
def routeOk (na : Int) (la : List Lk) (nb : Int) (lb : List Lk) (bs : List Int) (f t : Int) : Bool := (bv na la bs && inB f 0 (na - 1)) && (bv nb lb bs && inB t 0 (nb - 1))
structure ROk (na nb f t : Nat) (la lb : List Lk) (bs : List Int) : Prop where
  va : gv na la = true
  vb : gv nb lb = true
  ga : GV na la
  gb : GV nb lb
  aa : Asc bs na
  ab : Asc bs nb
  pos : 0 < bs.length
  hf : f < na
  ht : t < nb
  one : summ na la bs f = summL (dists na la f) bs bs.length
  two : summ nb lb bs t = summL (dists nb lb t) bs bs.length
theorem ROk.ok {na nb f t : Nat} {la lb : List Lk} {bs : List Int} (h : ROk na nb f t la lb bs) : routeOk na la nb lb bs f t = true := by
  have i1 : inB (f : Int) 0 ((na : Int) - 1) = true := inB_mk (by have := h.hf; omega)
  have i2 : inB (t : Int) 0 ((nb : Int) - 1) = true := inB_mk (by have := h.ht; omega)
  simp [routeOk, bv, h.va, h.vb, i1, i2, h.pos, asc, h.aa, h.ab]
def hitB (x y : Int) (l : Lk) : Bool := decide (l.a = x) && decide (l.b = y)
def lof (ls : List Lk) (a b : Int) : Int := if ls.findIdx (hitB (min a b) (max a b)) < ls.length then ls.findIdx (hitB (min a b) (max a b)) else -1
theorem hit_lk {ls : List Lk} {i : Nat} (h : i < ls.length) : lk ls i = ls[i] := by simp [lk, List.getD, List.getElem?_eq_getElem h]
theorem lof_hit {ls : List Lk} {a b : Int} {k : Nat} (hk : k < ls.length) (h1 : hitB (min a b) (max a b) (lk ls k) = true) (h : ∀ i, i < k → hitB (min a b) (max a b) (lk ls i) = false) : lof ls a b = k := by
  have e : ls.findIdx (hitB (min a b) (max a b)) = k := (List.findIdx_eq hk).2 ⟨by rw [← hit_lk hk]; exact h1, fun j hj => by rw [← hit_lk (by omega)]; exact h j hj⟩
  unfold lof
  rw [e, if_pos hk]
theorem lof_miss {ls : List Lk} {a b : Int} (h : ∀ i, i < ls.length → hitB (min a b) (max a b) (lk ls i) = false) : lof ls a b = -1 := by
  have e : ls.findIdx (hitB (min a b) (max a b)) = ls.length := List.findIdx_eq_length_of_false fun x hx => by
    obtain ⟨i, hi, rfl⟩ := List.mem_iff_getElem.1 hx
    rw [← hit_lk hi]; exact h i hi
  unfold lof
  rw [e, if_neg (by omega)]
theorem hit_t {x y : Int} {l : Lk} (h : hitB x y l = true) : l.a = x ∧ l.b = y := by simpa [hitB] using h
theorem lof_cases (ls : List Lk) (a b : Int) : (lof ls a b = -1 ∧ ∀ i, i < ls.length → hitB (min a b) (max a b) (lk ls i) = false) ∨ ∃ k : Nat, lof ls a b = k ∧ k < ls.length ∧ (lk ls k).a = min a b ∧ (lk ls k).b = max a b := by
  by_cases h : ls.findIdx (hitB (min a b) (max a b)) < ls.length
  · right
    refine ⟨ls.findIdx (hitB (min a b) (max a b)), by unfold lof; rw [if_pos h], h, ?_⟩
    have := (List.findIdx_getElem (w := h))
    rw [← hit_lk h] at this
    exact hit_t this
  · left
    refine ⟨by unfold lof; rw [if_neg h], fun i hi => ?_⟩
    have hle := List.findIdx_le_length (p := hitB (min a b) (max a b)) (xs := ls)
    have := List.not_of_lt_findIdx (p := hitB (min a b) (max a b)) (xs := ls) (i := i) (by omega)
    rw [hit_lk hi]
    simpa using this
theorem hit_no {x y : Int} {l : Lk} (h : ¬ (l.a = x ∧ l.b = y)) : hitB x y l = false := by
  unfold hitB
  rw [Bool.and_eq_false_iff]
  by_cases h1 : l.a = x
  · right; exact decide_eq_false fun e => h ⟨h1, e⟩
  · left; exact decide_eq_false h1
theorem hit_yes {x y : Int} {l : Lk} (h1 : l.a = x) (h2 : l.b = y) : hitB x y l = true := by simp [hitB, h1, h2]
def otherE (l : Lk) (n : Int) : Int := if n = l.a then l.b else if n = l.b then l.a else 0
def isEnd (l : Lk) (n : Int) : Bool := decide (n = l.a ∨ n = l.b)
def others (ls : List Lk) (n : Int) (k : Nat) : List Int := ((ls.take k).filter (fun l => isEnd l n)).map (fun l => otherE l n)
theorem others_succ (ls : List Lk) (n : Int) (k : Nat) (h : k < ls.length) : others ls n (k + 1) = if isEnd (lk ls k) n then others ls n k ++ [otherE (lk ls k) n] else others ls n k := by
  have e : ls[k]? = some (lk ls k) := lk_get h
  unfold others
  rw [List.take_add_one, e]
  cases hq : isEnd (lk ls k) n <;> simp [hq]
theorem others_len (ls : List Lk) (n : Int) (k : Nat) : (others ls n k).length ≤ k := by
  unfold others
  rw [List.length_map]
  exact Nat.le_trans (List.length_filter_le _ _) (List.length_take_le _ _)
def nbS (ls : List Lk) (m : Int) (k : Nat) : List Int := ((List.range k).filter (fun x : Nat => decide (0 ≤ lof ls m (x : Int)))).map fun x : Nat => (x : Int)
theorem nbS_succ (ls : List Lk) (m : Int) (k : Nat) : nbS ls m (k + 1) = if 0 ≤ lof ls m k then nbS ls m k ++ [(k : Int)] else nbS ls m k := by
  unfold nbS
  rw [List.range_succ, List.filter_append, List.map_append]
  by_cases h : 0 ≤ lof ls m k <;> simp [h]
theorem nbS_len (ls : List Lk) (m : Int) (k : Nat) : (nbS ls m k).length ≤ k := by
  unfold nbS
  rw [List.length_map]
  exact Nat.le_trans (List.length_filter_le _ _) (by simp)
def pk (la lb : List Lk) (n m : Int) : List Lk :=
  if 0 ≤ lof la n m ∧ (lof lb n m < 0 ∨ (lk la (lof la n m).toNat).c ≤ (lk lb (lof lb n m).toNat).c) then [⟨n, m, (lk la (lof la n m).toNat).c⟩]
  else if 0 ≤ lof lb n m then [⟨n, m, (lk lb (lof lb n m).toNat).c⟩] else []
end Go.Proofs.YtojdflifijpffaaGreat

namespace Go.Proofs.YtojdflifijpffaaGreat
open Go.RowKit
set_option linter.unusedSimpArgs false
set_option linter.unusedVariables false

def okL (n : Int) (l : Lk) : Prop := 0 ≤ l.a ∧ l.a < l.b ∧ l.b < n ∧ 1 ≤ l.c ∧ l.c ≤ 20
def lxl (l m : Lk) : Prop := l.a < m.a ∨ l.a = m.a ∧ l.b < m.b
theorem lxl.trans {a b c : Lk} (h : lxl a b) (k : lxl b c) : lxl a c := by unfold lxl at *; omega
theorem lk_mem {ls : List Lk} {i : Nat} (h : i < ls.length) : lk ls i ∈ ls := List.mem_of_getElem? (lk_get h)
theorem mem_lk {ls : List Lk} {l : Lk} (h : l ∈ ls) : ∃ i, i < ls.length ∧ lk ls i = l := by
  obtain ⟨i, hi, rfl⟩ := List.getElem_of_mem h
  exact ⟨i, hi, hit_lk hi⟩
theorem lkAt_lt {n : Int} {ls : List Lk} (h : ∀ i, i < ls.length → LkAt n ls i) : ∀ (d i : Nat), i + d + 1 < ls.length → lxl (lk ls i) (lk ls (i + d + 1))
  | 0, i, hi => by
    have := (h (i + 1) hi).2.2.2.2.2 (by omega)
    simpa [lxl] using this
  | d + 1, i, hi => by
    have h1 := lkAt_lt h d i (by omega)
    have h2 := (h (i + (d + 1) + 1) hi).2.2.2.2.2 (by omega)
    rw [Nat.add_sub_cancel] at h2
    exact h1.trans h2
theorem gv_pw {n : Int} {ls : List Lk} : GV n ls ↔ 1 ≤ n ∧ n ≤ 8 ∧ ls.length ≤ 14 ∧ (∀ l ∈ ls, okL n l) ∧ ls.Pairwise lxl := by
  constructor
  · rintro ⟨h1, h2, h3, h⟩
    refine ⟨h1, h2, h3, fun l hl => ?_, List.pairwise_iff_getElem.2 fun i j hi hj hij => ?_⟩
    · obtain ⟨i, hi, rfl⟩ := mem_lk hl
      have := h i hi
      unfold LkAt at this
      unfold okL
      omega
    · have := lkAt_lt h (j - i - 1) i (by omega)
      rw [show i + (j - i - 1) + 1 = j by omega, hit_lk hi, hit_lk hj] at this
      exact this
  · rintro ⟨h1, h2, h3, h, hp⟩
    refine ⟨h1, h2, h3, fun i hi => ?_⟩
    have h4 := h _ (lk_mem hi)
    unfold okL at h4
    refine ⟨h4.1, h4.2.1, h4.2.2.1, h4.2.2.2.1, h4.2.2.2.2, fun h0 => ?_⟩
    have := List.pairwise_iff_getElem.1 hp (i - 1) i (by omega) hi (by omega)
    rw [← hit_lk, ← hit_lk] at this
    exact this
theorem GV.ok {n : Int} {ls : List Lk} (h : GV n ls) {l : Lk} (hl : l ∈ ls) : okL n l := (gv_pw.1 h).2.2.2.1 l hl
theorem pw_ext : ∀ {l l' : List Lk}, l.Pairwise lxl → l'.Pairwise lxl → (∀ x, x ∈ l ↔ x ∈ l') → l = l'
  | [], [], _, _, _ => rfl
  | [], y :: s, _, _, h => by have := (h y).2 (List.mem_cons_self ..); simp at this
  | x :: r, [], _, _, h => by have := (h x).1 (List.mem_cons_self ..); simp at this
  | x :: r, y :: s, h1, h2, h => by
    have h1 := List.pairwise_cons.1 h1
    have h2 := List.pairwise_cons.1 h2
    have e : x = y := by
      rcases List.mem_cons.1 ((h x).1 (List.mem_cons_self ..)) with e | hx
      · exact e
      · rcases List.mem_cons.1 ((h y).2 (List.mem_cons_self ..)) with e | hy
        · exact e.symm
        · have q1 := h1.1 y hy
          have q2 := h2.1 x hx
          unfold lxl at q1 q2
          omega
    subst e
    have : r = s := pw_ext h1.2 h2.2 fun z => by
      constructor
      · intro hz
        rcases List.mem_cons.1 ((h z).1 (List.mem_cons_of_mem _ hz)) with e | hz'
        · subst e
          have := h1.1 z hz
          unfold lxl at this
          omega
        · exact hz'
      · intro hz
        rcases List.mem_cons.1 ((h z).2 (List.mem_cons_of_mem _ hz)) with e | hz'
        · subst e
          have := h2.1 z hz
          unfold lxl at this
          omega
        · exact hz'
    rw [this]
theorem GV.ext {n m : Int} {l l' : List Lk} (h : GV n l) (h' : GV m l') (e : ∀ x, x ∈ l ↔ x ∈ l') : l = l' := pw_ext (gv_pw.1 h).2.2.2.2 (gv_pw.1 h').2.2.2.2 e
def cell (f : Nat → Nat → Option Int) (a b : Nat) : List Lk := match f a b with | some c => [⟨a, b, c⟩] | none => []
def lc (ls : List Lk) (a b : Int) : Option Int := if 0 ≤ lof ls a b then some (lk ls (lof ls a b).toNat).c else none
theorem lc_some {ls : List Lk} {a b c : Int} (h : lc ls a b = some c) : (⟨min a b, max a b, c⟩ : Lk) ∈ ls := by
  unfold lc at h
  rcases lof_cases ls a b with ⟨e, _⟩ | ⟨k, e, hk, h1, h2⟩
  · rw [e] at h; simp at h
  · rw [e] at h
    rw [if_pos (by omega)] at h
    injection h with h
    rw [Int.toNat_natCast] at h
    have : (⟨min a b, max a b, c⟩ : Lk) = lk ls k := by rw [← h1, ← h2, ← h]
    rw [this]
    exact lk_mem hk
theorem lc_none {ls : List Lk} {a b : Int} (h : lc ls a b = none) : ∀ c, (⟨min a b, max a b, c⟩ : Lk) ∉ ls := by
  intro c hm
  unfold lc at h
  rcases lof_cases ls a b with ⟨e, hn⟩ | ⟨k, e, hk, h1, h2⟩
  · obtain ⟨i, hi, e2⟩ := mem_lk hm
    have := hn i hi
    rw [e2, show hitB (min a b) (max a b) ⟨min a b, max a b, c⟩ = true from hit_yes rfl rfl] at this
    cases this
  · rw [e, if_pos (by omega)] at h
    cases h
theorem pw_uniq {ls : List Lk} (h : ls.Pairwise lxl) {x y : Lk} (hx : x ∈ ls) (hy : y ∈ ls) (ha : x.a = y.a) (hb : x.b = y.b) : x = y := by
  obtain ⟨i, hi, rfl⟩ := List.getElem_of_mem hx
  obtain ⟨j, hj, rfl⟩ := List.getElem_of_mem hy
  rcases Nat.lt_trichotomy i j with h1 | h1 | h1
  · have := List.pairwise_iff_getElem.1 h i j hi hj h1
    unfold lxl at this
    omega
  · subst h1; rfl
  · have := List.pairwise_iff_getElem.1 h j i hj hi h1
    unfold lxl at this
    omega
theorem GV.pw {n : Int} {ls : List Lk} (h : GV n ls) : ls.Pairwise lxl := (gv_pw.1 h).2.2.2.2
theorem lc_iff {ls : List Lk} (h : ls.Pairwise lxl) {a b c : Int} : lc ls a b = some c ↔ (⟨min a b, max a b, c⟩ : Lk) ∈ ls := by
  constructor
  · exact lc_some
  · intro hm
    cases e : lc ls a b with
    | none => exact absurd hm (lc_none e c)
    | some c' =>
      have := pw_uniq h (lc_some e) hm rfl rfl
      injection this with _ _ e3
      rw [e3]
theorem lc_symm (ls : List Lk) (a b : Int) : lc ls a b = lc ls b a := by
  have : lof ls a b = lof ls b a := by unfold lof; rw [show min a b = min b a by omega, show max a b = max b a by omega]
  unfold lc
  rw [this]
theorem lc_mem {ls : List Lk} (h : ls.Pairwise lxl) {l : Lk} (hl : l ∈ ls) (hab : l.a ≤ l.b) : lc ls l.a l.b = some l.c := (lc_iff h).2 (by rw [show min l.a l.b = l.a by omega, show max l.a l.b = l.b by omega]; exact hl)
theorem lc_cost {n : Int} {ls : List Lk} (h : GV n ls) {a b c : Int} (e : lc ls a b = some c) : 1 ≤ c ∧ c ≤ 20 := by
  have := h.ok (lc_some e)
  exact ⟨this.2.2.2.1, this.2.2.2.2⟩
theorem lc_lof {ls : List Lk} {a b : Int} : (lc ls a b).isSome = decide (0 ≤ lof ls a b) := by
  unfold lc
  by_cases h : 0 ≤ lof ls a b <;> simp [h]
theorem lc_at {ls : List Lk} {a b c : Int} (e : lc ls a b = some c) : 0 ≤ lof ls a b ∧ lof ls a b < ls.length ∧ lk ls (lof ls a b).toNat = ⟨min a b, max a b, c⟩ := by
  unfold lc at e
  rcases lof_cases ls a b with ⟨e1, hn⟩ | ⟨k, e1, hk, h1, h2⟩
  · rw [e1] at e; simp at e
  · rw [e1, if_pos (by omega), Int.toNat_natCast] at e
    injection e with e
    rw [e1, Int.toNat_natCast]
    exact ⟨by omega, by omega, by rw [← h1, ← h2, ← e]⟩
theorem lc_no {ls : List Lk} {a b : Int} (e : lc ls a b = none) : lof ls a b = -1 := by
  unfold lc at e
  rcases lof_cases ls a b with ⟨e1, hn⟩ | ⟨k, e1, hk, h1, h2⟩
  · exact e1
  · rw [e1, if_pos (by omega)] at e; cases e
end Go.Proofs.YtojdflifijpffaaGreat
end
section
namespace Go.Proofs.YtojdflifijpffaaGreat
open Go.RowKit
set_option linter.unusedSimpArgs false
set_option linter.unusedVariables false

theorem at_int (zs : List Int) (i : Nat) : at! .int zs i = iz zs i := by
  induction zs generalizing i with
  | nil => rfl
  | cons z r ih => cases i with
    | zero => rfl
    | succ i => exact (ih i).trans (by simp [iz])
theorem at_lk (ls : List Lk) (i : Nat) : at! .lk ls i = lk ls i := by
  induction ls generalizing i with
  | nil => rfl
  | cons z r ih => cases i with
    | zero => rfl
    | succ i => exact (ih i).trans (by simp [lk])
abbrev Fits {α : Type} (l : List α) : Prop := l.length ≤ 4611686018427387904
theorem e_within (a b c : Int) : sh_impl_within (a, b, c, ()) = some (inB a b c, ()) := by
  unfold sh_impl_within inB
  by_cases h : b ≤ a <;> simp [h]
theorem e_l6In (a b c : Int) : sh_spec_l6In (a, b, c, ()) = some (inB a b c, ()) := by
  unfold sh_spec_l6In inB
  by_cases h : b ≤ a <;> simp [h]
theorem fuel_lt {n : Nat} (h : n ≤ 4611686018427387904) : n < fuel := by unfold fuel; omega
theorem toN (k : Nat) : Int.toNat (k : Int) = k := rfl
theorem toN1 (k : Nat) : Int.toNat ((k : Int) - 1) = k - 1 := by omega

theorem e_GraphValid (n : Int) (ls : List Lk) (hl : Fits ls) : sh_impl_GraphValid (n, ls, ()) = some (gv n ls, ()) := by
  unfold sh_impl_GraphValid
  simp only [e_within, Option.bind_some, nI_eq]
  cases h1 : inB n 1 8 with
  | false => simp; rw [gv_f fun g => inB_f h1 ⟨g.1, g.2.1⟩]
  | true =>
  have h1 := inB_t h1
  by_cases h2 : ls.length ≤ 14
  case neg => 
    have : (14 : Int) < ls.length := by omega
    simp [this]; rw [gv_f fun g => h2 g.2.2.1]
  have h2' : ¬ (14 : Int) < ls.length := by omega
  simp only [h2', decide_false, cond_false, Bool.not_true]
  refine Sat.out (Sat.bnd (R := fun r => match r with | .inl _ => gv n ls = true | .inr y => y.1 = gv n ls) ?_ ?_)
  · refine Sat.count ls.length (fun k s => s = (ls, (ls.length : Int), (k : Int), n, ls, ()) ∧ ∀ i, i < k → LkAt n ls i) ?_ (Nat.zero_le _) (fuel_lt (by omega)) ⟨rfl, fun i hi => by omega⟩
    rintro k s hk ⟨rfl, hok⟩
    simp (disch := omega) only [bo_impl_GraphValid_4, at_lk, toN, toN1, w64, e_within, Option.bind_some]
    repeat' (first
      | refine Sat.some ?_
      | fail
      | (refine Sat.gd (by first | exact inR_t (by omega) (by omega) | (simp (disch := omega) only [w64]; exact inR_t (by omega) (by omega))) ?_)
      | (refine Sat.ite (fun h => ?_) (fun h => ?_) <;> try simp only [decide_eq_true_eq, decide_eq_false_iff_not, Bool.not_eq_true', Bool.not_eq_false', inB_i, inB_j, Bool.and_eq_true, Bool.or_eq_true, Bool.and_eq_false_iff, Bool.or_eq_false_iff, El] at h))
    all_goals dsimp only
    all_goals first
      | exact (gv_at (k := k) (by omega) fun _ _ g => by unfold LkAt at g; omega).symm
      | (refine ⟨by omega, rfl, fun i hi => ?_⟩
         by_cases e : i < k
         · exact hok i e
         · obtain rfl : i = k := by omega
           unfold LkAt
           omega)
      | (obtain rfl : k = ls.length := by omega
         exact decide_eq_true ⟨h1.1, h1.2, h2, hok⟩)
  · rintro (r | r) hr
    · exact .some (by simp [hr])
    · obtain ⟨b, u⟩ := r
      have hr : b = gv n ls := hr
      exact .some (by rw [hr])

theorem e_sGraphValid (n : Int) (ls : List Lk) (hl : Fits ls) : sh_spec_GraphValid (n, ls, ()) = some (gv n ls, ()) := by
  unfold sh_spec_GraphValid
  refine Sat.out (Sat.bnd (R := fun r => match r with | .inl x => x = (n, ls, ()) ∧ gv n ls = (inB n 1 8 && decide ((ls.length : Int) ≤ 14)) | .inr y => y.1 = false ∧ gv n ls = false) ?_ ?_)
  · refine Sat.count ls.length (fun k s => s = ((k : Int), n, ls, ()) ∧ (1 ≤ n → n ≤ 8 → ∀ i, i < k → LkAt n ls i)) ?_ (Nat.zero_le _) (fuel_lt (by omega)) ⟨rfl, fun _ _ i hi => by omega⟩
    rintro k s hk ⟨rfl, hok⟩
    simp (disch := omega) only [bo_spec_GraphValid_2, at_lk, toN, toN1, w64, nI_eq, e_l6In, Option.bind_some]
    repeat' (first
      | refine Sat.some ?_
      | fail
      | (refine Sat.gd (by first | exact inR_t (by omega) (by omega) | (simp (disch := omega) only [w64]; exact inR_t (by omega) (by omega))) ?_)
      | (refine Sat.ite (fun h => ?_) (fun h => ?_) <;> try simp only [decide_eq_true_eq, decide_eq_false_iff_not, Bool.not_eq_true', Bool.not_eq_false', inB_i, inB_j, Bool.and_eq_true, Bool.or_eq_true, Bool.and_eq_false_iff, Bool.or_eq_false_iff, El] at h))
    all_goals dsimp only
    all_goals first
      | (refine ⟨rfl, gv_at (k := k) (by omega) fun h1 h2 g => ?_⟩
         unfold LkAt at g
         have e1 : wrap64 (n - 1) = n - 1 := w64 (by omega) (by omega)
         have e2 : wrap64 ((lk ls k).a + 1) = (lk ls k).a + 1 := w64 (by omega) (by omega)
         simp only [e1, e2] at *
         omega)
      | (refine ⟨by omega, rfl, fun h1 h2 i hi => ?_⟩
         by_cases e : i < k
         · exact hok h1 h2 i e
         · obtain rfl : i = k := by omega
           have e1 : wrap64 (n - 1) = n - 1 := w64 (by omega) (by omega)
           simp only [e1] at *
           have e2 : wrap64 ((lk ls i).a + 1) = (lk ls i).a + 1 := w64 (by omega) (by omega)
           simp only [e2] at *
           unfold LkAt
           omega)
      | exact ⟨rfl, gv_end (show ls.length = k by omega) hok ▸ (by rw [show ls.length = k by omega])⟩
  · rintro (r | r) hr
    · have hr : r = (n, ls, ()) ∧ gv n ls = (inB n 1 8 && decide ((ls.length : Int) ≤ 14)) := hr
      obtain ⟨rfl, hr⟩ := hr
      simp only [e_l6In, Option.bind_some, nI_eq, hr]
      cases inB n 1 8 <;> exact .some rfl
    · obtain ⟨b, u⟩ := r
      have hr : b = false ∧ gv n ls = false := hr
      exact .some (by rw [hr.1, hr.2])
theorem eqInts_self : ∀ xs : List Int, eqInts xs xs = true
  | [] => rfl
  | x :: r => by simp [eqInts, eqInts_self r]
theorem e_sameGraph (n : Int) (ls : List Lk) (hl : Fits ls) : sh_laws_sameGraph (n, ls, n, ls, ()) = some (true, ()) := by
  unfold sh_laws_sameGraph
  simp only [decide_true, Bool.not_true, cond_false]
  refine Sat.out (Sat.bnd (R := fun r => match r with | .inl _ => True | .inr _ => False) ?_ ?_)
  · refine Sat.count ls.length (fun k s => s = ((k : Int), n, ls, n, ls, ())) ?_ (Nat.zero_le _) (fuel_lt (by omega)) rfl
    rintro k s hk rfl
    simp (disch := omega) only [bo_laws_sameGraph_4, at_lk, toN, w64, nI_eq, eqInts_self, Bool.not_true, cond_false]
    repeat' (first
      | refine Sat.some ?_
      | fail
      | (refine Sat.gd (by first | exact inR_t (by omega) (by omega) | (simp (disch := omega) only [w64]; exact inR_t (by omega) (by omega))) ?_)
      | (refine Sat.ite (fun h => ?_) (fun h => ?_) <;> try simp only [decide_eq_true_eq, decide_eq_false_iff_not, Bool.not_eq_true', Bool.not_eq_false', inB_i, inB_j, Bool.and_eq_true, Bool.or_eq_true, Bool.and_eq_false_iff, Bool.or_eq_false_iff, El] at h))
    all_goals dsimp only
    · exact ⟨by omega, rfl⟩
  · rintro (r | r) hr
    · exact .some rfl
    · exact hr.elim
theorem e_sameInts (zs : List Int) (hl : Fits zs) : sh_laws_sameInts (zs, zs, ()) = some (true, ()) := by
  unfold sh_laws_sameInts
  simp only [decide_true, Bool.not_true, cond_false]
  refine Sat.out (Sat.bnd (R := fun r => match r with | .inl _ => True | .inr _ => False) ?_ ?_)
  · refine Sat.count zs.length (fun k s => s = (zs, zs, (k : Int), ())) ?_ (Nat.zero_le _) (fuel_lt (by omega)) rfl
    rintro k s hk rfl
    simp (disch := omega) only [bo_laws_sameInts_4, at_int, toN, w64, nI_eq, decide_true, Bool.not_true, cond_false]
    repeat' (first
      | refine Sat.some ?_
      | fail
      | (refine Sat.gd (by first | exact inR_t (by omega) (by omega) | (simp (disch := omega) only [w64]; exact inR_t (by omega) (by omega))) ?_)
      | (refine Sat.ite (fun h => ?_) (fun h => ?_) <;> try simp only [decide_eq_true_eq, decide_eq_false_iff_not, Bool.not_eq_true', Bool.not_eq_false', inB_i, inB_j, Bool.and_eq_true, Bool.or_eq_true, Bool.and_eq_false_iff, Bool.or_eq_false_iff, El] at h))
    all_goals dsimp only
    · exact ⟨by omega, rfl⟩
  · rintro (r | r) hr
    · exact .some rfl
    · exact hr.elim
end Go.Proofs.YtojdflifijpffaaGreat

namespace Go.Proofs.YtojdflifijpffaaGreat
open Go.RowKit
set_option linter.unusedSimpArgs false
set_option linter.unusedVariables false

theorem e_l1Link (n : Int) (ls : List Lk) (a b : Int) (hl : Fits ls) : sh_spec_l1Link (n, ls, a, b, ()) = some (lof ls a b, ()) := by
  unfold sh_spec_l1Link
  refine Sat.out (Sat.bnd (R := fun r => match r with | .inl _ => lof ls a b = -1 | .inr y => y.1 = lof ls a b) ?_ ?_)
  · refine Sat.count ls.length (fun k s => s = (a, b, (k : Int), n, ls, ()) ∧ ∀ i, i < k → hitB (min a b) (max a b) (lk ls i) = false) ?_ (Nat.zero_le _) (fuel_lt (by omega)) ⟨rfl, fun i hi => by omega⟩
    rintro k s hk ⟨rfl, hok⟩
    simp (disch := omega) only [bo_spec_l1Link_2, at_lk, toN, w64, nI_eq]
    repeat' (first
      | refine Sat.some ?_
      | fail
      | (refine Sat.gd (by first | exact inR_t (by omega) (by omega) | (simp (disch := omega) only [w64]; exact inR_t (by omega) (by omega))) ?_)
      | (refine Sat.ite (fun h => ?_) (fun h => ?_) <;> try simp only [decide_eq_true_eq, decide_eq_false_iff_not, Bool.not_eq_true', Bool.not_eq_false', inB_i, inB_j, Bool.and_eq_true, Bool.or_eq_true, Bool.and_eq_false_iff, Bool.or_eq_false_iff, El] at h))
    all_goals try dsimp only
    all_goals first
      | (exact (lof_hit (by omega) (hit_yes (by assumption) (by assumption)) hok).symm)
      | (refine ⟨by omega, rfl, fun i hi => ?_⟩
         by_cases e : i < k
         · exact hok i e
         · obtain rfl : i = k := by omega
           exact hit_no (by omega))
      | exact lof_miss fun i hi => hok i (by omega)
  · rintro (r | r) hr
    · have hr : lof ls a b = -1 := hr
      exact .some (by rw [hr])
    · obtain ⟨z, u⟩ := r
      have hr : z = lof ls a b := hr
      exact .some (by rw [hr])
theorem e_linkOf (n : Int) (ls : List Lk) (a b : Int) (hl : Fits ls) : sh_impl_Graph_linkOf (n, ls, a, b, ()) = some (lof ls a b, ()) := by
  unfold sh_impl_Graph_linkOf sh_slices_IndexFunc_impl_Link_impl_Link_Graph_linkOf_1
  refine Sat.out (Sat.bnd (R := fun r => r.1 = lof ls a b) (Sat.bnd (R := fun r => match r with | .inl _ => lof ls a b = -1 | .inr y => y.1 = lof ls a b) ?_ ?_) ?_)
  · refine Sat.count ls.length (fun k s => s = (ls, a, b, (ls.length : Int), (k : Int), ()) ∧ ∀ i, i < k → hitB (min a b) (max a b) (lk ls i) = false) ?_ (Nat.zero_le _) (fuel_lt (by omega)) ⟨by simp [nI_eq], fun i hi => by omega⟩
    rintro k s hk ⟨rfl, hok⟩
    have e1 : ∀ x y z p q : Int, sh_impl_Graph_linkOf_1 (x, y, z, p, q, ()) = some (decide (x = min p q) && decide (y = max p q), ()) := fun x y z p q => by
      unfold sh_impl_Graph_linkOf_1
      by_cases h : x = min p q <;> simp [h]
    simp (disch := omega) only [bo_slices_IndexFunc_impl_Link_impl_Link_Graph_linkOf_1_2, at_lk, toN, w64, nI_eq, e1, Option.bind_some]
    repeat' (first
      | refine Sat.some ?_
      | fail
      | (refine Sat.gd (by first | exact inR_t (by omega) (by omega) | (simp (disch := omega) only [w64]; exact inR_t (by omega) (by omega))) ?_)
      | (refine Sat.ite (fun h => ?_) (fun h => ?_) <;> try simp only [decide_eq_true_eq, decide_eq_false_iff_not, Bool.not_eq_true', Bool.not_eq_false', inB_i, inB_j, Bool.and_eq_true, Bool.or_eq_true, Bool.and_eq_false_iff, Bool.or_eq_false_iff, El] at h))
    all_goals try dsimp only
    all_goals first
      | (exact (lof_hit (by omega) (hit_yes (by omega) (by omega)) hok).symm)
      | (refine ⟨by omega, rfl, fun i hi => ?_⟩
         by_cases e : i < k
         · exact hok i e
         · obtain rfl : i = k := by omega
           exact hit_no (by omega))
      | exact lof_miss fun i hi => hok i (by omega)
  · rintro (r | r) hr
    · have hr : lof ls a b = -1 := hr
      exact .some (by rw [hr])
    · exact .some hr
  · rintro ⟨z, u⟩ hr
    have hr : z = lof ls a b := hr
    exact .some (by rw [hr])
theorem e_other (a b c n : Int) : sh_impl_Link_other (a, b, c, n, ()) = some (otherE ⟨a, b, c⟩ n, isEnd ⟨a, b, c⟩ n, ()) := by
  unfold sh_impl_Link_other otherE isEnd
  by_cases h : n = a
  · simp [h]
  · by_cases h' : n = b
    · subst h'; simp [h]
    · simp [h, h']
theorem e_neighbours (n : Int) (ls : List Lk) (m : Int) (hl : ls.length ≤ 16777216) : sh_impl_Graph_neighbours (n, ls, m, ()) = some (sortI (others ls m ls.length), ()) := by
  unfold sh_impl_Graph_neighbours
  refine Sat.out (Sat.bnd (R := fun r => match r with | .inl x => x.1 = others ls m ls.length | .inr _ => False) ?_ ?_)
  · refine Sat.count ls.length (fun k s => s = (m, ls, (ls.length : Int), (k : Int), others ls m k, ())) ?_ (Nat.zero_le _) (fuel_lt (by omega)) (by simp [nI_eq, others])
    rintro k s hk rfl
    have hlen := others_len ls m k
    simp (disch := omega) only [bo_impl_Graph_neighbours_3, at_lk, toN, w64, nI_eq, e_other, Option.bind_some, List.length_singleton]
    repeat' (first
      | refine Sat.some ?_
      | (refine Sat.gd (decide_eq_true (by omega)) ?_)
      | (refine Sat.gd (by first | exact inR_t (by omega) (by omega) | (simp (disch := omega) only [w64]; exact inR_t (by omega) (by omega))) ?_)
      | (refine Sat.ite (fun h => ?_) (fun h => ?_) <;> try simp only [decide_eq_true_eq, decide_eq_false_iff_not, Bool.not_eq_true', Bool.not_eq_false', inB_i, inB_j, Bool.and_eq_true, Bool.or_eq_true, Bool.and_eq_false_iff, Bool.or_eq_false_iff, El] at h))
    all_goals try dsimp only
    all_goals first
      | (refine ⟨by omega, ?_⟩
         rw [others_succ ls m k (by omega)]
         simp [*])
      | (obtain rfl : k = ls.length := by omega
         rfl)
  · rintro (r | r) hr
    · have hr : r.1 = others ls m ls.length := hr
      show Sat ((sh_slices_Sort_int_int (r.1, ())).bind _) _
      rw [hr]
      have hlen := others_len ls m ls.length
      unfold sh_slices_Sort_int_int
      rw [decide_eq_true (show (others ls m ls.length).length ≤ 16777216 by omega)]
      exact .some rfl
    · exact hr.elim
theorem e_sGraphNeighbours (n : Int) (ls : List Lk) (m : Int) (hl : Fits ls) : sh_spec_GraphNeighbours (n, ls, m, ()) = some (if gv n ls then nbS ls m 8 else [], ()) := by
  unfold sh_spec_GraphNeighbours
  refine Sat.out (Sat.bnd (R := fun r => match r with | .inl x => x.1 = if gv n ls then nbS ls m 8 else [] | .inr _ => False) ?_ ?_)
  · cases hg : gv n ls with
    | false =>
      refine Sat.count 0 (fun k s => s = (m, (0 : Int), n, ls, ([] : List Int), ())) ?_ (Nat.zero_le _) (fuel_lt (by omega)) rfl
      rintro k s hk rfl
      simp only [bo_spec_GraphNeighbours_3, e_sGraphValid n ls hl, Option.bind_some, hg]
      exact .some (by simp)
    | true =>
      refine Sat.count 8 (fun k s => s = (m, (k : Int), n, ls, nbS ls m k, ())) ?_ (Nat.zero_le _) (fuel_lt (by omega)) rfl
      rintro k s hk rfl
      have hlen := nbS_len ls m k
      simp (disch := omega) only [bo_spec_GraphNeighbours_3, e_sGraphValid n ls hl, e_l1Link _ _ _ _ hl, Option.bind_some, hg, w64, List.length_singleton, cond_true]
      repeat' (first
        | refine Sat.some ?_
        | (refine Sat.gd (decide_eq_true (by omega)) ?_)
        | (refine Sat.gd (by first | exact inR_t (by omega) (by omega) | (simp (disch := omega) only [w64]; exact inR_t (by omega) (by omega))) ?_)
        | (refine Sat.ite (fun h => ?_) (fun h => ?_) <;> try simp only [decide_eq_true_eq, decide_eq_false_iff_not, Bool.not_eq_true', Bool.not_eq_false', inB_i, inB_j, Bool.and_eq_true, Bool.or_eq_true, Bool.and_eq_false_iff, Bool.or_eq_false_iff, El] at h))
      all_goals try dsimp only
      all_goals first
        | (refine ⟨by omega, ?_⟩
           rw [nbS_succ]
           simp [*])
        | (obtain rfl : k = 8 := by omega
           rfl)
  · rintro (r | r) hr
    · have hr : r.1 = if gv n ls then nbS ls m 8 else [] := hr
      exact .some (by rw [hr])
    · exact hr.elim
end Go.Proofs.YtojdflifijpffaaGreat

namespace Go.Proofs.YtojdflifijpffaaGreat
open Go.RowKit
set_option linter.unusedSimpArgs false
set_option linter.unusedVariables false
set_option maxRecDepth 100000

section
variable {n : Nat} {ls : List Lk}
end
end Go.Proofs.YtojdflifijpffaaGreat

namespace Go.Proofs.YtojdflifijpffaaGreat
open Go.RowKit
set_option linter.unusedSimpArgs false
set_option linter.unusedVariables false
set_option maxRecDepth 100000

section
variable {n : Nat} {ls : List Lk}
end
end Go.Proofs.YtojdflifijpffaaGreat

namespace Go.Proofs.YtojdflifijpffaaGreat
open Go.RowKit
set_option linter.unusedSimpArgs false
set_option linter.unusedVariables false
set_option maxRecDepth 100000

section
variable {N : Nat} {la lb : List Lk} {bs : List Int}
end
end Go.Proofs.YtojdflifijpffaaGreat

namespace Go.Proofs.YtojdflifijpffaaGreat
open Go.RowKit
set_option linter.unusedSimpArgs false
set_option linter.unusedVariables false
set_option maxRecDepth 100000

section
variable {N : Nat} {la lb : List Lk} {bs : List Int}
end
end Go.Proofs.YtojdflifijpffaaGreat

namespace Go.Proofs.YtojdflifijpffaaGreat
open Go.RowKit
set_option linter.unusedSimpArgs false
set_option linter.unusedVariables false
set_option maxRecDepth 100000

section
variable {N : Nat} {la lb : List Lk} {bs : List Int}
end
end Go.Proofs.YtojdflifijpffaaGreat
end
section
namespace Go.Proofs.YtojdflifijpffaaGreat
open Go.RowKit
set_option linter.unusedSimpArgs false
set_option linter.unusedVariables false
set_option maxRecDepth 100000

def en (es : List En) (i : Nat) : En := es.getD i ⟨0, 0⟩
def lsa (db : List Ls) (i : Nat) : Ls := db.getD i ⟨0, 0, []⟩
theorem at_en (es : List En) (i : Nat) : at! .en es i = en es i := by
  induction es generalizing i with
  | nil => rfl
  | cons z r ih => cases i with
    | zero => rfl
    | succ i => exact (ih i).trans (by simp [en])
theorem at_ls (es : List Ls) (i : Nat) : at! .ls es i = lsa es i := by
  induction es generalizing i with
  | nil => rfl
  | cons z r ih => cases i with
    | zero => rfl
    | succ i => exact (ih i).trans (by simp [lsa])
theorem en_get {es : List En} {i : Nat} (h : i < es.length) : en es i = es[i] := by simp [en, h]
theorem lsa_get {es : List Ls} {i : Nat} (h : i < es.length) : lsa es i = es[i] := by simp [lsa, h]
def EnAt (o : Int) (es : List En) (i : Nat) : Prop := 0 ≤ (en es i).n ∧ (en es i).n ≤ 7 ∧ (en es i).n ≠ o ∧ 1 ≤ (en es i).c ∧ (en es i).c ≤ 20 ∧ (0 < i → (en es (i - 1)).n < (en es i).n)
instance (o : Int) (es : List En) (i : Nat) : Decidable (EnAt o es i) := by unfold EnAt; infer_instance
def LsV (l : Ls) : Prop := 0 ≤ l.o ∧ l.o ≤ 7 ∧ 1 ≤ l.s ∧ l.s ≤ 99 ∧ ∀ i, i < l.e.length → EnAt l.o l.e i
instance (l : Ls) : Decidable (LsV l) := by unfold LsV; infer_instance
def lsv (o s : Int) (es : List En) : Bool := decide (LsV ⟨o, s, es⟩)
theorem lsv_f {o s : Int} {es : List En} (h : ¬ LsV ⟨o, s, es⟩) : lsv o s es = false := decide_eq_false h
theorem lsv_t {o s : Int} {es : List En} (h : LsV ⟨o, s, es⟩) : lsv o s es = true := decide_eq_true h
theorem e_LsaValid (o s : Int) (es : List En) (hl : Fits es) : sh_impl_LsaValid (o, s, es, ()) = some (lsv o s es, ()) := by
  unfold sh_impl_LsaValid
  simp only [e_within, Option.bind_some, nI_eq]
  cases h1 : inB o 0 7 with
  | false => simp; exact lsv_f fun g => inB_f h1 ⟨g.1, g.2.1⟩
  | true =>
  cases h2 : inB s 1 99 with
  | false => simp; exact lsv_f fun g => inB_f h2 ⟨g.2.2.1, g.2.2.2.1⟩
  | true =>
  have h1 := inB_t h1
  have h2 := inB_t h2
  simp only [Bool.not_true, cond_false]
  refine Sat.out (Sat.bnd (R := fun r => match r with | .inl _ => lsv o s es = true | .inr y => y.1 = false ∧ lsv o s es = false) ?_ ?_)
  · refine Sat.count es.length (fun k t => t = (es, (es.length : Int), (k : Int), o, s, es, ()) ∧ ∀ i, i < k → EnAt o es i) ?_ (Nat.zero_le _) (fuel_lt (by omega)) ⟨rfl, fun i hi => by omega⟩
    rintro k t hk ⟨rfl, hok⟩
    simp (disch := omega) only [bo_impl_LsaValid_4, at_en, toN, toN1, w64, e_within, Option.bind_some]
    repeat' (first
      | refine Sat.some ?_
      | fail
      | (refine Sat.gd (by first | exact inR_t (by omega) (by omega) | (simp (disch := omega) only [w64]; exact inR_t (by omega) (by omega))) ?_)
      | (refine Sat.ite (fun h => ?_) (fun h => ?_) <;> try simp only [decide_eq_true_eq, decide_eq_false_iff_not, Bool.not_eq_true', Bool.not_eq_false', inB_i, inB_j, Bool.and_eq_true, Bool.or_eq_true, Bool.and_eq_false_iff, Bool.or_eq_false_iff, El] at h))
    all_goals try dsimp only
    all_goals first
      | (refine ⟨rfl, decide_eq_false fun g => ?_⟩
         have := g.2.2.2.2 k (by dsimp only; omega)
         unfold EnAt at this
         dsimp only at this
         omega)
      | (refine ⟨by omega, rfl, fun i hi => ?_⟩
         by_cases e : i < k
         · exact hok i e
         · obtain rfl : i = k := by omega
           unfold EnAt
           omega)
      | exact decide_eq_true ⟨h1.1, h1.2, h2.1, h2.2, fun i hi => hok i (by dsimp only at hi; omega)⟩
  · rintro (r | r) hr
    · have hr : lsv o s es = true := hr
      exact .some (by rw [hr])
    · obtain ⟨b, u⟩ := r
      have hr : b = false ∧ lsv o s es = false := hr
      exact .some (by rw [hr.1, hr.2])
theorem e_sLsaValid (o s : Int) (es : List En) (hl : Fits es) : sh_spec_LsaValid (o, s, es, ()) = some (lsv o s es, ()) := by
  unfold sh_spec_LsaValid
  refine Sat.out (Sat.bnd (R := fun r => match r with | .inl x => x = (o, s, es, ()) ∧ ∀ i, i < es.length → EnAt o es i | .inr y => y.1 = false ∧ lsv o s es = false) ?_ ?_)
  · refine Sat.count es.length (fun k t => t = ((k : Int), o, s, es, ()) ∧ ∀ i, i < k → EnAt o es i) ?_ (Nat.zero_le _) (fuel_lt (by omega)) ⟨rfl, fun i hi => by omega⟩
    rintro k t hk ⟨rfl, hok⟩
    simp (disch := omega) only [bo_spec_LsaValid_2, at_en, toN, toN1, w64, nI_eq, e_l6In, Option.bind_some]
    repeat' (first
      | refine Sat.some ?_
      | fail
      | (refine Sat.gd (by first | exact inR_t (by omega) (by omega) | (simp (disch := omega) only [w64]; exact inR_t (by omega) (by omega))) ?_)
      | (refine Sat.ite (fun h => ?_) (fun h => ?_) <;> try simp only [decide_eq_true_eq, decide_eq_false_iff_not, Bool.not_eq_true', Bool.not_eq_false', inB_i, inB_j, Bool.and_eq_true, Bool.or_eq_true, Bool.and_eq_false_iff, Bool.or_eq_false_iff, El] at h))
    all_goals try dsimp only
    all_goals first
      | (refine ⟨rfl, decide_eq_false fun g => ?_⟩
         have := g.2.2.2.2 k (by dsimp only; omega)
         unfold EnAt at this
         dsimp only at this
         omega)
      | (refine ⟨by omega, rfl, fun i hi => ?_⟩
         by_cases e : i < k
         · exact hok i e
         · obtain rfl : i = k := by omega
           unfold EnAt
           omega)
      | exact ⟨rfl, fun i hi => hok i (by omega)⟩
  · rintro (r | r) hr
    · have hr : r = (o, s, es, ()) ∧ ∀ i, i < es.length → EnAt o es i := hr
      obtain ⟨rfl, hq⟩ := hr
      simp only [e_l6In, Option.bind_some]
      cases h1 : inB o 0 7 with
      | false => exact .some (by rw [show lsv o s es = false from decide_eq_false fun g => inB_f h1 ⟨g.1, g.2.1⟩])
      | true =>
        cases h2 : inB s 1 99 with
        | false => exact .some (by rw [show lsv o s es = false from decide_eq_false fun g => inB_f h2 ⟨g.2.2.1, g.2.2.2.1⟩])
        | true =>
          have h1 := inB_t h1
          have h2 := inB_t h2
          exact .some (by rw [show lsv o s es = true from decide_eq_true ⟨h1.1, h1.2, h2.1, h2.2, hq⟩])
    · obtain ⟨b, u⟩ := r
      have hr : b = false ∧ lsv o s es = false := hr
      exact .some (by rw [hr.1, hr.2])
def DbV (db : List Ls) : Prop := ∀ i, i < db.length → LsV (lsa db i) ∧ (0 < i → (lsa db (i - 1)).o < (lsa db i).o)
instance (db : List Ls) : Decidable (DbV db) := by unfold DbV; infer_instance
def dbv (db : List Ls) : Bool := decide (DbV db)
theorem e_DbValid (db : List Ls) (hl : Fits db) (he : ∀ l ∈ db, Fits l.e) : sh_impl_DbValid (db, ()) = some (dbv db, ()) := by
  unfold sh_impl_DbValid
  refine Sat.out (Sat.bnd (R := fun r => match r with | .inl _ => dbv db = true | .inr y => y.1 = false ∧ dbv db = false) ?_ ?_)
  · refine Sat.count db.length (fun k t => t = (db, db, (db.length : Int), (k : Int), ()) ∧ ∀ i, i < k → LsV (lsa db i) ∧ (0 < i → (lsa db (i - 1)).o < (lsa db i).o)) ?_ (Nat.zero_le _) (fuel_lt (by omega)) ⟨by simp [nI_eq], fun i hi => by omega⟩
    rintro k t hk ⟨rfl, hok⟩
    by_cases hlt : k < db.length
    · have hf : Fits (lsa db k).e := he _ (by rw [lsa_get hlt]; exact List.getElem_mem hlt)
      simp (disch := omega) only [bo_impl_DbValid_2, at_ls, toN, toN1, w64, e_LsaValid _ _ _ hf, Option.bind_some]
      repeat' (first
        | refine Sat.some ?_
        | fail
        | (refine Sat.gd (by first | exact inR_t (by omega) (by omega) | (simp (disch := omega) only [w64]; exact inR_t (by omega) (by omega))) ?_)
        | (refine Sat.ite (fun h => ?_) (fun h => ?_) <;> try simp only [decide_eq_true_eq, decide_eq_false_iff_not, Bool.not_eq_true', Bool.not_eq_false', inB_i, inB_j, Bool.and_eq_true, Bool.or_eq_true, Bool.and_eq_false_iff, Bool.or_eq_false_iff, El] at h))
      all_goals try dsimp only
      all_goals first
        | (refine ⟨rfl, decide_eq_false fun g => ?_⟩
           have := g k hlt
           first | exact of_decide_eq_false (by assumption) this.1 | omega)
        | (refine ⟨by omega, rfl, fun i hi => ?_⟩
           by_cases e : i < k
           · exact hok i e
           · obtain rfl : i = k := by omega
             exact ⟨of_decide_eq_true (by assumption), fun _ => by omega⟩)
        | omega
    · obtain rfl : k = db.length := by omega
      unfold bo_impl_DbValid_2
      simp only [decide_eq_false (show ¬ (db.length : Int) < db.length by omega), cond_false]
      exact .some (decide_eq_true hok)
  · rintro (r | r) hr
    · have hr : dbv db = true := hr
      exact .some (by rw [hr])
    · obtain ⟨b, u⟩ := r
      have hr : b = false ∧ dbv db = false := hr
      exact .some (by rw [hr.1, hr.2])
def fd (db : List Ls) (o : Int) : Option Ls := db.find? fun l => decide (l.o = o)
theorem find_hit {α : Type} {p : α → Bool} {l : List α} {k : Nat} (hk : k < l.length) (h : p l[k] = true) (hn : ∀ i (hi : i < l.length), i < k → p l[i] = false) : l.find? p = some l[k] := by
  rw [List.find?_eq_some_iff_getElem]
  exact ⟨h, k, hk, rfl, fun j hj => by simp [hn j (by omega) hj]⟩
theorem find_miss {α : Type} {p : α → Bool} {l : List α} (hn : ∀ i (hi : i < l.length), p l[i] = false) : l.find? p = none := by
  rw [List.find?_eq_none]
  intro x hx
  obtain ⟨i, hi, rfl⟩ := List.getElem_of_mem hx
  simp [hn i hi]
theorem e_l11Find (db : List Ls) (o : Int) (hl : Fits db) : sh_spec_l11Find (db, o, ()) = some (match fd db o with | some l => (l.o, l.s, l.e, true, ()) | none => (0, 0, [], false, ())) := by
  unfold sh_spec_l11Find
  refine Sat.out (Sat.bnd (R := fun r => match r with | .inl _ => fd db o = none | .inr y => ∃ l, fd db o = some l ∧ y = (true, l.o, l.s, l.e, ())) ?_ ?_)
  · refine Sat.count db.length (fun k t => t = (db, o, (k : Int), 0, 0, [], ()) ∧ ∀ i, i < k → (lsa db i).o ≠ o) ?_ (Nat.zero_le _) (fuel_lt (by omega)) ⟨rfl, fun i hi => by omega⟩
    rintro k t hk ⟨rfl, hok⟩
    simp (disch := omega) only [bo_spec_l11Find_2, at_ls, toN, w64, nI_eq]
    repeat' (first
      | refine Sat.some ?_
      | fail
      | (refine Sat.gd (by first | exact inR_t (by omega) (by omega) | (simp (disch := omega) only [w64]; exact inR_t (by omega) (by omega))) ?_)
      | (refine Sat.ite (fun h => ?_) (fun h => ?_) <;> try simp only [decide_eq_true_eq, decide_eq_false_iff_not, Bool.not_eq_true', Bool.not_eq_false', inB_i, inB_j, Bool.and_eq_true, Bool.or_eq_true, Bool.and_eq_false_iff, Bool.or_eq_false_iff, El] at h))
    all_goals try dsimp only
    · have hlt : k < db.length := by omega
      refine ⟨lsa db k, ?_, rfl⟩
      unfold fd
      rw [lsa_get hlt]
      exact find_hit hlt (decide_eq_true (by rw [← lsa_get hlt]; assumption)) fun i hi hik => decide_eq_false (by rw [← lsa_get hi]; exact hok i hik)
    · refine ⟨by omega, rfl, fun i hi => ?_⟩
      by_cases e : i < k
      · exact hok i e
      · obtain rfl : i = k := by omega
        assumption
    · exact find_miss fun i hi => decide_eq_false (by rw [← lsa_get hi]; exact hok i (by omega))
  · rintro (r | r) hr
    · have hr : fd db o = none := hr
      exact .some (by rw [hr])
    · obtain ⟨l, h1, rfl⟩ := hr
      exact .some (by rw [h1])
end Go.Proofs.YtojdflifijpffaaGreat
end
section
namespace Go.Proofs.YtojdflifijpffaaGreat
open Go.RowKit
set_option linter.unusedSimpArgs false
set_option linter.unusedVariables false
set_option maxRecDepth 100000

theorem half {i j : Nat} (h : i + j ≤ 4611686018427387904) : wrap64 (shrK .u64 (wrapK .u64 (wrap64 ((i : Int) + (j : Int)))) 1) = (((i + j) / 2 : Nat) : Int) := by
  rw [w64 (x := (i : Int) + j) (by omega) (by omega)]
  have e : wrapK .u64 ((i : Int) + j) = (i : Int) + j := by
    simp [wrapK, IntKind.wrap, IntKind.signed, IntKind.bits]
    omega
  rw [e]
  unfold shrK
  rw [show (1 : Int).toNat = 1 from rfl, show min 1 (IntKind.bits .u64) = 1 from rfl]
  rw [Int.fdiv_eq_ediv_of_nonneg _ (by decide)]
  rw [w64 (by omega) (by omega)]
  omega
def IsPl (db : List Ls) (o : Int) (i : Nat) : Prop := i ≤ db.length ∧ (∀ x, x < i → (lsa db x).o < o) ∧ ∀ x, i ≤ x → x < db.length → o ≤ (lsa db x).o
def hasAt (db : List Ls) (o : Int) (i : Nat) : Bool := decide (i < db.length ∧ (lsa db i).o = o)
def Srt (db : List Ls) : Prop := ∀ i j, i < j → j < db.length → (lsa db i).o < (lsa db j).o
theorem DbV.srt {db : List Ls} (h : DbV db) : Srt db := by
  have step : ∀ d i, i + d + 1 < db.length → (lsa db i).o < (lsa db (i + d + 1)).o := fun d => by
    induction d with
    | zero => intro i hi; exact (h (i + 1) hi).2 (by omega)
    | succ d ih =>
      intro i hi
      have h1 := ih i (by omega)
      have h2 := (h (i + (d + 1) + 1) hi).2 (by omega)
      rw [Nat.add_sub_cancel] at h2
      rw [show i + (d + 1) = i + d + 1 by omega] at h2 ⊢
      omega
  intro i j hij hj
  have := step (j - i - 1) i (by omega)
  rwa [show i + (j - i - 1) + 1 = j by omega] at this
theorem e_cmp (a b : Int) : sh_cmp_Compare_int (a, b, ()) = some (if a < b then -1 else if b < a then 1 else 0, ()) := by
  have e : ∀ x : Int, sh_cmp_isNaN_int (x, ()) = some (false, ()) := fun x => by simp [sh_cmp_isNaN_int]
  unfold sh_cmp_Compare_int
  simp only [e, Option.bind_some, cond_false]
  by_cases h1 : a < b
  · simp [h1]
  · by_cases h2 : b < a <;> simp [h1, h2]
theorem e_dbPlace (db : List Ls) (o : Int) (hs : Srt db) (hl : db.length ≤ 2000000000) : ∃ i : Nat, IsPl db o i ∧ sh_impl_dbPlace (db, o, ()) = some ((i : Int), hasAt db o i, ()) := by
  have hmono : ∀ i j, i ≤ j → j < db.length → (lsa db i).o ≤ (lsa db j).o := fun i j hij hj => by
    rcases Nat.eq_or_lt_of_le hij with e | e
    · subst e; exact Int.le_refl _
    · have := hs i j e hj; omega
  have key : Sat (sh_impl_dbPlace (db, o, ())) fun r => ∃ i : Nat, IsPl db o i ∧ r = ((i : Int), hasAt db o i, ()) := by
    unfold sh_impl_dbPlace sh_slices_BinarySearchFunc_impl_Lsa_impl_Lsa_int_dbPlace_1
    refine Sat.bnd (R := fun r => ∃ i : Nat, IsPl db o i ∧ r = ((i : Int), hasAt db o i, ())) (Sat.bnd (R := fun r => match r with | .inl x => ∃ i : Nat, IsPl db o i ∧ x = (db, o, (db.length : Int), (i : Int), ()) | .inr _ => False) ?_ ?_) ?_
    · refine Sat.loop (fun s => ∃ i j : Nat, s = (db, o, (db.length : Int), (i : Int), (j : Int), ()) ∧ i ≤ j ∧ j ≤ db.length ∧ (∀ x, x < i → (lsa db x).o < o) ∧ ∀ x, j ≤ x → x < db.length → o ≤ (lsa db x).o) (fun s => (s.2.2.2.2.1 - s.2.2.2.1).toNat) ?_ fuel _ ?_ ?_
      · rintro _ ⟨i, j, rfl, hij, hj, h1, h2⟩
        simp only [bo_slices_BinarySearchFunc_impl_Lsa_impl_Lsa_int_dbPlace_1_3, half (show i + j ≤ 4611686018427387904 by omega), at_ls, toN, sh_impl_dbPlace_1, e_cmp, Option.bind_some]
        refine Sat.ite (fun hlt => ?_) (fun hlt => ?_)
        · have hlt := of_decide_eq_true hlt
          have hm : (i + j) / 2 < j ∧ i ≤ (i + j) / 2 := by omega
          generalize (i + j) / 2 = m at *
          refine Sat.gd (inR_t (by omega) (by omega)) (Sat.ite (fun hc => ?_) (fun hc => ?_))
          · have hc := of_decide_eq_true hc
            have hc : (lsa db m).o < o := by
              by_cases h : (lsa db m).o < o
              · exact h
              · rw [if_neg h] at hc
                split at hc <;> omega
            rw [w64 (by omega) (by omega)]
            refine .some ⟨⟨m + 1, j, rfl, by omega, hj, fun x hx => ?_, h2⟩, by dsimp only; omega⟩
            have := hmono x m (by omega) (by omega)
            omega
          · have hc := of_decide_eq_false hc
            have hc : o ≤ (lsa db m).o := by
              by_cases h : (lsa db m).o < o
              · rw [if_pos h] at hc; omega
              · omega
            refine .some ⟨⟨i, m, rfl, by omega, by omega, h1, fun x hx hxl => ?_⟩, by dsimp only; omega⟩
            have := hmono m x hx hxl
            omega
        · have hlt := of_decide_eq_false hlt
          obtain rfl : i = j := by omega
          exact .some ⟨i, ⟨hj, h1, h2⟩, rfl⟩
      · rw [nI_eq]; dsimp only; unfold fuel; omega
      · exact ⟨0, db.length, by rw [nI_eq]; rfl, by omega, by omega, fun x hx => by omega, fun x hx hxl => by omega⟩
    · rintro (r | r) hr
      case inr => exact hr.elim
      obtain ⟨i, hi, rfl⟩ := hr
      simp only [at_ls, toN, sh_impl_dbPlace_1, e_cmp, Option.bind_some]
      refine Sat.ite (fun hlt => ?_) (fun hlt => ?_)
      · have hlt := of_decide_eq_true hlt
        refine Sat.gd (inR_t (by omega) (by omega)) (.some ⟨i, hi, ?_⟩)
        have hge := hi.2.2 i (Nat.le_refl _) (by omega)
        unfold hasAt
        by_cases h : (lsa db i).o = o
        · rw [decide_eq_true (show i < db.length ∧ (lsa db i).o = o from ⟨by omega, h⟩), h, if_neg (by omega), if_neg (by omega)]; rfl
        · rw [decide_eq_false (show ¬ (i < db.length ∧ (lsa db i).o = o) from fun g => h g.2), if_neg (by omega), if_pos (by omega)]; rfl
      · have hlt := of_decide_eq_false hlt
        refine .some ⟨i, hi, ?_⟩
        unfold hasAt
        rw [decide_eq_false (show ¬ (i < db.length ∧ (lsa db i).o = o) from fun g => by omega)]
    · rintro _ ⟨i, hi, rfl⟩
      exact .some ⟨i, hi, rfl⟩
  obtain ⟨r, h1, i, h2, h3⟩ := key
  exact ⟨i, h2, by rw [h1, h3]⟩
theorem fd_place {db : List Ls} {o : Int} {i : Nat} (hs : Srt db) (h : IsPl db o i) : fd db o = if hasAt db o i then some (lsa db i) else none := by
  unfold hasAt
  by_cases hc : i < db.length ∧ (lsa db i).o = o
  · rw [decide_eq_true hc, if_pos rfl]
    unfold fd
    rw [lsa_get hc.1]
    exact find_hit hc.1 (decide_eq_true (by rw [← lsa_get hc.1]; exact hc.2)) fun x hx hxi => decide_eq_false (by rw [← lsa_get hx]; have := h.2.1 x hxi; omega)
  · rw [decide_eq_false hc]
    unfold fd
    refine find_miss (p := fun l : Ls => decide (l.o = o)) (l := db) fun x hx => decide_eq_false ?_
    rw [← lsa_get hx]
    rcases Nat.lt_or_ge x i with h1 | h1
    · have := h.2.1 x h1; omega
    · intro e
      have h2 := h.2.2 x h1 hx
      have h3 := h.2.2 i (Nat.le_refl _) (by omega)
      rcases Nat.eq_or_lt_of_le h1 with e2 | e2
      · subst e2; exact hc ⟨hx, e⟩
      · have := hs i x e2 hx; omega
end Go.Proofs.YtojdflifijpffaaGreat
end
section
namespace Go.Proofs.YtojdflifijpffaaGreat
open Go.RowKit
set_option linter.unusedSimpArgs false
set_option linter.unusedVariables false
set_option maxRecDepth 100000

theorem asc_ext : ∀ {l l' : List Int}, l.Pairwise (· < ·) → l'.Pairwise (· < ·) → (∀ x, x ∈ l ↔ x ∈ l') → l = l'
  | [], [], _, _, _ => rfl
  | [], y :: s, _, _, h => by have := (h y).2 (List.mem_cons_self ..); simp at this
  | x :: r, [], _, _, h => by have := (h x).1 (List.mem_cons_self ..); simp at this
  | x :: r, y :: s, h1, h2, h => by
    have h1 := List.pairwise_cons.1 h1
    have h2 := List.pairwise_cons.1 h2
    have e : x = y := by
      rcases List.mem_cons.1 ((h x).1 (List.mem_cons_self ..)) with e | hx
      · exact e
      · rcases List.mem_cons.1 ((h y).2 (List.mem_cons_self ..)) with e | hy
        · exact e.symm
        · have q1 := h1.1 y hy
          have q2 := h2.1 x hx
          omega
    subst e
    have : r = s := asc_ext h1.2 h2.2 fun z => by
      constructor
      · intro hz
        rcases List.mem_cons.1 ((h z).1 (List.mem_cons_of_mem _ hz)) with e | hz'
        · subst e; have := h1.1 z hz; omega
        · exact hz'
      · intro hz
        rcases List.mem_cons.1 ((h z).2 (List.mem_cons_of_mem _ hz)) with e | hz'
        · subst e; have := h2.1 z hz; omega
        · exact hz'
    rw [this]
theorem sortI_mem {x : Int} {l : List Int} : x ∈ sortI l ↔ x ∈ l := List.mem_mergeSort
theorem sortI_asc {l : List Int} (h : l.Pairwise (· ≠ ·)) : (sortI l).Pairwise (· < ·) := by
  have h1 : (sortI l).Pairwise (fun a b => decide (a ≤ b) = true) := List.pairwise_mergeSort (fun a b c h1 h2 => decide_eq_true (by have := of_decide_eq_true h1; have := of_decide_eq_true h2; omega)) (fun a b => by simp; omega) l
  have h2 : (sortI l).Nodup := (List.mergeSort_perm l _).nodup_iff.2 h
  refine List.Pairwise.imp ?_ (List.Pairwise.and h1 h2)
  rintro a b ⟨q1, q2⟩
  have := of_decide_eq_true q1
  omega
theorem nbS_asc (ls : List Lk) (m : Int) (k : Nat) : (nbS ls m k).Pairwise (· < ·) := by
  unfold nbS
  rw [List.pairwise_map]
  refine List.Pairwise.imp ?_ (List.Pairwise.filter _ (List.pairwise_lt_range (n := k)))
  intro a b h
  omega
theorem nbS_mem {ls : List Lk} {m x : Int} {k : Nat} : x ∈ nbS ls m k ↔ ∃ j : Nat, j < k ∧ x = j ∧ (lc ls m j).isSome = true := by
  unfold nbS
  rw [List.mem_map]
  constructor
  · rintro ⟨j, hj, rfl⟩
    obtain ⟨h1, h2⟩ := List.mem_filter.1 hj
    exact ⟨j, List.mem_range.1 h1, rfl, by rw [lc_lof]; exact h2⟩
  · rintro ⟨j, h1, rfl, h2⟩
    rw [lc_lof] at h2
    exact ⟨j, List.mem_filter.2 ⟨List.mem_range.2 h1, h2⟩, rfl⟩
section
variable {N : Nat} {ls : List Lk}
theorem others_mem (g : GV N ls) {m : Int} {x : Int} : x ∈ others ls m ls.length ↔ (lc ls m x).isSome = true := by
  unfold others
  rw [List.mem_map, List.take_of_length_le (Nat.le_refl _)]
  constructor
  · rintro ⟨l, hl, rfl⟩
    obtain ⟨h1, h2⟩ := List.mem_filter.1 hl
    have ho := g.ok h1
    unfold okL at ho
    have h2 : m = l.a ∨ m = l.b := of_decide_eq_true h2
    unfold otherE
    by_cases e : m = l.a
    · rw [if_pos e, e, lc_mem g.pw h1 (by omega)]; rfl
    · have e2 := h2.resolve_left e
      rw [if_neg e, if_pos e2, e2, lc_symm, lc_mem g.pw h1 (by omega)]; rfl
  · intro h
    obtain ⟨c, hc⟩ := Option.isSome_iff_exists.1 h
    have hm := lc_some hc
    have ho := g.ok hm
    unfold okL at ho
    dsimp only at ho
    refine ⟨_, List.mem_filter.2 ⟨hm, decide_eq_true (by dsimp only; omega)⟩, ?_⟩
    unfold otherE
    dsimp only
    split
    · omega
    · rw [if_pos (by omega)]; omega
theorem others_nodup (g : GV N ls) (m : Int) : (others ls m ls.length).Pairwise (· ≠ ·) := by
  unfold others
  rw [List.take_of_length_le (Nat.le_refl _), List.pairwise_map]
  refine List.Pairwise.imp_of_mem ?_ (List.Pairwise.filter _ g.pw)
  intro a b ha hb hab
  obtain ⟨ha, ea⟩ := List.mem_filter.1 ha
  obtain ⟨hb, eb⟩ := List.mem_filter.1 hb
  have oa := g.ok ha
  have ob := g.ok hb
  have ea : m = a.a ∨ m = a.b := of_decide_eq_true ea
  have eb : m = b.a ∨ m = b.b := of_decide_eq_true eb
  unfold okL at oa ob
  unfold lxl at hab
  unfold otherE
  split <;> split <;> (try split) <;> (try split) <;> omega
theorem lc_none_out (g : GV N ls) {m x : Int} (h : (lc ls m x).isSome = true) : 0 ≤ x ∧ x < N ∧ 0 ≤ m ∧ m < N ∧ x ≠ m := by
  obtain ⟨c, hc⟩ := Option.isSome_iff_exists.1 h
  have ho := g.ok (lc_some hc)
  unfold okL at ho
  dsimp only at ho
  omega
theorem sort_nb (g : GV N ls) (m : Int) : sortI (others ls m ls.length) = nbS ls m N := by
  refine asc_ext (sortI_asc (others_nodup g m)) (nbS_asc ls m N) fun x => ?_
  rw [sortI_mem, others_mem g, nbS_mem]
  constructor
  · intro h
    have := lc_none_out g h
    exact ⟨x.toNat, by omega, by omega, by rw [show ((x.toNat : Nat) : Int) = x by omega]; exact h⟩
  · rintro ⟨j, _, rfl, h⟩; exact h
def endsOf (ls : List Lk) (N : Nat) (o : Int) : List En := (nbS ls o N).map fun n => ⟨n, (lc ls o n).getD 0⟩
theorem e_lsaOf (g : GV N ls) (o s : Int) : sh_impl_Graph_lsaOf ((N : Int), ls, o, s, ()) = some (o, s, endsOf ls N o, ()) := by
  have h8 := g.2.1
  have fl : Fits ls := (show Fits ls by have := g.2.2.1; unfold Fits; omega)
  unfold sh_impl_Graph_lsaOf
  simp only [e_neighbours (N : Int) ls o (by have := g.2.2.1; omega), sort_nb g o, Option.bind_some, nI_eq]
  have hlen := nbS_len ls o N
  have hmem : ∀ x ∈ nbS ls o N, ∃ c, lc ls o x = some c := fun x hx => by
    obtain ⟨j, _, rfl, h⟩ := nbS_mem.1 hx
    exact Option.isSome_iff_exists.1 h
  unfold endsOf
  generalize nbS ls o N = nb at *
  refine Sat.out (Sat.bnd (R := fun r => match r with | .inl x => x = (0, 0, o, s, [], nb.map fun n => ⟨n, (lc ls o n).getD 0⟩, ()) | .inr _ => False) ?_ ?_)
  · refine Sat.count nb.length (fun k t => t = (o, (nb.length : Int), (k : Int), (N : Int), ls, 0, 0, o, s, nb, [], (nb.take k).map (fun n => (⟨n, (lc ls o n).getD 0⟩ : En)), ())) ?_ (Nat.zero_le _) (fuel_lt (by omega)) (by simp)
    rintro k t hk rfl
    by_cases hlt : k < nb.length
    · obtain ⟨c, hc⟩ := hmem (iz nb k) (List.mem_of_getElem? (iz_get hlt))
      obtain ⟨h1, h2, h3⟩ := lc_at hc
      simp (disch := omega) only [bo_impl_Graph_lsaOf_3, at_int, at_lk, toN, w64, e_linkOf _ _ _ _ fl, Option.bind_some, List.length_singleton, List.length_map]
      refine Sat.gd (decide_eq_true (by omega)) (Sat.gd (inR_t (by omega) (by omega)) (Sat.gd (inR_t h1 h2) (Sat.gd (decide_eq_true (by simp; omega)) (.some ⟨hlt, ?_⟩))))
      rw [h3, List.take_add_one, iz_get hlt]
      simp [hc]
    · obtain rfl : k = nb.length := by omega
      unfold bo_impl_Graph_lsaOf_3
      simp only [decide_eq_false (show ¬ (nb.length : Int) < nb.length by omega), cond_false, List.take_length]
      exact .some rfl
  · rintro (r | r) hr
    case inr => exact hr.elim
    obtain rfl := hr
    exact .some rfl
theorem endsOf_len (o : Int) : (endsOf ls N o).length ≤ N := by unfold endsOf; rw [List.length_map]; exact nbS_len ls o N
theorem e_l11Of (g : GV N ls) (o s : Int) : sh_spec_l11Of ((N : Int), ls, o, s, ()) = some (o, s, endsOf ls N o, ()) := by
  have h8 := g.2.1
  have fl : Fits ls := (show Fits ls by have := g.2.2.1; unfold Fits; omega)
  unfold sh_spec_l11Of
  refine Sat.out (Sat.bnd (R := fun r => match r with | .inl x => x = (0, 0, [], o, s, endsOf ls N o, ()) | .inr _ => False) ?_ ?_)
  · refine Sat.count N (fun k t => t = (o, (k : Int), (N : Int), ls, 0, 0, [], o, s, (nbS ls o k).map (fun n => (⟨n, (lc ls o n).getD 0⟩ : En)), ())) ?_ (Nat.zero_le _) (fuel_lt (by omega)) (by simp [nbS])
    rintro k t hk rfl
    have hlen := nbS_len ls o k
    simp (disch := omega) only [bo_spec_l11Of_3, at_lk, toN, w64, e_l1Link _ _ _ _ fl, Option.bind_some, List.length_singleton, List.length_map]
    refine Sat.ite (fun hlt => ?_) (fun hlt => ?_)
    · have hlt := of_decide_eq_true hlt
      cases hc : lc ls o k with
      | none =>
        refine Sat.no (by rw [lc_no hc]; rfl) (.some ⟨by omega, ?_⟩)
        rw [nbS_succ, if_neg (by rw [lc_no hc]; omega)]
        rfl
      | some c =>
        obtain ⟨h1, h2, h3⟩ := lc_at hc
        refine Sat.gd (decide_eq_true h1) (Sat.gd (inR_t h1 h2) (Sat.gd (decide_eq_true (by omega)) (.some ⟨by omega, ?_⟩)))
        rw [nbS_succ, if_pos h1, h3]
        simp [hc]
    · have hlt := of_decide_eq_false hlt
      obtain rfl : k = N := by omega
      exact .some rfl
  · rintro (r | r) hr
    case inr => exact hr.elim
    obtain rfl := hr
    exact .some rfl
end
end Go.Proofs.YtojdflifijpffaaGreat
end
section
namespace Go.Proofs.YtojdflifijpffaaGreat
open Go.RowKit
set_option linter.unusedSimpArgs false
set_option linter.unusedVariables false

abbrev SrtP (db : List Ls) : Prop := db.Pairwise fun x y => x.o < y.o
theorem srt_iff {db : List Ls} : Srt db ↔ SrtP db := by
  unfold SrtP
  rw [List.pairwise_iff_getElem]
  constructor
  · intro h i j hi hj hij
    have := h i j hij hj
    rwa [lsa_get hi, lsa_get hj] at this
  · intro h i j hij hj
    rw [lsa_get (show i < db.length by omega), lsa_get hj]
    exact h i j (by omega) hj hij
theorem dbV_iff {db : List Ls} : DbV db ↔ (∀ l ∈ db, LsV l) ∧ SrtP db := by
  constructor
  · intro h
    refine ⟨fun l hl => ?_, srt_iff.1 h.srt⟩
    obtain ⟨i, hi, rfl⟩ := List.getElem_of_mem hl
    have := (h i hi).1
    rwa [lsa_get hi] at this
  · rintro ⟨h1, h2⟩ i hi
    refine ⟨?_, fun h0 => srt_iff.2 h2 (i - 1) i (by omega) hi⟩
    rw [lsa_get hi]
    exact h1 _ (List.getElem_mem hi)
def putL (db : List Ls) (l : Ls) : List Ls := db.filter (fun x => decide (x.o < l.o)) ++ l :: db.filter (fun x => decide (l.o < x.o))
def putC (db : List Ls) (l : Ls) : Int := match fd db l.o with | some old => if old.s = l.s then 1 else if l.s < old.s then 2 else 0 | none => 0
def putD (db : List Ls) (l : Ls) : List Ls := if putC db l = 0 then putL db l else db
theorem putL_mem {db : List Ls} {l x : Ls} : x ∈ putL db l ↔ x = l ∨ x ∈ db ∧ x.o ≠ l.o := by
  unfold putL
  rw [List.mem_append, List.mem_cons, List.mem_filter, List.mem_filter]
  simp only [decide_eq_true_eq]
  constructor
  · rintro (⟨h1, h2⟩ | rfl | ⟨h1, h2⟩)
    · exact .inr ⟨h1, by omega⟩
    · exact .inl rfl
    · exact .inr ⟨h1, by omega⟩
  · rintro (rfl | ⟨h1, h2⟩)
    · exact .inr (.inl rfl)
    · rcases Int.lt_or_gt_of_ne h2 with h | h
      · exact .inl ⟨h1, h⟩
      · exact .inr (.inr ⟨h1, h⟩)
theorem putL_srt {db : List Ls} (h : SrtP db) (l : Ls) : SrtP (putL db l) := by
  unfold putL SrtP
  rw [List.pairwise_append, List.pairwise_cons]
  refine ⟨List.Pairwise.filter _ h, ⟨fun x hx => ?_, List.Pairwise.filter _ h⟩, fun x hx y hy => ?_⟩
  · exact of_decide_eq_true (List.mem_filter.1 hx).2
  · have h1 : x.o < l.o := of_decide_eq_true (List.mem_filter.1 hx).2
    rcases List.mem_cons.1 hy with rfl | hy
    · exact h1
    · have h2 : l.o < y.o := of_decide_eq_true (List.mem_filter.1 hy).2
      omega
theorem putD_srt {db : List Ls} (h : SrtP db) (l : Ls) : SrtP (putD db l) := by
  unfold putD
  split
  · exact putL_srt h l
  · exact h
theorem putD_ok {db : List Ls} (h : DbV db) {l : Ls} (hl : LsV l) : DbV (putD db l) := by
  have := dbV_iff.1 h
  refine dbV_iff.2 ⟨fun x hx => ?_, putD_srt this.2 l⟩
  unfold putD at hx
  split at hx
  · rcases putL_mem.1 hx with rfl | hx
    · exact hl
    · exact this.1 x hx.1
  · exact this.1 x hx
theorem srt_uniq {db : List Ls} (h : SrtP db) {x y : Ls} (hx : x ∈ db) (hy : y ∈ db) (e : x.o = y.o) : x = y := by
  obtain ⟨i, hi, rfl⟩ := List.getElem_of_mem hx
  obtain ⟨j, hj, rfl⟩ := List.getElem_of_mem hy
  rcases Nat.lt_trichotomy i j with h1 | h1 | h1
  · have := List.pairwise_iff_getElem.1 h i j hi hj h1; omega
  · subst h1; rfl
  · have := List.pairwise_iff_getElem.1 h j i hj hi h1; omega
theorem fd_some {db : List Ls} (h : SrtP db) {o : Int} {x : Ls} : fd db o = some x ↔ x ∈ db ∧ x.o = o := by
  unfold fd
  constructor
  · intro e
    exact ⟨List.mem_of_find?_eq_some e, of_decide_eq_true (List.find?_some (p := fun l : Ls => decide (l.o = o)) e)⟩
  · rintro ⟨hx, rfl⟩
    cases e : db.find? (fun l => decide (l.o = x.o)) with
    | none =>
      have := List.find?_eq_none.1 e x hx
      simp at this
    | some y =>
      have h1 := List.mem_of_find?_eq_some e
      have h2 : y.o = x.o := of_decide_eq_true (List.find?_some (p := fun l : Ls => decide (l.o = x.o)) e)
      rw [srt_uniq h h1 hx h2]
theorem fd_none {db : List Ls} {o : Int} : fd db o = none ↔ ∀ x ∈ db, x.o ≠ o := by
  unfold fd
  rw [List.find?_eq_none]
  constructor
  · intro h x hx e; exact h x hx (decide_eq_true e)
  · intro h x hx e; exact h x hx (of_decide_eq_true e)
theorem fd_put {db : List Ls} (h : SrtP db) (l : Ls) (o : Int) : fd (putD db l) o = if o = l.o ∧ putC db l = 0 then some l else fd db o := by
  unfold putD
  by_cases hc : putC db l = 0
  · rw [if_pos hc]
    by_cases ho : o = l.o
    · rw [if_pos ⟨ho, hc⟩]
      exact (fd_some (putL_srt h l)).2 ⟨putL_mem.2 (.inl rfl), ho.symm⟩
    · rw [if_neg fun g => ho g.1]
      cases e : fd db o with
      | none =>
        rw [fd_none] at e ⊢
        intro x hx
        rcases putL_mem.1 hx with rfl | ⟨hx, _⟩
        · exact fun g => ho g.symm
        · exact e x hx
      | some y =>
        obtain ⟨h1, h2⟩ := (fd_some h).1 e
        exact (fd_some (putL_srt h l)).2 ⟨putL_mem.2 (.inr ⟨h1, by omega⟩), h2⟩
  · rw [if_neg hc, if_neg fun g => hc g.2]
theorem srt_ext : ∀ {a b : List Ls}, SrtP a → SrtP b → (∀ x, x ∈ a ↔ x ∈ b) → a = b
  | [], [], _, _, _ => rfl
  | [], y :: s, _, _, h => by have := (h y).2 (List.mem_cons_self ..); simp at this
  | x :: r, [], _, _, h => by have := (h x).1 (List.mem_cons_self ..); simp at this
  | x :: r, y :: s, h1, h2, h => by
    have h1 := List.pairwise_cons.1 h1
    have h2 := List.pairwise_cons.1 h2
    have e : x = y := by
      rcases List.mem_cons.1 ((h x).1 (List.mem_cons_self ..)) with e | hx
      · exact e
      · rcases List.mem_cons.1 ((h y).2 (List.mem_cons_self ..)) with e | hy
        · exact e.symm
        · have q1 := h1.1 y hy
          have q2 := h2.1 x hx
          omega
    subst e
    have : r = s := srt_ext h1.2 h2.2 fun z => by
      constructor
      · intro hz
        rcases List.mem_cons.1 ((h z).1 (List.mem_cons_of_mem _ hz)) with e | hz'
        · subst e; have := h1.1 z hz; omega
        · exact hz'
      · intro hz
        rcases List.mem_cons.1 ((h z).2 (List.mem_cons_of_mem _ hz)) with e | hz'
        · subst e; have := h2.1 z hz; omega
        · exact hz'
    rw [this]
theorem put_set {db : List Ls} (h : SrtP db) {l : Ls} {i : Nat} (hi : i < db.length) (ho : (lsa db i).o = l.o) : db.set i l = putL db l := by
  have hs : SrtP (db.set i l) := by
    unfold SrtP
    rw [List.pairwise_iff_getElem]
    intro a b ha hb hab
    rw [List.length_set] at ha hb
    have hp := fun x y (hx : x < db.length) (hy : y < db.length) (hxy : x < y) => List.pairwise_iff_getElem.1 h x y hx hy hxy
    rw [lsa_get hi] at ho
    rw [List.getElem_set, List.getElem_set]
    split <;> split
    · omega
    · rename_i e1 e2; subst e1; have := hp i b hi hb hab; omega
    · rename_i e1 e2; subst e2; have := hp a i ha hi hab; omega
    · exact hp a b ha hb hab
  refine srt_ext hs (putL_srt h l) fun x => ?_
  rw [putL_mem]
  rw [lsa_get hi] at ho
  constructor
  · intro hx
    obtain ⟨j, hj, rfl⟩ := List.getElem_of_mem hx
    rw [List.length_set] at hj
    rw [List.getElem_set]
    split
    · exact .inl rfl
    · rename_i e
      refine .inr ⟨List.getElem_mem hj, fun g => ?_⟩
      rcases Nat.lt_or_gt_of_ne e with h1 | h1
      · have := List.pairwise_iff_getElem.1 h i j hi hj h1; omega
      · have := List.pairwise_iff_getElem.1 h j i hj hi h1; omega
  · rintro (rfl | ⟨hx, hne⟩)
    · exact List.mem_set hi x
    · obtain ⟨j, hj, rfl⟩ := List.getElem_of_mem hx
      have e : i ≠ j := by rintro rfl; exact hne ho
      have : (db.set i l)[j]'(by rw [List.length_set]; exact hj) = db[j] := by rw [List.getElem_set, if_neg e]
      rw [← this]
      exact List.getElem_mem _
theorem put_insert {db : List Ls} (h : SrtP db) {l : Ls} {i : Nat} (hp : IsPl db l.o i) (hn : hasAt db l.o i = false) : db.take i ++ l :: db.drop i = putL db l := by
  have hno : ∀ x ∈ db, x.o ≠ l.o := fd_none.1 (by rw [fd_place (srt_iff.2 h) hp, hn]; rfl)
  have e1 : ∀ x ∈ db.take i, x.o < l.o := fun x hx => by
    obtain ⟨j, hj, rfl⟩ := List.getElem_of_mem hx
    rw [List.length_take] at hj
    rw [List.getElem_take, ← lsa_get (show j < db.length by omega)]
    exact hp.2.1 j (by omega)
  have e2 : ∀ x ∈ db.drop i, l.o < x.o := fun x hx => by
    have hm := hno x (List.mem_of_mem_drop hx)
    obtain ⟨j, hj, rfl⟩ := List.getElem_of_mem hx
    rw [List.length_drop] at hj
    rw [List.getElem_drop] at hm ⊢
    have := hp.2.2 (i + j) (by omega) (by omega)
    rw [lsa_get (show i + j < db.length by omega)] at this
    omega
  have hs : SrtP (db.take i ++ l :: db.drop i) := by
    unfold SrtP
    rw [List.pairwise_append, List.pairwise_cons]
    refine ⟨List.Pairwise.sublist (List.take_sublist _ _) h, ⟨e2, List.Pairwise.sublist (List.drop_sublist _ _) h⟩, fun x hx y hy => ?_⟩
    have := e1 x hx
    rcases List.mem_cons.1 hy with rfl | hy
    · exact this
    · have := e2 y hy; omega
  refine srt_ext hs (putL_srt h l) fun x => ?_
  rw [putL_mem, List.mem_append, List.mem_cons]
  constructor
  · rintro (hx | rfl | hx)
    · exact .inr ⟨List.mem_of_mem_take hx, hno x (List.mem_of_mem_take hx)⟩
    · exact .inl rfl
    · exact .inr ⟨List.mem_of_mem_drop hx, hno x (List.mem_of_mem_drop hx)⟩
  · rintro (rfl | ⟨hx, _⟩)
    · exact .inr (.inl rfl)
    · rw [← List.take_append_drop i db, List.mem_append] at hx
      exact hx.imp id .inr
def mergeD (db other : List Ls) : List Ls := other.foldl putD db
def seqD (db : List Ls) (o : Int) : Int := match fd db o with | some l => l.s | none => -1
theorem mergeD_srt {db : List Ls} (h : SrtP db) (other : List Ls) : SrtP (mergeD db other) := by
  unfold mergeD
  induction other generalizing db with
  | nil => exact h
  | cons l r ih => exact ih (putD_srt h l)
theorem mergeD_ok {db other : List Ls} (h : DbV db) (h' : ∀ l ∈ other, LsV l) : DbV (mergeD db other) := by
  unfold mergeD
  induction other generalizing db with
  | nil => exact h
  | cons l r ih => exact ih (putD_ok h (h' l (List.mem_cons_self ..))) fun x hx => h' x (List.mem_cons_of_mem _ hx)
theorem seq_put {db : List Ls} (h : SrtP db) {l : Ls} (hl : 0 ≤ l.s) (o : Int) : seqD (putD db l) o = if o = l.o then max (seqD db o) l.s else seqD db o := by
  unfold seqD
  rw [fd_put h l o]
  by_cases ho : o = l.o
  · subst ho
    rw [if_pos rfl]
    cases e : fd db l.o with
    | none =>
      have hc : putC db l = 0 := by unfold putC; rw [e]
      rw [hc, if_pos ⟨rfl, rfl⟩]
      dsimp only
      omega
    | some old =>
      by_cases h1 : old.s = l.s
      · have hc : putC db l = 1 := by unfold putC; rw [e]; exact if_pos h1
        rw [hc, if_neg (fun g => by have := g.2; omega)]
        dsimp only
        omega
      · by_cases h2 : l.s < old.s
        · have hc : putC db l = 2 := by unfold putC; rw [e]; dsimp only; rw [if_neg h1, if_pos h2]
          rw [hc, if_neg (fun g => by have := g.2; omega)]
          dsimp only
          omega
        · have hc : putC db l = 0 := by unfold putC; rw [e]; dsimp only; rw [if_neg h1, if_neg h2]
          rw [hc, if_pos ⟨rfl, rfl⟩]
          dsimp only
          omega
  · rw [if_neg fun g => ho g.1, if_neg ho]
theorem putC_zero {db : List Ls} {l : Ls} (hl : 0 ≤ l.s) : putC db l = 0 ↔ seqD db l.o < l.s := by
  unfold putC seqD
  cases fd db l.o with
  | none => simp; omega
  | some old =>
    dsimp only
    by_cases h1 : old.s = l.s
    · rw [if_pos h1]; omega
    · rw [if_neg h1]
      by_cases h2 : l.s < old.s
      · rw [if_pos h2]; omega
      · rw [if_neg h2]; omega
theorem fd_cons (l : Ls) (r : List Ls) (o : Int) : fd (l :: r) o = if l.o = o then some l else fd r o := by
  unfold fd
  rw [List.find?_cons]
  by_cases h : l.o = o
  · rw [if_pos h, decide_eq_true h]
  · rw [if_neg h, decide_eq_false h]
theorem seq_low {db : List Ls} (h : ∀ l ∈ db, 0 ≤ l.s) (o : Int) : -1 ≤ seqD db o := by
  unfold seqD
  cases e : fd db o with
  | none => simp
  | some l => have := h l (List.mem_of_find?_eq_some e); dsimp only; omega
theorem fd_merge {a b : List Ls} (ha : SrtP a) (hb : SrtP b) (hs : ∀ l ∈ b, 0 ≤ l.s) (hsa : ∀ l ∈ a, 0 ≤ l.s) (o : Int) : fd (mergeD a b) o = if seqD a o < seqD b o then fd b o else fd a o := by
  unfold mergeD
  induction b generalizing a with
  | nil =>
    have : seqD [] o = -1 := rfl
    rw [if_neg (by have := seq_low hsa o; omega)]
    rfl
  | cons l r ih =>
    have hb' := List.pairwise_cons.1 hb
    have hl := hs l (List.mem_cons_self ..)
    have hsa' : ∀ x ∈ putD a l, 0 ≤ x.s := fun x hx => by
      unfold putD at hx
      split at hx
      · rcases putL_mem.1 hx with rfl | hx
        · exact hl
        · exact hsa x hx.1
      · exact hsa x hx
    have ih := ih (putD_srt ha l) hb'.2 (fun x hx => hs x (List.mem_cons_of_mem _ hx)) hsa'
    rw [List.foldl_cons, ih, seq_put ha hl, fd_put ha, fd_cons]
    have hq : seqD (l :: r) o = if l.o = o then l.s else seqD r o := by
      unfold seqD
      rw [fd_cons]
      by_cases e : l.o = o
      · rw [if_pos e, if_pos e]
      · rw [if_neg e, if_neg e]
    rw [hq]
    by_cases ho : o = l.o
    · subst ho
      have hr : seqD r l.o = -1 := by
        unfold seqD
        rw [fd_none.2 fun x hx e => by have := hb'.1 x hx; omega]
      have hla := seq_low hsa l.o
      rw [if_pos rfl, if_pos rfl, if_pos rfl, hr, if_neg (by omega)]
      by_cases hc : putC a l = 0
      · rw [if_pos ⟨rfl, hc⟩, if_pos ((putC_zero hl).1 hc)]
      · rw [if_neg fun g => hc g.2, if_neg fun g => hc ((putC_zero hl).2 g)]
    · have h1 : ¬ l.o = o := fun g => ho g.symm
      have h2 : ¬ (o = l.o ∧ putC a l = 0) := fun g => ho g.1
      simp only [if_neg ho, if_neg h1, if_neg h2]
theorem seq_merge {a b : List Ls} (ha : SrtP a) (hb : SrtP b) (hs : ∀ l ∈ b, 0 ≤ l.s) (hsa : ∀ l ∈ a, 0 ≤ l.s) (o : Int) : seqD (mergeD a b) o = max (seqD a o) (seqD b o) := by
  have h := fd_merge ha hb hs hsa o
  by_cases hc : seqD a o < seqD b o
  · rw [if_pos hc] at h
    have : seqD (mergeD a b) o = seqD b o := by unfold seqD; rw [h]
    omega
  · rw [if_neg hc] at h
    have : seqD (mergeD a b) o = seqD a o := by unfold seqD; rw [h]
    omega
def Agree (a b : List Ls) : Prop := ∀ x ∈ a, ∀ y ∈ b, x.o = y.o → x.s = y.s → x = y
theorem merge_mem {a b : List Ls} {x : Ls} (hx : x ∈ mergeD a b) : x ∈ a ∨ x ∈ b := by
  unfold mergeD at hx
  induction b generalizing a with
  | nil => exact .inl hx
  | cons l r ih =>
    rcases ih hx with h | h
    · unfold putD at h
      split at h
      · rcases putL_mem.1 h with rfl | h
        · exact .inr (List.mem_cons_self ..)
        · exact .inl h.1
      · exact .inl h
    · exact .inr (List.mem_cons_of_mem _ h)
end Go.Proofs.YtojdflifijpffaaGreat
end
