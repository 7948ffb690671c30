/- Part 5 of the proof: KC KW PeA UG UO UQ PeB US. -/
import Derived.Test.YtknkhdjhongklaaQk4
set_option linter.unusedSimpArgs false
set_option linter.unusedVariables false
section
namespace Go.Proofs.Ytknkhdjhongklaa
open Go.RowKit
set_option maxRecDepth 100000
def zAG : Loop := ⟨⟨[1, 3, 6, 7, 8], ⟨[.c (.one (.b (.int .i64))), .c (.one (.ptr 0 0)), .c (.one (.ptr 1 0)), .c (.one (.ptr 2 0)), .c (.one (.b (.int .i64)))], [.box 28 [(.b (.int .i64)), (.b (.sl false .lk))], .box 49 [(.b (.int .i64)), (.b (.int .i64)), (.b (.sl true .en))], .box 49 [(.b (.int .i64)), (.b (.int .i64)), (.own 3)], .row 73 .en]⟩, [.int, .int, .int, .ls .lk, .int, .int, .ls .en, .int, .int, .ls .en]⟩, 0, ⟨[6, 7], ⟨[.c (.one (.ptr 0 0)), .c (.one (.ptr 1 0))], [.box 49 [(.b (.int .i64)), (.b (.int .i64)), (.b (.sl true .en))], .box 49 [(.b (.int .i64)), (.b (.int .i64)), (.own 2)], .row 73 .en]⟩, [.int, .int, .ls .en, .int, .int, .ls .en]⟩, ⟨[999999], ⟨[.c (.one (.own 0))], []⟩, []⟩, lp zBe fuel⟩
def zCG : Entry := ⟨⟨[.c (.agg [(.b (.int .i64)), (.b (.sl false .lk))]), .c (.one (.b (.int .i64))), .c (.one (.b (.int .i64)))], []⟩, [.int, .ls .lk, .int, .int], ⟨[.c (.agg [(.b (.int .i64)), (.b (.int .i64)), (.own 0)])], [.row 73 .en]⟩, [.int, .int, .ls .en], zFR⟩
def zDz : Env := mkEnv tab [(41, [], zCJ)] 40 0 [(7, 11, [(0, true), (1, true), (2, true), (3, true), (4, true), (5, true), (6, true), (7, true), (8, true), (9, true), (10, false)], [])] [(3, zAG)]
theorem zGG : CtrOk Try.prog zDz.Γ := ctr_ok (l := [(41, [], zCJ)]) ⟨⟨zE2, Try.call41⟩, trivial⟩
theorem zEa : LoopOk Try.prog 0 40 (nthC (Try.f16.body.getD .skip) 0) zAG := loop_ok (G := zDz) (F := zAG.F) (eid := zAG.eid) (FX := zAG.FX) (FR := zAG.FR) (B := zBe) (n := fuel) bad_ok tabOk zGG mixed (code_ok' (G := zDz) (n := 0) (by kernel_rfl) (by kernel_rfl) trivial (by kernel_rfl)) (fun s => by kernel_rfl)
theorem zEZ : GC Try.prog 16 zCG := gc_of (G := zDz) (c := Try.f16.body.getD .skip) bad_ok tabOk zGG mixed Try.func16 (by kernel_rfl) Try.ntmps16 (code_ok' (G := zDz) (n := 1) (by kernel_rfl) (by kernel_rfl) ⟨trivial, loop_at (id := 3) (L0 := zAG) (by kernel_rfl) (by kernel_rfl) zEa⟩ (by kernel_rfl)) (fun s => by kernel_rfl)
def zAc : Loop := ⟨⟨[1, 3, 6, 7, 15, 16, 17], ⟨[.c (.one (.b (.int .i64))), .c (.one (.ptr 0 0)), .c (.one (.ptr 1 0)), .c (.one (.ptr 2 0)), .c (.one (.own 3)), .c (.one (.b (.int .i64))), .c (.one (.b (.int .i64)))], [.box 28 [(.b (.int .i64)), (.b (.sl false .lk))], .box 49 [(.b (.int .i64)), (.b (.int .i64)), (.own 4)], .box 49 [(.b (.int .i64)), (.b (.int .i64)), (.own 5)], .row 3 .int, .row 73 .en, .row 73 .en]⟩, [.int, .int, .int, .int, .ls .lk, .int, .int, .int, .int, .ls .int, .ls .en, .ls .en]⟩, 0, ⟨[6, 7], ⟨[.c (.one (.ptr 0 0)), .c (.one (.ptr 1 0))], [.box 49 [(.b (.int .i64)), (.b (.int .i64)), (.own 2)], .box 49 [(.b (.int .i64)), (.b (.int .i64)), (.own 3)], .row 73 .en, .row 73 .en]⟩, [.int, .int, .int, .int, .ls .en, .ls .en]⟩, ⟨[999999], ⟨[.c (.one (.own 0))], []⟩, []⟩, lp zAK fuel⟩
def zBG : Entry := ⟨⟨[.c (.agg [(.b (.int .i64)), (.b (.sl false .lk))]), .c (.one (.b (.int .i64))), .c (.one (.b (.int .i64)))], []⟩, [.int, .ls .lk, .int, .int], ⟨[.c (.agg [(.b (.int .i64)), (.b (.int .i64)), (.own 0)])], [.row 73 .en]⟩, [.int, .int, .ls .en], zE8⟩
def zCT : Env := mkEnv tab [(46, [], zBH), (47, [], zBE)] 39 0 [(5, 14, [(0, true), (1, true), (2, true), (3, true), (4, true), (5, true), (6, true), (7, true), (8, false), (9, true), (10, true), (11, false), (12, true), (13, false)], [])] [(3, zAc)]
theorem zF0 : CtrOk Try.prog zCT.Γ := ctr_ok (l := [(46, [], zBH), (47, [], zBE)]) ⟨⟨zEh, Try.call46⟩, ⟨⟨zEe, Try.call47⟩, trivial⟩⟩
theorem zDG : LoopOk Try.prog 0 39 (nthC (Try.f24.body.getD .skip) 0) zAc := loop_ok (G := zCT) (F := zAc.F) (eid := zAc.eid) (FX := zAc.FX) (FR := zAc.FR) (B := zAK) (n := fuel) bad_ok tabOk zF0 mixed (code_ok' (G := zCT) (n := 0) (by kernel_rfl) (by kernel_rfl) trivial (by kernel_rfl)) (fun s => by kernel_rfl)
theorem zEg : GC Try.prog 24 zBG := gc_of (G := zCT) (c := Try.f24.body.getD .skip) bad_ok tabOk zF0 mixed Try.func24 (by kernel_rfl) Try.ntmps24 (code_ok' (G := zCT) (n := 1) (by kernel_rfl) (by kernel_rfl) ⟨trivial, loop_at (id := 3) (L0 := zAc) (by kernel_rfl) (by kernel_rfl) zDG⟩ (by kernel_rfl)) (fun s => by kernel_rfl)
end Go.Proofs.Ytknkhdjhongklaa
end
section
namespace Go.Proofs.Ytknkhdjhongklaa
open Go.RowKit
set_option maxRecDepth 100000
def zCI : Entry := ⟨⟨[.c (.agg [(.b (.int .i64)), (.b (.sl false .lk))])], []⟩, [.int, .ls .lk], ⟨[.c (.agg [(.b (.int .i64)), (.own 0)])], [.row 55 .lk]⟩, [.int, .ls .lk], zFT⟩
def zDB : Env := mkEnv tab [] 9 0 [] []
theorem zGI : CtrOk Try.prog zDB.Γ := ctr_ok (l := []) trivial
theorem zE1 : GC Try.prog 15 zCI := gc_of (G := zDB) (c := Try.f15.body.getD .skip) bad_ok tabOk zGI mixed Try.func15 (by kernel_rfl) Try.ntmps15 (code_ok' (G := zDB) (n := 0) (by kernel_rfl) (by kernel_rfl) trivial (by kernel_rfl)) (fun s => by kernel_rfl)
def zCH : Entry := ⟨⟨[.c (.agg [(.b (.int .i64)), (.b (.int .i64)), (.b (.sl false .en))])], []⟩, [.int, .int, .ls .en], ⟨[.c (.agg [(.b (.int .i64)), (.b (.int .i64)), (.own 0)])], [.row 73 .en]⟩, [.int, .int, .ls .en], zFS⟩
def zDA : Env := mkEnv tab [] 9 0 [] []
theorem zGH : CtrOk Try.prog zDA.Γ := ctr_ok (l := []) trivial
theorem zE0 : GC Try.prog 42 zCH := gc_of (G := zDA) (c := Try.f42.body.getD .skip) bad_ok tabOk zGH mixed Try.func42 (by kernel_rfl) Try.ntmps42 (code_ok' (G := zDA) (n := 0) (by kernel_rfl) (by kernel_rfl) trivial (by kernel_rfl)) (fun s => by kernel_rfl)
def zBK : Entry := ⟨⟨[.c (.one (.b (.int .i64))), .c (.agg [(.b (.int .i64)), (.b (.int .i64)), (.b (.int .i64))])], []⟩, [.int, .int, .int, .int], ⟨[.c (.one (.b .bool))], []⟩, [.bool], zFc⟩
def zCX : Env := mkEnv tab [] 5 0 [] []
theorem zF4 : CtrOk Try.prog zCX.Γ := ctr_ok (l := []) trivial
theorem zEk : GC Try.prog 21 zBK := gc_of (G := zCX) (c := Try.f21.body.getD .skip) bad_ok tabOk zF4 mixed Try.func21 (by kernel_rfl) Try.ntmps21 (code_ok' (G := zCX) (n := 0) (by kernel_rfl) (by kernel_rfl) trivial (by kernel_rfl)) (fun s => by kernel_rfl)
def zAF : Loop := ⟨⟨[0, 3, 4], ⟨[.c (.one (.b (.sl false .ls))), .c (.one (.own 0)), .c (.one (.b (.int .i64)))], [.row 49 .ls]⟩, [.ls .ls, .int, .ls .ls]⟩, 0, ⟨[3], ⟨[.c (.one (.own 0))], [.row 49 .ls]⟩, [.ls .ls]⟩, ⟨[999999], ⟨[.c (.one (.own 0))], []⟩, []⟩, lp zBd fuel⟩
def zCF : Entry := ⟨⟨[.c (.one (.b (.sl false .ls)))], []⟩, [.ls .ls], ⟨[.c (.one (.own 0))], [.row 49 .ls]⟩, [.ls .ls], zFQ⟩
def zDy : Env := mkEnv tab [(42, [], zCH)] 21 0 [] [(3, zAF)]
theorem zGF : CtrOk Try.prog zDy.Γ := ctr_ok (l := [(42, [], zCH)]) ⟨⟨zE0, Try.call42⟩, trivial⟩
theorem zD9 : LoopOk Try.prog 0 21 (nthC (Try.f17.body.getD .skip) 0) zAF := loop_ok (G := zDy) (F := zAF.F) (eid := zAF.eid) (FX := zAF.FX) (FR := zAF.FR) (B := zBd) (n := fuel) bad_ok tabOk zGF mixed (code_ok' (G := zDy) (n := 0) (by kernel_rfl) (by kernel_rfl) trivial (by kernel_rfl)) (fun s => by kernel_rfl)
theorem zEY : GC Try.prog 17 zCF := gc_of (G := zDy) (c := Try.f17.body.getD .skip) bad_ok tabOk zGF mixed Try.func17 (by kernel_rfl) Try.ntmps17 (code_ok' (G := zDy) (n := 1) (by kernel_rfl) (by kernel_rfl) ⟨trivial, loop_at (id := 3) (L0 := zAF) (by kernel_rfl) (by kernel_rfl) zD9⟩ (by kernel_rfl)) (fun s => by kernel_rfl)
def zAb : Loop := ⟨⟨[1, 4, 5, 12, 13, 14], ⟨[.c (.fn 21 []), .c (.one (.ptr 0 0)), .c (.one (.ptr 1 0)), .c (.one (.b (.sl false .lk))), .c (.one (.b (.int .i64))), .c (.one (.b (.int .i64)))], [.box 28 [(.b (.int .i64)), (.own 2)], .box 28 [(.b (.int .i64)), (.own 3)], .row 55 .lk, .row 55 .lk]⟩, [.ls .lk, .int, .int, .int, .int, .ls .lk, .ls .lk]⟩, 0, ⟨[4, 5], ⟨[.c (.one (.ptr 0 0)), .c (.one (.ptr 1 0))], [.box 28 [(.b (.int .i64)), (.own 2)], .box 28 [(.b (.int .i64)), (.own 3)], .row 55 .lk, .row 55 .lk]⟩, [.int, .int, .ls .lk, .ls .lk]⟩, ⟨[999999], ⟨[.c (.one (.own 0))], []⟩, []⟩, lp zAJ fuel⟩
def zBD : Entry := ⟨⟨[.c (.agg [(.b (.int .i64)), (.b (.sl false .lk))]), .c (.fn 21 [])], []⟩, [.int, .ls .lk], ⟨[.c (.agg [(.b (.int .i64)), (.own 0)])], [.row 55 .lk]⟩, [.int, .ls .lk], zE5⟩
def zCQ : Env := mkEnv tab [(21, [], zBK)] 31 0 [] [(3, zAb)]
theorem zFX : CtrOk Try.prog zCQ.Γ := ctr_ok (l := [(21, [], zBK)]) ⟨⟨zEk, Try.call21⟩, trivial⟩
theorem zDF : LoopOk Try.prog 0 31 (nthC (Try.f20.body.getD .skip) 0) zAb := loop_ok (G := zCQ) (F := zAb.F) (eid := zAb.eid) (FX := zAb.FX) (FR := zAb.FR) (B := zAJ) (n := fuel) bad_ok tabOk zFX mixed (code_ok' (G := zCQ) (n := 0) (by kernel_rfl) (by kernel_rfl) trivial (by kernel_rfl)) (fun s => by kernel_rfl)
theorem zEd : GC Try.prog 20 zBD := gc_of (G := zCQ) (c := Try.f20.body.getD .skip) bad_ok tabOk zFX mixed Try.func20 (by kernel_rfl) Try.ntmps20 (code_ok' (G := zCQ) (n := 1) (by kernel_rfl) (by kernel_rfl) ⟨trivial, loop_at (id := 3) (L0 := zAb) (by kernel_rfl) (by kernel_rfl) zDF⟩ (by kernel_rfl)) (fun s => by kernel_rfl)
def zAE : Loop := ⟨⟨[1, 2, 4, 5, 6], ⟨[.c (.one (.ptr 0 0)), .c (.one (.ptr 1 0)), .c (.one (.own 2)), .c (.one (.ptr 3 0)), .c (.one (.b (.int .i64)))], [.box 28 [(.b (.int .i64)), (.b (.sl false .lk))], .box 34 [(.b (.int .i64)), (.b (.sl true .lk)), (.b (.sl true .bool)), (.b (.sl true .int)), (.b (.sl true .db)), (.b (.sl true .pk))], .row 49 .ls, .box 34 [(.b (.int .i64)), (.own 4), (.own 5), (.own 6), (.own 7), (.own 8)], .row 55 .lk, .row 4 .bool, .row 3 .int, .row 45 .db, .row 85 .pk]⟩, [.int, .int, .ls .lk, .int, .ls .lk, .ls .bool, .ls .int, .ls .db, .ls .pk, .ls .ls, .int, .ls .lk, .ls .bool, .ls .int, .ls .db, .ls .pk]⟩, 0, ⟨[1, 2, 4, 5], ⟨[.c (.one (.ptr 0 0)), .c (.one (.ptr 1 0)), .c (.one (.own 2)), .c (.one (.ptr 3 0))], [.box 28 [(.b (.int .i64)), (.b (.sl false .lk))], .box 34 [(.b (.int .i64)), (.b (.sl true .lk)), (.b (.sl true .bool)), (.b (.sl true .int)), (.b (.sl true .db)), (.b (.sl true .pk))], .row 49 .ls, .box 34 [(.b (.int .i64)), (.own 4), (.own 5), (.own 6), (.own 7), (.own 8)], .row 55 .lk, .row 4 .bool, .row 3 .int, .row 45 .db, .row 85 .pk]⟩, [.int, .ls .lk, .int, .ls .lk, .ls .bool, .ls .int, .ls .db, .ls .pk, .ls .ls, .int, .ls .lk, .ls .bool, .ls .int, .ls .db, .ls .pk]⟩, ⟨[999999], ⟨[.c (.one (.own 0))], []⟩, []⟩, lp zBc fuel⟩
def zAC : Loop := ⟨⟨[1, 2, 4, 5, 7], ⟨[.c (.one (.ptr 0 0)), .c (.one (.ptr 1 0)), .c (.one (.own 2)), .c (.one (.ptr 3 0)), .c (.one (.b (.int .i64)))], [.box 28 [(.b (.int .i64)), (.b (.sl false .lk))], .box 34 [(.b (.int .i64)), (.b (.sl true .lk)), (.b (.sl true .bool)), (.b (.sl true .int)), (.b (.sl true .db)), (.b (.sl true .pk))], .row 49 .ls, .box 34 [(.b (.int .i64)), (.own 4), (.own 5), (.own 6), (.own 7), (.own 8)], .row 55 .lk, .row 4 .bool, .row 3 .int, .row 45 .db, .row 85 .pk]⟩, [.int, .int, .ls .lk, .int, .ls .lk, .ls .bool, .ls .int, .ls .db, .ls .pk, .ls .ls, .int, .ls .lk, .ls .bool, .ls .int, .ls .db, .ls .pk]⟩, 2, ⟨[1, 2, 5], ⟨[.c (.one (.ptr 0 0)), .c (.one (.ptr 1 0)), .c (.one (.ptr 2 0))], [.box 28 [(.b (.int .i64)), (.b (.sl false .lk))], .box 34 [(.b (.int .i64)), (.b (.sl true .lk)), (.b (.sl true .bool)), (.b (.sl true .int)), (.b (.sl true .db)), (.b (.sl true .pk))], .box 34 [(.b (.int .i64)), (.own 3), (.own 4), (.own 5), (.own 6), (.own 7)], .row 55 .lk, .row 4 .bool, .row 3 .int, .row 45 .db, .row 85 .pk]⟩, [.int, .ls .lk, .int, .ls .lk, .ls .bool, .ls .int, .ls .db, .ls .pk, .int, .ls .lk, .ls .bool, .ls .int, .ls .db, .ls .pk]⟩, ⟨[999999], ⟨[.c (.one (.own 0))], []⟩, []⟩, lp zBa fuel⟩
def zAD : Loop := ⟨⟨[1, 2, 5, 8], ⟨[.c (.one (.ptr 0 0)), .c (.one (.ptr 1 0)), .c (.one (.ptr 2 0)), .c (.one (.b (.int .i64)))], [.box 28 [(.b (.int .i64)), (.b (.sl false .lk))], .box 34 [(.b (.int .i64)), (.b (.sl true .lk)), (.b (.sl true .bool)), (.b (.sl true .int)), (.b (.sl true .db)), (.b (.sl true .pk))], .box 34 [(.b (.int .i64)), (.own 3), (.own 4), (.own 5), (.own 6), (.own 7)], .row 55 .lk, .row 4 .bool, .row 3 .int, .row 45 .db, .row 85 .pk]⟩, [.int, .int, .ls .lk, .int, .ls .lk, .ls .bool, .ls .int, .ls .db, .ls .pk, .int, .ls .lk, .ls .bool, .ls .int, .ls .db, .ls .pk]⟩, 4, ⟨[2, 5], ⟨[.c (.one (.ptr 0 0)), .c (.one (.ptr 1 0))], [.box 34 [(.b (.int .i64)), (.b (.sl true .lk)), (.b (.sl true .bool)), (.b (.sl true .int)), (.b (.sl true .db)), (.b (.sl true .pk))], .box 34 [(.b (.int .i64)), (.own 2), (.own 3), (.own 4), (.own 5), (.own 6)], .row 55 .lk, .row 4 .bool, .row 3 .int, .row 45 .db, .row 85 .pk]⟩, [.int, .ls .lk, .ls .bool, .ls .int, .ls .db, .ls .pk, .int, .ls .lk, .ls .bool, .ls .int, .ls .db, .ls .pk]⟩, ⟨[999999], ⟨[.c (.one (.own 0))], []⟩, []⟩, lp zBb fuel⟩
def zCE : Entry := ⟨⟨[.c (.agg [(.b (.int .i64)), (.b (.sl false .lk))])], []⟩, [.int, .ls .lk], ⟨[.tup [(.agg [(.b (.int .i64)), (.own 0), (.own 1), (.own 2), (.own 3), (.own 4)]), (.one (.b .bool))]], [.row 55 .lk, .row 4 .bool, .row 3 .int, .row 45 .db, .row 85 .pk]⟩, [.int, .bool, .ls .lk, .ls .bool, .ls .int, .ls .db, .ls .pk], zFP⟩
def zDx : Env := mkEnv tab [(15, [], zCI), (17, [], zCF), (14, [], zCD), (16, [], zCG)] 64 0 [(13, 5, [(0, true), (1, true), (2, true), (3, false), (4, false)], [])] [(6, zAE), (11, zAC), (15, zAD)]
theorem zGE : CtrOk Try.prog zDx.Γ := ctr_ok (l := [(15, [], zCI), (17, [], zCF), (14, [], zCD), (16, [], zCG)]) ⟨⟨zE1, Try.call15⟩, ⟨⟨zEY, Try.call17⟩, ⟨⟨zEW, Try.call14⟩, ⟨⟨zEZ, Try.call16⟩, trivial⟩⟩⟩⟩
theorem zD8 : LoopOk Try.prog 0 64 (nthC (Try.f5.body.getD .skip) 0) zAE := loop_ok (G := zDx) (F := zAE.F) (eid := zAE.eid) (FX := zAE.FX) (FR := zAE.FR) (B := zBc) (n := fuel) bad_ok tabOk zGE mixed (code_ok' (G := zDx) (n := 0) (by kernel_rfl) (by kernel_rfl) trivial (by kernel_rfl)) (fun s => by kernel_rfl)
theorem zD6 : LoopOk Try.prog 0 64 (nthC (Try.f5.body.getD .skip) 1) zAC := loop_ok (G := zDx) (F := zAC.F) (eid := zAC.eid) (FX := zAC.FX) (FR := zAC.FR) (B := zBa) (n := fuel) bad_ok tabOk zGE mixed (code_ok' (G := zDx) (n := 0) (by kernel_rfl) (by kernel_rfl) trivial (by kernel_rfl)) (fun s => by kernel_rfl)
theorem zD7 : LoopOk Try.prog 0 64 (nthC (Try.f5.body.getD .skip) 2) zAD := loop_ok (G := zDx) (F := zAD.F) (eid := zAD.eid) (FX := zAD.FX) (FR := zAD.FR) (B := zBb) (n := fuel) bad_ok tabOk zGE mixed (code_ok' (G := zDx) (n := 0) (by kernel_rfl) (by kernel_rfl) trivial (by kernel_rfl)) (fun s => by kernel_rfl)
theorem zEX : GC Try.prog 5 zCE := gc_of (G := zDx) (c := Try.f5.body.getD .skip) bad_ok tabOk zGE mixed Try.func5 (by kernel_rfl) Try.ntmps5 (code_ok' (G := zDx) (n := 3) (by kernel_rfl) (by kernel_rfl) ⟨⟨⟨trivial, loop_at (id := 6) (L0 := zAE) (by kernel_rfl) (by kernel_rfl) zD8⟩, loop_at (id := 11) (L0 := zAC) (by kernel_rfl) (by kernel_rfl) zD6⟩, loop_at (id := 15) (L0 := zAD) (by kernel_rfl) (by kernel_rfl) zD7⟩ (by kernel_rfl)) (fun s => by kernel_rfl)
def zAe : Loop := ⟨⟨[1, 2], ⟨[.c (.one (.ptr 0 0)), .c (.one (.ptr 1 0))], [.box 28 [(.b (.int .i64)), (.b (.sl false .lk))], .box 34 [(.b (.int .i64)), (.b (.sl true .lk)), (.b (.sl true .bool)), (.b (.sl true .int)), (.b (.sl true .db)), (.b (.sl true .pk))]]⟩, [.int, .ls .lk, .int, .ls .lk, .ls .bool, .ls .int, .ls .db, .ls .pk]⟩, 0, ⟨[1, 2, 4], ⟨[.c (.one (.ptr 0 0)), .c (.one (.ptr 1 0)), .c (.one (.ptr 2 0))], [.box 28 [(.b (.int .i64)), (.b (.sl false .lk))], .box 34 [(.b (.int .i64)), (.b (.sl true .lk)), (.b (.sl true .bool)), (.b (.sl true .int)), (.b (.sl true .db)), (.b (.sl true .pk))], .box 34 [(.b (.int .i64)), (.own 3), (.own 4), (.own 5), (.own 6), (.own 7)], .row 55 .lk, .row 4 .bool, .row 3 .int, .row 45 .udb, .row 85 .upk]⟩, [.int, .ls .lk, .int, .ls .lk, .ls .bool, .ls .int, .ls .db, .ls .pk, .int, .ls .lk, .ls .bool, .ls .int, .ls .udb, .ls .upk]⟩, ⟨[999999], ⟨[.c (.one (.own 0))], []⟩, []⟩, zAM⟩
def zAg : Loop := ⟨⟨[1, 2, 4, 5, 24, 25, 29, 30], ⟨[.c (.one (.ptr 0 0)), .c (.one (.ptr 1 0)), .c (.one (.ptr 2 0)), .c (.one (.own 3)), .c (.one (.b (.int .i64))), .c (.one (.b (.int .i64))), .c (.one (.b (.int .i64))), .c (.one (.b (.int .i64)))], [.box 28 [(.b (.int .i64)), (.b (.sl false .lk))], .box 34 [(.b (.int .i64)), (.b (.sl true .lk)), (.b (.sl true .bool)), (.b (.sl true .int)), (.b (.sl true .db)), (.b (.sl true .pk))], .box 34 [(.b (.int .i64)), (.own 4), (.own 5), (.own 6), (.own 7), (.own 8)], .row 49 .uls, .row 55 .lk, .row 4 .bool, .row 3 .int, .row 45 .udb, .row 85 .upk]⟩, [.int, .int, .int, .int, .int, .ls .lk, .int, .ls .lk, .ls .bool, .ls .int, .ls .db, .ls .pk, .int, .ls .uls, .ls .lk, .ls .bool, .ls .int, .ls .udb, .ls .upk]⟩, 2, ⟨[1, 2, 4, 5, 24, 25], ⟨[.c (.one (.ptr 0 0)), .c (.one (.ptr 1 0)), .c (.one (.ptr 2 0)), .c (.one (.own 3)), .c (.one (.b (.int .i64))), .c (.one (.b (.int .i64)))], [.box 28 [(.b (.int .i64)), (.b (.sl false .lk))], .box 34 [(.b (.int .i64)), (.b (.sl true .lk)), (.b (.sl true .bool)), (.b (.sl true .int)), (.b (.sl true .db)), (.b (.sl true .pk))], .box 34 [(.b (.int .i64)), (.own 4), (.own 5), (.own 6), (.own 7), (.own 8)], .row 49 .uls, .row 55 .lk, .row 4 .bool, .row 3 .int, .row 45 .udb, .row 85 .upk]⟩, [.int, .int, .int, .ls .lk, .int, .ls .lk, .ls .bool, .ls .int, .ls .db, .ls .pk, .int, .ls .uls, .ls .lk, .ls .bool, .ls .int, .ls .udb, .ls .upk]⟩, ⟨[999999], ⟨[.c (.one (.own 0))], []⟩, []⟩, lp zAO fuel⟩
def zAf : Loop := ⟨⟨[1, 2, 4, 24, 25], ⟨[.c (.one (.ptr 0 0)), .c (.one (.ptr 1 0)), .c (.one (.ptr 2 0)), .c (.one (.b (.int .i64))), .c (.one (.b (.int .i64)))], [.box 28 [(.b (.int .i64)), (.b (.sl false .lk))], .box 34 [(.b (.int .i64)), (.b (.sl true .lk)), (.b (.sl true .bool)), (.b (.sl true .int)), (.b (.sl true .db)), (.b (.sl true .pk))], .box 34 [(.b (.int .i64)), (.own 3), (.own 4), (.own 5), (.own 6), (.own 7)], .row 55 .lk, .row 4 .bool, .row 3 .int, .row 45 .udb, .row 85 .upk]⟩, [.int, .int, .int, .ls .lk, .int, .ls .lk, .ls .bool, .ls .int, .ls .db, .ls .pk, .int, .ls .lk, .ls .bool, .ls .int, .ls .udb, .ls .upk]⟩, 0, ⟨[2, 4], ⟨[.c (.one (.ptr 0 0)), .c (.one (.ptr 1 0))], [.box 34 [(.b (.int .i64)), (.b (.sl true .lk)), (.b (.sl true .bool)), (.b (.sl true .int)), (.b (.sl true .db)), (.b (.sl true .pk))], .box 34 [(.b (.int .i64)), (.own 2), (.own 3), (.own 4), (.own 5), (.own 6)], .row 55 .lk, .row 4 .bool, .row 3 .int, .row 45 .udb, .row 85 .upk]⟩, [.int, .ls .lk, .ls .bool, .ls .int, .ls .db, .ls .pk, .int, .ls .lk, .ls .bool, .ls .int, .ls .udb, .ls .upk]⟩, ⟨[999999], ⟨[.c (.one (.own 0))], []⟩, []⟩, lp zAN fuel⟩
def zBJ : Entry := ⟨⟨[.c (.agg [(.b (.int .i64)), (.b (.sl false .lk))])], []⟩, [.int, .ls .lk], ⟨[.tup [(.agg [(.b (.int .i64)), (.own 0), (.own 1), (.own 2), (.own 3), (.own 4)]), (.one (.b .bool))]], [.row 55 .lk, .row 4 .bool, .row 3 .int, .row 45 .udb, .row 85 .upk]⟩, [.int, .bool, .ls .lk, .ls .bool, .ls .int, .ls .udb, .ls .upk], zFb⟩
def zCW : Env := mkEnv tabU [(23, [], zCB), (22, [], zCA), (21, [], zBK), (19, [], zBC), (20, [21], zBD), (24, [], zBG)] 48 0 [] [(3, zAe), (8, zAg), (5, zAf)]
theorem zF3 : CtrOk Try.prog zCW.Γ := ctr_ok (l := [(23, [], zCB), (22, [], zCA), (21, [], zBK), (19, [], zBC), (20, [21], zBD), (24, [], zBG)]) ⟨⟨zEU, Try.call23⟩, ⟨⟨zET, Try.call22⟩, ⟨⟨zEk, Try.call21⟩, ⟨⟨zEc, Try.call19⟩, ⟨⟨zEd, Try.call20⟩, ⟨⟨zEg, Try.call24⟩, trivial⟩⟩⟩⟩⟩⟩
theorem zDI : RegOk Try.prog 0 48 (nthR zCW.plan (Try.f7.body.getD .skip) 0).1 (nthR zCW.plan (Try.f7.body.getD .skip) 0).2 zAe := reg_ok (G := zCW) (n := 13) (ks := []) (t := (.val 0 (.val 3 (.val 4 (.val 5 (.val 8 (.val 9 (.alt 1 (.alt 2 (.alt 6 (.two 7 (.two 10 (.val 11 (.one 12 .done)) 12 (.one 10 (.val 11 .done))) 12 (.one 7 (.one 10 (.val 11 .done)))) (.alt 7 (.two 6 (.two 10 (.val 11 (.one 12 .done)) 12 (.one 10 (.val 11 .done))) 12 (.one 6 (.one 10 (.val 11 .done)))) (.one 12 (.two 6 (.one 7 (.one 10 (.val 11 .done))) 7 (.one 6 (.one 10 (.val 11 .done))))))) (.alt 7 (.two 2 (.two 6 (.two 10 (.val 11 (.one 12 .done)) 12 (.one 10 (.val 11 .done))) 12 (.one 6 (.one 10 (.val 11 .done)))) 12 (.one 2 (.one 6 (.one 10 (.val 11 .done))))) (.one 12 (.two 2 (.two 6 (.one 7 (.one 10 (.val 11 .done))) 7 (.one 6 (.one 10 (.val 11 .done)))) 7 (.one 2 (.one 6 (.one 10 (.val 11 .done)))))))) (.alt 2 (.alt 1 (.alt 6 (.two 7 (.two 10 (.val 11 (.one 12 .done)) 12 (.one 10 (.val 11 .done))) 12 (.one 7 (.one 10 (.val 11 .done)))) (.alt 7 (.two 6 (.two 10 (.val 11 (.one 12 .done)) 12 (.one 10 (.val 11 .done))) 12 (.one 6 (.one 10 (.val 11 .done)))) (.one 12 (.two 6 (.one 7 (.one 10 (.val 11 .done))) 7 (.one 6 (.one 10 (.val 11 .done))))))) (.alt 7 (.two 1 (.two 6 (.two 10 (.val 11 (.one 12 .done)) 12 (.one 10 (.val 11 .done))) 12 (.one 6 (.one 10 (.val 11 .done)))) 12 (.one 1 (.one 6 (.one 10 (.val 11 .done))))) (.one 12 (.two 1 (.two 6 (.one 7 (.one 10 (.val 11 .done))) 7 (.one 6 (.one 10 (.val 11 .done)))) 7 (.one 1 (.one 6 (.one 10 (.val 11 .done)))))))) (.alt 7 (.alt 1 (.two 2 (.two 6 (.two 10 (.val 11 (.one 12 .done)) 12 (.one 10 (.val 11 .done))) 12 (.one 6 (.one 10 (.val 11 .done)))) 12 (.one 2 (.one 6 (.one 10 (.val 11 .done))))) (.alt 2 (.two 1 (.two 6 (.two 10 (.val 11 (.one 12 .done)) 12 (.one 10 (.val 11 .done))) 12 (.one 6 (.one 10 (.val 11 .done)))) 12 (.one 1 (.one 6 (.one 10 (.val 11 .done))))) (.one 12 (.two 1 (.one 2 (.one 6 (.one 10 (.val 11 .done)))) 2 (.one 1 (.one 6 (.one 10 (.val 11 .done)))))))) (.one 12 (.alt 1 (.two 2 (.two 6 (.one 7 (.one 10 (.val 11 .done))) 7 (.one 6 (.one 10 (.val 11 .done)))) 7 (.one 2 (.one 6 (.one 10 (.val 11 .done))))) (.alt 2 (.two 1 (.two 6 (.one 7 (.one 10 (.val 11 .done))) 7 (.one 6 (.one 10 (.val 11 .done)))) 7 (.one 1 (.one 6 (.one 10 (.val 11 .done))))) (.one 7 (.two 1 (.one 2 (.one 6 (.one 10 (.val 11 .done)))) 2 (.one 1 (.one 6 (.one 10 (.val 11 .done))))))))))))))))))) (F := zAe.F) (eid := 0) (FX := zAe.FX) (FR := zAe.FR) (sh := zAM) bad_ok tabUOk zF3 mixed (by kernel_rfl) (by kernel_rfl) ⟨fun s => by kernel_rfl, fun s => by kernel_rfl, fun s => by kernel_rfl, fun s => by kernel_rfl, fun s => by kernel_rfl, fun s => by kernel_rfl, fun s => by kernel_rfl, fun s => by kernel_rfl, fun s => by kernel_rfl, fun s => by kernel_rfl, fun s => by kernel_rfl, fun s => by kernel_rfl, fun s => by kernel_rfl, fun s => by kernel_rfl, fun s => by kernel_rfl, fun s => by kernel_rfl, fun s => by kernel_rfl, fun s => by kernel_rfl, fun s => by kernel_rfl, fun s => by kernel_rfl, fun s => by kernel_rfl, fun s => by kernel_rfl, fun s => by kernel_rfl, fun s => by kernel_rfl, fun s => by kernel_rfl, fun s => by kernel_rfl, fun s => by kernel_rfl, fun s => by kernel_rfl, fun s => by kernel_rfl, fun s => by kernel_rfl, fun s => by kernel_rfl, fun s => by kernel_rfl, fun s => by kernel_rfl, fun s => by kernel_rfl, fun s => by kernel_rfl, fun s => by kernel_rfl, fun s => by kernel_rfl, fun s => by kernel_rfl, fun s => by kernel_rfl, fun s => by kernel_rfl, fun s => by kernel_rfl, fun s => by kernel_rfl, fun s => by kernel_rfl, fun s => by kernel_rfl, fun s => by kernel_rfl, fun s => by kernel_rfl, fun s => by kernel_rfl, fun s => by kernel_rfl, trivial⟩
theorem zDK : LoopOk Try.prog 0 48 (nthC (nthC (Try.f7.body.getD .skip) 0) 0) zAg := loop_ok (G := zCW) (F := zAg.F) (eid := zAg.eid) (FX := zAg.FX) (FR := zAg.FR) (B := zAO) (n := fuel) bad_ok tabUOk zF3 mixed (code_ok' (G := zCW) (n := 0) (by kernel_rfl) (by kernel_rfl) trivial (by kernel_rfl)) (fun s => by kernel_rfl)
theorem zDJ : LoopOk Try.prog 0 48 (nthC (Try.f7.body.getD .skip) 0) zAf := loop_ok (G := zCW) (F := zAf.F) (eid := zAf.eid) (FX := zAf.FX) (FR := zAf.FR) (B := zAN) (n := fuel) bad_ok tabUOk zF3 mixed (code_ok' (G := zCW) (n := 1) (by kernel_rfl) (by kernel_rfl) ⟨trivial, loop_at (id := 8) (L0 := zAg) (by kernel_rfl) (by kernel_rfl) zDK⟩ (by kernel_rfl)) (fun s => by kernel_rfl)
theorem zEj : GC Try.prog 7 zBJ := gc_of (G := zCW) (c := Try.f7.body.getD .skip) bad_ok tabUOk zF3 mixed Try.func7 (by kernel_rfl) Try.ntmps7 (code_ok2 (G := zCW) (n := 1) (m := 1) (by kernel_rfl) (by kernel_rfl) ⟨trivial, loop_at (id := 5) (L0 := zAf) (by kernel_rfl) (by kernel_rfl) zDJ⟩ (by kernel_rfl) ⟨trivial, reg_at (L0 := zAe) (by kernel_rfl) zDI⟩) (fun s => by kernel_rfl)
end Go.Proofs.Ytknkhdjhongklaa
end
section
namespace Go.Proofs.Ytknkhdjhongklaa
open Go.RowKit
set_option linter.unusedSimpArgs false
set_option linter.unusedVariables false
set_option maxRecDepth 100000

section
variable {w : Wd}
def zW : Wd := ⟨0, [], [], [], [], []⟩
def wk7 (b : Bool) (w : Wd) : Int × Bool × List Lk × List Bool × List Int × List (List Ls) × List Pk × Unit := (w.n, b, w.ls, w.up, w.sq, w.db, w.net, ())
end
end Go.Proofs.Ytknkhdjhongklaa
end
section
namespace Go.Proofs.Ytknkhdjhongklaa
open Go.RowKit
set_option maxRecDepth 100000

def wOsP (W : Wl) : List AObj := [.row 55 .lk W.2.1, .row 4 .bool W.2.2.1, .row 3 .int W.2.2.2.1, .row 45 .db W.2.2.2.2.1, .row 85 .pk W.2.2.2.2.2]
theorem rw_new {w' : World} {W : Wl} {v : Value} {β : List (Nat × Nat)} (hh : HeapOk w' (Liv (wOsP W) β) (fun _ => False) (wOsP W) β) (hc : Cv w' (Liv (wOsP W) β) (fun _ => False) (wOsP W) β (wOwn W.1) v) : Rw w' 0 w'.heap.size W v := by
  obtain ⟨us, rfl, h3⟩ := hc
  obtain ⟨u0, r, rfl, g0, h3⟩ := h3.cons_inv
  obtain ⟨u1, r, rfl, g1, h3⟩ := h3.cons_inv
  obtain ⟨u2, r, rfl, g2, h3⟩ := h3.cons_inv
  obtain ⟨u3, r, rfl, g3, h3⟩ := h3.cons_inv
  obtain ⟨u4, r, rfl, g4, h3⟩ := h3.cons_inv
  obtain ⟨u5, r, rfl, g5, h3⟩ := h3.cons_inv
  obtain rfl := h3.nil_inv
  have rd : ∀ {k : Nat} {t : TypeId} {τ : Ty} {xs : List (El τ)} {u : Value}, (wOsP W)[k]? = some (.row t τ xs) → C1 w' (Liv (wOsP W) β) (fun _ => False) (wOsP W) β (.own k) u → Ri w' (fun b => b < 0 ∨ w'.heap.size ≤ b) (fun _ => False) (.sl false τ xs) u := fun {k t τ xs u} hk hc =>
    Ri.keep (w := w') (w' := w') (fun _ _ _ => rfl) (Nat.le_refl _) (fun b hb _ h => by omega) (fun _ _ _ h => h) (own_readE (E' := fun _ => False) hh hk (fun _ _ h => h) (fun _ _ _ _ h => h) hc)
  have g0 : Ri w' _ _ (iI W.1) u0 := g0
  cases g0
  exact ⟨_, rfl, F2.cons (Ri.s _) (F2.cons (rd (k := 0) rfl g1) (F2.cons (rd (k := 1) rfl g2) (F2.cons (rd (k := 2) rfl g3) (F2.cons (rd (k := 3) rfl g4) (F2.cons (rd (k := 4) rfl g5) F2.nil)))))⟩
theorem cntG_le {α : Type} (c : α → Nat) (m : Nat) : ∀ xs : List α, (∀ x ∈ xs, c x ≤ m) → cntG c xs ≤ m * xs.length
  | [], _ => by simp [cntG]
  | x :: r, h => by
    have h1 := h x (List.mem_cons_self ..)
    have h2 := cntG_le c m r fun y hy => h y (List.mem_cons_of_mem _ hy)
    rw [cntG, List.length_cons, Nat.mul_succ]
    omega
theorem db_len {d : List Ls} (h : DbV d) : ∀ l ∈ d, l.e.length ≤ 8 := fun l hl => by
  obtain ⟨i, hi, e⟩ := List.getElem_of_mem hl
  have h1 := (h i hi).1
  rw [lsa_get hi, e] at h1
  exact h1.len
theorem wv_fw {w : Wd} (h : WV w Nob) : FW (lw w) := by
  have h1 := h.lsl
  have h2 := h.up
  have h3 := h.sq
  have h4 := h.db
  have h5 := h.net
  have h6 := h.nn
  have hd : ∀ d ∈ w.db, d.length ≤ 8 ∧ ∀ l ∈ d, l.e.length ≤ 8 := fun d hd => by
    obtain ⟨i, hi, e⟩ := List.getElem_of_mem hd
    have h7 := h.ok i hi
    have e2 : dbx w.db i = d := by simp [dbx, List.getD, hi, e]
    rw [e2] at h7
    exact ⟨h7.len, db_len h7⟩
  have hp : ∀ p ∈ w.net, p.p.e.length ≤ 8 := fun p hp => (h.poss _ (.inr ⟨p, hp, rfl⟩)).1.len
  have c1 : cntD w.db ≤ 144 * w.db.length := cntG_le _ _ _ fun d hdm => by
    have := cntG_le cL1 18 d fun l hl => by have := (hd d hdm).2 l hl; unfold cL1; omega
    rw [cntL_G]
    have := (hd d hdm).1
    omega
  have c2 : cntP w.net ≤ 19 * w.net.length := cntG_le _ _ _ fun p hpm => by
    have := hp p hpm
    unfold cntP1; omega
  refine ⟨⟨by show w.ls.length ≤ _; omega, by show w.up.length ≤ _; omega, by show w.sq.length ≤ _; omega, by show w.db.length ≤ _; omega, by show w.net.length ≤ _; omega, fun d hdm => ⟨by have := (hd d hdm).1; omega, fun l hl => by have := (hd d hdm).2 l hl; omega⟩, fun p hpm => by have := hp p hpm; omega⟩, ?_⟩
  unfold cntW lw
  dsimp only
  omega
theorem zW_fw : FW (lw zW) := ⟨⟨Nat.zero_le _, Nat.zero_le _, Nat.zero_le _, Nat.zero_le _, Nat.zero_le _, (fun d hd => by cases hd), (fun p hp => by cases hp)⟩, Nat.zero_le _⟩
end Go.Proofs.Ytknkhdjhongklaa
end
section
namespace Go.Proofs.Ytknkhdjhongklaa
open Go.RowKit
set_option maxRecDepth 100000

def FL (ls : List Lk) : Prop := ls.length ≤ 16777216
theorem c_eqG : CEqG Try.prog 9 FL := fun w lo hi lo' hi' g a b hf ha hb =>
  (gc_call zEp (s := (g.1, g.2, g.1, g.2, ())) (r := (true, ())) (zBk g.1 g.2 (by unfold FL at hf; unfold Fits; omega)) (ds := [gArg g, gArg g]) rfl (d := .im (.s (.bool true))) (h' := []) rfl (args := [a, b]) (F2.cons ha.arg (F2.cons hb.arg F2.nil)) (glb0 _ _ _)).mono fun ex w' ⟨u, β', h1, h2, h3, h4⟩ => by
    have h4 : Ri w' _ _ (.s (.bool true)) u := h4
    cases h4
    exact ⟨h1, h2.below⟩
theorem c_mkG : CMkG Try.prog 10 FL (mgL 1) := fun w lo hi g a hf ⟨u, ha, h0, b, c, h1, h2⟩ => by
  subst ha
  unfold FL at hf
  refine (l_markG w _ g.1 g.2 b c u 1 (by omega) (by omega) hf h1).mono ?_
  rintro e w' ⟨rfl, M⟩
  obtain ⟨q1, q2⟩ := MR.mark rfl h0 h2 M
  exact ⟨rfl, ⟨u, rfl, q1⟩, q2⟩
end Go.Proofs.Ytknkhdjhongklaa
end
section
namespace Go.Proofs.Ytknkhdjhongklaa
open Go.RowKit
set_option maxRecDepth 100000

theorem c_toG : CToG Try.prog 6 FL := fun w lo hi g a hf ha =>
  (gc_call zEP (s := (g.1, g.2, ())) (r := (g.1, g.2, ())) (zCM g.1 g.2 hf) (ds := [gArg g]) rfl (d := gOwn g.1) (h' := [.row 55 .lk g.2]) rfl (args := [a]) (F2.cons ha.arg F2.nil) (glb0 _ _ _)).mono fun ex w' ⟨u, β', h1, h2, h3, h4⟩ => ⟨u, h1, mg_new h2 h3 h4, h2.below⟩
theorem c_szG (g : Int × List Lk) (hm : Mxl g.2) : CSzG Try.prog 4 g (fun z => 0 ≤ z → z ≤ 1048576 ∧ FL g.2) := fun w lo hi a ha => by
  obtain ⟨⟨z, _⟩, h1, h2⟩ := s_Link g.1 g.2 1048576 hm ⟨by omega, by omega⟩
  refine (gc_call zEN (s := (g.1, g.2, 1048576, ())) (r := (z, ())) h1 (ds := [gArg g, .im (iI 1048576)]) rfl (d := .im (iI z)) (h' := []) rfl (args := [a, .int .i64 1048576]) (F2.cons ha.arg (F2.cons (Ri.s _) F2.nil)) (glb0 _ _ _)).mono fun ex w' ⟨u, β', h1, h3, h4, h5⟩ => ?_
  have h5 : Ri w' _ _ (iI z) u := h5
  cases h5
  refine ⟨z, h1, fun h0 => ?_, h3.below⟩
  rcases h2 with h2 | ⟨z', h2, h6, h7, h8⟩
  · injection h2 with h2
    omega
  · injection h2 with h2
    subst h2
    exact ⟨by omega, by unfold FL; omega⟩
theorem tup_inv {w : World} {E X : Nat → Prop} {h : List AObj} {β : List (Nat × Nat)} {d : PV} {b : Bool} {u : Value} {cs : List PV} (hd : d = .agg cs) (hc : Cv w E X h β (.tup [d, .im (.s (.bool b))]) u) : ∃ v, u = .tuple #[v, .bool b] ∧ Cv w E X h β d v := by
  subst hd
  obtain ⟨us, rfl, h3⟩ := hc
  obtain ⟨x0, r, rfl, g0, h3⟩ := h3.cons_inv
  obtain ⟨x1, r, rfl, g1, h3⟩ := h3.cons_inv
  obtain rfl := h3.nil_inv
  have g1 : Ri w _ _ (.s (.bool b)) x1 := g1
  cases g1
  exact ⟨x0, rfl, g0⟩
end Go.Proofs.Ytknkhdjhongklaa
end
section
namespace Go.Proofs.Ytknkhdjhongklaa
open Go.RowKit
set_option linter.unusedSimpArgs false
set_option linter.unusedVariables false
set_option maxRecDepth 100000

section
def rowN (ls : List Lk) (N k : Nat) : List Ls := (List.range k).map fun i : Nat => (⟨i, 1, endsOf ls N i⟩ : Ls)
theorem rowN_succ (ls : List Lk) (N k : Nat) : rowN ls N (k + 1) = rowN ls N k ++ [⟨(k : Nat), 1, endsOf ls N (k : Nat)⟩] := by
  unfold rowN
  rw [List.range_succ, List.map_append]; rfl
theorem rowN_len (ls : List Lk) (N k : Nat) : (rowN ls N k).length = k := by simp [rowN]
theorem rep_succ {α : Type} (k : Nat) (a : α) : List.replicate (k + 1) a = List.replicate k a ++ [a] := List.replicate_succ'
noncomputable def newV (n : Int) (ls : List Lk) : Wd := if gv n ls = true then newW n ls else zW
theorem new_okI {n : Int} {ls : List Lk} (g : GV n ls) : WV (newW n ls) Nob := by
  have h1 := g.1
  obtain ⟨N, rfl⟩ := Int.eq_ofNat_of_zero_le (show 0 ≤ n by omega)
  exact new_ok g
theorem zBh (n : Int) (ls : List Lk) (hl : Fits ls) : zFb (n, ls, ()) = some (wk7 (gv n ls) (newV n ls)) := by
  unfold zFb newV
  dsimp only
  rw [zBg n ls hl]
  cases hg : gv n ls with
  | false => exact Sat.out (sov rfl (Sat.gd rfl (.some rfl)))
  | true =>
    have g := gv_t hg
    have h1 := g.1
    have h8 := g.2.1
    have h14 := g.2.2.1
    obtain ⟨N, rfl⟩ := Int.eq_ofNat_of_zero_le (show 0 ≤ n by omega)
    have b3 : zAM ((N : Int), ls, 0, [], [], [], [], [], ()) = some (.inl ((N : Int), ls, 0, [], [], [], [], [], (N : Int), ls, List.replicate ls.length true, List.replicate N (1 : Int), [], [], ())) := by
      unfold zAM
      refine Sat.out (sov (zBM _ ls (by omega)) ?_)
      refine sov (r := (List.replicate ls.length true, ())) ?_ (sov (r := (List.replicate N (1 : Int), ())) ?_ (.some rfl))
      · simp only [nI_eq]
        unfold zFL
        exact Sat.out (Sat.gd (decide_eq_true (by dsimp only; omega)) (.some rfl))
      · unfold zFM
        exact Sat.out (Sat.gd (decide_eq_true (by dsimp only; omega)) (.some rfl))
    refine Sat.out (sov rfl (Sat.no rfl (sov b3 ?_)))
    dsimp only
    rw [if_pos rfl]
    refine Sat.bnd (R := fun r => match r with | .inl x => x = (0, [], [], [], [], [], (N : Int), ls, List.replicate ls.length true, List.replicate N (1 : Int), List.replicate N (rowN ls N N), [], ()) | .inr _ => False) ?_ ?_
    · refine Sat.count N (fun k t => t = ((N : Int), (k : Int), (N : Int), ls, 0, [], [], [], [], [], (N : Int), ls, List.replicate ls.length true, List.replicate N (1 : Int), List.replicate k (rowN ls N N), [], ())) ?_ (Nat.zero_le _) (fuel_lt (by omega)) rfl
      rintro k t hk rfl
      by_cases hlt : k < N
      · simp only [zAN]
        refine Sat.gd (decide_eq_true (by omega)) (Sat.bnd (R := fun r => match r with | .inl x => x = ((N : Int), (k : Int), (N : Int), ls, 0, [], [], [], [], [], (N : Int), rowN ls N N, ls, List.replicate ls.length true, List.replicate N (1 : Int), List.replicate k (rowN ls N N), [], ()) | .inr _ => False) ?_ ?_)
        · refine Sat.count N (fun j t => t = ((N : Int), (k : Int), (N : Int), (j : Int), (N : Int), ls, 0, [], [], [], [], [], (N : Int), rowN ls N j, ls, List.replicate ls.length true, List.replicate N (1 : Int), List.replicate k (rowN ls N N), [], ())) ?_ (Nat.zero_le _) (fuel_lt (by omega)) rfl
          rintro j t hj rfl
          have hrl := rowN_len ls N j
          by_cases hjl : j < N
          · simp (disch := omega) only [zAO, zCp g, Option.bind_some, w64]
            refine Sat.gd (decide_eq_true (by omega)) (Sat.gd (decide_eq_true (by simp only [List.length_singleton]; omega)) (.some ⟨hjl, ?_⟩))
            rw [rowN_succ]; rfl
          · obtain rfl : j = N := by omega
            unfold zAO
            exact Sat.no (decide_eq_false (by first | omega | (dsimp only; omega))) (.some rfl)
        · rintro (r | r) hr
          case inr => exact hr.elim
          obtain rfl := hr
          simp (disch := omega) only [w64]
          refine Sat.gd (decide_eq_true (by simp only [List.length_singleton, List.length_replicate]; omega)) (.some ⟨hlt, ?_⟩)
          rw [rep_succ k (rowN ls N N)]; rfl
      · obtain rfl : k = N := by omega
        unfold zAN
        exact Sat.no (decide_eq_false (by first | omega | (dsimp only; omega))) (.some rfl)
    rintro (r | r) hr
    case inr => exact hr.elim
    obtain rfl := hr
    exact .some rfl
theorem rowN_sm {N k : Nat} (ls : List Lk) (h8 : N ≤ 8) (hk : k ≤ 8) : SmD (rowN ls N k) := by
  refine ⟨by have := rowN_len ls N k; unfold Sm; omega, fun l hl => ?_⟩
  unfold rowN at hl
  obtain ⟨i, hi, rfl⟩ := List.mem_map.1 hl
  have := endsOf_len (ls := ls) (N := N) (i : Int)
  unfold Sm; dsimp only; omega
theorem zCy (n : Int) (ls : List Lk) (hl : Fits ls) : zFP (n, ls, ()) = some (wk7 (gv n ls) (newV n ls)) := by
  unfold zFP newV
  dsimp only
  rw [zCx n ls hl]
  cases hg : gv n ls with
  | false => exact Sat.out (sov rfl (Sat.gd rfl (.some rfl)))
  | true =>
    have g := gv_t hg
    have h1 := g.1
    have h8 := g.2.1
    have h14 := g.2.2.1
    obtain ⟨N, rfl⟩ := Int.eq_ofNat_of_zero_le (show 0 ≤ n by omega)
    refine Sat.out (sov rfl (Sat.no rfl (sov (zBQ _ ls (by omega)) ?_)))
    dsimp only
    rw [if_pos rfl]
    refine Sat.bnd (R := fun r => match r with | .inl x => x = ((N : Int), ls, 0, [], [], [], [], [], rowN ls N N, (N : Int), ls, [], List.replicate N (1 : Int), [], [], ()) | .inr _ => False) ?_ ?_
    · refine Sat.count N (fun k t => t = ((k : Int), (N : Int), ls, 0, [], [], [], [], [], rowN ls N k, (N : Int), ls, [], List.replicate k (1 : Int), [], [], ())) ?_ (Nat.zero_le _) (fuel_lt (by omega)) rfl
      rintro k t hk rfl
      have hrl := rowN_len ls N k
      by_cases hlt : k < N
      · simp (disch := omega) only [zBc, zBO g, Option.bind_some, w64]
        refine Sat.gd (decide_eq_true (by omega)) (Sat.gd (decide_eq_true (by simp only [List.length_singleton]; omega)) (Sat.gd (decide_eq_true (by simp only [List.length_singleton, List.length_replicate]; omega)) (.some ⟨hlt, ?_⟩)))
        rw [rowN_succ, rep_succ k (1 : Int)]; rfl
      · obtain rfl : k = N := by omega
        unfold zBc
        exact Sat.no (decide_eq_false (by first | omega | (dsimp only; omega))) (.some rfl)
    rintro (r | r) hr
    case inr => exact hr.elim
    obtain rfl := hr
    dsimp only
    refine Sat.bnd (R := fun r => match r with | .inl x => x = ((N : Int), ls, 0, [], [], [], [], [], (N : Int), ls, [], List.replicate N (1 : Int), List.replicate N (rowN ls N N), [], ()) | .inr _ => False) ?_ ?_
    · refine Sat.count N (fun k t => t = ((k : Int), (N : Int), ls, 0, [], [], [], [], [], rowN ls N N, (N : Int), ls, [], List.replicate N (1 : Int), List.replicate k (rowN ls N N), [], ())) ?_ (Nat.zero_le _) (fuel_lt (by omega)) rfl
      rintro k t hk rfl
      by_cases hlt : k < N
      · simp (disch := omega) only [zBa, zBN _ (rowN_sm ls (show N ≤ 8 by omega) (show N ≤ 8 by omega)), Option.bind_some, w64]
        refine Sat.gd (decide_eq_true (by omega)) (Sat.gd (decide_eq_true (by simp only [List.length_singleton, List.length_replicate]; omega)) (.some ⟨hlt, ?_⟩))
        rw [rep_succ k (rowN ls N N)]; rfl
      · obtain rfl : k = N := by omega
        unfold zBa
        exact Sat.no (decide_eq_false (by first | omega | (dsimp only; omega))) (.some rfl)
    rintro (r | r) hr
    case inr => exact hr.elim
    obtain rfl := hr
    dsimp only
    refine Sat.bnd (R := fun r => match r with | .inl x => x = (0, [], [], [], [], [], (N : Int), ls, List.replicate ls.length true, List.replicate N (1 : Int), List.replicate N (rowN ls N N), [], ()) | .inr _ => False) ?_ ?_
    · refine Sat.count ls.length (fun k t => t = ((k : Int), (N : Int), ls, 0, [], [], [], [], [], (N : Int), ls, List.replicate k true, List.replicate N (1 : Int), List.replicate N (rowN ls N N), [], ())) ?_ (Nat.zero_le _) (fuel_lt (by omega)) rfl
      rintro k t hk rfl
      by_cases hlt : k < ls.length
      · simp (disch := omega) only [zBb, w64, nI_eq]
        refine Sat.gd (decide_eq_true (by omega)) (Sat.gd (decide_eq_true (by simp only [List.length_singleton, List.length_replicate]; omega)) (.some ⟨hlt, ?_⟩))
        rw [rep_succ k true]; rfl
      · obtain rfl : k = ls.length := by omega
        unfold zBb
        simp only [nI_eq]
        exact Sat.no (decide_eq_false (by first | omega | (dsimp only; omega))) (.some rfl)
    rintro (r | r) hr
    case inr => exact hr.elim
    obtain rfl := hr
    exact .some rfl
end
end Go.Proofs.Ytknkhdjhongklaa
end
section
namespace Go.Proofs.Ytknkhdjhongklaa
open Go.RowKit
set_option maxRecDepth 100000

noncomputable def nwF (g : Int × List Lk) : Wl := lw (newV g.1 g.2)
noncomputable def nwB (g : Int × List Lk) : Bool := gv g.1 g.2
theorem nwF_fw (g : Int × List Lk) : FW (nwF g) := by
  unfold nwF newV
  split
  · rename_i h
    exact wv_fw (new_okI (gv_t h))
  · exact zW_fw
set_option maxHeartbeats 4000000 in
theorem c_nwI : CNwI Try.prog 7 FL nwF nwB := fun w lo hi g a hf ha => by
  have h0 : zBJ.sh (g.1, g.2, ()) = some (wk7 (nwB g) (newV g.1 g.2)) := zBh g.1 g.2 (by unfold FL at hf; unfold Fits; omega)
  refine (gc_call zEj h0 (ds := [gArg g]) rfl (d := .tup [wOwn (nwF g).1, .im (.s (.bool (nwB g)))]) (h' := wOs (nwF g)) rfl (args := [a]) (F2.cons ha.arg F2.nil) (glb0 _ _ _)).mono fun ex w' ⟨u, β', h1, h2, h3, h4⟩ => ?_
  obtain ⟨v, rfl, h5⟩ := tup_inv rfl h4
  exact ⟨v, h1, wm_new h2 h3 h5, h2.below⟩
set_option maxHeartbeats 4000000 in
theorem c_nwS : CNwS Try.prog 5 FL nwF nwB := fun w lo hi g a hf ha => by
  have h0 : zCE.sh (g.1, g.2, ()) = some (wk7 (nwB g) (newV g.1 g.2)) := zCy g.1 g.2 (by unfold FL at hf; unfold Fits; omega)
  refine (gc_call zEX h0 (ds := [gArg g]) rfl (d := .tup [wOwn (nwF g).1, .im (.s (.bool (nwB g)))]) (h' := wOsP (nwF g)) rfl (args := [a]) (F2.cons ha.arg F2.nil) (glb0 _ _ _)).mono fun ex w' ⟨u, β', h1, h2, h3, h4⟩ => ?_
  obtain ⟨v, rfl, h5⟩ := tup_inv rfl h4
  exact ⟨v, h1, rw_new h3 h5, h2.below⟩
end Go.Proofs.Ytknkhdjhongklaa
end
