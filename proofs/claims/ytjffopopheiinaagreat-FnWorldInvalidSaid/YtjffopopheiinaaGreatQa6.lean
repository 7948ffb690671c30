/- Part 6 of the proof: KE SF KF Pa Pb Pq Pr Ps Pv Py Pe1 Pe2 Pz Px Pw1 Pw Pw2 Pw3 Pw4 Pw5 Pw6 Pw8 Pe3 Pe4 Pe5 Pe6 Pe7. -/
import Derived.Test.YtjffopopheiinaaGreatQa5
set_option linter.unusedSimpArgs false
set_option linter.unusedVariables false
section
namespace Go.Proofs.YtjffopopheiinaaGreat
open Go.RowKit
set_option maxRecDepth 100000
def zBo : Loop := ⟨⟨[0, 2, 3, 4], ⟨[.c (.one (.ptr 0 0)), .c (.one (.ptr 1 0)), .c (.one (.ptr 2 0)), .c (.one (.b (.int .i64)))], [.box 73 [(.b (.sl true .u8)), (.b (.int .i64))], .box 52 [(.b (.int .i64)), (.b (.int .i64)), (.b (.sl true .en))], .box 52 [(.b (.int .i64)), (.b (.int .i64)), (.own 3)], .row 80 .en]⟩, [.int, .ls .u8, .int, .int, .int, .ls .en, .int, .int, .ls .en]⟩, 0, ⟨[0, 2, 3], ⟨[.c (.one (.ptr 0 0)), .c (.one (.ptr 1 0)), .c (.one (.ptr 2 0))], [.box 73 [(.b (.sl true .u8)), (.b (.int .i64))], .box 52 [(.b (.int .i64)), (.b (.int .i64)), (.b (.sl true .en))], .box 52 [(.b (.int .i64)), (.b (.int .i64)), (.own 3)], .row 80 .en]⟩, [.ls .u8, .int, .int, .int, .ls .en, .int, .int, .ls .en]⟩, ⟨[999999], ⟨[.c (.one (.own 0))], []⟩, []⟩, lp zCF fuel⟩
def zFg : Entry := ⟨⟨[.c (.one (.ptr 0 0))], [.box 73 [(.b (.sl true .u8)), (.b (.int .i64))]]⟩, [.ls .u8, .int], ⟨[.c (.agg [(.b (.int .i64)), (.b (.int .i64)), (.own 1)])], [.box 73 [(.b (.sl true .u8)), (.b (.int .i64))], .row 80 .en]⟩, [.int, .int, .ls .u8, .int, .ls .en], zK7⟩
def zGK : Env := mkEnv tab [(38, [], zFd)] 65 1 [(6, 8, [(0, true), (1, true), (2, true), (3, true), (4, false), (5, true), (6, true), (7, false)], [0]), (13, 9, [(0, true), (1, true), (2, true), (5, true), (3, false), (4, true), (6, false), (7, true), (8, false)], [0])] [(3, zBo)]
theorem zMz : CtrOk Tryz.prog zGK.Γ := ctr_ok (l := [(38, [], zFd)]) ⟨⟨zJw, Tryz.call38⟩, trivial⟩
theorem zH3 : LoopOk Tryz.prog 1 65 (nthC (Tryz.f41.body.getD .skip) 0) zBo := loop_ok (G := zGK) (F := zBo.F) (eid := zBo.eid) (FX := zBo.FX) (FR := zBo.FR) (B := zCF) (n := fuel) bad_ok tabOk zMz mixed (code_ok' (G := zGK) (n := 0) (by kernel_rfl) (by kernel_rfl) trivial (by kernel_rfl)) (fun s => by kernel_rfl)
theorem zJz : GC Tryz.prog 41 zFg := gc_of (G := zGK) (c := Tryz.f41.body.getD .skip) bad_ok tabOk zMz mixed Tryz.func41 (by kernel_rfl) Tryz.ntmps41 (code_ok' (G := zGK) (n := 1) (by kernel_rfl) (by kernel_rfl) ⟨trivial, loop_at (id := 3) (L0 := zBo) (by kernel_rfl) (by kernel_rfl) zH3⟩ (by kernel_rfl)) (fun s => by kernel_rfl)
def zFi : Entry := ⟨⟨[.c (.one (.ptr 0 0)), .c (.agg [(.b (.int .i64)), (.b (.sl true .lk)), (.b (.sl true .bool)), (.b (.sl true .int)), (.b (.sl true .db)), (.b (.sl true .pk))])], [.box 73 [(.b (.sl true .u8)), (.b (.int .i64))]]⟩, [.int, .ls .lk, .ls .bool, .ls .int, .ls .db, .ls .pk, .ls .u8, .int], ⟨[.c (.agg [(.b (.int .i64)), (.b (.int .i64))])], [.box 73 [(.b (.sl true .u8)), (.b (.int .i64))]]⟩, [.int, .int, .ls .u8, .int], zK9⟩
def zGM : Env := mkEnv tab [(38, [], zFd)] 58 1 [] []
theorem zMB : CtrOk Tryz.prog zGM.Γ := ctr_ok (l := [(38, [], zFd)]) ⟨⟨zJw, Tryz.call38⟩, trivial⟩
theorem zJB : GC Tryz.prog 77 zFi := gc_of (G := zGM) (c := Tryz.f77.body.getD .skip) bad_ok tabOk zMB mixed Tryz.func77 (by kernel_rfl) Tryz.ntmps77 (code_ok' (G := zGM) (n := 0) (by kernel_rfl) (by kernel_rfl) trivial (by kernel_rfl)) (fun s => by kernel_rfl)
def zBl : Loop := ⟨⟨[0, 3, 4, 5], ⟨[.c (.one (.ptr 0 0)), .c (.one (.own 1)), .c (.one (.b (.int .i64))), .c (.one (.b (.int .i64)))], [.box 73 [(.b (.sl true .u8)), (.b (.int .i64))], .row 52 .ls]⟩, [.int, .int, .ls .u8, .int, .ls .ls]⟩, 0, ⟨[0, 3], ⟨[.c (.one (.ptr 0 0)), .c (.one (.own 1))], [.box 73 [(.b (.sl true .u8)), (.b (.int .i64))], .row 52 .ls]⟩, [.ls .u8, .int, .ls .ls]⟩, ⟨[999999], ⟨[.c (.one (.own 0))], []⟩, []⟩, lp zCC fuel⟩
def zFe : Entry := ⟨⟨[.c (.one (.ptr 0 0))], [.box 73 [(.b (.sl true .u8)), (.b (.int .i64))]]⟩, [.ls .u8, .int], ⟨[.c (.one (.own 1))], [.box 73 [(.b (.sl true .u8)), (.b (.int .i64))], .row 52 .ls]⟩, [.ls .u8, .int, .ls .ls], zK5⟩
def zGI : Env := mkEnv tab [(78, [], zEH), (38, [], zFd), (41, [], zFg)] 35 1 [] [(4, zBl)]
theorem zMx : CtrOk Tryz.prog zGI.Γ := ctr_ok (l := [(78, [], zEH), (38, [], zFd), (41, [], zFg)]) ⟨⟨zI0, Tryz.call78⟩, ⟨⟨zJw, Tryz.call38⟩, ⟨⟨zJz, Tryz.call41⟩, trivial⟩⟩⟩
theorem zH0 : LoopOk Tryz.prog 1 35 (nthC (Tryz.f40.body.getD .skip) 0) zBl := loop_ok (G := zGI) (F := zBl.F) (eid := zBl.eid) (FX := zBl.FX) (FR := zBl.FR) (B := zCC) (n := fuel) bad_ok tabOk zMx mixed (code_ok' (G := zGI) (n := 0) (by kernel_rfl) (by kernel_rfl) trivial (by kernel_rfl)) (fun s => by kernel_rfl)
theorem zJx : GC Tryz.prog 40 zFe := gc_of (G := zGI) (c := Tryz.f40.body.getD .skip) bad_ok tabOk zMx mixed Tryz.func40 (by kernel_rfl) Tryz.ntmps40 (code_ok' (G := zGI) (n := 1) (by kernel_rfl) (by kernel_rfl) ⟨trivial, loop_at (id := 4) (L0 := zBl) (by kernel_rfl) (by kernel_rfl) zH0⟩ (by kernel_rfl)) (fun s => by kernel_rfl)
def zBq : Loop := ⟨⟨[0, 2, 3, 5, 6], ⟨[.c (.one (.ptr 0 0)), .c (.one (.ptr 1 0)), .c (.one (.ptr 2 0)), .c (.one (.b (.int .i64))), .c (.one (.b (.int .i64)))], [.box 73 [(.b (.sl true .u8)), (.b (.int .i64))], .box 31 [(.b (.int .i64)), (.b (.sl true .lk)), (.b (.sl true .bool)), (.b (.sl true .int)), (.b (.sl true .db)), (.b (.sl true .pk))], .box 31 [(.b (.int .i64)), (.b (.sl true .lk)), (.b (.sl true .bool)), (.b (.sl true .int)), (.b (.sl true .db)), (.b (.sl true .pk))]]⟩, [.int, .int, .ls .u8, .int, .int, .ls .lk, .ls .bool, .ls .int, .ls .db, .ls .pk, .int, .ls .lk, .ls .bool, .ls .int, .ls .db, .ls .pk]⟩, 0, ⟨[2, 3], ⟨[.c (.one (.ptr 1 0)), .c (.one (.ptr 2 0))], [.box 73 [(.b (.sl true .u8)), (.b (.int .i64))], .box 31 [(.b (.int .i64)), (.b (.sl true .lk)), (.b (.sl true .bool)), (.b (.sl true .int)), (.b (.sl true .db)), (.b (.sl true .pk))], .box 31 [(.b (.int .i64)), (.b (.sl true .lk)), (.b (.sl true .bool)), (.b (.sl true .int)), (.b (.sl true .db)), (.b (.sl true .pk))]]⟩, [.ls .u8, .int, .int, .ls .lk, .ls .bool, .ls .int, .ls .db, .ls .pk, .int, .ls .lk, .ls .bool, .ls .int, .ls .db, .ls .pk]⟩, ⟨[999999], ⟨[.c (.one (.own 0))], []⟩, []⟩, lp zCH fuel⟩
def zFj : Entry := ⟨⟨[.c (.one (.ptr 0 0))], [.box 73 [(.b (.sl true .u8)), (.b (.int .i64))]]⟩, [.ls .u8, .int], ⟨[.c (.agg [(.b (.int .i64)), (.b (.sl true .lk)), (.b (.sl true .bool)), (.b (.sl true .int)), (.b (.sl true .db)), (.b (.sl true .pk))])], [.box 73 [(.b (.sl true .u8)), (.b (.int .i64))]]⟩, [.int, .ls .lk, .ls .bool, .ls .int, .ls .db, .ls .pk, .ls .u8, .int], zLa⟩
def zGN : Env := mkEnv tab [(74, [], zEN), (38, [], zFd), (75, [], zFf), (77, [], zFi), (76, [], zE0)] 26 1 [(6, 4, [(0, true), (1, true), (2, true), (3, false)], [0])] [(4, zBq)]
theorem zMC : CtrOk Tryz.prog zGN.Γ := ctr_ok (l := [(74, [], zEN), (38, [], zFd), (75, [], zFf), (77, [], zFi), (76, [], zE0)]) ⟨⟨zI6, Tryz.call74⟩, ⟨⟨zJw, Tryz.call38⟩, ⟨⟨zJy, Tryz.call75⟩, ⟨⟨zJB, Tryz.call77⟩, ⟨⟨zJj, Tryz.call76⟩, trivial⟩⟩⟩⟩⟩
theorem zH5 : LoopOk Tryz.prog 1 26 (nthC (Tryz.f37.body.getD .skip) 0) zBq := loop_ok (G := zGN) (F := zBq.F) (eid := zBq.eid) (FX := zBq.FX) (FR := zBq.FR) (B := zCH) (n := fuel) bad_ok tabOk zMC mixed (code_ok' (G := zGN) (n := 0) (by kernel_rfl) (by kernel_rfl) trivial (by kernel_rfl)) (fun s => by kernel_rfl)
theorem zJC : GC Tryz.prog 37 zFj := gc_of (G := zGN) (c := Tryz.f37.body.getD .skip) bad_ok tabOk zMC mixed Tryz.func37 (by kernel_rfl) Tryz.ntmps37 (code_ok' (G := zGN) (n := 1) (by kernel_rfl) (by kernel_rfl) ⟨trivial, loop_at (id := 4) (L0 := zBq) (by kernel_rfl) (by kernel_rfl) zH5⟩ (by kernel_rfl)) (fun s => by kernel_rfl)
def zFk : Entry := ⟨⟨[.c (.one (.ptr 0 0))], [.box 73 [(.b (.sl true .u8)), (.b (.int .i64))]]⟩, [.ls .u8, .int], ⟨[.c (.agg [(.b (.int .i64)), (.own 1), (.own 2), (.own 3), (.own 4), (.own 5)])], [.box 73 [(.b (.sl true .u8)), (.b (.int .i64))], .row 75 .lk, .row 4 .bool, .row 3 .int, .row 45 .db, .row 54 .pk]⟩, [.int, .ls .u8, .int, .ls .lk, .ls .bool, .ls .int, .ls .db, .ls .pk], zLb⟩
def zGO : Env := mkEnv tab [(36, [], zEZ), (38, [], zFd), (41, [], zFg), (40, [], zFe), (39, [], zFh), (37, [], zFj)] 98 1 [(9, 9, [(0, true), (1, true), (2, true), (3, true), (4, true), (5, true), (6, true), (7, true), (8, true)], []), (11, 5, [(0, true), (1, true), (2, true), (3, true), (4, false)], [0]), (13, 5, [(0, true), (1, true), (2, true), (3, true), (4, false)], [0]), (15, 9, [(0, true), (1, true), (2, true), (5, true), (3, false), (4, true), (6, false), (7, true), (8, false)], [0]), (18, 9, [(0, true), (1, true), (2, true), (3, true), (4, true), (5, true), (6, true), (7, true), (8, true)], [])] []
theorem zMD : CtrOk Tryz.prog zGO.Γ := ctr_ok (l := [(36, [], zEZ), (38, [], zFd), (41, [], zFg), (40, [], zFe), (39, [], zFh), (37, [], zFj)]) ⟨⟨zJi, Tryz.call36⟩, ⟨⟨zJw, Tryz.call38⟩, ⟨⟨zJz, Tryz.call41⟩, ⟨⟨zJx, Tryz.call40⟩, ⟨⟨zJA, Tryz.call39⟩, ⟨⟨zJC, Tryz.call37⟩, trivial⟩⟩⟩⟩⟩⟩
theorem zJD : GC Tryz.prog 11 zFk := gc_of (G := zGO) (c := Tryz.f11.body.getD .skip) bad_ok tabOk zMD mixed Tryz.func11 (by kernel_rfl) Tryz.ntmps11 (code_ok' (G := zGO) (n := 0) (by kernel_rfl) (by kernel_rfl) trivial (by kernel_rfl)) (fun s => by kernel_rfl)
def zEJ : Entry := ⟨⟨[.c (.one (.b (.sl true .u8)))], []⟩, [.ls .u8], ⟨[.c (.agg [(.b (.int .i64)), (.own 0), (.own 1), (.own 2), (.own 3), (.own 4)])], [.row 75 .lk, .row 4 .bool, .row 3 .int, .row 45 .db, .row 54 .pk]⟩, [.int, .ls .lk, .ls .bool, .ls .int, .ls .db, .ls .pk], zKA⟩
def zGd : Env := mkEnv tab [(12, [], zFc), (11, [], zFk)] 6 0 [] []
theorem zL2 : CtrOk Tryz.prog zGd.Γ := ctr_ok (l := [(12, [], zFc), (11, [], zFk)]) ⟨⟨zJv, Tryz.call12⟩, ⟨⟨zJD, Tryz.call11⟩, trivial⟩⟩
theorem zI2 : GC Tryz.prog 4 zEJ := gc_of (G := zGd) (c := Tryz.f4.body.getD .skip) bad_ok tabOk zL2 mixed Tryz.func4 (by kernel_rfl) Tryz.ntmps4 (code_ok' (G := zGd) (n := 0) (by kernel_rfl) (by kernel_rfl) trivial (by kernel_rfl)) (fun s => by kernel_rfl)
end Go.Proofs.YtjffopopheiinaaGreat
end
section
namespace Go.Proofs.YtjffopopheiinaaGreat
open Go.RowKit
set_option maxRecDepth 100000
def zKf (s : (List Int × Unit)) : Option (Bool × Unit) := (bif decide (((1048576 : Int) < nI (List.length s.1))) then some ((true, ())) else (zKA ((s.1, ()))).bind fun r0 => (zJU ((r0.1, (r0.2.1, (r0.2.2.1, (r0.2.2.2.1, (r0.2.2.2.2.1, (r0.2.2.2.2.2.1, ())))))))).bind fun r1 => (zKF ((r0.1, (r0.2.1, (r0.2.2.1, (r0.2.2.2.1, (r0.2.2.2.2.1, (r0.2.2.2.2.2.1, ())))))))).bind fun r2 => (bif (!((r1.1 == r2.1))) then some (((r1.1 == r2.1), ())) else (bif r1.1 then some (((r1.1 == r2.1), ())) else (zJS ((r0.1, (r0.2.1, (r0.2.2.1, (r0.2.2.2.1, (r0.2.2.2.2.1, (r0.2.2.2.2.2.1, ((0 : Int), ((0 : Int), ())))))))))).bind fun r3 => (zKm ((r3.1, (r3.2.1, (r3.2.2.1, (r3.2.2.2.1, (r3.2.2.2.2.1, (r3.2.2.2.2.2.1, ((0 : Int), (([] : List Lk), (([] : List Bool), (([] : List Int), (([] : List (List Ls)), (([] : List Pk), ())))))))))))))).bind fun r4 => (bif r4.1 then (zJR ((r0.1, (r0.2.1, (r0.2.2.1, (r0.2.2.2.1, (r0.2.2.2.2.1, (r0.2.2.2.2.2.1, ())))))))).bind fun r5 => (zKm ((r5.1, (r5.2.1, (r5.2.2.1, (r5.2.2.2.1, (r5.2.2.2.2.1, (r5.2.2.2.2.2.1, ((0 : Int), (([] : List Lk), (([] : List Bool), (([] : List Int), (([] : List (List Ls)), (([] : List Pk), ())))))))))))))).bind fun r6 => (bif r6.1 then (zJT ((r0.1, (r0.2.1, (r0.2.2.1, (r0.2.2.2.1, (r0.2.2.2.2.1, (r0.2.2.2.2.2.1, ((0 : Int), ()))))))))).bind fun r7 => some ((decide ((r7.1 = (0 : Int))), ())) else some ((false, ()))) else some ((false, ()))))))
end Go.Proofs.YtjffopopheiinaaGreat
end
section
namespace Go.Proofs.YtjffopopheiinaaGreat
open Go.RowKit
set_option maxRecDepth 100000
def zD4 : Entry := ⟨⟨[.c (.one (.b (.sl true .u8)))], []⟩, [.ls .u8], ⟨[.c (.one (.b .bool))], []⟩, [.bool], zKf⟩
def zFY : Env := mkEnv tab [(7, [], zEb), (6, [], zEO), (5, [], zDl), (10, [], zDk), (4, [], zEJ), (8, [], zDj), (9, [], zDi)] 43 0 [(9, 9, [(0, true), (1, true), (3, true), (2, false), (4, false), (5, true), (6, true), (8, true), (7, false)], [])] []
theorem zLN : CtrOk Tryz.prog zFY.Γ := ctr_ok (l := [(7, [], zEb), (6, [], zEO), (5, [], zDl), (10, [], zDk), (4, [], zEJ), (8, [], zDj), (9, [], zDi)]) ⟨⟨zIO, Tryz.call7⟩, ⟨⟨zI7, Tryz.call6⟩, ⟨⟨zIm, Tryz.call5⟩, ⟨⟨zIl, Tryz.call10⟩, ⟨⟨zI2, Tryz.call4⟩, ⟨⟨zIk, Tryz.call8⟩, ⟨⟨zIj, Tryz.call9⟩, trivial⟩⟩⟩⟩⟩⟩⟩
theorem zIH : GC Tryz.prog 3 zD4 := gc_of (G := zFY) (c := Tryz.f3.body.getD .skip) bad_ok tabOk zLN mixed Tryz.func3 (by kernel_rfl) Tryz.ntmps3 (code_ok' (G := zFY) (n := 0) (by kernel_rfl) (by kernel_rfl) trivial (by kernel_rfl)) (fun s => by kernel_rfl)
end Go.Proofs.YtjffopopheiinaaGreat
end
section
namespace Go.Proofs.YtjffopopheiinaaGreat
open Go.RowKit

def LkAt (n : Int) (ls : List Lk) (i : Nat) : Prop :=
  0 ≤ (lk ls i).a ∧ (lk ls i).a < (lk ls i).b ∧ (lk ls i).b < n ∧ 1 ≤ (lk ls i).c ∧ (lk ls i).c ≤ 20 ∧
    (0 < i → (lk ls (i - 1)).a < (lk ls i).a ∨ (lk ls (i - 1)).a = (lk ls i).a ∧ (lk ls (i - 1)).b < (lk ls i).b)
instance (n : Int) (ls : List Lk) (i : Nat) : Decidable (LkAt n ls i) := by unfold LkAt; infer_instance
def GV (n : Int) (ls : List Lk) : Prop := 1 ≤ n ∧ n ≤ 8 ∧ ls.length ≤ 14 ∧ ∀ i, i < ls.length → LkAt n ls i
instance (n : Int) (ls : List Lk) : Decidable (GV n ls) := by unfold GV; infer_instance
def gv (n : Int) (ls : List Lk) : Bool := decide (GV n ls)
theorem gv_t {n : Int} {ls : List Lk} (h : gv n ls = true) : GV n ls := of_decide_eq_true h
theorem gv_f {n : Int} {ls : List Lk} (h : ¬ GV n ls) : gv n ls = false := decide_eq_false h
theorem gv_at {n : Int} {ls : List Lk} {k : Nat} (hk : k < ls.length) (h : 1 ≤ n → n ≤ 8 → ¬ LkAt n ls k) : gv n ls = false :=
  gv_f fun g => h g.1 g.2.1 (g.2.2.2 k hk)
theorem gv_end {n : Int} {ls : List Lk} {k : Nat} (hl : ls.length = k) (h : 1 ≤ n → n ≤ 8 → ∀ i, i < k → LkAt n ls i) : gv n ls = (inB n 1 8 && decide ((k : Int) ≤ 14)) := by
  subst hl
  unfold gv GV inB
  by_cases h1 : 1 ≤ n ∧ n ≤ 8
  · by_cases h2 : ls.length ≤ 14
    · have h3 := h h1.1 h1.2
      have : ((ls.length : Nat) : Int) ≤ 14 := by omega
      simp [h1, h2, this]
      exact fun i hi => h3 i hi
    · have : ¬ ((ls.length : Nat) : Int) ≤ 14 := by omega
      simp [h1, h2, this]
  · have : ¬ (1 ≤ n ∧ n ≤ 8 ∧ ls.length ≤ 14 ∧ ∀ i, i < ls.length → LkAt n ls i) := fun g => h1 ⟨g.1, g.2.1⟩
    simp [this, h1]
end Go.Proofs.YtjffopopheiinaaGreat

namespace Go.Proofs.YtjffopopheiinaaGreat
open Go.RowKit

def relaxB (d : List Int) (x y : Nat) (c : Int) : Bool := decide (0 ≤ iz d x) && (decide (iz d y < 0) || decide (iz d x + c < iz d y))
def relax (d : List Int) (x y : Nat) (c : Int) : List Int := if relaxB d x y c then d.set y (iz d x + c) else d
def relaxL (d : List Int) (l : Lk) : List Int := relax (relax d l.a.toNat l.b.toNat l.c) l.b.toNat l.a.toNat l.c
def sweep (ls : List Lk) (d : List Int) : List Int := ls.foldl relaxL d
def dinit (n f : Nat) : List Int := (List.replicate n (-1)).set f 0
def rounds (ls : List Lk) (d : List Int) : Nat → List Int
  | 0 => d
  | k + 1 => sweep ls (rounds ls d k)
def dst (n : Nat) (ls : List Lk) (f r i : Nat) : List Int := (ls.take i).foldl relaxL (rounds ls (dinit n f) r)
def dists (n : Nat) (ls : List Lk) (f : Nat) : List Int := rounds ls (dinit n f) n

theorem iz_set (d : List Int) (y j : Nat) (v : Int) (hy : y < d.length) : iz (d.set y v) j = if j = y then v else iz d j := by
  unfold iz
  simp only [List.getD, List.getElem?_set]
  by_cases h : y = j
  · subst h; simp [hy]
  · have h' : ¬ j = y := fun e => h e.symm
    simp [h, h']
theorem GV.at_ {n : Int} {ls : List Lk} (h : GV n ls) {i : Nat} (hi : i < ls.length) : ∃ x y : Nat, (lk ls i).a = x ∧ (lk ls i).b = y ∧ x < y ∧ (y : Int) < n ∧ 1 ≤ (lk ls i).c ∧ (lk ls i).c ≤ 20 := by
  have := h.2.2.2 i hi
  unfold LkAt at this
  exact ⟨(lk ls i).a.toNat, (lk ls i).b.toNat, by omega, by omega, by omega, by omega, by omega, by omega⟩
end Go.Proofs.YtjffopopheiinaaGreat

namespace Go.Proofs.YtjffopopheiinaaGreat
open Go.RowKit

structure Src (d : List Int) (f : Nat) : Prop where
  zero : iz d f = 0
  low : ∀ j, -1 ≤ iz d j
  only : ∀ j, j < d.length → iz d j = 0 → j = f
end Go.Proofs.YtjffopopheiinaaGreat

namespace Go.Proofs.YtjffopopheiinaaGreat
open Go.RowKit

def Adj (ls : List Lk) (x y : Nat) (c : Int) : Prop := ∃ l, l ∈ ls ∧ l.c = c ∧ (l.a = x ∧ l.b = y ∨ l.a = y ∧ l.b = x)
theorem Adj.symm {ls : List Lk} {x y : Nat} {c : Int} (h : Adj ls x y c) : Adj ls y x c := by
  obtain ⟨l, h1, h2, h3⟩ := h
  exact ⟨l, h1, h2, h3.symm⟩
inductive Wk (ls : List Lk) (u : Nat) : Nat → Nat → Int → Prop
  | nil : Wk ls u 0 u 0
  | step {k x y : Nat} {s c : Int} : Wk ls u k x s → Adj ls x y c → Wk ls u (k + 1) y (s + c)
theorem Wk.append {ls : List Lk} {u v : Nat} {k : Nat} {s : Int} (h : Wk ls u k v s) {m w : Nat} {t : Int} (h' : Wk ls v m w t) : Wk ls u (k + m) w (s + t) := by
  induction h' with
  | nil => simpa using h
  | step _ ha ih => rw [← Int.add_assoc]; exact ih.step ha
theorem Wk.one {ls : List Lk} {x y : Nat} {c : Int} (h : Adj ls x y c) : Wk ls x 1 y c := by simpa using Wk.nil.step h
theorem Wk.symm {ls : List Lk} {u v k : Nat} {s : Int} (h : Wk ls u k v s) : Wk ls v k u s := by
  induction h with
  | nil => exact .nil
  | step _ ha ih =>
    have := (Wk.one ha.symm).append ih
    rwa [Nat.add_comm, Int.add_comm] at this
theorem Wk.mono {ls ls' : List Lk} (hs : ∀ x y c, Adj ls x y c → Adj ls' x y c) {u v k : Nat} {s : Int} (h : Wk ls u k v s) : Wk ls' u k v s := by
  induction h with
  | nil => exact .nil
  | step _ ha ih => exact ih.step (hs _ _ _ ha)
def Ends (n : Nat) (ls : List Lk) : Prop := ∀ l ∈ ls, ∃ x y : Nat, l.a = x ∧ l.b = y ∧ x < n ∧ y < n
theorem Adj.lt {n : Nat} {ls : List Lk} (he : Ends n ls) {x y : Nat} {c : Int} (h : Adj ls x y c) : x < n ∧ y < n := by
  obtain ⟨l, h1, _, h3⟩ := h
  obtain ⟨a, b, ha, hb, ha', hb'⟩ := he l h1
  rcases h3 with ⟨e1, e2⟩ | ⟨e1, e2⟩ <;> omega
def Le (d' d : List Int) : Prop := ∀ v, 0 ≤ iz d v → 0 ≤ iz d' v ∧ iz d' v ≤ iz d v
theorem Le.refl (d : List Int) : Le d d := fun _ h => ⟨h, Int.le_refl _⟩
theorem Le.trans {a b c : List Int} (h : Le a b) (k : Le b c) : Le a c := fun v hv => by
  have h1 := k v hv
  have h2 := h v h1.1
  exact ⟨h2.1, by omega⟩
end Go.Proofs.YtjffopopheiinaaGreat

namespace Go.Proofs.YtjffopopheiinaaGreat
open Go.RowKit

def Sat {α : Type} (o : Option α) (Q : α → Prop) : Prop := ∃ r, o = some r ∧ Q r
theorem Sat.some {α : Type} {x : α} {Q : α → Prop} (h : Q x) : Sat (some x) Q := ⟨x, rfl, h⟩
theorem Sat.mono {α : Type} {o : Option α} {Q R : α → Prop} (h : Sat o Q) (k : ∀ x, Q x → R x) : Sat o R := by
  obtain ⟨r, h1, h2⟩ := h; exact ⟨r, h1, k r h2⟩
theorem Sat.bind {α β : Type} {o : Option α} {f : α → Option β} {Q : β → Prop} (h : Sat o fun x => Sat (f x) Q) : Sat (o.bind f) Q := by
  obtain ⟨x, rfl, y, h1, h2⟩ := h; exact ⟨y, h1, h2⟩
theorem Sat.bnd {α β : Type} {o : Option α} {R : α → Prop} {f : α → Option β} {Q : β → Prop} (h : Sat o R) (k : ∀ x, R x → Sat (f x) Q) : Sat (o.bind f) Q := Sat.bind (h.mono k)
theorem Sat.ite {α : Type} {c : Bool} {a b : Option α} {Q : α → Prop} (h : c = true → Sat a Q) (k : c = false → Sat b Q) : Sat (bif c then a else b) Q := by
  cases c with
  | true => exact h rfl
  | false => exact k rfl
theorem Sat.gd {α : Type} {c : Bool} {a b : Option α} {Q : α → Prop} (hc : c = true) (h : Sat a Q) : Sat (bif c then a else b) Q := by subst hc; exact h
theorem Sat.no {α : Type} {c : Bool} {a b : Option α} {Q : α → Prop} (hc : c = false) (h : Sat b Q) : Sat (bif c then a else b) Q := by subst hc; exact h
theorem Sat.out {α : Type} {o : Option α} {x : α} (h : Sat o (· = x)) : o = Option.some x := by obtain ⟨r, h1, h2⟩ := h; rw [h1, h2]
theorem Sat.loop {σ τ : Type} {B : σ → Option (σ ⊕ τ)} (I : σ → Prop) (μ : σ → Nat) {Q : τ → Prop} (hB : ∀ s, I s → Sat (B s) fun r => match r with | .inl s' => I s' ∧ μ s' < μ s | .inr x => Q x) : ∀ (n : Nat) (s : σ), μ s < n → I s → Sat (lp B n s) Q
  | 0, _, h, _ => by omega
  | n + 1, s, h, hi => by
    unfold Go.Proofs.YtjffopopheiinaaGreat.lp
    refine Sat.bnd (hB s hi) fun r hr => ?_
    cases r with
    | inl s' => exact Sat.loop I μ hB n s' (by have := hr.2; omega) hr.1
    | inr x => exact .some hr
theorem Sat.count {σ τ : Type} {B : σ → Option (σ ⊕ τ)} (n : Nat) (I : Nat → σ → Prop) {Q : τ → Prop} (hB : ∀ k s, k ≤ n → I k s → Sat (B s) fun r => match r with | .inl s' => k < n ∧ I (k + 1) s' | .inr x => Q x) {m : Nat} {s : σ} {k : Nat} (hk : k ≤ n) (hm : n - k < m) (h : I k s) : Sat (lp B m s) Q := by
  induction m generalizing s k with
  | zero => omega
  | succ m ih =>
    unfold Go.Proofs.YtjffopopheiinaaGreat.lp
    refine Sat.bnd (hB k s hk h) fun r hr => ?_
    cases r with
    | inl s' => exact ih (k := k + 1) (by have := hr.1; omega) (by omega) hr.2
    | inr x => exact .some hr
theorem w64 {x : Int} (h1 : -9223372036854775808 ≤ x) (h2 : x ≤ 9223372036854775807) : wrap64 x = x := IntWalk.wrap64_in x (by omega)
theorem wI {x : Int} (h1 : -9223372036854775808 ≤ x) (h2 : x ≤ 9223372036854775807) : wrapK .i64 x = x := w64 h1 h2
theorem inR_t {z : Int} {n : Nat} (h1 : 0 ≤ z) (h2 : z < n) : inR z n = true := by simp [inR, h1, h2]
theorem bnd2_t {lo hi : Int} {n : Nat} (h1 : 0 ≤ lo) (h2 : lo ≤ hi) (h3 : hi ≤ n) : bnd2 lo hi n = true := by simp [bnd2, h1, h2, h3]
end Go.Proofs.YtjffopopheiinaaGreat

namespace Go.Proofs.YtjffopopheiinaaGreat
open Go.RowKit

def Asc (zs : List Int) (n : Int) : Prop := ∀ i, i < zs.length → 0 ≤ iz zs i ∧ iz zs i < n ∧ (0 < i → iz zs (i - 1) < iz zs i)
instance (zs : List Int) (n : Int) : Decidable (Asc zs n) := by unfold Asc; infer_instance
def asc (zs : List Int) (n : Int) : Bool := decide (Asc zs n)
theorem Asc.le {zs : List Int} {n : Int} (h : Asc zs n) {i : Nat} (j : Nat) (hj : i + j < zs.length) : iz zs i ≤ iz zs (i + j) := by
  induction j with
  | zero => exact Int.le_refl _
  | succ j ih =>
    have h1 := (h (i + (j + 1)) hj).2.2 (by omega)
    have h2 := ih (by omega)
    rw [show i + (j + 1) - 1 = i + j by omega] at h1
    omega
def bv (n : Int) (ls : List Lk) (bs : List Int) : Bool := gv n ls && decide (0 < bs.length) && asc bs n
def summL (d bs : List Int) (k : Nat) : List Int := (bs.take k).map fun b => iz d b.toNat
def summ (n : Int) (ls : List Lk) (bs : List Int) (t : Int) : List Int :=
  if bv n ls bs && inB t 0 (n - 1) then summL (dists n.toNat ls t.toNat) bs bs.length else []
def routeOk (na : Int) (la : List Lk) (nb : Int) (lb : List Lk) (bs : List Int) (f t : Int) : Bool := (bv na la bs && inB f 0 (na - 1)) && (bv nb lb bs && inB t 0 (nb - 1))
structure ROk (na nb f t : Nat) (la lb : List Lk) (bs : List Int) : Prop where
  va : gv na la = true
  vb : gv nb lb = true
  ga : GV na la
  gb : GV nb lb
  aa : Asc bs na
  ab : Asc bs nb
  pos : 0 < bs.length
  hf : f < na
  ht : t < nb
  one : summ na la bs f = summL (dists na la f) bs bs.length
  two : summ nb lb bs t = summL (dists nb lb t) bs bs.length
theorem ROk.ok {na nb f t : Nat} {la lb : List Lk} {bs : List Int} (h : ROk na nb f t la lb bs) : routeOk na la nb lb bs f t = true := by
  have i1 : inB (f : Int) 0 ((na : Int) - 1) = true := inB_mk (by have := h.hf; omega)
  have i2 : inB (t : Int) 0 ((nb : Int) - 1) = true := inB_mk (by have := h.ht; omega)
  simp [routeOk, bv, h.va, h.vb, i1, i2, h.pos, asc, h.aa, h.ab]
def hitB (x y : Int) (l : Lk) : Bool := decide (l.a = x) && decide (l.b = y)
def lof (ls : List Lk) (a b : Int) : Int := if ls.findIdx (hitB (min a b) (max a b)) < ls.length then ls.findIdx (hitB (min a b) (max a b)) else -1
theorem hit_lk {ls : List Lk} {i : Nat} (h : i < ls.length) : lk ls i = ls[i] := by simp [lk, List.getD, List.getElem?_eq_getElem h]
theorem lof_hit {ls : List Lk} {a b : Int} {k : Nat} (hk : k < ls.length) (h1 : hitB (min a b) (max a b) (lk ls k) = true) (h : ∀ i, i < k → hitB (min a b) (max a b) (lk ls i) = false) : lof ls a b = k := by
  have e : ls.findIdx (hitB (min a b) (max a b)) = k := (List.findIdx_eq hk).2 ⟨by rw [← hit_lk hk]; exact h1, fun j hj => by rw [← hit_lk (by omega)]; exact h j hj⟩
  unfold lof
  rw [e, if_pos hk]
theorem lof_miss {ls : List Lk} {a b : Int} (h : ∀ i, i < ls.length → hitB (min a b) (max a b) (lk ls i) = false) : lof ls a b = -1 := by
  have e : ls.findIdx (hitB (min a b) (max a b)) = ls.length := List.findIdx_eq_length_of_false fun x hx => by
    obtain ⟨i, hi, rfl⟩ := List.mem_iff_getElem.1 hx
    rw [← hit_lk hi]; exact h i hi
  unfold lof
  rw [e, if_neg (by omega)]
theorem hit_t {x y : Int} {l : Lk} (h : hitB x y l = true) : l.a = x ∧ l.b = y := by simpa [hitB] using h
theorem lof_cases (ls : List Lk) (a b : Int) : (lof ls a b = -1 ∧ ∀ i, i < ls.length → hitB (min a b) (max a b) (lk ls i) = false) ∨ ∃ k : Nat, lof ls a b = k ∧ k < ls.length ∧ (lk ls k).a = min a b ∧ (lk ls k).b = max a b := by
  by_cases h : ls.findIdx (hitB (min a b) (max a b)) < ls.length
  · right
    refine ⟨ls.findIdx (hitB (min a b) (max a b)), by unfold lof; rw [if_pos h], h, ?_⟩
    have := (List.findIdx_getElem (w := h))
    rw [← hit_lk h] at this
    exact hit_t this
  · left
    refine ⟨by unfold lof; rw [if_neg h], fun i hi => ?_⟩
    have hle := List.findIdx_le_length (p := hitB (min a b) (max a b)) (xs := ls)
    have := List.not_of_lt_findIdx (p := hitB (min a b) (max a b)) (xs := ls) (i := i) (by omega)
    rw [hit_lk hi]
    simpa using this
theorem hit_no {x y : Int} {l : Lk} (h : ¬ (l.a = x ∧ l.b = y)) : hitB x y l = false := by
  unfold hitB
  rw [Bool.and_eq_false_iff]
  by_cases h1 : l.a = x
  · right; exact decide_eq_false fun e => h ⟨h1, e⟩
  · left; exact decide_eq_false h1
theorem hit_yes {x y : Int} {l : Lk} (h1 : l.a = x) (h2 : l.b = y) : hitB x y l = true := by simp [hitB, h1, h2]
def otherE (l : Lk) (n : Int) : Int := if n = l.a then l.b else if n = l.b then l.a else 0
def isEnd (l : Lk) (n : Int) : Bool := decide (n = l.a ∨ n = l.b)
def others (ls : List Lk) (n : Int) (k : Nat) : List Int := ((ls.take k).filter (fun l => isEnd l n)).map (fun l => otherE l n)
theorem others_succ (ls : List Lk) (n : Int) (k : Nat) (h : k < ls.length) : others ls n (k + 1) = if isEnd (lk ls k) n then others ls n k ++ [otherE (lk ls k) n] else others ls n k := by
  have e : ls[k]? = some (lk ls k) := lk_get h
  unfold others
  rw [List.take_add_one, e]
  cases hq : isEnd (lk ls k) n <;> simp [hq]
theorem others_len (ls : List Lk) (n : Int) (k : Nat) : (others ls n k).length ≤ k := by
  unfold others
  rw [List.length_map]
  exact Nat.le_trans (List.length_filter_le _ _) (List.length_take_le _ _)
def nbS (ls : List Lk) (m : Int) (k : Nat) : List Int := ((List.range k).filter (fun x : Nat => decide (0 ≤ lof ls m (x : Int)))).map fun x : Nat => (x : Int)
theorem nbS_succ (ls : List Lk) (m : Int) (k : Nat) : nbS ls m (k + 1) = if 0 ≤ lof ls m k then nbS ls m k ++ [(k : Int)] else nbS ls m k := by
  unfold nbS
  rw [List.range_succ, List.filter_append, List.map_append]
  by_cases h : 0 ≤ lof ls m k <;> simp [h]
theorem nbS_len (ls : List Lk) (m : Int) (k : Nat) : (nbS ls m k).length ≤ k := by
  unfold nbS
  rw [List.length_map]
  exact Nat.le_trans (List.length_filter_le _ _) (by simp)
def pk (la lb : List Lk) (n m : Int) : List Lk :=
  if 0 ≤ lof la n m ∧ (lof lb n m < 0 ∨ (lk la (lof la n m).toNat).c ≤ (lk lb (lof lb n m).toNat).c) then [⟨n, m, (lk la (lof la n m).toNat).c⟩]
  else if 0 ≤ lof lb n m then [⟨n, m, (lk lb (lof lb n m).toNat).c⟩] else []
end Go.Proofs.YtjffopopheiinaaGreat

namespace Go.Proofs.YtjffopopheiinaaGreat
open Go.RowKit
set_option linter.unusedSimpArgs false
set_option linter.unusedVariables false

def okL (n : Int) (l : Lk) : Prop := 0 ≤ l.a ∧ l.a < l.b ∧ l.b < n ∧ 1 ≤ l.c ∧ l.c ≤ 20
def lxl (l m : Lk) : Prop := l.a < m.a ∨ l.a = m.a ∧ l.b < m.b
theorem lxl.trans {a b c : Lk} (h : lxl a b) (k : lxl b c) : lxl a c := by unfold lxl at *; omega
theorem lk_mem {ls : List Lk} {i : Nat} (h : i < ls.length) : lk ls i ∈ ls := List.mem_of_getElem? (lk_get h)
theorem mem_lk {ls : List Lk} {l : Lk} (h : l ∈ ls) : ∃ i, i < ls.length ∧ lk ls i = l := by
  obtain ⟨i, hi, rfl⟩ := List.getElem_of_mem h
  exact ⟨i, hi, hit_lk hi⟩
theorem lkAt_lt {n : Int} {ls : List Lk} (h : ∀ i, i < ls.length → LkAt n ls i) : ∀ (d i : Nat), i + d + 1 < ls.length → lxl (lk ls i) (lk ls (i + d + 1))
  | 0, i, hi => by
    have := (h (i + 1) hi).2.2.2.2.2 (by omega)
    simpa [lxl] using this
  | d + 1, i, hi => by
    have h1 := lkAt_lt h d i (by omega)
    have h2 := (h (i + (d + 1) + 1) hi).2.2.2.2.2 (by omega)
    rw [Nat.add_sub_cancel] at h2
    exact h1.trans h2
theorem gv_pw {n : Int} {ls : List Lk} : GV n ls ↔ 1 ≤ n ∧ n ≤ 8 ∧ ls.length ≤ 14 ∧ (∀ l ∈ ls, okL n l) ∧ ls.Pairwise lxl := by
  constructor
  · rintro ⟨h1, h2, h3, h⟩
    refine ⟨h1, h2, h3, fun l hl => ?_, List.pairwise_iff_getElem.2 fun i j hi hj hij => ?_⟩
    · obtain ⟨i, hi, rfl⟩ := mem_lk hl
      have := h i hi
      unfold LkAt at this
      unfold okL
      omega
    · have := lkAt_lt h (j - i - 1) i (by omega)
      rw [show i + (j - i - 1) + 1 = j by omega, hit_lk hi, hit_lk hj] at this
      exact this
  · rintro ⟨h1, h2, h3, h, hp⟩
    refine ⟨h1, h2, h3, fun i hi => ?_⟩
    have h4 := h _ (lk_mem hi)
    unfold okL at h4
    refine ⟨h4.1, h4.2.1, h4.2.2.1, h4.2.2.2.1, h4.2.2.2.2, fun h0 => ?_⟩
    have := List.pairwise_iff_getElem.1 hp (i - 1) i (by omega) hi (by omega)
    rw [← hit_lk, ← hit_lk] at this
    exact this
theorem GV.ok {n : Int} {ls : List Lk} (h : GV n ls) {l : Lk} (hl : l ∈ ls) : okL n l := (gv_pw.1 h).2.2.2.1 l hl
theorem pw_ext : ∀ {l l' : List Lk}, l.Pairwise lxl → l'.Pairwise lxl → (∀ x, x ∈ l ↔ x ∈ l') → l = l'
  | [], [], _, _, _ => rfl
  | [], y :: s, _, _, h => by have := (h y).2 (List.mem_cons_self ..); simp at this
  | x :: r, [], _, _, h => by have := (h x).1 (List.mem_cons_self ..); simp at this
  | x :: r, y :: s, h1, h2, h => by
    have h1 := List.pairwise_cons.1 h1
    have h2 := List.pairwise_cons.1 h2
    have e : x = y := by
      rcases List.mem_cons.1 ((h x).1 (List.mem_cons_self ..)) with e | hx
      · exact e
      · rcases List.mem_cons.1 ((h y).2 (List.mem_cons_self ..)) with e | hy
        · exact e.symm
        · have q1 := h1.1 y hy
          have q2 := h2.1 x hx
          unfold lxl at q1 q2
          omega
    subst e
    have : r = s := pw_ext h1.2 h2.2 fun z => by
      constructor
      · intro hz
        rcases List.mem_cons.1 ((h z).1 (List.mem_cons_of_mem _ hz)) with e | hz'
        · subst e
          have := h1.1 z hz
          unfold lxl at this
          omega
        · exact hz'
      · intro hz
        rcases List.mem_cons.1 ((h z).2 (List.mem_cons_of_mem _ hz)) with e | hz'
        · subst e
          have := h2.1 z hz
          unfold lxl at this
          omega
        · exact hz'
    rw [this]
theorem GV.ext {n m : Int} {l l' : List Lk} (h : GV n l) (h' : GV m l') (e : ∀ x, x ∈ l ↔ x ∈ l') : l = l' := pw_ext (gv_pw.1 h).2.2.2.2 (gv_pw.1 h').2.2.2.2 e
def cell (f : Nat → Nat → Option Int) (a b : Nat) : List Lk := match f a b with | some c => [⟨a, b, c⟩] | none => []
def gridR (f : Nat → Nat → Option Int) (a j : Nat) : List Lk := (List.range j).flatMap fun t => cell f a (a + 1 + t)
def gridK (f : Nat → Nat → Option Int) (N k : Nat) : List Lk := (List.range k).flatMap fun a => gridR f a (N - 1 - a)
def grid (f : Nat → Nat → Option Int) (N : Nat) : List Lk := gridK f N N
theorem gridR_succ (f : Nat → Nat → Option Int) (a j : Nat) : gridR f a (j + 1) = gridR f a j ++ cell f a (a + 1 + j) := by
  unfold gridR
  rw [List.range_succ, List.flatMap_append]
  simp
theorem gridK_succ (f : Nat → Nat → Option Int) (N k : Nat) : gridK f N (k + 1) = gridK f N k ++ gridR f k (N - 1 - k) := by
  unfold gridK
  rw [List.range_succ, List.flatMap_append]
  simp
theorem cell_len (f : Nat → Nat → Option Int) (a b : Nat) : (cell f a b).length ≤ 1 := by
  unfold cell; split <;> simp
theorem gridR_len (f : Nat → Nat → Option Int) (a j : Nat) : (gridR f a j).length ≤ j := by
  induction j with
  | zero => simp [gridR]
  | succ j ih =>
    rw [gridR_succ, List.length_append]
    have := cell_len f a (a + 1 + j)
    omega
theorem gridK_len (f : Nat → Nat → Option Int) (N k : Nat) : (gridK f N k).length ≤ k * N := by
  induction k with
  | zero => simp [gridK]
  | succ k ih =>
    rw [gridK_succ, List.length_append, Nat.succ_mul]
    have := gridR_len f k (N - 1 - k)
    omega
theorem mem_cell {f : Nat → Nat → Option Int} {a b : Nat} {l : Lk} : l ∈ cell f a b ↔ ∃ c, f a b = some c ∧ l = ⟨a, b, c⟩ := by
  unfold cell
  split
  · rename_i c h
    rw [h]
    simp
  · rename_i h
    rw [h]
    simp
theorem mem_gridR {f : Nat → Nat → Option Int} {a j : Nat} {l : Lk} : l ∈ gridR f a j ↔ ∃ b c, a < b ∧ b ≤ a + j ∧ f a b = some c ∧ l = ⟨a, b, c⟩ := by
  unfold gridR
  rw [List.mem_flatMap]
  constructor
  · rintro ⟨t, ht, hl⟩
    obtain ⟨c, h1, h2⟩ := mem_cell.1 hl
    have := List.mem_range.1 ht
    exact ⟨a + 1 + t, c, by omega, by omega, h1, h2⟩
  · rintro ⟨b, c, h1, h2, h3, h4⟩
    refine ⟨b - a - 1, List.mem_range.2 (by omega), mem_cell.2 ⟨c, ?_, ?_⟩⟩
    · rw [show a + 1 + (b - a - 1) = b by omega]; exact h3
    · rw [show a + 1 + (b - a - 1) = b by omega]; exact h4
theorem mem_gridK {f : Nat → Nat → Option Int} {N k : Nat} {l : Lk} : l ∈ gridK f N k ↔ ∃ a b c, a < k ∧ a < b ∧ b < N ∧ f a b = some c ∧ l = ⟨a, b, c⟩ := by
  unfold gridK
  rw [List.mem_flatMap]
  constructor
  · rintro ⟨a, ha, hl⟩
    obtain ⟨b, c, h1, h2, h3, h4⟩ := mem_gridR.1 hl
    have := List.mem_range.1 ha
    exact ⟨a, b, c, this, h1, by omega, h3, h4⟩
  · rintro ⟨a, b, c, h1, h2, h3, h4, h5⟩
    exact ⟨a, List.mem_range.2 h1, mem_gridR.2 ⟨b, c, h2, by omega, h4, h5⟩⟩
theorem mem_grid {f : Nat → Nat → Option Int} {N : Nat} {l : Lk} : l ∈ grid f N ↔ ∃ a b c, a < b ∧ b < N ∧ f a b = some c ∧ l = ⟨a, b, c⟩ := by
  unfold grid
  rw [mem_gridK]
  constructor
  · rintro ⟨a, b, c, h1, h2, h3, h4, h5⟩; exact ⟨a, b, c, h2, h3, h4, h5⟩
  · rintro ⟨a, b, c, h2, h3, h4, h5⟩; exact ⟨a, b, c, by omega, h2, h3, h4, h5⟩
theorem gridR_pw (f : Nat → Nat → Option Int) (a j : Nat) : (gridR f a j).Pairwise lxl := by
  unfold gridR
  rw [List.pairwise_flatMap]
  refine ⟨fun t _ => ?_, ?_⟩
  · unfold cell; split <;> simp
  · refine List.Pairwise.imp ?_ (List.pairwise_lt_range (n := j))
    intro s t hst x hx y hy
    obtain ⟨c, _, rfl⟩ := mem_cell.1 hx
    obtain ⟨c', _, rfl⟩ := mem_cell.1 hy
    exact .inr ⟨rfl, by simp only []; omega⟩
theorem grid_pw (f : Nat → Nat → Option Int) (N : Nat) : (grid f N).Pairwise lxl := by
  unfold grid gridK
  rw [List.pairwise_flatMap]
  refine ⟨fun a _ => gridR_pw f a _, ?_⟩
  refine List.Pairwise.imp ?_ (List.pairwise_lt_range (n := N))
  intro s t hst x hx y hy
  obtain ⟨b, c, _, _, _, rfl⟩ := mem_gridR.1 hx
  obtain ⟨b', c', _, _, _, rfl⟩ := mem_gridR.1 hy
  exact .inl (by simp only []; omega)
theorem grid_gv {f : Nat → Nat → Option Int} {N : Nat} (h0 : 1 ≤ N) (h8 : N ≤ 8) (hc : ∀ a b c, a < b → b < N → f a b = some c → 1 ≤ c ∧ c ≤ 20) (hl : (grid f N).length ≤ 14) : GV N (grid f N) := by
  refine gv_pw.2 ⟨by omega, by omega, hl, fun l hm => ?_, grid_pw f N⟩
  obtain ⟨a, b, c, h1, h2, h3, rfl⟩ := mem_grid.1 hm
  have := hc a b c h1 h2 h3
  exact ⟨by simp only []; omega, by simp only []; omega, by simp only []; omega, this.1, this.2⟩
def lc (ls : List Lk) (a b : Int) : Option Int := if 0 ≤ lof ls a b then some (lk ls (lof ls a b).toNat).c else none
theorem lc_some {ls : List Lk} {a b c : Int} (h : lc ls a b = some c) : (⟨min a b, max a b, c⟩ : Lk) ∈ ls := by
  unfold lc at h
  rcases lof_cases ls a b with ⟨e, _⟩ | ⟨k, e, hk, h1, h2⟩
  · rw [e] at h; simp at h
  · rw [e] at h
    rw [if_pos (by omega)] at h
    injection h with h
    rw [Int.toNat_natCast] at h
    have : (⟨min a b, max a b, c⟩ : Lk) = lk ls k := by rw [← h1, ← h2, ← h]
    rw [this]
    exact lk_mem hk
theorem lc_none {ls : List Lk} {a b : Int} (h : lc ls a b = none) : ∀ c, (⟨min a b, max a b, c⟩ : Lk) ∉ ls := by
  intro c hm
  unfold lc at h
  rcases lof_cases ls a b with ⟨e, hn⟩ | ⟨k, e, hk, h1, h2⟩
  · obtain ⟨i, hi, e2⟩ := mem_lk hm
    have := hn i hi
    rw [e2, show hitB (min a b) (max a b) ⟨min a b, max a b, c⟩ = true from hit_yes rfl rfl] at this
    cases this
  · rw [e, if_pos (by omega)] at h
    cases h
theorem pw_uniq {ls : List Lk} (h : ls.Pairwise lxl) {x y : Lk} (hx : x ∈ ls) (hy : y ∈ ls) (ha : x.a = y.a) (hb : x.b = y.b) : x = y := by
  obtain ⟨i, hi, rfl⟩ := List.getElem_of_mem hx
  obtain ⟨j, hj, rfl⟩ := List.getElem_of_mem hy
  rcases Nat.lt_trichotomy i j with h1 | h1 | h1
  · have := List.pairwise_iff_getElem.1 h i j hi hj h1
    unfold lxl at this
    omega
  · subst h1; rfl
  · have := List.pairwise_iff_getElem.1 h j i hj hi h1
    unfold lxl at this
    omega
theorem GV.pw {n : Int} {ls : List Lk} (h : GV n ls) : ls.Pairwise lxl := (gv_pw.1 h).2.2.2.2
theorem lc_iff {ls : List Lk} (h : ls.Pairwise lxl) {a b c : Int} : lc ls a b = some c ↔ (⟨min a b, max a b, c⟩ : Lk) ∈ ls := by
  constructor
  · exact lc_some
  · intro hm
    cases e : lc ls a b with
    | none => exact absurd hm (lc_none e c)
    | some c' =>
      have := pw_uniq h (lc_some e) hm rfl rfl
      injection this with _ _ e3
      rw [e3]
theorem lc_symm (ls : List Lk) (a b : Int) : lc ls a b = lc ls b a := by
  have : lof ls a b = lof ls b a := by unfold lof; rw [show min a b = min b a by omega, show max a b = max b a by omega]
  unfold lc
  rw [this]
theorem lc_mem {ls : List Lk} (h : ls.Pairwise lxl) {l : Lk} (hl : l ∈ ls) (hab : l.a ≤ l.b) : lc ls l.a l.b = some l.c := (lc_iff h).2 (by rw [show min l.a l.b = l.a by omega, show max l.a l.b = l.b by omega]; exact hl)
theorem lc_cost {n : Int} {ls : List Lk} (h : GV n ls) {a b c : Int} (e : lc ls a b = some c) : 1 ≤ c ∧ c ≤ 20 := by
  have := h.ok (lc_some e)
  exact ⟨this.2.2.2.1, this.2.2.2.2⟩
theorem lc_lof {ls : List Lk} {a b : Int} : (lc ls a b).isSome = decide (0 ≤ lof ls a b) := by
  unfold lc
  by_cases h : 0 ≤ lof ls a b <;> simp [h]
theorem lc_at {ls : List Lk} {a b c : Int} (e : lc ls a b = some c) : 0 ≤ lof ls a b ∧ lof ls a b < ls.length ∧ lk ls (lof ls a b).toNat = ⟨min a b, max a b, c⟩ := by
  unfold lc at e
  rcases lof_cases ls a b with ⟨e1, hn⟩ | ⟨k, e1, hk, h1, h2⟩
  · rw [e1] at e; simp at e
  · rw [e1, if_pos (by omega), Int.toNat_natCast] at e
    injection e with e
    rw [e1, Int.toNat_natCast]
    exact ⟨by omega, by omega, by rw [← h1, ← h2, ← e]⟩
theorem lc_no {ls : List Lk} {a b : Int} (e : lc ls a b = none) : lof ls a b = -1 := by
  unfold lc at e
  rcases lof_cases ls a b with ⟨e1, hn⟩ | ⟨k, e1, hk, h1, h2⟩
  · exact e1
  · rw [e1, if_pos (by omega)] at e; cases e
theorem GV.grid {N : Nat} {ls : List Lk} (h : GV N ls) : grid (fun a b => lc ls a b) N = ls := by
  refine pw_ext (grid_pw _ N) h.pw fun l => ?_
  rw [mem_grid]
  constructor
  · rintro ⟨a, b, c, h1, h2, h3, rfl⟩
    have := lc_some h3
    rwa [show min (a : Int) b = a by omega, show max (a : Int) b = b by omega] at this
  · intro hl
    have := h.ok hl
    unfold okL at this
    refine ⟨l.a.toNat, l.b.toNat, l.c, by omega, by omega, ?_, ?_⟩
    · rw [show ((l.a.toNat : Nat) : Int) = l.a by omega, show ((l.b.toNat : Nat) : Int) = l.b by omega]
      exact lc_mem h.pw hl (by omega)
    · rw [show ((l.a.toNat : Nat) : Int) = l.a by omega, show ((l.b.toNat : Nat) : Int) = l.b by omega]
end Go.Proofs.YtjffopopheiinaaGreat
end
section
namespace Go.Proofs.YtjffopopheiinaaGreat
open Go.RowKit
set_option linter.unusedSimpArgs false
set_option linter.unusedVariables false

theorem at_int (zs : List Int) (i : Nat) : at! .int zs i = iz zs i := by
  induction zs generalizing i with
  | nil => rfl
  | cons z r ih => cases i with
    | zero => rfl
    | succ i => exact (ih i).trans (by simp [iz])
theorem at_lk (ls : List Lk) (i : Nat) : at! .lk ls i = lk ls i := by
  induction ls generalizing i with
  | nil => rfl
  | cons z r ih => cases i with
    | zero => rfl
    | succ i => exact (ih i).trans (by simp [lk])
abbrev Fits {α : Type} (l : List α) : Prop := l.length ≤ 4611686018427387904
theorem zFm (a b c : Int) : zKe (a, b, c, ()) = some (inB a b c, ()) := by
  unfold zKe inB
  by_cases h : b ≤ a <;> simp [h]
theorem e_l6In (a b c : Int) : zK2 (a, b, c, ()) = some (inB a b c, ()) := by
  unfold zK2 inB
  by_cases h : b ≤ a <;> simp [h]
theorem fuel_lt {n : Nat} (h : n ≤ 4611686018427387904) : n < fuel := by unfold fuel; omega
theorem toN (k : Nat) : Int.toNat (k : Int) = k := rfl
theorem toN1 (k : Nat) : Int.toNat ((k : Int) - 1) = k - 1 := by omega

theorem zCM (n : Int) (ls : List Lk) (hl : Fits ls) : zJI (n, ls, ()) = some (gv n ls, ()) := by
  unfold zJI
  simp only [zFm, Option.bind_some, nI_eq]
  cases h1 : inB n 1 8 with
  | false => simp; rw [gv_f fun g => inB_f h1 ⟨g.1, g.2.1⟩]
  | true =>
  have h1 := inB_t h1
  by_cases h2 : ls.length ≤ 14
  case neg => 
    have : (14 : Int) < ls.length := by omega
    simp [this]; rw [gv_f fun g => h2 g.2.2.1]
  have h2' : ¬ (14 : Int) < ls.length := by omega
  simp only [h2', decide_false, cond_false, Bool.not_true]
  refine Sat.out (Sat.bnd (R := fun r => match r with | .inl _ => gv n ls = true | .inr y => y.1 = gv n ls) ?_ ?_)
  · refine Sat.count ls.length (fun k s => s = (ls, (ls.length : Int), (k : Int), n, ls, ()) ∧ ∀ i, i < k → LkAt n ls i) ?_ (Nat.zero_le _) (fuel_lt (by omega)) ⟨rfl, fun i hi => by omega⟩
    rintro k s hk ⟨rfl, hok⟩
    simp (disch := omega) only [zBu, at_lk, toN, toN1, w64, zFm, Option.bind_some]
    repeat' (first
      | refine Sat.some ?_
      | fail
      | (refine Sat.gd (by first | exact inR_t (by omega) (by omega) | (simp (disch := omega) only [w64]; exact inR_t (by omega) (by omega))) ?_)
      | (refine Sat.ite (fun h => ?_) (fun h => ?_) <;> try simp only [decide_eq_true_eq, decide_eq_false_iff_not, Bool.not_eq_true', Bool.not_eq_false', inB_i, inB_j, Bool.and_eq_true, Bool.or_eq_true, Bool.and_eq_false_iff, Bool.or_eq_false_iff, El] at h))
    all_goals dsimp only
    all_goals first
      | exact (gv_at (k := k) (by omega) fun _ _ g => by unfold LkAt at g; omega).symm
      | (refine ⟨by omega, rfl, fun i hi => ?_⟩
         by_cases e : i < k
         · exact hok i e
         · obtain rfl : i = k := by omega
           unfold LkAt
           omega)
      | (obtain rfl : k = ls.length := by omega
         exact decide_eq_true ⟨h1.1, h1.2, h2, hok⟩)
  · rintro (r | r) hr
    · exact .some (by simp [hr])
    · obtain ⟨b, u⟩ := r
      have hr : b = gv n ls := hr
      exact .some (by first | rw [hr] | exact Prod.ext hr rfl)

theorem zEk (n : Int) (ls : List Lk) (hl : Fits ls) : zKC (n, ls, ()) = some (gv n ls, ()) := by
  unfold zKC
  refine Sat.out (Sat.bnd (R := fun r => match r with | .inl x => x = (n, ls, ()) ∧ gv n ls = (inB n 1 8 && decide ((ls.length : Int) ≤ 14)) | .inr y => y.1 = false ∧ gv n ls = false) ?_ ?_)
  · refine Sat.count ls.length (fun k s => s = ((k : Int), n, ls, ()) ∧ (1 ≤ n → n ≤ 8 → ∀ i, i < k → LkAt n ls i)) ?_ (Nat.zero_le _) (fuel_lt (by omega)) ⟨rfl, fun _ _ i hi => by omega⟩
    rintro k s hk ⟨rfl, hok⟩
    simp (disch := omega) only [zB8, at_lk, toN, toN1, w64, nI_eq, e_l6In, Option.bind_some]
    repeat' (first
      | refine Sat.some ?_
      | fail
      | (refine Sat.gd (by first | exact inR_t (by omega) (by omega) | (simp (disch := omega) only [w64]; exact inR_t (by omega) (by omega))) ?_)
      | (refine Sat.ite (fun h => ?_) (fun h => ?_) <;> try simp only [decide_eq_true_eq, decide_eq_false_iff_not, Bool.not_eq_true', Bool.not_eq_false', inB_i, inB_j, Bool.and_eq_true, Bool.or_eq_true, Bool.and_eq_false_iff, Bool.or_eq_false_iff, El] at h))
    all_goals dsimp only
    all_goals first
      | (refine ⟨rfl, gv_at (k := k) (by omega) fun h1 h2 g => ?_⟩
         unfold LkAt at g
         have e1 : wrap64 (n - 1) = n - 1 := w64 (by omega) (by omega)
         have e2 : wrap64 ((lk ls k).a + 1) = (lk ls k).a + 1 := w64 (by omega) (by omega)
         simp only [e1, e2] at *
         omega)
      | (refine ⟨by omega, rfl, fun h1 h2 i hi => ?_⟩
         by_cases e : i < k
         · exact hok h1 h2 i e
         · obtain rfl : i = k := by omega
           have e1 : wrap64 (n - 1) = n - 1 := w64 (by omega) (by omega)
           simp only [e1] at *
           have e2 : wrap64 ((lk ls i).a + 1) = (lk ls i).a + 1 := w64 (by omega) (by omega)
           simp only [e2] at *
           unfold LkAt
           omega)
      | exact ⟨rfl, gv_end (show ls.length = k by omega) hok ▸ (by rw [show ls.length = k by omega])⟩
  · rintro (r | r) hr
    · have hr : r = (n, ls, ()) ∧ gv n ls = (inB n 1 8 && decide ((ls.length : Int) ≤ 14)) := hr
      obtain ⟨rfl, hr⟩ := hr
      simp only [e_l6In, Option.bind_some, nI_eq, hr]
      cases inB n 1 8 <;> exact .some rfl
    · obtain ⟨b, u⟩ := r
      have hr : b = false ∧ gv n ls = false := hr
      exact .some (by first | rw [hr.1, hr.2] | exact Prod.ext hr.1 (Prod.ext hr.2 rfl))
theorem eqInts_self : ∀ xs : List Int, eqInts xs xs = true
  | [] => rfl
  | x :: r => by simp [eqInts, eqInts_self r]
theorem zEr (n : Int) (ls : List Lk) (hl : Fits ls) : zKj (n, ls, n, ls, ()) = some (true, ()) := by
  unfold zKj
  simp only [decide_true, Bool.not_true, cond_false]
  refine Sat.out (Sat.bnd (R := fun r => match r with | .inl _ => True | .inr _ => False) ?_ ?_)
  · refine Sat.count ls.length (fun k s => s = ((k : Int), n, ls, n, ls, ())) ?_ (Nat.zero_le _) (fuel_lt (by omega)) rfl
    rintro k s hk rfl
    simp (disch := omega) only [zBY, at_lk, toN, w64, nI_eq, eqInts_self, Bool.not_true, cond_false]
    repeat' (first
      | refine Sat.some ?_
      | fail
      | (refine Sat.gd (by first | exact inR_t (by omega) (by omega) | (simp (disch := omega) only [w64]; exact inR_t (by omega) (by omega))) ?_)
      | (refine Sat.ite (fun h => ?_) (fun h => ?_) <;> try simp only [decide_eq_true_eq, decide_eq_false_iff_not, Bool.not_eq_true', Bool.not_eq_false', inB_i, inB_j, Bool.and_eq_true, Bool.or_eq_true, Bool.and_eq_false_iff, Bool.or_eq_false_iff, El] at h))
    all_goals dsimp only
    · exact ⟨by omega, rfl⟩
  · rintro (r | r) hr
    · exact .some rfl
    · exact hr.elim
theorem zEs (zs : List Int) (hl : Fits zs) : zKk (zs, zs, ()) = some (true, ()) := by
  unfold zKk
  simp only [decide_true, Bool.not_true, cond_false]
  refine Sat.out (Sat.bnd (R := fun r => match r with | .inl _ => True | .inr _ => False) ?_ ?_)
  · refine Sat.count zs.length (fun k s => s = (zs, zs, (k : Int), ())) ?_ (Nat.zero_le _) (fuel_lt (by omega)) rfl
    rintro k s hk rfl
    simp (disch := omega) only [zBZ, at_int, toN, w64, nI_eq, decide_true, Bool.not_true, cond_false]
    repeat' (first
      | refine Sat.some ?_
      | fail
      | (refine Sat.gd (by first | exact inR_t (by omega) (by omega) | (simp (disch := omega) only [w64]; exact inR_t (by omega) (by omega))) ?_)
      | (refine Sat.ite (fun h => ?_) (fun h => ?_) <;> try simp only [decide_eq_true_eq, decide_eq_false_iff_not, Bool.not_eq_true', Bool.not_eq_false', inB_i, inB_j, Bool.and_eq_true, Bool.or_eq_true, Bool.and_eq_false_iff, Bool.or_eq_false_iff, El] at h))
    all_goals dsimp only
    · exact ⟨by omega, rfl⟩
  · rintro (r | r) hr
    · exact .some rfl
    · exact hr.elim
end Go.Proofs.YtjffopopheiinaaGreat

namespace Go.Proofs.YtjffopopheiinaaGreat
open Go.RowKit
set_option linter.unusedSimpArgs false
set_option linter.unusedVariables false

theorem zDO (n : Int) (ls : List Lk) (a b : Int) (hl : Fits ls) : zKN (n, ls, a, b, ()) = some (lof ls a b, ()) := by
  unfold zKN
  refine Sat.out (Sat.bnd (R := fun r => match r with | .inl _ => lof ls a b = -1 | .inr y => y.1 = lof ls a b) ?_ ?_)
  · refine Sat.count ls.length (fun k s => s = (a, b, (k : Int), n, ls, ()) ∧ ∀ i, i < k → hitB (min a b) (max a b) (lk ls i) = false) ?_ (Nat.zero_le _) (fuel_lt (by omega)) ⟨rfl, fun i hi => by omega⟩
    rintro k s hk ⟨rfl, hok⟩
    simp (disch := omega) only [zCm, at_lk, toN, w64, nI_eq]
    repeat' (first
      | refine Sat.some ?_
      | fail
      | (refine Sat.gd (by first | exact inR_t (by omega) (by omega) | (simp (disch := omega) only [w64]; exact inR_t (by omega) (by omega))) ?_)
      | (refine Sat.ite (fun h => ?_) (fun h => ?_) <;> try simp only [decide_eq_true_eq, decide_eq_false_iff_not, Bool.not_eq_true', Bool.not_eq_false', inB_i, inB_j, Bool.and_eq_true, Bool.or_eq_true, Bool.and_eq_false_iff, Bool.or_eq_false_iff, El] at h))
    all_goals try dsimp only
    all_goals first
      | (exact (lof_hit (by omega) (hit_yes (by assumption) (by assumption)) hok).symm)
      | (refine ⟨by omega, rfl, fun i hi => ?_⟩
         by_cases e : i < k
         · exact hok i e
         · obtain rfl : i = k := by omega
           exact hit_no (by omega))
      | exact lof_miss fun i hi => hok i (by omega)
  · rintro (r | r) hr
    · have hr : lof ls a b = -1 := hr
      exact .some (by first | rw [hr] | exact Prod.ext hr rfl)
    · obtain ⟨z, u⟩ := r
      have hr : z = lof ls a b := hr
      exact .some (by first | rw [hr] | exact Prod.ext hr rfl)
theorem zEc (n : Int) (ls : List Lk) (a b : Int) (hl : Fits ls) : zJL (n, ls, a, b, ()) = some (lof ls a b, ()) := by
  unfold zJL zKu
  refine Sat.out (Sat.bnd (R := fun r => r.1 = lof ls a b) (Sat.bnd (R := fun r => match r with | .inl _ => lof ls a b = -1 | .inr y => y.1 = lof ls a b) ?_ ?_) ?_)
  · refine Sat.count ls.length (fun k s => s = (ls, a, b, (ls.length : Int), (k : Int), ()) ∧ ∀ i, i < k → hitB (min a b) (max a b) (lk ls i) = false) ?_ (Nat.zero_le _) (fuel_lt (by omega)) ⟨by simp [nI_eq], fun i hi => by omega⟩
    rintro k s hk ⟨rfl, hok⟩
    have e1 : ∀ x y z p q : Int, zJM (x, y, z, p, q, ()) = some (decide (x = min p q) && decide (y = max p q), ()) := fun x y z p q => by
      unfold zJM
      by_cases h : x = min p q <;> simp [h]
    simp (disch := omega) only [zB4, at_lk, toN, w64, nI_eq, e1, Option.bind_some]
    repeat' (first
      | refine Sat.some ?_
      | fail
      | (refine Sat.gd (by first | exact inR_t (by omega) (by omega) | (simp (disch := omega) only [w64]; exact inR_t (by omega) (by omega))) ?_)
      | (refine Sat.ite (fun h => ?_) (fun h => ?_) <;> try simp only [decide_eq_true_eq, decide_eq_false_iff_not, Bool.not_eq_true', Bool.not_eq_false', inB_i, inB_j, Bool.and_eq_true, Bool.or_eq_true, Bool.and_eq_false_iff, Bool.or_eq_false_iff, El] at h))
    all_goals try dsimp only
    all_goals first
      | (exact (lof_hit (by omega) (hit_yes (by omega) (by omega)) hok).symm)
      | (refine ⟨by omega, rfl, fun i hi => ?_⟩
         by_cases e : i < k
         · exact hok i e
         · obtain rfl : i = k := by omega
           exact hit_no (by omega))
      | exact lof_miss fun i hi => hok i (by omega)
  · rintro (r | r) hr
    · have hr : lof ls a b = -1 := hr
      exact .some (by first | rw [hr] | exact Prod.ext hr rfl)
    · exact .some hr
  · rintro ⟨z, u⟩ hr
    have hr : z = lof ls a b := hr
    exact .some (by first | rw [hr] | exact Prod.ext hr rfl)
theorem zEg (a b c n : Int) : zJP (a, b, c, n, ()) = some (otherE ⟨a, b, c⟩ n, isEnd ⟨a, b, c⟩ n, ()) := by
  unfold zJP otherE isEnd
  by_cases h : n = a
  · simp [h]
  · by_cases h' : n = b
    · subst h'; simp [h]
    · simp [h, h']
theorem zEf (n : Int) (ls : List Lk) (m : Int) (hl : ls.length ≤ 16777216) : zJO (n, ls, m, ()) = some (sortI (others ls m ls.length), ()) := by
  unfold zJO
  refine Sat.out (Sat.bnd (R := fun r => match r with | .inl x => x.1 = others ls m ls.length | .inr _ => False) ?_ ?_)
  · refine Sat.count ls.length (fun k s => s = (m, ls, (ls.length : Int), (k : Int), others ls m k, ())) ?_ (Nat.zero_le _) (fuel_lt (by omega)) (by simp [nI_eq, others])
    rintro k s hk rfl
    have hlen := others_len ls m k
    simp (disch := omega) only [zBy, at_lk, toN, w64, nI_eq, zEg, Option.bind_some, List.length_singleton]
    repeat' (first
      | refine Sat.some ?_
      | (refine Sat.gd (decide_eq_true (by omega)) ?_)
      | (refine Sat.gd (by first | exact inR_t (by omega) (by omega) | (simp (disch := omega) only [w64]; exact inR_t (by omega) (by omega))) ?_)
      | (refine Sat.ite (fun h => ?_) (fun h => ?_) <;> try simp only [decide_eq_true_eq, decide_eq_false_iff_not, Bool.not_eq_true', Bool.not_eq_false', inB_i, inB_j, Bool.and_eq_true, Bool.or_eq_true, Bool.and_eq_false_iff, Bool.or_eq_false_iff, El] at h))
    all_goals try dsimp only
    all_goals first
      | (refine ⟨by omega, ?_⟩
         rw [others_succ ls m k (by omega)]
         simp [*])
      | (obtain rfl : k = ls.length := by omega
         rfl)
  · rintro (r | r) hr
    · have hr : r.1 = others ls m ls.length := hr
      show Sat ((zKx (r.1, ())).bind _) _
      rw [hr]
      have hlen := others_len ls m ls.length
      unfold zKx
      rw [decide_eq_true (show (others ls m ls.length).length ≤ 16777216 by omega)]
      exact .some rfl
    · exact hr.elim
theorem zEj (n : Int) (ls : List Lk) (m : Int) (hl : Fits ls) : zKB (n, ls, m, ()) = some (if gv n ls then nbS ls m 8 else [], ()) := by
  unfold zKB
  refine Sat.out (Sat.bnd (R := fun r => match r with | .inl x => x.1 = if gv n ls then nbS ls m 8 else [] | .inr _ => False) ?_ ?_)
  · cases hg : gv n ls with
    | false =>
      refine Sat.count 0 (fun k s => s = (m, (0 : Int), n, ls, ([] : List Int), ())) ?_ (Nat.zero_le _) (fuel_lt (by omega)) rfl
      rintro k s hk rfl
      simp only [zB7, zEk n ls hl, Option.bind_some, hg]
      exact .some (by simp)
    | true =>
      refine Sat.count 8 (fun k s => s = (m, (k : Int), n, ls, nbS ls m k, ())) ?_ (Nat.zero_le _) (fuel_lt (by omega)) rfl
      rintro k s hk rfl
      have hlen := nbS_len ls m k
      simp (disch := omega) only [zB7, zEk n ls hl, zDO _ _ _ _ hl, Option.bind_some, hg, w64, List.length_singleton, cond_true]
      repeat' (first
        | refine Sat.some ?_
        | (refine Sat.gd (decide_eq_true (by omega)) ?_)
        | (refine Sat.gd (by first | exact inR_t (by omega) (by omega) | (simp (disch := omega) only [w64]; exact inR_t (by omega) (by omega))) ?_)
        | (refine Sat.ite (fun h => ?_) (fun h => ?_) <;> try simp only [decide_eq_true_eq, decide_eq_false_iff_not, Bool.not_eq_true', Bool.not_eq_false', inB_i, inB_j, Bool.and_eq_true, Bool.or_eq_true, Bool.and_eq_false_iff, Bool.or_eq_false_iff, El] at h))
      all_goals try dsimp only
      all_goals first
        | (refine ⟨by omega, ?_⟩
           rw [nbS_succ]
           simp [*])
        | (obtain rfl : k = 8 := by omega
           rfl)
  · rintro (r | r) hr
    · have hr : r.1 = if gv n ls then nbS ls m 8 else [] := hr
      exact .some (by first | rw [hr] | exact Prod.ext hr rfl)
    · exact hr.elim
end Go.Proofs.YtjffopopheiinaaGreat

namespace Go.Proofs.YtjffopopheiinaaGreat
open Go.RowKit
set_option linter.unusedSimpArgs false
set_option linter.unusedVariables false
set_option maxRecDepth 100000

section
variable {n : Nat} {ls : List Lk}
end
end Go.Proofs.YtjffopopheiinaaGreat

namespace Go.Proofs.YtjffopopheiinaaGreat
open Go.RowKit
set_option linter.unusedSimpArgs false
set_option linter.unusedVariables false
set_option maxRecDepth 100000

section
variable {n : Nat} {ls : List Lk}
end
end Go.Proofs.YtjffopopheiinaaGreat

namespace Go.Proofs.YtjffopopheiinaaGreat
open Go.RowKit
set_option linter.unusedSimpArgs false
set_option linter.unusedVariables false
set_option maxRecDepth 100000

section
variable {N : Nat} {la lb : List Lk} {bs : List Int}
end
end Go.Proofs.YtjffopopheiinaaGreat

namespace Go.Proofs.YtjffopopheiinaaGreat
open Go.RowKit
set_option linter.unusedSimpArgs false
set_option linter.unusedVariables false
set_option maxRecDepth 100000

section
variable {N : Nat} {la lb : List Lk} {bs : List Int}
end
end Go.Proofs.YtjffopopheiinaaGreat

namespace Go.Proofs.YtjffopopheiinaaGreat
open Go.RowKit
set_option linter.unusedSimpArgs false
set_option linter.unusedVariables false
set_option maxRecDepth 100000

section
variable {N : Nat} {la lb : List Lk} {bs : List Int}
end
end Go.Proofs.YtjffopopheiinaaGreat
end
section
namespace Go.Proofs.YtjffopopheiinaaGreat
open Go.RowKit
set_option linter.unusedSimpArgs false
set_option linter.unusedVariables false
set_option maxRecDepth 100000

def en (es : List En) (i : Nat) : En := es.getD i ⟨0, 0⟩
def lsa (db : List Ls) (i : Nat) : Ls := db.getD i ⟨0, 0, []⟩
theorem at_en (es : List En) (i : Nat) : at! .en es i = en es i := by
  induction es generalizing i with
  | nil => rfl
  | cons z r ih => cases i with
    | zero => rfl
    | succ i => exact (ih i).trans (by simp [en])
theorem at_ls (es : List Ls) (i : Nat) : at! .ls es i = lsa es i := by
  induction es generalizing i with
  | nil => rfl
  | cons z r ih => cases i with
    | zero => rfl
    | succ i => exact (ih i).trans (by simp [lsa])
theorem en_get {es : List En} {i : Nat} (h : i < es.length) : en es i = es[i] := by simp [en, h]
theorem lsa_get {es : List Ls} {i : Nat} (h : i < es.length) : lsa es i = es[i] := by simp [lsa, h]
def EnAt (o : Int) (es : List En) (i : Nat) : Prop := 0 ≤ (en es i).n ∧ (en es i).n ≤ 7 ∧ (en es i).n ≠ o ∧ 1 ≤ (en es i).c ∧ (en es i).c ≤ 20 ∧ (0 < i → (en es (i - 1)).n < (en es i).n)
instance (o : Int) (es : List En) (i : Nat) : Decidable (EnAt o es i) := by unfold EnAt; infer_instance
def LsV (l : Ls) : Prop := 0 ≤ l.o ∧ l.o ≤ 7 ∧ 1 ≤ l.s ∧ l.s ≤ 99 ∧ ∀ i, i < l.e.length → EnAt l.o l.e i
instance (l : Ls) : Decidable (LsV l) := by unfold LsV; infer_instance
def lsv (o s : Int) (es : List En) : Bool := decide (LsV ⟨o, s, es⟩)
theorem lsv_f {o s : Int} {es : List En} (h : ¬ LsV ⟨o, s, es⟩) : lsv o s es = false := decide_eq_false h
theorem lsv_t {o s : Int} {es : List En} (h : LsV ⟨o, s, es⟩) : lsv o s es = true := decide_eq_true h
theorem zCN (o s : Int) (es : List En) (hl : Fits es) : zJQ (o, s, es, ()) = some (lsv o s es, ()) := by
  unfold zJQ
  simp only [zFm, Option.bind_some, nI_eq]
  cases h1 : inB o 0 7 with
  | false => simp; exact lsv_f fun g => inB_f h1 ⟨g.1, g.2.1⟩
  | true =>
  cases h2 : inB s 1 99 with
  | false => simp; exact lsv_f fun g => inB_f h2 ⟨g.2.2.1, g.2.2.2.1⟩
  | true =>
  have h1 := inB_t h1
  have h2 := inB_t h2
  simp only [Bool.not_true, cond_false]
  refine Sat.out (Sat.bnd (R := fun r => match r with | .inl _ => lsv o s es = true | .inr y => y.1 = false ∧ lsv o s es = false) ?_ ?_)
  · refine Sat.count es.length (fun k t => t = (es, (es.length : Int), (k : Int), o, s, es, ()) ∧ ∀ i, i < k → EnAt o es i) ?_ (Nat.zero_le _) (fuel_lt (by omega)) ⟨rfl, fun i hi => by omega⟩
    rintro k t hk ⟨rfl, hok⟩
    simp (disch := omega) only [zBz, at_en, toN, toN1, w64, zFm, Option.bind_some]
    repeat' (first
      | refine Sat.some ?_
      | fail
      | (refine Sat.gd (by first | exact inR_t (by omega) (by omega) | (simp (disch := omega) only [w64]; exact inR_t (by omega) (by omega))) ?_)
      | (refine Sat.ite (fun h => ?_) (fun h => ?_) <;> try simp only [decide_eq_true_eq, decide_eq_false_iff_not, Bool.not_eq_true', Bool.not_eq_false', inB_i, inB_j, Bool.and_eq_true, Bool.or_eq_true, Bool.and_eq_false_iff, Bool.or_eq_false_iff, El] at h))
    all_goals try dsimp only
    all_goals first
      | (refine ⟨rfl, decide_eq_false fun g => ?_⟩
         have := g.2.2.2.2 k (by dsimp only; omega)
         unfold EnAt at this
         dsimp only at this
         omega)
      | (refine ⟨by omega, rfl, fun i hi => ?_⟩
         by_cases e : i < k
         · exact hok i e
         · obtain rfl : i = k := by omega
           unfold EnAt
           omega)
      | exact decide_eq_true ⟨h1.1, h1.2, h2.1, h2.2, fun i hi => hok i (by dsimp only at hi; omega)⟩
  · rintro (r | r) hr
    · have hr : lsv o s es = true := hr
      exact .some (by first | rw [hr] | exact Prod.ext hr rfl)
    · obtain ⟨b, u⟩ := r
      have hr : b = false ∧ lsv o s es = false := hr
      exact .some (by first | rw [hr.1, hr.2] | exact Prod.ext hr.1 (Prod.ext hr.2 rfl))
theorem zEl (o s : Int) (es : List En) (hl : Fits es) : zKD (o, s, es, ()) = some (lsv o s es, ()) := by
  unfold zKD
  refine Sat.out (Sat.bnd (R := fun r => match r with | .inl x => x = (o, s, es, ()) ∧ ∀ i, i < es.length → EnAt o es i | .inr y => y.1 = false ∧ lsv o s es = false) ?_ ?_)
  · refine Sat.count es.length (fun k t => t = ((k : Int), o, s, es, ()) ∧ ∀ i, i < k → EnAt o es i) ?_ (Nat.zero_le _) (fuel_lt (by omega)) ⟨rfl, fun i hi => by omega⟩
    rintro k t hk ⟨rfl, hok⟩
    simp (disch := omega) only [zB9, at_en, toN, toN1, w64, nI_eq, e_l6In, Option.bind_some]
    repeat' (first
      | refine Sat.some ?_
      | fail
      | (refine Sat.gd (by first | exact inR_t (by omega) (by omega) | (simp (disch := omega) only [w64]; exact inR_t (by omega) (by omega))) ?_)
      | (refine Sat.ite (fun h => ?_) (fun h => ?_) <;> try simp only [decide_eq_true_eq, decide_eq_false_iff_not, Bool.not_eq_true', Bool.not_eq_false', inB_i, inB_j, Bool.and_eq_true, Bool.or_eq_true, Bool.and_eq_false_iff, Bool.or_eq_false_iff, El] at h))
    all_goals try dsimp only
    all_goals first
      | (refine ⟨rfl, decide_eq_false fun g => ?_⟩
         have := g.2.2.2.2 k (by dsimp only; omega)
         unfold EnAt at this
         dsimp only at this
         omega)
      | (refine ⟨by omega, rfl, fun i hi => ?_⟩
         by_cases e : i < k
         · exact hok i e
         · obtain rfl : i = k := by omega
           unfold EnAt
           omega)
      | exact ⟨rfl, fun i hi => hok i (by omega)⟩
  · rintro (r | r) hr
    · have hr : r = (o, s, es, ()) ∧ ∀ i, i < es.length → EnAt o es i := hr
      obtain ⟨rfl, hq⟩ := hr
      simp only [e_l6In, Option.bind_some]
      cases h1 : inB o 0 7 with
      | false => exact .some (by rw [show lsv o s es = false from decide_eq_false fun g => inB_f h1 ⟨g.1, g.2.1⟩])
      | true =>
        cases h2 : inB s 1 99 with
        | false => exact .some (by rw [show lsv o s es = false from decide_eq_false fun g => inB_f h2 ⟨g.2.2.1, g.2.2.2.1⟩])
        | true =>
          have h1 := inB_t h1
          have h2 := inB_t h2
          exact .some (by rw [show lsv o s es = true from decide_eq_true ⟨h1.1, h1.2, h2.1, h2.2, hq⟩])
    · obtain ⟨b, u⟩ := r
      have hr : b = false ∧ lsv o s es = false := hr
      exact .some (by first | rw [hr.1, hr.2] | exact Prod.ext hr.1 (Prod.ext hr.2 rfl))
def DbV (db : List Ls) : Prop := ∀ i, i < db.length → LsV (lsa db i) ∧ (0 < i → (lsa db (i - 1)).o < (lsa db i).o)
instance (db : List Ls) : Decidable (DbV db) := by unfold DbV; infer_instance
def dbv (db : List Ls) : Bool := decide (DbV db)
theorem zCK (db : List Ls) (hl : Fits db) (he : ∀ l ∈ db, Fits l.e) : zJH (db, ()) = some (dbv db, ()) := by
  unfold zJH
  refine Sat.out (Sat.bnd (R := fun r => match r with | .inl _ => dbv db = true | .inr y => y.1 = false ∧ dbv db = false) ?_ ?_)
  · refine Sat.count db.length (fun k t => t = (db, db, (db.length : Int), (k : Int), ()) ∧ ∀ i, i < k → LsV (lsa db i) ∧ (0 < i → (lsa db (i - 1)).o < (lsa db i).o)) ?_ (Nat.zero_le _) (fuel_lt (by omega)) ⟨by simp [nI_eq], fun i hi => by omega⟩
    rintro k t hk ⟨rfl, hok⟩
    by_cases hlt : k < db.length
    · have hf : Fits (lsa db k).e := he _ (by rw [lsa_get hlt]; exact List.getElem_mem hlt)
      simp (disch := omega) only [zBt, at_ls, toN, toN1, w64, zCN _ _ _ hf, Option.bind_some]
      repeat' (first
        | refine Sat.some ?_
        | fail
        | (refine Sat.gd (by first | exact inR_t (by omega) (by omega) | (simp (disch := omega) only [w64]; exact inR_t (by omega) (by omega))) ?_)
        | (refine Sat.ite (fun h => ?_) (fun h => ?_) <;> try simp only [decide_eq_true_eq, decide_eq_false_iff_not, Bool.not_eq_true', Bool.not_eq_false', inB_i, inB_j, Bool.and_eq_true, Bool.or_eq_true, Bool.and_eq_false_iff, Bool.or_eq_false_iff, El] at h))
      all_goals try dsimp only
      all_goals first
        | (refine ⟨rfl, decide_eq_false fun g => ?_⟩
           have := g k hlt
           first | exact of_decide_eq_false (by assumption) this.1 | omega)
        | (refine ⟨by omega, rfl, fun i hi => ?_⟩
           by_cases e : i < k
           · exact hok i e
           · obtain rfl : i = k := by omega
             exact ⟨of_decide_eq_true (by assumption), fun _ => by omega⟩)
        | omega
    · obtain rfl : k = db.length := by omega
      unfold zBt
      simp only [decide_eq_false (show ¬ (db.length : Int) < db.length by omega), cond_false]
      exact .some (decide_eq_true hok)
  · rintro (r | r) hr
    · have hr : dbv db = true := hr
      exact .some (by first | rw [hr] | exact Prod.ext hr rfl)
    · obtain ⟨b, u⟩ := r
      have hr : b = false ∧ dbv db = false := hr
      exact .some (by first | rw [hr.1, hr.2] | exact Prod.ext hr.1 (Prod.ext hr.2 rfl))
def fd (db : List Ls) (o : Int) : Option Ls := db.find? fun l => decide (l.o = o)
def ec (es : List En) (b : Int) : Int := match es.find? (fun e => decide (e.n = b)) with | some e => e.c | none => 0
def ann (db : List Ls) (a b : Int) : Int := match fd db a with | some l => ec l.e b | none => 0
theorem find_hit {α : Type} {p : α → Bool} {l : List α} {k : Nat} (hk : k < l.length) (h : p l[k] = true) (hn : ∀ i (hi : i < l.length), i < k → p l[i] = false) : l.find? p = some l[k] := by
  rw [List.find?_eq_some_iff_getElem]
  exact ⟨h, k, hk, rfl, fun j hj => by simp [hn j (by omega) hj]⟩
theorem find_miss {α : Type} {p : α → Bool} {l : List α} (hn : ∀ i (hi : i < l.length), p l[i] = false) : l.find? p = none := by
  rw [List.find?_eq_none]
  intro x hx
  obtain ⟨i, hi, rfl⟩ := List.getElem_of_mem hx
  simp [hn i hi]
theorem zDI (db : List Ls) (o : Int) (hl : Fits db) : zKH (db, o, ()) = some (match fd db o with | some l => (l.o, l.s, l.e, true, ()) | none => (0, 0, [], false, ())) := by
  unfold zKH
  refine Sat.out (Sat.bnd (R := fun r => match r with | .inl _ => fd db o = none | .inr y => ∃ l, fd db o = some l ∧ y = (true, l.o, l.s, l.e, ())) ?_ ?_)
  · refine Sat.count db.length (fun k t => t = (db, o, (k : Int), 0, 0, [], ()) ∧ ∀ i, i < k → (lsa db i).o ≠ o) ?_ (Nat.zero_le _) (fuel_lt (by omega)) ⟨rfl, fun i hi => by omega⟩
    rintro k t hk ⟨rfl, hok⟩
    simp (disch := omega) only [zCh, at_ls, toN, w64, nI_eq]
    repeat' (first
      | refine Sat.some ?_
      | fail
      | (refine Sat.gd (by first | exact inR_t (by omega) (by omega) | (simp (disch := omega) only [w64]; exact inR_t (by omega) (by omega))) ?_)
      | (refine Sat.ite (fun h => ?_) (fun h => ?_) <;> try simp only [decide_eq_true_eq, decide_eq_false_iff_not, Bool.not_eq_true', Bool.not_eq_false', inB_i, inB_j, Bool.and_eq_true, Bool.or_eq_true, Bool.and_eq_false_iff, Bool.or_eq_false_iff, El] at h))
    all_goals try dsimp only
    · have hlt : k < db.length := by omega
      refine ⟨lsa db k, ?_, rfl⟩
      unfold fd
      rw [lsa_get hlt]
      exact find_hit hlt (decide_eq_true (by rw [← lsa_get hlt]; assumption)) fun i hi hik => decide_eq_false (by rw [← lsa_get hi]; exact hok i hik)
    · refine ⟨by omega, rfl, fun i hi => ?_⟩
      by_cases e : i < k
      · exact hok i e
      · obtain rfl : i = k := by omega
        assumption
    · exact find_miss fun i hi => decide_eq_false (by rw [← lsa_get hi]; exact hok i (by omega))
  · rintro (r | r) hr
    · have hr : fd db o = none := hr
      exact .some (by first | rw [hr] | exact Prod.ext hr rfl)
    · obtain ⟨l, h1, rfl⟩ := hr
      exact .some (by rw [h1])
end Go.Proofs.YtjffopopheiinaaGreat
end
section
namespace Go.Proofs.YtjffopopheiinaaGreat
open Go.RowKit
set_option linter.unusedSimpArgs false
set_option linter.unusedVariables false
set_option maxRecDepth 100000

theorem half {i j : Nat} (h : i + j ≤ 4611686018427387904) : wrap64 (shrK .u64 (wrapK .u64 (wrap64 ((i : Int) + (j : Int)))) 1) = (((i + j) / 2 : Nat) : Int) := by
  rw [w64 (x := (i : Int) + j) (by omega) (by omega)]
  have e : wrapK .u64 ((i : Int) + j) = (i : Int) + j := by
    simp [wrapK, IntKind.wrap, IntKind.signed, IntKind.bits]
    omega
  rw [e]
  unfold shrK
  rw [show (1 : Int).toNat = 1 from rfl, show min 1 (IntKind.bits .u64) = 1 from rfl]
  rw [Int.fdiv_eq_ediv_of_nonneg _ (by decide)]
  rw [w64 (by omega) (by omega)]
  omega
def IsPl (db : List Ls) (o : Int) (i : Nat) : Prop := i ≤ db.length ∧ (∀ x, x < i → (lsa db x).o < o) ∧ ∀ x, i ≤ x → x < db.length → o ≤ (lsa db x).o
def hasAt (db : List Ls) (o : Int) (i : Nat) : Bool := decide (i < db.length ∧ (lsa db i).o = o)
def Srt (db : List Ls) : Prop := ∀ i j, i < j → j < db.length → (lsa db i).o < (lsa db j).o
theorem DbV.srt {db : List Ls} (h : DbV db) : Srt db := by
  have step : ∀ d i, i + d + 1 < db.length → (lsa db i).o < (lsa db (i + d + 1)).o := fun d => by
    induction d with
    | zero => intro i hi; exact (h (i + 1) hi).2 (by omega)
    | succ d ih =>
      intro i hi
      have h1 := ih i (by omega)
      have h2 := (h (i + (d + 1) + 1) hi).2 (by omega)
      rw [Nat.add_sub_cancel] at h2
      rw [show i + (d + 1) = i + d + 1 by omega] at h2 ⊢
      omega
  intro i j hij hj
  have := step (j - i - 1) i (by omega)
  rwa [show i + (j - i - 1) + 1 = j by omega] at this
theorem e_cmp (a b : Int) : zJE (a, b, ()) = some (if a < b then -1 else if b < a then 1 else 0, ()) := by
  have e : ∀ x : Int, zJF (x, ()) = some (false, ()) := fun x => by simp [zJF]
  unfold zJE
  simp only [e, Option.bind_some, cond_false]
  by_cases h1 : a < b
  · simp [h1]
  · by_cases h2 : b < a <;> simp [h1, h2]
theorem zC3 (db : List Ls) (o : Int) (hs : Srt db) (hl : db.length ≤ 2000000000) : ∃ i : Nat, IsPl db o i ∧ zJ9 (db, o, ()) = some ((i : Int), hasAt db o i, ()) := by
  have hmono : ∀ i j, i ≤ j → j < db.length → (lsa db i).o ≤ (lsa db j).o := fun i j hij hj => by
    rcases Nat.eq_or_lt_of_le hij with e | e
    · subst e; exact Int.le_refl _
    · have := hs i j e hj; omega
  have key : Sat (zJ9 (db, o, ())) fun r => ∃ i : Nat, IsPl db o i ∧ r = ((i : Int), hasAt db o i, ()) := by
    unfold zJ9 zKn
    refine Sat.bnd (R := fun r => ∃ i : Nat, IsPl db o i ∧ r = ((i : Int), hasAt db o i, ())) (Sat.bnd (R := fun r => match r with | .inl x => ∃ i : Nat, IsPl db o i ∧ x = (db, o, (db.length : Int), (i : Int), ()) | .inr _ => False) ?_ ?_) ?_
    · refine Sat.loop (fun s => ∃ i j : Nat, s = (db, o, (db.length : Int), (i : Int), (j : Int), ()) ∧ i ≤ j ∧ j ≤ db.length ∧ (∀ x, x < i → (lsa db x).o < o) ∧ ∀ x, j ≤ x → x < db.length → o ≤ (lsa db x).o) (fun s => (s.2.2.2.2.1 - s.2.2.2.1).toNat) ?_ fuel _ ?_ ?_
      · rintro _ ⟨i, j, rfl, hij, hj, h1, h2⟩
        simp only [zB2, half (show i + j ≤ 4611686018427387904 by omega), at_ls, toN, zKa, e_cmp, Option.bind_some]
        refine Sat.ite (fun hlt => ?_) (fun hlt => ?_)
        · have hlt := of_decide_eq_true hlt
          have hm : (i + j) / 2 < j ∧ i ≤ (i + j) / 2 := by omega
          generalize (i + j) / 2 = m at *
          refine Sat.gd (inR_t (by omega) (by omega)) (Sat.ite (fun hc => ?_) (fun hc => ?_))
          · have hc := of_decide_eq_true hc
            have hc : (lsa db m).o < o := by
              by_cases h : (lsa db m).o < o
              · exact h
              · rw [if_neg h] at hc
                split at hc <;> omega
            rw [w64 (by omega) (by omega)]
            refine .some ⟨⟨m + 1, j, rfl, by omega, hj, fun x hx => ?_, h2⟩, by dsimp only; omega⟩
            have := hmono x m (by omega) (by omega)
            omega
          · have hc := of_decide_eq_false hc
            have hc : o ≤ (lsa db m).o := by
              by_cases h : (lsa db m).o < o
              · rw [if_pos h] at hc; omega
              · omega
            refine .some ⟨⟨i, m, rfl, by omega, by omega, h1, fun x hx hxl => ?_⟩, by dsimp only; omega⟩
            have := hmono m x hx hxl
            omega
        · have hlt := of_decide_eq_false hlt
          obtain rfl : i = j := by omega
          exact .some ⟨i, ⟨hj, h1, h2⟩, rfl⟩
      · rw [nI_eq]; dsimp only; unfold fuel; omega
      · exact ⟨0, db.length, by rw [nI_eq]; rfl, by omega, by omega, fun x hx => by omega, fun x hx hxl => by omega⟩
    · rintro (r | r) hr
      case inr => exact hr.elim
      obtain ⟨i, hi, rfl⟩ := hr
      simp only [at_ls, toN, zKa, e_cmp, Option.bind_some]
      refine Sat.ite (fun hlt => ?_) (fun hlt => ?_)
      · have hlt := of_decide_eq_true hlt
        refine Sat.gd (inR_t (by omega) (by omega)) (.some ⟨i, hi, ?_⟩)
        have hge := hi.2.2 i (Nat.le_refl _) (by omega)
        unfold hasAt
        by_cases h : (lsa db i).o = o
        · rw [decide_eq_true (show i < db.length ∧ (lsa db i).o = o from ⟨by omega, h⟩), h, if_neg (by omega), if_neg (by omega)]; rfl
        · rw [decide_eq_false (show ¬ (i < db.length ∧ (lsa db i).o = o) from fun g => h g.2), if_neg (by omega), if_pos (by omega)]; rfl
      · have hlt := of_decide_eq_false hlt
        refine .some ⟨i, hi, ?_⟩
        unfold hasAt
        rw [decide_eq_false (show ¬ (i < db.length ∧ (lsa db i).o = o) from fun g => by omega)]
    · rintro _ ⟨i, hi, rfl⟩
      exact .some ⟨i, hi, rfl⟩
  obtain ⟨r, h1, i, h2, h3⟩ := key
  exact ⟨i, h2, by rw [h1, h3]⟩
theorem fd_place {db : List Ls} {o : Int} {i : Nat} (hs : Srt db) (h : IsPl db o i) : fd db o = if hasAt db o i then some (lsa db i) else none := by
  unfold hasAt
  by_cases hc : i < db.length ∧ (lsa db i).o = o
  · rw [decide_eq_true hc, if_pos rfl]
    unfold fd
    rw [lsa_get hc.1]
    exact find_hit hc.1 (decide_eq_true (by rw [← lsa_get hc.1]; exact hc.2)) fun x hx hxi => decide_eq_false (by rw [← lsa_get hx]; have := h.2.1 x hxi; omega)
  · rw [decide_eq_false hc]
    unfold fd
    refine find_miss (p := fun l : Ls => decide (l.o = o)) (l := db) fun x hx => decide_eq_false ?_
    rw [← lsa_get hx]
    rcases Nat.lt_or_ge x i with h1 | h1
    · have := h.2.1 x h1; omega
    · intro e
      have h2 := h.2.2 x h1 hx
      have h3 := h.2.2 i (Nat.le_refl _) (by omega)
      rcases Nat.eq_or_lt_of_le h1 with e2 | e2
      · subst e2; exact hc ⟨hx, e⟩
      · have := hs i x e2 hx; omega
end Go.Proofs.YtjffopopheiinaaGreat
end
section
namespace Go.Proofs.YtjffopopheiinaaGreat
open Go.RowKit
set_option linter.unusedSimpArgs false
set_option linter.unusedVariables false
set_option maxRecDepth 100000

theorem asc_ext : ∀ {l l' : List Int}, l.Pairwise (· < ·) → l'.Pairwise (· < ·) → (∀ x, x ∈ l ↔ x ∈ l') → l = l'
  | [], [], _, _, _ => rfl
  | [], y :: s, _, _, h => by have := (h y).2 (List.mem_cons_self ..); simp at this
  | x :: r, [], _, _, h => by have := (h x).1 (List.mem_cons_self ..); simp at this
  | x :: r, y :: s, h1, h2, h => by
    have h1 := List.pairwise_cons.1 h1
    have h2 := List.pairwise_cons.1 h2
    have e : x = y := by
      rcases List.mem_cons.1 ((h x).1 (List.mem_cons_self ..)) with e | hx
      · exact e
      · rcases List.mem_cons.1 ((h y).2 (List.mem_cons_self ..)) with e | hy
        · exact e.symm
        · have q1 := h1.1 y hy
          have q2 := h2.1 x hx
          omega
    subst e
    have : r = s := asc_ext h1.2 h2.2 fun z => by
      constructor
      · intro hz
        rcases List.mem_cons.1 ((h z).1 (List.mem_cons_of_mem _ hz)) with e | hz'
        · subst e; have := h1.1 z hz; omega
        · exact hz'
      · intro hz
        rcases List.mem_cons.1 ((h z).2 (List.mem_cons_of_mem _ hz)) with e | hz'
        · subst e; have := h2.1 z hz; omega
        · exact hz'
    rw [this]
theorem sortI_mem {x : Int} {l : List Int} : x ∈ sortI l ↔ x ∈ l := List.mem_mergeSort
theorem sortI_asc {l : List Int} (h : l.Pairwise (· ≠ ·)) : (sortI l).Pairwise (· < ·) := by
  have h1 : (sortI l).Pairwise (fun a b => decide (a ≤ b) = true) := List.pairwise_mergeSort (fun a b c h1 h2 => decide_eq_true (by have := of_decide_eq_true h1; have := of_decide_eq_true h2; omega)) (fun a b => by simp; omega) l
  have h2 : (sortI l).Nodup := (List.mergeSort_perm l _).nodup_iff.2 h
  refine List.Pairwise.imp ?_ (List.Pairwise.and h1 h2)
  rintro a b ⟨q1, q2⟩
  have := of_decide_eq_true q1
  omega
theorem nbS_asc (ls : List Lk) (m : Int) (k : Nat) : (nbS ls m k).Pairwise (· < ·) := by
  unfold nbS
  rw [List.pairwise_map]
  refine List.Pairwise.imp ?_ (List.Pairwise.filter _ (List.pairwise_lt_range (n := k)))
  intro a b h
  omega
theorem nbS_mem {ls : List Lk} {m x : Int} {k : Nat} : x ∈ nbS ls m k ↔ ∃ j : Nat, j < k ∧ x = j ∧ (lc ls m j).isSome = true := by
  unfold nbS
  rw [List.mem_map]
  constructor
  · rintro ⟨j, hj, rfl⟩
    obtain ⟨h1, h2⟩ := List.mem_filter.1 hj
    exact ⟨j, List.mem_range.1 h1, rfl, by rw [lc_lof]; exact h2⟩
  · rintro ⟨j, h1, rfl, h2⟩
    rw [lc_lof] at h2
    exact ⟨j, List.mem_filter.2 ⟨List.mem_range.2 h1, h2⟩, rfl⟩
section
variable {N : Nat} {ls : List Lk}
theorem others_mem (g : GV N ls) {m : Int} {x : Int} : x ∈ others ls m ls.length ↔ (lc ls m x).isSome = true := by
  unfold others
  rw [List.mem_map, List.take_of_length_le (Nat.le_refl _)]
  constructor
  · rintro ⟨l, hl, rfl⟩
    obtain ⟨h1, h2⟩ := List.mem_filter.1 hl
    have ho := g.ok h1
    unfold okL at ho
    have h2 : m = l.a ∨ m = l.b := of_decide_eq_true h2
    unfold otherE
    by_cases e : m = l.a
    · rw [if_pos e, e, lc_mem g.pw h1 (by omega)]; rfl
    · have e2 := h2.resolve_left e
      rw [if_neg e, if_pos e2, e2, lc_symm, lc_mem g.pw h1 (by omega)]; rfl
  · intro h
    obtain ⟨c, hc⟩ := Option.isSome_iff_exists.1 h
    have hm := lc_some hc
    have ho := g.ok hm
    unfold okL at ho
    dsimp only at ho
    refine ⟨_, List.mem_filter.2 ⟨hm, decide_eq_true (by dsimp only; omega)⟩, ?_⟩
    unfold otherE
    dsimp only
    split
    · omega
    · rw [if_pos (by omega)]; omega
theorem others_nodup (g : GV N ls) (m : Int) : (others ls m ls.length).Pairwise (· ≠ ·) := by
  unfold others
  rw [List.take_of_length_le (Nat.le_refl _), List.pairwise_map]
  refine List.Pairwise.imp_of_mem ?_ (List.Pairwise.filter _ g.pw)
  intro a b ha hb hab
  obtain ⟨ha, ea⟩ := List.mem_filter.1 ha
  obtain ⟨hb, eb⟩ := List.mem_filter.1 hb
  have oa := g.ok ha
  have ob := g.ok hb
  have ea : m = a.a ∨ m = a.b := of_decide_eq_true ea
  have eb : m = b.a ∨ m = b.b := of_decide_eq_true eb
  unfold okL at oa ob
  unfold lxl at hab
  unfold otherE
  split <;> split <;> (try split) <;> (try split) <;> omega
theorem lc_none_out (g : GV N ls) {m x : Int} (h : (lc ls m x).isSome = true) : 0 ≤ x ∧ x < N ∧ 0 ≤ m ∧ m < N ∧ x ≠ m := by
  obtain ⟨c, hc⟩ := Option.isSome_iff_exists.1 h
  have ho := g.ok (lc_some hc)
  unfold okL at ho
  dsimp only at ho
  omega
theorem sort_nb (g : GV N ls) (m : Int) : sortI (others ls m ls.length) = nbS ls m N := by
  refine asc_ext (sortI_asc (others_nodup g m)) (nbS_asc ls m N) fun x => ?_
  rw [sortI_mem, others_mem g, nbS_mem]
  constructor
  · intro h
    have := lc_none_out g h
    exact ⟨x.toNat, by omega, by omega, by rw [show ((x.toNat : Nat) : Int) = x by omega]; exact h⟩
  · rintro ⟨j, _, rfl, h⟩; exact h
def endsOf (ls : List Lk) (N : Nat) (o : Int) : List En := (nbS ls o N).map fun n => ⟨n, (lc ls o n).getD 0⟩
theorem zEd (g : GV N ls) (o s : Int) : zJN ((N : Int), ls, o, s, ()) = some (o, s, endsOf ls N o, ()) := by
  have h8 := g.2.1
  have fl : Fits ls := (show Fits ls by have := g.2.2.1; unfold Fits; omega)
  unfold zJN
  simp only [zEf (N : Int) ls o (by have := g.2.2.1; omega), sort_nb g o, Option.bind_some, nI_eq]
  have hlen := nbS_len ls o N
  have hmem : ∀ x ∈ nbS ls o N, ∃ c, lc ls o x = some c := fun x hx => by
    obtain ⟨j, _, rfl, h⟩ := nbS_mem.1 hx
    exact Option.isSome_iff_exists.1 h
  unfold endsOf
  generalize nbS ls o N = nb at *
  refine Sat.out (Sat.bnd (R := fun r => match r with | .inl x => x = (0, 0, o, s, [], nb.map fun n => ⟨n, (lc ls o n).getD 0⟩, ()) | .inr _ => False) ?_ ?_)
  · refine Sat.count nb.length (fun k t => t = (o, (nb.length : Int), (k : Int), (N : Int), ls, 0, 0, o, s, nb, [], (nb.take k).map (fun n => (⟨n, (lc ls o n).getD 0⟩ : En)), ())) ?_ (Nat.zero_le _) (fuel_lt (by omega)) (by simp)
    rintro k t hk rfl
    by_cases hlt : k < nb.length
    · obtain ⟨c, hc⟩ := hmem (iz nb k) (List.mem_of_getElem? (iz_get hlt))
      obtain ⟨h1, h2, h3⟩ := lc_at hc
      simp (disch := omega) only [zBx, at_int, at_lk, toN, w64, zEc _ _ _ _ fl, Option.bind_some, List.length_singleton, List.length_map]
      refine Sat.gd (decide_eq_true (by omega)) (Sat.gd (inR_t (by omega) (by omega)) (Sat.gd (inR_t h1 h2) (Sat.gd (decide_eq_true (by simp; omega)) (.some ⟨hlt, ?_⟩))))
      rw [h3, List.take_add_one, iz_get hlt]
      simp [hc]
    · obtain rfl : k = nb.length := by omega
      unfold zBx
      simp only [decide_eq_false (show ¬ (nb.length : Int) < nb.length by omega), cond_false, List.take_length]
      exact .some rfl
  · rintro (r | r) hr
    case inr => exact hr.elim
    obtain rfl := hr
    exact .some rfl
theorem endsOf_len (o : Int) : (endsOf ls N o).length ≤ N := by unfold endsOf; rw [List.length_map]; exact nbS_len ls o N
theorem zDK (g : GV N ls) (o s : Int) : zKJ ((N : Int), ls, o, s, ()) = some (o, s, endsOf ls N o, ()) := by
  have h8 := g.2.1
  have fl : Fits ls := (show Fits ls by have := g.2.2.1; unfold Fits; omega)
  unfold zKJ
  refine Sat.out (Sat.bnd (R := fun r => match r with | .inl x => x = (0, 0, [], o, s, endsOf ls N o, ()) | .inr _ => False) ?_ ?_)
  · refine Sat.count N (fun k t => t = (o, (k : Int), (N : Int), ls, 0, 0, [], o, s, (nbS ls o k).map (fun n => (⟨n, (lc ls o n).getD 0⟩ : En)), ())) ?_ (Nat.zero_le _) (fuel_lt (by omega)) (by simp [nbS])
    rintro k t hk rfl
    have hlen := nbS_len ls o k
    simp (disch := omega) only [zCj, at_lk, toN, w64, zDO _ _ _ _ fl, Option.bind_some, List.length_singleton, List.length_map]
    refine Sat.ite (fun hlt => ?_) (fun hlt => ?_)
    · have hlt := of_decide_eq_true hlt
      cases hc : lc ls o k with
      | none =>
        refine Sat.no (by rw [lc_no hc]; rfl) (.some ⟨by omega, ?_⟩)
        rw [nbS_succ, if_neg (by rw [lc_no hc]; omega)]
        rfl
      | some c =>
        obtain ⟨h1, h2, h3⟩ := lc_at hc
        refine Sat.gd (decide_eq_true h1) (Sat.gd (inR_t h1 h2) (Sat.gd (decide_eq_true (by omega)) (.some ⟨by omega, ?_⟩)))
        rw [nbS_succ, if_pos h1, h3]
        simp [hc]
    · have hlt := of_decide_eq_false hlt
      obtain rfl : k = N := by omega
      exact .some rfl
  · rintro (r | r) hr
    case inr => exact hr.elim
    obtain rfl := hr
    exact .some rfl
end
end Go.Proofs.YtjffopopheiinaaGreat
end
section
namespace Go.Proofs.YtjffopopheiinaaGreat
open Go.RowKit
set_option linter.unusedSimpArgs false
set_option linter.unusedVariables false
set_option maxRecDepth 100000

theorem zCV (db : List Ls) (a b : Int) (hs : Srt db) (hl : db.length ≤ 2000000000) (he : ∀ l ∈ db, Fits l.e) : zJ4 (db, a, b, ()) = some (ann db a b, ()) := by
  obtain ⟨i, hi, e⟩ := zC3 db a hs hl
  unfold zJ4
  rw [e]
  dsimp only [Option.bind_some]
  unfold ann
  rw [fd_place hs hi]
  refine Sat.out ?_
  rcases cs_bool (hasAt db a i) with h | h
  · refine Sat.gd (by rw [h]; rfl) ?_
    rw [h]
    exact .some rfl
  · refine Sat.no (by rw [h]; rfl) ?_
    have hh := of_decide_eq_true h
    refine Sat.gd (inR_t (by omega) (by omega)) ?_
    rw [if_pos h, at_ls, toN, nI_eq]
    dsimp only
    have hf : Fits (lsa db i).e := he _ (by rw [lsa_get hh.1]; exact List.getElem_mem hh.1)
    generalize (lsa db i).e = es at *
    refine Sat.bnd (R := fun r => match r with | .inl _ => ec es b = 0 | .inr z => z.1 = ec es b) ?_ ?_
    · refine Sat.count es.length (fun k t => t = (b, es, (es.length : Int), (k : Int), ()) ∧ ∀ i, i < k → (en es i).n ≠ b) ?_ (Nat.zero_le _) (fuel_lt (by omega)) ⟨rfl, fun i hi => by omega⟩
      rintro k t hk ⟨rfl, hok⟩
      simp (disch := omega) only [zBP, at_en, toN, w64, nI_eq]
      repeat' (first
        | refine Sat.some ?_
        | fail
        | (refine Sat.gd (by first | exact inR_t (by omega) (by omega) | (simp (disch := omega) only [w64]; exact inR_t (by omega) (by omega))) ?_)
        | (refine Sat.ite (fun h => ?_) (fun h => ?_) <;> try simp only [decide_eq_true_eq, decide_eq_false_iff_not, Bool.not_eq_true', Bool.not_eq_false', inB_i, inB_j, Bool.and_eq_true, Bool.or_eq_true, Bool.and_eq_false_iff, Bool.or_eq_false_iff, El] at h))
      all_goals try dsimp only
      · have hlt : k < es.length := by omega
        unfold ec
        rw [find_hit (k := k) hlt (decide_eq_true (by rw [← en_get hlt]; assumption)) fun i hi hik => decide_eq_false (by rw [← en_get hi]; exact hok i hik), en_get hlt]
      · refine ⟨by omega, rfl, fun i hi => ?_⟩
        by_cases e : i < k
        · exact hok i e
        · obtain rfl : i = k := by omega
          assumption
      · unfold ec
        rw [find_miss (p := fun e : En => decide (e.n = b)) (l := es) fun i hi => decide_eq_false (by rw [← en_get hi]; exact hok i (by omega))]
    · rintro (r | r) hr
      · have hr : ec es b = 0 := hr
        exact .some (by first | rw [hr] | exact Prod.ext hr rfl)
      · obtain ⟨z, u⟩ := r
        have hr : z = ec es b := hr
        exact .some (by first | rw [hr] | exact Prod.ext hr rfl)
def dbF (db : List Ls) (a b : Nat) : Option Int := if 0 < ann db a b ∧ 0 < ann db b a then some (max (ann db a b) (ann db b a)) else none
section
variable {db : List Ls} {N : Nat}
theorem cell_db {a b : Nat} : cell (dbF db) a b = if 0 < ann db a b ∧ 0 < ann db b a then [⟨a, b, max (ann db a b) (ann db b a)⟩] else [] := by
  unfold cell dbF
  split <;> rename_i h
  · split at h
    · rename_i h2
      injection h with h
      rw [if_pos h2, ← h]
    · cases h
  · split at h
    · cases h
    · rename_i h2
      rw [if_neg h2]
theorem le64 {k : Nat} (h8 : N ≤ 8) (hk : k ≤ N) : k * N ≤ 64 := Nat.le_trans (Nat.mul_le_mul hk (Nat.le_refl N)) (Nat.le_trans (Nat.mul_le_mul h8 h8) (by omega))
theorem zC5 (hs : Srt db) (hl : db.length ≤ 2000000000) (he : ∀ l ∈ db, Fits l.e) (h8 : N ≤ 8) {n : Nat} (hn : n < N) (x4 x6 x7 : Int) (xl xo : List Lk) (ho : xo.length ≤ 1000) : Sat (lp zBs fuel ((N : Int), db, (n : Int), wrap64 ((n : Int) + 1), x4, (n : Int), x6, x7, xl, xo, ())) fun r => match r with
      | .inl x => x = ((N : Int), db, x4, (n : Int), x6, x7, xl, xo ++ gridR (dbF db) n (N - 1 - n), ())
      | .inr _ => False := by
  refine Sat.count (N - 1 - n) (fun k s => s = ((N : Int), db, (n : Int), ((n + 1 + k : Nat) : Int), x4, (n : Int), x6, x7, xl, xo ++ gridR (dbF db) n k, ())) ?_ (Nat.zero_le _) (fuel_lt (by omega)) (by rw [w64 (by omega) (by omega)]; simp [gridR])
  rintro k s hk rfl
  have hlen := gridR_len (dbF db) n k
  have fin : ∀ c : List Lk, cell (dbF db) n (n + 1 + k) = c → k < N - 1 - n → ((N : Int), db, (n : Int), wrap64 (((n + 1 + k : Nat) : Int) + 1), x4, (n : Int), x6, x7, xl, (xo ++ gridR (dbF db) n k) ++ c, ()) = ((N : Int), db, (n : Int), ((n + 1 + (k + 1) : Nat) : Int), x4, (n : Int), x6, x7, xl, xo ++ gridR (dbF db) n (k + 1), ()) := fun c hc hk => by
    rw [gridR_succ, hc, w64 (by omega) (by omega), List.append_assoc]
    rfl
  simp only [zBs, zCV _ _ _ hs hl he, Option.bind_some, List.length_singleton, List.length_append]
  refine Sat.ite (fun hlt => ?_) (fun hlt => ?_)
  · have hlt := of_decide_eq_true hlt
    have hkN : k < N - 1 - n := by omega
    have hcell := cell_db (db := db) (a := n) (b := n + 1 + k)
    refine Sat.ite (fun h1 => Sat.ite (fun h2 => ?_) (fun h2 => ?_)) (fun h1 => ?_)
    · have h1 := of_decide_eq_true h1
      have h2 := of_decide_eq_true h2
      rw [if_pos ⟨h1, h2⟩] at hcell
      exact Sat.gd (decide_eq_true (by omega)) (.some ⟨hkN, fin _ hcell hkN⟩)
    · have h2 := of_decide_eq_false h2
      rw [if_neg fun h => h2 h.2] at hcell
      have := fin _ hcell hkN
      rw [List.append_nil] at this
      exact .some ⟨hkN, this⟩
    · have h1 := of_decide_eq_false h1
      rw [if_neg fun h => h1 h.1] at hcell
      have := fin _ hcell hkN
      rw [List.append_nil] at this
      exact .some ⟨hkN, this⟩
  · have hlt := of_decide_eq_false hlt
    obtain rfl : k = N - 1 - n := by omega
    exact .some rfl
end
def dbOk (n : Int) (db : List Ls) : Bool := inB n 1 8 && dbv db && decide ((grid (dbF db) n.toNat).length ≤ 14)
theorem zCI (n : Int) (db : List Ls) (hl : db.length ≤ 2000000000) (he : ∀ l ∈ db, Fits l.e) : zJG (n, db, ()) = some (if dbOk n db then (n, true, grid (dbF db) n.toNat, ()) else (0, false, [], ())) := by
  unfold zJG dbOk
  simp only [zFm, zCK db (show Fits db by unfold Fits; omega) he, Option.bind_some]
  cases h1 : inB n 1 8 with
  | false => rfl
  | true =>
  cases h2 : dbv db with
  | false => rfl
  | true =>
  have h1 := inB_t h1
  have hs : Srt db := DbV.srt (of_decide_eq_true h2)
  obtain ⟨N, rfl⟩ := Int.eq_ofNat_of_zero_le (show 0 ≤ n by omega)
  have h8 : N ≤ 8 := by omega
  rw [Int.toNat_natCast]
  simp only [Bool.not_true, cond_false, Bool.true_and, Bool.and_self]
  refine Sat.out (Sat.bnd (R := fun r => match r with | .inl x => x.2.1 = (N : Int) ∧ x.2.2.2.1 = grid (dbF db) N | .inr _ => False) ?_ ?_)
  · refine Sat.count N (fun k s => s = ((N : Int), db, (N : Int), (k : Int), 0, (N : Int), [], gridK (dbF db) N k, ())) ?_ (Nat.zero_le _) (fuel_lt (by omega)) rfl
    rintro k s hk rfl
    have hlen := gridK_len (dbF db) N k
    have hkN := le64 h8 hk
    unfold zBr
    dsimp only
    refine Sat.ite (fun hlt => ?_) (fun hlt => ?_)
    · have hlt := of_decide_eq_true hlt
      have hkl : k < N := by omega
      refine Sat.bnd (zC5 hs hl he h8 hkl (N : Int) 0 (N : Int) [] _ (by omega)) ?_
      rintro (r | r) hr
      case inr => exact hr.elim
      obtain rfl := hr
      refine .some ⟨hkl, ?_⟩
      dsimp only
      rw [gridK_succ, w64 (by omega) (by omega)]
      rfl
    · have hlt := of_decide_eq_false hlt
      obtain rfl : k = N := by omega
      exact .some ⟨rfl, rfl⟩
  · rintro (r | r) hr
    case inr => exact hr.elim
    have hr : r.2.1 = (N : Int) ∧ r.2.2.2.1 = grid (dbF db) N := hr
    dsimp only
    rw [hr.1, hr.2, nI_eq]
    by_cases h14 : (grid (dbF db) N).length ≤ 14
    · refine Sat.no (decide_eq_false (by omega)) (.some ?_)
      rw [decide_eq_true h14]; rfl
    · refine Sat.gd (decide_eq_true (by omega)) (.some ?_)
      rw [decide_eq_false h14]; rfl
end Go.Proofs.YtjffopopheiinaaGreat
end
section
namespace Go.Proofs.YtjffopopheiinaaGreat
open Go.RowKit
set_option linter.unusedSimpArgs false
set_option linter.unusedVariables false

abbrev SrtP (db : List Ls) : Prop := db.Pairwise fun x y => x.o < y.o
theorem srt_iff {db : List Ls} : Srt db ↔ SrtP db := by
  unfold SrtP
  rw [List.pairwise_iff_getElem]
  constructor
  · intro h i j hi hj hij
    have := h i j hij hj
    rwa [lsa_get hi, lsa_get hj] at this
  · intro h i j hij hj
    rw [lsa_get (show i < db.length by omega), lsa_get hj]
    exact h i j (by omega) hj hij
theorem dbV_iff {db : List Ls} : DbV db ↔ (∀ l ∈ db, LsV l) ∧ SrtP db := by
  constructor
  · intro h
    refine ⟨fun l hl => ?_, srt_iff.1 h.srt⟩
    obtain ⟨i, hi, rfl⟩ := List.getElem_of_mem hl
    have := (h i hi).1
    rwa [lsa_get hi] at this
  · rintro ⟨h1, h2⟩ i hi
    refine ⟨?_, fun h0 => srt_iff.2 h2 (i - 1) i (by omega) hi⟩
    rw [lsa_get hi]
    exact h1 _ (List.getElem_mem hi)
def putL (db : List Ls) (l : Ls) : List Ls := db.filter (fun x => decide (x.o < l.o)) ++ l :: db.filter (fun x => decide (l.o < x.o))
def putC (db : List Ls) (l : Ls) : Int := match fd db l.o with | some old => if old.s = l.s then 1 else if l.s < old.s then 2 else 0 | none => 0
def putD (db : List Ls) (l : Ls) : List Ls := if putC db l = 0 then putL db l else db
theorem putL_mem {db : List Ls} {l x : Ls} : x ∈ putL db l ↔ x = l ∨ x ∈ db ∧ x.o ≠ l.o := by
  unfold putL
  rw [List.mem_append, List.mem_cons, List.mem_filter, List.mem_filter]
  simp only [decide_eq_true_eq]
  constructor
  · rintro (⟨h1, h2⟩ | rfl | ⟨h1, h2⟩)
    · exact .inr ⟨h1, by omega⟩
    · exact .inl rfl
    · exact .inr ⟨h1, by omega⟩
  · rintro (rfl | ⟨h1, h2⟩)
    · exact .inr (.inl rfl)
    · rcases Int.lt_or_gt_of_ne h2 with h | h
      · exact .inl ⟨h1, h⟩
      · exact .inr (.inr ⟨h1, h⟩)
theorem putL_srt {db : List Ls} (h : SrtP db) (l : Ls) : SrtP (putL db l) := by
  unfold putL SrtP
  rw [List.pairwise_append, List.pairwise_cons]
  refine ⟨List.Pairwise.filter _ h, ⟨fun x hx => ?_, List.Pairwise.filter _ h⟩, fun x hx y hy => ?_⟩
  · exact of_decide_eq_true (List.mem_filter.1 hx).2
  · have h1 : x.o < l.o := of_decide_eq_true (List.mem_filter.1 hx).2
    rcases List.mem_cons.1 hy with rfl | hy
    · exact h1
    · have h2 : l.o < y.o := of_decide_eq_true (List.mem_filter.1 hy).2
      omega
theorem putD_srt {db : List Ls} (h : SrtP db) (l : Ls) : SrtP (putD db l) := by
  unfold putD
  split
  · exact putL_srt h l
  · exact h
theorem putD_ok {db : List Ls} (h : DbV db) {l : Ls} (hl : LsV l) : DbV (putD db l) := by
  have := dbV_iff.1 h
  refine dbV_iff.2 ⟨fun x hx => ?_, putD_srt this.2 l⟩
  unfold putD at hx
  split at hx
  · rcases putL_mem.1 hx with rfl | hx
    · exact hl
    · exact this.1 x hx.1
  · exact this.1 x hx
theorem srt_uniq {db : List Ls} (h : SrtP db) {x y : Ls} (hx : x ∈ db) (hy : y ∈ db) (e : x.o = y.o) : x = y := by
  obtain ⟨i, hi, rfl⟩ := List.getElem_of_mem hx
  obtain ⟨j, hj, rfl⟩ := List.getElem_of_mem hy
  rcases Nat.lt_trichotomy i j with h1 | h1 | h1
  · have := List.pairwise_iff_getElem.1 h i j hi hj h1; omega
  · subst h1; rfl
  · have := List.pairwise_iff_getElem.1 h j i hj hi h1; omega
theorem fd_some {db : List Ls} (h : SrtP db) {o : Int} {x : Ls} : fd db o = some x ↔ x ∈ db ∧ x.o = o := by
  unfold fd
  constructor
  · intro e
    exact ⟨List.mem_of_find?_eq_some e, of_decide_eq_true (List.find?_some (p := fun l : Ls => decide (l.o = o)) e)⟩
  · rintro ⟨hx, rfl⟩
    cases e : db.find? (fun l => decide (l.o = x.o)) with
    | none =>
      have := List.find?_eq_none.1 e x hx
      simp at this
    | some y =>
      have h1 := List.mem_of_find?_eq_some e
      have h2 : y.o = x.o := of_decide_eq_true (List.find?_some (p := fun l : Ls => decide (l.o = x.o)) e)
      rw [srt_uniq h h1 hx h2]
theorem fd_none {db : List Ls} {o : Int} : fd db o = none ↔ ∀ x ∈ db, x.o ≠ o := by
  unfold fd
  rw [List.find?_eq_none]
  constructor
  · intro h x hx e; exact h x hx (decide_eq_true e)
  · intro h x hx e; exact h x hx (of_decide_eq_true e)
theorem fd_put {db : List Ls} (h : SrtP db) (l : Ls) (o : Int) : fd (putD db l) o = if o = l.o ∧ putC db l = 0 then some l else fd db o := by
  unfold putD
  by_cases hc : putC db l = 0
  · rw [if_pos hc]
    by_cases ho : o = l.o
    · rw [if_pos ⟨ho, hc⟩]
      exact (fd_some (putL_srt h l)).2 ⟨putL_mem.2 (.inl rfl), ho.symm⟩
    · rw [if_neg fun g => ho g.1]
      cases e : fd db o with
      | none =>
        rw [fd_none] at e ⊢
        intro x hx
        rcases putL_mem.1 hx with rfl | ⟨hx, _⟩
        · exact fun g => ho g.symm
        · exact e x hx
      | some y =>
        obtain ⟨h1, h2⟩ := (fd_some h).1 e
        exact (fd_some (putL_srt h l)).2 ⟨putL_mem.2 (.inr ⟨h1, by omega⟩), h2⟩
  · rw [if_neg hc, if_neg fun g => hc g.2]
theorem srt_ext : ∀ {a b : List Ls}, SrtP a → SrtP b → (∀ x, x ∈ a ↔ x ∈ b) → a = b
  | [], [], _, _, _ => rfl
  | [], y :: s, _, _, h => by have := (h y).2 (List.mem_cons_self ..); simp at this
  | x :: r, [], _, _, h => by have := (h x).1 (List.mem_cons_self ..); simp at this
  | x :: r, y :: s, h1, h2, h => by
    have h1 := List.pairwise_cons.1 h1
    have h2 := List.pairwise_cons.1 h2
    have e : x = y := by
      rcases List.mem_cons.1 ((h x).1 (List.mem_cons_self ..)) with e | hx
      · exact e
      · rcases List.mem_cons.1 ((h y).2 (List.mem_cons_self ..)) with e | hy
        · exact e.symm
        · have q1 := h1.1 y hy
          have q2 := h2.1 x hx
          omega
    subst e
    have : r = s := srt_ext h1.2 h2.2 fun z => by
      constructor
      · intro hz
        rcases List.mem_cons.1 ((h z).1 (List.mem_cons_of_mem _ hz)) with e | hz'
        · subst e; have := h1.1 z hz; omega
        · exact hz'
      · intro hz
        rcases List.mem_cons.1 ((h z).2 (List.mem_cons_of_mem _ hz)) with e | hz'
        · subst e; have := h2.1 z hz; omega
        · exact hz'
    rw [this]
theorem put_set {db : List Ls} (h : SrtP db) {l : Ls} {i : Nat} (hi : i < db.length) (ho : (lsa db i).o = l.o) : db.set i l = putL db l := by
  have hs : SrtP (db.set i l) := by
    unfold SrtP
    rw [List.pairwise_iff_getElem]
    intro a b ha hb hab
    rw [List.length_set] at ha hb
    have hp := fun x y (hx : x < db.length) (hy : y < db.length) (hxy : x < y) => List.pairwise_iff_getElem.1 h x y hx hy hxy
    rw [lsa_get hi] at ho
    rw [List.getElem_set, List.getElem_set]
    split <;> split
    · omega
    · rename_i e1 e2; subst e1; have := hp i b hi hb hab; omega
    · rename_i e1 e2; subst e2; have := hp a i ha hi hab; omega
    · exact hp a b ha hb hab
  refine srt_ext hs (putL_srt h l) fun x => ?_
  rw [putL_mem]
  rw [lsa_get hi] at ho
  constructor
  · intro hx
    obtain ⟨j, hj, rfl⟩ := List.getElem_of_mem hx
    rw [List.length_set] at hj
    rw [List.getElem_set]
    split
    · exact .inl rfl
    · rename_i e
      refine .inr ⟨List.getElem_mem hj, fun g => ?_⟩
      rcases Nat.lt_or_gt_of_ne e with h1 | h1
      · have := List.pairwise_iff_getElem.1 h i j hi hj h1; omega
      · have := List.pairwise_iff_getElem.1 h j i hj hi h1; omega
  · rintro (rfl | ⟨hx, hne⟩)
    · exact List.mem_set hi x
    · obtain ⟨j, hj, rfl⟩ := List.getElem_of_mem hx
      have e : i ≠ j := by rintro rfl; exact hne ho
      have : (db.set i l)[j]'(by rw [List.length_set]; exact hj) = db[j] := by rw [List.getElem_set, if_neg e]
      rw [← this]
      exact List.getElem_mem _
theorem put_insert {db : List Ls} (h : SrtP db) {l : Ls} {i : Nat} (hp : IsPl db l.o i) (hn : hasAt db l.o i = false) : db.take i ++ l :: db.drop i = putL db l := by
  have hno : ∀ x ∈ db, x.o ≠ l.o := fd_none.1 (by rw [fd_place (srt_iff.2 h) hp, hn]; rfl)
  have e1 : ∀ x ∈ db.take i, x.o < l.o := fun x hx => by
    obtain ⟨j, hj, rfl⟩ := List.getElem_of_mem hx
    rw [List.length_take] at hj
    rw [List.getElem_take, ← lsa_get (show j < db.length by omega)]
    exact hp.2.1 j (by omega)
  have e2 : ∀ x ∈ db.drop i, l.o < x.o := fun x hx => by
    have hm := hno x (List.mem_of_mem_drop hx)
    obtain ⟨j, hj, rfl⟩ := List.getElem_of_mem hx
    rw [List.length_drop] at hj
    rw [List.getElem_drop] at hm ⊢
    have := hp.2.2 (i + j) (by omega) (by omega)
    rw [lsa_get (show i + j < db.length by omega)] at this
    omega
  have hs : SrtP (db.take i ++ l :: db.drop i) := by
    unfold SrtP
    rw [List.pairwise_append, List.pairwise_cons]
    refine ⟨List.Pairwise.sublist (List.take_sublist _ _) h, ⟨e2, List.Pairwise.sublist (List.drop_sublist _ _) h⟩, fun x hx y hy => ?_⟩
    have := e1 x hx
    rcases List.mem_cons.1 hy with rfl | hy
    · exact this
    · have := e2 y hy; omega
  refine srt_ext hs (putL_srt h l) fun x => ?_
  rw [putL_mem, List.mem_append, List.mem_cons]
  constructor
  · rintro (hx | rfl | hx)
    · exact .inr ⟨List.mem_of_mem_take hx, hno x (List.mem_of_mem_take hx)⟩
    · exact .inl rfl
    · exact .inr ⟨List.mem_of_mem_drop hx, hno x (List.mem_of_mem_drop hx)⟩
  · rintro (rfl | ⟨hx, _⟩)
    · exact .inr (.inl rfl)
    · rw [← List.take_append_drop i db, List.mem_append] at hx
      exact hx.imp id .inr
def mergeD (db other : List Ls) : List Ls := other.foldl putD db
def seqD (db : List Ls) (o : Int) : Int := match fd db o with | some l => l.s | none => -1
theorem mergeD_srt {db : List Ls} (h : SrtP db) (other : List Ls) : SrtP (mergeD db other) := by
  unfold mergeD
  induction other generalizing db with
  | nil => exact h
  | cons l r ih => exact ih (putD_srt h l)
theorem mergeD_ok {db other : List Ls} (h : DbV db) (h' : ∀ l ∈ other, LsV l) : DbV (mergeD db other) := by
  unfold mergeD
  induction other generalizing db with
  | nil => exact h
  | cons l r ih => exact ih (putD_ok h (h' l (List.mem_cons_self ..))) fun x hx => h' x (List.mem_cons_of_mem _ hx)
theorem seq_put {db : List Ls} (h : SrtP db) {l : Ls} (hl : 0 ≤ l.s) (o : Int) : seqD (putD db l) o = if o = l.o then max (seqD db o) l.s else seqD db o := by
  unfold seqD
  rw [fd_put h l o]
  by_cases ho : o = l.o
  · subst ho
    rw [if_pos rfl]
    cases e : fd db l.o with
    | none =>
      have hc : putC db l = 0 := by unfold putC; rw [e]
      rw [hc, if_pos ⟨rfl, rfl⟩]
      dsimp only
      omega
    | some old =>
      by_cases h1 : old.s = l.s
      · have hc : putC db l = 1 := by unfold putC; rw [e]; exact if_pos h1
        rw [hc, if_neg (fun g => by have := g.2; omega)]
        dsimp only
        omega
      · by_cases h2 : l.s < old.s
        · have hc : putC db l = 2 := by unfold putC; rw [e]; dsimp only; rw [if_neg h1, if_pos h2]
          rw [hc, if_neg (fun g => by have := g.2; omega)]
          dsimp only
          omega
        · have hc : putC db l = 0 := by unfold putC; rw [e]; dsimp only; rw [if_neg h1, if_neg h2]
          rw [hc, if_pos ⟨rfl, rfl⟩]
          dsimp only
          omega
  · rw [if_neg fun g => ho g.1, if_neg ho]
theorem putC_zero {db : List Ls} {l : Ls} (hl : 0 ≤ l.s) : putC db l = 0 ↔ seqD db l.o < l.s := by
  unfold putC seqD
  cases fd db l.o with
  | none => simp; omega
  | some old =>
    dsimp only
    by_cases h1 : old.s = l.s
    · rw [if_pos h1]; omega
    · rw [if_neg h1]
      by_cases h2 : l.s < old.s
      · rw [if_pos h2]; omega
      · rw [if_neg h2]; omega
theorem fd_cons (l : Ls) (r : List Ls) (o : Int) : fd (l :: r) o = if l.o = o then some l else fd r o := by
  unfold fd
  rw [List.find?_cons]
  by_cases h : l.o = o
  · rw [if_pos h, decide_eq_true h]
  · rw [if_neg h, decide_eq_false h]
theorem seq_low {db : List Ls} (h : ∀ l ∈ db, 0 ≤ l.s) (o : Int) : -1 ≤ seqD db o := by
  unfold seqD
  cases e : fd db o with
  | none => simp
  | some l => have := h l (List.mem_of_find?_eq_some e); dsimp only; omega
theorem fd_merge {a b : List Ls} (ha : SrtP a) (hb : SrtP b) (hs : ∀ l ∈ b, 0 ≤ l.s) (hsa : ∀ l ∈ a, 0 ≤ l.s) (o : Int) : fd (mergeD a b) o = if seqD a o < seqD b o then fd b o else fd a o := by
  unfold mergeD
  induction b generalizing a with
  | nil =>
    have : seqD [] o = -1 := rfl
    rw [if_neg (by have := seq_low hsa o; omega)]
    rfl
  | cons l r ih =>
    have hb' := List.pairwise_cons.1 hb
    have hl := hs l (List.mem_cons_self ..)
    have hsa' : ∀ x ∈ putD a l, 0 ≤ x.s := fun x hx => by
      unfold putD at hx
      split at hx
      · rcases putL_mem.1 hx with rfl | hx
        · exact hl
        · exact hsa x hx.1
      · exact hsa x hx
    have ih := ih (putD_srt ha l) hb'.2 (fun x hx => hs x (List.mem_cons_of_mem _ hx)) hsa'
    rw [List.foldl_cons, ih, seq_put ha hl, fd_put ha, fd_cons]
    have hq : seqD (l :: r) o = if l.o = o then l.s else seqD r o := by
      unfold seqD
      rw [fd_cons]
      by_cases e : l.o = o
      · rw [if_pos e, if_pos e]
      · rw [if_neg e, if_neg e]
    rw [hq]
    by_cases ho : o = l.o
    · subst ho
      have hr : seqD r l.o = -1 := by
        unfold seqD
        rw [fd_none.2 fun x hx e => by have := hb'.1 x hx; omega]
      have hla := seq_low hsa l.o
      rw [if_pos rfl, if_pos rfl, if_pos rfl, hr, if_neg (by omega)]
      by_cases hc : putC a l = 0
      · rw [if_pos ⟨rfl, hc⟩, if_pos ((putC_zero hl).1 hc)]
      · rw [if_neg fun g => hc g.2, if_neg fun g => hc ((putC_zero hl).2 g)]
    · have h1 : ¬ l.o = o := fun g => ho g.symm
      have h2 : ¬ (o = l.o ∧ putC a l = 0) := fun g => ho g.1
      simp only [if_neg ho, if_neg h1, if_neg h2]
theorem seq_merge {a b : List Ls} (ha : SrtP a) (hb : SrtP b) (hs : ∀ l ∈ b, 0 ≤ l.s) (hsa : ∀ l ∈ a, 0 ≤ l.s) (o : Int) : seqD (mergeD a b) o = max (seqD a o) (seqD b o) := by
  have h := fd_merge ha hb hs hsa o
  by_cases hc : seqD a o < seqD b o
  · rw [if_pos hc] at h
    have : seqD (mergeD a b) o = seqD b o := by unfold seqD; rw [h]
    omega
  · rw [if_neg hc] at h
    have : seqD (mergeD a b) o = seqD a o := by unfold seqD; rw [h]
    omega
def Agree (a b : List Ls) : Prop := ∀ x ∈ a, ∀ y ∈ b, x.o = y.o → x.s = y.s → x = y
theorem merge_mem {a b : List Ls} {x : Ls} (hx : x ∈ mergeD a b) : x ∈ a ∨ x ∈ b := by
  unfold mergeD at hx
  induction b generalizing a with
  | nil => exact .inl hx
  | cons l r ih =>
    rcases ih hx with h | h
    · unfold putD at h
      split at h
      · rcases putL_mem.1 h with rfl | h
        · exact .inr (List.mem_cons_self ..)
        · exact .inl h.1
      · exact .inl h
    · exact .inr (List.mem_cons_of_mem _ h)
end Go.Proofs.YtjffopopheiinaaGreat
end
section
namespace Go.Proofs.YtjffopopheiinaaGreat
open Go.RowKit
set_option linter.unusedSimpArgs false
set_option linter.unusedVariables false
set_option maxRecDepth 100000

instance : DecidableEq En := fun a b => decidable_of_iff (a.n = b.n ∧ a.c = b.c) ⟨fun ⟨h1, h2⟩ => by cases a; cases b; simp_all, fun h => by subst h; exact ⟨rfl, rfl⟩⟩
instance : DecidableEq Ls := fun a b => decidable_of_iff (a.o = b.o ∧ a.s = b.s ∧ a.e = b.e) ⟨fun ⟨h1, h2, h3⟩ => by cases a; cases b; simp_all, fun h => by subst h; exact ⟨rfl, rfl, rfl⟩⟩
abbrev Sm {α : Type} (l : List α) : Prop := l.length ≤ 16000000
def SmD (db : List Ls) : Prop := Sm db ∧ ∀ l ∈ db, Sm l.e
theorem SmD.fits {db : List Ls} (h : SmD db) : Fits db := by have := h.1; unfold Fits; unfold Sm at this; omega
theorem SmD.fe {db : List Ls} (h : SmD db) : ∀ l ∈ db, Fits l.e := fun l hl => by have := h.2 l hl; unfold Fits; unfold Sm at this; omega
theorem lsa_mem {db : List Ls} {k : Nat} (h : k < db.length) : lsa db k ∈ db := by rw [lsa_get h]; exact List.getElem_mem h
theorem take_lsa {db : List Ls} {k : Nat} (h : k < db.length) : db.take k ++ [⟨(lsa db k).o, (lsa db k).s, (lsa db k).e⟩] = db.take (k + 1) := by
  rw [List.take_add_one, List.getElem?_eq_getElem h, lsa_get h]; rfl
theorem zC1 (o s : Int) (es : List En) (h : Sm es) : zJ6 (o, s, es, ()) = some (o, s, es, ()) := by
  unfold zJ6 zKp
  rw [decide_eq_true (by unfold Sm at h; dsimp only; omega)]
  rfl
theorem zDL (o s : Int) (es : List En) (h : Sm es) : zKK (o, s, es, ()) = some (o, s, es, ()) := by
  unfold zKK
  rw [decide_eq_true (by unfold Sm at h; simp; omega)]
  rfl
theorem zC0 (db : List Ls) (h : SmD db) : zJ5 (db, ()) = some (db, ()) := by
  have h1 := h.1
  unfold Sm at h1
  unfold zJ5
  refine Sat.out (Sat.bnd (R := fun r => match r with | .inl x => x = (db, ()) | .inr _ => False) ?_ ?_)
  · refine Sat.count db.length (fun k t => t = (db, (db.length : Int), (k : Int), db.take k, ())) ?_ (Nat.zero_le _) (fuel_lt (by omega)) (by simp [nI_eq])
    rintro k t hk rfl
    by_cases hlt : k < db.length
    · simp (disch := omega) only [zBQ, at_ls, toN, w64, zC1 _ _ _ (h.2 _ (lsa_mem hlt)), Option.bind_some]
      refine Sat.gd (decide_eq_true (by omega)) (Sat.gd (inR_t (by omega) (by omega)) (Sat.gd (decide_eq_true (by simp; omega)) (.some ⟨hlt, ?_⟩)))
      rw [take_lsa hlt]
      rfl
    · obtain rfl : k = db.length := by omega
      unfold zBQ
      simp only [decide_eq_false (show ¬ (db.length : Int) < db.length by omega), cond_false, List.take_length]
      exact .some rfl
  · rintro (r | r) hr
    case inr => exact hr.elim
    obtain rfl := hr
    exact .some rfl
theorem zDH (db : List Ls) (h : SmD db) : zKG (db, ()) = some (db, ()) := by
  have h1 := h.1
  unfold Sm at h1
  unfold zKG
  refine Sat.out (Sat.bnd (R := fun r => match r with | .inl x => x = (db, ()) | .inr _ => False) ?_ ?_)
  · refine Sat.count db.length (fun k t => t = (db, (k : Int), db.take k, ())) ?_ (Nat.zero_le _) (fuel_lt (by omega)) (by simp [nI_eq])
    rintro k t hk rfl
    by_cases hlt : k < db.length
    · simp (disch := omega) only [zCg, at_ls, toN, w64, nI_eq, zDL _ _ _ (h.2 _ (lsa_mem hlt)), Option.bind_some]
      refine Sat.gd (decide_eq_true (by omega)) (Sat.gd (inR_t (by omega) (by omega)) (Sat.gd (decide_eq_true (by simp; omega)) (.some ⟨hlt, ?_⟩)))
      rw [take_lsa hlt]
      rfl
    · obtain rfl : k = db.length := by omega
      unfold zCg
      simp only [nI_eq, decide_eq_false (show ¬ (db.length : Int) < db.length by omega), cond_false, List.take_length]
      exact .some rfl
  · rintro (r | r) hr
    case inr => exact hr.elim
    obtain rfl := hr
    exact .some rfl
theorem eqI (a b c d : Int) : eqInts [a, b] [c, d] = decide ((⟨a, b⟩ : En) = ⟨c, d⟩) := by
  by_cases h1 : a = c <;> by_cases h2 : b = d <;> simp [eqInts, h1, h2]
theorem ens_ext {es fs : List En} (hl : es.length = fs.length) (h : ∀ i, i < es.length → en es i = en fs i) : es = fs := by
  refine List.ext_getElem hl fun i h1 h2 => ?_
  have := h i h1
  rwa [en_get h1, en_get h2] at this
theorem eta_en (e : En) : (⟨e.n, e.c⟩ : En) = e := rfl
theorem zCL (es fs : List En) (ha : Fits es) (hb : Fits fs) : zKt (es, fs, ()) = some (decide (es = fs), ()) := by
  unfold zKt
  by_cases hl : es.length = fs.length
  case neg =>
    have : es ≠ fs := fun e => hl (by rw [e])
    have hl2 : ¬ (es.length : Int) = fs.length := by omega
    simp [nI_eq, hl2, this]
  simp only [nI_eq, hl, decide_true, Bool.not_true, cond_false]
  try rw [← hl]
  refine Sat.out (Sat.bnd (R := fun r => match r with | .inl _ => es = fs | .inr y => y = (false, ()) ∧ es ≠ fs) ?_ ?_)
  · refine Sat.count es.length (fun k t => t = (es, fs, (es.length : Int), (k : Int), ()) ∧ ∀ i, i < k → en es i = en fs i) ?_ (Nat.zero_le _) (fuel_lt (by omega)) ⟨rfl, fun i hi => by omega⟩
    rintro k t hk ⟨rfl, hok⟩
    simp (disch := omega) only [zB3, at_en, toN, w64, nI_eq, eqI, eta_en]
    refine Sat.ite (fun h => ?_) (fun h => ?_)
    · have h := of_decide_eq_true h
      refine Sat.gd (inR_t (by omega) (by omega)) (Sat.gd (inR_t (by omega) (by omega)) (Sat.ite (fun h2 => ?_) (fun h2 => ?_)))
      · have h2 : ¬ en es k = en fs k := by simpa using h2
        exact .some ⟨rfl, fun e => h2 (by rw [e])⟩
      · have h2 : en es k = en fs k := by simpa using h2
        exact .some ⟨by omega, rfl, fun i hi => by
          by_cases e : i < k
          · exact hok i e
          · obtain rfl : i = k := by omega
            exact h2⟩
    · have h := of_decide_eq_false h
      exact .some (ens_ext hl fun i hi => hok i (by omega))
  · rintro (r | r) hr
    · have hr : es = fs := hr
      exact .some (by rw [decide_eq_true hr])
    · obtain ⟨rfl, hr⟩ := hr
      exact .some (by rw [decide_eq_false hr])
theorem zEq (es fs : List En) (ha : Fits es) (hb : Fits fs) : zKi (es, fs, ()) = some (decide (es = fs), ()) := by
  unfold zKi
  by_cases hl : es.length = fs.length
  case neg =>
    have : es ≠ fs := fun e => hl (by rw [e])
    have hl2 : ¬ (es.length : Int) = fs.length := by omega
    simp [nI_eq, hl2, this]
  simp only [nI_eq, hl, decide_true, Bool.not_true, cond_false]
  try rw [← hl]
  refine Sat.out (Sat.bnd (R := fun r => match r with | .inl _ => es = fs | .inr y => y = (false, ()) ∧ es ≠ fs) ?_ ?_)
  · refine Sat.count es.length (fun k t => t = (es, fs, (k : Int), ()) ∧ ∀ i, i < k → en es i = en fs i) ?_ (Nat.zero_le _) (fuel_lt (by omega)) ⟨rfl, fun i hi => by omega⟩
    rintro k t hk ⟨rfl, hok⟩
    simp (disch := omega) only [zBX, at_en, toN, w64, nI_eq, eqI, eta_en]
    refine Sat.ite (fun h => ?_) (fun h => ?_)
    · have h := of_decide_eq_true h
      refine Sat.gd (inR_t (by omega) (by omega)) (Sat.gd (inR_t (by omega) (by omega)) (Sat.ite (fun h2 => ?_) (fun h2 => ?_)))
      · have h2 : ¬ en es k = en fs k := by simpa using h2
        exact .some ⟨rfl, fun e => h2 (by rw [e])⟩
      · have h2 : en es k = en fs k := by simpa using h2
        exact .some ⟨by omega, rfl, fun i hi => by
          by_cases e : i < k
          · exact hok i e
          · obtain rfl : i = k := by omega
            exact h2⟩
    · have h := of_decide_eq_false h
      exact .some (ens_ext hl fun i hi => hok i (by omega))
  · rintro (r | r) hr
    · have hr : es = fs := hr
      exact .some (by rw [decide_eq_true hr])
    · obtain ⟨rfl, hr⟩ := hr
      exact .some (by rw [decide_eq_false hr])
theorem zEt (a b : Ls) (ha : Fits a.e) (hb : Fits b.e) : zKd (a.o, a.s, a.e, b.o, b.s, b.e, ()) = some (decide (a = b), ()) := by
  unfold zKd
  cases a with | mk o s e =>
  cases b with | mk o' s' e' =>
  dsimp only
  by_cases h1 : o = o' <;> by_cases h2 : s = s' <;> simp [h1, h2, zCL e e' ha hb]
theorem zEu (a b : Ls) (ha : Fits a.e) (hb : Fits b.e) : zKl (a.o, a.s, a.e, b.o, b.s, b.e, ()) = some (decide (a = b), ()) := by
  unfold zKl
  cases a with | mk o s e =>
  cases b with | mk o' s' e' =>
  dsimp only
  by_cases h1 : o = o' <;> by_cases h2 : s = s' <;> simp [h1, h2, zEq e e' ha hb]
theorem zDZ (a b : Ls) (ha : Fits a.e) (hb : Fits b.e) : zKX (a.o, a.s, a.e, b.o, b.s, b.e, ()) = some (decide (a = b), ()) := by
  unfold zKX
  cases a with | mk o s es =>
  cases b with | mk o' s' fs =>
  dsimp only at *
  by_cases h1 : o = o'
  case neg => simp [h1]
  by_cases h2 : s = s'
  case neg => simp [h2]
  subst h1 h2
  by_cases hl : es.length = fs.length
  case neg =>
    have : es ≠ fs := fun e => hl (by rw [e])
    have hl2 : ¬ (es.length : Int) = fs.length := by omega
    simp [nI_eq, hl2, this]
  simp only [nI_eq, hl, decide_true, Bool.not_true, cond_false]
  refine Sat.out (Sat.bnd (R := fun r => match r with | .inl _ => es = fs | .inr y => y = (false, ()) ∧ es ≠ fs) ?_ ?_)
  · refine Sat.count es.length (fun k t => t = ((k : Int), o, s, es, o, s, fs, ()) ∧ ∀ i, i < k → en es i = en fs i) ?_ (Nat.zero_le _) (fuel_lt (by omega)) ⟨rfl, fun i hi => by omega⟩
    rintro k t hk ⟨rfl, hok⟩
    simp (disch := omega) only [zCy, at_en, toN, w64, nI_eq, eqI, eta_en]
    refine Sat.ite (fun h => ?_) (fun h => ?_)
    · have h := of_decide_eq_true h
      refine Sat.gd (inR_t (by omega) (by omega)) (Sat.gd (inR_t (by omega) (by omega)) (Sat.ite (fun h2 => ?_) (fun h2 => ?_)))
      · have h2 : ¬ en es k = en fs k := by simpa using h2
        exact .some ⟨rfl, fun e => h2 (by rw [e])⟩
      · have h2 : en es k = en fs k := by simpa using h2
        exact .some ⟨by omega, rfl, fun i hi => by
          by_cases e : i < k
          · exact hok i e
          · obtain rfl : i = k := by omega
            exact h2⟩
    · have h := of_decide_eq_false h
      exact .some (ens_ext hl fun i hi => hok i (by omega))
  · rintro (r | r) hr
    · have hr : es = fs := hr
      exact .some (by rw [decide_eq_true (by rw [hr])])
    · obtain ⟨rfl, hr⟩ := hr
      exact .some (by rw [decide_eq_false (by intro e; injection e with _ _ e; exact hr e)])
theorem zEp (db : List Ls) (h : SmD db) : zKh (db, db, ()) = some (true, ()) := by
  have h1 := h.1
  unfold Sm at h1
  unfold zKh
  simp only [decide_true, Bool.not_true, cond_false]
  refine Sat.out (Sat.bnd (R := fun r => match r with | .inl _ => True | .inr _ => False) ?_ ?_)
  · refine Sat.count db.length (fun k t => t = (db, db, (k : Int), ())) ?_ (Nat.zero_le _) (fuel_lt (by omega)) rfl
    rintro k t hk rfl
    simp (disch := omega) only [zBW, at_ls, toN, w64, nI_eq]
    refine Sat.ite (fun hh => ?_) (fun hh => .some trivial)
    have hh := of_decide_eq_true hh
    have hf := h.fe _ (lsa_mem (show k < db.length by omega))
    refine Sat.gd (inR_t (by omega) (by omega)) (Sat.gd (inR_t (by omega) (by omega)) ?_)
    rw [zEu _ _ hf hf]
    simp only [decide_true, Option.bind_some, Bool.not_true, cond_false]
    exact .some ⟨by omega, rfl⟩
  · rintro (r | r) hr
    case inr => exact hr.elim
    exact .some rfl
theorem SmD.put {db : List Ls} (h : SmD db) {l : Ls} (hl : Sm l.e) (hs : db.length ≤ 1000000) : SmD (putD db l) ∧ (putD db l).length ≤ db.length + 1 := by
  have hlen : (putL db l).length ≤ db.length + 1 := by
    unfold putL
    have h1 : ∀ ds : List Ls, (ds.filter fun x => decide (x.o < l.o)).length + (ds.filter fun x => decide (l.o < x.o)).length ≤ ds.length := fun ds => by
      induction ds with
      | nil => simp
      | cons x r ih =>
        simp only [List.filter_cons]
        by_cases a : x.o < l.o
        · have b : ¬ l.o < x.o := by omega
          simp [a, b]; omega
        · by_cases b : l.o < x.o
          · simp [a, b]; omega
          · simp [a, b]; omega
    have := h1 db
    simp only [List.length_append, List.length_cons]
    omega
  unfold putD
  split
  · refine ⟨⟨by unfold Sm; omega, fun x hx => ?_⟩, hlen⟩
    rcases putL_mem.1 hx with rfl | ⟨hx, _⟩
    · exact hl
    · exact h.2 x hx
  · exact ⟨h, by omega⟩
theorem e_put (db : List Ls) (l : Ls) (hs : SrtP db) (h : SmD db) (hl : Sm l.e) (hn : db.length ≤ 1000000) : zKc (db, l.o, l.s, l.e, ()) = some (putC db l, putD db l, ()) := by
  have hsrt : Srt db := srt_iff.2 hs
  obtain ⟨i, hi, hp⟩ := zC3 db l.o hsrt (by omega)
  unfold zKc
  dsimp only
  simp only [zC0 db h, Option.bind_some, hp, zC1 _ _ _ hl]
  have ins : hasAt db l.o i = false → zKw ((i : Int), db, [l], ()) = some (putL db l, ()) := fun hh => by
    have := hi.1
    unfold zKw
    simp only [oneL]
    rw [decide_eq_true (by omega)]
    simp only [cond_true, Int.toNat_natCast]
    rw [put_insert hs hi hh]
  cases hh : hasAt db l.o i with
  | false =>
    have hfd : fd db l.o = none := by
      refine fd_none.2 fun x hx e => ?_
      obtain ⟨j, hj, rfl⟩ := List.getElem_of_mem hx
      rw [← lsa_get hj] at e
      have h1 : i ≤ j := by
        rcases Nat.lt_or_ge j i with h1 | h1
        · have := hi.2.1 j h1; omega
        · exact h1
      have h2 : i < db.length := by omega
      have h3 := hi.2.2 i (Nat.le_refl _) h2
      have h4 : (lsa db i).o ≤ (lsa db j).o := by
        rcases Nat.eq_or_lt_of_le h1 with h1 | h1
        · subst h1; omega
        · have := hsrt i j h1 hj; omega
      have : hasAt db l.o i = true := decide_eq_true ⟨h2, by omega⟩
      rw [hh] at this; cases this
    have hc : putC db l = 0 := by unfold putC; rw [hfd]
    simp only [cond_false, ins hh, Option.bind_some]
    unfold putD
    rw [hc, if_pos rfl]
  | true =>
    obtain ⟨h2, h3⟩ := of_decide_eq_true hh
    have hfd : fd db l.o = some (lsa db i) := (fd_some hs).2 ⟨lsa_mem h2, h3⟩
    have hin : inR (i : Int) db.length = true := inR_t (by omega) (by omega)
    simp only [cond_true, hin, at_ls, toN]
    have hpc : putC db l = if (lsa db i).s = l.s then 1 else if l.s < (lsa db i).s then 2 else 0 := by unfold putC; rw [hfd]
    unfold putD
    rw [hpc]
    by_cases e1 : (lsa db i).s = l.s
    · simp [e1]
    · by_cases e2 : l.s < (lsa db i).s
      · simp [e1, e2]
      · have := put_set hs h2 h3
        simp [e1, e2, ← this]
end Go.Proofs.YtjffopopheiinaaGreat
end
section
namespace Go.Proofs.YtjffopopheiinaaGreat
open Go.RowKit
set_option linter.unusedSimpArgs false
set_option linter.unusedVariables false
set_option maxRecDepth 100000

theorem filter_snoc {db : List Ls} {k : Nat} (p : Ls → Bool) (h : k < db.length) : (db.take (k + 1)).filter p = (db.take k).filter p ++ if p (lsa db k) then [lsa db k] else [] := by
  rw [List.take_add_one, List.getElem?_eq_getElem h, List.filter_append, lsa_get h]
  cases hp : p db[k] <;> simp [hp]
theorem filter_take_len {db : List Ls} (p : Ls → Bool) (k : Nat) : ((db.take k).filter p).length ≤ db.length := Nat.le_trans (List.length_filter_le _ _) (by rw [List.length_take]; omega)
theorem low_take {db : List Ls} (hs : Srt db) {o : Int} {k : Nat} (h1 : ∀ i, i < k → (lsa db i).o < o) (h2 : k < db.length → ¬ (lsa db k).o < o) (hk : k ≤ db.length) : db.take k = db.filter fun x => decide (x.o < o) := by
  have e1 : (db.take k).filter (fun x => decide (x.o < o)) = db.take k := by
    refine List.filter_eq_self.2 fun x hx => ?_
    obtain ⟨i, hi, rfl⟩ := List.getElem_of_mem hx
    have hi' : i < k := by rw [List.length_take] at hi; omega
    have := h1 i hi'
    rw [lsa_get (by omega)] at this
    simpa [List.getElem_take] using this
  have e2 : (db.drop k).filter (fun x => decide (x.o < o)) = [] := by
    refine List.filter_eq_nil_iff.2 fun x hx => ?_
    obtain ⟨i, hi, rfl⟩ := List.getElem_of_mem hx
    have hi' : k + i < db.length := by rw [List.length_drop] at hi; omega
    have h3 := h2 (by omega)
    have h4 : (lsa db k).o ≤ (lsa db (k + i)).o := by
      rcases Nat.eq_zero_or_pos i with e | e
      · subst e; exact Int.le_refl _
      · have := hs k (k + i) (by omega) hi'; omega
    rw [lsa_get hi'] at h4
    simp only [List.getElem_drop, decide_eq_true_eq]
    omega
  calc db.take k = (db.take k).filter (fun x => decide (x.o < o)) ++ (db.drop k).filter (fun x => decide (x.o < o)) := by rw [e1, e2, List.append_nil]
    _ = db.filter fun x => decide (x.o < o) := by rw [← List.filter_append, List.take_append_drop]
theorem put8 (db : List Ls) (l : Ls) (hs : Srt db) (h : SmD db) : Sat (lp zCl fuel (db, 0, l.o, l.s, l.e, [], ())) fun r => match r with | .inl x => x = (db, l.o, l.s, l.e, db.filter (fun x => decide (x.o < l.o)), ()) | .inr _ => False := by
  have h1 := h.1
  unfold Sm at h1
  refine Sat.count db.length (fun k t => t = (db, (k : Int), l.o, l.s, l.e, db.take k, ()) ∧ ∀ i, i < k → (lsa db i).o < l.o) ?_ (Nat.zero_le _) (fuel_lt (by omega)) ⟨by simp, fun i hi => by omega⟩
  rintro k t hk ⟨rfl, hok⟩
  by_cases hlt : k < db.length
  · simp (disch := omega) only [zCl, at_ls, toN, w64, nI_eq, zDL _ _ _ (h.2 _ (lsa_mem hlt)), Option.bind_some]
    refine Sat.gd (decide_eq_true (by omega)) (Sat.gd (inR_t (by omega) (by omega)) (Sat.ite (fun hc => ?_) (fun hc => ?_)))
    · have hc := of_decide_eq_true hc
      refine Sat.gd (inR_t (by omega) (by omega)) (Sat.gd (decide_eq_true (by simp; omega)) (.some ⟨hlt, ?_, fun i hi => ?_⟩))
      · rw [take_lsa hlt]; rfl
      · by_cases e : i < k
        · exact hok i e
        · obtain rfl : i = k := by omega
          exact hc
    · have hc := of_decide_eq_false hc
      exact .some (by rw [low_take hs hok (fun _ => hc) hk])
  · obtain rfl : k = db.length := by omega
    unfold zCl
    simp only [nI_eq, decide_eq_false (show ¬ (db.length : Int) < db.length by omega), cond_false]
    exact .some (by rw [low_take hs hok (fun h => by omega) hk])
theorem put13 (db : List Ls) (l : Ls) (out : List Ls) (h : SmD db) (ho : out.length ≤ 17000000) : Sat (lp zCk fuel (db, 0, l.o, l.s, l.e, out, ())) fun r => match r with | .inl x => x = (out ++ db.filter (fun x => decide (l.o < x.o)), ()) | .inr _ => False := by
  have h1 := h.1
  unfold Sm at h1
  refine Sat.count db.length (fun k t => t = (db, (k : Int), l.o, l.s, l.e, out ++ (db.take k).filter (fun x => decide (l.o < x.o)), ())) ?_ (Nat.zero_le _) (fuel_lt (by omega)) (by simp)
  rintro k t hk rfl
  by_cases hlt : k < db.length
  · have hfl := filter_take_len (db := db) (fun x => decide (l.o < x.o)) k
    simp (disch := omega) only [zCk, at_ls, toN, w64, nI_eq, zDL _ _ _ (h.2 _ (lsa_mem hlt)), Option.bind_some]
    refine Sat.gd (decide_eq_true (by omega)) (Sat.gd (inR_t (by omega) (by omega)) (Sat.ite (fun hc => ?_) (fun hc => ?_)))
    · have hc' := of_decide_eq_true hc
      refine Sat.gd (inR_t (by omega) (by omega)) (Sat.gd (decide_eq_true (by simp only [List.length_append, List.length_singleton]; omega)) (.some ⟨hlt, ?_⟩))
      rw [filter_snoc _ hlt, if_pos hc, ← List.append_assoc]
      rfl
    · refine .some ⟨hlt, ?_⟩
      rw [filter_snoc _ hlt, if_neg (by rw [hc]; simp), List.append_nil]
      rfl
  · obtain rfl : k = db.length := by omega
    unfold zCk
    simp only [nI_eq, decide_eq_false (show ¬ (db.length : Int) < db.length by omega), cond_false, List.take_length]
    exact .some rfl
theorem zDM (db : List Ls) (l : Ls) (hs : SrtP db) (h : SmD db) (hl : Sm l.e) : zKL (db, l.o, l.s, l.e, ()) = some (putC db l, putD db l, ()) := by
  have hsrt : Srt db := srt_iff.2 hs
  have h1 := h.1
  unfold Sm at h1
  have hfin : Sat ((lp zCl fuel (db, 0, l.o, l.s, l.e, [], ())).bind fun r3 => (match r3 with | .inl x4 => (zKK ((x4.2.1, (x4.2.2.1, (x4.2.2.2.1, ()))))).bind fun r5 => (bif decide (((List.length x4.2.2.2.2.1 + List.length ([(Ls.mk r5.1 r5.2.1 r5.2.2.1)])) ≤ (33554432 : Nat))) then (lp zCk fuel ((x4.1, ((0 : Int), (x4.2.1, (x4.2.2.1, (x4.2.2.2.1, ((x4.2.2.2.2.1 ++ [(Ls.mk r5.1 r5.2.1 r5.2.2.1)]), ())))))))).bind fun r6 => (match r6 with | .inl x7 => some (((0 : Int), x7.1, ())) | .inr _ => none) else none) | .inr _ => none)) (· = (0, putL db l, ())) := by
    refine Sat.bnd (put8 db l hsrt h) ?_
    rintro (r | r) hr
    case inr => exact hr.elim
    obtain rfl := hr
    dsimp only
    rw [zDL _ _ _ hl]
    have hfl : (db.filter fun x => decide (x.o < l.o)).length ≤ db.length := List.length_filter_le _ _
    simp only [Option.bind_some]
    refine Sat.gd (decide_eq_true (by simp only [List.length_singleton]; omega)) (Sat.bnd (put13 db l _ h (by simp only [List.length_append, List.length_singleton]; omega)) ?_)
    rintro (r | r) hr
    case inr => exact hr.elim
    obtain rfl := hr
    refine .some ?_
    unfold putL
    simp
  have hfin := hfin.out
  unfold zKL
  dsimp only
  rw [zDI db l.o h.fits]
  unfold putD putC
  cases hfd : fd db l.o with
  | none =>
    simp only [Option.bind_some, cond_false]
    exact hfin
  | some old =>
    simp only [Option.bind_some, cond_true, zDH db h]
    by_cases e1 : old.s = l.s
    · simp only [e1, decide_true, cond_true]
      simp
    · by_cases e2 : l.s < old.s
      · simp only [e1, e2, decide_true, decide_false, cond_true, cond_false]
        simp
      · simp only [e1, e2, decide_false, cond_false]
        exact hfin
theorem zEi (db : List Ls) (hl : Fits db) (he : ∀ l ∈ db, Fits l.e) : zKz (db, ()) = some (dbv db, ()) := by
  unfold zKz
  refine Sat.out (Sat.bnd (R := fun r => match r with | .inl _ => dbv db = true | .inr y => y.1 = false ∧ dbv db = false) ?_ ?_)
  · refine Sat.count db.length (fun k t => t = (db, (k : Int), ()) ∧ ∀ i, i < k → LsV (lsa db i) ∧ (0 < i → (lsa db (i - 1)).o < (lsa db i).o)) ?_ (Nat.zero_le _) (fuel_lt (by omega)) ⟨by simp, fun i hi => by omega⟩
    rintro k t hk ⟨rfl, hok⟩
    by_cases hlt : k < db.length
    · have hf : Fits (lsa db k).e := he _ (by rw [lsa_get hlt]; exact List.getElem_mem hlt)
      simp (disch := omega) only [zB6, at_ls, toN, toN1, w64, nI_eq, zEl _ _ _ hf, Option.bind_some]
      repeat' (first
        | refine Sat.some ?_
        | fail
        | (refine Sat.gd (by first | exact inR_t (by omega) (by omega) | (simp (disch := omega) only [w64]; exact inR_t (by omega) (by omega))) ?_)
        | (refine Sat.ite (fun h => ?_) (fun h => ?_) <;> try simp only [decide_eq_true_eq, decide_eq_false_iff_not, Bool.not_eq_true', Bool.not_eq_false', inB_i, inB_j, Bool.and_eq_true, Bool.or_eq_true, Bool.and_eq_false_iff, Bool.or_eq_false_iff, El] at h))
      all_goals try dsimp only
      all_goals first
        | (refine ⟨rfl, decide_eq_false fun g => ?_⟩
           have := g k hlt
           first | exact of_decide_eq_false (by assumption) this.1 | omega)
        | (refine ⟨by omega, rfl, fun i hi => ?_⟩
           by_cases e : i < k
           · exact hok i e
           · obtain rfl : i = k := by omega
             exact ⟨of_decide_eq_true (by assumption), fun _ => by omega⟩)
        | omega
    · obtain rfl : k = db.length := by omega
      unfold zB6
      simp only [nI_eq, decide_eq_false (show ¬ (db.length : Int) < db.length by omega), cond_false]
      exact .some (decide_eq_true hok)
  · rintro (r | r) hr
    · have hr : dbv db = true := hr
      exact .some (by first | rw [hr] | exact Prod.ext hr rfl)
    · obtain ⟨b, u⟩ := r
      have hr : b = false ∧ dbv db = false := hr
      exact .some (by first | rw [hr.1, hr.2] | exact Prod.ext hr.1 (Prod.ext hr.2 rfl))
theorem zCJ (db : List Ls) (l : Ls) (h : SmD db) (hl : Sm l.e) : zKy (db, l.o, l.s, l.e, ()) = some (if DbV db ∧ LsV l then (putC db l, putD db l, ()) else (3, [], ())) := by
  unfold zKy
  dsimp only
  rw [zEi db h.fits h.fe]
  by_cases h1 : DbV db
  · have hb : dbv db = true := decide_eq_true h1
    simp only [hb, Option.bind_some, Bool.not_true, cond_false]
    rw [zEl _ _ _ (by unfold Fits; unfold Sm at hl; omega)]
    by_cases h2 : LsV l
    · have hc : lsv l.o l.s l.e = true := lsv_t h2
      simp only [hc, Option.bind_some, Bool.not_true, cond_false, zDM db l (srt_iff.1 h1.srt) h hl]
      rw [if_pos ⟨h1, h2⟩]
    · have hc : lsv l.o l.s l.e = false := lsv_f h2
      simp only [hc, Option.bind_some, Bool.not_false, cond_true]
      rw [if_neg (fun hh => h2 hh.2)]
  · have hb : dbv db = false := decide_eq_false h1
    simp only [hb, Option.bind_some, Bool.not_false, cond_true]
    rw [if_neg (fun hh => h1 hh.1)]
theorem merge_take {a b : List Ls} {k : Nat} (h : k < b.length) : mergeD a (b.take (k + 1)) = putD (mergeD a (b.take k)) (lsa b k) := by
  unfold mergeD
  rw [List.take_add_one, List.getElem?_eq_getElem h, lsa_get h, List.foldl_append]
  rfl
theorem merge_sm {a b : List Ls} (ha : SmD a) (hb : SmD b) (hla : a.length ≤ 500000) (hlb : b.length ≤ 400000) : ∀ k, k ≤ b.length → SmD (mergeD a (b.take k)) ∧ (mergeD a (b.take k)).length ≤ a.length + k
  | 0, _ => ⟨by simpa [mergeD] using ha, by simp [mergeD]⟩
  | k + 1, hk => by
    obtain ⟨i1, i2⟩ := merge_sm ha hb hla hlb k (by omega)
    rw [merge_take (by omega)]
    have := i1.put (hb.2 _ (lsa_mem (show k < b.length by omega))) (by omega)
    exact ⟨this.1, by omega⟩
theorem zEe (a b : List Ls) (hs : SrtP a) (ha : SmD a) (hb : SmD b) (hla : a.length ≤ 500000) (hlb : b.length ≤ 400000) : zKb (a, b, ()) = some (mergeD a b, ()) := by
  unfold zKb
  simp only [zC0 a ha, Option.bind_some, nI_eq]
  refine Sat.out (Sat.bnd (R := fun r => match r with | .inl x => x = (mergeD a b, ()) | .inr _ => False) ?_ ?_)
  · refine Sat.count b.length (fun k t => t = (b, (b.length : Int), (k : Int), mergeD a (b.take k), ())) ?_ (Nat.zero_le _) (fuel_lt (by omega)) (by simp [mergeD])
    rintro k t hk rfl
    by_cases hlt : k < b.length
    · obtain ⟨i1, i2⟩ := merge_sm ha hb hla hlb k hk
      simp (disch := omega) only [zBU, at_ls, toN, w64, e_put _ _ (mergeD_srt hs _) i1 (hb.2 _ (lsa_mem hlt)) (show (mergeD a (b.take k)).length ≤ 1000000 by omega), Option.bind_some]
      refine Sat.gd (decide_eq_true (by omega)) (Sat.gd (inR_t (by omega) (by omega)) (.some ⟨hlt, ?_⟩))
      rw [merge_take hlt]
      rfl
    · obtain rfl : k = b.length := by omega
      unfold zBU
      simp only [decide_eq_false (show ¬ (b.length : Int) < b.length by omega), cond_false, List.take_length]
      exact .some rfl
  · rintro (r | r) hr
    case inr => exact hr.elim
    obtain rfl := hr
    exact .some rfl
theorem zDJ (a b : List Ls) (hs : SrtP a) (ha : SmD a) (hb : SmD b) (hla : a.length ≤ 500000) (hlb : b.length ≤ 400000) : zKI (a, b, ()) = some (mergeD a b, ()) := by
  unfold zKI
  simp only [zDH a ha, Option.bind_some, nI_eq]
  refine Sat.out (Sat.bnd (R := fun r => match r with | .inl x => x = (mergeD a b, ()) | .inr _ => False) ?_ ?_)
  · refine Sat.count b.length (fun k t => t = (b, (k : Int), mergeD a (b.take k), ())) ?_ (Nat.zero_le _) (fuel_lt (by omega)) (by simp [mergeD])
    rintro k t hk rfl
    by_cases hlt : k < b.length
    · obtain ⟨i1, i2⟩ := merge_sm ha hb hla hlb k hk
      simp (disch := omega) only [zCi, at_ls, toN, w64, nI_eq, zDM _ _ (mergeD_srt hs _) i1 (hb.2 _ (lsa_mem hlt)), Option.bind_some]
      refine Sat.gd (decide_eq_true (by omega)) (Sat.gd (inR_t (by omega) (by omega)) (.some ⟨hlt, ?_⟩))
      rw [merge_take hlt]
      rfl
    · obtain rfl : k = b.length := by omega
      unfold zCi
      simp only [nI_eq, decide_eq_false (show ¬ (b.length : Int) < b.length by omega), cond_false, List.take_length]
      exact .some rfl
  · rintro (r | r) hr
    case inr => exact hr.elim
    obtain rfl := hr
    exact .some rfl
end Go.Proofs.YtjffopopheiinaaGreat
end
section
namespace Go.Proofs.YtjffopopheiinaaGreat
open Go.RowKit
set_option linter.unusedSimpArgs false
set_option linter.unusedVariables false

def sy (f : Nat → Int) (e : Nat × Nat) : Nat → Int := fun n => if n = e.1 ∨ n = e.2 then max (f e.1) (f e.2) else f n
def Jn (ls : List Lk) (u v : Nat) : Prop := ∃ k s, Wk ls u k v s
theorem Jn.refl (ls : List Lk) (u : Nat) : Jn ls u u := ⟨0, 0, .nil⟩
theorem Jn.symm {ls : List Lk} {u v : Nat} (h : Jn ls u v) : Jn ls v u := by
  obtain ⟨k, s, w⟩ := h
  exact ⟨k, s, w.symm⟩
theorem Jn.trans {ls : List Lk} {u v x : Nat} (h : Jn ls u v) (h' : Jn ls v x) : Jn ls u x := by
  obtain ⟨k, s, w⟩ := h
  obtain ⟨k', s', w'⟩ := h'
  exact ⟨_, _, w.append w'⟩
section
variable {N : Nat} {ls : List Lk}
end
end Go.Proofs.YtjffopopheiinaaGreat
end
section
namespace Go.Proofs.YtjffopopheiinaaGreat
open Go.RowKit
set_option linter.unusedSimpArgs false
set_option linter.unusedVariables false

structure Know (D : Nat → List Ls) : Prop where
  srt : ∀ n, SrtP (D n)
  pos : ∀ n, ∀ l ∈ D n, 0 ≤ l.s
  agr : ∀ m n, Agree (D m) (D n)
def syD (D : Nat → List Ls) (e : Nat × Nat) : Nat → List Ls := fun n => if n = e.1 ∨ n = e.2 then mergeD (D e.1) (D e.2) else D n
theorem syD_mem {D : Nat → List Ls} {e : Nat × Nat} {n : Nat} {x : Ls} (h : x ∈ syD D e n) : ∃ m, x ∈ D m := by
  unfold syD at h
  split at h
  · rcases merge_mem h with h | h
    · exact ⟨_, h⟩
    · exact ⟨_, h⟩
  · exact ⟨n, h⟩
theorem Know.sy {D : Nat → List Ls} (K : Know D) (e : Nat × Nat) : Know (syD D e) := by
  refine ⟨fun n => ?_, fun n l hl => ?_, fun m n x hx y hy => ?_⟩
  · unfold syD
    split
    · exact mergeD_srt (K.srt _) _
    · exact K.srt n
  · obtain ⟨m, hm⟩ := syD_mem hl
    exact K.pos m l hm
  · obtain ⟨i, hi⟩ := syD_mem hx
    obtain ⟨j, hj⟩ := syD_mem hy
    exact K.agr i j x hi y hj
theorem Know.seq {D : Nat → List Ls} (K : Know D) (e : Nat × Nat) (o : Int) (n : Nat) : seqD (syD D e n) o = Go.Proofs.YtjffopopheiinaaGreat.sy (fun n => seqD (D n) o) e n := by
  unfold syD Go.Proofs.YtjffopopheiinaaGreat.sy
  split
  · exact seq_merge (K.srt _) (K.srt _) (K.pos _) (K.pos _) o
  · rfl
section
variable {N : Nat} {ls : List Lk} {D : Nat → List Ls}
end
end Go.Proofs.YtjffopopheiinaaGreat
end
section
namespace Go.Proofs.YtjffopopheiinaaGreat
open Go.RowKit
set_option linter.unusedSimpArgs false
set_option linter.unusedVariables false

structure Wd where
  n : Int
  ls : List Lk
  up : List Bool
  sq : List Int
  db : List (List Ls)
  net : List Pk
def dbx (db : List (List Ls)) (i : Nat) : List Ls := db.getD i []
def trK (ls : List Lk) (up : List Bool) (k : Nat) : List Lk := ((List.range k).filter fun i => up.getD i false).map (lk ls)
def tru (ls : List Lk) (up : List Bool) : List Lk := trK ls up ls.length
theorem trK_succ (ls : List Lk) (up : List Bool) (k : Nat) : trK ls up (k + 1) = if up.getD k false then trK ls up k ++ [lk ls k] else trK ls up k := by
  unfold trK
  rw [List.range_succ, List.filter_append, List.map_append, List.filter_cons]
  cases h : up.getD k false with
  | false => simp
  | true => rfl
theorem tru_mem {ls : List Lk} {up : List Bool} {l : Lk} : l ∈ tru ls up ↔ ∃ i, i < ls.length ∧ up.getD i false = true ∧ l = lk ls i := by
  unfold tru trK
  rw [List.mem_map]
  constructor
  · rintro ⟨i, hi, rfl⟩
    obtain ⟨h1, h2⟩ := List.mem_filter.1 hi
    exact ⟨i, List.mem_range.1 h1, h2, rfl⟩
  · rintro ⟨i, h1, h2, rfl⟩
    exact ⟨i, List.mem_filter.2 ⟨List.mem_range.2 h1, h2⟩, rfl⟩
theorem tru_len (ls : List Lk) (up : List Bool) : (tru ls up).length ≤ ls.length := by
  unfold tru trK
  rw [List.length_map]
  exact Nat.le_trans (List.length_filter_le _ _) (by simp)
theorem tru_gv {n : Int} {ls : List Lk} (g : GV n ls) (up : List Bool) : GV n (tru ls up) := by
  refine gv_pw.2 ⟨g.1, g.2.1, Nat.le_trans (tru_len ls up) g.2.2.1, fun l hl => ?_, ?_⟩
  · obtain ⟨i, hi, _, rfl⟩ := tru_mem.1 hl
    exact g.ok (lk_mem hi)
  · unfold tru trK
    rw [List.pairwise_map]
    refine List.Pairwise.imp_of_mem ?_ (List.Pairwise.filter _ (List.pairwise_lt_range (n := ls.length)))
    intro a b ha hb hab
    have h1 := List.mem_range.1 (List.mem_filter.1 ha).1
    have h2 := List.mem_range.1 (List.mem_filter.1 hb).1
    have := List.pairwise_iff_getElem.1 g.pw a b h1 h2 hab
    rwa [hit_lk h1, hit_lk h2]
def Poss (w : Wd) (A : Int → Prop) (l : Ls) : Prop := LsV l ∧ l.o < w.n ∧ l.s ≤ iz w.sq l.o.toNat ∧ (∀ e ∈ l.e, lc w.ls l.o e.n = some e.c) ∧ (l.s < iz w.sq l.o.toNat ∨ l.e = endsOf (tru w.ls w.up) w.n.toNat l.o ∨ A l.o)
def Said (w : Wd) (l : Ls) : Prop := (∃ i, i < w.db.length ∧ l ∈ dbx w.db i) ∨ ∃ p ∈ w.net, l = p.p
structure WV (w : Wd) (A : Int → Prop) : Prop where
  g : GV w.n w.ls
  up : w.up.length = w.ls.length
  sq : (w.sq.length : Int) = w.n
  db : (w.db.length : Int) = w.n
  net : w.net.length ≤ 16
  rng : ∀ i, i < w.sq.length → 1 ≤ iz w.sq i ∧ iz w.sq i ≤ 99
  ok : ∀ i, i < w.db.length → DbV (dbx w.db i)
  own : ∀ i, i < w.db.length → ∃ l ∈ dbx w.db i, l.o = i ∧ l.s = iz w.sq i
  poss : ∀ l, Said w l → Poss w A l
  agr : ∀ x y, Said w x → Said w y → x.o = y.o → x.s = y.s → x = y
  tgt : ∀ p ∈ w.net, 0 ≤ p.t ∧ p.t < w.n
def fl1 (l : Ls) (ex : Int) (net : List Pk) (m : Int) : List Pk := if m ≠ ex ∧ net.length < 16 then net ++ [⟨m, l⟩] else net
def flN (l : Ls) (ex : Int) (net : List Pk) (nb : List Int) : List Pk := nb.foldl (fl1 l ex) net
theorem flN_mem {l : Ls} {ex : Int} {p : Pk} : ∀ {nb : List Int} {net : List Pk}, p ∈ flN l ex net nb → p ∈ net ∨ ∃ m ∈ nb, p = ⟨m, l⟩
  | [], net, h => .inl h
  | m :: r, net, h => by
    rcases flN_mem (nb := r) (net := fl1 l ex net m) h with h | ⟨x, hx, e⟩
    · unfold fl1 at h
      split at h
      · rcases List.mem_append.1 h with h | h
        · exact .inl h
        · exact .inr ⟨m, List.mem_cons_self .., List.mem_singleton.1 h⟩
      · exact .inl h
    · exact .inr ⟨x, List.mem_cons_of_mem _ hx, e⟩
theorem flN_len {l : Ls} {ex : Int} : ∀ {nb : List Int} {net : List Pk}, net.length ≤ 16 → (flN l ex net nb).length ≤ 16
  | [], net, h => h
  | m :: r, net, h => flN_len (nb := r) (by unfold fl1; split; rw [List.length_append, List.length_singleton]; omega; exact h)
def newL (w : Wd) (i : Nat) : Ls := ⟨i, iz w.sq i + 1, endsOf (tru w.ls w.up) w.n.toNat i⟩
def annW (w : Wd) (i : Nat) : Wd := { w with sq := w.sq.set i (iz w.sq i + 1), db := w.db.set i (putD (dbx w.db i) (newL w i)), net := flN (newL w i) (-1) w.net (nbS (tru w.ls w.up) i w.n.toNat) }
theorem dbx_set {db : List (List Ls)} {i j : Nat} {d : List Ls} (hi : i < db.length) : dbx (db.set i d) j = if j = i then d else dbx db j := by
  unfold dbx
  simp only [List.getD, List.getElem?_set]
  by_cases h : i = j
  · subst h; simp [hi]
  · rw [if_neg h, if_neg (fun e => h e.symm)]
end Go.Proofs.YtjffopopheiinaaGreat
end
section
namespace Go.Proofs.YtjffopopheiinaaGreat
open Go.RowKit
set_option linter.unusedSimpArgs false
set_option linter.unusedVariables false
set_option maxRecDepth 100000

section
variable {N : Nat} {ls : List Lk} {node : Int} {ends : List En}
theorem en_map {l : List Int} {f : Int → En} {i : Nat} (h : i < l.length) : en (l.map f) i = f (iz l i) := by simp [en, iz, h]
theorem pw_iz {l : List Int} (h : l.Pairwise (· < ·)) {i j : Nat} (hij : i < j) (hj : j < l.length) : iz l i < iz l j := by
  have := List.pairwise_iff_getElem.1 h i j (by omega) hj hij
  simpa [iz, hj, show i < l.length by omega] using this
theorem endsOf_ok (g : GV N ls) {n : Nat} (hn : n < N) : LsV ⟨n, 1, endsOf ls N n⟩ := by
  have h8 := g.2.1
  refine ⟨by dsimp only; omega, by dsimp only; omega, by dsimp only; omega, by dsimp only; omega, fun i hi => ?_⟩
  dsimp only at hi ⊢
  have hi' : i < (nbS ls n N).length := by unfold endsOf at hi; simpa using hi
  have hm : iz (nbS ls n N) i ∈ nbS ls n N := List.mem_of_getElem? (iz_get hi')
  obtain ⟨j, hj, e, hs⟩ := nbS_mem.1 hm
  obtain ⟨c, hc⟩ := Option.isSome_iff_exists.1 hs
  have hcc := lc_cost g hc
  have hne := (lc_none_out g hs).2.2.2.2
  unfold EnAt endsOf
  rw [en_map hi', e, hc]
  refine ⟨by dsimp only; omega, by dsimp only; omega, by dsimp only; omega, hcc.1, hcc.2, fun h0 => ?_⟩
  rw [en_map (show i - 1 < (nbS ls n N).length by omega)]
  have := pw_iz (nbS_asc ls n N) (show i - 1 < i by omega) hi'
  dsimp only
  omega
theorem gridR_le {f g : Nat → Nat → Option Int} {a : Nat} : ∀ {j : Nat}, (∀ b, a < b → b ≤ a + j → (f a b).isSome = true → (g a b).isSome = true) → (gridR f a j).length ≤ (gridR g a j).length
  | 0, _ => by simp [gridR]
  | j + 1, h => by
    rw [gridR_succ, gridR_succ, List.length_append, List.length_append]
    have h1 := gridR_le (j := j) fun b h1 h2 => h b h1 (by omega)
    have h2 := h (a + 1 + j) (by omega) (by omega)
    have : (cell f a (a + 1 + j)).length ≤ (cell g a (a + 1 + j)).length := by
      unfold cell
      cases e : f a (a + 1 + j) with
      | none => simp
      | some c =>
        rw [e] at h2
        obtain ⟨d, hd⟩ := Option.isSome_iff_exists.1 (h2 rfl)
        simp [hd]
    omega
theorem gridK_le {f g : Nat → Nat → Option Int} : ∀ {k : Nat}, (∀ a b, a < k → a < b → b < N → (f a b).isSome = true → (g a b).isSome = true) → (gridK f N k).length ≤ (gridK g N k).length
  | 0, _ => by simp [gridK]
  | k + 1, h => by
    rw [gridK_succ, gridK_succ, List.length_append, List.length_append]
    have h1 := gridK_le (k := k) fun a b ha => h a b (by omega)
    have h2 := gridR_le (f := f) (g := g) (a := k) (j := N - 1 - k) fun b hb1 hb2 => h k b (by omega) hb1 (by omega)
    omega
end
section
variable {ls : List Lk} {ends : List En}
end
end Go.Proofs.YtjffopopheiinaaGreat
end
section
namespace Go.Proofs.YtjffopopheiinaaGreat
open Go.RowKit
set_option linter.unusedSimpArgs false
set_option linter.unusedVariables false

theorem tru_lc {n : Int} {ls : List Lk} (g : GV n ls) {up : List Bool} {a b c : Int} (h : lc (tru ls up) a b = some c) : lc ls a b = some c := by
  have hm := lc_some h
  obtain ⟨i, hi, _, e⟩ := tru_mem.1 hm
  exact (lc_iff g.pw).2 (by rw [e]; exact lk_mem hi)
theorem endsOf_mem {ls : List Lk} {N : Nat} {o : Int} {e : En} (h : e ∈ endsOf ls N o) : lc ls o e.n = some e.c := by
  unfold endsOf at h
  obtain ⟨x, hx, rfl⟩ := List.mem_map.1 h
  obtain ⟨j, _, rfl, hs⟩ := nbS_mem.1 hx
  obtain ⟨c, hc⟩ := Option.isSome_iff_exists.1 hs
  dsimp only
  rw [hc]; rfl
theorem iz_set' {d : List Int} {y j : Nat} {v : Int} (hy : y < d.length) : iz (d.set y v) j = if j = y then v else iz d j := iz_set d y j v hy
theorem newL_ok {w : Wd} {A : Int → Prop} (h : WV w A) {i : Nat} (hi : i < w.db.length) (h99 : iz w.sq i < 99) : LsV (newL w i) := by
  have hdb := h.db
  obtain ⟨N, hN⟩ := Int.eq_ofNat_of_zero_le (show 0 ≤ w.n by omega)
  have g : GV (N : Int) (tru w.ls w.up) := by have := tru_gv h.g w.up; rwa [hN] at this
  have hiN : i < N := by omega
  have h1 := endsOf_ok g hiN
  have hr := h.rng i (by have := h.sq; omega)
  unfold newL
  rw [hN, Int.toNat_natCast]
  exact ⟨h1.1, h1.2.1, by dsimp only; omega, by dsimp only; omega, h1.2.2.2.2⟩
theorem said_ann {w : Wd} {A : Int → Prop} (h : WV w A) {i : Nat} (hi : i < w.db.length) {l : Ls} (hl : Said (annW w i) l) : l = newL w i ∨ Said w l := by
  rcases hl with ⟨j, hj, hl⟩ | ⟨p, hp, rfl⟩
  · have hj : j < w.db.length := by simpa [annW] using hj
    have hl : l ∈ dbx (w.db.set i (putD (dbx w.db i) (newL w i))) j := hl
    rw [dbx_set hi] at hl
    split at hl
    · unfold putD at hl
      split at hl
      · rcases putL_mem.1 hl with rfl | hl
        · exact .inl rfl
        · exact .inr (.inl ⟨i, hi, hl.1⟩)
      · exact .inr (.inl ⟨i, hi, hl⟩)
    · exact .inr (.inl ⟨j, hj, hl⟩)
  · rcases flN_mem (show p ∈ flN (newL w i) (-1) w.net _ from hp) with h | ⟨m, _, rfl⟩
    · exact .inr (.inr ⟨p, h, rfl⟩)
    · exact .inl rfl
theorem ann_ok {w : Wd} {A : Int → Prop} (h : WV w A) {i : Nat} (hi : i < w.db.length) (h99 : iz w.sq i < 99) : WV (annW w i) (fun o => A o ∧ o ≠ i) := by
  have hsq := h.sq
  have hdb := h.db
  have his : i < w.sq.length := by omega
  have hnew := newL_ok h hi h99
  have hsrt : ∀ j, j < w.db.length → SrtP (dbx w.db j) := fun j hj => srt_iff.1 (h.ok j hj).srt
  have hz : ∀ j, iz (w.sq.set i (iz w.sq i + 1)) j = if j = i then iz w.sq i + 1 else iz w.sq j := fun j => iz_set' his
  have no : (newL w i).o = i := rfl
  have ns : (newL w i).s = iz w.sq i + 1 := rfl
  refine ⟨h.g, h.up, ?_, ?_, flN_len h.net, fun j hj => ?_, fun j hj => ?_, fun j hj => ?_, fun l hl => ?_, fun x y hx hy e1 e2 => ?_, fun p hp => ?_⟩
  · show ((w.sq.set i _).length : Int) = w.n
    rw [List.length_set]; exact hsq
  · show ((w.db.set i _).length : Int) = w.n
    rw [List.length_set]; exact hdb
  · have hj : j < w.sq.length := by simpa [annW] using hj
    show 1 ≤ iz (w.sq.set i _) j ∧ iz (w.sq.set i _) j ≤ 99
    rw [hz]
    have := h.rng i his
    split
    · omega
    · exact h.rng j hj
  · have hj : j < w.db.length := by simpa [annW] using hj
    show DbV (dbx (w.db.set i _) j)
    rw [dbx_set hi]
    split
    · exact putD_ok (h.ok i hi) hnew
    · exact h.ok j hj
  · have hj : j < w.db.length := by simpa [annW] using hj
    show ∃ l ∈ dbx (w.db.set i _) j, l.o = j ∧ l.s = iz (w.sq.set i _) j
    rw [dbx_set hi, hz]
    by_cases e : j = i
    · subst e
      rw [if_pos rfl, if_pos rfl]
      obtain ⟨l, hl, h1, h2⟩ := h.own j hi
      refine ⟨newL w j, ?_, rfl, rfl⟩
      have hc : putC (dbx w.db j) (newL w j) = 0 := by
        refine (putC_zero (by rw [ns]; have := h.rng j his; omega)).2 ?_
        unfold seqD
        rw [no, (fd_some (hsrt j hi)).2 ⟨hl, h1⟩, ns]
        dsimp only
        omega
      unfold putD
      rw [if_pos hc]
      exact putL_mem.2 (.inl rfl)
    · rw [if_neg e, if_neg e]
      exact h.own j hj
  · show LsV l ∧ l.o < w.n ∧ l.s ≤ iz (w.sq.set i _) l.o.toNat ∧ (∀ e ∈ l.e, lc w.ls l.o e.n = some e.c) ∧ (l.s < iz (w.sq.set i _) l.o.toNat ∨ l.e = endsOf (tru w.ls w.up) w.n.toNat l.o ∨ A l.o ∧ l.o ≠ i)
    rw [hz]
    rcases said_ann h hi hl with rfl | hl
    · rw [no, Int.toNat_natCast, if_pos rfl]
      exact ⟨hnew, by omega, Int.le_of_eq ns, fun e he => tru_lc h.g (endsOf_mem he), .inr (.inl rfl)⟩
    · obtain ⟨p1, p2, p3, p4, p5⟩ := h.poss l hl
      have ho := p1.1
      by_cases e : l.o.toNat = i
      · rw [if_pos e]
        rw [e] at p3
        exact ⟨p1, p2, by omega, p4, .inl (by omega)⟩
      · rw [if_neg e]
        exact ⟨p1, p2, p3, p4, p5.imp id fun h => h.imp id fun h => ⟨h, by omega⟩⟩
  · have old : ∀ z, Said w z → z.o = (i : Int) → z.s ≤ iz w.sq i := fun z hz e => by
      have := (h.poss z hz).2.2.1
      rwa [e, Int.toNat_natCast] at this
    rcases said_ann h hi hx with rfl | hx <;> rcases said_ann h hi hy with rfl | hy
    · rfl
    · have := old y hy (by rw [← e1]; rfl)
      rw [ns] at e2; omega
    · have := old x hx (by rw [e1]; rfl)
      rw [ns] at e2; omega
    · exact h.agr x y hx hy e1 e2
  · rcases flN_mem (show p ∈ flN (newL w i) (-1) w.net _ from hp) with hp | ⟨m, hm, rfl⟩
    · exact h.tgt p hp
    · obtain ⟨j, hj, rfl, _⟩ := nbS_mem.1 hm
      show 0 ≤ (j : Int) ∧ (j : Int) < w.n
      omega
end Go.Proofs.YtjffopopheiinaaGreat
end
section
namespace Go.Proofs.YtjffopopheiinaaGreat
open Go.RowKit
set_option linter.unusedSimpArgs false
set_option linter.unusedVariables false

abbrev Nob : Int → Prop := fun _ => False
theorem WV.mono {w : Wd} {A B : Int → Prop} (h : WV w A) (k : ∀ o, A o → B o) : WV w B :=
  ⟨h.g, h.up, h.sq, h.db, h.net, h.rng, h.ok, h.own, fun l hl => by
    obtain ⟨p1, p2, p3, p4, p5⟩ := h.poss l hl
    exact ⟨p1, p2, p3, p4, p5.imp id fun q => q.imp id (k _)⟩, h.agr, h.tgt⟩
theorem WV.less {w : Wd} {A : Int → Prop} (h : WV w A) {db' : List (List Ls)} {net' : List Pk} (hd : db'.length = w.db.length) (hn : net'.length ≤ 16) (ok : ∀ i, i < w.db.length → DbV (dbx db' i)) (own : ∀ i, i < w.db.length → ∃ l ∈ dbx db' i, l.o = i ∧ l.s = iz w.sq i) (said : ∀ l, Said { w with db := db', net := net' } l → Said w l) (tgt : ∀ p ∈ net', 0 ≤ p.t ∧ p.t < w.n) : WV { w with db := db', net := net' } A :=
  ⟨h.g, h.up, h.sq, by show (db'.length : Int) = w.n; rw [hd]; exact h.db, hn, h.rng, fun i hi => ok i (by rw [← hd]; exact hi), fun i hi => own i (by rw [← hd]; exact hi), fun l hl => h.poss l (said l hl), fun x y hx hy => h.agr x y (said x hx) (said y hy), tgt⟩
section
variable {w : Wd}
theorem WV.seq_le {A : Int → Prop} (h : WV w A) {i : Nat} (hi : i < w.db.length) {o : Nat} (ho : o < w.db.length) : seqD (dbx w.db i) o ≤ iz w.sq o := by
  unfold seqD
  have hr := h.rng o (by have := h.sq; have := h.db; omega)
  cases e : fd (dbx w.db i) o with
  | none => dsimp only; omega
  | some l =>
    obtain ⟨h1, h2⟩ := (fd_some (srt_iff.1 (h.ok i hi).srt)).1 e
    have := (h.poss l (.inl ⟨i, hi, h1⟩)).2.2.1
    rw [h2, Int.toNat_natCast] at this
    exact this
theorem WV.seq_own {A : Int → Prop} (h : WV w A) {i : Nat} (hi : i < w.db.length) : seqD (dbx w.db i) i = iz w.sq i := by
  obtain ⟨l, hl, h1, h2⟩ := h.own i hi
  unfold seqD
  rw [(fd_some (srt_iff.1 (h.ok i hi).srt)).2 ⟨hl, h1⟩]
  exact h2
theorem own_of_seq {d : List Ls} (hs : SrtP d) {o v : Int} (hv : 0 ≤ v) (h : seqD d o = v) : ∃ l ∈ d, l.o = o ∧ l.s = v := by
  unfold seqD at h
  cases e : fd d o with
  | none => rw [e] at h; dsimp only at h; omega
  | some l =>
    rw [e] at h
    obtain ⟨h1, h2⟩ := (fd_some hs).1 e
    exact ⟨l, h1, h2, h⟩
def synW (w : Wd) (a b : Nat) : Wd := { w with db := (w.db.set a (mergeD (dbx w.db a) (dbx w.db b))).set b (mergeD (dbx w.db a) (dbx w.db b)) }
theorem syn_dbx {a b : Nat} (ha : a < w.db.length) (hb : b < w.db.length) (i : Nat) : dbx (synW w a b).db i = if i = a ∨ i = b then mergeD (dbx w.db a) (dbx w.db b) else dbx w.db i := by
  show dbx ((w.db.set a _).set b _) i = _
  rw [dbx_set (by rw [List.length_set]; exact hb)]
  by_cases h : i = b
  · rw [if_pos h, if_pos (.inr h)]
  · rw [if_neg h, dbx_set ha]
    by_cases h2 : i = a
    · rw [if_pos h2, if_pos (.inl h2)]
    · rw [if_neg h2, if_neg (by rintro (e | e); exact h2 e; exact h e)]
theorem DbV.pos {db : List Ls} (h : DbV db) : ∀ l ∈ db, 0 ≤ l.s := fun l hl => by
  have := ((dbV_iff.1 h).1 l hl).2.2.1
  omega
theorem syn_ok {A : Int → Prop} (h : WV w A) {a b : Nat} (ha : a < w.db.length) (hb : b < w.db.length) : WV (synW w a b) A := by
  have sa := srt_iff.1 (h.ok a ha).srt
  have sb := srt_iff.1 (h.ok b hb).srt
  have pa := (h.ok a ha).pos
  have pb := (h.ok b hb).pos
  refine h.less (db' := (synW w a b).db) (net' := w.net) (by simp [synW]) h.net (fun i hi => ?_) (fun i hi => ?_) (fun l hl => ?_) h.tgt
  · rw [syn_dbx ha hb]
    split
    · exact mergeD_ok (h.ok a ha) (dbV_iff.1 (h.ok b hb)).1
    · exact h.ok i hi
  · rw [syn_dbx ha hb]
    have hr := h.rng i (by have := h.sq; have := h.db; omega)
    split
    · rename_i e
      refine own_of_seq (mergeD_srt sa _) (by omega) ?_
      rw [seq_merge sa sb pb pa]
      have q1 := h.seq_le ha hi
      have q2 := h.seq_le hb hi
      rcases e with rfl | rfl
      · have := h.seq_own hi; omega
      · have := h.seq_own hi; omega
    · exact h.own i hi
  · rcases hl with ⟨j, hj, hl⟩ | hl
    · have hl : l ∈ dbx (synW w a b).db j := hl
      have hj : j < w.db.length := by simpa [synW] using hj
      rw [syn_dbx ha hb] at hl
      split at hl
      · rcases merge_mem hl with h | h
        · exact .inl ⟨a, ha, h⟩
        · exact .inl ⟨b, hb, h⟩
      · exact .inl ⟨j, hj, hl⟩
    · exact .inr hl
theorem lose_ok {A : Int → Prop} (h : WV w A) (k : Nat) : WV { w with net := w.net.eraseIdx k } A := by
  refine h.less (db' := w.db) rfl (Nat.le_trans (List.length_eraseIdx_le _ _) h.net) h.ok h.own (fun l hl => ?_) (fun p hp => h.tgt p (List.mem_of_mem_eraseIdx hp))
  rcases hl with hl | ⟨p, hp, rfl⟩
  · exact .inl hl
  · exact .inr ⟨p, List.mem_of_mem_eraseIdx hp, rfl⟩
theorem twice_ok {A : Int → Prop} (h : WV w A) {p : Pk} (hp : p ∈ w.net) (hl : w.net.length < 16) : WV { w with net := w.net ++ [p] } A := by
  refine h.less (db' := w.db) rfl (by rw [List.length_append, List.length_singleton]; omega) h.ok h.own (fun l hl => ?_) (fun q hq => ?_)
  · rcases hl with hl | ⟨q, hq, rfl⟩
    · exact .inl hl
    · rcases List.mem_append.1 hq with hq | hq
      · exact .inr ⟨q, hq, rfl⟩
      · obtain rfl := List.mem_singleton.1 hq
        exact .inr ⟨q, hp, rfl⟩
  · rcases List.mem_append.1 hq with hq | hq
    · exact h.tgt q hq
    · obtain rfl := List.mem_singleton.1 hq
      exact h.tgt q hp
def hearW (w : Wd) (t : Nat) (l : Ls) : Wd := if putC (dbx w.db t) l = 0 then { w with db := w.db.set t (putD (dbx w.db t) l), net := flN l l.o w.net (nbS (tru w.ls w.up) t w.n.toNat) } else w
theorem hear_ok {A : Int → Prop} (h : WV w A) {t : Nat} (ht : t < w.db.length) {l : Ls} (hV : LsV l) (hs : l.o < w.n) (hq : l.s ≤ iz w.sq l.o.toNat) (hP : Poss w A l) (hag : ∀ y, Said w y → l.o = y.o → l.s = y.s → l = y) : WV (hearW w t l) A := by
  unfold hearW
  split
  case isFalse => exact h
  rename_i hc
  have hdb := h.db
  have st := srt_iff.1 (h.ok t ht).srt
  have said : ∀ x, Said { w with db := w.db.set t (putD (dbx w.db t) l), net := flN l l.o w.net (nbS (tru w.ls w.up) t w.n.toNat) } x → x = l ∨ Said w x := fun x hx => by
    rcases hx with ⟨j, hj, hx⟩ | ⟨p, hp, rfl⟩
    · have hj : j < w.db.length := by simpa using hj
      have hx : x ∈ dbx (w.db.set t (putD (dbx w.db t) l)) j := hx
      rw [dbx_set ht] at hx
      split at hx
      · unfold putD at hx
        rw [if_pos hc] at hx
        rcases putL_mem.1 hx with rfl | hx
        · exact .inl rfl
        · exact .inr (.inl ⟨t, ht, hx.1⟩)
      · exact .inr (.inl ⟨j, hj, hx⟩)
    · rcases flN_mem (show p ∈ flN l l.o w.net _ from hp) with hp | ⟨m, _, rfl⟩
      · exact .inr (.inr ⟨p, hp, rfl⟩)
      · exact .inl rfl
  refine ⟨h.g, h.up, h.sq, by show ((w.db.set t _).length : Int) = w.n; rw [List.length_set]; exact hdb, flN_len h.net, h.rng, fun j hj => ?_, fun j hj => ?_, fun x hx => ?_, fun x y hx hy e1 e2 => ?_, fun p hp => ?_⟩
  · have hj : j < w.db.length := by simpa using hj
    show DbV (dbx (w.db.set t _) j)
    rw [dbx_set ht]
    split
    · exact putD_ok (h.ok t ht) hV
    · exact h.ok j hj
  · have hj : j < w.db.length := by simpa using hj
    show ∃ x ∈ dbx (w.db.set t _) j, x.o = j ∧ x.s = iz w.sq j
    rw [dbx_set ht]
    split
    · rename_i e
      subst e
      have hr := h.rng j (by have := h.sq; omega)
      refine own_of_seq (putD_srt st l) (by omega) ?_
      have hp : 0 ≤ l.s := by have := hV.2.2.1; omega
      rw [seq_put st hp]
      have := h.seq_own ht
      split
      · rename_i e
        have e2 : l.o.toNat = j := by omega
        rw [e2] at hq
        omega
      · omega
    · exact h.own j hj
  · rcases said x hx with rfl | hx
    · exact hP
    · exact h.poss x hx
  · rcases said x hx with ex | hx1
    · rcases said y hy with ey | hy1
      · rw [ex, ey]
      · rw [ex] at e1 e2 ⊢
        exact hag y hy1 e1 e2
    · rcases said y hy with ey | hy1
      · rw [ey] at e1 e2 ⊢
        exact (hag x hx1 e1.symm e2.symm).symm
      · exact h.agr x y hx1 hy1 e1 e2
  · rcases flN_mem (show p ∈ flN l l.o w.net _ from hp) with hp | ⟨m, hm, rfl⟩
    · exact h.tgt p hp
    · obtain ⟨j, hj, rfl, _⟩ := nbS_mem.1 hm
      show 0 ≤ (j : Int) ∧ (j : Int) < w.n
      omega
end
end Go.Proofs.YtjffopopheiinaaGreat
end
section
namespace Go.Proofs.YtjffopopheiinaaGreat
open Go.RowKit
set_option linter.unusedSimpArgs false
set_option linter.unusedVariables false

theorem nbS_congr {ls ls' : List Lk} {m : Int} (h : ∀ x : Int, lc ls m x = lc ls' m x) (k : Nat) : nbS ls m k = nbS ls' m k := by
  unfold nbS
  congr 1
  refine List.filter_congr fun x _ => ?_
  rw [← lc_lof, ← lc_lof, h]
theorem endsOf_congr {ls ls' : List Lk} {m : Int} (h : ∀ x : Int, lc ls m x = lc ls' m x) (N : Nat) : endsOf ls N m = endsOf ls' N m := by
  unfold endsOf
  rw [nbS_congr h N]
  exact List.map_congr_left fun x _ => by rw [h]
theorem upd_get {up : List Bool} {k i : Nat} {u : Bool} (h : i ≠ k) : (up.set k u).getD i false = up.getD i false := by
  simp only [List.getD, List.getElem?_set]
  rw [if_neg (fun e => h e.symm)]
theorem tru_far {n : Int} {ls : List Lk} (g : GV n ls) {up : List Bool} {k : Nat} {u : Bool} {o : Int} (ha : o ≠ (lk ls k).a) (hb : o ≠ (lk ls k).b) (x : Int) : lc (tru ls (up.set k u)) o x = lc (tru ls up) o x := by
  have key : ∀ c, (⟨min o x, max o x, c⟩ : Lk) ∈ tru ls (up.set k u) ↔ (⟨min o x, max o x, c⟩ : Lk) ∈ tru ls up := fun c => by
    rw [tru_mem, tru_mem]
    have ne : ∀ i, (⟨min o x, max o x, c⟩ : Lk) = lk ls i → i ≠ k := fun i e hik => by
      subst hik
      rw [← e] at ha hb
      dsimp only at ha hb
      omega
    constructor
    · rintro ⟨i, h1, h2, h3⟩
      exact ⟨i, h1, by rwa [upd_get (ne i h3)] at h2, h3⟩
    · rintro ⟨i, h1, h2, h3⟩
      exact ⟨i, h1, by rwa [upd_get (ne i h3)], h3⟩
  refine Option.ext fun c => ?_
  have h1 := lc_iff (tru_gv g (up.set k u)).pw (a := o) (b := x) (c := c)
  have h2 := lc_iff (tru_gv g up).pw (a := o) (b := x) (c := c)
  exact (h1.trans (key c)).trans h2.symm
theorem up_ok {w : Wd} (h : WV w Nob) {k : Nat} (hk : k < w.ls.length) (u : Bool) : WV { w with up := w.up.set k u } (fun o => o = (lk w.ls k).a ∨ o = (lk w.ls k).b) :=
  ⟨h.g, by show (w.up.set k u).length = w.ls.length; rw [List.length_set]; exact h.up, h.sq, h.db, h.net, h.rng, h.ok, h.own, fun l hl => by
    obtain ⟨p1, p2, p3, p4, p5⟩ := h.poss l hl
    refine ⟨p1, p2, p3, p4, ?_⟩
    by_cases hA : l.o = (lk w.ls k).a ∨ l.o = (lk w.ls k).b
    · exact .inr (.inr hA)
    · refine p5.imp id fun q => .inl ?_
      have q := q.resolve_right id
      show l.e = endsOf (tru w.ls (w.up.set k u)) w.n.toNat l.o
      rw [q]
      exact (endsOf_congr (tru_far h.g (fun e => hA (.inl e)) (fun e => hA (.inr e))) _).symm, h.agr, h.tgt⟩
def turnW (w : Wd) (k : Nat) (u : Bool) : Wd := if w.up.getD k false = u ∨ 99 ≤ iz w.sq (lk w.ls k).a.toNat ∨ 99 ≤ iz w.sq (lk w.ls k).b.toNat then w else annW (annW { w with up := w.up.set k u } (lk w.ls k).a.toNat) (lk w.ls k).b.toNat
theorem turn_ok {w : Wd} (h : WV w Nob) {k : Nat} (hk : k < w.ls.length) (u : Bool) : WV (turnW w k u) Nob := by
  unfold turnW
  split
  · exact h
  · rename_i hn
    have hdb := h.db
    have hsq := h.sq
    have ho := h.g.ok (lk_mem hk)
    unfold okL at ho
    have h1 := ann_ok (up_ok h hk u) (i := (lk w.ls k).a.toNat) (by show _ < w.db.length; omega) (by show iz w.sq _ < 99; omega)
    have h2 := ann_ok h1 (i := (lk w.ls k).b.toNat) (by show _ < (w.db.set _ _).length; rw [List.length_set]; omega) (by
      show iz (w.sq.set (lk w.ls k).a.toNat _) (lk w.ls k).b.toNat < 99
      rw [iz_set' (by omega), if_neg (by omega)]
      omega)
    refine h2.mono fun o ho' => ?_
    obtain ⟨⟨q, q1⟩, q2⟩ := ho'
    rcases q with e | e
    · exact q1 (by omega)
    · exact q2 (by omega)
def newW (n : Int) (ls : List Lk) : Wd := ⟨n, ls, List.replicate ls.length true, List.replicate n.toNat 1, List.replicate n.toNat ((List.range n.toNat).map fun i : Nat => (⟨i, 1, endsOf ls n.toNat i⟩ : Ls)), []⟩
theorem tru_all (ls : List Lk) : tru ls (List.replicate ls.length true) = ls := by
  unfold tru trK
  have : (List.range ls.length).filter (fun i => (List.replicate ls.length true).getD i false) = List.range ls.length := by
    rw [List.filter_eq_self]
    intro i hi
    have := List.mem_range.1 hi
    simp [List.getD, this]
  rw [this]
  refine List.ext_getElem (by simp) fun i h1 h2 => ?_
  rw [List.getElem_map, List.getElem_range, hit_lk h2]
theorem new_ok {N : Nat} {ls : List Lk} (g : GV N ls) : WV (newW N ls) Nob := by
  have hr : ∀ i, i < N → iz (List.replicate N (1 : Int)) i = 1 := fun i hi => by simp [iz, List.getD, hi]
  have hd : ∀ i, i < N → dbx (newW N ls).db i = (List.range N).map fun i : Nat => (⟨i, 1, endsOf ls N i⟩ : Ls) := fun i hi => by
    show dbx (List.replicate (N : Int).toNat _) i = _
    rw [Int.toNat_natCast]
    simp [dbx, List.getD, hi]
  have hm : ∀ i, i < N → ∀ l, l ∈ dbx (newW N ls).db i ↔ ∃ j, j < N ∧ l = ⟨j, 1, endsOf ls N j⟩ := fun i hi l => by
    rw [hd i hi, List.mem_map]
    constructor
    · rintro ⟨j, hj, rfl⟩; exact ⟨j, List.mem_range.1 hj, rfl⟩
    · rintro ⟨j, hj, rfl⟩; exact ⟨j, List.mem_range.2 hj, rfl⟩
  have hlen : (newW N ls).db.length = N := by simp [newW]
  have said : ∀ l, Said (newW N ls) l → ∃ j, j < N ∧ l = ⟨j, 1, endsOf ls N j⟩ := fun l hl => by
    rcases hl with ⟨i, hi, hl⟩ | ⟨p, hp, _⟩
    · rw [hlen] at hi
      exact (hm i hi l).1 hl
    · simp [newW] at hp
  have h1 := g.1
  refine ⟨g, by simp [newW], by simp [newW], by simp [newW], by simp [newW], fun i hi => ?_, fun i hi => ?_, fun i hi => ?_, fun l hl => ?_, fun x y hx hy e1 e2 => ?_, fun p hp => by simp [newW] at hp⟩
  · have hi : i < N := by simpa [newW] using hi
    show 1 ≤ iz (List.replicate (N : Int).toNat 1) i ∧ iz (List.replicate (N : Int).toNat 1) i ≤ 99
    rw [Int.toNat_natCast, hr i hi]
    omega
  · rw [hlen] at hi
    rw [hd i hi]
    refine dbV_iff.2 ⟨fun l hl => ?_, ?_⟩
    · obtain ⟨j, hj, rfl⟩ := List.mem_map.1 hl
      exact endsOf_ok g (List.mem_range.1 hj)
    · unfold SrtP
      rw [List.pairwise_map]
      refine List.Pairwise.imp ?_ (List.pairwise_lt_range (n := N))
      intro a b hab
      show (a : Int) < b
      omega
  · rw [hlen] at hi
    refine ⟨⟨i, 1, endsOf ls N i⟩, (hm i hi _).2 ⟨i, hi, rfl⟩, rfl, ?_⟩
    show 1 = iz (List.replicate (N : Int).toNat 1) i
    rw [Int.toNat_natCast, hr i hi]
  · obtain ⟨j, hj, rfl⟩ := said l hl
    have hs : iz (newW N ls).sq ((j : Nat) : Int).toNat = 1 := by
      show iz (List.replicate (N : Int).toNat 1) ((j : Nat) : Int).toNat = 1
      rw [Int.toNat_natCast, Int.toNat_natCast, hr j hj]
    refine ⟨endsOf_ok g hj, ?_, ?_, fun e he => endsOf_mem he, .inr (.inl ?_)⟩
    · show (j : Int) < N; omega
    · rw [hs]; exact Int.le_refl _
    · show endsOf ls N j = endsOf (tru ls (List.replicate ls.length true)) (N : Int).toNat j
      rw [tru_all, Int.toNat_natCast]
  · obtain ⟨i, _, rfl⟩ := said x hx
    obtain ⟨j, _, rfl⟩ := said y hy
    dsimp only at e1
    obtain rfl : i = j := by omega
    rfl
end Go.Proofs.YtjffopopheiinaaGreat
end
section
namespace Go.Proofs.YtjffopopheiinaaGreat
open Go.RowKit
set_option linter.unusedSimpArgs false
set_option linter.unusedVariables false

def pkx (net : List Pk) (i : Nat) : Pk := net.getD i ⟨0, ⟨0, 0, []⟩⟩
theorem pkx_mem {net : List Pk} {i : Nat} (h : i < net.length) : pkx net i ∈ net := by
  unfold pkx
  rw [List.getD, List.getElem?_eq_getElem h]
  exact List.getElem_mem h
def syncW (w : Wd) (k : Nat) : Wd := if w.up.getD k false then synW w (lk w.ls k).a.toNat (lk w.ls k).b.toNat else w
def doW (w : Wd) (kind a : Int) : Wd :=
  if (kind = 1 ∨ kind = 2) ∧ 0 ≤ a ∧ a < w.up.length then turnW w a.toNat (decide (kind = 2))
  else if kind = 3 ∧ 0 ≤ a ∧ a < w.net.length then hearW { w with net := w.net.eraseIdx a.toNat } (pkx w.net a.toNat).t.toNat (pkx w.net a.toNat).p
  else if kind = 4 ∧ 0 ≤ a ∧ a < w.net.length then { w with net := w.net.eraseIdx a.toNat }
  else if kind = 5 ∧ 0 ≤ a ∧ a < w.net.length then (if w.net.length < 16 then { w with net := w.net ++ [pkx w.net a.toNat] } else w)
  else if kind = 6 ∧ 0 ≤ a ∧ a < w.up.length then syncW w a.toNat
  else w
theorem sync_ok {w : Wd} (h : WV w Nob) {k : Nat} (hk : k < w.ls.length) : WV (syncW w k) Nob := by
  unfold syncW
  split
  · have ho := h.g.ok (lk_mem hk)
    have hdb := h.db
    unfold okL at ho
    exact syn_ok h (by omega) (by omega)
  · exact h
theorem do_ok {w : Wd} (h : WV w Nob) (kind a : Int) : WV (doW w kind a) Nob := by
  have hup := h.up
  unfold doW
  split
  · exact turn_ok h (by omega) _
  split
  · rename_i hp
    have hm : pkx w.net a.toNat ∈ w.net := pkx_mem (by omega)
    have hs : Said w (pkx w.net a.toNat).p := .inr ⟨_, hm, rfl⟩
    have hP := h.poss _ hs
    have ht := h.tgt _ hm
    have hdb := h.db
    refine hear_ok (lose_ok h a.toNat) (by show _ < w.db.length; omega) hP.1 hP.2.1 hP.2.2.1 hP fun y hy e1 e2 => ?_
    refine h.agr _ y hs ?_ e1 e2
    rcases hy with hy | ⟨p, hp, rfl⟩
    · exact .inl hy
    · exact .inr ⟨p, List.mem_of_mem_eraseIdx hp, rfl⟩
  split
  · exact lose_ok h _
  split
  · split
    · exact twice_ok h (pkx_mem (by omega)) (by assumption)
    · exact h
  split
  · exact sync_ok h (by omega)
  · exact h
def swpK (w : Wd) : Nat → Wd
  | 0 => w
  | k + 1 => syncW (swpK w k) k
def swpW (w : Wd) : Wd := swpK w w.ls.length
def calK (w : Wd) : Nat → Wd
  | 0 => w
  | k + 1 => swpW (calK w k)
def calW (w : Wd) : Wd := calK { w with net := [] } w.n.toNat
theorem sync_same (w : Wd) (k : Nat) : (syncW w k).n = w.n ∧ (syncW w k).ls = w.ls ∧ (syncW w k).up = w.up ∧ (syncW w k).sq = w.sq ∧ (syncW w k).net = w.net ∧ (syncW w k).db.length = w.db.length := by
  unfold syncW
  split
  · exact ⟨rfl, rfl, rfl, rfl, rfl, by simp [synW]⟩
  · exact ⟨rfl, rfl, rfl, rfl, rfl, rfl⟩
theorem swp_same (w : Wd) (k : Nat) : (swpK w k).n = w.n ∧ (swpK w k).ls = w.ls ∧ (swpK w k).up = w.up ∧ (swpK w k).sq = w.sq ∧ (swpK w k).net = w.net ∧ (swpK w k).db.length = w.db.length := by
  induction k with
  | zero => exact ⟨rfl, rfl, rfl, rfl, rfl, rfl⟩
  | succ k ih =>
    have h := sync_same (swpK w k) k
    exact ⟨h.1.trans ih.1, h.2.1.trans ih.2.1, h.2.2.1.trans ih.2.2.1, h.2.2.2.1.trans ih.2.2.2.1, h.2.2.2.2.1.trans ih.2.2.2.2.1, h.2.2.2.2.2.trans ih.2.2.2.2.2⟩
theorem cal_same (w : Wd) (k : Nat) : (calK w k).n = w.n ∧ (calK w k).ls = w.ls ∧ (calK w k).up = w.up ∧ (calK w k).sq = w.sq ∧ (calK w k).net = w.net ∧ (calK w k).db.length = w.db.length := by
  induction k with
  | zero => exact ⟨rfl, rfl, rfl, rfl, rfl, rfl⟩
  | succ k ih =>
    have h := swp_same (calK w k) (calK w k).ls.length
    exact ⟨h.1.trans ih.1, h.2.1.trans ih.2.1, h.2.2.1.trans ih.2.2.1, h.2.2.2.1.trans ih.2.2.2.1, h.2.2.2.2.1.trans ih.2.2.2.2.1, h.2.2.2.2.2.trans ih.2.2.2.2.2⟩
theorem swp_ok {w : Wd} (h : WV w Nob) : ∀ k, k ≤ w.ls.length → WV (swpK w k) Nob
  | 0, _ => h
  | k + 1, hk => sync_ok (swp_ok h k (by omega)) (by rw [(swp_same w k).2.1]; omega)
theorem cal_ok {w : Wd} (h : WV w Nob) : ∀ k, WV (calK w k) Nob
  | 0 => h
  | k + 1 => swp_ok (cal_ok h k) _ (Nat.le_refl _)
end Go.Proofs.YtjffopopheiinaaGreat
end
section
namespace Go.Proofs.YtjffopopheiinaaGreat
open Go.RowKit
set_option linter.unusedSimpArgs false
set_option linter.unusedVariables false

section
variable {w : Wd} {N : Nat}
theorem ann_poss (h : WV w Nob) (hN : w.n = N) {i a b : Nat} (hi : i < N) (hp : 0 < ann (dbx w.db i) a b) : lc w.ls a b = some (ann (dbx w.db i) a b) := by
  have hdb := h.db
  unfold ann at hp ⊢
  cases e : fd (dbx w.db i) a with
  | none => rw [e] at hp; simp at hp
  | some l =>
    rw [e] at hp
    dsimp only at hp ⊢
    obtain ⟨h1, h2⟩ := (fd_some (srt_iff.1 (h.ok i (by omega)).srt)).1 e
    have hP := (h.poss l (.inl ⟨i, by omega, h1⟩)).2.2.2.1
    unfold ec at hp ⊢
    cases e2 : l.e.find? (fun e => decide (e.n = (b : Int))) with
    | none => rw [e2] at hp; simp at hp
    | some en =>
      have hm := List.mem_of_find?_eq_some e2
      have hb : en.n = b := of_decide_eq_true (List.find?_some (p := fun e : En => decide (e.n = (b : Int))) e2)
      have := hP en hm
      rw [h2, hb] at this
      exact this
theorem seen_cost (h : WV w Nob) (hN : w.n = N) {i a b : Nat} {c : Int} (hi : i < N) (e : dbF (dbx w.db i) a b = some c) : lc w.ls a b = some c := by
  unfold dbF at e
  split at e
  · rename_i hp
    injection e with e
    have h1 := ann_poss h hN hi hp.1
    have h2 := ann_poss h hN hi hp.2
    rw [lc_symm] at h2
    rw [h1] at h2
    injection h2 with h2
    rw [h1]
    congr 1
    omega
  · cases e
theorem seen_gv (h : WV w Nob) (hN : w.n = N) {i : Nat} (hi : i < N) : GV N (grid (dbF (dbx w.db i)) N) := by
  have g : GV (N : Int) w.ls := by have := h.g; rwa [hN] at this
  refine grid_gv (by have := g.1; omega) (by have := g.2.1; omega) (fun a b c _ _ e => lc_cost g (seen_cost h hN hi e)) ?_
  have hle := gridK_le (N := N) (f := dbF (dbx w.db i)) (g := fun a b => lc w.ls a b) (k := N) fun a b _ _ _ hs => by
    obtain ⟨c, hc⟩ := Option.isSome_iff_exists.1 hs
    rw [seen_cost h hN hi hc]; rfl
  have e : (grid (fun a b => lc w.ls a b) N).length ≤ 14 := by rw [g.grid]; exact g.2.2.1
  exact Nat.le_trans hle e
end
end Go.Proofs.YtjffopopheiinaaGreat
end
section
namespace Go.Proofs.YtjffopopheiinaaGreat
open Go.RowKit
set_option linter.unusedSimpArgs false
set_option linter.unusedVariables false

theorem Wd.same {a b : Wd} (h1 : a.n = b.n) (h2 : a.ls = b.ls) (h3 : a.up = b.up) (h4 : a.sq = b.sq) (h5 : a.db = b.db) (h6 : a.net = b.net) : a = b := by
  cases a; cases b; dsimp only at h1 h2 h3 h4 h5 h6; subst h1 h2 h3 h4 h5 h6; rfl
section
variable {w : Wd} {N : Nat}
end
end Go.Proofs.YtjffopopheiinaaGreat
end
section
namespace Go.Proofs.YtjffopopheiinaaGreat
open Go.RowKit
set_option linter.unusedSimpArgs false
set_option linter.unusedVariables false
set_option maxRecDepth 100000

theorem at_bo (es : List Bool) (i : Nat) : at! .bool es i = es.getD i false := by
  induction es generalizing i with
  | nil => rfl
  | cons z r ih => cases i with
    | zero => rfl
    | succ i => exact (ih i).trans (by simp)
theorem at_db (es : List (List Ls)) (i : Nat) : at! .db es i = dbx es i := by
  induction es generalizing i with
  | nil => rfl
  | cons z r ih => cases i with
    | zero => rfl
    | succ i => exact (ih i).trans (by simp [dbx])
theorem at_pk (es : List Pk) (i : Nat) : at! .pk es i = pkx es i := by
  induction es generalizing i with
  | nil => rfl
  | cons z r ih => cases i with
    | zero => rfl
    | succ i => exact (ih i).trans (by simp [pkx])
abbrev Wt := Int × List Lk × List Bool × List Int × List (List Ls) × List Pk × Unit
def wt (w : Wd) : Wt := (w.n, w.ls, w.up, w.sq, w.db, w.net, ())
theorem take_lk {ls : List Lk} {k : Nat} (h : k < ls.length) : ls.take k ++ [lk ls k] = ls.take (k + 1) := by
  rw [List.take_add_one, List.getElem?_eq_getElem h, hit_lk h]; rfl
theorem zDG (n : Int) (ls : List Lk) (hl : ls.length ≤ 2000000) : zJJ (n, ls, ()) = some (n, ls, ()) := by
  unfold zJJ
  refine Sat.out (Sat.bnd (R := fun r => match r with | .inl x => x = (0, n, [], ls, ()) | .inr _ => False) ?_ ?_)
  · refine Sat.count ls.length (fun k t => t = (ls, (ls.length : Int), (k : Int), 0, n, [], ls.take k, ())) ?_ (Nat.zero_le _) (fuel_lt (by omega)) (by simp [nI_eq])
    rintro k t hk rfl
    simp (disch := omega) only [zBv, zJ8, at_lk, toN, w64, nI_eq, Option.bind_some]
    by_cases hlt : k < ls.length
    · refine Sat.gd (decide_eq_true (by omega)) (Sat.gd (inR_t (by omega) (by omega)) (Sat.ite (fun _ => Sat.gd (decide_eq_true (by simp only [List.length_take, List.length_singleton]; omega)) (.some ⟨hlt, ?_⟩)) (fun hh => by cases hh)))
      rw [← take_lk hlt]; rfl
    · obtain rfl : k = ls.length := by omega
      rw [List.take_length]
      exact Sat.no (decide_eq_false (by omega)) (.some rfl)
  · rintro (r | r) hr
    case inr => exact hr.elim
    obtain rfl := hr
    exact .some rfl
theorem trK_len (ls : List Lk) (up : List Bool) (k : Nat) : (trK ls up k).length ≤ k := by
  unfold trK
  rw [List.length_map]
  exact Nat.le_trans (List.length_filter_le _ _) (by simp)
theorem zFl (w : Wd) (h : w.up.length = w.ls.length) (hl : w.ls.length ≤ 1000) : zJ2 (w.n, w.ls, w.up, w.sq, w.db, w.net, ()) = some (w.n, tru w.ls w.up, ()) := by
  cases w with | mk n ls up sq db net =>
  dsimp only at h hl
  unfold zJ2 zJK
  refine Sat.out (Sat.bnd (R := fun r => r = (n, tru ls up, ())) (Sat.bnd (R := fun r => match r with | .inl x => x = (0, n, [], tru ls up, ()) | .inr _ => False) ?_ ?_) ?_)
  · refine Sat.count ls.length (fun k t => t = (n, ls, up, sq, db, net, ls, (ls.length : Int), (k : Int), 0, n, [], trK ls up k, ())) ?_ (Nat.zero_le _) (fuel_lt (by omega)) (by simp [nI_eq, trK])
    rintro k t hk rfl
    have hq := trK_len ls up k
    simp (disch := omega) only [zBw, zJ3, at_lk, at_bo, toN, w64, nI_eq]
    by_cases hlt : k < ls.length
    · refine Sat.gd (decide_eq_true (by omega)) (Sat.gd (inR_t (by omega) (by omega)) (Sat.bnd (R := fun r => r = (up.getD k false, ())) (Sat.gd (inR_t (by omega) (by omega)) (.some rfl)) ?_))
      rintro _ rfl
      refine Sat.ite (fun hu => Sat.gd (decide_eq_true (by simp only [List.length_singleton]; omega)) (.some ⟨hlt, ?_⟩)) (fun hu => .some ⟨hlt, ?_⟩)
      · have hu : up.getD k false = true := hu
        rw [trK_succ, if_pos hu]; rfl
      · have hu : up.getD k false = false := hu
        rw [trK_succ, hu]; rfl
    · obtain rfl : k = ls.length := by omega
      refine Sat.no (decide_eq_false (by omega)) (.some rfl)
  · rintro (r | r) hr
    case inr => exact hr.elim
    obtain rfl := hr
    exact .some rfl
  · rintro _ rfl
    exact .some rfl
theorem zD2 (w : Wd) (h : w.up.length = w.ls.length) (hl : w.ls.length ≤ 1000) : zK0 (w.n, w.ls, w.up, w.sq, w.db, w.net, ()) = some (w.n, tru w.ls w.up, ()) := by
  cases w with | mk n ls up sq db net =>
  dsimp only at h hl
  unfold zK0
  refine Sat.out (Sat.bnd (R := fun r => match r with | .inl x => x = (0, [], n, tru ls up, ()) | .inr _ => False) ?_ ?_)
  · refine Sat.count ls.length (fun k t => t = ((k : Int), n, ls, up, sq, db, net, 0, [], n, trK ls up k, ())) ?_ (Nat.zero_le _) (fuel_lt (by omega)) (by simp [nI_eq, trK])
    rintro k t hk rfl
    have hq := trK_len ls up k
    simp (disch := omega) only [zCA, at_lk, at_bo, toN, w64, nI_eq]
    by_cases hlt : k < ls.length
    · refine Sat.gd (decide_eq_true (by omega)) (Sat.gd (inR_t (by omega) (by omega)) ?_)
      refine Sat.ite (fun hu => Sat.gd (inR_t (by omega) (by omega)) (Sat.gd (decide_eq_true (by simp only [List.length_singleton]; omega)) (.some ⟨hlt, ?_⟩))) (fun hu => .some ⟨hlt, ?_⟩)
      · have hu : up.getD k false = true := hu
        rw [trK_succ, if_pos hu]; rfl
      · have hu : up.getD k false = false := hu
        rw [trK_succ, hu]; rfl
    · obtain rfl : k = ls.length := by omega
      refine Sat.no (decide_eq_false (by omega)) (.some rfl)
  · rintro (r | r) hr
    case inr => exact hr.elim
    obtain rfl := hr
    exact .some rfl
theorem DbV.len {db : List Ls} (h : DbV db) : db.length ≤ 8 := by
  have key : ∀ i, i < db.length → (i : Int) ≤ (lsa db i).o := fun i => by
    induction i with
    | zero => intro hi; exact (h 0 hi).1.1
    | succ i ih =>
      intro hi
      have h1 := ih (by omega)
      have h2 := (h (i + 1) hi).2 (by omega)
      rw [Nat.add_sub_cancel] at h2
      omega
  rcases Nat.lt_or_ge 8 db.length with h8 | h8
  · have h1 := key 8 h8
    have h2 := (h 8 h8).1.2.1
    omega
  · exact h8
theorem LsV.len {l : Ls} (h : LsV l) : l.e.length ≤ 8 := by
  have key : ∀ i, i < l.e.length → (i : Int) ≤ (en l.e i).n := fun i => by
    induction i with
    | zero => intro hi; exact (h.2.2.2.2 0 hi).1
    | succ i ih =>
      intro hi
      have h1 := ih (by omega)
      have h2 := (h.2.2.2.2 (i + 1) hi).2.2.2.2.2 (by omega)
      rw [Nat.add_sub_cancel] at h2
      omega
  rcases Nat.lt_or_ge 8 l.e.length with h8 | h8
  · have h1 := key 8 h8
    have h2 := (h.2.2.2.2 8 h8).2.1
    omega
  · exact h8
theorem DbV.sm {db : List Ls} (h : DbV db) : SmD db := ⟨by have := h.len; unfold Sm; omega, fun l hl => by
  have := ((dbV_iff.1 h).1 l hl).len
  unfold Sm; omega⟩
theorem LsV.sm {l : Ls} (h : LsV l) : Sm l.e := by have := h.len; unfold Sm; omega
theorem DbV.so {db : List Ls} (h : DbV db) : SrtP db := srt_iff.1 h.srt
theorem WV.nn {w : Wd} {A : Int → Prop} (h : WV w A) : 1 ≤ w.n ∧ w.n ≤ 8 := ⟨h.g.1, h.g.2.1⟩
theorem WV.lsl {w : Wd} {A : Int → Prop} (h : WV w A) : w.ls.length ≤ 14 := h.g.2.2.1
theorem nb_i {n : Int} {ls : List Lk} (g : GV n ls) (m : Int) : zJO (n, ls, m, ()) = some (nbS ls m n.toNat, ()) := by
  have h1 := g.1
  have h3 := g.2.2.1
  obtain ⟨N, rfl⟩ := Int.eq_ofNat_of_zero_le (show 0 ≤ n by omega)
  rw [zEf _ _ _ (by omega), sort_nb g, Int.toNat_natCast]
theorem nb8 {N : Nat} {ls : List Lk} (g : GV N ls) (m : Int) : nbS ls m 8 = nbS ls m N := by
  have h2 := g.2.1
  refine asc_ext (nbS_asc ls m 8) (nbS_asc ls m N) fun x => ?_
  rw [nbS_mem, nbS_mem]
  constructor
  · rintro ⟨j, _, rfl, h⟩
    have := lc_none_out g h
    exact ⟨j, by omega, rfl, h⟩
  · rintro ⟨j, hj, rfl, h⟩
    exact ⟨j, by omega, rfl, h⟩
theorem nb_s {n : Int} {ls : List Lk} (g : GV n ls) (m : Int) : zKB (n, ls, m, ()) = some (nbS ls m n.toNat, ()) := by
  have h1 := g.1
  have h3 := g.2.2.1
  obtain ⟨N, rfl⟩ := Int.eq_ofNat_of_zero_le (show 0 ≤ n by omega)
  rw [zEj _ _ _ (show Fits ls by unfold Fits; omega), if_pos (show gv (N : Int) ls = true from decide_eq_true g), Int.toNat_natCast, nb8 g m]
theorem flN_take {l : Ls} {ex : Int} {net : List Pk} {nb : List Int} {k : Nat} (h : k < nb.length) : flN l ex net (nb.take (k + 1)) = fl1 l ex (flN l ex net (nb.take k)) (iz nb k) := by
  unfold flN
  rw [List.take_add_one, List.getElem?_eq_getElem h, List.foldl_append]
  congr 1
  simp [iz, List.getD, h]
theorem fl1_full {l : Ls} {ex : Int} {net : List Pk} {m : Int} (h : 16 ≤ net.length) : fl1 l ex net m = net := if_neg (by omega)
theorem flN_full {l : Ls} {ex : Int} {net : List Pk} (h : 16 ≤ net.length) : ∀ nb : List Int, flN l ex net nb = net
  | [] => rfl
  | m :: r => by
    show flN l ex (fl1 l ex net m) r = net
    rw [fl1_full h, flN_full h r]
theorem flN_stop {l : Ls} {ex : Int} {net : List Pk} {nb : List Int} {k : Nat} (h : 16 ≤ (flN l ex net (nb.take k)).length) : flN l ex net (nb.take k) = flN l ex net nb := by
  have : flN l ex net nb = flN l ex (flN l ex net (nb.take k)) (nb.drop k) := by
    conv => lhs; rw [← List.take_append_drop k nb]
    unfold flN
    rw [List.foldl_append]
  rw [this, flN_full h]
theorem zC6 (w : Wd) (i ex : Int) (l : Ls) (g : GV w.n w.ls) (hu : w.up.length = w.ls.length) (hn : w.net.length ≤ 16) (hl : Sm l.e) : zJZ (i, l.o, l.s, l.e, ex, w.n, w.ls, w.up, w.sq, w.db, w.net, ()) = some (w.n, w.ls, w.up, w.sq, w.db, flN l ex w.net (nbS (tru w.ls w.up) i w.n.toNat), ()) := by
  have h14 := g.2.2.1
  unfold zJZ
  dsimp only
  rw [zFl w hu (by omega)]
  simp only [Option.bind_some, nb_i (tru_gv g w.up)]
  have h8 := nbS_len (tru w.ls w.up) i w.n.toNat
  have hn8 := g.2.1
  generalize nbS (tru w.ls w.up) i w.n.toNat = nb at h8 ⊢
  refine Sat.out (Sat.bnd (R := fun r => match r with | .inl x => x = (w.n, w.ls, w.up, w.sq, w.db, flN l ex w.net nb, ()) | .inr _ => False) ?_ ?_)
  · refine Sat.count nb.length (fun k t => t = (ex, (nb.length : Int), (k : Int), w.n, w.ls, w.up, w.sq, w.db, l.o, l.s, l.e, nb, flN l ex w.net (nb.take k), ())) ?_ (Nat.zero_le _) (fuel_lt (by omega)) (by simp [nI_eq, flN])
    rintro k t hk rfl
    simp (disch := omega) only [zBL, zBM, at_int, toN, w64, nI_eq, zC1 _ _ _ hl, Option.bind_some]
    by_cases hlt : k < nb.length
    · refine Sat.gd (decide_eq_true (by omega)) (Sat.gd (inR_t (by omega) (by omega)) (Sat.ite (fun he => Sat.ite (fun hf => ?_) (fun hf => ?_)) (fun he => ?_)))
      · have he : ¬ iz nb k = ex := by simpa using he
        have hf := of_decide_eq_true hf
        refine Sat.bnd (R := fun r => r = .inl (ex, (nb.length : Int), (k : Int), w.n, w.ls, w.up, w.sq, w.db, l.o, l.s, l.e, nb, flN l ex w.net (nb.take k) ++ [⟨iz nb k, l⟩], ())) (Sat.gd (decide_eq_true (by simp only [List.length_singleton]; omega)) (.some rfl)) ?_
        rintro _ rfl
        simp (disch := omega) only [w64]
        refine .some ⟨hlt, ?_⟩
        rw [flN_take hlt, fl1, if_pos ⟨he, by omega⟩]
        rfl
      · have hf := of_decide_eq_false hf
        refine .some ⟨hlt, ?_⟩
        rw [flN_take hlt, fl1, if_neg (by omega)]
        rfl
      · have he : iz nb k = ex := by simpa using he
        refine .some ⟨hlt, ?_⟩
        rw [flN_take hlt, fl1, if_neg (fun hh => hh.1 he)]
        rfl
    · obtain rfl : k = nb.length := by omega
      rw [List.take_length]
      exact Sat.no (decide_eq_false (by omega)) (.some rfl)
  · rintro (r | r) hr
    case inr => exact hr.elim
    obtain rfl := hr
    exact .some rfl
theorem zDU (w : Wd) (i ex : Int) (l : Ls) (g : GV w.n w.ls) (hu : w.up.length = w.ls.length) (hn : w.net.length ≤ 16) (hl : Sm l.e) : zKS (w.n, i, l.o, l.s, l.e, ex, w.ls, w.up, w.sq, w.db, w.net, ()) = some (w.n, w.ls, w.up, w.sq, w.db, flN l ex w.net (nbS (tru w.ls w.up) i w.n.toNat), ()) := by
  have h14 := g.2.2.1
  unfold zKS
  dsimp only
  rw [zD2 w hu (by omega)]
  simp only [Option.bind_some, nb_s (tru_gv g w.up)]
  have h8 := nbS_len (tru w.ls w.up) i w.n.toNat
  have hn8 := g.2.1
  generalize nbS (tru w.ls w.up) i w.n.toNat = nb at h8 ⊢
  refine Sat.out (Sat.bnd (R := fun r => match r with | .inl x => x = (w.ls, w.up, w.sq, w.db, w.n, 0, [], [], [], [], [], flN l ex w.net nb, ()) | .inr _ => False) ?_ ?_)
  · refine Sat.count nb.length (fun k t => t = (ex, (k : Int), w.ls, w.up, w.sq, w.db, w.n, l.o, l.s, l.e, 0, [], [], [], [], [], nb, flN l ex w.net (nb.take k), ())) ?_ (Nat.zero_le _) (fuel_lt (by omega)) (by simp [nI_eq, flN])
    rintro k t hk rfl
    simp (disch := omega) only [zCt, at_int, toN, w64, nI_eq, zDL _ _ _ hl, Option.bind_some]
    by_cases hlt : k < nb.length
    · refine Sat.gd (decide_eq_true (by omega)) (Sat.ite (fun hf => ?_) (fun hf => ?_))
      · have hf := of_decide_eq_true hf
        refine Sat.gd (inR_t (by omega) (by omega)) (Sat.ite (fun he => ?_) (fun he => ?_))
        · have he : ¬ iz nb k = ex := by simpa using he
          refine Sat.gd (inR_t (by omega) (by omega)) (Sat.gd (decide_eq_true (by simp only [List.length_nil]; omega)) (Sat.gd (decide_eq_true (by simp only [List.nil_append, List.length_singleton]; omega)) (.some ⟨hlt, ?_⟩)))
          rw [flN_take hlt, fl1, if_pos ⟨he, by omega⟩]
          rfl
        · have he : iz nb k = ex := by simpa using he
          refine .some ⟨hlt, ?_⟩
          rw [flN_take hlt, fl1, if_neg (fun hh => hh.1 he)]
          rfl
      · have hf := of_decide_eq_false hf
        exact .some (by rw [flN_stop (by omega)])
    · obtain rfl : k = nb.length := by omega
      rw [List.take_length]
      exact Sat.no (decide_eq_false (by omega)) (.some rfl)
  · rintro (r | r) hr
    case inr => exact hr.elim
    obtain rfl := hr
    exact .some rfl
end Go.Proofs.YtjffopopheiinaaGreat
end
section
namespace Go.Proofs.YtjffopopheiinaaGreat
open Go.RowKit
set_option linter.unusedSimpArgs false
set_option linter.unusedVariables false
set_option maxRecDepth 100000

theorem sov {α β : Type} {o : Option α} {f : α → Option β} {r : α} {Q : β → Prop} (h : o = some r) (k : Sat (f r) Q) : Sat (o.bind f) Q := by subst h; exact k
theorem set_same {α : Type} {l : List α} {i : Nat} {d : α} (h : i < l.length) : l.set i (l.getD i d) = l := by
  rw [List.getD, List.getElem?_eq_getElem h]
  exact List.set_getElem_self h
theorem lsa_i {n : Int} {ls : List Lk} (g : GV n ls) (o s : Int) : zJN (n, ls, o, s, ()) = some (o, s, endsOf ls n.toNat o, ()) := by
  have h1 := g.1
  obtain ⟨N, rfl⟩ := Int.eq_ofNat_of_zero_le (show 0 ≤ n by omega)
  exact zEd g o s
theorem lsa_s {n : Int} {ls : List Lk} (g : GV n ls) (o s : Int) : zKJ (n, ls, o, s, ()) = some (o, s, endsOf ls n.toNat o, ()) := by
  have h1 := g.1
  obtain ⟨N, rfl⟩ := Int.eq_ofNat_of_zero_le (show 0 ≤ n by omega)
  exact zDK g o s
section
variable {w : Wd} {A : Int → Prop}
theorem zCT (h : WV w A) {i : Nat} (hi : i < w.db.length) (h99 : iz w.sq i < 99) : zJW ((i : Int), w.n, w.ls, w.up, w.sq, w.db, w.net, ()) = some (wt (annW w i)) := by
  have hsq := h.sq
  have hdb := h.db
  have his : i < w.sq.length := by omega
  have hr := h.rng i his
  have h14 := h.lsl
  have hd := h.ok i hi
  have hnw := newL_ok h hi h99
  have hlen := hd.len
  have b1 : zBD ((i : Int), w.n, w.ls, w.up, w.sq.set i (iz w.sq i + 1), w.db, w.net, ()) = some (.inl ((i : Int), w.n, w.ls, w.up, w.sq.set i (iz w.sq i + 1), w.db, (i : Int), iz w.sq i + 1, w.net, endsOf (tru w.ls w.up) w.n.toNat i, ())) := by
    unfold zBD
    simp only [toN, at_int]
    refine Sat.out (Sat.gd (inR_t (by omega) (by rw [List.length_set]; omega)) (sov (zFl { w with sq := w.sq.set i (iz w.sq i + 1) } h.up (by show w.ls.length ≤ 1000; omega)) ?_))
    dsimp only
    refine sov (lsa_i (tru_gv h.g w.up) _ _) (.some ?_)
    dsimp only
    rw [iz_set' his, if_pos rfl]
  have b2 : zBE ((i : Int), w.n, w.ls, w.up, w.sq.set i (iz w.sq i + 1), w.db, (i : Int), iz w.sq i + 1, w.net, endsOf (tru w.ls w.up) w.n.toNat i, ()) = some (.inl ((i : Int), w.n, w.ls, w.up, w.sq.set i (iz w.sq i + 1), w.db.set i (putD (dbx w.db i) (newL w i)), (i : Int), iz w.sq i + 1, w.net, endsOf (tru w.ls w.up) w.n.toNat i, ())) := by
    unfold zBE
    simp only [toN, at_db]
    exact Sat.out (Sat.gd (inR_t (by omega) (by omega)) (sov (e_put (dbx w.db i) (newL w i) hd.so hd.sm hnw.sm (by omega)) (Sat.gd (inR_t (by omega) (by omega)) (.some rfl))))
  unfold zJW
  simp (disch := omega) only [toN, at_int, w64]
  refine Sat.out (Sat.gd (inR_t (by omega) (by omega)) (Sat.gd (inR_t (by omega) (by omega)) (sov b1 ?_)))
  dsimp only
  refine sov b2 ?_
  dsimp only
  exact sov (zC6 { w with sq := w.sq.set i (iz w.sq i + 1), db := w.db.set i (putD (dbx w.db i) (newL w i)) } (i : Int) (-1) (newL w i) h.g h.up h.net hnw.sm) (.some rfl)
theorem zDQ (h : WV w A) {i : Nat} (hi : i < w.db.length) (h99 : iz w.sq i < 99) : zKP (w.n, (i : Int), w.ls, w.up, w.sq, w.db, w.net, ()) = some (wt (annW w i)) := by
  have hsq := h.sq
  have hdb := h.db
  have his : i < w.sq.length := by omega
  have hr := h.rng i his
  have h14 := h.lsl
  have hd := h.ok i hi
  have hnw := newL_ok h hi h99
  have b1 : zCp ((i : Int), w.ls, w.up, w.sq.set i (iz w.sq i + 1), w.db, w.n, 0, [], [], [], [], [], w.net, ()) = some (.inl ((i : Int), w.ls, w.up, w.sq.set i (iz w.sq i + 1), w.db, w.n, 0, [], [], [], [], [], (i : Int), iz w.sq i + 1, w.net, endsOf (tru w.ls w.up) w.n.toNat i, ())) := by
    unfold zCp
    simp only [toN, at_int]
    refine Sat.out (Sat.gd (inR_t (by omega) (by rw [List.length_set]; omega)) (sov (zD2 { w with sq := w.sq.set i (iz w.sq i + 1) } h.up (by show w.ls.length ≤ 1000; omega)) ?_))
    dsimp only
    refine sov (lsa_s (tru_gv h.g w.up) _ _) (.some ?_)
    dsimp only
    rw [iz_set' his, if_pos rfl]
  unfold zKP
  simp (disch := omega) only [toN, at_int, w64]
  refine Sat.out (Sat.gd (inR_t (by omega) (by omega)) (Sat.gd (inR_t (by omega) (by omega)) (sov b1 ?_)))
  simp only [toN, at_db]
  refine Sat.gd (inR_t (by omega) (by omega)) (sov (zDM (dbx w.db i) (newL w i) hd.so hd.sm hnw.sm) (Sat.gd (inR_t (by omega) (by omega)) ?_))
  exact sov (zDU { w with sq := w.sq.set i (iz w.sq i + 1), db := w.db.set i (putD (dbx w.db i) (newL w i)) } (i : Int) (-1) (newL w i) h.g h.up h.net hnw.sm) (.some rfl)
theorem zCU (h : WV w A) {i : Int} (h0 : 0 ≤ i) (hi : i < w.n) (h99 : iz w.sq i.toNat < 99) : zJW (i, w.n, w.ls, w.up, w.sq, w.db, w.net, ()) = some (wt (annW w i.toNat)) := by
  have hdb := h.db
  obtain ⟨k, rfl⟩ := Int.eq_ofNat_of_zero_le h0
  exact zCT h (by omega) h99
theorem zDR (h : WV w A) {i : Int} (h0 : 0 ≤ i) (hi : i < w.n) (h99 : iz w.sq i.toNat < 99) : zKP (w.n, i, w.ls, w.up, w.sq, w.db, w.net, ()) = some (wt (annW w i.toNat)) := by
  have hdb := h.db
  obtain ⟨k, rfl⟩ := Int.eq_ofNat_of_zero_le h0
  exact zDQ h (by omega) h99
structure SmW (w : Wd) : Prop where
  ls : w.ls.length ≤ 2000000
  up : w.up.length ≤ 2000000
  sq : w.sq.length ≤ 2000000
  db : w.db.length ≤ 2000000
  net : w.net.length ≤ 2000000
  dbs : ∀ i, i < w.db.length → SmD (dbx w.db i)
  pks : ∀ i, i < w.net.length → Sm (pkx w.net i).p.e
theorem WV.sm (h : WV w A) : SmW w := by
  have h1 := h.lsl
  have h2 := h.up
  have h3 := h.sq
  have h4 := h.db
  have h5 := h.net
  have h6 := h.nn
  exact ⟨by omega, by omega, by omega, by omega, by omega, fun i hi => (h.ok i hi).sm, fun i hi => (h.poss _ (.inr ⟨_, pkx_mem hi, rfl⟩)).1.sm⟩
theorem take_dbx {db : List (List Ls)} {k : Nat} (h : k < db.length) : db.take k ++ [dbx db k] = db.take (k + 1) := by
  rw [List.take_add_one, List.getElem?_eq_getElem h]; simp [dbx, List.getD, h]
theorem take_pkx {net : List Pk} {k : Nat} (h : k < net.length) : net.take k ++ [⟨(pkx net k).t, ⟨(pkx net k).p.o, (pkx net k).p.s, (pkx net k).p.e⟩⟩] = net.take (k + 1) := by
  rw [List.take_add_one, List.getElem?_eq_getElem h]
  have : pkx net k = net[k] := by simp [pkx, List.getD, h]
  rw [this]; rfl
theorem zC2 (h : SmW w) : zJ7 (w.n, w.ls, w.up, w.sq, w.db, w.net, ()) = some (w.n, w.ls, w.up, w.sq, w.db, w.net, ()) := by
  have h1 := h.ls
  have h2 := h.up
  have h3 := h.sq
  have h4 := h.db
  have h5 := h.net
  cases w with | mk n ls up sq db net =>
  dsimp only at h1 h2 h3 h4 h5 ⊢
  have b1 : zBR (n, ls, up, sq, db, net, 0, [], [], [], [], [], ()) = some (.inl (n, ls, up, sq, db, net, 0, [], [], [], [], [], n, ls, up, sq, [], [], ())) := by
    unfold zBR
    refine Sat.out (sov (zDG n ls h1) ?_)
    unfold zKo zKq
    rw [decide_eq_true (show up.length ≤ 16777216 by omega), decide_eq_true (show sq.length ≤ 16777216 by omega)]
    exact .some rfl
  unfold zJ7
  refine Sat.out (sov b1 ?_)
  refine Sat.bnd (R := fun r => match r with | .inl x => x = (n, ls, up, sq, db, net, 0, [], [], [], [], [], n, ls, up, sq, db, [], ()) | .inr _ => False) ?_ ?_
  · refine Sat.count db.length (fun k t => t = (db, (db.length : Int), (k : Int), n, ls, up, sq, db, net, 0, [], [], [], [], [], n, ls, up, sq, db.take k, [], ())) ?_ (Nat.zero_le _) (fuel_lt (by omega)) (by simp [nI_eq])
    rintro k t hk rfl
    by_cases hlt : k < db.length
    · have e1 := zC0 _ (h.dbs k hlt)
      simp (disch := omega) only [zBS, at_db, toN, w64, e1, Option.bind_some]
      refine Sat.gd (decide_eq_true (by omega)) (Sat.gd (inR_t (by omega) (by omega)) (Sat.gd (decide_eq_true (by simp; omega)) (.some ⟨hlt, ?_⟩)))
      rw [← take_dbx hlt]; rfl
    · obtain rfl : k = db.length := by omega
      unfold zBS
      refine Sat.no (decide_eq_false (by first | omega | (dsimp only; omega))) (.some ?_)
      rw [List.take_length]
  rintro (r | r) hr
  case inr => exact hr.elim
  obtain rfl := hr
  refine Sat.bnd (R := fun r => match r with | .inl x => x = (0, [], [], [], [], [], n, ls, up, sq, db, net, ()) | .inr _ => False) ?_ ?_
  · refine Sat.count net.length (fun k t => t = (net, (net.length : Int), (k : Int), 0, [], [], [], [], [], n, ls, up, sq, db, net.take k, ())) ?_ (Nat.zero_le _) (fuel_lt (by omega)) (by simp [nI_eq])
    rintro k t hk rfl
    by_cases hlt : k < net.length
    · have e1 := zC1 (pkx net k).p.o (pkx net k).p.s _ (h.pks k hlt)
      simp (disch := omega) only [zBT, at_pk, toN, w64, e1, Option.bind_some]
      refine Sat.gd (decide_eq_true (by omega)) (Sat.gd (inR_t (by omega) (by omega)) ?_)
      refine Sat.gd (decide_eq_true (by simp; omega)) (.some ⟨hlt, ?_⟩)
      rw [← take_pkx hlt]; rfl
    · obtain rfl : k = net.length := by omega
      unfold zBT
      refine Sat.no (decide_eq_false (by first | omega | (dsimp only; omega))) (.some ?_)
      rw [List.take_length]
  rintro (r | r) hr
  case inr => exact hr.elim
  obtain rfl := hr
  exact .some rfl
theorem zDN (n : Int) (ls : List Lk) (hl : ls.length ≤ 2000000) : zKM (n, ls, ()) = some (n, ls, ()) := by
  unfold zKM
  exact Sat.out (Sat.gd (decide_eq_true (by simp only [List.length_nil]; omega)) (.some rfl))
theorem zDS (h : SmW w) : zKQ (w.n, w.ls, w.up, w.sq, w.db, w.net, ()) = some (w.n, w.ls, w.up, w.sq, w.db, w.net, ()) := by
  have h1 := h.ls
  have h2 := h.up
  have h3 := h.sq
  have h4 := h.db
  have h5 := h.net
  cases w with | mk n ls up sq db net =>
  dsimp only at h1 h2 h3 h4 h5 ⊢
  have b1 : zCq (n, ls, up, sq, db, net, 0, [], [], [], [], [], ()) = some (.inl (n, ls, up, sq, db, net, 0, [], [], [], [], [], n, ls, up, sq, [], [], ())) := by
    unfold zCq
    exact Sat.out (sov (zDN n ls h1) (Sat.gd (decide_eq_true (by simp; omega)) (Sat.gd (decide_eq_true (by simp; omega)) (.some (by simp)))))
  unfold zKQ
  refine Sat.out (sov b1 ?_)
  refine Sat.bnd (R := fun r => match r with | .inl x => x = (n, ls, up, sq, db, net, 0, [], [], [], [], [], n, ls, up, sq, db, [], ()) | .inr _ => False) ?_ ?_
  · refine Sat.count db.length (fun k t => t = ((k : Int), n, ls, up, sq, db, net, 0, [], [], [], [], [], n, ls, up, sq, db.take k, [], ())) ?_ (Nat.zero_le _) (fuel_lt (by omega)) (by simp [nI_eq])
    rintro k t hk rfl
    by_cases hlt : k < db.length
    · have e1 := zDH _ (h.dbs k hlt)
      simp (disch := omega) only [zCr, at_db, toN, w64, nI_eq, e1, Option.bind_some]
      refine Sat.gd (decide_eq_true (by omega)) (Sat.gd (inR_t (by omega) (by omega)) (Sat.gd (decide_eq_true (by simp; omega)) (.some ⟨hlt, ?_⟩)))
      rw [← take_dbx hlt]; rfl
    · obtain rfl : k = db.length := by omega
      unfold zCr
      simp only [nI_eq]
      refine Sat.no (decide_eq_false (by first | omega | (dsimp only; omega))) (.some ?_)
      rw [List.take_length]
  rintro (r | r) hr
  case inr => exact hr.elim
  obtain rfl := hr
  refine Sat.bnd (R := fun r => match r with | .inl x => x = (0, [], [], [], [], [], n, ls, up, sq, db, net, ()) | .inr _ => False) ?_ ?_
  · refine Sat.count net.length (fun k t => t = ((k : Int), n, ls, up, sq, db, net, 0, [], [], [], [], [], n, ls, up, sq, db, net.take k, ())) ?_ (Nat.zero_le _) (fuel_lt (by omega)) (by simp [nI_eq])
    rintro k t hk rfl
    by_cases hlt : k < net.length
    · have e1 := zDL (pkx net k).p.o (pkx net k).p.s _ (h.pks k hlt)
      simp (disch := omega) only [zCs, at_pk, toN, w64, nI_eq, e1, Option.bind_some]
      refine Sat.gd (decide_eq_true (by omega)) (Sat.gd (inR_t (by omega) (by omega)) (Sat.gd (inR_t (by omega) (by omega)) ?_))
      refine Sat.gd (decide_eq_true (by simp; omega)) (.some ⟨hlt, ?_⟩)
      rw [← take_pkx hlt]; rfl
    · obtain rfl : k = net.length := by omega
      unfold zCs
      simp only [nI_eq]
      refine Sat.no (decide_eq_false (by first | omega | (dsimp only; omega))) (.some ?_)
      rw [List.take_length]
  rintro (r | r) hr
  case inr => exact hr.elim
  obtain rfl := hr
  exact .some rfl
end
end Go.Proofs.YtjffopopheiinaaGreat
end
section
namespace Go.Proofs.YtjffopopheiinaaGreat
open Go.RowKit
set_option linter.unusedSimpArgs false
set_option linter.unusedVariables false
set_option maxRecDepth 100000

section
variable {w : Wd} {A : Int → Prop}
theorem do12 {kind a : Int} (hk : kind = 1 ∨ kind = 2) : doW w kind a = if 0 ≤ a ∧ a < w.up.length then turnW w a.toNat (decide (kind = 2)) else w := by
  unfold doW
  rcases hk with rfl | rfl <;> simp
theorem do3 {a : Int} : doW w 3 a = if 0 ≤ a ∧ a < w.net.length then hearW { w with net := w.net.eraseIdx a.toNat } (pkx w.net a.toNat).t.toNat (pkx w.net a.toNat).p else w := by
  unfold doW; simp
theorem do4 {a : Int} : doW w 4 a = if 0 ≤ a ∧ a < w.net.length then { w with net := w.net.eraseIdx a.toNat } else w := by
  unfold doW; simp
theorem do5 {a : Int} : doW w 5 a = if 0 ≤ a ∧ a < w.net.length then (if w.net.length < 16 then { w with net := w.net ++ [pkx w.net a.toNat] } else w) else w := by
  unfold doW; simp
theorem do6 {a : Int} : doW w 6 a = if 0 ≤ a ∧ a < w.up.length then syncW w a.toNat else w := by
  unfold doW; simp
theorem doX {kind a : Int} (h1 : kind ≠ 1) (h2 : kind ≠ 2) (h3 : kind ≠ 3) (h4 : kind ≠ 4) (h5 : kind ≠ 5) (h6 : kind ≠ 6) : doW w kind a = w := by
  unfold doW; simp [h1, h2, h3, h4, h5, h6]
theorem turn_pre (h : WV w Nob) {k : Nat} (hk : k < w.ls.length) (u : Bool) (ha : iz w.sq (lk w.ls k).a.toNat < 99) (hb : iz w.sq (lk w.ls k).b.toNat < 99) : ∃ A, WV (annW { w with up := w.up.set k u } (lk w.ls k).a.toNat) A ∧ iz (annW { w with up := w.up.set k u } (lk w.ls k).a.toNat).sq (lk w.ls k).b.toNat < 99 := by
  have hdb := h.db
  have hsq := h.sq
  have ho := h.g.ok (lk_mem hk)
  unfold okL at ho
  refine ⟨_, ann_ok (up_ok h hk u) (i := (lk w.ls k).a.toNat) (by show _ < w.db.length; omega) (by show iz w.sq _ < 99; omega), ?_⟩
  show iz (w.sq.set (lk w.ls k).a.toNat _) (lk w.ls k).b.toNat < 99
  rw [iz_set' (by omega), if_neg (by omega)]
  omega
theorem zD3 (h : WV w Nob) {k : Nat} (hk : k < w.ls.length) (u : Bool) : zK1 (w.n, w.ls, w.up, w.sq, w.db, w.net, (k : Int), u, ()) = some (wt (turnW w k u)) := by
  have hdb := h.db
  have hsq := h.sq
  have hup := h.up
  have ho := h.g.ok (lk_mem hk)
  unfold okL at ho
  have main : w.up.getD k false ≠ u → iz w.sq (lk w.ls k).a.toNat < 99 → iz w.sq (lk w.ls k).b.toNat < 99 → zCB (w.n, 0, [], [], [], [], [], (lk w.ls k).a, (lk w.ls k).b, (lk w.ls k).c, w.ls, w.up.set k u, w.sq, w.db, w.net, ()) = some (.inl (wt (turnW w k u))) := fun hu ha hb => by
    obtain ⟨A, v, hv⟩ := turn_pre h hk u ha hb
    unfold zCB
    refine Sat.out (sov (zDR (up_ok h hk u) (i := (lk w.ls k).a) (by omega) (by show _ < w.n; omega) ha) ?_)
    dsimp only [wt]
    refine sov (zDR v (i := (lk w.ls k).b) (by omega) (by show _ < w.n; omega) hv) (.some ?_)
    unfold turnW
    rw [if_neg (by rintro (e | e | e); exact hu e; omega; omega)]
    rfl
  unfold zK1
  simp only [toN, at_lk, at_bo, at_int]
  refine Sat.out (Sat.gd (inR_t (by omega) (by omega)) (Sat.gd (inR_t (by omega) (by omega)) (Sat.ite (fun hc => .some ?_) (fun hc => ?_))))
  · have hc : w.up.getD k false = u := by simpa using hc
    unfold turnW; rw [if_pos (.inl hc)]; rfl
  have hc : w.up.getD k false ≠ u := by simpa using hc
  refine Sat.gd (inR_t (by omega) (by omega)) (Sat.ite (fun ha => .some ?_) (fun ha => ?_))
  · have ha := of_decide_eq_true ha
    unfold turnW; rw [if_pos (.inr (.inl ha))]; rfl
  have ha := of_decide_eq_false ha
  refine Sat.gd (inR_t (by omega) (by omega)) (Sat.ite (fun hb => .some ?_) (fun hb => ?_))
  · have hb := of_decide_eq_true hb
    unfold turnW; rw [if_pos (.inr (.inr hb))]; rfl
  have hb := of_decide_eq_false hb
  refine sov (zDS h.sm) ?_
  dsimp only [wt]
  refine Sat.gd (inR_t (by omega) (by omega)) (sov (main hc (by omega) (by omega)) (.some rfl))
theorem zDV (h : WV w A) {t : Nat} (ht : t < w.db.length) {l : Ls} (hl : LsV l) : zKT (w.n, w.ls, w.up, w.sq, w.db, w.net, (t : Int), l.o, l.s, l.e, ()) = some (wt (hearW w t l)) := by
  have hd := h.ok t ht
  unfold zKT
  simp only [toN, at_db]
  refine Sat.out (Sat.gd (inR_t (by omega) (by omega)) (sov (zDM (dbx w.db t) l hd.so hd.sm hl.sm) ?_))
  dsimp only
  unfold hearW
  refine Sat.ite (fun hc => .some ?_) (fun hc => ?_)
  · have hc : ¬ putC (dbx w.db t) l = 0 := by simpa using hc
    rw [if_neg hc]; rfl
  · have hc : putC (dbx w.db t) l = 0 := by simpa using hc
    rw [if_pos hc]
    refine sov (zDS h.sm) ?_
    dsimp only
    refine Sat.gd (inR_t (by omega) (by omega)) ?_
    exact sov (zDU { w with db := w.db.set t (putD (dbx w.db t) l) } (t : Int) l.o l h.g h.up h.net hl.sm) (.some rfl)
theorem zD1 (h : WV w A) {k : Nat} (hk : k < w.ls.length) : zKZ (w.n, w.ls, w.up, w.sq, w.db, w.net, (k : Int), ()) = some (wt (syncW w k)) := by
  have hdb := h.db
  have hup := h.up
  have ho := h.g.ok (lk_mem hk)
  unfold okL at ho
  have va := h.ok (lk w.ls k).a.toNat (by omega)
  have vb := h.ok (lk w.ls k).b.toNat (by omega)
  have vm := mergeD_ok va (dbV_iff.1 vb).1
  have la := va.len
  have lb := vb.len
  unfold zKZ syncW
  simp only [toN, at_db, at_lk, at_bo]
  refine Sat.out (Sat.gd (inR_t (by omega) (by omega)) (Sat.gd (inR_t (by omega) (by omega)) (Sat.ite (fun hc => .some ?_) (fun hc => ?_))))
  · have hc : ¬ w.up.getD k false = true := by simpa using hc
    rw [if_neg hc]; rfl
  · have hc : w.up.getD k false = true := by simpa using hc
    rw [if_pos hc]
    refine sov (zDS h.sm) ?_
    dsimp only
    refine Sat.gd (inR_t (by omega) (by omega)) (Sat.gd (inR_t (by omega) (by omega)) (sov (zDJ _ _ va.so va.sm vb.sm (by omega) (by omega)) ?_))
    dsimp only
    refine Sat.gd (inR_t (by omega) (by omega)) (sov (zDH _ vm.sm) ?_)
    refine Sat.gd (inR_t (by omega) (by rw [List.length_set]; omega)) (.some rfl)
theorem toS (k : Nat) : Int.toNat ((k : Int) + 1) = k + 1 := by omega
theorem tkd {α : Type} (l : List α) (j : Nat) : List.take (l.length - j) (List.drop j l) = List.drop j l := List.take_of_length_le (by simp)
theorem bnd_t {lo hi : Int} {n : Nat} (h1 : 0 ≤ lo) (h2 : lo ≤ hi) (h3 : hi ≤ n) : bnd2 lo hi n = true := by unfold bnd2; simp; omega
theorem zDX (h : WV w Nob) {kind : Int} (hk : kind = 3 ∨ kind = 4 ∨ kind = 5) (a : Int) : zKV (w.n, w.ls, w.up, w.sq, w.db, w.net, kind, a, ()) = some (wt (doW w kind a)) := by
  have hnet := h.net
  have hdb := h.db
  unfold zKV
  simp (disch := omega) only [e_l6In, Option.bind_some, nI_eq, w64]
  refine Sat.out (Sat.ite (fun hc => .some ?_) (fun hc => ?_))
  · have hc := inB_f (show inB a 0 ((w.net.length : Int) - 1) = false by simpa using hc)
    rcases hk with rfl | rfl | rfl
    · rw [do3, if_neg (by omega)]; rfl
    · rw [do4, if_neg (by omega)]; rfl
    · rw [do5, if_neg (by omega)]; rfl
  have hc : 0 ≤ a ∧ a ≤ (w.net.length : Int) - 1 := by simpa [inB] using hc
  obtain ⟨k, rfl⟩ := Int.eq_ofNat_of_zero_le hc.1
  have hkn : k < w.net.length := by omega
  have hm : pkx w.net k ∈ w.net := pkx_mem hkn
  have hP := h.poss _ (.inr ⟨_, hm, rfl⟩)
  have ht := h.tgt _ hm
  have hV := hP.1
  have w1 : wrap64 ((k : Int) + 1) = ((k : Int) + 1) := w64 (by omega) (by omega)
  simp only [w1, toN, toS, at_pk, Int.toNat_zero, List.drop_zero, Nat.sub_zero, List.nil_append, tkd, ← List.eraseIdx_eq_take_drop_succ]
  clear w1
  refine Sat.gd (inR_t (by omega) (by omega)) ?_
  by_cases h5 : kind = 5
  · subst h5
    rw [do5, if_pos ⟨by omega, by omega⟩, toN]
    refine Sat.gd rfl (Sat.ite (fun hf => ?_) (fun hf => ?_))
    · have hf := of_decide_eq_true hf
      rw [if_pos (by omega)]
      have e : zCv (w.n, w.ls, w.up, w.sq, w.db, w.net, 0, [], [], [], [], [], (pkx w.net k).t, (pkx w.net k).p.o, (pkx w.net k).p.s, (pkx w.net k).p.e, ()) = some (.inl (w.n, w.ls, w.up, w.sq, w.db, 0, [], [], [], [], [], w.net ++ [pkx w.net k], ())) := by
        unfold zCv
        refine Sat.out (Sat.gd (decide_eq_true (by simp only [List.length_nil]; omega)) (Sat.gd (decide_eq_true (by simp only [List.nil_append, List.length_singleton]; omega)) (.some (by simp))))
      exact sov e (.some rfl)
    · have hf := of_decide_eq_false hf
      rw [if_neg (by omega)]
      exact .some rfl
  refine Sat.no (decide_eq_false h5) (Sat.gd (bnd_t (by omega) (by omega) (by omega)) (Sat.gd (bnd_t (by omega) (by omega) (by omega)) ?_))
  refine Sat.gd (decide_eq_true (by simp only [List.length_nil, List.length_take]; omega)) (Sat.gd (decide_eq_true (by simp only [List.length_take, List.length_drop]; omega)) ?_)
  by_cases h3 : kind = 3
  · subst h3
    rw [do3, if_pos ⟨by omega, by omega⟩, toN]
    refine Sat.gd rfl ?_
    obtain ⟨t, ht'⟩ := Int.eq_ofNat_of_zero_le ht.1
    rw [ht']
    exact sov (zDV (lose_ok h k) (t := t) (by show t < w.db.length; omega) hV) (.some rfl)
  · have h4 : kind = 4 := by omega
    subst h4
    rw [do4, if_pos ⟨by omega, by omega⟩, toN]
    exact Sat.no rfl (.some rfl)
theorem zDT (h : WV w Nob) (kind a : Int) : zKR (w.n, w.ls, w.up, w.sq, w.db, w.net, kind, a, ()) = some (wt (doW w kind a)) := by
  have hup := h.up
  have h14 := h.lsl
  have hnet : ∀ kind, kind = 3 ∨ kind = 4 ∨ kind = 5 → Sat ((zKV (w.n, w.ls, w.up, w.sq, w.db, w.net, kind, a, ())).bind fun r0 => some ((r0.1, r0.2.1, r0.2.2.1, r0.2.2.2.1, r0.2.2.2.2.1, r0.2.2.2.2.2.1, ()))) (· = wt (doW w kind a)) := fun kind hk => sov (zDX h hk a) (.some rfl)
  unfold zKR
  dsimp only
  by_cases h3 : kind = 3
  · subst h3; exact Sat.out (Sat.gd rfl (Sat.gd rfl (hnet 3 (.inl rfl))))
  by_cases h4 : kind = 4
  · subst h4; exact Sat.out (Sat.no rfl (Sat.gd rfl (Sat.gd rfl (hnet 4 (.inr (.inl rfl))))))
  by_cases h5 : kind = 5
  · subst h5; exact Sat.out (Sat.no rfl (Sat.no rfl (Sat.gd rfl (hnet 5 (.inr (.inr rfl))))))
  refine Sat.out (Sat.no (decide_eq_false h3) (Sat.no (decide_eq_false h4) (Sat.no (decide_eq_false h5) (sov (e_l6In _ _ _) ?_))))
  simp (disch := omega) only [nI_eq, w64]
  have out : ¬ (0 ≤ a ∧ a < w.up.length) → doW w kind a = w := fun hh => by
    unfold doW
    simp only [h3, h4, h5, false_and, if_false]
    rw [if_neg (fun q => hh q.2), if_neg (fun q => hh q.2)]
  refine Sat.ite (fun hc => .some ?_) (fun hc => ?_)
  · have hc := inB_f (show inB a 0 ((w.up.length : Int) - 1) = false by simpa using hc)
    rw [out (by omega)]; rfl
  have hc : 0 ≤ a ∧ a ≤ (w.up.length : Int) - 1 := by simpa [inB] using hc
  obtain ⟨k, rfl⟩ := Int.eq_ofNat_of_zero_le hc.1
  by_cases h1 : kind = 1
  · subst h1
    rw [do12 (.inl rfl), if_pos ⟨by omega, by omega⟩, toN]
    exact Sat.gd rfl (Sat.gd rfl (sov (zD3 h (by omega) _) (.some rfl)))
  by_cases h2 : kind = 2
  · subst h2
    rw [do12 (.inr rfl), if_pos ⟨by omega, by omega⟩, toN]
    exact Sat.no rfl (Sat.gd rfl (sov (zD3 h (by omega) _) (.some rfl)))
  refine Sat.no (decide_eq_false h1) (Sat.no (decide_eq_false h2) ?_)
  by_cases h6 : kind = 6
  · subst h6
    rw [do6, if_pos ⟨by omega, by omega⟩, toN]
    exact Sat.gd rfl (sov (zD1 h (by omega)) (.some rfl))
  · refine Sat.no (decide_eq_false h6) (.some ?_)
    rw [doX h1 h2 h3 h4 h5 h6]; rfl
end
end Go.Proofs.YtjffopopheiinaaGreat
end
section
namespace Go.Proofs.YtjffopopheiinaaGreat
open Go.RowKit
set_option linter.unusedSimpArgs false
set_option linter.unusedVariables false
set_option maxRecDepth 100000

section
variable {w : Wd} {A : Int → Prop}
theorem e_del (net : List Pk) (k : Nat) (hk : k < net.length) (hn : net.length ≤ 16) : zKs ((k : Int), (k : Int) + 1, net, ()) = some (net.eraseIdx k, ()) := by
  unfold zKs
  rw [List.eraseIdx_eq_take_drop_succ]
  exact Sat.out (Sat.gd (decide_eq_true ⟨by omega, rfl, by show (k : Int) < (net.length : Int); omega, by show net.length ≤ 16777216; omega⟩) (.some rfl))
theorem zCW (h : WV w Nob) (kind a : Int) : zJX (kind, a, w.n, w.ls, w.up, w.sq, w.db, w.net, ()) = some (wt (doW w kind a)) := by
  have hup := h.up
  have h14 := h.lsl
  have hnet := h.net
  have hdb := h.db
  have hsq := h.sq
  unfold zJX
  simp (disch := omega) only [zFm, Option.bind_some, nI_eq, w64]
  by_cases h12 : kind = 1 ∨ kind = 2
  · rw [do12 h12]
    cases hin : inB a 0 ((w.up.length : Int) - 1) with
    | false =>
      have hc := inB_f hin
      rw [if_neg (by omega)]
      rcases h12 with rfl | rfl
      · exact Sat.out (Sat.gd rfl (Sat.no rfl (Sat.no rfl (Sat.no rfl (Sat.no rfl (Sat.no rfl (.some rfl)))))))
      · exact Sat.out (Sat.no rfl (Sat.gd rfl (Sat.no rfl (Sat.no rfl (Sat.no rfl (Sat.no rfl (Sat.no rfl (.some rfl))))))))
    | true =>
      have hc := inB_t hin
      obtain ⟨k, rfl⟩ := Int.eq_ofNat_of_zero_le hc.1
      have hk : k < w.ls.length := by omega
      have ho := h.g.ok (lk_mem hk)
      unfold okL at ho
      rw [if_pos ⟨by omega, by omega⟩, toN]
      have main : ∀ u : Bool, w.up.getD k false ≠ u → iz w.sq (lk w.ls k).a.toNat < 99 → iz w.sq (lk w.ls k).b.toNat < 99 → Sat ((zJW ((lk w.ls k).a, w.n, w.ls, w.up.set k u, w.sq, w.db, w.net, ())).bind fun r2 => (zJW (((lk w.ls k).b, (r2.1, (r2.2.1, (r2.2.2.1, (r2.2.2.2.1, (r2.2.2.2.2.1, (r2.2.2.2.2.2.1, ()))))))))).bind fun r3 => some ((r3.1, r3.2.1, r3.2.2.1, r3.2.2.2.1, r3.2.2.2.2.1, r3.2.2.2.2.2.1, ()))) (· = wt (turnW w k u)) := fun u hu ha hb => by
        obtain ⟨A, v, hv⟩ := turn_pre h hk u ha hb
        refine sov (zCU (up_ok h hk u) (i := (lk w.ls k).a) (by omega) (by show _ < w.n; omega) ha) ?_
        dsimp only [wt]
        refine sov (zCU v (i := (lk w.ls k).b) (by omega) (by show _ < w.n; omega) hv) (.some ?_)
        unfold turnW
        rw [if_neg (by rintro (e | e | e); exact hu e; omega; omega)]
        rfl
      have same : ∀ u : Bool, ¬ (w.up.getD k false ≠ u ∧ iz w.sq (lk w.ls k).a.toNat < 99 ∧ iz w.sq (lk w.ls k).b.toNat < 99) → (w.n, w.ls, w.up, w.sq, w.db, w.net, ()) = wt (turnW w k u) := fun u hh => by
        unfold turnW
        rw [if_pos (by
          by_cases e1 : w.up.getD k false = u
          · exact .inl e1
          · by_cases e2 : iz w.sq (lk w.ls k).a.toNat < 99
            · exact .inr (.inr (by
                by_cases e3 : iz w.sq (lk w.ls k).b.toNat < 99
                · exact (hh ⟨e1, e2, e3⟩).elim
                · omega))
            · exact .inr (.inl (by omega)))]
        rfl
      simp only [toN, at_lk, at_bo, at_int]
      rcases h12 with rfl | rfl
      · refine Sat.out (Sat.gd rfl (Sat.gd rfl (Sat.gd (inR_t (by omega) (by omega)) (Sat.gd (inR_t (by omega) (by omega)) ?_))))
        refine Sat.ite (fun hu => ?_) (fun hu => .some (same _ (fun q => q.1 (by simpa using hu))))
        refine Sat.gd (inR_t (by omega) (by omega)) (Sat.ite (fun ha => ?_) (fun ha => .some (same _ (fun q => of_decide_eq_false ha q.2.1))))
        refine Sat.gd (inR_t (by omega) (by omega)) (Sat.ite (fun hb => ?_) (fun hb => .some (same _ (fun q => of_decide_eq_false hb q.2.2))))
        exact Sat.gd (inR_t (by omega) (by omega)) (main _ (by simpa using hu) (of_decide_eq_true ha) (of_decide_eq_true hb))
      · refine Sat.out (Sat.no rfl (Sat.gd rfl (Sat.gd rfl (Sat.gd (inR_t (by omega) (by omega)) (Sat.gd (inR_t (by omega) (by omega)) ?_)))))
        refine Sat.ite (fun hu => ?_) (fun hu => .some (same _ (fun q => q.1 (by simpa using hu))))
        refine Sat.gd (inR_t (by omega) (by omega)) (Sat.ite (fun ha => ?_) (fun ha => .some (same _ (fun q => of_decide_eq_false ha q.2.1))))
        refine Sat.gd (inR_t (by omega) (by omega)) (Sat.ite (fun hb => ?_) (fun hb => .some (same _ (fun q => of_decide_eq_false hb q.2.2))))
        exact Sat.gd (inR_t (by omega) (by omega)) (main _ (by simpa using hu) (of_decide_eq_true ha) (of_decide_eq_true hb))
  have h1 : kind ≠ 1 := fun e => h12 (.inl e)
  have h2 : kind ≠ 2 := fun e => h12 (.inr e)
  refine Sat.out (Sat.no (decide_eq_false h1) (Sat.no (decide_eq_false h2) ?_))
  by_cases h6 : kind = 6
  · subst h6
    rw [do6]
    cases hin : inB a 0 ((w.up.length : Int) - 1) with
    | false =>
      have hc := inB_f hin
      rw [if_neg (by omega)]
      exact Sat.no rfl (Sat.no rfl (Sat.no rfl (Sat.gd rfl (Sat.no rfl (.some rfl)))))
    | true =>
      have hc := inB_t hin
      obtain ⟨k, rfl⟩ := Int.eq_ofNat_of_zero_le hc.1
      have hk : k < w.ls.length := by omega
      have ho := h.g.ok (lk_mem hk)
      unfold okL at ho
      rw [if_pos ⟨by omega, by omega⟩, toN]
      have va := h.ok (lk w.ls k).a.toNat (by omega)
      have vb := h.ok (lk w.ls k).b.toNat (by omega)
      have vm := mergeD_ok va (dbV_iff.1 vb).1
      have la := va.len
      have lb := vb.len
      have b25 : zBI (w.n, w.ls, w.up, w.sq, w.db, (lk w.ls k).a, (lk w.ls k).b, (lk w.ls k).c, mergeD (dbx w.db (lk w.ls k).a.toNat) (dbx w.db (lk w.ls k).b.toNat), w.net, ()) = some (.inl (wt (synW w (lk w.ls k).a.toNat (lk w.ls k).b.toNat))) := by
        unfold zBI
        dsimp only
        refine Sat.out (sov (zC0 _ vm.sm) (Sat.gd (inR_t (by omega) (by omega)) (Sat.gd (inR_t (by omega) (by rw [List.length_set]; omega)) (.some rfl))))
      unfold syncW
      simp only [toN, at_lk, at_bo, at_db]
      refine Sat.no rfl (Sat.no rfl (Sat.no rfl (Sat.gd rfl (Sat.gd rfl (Sat.gd (inR_t (by omega) (by omega)) (Sat.gd (inR_t (by omega) (by omega)) (Sat.ite (fun hc => ?_) (fun hc => .some ?_))))))))
      · rw [if_pos hc]
        refine Sat.gd (inR_t (by omega) (by omega)) (Sat.gd (inR_t (by omega) (by omega)) (sov (zEe _ _ va.so va.sm vb.sm (by omega) (by omega)) ?_))
        exact sov b25 (.some rfl)
      · rw [if_neg (by rw [hc]; simp)]; rfl
  by_cases h345 : kind = 3 ∨ kind = 4 ∨ kind = 5
  case neg =>
    have h3 : kind ≠ 3 := fun e => h345 (.inl e)
    have h4 : kind ≠ 4 := fun e => h345 (.inr (.inl e))
    have h5 : kind ≠ 5 := fun e => h345 (.inr (.inr e))
    refine Sat.no (decide_eq_false h3) (Sat.no (decide_eq_false h4) (Sat.no (decide_eq_false h5) (Sat.no (decide_eq_false h6) (.some ?_))))
    rw [doX h1 h2 h3 h4 h5 h6]; rfl
  cases hin : inB a 0 ((w.net.length : Int) - 1) with
  | false =>
    have hc := inB_f hin
    rcases h345 with rfl | rfl | rfl
    · rw [do3, if_neg (by omega)]
      exact Sat.gd rfl (Sat.no rfl (Sat.no rfl (Sat.no rfl (Sat.no rfl (.some rfl)))))
    · rw [do4, if_neg (by omega)]
      exact Sat.no rfl (Sat.gd rfl (Sat.no rfl (Sat.no rfl (Sat.no rfl (.some rfl)))))
    · rw [do5, if_neg (by omega)]
      exact Sat.no rfl (Sat.no rfl (Sat.gd rfl (Sat.no rfl (Sat.no rfl (.some rfl)))))
  | true =>
    have hc := inB_t hin
    obtain ⟨k, rfl⟩ := Int.eq_ofNat_of_zero_le hc.1
    have hkn : k < w.net.length := by omega
    have hm : pkx w.net k ∈ w.net := pkx_mem hkn
    have hP := h.poss _ (.inr ⟨_, hm, rfl⟩)
    have ht := h.tgt _ hm
    have hV := hP.1
    have w1 : wrap64 ((k : Int) + 1) = ((k : Int) + 1) := w64 (by omega) (by omega)
    rcases h345 with rfl | rfl | rfl
    · rw [do3, if_pos ⟨by omega, by omega⟩, toN]
      obtain ⟨t, ht'⟩ := Int.eq_ofNat_of_zero_le ht.1
      have hd := h.ok t (by omega)
      have hdl := hd.len
      have b11 : zBF (w.n, w.ls, w.up, w.sq, w.db, 3, (k : Int), (t : Int), (pkx w.net k).p.o, (pkx w.net k).p.s, (pkx w.net k).p.e, w.net, ()) = some (.inl (w.n, w.ls, w.up, w.sq, w.db, (t : Int), (pkx w.net k).p.o, (pkx w.net k).p.s, (pkx w.net k).p.e, w.net.eraseIdx k, ())) := by
        unfold zBF
        simp only [w1]
        exact Sat.out (sov (e_del w.net k hkn hnet) (.some rfl))
      clear w1
      simp only [toN, at_pk]
      refine Sat.gd rfl (Sat.gd rfl (Sat.gd (inR_t (by omega) (by omega)) ?_))
      rw [ht', toN]
      refine sov b11 ?_
      simp only [toN, at_db]
      refine Sat.gd (inR_t (by omega) (by omega)) (sov (e_put (dbx w.db t) (pkx w.net k).p hd.so hd.sm hV.sm (by omega)) ?_)
      dsimp only
      refine Sat.gd (inR_t (by omega) (by omega)) ?_
      unfold hearW
      dsimp only
      refine Sat.ite (fun hp => ?_) (fun hp => .some ?_)
      · have hp := of_decide_eq_true hp
        rw [if_pos hp]
        exact sov (zC6 { w with db := w.db.set t (putD (dbx w.db t) (pkx w.net k).p), net := w.net.eraseIdx k } (t : Int) (pkx w.net k).p.o (pkx w.net k).p h.g h.up (by show (w.net.eraseIdx k).length ≤ 16; rw [List.length_eraseIdx]; split <;> omega) hV.sm) (.some rfl)
      · have hp := of_decide_eq_false hp
        rw [if_neg hp]
        have : putD (dbx w.db t) (pkx w.net k).p = dbx w.db t := by unfold putD; rw [if_neg hp]
        rw [this]
        have e : w.db.set t (dbx w.db t) = w.db := set_same (by omega)
        rw [e]; rfl
    · rw [do4, if_pos ⟨by omega, by omega⟩, toN]
      have b17 : zBG (w.n, w.ls, w.up, w.sq, w.db, 4, (k : Int), w.net, ()) = some (.inl (wt { w with net := w.net.eraseIdx k })) := by
        unfold zBG
        simp only [w1]
        exact Sat.out (sov (e_del w.net k hkn hnet) (.some rfl))
      exact Sat.no rfl (Sat.gd rfl (Sat.gd rfl (sov b17 (.some rfl))))
    · rw [do5, if_pos ⟨by omega, by omega⟩, toN]
      refine Sat.no rfl (Sat.no rfl (Sat.gd rfl (Sat.gd rfl (Sat.ite (fun hf => ?_) (fun hf => .some ?_)))))
      · have hf := of_decide_eq_true hf
        rw [if_pos (by omega)]
        have b20 : zBH (w.n, w.ls, w.up, w.sq, w.db, 5, (k : Int), w.net, ()) = some (.inl (wt { w with net := w.net ++ [pkx w.net k] })) := by
          unfold zBH
          simp only [toN, at_pk, zC1 _ _ _ hV.sm, Option.bind_some]
          exact Sat.out (Sat.gd (inR_t (by omega) (by omega)) (Sat.gd (inR_t (by omega) (by omega)) (Sat.gd (decide_eq_true (by simp only [List.length_singleton]; omega)) (.some rfl))))
        exact sov b20 (.some rfl)
      · have hf := of_decide_eq_false hf
        rw [if_neg (by omega)]; rfl
end
end Go.Proofs.YtjffopopheiinaaGreat
end
section
namespace Go.Proofs.YtjffopopheiinaaGreat
open Go.RowKit
set_option linter.unusedSimpArgs false
set_option linter.unusedVariables false
set_option maxRecDepth 100000

noncomputable def poss (w : Wd) (l : Ls) : Bool := @decide (Poss w Nob l) (Classical.propDecidable _)
theorem poss_t {w : Wd} {l : Ls} : poss w l = true ↔ Poss w Nob l := by unfold poss; simp
theorem poss_f {w : Wd} {l : Ls} : poss w l = false ↔ ¬ Poss w Nob l := by unfold poss; simp
theorem lof_lt (ls : List Lk) (a b : Int) : lof ls a b < ls.length := by
  rcases lof_cases ls a b with ⟨h, _⟩ | ⟨k, h, hk, _⟩ <;> omega
section
variable {w : Wd}
set_option maxHeartbeats 2000000 in
theorem zEh (g : GV w.n w.ls) (hu : w.up.length = w.ls.length) (hsq : (w.sq.length : Int) = w.n) (l : Ls) (hl : Sm l.e) : zJ0 (w.n, w.ls, w.up, w.sq, w.db, w.net, l.o, l.s, l.e, ()) = some (poss w l, ()) := by
  have h14 := g.2.2.1
  have fl : Fits l.e := by unfold Fits; unfold Sm at hl; omega
  have fls : Fits w.ls := by unfold Fits; omega
  unfold Sm at hl
  have no : ¬ Poss w Nob l → poss w l = false := fun h => poss_f.2 h
  cases l with | mk o s es =>
  cases w with | mk n ls up sq db net =>
  dsimp only at *
  unfold zJ0
  dsimp only
  rw [zCN o s es fl]
  refine Sat.out (Sat.ite (fun hc => .some ?_) (fun hc => ?_))
  · rw [no fun h => of_decide_eq_false (show lsv o s es = false by simpa using hc) h.1]
  have hV : LsV ⟨o, s, es⟩ := of_decide_eq_true (show lsv o s es = true by simpa using hc)
  have h0 : 0 ≤ o := hV.1
  refine Sat.ite (fun hc => .some ?_) (fun hc => ?_)
  · have hc := of_decide_eq_true hc
    rw [no fun h => by have : o < n := h.2.1; omega]
  have hn := of_decide_eq_false hc
  simp only [at_int]
  refine Sat.gd (inR_t (by omega) (by omega)) (Sat.ite (fun hc => .some ?_) (fun hc => ?_))
  · have hc : iz sq o.toNat < s := of_decide_eq_true hc
    rw [no fun h => by have : s ≤ iz sq o.toNat := h.2.2.1; omega]
  have hs : ¬ iz sq o.toNat < s := of_decide_eq_false hc
  try simp only [nI_eq]
  refine Sat.bnd (R := fun r => match r with | .inl x => x = (n, ls, up, sq, db, net, o, s, es, ()) ∧ ∀ e ∈ es, lc ls o e.n = some e.c | .inr y => y = (false, ()) ∧ ¬ ∀ e ∈ es, lc ls o e.n = some e.c) ?_ ?_
  · refine Sat.count es.length (fun k t => t = (es, (es.length : Int), (k : Int), n, ls, up, sq, db, net, o, s, es, ()) ∧ ∀ i, i < k → lc ls o (en es i).n = some (en es i).c) ?_ (Nat.zero_le _) (fuel_lt (by omega)) ⟨rfl, fun i hi => by omega⟩
    rintro k t hk ⟨rfl, hok⟩
    by_cases hlt : k < es.length
    · have hm : en es k ∈ es := by rw [en_get hlt]; exact List.getElem_mem hlt
      simp (disch := omega) only [zBN, at_en, at_lk, toN, w64, nI_eq, zEc _ _ _ _ fls, Option.bind_some]
      refine Sat.gd (decide_eq_true (by omega)) (Sat.gd (inR_t (by omega) (by omega)) (Sat.ite (fun hc => .some ⟨rfl, ?_⟩) (fun hc => ?_)))
      · have hc := of_decide_eq_true hc
        intro h
        have := (lc_at (h _ hm)).1
        omega
      · have hc := of_decide_eq_false hc
        have hlo := lof_lt ls o (en es k).n
        repeat refine Sat.gd (inR_t (by omega) (by omega)) ?_
        refine Sat.ite (fun hc2 => .some ⟨rfl, ?_⟩) (fun hc2 => .some ⟨hlt, rfl, fun i hi => ?_⟩)
        · have hc2 : ¬ (lk ls (lof ls o (en es k).n).toNat).c = (en es k).c := by simpa using hc2
          intro h
          have := (lc_at (h _ hm)).2.2
          rw [this] at hc2
          exact hc2 rfl
        · have hc2 : (lk ls (lof ls o (en es k).n).toNat).c = (en es k).c := by simpa using hc2
          by_cases e : i < k
          · exact hok i e
          · obtain rfl : i = k := by omega
            unfold lc
            rw [if_pos (by omega), hc2]
    · obtain rfl : k = es.length := by omega
      unfold zBN
      simp only [nI_eq]
      refine Sat.no (decide_eq_false (by omega)) (.some ⟨rfl, fun e he => ?_⟩)
      obtain ⟨i, hi, rfl⟩ := List.getElem_of_mem he
      rw [← en_get hi]
      exact hok i hi
  rintro (r | r) hr
  case inr =>
    obtain ⟨rfl, hr⟩ := hr
    exact .some (by rw [no fun h => hr h.2.2.2.1])
  obtain ⟨rfl, hr⟩ := hr
  simp only [at_int]
  refine Sat.gd (inR_t (by omega) (by omega)) (Sat.ite (fun hc => .some ?_) (fun hc => ?_))
  · have hc : s < iz sq o.toNat := of_decide_eq_true hc
    rw [poss_t.2 ⟨hV, by show o < n; omega, by show s ≤ iz sq o.toNat; omega, hr, .inl hc⟩]
  have hlt : ¬ s < iz sq o.toNat := of_decide_eq_false hc
  refine sov (zFl ⟨n, ls, up, sq, db, net⟩ hu (by show ls.length ≤ 1000; omega)) ?_
  dsimp only
  refine sov (lsa_i (tru_gv g up) o s) ?_
  have hel := endsOf_len (N := n.toNat) (ls := tru ls up) o
  have hn8 := g.2.1
  refine sov (zEt ⟨o, s, es⟩ ⟨o, s, endsOf (tru ls up) n.toNat o⟩ fl (by unfold Fits; dsimp only; omega)) (.some ?_)
  by_cases he : es = endsOf (tru ls up) n.toNat o
  · rw [poss_t.2 ⟨hV, by show o < n; omega, by show s ≤ iz sq o.toNat; omega, hr, .inr (.inl he)⟩]
    try dsimp only
    rw [decide_eq_true (by rw [← he])]
  · rw [no fun h => by
      rcases h.2.2.2.2 with h | h | h
      · exact hlt h
      · exact he h
      · exact h]
    try dsimp only
    rw [decide_eq_false (by intro e; injection e with _ _ e; exact he e)]
set_option maxHeartbeats 2000000 in
theorem zDW (g : GV w.n w.ls) (hu : w.up.length = w.ls.length) (hsq : (w.sq.length : Int) = w.n) (l : Ls) (hl : Sm l.e) : zKU (w.n, w.ls, w.up, w.sq, w.db, w.net, l.o, l.s, l.e, ()) = some (poss w l, ()) := by
  have h14 := g.2.2.1
  have fl : Fits l.e := by unfold Fits; unfold Sm at hl; omega
  have fls : Fits w.ls := by unfold Fits; omega
  unfold Sm at hl
  have no : ¬ Poss w Nob l → poss w l = false := fun h => poss_f.2 h
  cases l with | mk o s es =>
  cases w with | mk n ls up sq db net =>
  dsimp only at *
  unfold zKU
  dsimp only
  rw [zEl o s es fl]
  refine Sat.out (Sat.ite (fun hc => .some ?_) (fun hc => ?_))
  · rw [no fun h => of_decide_eq_false (show lsv o s es = false by simpa using hc) h.1]
  have hV : LsV ⟨o, s, es⟩ := of_decide_eq_true (show lsv o s es = true by simpa using hc)
  have h0 : 0 ≤ o := hV.1
  refine Sat.ite (fun hc => .some ?_) (fun hc => ?_)
  · have hc := of_decide_eq_true hc
    rw [no fun h => by have : o < n := h.2.1; omega]
  have hn := of_decide_eq_false hc
  simp only [at_int]
  refine Sat.gd (inR_t (by omega) (by omega)) (Sat.ite (fun hc => .some ?_) (fun hc => ?_))
  · have hc : iz sq o.toNat < s := of_decide_eq_true hc
    rw [no fun h => by have : s ≤ iz sq o.toNat := h.2.2.1; omega]
  have hs : ¬ iz sq o.toNat < s := of_decide_eq_false hc
  try simp only [nI_eq]
  refine Sat.bnd (R := fun r => match r with | .inl x => x = (n, ls, up, sq, db, net, o, s, es, ()) ∧ ∀ e ∈ es, lc ls o e.n = some e.c | .inr y => y = (false, ()) ∧ ¬ ∀ e ∈ es, lc ls o e.n = some e.c) ?_ ?_
  · refine Sat.count es.length (fun k t => t = ((k : Int), n, ls, up, sq, db, net, o, s, es, ()) ∧ ∀ i, i < k → lc ls o (en es i).n = some (en es i).c) ?_ (Nat.zero_le _) (fuel_lt (by omega)) ⟨rfl, fun i hi => by omega⟩
    rintro k t hk ⟨rfl, hok⟩
    by_cases hlt : k < es.length
    · have hm : en es k ∈ es := by rw [en_get hlt]; exact List.getElem_mem hlt
      simp (disch := omega) only [zCu, at_en, at_lk, toN, w64, nI_eq, zDO _ _ _ _ fls, Option.bind_some]
      refine Sat.gd (decide_eq_true (by omega)) (Sat.gd (inR_t (by omega) (by omega)) (Sat.ite (fun hc => .some ⟨rfl, ?_⟩) (fun hc => ?_)))
      · have hc := of_decide_eq_true hc
        intro h
        have := (lc_at (h _ hm)).1
        omega
      · have hc := of_decide_eq_false hc
        have hlo := lof_lt ls o (en es k).n
        repeat refine Sat.gd (inR_t (by omega) (by omega)) ?_
        refine Sat.ite (fun hc2 => .some ⟨rfl, ?_⟩) (fun hc2 => .some ⟨hlt, rfl, fun i hi => ?_⟩)
        · have hc2 : ¬ (lk ls (lof ls o (en es k).n).toNat).c = (en es k).c := by simpa using hc2
          intro h
          have := (lc_at (h _ hm)).2.2
          rw [this] at hc2
          exact hc2 rfl
        · have hc2 : (lk ls (lof ls o (en es k).n).toNat).c = (en es k).c := by simpa using hc2
          by_cases e : i < k
          · exact hok i e
          · obtain rfl : i = k := by omega
            unfold lc
            rw [if_pos (by omega), hc2]
    · obtain rfl : k = es.length := by omega
      unfold zCu
      simp only [nI_eq]
      refine Sat.no (decide_eq_false (by omega)) (.some ⟨rfl, fun e he => ?_⟩)
      obtain ⟨i, hi, rfl⟩ := List.getElem_of_mem he
      rw [← en_get hi]
      exact hok i hi
  rintro (r | r) hr
  case inr =>
    obtain ⟨rfl, hr⟩ := hr
    exact .some (by rw [no fun h => hr h.2.2.2.1])
  obtain ⟨rfl, hr⟩ := hr
  simp only [at_int]
  refine Sat.gd (inR_t (by omega) (by omega)) (Sat.ite (fun hc => .some ?_) (fun hc => ?_))
  · have hc : s < iz sq o.toNat := of_decide_eq_true hc
    rw [poss_t.2 ⟨hV, by show o < n; omega, by show s ≤ iz sq o.toNat; omega, hr, .inl hc⟩]
  have hlt : ¬ s < iz sq o.toNat := of_decide_eq_false hc
  refine sov (zD2 ⟨n, ls, up, sq, db, net⟩ hu (by show ls.length ≤ 1000; omega)) ?_
  dsimp only
  refine sov (lsa_s (tru_gv g up) o s) ?_
  have hel := endsOf_len (N := n.toNat) (ls := tru ls up) o
  have hn8 := g.2.1
  refine sov (zDZ ⟨o, s, es⟩ ⟨o, s, endsOf (tru ls up) n.toNat o⟩ fl (by unfold Fits; dsimp only; omega)) (.some ?_)
  by_cases he : es = endsOf (tru ls up) n.toNat o
  · rw [poss_t.2 ⟨hV, by show o < n; omega, by show s ≤ iz sq o.toNat; omega, hr, .inr (.inl he)⟩]
    try dsimp only
    rw [decide_eq_true (by rw [← he])]
  · rw [no fun h => by
      rcases h.2.2.2.2 with h | h | h
      · exact hlt h
      · exact he h
      · exact h]
    try dsimp only
    rw [decide_eq_false (by intro e; injection e with _ _ e; exact he e)]
end
end Go.Proofs.YtjffopopheiinaaGreat
end
