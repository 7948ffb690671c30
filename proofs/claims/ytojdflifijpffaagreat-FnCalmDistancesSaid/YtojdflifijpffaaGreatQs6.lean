/- Part 6 of the proof: SE KE SG KG SF KF Pa Pb Pq Pr Ps Pv Py Pe1 Pe2 Pz Px Pw1 Pw Pw2 Pw3. -/
import Derived.Test.YtojdflifijpffaaGreatQs5
set_option linter.unusedSimpArgs false
set_option linter.unusedVariables false
section
namespace Go.Proofs.YtojdflifijpffaaGreat
open Go.RowKit
set_option maxRecDepth 100000
def zC1 (s : (Int × List Int × Int × Int × Int × List En × Int × Int × List En × Unit)) : Option ((Int × List Int × Int × Int × Int × List En × Int × Int × List En × Unit) ⊕ ((List Int × Int × Int × Int × List En × Int × Int × List En × Unit) ⊕ Unit)) := (bif decide ((s.1 < (6 : Int))) then (bif (!(decide ((s.1 = s.2.2.2.2.2.2.1)))) then (zMk (((2 : Int), (s.2.1, (s.2.2.1, ()))))).bind fun r0 => (bif decide ((r0.1 = (0 : Int))) then (zMk (((3 : Int), (r0.2.1, (r0.2.2.1, ()))))).bind fun r1 => (bif decide (((List.length s.2.2.2.2.2.2.2.2.1 + List.length ([(En.mk s.1 (wrap64 (((1 : Int) + r1.1))))])) ≤ (33554432 : Nat))) then some (Sum.inl ((wrap64 ((s.1 + (1 : Int))), r1.2.1, r1.2.2.1, s.2.2.2.1, s.2.2.2.2.1, s.2.2.2.2.2.1, s.2.2.2.2.2.2.1, s.2.2.2.2.2.2.2.1, (s.2.2.2.2.2.2.2.2.1 ++ [(En.mk s.1 (wrap64 (((1 : Int) + r1.1))))]), ()))) else none) else some (Sum.inl ((wrap64 ((s.1 + (1 : Int))), r0.2.1, r0.2.2.1, s.2.2.2.1, s.2.2.2.2.1, s.2.2.2.2.2.1, s.2.2.2.2.2.2.1, s.2.2.2.2.2.2.2.1, s.2.2.2.2.2.2.2.2.1, ())))) else some (Sum.inl ((wrap64 ((s.1 + (1 : Int))), s.2.1, s.2.2.1, s.2.2.2.1, s.2.2.2.2.1, s.2.2.2.2.2.1, s.2.2.2.2.2.2.1, s.2.2.2.2.2.2.2.1, s.2.2.2.2.2.2.2.2.1, ())))) else some (Sum.inr (Sum.inl ((s.2.1, s.2.2.1, s.2.2.2.1, s.2.2.2.2.1, s.2.2.2.2.2.1, s.2.2.2.2.2.2.1, s.2.2.2.2.2.2.2.1, s.2.2.2.2.2.2.2.2.1, ())))))
def zMn (s : (List Int × Int × Unit)) : Option (Int × Int × List Int × Int × List En × Unit) := (zMk (((6 : Int), (s.1, (s.2.1, ()))))).bind fun r0 => (zMk (((4 : Int), (r0.2.1, (r0.2.2.1, ()))))).bind fun r1 => (lp zC1 fuel (((0 : Int), (r1.2.1, (r1.2.2.1, ((0 : Int), ((0 : Int), (([] : List En), (r0.1, (wrap64 (((1 : Int) + r1.1)), (([] : List En), ()))))))))))).bind fun r2 => (match r2 with | .inl x3 => (zMk (((30 : Int), (x3.1, (x3.2.1, ()))))).bind fun r4 => (bif decide ((r4.1 = (0 : Int))) then (zMk (((3 : Int), (r4.2.1, (r4.2.2.1, ()))))).bind fun r5 => (bif inR r5.1 (List.length ([(0 : Int), (99 : Int), (100 : Int)])) then some ((x3.2.2.2.2.2.1, at! .int ([(0 : Int), (99 : Int), (100 : Int)]) (Int.toNat r5.1), r5.2.1, r5.2.2.1, x3.2.2.2.2.2.2.2.1, ())) else none) else (bif decide ((r4.1 = (1 : Int))) then (zMk (((10 : Int), (r4.2.1, (r4.2.2.1, ()))))).bind fun r6 => some ((wrap64 ((r6.1 - (1 : Int))), x3.2.2.2.2.2.2.1, r6.2.1, r6.2.2.1, x3.2.2.2.2.2.2.2.1, ())) else (bif decide ((r4.1 = (2 : Int))) then (zMk (((10 : Int), (r4.2.1, (r4.2.2.1, ()))))).bind fun r7 => (zMk (((22 : Int), (r7.2.1, (r7.2.2.1, ()))))).bind fun r8 => (bif decide (((List.length x3.2.2.2.2.2.2.2.1 + List.length ([(En.mk (wrap64 ((r7.1 - (1 : Int)))) r8.1)])) ≤ (33554432 : Nat))) then some ((x3.2.2.2.2.2.1, x3.2.2.2.2.2.2.1, r8.2.1, r8.2.2.1, (x3.2.2.2.2.2.2.2.1 ++ [(En.mk (wrap64 ((r7.1 - (1 : Int)))) r8.1)]), ())) else none) else some ((x3.2.2.2.2.2.1, x3.2.2.2.2.2.2.1, r4.2.1, r4.2.2.1, x3.2.2.2.2.2.2.2.1, ()))))) | .inr _ => none)
def zCY (s : (Int × Int × List Int × Int × List Ls × Unit)) : Option ((Int × Int × List Int × Int × List Ls × Unit) ⊕ ((List Int × Int × List Ls × Unit) ⊕ Unit)) := (bif decide ((s.2.1 < s.1)) then (zMn ((s.2.2.1, (s.2.2.2.1, ())))).bind fun r0 => (zLM ((s.2.2.2.2.1, (r0.1, (r0.2.1, (r0.2.2.2.2.1, ())))))).bind fun r1 => (bif decide ((r1.1 = (0 : Int))) then some (Sum.inl ((s.1, wrap64 ((s.2.1 + (1 : Int))), r0.2.2.1, r0.2.2.2.1, r1.2.1, ()))) else some (Sum.inl ((s.1, wrap64 ((s.2.1 + (1 : Int))), r0.2.2.1, r0.2.2.2.1, s.2.2.2.2.1, ())))) else some (Sum.inr (Sum.inl ((s.2.2.1, s.2.2.2.1, s.2.2.2.2.1, ())))))
def zMl (s : (List Int × Int × Unit)) : Option (List Int × Int × List Ls × Unit) := (zMk (((8 : Int), (s.1, (s.2.1, ()))))).bind fun r0 => (lp zCY fuel ((r0.1, ((0 : Int), (r0.2.1, (r0.2.2.1, (([] : List Ls), ()))))))).bind fun r1 => (match r1 with | .inl x2 => (zMk (((20 : Int), (x2.1, (x2.2.1, ()))))).bind fun r3 => (bif decide ((r3.1 = (0 : Int))) then (zMn ((r3.2.1, (r3.2.2.1, ())))).bind fun r4 => (bif decide (((List.length x2.2.2.1 + List.length ([(Ls.mk r4.1 r4.2.1 r4.2.2.2.2.1)])) ≤ (33554432 : Nat))) then some ((r4.2.2.1, r4.2.2.2.1, (x2.2.2.1 ++ [(Ls.mk r4.1 r4.2.1 r4.2.2.2.2.1)]), ())) else none) else some ((r3.2.1, r3.2.2.1, x2.2.2.1, ()))) | .inr _ => none)
def zMp (s : (Int × List Lk × List Bool × List Int × List (List Ls) × List Pk × List Int × Int × Unit)) : Option (Int × Int × List Int × Int × Unit) := (zMk ((max (nI (List.length s.2.2.1)) ((1 : Int)), (s.2.2.2.2.2.2.1, (s.2.2.2.2.2.2.2.1, ()))))).bind fun r0 => (zMk ((max (nI (List.length s.2.2.2.2.2.1)) ((1 : Int)), (r0.2.1, (r0.2.2.1, ()))))).bind fun r1 => (zMk (((12 : Int), (r1.2.1, (r1.2.2.1, ()))))).bind fun r2 => (bif decide ((r2.1 = (0 : Int))) then (bif decide ((r2.1 = (0 : Int))) then (zMk (((40 : Int), (r2.2.1, (r2.2.2.1, ()))))).bind fun r3 => (bif decide ((r3.1 = (0 : Int))) then (zMk (((9 : Int), (r3.2.1, (r3.2.2.1, ()))))).bind fun r4 => some ((wrap64 ((r4.1 - (1 : Int))), r0.1, r4.2.1, r4.2.2.1, ())) else (bif decide ((r3.1 = (1 : Int))) then (zMk (((20 : Int), (r3.2.1, (r3.2.2.1, ()))))).bind fun r5 => some (((1 : Int), wrap64 ((r5.1 - (2 : Int))), r5.2.1, r5.2.2.1, ())) else some (((1 : Int), r0.1, r3.2.1, r3.2.2.1, ())))) else (bif decide ((r2.1 = (2 : Int))) then (zMk (((40 : Int), (r2.2.1, (r2.2.2.1, ()))))).bind fun r6 => (bif decide ((r6.1 = (0 : Int))) then (zMk (((9 : Int), (r6.2.1, (r6.2.2.1, ()))))).bind fun r7 => some ((wrap64 ((r7.1 - (1 : Int))), r0.1, r7.2.1, r7.2.2.1, ())) else (bif decide ((r6.1 = (1 : Int))) then (zMk (((20 : Int), (r6.2.1, (r6.2.2.1, ()))))).bind fun r8 => some (((2 : Int), wrap64 ((r8.1 - (2 : Int))), r8.2.1, r8.2.2.1, ())) else some (((2 : Int), r0.1, r6.2.1, r6.2.2.1, ())))) else (bif decide ((r2.1 = (3 : Int))) then (zMk (((40 : Int), (r2.2.1, (r2.2.2.1, ()))))).bind fun r9 => (bif decide ((r9.1 = (0 : Int))) then (zMk (((9 : Int), (r9.2.1, (r9.2.2.1, ()))))).bind fun r10 => some ((wrap64 ((r10.1 - (1 : Int))), r1.1, r10.2.1, r10.2.2.1, ())) else (bif decide ((r9.1 = (1 : Int))) then (zMk (((20 : Int), (r9.2.1, (r9.2.2.1, ()))))).bind fun r11 => some (((4 : Int), wrap64 ((r11.1 - (2 : Int))), r11.2.1, r11.2.2.1, ())) else some (((4 : Int), r1.1, r9.2.1, r9.2.2.1, ())))) else (bif decide ((r2.1 = (4 : Int))) then (zMk (((40 : Int), (r2.2.1, (r2.2.2.1, ()))))).bind fun r12 => (bif decide ((r12.1 = (0 : Int))) then (zMk (((9 : Int), (r12.2.1, (r12.2.2.1, ()))))).bind fun r13 => some ((wrap64 ((r13.1 - (1 : Int))), r1.1, r13.2.1, r13.2.2.1, ())) else (bif decide ((r12.1 = (1 : Int))) then (zMk (((20 : Int), (r12.2.1, (r12.2.2.1, ()))))).bind fun r14 => some (((5 : Int), wrap64 ((r14.1 - (2 : Int))), r14.2.1, r14.2.2.1, ())) else some (((5 : Int), r1.1, r12.2.1, r12.2.2.1, ())))) else (bif decide ((r2.1 = (5 : Int))) then (zMk (((40 : Int), (r2.2.1, (r2.2.2.1, ()))))).bind fun r15 => (bif decide ((r15.1 = (0 : Int))) then (zMk (((9 : Int), (r15.2.1, (r15.2.2.1, ()))))).bind fun r16 => some ((wrap64 ((r16.1 - (1 : Int))), r0.1, r16.2.1, r16.2.2.1, ())) else (bif decide ((r15.1 = (1 : Int))) then (zMk (((20 : Int), (r15.2.1, (r15.2.2.1, ()))))).bind fun r17 => some (((6 : Int), wrap64 ((r17.1 - (2 : Int))), r17.2.1, r17.2.2.1, ())) else some (((6 : Int), r0.1, r15.2.1, r15.2.2.1, ())))) else (zMk (((40 : Int), (r2.2.1, (r2.2.2.1, ()))))).bind fun r18 => (bif decide ((r18.1 = (0 : Int))) then (zMk (((9 : Int), (r18.2.1, (r18.2.2.1, ()))))).bind fun r19 => some ((wrap64 ((r19.1 - (1 : Int))), r1.1, r19.2.1, r19.2.2.1, ())) else (bif decide ((r18.1 = (1 : Int))) then (zMk (((20 : Int), (r18.2.1, (r18.2.2.1, ()))))).bind fun r20 => some (((3 : Int), wrap64 ((r20.1 - (2 : Int))), r20.2.1, r20.2.2.1, ())) else some (((3 : Int), r1.1, r18.2.1, r18.2.2.1, ()))))))))) else (bif decide ((r2.1 = (1 : Int))) then (zMk (((40 : Int), (r2.2.1, (r2.2.2.1, ()))))).bind fun r21 => (bif decide ((r21.1 = (0 : Int))) then (zMk (((9 : Int), (r21.2.1, (r21.2.2.1, ()))))).bind fun r22 => some ((wrap64 ((r22.1 - (1 : Int))), r0.1, r22.2.1, r22.2.2.1, ())) else (bif decide ((r21.1 = (1 : Int))) then (zMk (((20 : Int), (r21.2.1, (r21.2.2.1, ()))))).bind fun r23 => some (((1 : Int), wrap64 ((r23.1 - (2 : Int))), r23.2.1, r23.2.2.1, ())) else some (((1 : Int), r0.1, r21.2.1, r21.2.2.1, ())))) else (bif decide ((r2.1 = (2 : Int))) then (zMk (((40 : Int), (r2.2.1, (r2.2.2.1, ()))))).bind fun r24 => (bif decide ((r24.1 = (0 : Int))) then (zMk (((9 : Int), (r24.2.1, (r24.2.2.1, ()))))).bind fun r25 => some ((wrap64 ((r25.1 - (1 : Int))), r0.1, r25.2.1, r25.2.2.1, ())) else (bif decide ((r24.1 = (1 : Int))) then (zMk (((20 : Int), (r24.2.1, (r24.2.2.1, ()))))).bind fun r26 => some (((2 : Int), wrap64 ((r26.1 - (2 : Int))), r26.2.1, r26.2.2.1, ())) else some (((2 : Int), r0.1, r24.2.1, r24.2.2.1, ())))) else (bif decide ((r2.1 = (3 : Int))) then (zMk (((40 : Int), (r2.2.1, (r2.2.2.1, ()))))).bind fun r27 => (bif decide ((r27.1 = (0 : Int))) then (zMk (((9 : Int), (r27.2.1, (r27.2.2.1, ()))))).bind fun r28 => some ((wrap64 ((r28.1 - (1 : Int))), r1.1, r28.2.1, r28.2.2.1, ())) else (bif decide ((r27.1 = (1 : Int))) then (zMk (((20 : Int), (r27.2.1, (r27.2.2.1, ()))))).bind fun r29 => some (((4 : Int), wrap64 ((r29.1 - (2 : Int))), r29.2.1, r29.2.2.1, ())) else some (((4 : Int), r1.1, r27.2.1, r27.2.2.1, ())))) else (bif decide ((r2.1 = (4 : Int))) then (zMk (((40 : Int), (r2.2.1, (r2.2.2.1, ()))))).bind fun r30 => (bif decide ((r30.1 = (0 : Int))) then (zMk (((9 : Int), (r30.2.1, (r30.2.2.1, ()))))).bind fun r31 => some ((wrap64 ((r31.1 - (1 : Int))), r1.1, r31.2.1, r31.2.2.1, ())) else (bif decide ((r30.1 = (1 : Int))) then (zMk (((20 : Int), (r30.2.1, (r30.2.2.1, ()))))).bind fun r32 => some (((5 : Int), wrap64 ((r32.1 - (2 : Int))), r32.2.1, r32.2.2.1, ())) else some (((5 : Int), r1.1, r30.2.1, r30.2.2.1, ())))) else (bif decide ((r2.1 = (5 : Int))) then (zMk (((40 : Int), (r2.2.1, (r2.2.2.1, ()))))).bind fun r33 => (bif decide ((r33.1 = (0 : Int))) then (zMk (((9 : Int), (r33.2.1, (r33.2.2.1, ()))))).bind fun r34 => some ((wrap64 ((r34.1 - (1 : Int))), r0.1, r34.2.1, r34.2.2.1, ())) else (bif decide ((r33.1 = (1 : Int))) then (zMk (((20 : Int), (r33.2.1, (r33.2.2.1, ()))))).bind fun r35 => some (((6 : Int), wrap64 ((r35.1 - (2 : Int))), r35.2.1, r35.2.2.1, ())) else some (((6 : Int), r0.1, r33.2.1, r33.2.2.1, ())))) else (zMk (((40 : Int), (r2.2.1, (r2.2.2.1, ()))))).bind fun r36 => (bif decide ((r36.1 = (0 : Int))) then (zMk (((9 : Int), (r36.2.1, (r36.2.2.1, ()))))).bind fun r37 => some ((wrap64 ((r37.1 - (1 : Int))), r1.1, r37.2.1, r37.2.2.1, ())) else (bif decide ((r36.1 = (1 : Int))) then (zMk (((20 : Int), (r36.2.1, (r36.2.2.1, ()))))).bind fun r38 => some (((3 : Int), wrap64 ((r38.1 - (2 : Int))), r38.2.1, r38.2.2.1, ())) else some (((3 : Int), r1.1, r36.2.1, r36.2.2.1, ()))))))))))
def zC3 (s : (Int × Int × List Int × Int × Int × List Lk × List Bool × List Int × List (List Ls) × List Pk × Int × List Lk × List Bool × List Int × List (List Ls) × List Pk × Unit)) : Option ((Int × Int × List Int × Int × Int × List Lk × List Bool × List Int × List (List Ls) × List Pk × Int × List Lk × List Bool × List Int × List (List Ls) × List Pk × Unit) ⊕ ((List Int × Int × Int × List Lk × List Bool × List Int × List (List Ls) × List Pk × Int × List Lk × List Bool × List Int × List (List Ls) × List Pk × Unit) ⊕ Unit)) := (bif decide ((s.2.1 < s.1)) then (zMp ((s.2.2.2.2.2.2.2.2.2.2.1, (s.2.2.2.2.2.2.2.2.2.2.2.1, (s.2.2.2.2.2.2.2.2.2.2.2.2.1, (s.2.2.2.2.2.2.2.2.2.2.2.2.2.1, (s.2.2.2.2.2.2.2.2.2.2.2.2.2.2.1, (s.2.2.2.2.2.2.2.2.2.2.2.2.2.2.2.1, (s.2.2.1, (s.2.2.2.1, ())))))))))).bind fun r0 => (zL7 ((s.2.2.2.2.2.2.2.2.2.2.1, (s.2.2.2.2.2.2.2.2.2.2.2.1, (s.2.2.2.2.2.2.2.2.2.2.2.2.1, (s.2.2.2.2.2.2.2.2.2.2.2.2.2.1, (s.2.2.2.2.2.2.2.2.2.2.2.2.2.2.1, (s.2.2.2.2.2.2.2.2.2.2.2.2.2.2.2.1, (r0.1, (r0.2.1, ())))))))))).bind fun r1 => some (Sum.inl ((s.1, wrap64 ((s.2.1 + (1 : Int))), r0.2.2.1, r0.2.2.2.1, s.2.2.2.2.1, s.2.2.2.2.2.1, s.2.2.2.2.2.2.1, s.2.2.2.2.2.2.2.1, s.2.2.2.2.2.2.2.2.1, s.2.2.2.2.2.2.2.2.2.1, r1.1, r1.2.1, r1.2.2.1, r1.2.2.2.1, r1.2.2.2.2.1, r1.2.2.2.2.2.1, ()))) else some (Sum.inr (Sum.inl ((s.2.2.1, s.2.2.2.1, s.2.2.2.2.1, s.2.2.2.2.2.1, s.2.2.2.2.2.2.1, s.2.2.2.2.2.2.2.1, s.2.2.2.2.2.2.2.2.1, s.2.2.2.2.2.2.2.2.2.1, s.2.2.2.2.2.2.2.2.2.2.1, s.2.2.2.2.2.2.2.2.2.2.2.1, s.2.2.2.2.2.2.2.2.2.2.2.2.1, s.2.2.2.2.2.2.2.2.2.2.2.2.2.1, s.2.2.2.2.2.2.2.2.2.2.2.2.2.2.1, s.2.2.2.2.2.2.2.2.2.2.2.2.2.2.2.1, ())))))
def zMq (s : (List Int × Int × Unit)) : Option (Int × List Lk × List Bool × List Int × List (List Ls) × List Pk × List Int × Int × Unit) := (zMm ((s.1, (s.2.1, ())))).bind fun r0 => (zLU ((r0.1, (r0.2.2.2.1, ())))).bind fun r1 => (zMk (((50 : Int), (r0.2.1, (r0.2.2.1, ()))))).bind fun r2 => (lp zC3 fuel ((r2.1, ((0 : Int), (r2.2.1, (r2.2.2.1, ((0 : Int), (([] : List Lk), (([] : List Bool), (([] : List Int), (([] : List (List Ls)), (([] : List Pk), (r1.1, (r1.2.2.1, (r1.2.2.2.1, (r1.2.2.2.2.1, (r1.2.2.2.2.2.1, (r1.2.2.2.2.2.2.1, ())))))))))))))))))).bind fun r3 => (match r3 with | .inl x4 => some ((x4.2.2.2.2.2.2.2.2.1, x4.2.2.2.2.2.2.2.2.2.1, x4.2.2.2.2.2.2.2.2.2.2.1, x4.2.2.2.2.2.2.2.2.2.2.2.1, x4.2.2.2.2.2.2.2.2.2.2.2.2.1, x4.2.2.2.2.2.2.2.2.2.2.2.2.2.1, x4.1, x4.2.1, ())) | .inr _ => none)
def zMr (s : (List Int × Int × Unit)) : Option (Int × List Int × Int × List Lk × List Bool × List Int × List (List Ls) × List Pk × Unit) := (zMq ((s.1, (s.2.1, ())))).bind fun r0 => (zL6 ((r0.1, (r0.2.1, (r0.2.2.1, (r0.2.2.2.1, (r0.2.2.2.2.1, (r0.2.2.2.2.2.1, ())))))))).bind fun r1 => (zMk ((r1.1, (r0.2.2.2.2.2.2.1, (r0.2.2.2.2.2.2.2.1, ()))))).bind fun r2 => (zMk (((9 : Int), (r2.2.1, (r2.2.2.1, ()))))).bind fun r3 => (bif decide ((r3.1 = (0 : Int))) then (zMo ((r3.2.1, (r3.2.2.1, ())))).bind fun r4 => some ((r4.1, r4.2.1, r4.2.2.1, r4.2.2.2.1, r1.2.2.1, r1.2.2.2.1, r1.2.2.2.2.1, r1.2.2.2.2.2.1, ())) else (bif decide ((r3.1 = (1 : Int))) then (bif decide (((0 : Int) < nI (List.length r1.2.2.1))) then (zMk ((nI (List.length r1.2.2.1), (r3.2.1, (r3.2.2.1, ()))))).bind fun r5 => (bif inR r5.1 (List.length r1.2.2.1) then (bif inR r5.1 (List.length r1.2.2.1) then some ((r1.1, r5.2.1, r5.2.2.1, r1.2.1, List.set r1.2.2.1 (Int.toNat r5.1) ((!(at! .bool r1.2.2.1 (Int.toNat r5.1)))), r1.2.2.2.1, r1.2.2.2.2.1, r1.2.2.2.2.2.1, ())) else none) else none) else some ((r1.1, r3.2.1, r3.2.2.1, r1.2.1, r1.2.2.1, r1.2.2.2.1, r1.2.2.2.2.1, r1.2.2.2.2.2.1, ()))) else (bif decide ((r3.1 = (2 : Int))) then (zMk (((12 : Int), (r3.2.1, (r3.2.2.1, ()))))).bind fun r6 => (bif inR r2.1 (List.length r1.2.2.2.1) then some ((r1.1, r6.2.1, r6.2.2.1, r1.2.1, r1.2.2.1, List.set r1.2.2.2.1 (Int.toNat r2.1) r6.1, r1.2.2.2.2.1, r1.2.2.2.2.2.1, ())) else none) else (bif decide ((r3.1 = (3 : Int))) then (zMl ((r3.2.1, (r3.2.2.1, ())))).bind fun r7 => (bif inR r2.1 (List.length r1.2.2.2.2.1) then some ((r1.1, r7.1, r7.2.1, r1.2.1, r1.2.2.1, r1.2.2.2.1, List.set r1.2.2.2.2.1 (Int.toNat r2.1) r7.2.2.1, r1.2.2.2.2.2.1, ())) else none) else (bif decide ((r3.1 = (4 : Int))) then (zMk (((9 : Int), (r3.2.1, (r3.2.2.1, ()))))).bind fun r8 => (zMn ((r8.2.1, (r8.2.2.1, ())))).bind fun r9 => (bif decide (((List.length r1.2.2.2.2.2.1 + List.length ([(Pk.mk (wrap64 ((r8.1 - (1 : Int)))) ((Ls.mk r9.1 r9.2.1 r9.2.2.2.2.1)))])) ≤ (33554432 : Nat))) then some ((r1.1, r9.2.2.1, r9.2.2.2.1, r1.2.1, r1.2.2.1, r1.2.2.2.1, r1.2.2.2.2.1, (r1.2.2.2.2.2.1 ++ [(Pk.mk (wrap64 ((r8.1 - (1 : Int)))) ((Ls.mk r9.1 r9.2.1 r9.2.2.2.2.1)))]), ())) else none) else (bif decide ((r3.1 = (5 : Int))) then (bif inR r2.1 (List.length r1.2.2.2.2.1) then (bif decide (((0 : Int) < nI (List.length (at! .db r1.2.2.2.2.1 (Int.toNat r2.1))))) then (bif inR r2.1 (List.length r1.2.2.2.2.1) then (bif bnd2 ((1 : Int)) ((((List.length (at! .db r1.2.2.2.2.1 (Int.toNat r2.1))) : Nat) : Int)) (List.length (at! .db r1.2.2.2.2.1 (Int.toNat r2.1))) then (bif inR r2.1 (List.length r1.2.2.2.2.1) then some ((r1.1, r3.2.1, r3.2.2.1, r1.2.1, r1.2.2.1, r1.2.2.2.1, List.set r1.2.2.2.2.1 (Int.toNat r2.1) (List.take ((Int.toNat ((((List.length (at! .db r1.2.2.2.2.1 (Int.toNat r2.1))) : Nat) : Int)) - Int.toNat ((1 : Int)))) (List.drop (Int.toNat ((1 : Int))) (at! .db r1.2.2.2.2.1 (Int.toNat r2.1)))), r1.2.2.2.2.2.1, ())) else none) else none) else none) else some ((r1.1, r3.2.1, r3.2.2.1, r1.2.1, r1.2.2.1, r1.2.2.2.1, r1.2.2.2.2.1, r1.2.2.2.2.2.1, ()))) else none) else (bif decide ((r3.1 = (6 : Int))) then (bif decide (((List.length r1.2.2.1 + List.length ([true])) ≤ (33554432 : Nat))) then some ((r1.1, r3.2.1, r3.2.2.1, r1.2.1, (r1.2.2.1 ++ [true]), r1.2.2.2.1, r1.2.2.2.2.1, r1.2.2.2.2.2.1, ())) else none) else some ((r1.1, r3.2.1, r3.2.2.1, r1.2.1, r1.2.2.1, r1.2.2.2.1, r1.2.2.2.2.1, r1.2.2.2.2.2.1, ())))))))))
def zLP (s : (List Int × Unit)) : Option (Int × List Lk × List Bool × List Int × List (List Ls) × List Pk × Unit) := (zMj ((s.1, ()))).bind fun r0 => (zMk (((10 : Int), (r0.1, (r0.2.1, ()))))).bind fun r1 => (bif decide ((r1.1 = (0 : Int))) then (zMr ((r1.2.1, (r1.2.2.1, ())))).bind fun r2 => some ((r2.1, r2.2.2.2.1, r2.2.2.2.2.1, r2.2.2.2.2.2.1, r2.2.2.2.2.2.2.1, r2.2.2.2.2.2.2.2.1, ())) else (zMq ((r1.2.1, (r1.2.2.1, ())))).bind fun r3 => some ((r3.1, r3.2.1, r3.2.2.1, r3.2.2.2.1, r3.2.2.2.2.1, r3.2.2.2.2.2.1, ())))
def zLO (s : (List Int × Unit)) : Option (Int × List Lk × List Bool × List Int × List (List Ls) × List Pk × Unit) := (zLP ((s.1, ()))).bind fun r0 => some ((r0.1, r0.2.1, r0.2.2.1, r0.2.2.2.1, r0.2.2.2.2.1, r0.2.2.2.2.2.1, ()))
end Go.Proofs.YtojdflifijpffaaGreat
end
section
namespace Go.Proofs.YtojdflifijpffaaGreat
open Go.RowKit
set_option maxRecDepth 100000
def zBz : Loop := ⟨⟨[0, 2, 3, 4], ⟨[.c (.one (.ptr 0 0)), .c (.one (.ptr 1 0)), .c (.one (.ptr 2 0)), .c (.one (.b (.int .i64)))], [.box 87 [(.b (.sl true .u8)), (.b (.int .i64))], .box 53 [(.b (.int .i64)), (.b (.int .i64)), (.b (.sl true .en))], .box 53 [(.b (.int .i64)), (.b (.int .i64)), (.own 3)], .row 92 .en]⟩, [.int, .ls .u8, .int, .int, .int, .ls .en, .int, .int, .ls .en]⟩, 0, ⟨[0, 2, 3], ⟨[.c (.one (.ptr 0 0)), .c (.one (.ptr 1 0)), .c (.one (.ptr 2 0))], [.box 87 [(.b (.sl true .u8)), (.b (.int .i64))], .box 53 [(.b (.int .i64)), (.b (.int .i64)), (.b (.sl true .en))], .box 53 [(.b (.int .i64)), (.b (.int .i64)), (.own 3)], .row 92 .en]⟩, [.ls .u8, .int, .int, .int, .ls .en, .int, .int, .ls .en]⟩, ⟨[999999], ⟨[.c (.one (.own 0))], []⟩, []⟩, lp zC1 fuel⟩
def zFS : Entry := ⟨⟨[.c (.one (.ptr 0 0))], [.box 87 [(.b (.sl true .u8)), (.b (.int .i64))]]⟩, [.ls .u8, .int], ⟨[.c (.agg [(.b (.int .i64)), (.b (.int .i64)), (.own 1)])], [.box 87 [(.b (.sl true .u8)), (.b (.int .i64))], .row 92 .en]⟩, [.int, .int, .ls .u8, .int, .ls .en], zMn⟩
def zHv : Env := mkEnv tab [(57, [], zFP)] 65 1 [(6, 8, [(0, true), (1, true), (2, true), (3, true), (4, false), (5, true), (6, true), (7, false)], [0]), (13, 9, [(0, true), (1, true), (2, true), (5, true), (3, false), (4, true), (6, false), (7, true), (8, false)], [0])] [(3, zBz)]
theorem zNY : CtrOk Tryz.prog zHv.Γ := ctr_ok (l := [(57, [], zFP)]) ⟨⟨zKC, Tryz.call57⟩, trivial⟩
theorem zIZ : LoopOk Tryz.prog 1 65 (nthC (Tryz.f68.body.getD .skip) 0) zBz := loop_ok (G := zHv) (F := zBz.F) (eid := zBz.eid) (FX := zBz.FX) (FR := zBz.FR) (B := zC1) (n := fuel) bad_ok tabOk zNY mixed (code_ok' (G := zHv) (n := 0) (by kernel_rfl) (by kernel_rfl) trivial (by kernel_rfl)) (fun s => by kernel_rfl)
theorem zKF : GC Tryz.prog 68 zFS := gc_of (G := zHv) (c := Tryz.f68.body.getD .skip) bad_ok tabOk zNY mixed Tryz.func68 (by kernel_rfl) Tryz.ntmps68 (code_ok' (G := zHv) (n := 1) (by kernel_rfl) (by kernel_rfl) ⟨trivial, loop_at (id := 3) (L0 := zBz) (by kernel_rfl) (by kernel_rfl) zIZ⟩ (by kernel_rfl)) (fun s => by kernel_rfl)
def zBw : Loop := ⟨⟨[0, 3, 4, 5], ⟨[.c (.one (.ptr 0 0)), .c (.one (.own 1)), .c (.one (.b (.int .i64))), .c (.one (.b (.int .i64)))], [.box 87 [(.b (.sl true .u8)), (.b (.int .i64))], .row 53 .ls]⟩, [.int, .int, .ls .u8, .int, .ls .ls]⟩, 0, ⟨[0, 3], ⟨[.c (.one (.ptr 0 0)), .c (.one (.own 1))], [.box 87 [(.b (.sl true .u8)), (.b (.int .i64))], .row 53 .ls]⟩, [.ls .u8, .int, .ls .ls]⟩, ⟨[999999], ⟨[.c (.one (.own 0))], []⟩, []⟩, lp zCY fuel⟩
def zFQ : Entry := ⟨⟨[.c (.one (.ptr 0 0))], [.box 87 [(.b (.sl true .u8)), (.b (.int .i64))]]⟩, [.ls .u8, .int], ⟨[.c (.one (.own 1))], [.box 87 [(.b (.sl true .u8)), (.b (.int .i64))], .row 53 .ls]⟩, [.ls .u8, .int, .ls .ls], zMl⟩
def zHt : Env := mkEnv tab [(107, [], zFh), (57, [], zFP), (68, [], zFS)] 35 1 [] [(4, zBw)]
theorem zNW : CtrOk Tryz.prog zHt.Γ := ctr_ok (l := [(107, [], zFh), (57, [], zFP), (68, [], zFS)]) ⟨⟨zJ4, Tryz.call107⟩, ⟨⟨zKC, Tryz.call57⟩, ⟨⟨zKF, Tryz.call68⟩, trivial⟩⟩⟩
theorem zIW : LoopOk Tryz.prog 1 35 (nthC (Tryz.f67.body.getD .skip) 0) zBw := loop_ok (G := zHt) (F := zBw.F) (eid := zBw.eid) (FX := zBw.FX) (FR := zBw.FR) (B := zCY) (n := fuel) bad_ok tabOk zNW mixed (code_ok' (G := zHt) (n := 0) (by kernel_rfl) (by kernel_rfl) trivial (by kernel_rfl)) (fun s => by kernel_rfl)
theorem zKD : GC Tryz.prog 67 zFQ := gc_of (G := zHt) (c := Tryz.f67.body.getD .skip) bad_ok tabOk zNW mixed Tryz.func67 (by kernel_rfl) Tryz.ntmps67 (code_ok' (G := zHt) (n := 1) (by kernel_rfl) (by kernel_rfl) ⟨trivial, loop_at (id := 4) (L0 := zBw) (by kernel_rfl) (by kernel_rfl) zIW⟩ (by kernel_rfl)) (fun s => by kernel_rfl)
def zFU : Entry := ⟨⟨[.c (.one (.ptr 0 0)), .c (.agg [(.b (.int .i64)), (.b (.sl true .lk)), (.b (.sl true .bool)), (.b (.sl true .int)), (.b (.sl true .db)), (.b (.sl true .pk))])], [.box 87 [(.b (.sl true .u8)), (.b (.int .i64))]]⟩, [.int, .ls .lk, .ls .bool, .ls .int, .ls .db, .ls .pk, .ls .u8, .int], ⟨[.c (.agg [(.b (.int .i64)), (.b (.int .i64))])], [.box 87 [(.b (.sl true .u8)), (.b (.int .i64))]]⟩, [.int, .int, .ls .u8, .int], zMp⟩
def zHx : Env := mkEnv tab [(57, [], zFP)] 58 1 [] []
theorem zN0 : CtrOk Tryz.prog zHx.Γ := ctr_ok (l := [(57, [], zFP)]) ⟨⟨zKC, Tryz.call57⟩, trivial⟩
theorem zKH : GC Tryz.prog 56 zFU := gc_of (G := zHx) (c := Tryz.f56.body.getD .skip) bad_ok tabOk zN0 mixed Tryz.func56 (by kernel_rfl) Tryz.ntmps56 (code_ok' (G := zHx) (n := 0) (by kernel_rfl) (by kernel_rfl) trivial (by kernel_rfl)) (fun s => by kernel_rfl)
def zBB : Loop := ⟨⟨[0, 2, 3, 5, 6], ⟨[.c (.one (.ptr 0 0)), .c (.one (.ptr 1 0)), .c (.one (.ptr 2 0)), .c (.one (.b (.int .i64))), .c (.one (.b (.int .i64)))], [.box 87 [(.b (.sl true .u8)), (.b (.int .i64))], .box 31 [(.b (.int .i64)), (.b (.sl true .lk)), (.b (.sl true .bool)), (.b (.sl true .int)), (.b (.sl true .db)), (.b (.sl true .pk))], .box 31 [(.b (.int .i64)), (.b (.sl true .lk)), (.b (.sl true .bool)), (.b (.sl true .int)), (.b (.sl true .db)), (.b (.sl true .pk))]]⟩, [.int, .int, .ls .u8, .int, .int, .ls .lk, .ls .bool, .ls .int, .ls .db, .ls .pk, .int, .ls .lk, .ls .bool, .ls .int, .ls .db, .ls .pk]⟩, 0, ⟨[2, 3], ⟨[.c (.one (.ptr 1 0)), .c (.one (.ptr 2 0))], [.box 87 [(.b (.sl true .u8)), (.b (.int .i64))], .box 31 [(.b (.int .i64)), (.b (.sl true .lk)), (.b (.sl true .bool)), (.b (.sl true .int)), (.b (.sl true .db)), (.b (.sl true .pk))], .box 31 [(.b (.int .i64)), (.b (.sl true .lk)), (.b (.sl true .bool)), (.b (.sl true .int)), (.b (.sl true .db)), (.b (.sl true .pk))]]⟩, [.ls .u8, .int, .int, .ls .lk, .ls .bool, .ls .int, .ls .db, .ls .pk, .int, .ls .lk, .ls .bool, .ls .int, .ls .db, .ls .pk]⟩, ⟨[999999], ⟨[.c (.one (.own 0))], []⟩, []⟩, lp zC3 fuel⟩
def zFV : Entry := ⟨⟨[.c (.one (.ptr 0 0))], [.box 87 [(.b (.sl true .u8)), (.b (.int .i64))]]⟩, [.ls .u8, .int], ⟨[.c (.agg [(.b (.int .i64)), (.b (.sl true .lk)), (.b (.sl true .bool)), (.b (.sl true .int)), (.b (.sl true .db)), (.b (.sl true .pk))])], [.box 87 [(.b (.sl true .u8)), (.b (.int .i64))]]⟩, [.int, .ls .lk, .ls .bool, .ls .int, .ls .db, .ls .pk, .ls .u8, .int], zMq⟩
def zHy : Env := mkEnv tab [(97, [], zFp), (57, [], zFP), (98, [], zFR), (59, [], zFC), (56, [], zFU)] 26 1 [(6, 4, [(0, true), (1, true), (2, true), (3, false)], [0])] [(4, zBB)]
theorem zN1 : CtrOk Tryz.prog zHy.Γ := ctr_ok (l := [(97, [], zFp), (57, [], zFP), (98, [], zFR), (59, [], zFC), (56, [], zFU)]) ⟨⟨zKc, Tryz.call97⟩, ⟨⟨zKC, Tryz.call57⟩, ⟨⟨zKE, Tryz.call98⟩, ⟨⟨zKp, Tryz.call59⟩, ⟨⟨zKH, Tryz.call56⟩, trivial⟩⟩⟩⟩⟩
theorem zI1 : LoopOk Tryz.prog 1 26 (nthC (Tryz.f55.body.getD .skip) 0) zBB := loop_ok (G := zHy) (F := zBB.F) (eid := zBB.eid) (FX := zBB.FX) (FR := zBB.FR) (B := zC3) (n := fuel) bad_ok tabOk zN1 mixed (code_ok' (G := zHy) (n := 0) (by kernel_rfl) (by kernel_rfl) trivial (by kernel_rfl)) (fun s => by kernel_rfl)
theorem zKI : GC Tryz.prog 55 zFV := gc_of (G := zHy) (c := Tryz.f55.body.getD .skip) bad_ok tabOk zN1 mixed Tryz.func55 (by kernel_rfl) Tryz.ntmps55 (code_ok' (G := zHy) (n := 1) (by kernel_rfl) (by kernel_rfl) ⟨trivial, loop_at (id := 4) (L0 := zBB) (by kernel_rfl) (by kernel_rfl) zI1⟩ (by kernel_rfl)) (fun s => by kernel_rfl)
def zFW : Entry := ⟨⟨[.c (.one (.ptr 0 0))], [.box 87 [(.b (.sl true .u8)), (.b (.int .i64))]]⟩, [.ls .u8, .int], ⟨[.c (.agg [(.b (.int .i64)), (.own 1), (.own 2), (.own 3), (.own 4), (.own 5)])], [.box 87 [(.b (.sl true .u8)), (.b (.int .i64))], .row 45 .lk, .row 4 .bool, .row 3 .int, .row 47 .db, .row 55 .pk]⟩, [.int, .ls .u8, .int, .ls .lk, .ls .bool, .ls .int, .ls .db, .ls .pk], zMr⟩
def zHz : Env := mkEnv tab [(58, [], zFB), (57, [], zFP), (68, [], zFS), (67, [], zFQ), (66, [], zFT), (55, [], zFV)] 98 1 [(9, 9, [(0, true), (1, true), (2, true), (3, true), (4, true), (5, true), (6, true), (7, true), (8, true)], []), (11, 5, [(0, true), (1, true), (2, true), (3, true), (4, false)], [0]), (13, 5, [(0, true), (1, true), (2, true), (3, true), (4, false)], [0]), (15, 9, [(0, true), (1, true), (2, true), (5, true), (3, false), (4, true), (6, false), (7, true), (8, false)], [0]), (18, 9, [(0, true), (1, true), (2, true), (3, true), (4, true), (5, true), (6, true), (7, true), (8, true)], [])] []
theorem zN2 : CtrOk Tryz.prog zHz.Γ := ctr_ok (l := [(58, [], zFB), (57, [], zFP), (68, [], zFS), (67, [], zFQ), (66, [], zFT), (55, [], zFV)]) ⟨⟨zKo, Tryz.call58⟩, ⟨⟨zKC, Tryz.call57⟩, ⟨⟨zKF, Tryz.call68⟩, ⟨⟨zKD, Tryz.call67⟩, ⟨⟨zKG, Tryz.call66⟩, ⟨⟨zKI, Tryz.call55⟩, trivial⟩⟩⟩⟩⟩⟩
theorem zKJ : GC Tryz.prog 34 zFW := gc_of (G := zHz) (c := Tryz.f34.body.getD .skip) bad_ok tabOk zN2 mixed Tryz.func34 (by kernel_rfl) Tryz.ntmps34 (code_ok' (G := zHz) (n := 0) (by kernel_rfl) (by kernel_rfl) trivial (by kernel_rfl)) (fun s => by kernel_rfl)
def zFk : Entry := ⟨⟨[.c (.one (.b (.sl true .u8)))], []⟩, [.ls .u8], ⟨[.c (.agg [(.b (.int .i64)), (.b (.sl true .lk)), (.b (.sl true .bool)), (.b (.sl true .int)), (.b (.sl true .db)), (.b (.sl true .pk))])], []⟩, [.int, .ls .lk, .ls .bool, .ls .int, .ls .db, .ls .pk], zLP⟩
def zGX : Env := mkEnv tab [(57, [], zFP), (35, [], zFO), (55, [], zFV), (34, [], zFW)] 13 0 [] []
theorem zNq : CtrOk Tryz.prog zGX.Γ := ctr_ok (l := [(57, [], zFP), (35, [], zFO), (55, [], zFV), (34, [], zFW)]) ⟨⟨zKC, Tryz.call57⟩, ⟨⟨zKB, Tryz.call35⟩, ⟨⟨zKI, Tryz.call55⟩, ⟨⟨zKJ, Tryz.call34⟩, trivial⟩⟩⟩⟩
theorem zJ7 : GC Tryz.prog 62 zFk := gc_of (G := zGX) (c := Tryz.f62.body.getD .skip) bad_ok tabOk zNq mixed Tryz.func62 (by kernel_rfl) Tryz.ntmps62 (code_ok' (G := zGX) (n := 0) (by kernel_rfl) (by kernel_rfl) trivial (by kernel_rfl)) (fun s => by kernel_rfl)
def zFj : Entry := ⟨⟨[.c (.one (.b (.sl true .u8)))], []⟩, [.ls .u8], ⟨[.c (.agg [(.b (.int .i64)), (.b (.sl true .lk)), (.b (.sl true .bool)), (.b (.sl true .int)), (.b (.sl true .db)), (.b (.sl true .pk))])], []⟩, [.int, .ls .lk, .ls .bool, .ls .int, .ls .db, .ls .pk], zLO⟩
def zGW : Env := mkEnv tab [(62, [], zFk)] 5 0 [] []
theorem zNp : CtrOk Tryz.prog zGW.Γ := ctr_ok (l := [(62, [], zFk)]) ⟨⟨zJ7, Tryz.call62⟩, trivial⟩
theorem zJ6 : GC Tryz.prog 30 zFj := gc_of (G := zGW) (c := Tryz.f30.body.getD .skip) bad_ok tabOk zNp mixed Tryz.func30 (by kernel_rfl) Tryz.ntmps30 (code_ok' (G := zGW) (n := 0) (by kernel_rfl) (by kernel_rfl) trivial (by kernel_rfl)) (fun s => by kernel_rfl)
end Go.Proofs.YtojdflifijpffaaGreat
end
section
namespace Go.Proofs.YtojdflifijpffaaGreat
open Go.RowKit
set_option maxRecDepth 100000
def zBF (s : (Int × Int × List Int × List Int × Unit)) : Option ((Int × Int × List Int × List Int × Unit) ⊕ ((List Int × Unit) ⊕ Unit)) := (bif decide ((s.2.1 < s.1)) then (bif inR s.2.1 (List.length s.2.2.2.1) then (bif decide (((0 : Int) ≤ at! .int s.2.2.2.1 (Int.toNat s.2.1))) then (bif decide (((List.length s.2.2.1 + List.length ([s.2.1])) ≤ (33554432 : Nat))) then some (Sum.inl ((s.1, wrap64 ((s.2.1 + (1 : Int))), (s.2.2.1 ++ [s.2.1]), s.2.2.2.1, ()))) else none) else some (Sum.inl ((s.1, wrap64 ((s.2.1 + (1 : Int))), s.2.2.1, s.2.2.2.1, ())))) else none) else some (Sum.inr (Sum.inl ((s.2.2.1, ())))))
def zKP (s : (Int × List Lk × Int × Unit)) : Option (List Int × Unit) := (zKS ((s.1, (s.2.1, (s.2.2.1, ()))))).bind fun r0 => (bif (!r0.1) then some ((([] : List Int), ())) else (zKR ((s.1, (s.2.1, (s.2.2.1, ()))))).bind fun r1 => (lp zBF fuel ((nI (List.length r1.1), ((0 : Int), (([] : List Int), (r1.1, ())))))).bind fun r2 => (match r2 with | .inl x3 => some ((x3.1, ())) | .inr _ => none))
end Go.Proofs.YtojdflifijpffaaGreat
end
section
namespace Go.Proofs.YtojdflifijpffaaGreat
open Go.RowKit
set_option maxRecDepth 100000
def zAd : Loop := ⟨⟨[5, 15, 16, 17], ⟨[.c (.one (.own 0)), .c (.one (.own 1)), .c (.one (.b (.int .i64))), .c (.one (.b (.int .i64)))], [.row 3 .int, .row 3 .int]⟩, [.int, .int, .ls .int, .ls .int]⟩, 0, ⟨[5], ⟨[.c (.one (.own 0))], [.row 3 .int]⟩, [.ls .int]⟩, ⟨[999999], ⟨[.c (.one (.own 0))], []⟩, []⟩, lp zBF fuel⟩
def zDz : Entry := ⟨⟨[.c (.agg [(.b (.int .i64)), (.b (.sl false .lk))]), .c (.one (.b (.int .i64)))], []⟩, [.int, .ls .lk, .int], ⟨[.c (.one (.own 0))], [.row 3 .int]⟩, [.ls .int], zKP⟩
def zF4 : Env := mkEnv tab [(64, [], zDC), (65, [], zDB)] 30 0 [] [(5, zAd)]
theorem zMx : CtrOk Tryz.prog zF4.Γ := ctr_ok (l := [(64, [], zDC), (65, [], zDB)]) ⟨⟨zJa, Tryz.call64⟩, ⟨⟨zI9, Tryz.call65⟩, trivial⟩⟩
theorem zHD : LoopOk Tryz.prog 0 30 (nthC (Tryz.f32.body.getD .skip) 0) zAd := loop_ok (G := zF4) (F := zAd.F) (eid := zAd.eid) (FX := zAd.FX) (FR := zAd.FR) (B := zBF) (n := fuel) bad_ok tabOk zMx mixed (code_ok' (G := zF4) (n := 0) (by kernel_rfl) (by kernel_rfl) trivial (by kernel_rfl)) (fun s => by kernel_rfl)
theorem zI7 : GC Tryz.prog 32 zDz := gc_of (G := zF4) (c := Tryz.f32.body.getD .skip) bad_ok tabOk zMx mixed Tryz.func32 (by kernel_rfl) Tryz.ntmps32 (code_ok' (G := zF4) (n := 1) (by kernel_rfl) (by kernel_rfl) ⟨trivial, loop_at (id := 5) (L0 := zAd) (by kernel_rfl) (by kernel_rfl) zHD⟩ (by kernel_rfl)) (fun s => by kernel_rfl)
end Go.Proofs.YtojdflifijpffaaGreat
end
section
namespace Go.Proofs.YtojdflifijpffaaGreat
open Go.RowKit
set_option maxRecDepth 100000
def zB9 (s : (Int × Int × Int × List Lk × List Bool × List Int × List (List Ls) × List Pk × List Lk × Unit)) : Option ((Int × Int × Int × List Lk × List Bool × List Int × List (List Ls) × List Pk × List Lk × Unit) ⊕ ((Unit) ⊕ (Bool × Unit))) := (bif decide ((s.1 < nI (List.length s.2.2.2.2.2.2.1))) then (zK2 ((s.2.1, (s.2.2.2.1, (s.2.2.2.2.1, (s.2.2.2.2.2.1, (s.2.2.2.2.2.2.1, (s.2.2.2.2.2.2.2.1, (s.1, ()))))))))).bind fun r0 => (zKO ((r0.1, (r0.2.1, (s.1, ()))))).bind fun r1 => (zKO ((s.2.2.1, (s.2.2.2.2.2.2.2.2.1, (s.1, ()))))).bind fun r2 => (zLw ((r1.1, (r2.1, ())))).bind fun r3 => (bif (!r3.1) then some (Sum.inr (Sum.inr ((false, ())))) else some (Sum.inl ((wrap64 ((s.1 + (1 : Int))), s.2.1, s.2.2.1, s.2.2.2.1, s.2.2.2.2.1, s.2.2.2.2.2.1, s.2.2.2.2.2.2.1, s.2.2.2.2.2.2.2.1, s.2.2.2.2.2.2.2.2.1, ())))) else some (Sum.inr (Sum.inl (()))))
def zLp (s : (List Int × Unit)) : Option (Bool × Unit) := (bif decide (((1048576 : Int) < nI (List.length s.1))) then some ((true, ())) else (zLO ((s.1, ()))).bind fun r0 => (zK1 ((r0.1, (r0.2.1, (r0.2.2.1, (r0.2.2.2.1, (r0.2.2.2.2.1, (r0.2.2.2.2.2.1, ())))))))).bind fun r1 => (zLT ((r0.1, (r0.2.1, (r0.2.2.1, (r0.2.2.2.1, (r0.2.2.2.2.1, (r0.2.2.2.2.2.1, ())))))))).bind fun r2 => (zLy ((r1.1, (r1.2.1, (r1.2.2.1, (r1.2.2.2.1, (r1.2.2.2.2.1, (r1.2.2.2.2.2.1, (r2.1, (r2.2.1, (r2.2.2.1, (r2.2.2.2.1, (r2.2.2.2.2.1, (r2.2.2.2.2.2.1, ())))))))))))))).bind fun r3 => (bif (!r3.1) then (zLy ((r1.1, (r1.2.1, (r1.2.2.1, (r1.2.2.2.1, (r1.2.2.2.2.1, (r1.2.2.2.2.2.1, (r2.1, (r2.2.1, (r2.2.2.1, (r2.2.2.2.1, (r2.2.2.2.2.1, (r2.2.2.2.2.2.1, ())))))))))))))).bind fun r4 => some ((r4.1, ())) else (zLV ((r0.1, (r0.2.1, (r0.2.2.1, (r0.2.2.2.1, (r0.2.2.2.2.1, (r0.2.2.2.2.2.1, ())))))))).bind fun r5 => (bif (!r5.1) then (zLy ((r1.1, (r1.2.1, (r1.2.2.1, (r1.2.2.2.1, (r1.2.2.2.2.1, (r1.2.2.2.2.2.1, (r2.1, (r2.2.1, (r2.2.2.1, (r2.2.2.2.1, (r2.2.2.2.2.1, (r2.2.2.2.2.2.1, ())))))))))))))).bind fun r6 => some ((r6.1, ())) else (zK3 ((r1.1, (r1.2.1, (r1.2.2.1, (r1.2.2.2.1, (r1.2.2.2.2.1, (r1.2.2.2.2.2.1, ())))))))).bind fun r7 => (lp zB9 fuel (((0 : Int), (r1.1, (r7.1, (r1.2.1, (r1.2.2.1, (r1.2.2.2.1, (r1.2.2.2.2.1, (r1.2.2.2.2.2.1, (r7.2.1, ()))))))))))).bind fun r8 => (match r8 with | .inl _ => some ((true, ())) | .inr y9 => some ((y9.1, ()))))))
def zCd (s : (Int × Int × Int × Int × List Int × List Lk × List Bool × List Int × List (List Ls) × List Pk × List Lk × Unit)) : Option ((Int × Int × Int × Int × List Int × List Lk × List Bool × List Int × List (List Ls) × List Pk × List Lk × Unit) ⊕ ((Int × Int × Int × List Lk × List Bool × List Int × List (List Ls) × List Pk × List Lk × Unit) ⊕ (Bool × Unit))) := (bif decide ((s.2.1 < nI (List.length s.2.2.2.2.1))) then (bif inR s.1 (List.length s.2.2.2.2.2.2.2.2.1) then (bif inR s.2.1 (List.length s.2.2.2.2.1) then (bif inR s.2.1 (List.length s.2.2.2.2.1) then (bif inR (at! .int s.2.2.2.2.1 (Int.toNat s.2.1)) (List.length s.2.2.2.2.2.2.2.1) then (zLz ((at! .db s.2.2.2.2.2.2.2.2.1 (Int.toNat s.1), (at! .int s.2.2.2.2.1 (Int.toNat s.2.1), ())))).bind fun r0 => (bif (!(decide ((r0.1 = at! .int s.2.2.2.2.2.2.2.1 (Int.toNat (at! .int s.2.2.2.2.1 (Int.toNat s.2.1))))))) then some (Sum.inr (Sum.inr ((false, ())))) else some (Sum.inl ((s.1, wrap64 ((s.2.1 + (1 : Int))), s.2.2.1, s.2.2.2.1, s.2.2.2.2.1, s.2.2.2.2.2.1, s.2.2.2.2.2.2.1, s.2.2.2.2.2.2.2.1, s.2.2.2.2.2.2.2.2.1, s.2.2.2.2.2.2.2.2.2.1, s.2.2.2.2.2.2.2.2.2.2.1, ())))) else none) else none) else none) else none) else some (Sum.inr (Sum.inl ((s.1, s.2.2.1, s.2.2.2.1, s.2.2.2.2.2.1, s.2.2.2.2.2.2.1, s.2.2.2.2.2.2.2.1, s.2.2.2.2.2.2.2.2.1, s.2.2.2.2.2.2.2.2.2.1, s.2.2.2.2.2.2.2.2.2.2.1, ())))))
def zCc (s : (Int × Int × Int × List Lk × List Bool × List Int × List (List Ls) × List Pk × List Lk × Unit)) : Option ((Int × Int × Int × List Lk × List Bool × List Int × List (List Ls) × List Pk × List Lk × Unit) ⊕ ((Unit) ⊕ (Bool × Unit))) := (bif decide ((s.1 < nI (List.length s.2.2.2.2.2.2.1))) then (zKP ((s.2.2.1, (s.2.2.2.2.2.2.2.2.1, (s.1, ()))))).bind fun r0 => (lp zCd fuel ((s.1, ((0 : Int), (s.2.1, (s.2.2.1, (r0.1, (s.2.2.2.1, (s.2.2.2.2.1, (s.2.2.2.2.2.1, (s.2.2.2.2.2.2.1, (s.2.2.2.2.2.2.2.1, (s.2.2.2.2.2.2.2.2.1, ()))))))))))))).bind fun r1 => (match r1 with | .inl x2 => some (Sum.inl ((wrap64 ((x2.1 + (1 : Int))), x2.2.1, x2.2.2.1, x2.2.2.2.1, x2.2.2.2.2.1, x2.2.2.2.2.2.1, x2.2.2.2.2.2.2.1, x2.2.2.2.2.2.2.2.1, x2.2.2.2.2.2.2.2.2.1, ()))) | .inr y2 => some (Sum.inr (Sum.inr ((y2.1, ()))))) else some (Sum.inr (Sum.inl (()))))
def zLr (s : (List Int × Unit)) : Option (Bool × Unit) := (bif decide (((1048576 : Int) < nI (List.length s.1))) then some ((true, ())) else (zLO ((s.1, ()))).bind fun r0 => (zK1 ((r0.1, (r0.2.1, (r0.2.2.1, (r0.2.2.2.1, (r0.2.2.2.2.1, (r0.2.2.2.2.2.1, ())))))))).bind fun r1 => (zLT ((r0.1, (r0.2.1, (r0.2.2.1, (r0.2.2.2.1, (r0.2.2.2.2.1, (r0.2.2.2.2.2.1, ())))))))).bind fun r2 => (zLy ((r1.1, (r1.2.1, (r1.2.2.1, (r1.2.2.2.1, (r1.2.2.2.2.1, (r1.2.2.2.2.2.1, (r2.1, (r2.2.1, (r2.2.2.1, (r2.2.2.2.1, (r2.2.2.2.2.1, (r2.2.2.2.2.2.1, ())))))))))))))).bind fun r3 => (bif (!r3.1) then (zLy ((r1.1, (r1.2.1, (r1.2.2.1, (r1.2.2.2.1, (r1.2.2.2.2.1, (r1.2.2.2.2.2.1, (r2.1, (r2.2.1, (r2.2.2.1, (r2.2.2.2.1, (r2.2.2.2.2.1, (r2.2.2.2.2.2.1, ())))))))))))))).bind fun r4 => some ((r4.1, ())) else (zLV ((r0.1, (r0.2.1, (r0.2.2.1, (r0.2.2.2.1, (r0.2.2.2.2.1, (r0.2.2.2.2.2.1, ())))))))).bind fun r5 => (bif (!r5.1) then (zLy ((r1.1, (r1.2.1, (r1.2.2.1, (r1.2.2.2.1, (r1.2.2.2.2.1, (r1.2.2.2.2.2.1, (r2.1, (r2.2.1, (r2.2.2.1, (r2.2.2.2.1, (r2.2.2.2.2.1, (r2.2.2.2.2.2.1, ())))))))))))))).bind fun r6 => some ((r6.1, ())) else (zK3 ((r1.1, (r1.2.1, (r1.2.2.1, (r1.2.2.2.1, (r1.2.2.2.2.1, (r1.2.2.2.2.2.1, ())))))))).bind fun r7 => (lp zCc fuel (((0 : Int), (r1.1, (r7.1, (r1.2.1, (r1.2.2.1, (r1.2.2.2.1, (r1.2.2.2.2.1, (r1.2.2.2.2.2.1, (r7.2.1, ()))))))))))).bind fun r8 => (match r8 with | .inl _ => some ((true, ())) | .inr y9 => some ((y9.1, ()))))))
def zCb (s : (Int × Int × Int × Int × List Int × List Lk × List Bool × List Int × List (List Ls) × List Pk × List Lk × Unit)) : Option ((Int × Int × Int × Int × List Int × List Lk × List Bool × List Int × List (List Ls) × List Pk × List Lk × Unit) ⊕ ((Int × Int × Int × List Lk × List Bool × List Int × List (List Ls) × List Pk × List Lk × Unit) ⊕ (Bool × Unit))) := (bif decide ((s.2.1 < nI (List.length s.2.2.2.2.1))) then (bif inR s.1 (List.length s.2.2.2.2.2.2.2.2.1) then (bif inR s.2.1 (List.length s.2.2.2.2.1) then (bif inR (at! .int s.2.2.2.2.1 (Int.toNat s.2.1)) (List.length s.2.2.2.2.2.2.2.2.1) then (zLt ((at! .db s.2.2.2.2.2.2.2.2.1 (Int.toNat s.1), (at! .db s.2.2.2.2.2.2.2.2.1 (Int.toNat (at! .int s.2.2.2.2.1 (Int.toNat s.2.1))), ())))).bind fun r0 => (bif (!r0.1) then some (Sum.inr (Sum.inr ((false, ())))) else some (Sum.inl ((s.1, wrap64 ((s.2.1 + (1 : Int))), s.2.2.1, s.2.2.2.1, s.2.2.2.2.1, s.2.2.2.2.2.1, s.2.2.2.2.2.2.1, s.2.2.2.2.2.2.2.1, s.2.2.2.2.2.2.2.2.1, s.2.2.2.2.2.2.2.2.2.1, s.2.2.2.2.2.2.2.2.2.2.1, ())))) else none) else none) else none) else some (Sum.inr (Sum.inl ((s.1, s.2.2.1, s.2.2.2.1, s.2.2.2.2.2.1, s.2.2.2.2.2.2.1, s.2.2.2.2.2.2.2.1, s.2.2.2.2.2.2.2.2.1, s.2.2.2.2.2.2.2.2.2.1, s.2.2.2.2.2.2.2.2.2.2.1, ())))))
def zCa (s : (Int × Int × Int × List Lk × List Bool × List Int × List (List Ls) × List Pk × List Lk × Unit)) : Option ((Int × Int × Int × List Lk × List Bool × List Int × List (List Ls) × List Pk × List Lk × Unit) ⊕ ((Int × List Lk × List Bool × List Int × List (List Ls) × List Pk × Unit) ⊕ (Bool × Unit))) := (bif decide ((s.1 < nI (List.length s.2.2.2.2.2.2.1))) then (zKP ((s.2.2.1, (s.2.2.2.2.2.2.2.2.1, (s.1, ()))))).bind fun r0 => (lp zCb fuel ((s.1, ((0 : Int), (s.2.1, (s.2.2.1, (r0.1, (s.2.2.2.1, (s.2.2.2.2.1, (s.2.2.2.2.2.1, (s.2.2.2.2.2.2.1, (s.2.2.2.2.2.2.2.1, (s.2.2.2.2.2.2.2.2.1, ()))))))))))))).bind fun r1 => (match r1 with | .inl x2 => some (Sum.inl ((wrap64 ((x2.1 + (1 : Int))), x2.2.1, x2.2.2.1, x2.2.2.2.1, x2.2.2.2.2.1, x2.2.2.2.2.2.1, x2.2.2.2.2.2.2.1, x2.2.2.2.2.2.2.2.1, x2.2.2.2.2.2.2.2.2.1, ()))) | .inr y2 => some (Sum.inr (Sum.inr ((y2.1, ()))))) else some (Sum.inr (Sum.inl ((s.2.1, s.2.2.2.1, s.2.2.2.2.1, s.2.2.2.2.2.1, s.2.2.2.2.2.2.1, s.2.2.2.2.2.2.2.1, ())))))
def zLq (s : (List Int × Unit)) : Option (Bool × Unit) := (bif decide (((1048576 : Int) < nI (List.length s.1))) then some ((true, ())) else (zLO ((s.1, ()))).bind fun r0 => (zK1 ((r0.1, (r0.2.1, (r0.2.2.1, (r0.2.2.2.1, (r0.2.2.2.2.1, (r0.2.2.2.2.2.1, ())))))))).bind fun r1 => (zLT ((r0.1, (r0.2.1, (r0.2.2.1, (r0.2.2.2.1, (r0.2.2.2.2.1, (r0.2.2.2.2.2.1, ())))))))).bind fun r2 => (zLy ((r1.1, (r1.2.1, (r1.2.2.1, (r1.2.2.2.1, (r1.2.2.2.2.1, (r1.2.2.2.2.2.1, (r2.1, (r2.2.1, (r2.2.2.1, (r2.2.2.2.1, (r2.2.2.2.2.1, (r2.2.2.2.2.2.1, ())))))))))))))).bind fun r3 => (bif (!r3.1) then (zLy ((r1.1, (r1.2.1, (r1.2.2.1, (r1.2.2.2.1, (r1.2.2.2.2.1, (r1.2.2.2.2.2.1, (r2.1, (r2.2.1, (r2.2.2.1, (r2.2.2.2.1, (r2.2.2.2.2.1, (r2.2.2.2.2.2.1, ())))))))))))))).bind fun r4 => some ((r4.1, ())) else (zLV ((r0.1, (r0.2.1, (r0.2.2.1, (r0.2.2.2.1, (r0.2.2.2.2.1, (r0.2.2.2.2.2.1, ())))))))).bind fun r5 => (bif (!r5.1) then (zLy ((r1.1, (r1.2.1, (r1.2.2.1, (r1.2.2.2.1, (r1.2.2.2.2.1, (r1.2.2.2.2.2.1, (r2.1, (r2.2.1, (r2.2.2.1, (r2.2.2.2.1, (r2.2.2.2.2.1, (r2.2.2.2.2.2.1, ())))))))))))))).bind fun r6 => some ((r6.1, ())) else (zK3 ((r1.1, (r1.2.1, (r1.2.2.1, (r1.2.2.2.1, (r1.2.2.2.2.1, (r1.2.2.2.2.2.1, ())))))))).bind fun r7 => (lp zCa fuel (((0 : Int), (r1.1, (r7.1, (r1.2.1, (r1.2.2.1, (r1.2.2.2.1, (r1.2.2.2.2.1, (r1.2.2.2.2.2.1, (r7.2.1, ()))))))))))).bind fun r8 => (match r8 with | .inl x9 => some ((decide ((nI (List.length x9.2.2.2.2.2.1) = (0 : Int))), ())) | .inr y9 => some ((y9.1, ()))))))
end Go.Proofs.YtojdflifijpffaaGreat
end
section
namespace Go.Proofs.YtojdflifijpffaaGreat
open Go.RowKit
set_option maxRecDepth 100000
def zAH : Loop := ⟨⟨[4, 6, 7], ⟨[.c (.one (.ptr 0 0)), .c (.one (.ptr 1 0)), .c (.one (.b (.int .i64)))], [.box 31 [(.b (.int .i64)), (.own 2), (.own 3), (.own 4), (.own 5), (.own 6)], .box 25 [(.b (.int .i64)), (.own 7)], .row 45 .lk, .row 4 .bool, .row 3 .int, .row 47 .db, .row 55 .pk, .row 45 .lk]⟩, [.int, .int, .int, .ls .lk, .ls .bool, .ls .int, .ls .db, .ls .pk, .ls .lk]⟩, 0, ⟨[], ⟨[], []⟩, []⟩, ⟨[2], ⟨[.c (.one (.b .bool))], []⟩, [.bool]⟩, lp zB9 fuel⟩
def zEx : Entry := ⟨⟨[.c (.one (.b (.sl true .u8)))], []⟩, [.ls .u8], ⟨[.c (.one (.b .bool))], []⟩, [.bool], zLp⟩
def zGE : Env := mkEnv tab [(24, [], zEE), (17, [], zEG), (16, [], zFq), (26, [], zDN), (20, [], zDM), (31, [], zFo), (33, [], zDy), (30, [], zFj), (19, [], zDL)] 48 0 [(12, 7, [(0, true), (1, true), (3, true), (5, true), (6, true), (2, false), (4, false)], [])] [(10, zAH)]
theorem zM7 : CtrOk Tryz.prog zGE.Γ := ctr_ok (l := [(24, [], zEE), (17, [], zEG), (16, [], zFq), (26, [], zDN), (20, [], zDM), (31, [], zFo), (33, [], zDy), (30, [], zFj), (19, [], zDL)]) ⟨⟨zJO, Tryz.call24⟩, ⟨⟨zJQ, Tryz.call17⟩, ⟨⟨zKd, Tryz.call16⟩, ⟨⟨zJl, Tryz.call26⟩, ⟨⟨zJk, Tryz.call20⟩, ⟨⟨zKb, Tryz.call31⟩, ⟨⟨zI6, Tryz.call33⟩, ⟨⟨zJ6, Tryz.call30⟩, ⟨⟨zJj, Tryz.call19⟩, trivial⟩⟩⟩⟩⟩⟩⟩⟩⟩
theorem zH7 : LoopOk Tryz.prog 0 48 (nthC (Tryz.f13.body.getD .skip) 0) zAH := loop_ok (G := zGE) (F := zAH.F) (eid := zAH.eid) (FX := zAH.FX) (FR := zAH.FR) (B := zB9) (n := fuel) bad_ok tabOk zM7 mixed (code_ok' (G := zGE) (n := 0) (by kernel_rfl) (by kernel_rfl) trivial (by kernel_rfl)) (fun s => by kernel_rfl)
theorem zJH : GC Tryz.prog 13 zEx := gc_of (G := zGE) (c := Tryz.f13.body.getD .skip) bad_ok tabOk zM7 mixed Tryz.func13 (by kernel_rfl) Tryz.ntmps13 (code_ok' (G := zGE) (n := 1) (by kernel_rfl) (by kernel_rfl) ⟨trivial, loop_at (id := 10) (L0 := zAH) (by kernel_rfl) (by kernel_rfl) zH7⟩ (by kernel_rfl)) (fun s => by kernel_rfl)
def zAL : Loop := ⟨⟨[4, 6, 7, 8, 9], ⟨[.c (.one (.ptr 0 0)), .c (.one (.ptr 1 0)), .c (.one (.b (.int .i64))), .c (.one (.own 2)), .c (.one (.b (.int .i64)))], [.box 31 [(.b (.int .i64)), (.own 3), (.own 4), (.own 5), (.own 6), (.own 7)], .box 25 [(.b (.int .i64)), (.own 8)], .row 3 .int, .row 45 .lk, .row 4 .bool, .row 3 .int, .row 47 .db, .row 55 .pk, .row 45 .lk]⟩, [.int, .int, .int, .int, .ls .int, .ls .lk, .ls .bool, .ls .int, .ls .db, .ls .pk, .ls .lk]⟩, 2, ⟨[4, 6, 7], ⟨[.c (.one (.ptr 0 0)), .c (.one (.ptr 1 0)), .c (.one (.b (.int .i64)))], [.box 31 [(.b (.int .i64)), (.own 2), (.own 3), (.own 4), (.own 5), (.own 6)], .box 25 [(.b (.int .i64)), (.own 7)], .row 45 .lk, .row 4 .bool, .row 3 .int, .row 47 .db, .row 55 .pk, .row 45 .lk]⟩, [.int, .int, .int, .ls .lk, .ls .bool, .ls .int, .ls .db, .ls .pk, .ls .lk]⟩, ⟨[2], ⟨[.c (.one (.b .bool))], []⟩, [.bool]⟩, lp zCd fuel⟩
def zAK : Loop := ⟨⟨[4, 6, 7], ⟨[.c (.one (.ptr 0 0)), .c (.one (.ptr 1 0)), .c (.one (.b (.int .i64)))], [.box 31 [(.b (.int .i64)), (.own 2), (.own 3), (.own 4), (.own 5), (.own 6)], .box 25 [(.b (.int .i64)), (.own 7)], .row 45 .lk, .row 4 .bool, .row 3 .int, .row 47 .db, .row 55 .pk, .row 45 .lk]⟩, [.int, .int, .int, .ls .lk, .ls .bool, .ls .int, .ls .db, .ls .pk, .ls .lk]⟩, 0, ⟨[], ⟨[], []⟩, []⟩, ⟨[2], ⟨[.c (.one (.b .bool))], []⟩, [.bool]⟩, lp zCc fuel⟩
def zEz : Entry := ⟨⟨[.c (.one (.b (.sl true .u8)))], []⟩, [.ls .u8], ⟨[.c (.one (.b .bool))], []⟩, [.bool], zLr⟩
def zGG : Env := mkEnv tab [(17, [], zEG), (16, [], zFq), (26, [], zDN), (31, [], zFo), (32, [], zDz), (28, [], zEH), (30, [], zFj), (19, [], zDL)] 68 0 [(16, 18, [(0, true), (1, true), (2, true), (3, true), (4, true), (5, true), (6, true), (7, true), (8, true), (10, true), (11, true), (12, true), (13, true), (14, true), (15, true), (16, true), (17, true), (9, false)], [])] [(14, zAL), (10, zAK)]
theorem zM9 : CtrOk Tryz.prog zGG.Γ := ctr_ok (l := [(17, [], zEG), (16, [], zFq), (26, [], zDN), (31, [], zFo), (32, [], zDz), (28, [], zEH), (30, [], zFj), (19, [], zDL)]) ⟨⟨zJQ, Tryz.call17⟩, ⟨⟨zKd, Tryz.call16⟩, ⟨⟨zJl, Tryz.call26⟩, ⟨⟨zKb, Tryz.call31⟩, ⟨⟨zI7, Tryz.call32⟩, ⟨⟨zJR, Tryz.call28⟩, ⟨⟨zJ6, Tryz.call30⟩, ⟨⟨zJj, Tryz.call19⟩, trivial⟩⟩⟩⟩⟩⟩⟩⟩
theorem zIb : LoopOk Tryz.prog 0 68 (nthC (nthC (Tryz.f12.body.getD .skip) 0) 0) zAL := loop_ok (G := zGG) (F := zAL.F) (eid := zAL.eid) (FX := zAL.FX) (FR := zAL.FR) (B := zCd) (n := fuel) bad_ok tabOk zM9 mixed (code_ok' (G := zGG) (n := 0) (by kernel_rfl) (by kernel_rfl) trivial (by kernel_rfl)) (fun s => by kernel_rfl)
theorem zIa : LoopOk Tryz.prog 0 68 (nthC (Tryz.f12.body.getD .skip) 0) zAK := loop_ok (G := zGG) (F := zAK.F) (eid := zAK.eid) (FX := zAK.FX) (FR := zAK.FR) (B := zCc) (n := fuel) bad_ok tabOk zM9 mixed (code_ok' (G := zGG) (n := 1) (by kernel_rfl) (by kernel_rfl) ⟨trivial, loop_at (id := 14) (L0 := zAL) (by kernel_rfl) (by kernel_rfl) zIb⟩ (by kernel_rfl)) (fun s => by kernel_rfl)
theorem zJJ : GC Tryz.prog 12 zEz := gc_of (G := zGG) (c := Tryz.f12.body.getD .skip) bad_ok tabOk zM9 mixed Tryz.func12 (by kernel_rfl) Tryz.ntmps12 (code_ok' (G := zGG) (n := 1) (by kernel_rfl) (by kernel_rfl) ⟨trivial, loop_at (id := 10) (L0 := zAK) (by kernel_rfl) (by kernel_rfl) zIa⟩ (by kernel_rfl)) (fun s => by kernel_rfl)
def zAJ : Loop := ⟨⟨[4, 6, 7, 8, 9], ⟨[.c (.one (.ptr 0 0)), .c (.one (.ptr 1 0)), .c (.one (.b (.int .i64))), .c (.one (.own 2)), .c (.one (.b (.int .i64)))], [.box 31 [(.b (.int .i64)), (.own 3), (.own 4), (.own 5), (.own 6), (.own 7)], .box 25 [(.b (.int .i64)), (.own 8)], .row 3 .int, .row 45 .lk, .row 4 .bool, .row 3 .int, .row 47 .db, .row 55 .pk, .row 45 .lk]⟩, [.int, .int, .int, .int, .ls .int, .ls .lk, .ls .bool, .ls .int, .ls .db, .ls .pk, .ls .lk]⟩, 2, ⟨[4, 6, 7], ⟨[.c (.one (.ptr 0 0)), .c (.one (.ptr 1 0)), .c (.one (.b (.int .i64)))], [.box 31 [(.b (.int .i64)), (.own 2), (.own 3), (.own 4), (.own 5), (.own 6)], .box 25 [(.b (.int .i64)), (.own 7)], .row 45 .lk, .row 4 .bool, .row 3 .int, .row 47 .db, .row 55 .pk, .row 45 .lk]⟩, [.int, .int, .int, .ls .lk, .ls .bool, .ls .int, .ls .db, .ls .pk, .ls .lk]⟩, ⟨[2], ⟨[.c (.one (.b .bool))], []⟩, [.bool]⟩, lp zCb fuel⟩
def zAI : Loop := ⟨⟨[4, 6, 7], ⟨[.c (.one (.ptr 0 0)), .c (.one (.ptr 1 0)), .c (.one (.b (.int .i64)))], [.box 31 [(.b (.int .i64)), (.own 2), (.own 3), (.own 4), (.own 5), (.own 6)], .box 25 [(.b (.int .i64)), (.own 7)], .row 45 .lk, .row 4 .bool, .row 3 .int, .row 47 .db, .row 55 .pk, .row 45 .lk]⟩, [.int, .int, .int, .ls .lk, .ls .bool, .ls .int, .ls .db, .ls .pk, .ls .lk]⟩, 0, ⟨[4], ⟨[.c (.one (.ptr 0 0))], [.box 31 [(.b (.int .i64)), (.own 1), (.own 2), (.own 3), (.own 4), (.own 5)], .row 45 .lk, .row 4 .bool, .row 3 .int, .row 47 .db, .row 55 .pk]⟩, [.int, .ls .lk, .ls .bool, .ls .int, .ls .db, .ls .pk]⟩, ⟨[2], ⟨[.c (.one (.b .bool))], []⟩, [.bool]⟩, lp zCa fuel⟩
def zEy : Entry := ⟨⟨[.c (.one (.b (.sl true .u8)))], []⟩, [.ls .u8], ⟨[.c (.one (.b .bool))], []⟩, [.bool], zLq⟩
def zGF : Env := mkEnv tab [(23, [], zEB), (17, [], zEG), (16, [], zFq), (26, [], zDN), (31, [], zFo), (32, [], zDz), (30, [], zFj), (19, [], zDL)] 68 0 [(16, 13, [(0, true), (1, true), (2, true), (3, true), (4, true), (5, true), (6, true), (7, true), (8, true), (9, true), (10, true), (11, true), (12, true)], [])] [(14, zAJ), (10, zAI)]
theorem zM8 : CtrOk Tryz.prog zGF.Γ := ctr_ok (l := [(23, [], zEB), (17, [], zEG), (16, [], zFq), (26, [], zDN), (31, [], zFo), (32, [], zDz), (30, [], zFj), (19, [], zDL)]) ⟨⟨zJL, Tryz.call23⟩, ⟨⟨zJQ, Tryz.call17⟩, ⟨⟨zKd, Tryz.call16⟩, ⟨⟨zJl, Tryz.call26⟩, ⟨⟨zKb, Tryz.call31⟩, ⟨⟨zI7, Tryz.call32⟩, ⟨⟨zJ6, Tryz.call30⟩, ⟨⟨zJj, Tryz.call19⟩, trivial⟩⟩⟩⟩⟩⟩⟩⟩
theorem zH9 : LoopOk Tryz.prog 0 68 (nthC (nthC (Tryz.f11.body.getD .skip) 0) 0) zAJ := loop_ok (G := zGF) (F := zAJ.F) (eid := zAJ.eid) (FX := zAJ.FX) (FR := zAJ.FR) (B := zCb) (n := fuel) bad_ok tabOk zM8 mixed (code_ok' (G := zGF) (n := 0) (by kernel_rfl) (by kernel_rfl) trivial (by kernel_rfl)) (fun s => by kernel_rfl)
theorem zH8 : LoopOk Tryz.prog 0 68 (nthC (Tryz.f11.body.getD .skip) 0) zAI := loop_ok (G := zGF) (F := zAI.F) (eid := zAI.eid) (FX := zAI.FX) (FR := zAI.FR) (B := zCa) (n := fuel) bad_ok tabOk zM8 mixed (code_ok' (G := zGF) (n := 1) (by kernel_rfl) (by kernel_rfl) ⟨trivial, loop_at (id := 14) (L0 := zAJ) (by kernel_rfl) (by kernel_rfl) zH9⟩ (by kernel_rfl)) (fun s => by kernel_rfl)
theorem zJI : GC Tryz.prog 11 zEy := gc_of (G := zGF) (c := Tryz.f11.body.getD .skip) bad_ok tabOk zM8 mixed Tryz.func11 (by kernel_rfl) Tryz.ntmps11 (code_ok' (G := zGF) (n := 1) (by kernel_rfl) (by kernel_rfl) ⟨trivial, loop_at (id := 10) (L0 := zAI) (by kernel_rfl) (by kernel_rfl) zH8⟩ (by kernel_rfl)) (fun s => by kernel_rfl)
end Go.Proofs.YtojdflifijpffaaGreat
end
section
namespace Go.Proofs.YtojdflifijpffaaGreat
open Go.RowKit

def LkAt (n : Int) (ls : List Lk) (i : Nat) : Prop :=
  0 ≤ (lk ls i).a ∧ (lk ls i).a < (lk ls i).b ∧ (lk ls i).b < n ∧ 1 ≤ (lk ls i).c ∧ (lk ls i).c ≤ 20 ∧
    (0 < i → (lk ls (i - 1)).a < (lk ls i).a ∨ (lk ls (i - 1)).a = (lk ls i).a ∧ (lk ls (i - 1)).b < (lk ls i).b)
instance (n : Int) (ls : List Lk) (i : Nat) : Decidable (LkAt n ls i) := by unfold LkAt; infer_instance
def GV (n : Int) (ls : List Lk) : Prop := 1 ≤ n ∧ n ≤ 8 ∧ ls.length ≤ 14 ∧ ∀ i, i < ls.length → LkAt n ls i
instance (n : Int) (ls : List Lk) : Decidable (GV n ls) := by unfold GV; infer_instance
def gv (n : Int) (ls : List Lk) : Bool := decide (GV n ls)
theorem gv_t {n : Int} {ls : List Lk} (h : gv n ls = true) : GV n ls := of_decide_eq_true h
theorem gv_f {n : Int} {ls : List Lk} (h : ¬ GV n ls) : gv n ls = false := decide_eq_false h
theorem gv_at {n : Int} {ls : List Lk} {k : Nat} (hk : k < ls.length) (h : 1 ≤ n → n ≤ 8 → ¬ LkAt n ls k) : gv n ls = false :=
  gv_f fun g => h g.1 g.2.1 (g.2.2.2 k hk)
theorem gv_end {n : Int} {ls : List Lk} {k : Nat} (hl : ls.length = k) (h : 1 ≤ n → n ≤ 8 → ∀ i, i < k → LkAt n ls i) : gv n ls = (inB n 1 8 && decide ((k : Int) ≤ 14)) := by
  subst hl
  unfold gv GV inB
  by_cases h1 : 1 ≤ n ∧ n ≤ 8
  · by_cases h2 : ls.length ≤ 14
    · have h3 := h h1.1 h1.2
      have : ((ls.length : Nat) : Int) ≤ 14 := by omega
      simp [h1, h2, this]
      exact fun i hi => h3 i hi
    · have : ¬ ((ls.length : Nat) : Int) ≤ 14 := by omega
      simp [h1, h2, this]
  · have : ¬ (1 ≤ n ∧ n ≤ 8 ∧ ls.length ≤ 14 ∧ ∀ i, i < ls.length → LkAt n ls i) := fun g => h1 ⟨g.1, g.2.1⟩
    simp [this, h1]
end Go.Proofs.YtojdflifijpffaaGreat

namespace Go.Proofs.YtojdflifijpffaaGreat
open Go.RowKit

def relaxB (d : List Int) (x y : Nat) (c : Int) : Bool := decide (0 ≤ iz d x) && (decide (iz d y < 0) || decide (iz d x + c < iz d y))
def relax (d : List Int) (x y : Nat) (c : Int) : List Int := if relaxB d x y c then d.set y (iz d x + c) else d
def relaxL (d : List Int) (l : Lk) : List Int := relax (relax d l.a.toNat l.b.toNat l.c) l.b.toNat l.a.toNat l.c
def sweep (ls : List Lk) (d : List Int) : List Int := ls.foldl relaxL d
def dinit (n f : Nat) : List Int := (List.replicate n (-1)).set f 0
def rounds (ls : List Lk) (d : List Int) : Nat → List Int
  | 0 => d
  | k + 1 => sweep ls (rounds ls d k)
def dst (n : Nat) (ls : List Lk) (f r i : Nat) : List Int := (ls.take i).foldl relaxL (rounds ls (dinit n f) r)
def dists (n : Nat) (ls : List Lk) (f : Nat) : List Int := rounds ls (dinit n f) n

theorem iz_set (d : List Int) (y j : Nat) (v : Int) (hy : y < d.length) : iz (d.set y v) j = if j = y then v else iz d j := by
  unfold iz
  simp only [List.getD, List.getElem?_set]
  by_cases h : y = j
  · subst h; simp [hy]
  · have h' : ¬ j = y := fun e => h e.symm
    simp [h, h']
theorem relax_len (d : List Int) (x y : Nat) (c : Int) : (relax d x y c).length = d.length := by unfold relax; split <;> simp
theorem relaxL_len (d : List Int) (l : Lk) : (relaxL d l).length = d.length := by unfold relaxL; rw [relax_len, relax_len]
theorem fold_len (ls : List Lk) (d : List Int) : (ls.foldl relaxL d).length = d.length := by
  induction ls generalizing d with
  | nil => rfl
  | cons l r ih => rw [List.foldl_cons, ih, relaxL_len]
theorem rounds_len (ls : List Lk) (d : List Int) (k : Nat) : (rounds ls d k).length = d.length := by
  induction k with
  | zero => rfl
  | succ k ih => rw [rounds, sweep, fold_len, ih]
theorem dinit_len (n f : Nat) : (dinit n f).length = n := by simp [dinit]
theorem dst_len (n : Nat) (ls : List Lk) (f r i : Nat) : (dst n ls f r i).length = n := by rw [dst, fold_len, rounds_len, dinit_len]
theorem dists_len (n : Nat) (ls : List Lk) (f : Nat) : (dists n ls f).length = n := by rw [dists, rounds_len, dinit_len]
theorem dst_succ (n : Nat) (ls : List Lk) (f r i : Nat) (h : i < ls.length) : dst n ls f r (i + 1) = relaxL (dst n ls f r i) (lk ls i) := by
  unfold dst
  rw [List.take_add_one, lk_get h, List.foldl_append]
  rfl
theorem dst_end (n : Nat) (ls : List Lk) (f r : Nat) : dst n ls f r ls.length = dst n ls f (r + 1) 0 := by
  unfold dst
  rw [List.take_length]
  rfl
def Cheap (ls : List Lk) : Prop := ∀ l ∈ ls, 1 ≤ l.c ∧ l.c ≤ 20
def Bd (d : List Int) (m : Int) : Prop := ∀ j, -1 ≤ iz d j ∧ iz d j ≤ m
theorem relax_bd {d : List Int} {m : Int} (h : Bd d m) (x y : Nat) (c : Int) (hc : 1 ≤ c) (hc' : c ≤ 20) : Bd (relax d x y c) (m + 20) := by
  intro j
  unfold relax
  have hx := h x
  have hj := h j
  split
  · rename_i hb
    rcases Nat.lt_or_ge y d.length with hy | hy
    · rw [iz_set _ _ _ _ hy]
      unfold relaxB at hb
      simp only [Bool.and_eq_true, decide_eq_true_eq] at hb
      split
      · omega
      · omega
    · rw [List.set_eq_of_length_le hy]; omega
  · omega
theorem relaxL_bd {d : List Int} {m : Int} (h : Bd d m) (l : Lk) (hc : 1 ≤ l.c ∧ l.c ≤ 20) : Bd (relaxL d l) (m + 40) := by
  have := relax_bd (relax_bd h l.a.toNat l.b.toNat l.c hc.1 hc.2) l.b.toNat l.a.toNat l.c hc.1 hc.2
  intro j
  have := this j
  unfold relaxL
  omega
theorem fold_bd (ls : List Lk) {d : List Int} {m : Int} (h : Bd d m) (hc : Cheap ls) : Bd (ls.foldl relaxL d) (m + 40 * ls.length) := by
  induction ls generalizing d m with
  | nil => simpa using h
  | cons l r ih =>
    rw [List.foldl_cons]
    have := ih (relaxL_bd h l (hc l (List.mem_cons_self ..))) (fun l' h' => hc l' (List.mem_cons_of_mem _ h'))
    intro j
    have := this j
    simp only [List.length_cons]
    omega
theorem rounds_bd (ls : List Lk) {d : List Int} {m : Int} (h : Bd d m) (hc : Cheap ls) (k : Nat) (hl : ls.length ≤ 14) : Bd (rounds ls d k) (m + 560 * k) := by
  induction k with
  | zero => simpa [rounds] using h
  | succ k ih =>
    have := fold_bd ls ih hc
    intro j
    have := this j
    simp only [rounds, sweep]
    omega
theorem dinit_bd (n f : Nat) : Bd (dinit n f) 0 := by
  intro j
  unfold dinit
  have hr : ∀ j, iz (List.replicate n (-1)) j = -1 ∨ iz (List.replicate n (-1)) j = 0 := by
    intro j
    unfold iz
    simp only [List.getD, List.getElem?_replicate]
    split <;> simp
  rcases Nat.lt_or_ge f n with hf | hf
  · rw [iz_set _ _ _ _ (by simpa using hf)]
    have := hr j
    split <;> omega
  · rw [List.set_eq_of_length_le (by simpa using hf)]
    have := hr j
    omega
theorem dst_bd (n : Nat) (ls : List Lk) (f r i : Nat) (hc : Cheap ls) (hl : ls.length ≤ 14) (hr : r ≤ 8) : Bd (dst n ls f r i) 5100 := by
  have h1 := rounds_bd ls (dinit_bd n f) hc r hl
  have h2 := fold_bd (ls.take i) h1 (fun l h => hc l (List.mem_of_mem_take h))
  have h3 : (ls.take i).length ≤ 14 := by rw [List.length_take]; omega
  intro j
  have := h2 j
  unfold dst
  omega
theorem GV.cheap {n : Int} {ls : List Lk} (h : GV n ls) : Cheap ls := by
  intro l hl
  obtain ⟨i, hi, rfl⟩ := List.getElem_of_mem hl
  have := h.2.2.2 i hi
  rw [LkAt, lk_of (List.getElem?_eq_getElem hi)] at this
  omega
theorem GV.at_ {n : Int} {ls : List Lk} (h : GV n ls) {i : Nat} (hi : i < ls.length) : ∃ x y : Nat, (lk ls i).a = x ∧ (lk ls i).b = y ∧ x < y ∧ (y : Int) < n ∧ 1 ≤ (lk ls i).c ∧ (lk ls i).c ≤ 20 := by
  have := h.2.2.2 i hi
  unfold LkAt at this
  exact ⟨(lk ls i).a.toNat, (lk ls i).b.toNat, by omega, by omega, by omega, by omega, by omega, by omega⟩
end Go.Proofs.YtojdflifijpffaaGreat

namespace Go.Proofs.YtojdflifijpffaaGreat
open Go.RowKit

structure Src (d : List Int) (f : Nat) : Prop where
  zero : iz d f = 0
  low : ∀ j, -1 ≤ iz d j
  only : ∀ j, j < d.length → iz d j = 0 → j = f
theorem Src.relax {d : List Int} {f : Nat} (h : Src d f) (x y : Nat) (c : Int) (hc : 1 ≤ c) : Src (relax d x y c) f := by
  unfold Go.Proofs.YtojdflifijpffaaGreat.relax
  split
  · rename_i hb
    unfold relaxB at hb
    simp only [Bool.and_eq_true, Bool.or_eq_true, decide_eq_true_eq] at hb
    rcases Nat.lt_or_ge y d.length with hy | hy
    · have hyf : y ≠ f := by rintro rfl; have := h.zero; omega
      refine ⟨?_, fun j => ?_, fun j hj hz => ?_⟩
      · rw [iz_set _ _ _ _ hy, if_neg (fun e => hyf e.symm)]; exact h.zero
      · rw [iz_set _ _ _ _ hy]; have := h.low j; split <;> omega
      · rw [List.length_set] at hj
        rw [iz_set _ _ _ _ hy] at hz
        split at hz
        · omega
        · exact h.only j hj hz
    · rw [List.set_eq_of_length_le hy]; exact h
  · exact h
theorem Src.fold {f : Nat} (ls : List Lk) {d : List Int} (h : Src d f) (hc : Cheap ls) : Src (ls.foldl relaxL d) f := by
  induction ls generalizing d with
  | nil => exact h
  | cons l r ih =>
    have h1 := (hc l (List.mem_cons_self ..)).1
    exact ih ((h.relax _ _ _ h1).relax _ _ _ h1) (fun l' h' => hc l' (List.mem_cons_of_mem _ h'))
theorem Src.rounds {f : Nat} (ls : List Lk) {d : List Int} (h : Src d f) (hc : Cheap ls) (k : Nat) : Src (rounds ls d k) f := by
  induction k with
  | zero => exact h
  | succ k ih => exact ih.fold ls hc
theorem Src.init {n f : Nat} (hf : f < n) : Src (dinit n f) f := by
  have hr : ∀ j, j < n → iz (List.replicate n (-1)) j = -1 := by
    intro j hj
    simp [iz, List.getD, hj]
  refine ⟨?_, fun j => (dinit_bd n f j).1, fun j hj hz => ?_⟩
  · unfold dinit; rw [iz_set _ _ _ _ (by simpa using hf), if_pos rfl]
  · rw [dinit_len] at hj
    unfold dinit at hz
    rw [iz_set _ _ _ _ (by simpa using hf)] at hz
    split at hz
    · assumption
    · rw [hr j hj] at hz; omega
theorem dists_src {n f : Nat} {ls : List Lk} (hc : Cheap ls) (hf : f < n) : Src (dists n ls f) f := (Src.init hf).rounds ls hc n
theorem dists_low {n f : Nat} {ls : List Lk} (hc : Cheap ls) (hf : f < n) (j : Nat) : -1 ≤ iz (dists n ls f) j := (dists_src hc hf).low j
end Go.Proofs.YtojdflifijpffaaGreat

namespace Go.Proofs.YtojdflifijpffaaGreat
open Go.RowKit

def Adj (ls : List Lk) (x y : Nat) (c : Int) : Prop := ∃ l, l ∈ ls ∧ l.c = c ∧ (l.a = x ∧ l.b = y ∨ l.a = y ∧ l.b = x)
theorem Adj.symm {ls : List Lk} {x y : Nat} {c : Int} (h : Adj ls x y c) : Adj ls y x c := by
  obtain ⟨l, h1, h2, h3⟩ := h
  exact ⟨l, h1, h2, h3.symm⟩
inductive Wk (ls : List Lk) (u : Nat) : Nat → Nat → Int → Prop
  | nil : Wk ls u 0 u 0
  | step {k x y : Nat} {s c : Int} : Wk ls u k x s → Adj ls x y c → Wk ls u (k + 1) y (s + c)
theorem Wk.append {ls : List Lk} {u v : Nat} {k : Nat} {s : Int} (h : Wk ls u k v s) {m w : Nat} {t : Int} (h' : Wk ls v m w t) : Wk ls u (k + m) w (s + t) := by
  induction h' with
  | nil => simpa using h
  | step _ ha ih => rw [← Int.add_assoc]; exact ih.step ha
theorem Wk.one {ls : List Lk} {x y : Nat} {c : Int} (h : Adj ls x y c) : Wk ls x 1 y c := by simpa using Wk.nil.step h
theorem Wk.symm {ls : List Lk} {u v k : Nat} {s : Int} (h : Wk ls u k v s) : Wk ls v k u s := by
  induction h with
  | nil => exact .nil
  | step _ ha ih =>
    have := (Wk.one ha.symm).append ih
    rwa [Nat.add_comm, Int.add_comm] at this
theorem Wk.mono {ls ls' : List Lk} (hs : ∀ x y c, Adj ls x y c → Adj ls' x y c) {u v k : Nat} {s : Int} (h : Wk ls u k v s) : Wk ls' u k v s := by
  induction h with
  | nil => exact .nil
  | step _ ha ih => exact ih.step (hs _ _ _ ha)
theorem Wk.cost {ls : List Lk} (hc : Cheap ls) {u v k : Nat} {s : Int} (h : Wk ls u k v s) : (k : Int) ≤ s := by
  induction h with
  | nil => simp
  | step _ ha ih =>
    obtain ⟨l, h1, h2, _⟩ := ha
    have := (hc l h1).1
    omega
theorem Wk.path {ls : List Lk} {u v k : Nat} {s : Int} (h : Wk ls u k v s) : ∃ (g : Nat → Nat) (t : Nat → Int), g 0 = u ∧ t 0 = 0 ∧ g k = v ∧ t k = s ∧ ∀ i, i < k → Adj ls (g i) (g (i + 1)) (t (i + 1) - t i) := by
  induction h with
  | nil => exact ⟨fun _ => u, fun _ => 0, rfl, rfl, rfl, rfl, fun i hi => by omega⟩
  | @step k x y s c _ ha ih =>
    obtain ⟨g, t, g0, t0, gk, tk, hs⟩ := ih
    refine ⟨fun i => if i ≤ k then g i else y, fun i => if i ≤ k then t i else s + c, by simp [g0], by simp [t0], by simp; intro h; omega, by simp; intro h; omega, fun i hi => ?_⟩
    by_cases e : i < k
    · have h1 : i ≤ k := by omega
      have h2 : i + 1 ≤ k := by omega
      simpa [h1, h2] using hs i e
    · obtain rfl : i = k := by omega
      have h2 : ¬ i + 1 ≤ i := by omega
      simp only [Nat.le_refl, if_true, h2, if_false, gk, tk]
      rwa [show s + c - s = c by omega]
theorem Wk.between {ls : List Lk} {g : Nat → Nat} {t : Nat → Int} {i : Nat} : ∀ m : Nat, (∀ j, i ≤ j → j < i + m → Adj ls (g j) (g (j + 1)) (t (j + 1) - t j)) → Wk ls (g i) m (g (i + m)) (t (i + m) - t i)
  | 0, _ => by simpa using Wk.nil
  | m + 1, h => by
    have := (Wk.between m (fun j h1 h2 => h j h1 (by omega))).step (h (i + m) (by omega) (by omega))
    rwa [show t (i + m) - t i + (t (i + m + 1) - t (i + m)) = t (i + (m + 1)) - t i by rw [← Nat.add_assoc]; omega] at this
theorem pigeon : ∀ (n : Nat) (g : Nat → Nat), (∀ i, i ≤ n → g i < n) → ∃ i j, i < j ∧ j ≤ n ∧ g i = g j
  | 0, g, h => by have := h 0 (Nat.le_refl _); omega
  | n + 1, g, h => by
    by_cases e : ∃ i, i ≤ n ∧ g i = g (n + 1)
    · obtain ⟨i, hi, he⟩ := e
      exact ⟨i, n + 1, by omega, Nat.le_refl _, he⟩
    · have hne : ∀ i, i ≤ n → g i ≠ g (n + 1) := fun i hi he => e ⟨i, hi, he⟩
      obtain ⟨i, j, h1, h2, h3⟩ := pigeon n (fun i => if g (n + 1) < g i then g i - 1 else g i) (fun i hi => by
        have a := h i (by omega)
        have b := h (n + 1) (Nat.le_refl _)
        have c := hne i hi
        show (if g (n + 1) < g i then g i - 1 else g i) < n
        split <;> omega)
      refine ⟨i, j, h1, by omega, ?_⟩
      have a := hne i (by omega)
      have b := hne j h2
      have h3 : (if g (n + 1) < g i then g i - 1 else g i) = (if g (n + 1) < g j then g j - 1 else g j) := h3
      split at h3 <;> split at h3 <;> omega
def Ends (n : Nat) (ls : List Lk) : Prop := ∀ l ∈ ls, ∃ x y : Nat, l.a = x ∧ l.b = y ∧ x < n ∧ y < n
theorem GV.ends {n : Nat} {ls : List Lk} (h : GV n ls) : Ends n ls := by
  intro l hl
  obtain ⟨i, hi, rfl⟩ := List.getElem_of_mem hl
  have := h.at_ hi
  rw [lk_of (List.getElem?_eq_getElem hi)] at this
  obtain ⟨x, y, h1, h2, h3, h4, _⟩ := this
  exact ⟨x, y, h1, h2, by omega, by omega⟩
theorem Adj.lt {n : Nat} {ls : List Lk} (he : Ends n ls) {x y : Nat} {c : Int} (h : Adj ls x y c) : x < n ∧ y < n := by
  obtain ⟨l, h1, _, h3⟩ := h
  obtain ⟨a, b, ha, hb, ha', hb'⟩ := he l h1
  rcases h3 with ⟨e1, e2⟩ | ⟨e1, e2⟩ <;> omega
theorem Wk.short {n : Nat} {ls : List Lk} (he : Ends n ls) (hc : Cheap ls) : ∀ (k : Nat) {u v : Nat} {s : Int}, Wk ls u k v s → u < n → ∃ k' s', k' < n ∧ s' ≤ s ∧ Wk ls u k' v s' := by
  intro k
  induction k using Nat.strongRecOn with
  | ind k ih =>
    intro u v s h hu
    by_cases hk : k < n
    · exact ⟨k, s, hk, Int.le_refl _, h⟩
    · obtain ⟨g, t, g0, t0, gk, tk, hs⟩ := h.path
      obtain ⟨i, j, h1, h2, h3⟩ := pigeon n g (fun i hi => by
        rcases Nat.eq_zero_or_pos i with e | e
        · rw [e, g0]; exact hu
        · have := (hs (i - 1) (by omega)).lt he
          rw [show i - 1 + 1 = i by omega] at this
          exact this.2)
      have w1 := Wk.between (ls := ls) (g := g) (t := t) (i := 0) i (fun m _ hm => hs m (by omega))
      have w2 := Wk.between (ls := ls) (g := g) (t := t) (i := i) (j - i) (fun m _ hm => hs m (by omega))
      have w3 := Wk.between (ls := ls) (g := g) (t := t) (i := j) (k - j) (fun m _ hm => hs m (by omega))
      rw [show i + (j - i) = j by omega] at w2
      rw [show j + (k - j) = k by omega, gk, tk, ← h3] at w3
      rw [Nat.zero_add, g0, t0] at w1
      have c2 := w2.cost hc
      obtain ⟨k', s', a, b, c⟩ := ih (i + (k - j)) (by omega) (w1.append w3) hu
      exact ⟨k', s', a, by omega, c⟩

def Snd (ls : List Lk) (f : Nat) (d : List Int) : Prop := ∀ v, v < d.length → 0 ≤ iz d v → ∃ k, Wk ls f k v (iz d v)
theorem Snd.relax {ls : List Lk} {f : Nat} {d : List Int} (h : Snd ls f d) {x y : Nat} {c : Int} (hx : x < d.length) (ha : Adj ls x y c) : Snd ls f (relax d x y c) := by
  unfold Go.Proofs.YtojdflifijpffaaGreat.relax
  split
  · rename_i hb
    unfold relaxB at hb
    simp only [Bool.and_eq_true, decide_eq_true_eq] at hb
    intro v hv hz
    rw [List.length_set] at hv
    rcases Nat.lt_or_ge y d.length with hy | hy
    · rw [iz_set _ _ _ _ hy] at hz ⊢
      split
      · rename_i e; subst e
        obtain ⟨k, hw⟩ := h x hx hb.1
        exact ⟨k + 1, hw.step ha⟩
      · rename_i e
        rw [if_neg e] at hz
        exact h v hv hz
    · rw [List.set_eq_of_length_le hy] at hz ⊢
      exact h v hv hz
  · exact h
theorem Snd.fold {ls : List Lk} {f n : Nat} (he : Ends n ls) : ∀ (ms : List Lk) {d : List Int}, (∀ l ∈ ms, l ∈ ls) → d.length = n → Snd ls f d → Snd ls f (ms.foldl relaxL d)
  | [], _, _, _, h => h
  | l :: r, d, hm, hl, h => by
    obtain ⟨x, y, hx, hy, hxn, hyn⟩ := he l (hm l (List.mem_cons_self ..))
    have a1 : Adj ls x y l.c := ⟨l, hm l (List.mem_cons_self ..), rfl, .inl ⟨hx, hy⟩⟩
    refine Snd.fold he r (fun l' h' => hm l' (List.mem_cons_of_mem _ h')) (by rw [relaxL_len]; exact hl) ?_
    unfold relaxL
    rw [hx, hy, Int.toNat_natCast, Int.toNat_natCast]
    exact (h.relax (by omega) a1).relax (by rw [relax_len]; omega) a1.symm
theorem Snd.rounds {ls : List Lk} {f n : Nat} (he : Ends n ls) {d : List Int} (hl : d.length = n) (h : Snd ls f d) (k : Nat) : Snd ls f (rounds ls d k) := by
  induction k with
  | zero => exact h
  | succ k ih => exact Snd.fold he ls (fun l h => h) (by rw [rounds_len]; exact hl) ih
theorem Snd.init {ls : List Lk} {f n : Nat} (hf : f < n) : Snd ls f (dinit n f) := by
  intro v hv hz
  rw [dinit_len] at hv
  unfold dinit at hz ⊢
  rw [iz_set _ _ _ _ (by simpa using hf)] at hz ⊢
  by_cases e : v = f
  · subst e; rw [if_pos rfl]; exact ⟨0, .nil⟩
  · rw [if_neg e] at hz
    simp [iz, List.getD, hv] at hz
def Le (d' d : List Int) : Prop := ∀ v, 0 ≤ iz d v → 0 ≤ iz d' v ∧ iz d' v ≤ iz d v
theorem Le.refl (d : List Int) : Le d d := fun _ h => ⟨h, Int.le_refl _⟩
theorem Le.trans {a b c : List Int} (h : Le a b) (k : Le b c) : Le a c := fun v hv => by
  have h1 := k v hv
  have h2 := h v h1.1
  exact ⟨h2.1, by omega⟩
theorem Le.relax (d : List Int) (x y : Nat) (c : Int) (hc : 0 ≤ c) : Le (relax d x y c) d := by
  unfold Go.Proofs.YtojdflifijpffaaGreat.relax
  split
  · rename_i hb
    unfold relaxB at hb
    simp only [Bool.and_eq_true, Bool.or_eq_true, decide_eq_true_eq] at hb
    intro v hv
    rcases Nat.lt_or_ge y d.length with hy | hy
    · rw [iz_set _ _ _ _ hy]
      split
      · rename_i e; subst e; omega
      · exact ⟨hv, Int.le_refl _⟩
    · rw [List.set_eq_of_length_le hy]; exact ⟨hv, Int.le_refl _⟩
  · exact Le.refl d
theorem relax_at (d : List Int) (x y : Nat) (c : Int) (hy : y < d.length) (hx : 0 ≤ iz d x) (hc : 0 ≤ c) : 0 ≤ iz (relax d x y c) y ∧ iz (relax d x y c) y ≤ iz d x + c := by
  unfold relax
  split
  · rw [iz_set _ _ _ _ hy, if_pos rfl]; omega
  · rename_i hb
    unfold relaxB at hb
    simp only [Bool.and_eq_true, Bool.or_eq_true, decide_eq_true_eq] at hb
    omega
theorem Le.link (d : List Int) (l : Lk) (hc : 0 ≤ l.c) : Le (relaxL d l) d := (Le.relax _ _ _ _ hc).trans (Le.relax _ _ _ _ hc)
theorem Le.fold (ms : List Lk) (hc : Cheap ms) : ∀ d, Le (ms.foldl relaxL d) d := by
  induction ms with
  | nil => exact Le.refl
  | cons l r ih => exact fun d => (ih (fun l' h' => hc l' (List.mem_cons_of_mem _ h')) _).trans (Le.link d l (by have := (hc l (List.mem_cons_self ..)).1; omega))
theorem sweep_at {n : Nat} (ms : List Lk) (he : Ends n ms) (hc : Cheap ms) {x y : Nat} {c : Int} (ha : Adj ms x y c) : ∀ d : List Int, d.length = n → 0 ≤ iz d x →
    0 ≤ iz (ms.foldl relaxL d) y ∧ iz (ms.foldl relaxL d) y ≤ iz d x + c := by
  induction ms with
  | nil => obtain ⟨l, h, _⟩ := ha; simp at h
  | cons l r ih =>
    intro d hl hx
    have hcl := hc l (List.mem_cons_self ..)
    obtain ⟨m, h1, h2, h3⟩ := ha
    rw [List.foldl_cons]
    have hle := Le.link d l (by omega)
    rcases List.mem_cons.1 h1 with e | e
    · subst e
      obtain ⟨a, b, e1, e2, han, hbn⟩ := he m (List.mem_cons_self ..)
      have key : 0 ≤ iz (relaxL d m) y ∧ iz (relaxL d m) y ≤ iz d x + c := by
        unfold relaxL
        rw [e1, e2, Int.toNat_natCast, Int.toNat_natCast]
        rcases h3 with ⟨h4, h5⟩ | ⟨h4, h5⟩
        · obtain rfl : a = x := by omega
          obtain rfl : b = y := by omega
          have p := relax_at d a b m.c (by omega) hx (by omega)
          have q := Le.relax (relax d a b m.c) b a m.c (by omega) b p.1
          omega
        · obtain rfl : a = y := by omega
          obtain rfl : b = x := by omega
          have p := Le.relax d a b m.c (by omega) b hx
          have q := relax_at (relax d a b m.c) b a m.c (by rw [relax_len]; omega) p.1 (by omega)
          omega
      have := Le.fold r (fun l' h' => hc l' (List.mem_cons_of_mem _ h')) (relaxL d m) y key.1
      omega
    · have hx' := hle x hx
      have := ih (fun l' h' => he l' (List.mem_cons_of_mem _ h')) (fun l' h' => hc l' (List.mem_cons_of_mem _ h')) ⟨m, e, h2, h3⟩ (relaxL d l) (by rw [relaxL_len]; exact hl) hx'.1
      omega
theorem rounds_reach {n f : Nat} {ls : List Lk} (he : Ends n ls) (hc : Cheap ls) (hf : f < n) {k v : Nat} {s : Int} (h : Wk ls f k v s) : ∀ r, k ≤ r → 0 ≤ iz (rounds ls (dinit n f) r) v ∧ iz (rounds ls (dinit n f) r) v ≤ s := by
  induction h with
  | nil =>
    intro r _
    have := ((Src.init hf).rounds ls hc r).zero
    omega
  | @step k x y s c hw ha ih =>
    intro r hr
    obtain ⟨r', rfl⟩ : ∃ r', r = r' + 1 := ⟨r - 1, by omega⟩
    have h1 := ih r' (by omega)
    have := sweep_at ls he hc ha (rounds ls (dinit n f) r') (by rw [rounds_len, dinit_len]) h1.1
    show 0 ≤ iz (sweep ls _) y ∧ iz (sweep ls _) y ≤ s + c
    unfold sweep
    omega
theorem dists_le {n f : Nat} {ls : List Lk} (h : GV n ls) (hf : f < n) {k v : Nat} {s : Int} (hw : Wk ls f k v s) : 0 ≤ iz (dists n ls f) v ∧ iz (dists n ls f) v ≤ s := by
  obtain ⟨k', s', hk', hs', hw'⟩ := Wk.short h.ends h.cheap k hw hf
  have := rounds_reach h.ends h.cheap hf hw' n (by omega)
  unfold dists
  omega
theorem dists_walk {n f : Nat} {ls : List Lk} (h : GV n ls) (hf : f < n) {v : Nat} (hv : v < n) (hz : 0 ≤ iz (dists n ls f) v) : ∃ k, Wk ls f k v (iz (dists n ls f) v) :=
  (Snd.rounds h.ends (dinit_len n f) (Snd.init hf) n) v (by rw [rounds_len, dinit_len]; exact hv) hz
end Go.Proofs.YtojdflifijpffaaGreat

namespace Go.Proofs.YtojdflifijpffaaGreat
open Go.RowKit

def Sat {α : Type} (o : Option α) (Q : α → Prop) : Prop := ∃ r, o = some r ∧ Q r
theorem Sat.some {α : Type} {x : α} {Q : α → Prop} (h : Q x) : Sat (some x) Q := ⟨x, rfl, h⟩
theorem Sat.mono {α : Type} {o : Option α} {Q R : α → Prop} (h : Sat o Q) (k : ∀ x, Q x → R x) : Sat o R := by
  obtain ⟨r, h1, h2⟩ := h; exact ⟨r, h1, k r h2⟩
theorem Sat.bind {α β : Type} {o : Option α} {f : α → Option β} {Q : β → Prop} (h : Sat o fun x => Sat (f x) Q) : Sat (o.bind f) Q := by
  obtain ⟨x, rfl, y, h1, h2⟩ := h; exact ⟨y, h1, h2⟩
theorem Sat.bnd {α β : Type} {o : Option α} {R : α → Prop} {f : α → Option β} {Q : β → Prop} (h : Sat o R) (k : ∀ x, R x → Sat (f x) Q) : Sat (o.bind f) Q := Sat.bind (h.mono k)
theorem Sat.ite {α : Type} {c : Bool} {a b : Option α} {Q : α → Prop} (h : c = true → Sat a Q) (k : c = false → Sat b Q) : Sat (bif c then a else b) Q := by
  cases c with
  | true => exact h rfl
  | false => exact k rfl
theorem Sat.gd {α : Type} {c : Bool} {a b : Option α} {Q : α → Prop} (hc : c = true) (h : Sat a Q) : Sat (bif c then a else b) Q := by subst hc; exact h
theorem Sat.no {α : Type} {c : Bool} {a b : Option α} {Q : α → Prop} (hc : c = false) (h : Sat b Q) : Sat (bif c then a else b) Q := by subst hc; exact h
theorem Sat.out {α : Type} {o : Option α} {x : α} (h : Sat o (· = x)) : o = Option.some x := by obtain ⟨r, h1, h2⟩ := h; rw [h1, h2]
theorem Sat.loop {σ τ : Type} {B : σ → Option (σ ⊕ τ)} (I : σ → Prop) (μ : σ → Nat) {Q : τ → Prop} (hB : ∀ s, I s → Sat (B s) fun r => match r with | .inl s' => I s' ∧ μ s' < μ s | .inr x => Q x) : ∀ (n : Nat) (s : σ), μ s < n → I s → Sat (lp B n s) Q
  | 0, _, h, _ => by omega
  | n + 1, s, h, hi => by
    unfold Go.Proofs.YtojdflifijpffaaGreat.lp
    refine Sat.bnd (hB s hi) fun r hr => ?_
    cases r with
    | inl s' => exact Sat.loop I μ hB n s' (by have := hr.2; omega) hr.1
    | inr x => exact .some hr
theorem Sat.count {σ τ : Type} {B : σ → Option (σ ⊕ τ)} (n : Nat) (I : Nat → σ → Prop) {Q : τ → Prop} (hB : ∀ k s, k ≤ n → I k s → Sat (B s) fun r => match r with | .inl s' => k < n ∧ I (k + 1) s' | .inr x => Q x) {m : Nat} {s : σ} {k : Nat} (hk : k ≤ n) (hm : n - k < m) (h : I k s) : Sat (lp B m s) Q := by
  induction m generalizing s k with
  | zero => omega
  | succ m ih =>
    unfold Go.Proofs.YtojdflifijpffaaGreat.lp
    refine Sat.bnd (hB k s hk h) fun r hr => ?_
    cases r with
    | inl s' => exact ih (k := k + 1) (by have := hr.1; omega) (by omega) hr.2
    | inr x => exact .some hr
theorem w64 {x : Int} (h1 : -9223372036854775808 ≤ x) (h2 : x ≤ 9223372036854775807) : wrap64 x = x := IntWalk.wrap64_in x (by omega)
theorem wI {x : Int} (h1 : -9223372036854775808 ≤ x) (h2 : x ≤ 9223372036854775807) : wrapK .i64 x = x := w64 h1 h2
theorem inR_t {z : Int} {n : Nat} (h1 : 0 ≤ z) (h2 : z < n) : inR z n = true := by simp [inR, h1, h2]
theorem bnd2_t {lo hi : Int} {n : Nat} (h1 : 0 ≤ lo) (h2 : lo ≤ hi) (h3 : hi ≤ n) : bnd2 lo hi n = true := by simp [bnd2, h1, h2, h3]
end Go.Proofs.YtojdflifijpffaaGreat

namespace Go.Proofs.YtojdflifijpffaaGreat
open Go.RowKit

def Asc (zs : List Int) (n : Int) : Prop := ∀ i, i < zs.length → 0 ≤ iz zs i ∧ iz zs i < n ∧ (0 < i → iz zs (i - 1) < iz zs i)
instance (zs : List Int) (n : Int) : Decidable (Asc zs n) := by unfold Asc; infer_instance
def asc (zs : List Int) (n : Int) : Bool := decide (Asc zs n)
theorem Asc.le {zs : List Int} {n : Int} (h : Asc zs n) {i : Nat} (j : Nat) (hj : i + j < zs.length) : iz zs i ≤ iz zs (i + j) := by
  induction j with
  | zero => exact Int.le_refl _
  | succ j ih =>
    have h1 := (h (i + (j + 1)) hj).2.2 (by omega)
    have h2 := ih (by omega)
    rw [show i + (j + 1) - 1 = i + j by omega] at h1
    omega
def bv (n : Int) (ls : List Lk) (bs : List Int) : Bool := gv n ls && decide (0 < bs.length) && asc bs n
def summL (d bs : List Int) (k : Nat) : List Int := (bs.take k).map fun b => iz d b.toNat
def summ (n : Int) (ls : List Lk) (bs : List Int) (t : Int) : List Int :=
  if bv n ls bs && inB t 0 (n - 1) then summL (dists n.toNat ls t.toNat) bs bs.length else []
def routeOk (na : Int) (la : List Lk) (nb : Int) (lb : List Lk) (bs : List Int) (f t : Int) : Bool := (bv na la bs && inB f 0 (na - 1)) && (bv nb lb bs && inB t 0 (nb - 1))
structure ROk (na nb f t : Nat) (la lb : List Lk) (bs : List Int) : Prop where
  va : gv na la = true
  vb : gv nb lb = true
  ga : GV na la
  gb : GV nb lb
  aa : Asc bs na
  ab : Asc bs nb
  pos : 0 < bs.length
  hf : f < na
  ht : t < nb
  one : summ na la bs f = summL (dists na la f) bs bs.length
  two : summ nb lb bs t = summL (dists nb lb t) bs bs.length
theorem ROk.ok {na nb f t : Nat} {la lb : List Lk} {bs : List Int} (h : ROk na nb f t la lb bs) : routeOk na la nb lb bs f t = true := by
  have i1 : inB (f : Int) 0 ((na : Int) - 1) = true := inB_mk (by have := h.hf; omega)
  have i2 : inB (t : Int) 0 ((nb : Int) - 1) = true := inB_mk (by have := h.ht; omega)
  simp [routeOk, bv, h.va, h.vb, i1, i2, h.pos, asc, h.aa, h.ab]
def hitB (x y : Int) (l : Lk) : Bool := decide (l.a = x) && decide (l.b = y)
def lof (ls : List Lk) (a b : Int) : Int := if ls.findIdx (hitB (min a b) (max a b)) < ls.length then ls.findIdx (hitB (min a b) (max a b)) else -1
theorem hit_lk {ls : List Lk} {i : Nat} (h : i < ls.length) : lk ls i = ls[i] := by simp [lk, List.getD, List.getElem?_eq_getElem h]
theorem lof_hit {ls : List Lk} {a b : Int} {k : Nat} (hk : k < ls.length) (h1 : hitB (min a b) (max a b) (lk ls k) = true) (h : ∀ i, i < k → hitB (min a b) (max a b) (lk ls i) = false) : lof ls a b = k := by
  have e : ls.findIdx (hitB (min a b) (max a b)) = k := (List.findIdx_eq hk).2 ⟨by rw [← hit_lk hk]; exact h1, fun j hj => by rw [← hit_lk (by omega)]; exact h j hj⟩
  unfold lof
  rw [e, if_pos hk]
theorem lof_miss {ls : List Lk} {a b : Int} (h : ∀ i, i < ls.length → hitB (min a b) (max a b) (lk ls i) = false) : lof ls a b = -1 := by
  have e : ls.findIdx (hitB (min a b) (max a b)) = ls.length := List.findIdx_eq_length_of_false fun x hx => by
    obtain ⟨i, hi, rfl⟩ := List.mem_iff_getElem.1 hx
    rw [← hit_lk hi]; exact h i hi
  unfold lof
  rw [e, if_neg (by omega)]
theorem hit_t {x y : Int} {l : Lk} (h : hitB x y l = true) : l.a = x ∧ l.b = y := by simpa [hitB] using h
theorem lof_cases (ls : List Lk) (a b : Int) : (lof ls a b = -1 ∧ ∀ i, i < ls.length → hitB (min a b) (max a b) (lk ls i) = false) ∨ ∃ k : Nat, lof ls a b = k ∧ k < ls.length ∧ (lk ls k).a = min a b ∧ (lk ls k).b = max a b := by
  by_cases h : ls.findIdx (hitB (min a b) (max a b)) < ls.length
  · right
    refine ⟨ls.findIdx (hitB (min a b) (max a b)), by unfold lof; rw [if_pos h], h, ?_⟩
    have := (List.findIdx_getElem (w := h))
    rw [← hit_lk h] at this
    exact hit_t this
  · left
    refine ⟨by unfold lof; rw [if_neg h], fun i hi => ?_⟩
    have hle := List.findIdx_le_length (p := hitB (min a b) (max a b)) (xs := ls)
    have := List.not_of_lt_findIdx (p := hitB (min a b) (max a b)) (xs := ls) (i := i) (by omega)
    rw [hit_lk hi]
    simpa using this
theorem hit_no {x y : Int} {l : Lk} (h : ¬ (l.a = x ∧ l.b = y)) : hitB x y l = false := by
  unfold hitB
  rw [Bool.and_eq_false_iff]
  by_cases h1 : l.a = x
  · right; exact decide_eq_false fun e => h ⟨h1, e⟩
  · left; exact decide_eq_false h1
theorem hit_yes {x y : Int} {l : Lk} (h1 : l.a = x) (h2 : l.b = y) : hitB x y l = true := by simp [hitB, h1, h2]
def otherE (l : Lk) (n : Int) : Int := if n = l.a then l.b else if n = l.b then l.a else 0
def isEnd (l : Lk) (n : Int) : Bool := decide (n = l.a ∨ n = l.b)
def others (ls : List Lk) (n : Int) (k : Nat) : List Int := ((ls.take k).filter (fun l => isEnd l n)).map (fun l => otherE l n)
theorem others_succ (ls : List Lk) (n : Int) (k : Nat) (h : k < ls.length) : others ls n (k + 1) = if isEnd (lk ls k) n then others ls n k ++ [otherE (lk ls k) n] else others ls n k := by
  have e : ls[k]? = some (lk ls k) := lk_get h
  unfold others
  rw [List.take_add_one, e]
  cases hq : isEnd (lk ls k) n <;> simp [hq]
theorem others_len (ls : List Lk) (n : Int) (k : Nat) : (others ls n k).length ≤ k := by
  unfold others
  rw [List.length_map]
  exact Nat.le_trans (List.length_filter_le _ _) (List.length_take_le _ _)
def nbS (ls : List Lk) (m : Int) (k : Nat) : List Int := ((List.range k).filter (fun x : Nat => decide (0 ≤ lof ls m (x : Int)))).map fun x : Nat => (x : Int)
theorem nbS_succ (ls : List Lk) (m : Int) (k : Nat) : nbS ls m (k + 1) = if 0 ≤ lof ls m k then nbS ls m k ++ [(k : Int)] else nbS ls m k := by
  unfold nbS
  rw [List.range_succ, List.filter_append, List.map_append]
  by_cases h : 0 ≤ lof ls m k <;> simp [h]
theorem nbS_len (ls : List Lk) (m : Int) (k : Nat) : (nbS ls m k).length ≤ k := by
  unfold nbS
  rw [List.length_map]
  exact Nat.le_trans (List.length_filter_le _ _) (by simp)
def pk (la lb : List Lk) (n m : Int) : List Lk :=
  if 0 ≤ lof la n m ∧ (lof lb n m < 0 ∨ (lk la (lof la n m).toNat).c ≤ (lk lb (lof lb n m).toNat).c) then [⟨n, m, (lk la (lof la n m).toNat).c⟩]
  else if 0 ≤ lof lb n m then [⟨n, m, (lk lb (lof lb n m).toNat).c⟩] else []
end Go.Proofs.YtojdflifijpffaaGreat

namespace Go.Proofs.YtojdflifijpffaaGreat
open Go.RowKit
set_option linter.unusedSimpArgs false
set_option linter.unusedVariables false

def okL (n : Int) (l : Lk) : Prop := 0 ≤ l.a ∧ l.a < l.b ∧ l.b < n ∧ 1 ≤ l.c ∧ l.c ≤ 20
def lxl (l m : Lk) : Prop := l.a < m.a ∨ l.a = m.a ∧ l.b < m.b
theorem lxl.trans {a b c : Lk} (h : lxl a b) (k : lxl b c) : lxl a c := by unfold lxl at *; omega
theorem lk_mem {ls : List Lk} {i : Nat} (h : i < ls.length) : lk ls i ∈ ls := List.mem_of_getElem? (lk_get h)
theorem mem_lk {ls : List Lk} {l : Lk} (h : l ∈ ls) : ∃ i, i < ls.length ∧ lk ls i = l := by
  obtain ⟨i, hi, rfl⟩ := List.getElem_of_mem h
  exact ⟨i, hi, hit_lk hi⟩
theorem lkAt_lt {n : Int} {ls : List Lk} (h : ∀ i, i < ls.length → LkAt n ls i) : ∀ (d i : Nat), i + d + 1 < ls.length → lxl (lk ls i) (lk ls (i + d + 1))
  | 0, i, hi => by
    have := (h (i + 1) hi).2.2.2.2.2 (by omega)
    simpa [lxl] using this
  | d + 1, i, hi => by
    have h1 := lkAt_lt h d i (by omega)
    have h2 := (h (i + (d + 1) + 1) hi).2.2.2.2.2 (by omega)
    rw [Nat.add_sub_cancel] at h2
    exact h1.trans h2
theorem gv_pw {n : Int} {ls : List Lk} : GV n ls ↔ 1 ≤ n ∧ n ≤ 8 ∧ ls.length ≤ 14 ∧ (∀ l ∈ ls, okL n l) ∧ ls.Pairwise lxl := by
  constructor
  · rintro ⟨h1, h2, h3, h⟩
    refine ⟨h1, h2, h3, fun l hl => ?_, List.pairwise_iff_getElem.2 fun i j hi hj hij => ?_⟩
    · obtain ⟨i, hi, rfl⟩ := mem_lk hl
      have := h i hi
      unfold LkAt at this
      unfold okL
      omega
    · have := lkAt_lt h (j - i - 1) i (by omega)
      rw [show i + (j - i - 1) + 1 = j by omega, hit_lk hi, hit_lk hj] at this
      exact this
  · rintro ⟨h1, h2, h3, h, hp⟩
    refine ⟨h1, h2, h3, fun i hi => ?_⟩
    have h4 := h _ (lk_mem hi)
    unfold okL at h4
    refine ⟨h4.1, h4.2.1, h4.2.2.1, h4.2.2.2.1, h4.2.2.2.2, fun h0 => ?_⟩
    have := List.pairwise_iff_getElem.1 hp (i - 1) i (by omega) hi (by omega)
    rw [← hit_lk, ← hit_lk] at this
    exact this
theorem GV.ok {n : Int} {ls : List Lk} (h : GV n ls) {l : Lk} (hl : l ∈ ls) : okL n l := (gv_pw.1 h).2.2.2.1 l hl
theorem pw_ext : ∀ {l l' : List Lk}, l.Pairwise lxl → l'.Pairwise lxl → (∀ x, x ∈ l ↔ x ∈ l') → l = l'
  | [], [], _, _, _ => rfl
  | [], y :: s, _, _, h => by have := (h y).2 (List.mem_cons_self ..); simp at this
  | x :: r, [], _, _, h => by have := (h x).1 (List.mem_cons_self ..); simp at this
  | x :: r, y :: s, h1, h2, h => by
    have h1 := List.pairwise_cons.1 h1
    have h2 := List.pairwise_cons.1 h2
    have e : x = y := by
      rcases List.mem_cons.1 ((h x).1 (List.mem_cons_self ..)) with e | hx
      · exact e
      · rcases List.mem_cons.1 ((h y).2 (List.mem_cons_self ..)) with e | hy
        · exact e.symm
        · have q1 := h1.1 y hy
          have q2 := h2.1 x hx
          unfold lxl at q1 q2
          omega
    subst e
    have : r = s := pw_ext h1.2 h2.2 fun z => by
      constructor
      · intro hz
        rcases List.mem_cons.1 ((h z).1 (List.mem_cons_of_mem _ hz)) with e | hz'
        · subst e
          have := h1.1 z hz
          unfold lxl at this
          omega
        · exact hz'
      · intro hz
        rcases List.mem_cons.1 ((h z).2 (List.mem_cons_of_mem _ hz)) with e | hz'
        · subst e
          have := h2.1 z hz
          unfold lxl at this
          omega
        · exact hz'
    rw [this]
theorem GV.ext {n m : Int} {l l' : List Lk} (h : GV n l) (h' : GV m l') (e : ∀ x, x ∈ l ↔ x ∈ l') : l = l' := pw_ext (gv_pw.1 h).2.2.2.2 (gv_pw.1 h').2.2.2.2 e
def cell (f : Nat → Nat → Option Int) (a b : Nat) : List Lk := match f a b with | some c => [⟨a, b, c⟩] | none => []
def gridR (f : Nat → Nat → Option Int) (a j : Nat) : List Lk := (List.range j).flatMap fun t => cell f a (a + 1 + t)
def gridK (f : Nat → Nat → Option Int) (N k : Nat) : List Lk := (List.range k).flatMap fun a => gridR f a (N - 1 - a)
def grid (f : Nat → Nat → Option Int) (N : Nat) : List Lk := gridK f N N
theorem gridR_succ (f : Nat → Nat → Option Int) (a j : Nat) : gridR f a (j + 1) = gridR f a j ++ cell f a (a + 1 + j) := by
  unfold gridR
  rw [List.range_succ, List.flatMap_append]
  simp
theorem gridK_succ (f : Nat → Nat → Option Int) (N k : Nat) : gridK f N (k + 1) = gridK f N k ++ gridR f k (N - 1 - k) := by
  unfold gridK
  rw [List.range_succ, List.flatMap_append]
  simp
theorem cell_len (f : Nat → Nat → Option Int) (a b : Nat) : (cell f a b).length ≤ 1 := by
  unfold cell; split <;> simp
theorem gridR_len (f : Nat → Nat → Option Int) (a j : Nat) : (gridR f a j).length ≤ j := by
  induction j with
  | zero => simp [gridR]
  | succ j ih =>
    rw [gridR_succ, List.length_append]
    have := cell_len f a (a + 1 + j)
    omega
theorem gridK_len (f : Nat → Nat → Option Int) (N k : Nat) : (gridK f N k).length ≤ k * N := by
  induction k with
  | zero => simp [gridK]
  | succ k ih =>
    rw [gridK_succ, List.length_append, Nat.succ_mul]
    have := gridR_len f k (N - 1 - k)
    omega
theorem mem_cell {f : Nat → Nat → Option Int} {a b : Nat} {l : Lk} : l ∈ cell f a b ↔ ∃ c, f a b = some c ∧ l = ⟨a, b, c⟩ := by
  unfold cell
  split
  · rename_i c h
    rw [h]
    simp
  · rename_i h
    rw [h]
    simp
theorem mem_gridR {f : Nat → Nat → Option Int} {a j : Nat} {l : Lk} : l ∈ gridR f a j ↔ ∃ b c, a < b ∧ b ≤ a + j ∧ f a b = some c ∧ l = ⟨a, b, c⟩ := by
  unfold gridR
  rw [List.mem_flatMap]
  constructor
  · rintro ⟨t, ht, hl⟩
    obtain ⟨c, h1, h2⟩ := mem_cell.1 hl
    have := List.mem_range.1 ht
    exact ⟨a + 1 + t, c, by omega, by omega, h1, h2⟩
  · rintro ⟨b, c, h1, h2, h3, h4⟩
    refine ⟨b - a - 1, List.mem_range.2 (by omega), mem_cell.2 ⟨c, ?_, ?_⟩⟩
    · rw [show a + 1 + (b - a - 1) = b by omega]; exact h3
    · rw [show a + 1 + (b - a - 1) = b by omega]; exact h4
theorem mem_gridK {f : Nat → Nat → Option Int} {N k : Nat} {l : Lk} : l ∈ gridK f N k ↔ ∃ a b c, a < k ∧ a < b ∧ b < N ∧ f a b = some c ∧ l = ⟨a, b, c⟩ := by
  unfold gridK
  rw [List.mem_flatMap]
  constructor
  · rintro ⟨a, ha, hl⟩
    obtain ⟨b, c, h1, h2, h3, h4⟩ := mem_gridR.1 hl
    have := List.mem_range.1 ha
    exact ⟨a, b, c, this, h1, by omega, h3, h4⟩
  · rintro ⟨a, b, c, h1, h2, h3, h4, h5⟩
    exact ⟨a, List.mem_range.2 h1, mem_gridR.2 ⟨b, c, h2, by omega, h4, h5⟩⟩
theorem mem_grid {f : Nat → Nat → Option Int} {N : Nat} {l : Lk} : l ∈ grid f N ↔ ∃ a b c, a < b ∧ b < N ∧ f a b = some c ∧ l = ⟨a, b, c⟩ := by
  unfold grid
  rw [mem_gridK]
  constructor
  · rintro ⟨a, b, c, h1, h2, h3, h4, h5⟩; exact ⟨a, b, c, h2, h3, h4, h5⟩
  · rintro ⟨a, b, c, h2, h3, h4, h5⟩; exact ⟨a, b, c, by omega, h2, h3, h4, h5⟩
theorem gridR_pw (f : Nat → Nat → Option Int) (a j : Nat) : (gridR f a j).Pairwise lxl := by
  unfold gridR
  rw [List.pairwise_flatMap]
  refine ⟨fun t _ => ?_, ?_⟩
  · unfold cell; split <;> simp
  · refine List.Pairwise.imp ?_ (List.pairwise_lt_range (n := j))
    intro s t hst x hx y hy
    obtain ⟨c, _, rfl⟩ := mem_cell.1 hx
    obtain ⟨c', _, rfl⟩ := mem_cell.1 hy
    exact .inr ⟨rfl, by simp only []; omega⟩
theorem grid_pw (f : Nat → Nat → Option Int) (N : Nat) : (grid f N).Pairwise lxl := by
  unfold grid gridK
  rw [List.pairwise_flatMap]
  refine ⟨fun a _ => gridR_pw f a _, ?_⟩
  refine List.Pairwise.imp ?_ (List.pairwise_lt_range (n := N))
  intro s t hst x hx y hy
  obtain ⟨b, c, _, _, _, rfl⟩ := mem_gridR.1 hx
  obtain ⟨b', c', _, _, _, rfl⟩ := mem_gridR.1 hy
  exact .inl (by simp only []; omega)
theorem grid_gv {f : Nat → Nat → Option Int} {N : Nat} (h0 : 1 ≤ N) (h8 : N ≤ 8) (hc : ∀ a b c, a < b → b < N → f a b = some c → 1 ≤ c ∧ c ≤ 20) (hl : (grid f N).length ≤ 14) : GV N (grid f N) := by
  refine gv_pw.2 ⟨by omega, by omega, hl, fun l hm => ?_, grid_pw f N⟩
  obtain ⟨a, b, c, h1, h2, h3, rfl⟩ := mem_grid.1 hm
  have := hc a b c h1 h2 h3
  exact ⟨by simp only []; omega, by simp only []; omega, by simp only []; omega, this.1, this.2⟩
def lc (ls : List Lk) (a b : Int) : Option Int := if 0 ≤ lof ls a b then some (lk ls (lof ls a b).toNat).c else none
theorem lc_some {ls : List Lk} {a b c : Int} (h : lc ls a b = some c) : (⟨min a b, max a b, c⟩ : Lk) ∈ ls := by
  unfold lc at h
  rcases lof_cases ls a b with ⟨e, _⟩ | ⟨k, e, hk, h1, h2⟩
  · rw [e] at h; simp at h
  · rw [e] at h
    rw [if_pos (by omega)] at h
    injection h with h
    rw [Int.toNat_natCast] at h
    have : (⟨min a b, max a b, c⟩ : Lk) = lk ls k := by rw [← h1, ← h2, ← h]
    rw [this]
    exact lk_mem hk
theorem lc_none {ls : List Lk} {a b : Int} (h : lc ls a b = none) : ∀ c, (⟨min a b, max a b, c⟩ : Lk) ∉ ls := by
  intro c hm
  unfold lc at h
  rcases lof_cases ls a b with ⟨e, hn⟩ | ⟨k, e, hk, h1, h2⟩
  · obtain ⟨i, hi, e2⟩ := mem_lk hm
    have := hn i hi
    rw [e2, show hitB (min a b) (max a b) ⟨min a b, max a b, c⟩ = true from hit_yes rfl rfl] at this
    cases this
  · rw [e, if_pos (by omega)] at h
    cases h
theorem pw_uniq {ls : List Lk} (h : ls.Pairwise lxl) {x y : Lk} (hx : x ∈ ls) (hy : y ∈ ls) (ha : x.a = y.a) (hb : x.b = y.b) : x = y := by
  obtain ⟨i, hi, rfl⟩ := List.getElem_of_mem hx
  obtain ⟨j, hj, rfl⟩ := List.getElem_of_mem hy
  rcases Nat.lt_trichotomy i j with h1 | h1 | h1
  · have := List.pairwise_iff_getElem.1 h i j hi hj h1
    unfold lxl at this
    omega
  · subst h1; rfl
  · have := List.pairwise_iff_getElem.1 h j i hj hi h1
    unfold lxl at this
    omega
theorem GV.pw {n : Int} {ls : List Lk} (h : GV n ls) : ls.Pairwise lxl := (gv_pw.1 h).2.2.2.2
theorem lc_iff {ls : List Lk} (h : ls.Pairwise lxl) {a b c : Int} : lc ls a b = some c ↔ (⟨min a b, max a b, c⟩ : Lk) ∈ ls := by
  constructor
  · exact lc_some
  · intro hm
    cases e : lc ls a b with
    | none => exact absurd hm (lc_none e c)
    | some c' =>
      have := pw_uniq h (lc_some e) hm rfl rfl
      injection this with _ _ e3
      rw [e3]
theorem lc_symm (ls : List Lk) (a b : Int) : lc ls a b = lc ls b a := by
  have : lof ls a b = lof ls b a := by unfold lof; rw [show min a b = min b a by omega, show max a b = max b a by omega]
  unfold lc
  rw [this]
theorem lc_mem {ls : List Lk} (h : ls.Pairwise lxl) {l : Lk} (hl : l ∈ ls) (hab : l.a ≤ l.b) : lc ls l.a l.b = some l.c := (lc_iff h).2 (by rw [show min l.a l.b = l.a by omega, show max l.a l.b = l.b by omega]; exact hl)
theorem lc_cost {n : Int} {ls : List Lk} (h : GV n ls) {a b c : Int} (e : lc ls a b = some c) : 1 ≤ c ∧ c ≤ 20 := by
  have := h.ok (lc_some e)
  exact ⟨this.2.2.2.1, this.2.2.2.2⟩
theorem lc_lof {ls : List Lk} {a b : Int} : (lc ls a b).isSome = decide (0 ≤ lof ls a b) := by
  unfold lc
  by_cases h : 0 ≤ lof ls a b <;> simp [h]
theorem lc_at {ls : List Lk} {a b c : Int} (e : lc ls a b = some c) : 0 ≤ lof ls a b ∧ lof ls a b < ls.length ∧ lk ls (lof ls a b).toNat = ⟨min a b, max a b, c⟩ := by
  unfold lc at e
  rcases lof_cases ls a b with ⟨e1, hn⟩ | ⟨k, e1, hk, h1, h2⟩
  · rw [e1] at e; simp at e
  · rw [e1, if_pos (by omega), Int.toNat_natCast] at e
    injection e with e
    rw [e1, Int.toNat_natCast]
    exact ⟨by omega, by omega, by rw [← h1, ← h2, ← e]⟩
theorem lc_no {ls : List Lk} {a b : Int} (e : lc ls a b = none) : lof ls a b = -1 := by
  unfold lc at e
  rcases lof_cases ls a b with ⟨e1, hn⟩ | ⟨k, e1, hk, h1, h2⟩
  · exact e1
  · rw [e1, if_pos (by omega)] at e; cases e
theorem GV.grid {N : Nat} {ls : List Lk} (h : GV N ls) : grid (fun a b => lc ls a b) N = ls := by
  refine pw_ext (grid_pw _ N) h.pw fun l => ?_
  rw [mem_grid]
  constructor
  · rintro ⟨a, b, c, h1, h2, h3, rfl⟩
    have := lc_some h3
    rwa [show min (a : Int) b = a by omega, show max (a : Int) b = b by omega] at this
  · intro hl
    have := h.ok hl
    unfold okL at this
    refine ⟨l.a.toNat, l.b.toNat, l.c, by omega, by omega, ?_, ?_⟩
    · rw [show ((l.a.toNat : Nat) : Int) = l.a by omega, show ((l.b.toNat : Nat) : Int) = l.b by omega]
      exact lc_mem h.pw hl (by omega)
    · rw [show ((l.a.toNat : Nat) : Int) = l.a by omega, show ((l.b.toNat : Nat) : Int) = l.b by omega]
end Go.Proofs.YtojdflifijpffaaGreat
end
section
namespace Go.Proofs.YtojdflifijpffaaGreat
open Go.RowKit
set_option linter.unusedSimpArgs false
set_option linter.unusedVariables false

theorem at_int (zs : List Int) (i : Nat) : at! .int zs i = iz zs i := by
  induction zs generalizing i with
  | nil => rfl
  | cons z r ih => cases i with
    | zero => rfl
    | succ i => exact (ih i).trans (by simp [iz])
theorem at_lk (ls : List Lk) (i : Nat) : at! .lk ls i = lk ls i := by
  induction ls generalizing i with
  | nil => rfl
  | cons z r ih => cases i with
    | zero => rfl
    | succ i => exact (ih i).trans (by simp [lk])
abbrev Fits {α : Type} (l : List α) : Prop := l.length ≤ 4611686018427387904
theorem zFY (a b c : Int) : zLo (a, b, c, ()) = some (inB a b c, ()) := by
  unfold zLo inB
  by_cases h : b ≤ a <;> simp [h]
theorem e_l6In (a b c : Int) : zMi (a, b, c, ()) = some (inB a b c, ()) := by
  unfold zMi inB
  by_cases h : b ≤ a <;> simp [h]
theorem fuel_lt {n : Nat} (h : n ≤ 4611686018427387904) : n < fuel := by unfold fuel; omega
theorem toN (k : Nat) : Int.toNat (k : Int) = k := rfl
theorem toN1 (k : Nat) : Int.toNat ((k : Int) - 1) = k - 1 := by omega

theorem zDa (n : Int) (ls : List Lk) (hl : Fits ls) : zKQ (n, ls, ()) = some (gv n ls, ()) := by
  unfold zKQ
  simp only [zFY, Option.bind_some, nI_eq]
  cases h1 : inB n 1 8 with
  | false => simp; rw [gv_f fun g => inB_f h1 ⟨g.1, g.2.1⟩]
  | true =>
  have h1 := inB_t h1
  by_cases h2 : ls.length ≤ 14
  case neg => 
    have : (14 : Int) < ls.length := by omega
    simp [this]; rw [gv_f fun g => h2 g.2.2.1]
  have h2' : ¬ (14 : Int) < ls.length := by omega
  simp only [h2', decide_false, cond_false, Bool.not_true]
  refine Sat.out (Sat.bnd (R := fun r => match r with | .inl _ => gv n ls = true | .inr y => y.1 = gv n ls) ?_ ?_)
  · refine Sat.count ls.length (fun k s => s = (ls, (ls.length : Int), (k : Int), n, ls, ()) ∧ ∀ i, i < k → LkAt n ls i) ?_ (Nat.zero_le _) (fuel_lt (by omega)) ⟨rfl, fun i hi => by omega⟩
    rintro k s hk ⟨rfl, hok⟩
    simp (disch := omega) only [zBG, at_lk, toN, toN1, w64, zFY, Option.bind_some]
    repeat' (first
      | refine Sat.some ?_
      | fail
      | (refine Sat.gd (by first | exact inR_t (by omega) (by omega) | (simp (disch := omega) only [w64]; exact inR_t (by omega) (by omega))) ?_)
      | (refine Sat.ite (fun h => ?_) (fun h => ?_) <;> try simp only [decide_eq_true_eq, decide_eq_false_iff_not, Bool.not_eq_true', Bool.not_eq_false', inB_i, inB_j, Bool.and_eq_true, Bool.or_eq_true, Bool.and_eq_false_iff, Bool.or_eq_false_iff, El] at h))
    all_goals dsimp only
    all_goals first
      | exact (gv_at (k := k) (by omega) fun _ _ g => by unfold LkAt at g; omega).symm
      | (refine ⟨by omega, rfl, fun i hi => ?_⟩
         by_cases e : i < k
         · exact hok i e
         · obtain rfl : i = k := by omega
           unfold LkAt
           omega)
      | (obtain rfl : k = ls.length := by omega
         exact decide_eq_true ⟨h1.1, h1.2, h2, hok⟩)
  · rintro (r | r) hr
    · exact .some (by simp [hr])
    · obtain ⟨b, u⟩ := r
      have hr : b = gv n ls := hr
      exact .some (by rw [hr])

theorem zER (n : Int) (ls : List Lk) (hl : Fits ls) : zLR (n, ls, ()) = some (gv n ls, ()) := by
  unfold zLR
  refine Sat.out (Sat.bnd (R := fun r => match r with | .inl x => x = (n, ls, ()) ∧ gv n ls = (inB n 1 8 && decide ((ls.length : Int) ≤ 14)) | .inr y => y.1 = false ∧ gv n ls = false) ?_ ?_)
  · refine Sat.count ls.length (fun k s => s = ((k : Int), n, ls, ()) ∧ (1 ≤ n → n ≤ 8 → ∀ i, i < k → LkAt n ls i)) ?_ (Nat.zero_le _) (fuel_lt (by omega)) ⟨rfl, fun _ _ i hi => by omega⟩
    rintro k s hk ⟨rfl, hok⟩
    simp (disch := omega) only [zCs, at_lk, toN, toN1, w64, nI_eq, e_l6In, Option.bind_some]
    repeat' (first
      | refine Sat.some ?_
      | fail
      | (refine Sat.gd (by first | exact inR_t (by omega) (by omega) | (simp (disch := omega) only [w64]; exact inR_t (by omega) (by omega))) ?_)
      | (refine Sat.ite (fun h => ?_) (fun h => ?_) <;> try simp only [decide_eq_true_eq, decide_eq_false_iff_not, Bool.not_eq_true', Bool.not_eq_false', inB_i, inB_j, Bool.and_eq_true, Bool.or_eq_true, Bool.and_eq_false_iff, Bool.or_eq_false_iff, El] at h))
    all_goals dsimp only
    all_goals first
      | (refine ⟨rfl, gv_at (k := k) (by omega) fun h1 h2 g => ?_⟩
         unfold LkAt at g
         have e1 : wrap64 (n - 1) = n - 1 := w64 (by omega) (by omega)
         have e2 : wrap64 ((lk ls k).a + 1) = (lk ls k).a + 1 := w64 (by omega) (by omega)
         simp only [e1, e2] at *
         omega)
      | (refine ⟨by omega, rfl, fun h1 h2 i hi => ?_⟩
         by_cases e : i < k
         · exact hok h1 h2 i e
         · obtain rfl : i = k := by omega
           have e1 : wrap64 (n - 1) = n - 1 := w64 (by omega) (by omega)
           simp only [e1] at *
           have e2 : wrap64 ((lk ls i).a + 1) = (lk ls i).a + 1 := w64 (by omega) (by omega)
           simp only [e2] at *
           unfold LkAt
           omega)
      | exact ⟨rfl, gv_end (show ls.length = k by omega) hok ▸ (by rw [show ls.length = k by omega])⟩
  · rintro (r | r) hr
    · have hr : r = (n, ls, ()) ∧ gv n ls = (inB n 1 8 && decide ((ls.length : Int) ≤ 14)) := hr
      obtain ⟨rfl, hr⟩ := hr
      simp only [e_l6In, Option.bind_some, nI_eq, hr]
      cases inB n 1 8 <;> exact .some rfl
    · obtain ⟨b, u⟩ := r
      have hr : b = false ∧ gv n ls = false := hr
      exact .some (by rw [hr.1, hr.2])
theorem gv_rng {n : Int} {ls : List Lk} (h : gv n ls = true) : 1 ≤ n ∧ n ≤ 8 := ⟨(gv_t h).1, (gv_t h).2.1⟩
theorem zDv (n m : Int) (ls : List Lk) (hl : Fits ls) : zKS (n, ls, m, ()) = some (gv n ls && inB m 0 (n - 1), ()) := by
  unfold zKS
  simp only [zDa n ls hl, Option.bind_some]
  cases h : gv n ls with
  | false => rfl
  | true =>
    have := gv_rng h
    simp (disch := omega) only [zFY, w64, Option.bind_some, cond_true, Bool.true_and]
theorem eqInts_self : ∀ xs : List Int, eqInts xs xs = true
  | [] => rfl
  | x :: r => by simp [eqInts, eqInts_self r]
theorem zEZ (n : Int) (ls : List Lk) (hl : Fits ls) : zLv (n, ls, n, ls, ()) = some (true, ()) := by
  unfold zLv
  simp only [decide_true, Bool.not_true, cond_false]
  refine Sat.out (Sat.bnd (R := fun r => match r with | .inl _ => True | .inr _ => False) ?_ ?_)
  · refine Sat.count ls.length (fun k s => s = ((k : Int), n, ls, n, ls, ())) ?_ (Nat.zero_le _) (fuel_lt (by omega)) rfl
    rintro k s hk rfl
    simp (disch := omega) only [zCh, at_lk, toN, w64, nI_eq, eqInts_self, Bool.not_true, cond_false]
    repeat' (first
      | refine Sat.some ?_
      | fail
      | (refine Sat.gd (by first | exact inR_t (by omega) (by omega) | (simp (disch := omega) only [w64]; exact inR_t (by omega) (by omega))) ?_)
      | (refine Sat.ite (fun h => ?_) (fun h => ?_) <;> try simp only [decide_eq_true_eq, decide_eq_false_iff_not, Bool.not_eq_true', Bool.not_eq_false', inB_i, inB_j, Bool.and_eq_true, Bool.or_eq_true, Bool.and_eq_false_iff, Bool.or_eq_false_iff, El] at h))
    all_goals dsimp only
    · exact ⟨by omega, rfl⟩
  · rintro (r | r) hr
    · exact .some rfl
    · exact hr.elim
theorem zE0 (zs : List Int) (hl : Fits zs) : zLw (zs, zs, ()) = some (true, ()) := by
  unfold zLw
  simp only [decide_true, Bool.not_true, cond_false]
  refine Sat.out (Sat.bnd (R := fun r => match r with | .inl _ => True | .inr _ => False) ?_ ?_)
  · refine Sat.count zs.length (fun k s => s = (zs, zs, (k : Int), ())) ?_ (Nat.zero_le _) (fuel_lt (by omega)) rfl
    rintro k s hk rfl
    simp (disch := omega) only [zCi, at_int, toN, w64, nI_eq, decide_true, Bool.not_true, cond_false]
    repeat' (first
      | refine Sat.some ?_
      | fail
      | (refine Sat.gd (by first | exact inR_t (by omega) (by omega) | (simp (disch := omega) only [w64]; exact inR_t (by omega) (by omega))) ?_)
      | (refine Sat.ite (fun h => ?_) (fun h => ?_) <;> try simp only [decide_eq_true_eq, decide_eq_false_iff_not, Bool.not_eq_true', Bool.not_eq_false', inB_i, inB_j, Bool.and_eq_true, Bool.or_eq_true, Bool.and_eq_false_iff, Bool.or_eq_false_iff, El] at h))
    all_goals dsimp only
    · exact ⟨by omega, rfl⟩
  · rintro (r | r) hr
    · exact .some rfl
    · exact hr.elim
end Go.Proofs.YtojdflifijpffaaGreat

namespace Go.Proofs.YtojdflifijpffaaGreat
open Go.RowKit
set_option linter.unusedSimpArgs false
set_option linter.unusedVariables false

theorem zEh (n : Int) (ls : List Lk) (a b : Int) (hl : Fits ls) : zL3 (n, ls, a, b, ()) = some (lof ls a b, ()) := by
  unfold zL3
  refine Sat.out (Sat.bnd (R := fun r => match r with | .inl _ => lof ls a b = -1 | .inr y => y.1 = lof ls a b) ?_ ?_)
  · refine Sat.count ls.length (fun k s => s = (a, b, (k : Int), n, ls, ()) ∧ ∀ i, i < k → hitB (min a b) (max a b) (lk ls i) = false) ?_ (Nat.zero_le _) (fuel_lt (by omega)) ⟨rfl, fun i hi => by omega⟩
    rintro k s hk ⟨rfl, hok⟩
    simp (disch := omega) only [zCI, at_lk, toN, w64, nI_eq]
    repeat' (first
      | refine Sat.some ?_
      | fail
      | (refine Sat.gd (by first | exact inR_t (by omega) (by omega) | (simp (disch := omega) only [w64]; exact inR_t (by omega) (by omega))) ?_)
      | (refine Sat.ite (fun h => ?_) (fun h => ?_) <;> try simp only [decide_eq_true_eq, decide_eq_false_iff_not, Bool.not_eq_true', Bool.not_eq_false', inB_i, inB_j, Bool.and_eq_true, Bool.or_eq_true, Bool.and_eq_false_iff, Bool.or_eq_false_iff, El] at h))
    all_goals try dsimp only
    all_goals first
      | (exact (lof_hit (by omega) (hit_yes (by assumption) (by assumption)) hok).symm)
      | (refine ⟨by omega, rfl, fun i hi => ?_⟩
         by_cases e : i < k
         · exact hok i e
         · obtain rfl : i = k := by omega
           exact hit_no (by omega))
      | exact lof_miss fun i hi => hok i (by omega)
  · rintro (r | r) hr
    · have hr : lof ls a b = -1 := hr
      exact .some (by rw [hr])
    · obtain ⟨z, u⟩ := r
      have hr : z = lof ls a b := hr
      exact .some (by rw [hr])
theorem zEI (n : Int) (ls : List Lk) (a b : Int) (hl : Fits ls) : zKV (n, ls, a, b, ()) = some (lof ls a b, ()) := by
  unfold zKV zLH
  refine Sat.out (Sat.bnd (R := fun r => r.1 = lof ls a b) (Sat.bnd (R := fun r => match r with | .inl _ => lof ls a b = -1 | .inr y => y.1 = lof ls a b) ?_ ?_) ?_)
  · refine Sat.count ls.length (fun k s => s = (ls, a, b, (ls.length : Int), (k : Int), ()) ∧ ∀ i, i < k → hitB (min a b) (max a b) (lk ls i) = false) ?_ (Nat.zero_le _) (fuel_lt (by omega)) ⟨by simp [nI_eq], fun i hi => by omega⟩
    rintro k s hk ⟨rfl, hok⟩
    have e1 : ∀ x y z p q : Int, zKW (x, y, z, p, q, ()) = some (decide (x = min p q) && decide (y = max p q), ()) := fun x y z p q => by
      unfold zKW
      by_cases h : x = min p q <;> simp [h]
    simp (disch := omega) only [zCo, at_lk, toN, w64, nI_eq, e1, Option.bind_some]
    repeat' (first
      | refine Sat.some ?_
      | fail
      | (refine Sat.gd (by first | exact inR_t (by omega) (by omega) | (simp (disch := omega) only [w64]; exact inR_t (by omega) (by omega))) ?_)
      | (refine Sat.ite (fun h => ?_) (fun h => ?_) <;> try simp only [decide_eq_true_eq, decide_eq_false_iff_not, Bool.not_eq_true', Bool.not_eq_false', inB_i, inB_j, Bool.and_eq_true, Bool.or_eq_true, Bool.and_eq_false_iff, Bool.or_eq_false_iff, El] at h))
    all_goals try dsimp only
    all_goals first
      | (exact (lof_hit (by omega) (hit_yes (by omega) (by omega)) hok).symm)
      | (refine ⟨by omega, rfl, fun i hi => ?_⟩
         by_cases e : i < k
         · exact hok i e
         · obtain rfl : i = k := by omega
           exact hit_no (by omega))
      | exact lof_miss fun i hi => hok i (by omega)
  · rintro (r | r) hr
    · have hr : lof ls a b = -1 := hr
      exact .some (by rw [hr])
    · exact .some hr
  · rintro ⟨z, u⟩ hr
    have hr : z = lof ls a b := hr
    exact .some (by rw [hr])
theorem zEM (a b c n : Int) : zKZ (a, b, c, n, ()) = some (otherE ⟨a, b, c⟩ n, isEnd ⟨a, b, c⟩ n, ()) := by
  unfold zKZ otherE isEnd
  by_cases h : n = a
  · simp [h]
  · by_cases h' : n = b
    · subst h'; simp [h]
    · simp [h, h']
theorem zEL (n : Int) (ls : List Lk) (m : Int) (hl : ls.length ≤ 16777216) : zKY (n, ls, m, ()) = some (sortI (others ls m ls.length), ()) := by
  unfold zKY
  refine Sat.out (Sat.bnd (R := fun r => match r with | .inl x => x.1 = others ls m ls.length | .inr _ => False) ?_ ?_)
  · refine Sat.count ls.length (fun k s => s = (m, ls, (ls.length : Int), (k : Int), others ls m k, ())) ?_ (Nat.zero_le _) (fuel_lt (by omega)) (by simp [nI_eq, others])
    rintro k s hk rfl
    have hlen := others_len ls m k
    simp (disch := omega) only [zBM, at_lk, toN, w64, nI_eq, zEM, Option.bind_some, List.length_singleton]
    repeat' (first
      | refine Sat.some ?_
      | (refine Sat.gd (decide_eq_true (by omega)) ?_)
      | (refine Sat.gd (by first | exact inR_t (by omega) (by omega) | (simp (disch := omega) only [w64]; exact inR_t (by omega) (by omega))) ?_)
      | (refine Sat.ite (fun h => ?_) (fun h => ?_) <;> try simp only [decide_eq_true_eq, decide_eq_false_iff_not, Bool.not_eq_true', Bool.not_eq_false', inB_i, inB_j, Bool.and_eq_true, Bool.or_eq_true, Bool.and_eq_false_iff, Bool.or_eq_false_iff, El] at h))
    all_goals try dsimp only
    all_goals first
      | (refine ⟨by omega, ?_⟩
         rw [others_succ ls m k (by omega)]
         simp [*])
      | (obtain rfl : k = ls.length := by omega
         rfl)
  · rintro (r | r) hr
    · have hr : r.1 = others ls m ls.length := hr
      show Sat ((zLL (r.1, ())).bind _) _
      rw [hr]
      have hlen := others_len ls m ls.length
      unfold zLL
      rw [decide_eq_true (show (others ls m ls.length).length ≤ 16777216 by omega)]
      exact .some rfl
    · exact hr.elim
theorem zEQ (n : Int) (ls : List Lk) (m : Int) (hl : Fits ls) : zLQ (n, ls, m, ()) = some (if gv n ls then nbS ls m 8 else [], ()) := by
  unfold zLQ
  refine Sat.out (Sat.bnd (R := fun r => match r with | .inl x => x.1 = if gv n ls then nbS ls m 8 else [] | .inr _ => False) ?_ ?_)
  · cases hg : gv n ls with
    | false =>
      refine Sat.count 0 (fun k s => s = (m, (0 : Int), n, ls, ([] : List Int), ())) ?_ (Nat.zero_le _) (fuel_lt (by omega)) rfl
      rintro k s hk rfl
      simp only [zCr, zER n ls hl, Option.bind_some, hg]
      exact .some (by simp)
    | true =>
      refine Sat.count 8 (fun k s => s = (m, (k : Int), n, ls, nbS ls m k, ())) ?_ (Nat.zero_le _) (fuel_lt (by omega)) rfl
      rintro k s hk rfl
      have hlen := nbS_len ls m k
      simp (disch := omega) only [zCr, zER n ls hl, zEh _ _ _ _ hl, Option.bind_some, hg, w64, List.length_singleton, cond_true]
      repeat' (first
        | refine Sat.some ?_
        | (refine Sat.gd (decide_eq_true (by omega)) ?_)
        | (refine Sat.gd (by first | exact inR_t (by omega) (by omega) | (simp (disch := omega) only [w64]; exact inR_t (by omega) (by omega))) ?_)
        | (refine Sat.ite (fun h => ?_) (fun h => ?_) <;> try simp only [decide_eq_true_eq, decide_eq_false_iff_not, Bool.not_eq_true', Bool.not_eq_false', inB_i, inB_j, Bool.and_eq_true, Bool.or_eq_true, Bool.and_eq_false_iff, Bool.or_eq_false_iff, El] at h))
      all_goals try dsimp only
      all_goals first
        | (refine ⟨by omega, ?_⟩
           rw [nbS_succ]
           simp [*])
        | (obtain rfl : k = 8 := by omega
           rfl)
  · rintro (r | r) hr
    · have hr : r.1 = if gv n ls then nbS ls m 8 else [] := hr
      exact .some (by rw [hr])
    · exact hr.elim
def rx {β : Type} (d : List Int) (x y : Nat) (c : Int) (K : List Int → Option β) : Option β := (bif decide (0 ≤ iz d x) then (bif decide (iz d y < 0) then K (d.set y (wrap64 (iz d x + c))) else (bif decide (wrap64 (iz d x + c) < iz d y) then K (d.set y (wrap64 (iz d x + c))) else K d)) else K d)
theorem rx_eq {β : Type} {d : List Int} {x y : Nat} {c : Int} (K : List Int → Option β) (h1 : iz d x ≤ 10000) (hc : 0 ≤ c ∧ c ≤ 20) : rx d x y c K = K (relax d x y c) := by
  unfold rx relax relaxB
  by_cases h0 : 0 ≤ iz d x
  · have e : wrap64 (iz d x + c) = iz d x + c := w64 (by omega) (by omega)
    by_cases h2 : iz d y < 0
    · simp [h0, h2, e]
    · by_cases h3 : iz d x + c < iz d y <;> simp [h0, h2, h3, e]
  · simp [h0]
end Go.Proofs.YtojdflifijpffaaGreat

namespace Go.Proofs.YtojdflifijpffaaGreat
open Go.RowKit
set_option linter.unusedSimpArgs false
set_option linter.unusedVariables false
set_option maxRecDepth 100000

section
variable {n : Nat} {ls : List Lk}
theorem zEO (h : GV n ls) {d : List Int} (hd : d.length = n) {m : Int} (hb : Bd d m) (hm : m ≤ 9000) {k : Nat} (hk : k < ls.length) (p q r : Int) (t : List Lk) : zBI (p, q, ls, (ls.length : Int), (k : Int), r, t, d, ()) = some (.inl (p, q, ls, (ls.length : Int), ((k + 1 : Nat) : Int), r, t, relaxL d (lk ls k), ())) := by
  obtain ⟨x, y, hx, hy, hxy, hyn, hc1, hc2⟩ := h.at_ hk
  have h14 := h.2.2.1
  have gk : inR (k : Int) ls.length = true := inR_t (by omega) (by omega)
  have g1 : inR (lk ls k).a d.length = true := inR_t (by omega) (by omega)
  have g2 : inR (lk ls k).b d.length = true := inR_t (by omega) (by omega)
  have hlt : (k : Int) < ls.length := by omega
  have hA : iz d (lk ls k).a.toNat ≤ 10000 := by have := (hb (lk ls k).a.toNat).2; omega
  have hB : iz (relax d (lk ls k).a.toNat (lk ls k).b.toNat (lk ls k).c) (lk ls k).b.toNat ≤ 10000 := by have := (relax_bd hb (lk ls k).a.toNat (lk ls k).b.toNat (lk ls k).c hc1 hc2 (lk ls k).b.toNat).2; omega
  have hC : 0 ≤ (lk ls k).c ∧ (lk ls k).c ≤ 20 := by omega
  have ek : wrap64 ((k : Int) + 1) = (k : Int) + 1 := w64 (by omega) (by omega)
  simp only [zBI, toN, at_lk, at_int, List.length_set, g1, g2, gk, cond_true, decide_eq_true hlt, ek]
  show rx (β := (Int × Int × List Lk × Int × Int × Int × List Lk × List Int × Unit) ⊕ ((Int × Int × Int × List Lk × List Int × Unit) ⊕ Unit)) d (lk ls k).a.toNat (lk ls k).b.toNat (lk ls k).c (fun d' => rx d' (lk ls k).b.toNat (lk ls k).a.toNat (lk ls k).c (fun d'' => some (.inl (p, q, ls, (ls.length : Int), (k : Int) + 1, r, t, d'', ())))) = _
  rw [rx_eq _ hA hC, rx_eq _ hB hC]
  rfl
end
end Go.Proofs.YtojdflifijpffaaGreat

namespace Go.Proofs.YtojdflifijpffaaGreat
open Go.RowKit
set_option linter.unusedSimpArgs false
set_option linter.unusedVariables false
set_option maxRecDepth 100000

section
variable {n : Nat} {ls : List Lk}
theorem zDs (h : GV n ls) {f : Nat} (hf : f < n) : zKR ((n : Int), ls, (f : Int), ()) = some (dists n ls f, ()) := by
  have h14 := h.2.2.1
  have h8 := h.2.1
  unfold zKR
  have er : zLK ([-1], (n : Int), ()) = some (List.replicate n (-1), ()) := by
    show (bif decide ((0 : Int) < n ∧ (n : Int) ≤ 64) then _ else none) = _
    rw [decide_eq_true (show (0 : Int) < n ∧ (n : Int) ≤ 64 by omega)]
    rfl
  simp only [er, Option.bind_some, List.length_replicate, inR_t (show (0 : Int) ≤ f by omega) (show (f : Int) < n by omega), cond_true, toN]
  refine Sat.out (Sat.bnd (R := fun r => match r with | .inl x => x.1 = dists n ls f | .inr _ => False) ?_ ?_)
  · refine Sat.count n (fun k s => s = ((n : Int), (k : Int), (n : Int), ls, dst n ls f k 0, ())) ?_ (Nat.zero_le _) (fuel_lt (by omega)) rfl
    rintro k s hk rfl
    simp (disch := omega) only [zBH, nI_eq]
    refine Sat.ite (fun hlt => ?_) (fun hlt => ?_)
    · have hlt := of_decide_eq_true hlt
      refine Sat.bnd (R := fun r => match r with | .inl x => x = ((n : Int), (k : Int), (n : Int), ls, dst n ls f k ls.length, ()) | .inr _ => False) ?_ ?_
      · refine Sat.count ls.length (fun i s => s = ((n : Int), (k : Int), ls, (ls.length : Int), (i : Int), (n : Int), ls, dst n ls f k i, ())) ?_ (Nat.zero_le _) (fuel_lt (by omega)) rfl
        rintro i s hi rfl
        by_cases hil : i < ls.length
        · rw [zEO h (dst_len _ _ _ _ _) (dst_bd n ls f k i h.cheap h14 (by omega)) (by omega) hil]
          exact .some ⟨hil, by rw [dst_succ _ _ _ _ _ hil]⟩
        · obtain rfl : i = ls.length := by omega
          unfold zBI
          simp only [decide_eq_false (show ¬ (ls.length : Int) < ls.length by omega), cond_false]
          exact .some rfl
      · rintro (r | r) hr
        · obtain rfl := hr
          refine .some ⟨by omega, ?_⟩
          dsimp only
          rw [dst_end, w64 (by omega) (by omega)]
          rfl
        · exact hr.elim
    · have hlt := of_decide_eq_false hlt
      obtain rfl : k = n := by omega
      exact .some rfl
  · rintro (r | r) hr
    · have hr : r.1 = dists n ls f := hr
      exact .some (by rw [hr])
    · exact hr.elim
end
def distsV (n : Int) (ls : List Lk) (t : Int) : List Int := if gv n ls && inB t 0 (n - 1) then dists n.toNat ls t.toNat else []
theorem gv_nat {n : Int} {ls : List Lk} (h : gv n ls = true) : ∃ N : Nat, n = N ∧ GV N ls := by
  have := gv_rng h
  exact ⟨n.toNat, by omega, by rw [show ((n.toNat : Nat) : Int) = n by omega]; exact gv_t h⟩
theorem zC7 (n t : Int) (ls : List Lk) (hl : Fits ls) : zKO (n, ls, t, ()) = some (distsV n ls t, ()) := by
  unfold zKO distsV
  simp only [zDv n t ls hl, Option.bind_some]
  cases h : gv n ls with
  | false => rfl
  | true =>
    obtain ⟨N, rfl, hG⟩ := gv_nat h
    cases ht : inB t 0 ((N : Int) - 1) with
    | false => rfl
    | true =>
      have ht := inB_t ht
      obtain ⟨T, rfl⟩ := Int.eq_ofNat_of_zero_le ht.1
      simp only [zDs hG (show T < N by omega), Option.bind_some]
      rfl
end Go.Proofs.YtojdflifijpffaaGreat

namespace Go.Proofs.YtojdflifijpffaaGreat
open Go.RowKit
set_option linter.unusedSimpArgs false
set_option linter.unusedVariables false
set_option maxRecDepth 100000

section
variable {N : Nat} {la lb : List Lk} {bs : List Int}
end
end Go.Proofs.YtojdflifijpffaaGreat

namespace Go.Proofs.YtojdflifijpffaaGreat
open Go.RowKit
set_option linter.unusedSimpArgs false
set_option linter.unusedVariables false
set_option maxRecDepth 100000

section
variable {N : Nat} {la lb : List Lk} {bs : List Int}
end
end Go.Proofs.YtojdflifijpffaaGreat

namespace Go.Proofs.YtojdflifijpffaaGreat
open Go.RowKit
set_option linter.unusedSimpArgs false
set_option linter.unusedVariables false
set_option maxRecDepth 100000

section
variable {N : Nat} {la lb : List Lk} {bs : List Int}
end
end Go.Proofs.YtojdflifijpffaaGreat
end
section
namespace Go.Proofs.YtojdflifijpffaaGreat
open Go.RowKit
set_option linter.unusedSimpArgs false
set_option linter.unusedVariables false
set_option maxRecDepth 100000

def en (es : List En) (i : Nat) : En := es.getD i ⟨0, 0⟩
def lsa (db : List Ls) (i : Nat) : Ls := db.getD i ⟨0, 0, []⟩
theorem at_en (es : List En) (i : Nat) : at! .en es i = en es i := by
  induction es generalizing i with
  | nil => rfl
  | cons z r ih => cases i with
    | zero => rfl
    | succ i => exact (ih i).trans (by simp [en])
theorem at_ls (es : List Ls) (i : Nat) : at! .ls es i = lsa es i := by
  induction es generalizing i with
  | nil => rfl
  | cons z r ih => cases i with
    | zero => rfl
    | succ i => exact (ih i).trans (by simp [lsa])
theorem en_get {es : List En} {i : Nat} (h : i < es.length) : en es i = es[i] := by simp [en, h]
theorem lsa_get {es : List Ls} {i : Nat} (h : i < es.length) : lsa es i = es[i] := by simp [lsa, h]
def EnAt (o : Int) (es : List En) (i : Nat) : Prop := 0 ≤ (en es i).n ∧ (en es i).n ≤ 7 ∧ (en es i).n ≠ o ∧ 1 ≤ (en es i).c ∧ (en es i).c ≤ 20 ∧ (0 < i → (en es (i - 1)).n < (en es i).n)
instance (o : Int) (es : List En) (i : Nat) : Decidable (EnAt o es i) := by unfold EnAt; infer_instance
def LsV (l : Ls) : Prop := 0 ≤ l.o ∧ l.o ≤ 7 ∧ 1 ≤ l.s ∧ l.s ≤ 99 ∧ ∀ i, i < l.e.length → EnAt l.o l.e i
instance (l : Ls) : Decidable (LsV l) := by unfold LsV; infer_instance
def lsv (o s : Int) (es : List En) : Bool := decide (LsV ⟨o, s, es⟩)
theorem lsv_f {o s : Int} {es : List En} (h : ¬ LsV ⟨o, s, es⟩) : lsv o s es = false := decide_eq_false h
theorem lsv_t {o s : Int} {es : List En} (h : LsV ⟨o, s, es⟩) : lsv o s es = true := decide_eq_true h
theorem zDb (o s : Int) (es : List En) (hl : Fits es) : zK0 (o, s, es, ()) = some (lsv o s es, ()) := by
  unfold zK0
  simp only [zFY, Option.bind_some, nI_eq]
  cases h1 : inB o 0 7 with
  | false => simp; exact lsv_f fun g => inB_f h1 ⟨g.1, g.2.1⟩
  | true =>
  cases h2 : inB s 1 99 with
  | false => simp; exact lsv_f fun g => inB_f h2 ⟨g.2.2.1, g.2.2.2.1⟩
  | true =>
  have h1 := inB_t h1
  have h2 := inB_t h2
  simp only [Bool.not_true, cond_false]
  refine Sat.out (Sat.bnd (R := fun r => match r with | .inl _ => lsv o s es = true | .inr y => y.1 = false ∧ lsv o s es = false) ?_ ?_)
  · refine Sat.count es.length (fun k t => t = (es, (es.length : Int), (k : Int), o, s, es, ()) ∧ ∀ i, i < k → EnAt o es i) ?_ (Nat.zero_le _) (fuel_lt (by omega)) ⟨rfl, fun i hi => by omega⟩
    rintro k t hk ⟨rfl, hok⟩
    simp (disch := omega) only [zBN, at_en, toN, toN1, w64, zFY, Option.bind_some]
    repeat' (first
      | refine Sat.some ?_
      | fail
      | (refine Sat.gd (by first | exact inR_t (by omega) (by omega) | (simp (disch := omega) only [w64]; exact inR_t (by omega) (by omega))) ?_)
      | (refine Sat.ite (fun h => ?_) (fun h => ?_) <;> try simp only [decide_eq_true_eq, decide_eq_false_iff_not, Bool.not_eq_true', Bool.not_eq_false', inB_i, inB_j, Bool.and_eq_true, Bool.or_eq_true, Bool.and_eq_false_iff, Bool.or_eq_false_iff, El] at h))
    all_goals try dsimp only
    all_goals first
      | (refine ⟨rfl, decide_eq_false fun g => ?_⟩
         have := g.2.2.2.2 k (by dsimp only; omega)
         unfold EnAt at this
         dsimp only at this
         omega)
      | (refine ⟨by omega, rfl, fun i hi => ?_⟩
         by_cases e : i < k
         · exact hok i e
         · obtain rfl : i = k := by omega
           unfold EnAt
           omega)
      | exact decide_eq_true ⟨h1.1, h1.2, h2.1, h2.2, fun i hi => hok i (by dsimp only at hi; omega)⟩
  · rintro (r | r) hr
    · have hr : lsv o s es = true := hr
      exact .some (by rw [hr])
    · obtain ⟨b, u⟩ := r
      have hr : b = false ∧ lsv o s es = false := hr
      exact .some (by rw [hr.1, hr.2])
theorem zES (o s : Int) (es : List En) (hl : Fits es) : zLS (o, s, es, ()) = some (lsv o s es, ()) := by
  unfold zLS
  refine Sat.out (Sat.bnd (R := fun r => match r with | .inl x => x = (o, s, es, ()) ∧ ∀ i, i < es.length → EnAt o es i | .inr y => y.1 = false ∧ lsv o s es = false) ?_ ?_)
  · refine Sat.count es.length (fun k t => t = ((k : Int), o, s, es, ()) ∧ ∀ i, i < k → EnAt o es i) ?_ (Nat.zero_le _) (fuel_lt (by omega)) ⟨rfl, fun i hi => by omega⟩
    rintro k t hk ⟨rfl, hok⟩
    simp (disch := omega) only [zCt, at_en, toN, toN1, w64, nI_eq, e_l6In, Option.bind_some]
    repeat' (first
      | refine Sat.some ?_
      | fail
      | (refine Sat.gd (by first | exact inR_t (by omega) (by omega) | (simp (disch := omega) only [w64]; exact inR_t (by omega) (by omega))) ?_)
      | (refine Sat.ite (fun h => ?_) (fun h => ?_) <;> try simp only [decide_eq_true_eq, decide_eq_false_iff_not, Bool.not_eq_true', Bool.not_eq_false', inB_i, inB_j, Bool.and_eq_true, Bool.or_eq_true, Bool.and_eq_false_iff, Bool.or_eq_false_iff, El] at h))
    all_goals try dsimp only
    all_goals first
      | (refine ⟨rfl, decide_eq_false fun g => ?_⟩
         have := g.2.2.2.2 k (by dsimp only; omega)
         unfold EnAt at this
         dsimp only at this
         omega)
      | (refine ⟨by omega, rfl, fun i hi => ?_⟩
         by_cases e : i < k
         · exact hok i e
         · obtain rfl : i = k := by omega
           unfold EnAt
           omega)
      | exact ⟨rfl, fun i hi => hok i (by omega)⟩
  · rintro (r | r) hr
    · have hr : r = (o, s, es, ()) ∧ ∀ i, i < es.length → EnAt o es i := hr
      obtain ⟨rfl, hq⟩ := hr
      simp only [e_l6In, Option.bind_some]
      cases h1 : inB o 0 7 with
      | false => exact .some (by rw [show lsv o s es = false from decide_eq_false fun g => inB_f h1 ⟨g.1, g.2.1⟩])
      | true =>
        cases h2 : inB s 1 99 with
        | false => exact .some (by rw [show lsv o s es = false from decide_eq_false fun g => inB_f h2 ⟨g.2.2.1, g.2.2.2.1⟩])
        | true =>
          have h1 := inB_t h1
          have h2 := inB_t h2
          exact .some (by rw [show lsv o s es = true from decide_eq_true ⟨h1.1, h1.2, h2.1, h2.2, hq⟩])
    · obtain ⟨b, u⟩ := r
      have hr : b = false ∧ lsv o s es = false := hr
      exact .some (by rw [hr.1, hr.2])
def DbV (db : List Ls) : Prop := ∀ i, i < db.length → LsV (lsa db i) ∧ (0 < i → (lsa db (i - 1)).o < (lsa db i).o)
instance (db : List Ls) : Decidable (DbV db) := by unfold DbV; infer_instance
def dbv (db : List Ls) : Bool := decide (DbV db)
theorem zC6 (db : List Ls) (hl : Fits db) (he : ∀ l ∈ db, Fits l.e) : zKN (db, ()) = some (dbv db, ()) := by
  unfold zKN
  refine Sat.out (Sat.bnd (R := fun r => match r with | .inl _ => dbv db = true | .inr y => y.1 = false ∧ dbv db = false) ?_ ?_)
  · refine Sat.count db.length (fun k t => t = (db, db, (db.length : Int), (k : Int), ()) ∧ ∀ i, i < k → LsV (lsa db i) ∧ (0 < i → (lsa db (i - 1)).o < (lsa db i).o)) ?_ (Nat.zero_le _) (fuel_lt (by omega)) ⟨by simp [nI_eq], fun i hi => by omega⟩
    rintro k t hk ⟨rfl, hok⟩
    by_cases hlt : k < db.length
    · have hf : Fits (lsa db k).e := he _ (by rw [lsa_get hlt]; exact List.getElem_mem hlt)
      simp (disch := omega) only [zBE, at_ls, toN, toN1, w64, zDb _ _ _ hf, Option.bind_some]
      repeat' (first
        | refine Sat.some ?_
        | fail
        | (refine Sat.gd (by first | exact inR_t (by omega) (by omega) | (simp (disch := omega) only [w64]; exact inR_t (by omega) (by omega))) ?_)
        | (refine Sat.ite (fun h => ?_) (fun h => ?_) <;> try simp only [decide_eq_true_eq, decide_eq_false_iff_not, Bool.not_eq_true', Bool.not_eq_false', inB_i, inB_j, Bool.and_eq_true, Bool.or_eq_true, Bool.and_eq_false_iff, Bool.or_eq_false_iff, El] at h))
      all_goals try dsimp only
      all_goals first
        | (refine ⟨rfl, decide_eq_false fun g => ?_⟩
           have := g k hlt
           first | exact of_decide_eq_false (by assumption) this.1 | omega)
        | (refine ⟨by omega, rfl, fun i hi => ?_⟩
           by_cases e : i < k
           · exact hok i e
           · obtain rfl : i = k := by omega
             exact ⟨of_decide_eq_true (by assumption), fun _ => by omega⟩)
        | omega
    · obtain rfl : k = db.length := by omega
      unfold zBE
      simp only [decide_eq_false (show ¬ (db.length : Int) < db.length by omega), cond_false]
      exact .some (decide_eq_true hok)
  · rintro (r | r) hr
    · have hr : dbv db = true := hr
      exact .some (by rw [hr])
    · obtain ⟨b, u⟩ := r
      have hr : b = false ∧ dbv db = false := hr
      exact .some (by rw [hr.1, hr.2])
def fd (db : List Ls) (o : Int) : Option Ls := db.find? fun l => decide (l.o = o)
def ec (es : List En) (b : Int) : Int := match es.find? (fun e => decide (e.n = b)) with | some e => e.c | none => 0
def ann (db : List Ls) (a b : Int) : Int := match fd db a with | some l => ec l.e b | none => 0
theorem find_hit {α : Type} {p : α → Bool} {l : List α} {k : Nat} (hk : k < l.length) (h : p l[k] = true) (hn : ∀ i (hi : i < l.length), i < k → p l[i] = false) : l.find? p = some l[k] := by
  rw [List.find?_eq_some_iff_getElem]
  exact ⟨h, k, hk, rfl, fun j hj => by simp [hn j (by omega) hj]⟩
theorem find_miss {α : Type} {p : α → Bool} {l : List α} (hn : ∀ i (hi : i < l.length), p l[i] = false) : l.find? p = none := by
  rw [List.find?_eq_none]
  intro x hx
  obtain ⟨i, hi, rfl⟩ := List.getElem_of_mem hx
  simp [hn i hi]
theorem zEb (db : List Ls) (o : Int) (hl : Fits db) : zLX (db, o, ()) = some (match fd db o with | some l => (l.o, l.s, l.e, true, ()) | none => (0, 0, [], false, ())) := by
  unfold zLX
  refine Sat.out (Sat.bnd (R := fun r => match r with | .inl _ => fd db o = none | .inr y => ∃ l, fd db o = some l ∧ y = (true, l.o, l.s, l.e, ())) ?_ ?_)
  · refine Sat.count db.length (fun k t => t = (db, o, (k : Int), 0, 0, [], ()) ∧ ∀ i, i < k → (lsa db i).o ≠ o) ?_ (Nat.zero_le _) (fuel_lt (by omega)) ⟨rfl, fun i hi => by omega⟩
    rintro k t hk ⟨rfl, hok⟩
    simp (disch := omega) only [zCD, at_ls, toN, w64, nI_eq]
    repeat' (first
      | refine Sat.some ?_
      | fail
      | (refine Sat.gd (by first | exact inR_t (by omega) (by omega) | (simp (disch := omega) only [w64]; exact inR_t (by omega) (by omega))) ?_)
      | (refine Sat.ite (fun h => ?_) (fun h => ?_) <;> try simp only [decide_eq_true_eq, decide_eq_false_iff_not, Bool.not_eq_true', Bool.not_eq_false', inB_i, inB_j, Bool.and_eq_true, Bool.or_eq_true, Bool.and_eq_false_iff, Bool.or_eq_false_iff, El] at h))
    all_goals try dsimp only
    · have hlt : k < db.length := by omega
      refine ⟨lsa db k, ?_, rfl⟩
      unfold fd
      rw [lsa_get hlt]
      exact find_hit hlt (decide_eq_true (by rw [← lsa_get hlt]; assumption)) fun i hi hik => decide_eq_false (by rw [← lsa_get hi]; exact hok i hik)
    · refine ⟨by omega, rfl, fun i hi => ?_⟩
      by_cases e : i < k
      · exact hok i e
      · obtain rfl : i = k := by omega
        assumption
    · exact find_miss fun i hi => decide_eq_false (by rw [← lsa_get hi]; exact hok i (by omega))
  · rintro (r | r) hr
    · have hr : fd db o = none := hr
      exact .some (by rw [hr])
    · obtain ⟨l, h1, rfl⟩ := hr
      exact .some (by rw [h1])
end Go.Proofs.YtojdflifijpffaaGreat
end
section
namespace Go.Proofs.YtojdflifijpffaaGreat
open Go.RowKit
set_option linter.unusedSimpArgs false
set_option linter.unusedVariables false
set_option maxRecDepth 100000

theorem half {i j : Nat} (h : i + j ≤ 4611686018427387904) : wrap64 (shrK .u64 (wrapK .u64 (wrap64 ((i : Int) + (j : Int)))) 1) = (((i + j) / 2 : Nat) : Int) := by
  rw [w64 (x := (i : Int) + j) (by omega) (by omega)]
  have e : wrapK .u64 ((i : Int) + j) = (i : Int) + j := by
    simp [wrapK, IntKind.wrap, IntKind.signed, IntKind.bits]
    omega
  rw [e]
  unfold shrK
  rw [show (1 : Int).toNat = 1 from rfl, show min 1 (IntKind.bits .u64) = 1 from rfl]
  rw [Int.fdiv_eq_ediv_of_nonneg _ (by decide)]
  rw [w64 (by omega) (by omega)]
  omega
def IsPl (db : List Ls) (o : Int) (i : Nat) : Prop := i ≤ db.length ∧ (∀ x, x < i → (lsa db x).o < o) ∧ ∀ x, i ≤ x → x < db.length → o ≤ (lsa db x).o
def hasAt (db : List Ls) (o : Int) (i : Nat) : Bool := decide (i < db.length ∧ (lsa db i).o = o)
def Srt (db : List Ls) : Prop := ∀ i j, i < j → j < db.length → (lsa db i).o < (lsa db j).o
theorem DbV.srt {db : List Ls} (h : DbV db) : Srt db := by
  have step : ∀ d i, i + d + 1 < db.length → (lsa db i).o < (lsa db (i + d + 1)).o := fun d => by
    induction d with
    | zero => intro i hi; exact (h (i + 1) hi).2 (by omega)
    | succ d ih =>
      intro i hi
      have h1 := ih i (by omega)
      have h2 := (h (i + (d + 1) + 1) hi).2 (by omega)
      rw [Nat.add_sub_cancel] at h2
      rw [show i + (d + 1) = i + d + 1 by omega] at h2 ⊢
      omega
  intro i j hij hj
  have := step (j - i - 1) i (by omega)
  rwa [show i + (j - i - 1) + 1 = j by omega] at this
theorem e_cmp (a b : Int) : zKK (a, b, ()) = some (if a < b then -1 else if b < a then 1 else 0, ()) := by
  have e : ∀ x : Int, zKL (x, ()) = some (false, ()) := fun x => by simp [zKL]
  unfold zKK
  simp only [e, Option.bind_some, cond_false]
  by_cases h1 : a < b
  · simp [h1]
  · by_cases h2 : b < a <;> simp [h1, h2]
theorem zDq (db : List Ls) (o : Int) (hs : Srt db) (hl : db.length ≤ 2000000000) : ∃ i : Nat, IsPl db o i ∧ zLj (db, o, ()) = some ((i : Int), hasAt db o i, ()) := by
  have hmono : ∀ i j, i ≤ j → j < db.length → (lsa db i).o ≤ (lsa db j).o := fun i j hij hj => by
    rcases Nat.eq_or_lt_of_le hij with e | e
    · subst e; exact Int.le_refl _
    · have := hs i j e hj; omega
  have key : Sat (zLj (db, o, ())) fun r => ∃ i : Nat, IsPl db o i ∧ r = ((i : Int), hasAt db o i, ()) := by
    unfold zLj zLA
    refine Sat.bnd (R := fun r => ∃ i : Nat, IsPl db o i ∧ r = ((i : Int), hasAt db o i, ())) (Sat.bnd (R := fun r => match r with | .inl x => ∃ i : Nat, IsPl db o i ∧ x = (db, o, (db.length : Int), (i : Int), ()) | .inr _ => False) ?_ ?_) ?_
    · refine Sat.loop (fun s => ∃ i j : Nat, s = (db, o, (db.length : Int), (i : Int), (j : Int), ()) ∧ i ≤ j ∧ j ≤ db.length ∧ (∀ x, x < i → (lsa db x).o < o) ∧ ∀ x, j ≤ x → x < db.length → o ≤ (lsa db x).o) (fun s => (s.2.2.2.2.1 - s.2.2.2.1).toNat) ?_ fuel _ ?_ ?_
      · rintro _ ⟨i, j, rfl, hij, hj, h1, h2⟩
        simp only [zCm, half (show i + j ≤ 4611686018427387904 by omega), at_ls, toN, zLk, e_cmp, Option.bind_some]
        refine Sat.ite (fun hlt => ?_) (fun hlt => ?_)
        · have hlt := of_decide_eq_true hlt
          have hm : (i + j) / 2 < j ∧ i ≤ (i + j) / 2 := by omega
          generalize (i + j) / 2 = m at *
          refine Sat.gd (inR_t (by omega) (by omega)) (Sat.ite (fun hc => ?_) (fun hc => ?_))
          · have hc := of_decide_eq_true hc
            have hc : (lsa db m).o < o := by
              by_cases h : (lsa db m).o < o
              · exact h
              · rw [if_neg h] at hc
                split at hc <;> omega
            rw [w64 (by omega) (by omega)]
            refine .some ⟨⟨m + 1, j, rfl, by omega, hj, fun x hx => ?_, h2⟩, by dsimp only; omega⟩
            have := hmono x m (by omega) (by omega)
            omega
          · have hc := of_decide_eq_false hc
            have hc : o ≤ (lsa db m).o := by
              by_cases h : (lsa db m).o < o
              · rw [if_pos h] at hc; omega
              · omega
            refine .some ⟨⟨i, m, rfl, by omega, by omega, h1, fun x hx hxl => ?_⟩, by dsimp only; omega⟩
            have := hmono m x hx hxl
            omega
        · have hlt := of_decide_eq_false hlt
          obtain rfl : i = j := by omega
          exact .some ⟨i, ⟨hj, h1, h2⟩, rfl⟩
      · rw [nI_eq]; dsimp only; unfold fuel; omega
      · exact ⟨0, db.length, by rw [nI_eq]; rfl, by omega, by omega, fun x hx => by omega, fun x hx hxl => by omega⟩
    · rintro (r | r) hr
      case inr => exact hr.elim
      obtain ⟨i, hi, rfl⟩ := hr
      simp only [at_ls, toN, zLk, e_cmp, Option.bind_some]
      refine Sat.ite (fun hlt => ?_) (fun hlt => ?_)
      · have hlt := of_decide_eq_true hlt
        refine Sat.gd (inR_t (by omega) (by omega)) (.some ⟨i, hi, ?_⟩)
        have hge := hi.2.2 i (Nat.le_refl _) (by omega)
        unfold hasAt
        by_cases h : (lsa db i).o = o
        · rw [decide_eq_true (show i < db.length ∧ (lsa db i).o = o from ⟨by omega, h⟩), h, if_neg (by omega), if_neg (by omega)]; rfl
        · rw [decide_eq_false (show ¬ (i < db.length ∧ (lsa db i).o = o) from fun g => h g.2), if_neg (by omega), if_pos (by omega)]; rfl
      · have hlt := of_decide_eq_false hlt
        refine .some ⟨i, hi, ?_⟩
        unfold hasAt
        rw [decide_eq_false (show ¬ (i < db.length ∧ (lsa db i).o = o) from fun g => by omega)]
    · rintro _ ⟨i, hi, rfl⟩
      exact .some ⟨i, hi, rfl⟩
  obtain ⟨r, h1, i, h2, h3⟩ := key
  exact ⟨i, h2, by rw [h1, h3]⟩
theorem fd_place {db : List Ls} {o : Int} {i : Nat} (hs : Srt db) (h : IsPl db o i) : fd db o = if hasAt db o i then some (lsa db i) else none := by
  unfold hasAt
  by_cases hc : i < db.length ∧ (lsa db i).o = o
  · rw [decide_eq_true hc, if_pos rfl]
    unfold fd
    rw [lsa_get hc.1]
    exact find_hit hc.1 (decide_eq_true (by rw [← lsa_get hc.1]; exact hc.2)) fun x hx hxi => decide_eq_false (by rw [← lsa_get hx]; have := h.2.1 x hxi; omega)
  · rw [decide_eq_false hc]
    unfold fd
    refine find_miss (p := fun l : Ls => decide (l.o = o)) (l := db) fun x hx => decide_eq_false ?_
    rw [← lsa_get hx]
    rcases Nat.lt_or_ge x i with h1 | h1
    · have := h.2.1 x h1; omega
    · intro e
      have h2 := h.2.2 x h1 hx
      have h3 := h.2.2 i (Nat.le_refl _) (by omega)
      rcases Nat.eq_or_lt_of_le h1 with e2 | e2
      · subst e2; exact hc ⟨hx, e⟩
      · have := hs i x e2 hx; omega
end Go.Proofs.YtojdflifijpffaaGreat
end
section
namespace Go.Proofs.YtojdflifijpffaaGreat
open Go.RowKit
set_option linter.unusedSimpArgs false
set_option linter.unusedVariables false
set_option maxRecDepth 100000

theorem asc_ext : ∀ {l l' : List Int}, l.Pairwise (· < ·) → l'.Pairwise (· < ·) → (∀ x, x ∈ l ↔ x ∈ l') → l = l'
  | [], [], _, _, _ => rfl
  | [], y :: s, _, _, h => by have := (h y).2 (List.mem_cons_self ..); simp at this
  | x :: r, [], _, _, h => by have := (h x).1 (List.mem_cons_self ..); simp at this
  | x :: r, y :: s, h1, h2, h => by
    have h1 := List.pairwise_cons.1 h1
    have h2 := List.pairwise_cons.1 h2
    have e : x = y := by
      rcases List.mem_cons.1 ((h x).1 (List.mem_cons_self ..)) with e | hx
      · exact e
      · rcases List.mem_cons.1 ((h y).2 (List.mem_cons_self ..)) with e | hy
        · exact e.symm
        · have q1 := h1.1 y hy
          have q2 := h2.1 x hx
          omega
    subst e
    have : r = s := asc_ext h1.2 h2.2 fun z => by
      constructor
      · intro hz
        rcases List.mem_cons.1 ((h z).1 (List.mem_cons_of_mem _ hz)) with e | hz'
        · subst e; have := h1.1 z hz; omega
        · exact hz'
      · intro hz
        rcases List.mem_cons.1 ((h z).2 (List.mem_cons_of_mem _ hz)) with e | hz'
        · subst e; have := h2.1 z hz; omega
        · exact hz'
    rw [this]
theorem sortI_mem {x : Int} {l : List Int} : x ∈ sortI l ↔ x ∈ l := List.mem_mergeSort
theorem sortI_asc {l : List Int} (h : l.Pairwise (· ≠ ·)) : (sortI l).Pairwise (· < ·) := by
  have h1 : (sortI l).Pairwise (fun a b => decide (a ≤ b) = true) := List.pairwise_mergeSort (fun a b c h1 h2 => decide_eq_true (by have := of_decide_eq_true h1; have := of_decide_eq_true h2; omega)) (fun a b => by simp; omega) l
  have h2 : (sortI l).Nodup := (List.mergeSort_perm l _).nodup_iff.2 h
  refine List.Pairwise.imp ?_ (List.Pairwise.and h1 h2)
  rintro a b ⟨q1, q2⟩
  have := of_decide_eq_true q1
  omega
theorem nbS_asc (ls : List Lk) (m : Int) (k : Nat) : (nbS ls m k).Pairwise (· < ·) := by
  unfold nbS
  rw [List.pairwise_map]
  refine List.Pairwise.imp ?_ (List.Pairwise.filter _ (List.pairwise_lt_range (n := k)))
  intro a b h
  omega
theorem nbS_mem {ls : List Lk} {m x : Int} {k : Nat} : x ∈ nbS ls m k ↔ ∃ j : Nat, j < k ∧ x = j ∧ (lc ls m j).isSome = true := by
  unfold nbS
  rw [List.mem_map]
  constructor
  · rintro ⟨j, hj, rfl⟩
    obtain ⟨h1, h2⟩ := List.mem_filter.1 hj
    exact ⟨j, List.mem_range.1 h1, rfl, by rw [lc_lof]; exact h2⟩
  · rintro ⟨j, h1, rfl, h2⟩
    rw [lc_lof] at h2
    exact ⟨j, List.mem_filter.2 ⟨List.mem_range.2 h1, h2⟩, rfl⟩
section
variable {N : Nat} {ls : List Lk}
theorem others_mem (g : GV N ls) {m : Int} {x : Int} : x ∈ others ls m ls.length ↔ (lc ls m x).isSome = true := by
  unfold others
  rw [List.mem_map, List.take_of_length_le (Nat.le_refl _)]
  constructor
  · rintro ⟨l, hl, rfl⟩
    obtain ⟨h1, h2⟩ := List.mem_filter.1 hl
    have ho := g.ok h1
    unfold okL at ho
    have h2 : m = l.a ∨ m = l.b := of_decide_eq_true h2
    unfold otherE
    by_cases e : m = l.a
    · rw [if_pos e, e, lc_mem g.pw h1 (by omega)]; rfl
    · have e2 := h2.resolve_left e
      rw [if_neg e, if_pos e2, e2, lc_symm, lc_mem g.pw h1 (by omega)]; rfl
  · intro h
    obtain ⟨c, hc⟩ := Option.isSome_iff_exists.1 h
    have hm := lc_some hc
    have ho := g.ok hm
    unfold okL at ho
    dsimp only at ho
    refine ⟨_, List.mem_filter.2 ⟨hm, decide_eq_true (by dsimp only; omega)⟩, ?_⟩
    unfold otherE
    dsimp only
    split
    · omega
    · rw [if_pos (by omega)]; omega
theorem others_nodup (g : GV N ls) (m : Int) : (others ls m ls.length).Pairwise (· ≠ ·) := by
  unfold others
  rw [List.take_of_length_le (Nat.le_refl _), List.pairwise_map]
  refine List.Pairwise.imp_of_mem ?_ (List.Pairwise.filter _ g.pw)
  intro a b ha hb hab
  obtain ⟨ha, ea⟩ := List.mem_filter.1 ha
  obtain ⟨hb, eb⟩ := List.mem_filter.1 hb
  have oa := g.ok ha
  have ob := g.ok hb
  have ea : m = a.a ∨ m = a.b := of_decide_eq_true ea
  have eb : m = b.a ∨ m = b.b := of_decide_eq_true eb
  unfold okL at oa ob
  unfold lxl at hab
  unfold otherE
  split <;> split <;> (try split) <;> (try split) <;> omega
theorem lc_none_out (g : GV N ls) {m x : Int} (h : (lc ls m x).isSome = true) : 0 ≤ x ∧ x < N ∧ 0 ≤ m ∧ m < N ∧ x ≠ m := by
  obtain ⟨c, hc⟩ := Option.isSome_iff_exists.1 h
  have ho := g.ok (lc_some hc)
  unfold okL at ho
  dsimp only at ho
  omega
theorem sort_nb (g : GV N ls) (m : Int) : sortI (others ls m ls.length) = nbS ls m N := by
  refine asc_ext (sortI_asc (others_nodup g m)) (nbS_asc ls m N) fun x => ?_
  rw [sortI_mem, others_mem g, nbS_mem]
  constructor
  · intro h
    have := lc_none_out g h
    exact ⟨x.toNat, by omega, by omega, by rw [show ((x.toNat : Nat) : Int) = x by omega]; exact h⟩
  · rintro ⟨j, _, rfl, h⟩; exact h
def endsOf (ls : List Lk) (N : Nat) (o : Int) : List En := (nbS ls o N).map fun n => ⟨n, (lc ls o n).getD 0⟩
theorem zEJ (g : GV N ls) (o s : Int) : zKX ((N : Int), ls, o, s, ()) = some (o, s, endsOf ls N o, ()) := by
  have h8 := g.2.1
  have fl : Fits ls := (show Fits ls by have := g.2.2.1; unfold Fits; omega)
  unfold zKX
  simp only [zEL (N : Int) ls o (by have := g.2.2.1; omega), sort_nb g o, Option.bind_some, nI_eq]
  have hlen := nbS_len ls o N
  have hmem : ∀ x ∈ nbS ls o N, ∃ c, lc ls o x = some c := fun x hx => by
    obtain ⟨j, _, rfl, h⟩ := nbS_mem.1 hx
    exact Option.isSome_iff_exists.1 h
  unfold endsOf
  generalize nbS ls o N = nb at *
  refine Sat.out (Sat.bnd (R := fun r => match r with | .inl x => x = (0, 0, o, s, [], nb.map fun n => ⟨n, (lc ls o n).getD 0⟩, ()) | .inr _ => False) ?_ ?_)
  · refine Sat.count nb.length (fun k t => t = (o, (nb.length : Int), (k : Int), (N : Int), ls, 0, 0, o, s, nb, [], (nb.take k).map (fun n => (⟨n, (lc ls o n).getD 0⟩ : En)), ())) ?_ (Nat.zero_le _) (fuel_lt (by omega)) (by simp)
    rintro k t hk rfl
    by_cases hlt : k < nb.length
    · obtain ⟨c, hc⟩ := hmem (iz nb k) (List.mem_of_getElem? (iz_get hlt))
      obtain ⟨h1, h2, h3⟩ := lc_at hc
      simp (disch := omega) only [zBL, at_int, at_lk, toN, w64, zEI _ _ _ _ fl, Option.bind_some, List.length_singleton, List.length_map]
      refine Sat.gd (decide_eq_true (by omega)) (Sat.gd (inR_t (by omega) (by omega)) (Sat.gd (inR_t h1 h2) (Sat.gd (decide_eq_true (by simp; omega)) (.some ⟨hlt, ?_⟩))))
      rw [h3, List.take_add_one, iz_get hlt]
      simp [hc]
    · obtain rfl : k = nb.length := by omega
      unfold zBL
      simp only [decide_eq_false (show ¬ (nb.length : Int) < nb.length by omega), cond_false, List.take_length]
      exact .some rfl
  · rintro (r | r) hr
    case inr => exact hr.elim
    obtain rfl := hr
    exact .some rfl
theorem endsOf_len (o : Int) : (endsOf ls N o).length ≤ N := by unfold endsOf; rw [List.length_map]; exact nbS_len ls o N
theorem zEd (g : GV N ls) (o s : Int) : zLZ ((N : Int), ls, o, s, ()) = some (o, s, endsOf ls N o, ()) := by
  have h8 := g.2.1
  have fl : Fits ls := (show Fits ls by have := g.2.2.1; unfold Fits; omega)
  unfold zLZ
  refine Sat.out (Sat.bnd (R := fun r => match r with | .inl x => x = (0, 0, [], o, s, endsOf ls N o, ()) | .inr _ => False) ?_ ?_)
  · refine Sat.count N (fun k t => t = (o, (k : Int), (N : Int), ls, 0, 0, [], o, s, (nbS ls o k).map (fun n => (⟨n, (lc ls o n).getD 0⟩ : En)), ())) ?_ (Nat.zero_le _) (fuel_lt (by omega)) (by simp [nbS])
    rintro k t hk rfl
    have hlen := nbS_len ls o k
    simp (disch := omega) only [zCF, at_lk, toN, w64, zEh _ _ _ _ fl, Option.bind_some, List.length_singleton, List.length_map]
    refine Sat.ite (fun hlt => ?_) (fun hlt => ?_)
    · have hlt := of_decide_eq_true hlt
      cases hc : lc ls o k with
      | none =>
        refine Sat.no (by rw [lc_no hc]; rfl) (.some ⟨by omega, ?_⟩)
        rw [nbS_succ, if_neg (by rw [lc_no hc]; omega)]
        rfl
      | some c =>
        obtain ⟨h1, h2, h3⟩ := lc_at hc
        refine Sat.gd (decide_eq_true h1) (Sat.gd (inR_t h1 h2) (Sat.gd (decide_eq_true (by omega)) (.some ⟨by omega, ?_⟩)))
        rw [nbS_succ, if_pos h1, h3]
        simp [hc]
    · have hlt := of_decide_eq_false hlt
      obtain rfl : k = N := by omega
      exact .some rfl
  · rintro (r | r) hr
    case inr => exact hr.elim
    obtain rfl := hr
    exact .some rfl
end
end Go.Proofs.YtojdflifijpffaaGreat
end
section
namespace Go.Proofs.YtojdflifijpffaaGreat
open Go.RowKit
set_option linter.unusedSimpArgs false
set_option linter.unusedVariables false
set_option maxRecDepth 100000

theorem zDi (db : List Ls) (a b : Int) (hs : Srt db) (hl : db.length ≤ 2000000000) (he : ∀ l ∈ db, Fits l.e) : zLe (db, a, b, ()) = some (ann db a b, ()) := by
  obtain ⟨i, hi, e⟩ := zDq db a hs hl
  unfold zLe
  rw [e]
  dsimp only [Option.bind_some]
  unfold ann
  rw [fd_place hs hi]
  refine Sat.out ?_
  rcases cs_bool (hasAt db a i) with h | h
  · refine Sat.gd (by rw [h]; rfl) ?_
    rw [h]
    exact .some rfl
  · refine Sat.no (by rw [h]; rfl) ?_
    have hh := of_decide_eq_true h
    refine Sat.gd (inR_t (by omega) (by omega)) ?_
    rw [if_pos h, at_ls, toN, nI_eq]
    dsimp only
    have hf : Fits (lsa db i).e := he _ (by rw [lsa_get hh.1]; exact List.getElem_mem hh.1)
    generalize (lsa db i).e = es at *
    refine Sat.bnd (R := fun r => match r with | .inl _ => ec es b = 0 | .inr z => z.1 = ec es b) ?_ ?_
    · refine Sat.count es.length (fun k t => t = (b, es, (es.length : Int), (k : Int), ()) ∧ ∀ i, i < k → (en es i).n ≠ b) ?_ (Nat.zero_le _) (fuel_lt (by omega)) ⟨rfl, fun i hi => by omega⟩
      rintro k t hk ⟨rfl, hok⟩
      simp (disch := omega) only [zB3, at_en, toN, w64, nI_eq]
      repeat' (first
        | refine Sat.some ?_
        | fail
        | (refine Sat.gd (by first | exact inR_t (by omega) (by omega) | (simp (disch := omega) only [w64]; exact inR_t (by omega) (by omega))) ?_)
        | (refine Sat.ite (fun h => ?_) (fun h => ?_) <;> try simp only [decide_eq_true_eq, decide_eq_false_iff_not, Bool.not_eq_true', Bool.not_eq_false', inB_i, inB_j, Bool.and_eq_true, Bool.or_eq_true, Bool.and_eq_false_iff, Bool.or_eq_false_iff, El] at h))
      all_goals try dsimp only
      · have hlt : k < es.length := by omega
        unfold ec
        rw [find_hit (k := k) hlt (decide_eq_true (by rw [← en_get hlt]; assumption)) fun i hi hik => decide_eq_false (by rw [← en_get hi]; exact hok i hik), en_get hlt]
      · refine ⟨by omega, rfl, fun i hi => ?_⟩
        by_cases e : i < k
        · exact hok i e
        · obtain rfl : i = k := by omega
          assumption
      · unfold ec
        rw [find_miss (p := fun e : En => decide (e.n = b)) (l := es) fun i hi => decide_eq_false (by rw [← en_get hi]; exact hok i (by omega))]
    · rintro (r | r) hr
      · have hr : ec es b = 0 := hr
        exact .some (by rw [hr])
      · obtain ⟨z, u⟩ := r
        have hr : z = ec es b := hr
        exact .some (by rw [hr])
def dbF (db : List Ls) (a b : Nat) : Option Int := if 0 < ann db a b ∧ 0 < ann db b a then some (max (ann db a b) (ann db b a)) else none
section
variable {db : List Ls} {N : Nat}
theorem cell_db {a b : Nat} : cell (dbF db) a b = if 0 < ann db a b ∧ 0 < ann db b a then [⟨a, b, max (ann db a b) (ann db b a)⟩] else [] := by
  unfold cell dbF
  split <;> rename_i h
  · split at h
    · rename_i h2
      injection h with h
      rw [if_pos h2, ← h]
    · cases h
  · split at h
    · cases h
    · rename_i h2
      rw [if_neg h2]
theorem le64 {k : Nat} (h8 : N ≤ 8) (hk : k ≤ N) : k * N ≤ 64 := Nat.le_trans (Nat.mul_le_mul hk (Nat.le_refl N)) (Nat.le_trans (Nat.mul_le_mul h8 h8) (by omega))
theorem zDt (hs : Srt db) (hl : db.length ≤ 2000000000) (he : ∀ l ∈ db, Fits l.e) (h8 : N ≤ 8) {n : Nat} (hn : n < N) (x4 x6 x7 : Int) (xl xo : List Lk) (ho : xo.length ≤ 1000) : Sat (lp zBD fuel ((N : Int), db, (n : Int), wrap64 ((n : Int) + 1), x4, (n : Int), x6, x7, xl, xo, ())) fun r => match r with
      | .inl x => x = ((N : Int), db, x4, (n : Int), x6, x7, xl, xo ++ gridR (dbF db) n (N - 1 - n), ())
      | .inr _ => False := by
  refine Sat.count (N - 1 - n) (fun k s => s = ((N : Int), db, (n : Int), ((n + 1 + k : Nat) : Int), x4, (n : Int), x6, x7, xl, xo ++ gridR (dbF db) n k, ())) ?_ (Nat.zero_le _) (fuel_lt (by omega)) (by rw [w64 (by omega) (by omega)]; simp [gridR])
  rintro k s hk rfl
  have hlen := gridR_len (dbF db) n k
  have fin : ∀ c : List Lk, cell (dbF db) n (n + 1 + k) = c → k < N - 1 - n → ((N : Int), db, (n : Int), wrap64 (((n + 1 + k : Nat) : Int) + 1), x4, (n : Int), x6, x7, xl, (xo ++ gridR (dbF db) n k) ++ c, ()) = ((N : Int), db, (n : Int), ((n + 1 + (k + 1) : Nat) : Int), x4, (n : Int), x6, x7, xl, xo ++ gridR (dbF db) n (k + 1), ()) := fun c hc hk => by
    rw [gridR_succ, hc, w64 (by omega) (by omega), List.append_assoc]
    rfl
  simp only [zBD, zDi _ _ _ hs hl he, Option.bind_some, List.length_singleton, List.length_append]
  refine Sat.ite (fun hlt => ?_) (fun hlt => ?_)
  · have hlt := of_decide_eq_true hlt
    have hkN : k < N - 1 - n := by omega
    have hcell := cell_db (db := db) (a := n) (b := n + 1 + k)
    refine Sat.ite (fun h1 => Sat.ite (fun h2 => ?_) (fun h2 => ?_)) (fun h1 => ?_)
    · have h1 := of_decide_eq_true h1
      have h2 := of_decide_eq_true h2
      rw [if_pos ⟨h1, h2⟩] at hcell
      exact Sat.gd (decide_eq_true (by omega)) (.some ⟨hkN, fin _ hcell hkN⟩)
    · have h2 := of_decide_eq_false h2
      rw [if_neg fun h => h2 h.2] at hcell
      have := fin _ hcell hkN
      rw [List.append_nil] at this
      exact .some ⟨hkN, this⟩
    · have h1 := of_decide_eq_false h1
      rw [if_neg fun h => h1 h.1] at hcell
      have := fin _ hcell hkN
      rw [List.append_nil] at this
      exact .some ⟨hkN, this⟩
  · have hlt := of_decide_eq_false hlt
    obtain rfl : k = N - 1 - n := by omega
    exact .some rfl
end
def dbOk (n : Int) (db : List Ls) : Bool := inB n 1 8 && dbv db && decide ((grid (dbF db) n.toNat).length ≤ 14)
theorem zC4 (n : Int) (db : List Ls) (hl : db.length ≤ 2000000000) (he : ∀ l ∈ db, Fits l.e) : zKM (n, db, ()) = some (if dbOk n db then (n, true, grid (dbF db) n.toNat, ()) else (0, false, [], ())) := by
  unfold zKM dbOk
  simp only [zFY, zC6 db (show Fits db by unfold Fits; omega) he, Option.bind_some]
  cases h1 : inB n 1 8 with
  | false => rfl
  | true =>
  cases h2 : dbv db with
  | false => rfl
  | true =>
  have h1 := inB_t h1
  have hs : Srt db := DbV.srt (of_decide_eq_true h2)
  obtain ⟨N, rfl⟩ := Int.eq_ofNat_of_zero_le (show 0 ≤ n by omega)
  have h8 : N ≤ 8 := by omega
  rw [Int.toNat_natCast]
  simp only [Bool.not_true, cond_false, Bool.true_and, Bool.and_self]
  refine Sat.out (Sat.bnd (R := fun r => match r with | .inl x => x.2.1 = (N : Int) ∧ x.2.2.2.1 = grid (dbF db) N | .inr _ => False) ?_ ?_)
  · refine Sat.count N (fun k s => s = ((N : Int), db, (N : Int), (k : Int), 0, (N : Int), [], gridK (dbF db) N k, ())) ?_ (Nat.zero_le _) (fuel_lt (by omega)) rfl
    rintro k s hk rfl
    have hlen := gridK_len (dbF db) N k
    have hkN := le64 h8 hk
    unfold zBC
    dsimp only
    refine Sat.ite (fun hlt => ?_) (fun hlt => ?_)
    · have hlt := of_decide_eq_true hlt
      have hkl : k < N := by omega
      refine Sat.bnd (zDt hs hl he h8 hkl (N : Int) 0 (N : Int) [] _ (by omega)) ?_
      rintro (r | r) hr
      case inr => exact hr.elim
      obtain rfl := hr
      refine .some ⟨hkl, ?_⟩
      dsimp only
      rw [gridK_succ, w64 (by omega) (by omega)]
      rfl
    · have hlt := of_decide_eq_false hlt
      obtain rfl : k = N := by omega
      exact .some ⟨rfl, rfl⟩
  · rintro (r | r) hr
    case inr => exact hr.elim
    have hr : r.2.1 = (N : Int) ∧ r.2.2.2.1 = grid (dbF db) N := hr
    dsimp only
    rw [hr.1, hr.2, nI_eq]
    by_cases h14 : (grid (dbF db) N).length ≤ 14
    · refine Sat.no (decide_eq_false (by omega)) (.some ?_)
      rw [decide_eq_true h14]; rfl
    · refine Sat.gd (decide_eq_true (by omega)) (.some ?_)
      rw [decide_eq_false h14]; rfl
end Go.Proofs.YtojdflifijpffaaGreat
end
section
namespace Go.Proofs.YtojdflifijpffaaGreat
open Go.RowKit
set_option linter.unusedSimpArgs false
set_option linter.unusedVariables false

abbrev SrtP (db : List Ls) : Prop := db.Pairwise fun x y => x.o < y.o
theorem srt_iff {db : List Ls} : Srt db ↔ SrtP db := by
  unfold SrtP
  rw [List.pairwise_iff_getElem]
  constructor
  · intro h i j hi hj hij
    have := h i j hij hj
    rwa [lsa_get hi, lsa_get hj] at this
  · intro h i j hij hj
    rw [lsa_get (show i < db.length by omega), lsa_get hj]
    exact h i j (by omega) hj hij
theorem dbV_iff {db : List Ls} : DbV db ↔ (∀ l ∈ db, LsV l) ∧ SrtP db := by
  constructor
  · intro h
    refine ⟨fun l hl => ?_, srt_iff.1 h.srt⟩
    obtain ⟨i, hi, rfl⟩ := List.getElem_of_mem hl
    have := (h i hi).1
    rwa [lsa_get hi] at this
  · rintro ⟨h1, h2⟩ i hi
    refine ⟨?_, fun h0 => srt_iff.2 h2 (i - 1) i (by omega) hi⟩
    rw [lsa_get hi]
    exact h1 _ (List.getElem_mem hi)
def putL (db : List Ls) (l : Ls) : List Ls := db.filter (fun x => decide (x.o < l.o)) ++ l :: db.filter (fun x => decide (l.o < x.o))
def putC (db : List Ls) (l : Ls) : Int := match fd db l.o with | some old => if old.s = l.s then 1 else if l.s < old.s then 2 else 0 | none => 0
def putD (db : List Ls) (l : Ls) : List Ls := if putC db l = 0 then putL db l else db
theorem putL_mem {db : List Ls} {l x : Ls} : x ∈ putL db l ↔ x = l ∨ x ∈ db ∧ x.o ≠ l.o := by
  unfold putL
  rw [List.mem_append, List.mem_cons, List.mem_filter, List.mem_filter]
  simp only [decide_eq_true_eq]
  constructor
  · rintro (⟨h1, h2⟩ | rfl | ⟨h1, h2⟩)
    · exact .inr ⟨h1, by omega⟩
    · exact .inl rfl
    · exact .inr ⟨h1, by omega⟩
  · rintro (rfl | ⟨h1, h2⟩)
    · exact .inr (.inl rfl)
    · rcases Int.lt_or_gt_of_ne h2 with h | h
      · exact .inl ⟨h1, h⟩
      · exact .inr (.inr ⟨h1, h⟩)
theorem putL_srt {db : List Ls} (h : SrtP db) (l : Ls) : SrtP (putL db l) := by
  unfold putL SrtP
  rw [List.pairwise_append, List.pairwise_cons]
  refine ⟨List.Pairwise.filter _ h, ⟨fun x hx => ?_, List.Pairwise.filter _ h⟩, fun x hx y hy => ?_⟩
  · exact of_decide_eq_true (List.mem_filter.1 hx).2
  · have h1 : x.o < l.o := of_decide_eq_true (List.mem_filter.1 hx).2
    rcases List.mem_cons.1 hy with rfl | hy
    · exact h1
    · have h2 : l.o < y.o := of_decide_eq_true (List.mem_filter.1 hy).2
      omega
theorem putD_srt {db : List Ls} (h : SrtP db) (l : Ls) : SrtP (putD db l) := by
  unfold putD
  split
  · exact putL_srt h l
  · exact h
theorem putD_ok {db : List Ls} (h : DbV db) {l : Ls} (hl : LsV l) : DbV (putD db l) := by
  have := dbV_iff.1 h
  refine dbV_iff.2 ⟨fun x hx => ?_, putD_srt this.2 l⟩
  unfold putD at hx
  split at hx
  · rcases putL_mem.1 hx with rfl | hx
    · exact hl
    · exact this.1 x hx.1
  · exact this.1 x hx
theorem srt_uniq {db : List Ls} (h : SrtP db) {x y : Ls} (hx : x ∈ db) (hy : y ∈ db) (e : x.o = y.o) : x = y := by
  obtain ⟨i, hi, rfl⟩ := List.getElem_of_mem hx
  obtain ⟨j, hj, rfl⟩ := List.getElem_of_mem hy
  rcases Nat.lt_trichotomy i j with h1 | h1 | h1
  · have := List.pairwise_iff_getElem.1 h i j hi hj h1; omega
  · subst h1; rfl
  · have := List.pairwise_iff_getElem.1 h j i hj hi h1; omega
theorem fd_some {db : List Ls} (h : SrtP db) {o : Int} {x : Ls} : fd db o = some x ↔ x ∈ db ∧ x.o = o := by
  unfold fd
  constructor
  · intro e
    exact ⟨List.mem_of_find?_eq_some e, of_decide_eq_true (List.find?_some (p := fun l : Ls => decide (l.o = o)) e)⟩
  · rintro ⟨hx, rfl⟩
    cases e : db.find? (fun l => decide (l.o = x.o)) with
    | none =>
      have := List.find?_eq_none.1 e x hx
      simp at this
    | some y =>
      have h1 := List.mem_of_find?_eq_some e
      have h2 : y.o = x.o := of_decide_eq_true (List.find?_some (p := fun l : Ls => decide (l.o = x.o)) e)
      rw [srt_uniq h h1 hx h2]
theorem fd_none {db : List Ls} {o : Int} : fd db o = none ↔ ∀ x ∈ db, x.o ≠ o := by
  unfold fd
  rw [List.find?_eq_none]
  constructor
  · intro h x hx e; exact h x hx (decide_eq_true e)
  · intro h x hx e; exact h x hx (of_decide_eq_true e)
theorem fd_put {db : List Ls} (h : SrtP db) (l : Ls) (o : Int) : fd (putD db l) o = if o = l.o ∧ putC db l = 0 then some l else fd db o := by
  unfold putD
  by_cases hc : putC db l = 0
  · rw [if_pos hc]
    by_cases ho : o = l.o
    · rw [if_pos ⟨ho, hc⟩]
      exact (fd_some (putL_srt h l)).2 ⟨putL_mem.2 (.inl rfl), ho.symm⟩
    · rw [if_neg fun g => ho g.1]
      cases e : fd db o with
      | none =>
        rw [fd_none] at e ⊢
        intro x hx
        rcases putL_mem.1 hx with rfl | ⟨hx, _⟩
        · exact fun g => ho g.symm
        · exact e x hx
      | some y =>
        obtain ⟨h1, h2⟩ := (fd_some h).1 e
        exact (fd_some (putL_srt h l)).2 ⟨putL_mem.2 (.inr ⟨h1, by omega⟩), h2⟩
  · rw [if_neg hc, if_neg fun g => hc g.2]
theorem srt_ext : ∀ {a b : List Ls}, SrtP a → SrtP b → (∀ x, x ∈ a ↔ x ∈ b) → a = b
  | [], [], _, _, _ => rfl
  | [], y :: s, _, _, h => by have := (h y).2 (List.mem_cons_self ..); simp at this
  | x :: r, [], _, _, h => by have := (h x).1 (List.mem_cons_self ..); simp at this
  | x :: r, y :: s, h1, h2, h => by
    have h1 := List.pairwise_cons.1 h1
    have h2 := List.pairwise_cons.1 h2
    have e : x = y := by
      rcases List.mem_cons.1 ((h x).1 (List.mem_cons_self ..)) with e | hx
      · exact e
      · rcases List.mem_cons.1 ((h y).2 (List.mem_cons_self ..)) with e | hy
        · exact e.symm
        · have q1 := h1.1 y hy
          have q2 := h2.1 x hx
          omega
    subst e
    have : r = s := srt_ext h1.2 h2.2 fun z => by
      constructor
      · intro hz
        rcases List.mem_cons.1 ((h z).1 (List.mem_cons_of_mem _ hz)) with e | hz'
        · subst e; have := h1.1 z hz; omega
        · exact hz'
      · intro hz
        rcases List.mem_cons.1 ((h z).2 (List.mem_cons_of_mem _ hz)) with e | hz'
        · subst e; have := h2.1 z hz; omega
        · exact hz'
    rw [this]
theorem put_set {db : List Ls} (h : SrtP db) {l : Ls} {i : Nat} (hi : i < db.length) (ho : (lsa db i).o = l.o) : db.set i l = putL db l := by
  have hs : SrtP (db.set i l) := by
    unfold SrtP
    rw [List.pairwise_iff_getElem]
    intro a b ha hb hab
    rw [List.length_set] at ha hb
    have hp := fun x y (hx : x < db.length) (hy : y < db.length) (hxy : x < y) => List.pairwise_iff_getElem.1 h x y hx hy hxy
    rw [lsa_get hi] at ho
    rw [List.getElem_set, List.getElem_set]
    split <;> split
    · omega
    · rename_i e1 e2; subst e1; have := hp i b hi hb hab; omega
    · rename_i e1 e2; subst e2; have := hp a i ha hi hab; omega
    · exact hp a b ha hb hab
  refine srt_ext hs (putL_srt h l) fun x => ?_
  rw [putL_mem]
  rw [lsa_get hi] at ho
  constructor
  · intro hx
    obtain ⟨j, hj, rfl⟩ := List.getElem_of_mem hx
    rw [List.length_set] at hj
    rw [List.getElem_set]
    split
    · exact .inl rfl
    · rename_i e
      refine .inr ⟨List.getElem_mem hj, fun g => ?_⟩
      rcases Nat.lt_or_gt_of_ne e with h1 | h1
      · have := List.pairwise_iff_getElem.1 h i j hi hj h1; omega
      · have := List.pairwise_iff_getElem.1 h j i hj hi h1; omega
  · rintro (rfl | ⟨hx, hne⟩)
    · exact List.mem_set hi x
    · obtain ⟨j, hj, rfl⟩ := List.getElem_of_mem hx
      have e : i ≠ j := by rintro rfl; exact hne ho
      have : (db.set i l)[j]'(by rw [List.length_set]; exact hj) = db[j] := by rw [List.getElem_set, if_neg e]
      rw [← this]
      exact List.getElem_mem _
theorem put_insert {db : List Ls} (h : SrtP db) {l : Ls} {i : Nat} (hp : IsPl db l.o i) (hn : hasAt db l.o i = false) : db.take i ++ l :: db.drop i = putL db l := by
  have hno : ∀ x ∈ db, x.o ≠ l.o := fd_none.1 (by rw [fd_place (srt_iff.2 h) hp, hn]; rfl)
  have e1 : ∀ x ∈ db.take i, x.o < l.o := fun x hx => by
    obtain ⟨j, hj, rfl⟩ := List.getElem_of_mem hx
    rw [List.length_take] at hj
    rw [List.getElem_take, ← lsa_get (show j < db.length by omega)]
    exact hp.2.1 j (by omega)
  have e2 : ∀ x ∈ db.drop i, l.o < x.o := fun x hx => by
    have hm := hno x (List.mem_of_mem_drop hx)
    obtain ⟨j, hj, rfl⟩ := List.getElem_of_mem hx
    rw [List.length_drop] at hj
    rw [List.getElem_drop] at hm ⊢
    have := hp.2.2 (i + j) (by omega) (by omega)
    rw [lsa_get (show i + j < db.length by omega)] at this
    omega
  have hs : SrtP (db.take i ++ l :: db.drop i) := by
    unfold SrtP
    rw [List.pairwise_append, List.pairwise_cons]
    refine ⟨List.Pairwise.sublist (List.take_sublist _ _) h, ⟨e2, List.Pairwise.sublist (List.drop_sublist _ _) h⟩, fun x hx y hy => ?_⟩
    have := e1 x hx
    rcases List.mem_cons.1 hy with rfl | hy
    · exact this
    · have := e2 y hy; omega
  refine srt_ext hs (putL_srt h l) fun x => ?_
  rw [putL_mem, List.mem_append, List.mem_cons]
  constructor
  · rintro (hx | rfl | hx)
    · exact .inr ⟨List.mem_of_mem_take hx, hno x (List.mem_of_mem_take hx)⟩
    · exact .inl rfl
    · exact .inr ⟨List.mem_of_mem_drop hx, hno x (List.mem_of_mem_drop hx)⟩
  · rintro (rfl | ⟨hx, _⟩)
    · exact .inr (.inl rfl)
    · rw [← List.take_append_drop i db, List.mem_append] at hx
      exact hx.imp id .inr
def mergeD (db other : List Ls) : List Ls := other.foldl putD db
def seqD (db : List Ls) (o : Int) : Int := match fd db o with | some l => l.s | none => -1
theorem mergeD_srt {db : List Ls} (h : SrtP db) (other : List Ls) : SrtP (mergeD db other) := by
  unfold mergeD
  induction other generalizing db with
  | nil => exact h
  | cons l r ih => exact ih (putD_srt h l)
theorem mergeD_ok {db other : List Ls} (h : DbV db) (h' : ∀ l ∈ other, LsV l) : DbV (mergeD db other) := by
  unfold mergeD
  induction other generalizing db with
  | nil => exact h
  | cons l r ih => exact ih (putD_ok h (h' l (List.mem_cons_self ..))) fun x hx => h' x (List.mem_cons_of_mem _ hx)
theorem seq_put {db : List Ls} (h : SrtP db) {l : Ls} (hl : 0 ≤ l.s) (o : Int) : seqD (putD db l) o = if o = l.o then max (seqD db o) l.s else seqD db o := by
  unfold seqD
  rw [fd_put h l o]
  by_cases ho : o = l.o
  · subst ho
    rw [if_pos rfl]
    cases e : fd db l.o with
    | none =>
      have hc : putC db l = 0 := by unfold putC; rw [e]
      rw [hc, if_pos ⟨rfl, rfl⟩]
      dsimp only
      omega
    | some old =>
      by_cases h1 : old.s = l.s
      · have hc : putC db l = 1 := by unfold putC; rw [e]; exact if_pos h1
        rw [hc, if_neg (fun g => by have := g.2; omega)]
        dsimp only
        omega
      · by_cases h2 : l.s < old.s
        · have hc : putC db l = 2 := by unfold putC; rw [e]; dsimp only; rw [if_neg h1, if_pos h2]
          rw [hc, if_neg (fun g => by have := g.2; omega)]
          dsimp only
          omega
        · have hc : putC db l = 0 := by unfold putC; rw [e]; dsimp only; rw [if_neg h1, if_neg h2]
          rw [hc, if_pos ⟨rfl, rfl⟩]
          dsimp only
          omega
  · rw [if_neg fun g => ho g.1, if_neg ho]
theorem putC_zero {db : List Ls} {l : Ls} (hl : 0 ≤ l.s) : putC db l = 0 ↔ seqD db l.o < l.s := by
  unfold putC seqD
  cases fd db l.o with
  | none => simp; omega
  | some old =>
    dsimp only
    by_cases h1 : old.s = l.s
    · rw [if_pos h1]; omega
    · rw [if_neg h1]
      by_cases h2 : l.s < old.s
      · rw [if_pos h2]; omega
      · rw [if_neg h2]; omega
theorem fd_cons (l : Ls) (r : List Ls) (o : Int) : fd (l :: r) o = if l.o = o then some l else fd r o := by
  unfold fd
  rw [List.find?_cons]
  by_cases h : l.o = o
  · rw [if_pos h, decide_eq_true h]
  · rw [if_neg h, decide_eq_false h]
theorem seq_low {db : List Ls} (h : ∀ l ∈ db, 0 ≤ l.s) (o : Int) : -1 ≤ seqD db o := by
  unfold seqD
  cases e : fd db o with
  | none => simp
  | some l => have := h l (List.mem_of_find?_eq_some e); dsimp only; omega
theorem fd_merge {a b : List Ls} (ha : SrtP a) (hb : SrtP b) (hs : ∀ l ∈ b, 0 ≤ l.s) (hsa : ∀ l ∈ a, 0 ≤ l.s) (o : Int) : fd (mergeD a b) o = if seqD a o < seqD b o then fd b o else fd a o := by
  unfold mergeD
  induction b generalizing a with
  | nil =>
    have : seqD [] o = -1 := rfl
    rw [if_neg (by have := seq_low hsa o; omega)]
    rfl
  | cons l r ih =>
    have hb' := List.pairwise_cons.1 hb
    have hl := hs l (List.mem_cons_self ..)
    have hsa' : ∀ x ∈ putD a l, 0 ≤ x.s := fun x hx => by
      unfold putD at hx
      split at hx
      · rcases putL_mem.1 hx with rfl | hx
        · exact hl
        · exact hsa x hx.1
      · exact hsa x hx
    have ih := ih (putD_srt ha l) hb'.2 (fun x hx => hs x (List.mem_cons_of_mem _ hx)) hsa'
    rw [List.foldl_cons, ih, seq_put ha hl, fd_put ha, fd_cons]
    have hq : seqD (l :: r) o = if l.o = o then l.s else seqD r o := by
      unfold seqD
      rw [fd_cons]
      by_cases e : l.o = o
      · rw [if_pos e, if_pos e]
      · rw [if_neg e, if_neg e]
    rw [hq]
    by_cases ho : o = l.o
    · subst ho
      have hr : seqD r l.o = -1 := by
        unfold seqD
        rw [fd_none.2 fun x hx e => by have := hb'.1 x hx; omega]
      have hla := seq_low hsa l.o
      rw [if_pos rfl, if_pos rfl, if_pos rfl, hr, if_neg (by omega)]
      by_cases hc : putC a l = 0
      · rw [if_pos ⟨rfl, hc⟩, if_pos ((putC_zero hl).1 hc)]
      · rw [if_neg fun g => hc g.2, if_neg fun g => hc ((putC_zero hl).2 g)]
    · have h1 : ¬ l.o = o := fun g => ho g.symm
      have h2 : ¬ (o = l.o ∧ putC a l = 0) := fun g => ho g.1
      simp only [if_neg ho, if_neg h1, if_neg h2]
theorem seq_merge {a b : List Ls} (ha : SrtP a) (hb : SrtP b) (hs : ∀ l ∈ b, 0 ≤ l.s) (hsa : ∀ l ∈ a, 0 ≤ l.s) (o : Int) : seqD (mergeD a b) o = max (seqD a o) (seqD b o) := by
  have h := fd_merge ha hb hs hsa o
  by_cases hc : seqD a o < seqD b o
  · rw [if_pos hc] at h
    have : seqD (mergeD a b) o = seqD b o := by unfold seqD; rw [h]
    omega
  · rw [if_neg hc] at h
    have : seqD (mergeD a b) o = seqD a o := by unfold seqD; rw [h]
    omega
def Agree (a b : List Ls) : Prop := ∀ x ∈ a, ∀ y ∈ b, x.o = y.o → x.s = y.s → x = y
theorem agree_ext {a b : List Ls} (ha : SrtP a) (hb : SrtP b) (hs : ∀ l ∈ b, 0 ≤ l.s) (hsa : ∀ l ∈ a, 0 ≤ l.s) (hab : Agree a b) (h : ∀ o, seqD a o = seqD b o) : a = b := by
  have key : ∀ {a b : List Ls}, SrtP a → SrtP b → (∀ l ∈ b, 0 ≤ l.s) → (∀ l ∈ a, 0 ≤ l.s) → Agree a b → (∀ o, seqD a o = seqD b o) → ∀ x, x ∈ a → x ∈ b := fun {a b} ha hb hs hsa hab h x hx => by
    have hf := (fd_some ha).2 ⟨hx, rfl⟩
    have e := h x.o
    unfold seqD at e
    rw [hf] at e
    cases hg : fd b x.o with
    | none =>
      rw [hg] at e
      dsimp only at e
      have := hsa x hx
      omega
    | some y =>
      rw [hg] at e
      dsimp only at e
      obtain ⟨h1, h2⟩ := (fd_some hb).1 hg
      rw [hab x hx y h1 h2.symm e]
      exact h1
  exact srt_ext ha hb fun x => ⟨key ha hb hs hsa hab h x, key hb ha hsa hs (fun x hx y hy e1 e2 => (hab y hy x hx e1.symm e2.symm).symm) (fun o => (h o).symm) x⟩
theorem merge_mem {a b : List Ls} {x : Ls} (hx : x ∈ mergeD a b) : x ∈ a ∨ x ∈ b := by
  unfold mergeD at hx
  induction b generalizing a with
  | nil => exact .inl hx
  | cons l r ih =>
    rcases ih hx with h | h
    · unfold putD at h
      split at h
      · rcases putL_mem.1 h with rfl | h
        · exact .inr (List.mem_cons_self ..)
        · exact .inl h.1
      · exact .inl h
    · exact .inr (List.mem_cons_of_mem _ h)
end Go.Proofs.YtojdflifijpffaaGreat
end
section
namespace Go.Proofs.YtojdflifijpffaaGreat
open Go.RowKit
set_option linter.unusedSimpArgs false
set_option linter.unusedVariables false
set_option maxRecDepth 100000

instance : DecidableEq En := fun a b => decidable_of_iff (a.n = b.n ∧ a.c = b.c) ⟨fun ⟨h1, h2⟩ => by cases a; cases b; simp_all, fun h => by subst h; exact ⟨rfl, rfl⟩⟩
instance : DecidableEq Ls := fun a b => decidable_of_iff (a.o = b.o ∧ a.s = b.s ∧ a.e = b.e) ⟨fun ⟨h1, h2, h3⟩ => by cases a; cases b; simp_all, fun h => by subst h; exact ⟨rfl, rfl, rfl⟩⟩
abbrev Sm {α : Type} (l : List α) : Prop := l.length ≤ 16000000
def SmD (db : List Ls) : Prop := Sm db ∧ ∀ l ∈ db, Sm l.e
theorem SmD.fits {db : List Ls} (h : SmD db) : Fits db := by have := h.1; unfold Fits; unfold Sm at this; omega
theorem SmD.fe {db : List Ls} (h : SmD db) : ∀ l ∈ db, Fits l.e := fun l hl => by have := h.2 l hl; unfold Fits; unfold Sm at this; omega
theorem lsa_mem {db : List Ls} {k : Nat} (h : k < db.length) : lsa db k ∈ db := by rw [lsa_get h]; exact List.getElem_mem h
theorem take_lsa {db : List Ls} {k : Nat} (h : k < db.length) : db.take k ++ [⟨(lsa db k).o, (lsa db k).s, (lsa db k).e⟩] = db.take (k + 1) := by
  rw [List.take_add_one, List.getElem?_eq_getElem h, lsa_get h]; rfl
theorem zDo (o s : Int) (es : List En) (h : Sm es) : zLg (o, s, es, ()) = some (o, s, es, ()) := by
  unfold zLg zLC
  rw [decide_eq_true (by unfold Sm at h; dsimp only; omega)]
  rfl
theorem zEe (o s : Int) (es : List En) (h : Sm es) : zL0 (o, s, es, ()) = some (o, s, es, ()) := by
  unfold zL0
  rw [decide_eq_true (by unfold Sm at h; simp; omega)]
  rfl
theorem zDn (db : List Ls) (h : SmD db) : zLf (db, ()) = some (db, ()) := by
  have h1 := h.1
  unfold Sm at h1
  unfold zLf
  refine Sat.out (Sat.bnd (R := fun r => match r with | .inl x => x = (db, ()) | .inr _ => False) ?_ ?_)
  · refine Sat.count db.length (fun k t => t = (db, (db.length : Int), (k : Int), db.take k, ())) ?_ (Nat.zero_le _) (fuel_lt (by omega)) (by simp [nI_eq])
    rintro k t hk rfl
    by_cases hlt : k < db.length
    · simp (disch := omega) only [zB4, at_ls, toN, w64, zDo _ _ _ (h.2 _ (lsa_mem hlt)), Option.bind_some]
      refine Sat.gd (decide_eq_true (by omega)) (Sat.gd (inR_t (by omega) (by omega)) (Sat.gd (decide_eq_true (by simp; omega)) (.some ⟨hlt, ?_⟩)))
      rw [take_lsa hlt]
      rfl
    · obtain rfl : k = db.length := by omega
      unfold zB4
      simp only [decide_eq_false (show ¬ (db.length : Int) < db.length by omega), cond_false, List.take_length]
      exact .some rfl
  · rintro (r | r) hr
    case inr => exact hr.elim
    obtain rfl := hr
    exact .some rfl
theorem zEa (db : List Ls) (h : SmD db) : zLW (db, ()) = some (db, ()) := by
  have h1 := h.1
  unfold Sm at h1
  unfold zLW
  refine Sat.out (Sat.bnd (R := fun r => match r with | .inl x => x = (db, ()) | .inr _ => False) ?_ ?_)
  · refine Sat.count db.length (fun k t => t = (db, (k : Int), db.take k, ())) ?_ (Nat.zero_le _) (fuel_lt (by omega)) (by simp [nI_eq])
    rintro k t hk rfl
    by_cases hlt : k < db.length
    · simp (disch := omega) only [zCC, at_ls, toN, w64, nI_eq, zEe _ _ _ (h.2 _ (lsa_mem hlt)), Option.bind_some]
      refine Sat.gd (decide_eq_true (by omega)) (Sat.gd (inR_t (by omega) (by omega)) (Sat.gd (decide_eq_true (by simp; omega)) (.some ⟨hlt, ?_⟩)))
      rw [take_lsa hlt]
      rfl
    · obtain rfl : k = db.length := by omega
      unfold zCC
      simp only [nI_eq, decide_eq_false (show ¬ (db.length : Int) < db.length by omega), cond_false, List.take_length]
      exact .some rfl
  · rintro (r | r) hr
    case inr => exact hr.elim
    obtain rfl := hr
    exact .some rfl
theorem eqI (a b c d : Int) : eqInts [a, b] [c, d] = decide ((⟨a, b⟩ : En) = ⟨c, d⟩) := by
  by_cases h1 : a = c <;> by_cases h2 : b = d <;> simp [eqInts, h1, h2]
theorem ens_ext {es fs : List En} (hl : es.length = fs.length) (h : ∀ i, i < es.length → en es i = en fs i) : es = fs := by
  refine List.ext_getElem hl fun i h1 h2 => ?_
  have := h i h1
  rwa [en_get h1, en_get h2] at this
theorem eta_en (e : En) : (⟨e.n, e.c⟩ : En) = e := rfl
theorem zC8 (es fs : List En) (ha : Fits es) (hb : Fits fs) : zLG (es, fs, ()) = some (decide (es = fs), ()) := by
  unfold zLG
  by_cases hl : es.length = fs.length
  case neg =>
    have : es ≠ fs := fun e => hl (by rw [e])
    have hl2 : ¬ (es.length : Int) = fs.length := by omega
    simp [nI_eq, hl2, this]
  simp only [nI_eq, hl, decide_true, Bool.not_true, cond_false]
  try rw [← hl]
  refine Sat.out (Sat.bnd (R := fun r => match r with | .inl _ => es = fs | .inr y => y = (false, ()) ∧ es ≠ fs) ?_ ?_)
  · refine Sat.count es.length (fun k t => t = (es, fs, (es.length : Int), (k : Int), ()) ∧ ∀ i, i < k → en es i = en fs i) ?_ (Nat.zero_le _) (fuel_lt (by omega)) ⟨rfl, fun i hi => by omega⟩
    rintro k t hk ⟨rfl, hok⟩
    simp (disch := omega) only [zCn, at_en, toN, w64, nI_eq, eqI, eta_en]
    refine Sat.ite (fun h => ?_) (fun h => ?_)
    · have h := of_decide_eq_true h
      refine Sat.gd (inR_t (by omega) (by omega)) (Sat.gd (inR_t (by omega) (by omega)) (Sat.ite (fun h2 => ?_) (fun h2 => ?_)))
      · have h2 : ¬ en es k = en fs k := by simpa using h2
        exact .some ⟨rfl, fun e => h2 (by rw [e])⟩
      · have h2 : en es k = en fs k := by simpa using h2
        exact .some ⟨by omega, rfl, fun i hi => by
          by_cases e : i < k
          · exact hok i e
          · obtain rfl : i = k := by omega
            exact h2⟩
    · have h := of_decide_eq_false h
      exact .some (ens_ext hl fun i hi => hok i (by omega))
  · rintro (r | r) hr
    · have hr : es = fs := hr
      exact .some (by rw [decide_eq_true hr])
    · obtain ⟨rfl, hr⟩ := hr
      exact .some (by rw [decide_eq_false hr])
theorem zEY (es fs : List En) (ha : Fits es) (hb : Fits fs) : zLu (es, fs, ()) = some (decide (es = fs), ()) := by
  unfold zLu
  by_cases hl : es.length = fs.length
  case neg =>
    have : es ≠ fs := fun e => hl (by rw [e])
    have hl2 : ¬ (es.length : Int) = fs.length := by omega
    simp [nI_eq, hl2, this]
  simp only [nI_eq, hl, decide_true, Bool.not_true, cond_false]
  try rw [← hl]
  refine Sat.out (Sat.bnd (R := fun r => match r with | .inl _ => es = fs | .inr y => y = (false, ()) ∧ es ≠ fs) ?_ ?_)
  · refine Sat.count es.length (fun k t => t = (es, fs, (k : Int), ()) ∧ ∀ i, i < k → en es i = en fs i) ?_ (Nat.zero_le _) (fuel_lt (by omega)) ⟨rfl, fun i hi => by omega⟩
    rintro k t hk ⟨rfl, hok⟩
    simp (disch := omega) only [zCg, at_en, toN, w64, nI_eq, eqI, eta_en]
    refine Sat.ite (fun h => ?_) (fun h => ?_)
    · have h := of_decide_eq_true h
      refine Sat.gd (inR_t (by omega) (by omega)) (Sat.gd (inR_t (by omega) (by omega)) (Sat.ite (fun h2 => ?_) (fun h2 => ?_)))
      · have h2 : ¬ en es k = en fs k := by simpa using h2
        exact .some ⟨rfl, fun e => h2 (by rw [e])⟩
      · have h2 : en es k = en fs k := by simpa using h2
        exact .some ⟨by omega, rfl, fun i hi => by
          by_cases e : i < k
          · exact hok i e
          · obtain rfl : i = k := by omega
            exact h2⟩
    · have h := of_decide_eq_false h
      exact .some (ens_ext hl fun i hi => hok i (by omega))
  · rintro (r | r) hr
    · have hr : es = fs := hr
      exact .some (by rw [decide_eq_true hr])
    · obtain ⟨rfl, hr⟩ := hr
      exact .some (by rw [decide_eq_false hr])
theorem zE1 (a b : Ls) (ha : Fits a.e) (hb : Fits b.e) : zLn (a.o, a.s, a.e, b.o, b.s, b.e, ()) = some (decide (a = b), ()) := by
  unfold zLn
  cases a with | mk o s e =>
  cases b with | mk o' s' e' =>
  dsimp only
  by_cases h1 : o = o' <;> by_cases h2 : s = s' <;> simp [h1, h2, zC8 e e' ha hb]
theorem zE2 (a b : Ls) (ha : Fits a.e) (hb : Fits b.e) : zLx (a.o, a.s, a.e, b.o, b.s, b.e, ()) = some (decide (a = b), ()) := by
  unfold zLx
  cases a with | mk o s e =>
  cases b with | mk o' s' e' =>
  dsimp only
  by_cases h1 : o = o' <;> by_cases h2 : s = s' <;> simp [h1, h2, zEY e e' ha hb]
theorem zEs (a b : Ls) (ha : Fits a.e) (hb : Fits b.e) : zMd (a.o, a.s, a.e, b.o, b.s, b.e, ()) = some (decide (a = b), ()) := by
  unfold zMd
  cases a with | mk o s es =>
  cases b with | mk o' s' fs =>
  dsimp only at *
  by_cases h1 : o = o'
  case neg => simp [h1]
  by_cases h2 : s = s'
  case neg => simp [h2]
  subst h1 h2
  by_cases hl : es.length = fs.length
  case neg =>
    have : es ≠ fs := fun e => hl (by rw [e])
    have hl2 : ¬ (es.length : Int) = fs.length := by omega
    simp [nI_eq, hl2, this]
  simp only [nI_eq, hl, decide_true, Bool.not_true, cond_false]
  refine Sat.out (Sat.bnd (R := fun r => match r with | .inl _ => es = fs | .inr y => y = (false, ()) ∧ es ≠ fs) ?_ ?_)
  · refine Sat.count es.length (fun k t => t = ((k : Int), o, s, es, o, s, fs, ()) ∧ ∀ i, i < k → en es i = en fs i) ?_ (Nat.zero_le _) (fuel_lt (by omega)) ⟨rfl, fun i hi => by omega⟩
    rintro k t hk ⟨rfl, hok⟩
    simp (disch := omega) only [zCU, at_en, toN, w64, nI_eq, eqI, eta_en]
    refine Sat.ite (fun h => ?_) (fun h => ?_)
    · have h := of_decide_eq_true h
      refine Sat.gd (inR_t (by omega) (by omega)) (Sat.gd (inR_t (by omega) (by omega)) (Sat.ite (fun h2 => ?_) (fun h2 => ?_)))
      · have h2 : ¬ en es k = en fs k := by simpa using h2
        exact .some ⟨rfl, fun e => h2 (by rw [e])⟩
      · have h2 : en es k = en fs k := by simpa using h2
        exact .some ⟨by omega, rfl, fun i hi => by
          by_cases e : i < k
          · exact hok i e
          · obtain rfl : i = k := by omega
            exact h2⟩
    · have h := of_decide_eq_false h
      exact .some (ens_ext hl fun i hi => hok i (by omega))
  · rintro (r | r) hr
    · have hr : es = fs := hr
      exact .some (by rw [decide_eq_true (by rw [hr])])
    · obtain ⟨rfl, hr⟩ := hr
      exact .some (by rw [decide_eq_false (by intro e; injection e with _ _ e; exact hr e)])
theorem zEX (db : List Ls) (h : SmD db) : zLt (db, db, ()) = some (true, ()) := by
  have h1 := h.1
  unfold Sm at h1
  unfold zLt
  simp only [decide_true, Bool.not_true, cond_false]
  refine Sat.out (Sat.bnd (R := fun r => match r with | .inl _ => True | .inr _ => False) ?_ ?_)
  · refine Sat.count db.length (fun k t => t = (db, db, (k : Int), ())) ?_ (Nat.zero_le _) (fuel_lt (by omega)) rfl
    rintro k t hk rfl
    simp (disch := omega) only [zCf, at_ls, toN, w64, nI_eq]
    refine Sat.ite (fun hh => ?_) (fun hh => .some trivial)
    have hh := of_decide_eq_true hh
    have hf := h.fe _ (lsa_mem (show k < db.length by omega))
    refine Sat.gd (inR_t (by omega) (by omega)) (Sat.gd (inR_t (by omega) (by omega)) ?_)
    rw [zE2 _ _ hf hf]
    simp only [decide_true, Option.bind_some, Bool.not_true, cond_false]
    exact .some ⟨by omega, rfl⟩
  · rintro (r | r) hr
    case inr => exact hr.elim
    exact .some rfl
def sqOf (db : List Ls) (o : Int) : Int := match fd db o with | some l => l.s | none => 0
theorem zE4 (db : List Ls) (o : Int) (hl : Fits db) : zLz (db, o, ()) = some (sqOf db o, ()) := by
  unfold zLz
  refine Sat.out (Sat.bnd (R := fun r => match r with | .inl _ => fd db o = none | .inr y => ∃ l, fd db o = some l ∧ y = (l.s, ())) ?_ ?_)
  · refine Sat.count db.length (fun k t => t = (db, o, (k : Int), ()) ∧ ∀ i, i < k → (lsa db i).o ≠ o) ?_ (Nat.zero_le _) (fuel_lt (by omega)) ⟨rfl, fun i hi => by omega⟩
    rintro k t hk ⟨rfl, hok⟩
    simp (disch := omega) only [zCl, at_ls, toN, w64, nI_eq]
    repeat' (first
      | refine Sat.some ?_
      | fail
      | (refine Sat.gd (by first | exact inR_t (by omega) (by omega) | (simp (disch := omega) only [w64]; exact inR_t (by omega) (by omega))) ?_)
      | (refine Sat.ite (fun h => ?_) (fun h => ?_) <;> try simp only [decide_eq_true_eq, decide_eq_false_iff_not, Bool.not_eq_true', Bool.not_eq_false', inB_i, inB_j, Bool.and_eq_true, Bool.or_eq_true, Bool.and_eq_false_iff, Bool.or_eq_false_iff, El] at h))
    all_goals try dsimp only
    · have hlt : k < db.length := by omega
      refine ⟨lsa db k, ?_, rfl⟩
      unfold fd
      rw [lsa_get hlt]
      exact find_hit hlt (decide_eq_true (by rw [← lsa_get hlt]; assumption)) fun i hi hik => decide_eq_false (by rw [← lsa_get hi]; exact hok i hik)
    · refine ⟨by omega, rfl, fun i hi => ?_⟩
      by_cases e : i < k
      · exact hok i e
      · obtain rfl : i = k := by omega
        assumption
    · exact find_miss fun i hi => decide_eq_false (by rw [← lsa_get hi]; exact hok i (by omega))
  · rintro (r | r) hr
    · have hr : fd db o = none := hr
      exact .some (by unfold sqOf; rw [hr])
    · obtain ⟨l, h1, rfl⟩ := hr
      exact .some (by unfold sqOf; rw [h1])
theorem SmD.put {db : List Ls} (h : SmD db) {l : Ls} (hl : Sm l.e) (hs : db.length ≤ 1000000) : SmD (putD db l) ∧ (putD db l).length ≤ db.length + 1 := by
  have hlen : (putL db l).length ≤ db.length + 1 := by
    unfold putL
    have h1 : ∀ ds : List Ls, (ds.filter fun x => decide (x.o < l.o)).length + (ds.filter fun x => decide (l.o < x.o)).length ≤ ds.length := fun ds => by
      induction ds with
      | nil => simp
      | cons x r ih =>
        simp only [List.filter_cons]
        by_cases a : x.o < l.o
        · have b : ¬ l.o < x.o := by omega
          simp [a, b]; omega
        · by_cases b : l.o < x.o
          · simp [a, b]; omega
          · simp [a, b]; omega
    have := h1 db
    simp only [List.length_append, List.length_cons]
    omega
  unfold putD
  split
  · refine ⟨⟨by unfold Sm; omega, fun x hx => ?_⟩, hlen⟩
    rcases putL_mem.1 hx with rfl | ⟨hx, _⟩
    · exact hl
    · exact h.2 x hx
  · exact ⟨h, by omega⟩
theorem e_put (db : List Ls) (l : Ls) (hs : SrtP db) (h : SmD db) (hl : Sm l.e) (hn : db.length ≤ 1000000) : zLm (db, l.o, l.s, l.e, ()) = some (putC db l, putD db l, ()) := by
  have hsrt : Srt db := srt_iff.2 hs
  obtain ⟨i, hi, hp⟩ := zDq db l.o hsrt (by omega)
  unfold zLm
  dsimp only
  simp only [zDn db h, Option.bind_some, hp, zDo _ _ _ hl]
  have ins : hasAt db l.o i = false → zLJ ((i : Int), db, [l], ()) = some (putL db l, ()) := fun hh => by
    have := hi.1
    unfold zLJ
    simp only [oneL]
    rw [decide_eq_true (by omega)]
    simp only [cond_true, Int.toNat_natCast]
    rw [put_insert hs hi hh]
  cases hh : hasAt db l.o i with
  | false =>
    have hfd : fd db l.o = none := by
      refine fd_none.2 fun x hx e => ?_
      obtain ⟨j, hj, rfl⟩ := List.getElem_of_mem hx
      rw [← lsa_get hj] at e
      have h1 : i ≤ j := by
        rcases Nat.lt_or_ge j i with h1 | h1
        · have := hi.2.1 j h1; omega
        · exact h1
      have h2 : i < db.length := by omega
      have h3 := hi.2.2 i (Nat.le_refl _) h2
      have h4 : (lsa db i).o ≤ (lsa db j).o := by
        rcases Nat.eq_or_lt_of_le h1 with h1 | h1
        · subst h1; omega
        · have := hsrt i j h1 hj; omega
      have : hasAt db l.o i = true := decide_eq_true ⟨h2, by omega⟩
      rw [hh] at this; cases this
    have hc : putC db l = 0 := by unfold putC; rw [hfd]
    simp only [cond_false, ins hh, Option.bind_some]
    unfold putD
    rw [hc, if_pos rfl]
  | true =>
    obtain ⟨h2, h3⟩ := of_decide_eq_true hh
    have hfd : fd db l.o = some (lsa db i) := (fd_some hs).2 ⟨lsa_mem h2, h3⟩
    have hin : inR (i : Int) db.length = true := inR_t (by omega) (by omega)
    simp only [cond_true, hin, at_ls, toN]
    have hpc : putC db l = if (lsa db i).s = l.s then 1 else if l.s < (lsa db i).s then 2 else 0 := by unfold putC; rw [hfd]
    unfold putD
    rw [hpc]
    by_cases e1 : (lsa db i).s = l.s
    · simp [e1]
    · by_cases e2 : l.s < (lsa db i).s
      · simp [e1, e2]
      · have := put_set hs h2 h3
        simp [e1, e2, ← this]
end Go.Proofs.YtojdflifijpffaaGreat
end
section
namespace Go.Proofs.YtojdflifijpffaaGreat
open Go.RowKit
set_option linter.unusedSimpArgs false
set_option linter.unusedVariables false
set_option maxRecDepth 100000

theorem filter_snoc {db : List Ls} {k : Nat} (p : Ls → Bool) (h : k < db.length) : (db.take (k + 1)).filter p = (db.take k).filter p ++ if p (lsa db k) then [lsa db k] else [] := by
  rw [List.take_add_one, List.getElem?_eq_getElem h, List.filter_append, lsa_get h]
  cases hp : p db[k] <;> simp [hp]
theorem filter_take_len {db : List Ls} (p : Ls → Bool) (k : Nat) : ((db.take k).filter p).length ≤ db.length := Nat.le_trans (List.length_filter_le _ _) (by rw [List.length_take]; omega)
theorem low_take {db : List Ls} (hs : Srt db) {o : Int} {k : Nat} (h1 : ∀ i, i < k → (lsa db i).o < o) (h2 : k < db.length → ¬ (lsa db k).o < o) (hk : k ≤ db.length) : db.take k = db.filter fun x => decide (x.o < o) := by
  have e1 : (db.take k).filter (fun x => decide (x.o < o)) = db.take k := by
    refine List.filter_eq_self.2 fun x hx => ?_
    obtain ⟨i, hi, rfl⟩ := List.getElem_of_mem hx
    have hi' : i < k := by rw [List.length_take] at hi; omega
    have := h1 i hi'
    rw [lsa_get (by omega)] at this
    simpa [List.getElem_take] using this
  have e2 : (db.drop k).filter (fun x => decide (x.o < o)) = [] := by
    refine List.filter_eq_nil_iff.2 fun x hx => ?_
    obtain ⟨i, hi, rfl⟩ := List.getElem_of_mem hx
    have hi' : k + i < db.length := by rw [List.length_drop] at hi; omega
    have h3 := h2 (by omega)
    have h4 : (lsa db k).o ≤ (lsa db (k + i)).o := by
      rcases Nat.eq_zero_or_pos i with e | e
      · subst e; exact Int.le_refl _
      · have := hs k (k + i) (by omega) hi'; omega
    rw [lsa_get hi'] at h4
    simp only [List.getElem_drop, decide_eq_true_eq]
    omega
  calc db.take k = (db.take k).filter (fun x => decide (x.o < o)) ++ (db.drop k).filter (fun x => decide (x.o < o)) := by rw [e1, e2, List.append_nil]
    _ = db.filter fun x => decide (x.o < o) := by rw [← List.filter_append, List.take_append_drop]
theorem put8 (db : List Ls) (l : Ls) (hs : Srt db) (h : SmD db) : Sat (lp zCH fuel (db, 0, l.o, l.s, l.e, [], ())) fun r => match r with | .inl x => x = (db, l.o, l.s, l.e, db.filter (fun x => decide (x.o < l.o)), ()) | .inr _ => False := by
  have h1 := h.1
  unfold Sm at h1
  refine Sat.count db.length (fun k t => t = (db, (k : Int), l.o, l.s, l.e, db.take k, ()) ∧ ∀ i, i < k → (lsa db i).o < l.o) ?_ (Nat.zero_le _) (fuel_lt (by omega)) ⟨by simp, fun i hi => by omega⟩
  rintro k t hk ⟨rfl, hok⟩
  by_cases hlt : k < db.length
  · simp (disch := omega) only [zCH, at_ls, toN, w64, nI_eq, zEe _ _ _ (h.2 _ (lsa_mem hlt)), Option.bind_some]
    refine Sat.gd (decide_eq_true (by omega)) (Sat.gd (inR_t (by omega) (by omega)) (Sat.ite (fun hc => ?_) (fun hc => ?_)))
    · have hc := of_decide_eq_true hc
      refine Sat.gd (inR_t (by omega) (by omega)) (Sat.gd (decide_eq_true (by simp; omega)) (.some ⟨hlt, ?_, fun i hi => ?_⟩))
      · rw [take_lsa hlt]; rfl
      · by_cases e : i < k
        · exact hok i e
        · obtain rfl : i = k := by omega
          exact hc
    · have hc := of_decide_eq_false hc
      exact .some (by rw [low_take hs hok (fun _ => hc) hk])
  · obtain rfl : k = db.length := by omega
    unfold zCH
    simp only [nI_eq, decide_eq_false (show ¬ (db.length : Int) < db.length by omega), cond_false]
    exact .some (by rw [low_take hs hok (fun h => by omega) hk])
theorem put13 (db : List Ls) (l : Ls) (out : List Ls) (h : SmD db) (ho : out.length ≤ 17000000) : Sat (lp zCG fuel (db, 0, l.o, l.s, l.e, out, ())) fun r => match r with | .inl x => x = (out ++ db.filter (fun x => decide (l.o < x.o)), ()) | .inr _ => False := by
  have h1 := h.1
  unfold Sm at h1
  refine Sat.count db.length (fun k t => t = (db, (k : Int), l.o, l.s, l.e, out ++ (db.take k).filter (fun x => decide (l.o < x.o)), ())) ?_ (Nat.zero_le _) (fuel_lt (by omega)) (by simp)
  rintro k t hk rfl
  by_cases hlt : k < db.length
  · have hfl := filter_take_len (db := db) (fun x => decide (l.o < x.o)) k
    simp (disch := omega) only [zCG, at_ls, toN, w64, nI_eq, zEe _ _ _ (h.2 _ (lsa_mem hlt)), Option.bind_some]
    refine Sat.gd (decide_eq_true (by omega)) (Sat.gd (inR_t (by omega) (by omega)) (Sat.ite (fun hc => ?_) (fun hc => ?_)))
    · have hc' := of_decide_eq_true hc
      refine Sat.gd (inR_t (by omega) (by omega)) (Sat.gd (decide_eq_true (by simp only [List.length_append, List.length_singleton]; omega)) (.some ⟨hlt, ?_⟩))
      rw [filter_snoc _ hlt, if_pos hc, ← List.append_assoc]
      rfl
    · refine .some ⟨hlt, ?_⟩
      rw [filter_snoc _ hlt, if_neg (by rw [hc]; simp), List.append_nil]
      rfl
  · obtain rfl : k = db.length := by omega
    unfold zCG
    simp only [nI_eq, decide_eq_false (show ¬ (db.length : Int) < db.length by omega), cond_false, List.take_length]
    exact .some rfl
theorem zEf (db : List Ls) (l : Ls) (hs : SrtP db) (h : SmD db) (hl : Sm l.e) : zL1 (db, l.o, l.s, l.e, ()) = some (putC db l, putD db l, ()) := by
  have hsrt : Srt db := srt_iff.2 hs
  have h1 := h.1
  unfold Sm at h1
  have hfin : Sat ((lp zCH fuel (db, 0, l.o, l.s, l.e, [], ())).bind fun r3 => (match r3 with | .inl x4 => (zL0 ((x4.2.1, (x4.2.2.1, (x4.2.2.2.1, ()))))).bind fun r5 => (bif decide (((List.length x4.2.2.2.2.1 + List.length ([(Ls.mk r5.1 r5.2.1 r5.2.2.1)])) ≤ (33554432 : Nat))) then (lp zCG fuel ((x4.1, ((0 : Int), (x4.2.1, (x4.2.2.1, (x4.2.2.2.1, ((x4.2.2.2.2.1 ++ [(Ls.mk r5.1 r5.2.1 r5.2.2.1)]), ())))))))).bind fun r6 => (match r6 with | .inl x7 => some (((0 : Int), x7.1, ())) | .inr _ => none) else none) | .inr _ => none)) (· = (0, putL db l, ())) := by
    refine Sat.bnd (put8 db l hsrt h) ?_
    rintro (r | r) hr
    case inr => exact hr.elim
    obtain rfl := hr
    dsimp only
    rw [zEe _ _ _ hl]
    have hfl : (db.filter fun x => decide (x.o < l.o)).length ≤ db.length := List.length_filter_le _ _
    simp only [Option.bind_some]
    refine Sat.gd (decide_eq_true (by simp only [List.length_singleton]; omega)) (Sat.bnd (put13 db l _ h (by simp only [List.length_append, List.length_singleton]; omega)) ?_)
    rintro (r | r) hr
    case inr => exact hr.elim
    obtain rfl := hr
    refine .some ?_
    unfold putL
    simp
  have hfin := hfin.out
  unfold zL1
  dsimp only
  rw [zEb db l.o h.fits]
  unfold putD putC
  cases hfd : fd db l.o with
  | none =>
    simp only [Option.bind_some, cond_false]
    exact hfin
  | some old =>
    simp only [Option.bind_some, cond_true, zEa db h]
    by_cases e1 : old.s = l.s
    · simp only [e1, decide_true, cond_true]
      simp
    · by_cases e2 : l.s < old.s
      · simp only [e1, e2, decide_true, decide_false, cond_true, cond_false]
        simp
      · simp only [e1, e2, decide_false, cond_false]
        exact hfin
theorem zEP (db : List Ls) (hl : Fits db) (he : ∀ l ∈ db, Fits l.e) : zLN (db, ()) = some (dbv db, ()) := by
  unfold zLN
  refine Sat.out (Sat.bnd (R := fun r => match r with | .inl _ => dbv db = true | .inr y => y.1 = false ∧ dbv db = false) ?_ ?_)
  · refine Sat.count db.length (fun k t => t = (db, (k : Int), ()) ∧ ∀ i, i < k → LsV (lsa db i) ∧ (0 < i → (lsa db (i - 1)).o < (lsa db i).o)) ?_ (Nat.zero_le _) (fuel_lt (by omega)) ⟨by simp, fun i hi => by omega⟩
    rintro k t hk ⟨rfl, hok⟩
    by_cases hlt : k < db.length
    · have hf : Fits (lsa db k).e := he _ (by rw [lsa_get hlt]; exact List.getElem_mem hlt)
      simp (disch := omega) only [zCq, at_ls, toN, toN1, w64, nI_eq, zES _ _ _ hf, Option.bind_some]
      repeat' (first
        | refine Sat.some ?_
        | fail
        | (refine Sat.gd (by first | exact inR_t (by omega) (by omega) | (simp (disch := omega) only [w64]; exact inR_t (by omega) (by omega))) ?_)
        | (refine Sat.ite (fun h => ?_) (fun h => ?_) <;> try simp only [decide_eq_true_eq, decide_eq_false_iff_not, Bool.not_eq_true', Bool.not_eq_false', inB_i, inB_j, Bool.and_eq_true, Bool.or_eq_true, Bool.and_eq_false_iff, Bool.or_eq_false_iff, El] at h))
      all_goals try dsimp only
      all_goals first
        | (refine ⟨rfl, decide_eq_false fun g => ?_⟩
           have := g k hlt
           first | exact of_decide_eq_false (by assumption) this.1 | omega)
        | (refine ⟨by omega, rfl, fun i hi => ?_⟩
           by_cases e : i < k
           · exact hok i e
           · obtain rfl : i = k := by omega
             exact ⟨of_decide_eq_true (by assumption), fun _ => by omega⟩)
        | omega
    · obtain rfl : k = db.length := by omega
      unfold zCq
      simp only [nI_eq, decide_eq_false (show ¬ (db.length : Int) < db.length by omega), cond_false]
      exact .some (decide_eq_true hok)
  · rintro (r | r) hr
    · have hr : dbv db = true := hr
      exact .some (by rw [hr])
    · obtain ⟨b, u⟩ := r
      have hr : b = false ∧ dbv db = false := hr
      exact .some (by rw [hr.1, hr.2])
theorem zC5 (db : List Ls) (l : Ls) (h : SmD db) (hl : Sm l.e) : zLM (db, l.o, l.s, l.e, ()) = some (if DbV db ∧ LsV l then (putC db l, putD db l, ()) else (3, [], ())) := by
  unfold zLM
  dsimp only
  rw [zEP db h.fits h.fe]
  by_cases h1 : DbV db
  · have hb : dbv db = true := decide_eq_true h1
    simp only [hb, Option.bind_some, Bool.not_true, cond_false]
    rw [zES _ _ _ (by unfold Fits; unfold Sm at hl; omega)]
    by_cases h2 : LsV l
    · have hc : lsv l.o l.s l.e = true := lsv_t h2
      simp only [hc, Option.bind_some, Bool.not_true, cond_false, zEf db l (srt_iff.1 h1.srt) h hl]
      rw [if_pos ⟨h1, h2⟩]
    · have hc : lsv l.o l.s l.e = false := lsv_f h2
      simp only [hc, Option.bind_some, Bool.not_false, cond_true]
      rw [if_neg (fun hh => h2 hh.2)]
  · have hb : dbv db = false := decide_eq_false h1
    simp only [hb, Option.bind_some, Bool.not_false, cond_true]
    rw [if_neg (fun hh => h1 hh.1)]
theorem merge_take {a b : List Ls} {k : Nat} (h : k < b.length) : mergeD a (b.take (k + 1)) = putD (mergeD a (b.take k)) (lsa b k) := by
  unfold mergeD
  rw [List.take_add_one, List.getElem?_eq_getElem h, lsa_get h, List.foldl_append]
  rfl
theorem merge_sm {a b : List Ls} (ha : SmD a) (hb : SmD b) (hla : a.length ≤ 500000) (hlb : b.length ≤ 400000) : ∀ k, k ≤ b.length → SmD (mergeD a (b.take k)) ∧ (mergeD a (b.take k)).length ≤ a.length + k
  | 0, _ => ⟨by simpa [mergeD] using ha, by simp [mergeD]⟩
  | k + 1, hk => by
    obtain ⟨i1, i2⟩ := merge_sm ha hb hla hlb k (by omega)
    rw [merge_take (by omega)]
    have := i1.put (hb.2 _ (lsa_mem (show k < b.length by omega))) (by omega)
    exact ⟨this.1, by omega⟩
theorem zEK (a b : List Ls) (hs : SrtP a) (ha : SmD a) (hb : SmD b) (hla : a.length ≤ 500000) (hlb : b.length ≤ 400000) : zLl (a, b, ()) = some (mergeD a b, ()) := by
  unfold zLl
  simp only [zDn a ha, Option.bind_some, nI_eq]
  refine Sat.out (Sat.bnd (R := fun r => match r with | .inl x => x = (mergeD a b, ()) | .inr _ => False) ?_ ?_)
  · refine Sat.count b.length (fun k t => t = (b, (b.length : Int), (k : Int), mergeD a (b.take k), ())) ?_ (Nat.zero_le _) (fuel_lt (by omega)) (by simp [mergeD])
    rintro k t hk rfl
    by_cases hlt : k < b.length
    · obtain ⟨i1, i2⟩ := merge_sm ha hb hla hlb k hk
      simp (disch := omega) only [zB8, at_ls, toN, w64, e_put _ _ (mergeD_srt hs _) i1 (hb.2 _ (lsa_mem hlt)) (show (mergeD a (b.take k)).length ≤ 1000000 by omega), Option.bind_some]
      refine Sat.gd (decide_eq_true (by omega)) (Sat.gd (inR_t (by omega) (by omega)) (.some ⟨hlt, ?_⟩))
      rw [merge_take hlt]
      rfl
    · obtain rfl : k = b.length := by omega
      unfold zB8
      simp only [decide_eq_false (show ¬ (b.length : Int) < b.length by omega), cond_false, List.take_length]
      exact .some rfl
  · rintro (r | r) hr
    case inr => exact hr.elim
    obtain rfl := hr
    exact .some rfl
theorem zEc (a b : List Ls) (hs : SrtP a) (ha : SmD a) (hb : SmD b) (hla : a.length ≤ 500000) (hlb : b.length ≤ 400000) : zLY (a, b, ()) = some (mergeD a b, ()) := by
  unfold zLY
  simp only [zEa a ha, Option.bind_some, nI_eq]
  refine Sat.out (Sat.bnd (R := fun r => match r with | .inl x => x = (mergeD a b, ()) | .inr _ => False) ?_ ?_)
  · refine Sat.count b.length (fun k t => t = (b, (k : Int), mergeD a (b.take k), ())) ?_ (Nat.zero_le _) (fuel_lt (by omega)) (by simp [mergeD])
    rintro k t hk rfl
    by_cases hlt : k < b.length
    · obtain ⟨i1, i2⟩ := merge_sm ha hb hla hlb k hk
      simp (disch := omega) only [zCE, at_ls, toN, w64, nI_eq, zEf _ _ (mergeD_srt hs _) i1 (hb.2 _ (lsa_mem hlt)), Option.bind_some]
      refine Sat.gd (decide_eq_true (by omega)) (Sat.gd (inR_t (by omega) (by omega)) (.some ⟨hlt, ?_⟩))
      rw [merge_take hlt]
      rfl
    · obtain rfl : k = b.length := by omega
      unfold zCE
      simp only [nI_eq, decide_eq_false (show ¬ (b.length : Int) < b.length by omega), cond_false, List.take_length]
      exact .some rfl
  · rintro (r | r) hr
    case inr => exact hr.elim
    obtain rfl := hr
    exact .some rfl
end Go.Proofs.YtojdflifijpffaaGreat
end
section
namespace Go.Proofs.YtojdflifijpffaaGreat
open Go.RowKit
set_option linter.unusedSimpArgs false
set_option linter.unusedVariables false

def sy (f : Nat → Int) (e : Nat × Nat) : Nat → Int := fun n => if n = e.1 ∨ n = e.2 then max (f e.1) (f e.2) else f n
def sw (E : List (Nat × Nat)) (f : Nat → Int) : Nat → Int := E.foldl sy f
def swK (E : List (Nat × Nat)) (f : Nat → Int) : Nat → Nat → Int
  | 0 => f
  | k + 1 => sw E (swK E f k)
theorem sy_le (f : Nat → Int) (e : Nat × Nat) (n : Nat) : f n ≤ sy f e n := by
  unfold sy
  split
  · rename_i h
    rcases h with rfl | rfl <;> omega
  · omega
theorem sw_le (E : List (Nat × Nat)) : ∀ (f : Nat → Int) (n : Nat), f n ≤ sw E f n := by
  unfold sw
  induction E with
  | nil => intro f n; exact Int.le_refl _
  | cons e r ih => intro f n; exact Int.le_trans (sy_le f e n) (ih (sy f e) n)
theorem swK_le (E : List (Nat × Nat)) (f : Nat → Int) (n : Nat) {j k : Nat} (h : j ≤ k) : swK E f j n ≤ swK E f k n := by
  induction k with
  | zero => obtain rfl : j = 0 := by omega
            exact Int.le_refl _
  | succ k ih =>
    rcases Nat.eq_or_lt_of_le h with e | e
    · subst e; exact Int.le_refl _
    · exact Int.le_trans (ih (by omega)) (sw_le E _ n)
theorem sw_edge {E : List (Nat × Nat)} {a b : Nat} (h : (a, b) ∈ E) : ∀ f : Nat → Int, f a ≤ sw E f b ∧ f b ≤ sw E f a := by
  unfold sw
  induction E with
  | nil => simp at h
  | cons e r ih =>
    intro f
    rcases List.mem_cons.1 h with he | hr
    · subst he
      have h1 := sw_le r (sy f (a, b)) b
      have h2 := sw_le r (sy f (a, b)) a
      unfold sw at h1 h2
      have e1 : sy f (a, b) b = max (f a) (f b) := by unfold sy; rw [if_pos (.inr rfl)]
      have e2 : sy f (a, b) a = max (f a) (f b) := by unfold sy; rw [if_pos (.inl rfl)]
      rw [List.foldl_cons]
      omega
    · have := ih hr (sy f e)
      have h1 := sy_le f e a
      have h2 := sy_le f e b
      rw [List.foldl_cons]
      omega
def prs (ls : List Lk) : List (Nat × Nat) := ls.map fun l => (l.a.toNat, l.b.toNat)
theorem adj_prs {ls : List Lk} {x y : Nat} {c : Int} (h : Adj ls x y c) : (x, y) ∈ prs ls ∨ (y, x) ∈ prs ls := by
  obtain ⟨l, hl, _, h⟩ := h
  rcases h with ⟨h1, h2⟩ | ⟨h1, h2⟩
  · left; exact List.mem_map.2 ⟨l, hl, by rw [h1, h2]; rfl⟩
  · right; exact List.mem_map.2 ⟨l, hl, by rw [h1, h2]; rfl⟩
theorem swK_walk {ls : List Lk} {u k v : Nat} {s : Int} (w : Wk ls u k v s) (f : Nat → Int) : f u ≤ swK (prs ls) f k v := by
  induction w with
  | nil => exact Int.le_refl _
  | @step k x y s c _ ha ih =>
    show f u ≤ sw (prs ls) (swK (prs ls) f k) y
    rcases adj_prs ha with h | h
    · have := (sw_edge h (swK (prs ls) f k)).1; omega
    · have := (sw_edge h (swK (prs ls) f k)).2; omega
def Jn (ls : List Lk) (u v : Nat) : Prop := ∃ k s, Wk ls u k v s
theorem Jn.refl (ls : List Lk) (u : Nat) : Jn ls u u := ⟨0, 0, .nil⟩
theorem Jn.symm {ls : List Lk} {u v : Nat} (h : Jn ls u v) : Jn ls v u := by
  obtain ⟨k, s, w⟩ := h
  exact ⟨k, s, w.symm⟩
theorem Jn.trans {ls : List Lk} {u v x : Nat} (h : Jn ls u v) (h' : Jn ls v x) : Jn ls u x := by
  obtain ⟨k, s, w⟩ := h
  obtain ⟨k', s', w'⟩ := h'
  exact ⟨_, _, w.append w'⟩
theorem sy_from {ls : List Lk} {e : Nat × Nat} (he : e ∈ prs ls) (hn : ∀ l ∈ ls, 0 ≤ l.a ∧ 0 ≤ l.b) (f : Nat → Int) (n : Nat) : ∃ m, Jn ls n m ∧ sy f e n = f m := by
  obtain ⟨l, hl, rfl⟩ := List.mem_map.1 he
  have hl2 := hn l hl
  have ha : Adj ls l.a.toNat l.b.toNat l.c := ⟨l, hl, rfl, .inl ⟨by omega, by omega⟩⟩
  have hj : Jn ls l.a.toNat l.b.toNat := ⟨1, l.c, Wk.one ha⟩
  unfold sy
  dsimp only
  split
  · rename_i h
    rcases Int.le_total (f l.a.toNat) (f l.b.toNat) with h1 | h1
    · refine ⟨l.b.toNat, ?_, by omega⟩
      rcases h with rfl | rfl
      · exact hj
      · exact Jn.refl _ _
    · refine ⟨l.a.toNat, ?_, by omega⟩
      rcases h with rfl | rfl
      · exact Jn.refl _ _
      · exact hj.symm
  · exact ⟨n, Jn.refl _ _, rfl⟩
theorem fold_from {ls : List Lk} (hn : ∀ l ∈ ls, 0 ≤ l.a ∧ 0 ≤ l.b) : ∀ (E : List (Nat × Nat)), (∀ e ∈ E, e ∈ prs ls) → ∀ (f : Nat → Int) (n : Nat), ∃ m, Jn ls n m ∧ E.foldl sy f n = f m
  | [], _, f, n => ⟨n, Jn.refl _ _, rfl⟩
  | e :: r, hE, f, n => by
    obtain ⟨m, h1, h2⟩ := fold_from hn r (fun x hx => hE x (List.mem_cons_of_mem _ hx)) (sy f e) n
    obtain ⟨m', h3, h4⟩ := sy_from (hE e (List.mem_cons_self ..)) hn f m
    exact ⟨m', h1.trans h3, by rw [List.foldl_cons, h2, h4]⟩
theorem swK_from {ls : List Lk} (hn : ∀ l ∈ ls, 0 ≤ l.a ∧ 0 ≤ l.b) (f : Nat → Int) : ∀ (k n : Nat), ∃ m, Jn ls n m ∧ swK (prs ls) f k n = f m
  | 0, n => ⟨n, Jn.refl _ _, rfl⟩
  | k + 1, n => by
    obtain ⟨m, h1, h2⟩ := fold_from hn (prs ls) (fun _ h => h) (swK (prs ls) f k) n
    obtain ⟨m', h3, h4⟩ := swK_from hn f k m
    exact ⟨m', h1.trans h3, by rw [← h4, ← h2]; rfl⟩
section
variable {N : Nat} {ls : List Lk}
theorem level_le (he : Ends N ls) (hc : Cheap ls) (f : Nat → Int) {u v : Nat} (hu : u < N) (h : Jn ls u v) : f u ≤ swK (prs ls) f N v := by
  obtain ⟨k, s, w⟩ := h
  obtain ⟨k', s', h1, _, w'⟩ := w.short he hc k hu
  exact Int.le_trans (swK_walk w' f) (swK_le _ f v (by omega))
theorem level_eq (he : Ends N ls) (hc : Cheap ls) (f : Nat → Int) {u v : Nat} (hu : u < N) (hv : v < N) (h : Jn ls u v) : swK (prs ls) f N u = swK (prs ls) f N v := by
  have hn : ∀ l ∈ ls, 0 ≤ l.a ∧ 0 ≤ l.b := fun l hl => by
    obtain ⟨x, y, h1, h2, _⟩ := he l hl
    omega
  have lt : ∀ {a b : Nat}, a < N → Jn ls a b → b < N := fun {a b} ha h => by
    obtain ⟨k, s, w⟩ := h
    cases w with
    | nil => exact ha
    | step _ hd => exact (hd.lt he).2
  obtain ⟨m, h1, e1⟩ := swK_from hn f N u
  obtain ⟨m', h2, e2⟩ := swK_from hn f N v
  have q1 := level_le he hc f (lt hu h1) (h1.symm.trans h)
  have q2 := level_le he hc f (lt hv h2) (h2.symm.trans h.symm)
  omega
end
end Go.Proofs.YtojdflifijpffaaGreat
end
section
namespace Go.Proofs.YtojdflifijpffaaGreat
open Go.RowKit
set_option linter.unusedSimpArgs false
set_option linter.unusedVariables false

structure Know (D : Nat → List Ls) : Prop where
  srt : ∀ n, SrtP (D n)
  pos : ∀ n, ∀ l ∈ D n, 0 ≤ l.s
  agr : ∀ m n, Agree (D m) (D n)
def syD (D : Nat → List Ls) (e : Nat × Nat) : Nat → List Ls := fun n => if n = e.1 ∨ n = e.2 then mergeD (D e.1) (D e.2) else D n
def swD (E : List (Nat × Nat)) (D : Nat → List Ls) : Nat → List Ls := E.foldl syD D
def swDK (E : List (Nat × Nat)) (D : Nat → List Ls) : Nat → (Nat → List Ls)
  | 0 => D
  | k + 1 => swD E (swDK E D k)
theorem syD_mem {D : Nat → List Ls} {e : Nat × Nat} {n : Nat} {x : Ls} (h : x ∈ syD D e n) : ∃ m, x ∈ D m := by
  unfold syD at h
  split at h
  · rcases merge_mem h with h | h
    · exact ⟨_, h⟩
    · exact ⟨_, h⟩
  · exact ⟨n, h⟩
theorem Know.sy {D : Nat → List Ls} (K : Know D) (e : Nat × Nat) : Know (syD D e) := by
  refine ⟨fun n => ?_, fun n l hl => ?_, fun m n x hx y hy => ?_⟩
  · unfold syD
    split
    · exact mergeD_srt (K.srt _) _
    · exact K.srt n
  · obtain ⟨m, hm⟩ := syD_mem hl
    exact K.pos m l hm
  · obtain ⟨i, hi⟩ := syD_mem hx
    obtain ⟨j, hj⟩ := syD_mem hy
    exact K.agr i j x hi y hj
theorem Know.seq {D : Nat → List Ls} (K : Know D) (e : Nat × Nat) (o : Int) (n : Nat) : seqD (syD D e n) o = Go.Proofs.YtojdflifijpffaaGreat.sy (fun n => seqD (D n) o) e n := by
  unfold syD Go.Proofs.YtojdflifijpffaaGreat.sy
  split
  · exact seq_merge (K.srt _) (K.srt _) (K.pos _) (K.pos _) o
  · rfl
theorem Know.sw {D : Nat → List Ls} (K : Know D) (E : List (Nat × Nat)) : Know (swD E D) ∧ ∀ o n, seqD (swD E D n) o = Go.Proofs.YtojdflifijpffaaGreat.sw E (fun n => seqD (D n) o) n := by
  unfold swD Go.Proofs.YtojdflifijpffaaGreat.sw
  induction E generalizing D with
  | nil => exact ⟨K, fun o n => rfl⟩
  | cons e r ih =>
    obtain ⟨h1, h2⟩ := ih (K.sy e)
    refine ⟨h1, fun o n => ?_⟩
    rw [List.foldl_cons, List.foldl_cons, h2 o n, show (fun n => seqD (syD D e n) o) = Go.Proofs.YtojdflifijpffaaGreat.sy (fun n => seqD (D n) o) e from funext fun m => K.seq e o m]
theorem Know.swK {D : Nat → List Ls} (K : Know D) (E : List (Nat × Nat)) (k : Nat) : Know (swDK E D k) ∧ ∀ o n, seqD (swDK E D k n) o = Go.Proofs.YtojdflifijpffaaGreat.swK E (fun n => seqD (D n) o) k n := by
  induction k with
  | zero => exact ⟨K, fun o n => rfl⟩
  | succ k ih =>
    obtain ⟨h1, h2⟩ := ih.1.sw E
    refine ⟨h1, fun o n => ?_⟩
    show seqD (swD E (swDK E D k) n) o = Go.Proofs.YtojdflifijpffaaGreat.sw E (Go.Proofs.YtojdflifijpffaaGreat.swK E (fun n => seqD (D n) o) k) n
    rw [h2 o n, show (fun n => seqD (swDK E D k n) o) = Go.Proofs.YtojdflifijpffaaGreat.swK E (fun n => seqD (D n) o) k from funext fun m => ih.2 o m]
section
variable {N : Nat} {ls : List Lk} {D : Nat → List Ls}
theorem calm_eq (K : Know D) (he : Ends N ls) (hc : Cheap ls) {u v : Nat} (hu : u < N) (hv : v < N) (h : Jn ls u v) : swDK (prs ls) D N u = swDK (prs ls) D N v := by
  obtain ⟨K', hs⟩ := K.swK (prs ls) N
  refine agree_ext (K'.srt u) (K'.srt v) (K'.pos v) (K'.pos u) (K'.agr u v) fun o => ?_
  rw [hs o u, hs o v]
  exact level_eq he hc _ hu hv h
theorem calm_ge (K : Know D) (he : Ends N ls) (hc : Cheap ls) {u v : Nat} (hu : u < N) (h : Jn ls u v) (o : Int) : seqD (D u) o ≤ seqD (swDK (prs ls) D N v) o := by
  rw [(K.swK (prs ls) N).2 o v]
  exact level_le he hc (fun n => seqD (D n) o) hu h
end
end Go.Proofs.YtojdflifijpffaaGreat
end
section
namespace Go.Proofs.YtojdflifijpffaaGreat
open Go.RowKit
set_option linter.unusedSimpArgs false
set_option linter.unusedVariables false

structure Wd where
  n : Int
  ls : List Lk
  up : List Bool
  sq : List Int
  db : List (List Ls)
  net : List Pk
def dbx (db : List (List Ls)) (i : Nat) : List Ls := db.getD i []
def trK (ls : List Lk) (up : List Bool) (k : Nat) : List Lk := ((List.range k).filter fun i => up.getD i false).map (lk ls)
def tru (ls : List Lk) (up : List Bool) : List Lk := trK ls up ls.length
theorem trK_succ (ls : List Lk) (up : List Bool) (k : Nat) : trK ls up (k + 1) = if up.getD k false then trK ls up k ++ [lk ls k] else trK ls up k := by
  unfold trK
  rw [List.range_succ, List.filter_append, List.map_append, List.filter_cons]
  cases h : up.getD k false with
  | false => simp
  | true => rfl
theorem tru_mem {ls : List Lk} {up : List Bool} {l : Lk} : l ∈ tru ls up ↔ ∃ i, i < ls.length ∧ up.getD i false = true ∧ l = lk ls i := by
  unfold tru trK
  rw [List.mem_map]
  constructor
  · rintro ⟨i, hi, rfl⟩
    obtain ⟨h1, h2⟩ := List.mem_filter.1 hi
    exact ⟨i, List.mem_range.1 h1, h2, rfl⟩
  · rintro ⟨i, h1, h2, rfl⟩
    exact ⟨i, List.mem_filter.2 ⟨List.mem_range.2 h1, h2⟩, rfl⟩
theorem tru_len (ls : List Lk) (up : List Bool) : (tru ls up).length ≤ ls.length := by
  unfold tru trK
  rw [List.length_map]
  exact Nat.le_trans (List.length_filter_le _ _) (by simp)
theorem tru_gv {n : Int} {ls : List Lk} (g : GV n ls) (up : List Bool) : GV n (tru ls up) := by
  refine gv_pw.2 ⟨g.1, g.2.1, Nat.le_trans (tru_len ls up) g.2.2.1, fun l hl => ?_, ?_⟩
  · obtain ⟨i, hi, _, rfl⟩ := tru_mem.1 hl
    exact g.ok (lk_mem hi)
  · unfold tru trK
    rw [List.pairwise_map]
    refine List.Pairwise.imp_of_mem ?_ (List.Pairwise.filter _ (List.pairwise_lt_range (n := ls.length)))
    intro a b ha hb hab
    have h1 := List.mem_range.1 (List.mem_filter.1 ha).1
    have h2 := List.mem_range.1 (List.mem_filter.1 hb).1
    have := List.pairwise_iff_getElem.1 g.pw a b h1 h2 hab
    rwa [hit_lk h1, hit_lk h2]
def Poss (w : Wd) (A : Int → Prop) (l : Ls) : Prop := LsV l ∧ l.o < w.n ∧ l.s ≤ iz w.sq l.o.toNat ∧ (∀ e ∈ l.e, lc w.ls l.o e.n = some e.c) ∧ (l.s < iz w.sq l.o.toNat ∨ l.e = endsOf (tru w.ls w.up) w.n.toNat l.o ∨ A l.o)
def Said (w : Wd) (l : Ls) : Prop := (∃ i, i < w.db.length ∧ l ∈ dbx w.db i) ∨ ∃ p ∈ w.net, l = p.p
structure WV (w : Wd) (A : Int → Prop) : Prop where
  g : GV w.n w.ls
  up : w.up.length = w.ls.length
  sq : (w.sq.length : Int) = w.n
  db : (w.db.length : Int) = w.n
  net : w.net.length ≤ 16
  rng : ∀ i, i < w.sq.length → 1 ≤ iz w.sq i ∧ iz w.sq i ≤ 99
  ok : ∀ i, i < w.db.length → DbV (dbx w.db i)
  own : ∀ i, i < w.db.length → ∃ l ∈ dbx w.db i, l.o = i ∧ l.s = iz w.sq i
  poss : ∀ l, Said w l → Poss w A l
  agr : ∀ x y, Said w x → Said w y → x.o = y.o → x.s = y.s → x = y
  tgt : ∀ p ∈ w.net, 0 ≤ p.t ∧ p.t < w.n
def fl1 (l : Ls) (ex : Int) (net : List Pk) (m : Int) : List Pk := if m ≠ ex ∧ net.length < 16 then net ++ [⟨m, l⟩] else net
def flN (l : Ls) (ex : Int) (net : List Pk) (nb : List Int) : List Pk := nb.foldl (fl1 l ex) net
theorem flN_mem {l : Ls} {ex : Int} {p : Pk} : ∀ {nb : List Int} {net : List Pk}, p ∈ flN l ex net nb → p ∈ net ∨ ∃ m ∈ nb, p = ⟨m, l⟩
  | [], net, h => .inl h
  | m :: r, net, h => by
    rcases flN_mem (nb := r) (net := fl1 l ex net m) h with h | ⟨x, hx, e⟩
    · unfold fl1 at h
      split at h
      · rcases List.mem_append.1 h with h | h
        · exact .inl h
        · exact .inr ⟨m, List.mem_cons_self .., List.mem_singleton.1 h⟩
      · exact .inl h
    · exact .inr ⟨x, List.mem_cons_of_mem _ hx, e⟩
theorem flN_len {l : Ls} {ex : Int} : ∀ {nb : List Int} {net : List Pk}, net.length ≤ 16 → (flN l ex net nb).length ≤ 16
  | [], net, h => h
  | m :: r, net, h => flN_len (nb := r) (by unfold fl1; split; rw [List.length_append, List.length_singleton]; omega; exact h)
def newL (w : Wd) (i : Nat) : Ls := ⟨i, iz w.sq i + 1, endsOf (tru w.ls w.up) w.n.toNat i⟩
def annW (w : Wd) (i : Nat) : Wd := { w with sq := w.sq.set i (iz w.sq i + 1), db := w.db.set i (putD (dbx w.db i) (newL w i)), net := flN (newL w i) (-1) w.net (nbS (tru w.ls w.up) i w.n.toNat) }
theorem dbx_set {db : List (List Ls)} {i j : Nat} {d : List Ls} (hi : i < db.length) : dbx (db.set i d) j = if j = i then d else dbx db j := by
  unfold dbx
  simp only [List.getD, List.getElem?_set]
  by_cases h : i = j
  · subst h; simp [hi]
  · rw [if_neg h, if_neg (fun e => h e.symm)]
end Go.Proofs.YtojdflifijpffaaGreat
end
section
namespace Go.Proofs.YtojdflifijpffaaGreat
open Go.RowKit
set_option linter.unusedSimpArgs false
set_option linter.unusedVariables false
set_option maxRecDepth 100000

section
variable {N : Nat} {ls : List Lk} {node : Int} {ends : List En}
theorem en_map {l : List Int} {f : Int → En} {i : Nat} (h : i < l.length) : en (l.map f) i = f (iz l i) := by simp [en, iz, h]
theorem pw_iz {l : List Int} (h : l.Pairwise (· < ·)) {i j : Nat} (hij : i < j) (hj : j < l.length) : iz l i < iz l j := by
  have := List.pairwise_iff_getElem.1 h i j (by omega) hj hij
  simpa [iz, hj, show i < l.length by omega] using this
theorem endsOf_ok (g : GV N ls) {n : Nat} (hn : n < N) : LsV ⟨n, 1, endsOf ls N n⟩ := by
  have h8 := g.2.1
  refine ⟨by dsimp only; omega, by dsimp only; omega, by dsimp only; omega, by dsimp only; omega, fun i hi => ?_⟩
  dsimp only at hi ⊢
  have hi' : i < (nbS ls n N).length := by unfold endsOf at hi; simpa using hi
  have hm : iz (nbS ls n N) i ∈ nbS ls n N := List.mem_of_getElem? (iz_get hi')
  obtain ⟨j, hj, e, hs⟩ := nbS_mem.1 hm
  obtain ⟨c, hc⟩ := Option.isSome_iff_exists.1 hs
  have hcc := lc_cost g hc
  have hne := (lc_none_out g hs).2.2.2.2
  unfold EnAt endsOf
  rw [en_map hi', e, hc]
  refine ⟨by dsimp only; omega, by dsimp only; omega, by dsimp only; omega, hcc.1, hcc.2, fun h0 => ?_⟩
  rw [en_map (show i - 1 < (nbS ls n N).length by omega)]
  have := pw_iz (nbS_asc ls n N) (show i - 1 < i by omega) hi'
  dsimp only
  omega
theorem ec_endsOf (g : GV N ls) {a b : Nat} (hb : b < N) : ec (endsOf ls N a) b = (lc ls a b).getD 0 := by
  unfold ec endsOf
  rw [List.find?_map]
  cases hc : lc ls a b with
  | none =>
    have : List.find? ((fun e : En => decide (e.n = (b : Int))) ∘ fun n => (⟨n, (lc ls a n).getD 0⟩ : En)) (nbS ls a N) = none := by
      rw [List.find?_eq_none]
      intro x hx
      simp only [Function.comp]
      intro e
      have e := of_decide_eq_true e
      obtain ⟨j, _, rfl, hs⟩ := nbS_mem.1 hx
      rw [e, hc] at hs
      cases hs
    rw [this]; rfl
  | some c =>
    have hm : (b : Int) ∈ nbS ls a N := nbS_mem.2 ⟨b, hb, rfl, by rw [hc]; rfl⟩
    obtain ⟨y, hy⟩ : ∃ y, List.find? ((fun e : En => decide (e.n = (b : Int))) ∘ fun n => (⟨n, (lc ls a n).getD 0⟩ : En)) (nbS ls a N) = some y := by
      rw [← Option.isSome_iff_exists, List.find?_isSome]
      exact ⟨b, hm, by simp⟩
    rw [hy]
    have := List.find?_some hy
    simp only [Function.comp] at this
    have := of_decide_eq_true this
    subst this
    simp [hc]
theorem gridR_le {f g : Nat → Nat → Option Int} {a : Nat} : ∀ {j : Nat}, (∀ b, a < b → b ≤ a + j → (f a b).isSome = true → (g a b).isSome = true) → (gridR f a j).length ≤ (gridR g a j).length
  | 0, _ => by simp [gridR]
  | j + 1, h => by
    rw [gridR_succ, gridR_succ, List.length_append, List.length_append]
    have h1 := gridR_le (j := j) fun b h1 h2 => h b h1 (by omega)
    have h2 := h (a + 1 + j) (by omega) (by omega)
    have : (cell f a (a + 1 + j)).length ≤ (cell g a (a + 1 + j)).length := by
      unfold cell
      cases e : f a (a + 1 + j) with
      | none => simp
      | some c =>
        rw [e] at h2
        obtain ⟨d, hd⟩ := Option.isSome_iff_exists.1 (h2 rfl)
        simp [hd]
    omega
theorem gridK_le {f g : Nat → Nat → Option Int} : ∀ {k : Nat}, (∀ a b, a < k → a < b → b < N → (f a b).isSome = true → (g a b).isSome = true) → (gridK f N k).length ≤ (gridK g N k).length
  | 0, _ => by simp [gridK]
  | k + 1, h => by
    rw [gridK_succ, gridK_succ, List.length_append, List.length_append]
    have h1 := gridK_le (k := k) fun a b ha => h a b (by omega)
    have h2 := gridR_le (f := f) (g := g) (a := k) (j := N - 1 - k) fun b hb1 hb2 => h k b (by omega) hb1 (by omega)
    omega
end
section
variable {ls : List Lk} {ends : List En}
end
end Go.Proofs.YtojdflifijpffaaGreat
end
section
namespace Go.Proofs.YtojdflifijpffaaGreat
open Go.RowKit
set_option linter.unusedSimpArgs false
set_option linter.unusedVariables false

theorem tru_lc {n : Int} {ls : List Lk} (g : GV n ls) {up : List Bool} {a b c : Int} (h : lc (tru ls up) a b = some c) : lc ls a b = some c := by
  have hm := lc_some h
  obtain ⟨i, hi, _, e⟩ := tru_mem.1 hm
  exact (lc_iff g.pw).2 (by rw [e]; exact lk_mem hi)
theorem endsOf_mem {ls : List Lk} {N : Nat} {o : Int} {e : En} (h : e ∈ endsOf ls N o) : lc ls o e.n = some e.c := by
  unfold endsOf at h
  obtain ⟨x, hx, rfl⟩ := List.mem_map.1 h
  obtain ⟨j, _, rfl, hs⟩ := nbS_mem.1 hx
  obtain ⟨c, hc⟩ := Option.isSome_iff_exists.1 hs
  dsimp only
  rw [hc]; rfl
theorem iz_set' {d : List Int} {y j : Nat} {v : Int} (hy : y < d.length) : iz (d.set y v) j = if j = y then v else iz d j := iz_set d y j v hy
theorem newL_ok {w : Wd} {A : Int → Prop} (h : WV w A) {i : Nat} (hi : i < w.db.length) (h99 : iz w.sq i < 99) : LsV (newL w i) := by
  have hdb := h.db
  obtain ⟨N, hN⟩ := Int.eq_ofNat_of_zero_le (show 0 ≤ w.n by omega)
  have g : GV (N : Int) (tru w.ls w.up) := by have := tru_gv h.g w.up; rwa [hN] at this
  have hiN : i < N := by omega
  have h1 := endsOf_ok g hiN
  have hr := h.rng i (by have := h.sq; omega)
  unfold newL
  rw [hN, Int.toNat_natCast]
  exact ⟨h1.1, h1.2.1, by dsimp only; omega, by dsimp only; omega, h1.2.2.2.2⟩
theorem said_ann {w : Wd} {A : Int → Prop} (h : WV w A) {i : Nat} (hi : i < w.db.length) {l : Ls} (hl : Said (annW w i) l) : l = newL w i ∨ Said w l := by
  rcases hl with ⟨j, hj, hl⟩ | ⟨p, hp, rfl⟩
  · have hj : j < w.db.length := by simpa [annW] using hj
    have hl : l ∈ dbx (w.db.set i (putD (dbx w.db i) (newL w i))) j := hl
    rw [dbx_set hi] at hl
    split at hl
    · unfold putD at hl
      split at hl
      · rcases putL_mem.1 hl with rfl | hl
        · exact .inl rfl
        · exact .inr (.inl ⟨i, hi, hl.1⟩)
      · exact .inr (.inl ⟨i, hi, hl⟩)
    · exact .inr (.inl ⟨j, hj, hl⟩)
  · rcases flN_mem (show p ∈ flN (newL w i) (-1) w.net _ from hp) with h | ⟨m, _, rfl⟩
    · exact .inr (.inr ⟨p, h, rfl⟩)
    · exact .inl rfl
theorem ann_ok {w : Wd} {A : Int → Prop} (h : WV w A) {i : Nat} (hi : i < w.db.length) (h99 : iz w.sq i < 99) : WV (annW w i) (fun o => A o ∧ o ≠ i) := by
  have hsq := h.sq
  have hdb := h.db
  have his : i < w.sq.length := by omega
  have hnew := newL_ok h hi h99
  have hsrt : ∀ j, j < w.db.length → SrtP (dbx w.db j) := fun j hj => srt_iff.1 (h.ok j hj).srt
  have hz : ∀ j, iz (w.sq.set i (iz w.sq i + 1)) j = if j = i then iz w.sq i + 1 else iz w.sq j := fun j => iz_set' his
  have no : (newL w i).o = i := rfl
  have ns : (newL w i).s = iz w.sq i + 1 := rfl
  refine ⟨h.g, h.up, ?_, ?_, flN_len h.net, fun j hj => ?_, fun j hj => ?_, fun j hj => ?_, fun l hl => ?_, fun x y hx hy e1 e2 => ?_, fun p hp => ?_⟩
  · show ((w.sq.set i _).length : Int) = w.n
    rw [List.length_set]; exact hsq
  · show ((w.db.set i _).length : Int) = w.n
    rw [List.length_set]; exact hdb
  · have hj : j < w.sq.length := by simpa [annW] using hj
    show 1 ≤ iz (w.sq.set i _) j ∧ iz (w.sq.set i _) j ≤ 99
    rw [hz]
    have := h.rng i his
    split
    · omega
    · exact h.rng j hj
  · have hj : j < w.db.length := by simpa [annW] using hj
    show DbV (dbx (w.db.set i _) j)
    rw [dbx_set hi]
    split
    · exact putD_ok (h.ok i hi) hnew
    · exact h.ok j hj
  · have hj : j < w.db.length := by simpa [annW] using hj
    show ∃ l ∈ dbx (w.db.set i _) j, l.o = j ∧ l.s = iz (w.sq.set i _) j
    rw [dbx_set hi, hz]
    by_cases e : j = i
    · subst e
      rw [if_pos rfl, if_pos rfl]
      obtain ⟨l, hl, h1, h2⟩ := h.own j hi
      refine ⟨newL w j, ?_, rfl, rfl⟩
      have hc : putC (dbx w.db j) (newL w j) = 0 := by
        refine (putC_zero (by rw [ns]; have := h.rng j his; omega)).2 ?_
        unfold seqD
        rw [no, (fd_some (hsrt j hi)).2 ⟨hl, h1⟩, ns]
        dsimp only
        omega
      unfold putD
      rw [if_pos hc]
      exact putL_mem.2 (.inl rfl)
    · rw [if_neg e, if_neg e]
      exact h.own j hj
  · show LsV l ∧ l.o < w.n ∧ l.s ≤ iz (w.sq.set i _) l.o.toNat ∧ (∀ e ∈ l.e, lc w.ls l.o e.n = some e.c) ∧ (l.s < iz (w.sq.set i _) l.o.toNat ∨ l.e = endsOf (tru w.ls w.up) w.n.toNat l.o ∨ A l.o ∧ l.o ≠ i)
    rw [hz]
    rcases said_ann h hi hl with rfl | hl
    · rw [no, Int.toNat_natCast, if_pos rfl]
      exact ⟨hnew, by omega, Int.le_of_eq ns, fun e he => tru_lc h.g (endsOf_mem he), .inr (.inl rfl)⟩
    · obtain ⟨p1, p2, p3, p4, p5⟩ := h.poss l hl
      have ho := p1.1
      by_cases e : l.o.toNat = i
      · rw [if_pos e]
        rw [e] at p3
        exact ⟨p1, p2, by omega, p4, .inl (by omega)⟩
      · rw [if_neg e]
        exact ⟨p1, p2, p3, p4, p5.imp id fun h => h.imp id fun h => ⟨h, by omega⟩⟩
  · have old : ∀ z, Said w z → z.o = (i : Int) → z.s ≤ iz w.sq i := fun z hz e => by
      have := (h.poss z hz).2.2.1
      rwa [e, Int.toNat_natCast] at this
    rcases said_ann h hi hx with rfl | hx <;> rcases said_ann h hi hy with rfl | hy
    · rfl
    · have := old y hy (by rw [← e1]; rfl)
      rw [ns] at e2; omega
    · have := old x hx (by rw [e1]; rfl)
      rw [ns] at e2; omega
    · exact h.agr x y hx hy e1 e2
  · rcases flN_mem (show p ∈ flN (newL w i) (-1) w.net _ from hp) with hp | ⟨m, hm, rfl⟩
    · exact h.tgt p hp
    · obtain ⟨j, hj, rfl, _⟩ := nbS_mem.1 hm
      show 0 ≤ (j : Int) ∧ (j : Int) < w.n
      omega
end Go.Proofs.YtojdflifijpffaaGreat
end
section
namespace Go.Proofs.YtojdflifijpffaaGreat
open Go.RowKit
set_option linter.unusedSimpArgs false
set_option linter.unusedVariables false

abbrev Nob : Int → Prop := fun _ => False
theorem WV.mono {w : Wd} {A B : Int → Prop} (h : WV w A) (k : ∀ o, A o → B o) : WV w B :=
  ⟨h.g, h.up, h.sq, h.db, h.net, h.rng, h.ok, h.own, fun l hl => by
    obtain ⟨p1, p2, p3, p4, p5⟩ := h.poss l hl
    exact ⟨p1, p2, p3, p4, p5.imp id fun q => q.imp id (k _)⟩, h.agr, h.tgt⟩
theorem WV.less {w : Wd} {A : Int → Prop} (h : WV w A) {db' : List (List Ls)} {net' : List Pk} (hd : db'.length = w.db.length) (hn : net'.length ≤ 16) (ok : ∀ i, i < w.db.length → DbV (dbx db' i)) (own : ∀ i, i < w.db.length → ∃ l ∈ dbx db' i, l.o = i ∧ l.s = iz w.sq i) (said : ∀ l, Said { w with db := db', net := net' } l → Said w l) (tgt : ∀ p ∈ net', 0 ≤ p.t ∧ p.t < w.n) : WV { w with db := db', net := net' } A :=
  ⟨h.g, h.up, h.sq, by show (db'.length : Int) = w.n; rw [hd]; exact h.db, hn, h.rng, fun i hi => ok i (by rw [← hd]; exact hi), fun i hi => own i (by rw [← hd]; exact hi), fun l hl => h.poss l (said l hl), fun x y hx hy => h.agr x y (said x hx) (said y hy), tgt⟩
section
variable {w : Wd}
theorem WV.seq_le {A : Int → Prop} (h : WV w A) {i : Nat} (hi : i < w.db.length) {o : Nat} (ho : o < w.db.length) : seqD (dbx w.db i) o ≤ iz w.sq o := by
  unfold seqD
  have hr := h.rng o (by have := h.sq; have := h.db; omega)
  cases e : fd (dbx w.db i) o with
  | none => dsimp only; omega
  | some l =>
    obtain ⟨h1, h2⟩ := (fd_some (srt_iff.1 (h.ok i hi).srt)).1 e
    have := (h.poss l (.inl ⟨i, hi, h1⟩)).2.2.1
    rw [h2, Int.toNat_natCast] at this
    exact this
theorem WV.seq_own {A : Int → Prop} (h : WV w A) {i : Nat} (hi : i < w.db.length) : seqD (dbx w.db i) i = iz w.sq i := by
  obtain ⟨l, hl, h1, h2⟩ := h.own i hi
  unfold seqD
  rw [(fd_some (srt_iff.1 (h.ok i hi).srt)).2 ⟨hl, h1⟩]
  exact h2
theorem own_of_seq {d : List Ls} (hs : SrtP d) {o v : Int} (hv : 0 ≤ v) (h : seqD d o = v) : ∃ l ∈ d, l.o = o ∧ l.s = v := by
  unfold seqD at h
  cases e : fd d o with
  | none => rw [e] at h; dsimp only at h; omega
  | some l =>
    rw [e] at h
    obtain ⟨h1, h2⟩ := (fd_some hs).1 e
    exact ⟨l, h1, h2, h⟩
def synW (w : Wd) (a b : Nat) : Wd := { w with db := (w.db.set a (mergeD (dbx w.db a) (dbx w.db b))).set b (mergeD (dbx w.db a) (dbx w.db b)) }
theorem syn_dbx {a b : Nat} (ha : a < w.db.length) (hb : b < w.db.length) (i : Nat) : dbx (synW w a b).db i = if i = a ∨ i = b then mergeD (dbx w.db a) (dbx w.db b) else dbx w.db i := by
  show dbx ((w.db.set a _).set b _) i = _
  rw [dbx_set (by rw [List.length_set]; exact hb)]
  by_cases h : i = b
  · rw [if_pos h, if_pos (.inr h)]
  · rw [if_neg h, dbx_set ha]
    by_cases h2 : i = a
    · rw [if_pos h2, if_pos (.inl h2)]
    · rw [if_neg h2, if_neg (by rintro (e | e); exact h2 e; exact h e)]
theorem DbV.pos {db : List Ls} (h : DbV db) : ∀ l ∈ db, 0 ≤ l.s := fun l hl => by
  have := ((dbV_iff.1 h).1 l hl).2.2.1
  omega
theorem syn_ok {A : Int → Prop} (h : WV w A) {a b : Nat} (ha : a < w.db.length) (hb : b < w.db.length) : WV (synW w a b) A := by
  have sa := srt_iff.1 (h.ok a ha).srt
  have sb := srt_iff.1 (h.ok b hb).srt
  have pa := (h.ok a ha).pos
  have pb := (h.ok b hb).pos
  refine h.less (db' := (synW w a b).db) (net' := w.net) (by simp [synW]) h.net (fun i hi => ?_) (fun i hi => ?_) (fun l hl => ?_) h.tgt
  · rw [syn_dbx ha hb]
    split
    · exact mergeD_ok (h.ok a ha) (dbV_iff.1 (h.ok b hb)).1
    · exact h.ok i hi
  · rw [syn_dbx ha hb]
    have hr := h.rng i (by have := h.sq; have := h.db; omega)
    split
    · rename_i e
      refine own_of_seq (mergeD_srt sa _) (by omega) ?_
      rw [seq_merge sa sb pb pa]
      have q1 := h.seq_le ha hi
      have q2 := h.seq_le hb hi
      rcases e with rfl | rfl
      · have := h.seq_own hi; omega
      · have := h.seq_own hi; omega
    · exact h.own i hi
  · rcases hl with ⟨j, hj, hl⟩ | hl
    · have hl : l ∈ dbx (synW w a b).db j := hl
      have hj : j < w.db.length := by simpa [synW] using hj
      rw [syn_dbx ha hb] at hl
      split at hl
      · rcases merge_mem hl with h | h
        · exact .inl ⟨a, ha, h⟩
        · exact .inl ⟨b, hb, h⟩
      · exact .inl ⟨j, hj, hl⟩
    · exact .inr hl
theorem lose_ok {A : Int → Prop} (h : WV w A) (k : Nat) : WV { w with net := w.net.eraseIdx k } A := by
  refine h.less (db' := w.db) rfl (Nat.le_trans (List.length_eraseIdx_le _ _) h.net) h.ok h.own (fun l hl => ?_) (fun p hp => h.tgt p (List.mem_of_mem_eraseIdx hp))
  rcases hl with hl | ⟨p, hp, rfl⟩
  · exact .inl hl
  · exact .inr ⟨p, List.mem_of_mem_eraseIdx hp, rfl⟩
theorem twice_ok {A : Int → Prop} (h : WV w A) {p : Pk} (hp : p ∈ w.net) (hl : w.net.length < 16) : WV { w with net := w.net ++ [p] } A := by
  refine h.less (db' := w.db) rfl (by rw [List.length_append, List.length_singleton]; omega) h.ok h.own (fun l hl => ?_) (fun q hq => ?_)
  · rcases hl with hl | ⟨q, hq, rfl⟩
    · exact .inl hl
    · rcases List.mem_append.1 hq with hq | hq
      · exact .inr ⟨q, hq, rfl⟩
      · obtain rfl := List.mem_singleton.1 hq
        exact .inr ⟨q, hp, rfl⟩
  · rcases List.mem_append.1 hq with hq | hq
    · exact h.tgt q hq
    · obtain rfl := List.mem_singleton.1 hq
      exact h.tgt q hp
def hearW (w : Wd) (t : Nat) (l : Ls) : Wd := if putC (dbx w.db t) l = 0 then { w with db := w.db.set t (putD (dbx w.db t) l), net := flN l l.o w.net (nbS (tru w.ls w.up) t w.n.toNat) } else w
theorem hear_ok {A : Int → Prop} (h : WV w A) {t : Nat} (ht : t < w.db.length) {l : Ls} (hV : LsV l) (hs : l.o < w.n) (hq : l.s ≤ iz w.sq l.o.toNat) (hP : Poss w A l) (hag : ∀ y, Said w y → l.o = y.o → l.s = y.s → l = y) : WV (hearW w t l) A := by
  unfold hearW
  split
  case isFalse => exact h
  rename_i hc
  have hdb := h.db
  have st := srt_iff.1 (h.ok t ht).srt
  have said : ∀ x, Said { w with db := w.db.set t (putD (dbx w.db t) l), net := flN l l.o w.net (nbS (tru w.ls w.up) t w.n.toNat) } x → x = l ∨ Said w x := fun x hx => by
    rcases hx with ⟨j, hj, hx⟩ | ⟨p, hp, rfl⟩
    · have hj : j < w.db.length := by simpa using hj
      have hx : x ∈ dbx (w.db.set t (putD (dbx w.db t) l)) j := hx
      rw [dbx_set ht] at hx
      split at hx
      · unfold putD at hx
        rw [if_pos hc] at hx
        rcases putL_mem.1 hx with rfl | hx
        · exact .inl rfl
        · exact .inr (.inl ⟨t, ht, hx.1⟩)
      · exact .inr (.inl ⟨j, hj, hx⟩)
    · rcases flN_mem (show p ∈ flN l l.o w.net _ from hp) with hp | ⟨m, _, rfl⟩
      · exact .inr (.inr ⟨p, hp, rfl⟩)
      · exact .inl rfl
  refine ⟨h.g, h.up, h.sq, by show ((w.db.set t _).length : Int) = w.n; rw [List.length_set]; exact hdb, flN_len h.net, h.rng, fun j hj => ?_, fun j hj => ?_, fun x hx => ?_, fun x y hx hy e1 e2 => ?_, fun p hp => ?_⟩
  · have hj : j < w.db.length := by simpa using hj
    show DbV (dbx (w.db.set t _) j)
    rw [dbx_set ht]
    split
    · exact putD_ok (h.ok t ht) hV
    · exact h.ok j hj
  · have hj : j < w.db.length := by simpa using hj
    show ∃ x ∈ dbx (w.db.set t _) j, x.o = j ∧ x.s = iz w.sq j
    rw [dbx_set ht]
    split
    · rename_i e
      subst e
      have hr := h.rng j (by have := h.sq; omega)
      refine own_of_seq (putD_srt st l) (by omega) ?_
      have hp : 0 ≤ l.s := by have := hV.2.2.1; omega
      rw [seq_put st hp]
      have := h.seq_own ht
      split
      · rename_i e
        have e2 : l.o.toNat = j := by omega
        rw [e2] at hq
        omega
      · omega
    · exact h.own j hj
  · rcases said x hx with rfl | hx
    · exact hP
    · exact h.poss x hx
  · rcases said x hx with ex | hx1
    · rcases said y hy with ey | hy1
      · rw [ex, ey]
      · rw [ex] at e1 e2 ⊢
        exact hag y hy1 e1 e2
    · rcases said y hy with ey | hy1
      · rw [ey] at e1 e2 ⊢
        exact (hag x hx1 e1.symm e2.symm).symm
      · exact h.agr x y hx1 hy1 e1 e2
  · rcases flN_mem (show p ∈ flN l l.o w.net _ from hp) with hp | ⟨m, hm, rfl⟩
    · exact h.tgt p hp
    · obtain ⟨j, hj, rfl, _⟩ := nbS_mem.1 hm
      show 0 ≤ (j : Int) ∧ (j : Int) < w.n
      omega
end
end Go.Proofs.YtojdflifijpffaaGreat
end
