/- Part 5 of the proof: SX Pk1 UD Pr Ps Pv Py SW Pe1 Pe2 Pz Px Pw1 Pw Pw2 Pw3 Pw4 Pw5 Pw6 Pw8 SV Pe3 Pe4 Pe5 Pe6 Pe7. -/
import Derived.Test.YtknkhdjhongklaaGreatQy4
set_option linter.unusedSimpArgs false
set_option linter.unusedVariables false
set_option maxRecDepth 100000
namespace Go.Proofs.YtknkhdjhongklaaGreat
section
open Go.RowKit
def UK (s:(List Lk×Y2)):Option Y2:=(bif decide (wrap64 (s.2.1-nI (List.length s.1))<0) then some ((-(1)),()) else some (wrap64 (s.2.1-nI (List.length s.1)),()))
def Sz (s:(Int×List Lk×Y2)):Option Y2:=(UK s.2).bind fun r0=>(bif decide (r0.1<0) then some ((-(1)),()) else some r0)
def ST (s:(Int×Xb)):Option (Int×Xb):=some s
def TT (s:(Int×Int×Int×Int×Xb)):Option Y7:=(bif (!(decide (s.1=s.2.2.2.1))) then some (false,()) else (bif (!(decide (s.2.1=s.2.2.2.2.1))) then some (false,()) else (bif (!(decide (s.2.2.1=s.2.2.2.2.2.1))) then some (false,()) else some (true,()))))
def Tz (s:(List Int×Int×List Int×Unit)):Option ((List Int×Int×List Int×Unit)⊕((List Int×Unit)⊕Unit)):=(bif decide (s.2.1<nI (List.length s.1)) then (bif Ea s.2.1 (List.length s.1) then (bif Ea s.2.1 (List.length s.2.2.1) then some (Sum.inl (s.1,wrap64 (s.2.1+1),List.set s.2.2.1 (Int.toNat s.2.1) (Ba .int s.1 (Int.toNat s.2.1)),())) else none) else none) else some (Sum.inr (Sum.inl s.2.2)))
def VK (s:(List Int×Unit)):Option (List Int×Unit):=(bif (decide (nI (List.length s.1)=nI (List.length s.1))&&(decide (0≤nI (List.length s.1))&&decide (nI (List.length s.1)≤16777216))) then (lp Tz Fa (s.1,0,List.replicate (Int.toNat (nI (List.length s.1))) (Oh .int),())).bind fun r0=>(match r0 with| .inl x1=>some x1| .inr _=>none) else none)
def Uz (s:(List Lk×Y4)):Option ((List Lk×Y4)⊕((List Lk×Unit)⊕Unit)):=(bif decide (s.2.1<nI (List.length s.1)) then (bif Ea s.2.1 (List.length s.1) then (ST ((Ba .lk s.1 (Int.toNat s.2.1)).a,(Ba .lk s.1 (Int.toNat s.2.1)).b,(Ba .lk s.1 (Int.toNat s.2.1)).c,())).bind fun r0=>(bif Ea s.2.1 (List.length s.2.2.1) then some (Sum.inl (s.1,wrap64 (s.2.1+1),List.set s.2.2.1 (Int.toNat s.2.1) (Lk.mk r0.1 r0.2.1 r0.2.2.1),())) else none) else none) else some (Sum.inr (Sum.inl s.2.2)))
def WK (s:(List Lk×Unit)):Option (List Lk×Unit):=(bif (decide (nI (List.length s.1)=nI (List.length s.1))&&(decide (0≤nI (List.length s.1))&&decide (nI (List.length s.1)≤16777216))) then (lp Uz Fa (s.1,0,List.replicate (Int.toNat (nI (List.length s.1))) (Oh .lk),())).bind fun r0=>(match r0 with| .inl x1=>some x1| .inr _=>none) else none)
def Vz (s:(List Int×List Int×Y2)):Option ((List Int×List Int×Y2)⊕((Unit)⊕Y7)):=(bif decide (s.2.2.1<nI (List.length s.1)) then (bif Ea s.2.2.1 (List.length s.1) then (bif Ea s.2.2.1 (List.length s.2.1) then (bif (!(decide (Ba .int s.1 (Int.toNat s.2.2.1)=Ba .int s.2.1 (Int.toNat s.2.2.1)))) then some (Sum.inr (Sum.inr (false,()))) else some (Sum.inl (s.1,s.2.1,wrap64 (s.2.2.1+1),()))) else none) else none) else some (Sum.inr (Sum.inl ())))
def XK (s:(List Int×List Int×Unit)):Option Y7:=(bif (!(decide (nI (List.length s.1)=nI (List.length s.2.1)))) then some (false,()) else (lp Vz Fa (s.1,s.2.1,0,())).bind fun r0=>(match r0 with| .inl _=>some (true,())| .inr y1=>some (y1.1,())))
def YK (s:(List En×Y2)):Option Y2:=(bif decide (wrap64 (s.2.1-nI (List.length s.1))<0) then some ((-(1)),()) else some (wrap64 (s.2.1-nI (List.length s.1)),()))
def ZK (s:Y4):Option Y4:=(WK s.2).bind fun r0=>some (s.1,r0)
def Wz (s:(List Lk×List Lk×Y2)):Option ((List Lk×List Lk×Y2)⊕((Unit)⊕Y7)):=(bif decide (s.2.2.1<nI (List.length s.1)) then (bif Ea s.2.2.1 (List.length s.1) then (bif Ea s.2.2.1 (List.length s.2.1) then (TT ((Ba .lk s.1 (Int.toNat s.2.2.1)).a,(Ba .lk s.1 (Int.toNat s.2.2.1)).b,(Ba .lk s.1 (Int.toNat s.2.2.1)).c,(Ba .lk s.2.1 (Int.toNat s.2.2.1)).a,(Ba .lk s.2.1 (Int.toNat s.2.2.1)).b,(Ba .lk s.2.1 (Int.toNat s.2.2.1)).c,())).bind fun r0=>(bif (!r0.1) then some (Sum.inr (Sum.inr (false,()))) else some (Sum.inl (s.1,s.2.1,wrap64 (s.2.2.1+1),()))) else none) else none) else some (Sum.inr (Sum.inl ())))
def AL (s:(List Lk×List Lk×Unit)):Option Y7:=(bif (!(decide (nI (List.length s.1)=nI (List.length s.2.1)))) then some (false,()) else (lp Wz Fa (s.1,s.2.1,0,())).bind fun r0=>(match r0 with| .inl _=>some (true,())| .inr y1=>some (y1.1,())))
def UT (s:Xb):Option Xb:=some s
def VT (s:(Int×Int×Xb)):Option Y7:=(bif (!(decide (s.1=s.2.2.1))) then some (false,()) else (bif (!(decide (s.2.1=s.2.2.2.1))) then some (false,()) else some (true,())))
def BL (s:(Int×List Lk×Y4)):Option Y7:=(bif (!(decide (s.1=s.2.2.1))) then some (false,()) else (AL (s.2.1,s.2.2.2)).bind fun r0=>(bif (!r0.1) then some (false,()) else some (true,())))
def Xz (s:(List Bool×Int×List Bool×Unit)):Option ((List Bool×Int×List Bool×Unit)⊕((List Bool×Unit)⊕Unit)):=(bif decide (s.2.1<nI (List.length s.1)) then (bif Ea s.2.1 (List.length s.1) then (bif Ea s.2.1 (List.length s.2.2.1) then some (Sum.inl (s.1,wrap64 (s.2.1+1),List.set s.2.2.1 (Int.toNat s.2.1) (Ba .bool s.1 (Int.toNat s.2.1)),())) else none) else none) else some (Sum.inr (Sum.inl s.2.2)))
def CL (s:(List Bool×Unit)):Option (List Bool×Unit):=(bif (decide (nI (List.length s.1)=nI (List.length s.1))&&(decide (0≤nI (List.length s.1))&&decide (nI (List.length s.1)≤16777216))) then (lp Xz Fa (s.1,0,List.replicate (Int.toNat (nI (List.length s.1))) (Oh .bool),())).bind fun r0=>(match r0 with| .inl x1=>some x1| .inr _=>none) else none)
def Yz (s:(List En×Int×List En×Unit)):Option ((List En×Int×List En×Unit)⊕((List En×Unit)⊕Unit)):=(bif decide (s.2.1<nI (List.length s.1)) then (bif Ea s.2.1 (List.length s.1) then (UT ((Ba .en s.1 (Int.toNat s.2.1)).n,(Ba .en s.1 (Int.toNat s.2.1)).c,())).bind fun r0=>(bif Ea s.2.1 (List.length s.2.2.1) then some (Sum.inl (s.1,wrap64 (s.2.1+1),List.set s.2.2.1 (Int.toNat s.2.1) (En.mk r0.1 r0.2.1),())) else none) else none) else some (Sum.inr (Sum.inl s.2.2)))
def DL (s:(List En×Unit)):Option (List En×Unit):=(bif (decide (nI (List.length s.1)=nI (List.length s.1))&&(decide (0≤nI (List.length s.1))&&decide (nI (List.length s.1)≤16777216))) then (lp Yz Fa (s.1,0,List.replicate (Int.toNat (nI (List.length s.1))) (Oh .en),())).bind fun r0=>(match r0 with| .inl x1=>some x1| .inr _=>none) else none)
def EL (s:(List Bool×Y2)):Option Y2:=(bif decide (wrap64 (s.2.1-nI (List.length s.1))<0) then some ((-(1)),()) else some (wrap64 (s.2.1-nI (List.length s.1)),()))
def IL (s:(List Int×Y2)):Option Y2:=(bif decide (wrap64 (s.2.1-nI (List.length s.1))<0) then some ((-(1)),()) else some (wrap64 (s.2.1-nI (List.length s.1)),()))
def Zz (s:Y3):Option Y3:=(DL s.2.2).bind fun r0=>some (s.1,s.2.1,r0)
def AA (s:(List En×List En×Y2)):Option ((List En×List En×Y2)⊕((Unit)⊕Y7)):=(bif decide (s.2.2.1<nI (List.length s.1)) then (bif Ea s.2.2.1 (List.length s.1) then (bif Ea s.2.2.1 (List.length s.2.1) then (VT ((Ba .en s.1 (Int.toNat s.2.2.1)).n,(Ba .en s.1 (Int.toNat s.2.2.1)).c,(Ba .en s.2.1 (Int.toNat s.2.2.1)).n,(Ba .en s.2.1 (Int.toNat s.2.2.1)).c,())).bind fun r0=>(bif (!r0.1) then some (Sum.inr (Sum.inr (false,()))) else some (Sum.inl (s.1,s.2.1,wrap64 (s.2.2.1+1),()))) else none) else none) else some (Sum.inr (Sum.inl ())))
def JL (s:(List En×List En×Unit)):Option Y7:=(bif (!(decide (nI (List.length s.1)=nI (List.length s.2.1)))) then some (false,()) else (lp AA Fa (s.1,s.2.1,0,())).bind fun r0=>(match r0 with| .inl _=>some (true,())| .inr y1=>some (y1.1,())))
def BA (s:(Int×Int×List En×Y2)):Option Y2:=(YK s.2.2).bind fun r0=>(bif decide (r0.1<0) then some ((-(1)),()) else some r0)
def DA (s:(List Bool×List Bool×Y2)):Option ((List Bool×List Bool×Y2)⊕((Unit)⊕Y7)):=(bif decide (s.2.2.1<nI (List.length s.1)) then (bif Ea s.2.2.1 (List.length s.1) then (bif Ea s.2.2.1 (List.length s.2.1) then (bif (!(Ba .bool s.1 (Int.toNat s.2.2.1)==Ba .bool s.2.1 (Int.toNat s.2.2.1))) then some (Sum.inr (Sum.inr (false,()))) else some (Sum.inl (s.1,s.2.1,wrap64 (s.2.2.1+1),()))) else none) else none) else some (Sum.inr (Sum.inl ())))
def KL (s:(List Bool×List Bool×Unit)):Option Y7:=(bif (!(decide (nI (List.length s.1)=nI (List.length s.2.1)))) then some (false,()) else (lp DA Fa (s.1,s.2.1,0,())).bind fun r0=>(match r0 with| .inl _=>some (true,())| .inr y1=>some (y1.1,())))
def LL (s:(Int×Y3)):Option (Int×Y3):=(Zz s.2).bind fun r0=>some (s.1,r0)
def OL (s:(Int×Int×Int×List En×Y2)):Option Y2:=(BA s.2).bind fun r0=>(bif decide (r0.1<0) then some ((-(1)),()) else some r0)
def EA (s:(Int×Int×List En×Y3)):Option Y7:=(bif (!(decide (s.1=s.2.2.2.1))) then some (false,()) else (bif (!(decide (s.2.1=s.2.2.2.2.1))) then some (false,()) else (JL (s.2.2.1,s.2.2.2.2.2)).bind fun r0=>(bif (!r0.1) then some (false,()) else some (true,()))))
def FA (s:(List Ls×Int×Kc)):Option ((List Ls×Int×Kc)⊕(Kc⊕Unit)):=(bif decide (s.2.1<nI (List.length s.1)) then (bif Ea s.2.1 (List.length s.1) then (Zz ((Ba .ls s.1 (Int.toNat s.2.1)).o,(Ba .ls s.1 (Int.toNat s.2.1)).s,(Ba .ls s.1 (Int.toNat s.2.1)).e,())).bind fun r0=>(bif Ea s.2.1 (List.length s.2.2.1) then some (Sum.inl (s.1,wrap64 (s.2.1+1),List.set s.2.2.1 (Int.toNat s.2.1) (Ls.mk r0.1 r0.2.1 r0.2.2.1),())) else none) else none) else some (Sum.inr (Sum.inl s.2.2)))
def PL (s:Kc):Option Kc:=(bif (decide (nI (List.length s.1)=nI (List.length s.1))&&(decide (0≤nI (List.length s.1))&&decide (nI (List.length s.1)≤16777216))) then (lp FA Fa (s.1,0,List.replicate (Int.toNat (nI (List.length s.1))) (Oh .uls),())).bind fun r0=>(match r0 with| .inl x1=>some x1| .inr _=>none) else none)
def GA (s:(List Ls×Xb)):Option ((List Ls×Xb)⊕(Y2⊕Y2)):=(bif decide (s.2.2.1<nI (List.length s.1)) then (bif Ea s.2.2.1 (List.length s.1) then (BA ((Ba .ls s.1 (Int.toNat s.2.2.1)).o,(Ba .ls s.1 (Int.toNat s.2.2.1)).s,(Ba .ls s.1 (Int.toNat s.2.2.1)).e,s.2.1,())).bind fun r0=>(bif decide (r0.1<0) then some (Sum.inr (Sum.inr ((-(1)),()))) else some (Sum.inl (s.1,r0.1,wrap64 (s.2.2.1+1),()))) else none) else some (Sum.inr (Sum.inl (s.2.1,()))))
def QL (s:(List Ls×Y2)):Option Y2:=(bif decide (wrap64 (s.2.1-nI (List.length s.1))<0) then some ((-(1)),()) else (lp GA Fa (s.1,wrap64 (s.2.1-nI (List.length s.1)),0,())).bind fun r0=>(match r0 with| .inl x1=>some x1| .inr y1=>some (y1.1,())))
def IA (s:(List Pk×Int×List Pk×Unit)):Option ((List Pk×Int×List Pk×Unit)⊕((List Pk×Unit)⊕Unit)):=(bif decide (s.2.1<nI (List.length s.1)) then (bif Ea s.2.1 (List.length s.1) then (LL ((Ba .pk s.1 (Int.toNat s.2.1)).t,((Ba .pk s.1 (Int.toNat s.2.1)).p).o,((Ba .pk s.1 (Int.toNat s.2.1)).p).s,((Ba .pk s.1 (Int.toNat s.2.1)).p).e,())).bind fun r0=>(bif Ea s.2.1 (List.length s.2.2.1) then some (Sum.inl (s.1,wrap64 (s.2.1+1),List.set s.2.2.1 (Int.toNat s.2.1) (Pk.mk r0.1 (Ls.mk r0.2.1 r0.2.2.1 r0.2.2.2.1)),())) else none) else none) else some (Sum.inr (Sum.inl s.2.2)))
def RL (s:(List Pk×Unit)):Option (List Pk×Unit):=(bif (decide (nI (List.length s.1)=nI (List.length s.1))&&(decide (0≤nI (List.length s.1))&&decide (nI (List.length s.1)≤16777216))) then (lp IA Fa (s.1,0,List.replicate (Int.toNat (nI (List.length s.1))) (Oh .upk),())).bind fun r0=>(match r0 with| .inl x1=>some x1| .inr _=>none) else none)
def SL (s:(Int×Int×Int×List En×Int×Y3)):Option Y7:=(bif (!(decide (s.1=s.2.2.2.2.1))) then some (false,()) else (EA (s.2.1,s.2.2.1,s.2.2.2.1,s.2.2.2.2.2)).bind fun r0=>(bif (!r0.1) then some (false,()) else some (true,())))
def JA (s:(List Ls×List Ls×Y2)):Option ((List Ls×List Ls×Y2)⊕((Unit)⊕Y7)):=(bif decide (s.2.2.1<nI (List.length s.1)) then (bif Ea s.2.2.1 (List.length s.1) then (bif Ea s.2.2.1 (List.length s.2.1) then (EA ((Ba .ls s.1 (Int.toNat s.2.2.1)).o,(Ba .ls s.1 (Int.toNat s.2.2.1)).s,(Ba .ls s.1 (Int.toNat s.2.2.1)).e,(Ba .ls s.2.1 (Int.toNat s.2.2.1)).o,(Ba .ls s.2.1 (Int.toNat s.2.2.1)).s,(Ba .ls s.2.1 (Int.toNat s.2.2.1)).e,())).bind fun r0=>(bif (!r0.1) then some (Sum.inr (Sum.inr (false,()))) else some (Sum.inl (s.1,s.2.1,wrap64 (s.2.2.1+1),()))) else none) else none) else some (Sum.inr (Sum.inl ())))
def TL (s:(List Ls×Kc)):Option Y7:=(bif (!(decide (nI (List.length s.1)=nI (List.length s.2.1)))) then some (false,()) else (lp JA Fa (s.1,s.2.1,0,())).bind fun r0=>(match r0 with| .inl _=>some (true,())| .inr y1=>some (y1.1,())))
def KA (s:(List Pk×Xb)):Option ((List Pk×Xb)⊕(Y2⊕Y2)):=(bif decide (s.2.2.1<nI (List.length s.1)) then (bif Ea s.2.2.1 (List.length s.1) then (OL ((Ba .pk s.1 (Int.toNat s.2.2.1)).t,((Ba .pk s.1 (Int.toNat s.2.2.1)).p).o,((Ba .pk s.1 (Int.toNat s.2.2.1)).p).s,((Ba .pk s.1 (Int.toNat s.2.2.1)).p).e,s.2.1,())).bind fun r0=>(bif decide (r0.1<0) then some (Sum.inr (Sum.inr ((-(1)),()))) else some (Sum.inl (s.1,r0.1,wrap64 (s.2.2.1+1),()))) else none) else some (Sum.inr (Sum.inl (s.2.1,()))))
def UL (s:(List Pk×Y2)):Option Y2:=(bif decide (wrap64 (s.2.1-nI (List.length s.1))<0) then some ((-(1)),()) else (lp KA Fa (s.1,wrap64 (s.2.1-nI (List.length s.1)),0,())).bind fun r0=>(match r0 with| .inl x1=>some x1| .inr y1=>some (y1.1,())))
def LA (s:(List (List Ls)×Int×List (List Ls)×Unit)):Option ((List (List Ls)×Int×List (List Ls)×Unit)⊕((List (List Ls)×Unit)⊕Unit)):=(bif decide (s.2.1<nI (List.length s.1)) then (bif Ea s.2.1 (List.length s.1) then (PL (Ba .db s.1 (Int.toNat s.2.1),())).bind fun r0=>(bif Ea s.2.1 (List.length s.2.2.1) then some (Sum.inl (s.1,wrap64 (s.2.1+1),List.set s.2.2.1 (Int.toNat s.2.1) r0.1,())) else none) else none) else some (Sum.inr (Sum.inl s.2.2)))
def VL (s:(List (List Ls)×Unit)):Option (List (List Ls)×Unit):=(bif (decide (nI (List.length s.1)=nI (List.length s.1))&&(decide (0≤nI (List.length s.1))&&decide (nI (List.length s.1)≤16777216))) then (lp LA Fa (s.1,0,List.replicate (Int.toNat (nI (List.length s.1))) (Oh .udb),())).bind fun r0=>(match r0 with| .inl x1=>some x1| .inr _=>none) else none)
def WT (s:Y0):Option Y0:=(ZK (s.1,s.2.1,())).bind fun r0=>(CL (s.2.2.1,())).bind fun r1=>(VK (s.2.2.2.1,())).bind fun r2=>(VL (s.2.2.2.2.1,())).bind fun r3=>(RL s.2.2.2.2.2).bind fun r4=>some (r0.1,r0.2.1,r1.1,r2.1,r3.1,r4)
def MA (s:(List (List Ls)×Xb)):Option ((List (List Ls)×Xb)⊕(Y2⊕Y2)):=(bif decide (s.2.2.1<nI (List.length s.1)) then (bif Ea s.2.2.1 (List.length s.1) then (QL (Ba .db s.1 (Int.toNat s.2.2.1),s.2.1,())).bind fun r0=>(bif decide (r0.1<0) then some (Sum.inr (Sum.inr ((-(1)),()))) else some (Sum.inl (s.1,r0.1,wrap64 (s.2.2.1+1),()))) else none) else some (Sum.inr (Sum.inl (s.2.1,()))))
def WL (s:(List (List Ls)×Y2)):Option Y2:=(bif decide (wrap64 (s.2.1-nI (List.length s.1))<0) then some ((-(1)),()) else (lp MA Fa (s.1,wrap64 (s.2.1-nI (List.length s.1)),0,())).bind fun r0=>(match r0 with| .inl x1=>some x1| .inr y1=>some (y1.1,())))
def XT (s:Ew):Option Y2:=(Sz (s.1,s.2.1,s.2.2.2.2.2.2)).bind fun r0=>(bif decide (r0.1<0) then some ((-(1)),()) else (EL (s.2.2.1,r0)).bind fun r1=>(bif decide (r1.1<0) then some ((-(1)),()) else (IL (s.2.2.2.1,r1)).bind fun r2=>(bif decide (r2.1<0) then some ((-(1)),()) else (WL (s.2.2.2.2.1,r2)).bind fun r3=>(bif decide (r3.1<0) then some ((-(1)),()) else (UL (s.2.2.2.2.2.1,r3)).bind fun r4=>(bif decide (r4.1<0) then some ((-(1)),()) else some r4)))))
def NA (s:(List Pk×List Pk×Y2)):Option ((List Pk×List Pk×Y2)⊕((Unit)⊕Y7)):=(bif decide (s.2.2.1<nI (List.length s.1)) then (bif Ea s.2.2.1 (List.length s.1) then (bif Ea s.2.2.1 (List.length s.2.1) then (SL ((Ba .pk s.1 (Int.toNat s.2.2.1)).t,((Ba .pk s.1 (Int.toNat s.2.2.1)).p).o,((Ba .pk s.1 (Int.toNat s.2.2.1)).p).s,((Ba .pk s.1 (Int.toNat s.2.2.1)).p).e,(Ba .pk s.2.1 (Int.toNat s.2.2.1)).t,((Ba .pk s.2.1 (Int.toNat s.2.2.1)).p).o,((Ba .pk s.2.1 (Int.toNat s.2.2.1)).p).s,((Ba .pk s.2.1 (Int.toNat s.2.2.1)).p).e,())).bind fun r0=>(bif (!r0.1) then some (Sum.inr (Sum.inr (false,()))) else some (Sum.inl (s.1,s.2.1,wrap64 (s.2.2.1+1),()))) else none) else none) else some (Sum.inr (Sum.inl ())))
def XL (s:(List Pk×List Pk×Unit)):Option Y7:=(bif (!(decide (nI (List.length s.1)=nI (List.length s.2.1)))) then some (false,()) else (lp NA Fa (s.1,s.2.1,0,())).bind fun r0=>(match r0 with| .inl _=>some (true,())| .inr y1=>some (y1.1,())))
def OA (s:(List (List Ls)×List (List Ls)×Y2)):Option ((List (List Ls)×List (List Ls)×Y2)⊕((Unit)⊕Y7)):=(bif decide (s.2.2.1<nI (List.length s.1)) then (bif Ea s.2.2.1 (List.length s.1) then (bif Ea s.2.2.1 (List.length s.2.1) then (TL (Ba .db s.1 (Int.toNat s.2.2.1),Ba .db s.2.1 (Int.toNat s.2.2.1),())).bind fun r0=>(bif (!r0.1) then some (Sum.inr (Sum.inr (false,()))) else some (Sum.inl (s.1,s.2.1,wrap64 (s.2.2.1+1),()))) else none) else none) else some (Sum.inr (Sum.inl ())))
def YL (s:(List (List Ls)×List (List Ls)×Unit)):Option Y7:=(bif (!(decide (nI (List.length s.1)=nI (List.length s.2.1)))) then some (false,()) else (lp OA Fa (s.1,s.2.1,0,())).bind fun r0=>(match r0 with| .inl _=>some (true,())| .inr y1=>some (y1.1,())))
def YT (s:Y1):Option Y7:=(BL (s.1,s.2.1,s.2.2.2.2.2.2.1,s.2.2.2.2.2.2.2.1,())).bind fun r0=>(bif (!r0.1) then some (false,()) else (KL (s.2.2.1,s.2.2.2.2.2.2.2.2.1,())).bind fun r1=>(bif (!r1.1) then some (false,()) else (XK (s.2.2.2.1,s.2.2.2.2.2.2.2.2.2.1,())).bind fun r2=>(bif (!r2.1) then some (false,()) else (YL (s.2.2.2.2.1,s.2.2.2.2.2.2.2.2.2.2.1,())).bind fun r3=>(bif (!r3.1) then some (false,()) else (XL (s.2.2.2.2.2.1,s.2.2.2.2.2.2.2.2.2.2.2)).bind fun r4=>(bif (!r4.1) then some (false,()) else some (true,()))))))
def PA (s:(Int×Y4)):Option ((Int×Y4)⊕(Y4⊕Unit)):=(bif decide (s.2.1<nI (List.length s.2.2.1)) then (bif Ea s.2.1 (List.length s.2.2.1) then (bif Ea s.2.1 (List.length (List.set s.2.2.1 (Int.toNat s.2.1) (Lk.mk s.1 ((Ba .lk s.2.2.1 (Int.toNat s.2.1)).b) ((Ba .lk s.2.2.1 (Int.toNat s.2.1)).c)))) then (bif Ea s.2.1 (List.length (List.set (List.set s.2.2.1 (Int.toNat s.2.1) (Lk.mk s.1 ((Ba .lk s.2.2.1 (Int.toNat s.2.1)).b) ((Ba .lk s.2.2.1 (Int.toNat s.2.1)).c))) (Int.toNat s.2.1) (Lk.mk ((Ba .lk (List.set s.2.2.1 (Int.toNat s.2.1) (Lk.mk s.1 ((Ba .lk s.2.2.1 (Int.toNat s.2.1)).b) ((Ba .lk s.2.2.1 (Int.toNat s.2.1)).c))) (Int.toNat s.2.1)).a) (wrap64 (s.1+1)) ((Ba .lk (List.set s.2.2.1 (Int.toNat s.2.1) (Lk.mk s.1 ((Ba .lk s.2.2.1 (Int.toNat s.2.1)).b) ((Ba .lk s.2.2.1 (Int.toNat s.2.1)).c))) (Int.toNat s.2.1)).c)))) then some (Sum.inl (wrap64 (wrap64 (wrap64 (s.1+1)+1)+1),wrap64 (s.2.1+1),List.set (List.set (List.set s.2.2.1 (Int.toNat s.2.1) (Lk.mk s.1 ((Ba .lk s.2.2.1 (Int.toNat s.2.1)).b) ((Ba .lk s.2.2.1 (Int.toNat s.2.1)).c))) (Int.toNat s.2.1) (Lk.mk ((Ba .lk (List.set s.2.2.1 (Int.toNat s.2.1) (Lk.mk s.1 ((Ba .lk s.2.2.1 (Int.toNat s.2.1)).b) ((Ba .lk s.2.2.1 (Int.toNat s.2.1)).c))) (Int.toNat s.2.1)).a) (wrap64 (s.1+1)) ((Ba .lk (List.set s.2.2.1 (Int.toNat s.2.1) (Lk.mk s.1 ((Ba .lk s.2.2.1 (Int.toNat s.2.1)).b) ((Ba .lk s.2.2.1 (Int.toNat s.2.1)).c))) (Int.toNat s.2.1)).c))) (Int.toNat s.2.1) (Lk.mk ((Ba .lk (List.set (List.set s.2.2.1 (Int.toNat s.2.1) (Lk.mk s.1 ((Ba .lk s.2.2.1 (Int.toNat s.2.1)).b) ((Ba .lk s.2.2.1 (Int.toNat s.2.1)).c))) (Int.toNat s.2.1) (Lk.mk ((Ba .lk (List.set s.2.2.1 (Int.toNat s.2.1) (Lk.mk s.1 ((Ba .lk s.2.2.1 (Int.toNat s.2.1)).b) ((Ba .lk s.2.2.1 (Int.toNat s.2.1)).c))) (Int.toNat s.2.1)).a) (wrap64 (s.1+1)) ((Ba .lk (List.set s.2.2.1 (Int.toNat s.2.1) (Lk.mk s.1 ((Ba .lk s.2.2.1 (Int.toNat s.2.1)).b) ((Ba .lk s.2.2.1 (Int.toNat s.2.1)).c))) (Int.toNat s.2.1)).c))) (Int.toNat s.2.1)).a) ((Ba .lk (List.set (List.set s.2.2.1 (Int.toNat s.2.1) (Lk.mk s.1 ((Ba .lk s.2.2.1 (Int.toNat s.2.1)).b) ((Ba .lk s.2.2.1 (Int.toNat s.2.1)).c))) (Int.toNat s.2.1) (Lk.mk ((Ba .lk (List.set s.2.2.1 (Int.toNat s.2.1) (Lk.mk s.1 ((Ba .lk s.2.2.1 (Int.toNat s.2.1)).b) ((Ba .lk s.2.2.1 (Int.toNat s.2.1)).c))) (Int.toNat s.2.1)).a) (wrap64 (s.1+1)) ((Ba .lk (List.set s.2.2.1 (Int.toNat s.2.1) (Lk.mk s.1 ((Ba .lk s.2.2.1 (Int.toNat s.2.1)).b) ((Ba .lk s.2.2.1 (Int.toNat s.2.1)).c))) (Int.toNat s.2.1)).c))) (Int.toNat s.2.1)).b) (wrap64 (wrap64 (s.1+1)+1))),())) else none) else none) else none) else some (Sum.inr (Sum.inl (s.1,s.2.2))))
def ZL (s:Y4):Option Y4:=(lp PA Fa (s.1,0,s.2)).bind fun r0=>(match r0 with| .inl x1=>some x1| .inr _=>none)
def QA (s:(Int×Int×List Int×Unit)):Option ((Int×Int×List Int×Unit)⊕((Int×List Int×Unit)⊕Unit)):=(bif decide (s.2.1<nI (List.length s.2.2.1)) then (bif Ea s.2.1 (List.length s.2.2.1) then some (Sum.inl (wrap64 (s.1+1),wrap64 (s.2.1+1),List.set s.2.2.1 (Int.toNat s.2.1) s.1,())) else none) else some (Sum.inr (Sum.inl (s.1,s.2.2))))
def ZT (s:(Int×List Int×Unit)):Option (Int×List Int×Unit):=(lp QA Fa (s.1,0,s.2)).bind fun r0=>(match r0 with| .inl x1=>some x1| .inr _=>none)
def RA (s:(List Lk×Xb)):Option ((List Lk×Xb)⊕(Y2⊕Y2)):=(bif decide (s.2.2.1<nI (List.length s.1)) then (bif Ea s.2.2.1 (List.length s.1) then (bif (!(decide ((Ba .lk s.1 (Int.toNat s.2.2.1)).a=s.2.1))) then some (Sum.inr (Sum.inr ((-(1)),()))) else (bif Ea s.2.2.1 (List.length s.1) then (bif (!(decide ((Ba .lk s.1 (Int.toNat s.2.2.1)).b=wrap64 (s.2.1+1)))) then some (Sum.inr (Sum.inr ((-(1)),()))) else (bif Ea s.2.2.1 (List.length s.1) then (bif (!(decide ((Ba .lk s.1 (Int.toNat s.2.2.1)).c=wrap64 (wrap64 (s.2.1+1)+1)))) then some (Sum.inr (Sum.inr ((-(1)),()))) else some (Sum.inl (s.1,wrap64 (wrap64 (wrap64 (s.2.1+1)+1)+1),wrap64 (s.2.2.1+1),()))) else none)) else none)) else none) else some (Sum.inr (Sum.inl (s.2.1,()))))
def AM (s:(List Lk×Y2)):Option Y2:=(lp RA Fa (s.1,s.2.1,0,())).bind fun r0=>(match r0 with| .inl x1=>some x1| .inr y1=>some (y1.1,()))
def SA (s:(List Int×Xb)):Option ((List Int×Xb)⊕(Y2⊕Y2)):=(bif decide (s.2.2.1<nI (List.length s.1)) then (bif Ea s.2.2.1 (List.length s.1) then (bif (!(decide (Ba .int s.1 (Int.toNat s.2.2.1)=s.2.1))) then some (Sum.inr (Sum.inr ((-(1)),()))) else some (Sum.inl (s.1,wrap64 (s.2.1+1),wrap64 (s.2.2.1+1),()))) else none) else some (Sum.inr (Sum.inl (s.2.1,()))))
def BM (s:(List Int×Y2)):Option Y2:=(lp SA Fa (s.1,s.2.1,0,())).bind fun r0=>(match r0 with| .inl x1=>some x1| .inr y1=>some (y1.1,()))
def TA (s:Y3):Option (Y3⊕((Int×List En×Unit)⊕Unit)):=(bif decide (s.2.1<nI (List.length s.2.2.1)) then (bif Ea s.2.1 (List.length s.2.2.1) then (bif Ea s.2.1 (List.length (List.set s.2.2.1 (Int.toNat s.2.1) (En.mk s.1 ((Ba .en s.2.2.1 (Int.toNat s.2.1)).c)))) then some (Sum.inl (wrap64 (wrap64 (s.1+1)+1),wrap64 (s.2.1+1),List.set (List.set s.2.2.1 (Int.toNat s.2.1) (En.mk s.1 ((Ba .en s.2.2.1 (Int.toNat s.2.1)).c))) (Int.toNat s.2.1) (En.mk ((Ba .en (List.set s.2.2.1 (Int.toNat s.2.1) (En.mk s.1 ((Ba .en s.2.2.1 (Int.toNat s.2.1)).c))) (Int.toNat s.2.1)).n) (wrap64 (s.1+1))),())) else none) else none) else some (Sum.inr (Sum.inl (s.1,s.2.2))))
def AU (s:(Int×List En×Unit)):Option (Int×List En×Unit):=(lp TA Fa (s.1,0,s.2)).bind fun r0=>(match r0 with| .inl x1=>some x1| .inr _=>none)
def UA (s:(List En×Xb)):Option ((List En×Xb)⊕(Y2⊕Y2)):=(bif decide (s.2.2.1<nI (List.length s.1)) then (bif Ea s.2.2.1 (List.length s.1) then (bif (!(decide ((Ba .en s.1 (Int.toNat s.2.2.1)).n=s.2.1))) then some (Sum.inr (Sum.inr ((-(1)),()))) else (bif Ea s.2.2.1 (List.length s.1) then (bif (!(decide ((Ba .en s.1 (Int.toNat s.2.2.1)).c=wrap64 (s.2.1+1)))) then some (Sum.inr (Sum.inr ((-(1)),()))) else some (Sum.inl (s.1,wrap64 (wrap64 (s.2.1+1)+1),wrap64 (s.2.2.1+1),()))) else none)) else none) else some (Sum.inr (Sum.inl (s.2.1,()))))
def VA (s:(List En×Y2)):Option Y2:=(lp UA Fa (s.1,s.2.1,0,())).bind fun r0=>(match r0 with| .inl x1=>some x1| .inr y1=>some (y1.1,()))
def WA (s:(Int×Int×List Bool×Unit)):Option ((Int×Int×List Bool×Unit)⊕((Int×List Bool×Unit)⊕Unit)):=(bif decide (s.2.1<nI (List.length s.2.2.1)) then (bif Ea s.2.1 (List.length s.2.2.1) then some (Sum.inl (wrap64 (s.1+1),wrap64 (s.2.1+1),List.set s.2.2.1 (Int.toNat s.2.1) (decide (Int.tmod s.1 (3)=0)),())) else none) else some (Sum.inr (Sum.inl (s.1,s.2.2))))
def BU (s:(Int×List Bool×Unit)):Option (Int×List Bool×Unit):=(lp WA Fa (s.1,0,s.2)).bind fun r0=>(match r0 with| .inl x1=>some x1| .inr _=>none)
def CU (s:(Int×Y4)):Option Y4:=(ZL s.2).bind fun r0=>some r0
def CM (s:(Int×List Lk×Y2)):Option Y2:=(AM s.2).bind fun r0=>(bif decide (r0.1<0) then some ((-(1)),()) else some r0)
def XA (s:(List Bool×Xb)):Option ((List Bool×Xb)⊕(Y2⊕Y2)):=(bif decide (s.2.2.1<nI (List.length s.1)) then (bif Ea s.2.2.1 (List.length s.1) then (bif (!(Ba .bool s.1 (Int.toNat s.2.2.1)==decide (Int.tmod s.2.1 (3)=0))) then some (Sum.inr (Sum.inr ((-(1)),()))) else some (Sum.inl (s.1,wrap64 (s.2.1+1),wrap64 (s.2.2.1+1),()))) else none) else some (Sum.inr (Sum.inl (s.2.1,()))))
def DM (s:(List Bool×Y2)):Option Y2:=(lp XA Fa (s.1,s.2.1,0,())).bind fun r0=>(match r0 with| .inl x1=>some x1| .inr y1=>some (y1.1,()))
def YA (s:(List Ls×Xb)):Option ((List Ls×Xb)⊕(Y2⊕Y2)):=(bif decide (s.2.2.1<nI (List.length s.1)) then (bif Ea s.2.2.1 (List.length s.1) then (bif (!(decide ((Ba .ls s.1 (Int.toNat s.2.2.1)).o=s.2.1))) then some (Sum.inr (Sum.inr ((-(1)),()))) else (bif Ea s.2.2.1 (List.length s.1) then (bif (!(decide ((Ba .ls s.1 (Int.toNat s.2.2.1)).s=wrap64 (s.2.1+1)))) then some (Sum.inr (Sum.inr ((-(1)),()))) else (bif Ea s.2.2.1 (List.length s.1) then (VA ((Ba .ls s.1 (Int.toNat s.2.2.1)).e,wrap64 (wrap64 (s.2.1+1)+1),())).bind fun r0=>(bif decide (r0.1<0) then some (Sum.inr (Sum.inr ((-(1)),()))) else some (Sum.inl (s.1,r0.1,wrap64 (s.2.2.1+1),()))) else none)) else none)) else none) else some (Sum.inr (Sum.inl (s.2.1,()))))
def EM (s:(List Ls×Y2)):Option Y2:=(lp YA Fa (s.1,s.2.1,0,())).bind fun r0=>(match r0 with| .inl x1=>some x1| .inr y1=>some (y1.1,()))
def ZA (s:(List Pk×Xb)):Option ((List Pk×Xb)⊕(Y2⊕Y2)):=(bif decide (s.2.2.1<nI (List.length s.1)) then (bif Ea s.2.2.1 (List.length s.1) then (bif (!(decide ((Ba .pk s.1 (Int.toNat s.2.2.1)).t=s.2.1))) then some (Sum.inr (Sum.inr ((-(1)),()))) else (bif Ea s.2.2.1 (List.length s.1) then (bif (!(decide (((Ba .pk s.1 (Int.toNat s.2.2.1)).p).o=wrap64 (s.2.1+1)))) then some (Sum.inr (Sum.inr ((-(1)),()))) else (bif Ea s.2.2.1 (List.length s.1) then (bif (!(decide (((Ba .pk s.1 (Int.toNat s.2.2.1)).p).s=wrap64 (wrap64 (s.2.1+1)+1)))) then some (Sum.inr (Sum.inr ((-(1)),()))) else (bif Ea s.2.2.1 (List.length s.1) then (VA (((Ba .pk s.1 (Int.toNat s.2.2.1)).p).e,wrap64 (wrap64 (wrap64 (s.2.1+1)+1)+1),())).bind fun r0=>(bif decide (r0.1<0) then some (Sum.inr (Sum.inr ((-(1)),()))) else some (Sum.inl (s.1,r0.1,wrap64 (s.2.2.1+1),()))) else none)) else none)) else none)) else none) else some (Sum.inr (Sum.inl (s.2.1,()))))
def IM (s:(List Pk×Y2)):Option Y2:=(lp ZA Fa (s.1,s.2.1,0,())).bind fun r0=>(match r0 with| .inl x1=>some x1| .inr y1=>some (y1.1,()))
def BB (s:(List (List Ls)×Xb)):Option ((List (List Ls)×Xb)⊕(Y2⊕Y2)):=(bif decide (s.2.2.1<nI (List.length s.1)) then (bif Ea s.2.2.1 (List.length s.1) then (EM (Ba .db s.1 (Int.toNat s.2.2.1),s.2.1,())).bind fun r0=>(bif decide (r0.1<0) then some (Sum.inr (Sum.inr ((-(1)),()))) else some (Sum.inl (s.1,r0.1,wrap64 (s.2.2.1+1),()))) else none) else some (Sum.inr (Sum.inl (s.2.1,()))))
def JM (s:(List (List Ls)×Y2)):Option Y2:=(lp BB Fa (s.1,s.2.1,0,())).bind fun r0=>(match r0 with| .inl x1=>some x1| .inr y1=>some (y1.1,()))
def DU (s:Ew):Option Y2:=(CM (s.1,s.2.1,s.2.2.2.2.2.2)).bind fun r0=>(bif decide (r0.1<0) then some ((-(1)),()) else (DM (s.2.2.1,r0)).bind fun r1=>(bif decide (r1.1<0) then some ((-(1)),()) else (BM (s.2.2.2.1,r1)).bind fun r2=>(bif decide (r2.1<0) then some ((-(1)),()) else (JM (s.2.2.2.2.1,r2)).bind fun r3=>(bif decide (r3.1<0) then some ((-(1)),()) else (IM (s.2.2.2.2.2.1,r3)).bind fun r4=>(bif decide (r4.1<0) then some ((-(1)),()) else some r4)))))
end
section
open Go.RowKit
theorem sv {α β:Type} {o:Option α} {f:α→Option β} {r:α} {Q:β→Prop} (h:o=some r) (k:Aa (f r) Q):Aa (o.bind f) Q:=by subst h;exact k
theorem CB (τ:Ty) (xs:List (El τ)) (i:Nat) (v:El τ) (h:i<xs.length):Ba τ (xs.set i v) i=v:=by
  have h1:=To τ (xs.set i v) i (by rw [List.length_set];exact h)
  rw [List.getElem?_set_self h] at h1
  exact (Option.some.inj h1).symm
theorem sX {α:Type} (xs:List α) (d:α) {x:α} {k:Nat} (hx:xs[k]? =some x):(xs.take k++List.replicate (xs.length-k) d).set k x=xs.take (k+1)++List.replicate (xs.length-(k+1)) d:=by
  have hk:=(List.getElem?_eq_some_iff.1 hx).1
  rw [List.set_append_right _ _ (by rw [List.length_take];omega),List.length_take,Nat.min_eq_left (by omega),Nat.sub_self,show xs.length-k=(xs.length-(k+1))+1 by omega,List.replicate_succ,List.set_cons_zero,List.take_add_one,hx]
  simp
theorem sY (ls:List Lk) (i:Nat) (v:Lk) (h:i<ls.length):lk (ls.set i v) i=v:=by rw [←Ng];exact CB .lk ls i v h
theorem sZ (ls:List En) (i:Nat) (v:En) (h:i<ls.length):en (ls.set i v) i=v:=by rw [←Jl];exact CB .en ls i v h
theorem tA (ls:List Int) (i:Nat) (v:Int) (h:i<ls.length):iz (ls.set i v) i=v:=by rw [←Wh];exact CB .int ls i v h
theorem Zp {α:Type} {B:(List α×Int×List α×Unit)→Option ((List α×Int×List α×Unit)⊕((List α×Unit)⊕Unit))} (xs:List α) (d:α) (hx:xs.length≤16777216)
    (hB:∀(k:Nat) (x:α) (out:List α),xs[k]? =some x→out.length=xs.length→B (xs,(k:Int),out,())=some (.inl (xs,((k+1:Nat):Int),out.set k x,())))
    (hE:∀out:List α,B (xs,(xs.length:Int),out,())=some (.inr (.inl (out,())))):lp B Fa (xs,(0:Int),List.replicate xs.length d,())=some (.inl (xs,())):=by
  refine Aa.out (Aa.count xs.length (fun k t=>t=(xs,(k:Int),xs.take k++List.replicate (xs.length-k) d,())) ?_ (Nat.zero_le _) (Sb (by omega)) (by simp))
  rintro k t hk rfl
  by_cases hlt:k<xs.length
  ·have hx:=List.getElem?_eq_getElem hlt
   rw [hB k _ _ hx (by simp;omega)]
   exact .some ⟨hlt,by rw [sX xs d hx]⟩
  ·obtain rfl:k=xs.length:=by omega
   rw [hE]
   exact .some (by simp)
theorem Aq {α:Type} {B:(List α×List α×Int×Unit)→Option ((List α×List α×Int×Unit)⊕(Unit⊕(Bool×Unit)))} (xs:List α) (hx:Ta xs)
    (hB:∀(k:Nat) (x:α),xs[k]? =some x→B (xs,xs,(k:Int),())=some (.inl (xs,xs,((k+1:Nat):Int),())))
    (hE:B (xs,xs,(xs.length:Int),())=some (.inr (.inl ()))):lp B Fa (xs,xs,(0:Int),())=some (.inl ()):=by
  refine Aa.out (Aa.count xs.length (fun k t=>t=(xs,xs,(k:Int),())) ?_ (Nat.zero_le _) (Sb hx) rfl)
  rintro k t hk rfl
  by_cases hlt:k<xs.length
  ·rw [hB k _ (List.getElem?_eq_getElem hlt)]
   exact .some ⟨hlt,rfl⟩
  ·obtain rfl:k=xs.length:=by omega
   rw [hE]
   exact .some rfl
def Fd {α:Type} (c:Nat) (f:Int→α) (k:Int) (n:Nat):List α:=(List.range n).map fun i:Nat=>f (k+c*i)
theorem Qi {α:Type} (c:Nat) (f:Int→α) (k:Int) (n:Nat):(Fd c f k n).length=n:=by simp [Fd]
theorem tB {α:Type} (c:Nat) (f:Int→α) (k:Int) (n:Nat):Fd c f k (n+1)=Fd c f k n++[f (k+c*n)]:=by simp [Fd,List.range_succ]
theorem EU {α:Type} (c:Nat) (f:Int→α) (k:Int) (n i:Nat) (h:i<n):(Fd c f k n)[i]? =some (f (k+c*i)):=by simp [Fd,h]
theorem KM {α:Type} {B:(Int×Int×List α×Unit)→Option ((Int×Int×List α×Unit)⊕((Int×List α×Unit)⊕Unit))} (c:Nat) (f:Int→α) (xs:List α) (k:Int) (h0:0≤k) (hx:xs.length≤4000000000) (hk:k+c*xs.length≤1000000000000)
    (hB:∀(i:Nat) (q:Int) (l:List α),i<l.length→l.length≤4000000000→0≤q→q≤1000000000000→B (q,(i:Int),l,())=some (.inl (q+c,((i+1:Nat):Int),l.set i (f q),())))
    (hE:∀(q:Int) (l:List α),B (q,(l.length:Int),l,())=some (.inr (.inl (q,l,())))):lp B Fa (k,(0:Int),xs,())=some (.inl (k+c*xs.length,Fd c f k xs.length,())):=by
  refine Aa.out (Aa.count xs.length (fun i t=>t=(k+c*i,(i:Int),Fd c f k i++xs.drop i,())) ?_ (Nat.zero_le _) (Sb (by omega)) (by simp [Fd]))
  rintro i t hi rfl
  have hl:(Fd c f k i++xs.drop i).length=xs.length:=by rw [List.length_append,Qi,List.length_drop];omega
  have hci:(c:Int)*i≤c*xs.length:=Int.mul_le_mul_of_nonneg_left (by omega) (by omega)
  have hc0:0≤(c:Int)*i:=Int.mul_nonneg (by omega) (by omega)
  by_cases hlt:i<xs.length
  ·rw [hB i _ _ (by omega) (by omega) (by omega) (by omega)]
   refine .some ⟨hlt,?_⟩
   have e:(Fd c f k i++xs.drop i).set i (f (k+c*i))=Fd c f k (i+1)++xs.drop (i+1):=by
     rw [List.set_append_right _ _ (by rw [Qi];exact Nat.le_refl _),Qi,Nat.sub_self,tB,List.drop_eq_getElem_cons hlt,List.set_cons_zero,List.append_assoc]
     rfl
   rw [e,show k+(c:Int)*i+c=k+c*((i+1:Nat):Int) by rw [Int.natCast_add,Int.mul_add];simp;omega]
  ·obtain rfl:i=xs.length:=by omega
   have:=hE (k+c*xs.length) (Fd c f k xs.length++xs.drop xs.length)
   rw [hl] at this
   rw [this]
   exact .some (by simp)
theorem LM {α:Type} {B:(List α×Int×Int×Unit)→Option ((List α×Int×Int×Unit)⊕((Int×Unit)⊕(Int×Unit)))} (c:Nat) (f:Int→α) (n:Nat) (k:Int) (h0:0≤k) (hx:n≤4000000000) (hk:k+c*n≤1000000000000)
    (hB:∀(i:Nat) (q:Int) (l:List α),l[i]? =some (f q)→l.length≤4000000000→0≤q→q≤1000000000000→B (l,q,(i:Int),())=some (.inl (l,q+c,((i+1:Nat):Int),())))
    (hE:∀(q:Int) (l:List α),B (l,q,(l.length:Int),())=some (.inr (.inl (q,())))):lp B Fa (Fd c f k n,k,(0:Int),())=some (.inl (k+c*n,())):=by
  refine Aa.out (Aa.count n (fun i t=>t=(Fd c f k n,k+c*i,(i:Int),())) ?_ (Nat.zero_le _) (Sb (by omega)) (by simp))
  rintro i t hi rfl
  have hci:(c:Int)*i≤c*n:=Int.mul_le_mul_of_nonneg_left (by omega) (by omega)
  have hc0:0≤(c:Int)*i:=Int.mul_nonneg (by omega) (by omega)
  by_cases hlt:i<n
  ·rw [hB i _ _ (EU c f k n i hlt) (by rw [Qi];omega) (by omega) (by omega)]
   refine .some ⟨hlt,?_⟩
   rw [show k+(c:Int)*i+c=k+c*((i+1:Nat):Int) by rw [Int.natCast_add,Int.mul_add];simp;omega]
  ·obtain rfl:i=n:=by omega
   have:=hE (k+c*i) (Fd c f k i)
   rw [Qi] at this
   rw [this]
   exact .some rfl
theorem Re {τ:Ty} {xs:List (El τ)} {i:Nat} {x:El τ} (h:xs[i]? =some x):Ba τ xs i=x:=by
  have:=To τ xs i (List.getElem?_eq_some_iff.1 h).1
  rw [h] at this
  exact (Option.some.inj this).symm
theorem Ge {α:Type} {xs:List α} {i:Nat} {x:α} (h:xs[i]? =some x):i<xs.length:=(List.getElem?_eq_some_iff.1 h).1
def Kj (q:Int):Lk:=⟨q,q+1,q+2⟩
def Qm (q:Int):En:=⟨q,q+1⟩
theorem tC (xs:List Lk) (h:xs.length≤16777216):WK (xs,())=some (xs,()):=by
  unfold WK
  simp only [La,Wa]
  refine Aa.out (Aa.gd (by simp;omega) (sv (Zp xs _ h (fun k x out hx ho=>?_) (fun out=>?_)) (.some rfl)))
  ·have hk:=Ge hx
   simp (disch:=omega) only [Uz,Re (τ:=.lk) hx,Wa,Sa,La,Option.bind_some,ST]
   exact Aa.out (Aa.gd (decide_eq_true (by omega)) (Aa.gd (Ja (by omega) (by omega)) (Aa.gd (Ja (by omega) (by omega)) (.some rfl))))
  ·simp only [Uz,La]
   exact Aa.out (Aa.no (dF (by omega)) (.some rfl))
theorem tD (xs:List Int) (h:xs.length≤16777216):VK (xs,())=some (xs,()):=by
  unfold VK
  simp only [La,Wa]
  refine Aa.out (Aa.gd (by simp;omega) (sv (Zp xs _ h (fun k x out hx ho=>?_) (fun out=>?_)) (.some rfl)))
  ·have hk:=Ge hx
   simp (disch:=omega) only [Tz,Re (τ:=.int) hx,Wa,Sa,La,Option.bind_some]
   exact Aa.out (Aa.gd (decide_eq_true (by omega)) (Aa.gd (Ja (by omega) (by omega)) (Aa.gd (Ja (by omega) (by omega)) (.some rfl))))
  ·simp only [Tz,La]
   exact Aa.out (Aa.no (dF (by omega)) (.some rfl))
theorem tE (xs:List En) (h:xs.length≤16777216):DL (xs,())=some (xs,()):=by
  unfold DL
  simp only [La,Wa]
  refine Aa.out (Aa.gd (by simp;omega) (sv (Zp xs _ h (fun k x out hx ho=>?_) (fun out=>?_)) (.some rfl)))
  ·have hk:=Ge hx
   simp (disch:=omega) only [Yz,Re (τ:=.en) hx,Wa,Sa,La,Option.bind_some,UT]
   exact Aa.out (Aa.gd (decide_eq_true (by omega)) (Aa.gd (Ja (by omega) (by omega)) (Aa.gd (Ja (by omega) (by omega)) (.some rfl))))
  ·simp only [Yz,La]
   exact Aa.out (Aa.no (dF (by omega)) (.some rfl))
theorem tF (xs:List Lk) (h:Ta xs):AL (xs,xs,())=some (true,()):=by
  unfold AL
  unfold Ta at h
  simp only [La]
  refine Aa.out (Aa.no (by simp) (sv (Aq xs h (fun k x hx=>?_) ?_) (.some rfl)))
  ·have hk:=Ge hx
   simp (disch:=omega) only [Wz,Re (τ:=.lk) hx,Wa,Sa,La,Option.bind_some,decide_true,Bool.not_true,cond_false,TT]
   exact Aa.out (Aa.gd (decide_eq_true (by omega)) (Aa.gd (Ja (by omega) (by omega)) (Aa.gd (Ja (by omega) (by omega)) (.some rfl))))
  ·simp only [Wz,La]
   exact Aa.out (Aa.no (dF (by omega)) (.some rfl))
theorem tG (xs:List Int) (h:Ta xs):XK (xs,xs,())=some (true,()):=by
  unfold XK
  unfold Ta at h
  simp only [La]
  refine Aa.out (Aa.no (by simp) (sv (Aq xs h (fun k x hx=>?_) ?_) (.some rfl)))
  ·have hk:=Ge hx
   simp (disch:=omega) only [Vz,Re (τ:=.int) hx,Wa,Sa,La,Option.bind_some,decide_true,Bool.not_true,cond_false]
   exact Aa.out (Aa.gd (decide_eq_true (by omega)) (Aa.gd (Ja (by omega) (by omega)) (Aa.gd (Ja (by omega) (by omega)) (.some rfl))))
  ·simp only [Vz,La]
   exact Aa.out (Aa.no (dF (by omega)) (.some rfl))
theorem tH (xs:List En) (h:Ta xs):JL (xs,xs,())=some (true,()):=by
  unfold JL
  unfold Ta at h
  simp only [La]
  refine Aa.out (Aa.no (by simp) (sv (Aq xs h (fun k x hx=>?_) ?_) (.some rfl)))
  ·have hk:=Ge hx
   simp (disch:=omega) only [AA,Re (τ:=.en) hx,Wa,Sa,La,Option.bind_some,decide_true,Bool.not_true,cond_false,VT]
   exact Aa.out (Aa.gd (decide_eq_true (by omega)) (Aa.gd (Ja (by omega) (by omega)) (Aa.gd (Ja (by omega) (by omega)) (.some rfl))))
  ·simp only [AA,La]
   exact Aa.out (Aa.no (dF (by omega)) (.some rfl))
theorem tI (k:Int) (xs:List Lk) (h0:0≤k) (hx:xs.length≤4000000000) (hk:k+3*xs.length≤1000000000000):ZL (k,xs,())=some (k+3*xs.length,Fd 3 Kj k xs.length,()):=by
  unfold ZL
  refine Aa.out (sv (KM 3 Kj xs k h0 hx hk (fun i q l hi hl hq0 hq1=>?_) (fun q l=>?_)) (.some rfl))
  ·simp (disch:=first|omega|assumption|(simp only [List.length_set];omega)) only [PA,Wa,Sa,La,Ng,sY,List.set_set,Int.add_assoc,Int.reduceAdd]
   refine Aa.out (Aa.gd (decide_eq_true (by omega)) (Aa.gd (Ja (by omega) (by (try simp only [List.length_set]);omega)) (Aa.gd (Ja (by omega) (by (try simp only [List.length_set]);omega)) (Aa.gd (Ja (by omega) (by (try simp only [List.length_set]);omega)) (.some ?_)))))
   first|rfl|(simp [Kj];done)|(unfold Kj;congr 2;omega)
  ·simp only [PA,La]
   exact Aa.out (Aa.no (dF (by omega)) (.some rfl))
theorem tJ (k:Int) (n:Nat) (h0:0≤k) (hx:n≤4000000000) (hk:k+3*n≤1000000000000):AM (Fd 3 Kj k n,k,())=some (k+3*n,()):=by
  unfold AM
  refine Aa.out (sv (LM 3 Kj n k h0 hx hk (fun i q l hi hl hq0 hq1=>?_) (fun q l=>?_)) (.some rfl))
  ·have hlt:=Ge hi
   simp (disch:=omega) only [RA,Wa,Sa,La,Re (τ:=.lk) hi,Int.add_assoc,Int.reduceAdd]
   refine Aa.out (Aa.gd (decide_eq_true (by omega)) (Aa.gd (Ja (by omega) (by omega)) (Aa.no (by simp [Kj]) (Aa.gd (Ja (by omega) (by omega)) (Aa.no (by simp [Kj]) (Aa.gd (Ja (by omega) (by omega)) (Aa.no (by simp [Kj]) (.some ?_))))))))
   first|rfl|(simp;omega)
  ·simp only [RA,La]
   exact Aa.out (Aa.no (dF (by omega)) (.some rfl))
theorem tK (k:Int) (xs:List Int) (h0:0≤k) (hx:xs.length≤4000000000) (hk:k+1*xs.length≤1000000000000):ZT (k,xs,())=some (k+1*xs.length,Fd 1 id k xs.length,()):=by
  unfold ZT
  refine Aa.out (sv (KM 1 id xs k h0 hx hk (fun i q l hi hl hq0 hq1=>?_) (fun q l=>?_)) (.some rfl))
  ·simp (disch:=first|omega|assumption|(simp only [List.length_set];omega)) only [QA,Wa,Sa,La,Wh,tA,List.set_set,Int.add_assoc,Int.reduceAdd]
   refine Aa.out (Aa.gd (decide_eq_true (by omega)) (Aa.gd (Ja (by omega) (by (try simp only [List.length_set]);omega)) (.some ?_)))
   first|rfl|(simp [id];done)|(unfold id;congr 2;omega)
  ·simp only [QA,La]
   exact Aa.out (Aa.no (dF (by omega)) (.some rfl))
theorem tL (k:Int) (n:Nat) (h0:0≤k) (hx:n≤4000000000) (hk:k+1*n≤1000000000000):BM (Fd 1 id k n,k,())=some (k+1*n,()):=by
  unfold BM
  refine Aa.out (sv (LM 1 id n k h0 hx hk (fun i q l hi hl hq0 hq1=>?_) (fun q l=>?_)) (.some rfl))
  ·have hlt:=Ge hi
   simp (disch:=omega) only [SA,Wa,Sa,La,Re (τ:=.int) hi,Int.add_assoc,Int.reduceAdd]
   refine Aa.out (Aa.gd (decide_eq_true (by omega)) (Aa.gd (Ja (by omega) (by omega)) (Aa.no (by simp [id]) (.some ?_))))
   first|rfl|(simp;omega)
  ·simp only [SA,La]
   exact Aa.out (Aa.no (dF (by omega)) (.some rfl))
theorem tM (k:Int) (xs:List En) (h0:0≤k) (hx:xs.length≤4000000000) (hk:k+2*xs.length≤1000000000000):AU (k,xs,())=some (k+2*xs.length,Fd 2 Qm k xs.length,()):=by
  unfold AU
  refine Aa.out (sv (KM 2 Qm xs k h0 hx hk (fun i q l hi hl hq0 hq1=>?_) (fun q l=>?_)) (.some rfl))
  ·simp (disch:=first|omega|assumption|(simp only [List.length_set];omega)) only [TA,Wa,Sa,La,Jl,sZ,List.set_set,Int.add_assoc,Int.reduceAdd]
   refine Aa.out (Aa.gd (decide_eq_true (by omega)) (Aa.gd (Ja (by omega) (by (try simp only [List.length_set]);omega)) (Aa.gd (Ja (by omega) (by (try simp only [List.length_set]);omega)) (.some ?_))))
   first|rfl|(simp [Qm];done)|(unfold Qm;congr 2;omega)
  ·simp only [TA,La]
   exact Aa.out (Aa.no (dF (by omega)) (.some rfl))
theorem bC (k:Int) (n:Nat) (h0:0≤k) (hx:n≤4000000000) (hk:k+2*n≤1000000000000):VA (Fd 2 Qm k n,k,())=some (k+2*n,()):=by
  unfold VA
  refine Aa.out (sv (LM 2 Qm n k h0 hx hk (fun i q l hi hl hq0 hq1=>?_) (fun q l=>?_)) (.some rfl))
  ·have hlt:=Ge hi
   simp (disch:=omega) only [UA,Wa,Sa,La,Re (τ:=.en) hi,Int.add_assoc,Int.reduceAdd]
   refine Aa.out (Aa.gd (decide_eq_true (by omega)) (Aa.gd (Ja (by omega) (by omega)) (Aa.no (by simp [Qm]) (Aa.gd (Ja (by omega) (by omega)) (Aa.no (by simp [Qm]) (.some ?_))))))
   first|rfl|(simp;omega)
  ·simp only [UA,La]
   exact Aa.out (Aa.no (dF (by omega)) (.some rfl))
theorem tN (n:Int) (ls:List Lk) (h:ls.length≤16777216):ZK (n,ls,())=some (n,ls,()):=by
  unfold ZK
  rw [tC ls h];rfl
theorem bD (n:Int) (ls:List Lk) (h:Ta ls):BL (n,ls,n,ls,())=some (true,()):=by
  unfold BL
  refine Aa.out (Aa.no (by simp) (sv (tF ls h) (Aa.no rfl (.some rfl))))
theorem tO (n k:Int) (ls:List Lk) (h0:0≤k) (h1:k≤100000000000) (h:ls.length≤16777216):CU (n,k,ls,())=some (k+3*ls.length,Fd 3 Kj k ls.length,()):=by
  unfold CU
  rw [tI k ls h0 (by omega) (by omega)];rfl
theorem bE (n k:Int) (m:Nat) (h0:0≤k) (h1:k≤100000000000) (h:m≤16777216):CM (n,Fd 3 Kj k m,k,())=some (k+3*m,()):=by
  unfold CM
  refine Aa.out (sv (tJ k m h0 (by omega) (by omega)) (Aa.no (dF (by dsimp only;omega)) (.some rfl)))
abbrev Ie {α:Type} (l:List α):Prop:=l.length≤9223372036854775807
theorem tP (s:List Lk×Int×Unit) (h:Ie s.1) (h1: -1≤s.2.1∧s.2.1≤2000000):UK s=some (if s.2.1-s.1.length<0 then -1 else s.2.1-s.1.length,()):=by
  unfold Ie at h
  unfold UK
  simp (disch:=omega) only [La,Sa]
  by_cases e:s.2.1-(s.1.length:Int)<0
  ·rw [if_pos e,decide_eq_true e];rfl
  ·rw [if_neg e,dF e];rfl
theorem tQ (n:Int) (ls:List Lk) (left:Int) (h:Ie ls) (h1: -1≤left∧left≤2000000):Sz (n,ls,left,())=some (if left-ls.length<0 then -1 else left-ls.length,()):=by
  unfold Sz
  rw [tP _ h h1]
  dsimp only [Option.bind_some]
  by_cases e:left-(ls.length:Int)<0
  ·rw [if_pos e];rfl
  ·rw [if_neg e]
   exact Aa.out (Aa.no (dF e) (.some rfl))
theorem tR (s:List En×Int×Unit) (h:Ie s.1) (h1: -1≤s.2.1∧s.2.1≤2000000):YK s=some (if s.2.1-s.1.length<0 then -1 else s.2.1-s.1.length,()):=by
  unfold Ie at h
  unfold YK
  simp (disch:=omega) only [La,Sa]
  by_cases e:s.2.1-(s.1.length:Int)<0
  ·rw [if_pos e,decide_eq_true e];rfl
  ·rw [if_neg e,dF e];rfl
end
section
open Go.RowKit
theorem tS {α:Type} (c:Nat) (f:Int→α) (k:Int) (n:Nat):Fd c f k (n+1)=f k::Fd c f (k+c) n:=by
  refine List.ext_getElem? fun i=>?_
  rcases Nat.lt_or_ge i (n+1) with h|h
  ·rw [EU c f k (n+1) i h]
   cases i with
   |zero=>simp
   |succ i =>
    rw [List.getElem?_cons_succ,EU c f (k+c) n i (by omega),show k+(c:Int)+(c:Int)*(i:Int)=k+(c:Int)*((i+1:Nat):Int) by rw [Int.natCast_add,Int.mul_add];simp;omega]
  ·rw [List.getElem?_eq_none (by rw [Qi];omega),List.getElem?_eq_none (by rw [List.length_cons,Qi];omega)]
theorem MM:∀(k:Int) (xs:List En),Eh k xs=Fd 2 Qm k xs.length
  |_,[]=>rfl
  |k,x::r=>by
   rw [List.length_cons,tS,Eh,MM (k+2) r];rfl
def DB (k:Int) (l:Ls):Ls:=⟨k,k+1,Eh (k+2) l.e⟩
def Eo (l:Ls):Nat:=2+2*l.e.length
theorem FU:∀xs:List Ls,Ac xs=Zb Eo xs
  |[]=>rfl
  |l::r=>by rw [Ac,Zb,FU r];rfl
theorem bF:∀(k:Int) (xs:List Ls),Oe k xs=Hf DB Eo k xs
  |_,[]=>rfl
  |k,l::r=>by
   rw [Oe,Hf,bF _ r,show k+2+2*(l.e.length:Int)=k+(Eo l:Int) by unfold Eo;omega];rfl
theorem bG {α:Type} {m:Int→α→α} {c:α→Nat}:∀(xs:List α) (k:Int) (i:Nat) (x:α),xs[i]? =some x→(Hf m c k xs)[i]? =some (m (k+Zb c (xs.take i)) x)
  |[],_,_,_,h=>by simp at h
  |y::r,k,0,x,h=>by simp at h;subst h;simp [Hf,Zb]
  |y::r,k,i+1,x,h=>by
   rw [List.getElem?_cons_succ] at h
   rw [Hf,List.getElem?_cons_succ,bG r (k+c y) i x h,List.take_succ_cons,Zb,show k+(c y:Int)+(Zb c (r.take i):Int)=k+((c y+Zb c (r.take i):Nat):Int) by omega]
theorem GU {α:Type} {B:(List α×Int×Int×Unit)→Option ((List α×Int×Int×Unit)⊕((Int×Unit)⊕(Int×Unit)))} (m:Int→α→α) (c:α→Nat) (xs:List α) (k:Int) (h0:0≤k) (hx:xs.length≤4000000000) (hk:k+Zb c xs≤4000000000)
    (hB:∀(i:Nat) (q:Int) (l:List α) (x:α),l[i]? =some (m q x)→x∈xs→l.length≤4000000000→0≤q→q+c x≤4000000000→B (l,q,(i:Int),())=some (.inl (l,q+c x,((i+1:Nat):Int),())))
    (hE:∀(q:Int) (l:List α),B (l,q,(l.length:Int),())=some (.inr (.inl (q,())))):lp B Fa (Hf m c k xs,k,(0:Int),())=some (.inl (k+Zb c xs,())):=by
  refine Aa.out (Aa.count xs.length (fun i t=>t=(Hf m c k xs,k+Zb c (xs.take i),(i:Int),())) ?_ (Nat.zero_le _) (Sb (by omega)) (by simp [Zb]))
  rintro i t hi rfl
  by_cases hlt:i<xs.length
  ·have hxi:=List.getElem?_eq_getElem hlt
   have h1:=Uv (c:=c) xs i _ hxi
   rw [hB i _ _ _ (bG xs k i _ hxi) (List.getElem_mem hlt) (by rw [Lm];exact hx) (by omega) (by omega)]
   exact .some ⟨hlt,by rw [h1.2];congr 2;omega⟩
  ·obtain rfl:i=xs.length:=by omega
   have:=hE (k+Zb c (xs.take xs.length)) (Hf m c k xs)
   rw [Lm] at this
   rw [this]
   exact .some (by simp)
def Fo (q:Int):Bool:=decide (Int.tmod q 3=0)
theorem tT (ls:List Bool) (i:Nat) (v:Bool) (h:i<ls.length):Ba .bool (ls.set i v) i=v:=CB .bool ls i v h
theorem tU (ls:List Bool) (i:Nat) (v:Bool) (h:i<ls.length):Ba .bool (ls.set i v) i=v:=CB .bool ls i v h
theorem tV (k:Int) (xs:List Bool) (h0:0≤k) (hx:xs.length≤4000000000) (hk:k+1*xs.length≤1000000000000):BU (k,xs,())=some (k+1*xs.length,Fd 1 Fo k xs.length,()):=by
  unfold BU
  refine Aa.out (sv (KM 1 Fo xs k h0 hx hk (fun i q l hi hl hq0 hq1=>?_) (fun q l=>?_)) (.some rfl))
  ·simp (disch:=first|omega|assumption|(simp only [List.length_set];omega)) only [WA,Wa,Sa,La,tU,tT,List.set_set,Int.add_assoc,Int.reduceAdd]
   refine Aa.out (Aa.gd (decide_eq_true (by omega)) (Aa.gd (Ja (by omega) (by (try simp only [List.length_set]);omega)) (.some ?_)))
   first|rfl|(simp [Fo];done)|(unfold Fo;congr 2;omega)
  ·simp only [WA,La]
   exact Aa.out (Aa.no (dF (by omega)) (.some rfl))
theorem tW (k:Int) (n:Nat) (h0:0≤k) (hx:n≤4000000000) (hk:k+1*n≤1000000000000):DM (Fd 1 Fo k n,k,())=some (k+1*n,()):=by
  unfold DM
  refine Aa.out (sv (LM 1 Fo n k h0 hx hk (fun i q l hi hl hq0 hq1=>?_) (fun q l=>?_)) (.some rfl))
  ·have hlt:=Ge hi
   simp (disch:=omega) only [XA,Wa,Sa,La,Re (τ:=.bool) hi,Int.add_assoc,Int.reduceAdd]
   refine Aa.out (Aa.gd (decide_eq_true (by omega)) (Aa.gd (Ja (by omega) (by omega)) (Aa.no (by simp [Fo]) (.some ?_))))
   first|rfl|(simp;omega)
  ·simp only [XA,La]
   exact Aa.out (Aa.no (dF (by omega)) (.some rfl))
theorem tX (k:Int) (xs:List Ls) (h0:0≤k) (hx:xs.length≤4000000000) (hk:k+Ac xs≤4000000000) (he:∀l∈xs,l.e.length≤4000000000):EM (Oe k xs,k,())=some (k+Ac xs,()):=by
  rw [FU] at hk ⊢
  rw [bF]
  unfold EM
  refine Aa.out (sv (GU DB Eo xs k h0 hx hk (fun i q l x hi hm hl hq0 hq1=>?_) (fun q l=>?_)) (.some rfl))
  ·have hlt:=Ge hi
   have hxe:=he x hm
   unfold Eo at hq1 ⊢
   have e1:=bC (q+2) x.e.length (by omega) hxe (by omega)
   simp (disch:=omega) only [YA,Wa,Sa,La,Re (τ:=.ls) hi,Int.add_assoc,Int.reduceAdd]
   refine Aa.out (Aa.gd (decide_eq_true (by omega)) (Aa.gd (Ja (by omega) (by omega)) (Aa.no (by simp [DB]) (Aa.gd (Ja (by omega) (by omega)) (Aa.no (by simp [DB]) (Aa.gd (Ja (by omega) (by omega)) (sv (by dsimp only [DB];rw [MM];exact e1) (Aa.no (dF (by dsimp only;omega)) (.some ?_)))))))))
   congr 3;dsimp only;omega
  ·simp only [YA,La]
   exact Aa.out (Aa.no (dF (by omega)) (.some rfl))
theorem tY (k:Int) (xs:List (List Ls)) (h0:0≤k) (hx:xs.length≤4000000000) (hk:k+Uf xs≤4000000000) (he:∀d∈xs,List.length (α:=Ls) d≤4000000000∧∀l∈(d:List Ls),l.e.length≤4000000000):JM (Qp k xs,k,())=some (k+Uf xs,()):=by
  unfold JM
  refine Aa.out (sv (GU Oe Ac xs k h0 hx hk (fun i q l x hi hm hl hq0 hq1=>?_) (fun q l=>?_)) (.some rfl))
  ·have hlt:=Ge hi
   have hxe:=he x hm
   have e1:=tX q x hq0 hxe.1 hq1 hxe.2
   simp (disch:=omega) only [BB,Wa,Sa,La,Re (τ:=.db) hi,Int.add_assoc,Int.reduceAdd]
   exact Aa.out (Aa.gd (decide_eq_true (by omega)) (Aa.gd (Ja (by omega) (by omega)) (sv e1 (Aa.no (dF (by dsimp only;omega)) (.some rfl)))))
  ·simp only [BB,La]
   exact Aa.out (Aa.no (dF (by omega)) (.some rfl))
theorem tZ (k:Int) (xs:List Pk) (h0:0≤k) (hx:xs.length≤4000000000) (hk:k+Sg xs≤4000000000) (he:∀p∈xs,p.p.e.length≤4000000000):IM (Vv k xs,k,())=some (k+Sg xs,()):=by
  unfold IM
  refine Aa.out (sv (GU Hj Fh xs k h0 hx hk (fun i q l x hi hm hl hq0 hq1=>?_) (fun q l=>?_)) (.some rfl))
  ·have hlt:=Ge hi
   have hxe:=he x hm
   unfold Fh at hq1 ⊢
   have e1:=bC (q+3) x.p.e.length (by omega) hxe (by omega)
   simp (disch:=omega) only [ZA,Wa,Sa,La,Re (τ:=.pk) hi,Int.add_assoc,Int.reduceAdd]
   refine Aa.out (Aa.gd (decide_eq_true (by omega)) (Aa.gd (Ja (by omega) (by omega)) (Aa.no (by simp [Hj]) (Aa.gd (Ja (by omega) (by omega)) (Aa.no (by simp [Hj]) (Aa.gd (Ja (by omega) (by omega)) (Aa.no (by simp [Hj]) (Aa.gd (Ja (by omega) (by omega)) (sv (by dsimp only [Hj];rw [MM];exact e1) (Aa.no (dF (by dsimp only;omega)) (.some ?_)))))))))))
   congr 3;dsimp only;omega
  ·simp only [ZA,La]
   exact Aa.out (Aa.no (dF (by omega)) (.some rfl))
abbrev Si (k:Int) (xs:List Lk):List Lk:=Fd 3 Kj k xs.length
abbrev Rm (k:Int) (xs:List Bool):List Bool:=Fd 1 Fo k xs.length
abbrev Um (k:Int) (xs:List Int):List Int:=Fd 1 id k xs.length
structure FV (W:Wl):Prop where
  ls:W.2.1.length≤16777216
  up:W.2.2.1.length≤16777216
  sq:W.2.2.2.1.length≤16777216
  db:W.2.2.2.2.1.length≤16777216
  net:W.2.2.2.2.2.length≤16777216
  dbs:∀d∈W.2.2.2.2.1,List.length (α:=Ls) d≤16777216∧∀l∈(d:List Ls),l.e.length≤16777216
  pks:∀p∈W.2.2.2.2.2,p.p.e.length≤16777216
  cnt:Tg W≤3999999999
theorem uA (W:Wl) (h:FV W):DU ((Mm Si Rm Um 1 W).1,(Mm Si Rm Um 1 W).2.1,(Mm Si Rm Um 1 W).2.2.1,(Mm Si Rm Um 1 W).2.2.2.1,(Mm Si Rm Um 1 W).2.2.2.2.1,(Mm Si Rm Um 1 W).2.2.2.2.2,1,())=some (1+(Tg W:Int),()):=by
  obtain ⟨n,ls,up,sq,db,net⟩:=W
  obtain ⟨h1,h2,h3,h4,h5,h6,h7,h8⟩:=h
  unfold Tg at h8 ⊢
  dsimp only [Mm] at *
  unfold DU
  dsimp only
  have e1:=bE n 1 ls.length (by omega) (by omega) h1
  have e2:=tW (1+3*ls.length) up.length (by omega) (by omega) (by omega)
  have e3:=tL (1+3*ls.length+up.length) sq.length (by omega) (by omega) (by omega)
  have e4:=tY (1+3*ls.length+up.length+sq.length) db (by omega) (by omega) (by omega) (fun d hd=>⟨by have:=(h6 d hd).1;omega,fun l hl=>by have:=(h6 d hd).2 l hl;omega⟩)
  have e5:=tZ (1+3*ls.length+up.length+sq.length+Uf db) net (by omega) (by omega) (by omega) (fun p hp=>by have:=h7 p hp;omega)
  simp only [Int.one_mul] at e2 e3
  refine Aa.out (sv e1 (Aa.no (dF (by dsimp only;omega)) (sv e2 (Aa.no (dF (by dsimp only;omega)) (sv e3 (Aa.no (dF (by dsimp only;omega)) (sv e4 (Aa.no (dF (by dsimp only;omega)) (sv e5 (Aa.no (dF (by dsimp only;omega)) (.some ?_)))))))))))
  congr 1;(try dsimp only);omega
end
section
open Go.RowKit
theorem uB {i j:Nat} (h:i+j≤4611686018427387904):wrap64 (Qk .u64 (Kf .u64 (wrap64 ((i:Int)+(j:Int)))) 1)=(((i+j) / 2:Nat):Int):=by
  rw [Sa (x:=(i:Int)+j) (by omega) (by omega)]
  have e:Kf .u64 ((i:Int)+j)=(i:Int)+j:=by
    simp [Kf,IntKind.wrap,IntKind.signed,IntKind.bits]
    omega
  rw [e]
  unfold Qk
  rw [show (1:Int).toNat=1 from rfl,show min 1 (IntKind.bits .u64)=1 from rfl]
  rw [Int.fdiv_eq_ediv_of_nonneg _ (by decide)]
  rw [Sa (by omega) (by omega)]
  omega
def Jw (db:List Ls) (o:Int) (i:Nat):Prop:=i≤db.length∧(∀x,x<i→(Ya db x).o<o)∧∀x,i≤x→x<db.length→o≤(Ya db x).o
def Ti (db:List Ls) (o:Int) (i:Nat):Bool:=decide (i<db.length∧(Ya db i).o=o)
def Ik (db:List Ls):Prop:=∀i j,i<j→j<db.length→(Ya db i).o<(Ya db j).o
theorem Fe.srt {db:List Ls} (h:Fe db):Ik db:=by
  have step:∀d i,i+d+1<db.length→(Ya db i).o<(Ya db (i+d+1)).o:=fun d=>by
    induction d with
    |zero=>intro i hi;exact (h (i+1) hi).2 (by omega)
    |succ d ih =>
     intro i hi
     have h1:=ih i (by omega)
     have h2:=(h (i+(d+1)+1) hi).2 (by omega)
     rw [Nat.add_sub_cancel] at h2
     rw [show i+(d+1)=i+d+1 by omega] at h2 ⊢
     omega
  intro i j hij hj
  have:=step (j-i-1) i (by omega)
  rwa [show i+(j-i-1)+1=j by omega] at this
theorem bH (a b:Int):EK (a,b,())=some (if a<b then -1 else if b<a then 1 else 0,()):=by
  have e:∀x:Int,Ez (x,())=some (false,()):=fun x=>by simp [Ez]
  unfold EK
  simp only [e,Option.bind_some,cond_false]
  by_cases h1:a<b
  ·simp [h1]
  ·by_cases h2:b<a<;>simp [h1,h2]
theorem IU (db:List Ls) (o:Int) (hs:Ik db) (hl:db.length≤2000000000):∃i:Nat,Jw db o i∧Yp (db,o,())=some ((i:Int),Ti db o i,()):=by
  have hmono:∀i j,i≤j→j<db.length→(Ya db i).o≤(Ya db j).o:=fun i j hij hj=>by
    rcases Nat.eq_or_lt_of_le hij with e|e
    ·subst e;exact Int.le_refl _
    ·have:=hs i j e hj;omega
  have key:Aa (Yp (db,o,())) fun r=>∃i:Nat,Jw db o i∧r=((i:Int),Ti db o i,()):=by
    unfold Yp QT
    refine Aa.bnd (R:=fun r=>∃i:Nat,Jw db o i∧r=((i:Int),Ti db o i,())) (Aa.bnd (R:=fun r=>match r with| .inl x=>∃i:Nat,Jw db o i∧x=(db,o,(db.length:Int),(i:Int),())| .inr _=>False) ?_ ?_) ?_
    ·refine Aa.loop (fun s=>∃i j:Nat,s=(db,o,(db.length:Int),(i:Int),(j:Int),())∧i≤j∧j≤db.length∧(∀x,x<i→(Ya db x).o<o)∧∀x,j≤x→x<db.length→o≤(Ya db x).o) (fun s=>(s.2.2.2.2.1-s.2.2.2.1).toNat) ?_ Fa _ ?_ ?_
     ·rintro _ ⟨i,j,rfl,hij,hj,h1,h2⟩
      simp only [MK,uB (show i+j≤4611686018427387904 by omega),Eg,Wa,Lz,bH,Option.bind_some]
      refine Aa.ite (fun hlt=>?_) (fun hlt=>?_)
      ·have hlt:=oT hlt
       have hm:(i+j) / 2<j∧i≤(i+j) / 2:=by omega
       generalize (i+j) / 2=m at *
       refine Aa.gd (Ja (by omega) (by omega)) (Aa.ite (fun hc=>?_) (fun hc=>?_))
       ·have hc:=oT hc
        have hc:(Ya db m).o<o:=by
          by_cases h:(Ya db m).o<o
          ·exact h
          ·rw [if_neg h] at hc
           split at hc<;>omega
        rw [Sa (by omega) (by omega)]
        refine .some ⟨⟨m+1,j,rfl,by omega,hj,fun x hx=>?_,h2⟩,by dsimp only;omega⟩
        have:=hmono x m (by omega) (by omega)
        omega
       ·have hc:=oF hc
        have hc:o≤(Ya db m).o:=by
          by_cases h:(Ya db m).o<o
          ·rw [if_pos h] at hc;omega
          ·omega
        refine .some ⟨⟨i,m,rfl,by omega,by omega,h1,fun x hx hxl=>?_⟩,by dsimp only;omega⟩
        have:=hmono m x hx hxl
        omega
      ·have hlt:=oF hlt
       obtain rfl:i=j:=by omega
       exact .some ⟨i,⟨hj,h1,h2⟩,rfl⟩
     ·rw [La];dsimp only;unfold Fa;omega
     ·exact ⟨0,db.length,by rw [La];rfl,by omega,by omega,fun x hx=>by omega,fun x hx hxl=>by omega⟩
    ·rintro (r|r) hr
     case inr=>exact hr.elim
     obtain ⟨i,hi,rfl⟩:=hr
     simp only [Eg,Wa,Lz,bH,Option.bind_some]
     refine Aa.ite (fun hlt=>?_) (fun hlt=>?_)
     ·have hlt:=oT hlt
      refine Aa.gd (Ja (by omega) (by omega)) (.some ⟨i,hi,?_⟩)
      have hge:=hi.2.2 i (Nat.le_refl _) (by omega)
      unfold Ti
      by_cases h:(Ya db i).o=o
      ·rw [decide_eq_true (show i<db.length∧(Ya db i).o=o from ⟨by omega,h⟩),h,if_neg (by omega),if_neg (by omega)];rfl
      ·rw [dF (show ¬(i<db.length∧(Ya db i).o=o) from fun g=>h g.2),if_neg (by omega),if_pos (by omega)];rfl
     ·have hlt:=oF hlt
      refine .some ⟨i,hi,?_⟩
      unfold Ti
      rw [dF (show ¬(i<db.length∧(Ya db i).o=o) from fun g=>by omega)]
    ·rintro _ ⟨i,hi,rfl⟩
     exact .some ⟨i,hi,rfl⟩
  obtain ⟨r,h1,i,h2,h3⟩:=key
  exact ⟨i,h2,by rw [h1,h3]⟩
theorem JU {db:List Ls} {o:Int} {i:Nat} (hs:Ik db) (h:Jw db o i):fd db o=if Ti db o i then some (Ya db i) else none:=by
  unfold Ti
  by_cases hc:i<db.length∧(Ya db i).o=o
  ·rw [decide_eq_true hc,if_pos rfl]
   unfold fd
   rw [Ad hc.1]
   exact SK hc.1 (decide_eq_true (by rw [←Ad hc.1];exact hc.2)) fun x hx hxi=>dF (by rw [←Ad hx];have:=h.2.1 x hxi;omega)
  ·rw [dF hc]
   unfold fd
   refine TK (p:=fun l:Ls=>decide (l.o=o)) (l:=db) fun x hx=>dF ?_
   rw [←Ad hx]
   rcases Nat.lt_or_ge x i with h1|h1
   ·have:=h.2.1 x h1;omega
   ·intro e
    have h2:=h.2.2 x h1 hx
    have h3:=h.2.2 i (Nat.le_refl _) (by omega)
    rcases Nat.eq_or_lt_of_le h1 with e2|e2
    ·subst e2;exact hc ⟨hx,e⟩
    ·have:=hs i x e2 hx;omega
end
section
open Go.RowKit
theorem bI:∀{l l':List Int},l.Pairwise (·<·)→l'.Pairwise (·<·)→(∀x,x∈l↔x∈l')→l=l'
  |[],[],_,_,_=>rfl
  |[],y::s,_,_,h=>by have:=(h y).2 (List.mem_cons_self ..);simp at this
  |x::r,[],_,_,h=>by have:=(h x).1 (List.mem_cons_self ..);simp at this
  |x::r,y::s,h1,h2,h=>by
   have h1:=List.pairwise_cons.1 h1
   have h2:=List.pairwise_cons.1 h2
   have e:x=y:=by
     rcases List.mem_cons.1 ((h x).1 (List.mem_cons_self ..)) with e|hx
     ·exact e
     ·rcases List.mem_cons.1 ((h y).2 (List.mem_cons_self ..)) with e|hy
      ·exact e.symm
      ·have q1:=h1.1 y hy
       have q2:=h2.1 x hx
       omega
   subst e
   have:r=s:=bI h1.2 h2.2 fun z=>by
     constructor
     ·intro hz
      rcases List.mem_cons.1 ((h z).1 (List.mem_cons_of_mem _ hz)) with e|hz'
      ·subst e;have:=h1.1 z hz;omega
      ·exact hz'
     ·intro hz
      rcases List.mem_cons.1 ((h z).2 (List.mem_cons_of_mem _ hz)) with e|hz'
      ·subst e;have:=h2.1 z hz;omega
      ·exact hz'
   rw [this]
theorem uC {x:Int} {l:List Int}:x∈Dg l↔x∈l:=List.mem_mergeSort
theorem uD {l:List Int} (h:l.Pairwise (·≠·)):(Dg l).Pairwise (·<·):=by
  have h1:(Dg l).Pairwise (fun a b=>decide (a≤b)=true):=List.pairwise_mergeSort (fun a b c h1 h2=>decide_eq_true (by have:=oT h1;have:=oT h2;omega)) (fun a b=>by simp;omega) l
  have h2:(Dg l).Nodup:=(List.mergeSort_perm l _).nodup_iff.2 h
  refine List.Pairwise.imp ?_ (List.Pairwise.and h1 h2)
  rintro a b ⟨q1,q2⟩
  have:=oT q1
  omega
theorem bJ (ls:List Lk) (m:Int) (k:Nat):(Xd ls m k).Pairwise (·<·):=by
  unfold Xd
  rw [List.pairwise_map]
  refine List.Pairwise.imp ?_ (List.Pairwise.filter _ (List.pairwise_lt_range (n:=k)))
  intro a b h
  omega
theorem EB {ls:List Lk} {m x:Int} {k:Nat}:x∈Xd ls m k↔∃j:Nat,j<k∧x=j∧(lc ls m j).isSome=true:=by
  unfold Xd
  rw [List.mem_map]
  constructor
  ·rintro ⟨j,hj,rfl⟩
   obtain ⟨h1,h2⟩:=List.mem_filter.1 hj
   exact ⟨j,List.mem_range.1 h1,rfl,by rw [PJ];exact h2⟩
  ·rintro ⟨j,h1,rfl,h2⟩
   rw [PJ] at h2
   exact ⟨j,List.mem_filter.2 ⟨List.mem_range.2 h1,h2⟩,rfl⟩
section
variable {N:Nat} {ls:List Lk}
theorem uE (g:GV N ls) {m:Int} {x:Int}:x∈Mg ls m ls.length↔(lc ls m x).isSome=true:=by
  unfold Mg
  rw [List.mem_map,List.take_of_length_le (Nat.le_refl _)]
  constructor
  ·rintro ⟨l,hl,rfl⟩
   obtain ⟨h1,h2⟩:=List.mem_filter.1 hl
   have ho:=g.ok h1
   unfold Hh at ho
   have h2:m=l.a∨m=l.b:=oT h2
   unfold Tp
   by_cases e:m=l.a
   ·rw [if_pos e,e,ZS g.pw h1 (by omega)];rfl
   ·have e2:=h2.resolve_left e
    rw [if_neg e,if_pos e2,e2,aK,ZS g.pw h1 (by omega)];rfl
  ·intro h
   obtain ⟨c,hc⟩:=Option.isSome_iff_exists.1 h
   have hm:=Up hc
   have ho:=g.ok hm
   unfold Hh at ho
   dsimp only at ho
   refine ⟨_,List.mem_filter.2 ⟨hm,decide_eq_true (by dsimp only;omega)⟩,?_⟩
   unfold Tp
   dsimp only
   split
   ·omega
   ·rw [if_pos (by omega)];omega
theorem uF (g:GV N ls) (m:Int):(Mg ls m ls.length).Pairwise (·≠·):=by
  unfold Mg
  rw [List.take_of_length_le (Nat.le_refl _),List.pairwise_map]
  refine List.Pairwise.imp_of_mem ?_ (List.Pairwise.filter _ g.pw)
  intro a b ha hb hab
  obtain ⟨ha,ea⟩:=List.mem_filter.1 ha
  obtain ⟨hb,eb⟩:=List.mem_filter.1 hb
  have oa:=g.ok ha
  have ob:=g.ok hb
  have ea:m=a.a∨m=a.b:=oT ea
  have eb:m=b.a∨m=b.b:=oT eb
  unfold Hh at oa ob
  unfold Pe at hab
  unfold Tp
  split<;>split<;>(try split)<;>(try split)<;>omega
theorem bK (g:GV N ls) {m x:Int} (h:(lc ls m x).isSome=true):0≤x∧x<N∧0≤m∧m<N∧x≠m:=by
  obtain ⟨c,hc⟩:=Option.isSome_iff_exists.1 h
  have ho:=g.ok (Up hc)
  unfold Hh at ho
  dsimp only at ho
  omega
theorem bL (g:GV N ls) (m:Int):Dg (Mg ls m ls.length)=Xd ls m N:=by
  refine bI (uD (uF g m)) (bJ ls m N) fun x=>?_
  rw [uC,uE g,EB]
  constructor
  ·intro h
   have:=bK g h
   exact ⟨x.toNat,by omega,by omega,by rw [show ((x.toNat:Nat):Int)=x by omega];exact h⟩
  ·rintro ⟨j,_,rfl,h⟩;exact h
def Be (ls:List Lk) (N:Nat) (o:Int):List En:=(Xd ls o N).map fun n=>⟨n,(lc ls o n).getD 0⟩
theorem uG (g:GV N ls) (o s:Int):Iw ((N:Int),ls,o,s,())=some (o,s,Be ls N o,()):=by
  have h8:=g.2.1
  have fl:Ta ls:=(show Ta ls by have:=g.2.2.1;unfold Ta;omega)
  unfold Iw
  simp only [aX (N:Int) ls o (by have:=g.2.2.1;omega),bL g o,Option.bind_some,La]
  have hlen:=LJ ls o N
  have hmem:∀x∈Xd ls o N,∃c,lc ls o x=some c:=fun x hx=>by
    obtain ⟨j,_,rfl,h⟩:=EB.1 hx
    exact Option.isSome_iff_exists.1 h
  unfold Be
  generalize Xd ls o N=nb at *
  refine Aa.out (Aa.bnd (R:=fun r=>match r with| .inl x=>x=(0,0,o,s,[],nb.map fun n=>⟨n,(lc ls o n).getD 0⟩,())| .inr _=>False) ?_ ?_)
  ·refine Aa.count nb.length (fun k t=>t=(o,(nb.length:Int),(k:Int),(N:Int),ls,0,0,o,s,nb,[],(nb.take k).map (fun n=>(⟨n,(lc ls o n).getD 0⟩:En)),())) ?_ (Nat.zero_le _) (Sb (by omega)) (by simp)
   rintro k t hk rfl
   by_cases hlt:k<nb.length
   ·obtain ⟨c,hc⟩:=hmem (iz nb k) (List.mem_of_getElem? (z8 hlt))
    obtain ⟨h1,h2,h3⟩:=Dw hc
    simp (disch:=omega) only [Nz,Wh,Ng,Wa,Sa,aW _ _ _ _ fl,Option.bind_some,List.length_singleton,List.length_map]
    refine Aa.gd (decide_eq_true (by omega)) (Aa.gd (Ja (by omega) (by omega)) (Aa.gd (Ja h1 h2) (Aa.gd (decide_eq_true (by simp;omega)) (.some ⟨hlt,?_⟩))))
    rw [h3,List.take_add_one,z8 hlt]
    simp [hc]
   ·obtain rfl:k=nb.length:=by omega
    unfold Nz
    simp only [dF (show ¬(nb.length:Int)<nb.length by omega),cond_false,List.take_length]
    exact .some rfl
  ·rintro (r|r) hr
   case inr=>exact hr.elim
   obtain rfl:=hr
   exact .some rfl
theorem bM (o:Int):(Be ls N o).length≤N:=by unfold Be;rw [List.length_map];exact LJ ls o N
theorem uH (g:GV N ls) (o s:Int):Hz ((N:Int),ls,o,s,())=some (o,s,Be ls N o,()):=by
  have h8:=g.2.1
  have fl:Ta ls:=(show Ta ls by have:=g.2.2.1;unfold Ta;omega)
  unfold Hz
  refine Aa.out (Aa.bnd (R:=fun r=>match r with| .inl x=>x=(0,0,[],o,s,Be ls N o,())| .inr _=>False) ?_ ?_)
  ·refine Aa.count N (fun k t=>t=(o,(k:Int),(N:Int),ls,0,0,[],o,s,(Xd ls o k).map (fun n=>(⟨n,(lc ls o n).getD 0⟩:En)),())) ?_ (Nat.zero_le _) (Sb (by omega)) (by simp [Xd])
   rintro k t hk rfl
   have hlen:=LJ ls o k
   simp (disch:=omega) only [JK,Ng,Wa,Sa,aV _ _ _ _ fl,Option.bind_some,List.length_singleton,List.length_map]
   refine Aa.ite (fun hlt=>?_) (fun hlt=>?_)
   ·have hlt:=oT hlt
    cases hc:lc ls o k with
    |none =>
     refine Aa.no (by rw [aM hc];rfl) (.some ⟨by omega,?_⟩)
     rw [aE,if_neg (by rw [aM hc];omega)]
     rfl
    |some c =>
     obtain ⟨h1,h2,h3⟩:=Dw hc
     refine Aa.gd (decide_eq_true h1) (Aa.gd (Ja h1 h2) (Aa.gd (decide_eq_true (by omega)) (.some ⟨by omega,?_⟩)))
     rw [aE,if_pos h1,h3]
     simp [hc]
   ·have hlt:=oF hlt
    obtain rfl:k=N:=by omega
    exact .some rfl
  ·rintro (r|r) hr
   case inr=>exact hr.elim
   obtain rfl:=hr
   exact .some rfl
end
end
section
open Go.RowKit
theorem uI (db:List Ls) (a b:Int) (hs:Ik db) (hl:db.length≤2000000000) (he:∀l∈db,Ta l.e):Mz (db,a,b,())=some (Jh db a b,()):=by
  obtain ⟨i,hi,e⟩:=IU db a hs hl
  unfold Mz
  rw [e]
  dsimp only [Option.bind_some]
  unfold Jh
  rw [JU hs hi]
  refine Aa.out ?_
  rcases iF (Ti db a i) with h|h
  ·refine Aa.gd (by rw [h];rfl) ?_
   rw [h]
   exact .some rfl
  ·refine Aa.no (by rw [h];rfl) ?_
   have hh:=oT h
   refine Aa.gd (Ja (by omega) (by omega)) ?_
   rw [if_pos h,Eg,Wa,La]
   dsimp only
   have hf:Ta (Ya db i).e:=he _ (by rw [Ad hh.1];exact List.getElem_mem hh.1)
   generalize (Ya db i).e=es at *
   refine Aa.bnd (R:=fun r=>match r with| .inl _=>ec es b=0| .inr z=>z.1=ec es b) ?_ ?_
   ·refine Aa.count es.length (fun k t=>t=(b,es,(es.length:Int),(k:Int),())∧∀i,i<k→(en es i).n≠b) ?_ (Nat.zero_le _) (Sb (by omega)) ⟨rfl,fun i hi=>by omega⟩
    rintro k t hk ⟨rfl,hok⟩
    simp (disch:=omega) only [NK,Jl,Wa,Sa,La]
    repeat' (first
      |refine Aa.some ?_
      |fail
      |(refine Aa.gd (by first|exact Ja (by omega) (by omega)|(simp (disch:=omega) only [Sa];exact Ja (by omega) (by omega))) ?_)
      |(refine Aa.ite (fun h=>?_) (fun h=>?_)<;>try simp only [decide_eq_true_eq,decide_eq_false_iff_not,Bool.not_eq_true',Bool.not_eq_false',Di,Ei,Bool.and_eq_true,Bool.or_eq_true,Bool.and_eq_false_iff,Bool.or_eq_false_iff,El] at h))
    all_goals try dsimp only
    ·have hlt:k<es.length:=by omega
     unfold ec
     rw [SK (k:=k) hlt (decide_eq_true (by rw [←Xh hlt];assumption)) fun i hi hik=>dF (by rw [←Xh hi];exact hok i hik),Xh hlt]
    ·refine ⟨by omega,rfl,fun i hi=>?_⟩
     by_cases e:i<k
     ·exact hok i e
     ·obtain rfl:i=k:=by omega
      assumption
    ·unfold ec
     rw [TK (p:=fun e:En=>decide (e.n=b)) (l:=es) fun i hi=>dF (by rw [←Xh hi];exact hok i (by omega))]
   ·rintro (r|r) hr
    ·have hr:ec es b=0:=hr
     exact .some (by first | rw [hr] | exact Prod.ext hr rfl)
    ·obtain ⟨z,u⟩:=r
     have hr:z=ec es b:=hr
     exact .some (by first | rw [hr] | exact Prod.ext hr rfl)
def Ld (db:List Ls) (a b:Nat):Option Int:=if 0<Jh db a b∧0<Jh db b a then some (max (Jh db a b) (Jh db b a)) else none
section
variable {db:List Ls} {N:Nat}
theorem bN {a b:Nat}:cell (Ld db) a b=if 0<Jh db a b∧0<Jh db b a then [⟨a,b,max (Jh db a b) (Jh db b a)⟩] else []:=by
  unfold cell Ld
  split<;>rename_i h
  ·split at h
   ·rename_i h2
    injection h with h
    rw [if_pos h2,←h]
   ·cases h
  ·split at h
   ·cases h
   ·rename_i h2
    rw [if_neg h2]
theorem uJ (hl:Ta db) (he:∀l∈db,Ta l.e) (h8:N≤8) {n:Nat} (hn:n<N) (x4 x6:Int) (xl xo:List Lk) (ho:xo.length≤1000):Aa (lp Rz Fa ((N:Int),db,(n:Int),wrap64 ((n:Int)+1),x4,xl,x6,xo,())) fun r=>match r with
      | .inl x=>x=((N:Int),db,(n:Int),x4,xl,x6,xo++Qe (Ld db) n (N-1-n),())
      | .inr _=>False:=by
  refine Aa.count (N-1-n) (fun k s=>s=((N:Int),db,(n:Int),((n+1+k:Nat):Int),x4,xl,x6,xo++Qe (Ld db) n k,())) ?_ (Nat.zero_le _) (Sb (by omega)) (by rw [Sa (by omega) (by omega)];simp [Qe])
  rintro k s hk rfl
  have hlen:=YS (Ld db) n k
  have Ee:∀c:List Lk,cell (Ld db) n (n+1+k)=c→k<N-1-n→((N:Int),db,(n:Int),wrap64 (((n+1+k:Nat):Int)+1),x4,xl,x6,(xo++Qe (Ld db) n k)++c,())=((N:Int),db,(n:Int),((n+1+(k+1):Nat):Int),x4,xl,x6,xo++Qe (Ld db) n (k+1),()):=fun c hc hk=>by
    rw [Yy,hc,Sa (by omega) (by omega),List.append_assoc]
    rfl
  simp only [Rz,sW _ _ _ hl he,Option.bind_some,List.length_singleton,List.length_append]
  refine Aa.ite (fun hlt=>?_) (fun hlt=>?_)
  ·have hlt:=oT hlt
   have hkN:k<N-1-n:=by omega
   have hcell:=bN (db:=db) (a:=n) (b:=n+1+k)
   refine Aa.ite (fun h1=>Aa.ite (fun h2=>?_) (fun h2=>?_)) (fun h1=>?_)
   ·have h1:=oT h1
    have h2:=oT h2
    rw [if_pos ⟨h1,h2⟩] at hcell
    exact Aa.gd (decide_eq_true (by omega)) (.some ⟨hkN,Ee _ hcell hkN⟩)
   ·have h2:=oF h2
    rw [if_neg fun h=>h2 h.2] at hcell
    have:=Ee _ hcell hkN
    rw [List.append_nil] at this
    exact .some ⟨hkN,this⟩
   ·have h1:=oF h1
    rw [if_neg fun h=>h1 h.1] at hcell
    have:=Ee _ hcell hkN
    rw [List.append_nil] at this
    exact .some ⟨hkN,this⟩
  ·have hlt:=oF hlt
   obtain rfl:k=N-1-n:=by omega
   exact .some rfl
theorem bO {k:Nat} (h8:N≤8) (hk:k≤N):k*N≤64:=Nat.le_trans (Nat.mul_le_mul hk (Nat.le_refl N)) (Nat.le_trans (Nat.mul_le_mul h8 h8) (by omega))
theorem uK (hl:Ta db) (he:∀l∈db,Ta l.e) (h8:N≤8):RK ((N:Int),db,())=some ((N:Int),Cg (Ld db) N,()):=by
  unfold RK
  refine Aa.out (Aa.bnd (R:=fun r=>match r with| .inl x=>x.2.2.1=(N:Int)∧x.2.2.2.1=Cg (Ld db) N| .inr _=>False) ?_ ?_)
  ·refine Aa.count N (fun k s=>s=((N:Int),db,(k:Int),0,[],(N:Int),Uh (Ld db) N k,())) ?_ (Nat.zero_le _) (Sb (by omega)) rfl
   rintro k s hk rfl
   have hlen:=aH (Ld db) N k
   have hkN:=bO h8 hk
   unfold QK
   dsimp only
   refine Aa.ite (fun hlt=>?_) (fun hlt=>?_)
   ·have hlt:=oT hlt
    have hkl:k<N:=by omega
    refine Aa.bnd (uJ hl he h8 hkl 0 (N:Int) [] _ (by omega)) ?_
    rintro (r|r) hr
    case inr=>exact hr.elim
    obtain rfl:=hr
    refine .some ⟨hkl,?_⟩
    dsimp only
    rw [Zy,Sa (by omega) (by omega)]
    rfl
   ·have hlt:=oF hlt
    obtain rfl:k=N:=by omega
    exact .some ⟨rfl,rfl⟩
  ·rintro (r|r) hr
   case inr=>exact hr.elim
   have hr:r.2.2.1=(N:Int)∧r.2.2.2.1=Cg (Ld db) N:=hr
   exact .some (by first | rw [hr.1,hr.2] | exact Prod.ext hr.1 (Prod.ext hr.2 rfl))
theorem uL (hs:Ik db) (hl:db.length≤2000000000) (he:∀l∈db,Ta l.e) (h8:N≤8) {n:Nat} (hn:n<N) (x4 x6 x7:Int) (xl xo:List Lk) (ho:xo.length≤1000):Aa (lp Oz Fa ((N:Int),db,(n:Int),wrap64 ((n:Int)+1),x4,(n:Int),x6,x7,xl,xo,())) fun r=>match r with
      | .inl x=>x=((N:Int),db,x4,(n:Int),x6,x7,xl,xo++Qe (Ld db) n (N-1-n),())
      | .inr _=>False:=by
  refine Aa.count (N-1-n) (fun k s=>s=((N:Int),db,(n:Int),((n+1+k:Nat):Int),x4,(n:Int),x6,x7,xl,xo++Qe (Ld db) n k,())) ?_ (Nat.zero_le _) (Sb (by omega)) (by rw [Sa (by omega) (by omega)];simp [Qe])
  rintro k s hk rfl
  have hlen:=YS (Ld db) n k
  have Ee:∀c:List Lk,cell (Ld db) n (n+1+k)=c→k<N-1-n→((N:Int),db,(n:Int),wrap64 (((n+1+k:Nat):Int)+1),x4,(n:Int),x6,x7,xl,(xo++Qe (Ld db) n k)++c,())=((N:Int),db,(n:Int),((n+1+(k+1):Nat):Int),x4,(n:Int),x6,x7,xl,xo++Qe (Ld db) n (k+1),()):=fun c hc hk=>by
    rw [Yy,hc,Sa (by omega) (by omega),List.append_assoc]
    rfl
  simp only [Oz,uI _ _ _ hs hl he,Option.bind_some,List.length_singleton,List.length_append]
  refine Aa.ite (fun hlt=>?_) (fun hlt=>?_)
  ·have hlt:=oT hlt
   have hkN:k<N-1-n:=by omega
   have hcell:=bN (db:=db) (a:=n) (b:=n+1+k)
   refine Aa.ite (fun h1=>Aa.ite (fun h2=>?_) (fun h2=>?_)) (fun h1=>?_)
   ·have h1:=oT h1
    have h2:=oT h2
    rw [if_pos ⟨h1,h2⟩] at hcell
    exact Aa.gd (decide_eq_true (by omega)) (.some ⟨hkN,Ee _ hcell hkN⟩)
   ·have h2:=oF h2
    rw [if_neg fun h=>h2 h.2] at hcell
    have:=Ee _ hcell hkN
    rw [List.append_nil] at this
    exact .some ⟨hkN,this⟩
   ·have h1:=oF h1
    rw [if_neg fun h=>h1 h.1] at hcell
    have:=Ee _ hcell hkN
    rw [List.append_nil] at this
    exact .some ⟨hkN,this⟩
  ·have hlt:=oF hlt
   obtain rfl:k=N-1-n:=by omega
   exact .some rfl
end
def NM (n:Int) (db:List Ls):Bool:=Dc n 1 8&&Og db&&decide ((Cg (Ld db) n.toNat).length≤14)
theorem uM (n:Int) (db:List Ls) (hl:db.length≤2000000000) (he:∀l∈db,Ta l.e):PK (n,db,())=some (if NM n db then (n,true,Cg (Ld db) n.toNat,()) else (0,false,[],())):=by
  unfold PK NM
  simp only [Il,bB db (show Ta db by unfold Ta;omega) he,Option.bind_some]
  cases h1:Dc n 1 8 with
  |false=>rfl
  |true =>
  cases h2:Og db with
  |false=>rfl
  |true =>
  have h1:=Mh h1
  have hs:Ik db:=Fe.srt (oT h2)
  obtain ⟨N,rfl⟩:=Int.eq_ofNat_of_zero_le (show 0≤n by omega)
  have h8:N≤8:=by omega
  rw [Int.toNat_natCast]
  simp only [Bool.not_true,cond_false,Bool.true_and,Bool.and_self]
  refine Aa.out (Aa.bnd (R:=fun r=>match r with| .inl x=>x.2.1=(N:Int)∧x.2.2.2.1=Cg (Ld db) N| .inr _=>False) ?_ ?_)
  ·refine Aa.count N (fun k s=>s=((N:Int),db,(N:Int),(k:Int),0,(N:Int),[],Uh (Ld db) N k,())) ?_ (Nat.zero_le _) (Sb (by omega)) rfl
   rintro k s hk rfl
   have hlen:=aH (Ld db) N k
   have hkN:=bO h8 hk
   unfold OK
   dsimp only
   refine Aa.ite (fun hlt=>?_) (fun hlt=>?_)
   ·have hlt:=oT hlt
    have hkl:k<N:=by omega
    refine Aa.bnd (uL hs hl he h8 hkl (N:Int) 0 (N:Int) [] _ (by omega)) ?_
    rintro (r|r) hr
    case inr=>exact hr.elim
    obtain rfl:=hr
    refine .some ⟨hkl,?_⟩
    dsimp only
    rw [Zy,Sa (by omega) (by omega)]
    rfl
   ·have hlt:=oF hlt
    obtain rfl:k=N:=by omega
    exact .some ⟨rfl,rfl⟩
  ·rintro (r|r) hr
   case inr=>exact hr.elim
   have hr:r.2.1=(N:Int)∧r.2.2.2.1=Cg (Ld db) N:=hr
   dsimp only
   rw [hr.1,hr.2,La]
   by_cases h14:(Cg (Ld db) N).length≤14
   ·refine Aa.no (dF (by omega)) (.some ?_)
    rw [decide_eq_true h14];first|rfl|exact congrArg (fun z=>((N:Int),true,z)) (Prod.ext hr.2 rfl)
   ·refine Aa.gd (decide_eq_true (by omega)) (.some ?_)
    rw [dF h14];rfl
end
section
open Go.RowKit
abbrev Bd (db:List Ls):Prop:=db.Pairwise fun x y=>x.o<y.o
theorem Lj {db:List Ls}:Ik db↔Bd db:=by
  unfold Bd
  rw [List.pairwise_iff_getElem]
  constructor
  ·intro h i j hi hj hij
   have:=h i j hij hj
   rwa [Ad hi,Ad hj] at this
  ·intro h i j hij hj
   rw [Ad (show i<db.length by omega),Ad hj]
   exact h i j (by omega) hj hij
theorem Bq {db:List Ls}:Fe db↔(∀l∈db,Nf l)∧Bd db:=by
  constructor
  ·intro h
   refine ⟨fun l hl=>?_,Lj.1 h.srt⟩
   obtain ⟨i,hi,rfl⟩:=List.getElem_of_mem hl
   have:=(h i hi).1
   rwa [Ad hi] at this
  ·rintro ⟨h1,h2⟩ i hi
   refine ⟨?_,fun h0=>Lj.2 h2 (i-1) i (by omega) hi⟩
   rw [Ad hi]
   exact h1 _ (List.getElem_mem hi)
def Mj (db:List Ls) (l:Ls):List Ls:=db.filter (fun x=>decide (x.o<l.o))++l::db.filter (fun x=>decide (l.o<x.o))
def Se (db:List Ls) (l:Ls):Int:=match fd db l.o with|some old=>if old.s=l.s then 1 else if l.s<old.s then 2 else 0|none=>0
def Pd (db:List Ls) (l:Ls):List Ls:=if Se db l=0 then Mj db l else db
theorem Jk {db:List Ls} {l x:Ls}:x∈Mj db l↔x=l∨x∈db∧x.o≠l.o:=by
  unfold Mj
  rw [List.mem_append,List.mem_cons,List.mem_filter,List.mem_filter]
  simp only [decide_eq_true_eq]
  constructor
  ·rintro (⟨h1,h2⟩|rfl|⟨h1,h2⟩)
   ·exact .inr ⟨h1,by omega⟩
   ·exact .inl rfl
   ·exact .inr ⟨h1,by omega⟩
  ·rintro (rfl|⟨h1,h2⟩)
   ·exact .inr (.inl rfl)
   ·rcases Int.lt_or_gt_of_ne h2 with h|h
    ·exact .inl ⟨h1,h⟩
    ·exact .inr (.inr ⟨h1,h⟩)
theorem FB {db:List Ls} (h:Bd db) (l:Ls):Bd (Mj db l):=by
  unfold Mj Bd
  rw [List.pairwise_append,List.pairwise_cons]
  refine ⟨List.Pairwise.filter _ h,⟨fun x hx=>?_,List.Pairwise.filter _ h⟩,fun x hx y hy=>?_⟩
  ·exact oT (List.mem_filter.1 hx).2
  ·have h1:x.o<l.o:=oT (List.mem_filter.1 hx).2
   rcases List.mem_cons.1 hy with rfl|hy
   ·exact h1
   ·have h2:l.o<y.o:=oT (List.mem_filter.1 hy).2
    omega
theorem KU {db:List Ls} (h:Bd db) (l:Ls):Bd (Pd db l):=by
  unfold Pd
  split
  ·exact FB h l
  ·exact h
theorem bP {db:List Ls} (h:Fe db) {l:Ls} (hl:Nf l):Fe (Pd db l):=by
  have:=Bq.1 h
  refine Bq.2 ⟨fun x hx=>?_,KU this.2 l⟩
  unfold Pd at hx
  split at hx
  ·rcases Jk.1 hx with rfl|hx
   ·exact hl
   ·exact this.1 x hx.1
  ·exact this.1 x hx
theorem uN {db:List Ls} (h:Bd db) {x y:Ls} (hx:x∈db) (hy:y∈db) (e:x.o=y.o):x=y:=by
  obtain ⟨i,hi,rfl⟩:=List.getElem_of_mem hx
  obtain ⟨j,hj,rfl⟩:=List.getElem_of_mem hy
  rcases Nat.lt_trichotomy i j with h1|h1|h1
  ·have:=List.pairwise_iff_getElem.1 h i j hi hj h1;omega
  ·subst h1;rfl
  ·have:=List.pairwise_iff_getElem.1 h j i hj hi h1;omega
theorem Ui {db:List Ls} (h:Bd db) {o:Int} {x:Ls}:fd db o=some x↔x∈db∧x.o=o:=by
  unfold fd
  constructor
  ·intro e
   exact ⟨List.mem_of_find?_eq_some e,oT (List.find?_some (p:=fun l:Ls=>decide (l.o=o)) e)⟩
  ·rintro ⟨hx,rfl⟩
   cases e:db.find? (fun l=>decide (l.o=x.o)) with
   |none =>
    have:=List.find?_eq_none.1 e x hx
    simp at this
   |some y =>
    have h1:=List.mem_of_find?_eq_some e
    have h2:y.o=x.o:=oT (List.find?_some (p:=fun l:Ls=>decide (l.o=x.o)) e)
    rw [uN h h1 hx h2]
theorem Kw {db:List Ls} {o:Int}:fd db o=none↔∀x∈db,x.o≠o:=by
  unfold fd
  rw [List.find?_eq_none]
  constructor
  ·intro h x hx e;exact h x hx (decide_eq_true e)
  ·intro h x hx e;exact h x hx (oT e)
theorem bQ {db:List Ls} (h:Bd db) (l:Ls) (o:Int):fd (Pd db l) o=if o=l.o∧Se db l=0 then some l else fd db o:=by
  unfold Pd
  by_cases hc:Se db l=0
  ·rw [if_pos hc]
   by_cases ho:o=l.o
   ·rw [if_pos ⟨ho,hc⟩]
    exact (Ui (FB h l)).2 ⟨Jk.2 (.inl rfl),ho.symm⟩
   ·rw [if_neg fun g=>ho g.1]
    cases e:fd db o with
    |none =>
     rw [Kw] at e ⊢
     intro x hx
     rcases Jk.1 hx with rfl|⟨hx,_⟩
     ·exact fun g=>ho g.symm
     ·exact e x hx
    |some y =>
     obtain ⟨h1,h2⟩:=(Ui h).1 e
     exact (Ui (FB h l)).2 ⟨Jk.2 (.inr ⟨h1,by omega⟩),h2⟩
  ·rw [if_neg hc,if_neg fun g=>hc g.2]
theorem LU:∀{a b:List Ls},Bd a→Bd b→(∀x,x∈a↔x∈b)→a=b
  |[],[],_,_,_=>rfl
  |[],y::s,_,_,h=>by have:=(h y).2 (List.mem_cons_self ..);simp at this
  |x::r,[],_,_,h=>by have:=(h x).1 (List.mem_cons_self ..);simp at this
  |x::r,y::s,h1,h2,h=>by
   have h1:=List.pairwise_cons.1 h1
   have h2:=List.pairwise_cons.1 h2
   have e:x=y:=by
     rcases List.mem_cons.1 ((h x).1 (List.mem_cons_self ..)) with e|hx
     ·exact e
     ·rcases List.mem_cons.1 ((h y).2 (List.mem_cons_self ..)) with e|hy
      ·exact e.symm
      ·have q1:=h1.1 y hy
       have q2:=h2.1 x hx
       omega
   subst e
   have:r=s:=LU h1.2 h2.2 fun z=>by
     constructor
     ·intro hz
      rcases List.mem_cons.1 ((h z).1 (List.mem_cons_of_mem _ hz)) with e|hz'
      ·subst e;have:=h1.1 z hz;omega
      ·exact hz'
     ·intro hz
      rcases List.mem_cons.1 ((h z).2 (List.mem_cons_of_mem _ hz)) with e|hz'
      ·subst e;have:=h2.1 z hz;omega
      ·exact hz'
   rw [this]
theorem uO {db:List Ls} (h:Bd db) {l:Ls} {i:Nat} (hi:i<db.length) (ho:(Ya db i).o=l.o):db.set i l=Mj db l:=by
  have hs:Bd (db.set i l):=by
    unfold Bd
    rw [List.pairwise_iff_getElem]
    intro a b ha hb hab
    rw [List.length_set] at ha hb
    have hp:=fun x y (hx:x<db.length) (hy:y<db.length) (hxy:x<y)=>List.pairwise_iff_getElem.1 h x y hx hy hxy
    rw [Ad hi] at ho
    rw [List.getElem_set,List.getElem_set]
    split<;>split
    ·omega
    ·rename_i e1 e2;subst e1;have:=hp i b hi hb hab;omega
    ·rename_i e1 e2;subst e2;have:=hp a i ha hi hab;omega
    ·exact hp a b ha hb hab
  refine LU hs (FB h l) fun x=>?_
  rw [Jk]
  rw [Ad hi] at ho
  constructor
  ·intro hx
   obtain ⟨j,hj,rfl⟩:=List.getElem_of_mem hx
   rw [List.length_set] at hj
   rw [List.getElem_set]
   split
   ·exact .inl rfl
   ·rename_i e
    refine .inr ⟨List.getElem_mem hj,fun g=>?_⟩
    rcases Nat.lt_or_gt_of_ne e with h1|h1
    ·have:=List.pairwise_iff_getElem.1 h i j hi hj h1;omega
    ·have:=List.pairwise_iff_getElem.1 h j i hj hi h1;omega
  ·rintro (rfl|⟨hx,hne⟩)
   ·exact List.mem_set hi x
   ·obtain ⟨j,hj,rfl⟩:=List.getElem_of_mem hx
    have e:i≠j:=by rintro rfl;exact hne ho
    have:(db.set i l)[j]'(by rw [List.length_set];exact hj)=db[j]:=by rw [List.getElem_set,if_neg e]
    rw [←this]
    exact List.getElem_mem _
theorem uP {db:List Ls} (h:Bd db) {l:Ls} {i:Nat} (hp:Jw db l.o i) (hn:Ti db l.o i=false):db.take i++l::db.drop i=Mj db l:=by
  have hno:∀x∈db,x.o≠l.o:=Kw.1 (by rw [JU (Lj.2 h) hp,hn];rfl)
  have e1:∀x∈db.take i,x.o<l.o:=fun x hx=>by
    obtain ⟨j,hj,rfl⟩:=List.getElem_of_mem hx
    rw [List.length_take] at hj
    rw [List.getElem_take,←Ad (show j<db.length by omega)]
    exact hp.2.1 j (by omega)
  have e2:∀x∈db.drop i,l.o<x.o:=fun x hx=>by
    have hm:=hno x (List.mem_of_mem_drop hx)
    obtain ⟨j,hj,rfl⟩:=List.getElem_of_mem hx
    rw [List.length_drop] at hj
    rw [List.getElem_drop] at hm ⊢
    have:=hp.2.2 (i+j) (by omega) (by omega)
    rw [Ad (show i+j<db.length by omega)] at this
    omega
  have hs:Bd (db.take i++l::db.drop i):=by
    unfold Bd
    rw [List.pairwise_append,List.pairwise_cons]
    refine ⟨List.Pairwise.sublist (List.take_sublist _ _) h,⟨e2,List.Pairwise.sublist (List.drop_sublist _ _) h⟩,fun x hx y hy=>?_⟩
    have:=e1 x hx
    rcases List.mem_cons.1 hy with rfl|hy
    ·exact this
    ·have:=e2 y hy;omega
  refine LU hs (FB h l) fun x=>?_
  rw [Jk,List.mem_append,List.mem_cons]
  constructor
  ·rintro (hx|rfl|hx)
   ·exact .inr ⟨List.mem_of_mem_take hx,hno x (List.mem_of_mem_take hx)⟩
   ·exact .inl rfl
   ·exact .inr ⟨List.mem_of_mem_drop hx,hno x (List.mem_of_mem_drop hx)⟩
  ·rintro (rfl|⟨hx,_⟩)
   ·exact .inr (.inl rfl)
   ·rw [←List.take_append_drop i db,List.mem_append] at hx
    exact hx.imp id .inr
def Jd (db other:List Ls):List Ls:=other.foldl Pd db
def Vc (db:List Ls) (o:Int):Int:=match fd db o with|some l=>l.s|none=> -1
theorem OM {db:List Ls} (h:Bd db) (other:List Ls):Bd (Jd db other):=by
  unfold Jd
  induction other generalizing db with
  |nil=>exact h
  |cons l r ih=>exact ih (KU h l)
theorem MU {db other:List Ls} (h:Fe db) (h':∀l∈other,Nf l):Fe (Jd db other):=by
  unfold Jd
  induction other generalizing db with
  |nil=>exact h
  |cons l r ih=>exact ih (bP h (h' l (List.mem_cons_self ..))) fun x hx=>h' x (List.mem_cons_of_mem _ hx)
theorem uQ {db:List Ls} (h:Bd db) {l:Ls} (hl:0≤l.s) (o:Int):Vc (Pd db l) o=if o=l.o then max (Vc db o) l.s else Vc db o:=by
  unfold Vc
  rw [bQ h l o]
  by_cases ho:o=l.o
  ·subst ho
   rw [if_pos rfl]
   cases e:fd db l.o with
   |none =>
    have hc:Se db l=0:=by unfold Se;rw [e]
    rw [hc,if_pos ⟨rfl,rfl⟩]
    dsimp only
    omega
   |some old =>
    by_cases h1:old.s=l.s
    ·have hc:Se db l=1:=by unfold Se;rw [e];exact if_pos h1
     rw [hc,if_neg (fun g=>by have:=g.2;omega)]
     dsimp only
     omega
    ·by_cases h2:l.s<old.s
     ·have hc:Se db l=2:=by unfold Se;rw [e];dsimp only;rw [if_neg h1,if_pos h2]
      rw [hc,if_neg (fun g=>by have:=g.2;omega)]
      dsimp only
      omega
     ·have hc:Se db l=0:=by unfold Se;rw [e];dsimp only;rw [if_neg h1,if_neg h2]
      rw [hc,if_pos ⟨rfl,rfl⟩]
      dsimp only
      omega
  ·rw [if_neg fun g=>ho g.1,if_neg ho]
theorem NU {db:List Ls} {l:Ls} (hl:0≤l.s):Se db l=0↔Vc db l.o<l.s:=by
  unfold Se Vc
  cases fd db l.o with
  |none=>simp;omega
  |some old =>
   dsimp only
   by_cases h1:old.s=l.s
   ·rw [if_pos h1];omega
   ·rw [if_neg h1]
    by_cases h2:l.s<old.s
    ·rw [if_pos h2];omega
    ·rw [if_neg h2];omega
theorem bR (l:Ls) (r:List Ls) (o:Int):fd (l::r) o=if l.o=o then some l else fd r o:=by
  unfold fd
  rw [List.find?_cons]
  by_cases h:l.o=o
  ·rw [if_pos h,decide_eq_true h]
  ·rw [if_neg h,dF h]
theorem bS {db:List Ls} (h:∀l∈db,0≤l.s) (o:Int): -1≤Vc db o:=by
  unfold Vc
  cases e:fd db o with
  |none=>simp
  |some l=>have:=h l (List.mem_of_find?_eq_some e);dsimp only;omega
theorem uR {a b:List Ls} (ha:Bd a) (hb:Bd b) (hs:∀l∈b,0≤l.s) (hsa:∀l∈a,0≤l.s) (o:Int):fd (Jd a b) o=if Vc a o<Vc b o then fd b o else fd a o:=by
  unfold Jd
  induction b generalizing a with
  |nil =>
   have:Vc [] o= -1:=rfl
   rw [if_neg (by have:=bS hsa o;omega)]
   rfl
  |cons l r ih =>
   have hb':=List.pairwise_cons.1 hb
   have hl:=hs l (List.mem_cons_self ..)
   have hsa':∀x∈Pd a l,0≤x.s:=fun x hx=>by
     unfold Pd at hx
     split at hx
     ·rcases Jk.1 hx with rfl|hx
      ·exact hl
      ·exact hsa x hx.1
     ·exact hsa x hx
   have ih:=ih (KU ha l) hb'.2 (fun x hx=>hs x (List.mem_cons_of_mem _ hx)) hsa'
   rw [List.foldl_cons,ih,uQ ha hl,bQ ha,bR]
   have hq:Vc (l::r) o=if l.o=o then l.s else Vc r o:=by
     unfold Vc
     rw [bR]
     by_cases e:l.o=o
     ·rw [if_pos e,if_pos e]
     ·rw [if_neg e,if_neg e]
   rw [hq]
   by_cases ho:o=l.o
   ·subst ho
    have hr:Vc r l.o= -1:=by
      unfold Vc
      rw [Kw.2 fun x hx e=>by have:=hb'.1 x hx;omega]
    have hla:=bS hsa l.o
    rw [if_pos rfl,if_pos rfl,if_pos rfl,hr,if_neg (by omega)]
    by_cases hc:Se a l=0
    ·rw [if_pos ⟨rfl,hc⟩,if_pos ((NU hl).1 hc)]
    ·rw [if_neg fun g=>hc g.2,if_neg fun g=>hc ((NU hl).2 g)]
   ·have h1:¬l.o=o:=fun g=>ho g.symm
    have h2:¬(o=l.o∧Se a l=0):=fun g=>ho g.1
    simp only [if_neg ho,if_neg h1,if_neg h2]
theorem bT {a b:List Ls} (ha:Bd a) (hb:Bd b) (hs:∀l∈b,0≤l.s) (hsa:∀l∈a,0≤l.s) (o:Int):Vc (Jd a b) o=max (Vc a o) (Vc b o):=by
  have h:=uR ha hb hs hsa o
  by_cases hc:Vc a o<Vc b o
  ·rw [if_pos hc] at h
   have:Vc (Jd a b) o=Vc b o:=by unfold Vc;rw [h]
   omega
  ·rw [if_neg hc] at h
   have:Vc (Jd a b) o=Vc a o:=by unfold Vc;rw [h]
   omega
def uS (a b:List Ls):Prop:=∀x∈a,∀y∈b,x.o=y.o→x.s=y.s→x=y
theorem bU {a b:List Ls} {x:Ls} (hx:x∈Jd a b):x∈a∨x∈b:=by
  unfold Jd at hx
  induction b generalizing a with
  |nil=>exact .inl hx
  |cons l r ih =>
   rcases ih hx with h|h
   ·unfold Pd at h
    split at h
    ·rcases Jk.1 h with rfl|h
     ·exact .inr (List.mem_cons_self ..)
     ·exact .inl h.1
    ·exact .inl h
   ·exact .inr (List.mem_cons_of_mem _ h)
end
section
open Go.RowKit
def PM (s:Y4):Option Y4:=(bif decide ((List.length ([]:List Lk)+List.length s.2.1)≤(33554432:Nat)) then some (s.1,(([]:List Lk)++s.2.1),()) else none)
def Nj (s:Y3):Option Y3:=(bif decide ((List.length ([]:List En)+List.length s.2.2.1)≤(33554432:Nat)) then some (s.1,s.2.1,(([]:List En)++s.2.2.1),()) else none)
def QM (s:(Int×Int×List Lk×List Bool×List Int×List (List Ls)×List Pk×Int×List Lk×Y4)):Option ((Int×Int×List Lk×List Bool×List Int×List (List Ls)×List Pk×Int×List Lk×Y4)⊕((Int×List Lk×Y4)⊕Unit)):=(bif decide (s.1<nI (List.length s.2.2.2.1)) then (bif Ea s.1 (List.length s.2.2.2.1) then (bif Ba .bool s.2.2.2.1 (Int.toNat s.1) then (bif Ea s.1 (List.length s.2.2.1) then (bif decide ((List.length s.2.2.2.2.2.2.2.2.2.2.1+List.length [(Lk.mk ((Ba .lk s.2.2.1 (Int.toNat s.1)).a) ((Ba .lk s.2.2.1 (Int.toNat s.1)).b) ((Ba .lk s.2.2.1 (Int.toNat s.1)).c))])≤(33554432:Nat)) then some (Sum.inl (wrap64 (s.1+1),s.2.1,s.2.2.1,s.2.2.2.1,s.2.2.2.2.1,s.2.2.2.2.2.1,s.2.2.2.2.2.2.1,s.2.2.2.2.2.2.2.1,s.2.2.2.2.2.2.2.2.1,s.2.2.2.2.2.2.2.2.2.1,(s.2.2.2.2.2.2.2.2.2.2.1++[(Lk.mk ((Ba .lk s.2.2.1 (Int.toNat s.1)).a) ((Ba .lk s.2.2.1 (Int.toNat s.1)).b) ((Ba .lk s.2.2.1 (Int.toNat s.1)).c))]),())) else none) else none) else some (Sum.inl (wrap64 (s.1+1),s.2))) else none) else some (Sum.inr (Sum.inl s.2.2.2.2.2.2.2)))
def GB (s:Y0):Option Y4:=(lp QM Fa (0,s.1,s.2.1,s.2.2.1,s.2.2.2.1,s.2.2.2.2.1,s.2.2.2.2.2.1,0,([]:List Lk),s.1,([]:List Lk),())).bind fun r0=>(match r0 with| .inl x1=>some x1.2.2| .inr _=>none)
def RM (s:(Int×Int×Int×List En×Y3)):Option ((Int×Int×Int×List En×Y3)⊕((Unit)⊕Y7)):=(bif decide (s.1<nI (List.length s.2.2.2.1)) then (bif Ea s.1 (List.length s.2.2.2.1) then (bif Ea s.1 (List.length s.2.2.2.2.2.2.1) then (bif (!(Cd [(Ba .en s.2.2.2.1 (Int.toNat s.1)).n,(Ba .en s.2.2.2.1 (Int.toNat s.1)).c] [(Ba .en s.2.2.2.2.2.2.1 (Int.toNat s.1)).n,(Ba .en s.2.2.2.2.2.2.1 (Int.toNat s.1)).c])) then some (Sum.inr (Sum.inr (false,()))) else some (Sum.inl (wrap64 (s.1+1),s.2))) else none) else none) else some (Sum.inr (Sum.inl ())))
def IB (s:(Int×Int×List En×Y3)):Option Y7:=(bif (!(decide (s.1=s.2.2.2.1))) then some (false,()) else (bif (!(decide (s.2.1=s.2.2.2.2.1))) then some (false,()) else (bif (!(decide (nI (List.length s.2.2.1)=nI (List.length s.2.2.2.2.2.1)))) then some (false,()) else (lp RM Fa (0,s)).bind fun r0=>(match r0 with| .inl _=>some (true,())| .inr y1=>some (y1.1,())))))
def JB (s:(List Ls×Int×Kc)):Option ((List Ls×Int×Kc)⊕(Kc⊕Unit)):=(bif decide (s.2.1<nI (List.length s.1)) then (bif Ea s.2.1 (List.length s.1) then (Nj ((Ba .ls s.1 (Int.toNat s.2.1)).o,(Ba .ls s.1 (Int.toNat s.2.1)).s,(Ba .ls s.1 (Int.toNat s.2.1)).e,())).bind fun r0=>(bif decide ((List.length s.2.2.1+List.length [(Ls.mk r0.1 r0.2.1 r0.2.2.1)])≤(33554432:Nat)) then some (Sum.inl (s.1,wrap64 (s.2.1+1),(s.2.2.1++[(Ls.mk r0.1 r0.2.1 r0.2.2.1)]),())) else none) else none) else some (Sum.inr (Sum.inl s.2.2)))
def Vm (s:Kc):Option Kc:=(lp JB Fa (s.1,0,([]:List Ls),())).bind fun r0=>(match r0 with| .inl x1=>some x1| .inr _=>none)
def Kh (s:Y3):Option Y3:=(JT s.2.2).bind fun r0=>some (s.1,s.2.1,r0.1,())
def KB (s:(Int×Y5)):Option ((Int×Y5)⊕(Y5⊕Unit)):=(bif decide (s.1<nI (List.length s.2.2.2.2.2.1)) then (bif Ea s.1 (List.length s.2.2.2.2.2.1) then (bif decide ((List.length s.2.2.2.2.2.2.2.1+List.length (Ba .db s.2.2.2.2.2.1 (Int.toNat s.1)))≤(33554432:Nat)) then some (Sum.inl (wrap64 (s.1+1),s.2.1,s.2.2.1,s.2.2.2.1,s.2.2.2.2.1,s.2.2.2.2.2.1,s.2.2.2.2.2.2.1,(s.2.2.2.2.2.2.2.1++Ba .db s.2.2.2.2.2.1 (Int.toNat s.1)),())) else none) else none) else some (Sum.inr (Sum.inl s.2)))
def LB (s:(Int×Y5)):Option ((Int×Y5)⊕(Kc⊕Unit)):=(bif decide (s.1<nI (List.length s.2.2.2.2.2.2.1)) then (bif Ea s.1 (List.length s.2.2.2.2.2.2.1) then (bif decide ((List.length s.2.2.2.2.2.2.2.1+List.length [(Ls.mk (((Ba .pk s.2.2.2.2.2.2.1 (Int.toNat s.1)).p).o) (((Ba .pk s.2.2.2.2.2.2.1 (Int.toNat s.1)).p).s) (((Ba .pk s.2.2.2.2.2.2.1 (Int.toNat s.1)).p).e))])≤(33554432:Nat)) then some (Sum.inl (wrap64 (s.1+1),s.2.1,s.2.2.1,s.2.2.2.1,s.2.2.2.2.1,s.2.2.2.2.2.1,s.2.2.2.2.2.2.1,(s.2.2.2.2.2.2.2.1++[(Ls.mk (((Ba .pk s.2.2.2.2.2.2.1 (Int.toNat s.1)).p).o) (((Ba .pk s.2.2.2.2.2.2.1 (Int.toNat s.1)).p).s) (((Ba .pk s.2.2.2.2.2.2.1 (Int.toNat s.1)).p).e))]),())) else none) else none) else some (Sum.inr (Sum.inl s.2.2.2.2.2.2.2)))
def SM (s:Y0):Option Kc:=(lp KB Fa (0,s.1,s.2.1,s.2.2.1,s.2.2.2.1,s.2.2.2.2.1,s.2.2.2.2.2.1,([]:List Ls),())).bind fun r0=>(match r0 with| .inl x1=>(lp LB Fa (0,x1)).bind fun r2=>(match r2 with| .inl x3=>some x3| .inr _=>none)| .inr _=>none)
def MB (s:(Int×Y0)):Option ((Int×Y0)⊕((Unit)⊕Y7)):=(bif decide (s.1<s.2.1) then (bif Ea s.1 (List.length s.2.2.2.2.1) then (Vh (Ba .int s.2.2.2.2.1 (Int.toNat s.1),1,99,())).bind fun r0=>(bif (!r0.1) then some (Sum.inr (Sum.inr (false,()))) else (bif Ea s.1 (List.length s.2.2.2.2.2.1) then (LK (Ba .db s.2.2.2.2.2.1 (Int.toNat s.1),())).bind fun r1=>(bif (!r1.1) then some (Sum.inr (Sum.inr (false,()))) else some (Sum.inl (wrap64 (s.1+1),s.2))) else none)) else none) else some (Sum.inr (Sum.inl ())))
def TM (s:Y0):Option Y7:=(XJ (s.1,s.2.1,())).bind fun r0=>(bif (!r0.1) then some (false,()) else (bif (!(decide (nI (List.length s.2.2.1)=nI (List.length s.2.1)))) then some (false,()) else (bif (!(decide (nI (List.length s.2.2.2.1)=s.1))) then some (false,()) else (bif (!(decide (nI (List.length s.2.2.2.2.1)=s.1))) then some (false,()) else (bif decide (16<nI (List.length s.2.2.2.2.2.1)) then some (false,()) else (lp MB Fa (0,s)).bind fun r1=>(match r1 with| .inl _=>some (true,())| .inr y2=>some (y2.1,())))))))
def NB (s:(List Ls×Int×Int×Kc)):Option ((List Ls×Int×Int×Kc)⊕(Kc⊕Unit)):=(bif decide (s.2.2.1<s.2.1) then (bif Ea s.2.2.1 (List.length s.1) then (Kh ((Ba .ls s.1 (Int.toNat s.2.2.1)).o,(Ba .ls s.1 (Int.toNat s.2.2.1)).s,(Ba .ls s.1 (Int.toNat s.2.2.1)).e,())).bind fun r0=>(bif decide ((List.length s.2.2.2.1+List.length [(Ls.mk r0.1 r0.2.1 r0.2.2.1)])≤(33554432:Nat)) then some (Sum.inl (s.1,s.2.1,wrap64 (s.2.2.1+1),(s.2.2.2.1++[(Ls.mk r0.1 r0.2.1 r0.2.2.1)]),())) else none) else none) else some (Sum.inr (Sum.inl s.2.2.2)))
def Cq (s:Kc):Option Kc:=(lp NB Fa (s.1,nI (List.length s.1),0,([]:List Ls),())).bind fun r0=>(match r0 with| .inl x1=>some x1| .inr _=>none)
def OB (s:(Int×Y9)):Option ((Int×Y9)⊕(Y9⊕Y7)):=(bif decide (s.1<nI (List.length s.2.2.2.2.2.2.2.2.2.1)) then (bif Ea s.1 (List.length s.2.2.2.2.2.2.2.2.2.1) then (Cz (s.2.1,s.2.2.1,s.2.2.2.2.2.2.2.1,(Ba .en s.2.2.2.2.2.2.2.2.2.1 (Int.toNat s.1)).n,())).bind fun r0=>(bif decide (r0.1<0) then some (Sum.inr (Sum.inr (false,()))) else (bif Ea r0.1 (List.length s.2.2.1) then (bif Ea s.1 (List.length s.2.2.2.2.2.2.2.2.2.1) then (bif (!(decide ((Ba .lk s.2.2.1 (Int.toNat r0.1)).c=(Ba .en s.2.2.2.2.2.2.2.2.2.1 (Int.toNat s.1)).c))) then some (Sum.inr (Sum.inr (false,()))) else some (Sum.inl (wrap64 (s.1+1),s.2))) else none) else none)) else none) else some (Sum.inr (Sum.inl s.2)))
def PB (s:Y9):Option Y7:=(Gz s.2.2.2.2.2.2).bind fun r0=>(bif (!r0.1) then some (false,()) else (bif decide (s.1≤s.2.2.2.2.2.2.1) then some (false,()) else (bif Ea s.2.2.2.2.2.2.1 (List.length s.2.2.2.1) then (bif decide (Ba .int s.2.2.2.1 (Int.toNat s.2.2.2.2.2.2.1)<s.2.2.2.2.2.2.2.1) then some (false,()) else (lp OB Fa (0,s)).bind fun r1=>(match r1 with| .inl x2=>(bif Ea x2.2.2.2.2.2.2.1 (List.length x2.2.2.2.1) then (bif decide (x2.2.2.2.2.2.2.2.1<Ba .int x2.2.2.2.1 (Int.toNat x2.2.2.2.2.2.2.1)) then some (true,()) else (GB (x2.1,x2.2.1,x2.2.2.1,x2.2.2.2.1,x2.2.2.2.2.1,x2.2.2.2.2.2.1,())).bind fun r3=>(Hz (r3.1,r3.2.1,x2.2.2.2.2.2.2.1,x2.2.2.2.2.2.2.2.1,())).bind fun r4=>(IB (x2.2.2.2.2.2.2.1,x2.2.2.2.2.2.2.2.1,x2.2.2.2.2.2.2.2.2.1,r4)).bind fun r5=>some r5) else none)| .inr y2=>some (y2.1,()))) else none)))
def bV (_:(Int×Int×Xb)):Option Y7:=some (true,())
def QB (s:(List Ls×Xb)):Option ((List Ls×Xb)⊕((List Ls×Y2)⊕Y7)):=(bif decide (s.2.2.1<s.2.1) then (bif Ea s.2.1 (List.length s.1) then (bif Ea s.2.2.1 (List.length s.1) then (bif decide ((Ba .ls s.1 (Int.toNat s.2.1)).o=(Ba .ls s.1 (Int.toNat s.2.2.1)).o) then (bif Ea s.2.1 (List.length s.1) then (bif Ea s.2.2.1 (List.length s.1) then (bif decide ((Ba .ls s.1 (Int.toNat s.2.1)).s=(Ba .ls s.1 (Int.toNat s.2.2.1)).s) then (bif Ea s.2.1 (List.length s.1) then (bif Ea s.2.2.1 (List.length s.1) then (IB ((Ba .ls s.1 (Int.toNat s.2.1)).o,(Ba .ls s.1 (Int.toNat s.2.1)).s,(Ba .ls s.1 (Int.toNat s.2.1)).e,(Ba .ls s.1 (Int.toNat s.2.2.1)).o,(Ba .ls s.1 (Int.toNat s.2.2.1)).s,(Ba .ls s.1 (Int.toNat s.2.2.1)).e,())).bind fun r0=>(bif (!r0.1) then some (Sum.inr (Sum.inr (false,()))) else some (Sum.inl (s.1,s.2.1,wrap64 (s.2.2.1+1),()))) else none) else none) else some (Sum.inl (s.1,s.2.1,wrap64 (s.2.2.1+1),()))) else none) else none) else some (Sum.inl (s.1,s.2.1,wrap64 (s.2.2.1+1),()))) else none) else none) else some (Sum.inr (Sum.inl (s.1,s.2.1,()))))
def RB (s:(List Ls×Y2)):Option ((List Ls×Y2)⊕((Unit)⊕Y7)):=(bif decide (s.2.1<nI (List.length s.1)) then (lp QB Fa (s.1,s.2.1,0,())).bind fun r0=>(match r0 with| .inl x1=>some (Sum.inl (x1.1,wrap64 (x1.2.1+1),()))| .inr y1=>some (Sum.inr (Sum.inr (y1.1,())))) else some (Sum.inr (Sum.inl ())))
def UM (s:Kc):Option Y7:=(lp RB Fa (s.1,0,())).bind fun r0=>(match r0 with| .inl _=>some (true,())| .inr y1=>some (y1.1,()))
def OU (_:(Int×Int×Xb)):Option Y7:=some (true,())
def VM (s:(List En×List En×Xb)):Option ((List En×List En×Xb)⊕((Unit)⊕Y7)):=(bif decide (s.2.2.2.1<s.2.2.1) then (bif Ea s.2.2.2.1 (List.length s.1) then (bif Ea s.2.2.2.1 (List.length s.2.1) then (bif (!(Cd [(Ba .en s.1 (Int.toNat s.2.2.2.1)).n,(Ba .en s.1 (Int.toNat s.2.2.2.1)).c] [(Ba .en s.2.1 (Int.toNat s.2.2.2.1)).n,(Ba .en s.2.1 (Int.toNat s.2.2.2.1)).c])) then some (Sum.inr (Sum.inr (false,()))) else some (Sum.inl (s.1,s.2.1,s.2.2.1,wrap64 (s.2.2.2.1+1),()))) else none) else none) else some (Sum.inr (Sum.inl ())))
def XM (s:(List En×List En×Unit)):Option Y7:=(bif (!(decide (nI (List.length s.1)=nI (List.length s.2.1)))) then some (false,()) else (lp VM Fa (s.1,s.2.1,nI (List.length s.1),0,())).bind fun r0=>(match r0 with| .inl _=>some (true,())| .inr y1=>some (y1.1,())))
def SB (s:Y1):Option (Y6⊕Unit):=(PM (s.1,s.2.1,())).bind fun r0=>(bif decide (List.length s.2.2.1≤(33554432:Nat)) then (bif decide (List.length s.2.2.2.1≤(33554432:Nat)) then some (Sum.inl (s.1,s.2.1,s.2.2.1,s.2.2.2.1,s.2.2.2.2.1,s.2.2.2.2.2.1,s.2.2.2.2.2.2.1,s.2.2.2.2.2.2.2.1,s.2.2.2.2.2.2.2.2.1,s.2.2.2.2.2.2.2.2.2.1,s.2.2.2.2.2.2.2.2.2.2.1,s.2.2.2.2.2.2.2.2.2.2.2.1,r0.1,r0.2.1,s.2.2.1,s.2.2.2.1,([]:List (List Ls)),([]:List Pk),())) else none) else none)
def TB (s:(Int×Y6)):Option ((Int×Y6)⊕(Y6⊕Unit)):=(bif decide (s.1<nI (List.length s.2.2.2.2.2.1)) then (bif Ea s.1 (List.length s.2.2.2.2.2.1) then (Vm (Ba .db s.2.2.2.2.2.1 (Int.toNat s.1),())).bind fun r0=>(bif decide ((List.length s.2.2.2.2.2.2.2.2.2.2.2.2.2.2.2.2.2.1+List.length [r0.1])≤(33554432:Nat)) then some (Sum.inl (wrap64 (s.1+1),s.2.1,s.2.2.1,s.2.2.2.1,s.2.2.2.2.1,s.2.2.2.2.2.1,s.2.2.2.2.2.2.1,s.2.2.2.2.2.2.2.1,s.2.2.2.2.2.2.2.2.1,s.2.2.2.2.2.2.2.2.2.1,s.2.2.2.2.2.2.2.2.2.2.1,s.2.2.2.2.2.2.2.2.2.2.2.1,s.2.2.2.2.2.2.2.2.2.2.2.2.1,s.2.2.2.2.2.2.2.2.2.2.2.2.2.1,s.2.2.2.2.2.2.2.2.2.2.2.2.2.2.1,s.2.2.2.2.2.2.2.2.2.2.2.2.2.2.2.1,s.2.2.2.2.2.2.2.2.2.2.2.2.2.2.2.2.1,(s.2.2.2.2.2.2.2.2.2.2.2.2.2.2.2.2.2.1++[r0.1]),s.2.2.2.2.2.2.2.2.2.2.2.2.2.2.2.2.2.2)) else none) else none) else some (Sum.inr (Sum.inl s.2)))
def UB (s:(Int×Y6)):Option ((Int×Y6)⊕(Y1⊕Unit)):=(bif decide (s.1<nI (List.length s.2.2.2.2.2.2.1)) then (bif Ea s.1 (List.length s.2.2.2.2.2.2.1) then (bif Ea s.1 (List.length s.2.2.2.2.2.2.1) then (Nj (((Ba .pk s.2.2.2.2.2.2.1 (Int.toNat s.1)).p).o,((Ba .pk s.2.2.2.2.2.2.1 (Int.toNat s.1)).p).s,((Ba .pk s.2.2.2.2.2.2.1 (Int.toNat s.1)).p).e,())).bind fun r0=>(bif decide ((List.length s.2.2.2.2.2.2.2.2.2.2.2.2.2.2.2.2.2.2.1+List.length [(Pk.mk ((Ba .pk s.2.2.2.2.2.2.1 (Int.toNat s.1)).t) (Ls.mk r0.1 r0.2.1 r0.2.2.1))])≤(33554432:Nat)) then some (Sum.inl (wrap64 (s.1+1),s.2.1,s.2.2.1,s.2.2.2.1,s.2.2.2.2.1,s.2.2.2.2.2.1,s.2.2.2.2.2.2.1,s.2.2.2.2.2.2.2.1,s.2.2.2.2.2.2.2.2.1,s.2.2.2.2.2.2.2.2.2.1,s.2.2.2.2.2.2.2.2.2.2.1,s.2.2.2.2.2.2.2.2.2.2.2.1,s.2.2.2.2.2.2.2.2.2.2.2.2.1,s.2.2.2.2.2.2.2.2.2.2.2.2.2.1,s.2.2.2.2.2.2.2.2.2.2.2.2.2.2.1,s.2.2.2.2.2.2.2.2.2.2.2.2.2.2.2.1,s.2.2.2.2.2.2.2.2.2.2.2.2.2.2.2.2.1,s.2.2.2.2.2.2.2.2.2.2.2.2.2.2.2.2.2.1,(s.2.2.2.2.2.2.2.2.2.2.2.2.2.2.2.2.2.2.1++[(Pk.mk ((Ba .pk s.2.2.2.2.2.2.1 (Int.toNat s.1)).t) (Ls.mk r0.1 r0.2.1 r0.2.2.1))]),())) else none) else none) else none) else some (Sum.inr (Sum.inl s.2.2.2.2.2.2.2)))
def Lw (s:Y0):Option Y0:=(SB (s.1,s.2.1,s.2.2.1,s.2.2.2.1,s.2.2.2.2.1,s.2.2.2.2.2.1,0,([]:List Lk),([]:List Bool),([]:List Int),([]:List (List Ls)),([]:List Pk),())).bind fun r0=>(match r0 with| .inl x1=>(lp TB Fa (0,x1)).bind fun r2=>(match r2 with| .inl x3=>(lp UB Fa (0,x3)).bind fun r4=>(match r4 with| .inl x5=>some x5.2.2.2.2.2.2| .inr _=>none)| .inr _=>none)| .inr _=>none)
def VB (s:(Int×Int×List En×Y3)):Option Y7:=(bif decide (s.1=s.2.2.2.1) then (bif decide (s.2.1=s.2.2.2.2.1) then (XM (s.2.2.1,s.2.2.2.2.2)).bind fun r0=>some r0 else some (false,())) else some (false,()))
def YM (s:(Int×Int×List En×Y3)):Option Y7:=(bif decide (s.1=s.2.2.2.1) then (bif decide (s.2.1=s.2.2.2.2.1) then (VB s).bind fun r0=>some ((!r0.1),()) else some (false,())) else some (false,()))
def PU (s:(List Lk×Int×Int×Y8)):Option ((List Lk×Int×Int×Y8)⊕(Y8⊕Unit)):=(bif decide (s.2.2.1<s.2.1) then (bif Ea s.2.2.1 (List.length s.1) then (bV (s.2.2.1,(Ba .lk s.1 (Int.toNat s.2.2.1)).a,(Ba .lk s.1 (Int.toNat s.2.2.1)).b,(Ba .lk s.1 (Int.toNat s.2.2.1)).c,())).bind fun r0=>(bif r0.1 then (bif decide ((List.length s.2.2.2.2.2.2.1+List.length [(Lk.mk ((Ba .lk s.1 (Int.toNat s.2.2.1)).a) ((Ba .lk s.1 (Int.toNat s.2.2.1)).b) ((Ba .lk s.1 (Int.toNat s.2.2.1)).c))])≤(33554432:Nat)) then some (Sum.inl (s.1,s.2.1,wrap64 (s.2.2.1+1),s.2.2.2.1,s.2.2.2.2.1,s.2.2.2.2.2.1,(s.2.2.2.2.2.2.1++[(Lk.mk ((Ba .lk s.1 (Int.toNat s.2.2.1)).a) ((Ba .lk s.1 (Int.toNat s.2.2.1)).b) ((Ba .lk s.1 (Int.toNat s.2.2.1)).c))]),())) else none) else some (Sum.inl (s.1,s.2.1,wrap64 (s.2.2.1+1),s.2.2.2))) else none) else some (Sum.inr (Sum.inl s.2.2.2)))
def uT (s:Y4):Option Y4:=(lp PU Fa (s.2.1,nI (List.length s.2.1),0,0,s.1,([]:List Lk),([]:List Lk),())).bind fun r0=>(match r0 with| .inl x1=>some (x1.2.1,x1.2.2.2)| .inr _=>none)
def QU (s:(Int×Int×Int×Int×Y0)):Option Y7:=(bif Ea s.1 (List.length s.2.2.2.2.2.2.1) then some (Ba .bool s.2.2.2.2.2.2.1 (Int.toNat s.1),()) else none)
def ZM (s:(List Lk×Int×Int×Y8)):Option ((List Lk×Int×Int×Y8)⊕(Y8⊕Unit)):=(bif decide (s.2.2.1<s.2.1) then (bif Ea s.2.2.1 (List.length s.1) then (OU (s.2.2.1,(Ba .lk s.1 (Int.toNat s.2.2.1)).a,(Ba .lk s.1 (Int.toNat s.2.2.1)).b,(Ba .lk s.1 (Int.toNat s.2.2.1)).c,())).bind fun r0=>(bif r0.1 then (bif decide ((List.length s.2.2.2.2.2.2.1+List.length [(Lk.mk ((Ba .lk s.1 (Int.toNat s.2.2.1)).a) ((Ba .lk s.1 (Int.toNat s.2.2.1)).b) ((Ba .lk s.1 (Int.toNat s.2.2.1)).c))])≤(33554432:Nat)) then some (Sum.inl (s.1,s.2.1,wrap64 (s.2.2.1+1),s.2.2.2.1,s.2.2.2.2.1,s.2.2.2.2.2.1,(s.2.2.2.2.2.2.1++[(Lk.mk ((Ba .lk s.1 (Int.toNat s.2.2.1)).a) ((Ba .lk s.1 (Int.toNat s.2.2.1)).b) ((Ba .lk s.1 (Int.toNat s.2.2.1)).c))]),())) else none) else some (Sum.inl (s.1,s.2.1,wrap64 (s.2.2.1+1),s.2.2.2))) else none) else some (Sum.inr (Sum.inl s.2.2.2)))
def AN (s:Y4):Option Y4:=(lp ZM Fa (s.2.1,nI (List.length s.2.1),0,0,s.1,([]:List Lk),([]:List Lk),())).bind fun r0=>(match r0 with| .inl x1=>some (x1.2.1,x1.2.2.2)| .inr _=>none)
def WB (s:(List Ls×Int×Int×List En×Xb)):Option ((List Ls×Int×Int×List En×Xb)⊕((Unit)⊕Y2)):=(bif decide (s.2.2.2.2.2.1<s.2.2.2.2.1) then (bif Ea s.2.2.2.2.2.1 (List.length s.1) then (YM ((Ba .ls s.1 (Int.toNat s.2.2.2.2.2.1)).o,(Ba .ls s.1 (Int.toNat s.2.2.2.2.2.1)).s,(Ba .ls s.1 (Int.toNat s.2.2.2.2.2.1)).e,s.2.1,s.2.2.1,s.2.2.2.1,())).bind fun r0=>(bif r0.1 then some (Sum.inr (Sum.inr s.2.2.2.2.2)) else some (Sum.inl (s.1,s.2.1,s.2.2.1,s.2.2.2.1,s.2.2.2.2.1,wrap64 (s.2.2.2.2.2.1+1),()))) else none) else some (Sum.inr (Sum.inl ())))
def RU (s:(List Ls×Y3)):Option Y2:=(lp WB Fa (s.1,s.2.1,s.2.2.1,s.2.2.2.1,nI (List.length s.1),0,())).bind fun r0=>(match r0 with| .inl _=>some ((-(1)),())| .inr y1=>some (y1.1,()))
def BN (s:(List Ls×Y3)):Option Y7:=(RU s).bind fun r0=>some (decide (0≤r0.1),())
def CN (s:(Int×List Lk×List Bool×List Int×List (List Ls)×List Pk×List Lk×Int×Int×Y8)):Option ((Int×List Lk×List Bool×List Int×List (List Ls)×List Pk×List Lk×Int×Int×Y8)⊕(Y8⊕Unit)):=(bif decide (s.2.2.2.2.2.2.2.2.1<s.2.2.2.2.2.2.2.1) then (bif Ea s.2.2.2.2.2.2.2.2.1 (List.length s.2.2.2.2.2.2.1) then (QU (s.2.2.2.2.2.2.2.2.1,(Ba .lk s.2.2.2.2.2.2.1 (Int.toNat s.2.2.2.2.2.2.2.2.1)).a,(Ba .lk s.2.2.2.2.2.2.1 (Int.toNat s.2.2.2.2.2.2.2.2.1)).b,(Ba .lk s.2.2.2.2.2.2.1 (Int.toNat s.2.2.2.2.2.2.2.2.1)).c,s.1,s.2.1,s.2.2.1,s.2.2.2.1,s.2.2.2.2.1,s.2.2.2.2.2.1,())).bind fun r0=>(bif r0.1 then (bif decide ((List.length s.2.2.2.2.2.2.2.2.2.2.2.2.1+List.length [(Lk.mk ((Ba .lk s.2.2.2.2.2.2.1 (Int.toNat s.2.2.2.2.2.2.2.2.1)).a) ((Ba .lk s.2.2.2.2.2.2.1 (Int.toNat s.2.2.2.2.2.2.2.2.1)).b) ((Ba .lk s.2.2.2.2.2.2.1 (Int.toNat s.2.2.2.2.2.2.2.2.1)).c))])≤(33554432:Nat)) then some (Sum.inl (s.1,s.2.1,s.2.2.1,s.2.2.2.1,s.2.2.2.2.1,s.2.2.2.2.2.1,s.2.2.2.2.2.2.1,s.2.2.2.2.2.2.2.1,wrap64 (s.2.2.2.2.2.2.2.2.1+1),s.2.2.2.2.2.2.2.2.2.1,s.2.2.2.2.2.2.2.2.2.2.1,s.2.2.2.2.2.2.2.2.2.2.2.1,(s.2.2.2.2.2.2.2.2.2.2.2.2.1++[(Lk.mk ((Ba .lk s.2.2.2.2.2.2.1 (Int.toNat s.2.2.2.2.2.2.2.2.1)).a) ((Ba .lk s.2.2.2.2.2.2.1 (Int.toNat s.2.2.2.2.2.2.2.2.1)).b) ((Ba .lk s.2.2.2.2.2.2.1 (Int.toNat s.2.2.2.2.2.2.2.2.1)).c))]),())) else none) else some (Sum.inl (s.1,s.2.1,s.2.2.1,s.2.2.2.1,s.2.2.2.2.1,s.2.2.2.2.2.1,s.2.2.2.2.2.2.1,s.2.2.2.2.2.2.2.1,wrap64 (s.2.2.2.2.2.2.2.2.1+1),s.2.2.2.2.2.2.2.2.2))) else none) else some (Sum.inr (Sum.inl s.2.2.2.2.2.2.2.2.2)))
def SU (s:(Int×List Lk×Y0)):Option Y4:=(lp CN Fa (s.2.2.1,s.2.2.2.1,s.2.2.2.2.1,s.2.2.2.2.2.1,s.2.2.2.2.2.2.1,s.2.2.2.2.2.2.2.1,s.2.1,nI (List.length s.2.1),0,0,s.1,([]:List Lk),([]:List Lk),())).bind fun r0=>(match r0 with| .inl x1=>some (x1.2.1,x1.2.2.2)| .inr _=>none)
def XB (s:(Int×Int×Y0)):Option ((Int×Int×Y0)⊕((Int×Y0)⊕Y7)):=(bif Ea s.1 (List.length s.2.2.2.2.2.2.1) then (bif decide (s.2.1<nI (List.length (Ba .db s.2.2.2.2.2.2.1 (Int.toNat s.1)))) then (bif Ea s.1 (List.length s.2.2.2.2.2.2.1) then (bif Ea s.2.1 (List.length (Ba .db s.2.2.2.2.2.2.1 (Int.toNat s.1))) then (PB (s.2.2.1,s.2.2.2.1,s.2.2.2.2.1,s.2.2.2.2.2.1,s.2.2.2.2.2.2.1,s.2.2.2.2.2.2.2.1,(Ba .ls (Ba .db s.2.2.2.2.2.2.1 (Int.toNat s.1)) (Int.toNat s.2.1)).o,(Ba .ls (Ba .db s.2.2.2.2.2.2.1 (Int.toNat s.1)) (Int.toNat s.2.1)).s,(Ba .ls (Ba .db s.2.2.2.2.2.2.1 (Int.toNat s.1)) (Int.toNat s.2.1)).e,())).bind fun r0=>(bif (!r0.1) then some (Sum.inr (Sum.inr (false,()))) else some (Sum.inl (s.1,wrap64 (s.2.1+1),s.2.2))) else none) else none) else some (Sum.inr (Sum.inl (s.1,s.2.2)))) else none)
def YB (s:(Int×Y0)):Option ((Int×Y0)⊕(Y0⊕Y7)):=(bif decide (s.1<s.2.1) then (lp XB Fa (s.1,0,s.2)).bind fun r0=>(match r0 with| .inl x1=>(bif Ea x1.1 (List.length x1.2.2.2.2.2.1) then (Hw (Ba .db x1.2.2.2.2.2.1 (Int.toNat x1.1),x1.1,())).bind fun r2=>(bif (!r2.2.2.2.1) then some (Sum.inr (Sum.inr (false,()))) else (bif Ea x1.1 (List.length x1.2.2.2.2.1) then (bif (!(decide (r2.2.1=Ba .int x1.2.2.2.2.1 (Int.toNat x1.1)))) then some (Sum.inr (Sum.inr (false,()))) else some (Sum.inl (wrap64 (x1.1+1),x1.2))) else none)) else none)| .inr y1=>some (Sum.inr (Sum.inr (y1.1,())))) else some (Sum.inr (Sum.inl s.2)))
def ZB (s:(Int×Y0)):Option ((Int×Y0)⊕((Unit)⊕Y7)):=(bif decide (s.1<nI (List.length s.2.2.2.2.2.2.1)) then (bif Ea s.1 (List.length s.2.2.2.2.2.2.1) then (Vh ((Ba .pk s.2.2.2.2.2.2.1 (Int.toNat s.1)).t,0,wrap64 (s.2.1-1),())).bind fun r0=>(bif (!r0.1) then some (Sum.inr (Sum.inr (false,()))) else (bif Ea s.1 (List.length s.2.2.2.2.2.2.1) then (PB (s.2.1,s.2.2.1,s.2.2.2.1,s.2.2.2.2.1,s.2.2.2.2.2.1,s.2.2.2.2.2.2.1,((Ba .pk s.2.2.2.2.2.2.1 (Int.toNat s.1)).p).o,((Ba .pk s.2.2.2.2.2.2.1 (Int.toNat s.1)).p).s,((Ba .pk s.2.2.2.2.2.2.1 (Int.toNat s.1)).p).e,())).bind fun r1=>(bif (!r1.1) then some (Sum.inr (Sum.inr (false,()))) else some (Sum.inl (wrap64 (s.1+1),s.2))) else none)) else none) else some (Sum.inr (Sum.inl ())))
def Mw (s:Y0):Option Y7:=(TM s).bind fun r0=>(bif (!r0.1) then some (false,()) else (SM s).bind fun r1=>(UM r1).bind fun r2=>(bif (!r2.1) then some (false,()) else (lp YB Fa (0,s)).bind fun r3=>(match r3 with| .inl x4=>(lp ZB Fa (0,x4)).bind fun r5=>(match r5 with| .inl _=>some (true,())| .inr y6=>some (y6.1,()))| .inr y4=>some (y4.1,()))))
def Dq (s:Y0):Option Y4:=(SU (s.1,s.2.1,s)).bind fun r0=>some r0
def AC (s:Y1):Option (Y6⊕Unit):=(AN (s.1,s.2.1,())).bind fun r0=>(ET (s.2.2.1,())).bind fun r1=>(GT (s.2.2.2.1,())).bind fun r2=>some (Sum.inl (s.1,s.2.1,s.2.2.1,s.2.2.2.1,s.2.2.2.2.1,s.2.2.2.2.2.1,s.2.2.2.2.2.2.1,s.2.2.2.2.2.2.2.1,s.2.2.2.2.2.2.2.2.1,s.2.2.2.2.2.2.2.2.2.1,s.2.2.2.2.2.2.2.2.2.2.1,s.2.2.2.2.2.2.2.2.2.2.2.1,r0.1,r0.2.1,r1.1,r2.1,([]:List (List Ls)),([]:List Pk),()))
def BC (s:(List (List Ls)×Int×Int×Y6)):Option ((List (List Ls)×Int×Int×Y6)⊕(Y6⊕Unit)):=(bif decide (s.2.2.1<s.2.1) then (bif Ea s.2.2.1 (List.length s.1) then (Cq (Ba .db s.1 (Int.toNat s.2.2.1),())).bind fun r0=>(bif decide ((List.length s.2.2.2.2.2.2.2.2.2.2.2.2.2.2.2.2.2.2.2.1+List.length [r0.1])≤(33554432:Nat)) then some (Sum.inl (s.1,s.2.1,wrap64 (s.2.2.1+1),s.2.2.2.1,s.2.2.2.2.1,s.2.2.2.2.2.1,s.2.2.2.2.2.2.1,s.2.2.2.2.2.2.2.1,s.2.2.2.2.2.2.2.2.1,s.2.2.2.2.2.2.2.2.2.1,s.2.2.2.2.2.2.2.2.2.2.1,s.2.2.2.2.2.2.2.2.2.2.2.1,s.2.2.2.2.2.2.2.2.2.2.2.2.1,s.2.2.2.2.2.2.2.2.2.2.2.2.2.1,s.2.2.2.2.2.2.2.2.2.2.2.2.2.2.1,s.2.2.2.2.2.2.2.2.2.2.2.2.2.2.2.1,s.2.2.2.2.2.2.2.2.2.2.2.2.2.2.2.2.1,s.2.2.2.2.2.2.2.2.2.2.2.2.2.2.2.2.2.1,s.2.2.2.2.2.2.2.2.2.2.2.2.2.2.2.2.2.2.1,(s.2.2.2.2.2.2.2.2.2.2.2.2.2.2.2.2.2.2.2.1++[r0.1]),s.2.2.2.2.2.2.2.2.2.2.2.2.2.2.2.2.2.2.2.2)) else none) else none) else some (Sum.inr (Sum.inl s.2.2.2)))
def CC (s:(List Pk×Int×Int×Y1)):Option ((List Pk×Int×Int×Y1)⊕(Y1⊕Unit)):=(bif decide (s.2.2.1<s.2.1) then (bif Ea s.2.2.1 (List.length s.1) then (Kh (((Ba .pk s.1 (Int.toNat s.2.2.1)).p).o,((Ba .pk s.1 (Int.toNat s.2.2.1)).p).s,((Ba .pk s.1 (Int.toNat s.2.2.1)).p).e,())).bind fun r0=>(bif decide ((List.length s.2.2.2.2.2.2.2.2.2.2.2.2.2.2.1+List.length [(Pk.mk ((Ba .pk s.1 (Int.toNat s.2.2.1)).t) (Ls.mk r0.1 r0.2.1 r0.2.2.1))])≤(33554432:Nat)) then some (Sum.inl (s.1,s.2.1,wrap64 (s.2.2.1+1),s.2.2.2.1,s.2.2.2.2.1,s.2.2.2.2.2.1,s.2.2.2.2.2.2.1,s.2.2.2.2.2.2.2.1,s.2.2.2.2.2.2.2.2.1,s.2.2.2.2.2.2.2.2.2.1,s.2.2.2.2.2.2.2.2.2.2.1,s.2.2.2.2.2.2.2.2.2.2.2.1,s.2.2.2.2.2.2.2.2.2.2.2.2.1,s.2.2.2.2.2.2.2.2.2.2.2.2.2.1,(s.2.2.2.2.2.2.2.2.2.2.2.2.2.2.1++[(Pk.mk ((Ba .pk s.1 (Int.toNat s.2.2.1)).t) (Ls.mk r0.1 r0.2.1 r0.2.2.1))]),())) else none) else none) else some (Sum.inr (Sum.inl s.2.2.2)))
def DN (s:Y0):Option Y0:=(AC (s.1,s.2.1,s.2.2.1,s.2.2.2.1,s.2.2.2.2.1,s.2.2.2.2.2.1,0,([]:List Lk),([]:List Bool),([]:List Int),([]:List (List Ls)),([]:List Pk),())).bind fun r0=>(match r0 with| .inl x1=>(lp BC Fa (x1.2.2.2.2.1,nI (List.length x1.2.2.2.2.1),0,x1)).bind fun r2=>(match r2 with| .inl x3=>(lp CC Fa (x3.2.2.2.2.2.1,nI (List.length x3.2.2.2.2.2.1),0,x3.2.2.2.2.2.2)).bind fun r4=>(match r4 with| .inl x5=>some x5.2.2.2.2.2.2| .inr _=>none)| .inr _=>none)| .inr _=>none)
def DC (s:(List En×Int×Int×Y9)):Option ((List En×Int×Int×Y9)⊕(Y9⊕Y7)):=(bif decide (s.2.2.1<s.2.1) then (bif Ea s.2.2.1 (List.length s.1) then (Dz (s.2.2.2.1,s.2.2.2.2.1,s.2.2.2.2.2.2.2.2.2.1,(Ba .en s.1 (Int.toNat s.2.2.1)).n,())).bind fun r0=>(bif decide (r0.1<0) then some (Sum.inr (Sum.inr (false,()))) else (bif Ea r0.1 (List.length s.2.2.2.2.1) then (bif (!(decide ((Ba .lk s.2.2.2.2.1 (Int.toNat r0.1)).c=(Ba .en s.1 (Int.toNat s.2.2.1)).c))) then some (Sum.inr (Sum.inr (false,()))) else some (Sum.inl (s.1,s.2.1,wrap64 (s.2.2.1+1),s.2.2.2))) else none)) else none) else some (Sum.inr (Sum.inl s.2.2.2)))
def EN (s:Y9):Option Y7:=(Fz s.2.2.2.2.2.2).bind fun r0=>(bif (!r0.1) then some (false,()) else (bif decide (s.1≤s.2.2.2.2.2.2.1) then some (false,()) else (bif Ea s.2.2.2.2.2.2.1 (List.length s.2.2.2.1) then (bif decide (Ba .int s.2.2.2.1 (Int.toNat s.2.2.2.2.2.2.1)<s.2.2.2.2.2.2.2.1) then some (false,()) else (lp DC Fa (s.2.2.2.2.2.2.2.2.1,nI (List.length s.2.2.2.2.2.2.2.2.1),0,s)).bind fun r1=>(match r1 with| .inl x2=>(bif Ea x2.2.2.2.2.2.2.1 (List.length x2.2.2.2.1) then (bif decide (x2.2.2.2.2.2.2.2.1<Ba .int x2.2.2.2.1 (Int.toNat x2.2.2.2.2.2.2.1)) then some (true,()) else (Dq (x2.1,x2.2.1,x2.2.2.1,x2.2.2.2.1,x2.2.2.2.2.1,x2.2.2.2.2.2.1,())).bind fun r3=>(Iw (r3.1,r3.2.1,x2.2.2.2.2.2.2.1,x2.2.2.2.2.2.2.2.1,())).bind fun r4=>(VB (x2.2.2.2.2.2.2.1,x2.2.2.2.2.2.2.2.1,x2.2.2.2.2.2.2.2.2.1,r4)).bind fun r5=>some r5) else none)| .inr y2=>some (y2.1,()))) else none)))
def FN (s:(Int×Int×List Lk×List Bool×List Int×List (List Ls)×List Pk×Y4)):Option ((Int×List Lk×Y4)⊕Unit):=(bif Ea s.1 (List.length s.2.2.2.2.2.1) then (PK (s.2.1,Ba .db s.2.2.2.2.2.1 (Int.toNat s.1),())).bind fun r0=>some (Sum.inl (s.2.2.2.2.2.2.2.1,s.2.2.2.2.2.2.2.2.1,r0.1,r0.2.2)) else none)
def GN (s:Ew):Option Y4:=(FN (s.2.2.2.2.2.2.1,s.1,s.2.1,s.2.2.1,s.2.2.2.1,s.2.2.2.2.1,s.2.2.2.2.2.1,0,([]:List Lk),())).bind fun r0=>(match r0 with| .inl x1=>some x1.2.2| .inr _=>none)
def Io (s:(List Ls×Y3)):Option (Int×Kc):=(Cq (s.1,())).bind fun r0=>(Yp (r0.1,s.2.1,())).bind fun r1=>(bif r1.2.1 then (bif Ea r1.1 (List.length r0.1) then (bif decide ((Ba .ls r0.1 (Int.toNat r1.1)).s=s.2.2.1) then some (1,r0) else (bif r1.2.1 then (bif Ea r1.1 (List.length r0.1) then (bif decide (s.2.2.1<(Ba .ls r0.1 (Int.toNat r1.1)).s) then some (2,r0) else (bif r1.2.1 then (Kh s.2).bind fun r2=>(bif Ea r1.1 (List.length r0.1) then some (0,List.set r0.1 (Int.toNat r1.1) (Ls.mk r2.1 r2.2.1 r2.2.2.1),()) else none) else (Kh s.2).bind fun r3=>(Wp (r1.1,r0.1,[(Ls.mk r3.1 r3.2.1 r3.2.2.1)],())).bind fun r4=>some (0,r4.1,()))) else none) else (bif r1.2.1 then (Kh s.2).bind fun r5=>(bif Ea r1.1 (List.length r0.1) then some (0,List.set r0.1 (Int.toNat r1.1) (Ls.mk r5.1 r5.2.1 r5.2.2.1),()) else none) else (Kh s.2).bind fun r6=>(Wp (r1.1,r0.1,[(Ls.mk r6.1 r6.2.1 r6.2.2.1)],())).bind fun r7=>some (0,r7.1,())))) else none) else (bif r1.2.1 then (bif Ea r1.1 (List.length r0.1) then (bif decide (s.2.2.1<(Ba .ls r0.1 (Int.toNat r1.1)).s) then some (2,r0) else (bif r1.2.1 then (Kh s.2).bind fun r8=>(bif Ea r1.1 (List.length r0.1) then some (0,List.set r0.1 (Int.toNat r1.1) (Ls.mk r8.1 r8.2.1 r8.2.2.1),()) else none) else (Kh s.2).bind fun r9=>(Wp (r1.1,r0.1,[(Ls.mk r9.1 r9.2.1 r9.2.2.1)],())).bind fun r10=>some (0,r10.1,()))) else none) else (bif r1.2.1 then (Kh s.2).bind fun r11=>(bif Ea r1.1 (List.length r0.1) then some (0,List.set r0.1 (Int.toNat r1.1) (Ls.mk r11.1 r11.2.1 r11.2.2.1),()) else none) else (Kh s.2).bind fun r12=>(Wp (r1.1,r0.1,[(Ls.mk r12.1 r12.2.1 r12.2.2.1)],())).bind fun r13=>some (0,r13.1,()))))
def Kl (s:(List Ls×Int×Int×Int×List En×Kc)):Option ((List Ls×Int×Int×Int×List En×Kc)⊕((List Ls×Int×Int×List En×Kc)⊕Unit)):=(bif decide (s.2.1<nI (List.length s.1)) then (bif Ea s.2.1 (List.length s.1) then (bif decide ((Ba .ls s.1 (Int.toNat s.2.1)).o<s.2.2.1) then (bif Ea s.2.1 (List.length s.1) then (Nj ((Ba .ls s.1 (Int.toNat s.2.1)).o,(Ba .ls s.1 (Int.toNat s.2.1)).s,(Ba .ls s.1 (Int.toNat s.2.1)).e,())).bind fun r0=>(bif decide ((List.length s.2.2.2.2.2.1+List.length [(Ls.mk r0.1 r0.2.1 r0.2.2.1)])≤(33554432:Nat)) then some (Sum.inl (s.1,wrap64 (s.2.1+1),s.2.2.1,s.2.2.2.1,s.2.2.2.2.1,(s.2.2.2.2.2.1++[(Ls.mk r0.1 r0.2.1 r0.2.2.1)]),())) else none) else none) else some (Sum.inr (Sum.inl (s.1,s.2.2)))) else none) else some (Sum.inr (Sum.inl (s.1,s.2.2))))
def Ll (s:(List Ls×Int×Int×Int×List En×Kc)):Option ((List Ls×Int×Int×Int×List En×Kc)⊕(Kc⊕Unit)):=(bif decide (s.2.1<nI (List.length s.1)) then (bif Ea s.2.1 (List.length s.1) then (bif decide (s.2.2.1<(Ba .ls s.1 (Int.toNat s.2.1)).o) then (bif Ea s.2.1 (List.length s.1) then (Nj ((Ba .ls s.1 (Int.toNat s.2.1)).o,(Ba .ls s.1 (Int.toNat s.2.1)).s,(Ba .ls s.1 (Int.toNat s.2.1)).e,())).bind fun r0=>(bif decide ((List.length s.2.2.2.2.2.1+List.length [(Ls.mk r0.1 r0.2.1 r0.2.2.1)])≤(33554432:Nat)) then some (Sum.inl (s.1,wrap64 (s.2.1+1),s.2.2.1,s.2.2.2.1,s.2.2.2.2.1,(s.2.2.2.2.2.1++[(Ls.mk r0.1 r0.2.1 r0.2.2.1)]),())) else none) else none) else some (Sum.inl (s.1,wrap64 (s.2.1+1),s.2.2))) else none) else some (Sum.inr (Sum.inl s.2.2.2.2.2)))
def HN (s:(List Ls×Y3)):Option (Int×Kc):=(Hw (s.1,s.2.1,())).bind fun r0=>(bif r0.2.2.2.1 then (bif decide (r0.2.1=s.2.2.1) then (Vm (s.1,())).bind fun r1=>some (1,r1) else (bif r0.2.2.2.1 then (bif decide (s.2.2.1<r0.2.1) then (Vm (s.1,())).bind fun r2=>some (2,r2) else (lp Kl Fa (s.1,0,s.2.1,s.2.2.1,s.2.2.2.1,([]:List Ls),())).bind fun r3=>(match r3 with| .inl x4=>(Nj (x4.2.1,x4.2.2.1,x4.2.2.2.1,())).bind fun r5=>(bif decide ((List.length x4.2.2.2.2.1+List.length [(Ls.mk r5.1 r5.2.1 r5.2.2.1)])≤(33554432:Nat)) then (lp Ll Fa (x4.1,0,x4.2.1,x4.2.2.1,x4.2.2.2.1,(x4.2.2.2.2.1++[(Ls.mk r5.1 r5.2.1 r5.2.2.1)]),())).bind fun r6=>(match r6 with| .inl x7=>some (0,x7)| .inr _=>none) else none)| .inr _=>none)) else (lp Kl Fa (s.1,0,s.2.1,s.2.2.1,s.2.2.2.1,([]:List Ls),())).bind fun r8=>(match r8 with| .inl x9=>(Nj (x9.2.1,x9.2.2.1,x9.2.2.2.1,())).bind fun r10=>(bif decide ((List.length x9.2.2.2.2.1+List.length [(Ls.mk r10.1 r10.2.1 r10.2.2.1)])≤(33554432:Nat)) then (lp Ll Fa (x9.1,0,x9.2.1,x9.2.2.1,x9.2.2.2.1,(x9.2.2.2.2.1++[(Ls.mk r10.1 r10.2.1 r10.2.2.1)]),())).bind fun r11=>(match r11 with| .inl x12=>some (0,x12)| .inr _=>none) else none)| .inr _=>none))) else (bif r0.2.2.2.1 then (bif decide (s.2.2.1<r0.2.1) then (Vm (s.1,())).bind fun r13=>some (2,r13) else (lp Kl Fa (s.1,0,s.2.1,s.2.2.1,s.2.2.2.1,([]:List Ls),())).bind fun r14=>(match r14 with| .inl x15=>(Nj (x15.2.1,x15.2.2.1,x15.2.2.2.1,())).bind fun r16=>(bif decide ((List.length x15.2.2.2.2.1+List.length [(Ls.mk r16.1 r16.2.1 r16.2.2.1)])≤(33554432:Nat)) then (lp Ll Fa (x15.1,0,x15.2.1,x15.2.2.1,x15.2.2.2.1,(x15.2.2.2.2.1++[(Ls.mk r16.1 r16.2.1 r16.2.2.1)]),())).bind fun r17=>(match r17 with| .inl x18=>some (0,x18)| .inr _=>none) else none)| .inr _=>none)) else (lp Kl Fa (s.1,0,s.2.1,s.2.2.1,s.2.2.2.1,([]:List Ls),())).bind fun r19=>(match r19 with| .inl x20=>(Nj (x20.2.1,x20.2.2.1,x20.2.2.2.1,())).bind fun r21=>(bif decide ((List.length x20.2.2.2.2.1+List.length [(Ls.mk r21.1 r21.2.1 r21.2.2.1)])≤(33554432:Nat)) then (lp Ll Fa (x20.1,0,x20.2.1,x20.2.2.1,x20.2.2.2.1,(x20.2.2.2.2.1++[(Ls.mk r21.1 r21.2.1 r21.2.2.1)]),())).bind fun r22=>(match r22 with| .inl x23=>some (0,x23)| .inr _=>none) else none)| .inr _=>none)))
def EC (s:(List Ls×Int×Int×Kc)):Option ((List Ls×Int×Int×Kc)⊕(Kc⊕Unit)):=(bif decide (s.2.2.1<s.2.1) then (bif Ea s.2.2.1 (List.length s.1) then (Io (s.2.2.2.1,(Ba .ls s.1 (Int.toNat s.2.2.1)).o,(Ba .ls s.1 (Int.toNat s.2.2.1)).s,(Ba .ls s.1 (Int.toNat s.2.2.1)).e,())).bind fun r0=>some (Sum.inl (s.1,s.2.1,wrap64 (s.2.2.1+1),r0.2)) else none) else some (Sum.inr (Sum.inl s.2.2.2)))
def Ce (s:(List Ls×Kc)):Option Kc:=(Cq (s.1,())).bind fun r0=>(lp EC Fa (s.2.1,nI (List.length s.2.1),0,r0)).bind fun r1=>(match r1 with| .inl x2=>some x2| .inr _=>none)
def FC (s:(List Ls×Int×Kc)):Option ((List Ls×Int×Kc)⊕(Kc⊕Unit)):=(bif decide (s.2.1<nI (List.length s.1)) then (bif Ea s.2.1 (List.length s.1) then (HN (s.2.2.1,(Ba .ls s.1 (Int.toNat s.2.1)).o,(Ba .ls s.1 (Int.toNat s.2.1)).s,(Ba .ls s.1 (Int.toNat s.2.1)).e,())).bind fun r0=>some (Sum.inl (s.1,wrap64 (s.2.1+1),r0.2)) else none) else some (Sum.inr (Sum.inl s.2.2)))
def IN (s:(List Ls×Kc)):Option Kc:=(Vm (s.1,())).bind fun r0=>(lp FC Fa (s.2.1,0,r0)).bind fun r1=>(match r1 with| .inl x2=>some x2| .inr _=>none)
def TU (s:Y0):Option Y4:=(Mw s).bind fun r0=>(bif (!r0.1) then some (0,([]:List Lk),()) else (GB s).bind fun r1=>some r1)
def IC (s:(Int×List (List Ls)×Int×Int×Y5)):Option ((Int×List (List Ls)×Int×Int×Y5)⊕((Int×Y5)⊕Y7)):=(bif decide (s.2.2.2.1<s.2.2.1) then (bif Ea s.2.2.2.1 (List.length s.2.1) then (bif Ea s.2.2.2.1 (List.length s.2.2.2.2.2.2.2.1) then (Ih (Ba .int s.2.2.2.2.2.2.2.1 (Int.toNat s.2.2.2.1),1,99,())).bind fun r0=>(bif (!r0.1) then some (Sum.inr (Sum.inr (false,()))) else (Jz (Ba .db s.2.1 (Int.toNat s.2.2.2.1),())).bind fun r1=>(bif (!r1.1) then some (Sum.inr (Sum.inr (false,()))) else (Yp (Ba .db s.2.1 (Int.toNat s.2.2.2.1),s.2.2.2.1,())).bind fun r2=>(bif (!r2.2.1) then some (Sum.inr (Sum.inr (false,()))) else (bif Ea r2.1 (List.length (Ba .db s.2.1 (Int.toNat s.2.2.2.1))) then (bif Ea s.2.2.2.1 (List.length s.2.2.2.2.2.2.2.1) then (bif (!(decide ((Ba .ls (Ba .db s.2.1 (Int.toNat s.2.2.2.1)) (Int.toNat r2.1)).s=Ba .int s.2.2.2.2.2.2.2.1 (Int.toNat s.2.2.2.1)))) then some (Sum.inr (Sum.inr (false,()))) else (bif decide ((List.length s.2.2.2.2.2.2.2.2.2.2.1+List.length (Ba .db s.2.1 (Int.toNat s.2.2.2.1)))≤(33554432:Nat)) then some (Sum.inl (s.1,s.2.1,s.2.2.1,wrap64 (s.2.2.2.1+1),s.2.2.2.2.1,s.2.2.2.2.2.1,s.2.2.2.2.2.2.1,s.2.2.2.2.2.2.2.1,s.2.2.2.2.2.2.2.2.1,s.2.2.2.2.2.2.2.2.2.1,(s.2.2.2.2.2.2.2.2.2.2.1++Ba .db s.2.1 (Int.toNat s.2.2.2.1)),())) else none)) else none) else none)))) else none) else none) else some (Sum.inr (Sum.inl (s.1,s.2.2.2.2))))
def JC (s:(Int×List Pk×Int×Int×Y5)):Option ((Int×List Pk×Int×Int×Y5)⊕(Y5⊕Y7)):=(bif decide (s.2.2.2.1<s.2.2.1) then (bif Ea s.2.2.2.1 (List.length s.2.1) then (Ih ((Ba .pk s.2.1 (Int.toNat s.2.2.2.1)).t,0,wrap64 (s.1-1),())).bind fun r0=>(bif (!r0.1) then some (Sum.inr (Sum.inr (false,()))) else (bif decide ((List.length s.2.2.2.2.2.2.2.2.2.2.1+List.length [(Ls.mk (((Ba .pk s.2.1 (Int.toNat s.2.2.2.1)).p).o) (((Ba .pk s.2.1 (Int.toNat s.2.2.2.1)).p).s) (((Ba .pk s.2.1 (Int.toNat s.2.2.2.1)).p).e))])≤(33554432:Nat)) then some (Sum.inl (s.1,s.2.1,s.2.2.1,wrap64 (s.2.2.2.1+1),s.2.2.2.2.1,s.2.2.2.2.2.1,s.2.2.2.2.2.2.1,s.2.2.2.2.2.2.2.1,s.2.2.2.2.2.2.2.2.1,s.2.2.2.2.2.2.2.2.2.1,(s.2.2.2.2.2.2.2.2.2.2.1++[(Ls.mk (((Ba .pk s.2.1 (Int.toNat s.2.2.2.1)).p).o) (((Ba .pk s.2.1 (Int.toNat s.2.2.2.1)).p).s) (((Ba .pk s.2.1 (Int.toNat s.2.2.2.1)).p).e))]),())) else none)) else none) else some (Sum.inr (Sum.inl s.2.2.2.2)))
def KC (s:(List Ls×List Ls×Int×Int×Y0)):Option ((List Ls×List Ls×Int×Int×Y0)⊕((Unit)⊕Y7)):=(bif decide (s.2.2.2.1<s.2.2.1) then (bif Ea s.2.2.2.1 (List.length s.2.1) then (EN (s.2.2.2.2.1,s.2.2.2.2.2.1,s.2.2.2.2.2.2.1,s.2.2.2.2.2.2.2.1,s.2.2.2.2.2.2.2.2.1,s.2.2.2.2.2.2.2.2.2.1,(Ba .ls s.2.1 (Int.toNat s.2.2.2.1)).o,(Ba .ls s.2.1 (Int.toNat s.2.2.2.1)).s,(Ba .ls s.2.1 (Int.toNat s.2.2.2.1)).e,())).bind fun r0=>(bif (!r0.1) then some (Sum.inr (Sum.inr (false,()))) else (bif Uo (0) s.2.2.2.1 (List.length s.1) then (BN (List.take (Int.toNat s.2.2.2.1-Int.toNat (0)) (List.drop (Int.toNat (0)) s.1),(Ba .ls s.2.1 (Int.toNat s.2.2.2.1)).o,(Ba .ls s.2.1 (Int.toNat s.2.2.2.1)).s,(Ba .ls s.2.1 (Int.toNat s.2.2.2.1)).e,())).bind fun r1=>(bif r1.1 then some (Sum.inr (Sum.inr (false,()))) else some (Sum.inl (s.1,s.2.1,s.2.2.1,wrap64 (s.2.2.2.1+1),s.2.2.2.2))) else none)) else none) else some (Sum.inr (Sum.inl ())))
def Nw (s:Y0):Option Y7:=(ZJ (s.1,s.2.1,())).bind fun r0=>(bif (!r0.1) then some (false,()) else (bif (!(decide (nI (List.length s.2.2.1)=nI (List.length s.2.1)))) then some (false,()) else (bif (!(decide (nI (List.length s.2.2.2.1)=s.1))) then some (false,()) else (bif (!(decide (nI (List.length s.2.2.2.2.1)=s.1))) then some (false,()) else (bif decide (16<nI (List.length s.2.2.2.2.2.1)) then some (false,()) else (lp IC Fa (s.1,s.2.2.2.2.1,nI (List.length s.2.2.2.2.1),0,s.1,s.2.1,s.2.2.1,s.2.2.2.1,s.2.2.2.2.1,s.2.2.2.2.2.1,([]:List Ls),())).bind fun r1=>(match r1 with| .inl x2=>(lp JC Fa (x2.1,x2.2.2.2.2.2.2.1,nI (List.length x2.2.2.2.2.2.2.1),0,x2.2)).bind fun r3=>(match r3 with| .inl x4=>(lp KC Fa (x4.2.2.2.2.2.2.1,x4.2.2.2.2.2.2.1,nI (List.length x4.2.2.2.2.2.2.1),0,x4.1,x4.2.1,x4.2.2.1,x4.2.2.2.1,x4.2.2.2.2.1,x4.2.2.2.2.2.1,())).bind fun r5=>(match r5 with| .inl _=>some (true,())| .inr y6=>some (y6.1,()))| .inr y4=>some (y4.1,()))| .inr y2=>some (y2.1,())))))))
def LC (s:Y0):Option Y4:=(Nw s).bind fun r0=>(bif (!r0.1) then some (0,([]:List Lk),()) else (Dq s).bind fun r1=>some r1)
def UU (s:Ew):Option Y4:=(Mw (s.1,s.2.1,s.2.2.1,s.2.2.2.1,s.2.2.2.2.1,s.2.2.2.2.2.1,())).bind fun r0=>(bif (!r0.1) then some (0,([]:List Lk),()) else (DK (s.1,s.2.1,s.2.2.2.2.2.2)).bind fun r1=>(bif (!r1.1) then some (0,([]:List Lk),()) else (bif Ea s.2.2.2.2.2.2.1 (List.length s.2.2.2.2.1) then (RK (s.1,Ba .db s.2.2.2.2.1 (Int.toNat s.2.2.2.2.2.2.1),())).bind fun r2=>some r2 else none)))
def MC (s:Ew):Option Y4:=(Nw (s.1,s.2.1,s.2.2.1,s.2.2.2.1,s.2.2.2.2.1,s.2.2.2.2.2.1,())).bind fun r0=>(bif (!r0.1) then some (0,([]:List Lk),()) else (Ih (s.2.2.2.2.2.2.1,0,wrap64 (s.1-1),())).bind fun r1=>(bif (!r1.1) then some (0,([]:List Lk),()) else (GN s).bind fun r2=>some r2))
end
section
open Go.RowKit
instance:DecidableEq En:=fun a b=>decidable_of_iff (a.n=b.n∧a.c=b.c) ⟨fun ⟨h1,h2⟩=>by cases a;cases b;simp_all,fun h=>by subst h;exact ⟨rfl,rfl⟩⟩
instance:DecidableEq Ls:=fun a b=>decidable_of_iff (a.o=b.o∧a.s=b.s∧a.e=b.e) ⟨fun ⟨h1,h2,h3⟩=>by cases a;cases b;simp_all,fun h=>by subst h;exact ⟨rfl,rfl,rfl⟩⟩
abbrev Sm {α:Type} (l:List α):Prop:=l.length≤16000000
def Bf (db:List Ls):Prop:=Sm db∧∀l∈db,Sm l.e
theorem Bf.fits {db:List Ls} (h:Bf db):Ta db:=by have:=h.1;unfold Ta;unfold Sm at this;omega
theorem Bf.fe {db:List Ls} (h:Bf db):∀l∈db,Ta l.e:=fun l hl=>by have:=h.2 l hl;unfold Ta;unfold Sm at this;omega
theorem Fg {db:List Ls} {k:Nat} (h:k<db.length):Ya db k∈db:=by rw [Ad h];exact List.getElem_mem h
theorem VU {db:List Ls} {k:Nat} (h:k<db.length):db.take k++[⟨(Ya db k).o,(Ya db k).s,(Ya db k).e⟩]=db.take (k+1):=by
  rw [List.take_add_one,List.getElem?_eq_getElem h,Ad h];rfl
theorem NC (o s:Int) (es:List En) (h:Sm es):Kh (o,s,es,())=some (o,s,es,()):=by
  unfold Kh JT
  rw [decide_eq_true (by unfold Sm at h;dsimp only;omega)]
  rfl
theorem OC (o s:Int) (es:List En) (h:Sm es):Nj (o,s,es,())=some (o,s,es,()):=by
  unfold Nj
  rw [decide_eq_true (by unfold Sm at h;simp;omega)]
  rfl
theorem JN (db:List Ls) (h:Bf db):Cq (db,())=some (db,()):=by
  have h1:=h.1
  unfold Sm at h1
  unfold Cq
  refine Aa.out (Aa.bnd (R:=fun r=>match r with| .inl x=>x=(db,())| .inr _=>False) ?_ ?_)
  ·refine Aa.count db.length (fun k t=>t=(db,(db.length:Int),(k:Int),db.take k,())) ?_ (Nat.zero_le _) (Sb (by omega)) (by simp [La])
   rintro k t hk rfl
   by_cases hlt:k<db.length
   ·simp (disch:=omega) only [NB,Eg,Wa,Sa,NC _ _ _ (h.2 _ (Fg hlt)),Option.bind_some]
    refine Aa.gd (decide_eq_true (by omega)) (Aa.gd (Ja (by omega) (by omega)) (Aa.gd (decide_eq_true (by simp;omega)) (.some ⟨hlt,?_⟩)))
    rw [VU hlt]
    rfl
   ·obtain rfl:k=db.length:=by omega
    unfold NB
    simp only [dF (show ¬(db.length:Int)<db.length by omega),cond_false,List.take_length]
    exact .some rfl
  ·rintro (r|r) hr
   case inr=>exact hr.elim
   obtain rfl:=hr
   exact .some rfl
theorem KN (db:List Ls) (h:Bf db):Vm (db,())=some (db,()):=by
  have h1:=h.1
  unfold Sm at h1
  unfold Vm
  refine Aa.out (Aa.bnd (R:=fun r=>match r with| .inl x=>x=(db,())| .inr _=>False) ?_ ?_)
  ·refine Aa.count db.length (fun k t=>t=(db,(k:Int),db.take k,())) ?_ (Nat.zero_le _) (Sb (by omega)) (by simp [La])
   rintro k t hk rfl
   by_cases hlt:k<db.length
   ·simp (disch:=omega) only [JB,Eg,Wa,Sa,La,OC _ _ _ (h.2 _ (Fg hlt)),Option.bind_some]
    refine Aa.gd (decide_eq_true (by omega)) (Aa.gd (Ja (by omega) (by omega)) (Aa.gd (decide_eq_true (by simp;omega)) (.some ⟨hlt,?_⟩)))
    rw [VU hlt]
    rfl
   ·obtain rfl:k=db.length:=by omega
    unfold JB
    simp only [La,dF (show ¬(db.length:Int)<db.length by omega),cond_false,List.take_length]
    exact .some rfl
  ·rintro (r|r) hr
   case inr=>exact hr.elim
   obtain rfl:=hr
   exact .some rfl
theorem bW (a b c d:Int):Cd [a,b] [c,d]=decide ((⟨a,b⟩:En)=⟨c,d⟩):=by
  by_cases h1:a=c<;>by_cases h2:b=d<;>simp [Cd,h1,h2]
theorem bX {es fs:List En} (hl:es.length=fs.length) (h:∀i,i<es.length→en es i=en fs i):es=fs:=by
  refine List.ext_getElem hl fun i h1 h2=>?_
  have:=h i h1
  rwa [Xh h1,Xh h2] at this
theorem bY (e:En):(⟨e.n,e.c⟩:En)=e:=rfl
theorem uU (es fs:List En) (ha:Ta es) (hb:Ta fs):XM (es,fs,())=some (decide (es=fs),()):=by
  unfold XM
  by_cases hl:es.length=fs.length
  case neg =>
    have:es≠fs:=fun e=>hl (by rw [e])
    have hl2:¬(es.length:Int)=fs.length:=by omega
    simp [La,hl2,this]
  simp only [La,hl,decide_true,Bool.not_true,cond_false]
  try rw [←hl]
  refine Aa.out (Aa.bnd (R:=fun r=>match r with| .inl _=>es=fs| .inr y=>y=(false,())∧es≠fs) ?_ ?_)
  ·refine Aa.count es.length (fun k t=>t=(es,fs,(es.length:Int),(k:Int),())∧∀i,i<k→en es i=en fs i) ?_ (Nat.zero_le _) (Sb (by omega)) ⟨rfl,fun i hi=>by omega⟩
   rintro k t hk ⟨rfl,hok⟩
   simp (disch:=omega) only [VM,Jl,Wa,Sa,La,bW,bY]
   refine Aa.ite (fun h=>?_) (fun h=>?_)
   ·have h:=oT h
    refine Aa.gd (Ja (by omega) (by omega)) (Aa.gd (Ja (by omega) (by omega)) (Aa.ite (fun h2=>?_) (fun h2=>?_)))
    ·have h2:¬en es k=en fs k:=by simpa using h2
     exact .some ⟨rfl,fun e=>h2 (by rw [e])⟩
    ·have h2:en es k=en fs k:=by simpa using h2
     exact .some ⟨by omega,rfl,fun i hi=>by
       by_cases e:i<k
       ·exact hok i e
       ·obtain rfl:i=k:=by omega
        exact h2⟩
   ·have h:=oF h
    exact .some (bX hl fun i hi=>hok i (by omega))
  ·rintro (r|r) hr
   ·have hr:es=fs:=hr
    exact .some (by rw [decide_eq_true hr])
   ·obtain ⟨rfl,hr⟩:=hr
    exact .some (by rw [dF hr])
theorem bZ (a b:Ls) (ha:Ta a.e) (hb:Ta b.e):VB (a.o,a.s,a.e,b.o,b.s,b.e,())=some (decide (a=b),()):=by
  unfold VB
  cases a with|mk o s e =>
  cases b with|mk o' s' e' =>
  dsimp only
  by_cases h1:o=o'<;>by_cases h2:s=s'<;>simp [h1,h2,uU e e' ha hb]
theorem cA (a b:Ls) (ha:Ta a.e) (hb:Ta b.e):IB (a.o,a.s,a.e,b.o,b.s,b.e,())=some (decide (a=b),()):=by
  unfold IB
  cases a with|mk o s es =>
  cases b with|mk o' s' fs =>
  dsimp only at *
  by_cases h1:o=o'
  case neg=>simp [h1]
  by_cases h2:s=s'
  case neg=>simp [h2]
  subst h1 h2
  by_cases hl:es.length=fs.length
  case neg =>
    have:es≠fs:=fun e=>hl (by rw [e])
    have hl2:¬(es.length:Int)=fs.length:=by omega
    simp [La,hl2,this]
  simp only [La,hl,decide_true,Bool.not_true,cond_false]
  refine Aa.out (Aa.bnd (R:=fun r=>match r with| .inl _=>es=fs| .inr y=>y=(false,())∧es≠fs) ?_ ?_)
  ·refine Aa.count es.length (fun k t=>t=((k:Int),o,s,es,o,s,fs,())∧∀i,i<k→en es i=en fs i) ?_ (Nat.zero_le _) (Sb (by omega)) ⟨rfl,fun i hi=>by omega⟩
   rintro k t hk ⟨rfl,hok⟩
   simp (disch:=omega) only [RM,Jl,Wa,Sa,La,bW,bY]
   refine Aa.ite (fun h=>?_) (fun h=>?_)
   ·have h:=oT h
    refine Aa.gd (Ja (by omega) (by omega)) (Aa.gd (Ja (by omega) (by omega)) (Aa.ite (fun h2=>?_) (fun h2=>?_)))
    ·have h2:¬en es k=en fs k:=by simpa using h2
     exact .some ⟨rfl,fun e=>h2 (by rw [e])⟩
    ·have h2:en es k=en fs k:=by simpa using h2
     exact .some ⟨by omega,rfl,fun i hi=>by
       by_cases e:i<k
       ·exact hok i e
       ·obtain rfl:i=k:=by omega
        exact h2⟩
   ·have h:=oF h
    exact .some (bX hl fun i hi=>hok i (by omega))
  ·rintro (r|r) hr
   ·have hr:es=fs:=hr
    exact .some (by rw [decide_eq_true (by rw [hr])])
   ·obtain ⟨rfl,hr⟩:=hr
    exact .some (by rw [dF (by intro e;injection e with _ _ e;exact hr e)])
theorem Bf.put {db:List Ls} (h:Bf db) {l:Ls} (hl:Sm l.e) (hs:db.length≤1000000):Bf (Pd db l)∧(Pd db l).length≤db.length+1:=by
  have hlen:(Mj db l).length≤db.length+1:=by
    unfold Mj
    have h1:∀ds:List Ls,(ds.filter fun x=>decide (x.o<l.o)).length+(ds.filter fun x=>decide (l.o<x.o)).length≤ds.length:=fun ds=>by
      induction ds with
      |nil=>simp
      |cons x r ih =>
       simp only [List.filter_cons]
       by_cases a:x.o<l.o
       ·have b:¬l.o<x.o:=by omega
        simp [a,b];omega
       ·by_cases b:l.o<x.o
        ·simp [a,b];omega
        ·simp [a,b];omega
    have:=h1 db
    simp only [List.length_append,List.length_cons]
    omega
  unfold Pd
  split
  ·refine ⟨⟨by unfold Sm;omega,fun x hx=>?_⟩,hlen⟩
   rcases Jk.1 hx with rfl|⟨hx,_⟩
   ·exact hl
   ·exact h.2 x hx
  ·exact ⟨h,by omega⟩
theorem WU (db:List Ls) (l:Ls) (hs:Bd db) (h:Bf db) (hl:Sm l.e) (hn:db.length≤1000000):Io (db,l.o,l.s,l.e,())=some (Se db l,Pd db l,()):=by
  have hsrt:Ik db:=Lj.2 hs
  obtain ⟨i,hi,hp⟩:=IU db l.o hsrt (by omega)
  unfold Io
  dsimp only
  simp only [JN db h,Option.bind_some,hp,NC _ _ _ hl]
  have ins:Ti db l.o i=false→Wp ((i:Int),db,[l],())=some (Mj db l,()):=fun hh=>by
    have:=hi.1
    unfold Wp
    simp only [SJ]
    rw [decide_eq_true (by omega)]
    simp only [cond_true,Int.toNat_natCast]
    rw [uP hs hi hh]
  cases hh:Ti db l.o i with
  |false =>
   have hfd:fd db l.o=none:=by
     refine Kw.2 fun x hx e=>?_
     obtain ⟨j,hj,rfl⟩:=List.getElem_of_mem hx
     rw [←Ad hj] at e
     have h1:i≤j:=by
       rcases Nat.lt_or_ge j i with h1|h1
       ·have:=hi.2.1 j h1;omega
       ·exact h1
     have h2:i<db.length:=by omega
     have h3:=hi.2.2 i (Nat.le_refl _) h2
     have h4:(Ya db i).o≤(Ya db j).o:=by
       rcases Nat.eq_or_lt_of_le h1 with h1|h1
       ·subst h1;omega
       ·have:=hsrt i j h1 hj;omega
     have:Ti db l.o i=true:=decide_eq_true ⟨h2,by omega⟩
     rw [hh] at this;cases this
   have hc:Se db l=0:=by unfold Se;rw [hfd]
   simp only [cond_false,ins hh,Option.bind_some]
   unfold Pd
   rw [hc,if_pos rfl]
  |true =>
   obtain ⟨h2,h3⟩:=oT hh
   have hfd:fd db l.o=some (Ya db i):=(Ui hs).2 ⟨Fg h2,h3⟩
   have hin:Ea (i:Int) db.length=true:=Ja (by omega) (by omega)
   simp only [cond_true,hin,Eg,Wa]
   have hpc:Se db l=if (Ya db i).s=l.s then 1 else if l.s<(Ya db i).s then 2 else 0:=by unfold Se;rw [hfd]
   unfold Pd
   rw [hpc]
   by_cases e1:(Ya db i).s=l.s
   ·simp [e1]
   ·by_cases e2:l.s<(Ya db i).s
    ·simp [e1,e2]
    ·have:=uO hs h2 h3
     simp [e1,e2,←this]
end
section
open Go.RowKit
theorem cB {db:List Ls} {k:Nat} (p:Ls→Bool) (h:k<db.length):(db.take (k+1)).filter p=(db.take k).filter p++if p (Ya db k) then [Ya db k] else []:=by
  rw [List.take_add_one,List.getElem?_eq_getElem h,List.filter_append,Ad h]
  cases hp:p db[k]<;>simp [hp]
theorem uV {db:List Ls} (p:Ls→Bool) (k:Nat):((db.take k).filter p).length≤db.length:=Nat.le_trans (List.length_filter_le _ _) (by rw [List.length_take];omega)
theorem cC {db:List Ls} (hs:Ik db) {o:Int} {k:Nat} (h1:∀i,i<k→(Ya db i).o<o) (h2:k<db.length→¬(Ya db k).o<o) (hk:k≤db.length):db.take k=db.filter fun x=>decide (x.o<o):=by
  have e1:(db.take k).filter (fun x=>decide (x.o<o))=db.take k:=by
    refine List.filter_eq_self.2 fun x hx=>?_
    obtain ⟨i,hi,rfl⟩:=List.getElem_of_mem hx
    have hi':i<k:=by rw [List.length_take] at hi;omega
    have:=h1 i hi'
    rw [Ad (by omega)] at this
    simpa [List.getElem_take] using this
  have e2:(db.drop k).filter (fun x=>decide (x.o<o))=[]:=by
    refine List.filter_eq_nil_iff.2 fun x hx=>?_
    obtain ⟨i,hi,rfl⟩:=List.getElem_of_mem hx
    have hi':k+i<db.length:=by rw [List.length_drop] at hi;omega
    have h3:=h2 (by omega)
    have h4:(Ya db k).o≤(Ya db (k+i)).o:=by
      rcases Nat.eq_zero_or_pos i with e|e
      ·subst e;exact Int.le_refl _
      ·have:=hs k (k+i) (by omega) hi';omega
    rw [Ad hi'] at h4
    simp only [List.getElem_drop,decide_eq_true_eq]
    omega
  calc db.take k=(db.take k).filter (fun x=>decide (x.o<o))++(db.drop k).filter (fun x=>decide (x.o<o)):=by rw [e1,e2,List.append_nil]
    _=db.filter fun x=>decide (x.o<o):=by rw [←List.filter_append,List.take_append_drop]
theorem uW (db:List Ls) (l:Ls) (hs:Ik db) (h:Bf db):Aa (lp Kl Fa (db,0,l.o,l.s,l.e,[],())) fun r=>match r with| .inl x=>x=(db,l.o,l.s,l.e,db.filter (fun x=>decide (x.o<l.o)),())| .inr _=>False:=by
  have h1:=h.1
  unfold Sm at h1
  refine Aa.count db.length (fun k t=>t=(db,(k:Int),l.o,l.s,l.e,db.take k,())∧∀i,i<k→(Ya db i).o<l.o) ?_ (Nat.zero_le _) (Sb (by omega)) ⟨by simp,fun i hi=>by omega⟩
  rintro k t hk ⟨rfl,hok⟩
  by_cases hlt:k<db.length
  ·simp (disch:=omega) only [Kl,Eg,Wa,Sa,La,OC _ _ _ (h.2 _ (Fg hlt)),Option.bind_some]
   refine Aa.gd (decide_eq_true (by omega)) (Aa.gd (Ja (by omega) (by omega)) (Aa.ite (fun hc=>?_) (fun hc=>?_)))
   ·have hc:=oT hc
    refine Aa.gd (Ja (by omega) (by omega)) (Aa.gd (decide_eq_true (by simp;omega)) (.some ⟨hlt,?_,fun i hi=>?_⟩))
    ·rw [VU hlt];rfl
    ·by_cases e:i<k
     ·exact hok i e
     ·obtain rfl:i=k:=by omega
      exact hc
   ·have hc:=oF hc
    exact .some (by rw [cC hs hok (fun _=>hc) hk])
  ·obtain rfl:k=db.length:=by omega
   unfold Kl
   simp only [La,dF (show ¬(db.length:Int)<db.length by omega),cond_false]
   exact .some (by rw [cC hs hok (fun h=>by omega) hk])
theorem uX (db:List Ls) (l:Ls) (out:List Ls) (h:Bf db) (ho:out.length≤17000000):Aa (lp Ll Fa (db,0,l.o,l.s,l.e,out,())) fun r=>match r with| .inl x=>x=(out++db.filter (fun x=>decide (l.o<x.o)),())| .inr _=>False:=by
  have h1:=h.1
  unfold Sm at h1
  refine Aa.count db.length (fun k t=>t=(db,(k:Int),l.o,l.s,l.e,out++(db.take k).filter (fun x=>decide (l.o<x.o)),())) ?_ (Nat.zero_le _) (Sb (by omega)) (by simp)
  rintro k t hk rfl
  by_cases hlt:k<db.length
  ·have hfl:=uV (db:=db) (fun x=>decide (l.o<x.o)) k
   simp (disch:=omega) only [Ll,Eg,Wa,Sa,La,OC _ _ _ (h.2 _ (Fg hlt)),Option.bind_some]
   refine Aa.gd (decide_eq_true (by omega)) (Aa.gd (Ja (by omega) (by omega)) (Aa.ite (fun hc=>?_) (fun hc=>?_)))
   ·have hc':=oT hc
    refine Aa.gd (Ja (by omega) (by omega)) (Aa.gd (decide_eq_true (by simp only [List.length_append,List.length_singleton];omega)) (.some ⟨hlt,?_⟩))
    rw [cB _ hlt,if_pos hc,←List.append_assoc]
    rfl
   ·refine .some ⟨hlt,?_⟩
    rw [cB _ hlt,if_neg (by rw [hc];simp),List.append_nil]
    rfl
  ·obtain rfl:k=db.length:=by omega
   unfold Ll
   simp only [La,dF (show ¬(db.length:Int)<db.length by omega),cond_false,List.take_length]
   exact .some rfl
theorem uY (db:List Ls) (l:Ls) (hs:Bd db) (h:Bf db) (hl:Sm l.e):HN (db,l.o,l.s,l.e,())=some (Se db l,Pd db l,()):=by
  have hsrt:Ik db:=Lj.2 hs
  have h1:=h.1
  unfold Sm at h1
  have hfin:Aa ((lp Kl Fa (db,0,l.o,l.s,l.e,[],())).bind fun r3=>(match r3 with| .inl x4=>(Nj ((x4.2.1,(x4.2.2.1,(x4.2.2.2.1,()))))).bind fun r5=>(bif decide (((List.length x4.2.2.2.2.1+List.length ([(Ls.mk r5.1 r5.2.1 r5.2.2.1)]))≤(33554432:Nat))) then (lp Ll Fa ((x4.1,((0:Int),(x4.2.1,(x4.2.2.1,(x4.2.2.2.1,((x4.2.2.2.2.1++[(Ls.mk r5.1 r5.2.1 r5.2.2.1)]),())))))))).bind fun r6=>(match r6 with| .inl x7=>some (((0:Int),x7.1,()))| .inr _=>none) else none)| .inr _=>none)) (·=(0,Mj db l,())):=by
    refine Aa.bnd (uW db l hsrt h) ?_
    rintro (r|r) hr
    case inr=>exact hr.elim
    obtain rfl:=hr
    dsimp only
    rw [OC _ _ _ hl]
    have hfl:(db.filter fun x=>decide (x.o<l.o)).length≤db.length:=List.length_filter_le _ _
    simp only [Option.bind_some]
    refine Aa.gd (decide_eq_true (by simp only [List.length_singleton];omega)) (Aa.bnd (uX db l _ h (by simp only [List.length_append,List.length_singleton];omega)) ?_)
    rintro (r|r) hr
    case inr=>exact hr.elim
    obtain rfl:=hr
    refine .some ?_
    unfold Mj
    simp
  have hfin:=hfin.out
  unfold HN
  dsimp only
  rw [RT db l.o h.fits]
  unfold Pd Se
  cases hfd:fd db l.o with
  |none =>
   simp only [Option.bind_some,cond_false]
   exact hfin
  |some old =>
   simp only [Option.bind_some,cond_true,KN db h]
   by_cases e1:old.s=l.s
   ·simp only [e1,decide_true,cond_true]
    simp
   ·by_cases e2:l.s<old.s
    ·simp only [e1,e2,decide_true,decide_false,cond_true,cond_false]
     simp
    ·simp only [e1,e2,decide_false,cond_false]
     exact hfin
theorem uZ (db:List Ls) (hl:Ta db) (he:∀l∈db,Ta l.e):LK (db,())=some (Og db,()):=by
  unfold LK
  refine Aa.out (Aa.bnd (R:=fun r=>match r with| .inl _=>Og db=true| .inr y=>y.1=false∧Og db=false) ?_ ?_)
  ·refine Aa.count db.length (fun k t=>t=(db,(k:Int),())∧∀i,i<k→Nf (Ya db i)∧(0<i→(Ya db (i-1)).o<(Ya db i).o)) ?_ (Nat.zero_le _) (Sb (by omega)) ⟨by simp,fun i hi=>by omega⟩
   rintro k t hk ⟨rfl,hok⟩
   by_cases hlt:k<db.length
   ·have hf:Ta (Ya db k).e:=he _ (by rw [Ad hlt];exact List.getElem_mem hlt)
    simp (disch:=omega) only [Kz,Eg,Wa,Gw,Sa,La,bA _ _ _ hf,Option.bind_some]
    repeat' (first
      |refine Aa.some ?_
      |fail
      |(refine Aa.gd (by first|exact Ja (by omega) (by omega)|(simp (disch:=omega) only [Sa];exact Ja (by omega) (by omega))) ?_)
      |(refine Aa.ite (fun h=>?_) (fun h=>?_)<;>try simp only [decide_eq_true_eq,decide_eq_false_iff_not,Bool.not_eq_true',Bool.not_eq_false',Di,Ei,Bool.and_eq_true,Bool.or_eq_true,Bool.and_eq_false_iff,Bool.or_eq_false_iff,El] at h))
    all_goals try dsimp only
    all_goals first
      |(refine ⟨rfl,dF fun g=>?_⟩
        have:=g k hlt
        first|exact oF (by assumption) this.1|omega)
      |(refine ⟨by omega,rfl,fun i hi=>?_⟩
        by_cases e:i<k
        ·exact hok i e
        ·obtain rfl:i=k:=by omega
         exact ⟨oT (by assumption),fun _=>by omega⟩)
      |omega
   ·obtain rfl:k=db.length:=by omega
    unfold Kz
    simp only [La,dF (show ¬(db.length:Int)<db.length by omega),cond_false]
    exact .some (decide_eq_true hok)
  ·rintro (r|r) hr
   ·have hr:Og db=true:=hr
    exact .some (by first | rw [hr] | exact Prod.ext hr rfl)
   ·obtain ⟨b,u⟩:=r
    have hr:b=false∧Og db=false:=hr
    exact .some (by first | rw [hr.1,hr.2] | exact Prod.ext hr.1 (Prod.ext hr.2 rfl))
theorem XU {a b:List Ls} {k:Nat} (h:k<b.length):Jd a (b.take (k+1))=Pd (Jd a (b.take k)) (Ya b k):=by
  unfold Jd
  rw [List.take_add_one,List.getElem?_eq_getElem h,Ad h,List.foldl_append]
  rfl
theorem YU {a b:List Ls} (ha:Bf a) (hb:Bf b) (hla:a.length≤500000) (hlb:b.length≤400000):∀k,k≤b.length→Bf (Jd a (b.take k))∧(Jd a (b.take k)).length≤a.length+k
  |0,_=>⟨by simpa [Jd] using ha,by simp [Jd]⟩
  |k+1,hk=>by
   obtain ⟨i1,i2⟩:=YU ha hb hla hlb k (by omega)
   rw [XU (by omega)]
   have:=i1.put (hb.2 _ (Fg (show k<b.length by omega))) (by omega)
   exact ⟨this.1,by omega⟩
theorem vA (a b:List Ls) (hs:Bd a) (ha:Bf a) (hb:Bf b) (hla:a.length≤500000) (hlb:b.length≤400000):Ce (a,b,())=some (Jd a b,()):=by
  unfold Ce
  simp only [JN a ha,Option.bind_some,La]
  refine Aa.out (Aa.bnd (R:=fun r=>match r with| .inl x=>x=(Jd a b,())| .inr _=>False) ?_ ?_)
  ·refine Aa.count b.length (fun k t=>t=(b,(b.length:Int),(k:Int),Jd a (b.take k),())) ?_ (Nat.zero_le _) (Sb (by omega)) (by simp [Jd])
   rintro k t hk rfl
   by_cases hlt:k<b.length
   ·obtain ⟨i1,i2⟩:=YU ha hb hla hlb k hk
    simp (disch:=omega) only [EC,Eg,Wa,Sa,WU _ _ (OM hs _) i1 (hb.2 _ (Fg hlt)) (show (Jd a (b.take k)).length≤1000000 by omega),Option.bind_some]
    refine Aa.gd (decide_eq_true (by omega)) (Aa.gd (Ja (by omega) (by omega)) (.some ⟨hlt,?_⟩))
    rw [XU hlt]
    rfl
   ·obtain rfl:k=b.length:=by omega
    unfold EC
    simp only [dF (show ¬(b.length:Int)<b.length by omega),cond_false,List.take_length]
    exact .some rfl
  ·rintro (r|r) hr
   case inr=>exact hr.elim
   obtain rfl:=hr
   exact .some rfl
theorem vB (a b:List Ls) (hs:Bd a) (ha:Bf a) (hb:Bf b) (hla:a.length≤500000) (hlb:b.length≤400000):IN (a,b,())=some (Jd a b,()):=by
  unfold IN
  simp only [KN a ha,Option.bind_some,La]
  refine Aa.out (Aa.bnd (R:=fun r=>match r with| .inl x=>x=(Jd a b,())| .inr _=>False) ?_ ?_)
  ·refine Aa.count b.length (fun k t=>t=(b,(k:Int),Jd a (b.take k),())) ?_ (Nat.zero_le _) (Sb (by omega)) (by simp [Jd])
   rintro k t hk rfl
   by_cases hlt:k<b.length
   ·obtain ⟨i1,i2⟩:=YU ha hb hla hlb k hk
    simp (disch:=omega) only [FC,Eg,Wa,Sa,La,uY _ _ (OM hs _) i1 (hb.2 _ (Fg hlt)),Option.bind_some]
    refine Aa.gd (decide_eq_true (by omega)) (Aa.gd (Ja (by omega) (by omega)) (.some ⟨hlt,?_⟩))
    rw [XU hlt]
    rfl
   ·obtain rfl:k=b.length:=by omega
    unfold FC
    simp only [La,dF (show ¬(b.length:Int)<b.length by omega),cond_false,List.take_length]
    exact .some rfl
  ·rintro (r|r) hr
   case inr=>exact hr.elim
   obtain rfl:=hr
   exact .some rfl
end
section
open Go.RowKit
def sy (f:Nat→Int) (e:Nat×Nat):Nat→Int:=fun n=>if n=e.1∨n=e.2 then max (f e.1) (f e.2) else f n
def Jn (ls:List Lk) (u v:Nat):Prop:=∃k s,Wk ls u k v s
theorem Jn.refl (ls:List Lk) (u:Nat):Jn ls u u:=⟨0,0,.nil⟩
theorem Jn.symm {ls:List Lk} {u v:Nat} (h:Jn ls u v):Jn ls v u:=by
  obtain ⟨k,s,w⟩:=h
  exact ⟨k,s,w.symm⟩
theorem Jn.trans {ls:List Lk} {u v x:Nat} (h:Jn ls u v) (h':Jn ls v x):Jn ls u x:=by
  obtain ⟨k,s,w⟩:=h
  obtain ⟨k',s',w'⟩:=h'
  exact ⟨_,_,w.append w'⟩
section
variable {N:Nat} {ls:List Lk}
end
end
section
open Go.RowKit
structure PC (D:Nat→List Ls):Prop where
  srt:∀n,Bd (D n)
  pos:∀n,∀l∈D n,0≤l.s
  agr:∀m n,uS (D m) (D n)
def Ow (D:Nat→List Ls) (e:Nat×Nat):Nat→List Ls:=fun n=>if n=e.1∨n=e.2 then Jd (D e.1) (D e.2) else D n
theorem ZU {D:Nat→List Ls} {e:Nat×Nat} {n:Nat} {x:Ls} (h:x∈Ow D e n):∃m,x∈D m:=by
  unfold Ow at h
  split at h
  ·rcases bU h with h|h
   ·exact ⟨_,h⟩
   ·exact ⟨_,h⟩
  ·exact ⟨n,h⟩
theorem PC.sy {D:Nat→List Ls} (K:PC D) (e:Nat×Nat):PC (Ow D e):=by
  refine ⟨fun n=>?_,fun n l hl=>?_,fun m n x hx y hy=>?_⟩
  ·unfold Ow
   split
   ·exact OM (K.srt _) _
   ·exact K.srt n
  ·obtain ⟨m,hm⟩:=ZU hl
   exact K.pos m l hm
  ·obtain ⟨i,hi⟩:=ZU hx
   obtain ⟨j,hj⟩:=ZU hy
   exact K.agr i j x hi y hj
theorem PC.seq {D:Nat→List Ls} (K:PC D) (e:Nat×Nat) (o:Int) (n:Nat):Vc (Ow D e n) o=Go.Proofs.YtknkhdjhongklaaGreat.sy (fun n=>Vc (D n) o) e n:=by
  unfold Ow Go.Proofs.YtknkhdjhongklaaGreat.sy
  split
  ·exact bT (K.srt _) (K.srt _) (K.pos _) (K.pos _) o
  ·rfl
section
variable {N:Nat} {ls:List Lk} {D:Nat→List Ls}
end
end
section
open Go.RowKit
structure Wd where
  n:Int
  ls:List Lk
  up:List Bool
  sq:List Int
  db:List (List Ls)
  net:List Pk
def Cb (db:List (List Ls)) (i:Nat):List Ls:=db.getD i []
def Yh (ls:List Lk) (up:List Bool) (k:Nat):List Lk:=((List.range k).filter fun i=>up.getD i false).map (lk ls)
def Sc (ls:List Lk) (up:List Bool):List Lk:=Yh ls up ls.length
theorem LN (ls:List Lk) (up:List Bool) (k:Nat):Yh ls up (k+1)=if up.getD k false then Yh ls up k++[lk ls k] else Yh ls up k:=by
  unfold Yh
  rw [List.range_succ,List.filter_append,List.map_append,List.filter_cons]
  cases h:up.getD k false with
  |false=>simp
  |true=>rfl
theorem MN {ls:List Lk} {up:List Bool} {l:Lk}:l∈Sc ls up↔∃i,i<ls.length∧up.getD i false=true∧l=lk ls i:=by
  unfold Sc Yh
  rw [List.mem_map]
  constructor
  ·rintro ⟨i,hi,rfl⟩
   obtain ⟨h1,h2⟩:=List.mem_filter.1 hi
   exact ⟨i,List.mem_range.1 h1,h2,rfl⟩
  ·rintro ⟨i,h1,h2,rfl⟩
   exact ⟨i,List.mem_filter.2 ⟨List.mem_range.2 h1,h2⟩,rfl⟩
theorem cD (ls:List Lk) (up:List Bool):(Sc ls up).length≤ls.length:=by
  unfold Sc Yh
  rw [List.length_map]
  exact Nat.le_trans (List.length_filter_le _ _) (by simp)
theorem Fq {n:Int} {ls:List Lk} (g:GV n ls) (up:List Bool):GV n (Sc ls up):=by
  refine Cw.2 ⟨g.1,g.2.1,Nat.le_trans (cD ls up) g.2.2.1,fun l hl=>?_,?_⟩
  ·obtain ⟨i,hi,_,rfl⟩:=MN.1 hl
   exact g.ok (Pm hi)
  ·unfold Sc Yh
   rw [List.pairwise_map]
   refine List.Pairwise.imp_of_mem ?_ (List.Pairwise.filter _ (List.pairwise_lt_range (n:=ls.length)))
   intro a b ha hb hab
   have h1:=List.mem_range.1 (List.mem_filter.1 ha).1
   have h2:=List.mem_range.1 (List.mem_filter.1 hb).1
   have:=List.pairwise_iff_getElem.1 g.pw a b h1 h2 hab
   rwa [Pi h1,Pi h2]
def Vg (w:Wd) (A:Int→Prop) (l:Ls):Prop:=Nf l∧l.o<w.n∧l.s≤iz w.sq l.o.toNat∧(∀e∈l.e,lc w.ls l.o e.n=some e.c)∧(l.s<iz w.sq l.o.toNat∨l.e=Be (Sc w.ls w.up) w.n.toNat l.o∨A l.o)
def Kk (w:Wd) (l:Ls):Prop:=(∃i,i<w.db.length∧l∈Cb w.db i)∨∃p∈w.net,l=p.p
structure WV (w:Wd) (A:Int→Prop):Prop where
  g:GV w.n w.ls
  up:w.up.length=w.ls.length
  sq:(w.sq.length:Int)=w.n
  db:(w.db.length:Int)=w.n
  net:w.net.length≤16
  rng:∀i,i<w.sq.length→1≤iz w.sq i∧iz w.sq i≤99
  ok:∀i,i<w.db.length→Fe (Cb w.db i)
  own:∀i,i<w.db.length→∃l∈Cb w.db i,l.o=i∧l.s=iz w.sq i
  poss:∀l,Kk w l→Vg w A l
  agr:∀x y,Kk w x→Kk w y→x.o=y.o→x.s=y.s→x=y
  tgt:∀p∈w.net,0≤p.t∧p.t<w.n
def Jo (l:Ls) (ex:Int) (net:List Pk) (m:Int):List Pk:=if m≠ex∧net.length<16 then net++[⟨m,l⟩] else net
def Zh (l:Ls) (ex:Int) (net:List Pk) (nb:List Int):List Pk:=nb.foldl (Jo l ex) net
theorem AV {l:Ls} {ex:Int} {p:Pk}:∀{nb:List Int} {net:List Pk},p∈Zh l ex net nb→p∈net∨∃m∈nb,p=⟨m,l⟩
  |[],net,h=>.inl h
  |m::r,net,h=>by
   rcases AV (nb:=r) (net:=Jo l ex net m) h with h|⟨x,hx,e⟩
   ·unfold Jo at h
    split at h
    ·rcases List.mem_append.1 h with h|h
     ·exact .inl h
     ·exact .inr ⟨m,List.mem_cons_self ..,List.mem_singleton.1 h⟩
    ·exact .inl h
   ·exact .inr ⟨x,List.mem_cons_of_mem _ hx,e⟩
theorem cE {l:Ls} {ex:Int}:∀{nb:List Int} {net:List Pk},net.length≤16→(Zh l ex net nb).length≤16
  |[],net,h=>h
  |m::r,net,h=>cE (nb:=r) (by unfold Jo;split;rw [List.length_append,List.length_singleton];omega;exact h)
def Wg (w:Wd) (i:Nat):Ls:=⟨i,iz w.sq i+1,Be (Sc w.ls w.up) w.n.toNat i⟩
def Oj (w:Wd) (i:Nat):Wd:={ w with sq:=w.sq.set i (iz w.sq i+1),db:=w.db.set i (Pd (Cb w.db i) (Wg w i)),net:=Zh (Wg w i) (-1) w.net (Xd (Sc w.ls w.up) i w.n.toNat) }
theorem QC {db:List (List Ls)} {i j:Nat} {d:List Ls} (hi:i<db.length):Cb (db.set i d) j=if j=i then d else Cb db j:=by
  unfold Cb
  simp only [List.getD,List.getElem?_set]
  by_cases h:i=j
  ·subst h;simp [hi]
  ·rw [if_neg h,if_neg (fun e=>h e.symm)]
end
section
open Go.RowKit
section
variable {N:Nat} {ls:List Lk} {node:Int} {ends:List En}
theorem cG {l:List Int} {f:Int→En} {i:Nat} (h:i<l.length):en (l.map f) i=f (iz l i):=by simp [en,iz,h]
theorem vC {l:List Int} (h:l.Pairwise (·<·)) {i j:Nat} (hij:i<j) (hj:j<l.length):iz l i<iz l j:=by
  have:=List.pairwise_iff_getElem.1 h i j (by omega) hj hij
  simpa [iz,hj,show i<l.length by omega] using this
theorem vD (g:GV N ls) {n:Nat} (hn:n<N):Nf ⟨n,1,Be ls N n⟩:=by
  have h8:=g.2.1
  refine ⟨by dsimp only;omega,by dsimp only;omega,by dsimp only;omega,by dsimp only;omega,fun i hi=>?_⟩
  dsimp only at hi ⊢
  have hi':i<(Xd ls n N).length:=by unfold Be at hi;simpa using hi
  have hm:iz (Xd ls n N) i∈Xd ls n N:=List.mem_of_getElem? (z8 hi')
  obtain ⟨j,hj,e,hs⟩:=EB.1 hm
  obtain ⟨c,hc⟩:=Option.isSome_iff_exists.1 hs
  have hcc:=aL g hc
  have hne:=(bK g hs).2.2.2.2
  unfold Jj Be
  rw [cG hi',e,hc]
  refine ⟨by dsimp only;omega,by dsimp only;omega,by dsimp only;omega,hcc.1,hcc.2,fun h0=>?_⟩
  rw [cG (show i-1<(Xd ls n N).length by omega)]
  have:=vC (bJ ls n N) (show i-1<i by omega) hi'
  dsimp only
  omega
theorem cH {f g:Nat→Nat→Option Int} {a:Nat}:∀{j:Nat},(∀b,a<b→b≤a+j→(f a b).isSome=true→(g a b).isSome=true)→(Qe f a j).length≤(Qe g a j).length
  |0,_=>by simp [Qe]
  |j+1,h=>by
   rw [Yy,Yy,List.length_append,List.length_append]
   have h1:=cH (j:=j) fun b h1 h2=>h b h1 (by omega)
   have h2:=h (a+1+j) (by omega) (by omega)
   have:(cell f a (a+1+j)).length≤(cell g a (a+1+j)).length:=by
     unfold cell
     cases e:f a (a+1+j) with
     |none=>simp
     |some c =>
      rw [e] at h2
      obtain ⟨d,hd⟩:=Option.isSome_iff_exists.1 (h2 rfl)
      simp [hd]
   omega
theorem cI {f g:Nat→Nat→Option Int}:∀{k:Nat},(∀a b,a<k→a<b→b<N→(f a b).isSome=true→(g a b).isSome=true)→(Uh f N k).length≤(Uh g N k).length
  |0,_=>by simp [Uh]
  |k+1,h=>by
   rw [Zy,Zy,List.length_append,List.length_append]
   have h1:=cI (k:=k) fun a b ha=>h a b (by omega)
   have h2:=cH (f:=f) (g:=g) (a:=k) (j:=N-1-k) fun b hb1 hb2=>h k b (by omega) hb1 (by omega)
   omega
end
section
variable {ls:List Lk} {ends:List En}
end
end
section
open Go.RowKit
theorem vE {n:Int} {ls:List Lk} (g:GV n ls) {up:List Bool} {a b c:Int} (h:lc (Sc ls up) a b=some c):lc ls a b=some c:=by
  have hm:=Up h
  obtain ⟨i,hi,_,e⟩:=MN.1 hm
  exact (OJ g.pw).2 (by rw [e];exact Pm hi)
theorem vG {ls:List Lk} {N:Nat} {o:Int} {e:En} (h:e∈Be ls N o):lc ls o e.n=some e.c:=by
  unfold Be at h
  obtain ⟨x,hx,rfl⟩:=List.mem_map.1 h
  obtain ⟨j,_,rfl,hs⟩:=EB.1 hx
  obtain ⟨c,hc⟩:=Option.isSome_iff_exists.1 hs
  dsimp only
  rw [hc];rfl
theorem BV {d:List Int} {y j:Nat} {v:Int} (hy:y<d.length):iz (d.set y v) j=if j=y then v else iz d j:=rK d y j v hy
theorem cJ {w:Wd} {A:Int→Prop} (h:WV w A) {i:Nat} (hi:i<w.db.length) (h99:iz w.sq i<99):Nf (Wg w i):=by
  have hdb:=h.db
  obtain ⟨N,hN⟩:=Int.eq_ofNat_of_zero_le (show 0≤w.n by omega)
  have g:GV (N:Int) (Sc w.ls w.up):=by have:=Fq h.g w.up;rwa [hN] at this
  have hiN:i<N:=by omega
  have h1:=vD g hiN
  have hr:=h.rng i (by have:=h.sq;omega)
  unfold Wg
  rw [hN,Int.toNat_natCast]
  exact ⟨h1.1,h1.2.1,by dsimp only;omega,by dsimp only;omega,h1.2.2.2.2⟩
theorem CV {w:Wd} {A:Int→Prop} (h:WV w A) {i:Nat} (hi:i<w.db.length) {l:Ls} (hl:Kk (Oj w i) l):l=Wg w i∨Kk w l:=by
  rcases hl with ⟨j,hj,hl⟩|⟨p,hp,rfl⟩
  ·have hj:j<w.db.length:=by simpa [Oj] using hj
   have hl:l∈Cb (w.db.set i (Pd (Cb w.db i) (Wg w i))) j:=hl
   rw [QC hi] at hl
   split at hl
   ·unfold Pd at hl
    split at hl
    ·rcases Jk.1 hl with rfl|hl
     ·exact .inl rfl
     ·exact .inr (.inl ⟨i,hi,hl.1⟩)
    ·exact .inr (.inl ⟨i,hi,hl⟩)
   ·exact .inr (.inl ⟨j,hj,hl⟩)
  ·rcases AV (show p∈Zh (Wg w i) (-1) w.net _ from hp) with h|⟨m,_,rfl⟩
   ·exact .inr (.inr ⟨p,h,rfl⟩)
   ·exact .inl rfl
theorem vH {w:Wd} {A:Int→Prop} (h:WV w A) {i:Nat} (hi:i<w.db.length) (h99:iz w.sq i<99):WV (Oj w i) (fun o=>A o∧o≠i):=by
  have hsq:=h.sq
  have hdb:=h.db
  have his:i<w.sq.length:=by omega
  have hnew:=cJ h hi h99
  have hsrt:∀j,j<w.db.length→Bd (Cb w.db j):=fun j hj=>Lj.1 (h.ok j hj).srt
  have hz:∀j,iz (w.sq.set i (iz w.sq i+1)) j=if j=i then iz w.sq i+1 else iz w.sq j:=fun j=>BV his
  have no:(Wg w i).o=i:=rfl
  have ns:(Wg w i).s=iz w.sq i+1:=rfl
  refine ⟨h.g,h.up,?_,?_,cE h.net,fun j hj=>?_,fun j hj=>?_,fun j hj=>?_,fun l hl=>?_,fun x y hx hy e1 e2=>?_,fun p hp=>?_⟩
  ·show ((w.sq.set i _).length:Int)=w.n
   rw [List.length_set];exact hsq
  ·show ((w.db.set i _).length:Int)=w.n
   rw [List.length_set];exact hdb
  ·have hj:j<w.sq.length:=by simpa [Oj] using hj
   show 1≤iz (w.sq.set i _) j∧iz (w.sq.set i _) j≤99
   rw [hz]
   have:=h.rng i his
   split
   ·omega
   ·exact h.rng j hj
  ·have hj:j<w.db.length:=by simpa [Oj] using hj
   show Fe (Cb (w.db.set i _) j)
   rw [QC hi]
   split
   ·exact bP (h.ok i hi) hnew
   ·exact h.ok j hj
  ·have hj:j<w.db.length:=by simpa [Oj] using hj
   show ∃l∈Cb (w.db.set i _) j,l.o=j∧l.s=iz (w.sq.set i _) j
   rw [QC hi,hz]
   by_cases e:j=i
   ·subst e
    rw [if_pos rfl,if_pos rfl]
    obtain ⟨l,hl,h1,h2⟩:=h.own j hi
    refine ⟨Wg w j,?_,rfl,rfl⟩
    have hc:Se (Cb w.db j) (Wg w j)=0:=by
      refine (NU (by rw [ns];have:=h.rng j his;omega)).2 ?_
      unfold Vc
      rw [no,(Ui (hsrt j hi)).2 ⟨hl,h1⟩,ns]
      dsimp only
      omega
    unfold Pd
    rw [if_pos hc]
    exact Jk.2 (.inl rfl)
   ·rw [if_neg e,if_neg e]
    exact h.own j hj
  ·show Nf l∧l.o<w.n∧l.s≤iz (w.sq.set i _) l.o.toNat∧(∀e∈l.e,lc w.ls l.o e.n=some e.c)∧(l.s<iz (w.sq.set i _) l.o.toNat∨l.e=Be (Sc w.ls w.up) w.n.toNat l.o∨A l.o∧l.o≠i)
   rw [hz]
   rcases CV h hi hl with rfl|hl
   ·rw [no,Int.toNat_natCast,if_pos rfl]
    exact ⟨hnew,by omega,Int.le_of_eq ns,fun e he=>vE h.g (vG he),.inr (.inl rfl)⟩
   ·obtain ⟨p1,p2,p3,p4,p5⟩:=h.poss l hl
    have ho:=p1.1
    by_cases e:l.o.toNat=i
    ·rw [if_pos e]
     rw [e] at p3
     exact ⟨p1,p2,by omega,p4,.inl (by omega)⟩
    ·rw [if_neg e]
     exact ⟨p1,p2,p3,p4,p5.imp id fun h=>h.imp id fun h=>⟨h,by omega⟩⟩
  ·have old:∀z,Kk w z→z.o=(i:Int)→z.s≤iz w.sq i:=fun z hz e=>by
     have:=(h.poss z hz).2.2.1
     rwa [e,Int.toNat_natCast] at this
   rcases CV h hi hx with rfl|hx<;>rcases CV h hi hy with rfl|hy
   ·rfl
   ·have:=old y hy (by rw [←e1];rfl)
    rw [ns] at e2;omega
   ·have:=old x hx (by rw [e1];rfl)
    rw [ns] at e2;omega
   ·exact h.agr x y hx hy e1 e2
  ·rcases AV (show p∈Zh (Wg w i) (-1) w.net _ from hp) with hp|⟨m,hm,rfl⟩
   ·exact h.tgt p hp
   ·obtain ⟨j,hj,rfl,_⟩:=EB.1 hm
    show 0≤(j:Int)∧(j:Int)<w.n
    omega
end
section
open Go.RowKit
abbrev Tb:Int→Prop:=fun _=>False
theorem WV.mono {w:Wd} {A B:Int→Prop} (h:WV w A) (k:∀o,A o→B o):WV w B :=
  ⟨h.g,h.up,h.sq,h.db,h.net,h.rng,h.ok,h.own,fun l hl=>by
    obtain ⟨p1,p2,p3,p4,p5⟩:=h.poss l hl
    exact ⟨p1,p2,p3,p4,p5.imp id fun q=>q.imp id (k _)⟩,h.agr,h.tgt⟩
theorem WV.less {w:Wd} {A:Int→Prop} (h:WV w A) {db':List (List Ls)} {net':List Pk} (hd:db'.length=w.db.length) (hn:net'.length≤16) (ok:∀i,i<w.db.length→Fe (Cb db' i)) (own:∀i,i<w.db.length→∃l∈Cb db' i,l.o=i∧l.s=iz w.sq i) (said:∀l,Kk { w with db:=db',net:=net' } l→Kk w l) (tgt:∀p∈net',0≤p.t∧p.t<w.n):WV { w with db:=db',net:=net' } A :=
  ⟨h.g,h.up,h.sq,by show (db'.length:Int)=w.n;rw [hd];exact h.db,hn,h.rng,fun i hi=>ok i (by rw [←hd];exact hi),fun i hi=>own i (by rw [←hd];exact hi),fun l hl=>h.poss l (said l hl),fun x y hx hy=>h.agr x y (said x hx) (said y hy),tgt⟩
section
variable {w:Wd}
theorem WV.seq_le {A:Int→Prop} (h:WV w A) {i:Nat} (hi:i<w.db.length) {o:Nat} (ho:o<w.db.length):Vc (Cb w.db i) o≤iz w.sq o:=by
  unfold Vc
  have hr:=h.rng o (by have:=h.sq;have:=h.db;omega)
  cases e:fd (Cb w.db i) o with
  |none=>dsimp only;omega
  |some l =>
   obtain ⟨h1,h2⟩:=(Ui (Lj.1 (h.ok i hi).srt)).1 e
   have:=(h.poss l (.inl ⟨i,hi,h1⟩)).2.2.1
   rw [h2,Int.toNat_natCast] at this
   exact this
theorem WV.seq_own {A:Int→Prop} (h:WV w A) {i:Nat} (hi:i<w.db.length):Vc (Cb w.db i) i=iz w.sq i:=by
  obtain ⟨l,hl,h1,h2⟩:=h.own i hi
  unfold Vc
  rw [(Ui (Lj.1 (h.ok i hi).srt)).2 ⟨hl,h1⟩]
  exact h2
theorem vI {d:List Ls} (hs:Bd d) {o v:Int} (hv:0≤v) (h:Vc d o=v):∃l∈d,l.o=o∧l.s=v:=by
  unfold Vc at h
  cases e:fd d o with
  |none=>rw [e] at h;dsimp only at h;omega
  |some l =>
   rw [e] at h
   obtain ⟨h1,h2⟩:=(Ui hs).1 e
   exact ⟨l,h1,h2,h⟩
def Wm (w:Wd) (a b:Nat):Wd:={ w with db:=(w.db.set a (Jd (Cb w.db a) (Cb w.db b))).set b (Jd (Cb w.db a) (Cb w.db b)) }
theorem DV {a b:Nat} (ha:a<w.db.length) (hb:b<w.db.length) (i:Nat):Cb (Wm w a b).db i=if i=a∨i=b then Jd (Cb w.db a) (Cb w.db b) else Cb w.db i:=by
  show Cb ((w.db.set a _).set b _) i=_
  rw [QC (by rw [List.length_set];exact hb)]
  by_cases h:i=b
  ·rw [if_pos h,if_pos (.inr h)]
  ·rw [if_neg h,QC ha]
   by_cases h2:i=a
   ·rw [if_pos h2,if_pos (.inl h2)]
   ·rw [if_neg h2,if_neg (by rintro (e|e);exact h2 e;exact h e)]
theorem Fe.pos {db:List Ls} (h:Fe db):∀l∈db,0≤l.s:=fun l hl=>by
  have:=((Bq.1 h).1 l hl).2.2.1
  omega
theorem vJ {A:Int→Prop} (h:WV w A) {a b:Nat} (ha:a<w.db.length) (hb:b<w.db.length):WV (Wm w a b) A:=by
  have sa:=Lj.1 (h.ok a ha).srt
  have sb:=Lj.1 (h.ok b hb).srt
  have pa:=(h.ok a ha).pos
  have pb:=(h.ok b hb).pos
  refine h.less (db':=(Wm w a b).db) (net':=w.net) (by simp [Wm]) h.net (fun i hi=>?_) (fun i hi=>?_) (fun l hl=>?_) h.tgt
  ·rw [DV ha hb]
   split
   ·exact MU (h.ok a ha) (Bq.1 (h.ok b hb)).1
   ·exact h.ok i hi
  ·rw [DV ha hb]
   have hr:=h.rng i (by have:=h.sq;have:=h.db;omega)
   split
   ·rename_i e
    refine vI (OM sa _) (by omega) ?_
    rw [bT sa sb pb pa]
    have q1:=h.seq_le ha hi
    have q2:=h.seq_le hb hi
    rcases e with rfl|rfl
    ·have:=h.seq_own hi;omega
    ·have:=h.seq_own hi;omega
   ·exact h.own i hi
  ·rcases hl with ⟨j,hj,hl⟩|hl
   ·have hl:l∈Cb (Wm w a b).db j:=hl
    have hj:j<w.db.length:=by simpa [Wm] using hj
    rw [DV ha hb] at hl
    split at hl
    ·rcases bU hl with h|h
     ·exact .inl ⟨a,ha,h⟩
     ·exact .inl ⟨b,hb,h⟩
    ·exact .inl ⟨j,hj,hl⟩
   ·exact .inr hl
def EV (w:Wd) (t:Nat) (l:Ls):Wd:=if Se (Cb w.db t) l=0 then { w with db:=w.db.set t (Pd (Cb w.db t) l),net:=Zh l l.o w.net (Xd (Sc w.ls w.up) t w.n.toNat) } else w
end
end
section
open Go.RowKit
theorem vK {ls ls':List Lk} {m:Int} (h:∀x:Int,lc ls m x=lc ls' m x) (k:Nat):Xd ls m k=Xd ls' m k:=by
  unfold Xd
  congr 1
  refine List.filter_congr fun x _=>?_
  rw [←PJ,←PJ,h]
theorem vL {ls ls':List Lk} {m:Int} (h:∀x:Int,lc ls m x=lc ls' m x) (N:Nat):Be ls N m=Be ls' N m:=by
  unfold Be
  rw [vK h N]
  exact List.map_congr_left fun x _=>by rw [h]
theorem cK {up:List Bool} {k i:Nat} {u:Bool} (h:i≠k):(up.set k u).getD i false=up.getD i false:=by
  simp only [List.getD,List.getElem?_set]
  rw [if_neg (fun e=>h e.symm)]
theorem vM {n:Int} {ls:List Lk} (g:GV n ls) {up:List Bool} {k:Nat} {u:Bool} {o:Int} (ha:o≠(lk ls k).a) (hb:o≠(lk ls k).b) (x:Int):lc (Sc ls (up.set k u)) o x=lc (Sc ls up) o x:=by
  have key:∀c,(⟨min o x,max o x,c⟩:Lk)∈Sc ls (up.set k u)↔(⟨min o x,max o x,c⟩:Lk)∈Sc ls up:=fun c=>by
    rw [MN,MN]
    have ne:∀i,(⟨min o x,max o x,c⟩:Lk)=lk ls i→i≠k:=fun i e hik=>by
      subst hik
      rw [←e] at ha hb
      dsimp only at ha hb
      omega
    constructor
    ·rintro ⟨i,h1,h2,h3⟩
     exact ⟨i,h1,by rwa [cK (ne i h3)] at h2,h3⟩
    ·rintro ⟨i,h1,h2,h3⟩
     exact ⟨i,h1,by rwa [cK (ne i h3)],h3⟩
  refine Option.ext fun c=>?_
  have h1:=OJ (Fq g (up.set k u)).pw (a:=o) (b:=x) (c:=c)
  have h2:=OJ (Fq g up).pw (a:=o) (b:=x) (c:=c)
  exact (h1.trans (key c)).trans h2.symm
theorem cL {w:Wd} (h:WV w Tb) {k:Nat} (hk:k<w.ls.length) (u:Bool):WV { w with up:=w.up.set k u } (fun o=>o=(lk w.ls k).a∨o=(lk w.ls k).b) :=
  ⟨h.g,by show (w.up.set k u).length=w.ls.length;rw [List.length_set];exact h.up,h.sq,h.db,h.net,h.rng,h.ok,h.own,fun l hl=>by
    obtain ⟨p1,p2,p3,p4,p5⟩:=h.poss l hl
    refine ⟨p1,p2,p3,p4,?_⟩
    by_cases hA:l.o=(lk w.ls k).a∨l.o=(lk w.ls k).b
    ·exact .inr (.inr hA)
    ·refine p5.imp id fun q=>.inl ?_
     have q:=q.resolve_right id
     show l.e=Be (Sc w.ls (w.up.set k u)) w.n.toNat l.o
     rw [q]
     exact (vL (vM h.g (fun e=>hA (.inl e)) (fun e=>hA (.inr e))) _).symm,h.agr,h.tgt⟩
def Pw (w:Wd) (k:Nat) (u:Bool):Wd:=if w.up.getD k false=u∨99≤iz w.sq (lk w.ls k).a.toNat∨99≤iz w.sq (lk w.ls k).b.toNat then w else Oj (Oj { w with up:=w.up.set k u } (lk w.ls k).a.toNat) (lk w.ls k).b.toNat
end
section
open Go.RowKit
def Rb (net:List Pk) (i:Nat):Pk:=net.getD i ⟨0,⟨0,0,[]⟩⟩
theorem Qw {net:List Pk} {i:Nat} (h:i<net.length):Rb net i∈net:=by
  unfold Rb
  rw [List.getD,List.getElem?_eq_getElem h]
  exact List.getElem_mem h
def Xg (w:Wd) (k:Nat):Wd:=if w.up.getD k false then Wm w (lk w.ls k).a.toNat (lk w.ls k).b.toNat else w
def Ai (w:Wd) (kind a:Int):Wd :=
  if (kind=1∨kind=2)∧0≤a∧a<w.up.length then Pw w a.toNat (decide (kind=2))
  else if kind=3∧0≤a∧a<w.net.length then EV { w with net:=w.net.eraseIdx a.toNat } (Rb w.net a.toNat).t.toNat (Rb w.net a.toNat).p
  else if kind=4∧0≤a∧a<w.net.length then { w with net:=w.net.eraseIdx a.toNat }
  else if kind=5∧0≤a∧a<w.net.length then (if w.net.length<16 then { w with net:=w.net++[Rb w.net a.toNat] } else w)
  else if kind=6∧0≤a∧a<w.up.length then Xg w a.toNat
  else w
theorem vN {w:Wd} (h:WV w Tb) {k:Nat} (hk:k<w.ls.length):WV (Xg w k) Tb:=by
  unfold Xg
  split
  ·have ho:=h.g.ok (Pm hk)
   have hdb:=h.db
   unfold Hh at ho
   exact vJ h (by omega) (by omega)
  ·exact h
def Pj (w:Wd):Nat→Wd
  |0=>w
  |k+1=>Xg (Pj w k) k
def RC (w:Wd):Wd:=Pj w w.ls.length
def Pg (w:Wd):Nat→Wd
  |0=>w
  |k+1=>RC (Pg w k)
def Gq (w:Wd):Wd:=Pg { w with net:=[] } w.n.toNat
theorem vO (w:Wd) (k:Nat):(Xg w k).n=w.n∧(Xg w k).ls=w.ls∧(Xg w k).up=w.up∧(Xg w k).sq=w.sq∧(Xg w k).net=w.net∧(Xg w k).db.length=w.db.length:=by
  unfold Xg
  split
  ·exact ⟨rfl,rfl,rfl,rfl,rfl,by simp [Wm]⟩
  ·exact ⟨rfl,rfl,rfl,rfl,rfl,rfl⟩
theorem NN (w:Wd) (k:Nat):(Pj w k).n=w.n∧(Pj w k).ls=w.ls∧(Pj w k).up=w.up∧(Pj w k).sq=w.sq∧(Pj w k).net=w.net∧(Pj w k).db.length=w.db.length:=by
  induction k with
  |zero=>exact ⟨rfl,rfl,rfl,rfl,rfl,rfl⟩
  |succ k ih =>
   have h:=vO (Pj w k) k
   exact ⟨h.1.trans ih.1,h.2.1.trans ih.2.1,h.2.2.1.trans ih.2.2.1,h.2.2.2.1.trans ih.2.2.2.1,h.2.2.2.2.1.trans ih.2.2.2.2.1,h.2.2.2.2.2.trans ih.2.2.2.2.2⟩
theorem cM (w:Wd) (k:Nat):(Pg w k).n=w.n∧(Pg w k).ls=w.ls∧(Pg w k).up=w.up∧(Pg w k).sq=w.sq∧(Pg w k).net=w.net∧(Pg w k).db.length=w.db.length:=by
  induction k with
  |zero=>exact ⟨rfl,rfl,rfl,rfl,rfl,rfl⟩
  |succ k ih =>
   have h:=NN (Pg w k) (Pg w k).ls.length
   exact ⟨h.1.trans ih.1,h.2.1.trans ih.2.1,h.2.2.1.trans ih.2.2.1,h.2.2.2.1.trans ih.2.2.2.1,h.2.2.2.2.1.trans ih.2.2.2.2.1,h.2.2.2.2.2.trans ih.2.2.2.2.2⟩
theorem ON {w:Wd} (h:WV w Tb):∀k,k≤w.ls.length→WV (Pj w k) Tb
  |0,_=>h
  |k+1,hk=>vN (ON h k (by omega)) (by rw [(NN w k).2.1];omega)
theorem PN {w:Wd} (h:WV w Tb):∀k,WV (Pg w k) Tb
  |0=>h
  |k+1=>ON (PN h k) _ (Nat.le_refl _)
theorem cN {w:Wd} (h:WV w Tb):WV (Gq w) Tb:=by
  refine PN (h.less (db':=w.db) rfl (by simp) h.ok h.own (fun l hl=>?_) (by simp)) _
  rcases hl with hl|⟨p,hp,_⟩
  ·exact .inl hl
  ·simp at hp
end
section
open Go.RowKit
section
variable {w:Wd} {N:Nat}
theorem cO (h:WV w Tb) (hN:w.n=N) {i a b:Nat} (hi:i<N) (hp:0<Jh (Cb w.db i) a b):lc w.ls a b=some (Jh (Cb w.db i) a b):=by
  have hdb:=h.db
  unfold Jh at hp ⊢
  cases e:fd (Cb w.db i) a with
  |none=>rw [e] at hp;simp at hp
  |some l =>
   rw [e] at hp
   dsimp only at hp ⊢
   obtain ⟨h1,h2⟩:=(Ui (Lj.1 (h.ok i (by omega)).srt)).1 e
   have hP:=(h.poss l (.inl ⟨i,by omega,h1⟩)).2.2.2.1
   unfold ec at hp ⊢
   cases e2:l.e.find? (fun e=>decide (e.n=(b:Int))) with
   |none=>rw [e2] at hp;simp at hp
   |some en =>
    have hm:=List.mem_of_find?_eq_some e2
    have hb:en.n=b:=oT (List.find?_some (p:=fun e:En=>decide (e.n=(b:Int))) e2)
    have:=hP en hm
    rw [h2,hb] at this
    exact this
theorem cP (h:WV w Tb) (hN:w.n=N) {i a b:Nat} {c:Int} (hi:i<N) (e:Ld (Cb w.db i) a b=some c):lc w.ls a b=some c:=by
  unfold Ld at e
  split at e
  ·rename_i hp
   injection e with e
   have h1:=cO h hN hi hp.1
   have h2:=cO h hN hi hp.2
   rw [aK] at h2
   rw [h1] at h2
   injection h2 with h2
   rw [h1]
   congr 1
   omega
  ·cases e
theorem cQ (h:WV w Tb) (hN:w.n=N) {i:Nat} (hi:i<N):GV N (Cg (Ld (Cb w.db i)) N):=by
  have g:GV (N:Int) w.ls:=by have:=h.g;rwa [hN] at this
  refine rR (by have:=g.1;omega) (by have:=g.2.1;omega) (fun a b c _ _ e=>aL g (cP h hN hi e)) ?_
  have hle:=cI (N:=N) (f:=Ld (Cb w.db i)) (g:=fun a b=>lc w.ls a b) (k:=N) fun a b _ _ _ hs=>by
    obtain ⟨c,hc⟩:=Option.isSome_iff_exists.1 hs
    rw [cP h hN hi hc];rfl
  have e:(Cg (fun a b=>lc w.ls a b) N).length≤14:=by rw [g.grid];exact g.2.2.1
  exact Nat.le_trans hle e
end
end
section
open Go.RowKit
theorem Wd.same {a b:Wd} (h1:a.n=b.n) (h2:a.ls=b.ls) (h3:a.up=b.up) (h4:a.sq=b.sq) (h5:a.db=b.db) (h6:a.net=b.net):a=b:=by
  cases a;cases b;dsimp only at h1 h2 h3 h4 h5 h6;subst h1 h2 h3 h4 h5 h6;rfl
section
variable {w:Wd} {N:Nat}
end
end
section
open Go.RowKit
def QN (s:Ew):Option Y0:=(bif Ea s.2.2.2.2.2.2.1 (List.length s.2.1) then (bif Ea s.2.2.2.2.2.2.1 (List.length s.2.2.1) then (bif (!(Ba .bool s.2.2.1 (Int.toNat s.2.2.2.2.2.2.1))) then some (s.1,s.2.1,s.2.2.1,s.2.2.2.1,s.2.2.2.2.1,s.2.2.2.2.2.1,()) else (Lw (s.1,s.2.1,s.2.2.1,s.2.2.2.1,s.2.2.2.2.1,s.2.2.2.2.2.1,())).bind fun r0=>(bif Ea ((Ba .lk s.2.1 (Int.toNat s.2.2.2.2.2.2.1)).a) (List.length r0.2.2.2.2.1) then (bif Ea ((Ba .lk s.2.1 (Int.toNat s.2.2.2.2.2.2.1)).b) (List.length r0.2.2.2.2.1) then (IN (Ba .db r0.2.2.2.2.1 (Int.toNat ((Ba .lk s.2.1 (Int.toNat s.2.2.2.2.2.2.1)).a)),Ba .db r0.2.2.2.2.1 (Int.toNat ((Ba .lk s.2.1 (Int.toNat s.2.2.2.2.2.2.1)).b)),())).bind fun r1=>(bif Ea ((Ba .lk s.2.1 (Int.toNat s.2.2.2.2.2.2.1)).a) (List.length r0.2.2.2.2.1) then (Vm r1).bind fun r2=>(bif Ea ((Ba .lk s.2.1 (Int.toNat s.2.2.2.2.2.2.1)).b) (List.length (List.set r0.2.2.2.2.1 (Int.toNat ((Ba .lk s.2.1 (Int.toNat s.2.2.2.2.2.2.1)).a)) r1.1)) then some (r0.1,r0.2.1,r0.2.2.1,r0.2.2.2.1,List.set (List.set r0.2.2.2.2.1 (Int.toNat ((Ba .lk s.2.1 (Int.toNat s.2.2.2.2.2.2.1)).a)) r1.1) (Int.toNat ((Ba .lk s.2.1 (Int.toNat s.2.2.2.2.2.2.1)).b)) r2.1,r0.2.2.2.2.2) else none) else none) else none) else none)) else none) else none)
def RN (s:(Int×TJ)):Option (TJ⊕Unit):=(Kh (s.2.2.2.2.2.2.2.2.2.1,s.2.2.2.2.2.2.2.2.2.2.1,s.2.2.2.2.2.2.2.2.2.2.2.1,())).bind fun r0=>(bif decide ((List.length s.2.2.2.2.2.2.2.2.2.2.2.2.2.1+List.length [(Pk.mk s.2.1 (Ls.mk r0.1 r0.2.1 r0.2.2.1))])≤(33554432:Nat)) then some (Sum.inl (s.1,s.2.2.1,s.2.2.2.1,s.2.2.2.2.1,s.2.2.2.2.2.1,s.2.2.2.2.2.2.1,s.2.2.2.2.2.2.2.1,s.2.2.2.2.2.2.2.2.1,s.2.2.2.2.2.2.2.2.2.1,s.2.2.2.2.2.2.2.2.2.2.1,s.2.2.2.2.2.2.2.2.2.2.2.1,s.2.2.2.2.2.2.2.2.2.2.2.2.1,(s.2.2.2.2.2.2.2.2.2.2.2.2.2.1++[(Pk.mk s.2.1 (Ls.mk r0.1 r0.2.1 r0.2.2.1))]),())) else none)
def SN (s:TJ):Option (TJ⊕(Y0⊕Unit)):=(bif decide (s.2.2.1<s.2.1) then (bif Ea s.2.2.1 (List.length s.2.2.2.2.2.2.2.2.2.2.2.1) then (bif (!(decide (Ba .int s.2.2.2.2.2.2.2.2.2.2.2.1 (Int.toNat s.2.2.1)=s.1))) then (bif decide (nI (List.length s.2.2.2.2.2.2.2.2.2.2.2.2.1)<16) then (RN (s.1,Ba .int s.2.2.2.2.2.2.2.2.2.2.2.1 (Int.toNat s.2.2.1),s.2)).bind fun r0=>(match r0 with| .inl x1=>some (Sum.inl (x1.1,x1.2.1,wrap64 (x1.2.2.1+1),x1.2.2.2))| .inr _=>none) else some (Sum.inl (s.1,s.2.1,wrap64 (s.2.2.1+1),s.2.2.2))) else some (Sum.inl (s.1,s.2.1,wrap64 (s.2.2.1+1),s.2.2.2))) else none) else some (Sum.inr (Sum.inl (s.2.2.2.1,s.2.2.2.2.1,s.2.2.2.2.2.1,s.2.2.2.2.2.2.1,s.2.2.2.2.2.2.2.1,s.2.2.2.2.2.2.2.2.2.2.2.2))))
def Hq (s:(Int×Int×Int×List En×Int×Y0)):Option Y0:=(Dq s.2.2.2.2.2).bind fun r0=>(Fw (r0.1,r0.2.1,s.1,())).bind fun r1=>(lp SN Fa (s.2.2.2.2.1,nI (List.length r1.1),0,s.2.2.2.2.2.1,s.2.2.2.2.2.2.1,s.2.2.2.2.2.2.2.1,s.2.2.2.2.2.2.2.2.1,s.2.2.2.2.2.2.2.2.2.1,s.2.1,s.2.2.1,s.2.2.2.1,r1.1,s.2.2.2.2.2.2.2.2.2.2)).bind fun r2=>(match r2 with| .inl x3=>some x3| .inr _=>none)
def SC (s:(Int×Y0)):Option (NT⊕Unit):=(bif Ea s.1 (List.length s.2.2.2.2.1) then (Dq s.2).bind fun r0=>(Iw (r0.1,r0.2.1,s.1,Ba .int s.2.2.2.2.1 (Int.toNat s.1),())).bind fun r1=>some (Sum.inl (s.1,s.2.1,s.2.2.1,s.2.2.2.1,s.2.2.2.2.1,s.2.2.2.2.2.1,r1.1,r1.2.1,s.2.2.2.2.2.2.1,r1.2.2)) else none)
def TC (s:NT):Option (NT⊕Unit):=(bif Ea s.1 (List.length s.2.2.2.2.2.1) then (Io (Ba .db s.2.2.2.2.2.1 (Int.toNat s.1),s.2.2.2.2.2.2.1,s.2.2.2.2.2.2.2.1,s.2.2.2.2.2.2.2.2.2)).bind fun r0=>(bif Ea s.1 (List.length s.2.2.2.2.2.1) then some (Sum.inl (s.1,s.2.1,s.2.2.1,s.2.2.2.1,s.2.2.2.2.1,List.set s.2.2.2.2.2.1 (Int.toNat s.1) r0.2.1,s.2.2.2.2.2.2)) else none) else none)
def Ml (s:(Int×Y0)):Option Y0:=(bif Ea s.1 (List.length s.2.2.2.2.1) then (bif Ea s.1 (List.length s.2.2.2.2.1) then (SC (s.1,s.2.1,s.2.2.1,s.2.2.2.1,List.set s.2.2.2.2.1 (Int.toNat s.1) (wrap64 (Ba .int s.2.2.2.2.1 (Int.toNat s.1)+(1:Int))),s.2.2.2.2.2)).bind fun r0=>(match r0 with| .inl x1=>(TC x1).bind fun r2=>(match r2 with| .inl x3=>(Hq (x3.1,x3.2.2.2.2.2.2.1,x3.2.2.2.2.2.2.2.1,x3.2.2.2.2.2.2.2.2.2.1,(-(1)),x3.2.1,x3.2.2.1,x3.2.2.2.1,x3.2.2.2.2.1,x3.2.2.2.2.2.1,x3.2.2.2.2.2.2.2.2.1,())).bind fun r4=>some r4| .inr _=>none)| .inr _=>none) else none) else none)
def UC (s:(Int×Int×Y1)):Option ((Int×Int×Y1)⊕((Int×Y1)⊕Unit)):=(bif decide (s.2.1<nI (List.length s.2.2.2.2.2.2.2.2.2.2.1)) then (QN (s.2.2.2.2.2.2.2.2.1,s.2.2.2.2.2.2.2.2.2.1,s.2.2.2.2.2.2.2.2.2.2.1,s.2.2.2.2.2.2.2.2.2.2.2.1,s.2.2.2.2.2.2.2.2.2.2.2.2.1,s.2.2.2.2.2.2.2.2.2.2.2.2.2.1,s.2.1,())).bind fun r0=>some (Sum.inl (s.1,wrap64 (s.2.1+1),s.2.2.1,s.2.2.2.1,s.2.2.2.2.1,s.2.2.2.2.2.1,s.2.2.2.2.2.2.1,s.2.2.2.2.2.2.2.1,r0)) else some (Sum.inr (Sum.inl (s.1,s.2.2))))
def VC (s:(Int×Y1)):Option ((Int×Y1)⊕(Y1⊕Unit)):=(bif decide (s.1<s.2.2.2.2.2.2.2.1) then (lp UC Fa (s.1,0,s.2)).bind fun r0=>(match r0 with| .inl x1=>some (Sum.inl (wrap64 (x1.1+1),x1.2))| .inr _=>none) else some (Sum.inr (Sum.inl s.2)))
def HV (s:Y0):Option Y0:=(Mw s).bind fun r0=>(bif (!r0.1) then some (0,([]:List Lk),([]:List Bool),([]:List Int),([]:List (List Ls)),([]:List Pk),()) else (Lw s).bind fun r1=>(lp VC Fa (0,0,([]:List Lk),([]:List Bool),([]:List Int),([]:List (List Ls)),([]:List Pk),r1.1,r1.2.1,r1.2.2.1,r1.2.2.2.1,r1.2.2.2.2.1,([]:List Pk),())).bind fun r2=>(match r2 with| .inl x3=>(Lw x3.2.2.2.2.2.2).bind fun r4=>some r4| .inr _=>none))
def Iq (s:(Int×List Lk×List Bool×List Int×List (List Ls)×Int×Int×Int×Int×Int×List En×List Pk×Unit)):Option ((Int×List Lk×List Bool×List Int×List (List Ls)×Int×Int×Int×List En×List Pk×Unit)⊕Unit):=(Bz (s.2.2.2.2.2.2.1,wrap64 (s.2.2.2.2.2.2.1+1),s.2.2.2.2.2.2.2.2.2.2.2)).bind fun r0=>some (Sum.inl (s.1,s.2.1,s.2.2.1,s.2.2.2.1,s.2.2.2.2.1,s.2.2.2.2.2.2.2.1,s.2.2.2.2.2.2.2.2.1,s.2.2.2.2.2.2.2.2.2.1,s.2.2.2.2.2.2.2.2.2.2.1,r0.1,()))
def Nl (s:(Int×List Lk×List Bool×List Int×List (List Ls)×Int×Int×List Pk×Unit)):Option (Y0⊕Unit):=(Bz (s.2.2.2.2.2.2.1,wrap64 (s.2.2.2.2.2.2.1+1),s.2.2.2.2.2.2.2)).bind fun r0=>some (Sum.inl (s.1,s.2.1,s.2.2.1,s.2.2.2.1,s.2.2.2.2.1,r0.1,()))
def Yg (s:(Int×List Lk×List Bool×List Int×List (List Ls)×Int×Int×List Pk×Unit)):Option (Y0⊕Unit):=(bif Ea s.2.2.2.2.2.2.1 (List.length s.2.2.2.2.2.2.2.1) then (bif Ea s.2.2.2.2.2.2.1 (List.length s.2.2.2.2.2.2.2.1) then (Kh (((Ba .pk s.2.2.2.2.2.2.2.1 (Int.toNat s.2.2.2.2.2.2.1)).p).o,((Ba .pk s.2.2.2.2.2.2.2.1 (Int.toNat s.2.2.2.2.2.2.1)).p).s,((Ba .pk s.2.2.2.2.2.2.2.1 (Int.toNat s.2.2.2.2.2.2.1)).p).e,())).bind fun r0=>(bif decide ((List.length s.2.2.2.2.2.2.2.1+List.length [(Pk.mk ((Ba .pk s.2.2.2.2.2.2.2.1 (Int.toNat s.2.2.2.2.2.2.1)).t) (Ls.mk r0.1 r0.2.1 r0.2.2.1))])≤(33554432:Nat)) then some (Sum.inl (s.1,s.2.1,s.2.2.1,s.2.2.2.1,s.2.2.2.2.1,(s.2.2.2.2.2.2.2.1++[(Pk.mk ((Ba .pk s.2.2.2.2.2.2.2.1 (Int.toNat s.2.2.2.2.2.2.1)).t) (Ls.mk r0.1 r0.2.1 r0.2.2.1))]),())) else none) else none) else none)
def Yd (s:(Int×List Lk×List Bool×List Int×List (List Ls)×Int×Int×Int×List Ls×List Pk×Unit)):Option (Y0⊕Unit):=(Cq (s.2.2.2.2.2.2.2.2.1,())).bind fun r0=>(bif Ea s.2.2.2.2.2.1 (List.length s.2.2.2.2.1) then (bif Ea s.2.2.2.2.2.2.1 (List.length (List.set s.2.2.2.2.1 (Int.toNat s.2.2.2.2.2.1) s.2.2.2.2.2.2.2.2.1)) then some (Sum.inl (s.1,s.2.1,s.2.2.1,s.2.2.2.1,List.set (List.set s.2.2.2.2.1 (Int.toNat s.2.2.2.2.2.1) s.2.2.2.2.2.2.2.2.1) (Int.toNat s.2.2.2.2.2.2.1) r0.1,s.2.2.2.2.2.2.2.2.2)) else none) else none)
def TN (s:(Int×Int×Y0)):Option Y0:=(Ih (s.2.1,0,wrap64 (nI (List.length s.2.2.2.2.1)-1),())).bind fun r0=>(Ih (s.2.1,0,wrap64 (nI (List.length s.2.2.2.2.2.2.2.1)-1),())).bind fun r1=>(bif decide (s.1=1) then (bif r0.1 then (bif Ea s.2.1 (List.length s.2.2.2.1) then (bif Ea s.2.1 (List.length s.2.2.2.2.1) then (bif (!(Ba .bool s.2.2.2.2.1 (Int.toNat s.2.1)==decide (s.1=2))) then (bif Ea ((Ba .lk s.2.2.2.1 (Int.toNat s.2.1)).a) (List.length s.2.2.2.2.2.1) then (bif decide (Ba .int s.2.2.2.2.2.1 (Int.toNat ((Ba .lk s.2.2.2.1 (Int.toNat s.2.1)).a))<(99:Int)) then (bif Ea ((Ba .lk s.2.2.2.1 (Int.toNat s.2.1)).b) (List.length s.2.2.2.2.2.1) then (bif decide (Ba .int s.2.2.2.2.2.1 (Int.toNat ((Ba .lk s.2.2.2.1 (Int.toNat s.2.1)).b))<(99:Int)) then (bif Ea s.2.1 (List.length s.2.2.2.2.1) then (Ml ((Ba .lk s.2.2.2.1 (Int.toNat s.2.1)).a,s.2.2.1,s.2.2.2.1,List.set s.2.2.2.2.1 (Int.toNat s.2.1) (decide (s.1=2)),s.2.2.2.2.2)).bind fun r2=>(Ml ((Ba .lk s.2.2.2.1 (Int.toNat s.2.1)).b,r2)).bind fun r3=>some r3 else none) else some s.2.2) else none) else some s.2.2) else none) else some s.2.2) else none) else none) else (bif decide (s.1=3) then (bif r1.1 then (bif Ea s.2.1 (List.length s.2.2.2.2.2.2.2.1) then (Iq (s.2.2.1,s.2.2.2.1,s.2.2.2.2.1,s.2.2.2.2.2.1,s.2.2.2.2.2.2.1,s.1,s.2.1,(Ba .pk s.2.2.2.2.2.2.2.1 (Int.toNat s.2.1)).t,((Ba .pk s.2.2.2.2.2.2.2.1 (Int.toNat s.2.1)).p).o,((Ba .pk s.2.2.2.2.2.2.2.1 (Int.toNat s.2.1)).p).s,((Ba .pk s.2.2.2.2.2.2.2.1 (Int.toNat s.2.1)).p).e,s.2.2.2.2.2.2.2)).bind fun r4=>(match r4 with| .inl x5=>(bif Ea x5.2.2.2.2.2.1 (List.length x5.2.2.2.2.1) then (Io (Ba .db x5.2.2.2.2.1 (Int.toNat x5.2.2.2.2.2.1),x5.2.2.2.2.2.2.1,x5.2.2.2.2.2.2.2.1,x5.2.2.2.2.2.2.2.2.1,())).bind fun r6=>(bif Ea x5.2.2.2.2.2.1 (List.length x5.2.2.2.2.1) then (bif decide (r6.1=0) then (Hq (x5.2.2.2.2.2.1,x5.2.2.2.2.2.2.1,x5.2.2.2.2.2.2.2.1,x5.2.2.2.2.2.2.2.2.1,x5.2.2.2.2.2.2.1,x5.1,x5.2.1,x5.2.2.1,x5.2.2.2.1,List.set x5.2.2.2.2.1 (Int.toNat x5.2.2.2.2.2.1) r6.2.1,x5.2.2.2.2.2.2.2.2.2)).bind fun r7=>some r7 else some (x5.1,x5.2.1,x5.2.2.1,x5.2.2.2.1,List.set x5.2.2.2.2.1 (Int.toNat x5.2.2.2.2.2.1) r6.2.1,x5.2.2.2.2.2.2.2.2.2)) else none) else none)| .inr _=>none) else none) else (bif decide (s.1=4) then (bif r1.1 then (Nl (s.2.2.1,s.2.2.2.1,s.2.2.2.2.1,s.2.2.2.2.2.1,s.2.2.2.2.2.2.1,s.1,s.2.1,s.2.2.2.2.2.2.2)).bind fun r8=>(match r8 with| .inl x9=>some x9| .inr _=>none) else (bif decide (s.1=5) then (bif r1.1 then (bif decide (nI (List.length s.2.2.2.2.2.2.2.1)<16) then (Yg (s.2.2.1,s.2.2.2.1,s.2.2.2.2.1,s.2.2.2.2.2.1,s.2.2.2.2.2.2.1,s.1,s.2.1,s.2.2.2.2.2.2.2)).bind fun r10=>(match r10 with| .inl x11=>some x11| .inr _=>none) else some s.2.2) else (bif decide (s.1=6) then (bif r0.1 then (bif Ea s.2.1 (List.length s.2.2.2.1) then (bif Ea s.2.1 (List.length s.2.2.2.2.1) then (bif Ba .bool s.2.2.2.2.1 (Int.toNat s.2.1) then (bif Ea ((Ba .lk s.2.2.2.1 (Int.toNat s.2.1)).a) (List.length s.2.2.2.2.2.2.1) then (bif Ea ((Ba .lk s.2.2.2.1 (Int.toNat s.2.1)).b) (List.length s.2.2.2.2.2.2.1) then (Ce (Ba .db s.2.2.2.2.2.2.1 (Int.toNat ((Ba .lk s.2.2.2.1 (Int.toNat s.2.1)).a)),Ba .db s.2.2.2.2.2.2.1 (Int.toNat ((Ba .lk s.2.2.2.1 (Int.toNat s.2.1)).b)),())).bind fun r12=>(Yd (s.2.2.1,s.2.2.2.1,s.2.2.2.2.1,s.2.2.2.2.2.1,s.2.2.2.2.2.2.1,(Ba .lk s.2.2.2.1 (Int.toNat s.2.1)).a,(Ba .lk s.2.2.2.1 (Int.toNat s.2.1)).b,(Ba .lk s.2.2.2.1 (Int.toNat s.2.1)).c,r12.1,s.2.2.2.2.2.2.2)).bind fun r13=>(match r13 with| .inl x14=>some x14| .inr _=>none) else none) else none) else some s.2.2) else none) else none) else some s.2.2) else some s.2.2)) else (bif decide (s.1=6) then (bif r0.1 then (bif Ea s.2.1 (List.length s.2.2.2.1) then (bif Ea s.2.1 (List.length s.2.2.2.2.1) then (bif Ba .bool s.2.2.2.2.1 (Int.toNat s.2.1) then (bif Ea ((Ba .lk s.2.2.2.1 (Int.toNat s.2.1)).a) (List.length s.2.2.2.2.2.2.1) then (bif Ea ((Ba .lk s.2.2.2.1 (Int.toNat s.2.1)).b) (List.length s.2.2.2.2.2.2.1) then (Ce (Ba .db s.2.2.2.2.2.2.1 (Int.toNat ((Ba .lk s.2.2.2.1 (Int.toNat s.2.1)).a)),Ba .db s.2.2.2.2.2.2.1 (Int.toNat ((Ba .lk s.2.2.2.1 (Int.toNat s.2.1)).b)),())).bind fun r15=>(Yd (s.2.2.1,s.2.2.2.1,s.2.2.2.2.1,s.2.2.2.2.2.1,s.2.2.2.2.2.2.1,(Ba .lk s.2.2.2.1 (Int.toNat s.2.1)).a,(Ba .lk s.2.2.2.1 (Int.toNat s.2.1)).b,(Ba .lk s.2.2.2.1 (Int.toNat s.2.1)).c,r15.1,s.2.2.2.2.2.2.2)).bind fun r16=>(match r16 with| .inl x17=>some x17| .inr _=>none) else none) else none) else some s.2.2) else none) else none) else some s.2.2) else some s.2.2))) else (bif decide (s.1=5) then (bif r1.1 then (bif decide (nI (List.length s.2.2.2.2.2.2.2.1)<16) then (Yg (s.2.2.1,s.2.2.2.1,s.2.2.2.2.1,s.2.2.2.2.2.1,s.2.2.2.2.2.2.1,s.1,s.2.1,s.2.2.2.2.2.2.2)).bind fun r18=>(match r18 with| .inl x19=>some x19| .inr _=>none) else some s.2.2) else (bif decide (s.1=6) then (bif r0.1 then (bif Ea s.2.1 (List.length s.2.2.2.1) then (bif Ea s.2.1 (List.length s.2.2.2.2.1) then (bif Ba .bool s.2.2.2.2.1 (Int.toNat s.2.1) then (bif Ea ((Ba .lk s.2.2.2.1 (Int.toNat s.2.1)).a) (List.length s.2.2.2.2.2.2.1) then (bif Ea ((Ba .lk s.2.2.2.1 (Int.toNat s.2.1)).b) (List.length s.2.2.2.2.2.2.1) then (Ce (Ba .db s.2.2.2.2.2.2.1 (Int.toNat ((Ba .lk s.2.2.2.1 (Int.toNat s.2.1)).a)),Ba .db s.2.2.2.2.2.2.1 (Int.toNat ((Ba .lk s.2.2.2.1 (Int.toNat s.2.1)).b)),())).bind fun r20=>(Yd (s.2.2.1,s.2.2.2.1,s.2.2.2.2.1,s.2.2.2.2.2.1,s.2.2.2.2.2.2.1,(Ba .lk s.2.2.2.1 (Int.toNat s.2.1)).a,(Ba .lk s.2.2.2.1 (Int.toNat s.2.1)).b,(Ba .lk s.2.2.2.1 (Int.toNat s.2.1)).c,r20.1,s.2.2.2.2.2.2.2)).bind fun r21=>(match r21 with| .inl x22=>some x22| .inr _=>none) else none) else none) else some s.2.2) else none) else none) else some s.2.2) else some s.2.2)) else (bif decide (s.1=6) then (bif r0.1 then (bif Ea s.2.1 (List.length s.2.2.2.1) then (bif Ea s.2.1 (List.length s.2.2.2.2.1) then (bif Ba .bool s.2.2.2.2.1 (Int.toNat s.2.1) then (bif Ea ((Ba .lk s.2.2.2.1 (Int.toNat s.2.1)).a) (List.length s.2.2.2.2.2.2.1) then (bif Ea ((Ba .lk s.2.2.2.1 (Int.toNat s.2.1)).b) (List.length s.2.2.2.2.2.2.1) then (Ce (Ba .db s.2.2.2.2.2.2.1 (Int.toNat ((Ba .lk s.2.2.2.1 (Int.toNat s.2.1)).a)),Ba .db s.2.2.2.2.2.2.1 (Int.toNat ((Ba .lk s.2.2.2.1 (Int.toNat s.2.1)).b)),())).bind fun r23=>(Yd (s.2.2.1,s.2.2.2.1,s.2.2.2.2.1,s.2.2.2.2.2.1,s.2.2.2.2.2.2.1,(Ba .lk s.2.2.2.1 (Int.toNat s.2.1)).a,(Ba .lk s.2.2.2.1 (Int.toNat s.2.1)).b,(Ba .lk s.2.2.2.1 (Int.toNat s.2.1)).c,r23.1,s.2.2.2.2.2.2.2)).bind fun r24=>(match r24 with| .inl x25=>some x25| .inr _=>none) else none) else none) else some s.2.2) else none) else none) else some s.2.2) else some s.2.2)))) else (bif decide (s.1=4) then (bif r1.1 then (Nl (s.2.2.1,s.2.2.2.1,s.2.2.2.2.1,s.2.2.2.2.2.1,s.2.2.2.2.2.2.1,s.1,s.2.1,s.2.2.2.2.2.2.2)).bind fun r26=>(match r26 with| .inl x27=>some x27| .inr _=>none) else (bif decide (s.1=5) then (bif r1.1 then (bif decide (nI (List.length s.2.2.2.2.2.2.2.1)<16) then (Yg (s.2.2.1,s.2.2.2.1,s.2.2.2.2.1,s.2.2.2.2.2.1,s.2.2.2.2.2.2.1,s.1,s.2.1,s.2.2.2.2.2.2.2)).bind fun r28=>(match r28 with| .inl x29=>some x29| .inr _=>none) else some s.2.2) else (bif decide (s.1=6) then (bif r0.1 then (bif Ea s.2.1 (List.length s.2.2.2.1) then (bif Ea s.2.1 (List.length s.2.2.2.2.1) then (bif Ba .bool s.2.2.2.2.1 (Int.toNat s.2.1) then (bif Ea ((Ba .lk s.2.2.2.1 (Int.toNat s.2.1)).a) (List.length s.2.2.2.2.2.2.1) then (bif Ea ((Ba .lk s.2.2.2.1 (Int.toNat s.2.1)).b) (List.length s.2.2.2.2.2.2.1) then (Ce (Ba .db s.2.2.2.2.2.2.1 (Int.toNat ((Ba .lk s.2.2.2.1 (Int.toNat s.2.1)).a)),Ba .db s.2.2.2.2.2.2.1 (Int.toNat ((Ba .lk s.2.2.2.1 (Int.toNat s.2.1)).b)),())).bind fun r30=>(Yd (s.2.2.1,s.2.2.2.1,s.2.2.2.2.1,s.2.2.2.2.2.1,s.2.2.2.2.2.2.1,(Ba .lk s.2.2.2.1 (Int.toNat s.2.1)).a,(Ba .lk s.2.2.2.1 (Int.toNat s.2.1)).b,(Ba .lk s.2.2.2.1 (Int.toNat s.2.1)).c,r30.1,s.2.2.2.2.2.2.2)).bind fun r31=>(match r31 with| .inl x32=>some x32| .inr _=>none) else none) else none) else some s.2.2) else none) else none) else some s.2.2) else some s.2.2)) else (bif decide (s.1=6) then (bif r0.1 then (bif Ea s.2.1 (List.length s.2.2.2.1) then (bif Ea s.2.1 (List.length s.2.2.2.2.1) then (bif Ba .bool s.2.2.2.2.1 (Int.toNat s.2.1) then (bif Ea ((Ba .lk s.2.2.2.1 (Int.toNat s.2.1)).a) (List.length s.2.2.2.2.2.2.1) then (bif Ea ((Ba .lk s.2.2.2.1 (Int.toNat s.2.1)).b) (List.length s.2.2.2.2.2.2.1) then (Ce (Ba .db s.2.2.2.2.2.2.1 (Int.toNat ((Ba .lk s.2.2.2.1 (Int.toNat s.2.1)).a)),Ba .db s.2.2.2.2.2.2.1 (Int.toNat ((Ba .lk s.2.2.2.1 (Int.toNat s.2.1)).b)),())).bind fun r33=>(Yd (s.2.2.1,s.2.2.2.1,s.2.2.2.2.1,s.2.2.2.2.2.1,s.2.2.2.2.2.2.1,(Ba .lk s.2.2.2.1 (Int.toNat s.2.1)).a,(Ba .lk s.2.2.2.1 (Int.toNat s.2.1)).b,(Ba .lk s.2.2.2.1 (Int.toNat s.2.1)).c,r33.1,s.2.2.2.2.2.2.2)).bind fun r34=>(match r34 with| .inl x35=>some x35| .inr _=>none) else none) else none) else some s.2.2) else none) else none) else some s.2.2) else some s.2.2))) else (bif decide (s.1=5) then (bif r1.1 then (bif decide (nI (List.length s.2.2.2.2.2.2.2.1)<16) then (Yg (s.2.2.1,s.2.2.2.1,s.2.2.2.2.1,s.2.2.2.2.2.1,s.2.2.2.2.2.2.1,s.1,s.2.1,s.2.2.2.2.2.2.2)).bind fun r36=>(match r36 with| .inl x37=>some x37| .inr _=>none) else some s.2.2) else (bif decide (s.1=6) then (bif r0.1 then (bif Ea s.2.1 (List.length s.2.2.2.1) then (bif Ea s.2.1 (List.length s.2.2.2.2.1) then (bif Ba .bool s.2.2.2.2.1 (Int.toNat s.2.1) then (bif Ea ((Ba .lk s.2.2.2.1 (Int.toNat s.2.1)).a) (List.length s.2.2.2.2.2.2.1) then (bif Ea ((Ba .lk s.2.2.2.1 (Int.toNat s.2.1)).b) (List.length s.2.2.2.2.2.2.1) then (Ce (Ba .db s.2.2.2.2.2.2.1 (Int.toNat ((Ba .lk s.2.2.2.1 (Int.toNat s.2.1)).a)),Ba .db s.2.2.2.2.2.2.1 (Int.toNat ((Ba .lk s.2.2.2.1 (Int.toNat s.2.1)).b)),())).bind fun r38=>(Yd (s.2.2.1,s.2.2.2.1,s.2.2.2.2.1,s.2.2.2.2.2.1,s.2.2.2.2.2.2.1,(Ba .lk s.2.2.2.1 (Int.toNat s.2.1)).a,(Ba .lk s.2.2.2.1 (Int.toNat s.2.1)).b,(Ba .lk s.2.2.2.1 (Int.toNat s.2.1)).c,r38.1,s.2.2.2.2.2.2.2)).bind fun r39=>(match r39 with| .inl x40=>some x40| .inr _=>none) else none) else none) else some s.2.2) else none) else none) else some s.2.2) else some s.2.2)) else (bif decide (s.1=6) then (bif r0.1 then (bif Ea s.2.1 (List.length s.2.2.2.1) then (bif Ea s.2.1 (List.length s.2.2.2.2.1) then (bif Ba .bool s.2.2.2.2.1 (Int.toNat s.2.1) then (bif Ea ((Ba .lk s.2.2.2.1 (Int.toNat s.2.1)).a) (List.length s.2.2.2.2.2.2.1) then (bif Ea ((Ba .lk s.2.2.2.1 (Int.toNat s.2.1)).b) (List.length s.2.2.2.2.2.2.1) then (Ce (Ba .db s.2.2.2.2.2.2.1 (Int.toNat ((Ba .lk s.2.2.2.1 (Int.toNat s.2.1)).a)),Ba .db s.2.2.2.2.2.2.1 (Int.toNat ((Ba .lk s.2.2.2.1 (Int.toNat s.2.1)).b)),())).bind fun r41=>(Yd (s.2.2.1,s.2.2.2.1,s.2.2.2.2.1,s.2.2.2.2.2.1,s.2.2.2.2.2.2.1,(Ba .lk s.2.2.2.1 (Int.toNat s.2.1)).a,(Ba .lk s.2.2.2.1 (Int.toNat s.2.1)).b,(Ba .lk s.2.2.2.1 (Int.toNat s.2.1)).c,r41.1,s.2.2.2.2.2.2.2)).bind fun r42=>(match r42 with| .inl x43=>some x43| .inr _=>none) else none) else none) else some s.2.2) else none) else none) else some s.2.2) else some s.2.2))))) else (bif decide (s.1=2) then (bif r0.1 then (bif Ea s.2.1 (List.length s.2.2.2.1) then (bif Ea s.2.1 (List.length s.2.2.2.2.1) then (bif (!(Ba .bool s.2.2.2.2.1 (Int.toNat s.2.1)==decide (s.1=2))) then (bif Ea ((Ba .lk s.2.2.2.1 (Int.toNat s.2.1)).a) (List.length s.2.2.2.2.2.1) then (bif decide (Ba .int s.2.2.2.2.2.1 (Int.toNat ((Ba .lk s.2.2.2.1 (Int.toNat s.2.1)).a))<(99:Int)) then (bif Ea ((Ba .lk s.2.2.2.1 (Int.toNat s.2.1)).b) (List.length s.2.2.2.2.2.1) then (bif decide (Ba .int s.2.2.2.2.2.1 (Int.toNat ((Ba .lk s.2.2.2.1 (Int.toNat s.2.1)).b))<(99:Int)) then (bif Ea s.2.1 (List.length s.2.2.2.2.1) then (Ml ((Ba .lk s.2.2.2.1 (Int.toNat s.2.1)).a,s.2.2.1,s.2.2.2.1,List.set s.2.2.2.2.1 (Int.toNat s.2.1) (decide (s.1=2)),s.2.2.2.2.2)).bind fun r44=>(Ml ((Ba .lk s.2.2.2.1 (Int.toNat s.2.1)).b,r44)).bind fun r45=>some r45 else none) else some s.2.2) else none) else some s.2.2) else none) else some s.2.2) else none) else none) else (bif decide (s.1=3) then (bif r1.1 then (bif Ea s.2.1 (List.length s.2.2.2.2.2.2.2.1) then (Iq (s.2.2.1,s.2.2.2.1,s.2.2.2.2.1,s.2.2.2.2.2.1,s.2.2.2.2.2.2.1,s.1,s.2.1,(Ba .pk s.2.2.2.2.2.2.2.1 (Int.toNat s.2.1)).t,((Ba .pk s.2.2.2.2.2.2.2.1 (Int.toNat s.2.1)).p).o,((Ba .pk s.2.2.2.2.2.2.2.1 (Int.toNat s.2.1)).p).s,((Ba .pk s.2.2.2.2.2.2.2.1 (Int.toNat s.2.1)).p).e,s.2.2.2.2.2.2.2)).bind fun r46=>(match r46 with| .inl x47=>(bif Ea x47.2.2.2.2.2.1 (List.length x47.2.2.2.2.1) then (Io (Ba .db x47.2.2.2.2.1 (Int.toNat x47.2.2.2.2.2.1),x47.2.2.2.2.2.2.1,x47.2.2.2.2.2.2.2.1,x47.2.2.2.2.2.2.2.2.1,())).bind fun r48=>(bif Ea x47.2.2.2.2.2.1 (List.length x47.2.2.2.2.1) then (bif decide (r48.1=0) then (Hq (x47.2.2.2.2.2.1,x47.2.2.2.2.2.2.1,x47.2.2.2.2.2.2.2.1,x47.2.2.2.2.2.2.2.2.1,x47.2.2.2.2.2.2.1,x47.1,x47.2.1,x47.2.2.1,x47.2.2.2.1,List.set x47.2.2.2.2.1 (Int.toNat x47.2.2.2.2.2.1) r48.2.1,x47.2.2.2.2.2.2.2.2.2)).bind fun r49=>some r49 else some (x47.1,x47.2.1,x47.2.2.1,x47.2.2.2.1,List.set x47.2.2.2.2.1 (Int.toNat x47.2.2.2.2.2.1) r48.2.1,x47.2.2.2.2.2.2.2.2.2)) else none) else none)| .inr _=>none) else none) else (bif decide (s.1=4) then (bif r1.1 then (Nl (s.2.2.1,s.2.2.2.1,s.2.2.2.2.1,s.2.2.2.2.2.1,s.2.2.2.2.2.2.1,s.1,s.2.1,s.2.2.2.2.2.2.2)).bind fun r50=>(match r50 with| .inl x51=>some x51| .inr _=>none) else (bif decide (s.1=5) then (bif r1.1 then (bif decide (nI (List.length s.2.2.2.2.2.2.2.1)<16) then (Yg (s.2.2.1,s.2.2.2.1,s.2.2.2.2.1,s.2.2.2.2.2.1,s.2.2.2.2.2.2.1,s.1,s.2.1,s.2.2.2.2.2.2.2)).bind fun r52=>(match r52 with| .inl x53=>some x53| .inr _=>none) else some s.2.2) else (bif decide (s.1=6) then (bif r0.1 then (bif Ea s.2.1 (List.length s.2.2.2.1) then (bif Ea s.2.1 (List.length s.2.2.2.2.1) then (bif Ba .bool s.2.2.2.2.1 (Int.toNat s.2.1) then (bif Ea ((Ba .lk s.2.2.2.1 (Int.toNat s.2.1)).a) (List.length s.2.2.2.2.2.2.1) then (bif Ea ((Ba .lk s.2.2.2.1 (Int.toNat s.2.1)).b) (List.length s.2.2.2.2.2.2.1) then (Ce (Ba .db s.2.2.2.2.2.2.1 (Int.toNat ((Ba .lk s.2.2.2.1 (Int.toNat s.2.1)).a)),Ba .db s.2.2.2.2.2.2.1 (Int.toNat ((Ba .lk s.2.2.2.1 (Int.toNat s.2.1)).b)),())).bind fun r54=>(Yd (s.2.2.1,s.2.2.2.1,s.2.2.2.2.1,s.2.2.2.2.2.1,s.2.2.2.2.2.2.1,(Ba .lk s.2.2.2.1 (Int.toNat s.2.1)).a,(Ba .lk s.2.2.2.1 (Int.toNat s.2.1)).b,(Ba .lk s.2.2.2.1 (Int.toNat s.2.1)).c,r54.1,s.2.2.2.2.2.2.2)).bind fun r55=>(match r55 with| .inl x56=>some x56| .inr _=>none) else none) else none) else some s.2.2) else none) else none) else some s.2.2) else some s.2.2)) else (bif decide (s.1=6) then (bif r0.1 then (bif Ea s.2.1 (List.length s.2.2.2.1) then (bif Ea s.2.1 (List.length s.2.2.2.2.1) then (bif Ba .bool s.2.2.2.2.1 (Int.toNat s.2.1) then (bif Ea ((Ba .lk s.2.2.2.1 (Int.toNat s.2.1)).a) (List.length s.2.2.2.2.2.2.1) then (bif Ea ((Ba .lk s.2.2.2.1 (Int.toNat s.2.1)).b) (List.length s.2.2.2.2.2.2.1) then (Ce (Ba .db s.2.2.2.2.2.2.1 (Int.toNat ((Ba .lk s.2.2.2.1 (Int.toNat s.2.1)).a)),Ba .db s.2.2.2.2.2.2.1 (Int.toNat ((Ba .lk s.2.2.2.1 (Int.toNat s.2.1)).b)),())).bind fun r57=>(Yd (s.2.2.1,s.2.2.2.1,s.2.2.2.2.1,s.2.2.2.2.2.1,s.2.2.2.2.2.2.1,(Ba .lk s.2.2.2.1 (Int.toNat s.2.1)).a,(Ba .lk s.2.2.2.1 (Int.toNat s.2.1)).b,(Ba .lk s.2.2.2.1 (Int.toNat s.2.1)).c,r57.1,s.2.2.2.2.2.2.2)).bind fun r58=>(match r58 with| .inl x59=>some x59| .inr _=>none) else none) else none) else some s.2.2) else none) else none) else some s.2.2) else some s.2.2))) else (bif decide (s.1=5) then (bif r1.1 then (bif decide (nI (List.length s.2.2.2.2.2.2.2.1)<16) then (Yg (s.2.2.1,s.2.2.2.1,s.2.2.2.2.1,s.2.2.2.2.2.1,s.2.2.2.2.2.2.1,s.1,s.2.1,s.2.2.2.2.2.2.2)).bind fun r60=>(match r60 with| .inl x61=>some x61| .inr _=>none) else some s.2.2) else (bif decide (s.1=6) then (bif r0.1 then (bif Ea s.2.1 (List.length s.2.2.2.1) then (bif Ea s.2.1 (List.length s.2.2.2.2.1) then (bif Ba .bool s.2.2.2.2.1 (Int.toNat s.2.1) then (bif Ea ((Ba .lk s.2.2.2.1 (Int.toNat s.2.1)).a) (List.length s.2.2.2.2.2.2.1) then (bif Ea ((Ba .lk s.2.2.2.1 (Int.toNat s.2.1)).b) (List.length s.2.2.2.2.2.2.1) then (Ce (Ba .db s.2.2.2.2.2.2.1 (Int.toNat ((Ba .lk s.2.2.2.1 (Int.toNat s.2.1)).a)),Ba .db s.2.2.2.2.2.2.1 (Int.toNat ((Ba .lk s.2.2.2.1 (Int.toNat s.2.1)).b)),())).bind fun r62=>(Yd (s.2.2.1,s.2.2.2.1,s.2.2.2.2.1,s.2.2.2.2.2.1,s.2.2.2.2.2.2.1,(Ba .lk s.2.2.2.1 (Int.toNat s.2.1)).a,(Ba .lk s.2.2.2.1 (Int.toNat s.2.1)).b,(Ba .lk s.2.2.2.1 (Int.toNat s.2.1)).c,r62.1,s.2.2.2.2.2.2.2)).bind fun r63=>(match r63 with| .inl x64=>some x64| .inr _=>none) else none) else none) else some s.2.2) else none) else none) else some s.2.2) else some s.2.2)) else (bif decide (s.1=6) then (bif r0.1 then (bif Ea s.2.1 (List.length s.2.2.2.1) then (bif Ea s.2.1 (List.length s.2.2.2.2.1) then (bif Ba .bool s.2.2.2.2.1 (Int.toNat s.2.1) then (bif Ea ((Ba .lk s.2.2.2.1 (Int.toNat s.2.1)).a) (List.length s.2.2.2.2.2.2.1) then (bif Ea ((Ba .lk s.2.2.2.1 (Int.toNat s.2.1)).b) (List.length s.2.2.2.2.2.2.1) then (Ce (Ba .db s.2.2.2.2.2.2.1 (Int.toNat ((Ba .lk s.2.2.2.1 (Int.toNat s.2.1)).a)),Ba .db s.2.2.2.2.2.2.1 (Int.toNat ((Ba .lk s.2.2.2.1 (Int.toNat s.2.1)).b)),())).bind fun r65=>(Yd (s.2.2.1,s.2.2.2.1,s.2.2.2.2.1,s.2.2.2.2.2.1,s.2.2.2.2.2.2.1,(Ba .lk s.2.2.2.1 (Int.toNat s.2.1)).a,(Ba .lk s.2.2.2.1 (Int.toNat s.2.1)).b,(Ba .lk s.2.2.2.1 (Int.toNat s.2.1)).c,r65.1,s.2.2.2.2.2.2.2)).bind fun r66=>(match r66 with| .inl x67=>some x67| .inr _=>none) else none) else none) else some s.2.2) else none) else none) else some s.2.2) else some s.2.2)))) else (bif decide (s.1=4) then (bif r1.1 then (Nl (s.2.2.1,s.2.2.2.1,s.2.2.2.2.1,s.2.2.2.2.2.1,s.2.2.2.2.2.2.1,s.1,s.2.1,s.2.2.2.2.2.2.2)).bind fun r68=>(match r68 with| .inl x69=>some x69| .inr _=>none) else (bif decide (s.1=5) then (bif r1.1 then (bif decide (nI (List.length s.2.2.2.2.2.2.2.1)<16) then (Yg (s.2.2.1,s.2.2.2.1,s.2.2.2.2.1,s.2.2.2.2.2.1,s.2.2.2.2.2.2.1,s.1,s.2.1,s.2.2.2.2.2.2.2)).bind fun r70=>(match r70 with| .inl x71=>some x71| .inr _=>none) else some s.2.2) else (bif decide (s.1=6) then (bif r0.1 then (bif Ea s.2.1 (List.length s.2.2.2.1) then (bif Ea s.2.1 (List.length s.2.2.2.2.1) then (bif Ba .bool s.2.2.2.2.1 (Int.toNat s.2.1) then (bif Ea ((Ba .lk s.2.2.2.1 (Int.toNat s.2.1)).a) (List.length s.2.2.2.2.2.2.1) then (bif Ea ((Ba .lk s.2.2.2.1 (Int.toNat s.2.1)).b) (List.length s.2.2.2.2.2.2.1) then (Ce (Ba .db s.2.2.2.2.2.2.1 (Int.toNat ((Ba .lk s.2.2.2.1 (Int.toNat s.2.1)).a)),Ba .db s.2.2.2.2.2.2.1 (Int.toNat ((Ba .lk s.2.2.2.1 (Int.toNat s.2.1)).b)),())).bind fun r72=>(Yd (s.2.2.1,s.2.2.2.1,s.2.2.2.2.1,s.2.2.2.2.2.1,s.2.2.2.2.2.2.1,(Ba .lk s.2.2.2.1 (Int.toNat s.2.1)).a,(Ba .lk s.2.2.2.1 (Int.toNat s.2.1)).b,(Ba .lk s.2.2.2.1 (Int.toNat s.2.1)).c,r72.1,s.2.2.2.2.2.2.2)).bind fun r73=>(match r73 with| .inl x74=>some x74| .inr _=>none) else none) else none) else some s.2.2) else none) else none) else some s.2.2) else some s.2.2)) else (bif decide (s.1=6) then (bif r0.1 then (bif Ea s.2.1 (List.length s.2.2.2.1) then (bif Ea s.2.1 (List.length s.2.2.2.2.1) then (bif Ba .bool s.2.2.2.2.1 (Int.toNat s.2.1) then (bif Ea ((Ba .lk s.2.2.2.1 (Int.toNat s.2.1)).a) (List.length s.2.2.2.2.2.2.1) then (bif Ea ((Ba .lk s.2.2.2.1 (Int.toNat s.2.1)).b) (List.length s.2.2.2.2.2.2.1) then (Ce (Ba .db s.2.2.2.2.2.2.1 (Int.toNat ((Ba .lk s.2.2.2.1 (Int.toNat s.2.1)).a)),Ba .db s.2.2.2.2.2.2.1 (Int.toNat ((Ba .lk s.2.2.2.1 (Int.toNat s.2.1)).b)),())).bind fun r75=>(Yd (s.2.2.1,s.2.2.2.1,s.2.2.2.2.1,s.2.2.2.2.2.1,s.2.2.2.2.2.2.1,(Ba .lk s.2.2.2.1 (Int.toNat s.2.1)).a,(Ba .lk s.2.2.2.1 (Int.toNat s.2.1)).b,(Ba .lk s.2.2.2.1 (Int.toNat s.2.1)).c,r75.1,s.2.2.2.2.2.2.2)).bind fun r76=>(match r76 with| .inl x77=>some x77| .inr _=>none) else none) else none) else some s.2.2) else none) else none) else some s.2.2) else some s.2.2))) else (bif decide (s.1=5) then (bif r1.1 then (bif decide (nI (List.length s.2.2.2.2.2.2.2.1)<16) then (Yg (s.2.2.1,s.2.2.2.1,s.2.2.2.2.1,s.2.2.2.2.2.1,s.2.2.2.2.2.2.1,s.1,s.2.1,s.2.2.2.2.2.2.2)).bind fun r78=>(match r78 with| .inl x79=>some x79| .inr _=>none) else some s.2.2) else (bif decide (s.1=6) then (bif r0.1 then (bif Ea s.2.1 (List.length s.2.2.2.1) then (bif Ea s.2.1 (List.length s.2.2.2.2.1) then (bif Ba .bool s.2.2.2.2.1 (Int.toNat s.2.1) then (bif Ea ((Ba .lk s.2.2.2.1 (Int.toNat s.2.1)).a) (List.length s.2.2.2.2.2.2.1) then (bif Ea ((Ba .lk s.2.2.2.1 (Int.toNat s.2.1)).b) (List.length s.2.2.2.2.2.2.1) then (Ce (Ba .db s.2.2.2.2.2.2.1 (Int.toNat ((Ba .lk s.2.2.2.1 (Int.toNat s.2.1)).a)),Ba .db s.2.2.2.2.2.2.1 (Int.toNat ((Ba .lk s.2.2.2.1 (Int.toNat s.2.1)).b)),())).bind fun r80=>(Yd (s.2.2.1,s.2.2.2.1,s.2.2.2.2.1,s.2.2.2.2.2.1,s.2.2.2.2.2.2.1,(Ba .lk s.2.2.2.1 (Int.toNat s.2.1)).a,(Ba .lk s.2.2.2.1 (Int.toNat s.2.1)).b,(Ba .lk s.2.2.2.1 (Int.toNat s.2.1)).c,r80.1,s.2.2.2.2.2.2.2)).bind fun r81=>(match r81 with| .inl x82=>some x82| .inr _=>none) else none) else none) else some s.2.2) else none) else none) else some s.2.2) else some s.2.2)) else (bif decide (s.1=6) then (bif r0.1 then (bif Ea s.2.1 (List.length s.2.2.2.1) then (bif Ea s.2.1 (List.length s.2.2.2.2.1) then (bif Ba .bool s.2.2.2.2.1 (Int.toNat s.2.1) then (bif Ea ((Ba .lk s.2.2.2.1 (Int.toNat s.2.1)).a) (List.length s.2.2.2.2.2.2.1) then (bif Ea ((Ba .lk s.2.2.2.1 (Int.toNat s.2.1)).b) (List.length s.2.2.2.2.2.2.1) then (Ce (Ba .db s.2.2.2.2.2.2.1 (Int.toNat ((Ba .lk s.2.2.2.1 (Int.toNat s.2.1)).a)),Ba .db s.2.2.2.2.2.2.1 (Int.toNat ((Ba .lk s.2.2.2.1 (Int.toNat s.2.1)).b)),())).bind fun r83=>(Yd (s.2.2.1,s.2.2.2.1,s.2.2.2.2.1,s.2.2.2.2.2.1,s.2.2.2.2.2.2.1,(Ba .lk s.2.2.2.1 (Int.toNat s.2.1)).a,(Ba .lk s.2.2.2.1 (Int.toNat s.2.1)).b,(Ba .lk s.2.2.2.1 (Int.toNat s.2.1)).c,r83.1,s.2.2.2.2.2.2.2)).bind fun r84=>(match r84 with| .inl x85=>some x85| .inr _=>none) else none) else none) else some s.2.2) else none) else none) else some s.2.2) else some s.2.2))))) else (bif decide (s.1=3) then (bif r1.1 then (bif Ea s.2.1 (List.length s.2.2.2.2.2.2.2.1) then (Iq (s.2.2.1,s.2.2.2.1,s.2.2.2.2.1,s.2.2.2.2.2.1,s.2.2.2.2.2.2.1,s.1,s.2.1,(Ba .pk s.2.2.2.2.2.2.2.1 (Int.toNat s.2.1)).t,((Ba .pk s.2.2.2.2.2.2.2.1 (Int.toNat s.2.1)).p).o,((Ba .pk s.2.2.2.2.2.2.2.1 (Int.toNat s.2.1)).p).s,((Ba .pk s.2.2.2.2.2.2.2.1 (Int.toNat s.2.1)).p).e,s.2.2.2.2.2.2.2)).bind fun r86=>(match r86 with| .inl x87=>(bif Ea x87.2.2.2.2.2.1 (List.length x87.2.2.2.2.1) then (Io (Ba .db x87.2.2.2.2.1 (Int.toNat x87.2.2.2.2.2.1),x87.2.2.2.2.2.2.1,x87.2.2.2.2.2.2.2.1,x87.2.2.2.2.2.2.2.2.1,())).bind fun r88=>(bif Ea x87.2.2.2.2.2.1 (List.length x87.2.2.2.2.1) then (bif decide (r88.1=0) then (Hq (x87.2.2.2.2.2.1,x87.2.2.2.2.2.2.1,x87.2.2.2.2.2.2.2.1,x87.2.2.2.2.2.2.2.2.1,x87.2.2.2.2.2.2.1,x87.1,x87.2.1,x87.2.2.1,x87.2.2.2.1,List.set x87.2.2.2.2.1 (Int.toNat x87.2.2.2.2.2.1) r88.2.1,x87.2.2.2.2.2.2.2.2.2)).bind fun r89=>some r89 else some (x87.1,x87.2.1,x87.2.2.1,x87.2.2.2.1,List.set x87.2.2.2.2.1 (Int.toNat x87.2.2.2.2.2.1) r88.2.1,x87.2.2.2.2.2.2.2.2.2)) else none) else none)| .inr _=>none) else none) else (bif decide (s.1=4) then (bif r1.1 then (Nl (s.2.2.1,s.2.2.2.1,s.2.2.2.2.1,s.2.2.2.2.2.1,s.2.2.2.2.2.2.1,s.1,s.2.1,s.2.2.2.2.2.2.2)).bind fun r90=>(match r90 with| .inl x91=>some x91| .inr _=>none) else (bif decide (s.1=5) then (bif r1.1 then (bif decide (nI (List.length s.2.2.2.2.2.2.2.1)<16) then (Yg (s.2.2.1,s.2.2.2.1,s.2.2.2.2.1,s.2.2.2.2.2.1,s.2.2.2.2.2.2.1,s.1,s.2.1,s.2.2.2.2.2.2.2)).bind fun r92=>(match r92 with| .inl x93=>some x93| .inr _=>none) else some s.2.2) else (bif decide (s.1=6) then (bif r0.1 then (bif Ea s.2.1 (List.length s.2.2.2.1) then (bif Ea s.2.1 (List.length s.2.2.2.2.1) then (bif Ba .bool s.2.2.2.2.1 (Int.toNat s.2.1) then (bif Ea ((Ba .lk s.2.2.2.1 (Int.toNat s.2.1)).a) (List.length s.2.2.2.2.2.2.1) then (bif Ea ((Ba .lk s.2.2.2.1 (Int.toNat s.2.1)).b) (List.length s.2.2.2.2.2.2.1) then (Ce (Ba .db s.2.2.2.2.2.2.1 (Int.toNat ((Ba .lk s.2.2.2.1 (Int.toNat s.2.1)).a)),Ba .db s.2.2.2.2.2.2.1 (Int.toNat ((Ba .lk s.2.2.2.1 (Int.toNat s.2.1)).b)),())).bind fun r94=>(Yd (s.2.2.1,s.2.2.2.1,s.2.2.2.2.1,s.2.2.2.2.2.1,s.2.2.2.2.2.2.1,(Ba .lk s.2.2.2.1 (Int.toNat s.2.1)).a,(Ba .lk s.2.2.2.1 (Int.toNat s.2.1)).b,(Ba .lk s.2.2.2.1 (Int.toNat s.2.1)).c,r94.1,s.2.2.2.2.2.2.2)).bind fun r95=>(match r95 with| .inl x96=>some x96| .inr _=>none) else none) else none) else some s.2.2) else none) else none) else some s.2.2) else some s.2.2)) else (bif decide (s.1=6) then (bif r0.1 then (bif Ea s.2.1 (List.length s.2.2.2.1) then (bif Ea s.2.1 (List.length s.2.2.2.2.1) then (bif Ba .bool s.2.2.2.2.1 (Int.toNat s.2.1) then (bif Ea ((Ba .lk s.2.2.2.1 (Int.toNat s.2.1)).a) (List.length s.2.2.2.2.2.2.1) then (bif Ea ((Ba .lk s.2.2.2.1 (Int.toNat s.2.1)).b) (List.length s.2.2.2.2.2.2.1) then (Ce (Ba .db s.2.2.2.2.2.2.1 (Int.toNat ((Ba .lk s.2.2.2.1 (Int.toNat s.2.1)).a)),Ba .db s.2.2.2.2.2.2.1 (Int.toNat ((Ba .lk s.2.2.2.1 (Int.toNat s.2.1)).b)),())).bind fun r97=>(Yd (s.2.2.1,s.2.2.2.1,s.2.2.2.2.1,s.2.2.2.2.2.1,s.2.2.2.2.2.2.1,(Ba .lk s.2.2.2.1 (Int.toNat s.2.1)).a,(Ba .lk s.2.2.2.1 (Int.toNat s.2.1)).b,(Ba .lk s.2.2.2.1 (Int.toNat s.2.1)).c,r97.1,s.2.2.2.2.2.2.2)).bind fun r98=>(match r98 with| .inl x99=>some x99| .inr _=>none) else none) else none) else some s.2.2) else none) else none) else some s.2.2) else some s.2.2))) else (bif decide (s.1=5) then (bif r1.1 then (bif decide (nI (List.length s.2.2.2.2.2.2.2.1)<16) then (Yg (s.2.2.1,s.2.2.2.1,s.2.2.2.2.1,s.2.2.2.2.2.1,s.2.2.2.2.2.2.1,s.1,s.2.1,s.2.2.2.2.2.2.2)).bind fun r100=>(match r100 with| .inl x101=>some x101| .inr _=>none) else some s.2.2) else (bif decide (s.1=6) then (bif r0.1 then (bif Ea s.2.1 (List.length s.2.2.2.1) then (bif Ea s.2.1 (List.length s.2.2.2.2.1) then (bif Ba .bool s.2.2.2.2.1 (Int.toNat s.2.1) then (bif Ea ((Ba .lk s.2.2.2.1 (Int.toNat s.2.1)).a) (List.length s.2.2.2.2.2.2.1) then (bif Ea ((Ba .lk s.2.2.2.1 (Int.toNat s.2.1)).b) (List.length s.2.2.2.2.2.2.1) then (Ce (Ba .db s.2.2.2.2.2.2.1 (Int.toNat ((Ba .lk s.2.2.2.1 (Int.toNat s.2.1)).a)),Ba .db s.2.2.2.2.2.2.1 (Int.toNat ((Ba .lk s.2.2.2.1 (Int.toNat s.2.1)).b)),())).bind fun r102=>(Yd (s.2.2.1,s.2.2.2.1,s.2.2.2.2.1,s.2.2.2.2.2.1,s.2.2.2.2.2.2.1,(Ba .lk s.2.2.2.1 (Int.toNat s.2.1)).a,(Ba .lk s.2.2.2.1 (Int.toNat s.2.1)).b,(Ba .lk s.2.2.2.1 (Int.toNat s.2.1)).c,r102.1,s.2.2.2.2.2.2.2)).bind fun r103=>(match r103 with| .inl x104=>some x104| .inr _=>none) else none) else none) else some s.2.2) else none) else none) else some s.2.2) else some s.2.2)) else (bif decide (s.1=6) then (bif r0.1 then (bif Ea s.2.1 (List.length s.2.2.2.1) then (bif Ea s.2.1 (List.length s.2.2.2.2.1) then (bif Ba .bool s.2.2.2.2.1 (Int.toNat s.2.1) then (bif Ea ((Ba .lk s.2.2.2.1 (Int.toNat s.2.1)).a) (List.length s.2.2.2.2.2.2.1) then (bif Ea ((Ba .lk s.2.2.2.1 (Int.toNat s.2.1)).b) (List.length s.2.2.2.2.2.2.1) then (Ce (Ba .db s.2.2.2.2.2.2.1 (Int.toNat ((Ba .lk s.2.2.2.1 (Int.toNat s.2.1)).a)),Ba .db s.2.2.2.2.2.2.1 (Int.toNat ((Ba .lk s.2.2.2.1 (Int.toNat s.2.1)).b)),())).bind fun r105=>(Yd (s.2.2.1,s.2.2.2.1,s.2.2.2.2.1,s.2.2.2.2.2.1,s.2.2.2.2.2.2.1,(Ba .lk s.2.2.2.1 (Int.toNat s.2.1)).a,(Ba .lk s.2.2.2.1 (Int.toNat s.2.1)).b,(Ba .lk s.2.2.2.1 (Int.toNat s.2.1)).c,r105.1,s.2.2.2.2.2.2.2)).bind fun r106=>(match r106 with| .inl x107=>some x107| .inr _=>none) else none) else none) else some s.2.2) else none) else none) else some s.2.2) else some s.2.2)))) else (bif decide (s.1=4) then (bif r1.1 then (Nl (s.2.2.1,s.2.2.2.1,s.2.2.2.2.1,s.2.2.2.2.2.1,s.2.2.2.2.2.2.1,s.1,s.2.1,s.2.2.2.2.2.2.2)).bind fun r108=>(match r108 with| .inl x109=>some x109| .inr _=>none) else (bif decide (s.1=5) then (bif r1.1 then (bif decide (nI (List.length s.2.2.2.2.2.2.2.1)<16) then (Yg (s.2.2.1,s.2.2.2.1,s.2.2.2.2.1,s.2.2.2.2.2.1,s.2.2.2.2.2.2.1,s.1,s.2.1,s.2.2.2.2.2.2.2)).bind fun r110=>(match r110 with| .inl x111=>some x111| .inr _=>none) else some s.2.2) else (bif decide (s.1=6) then (bif r0.1 then (bif Ea s.2.1 (List.length s.2.2.2.1) then (bif Ea s.2.1 (List.length s.2.2.2.2.1) then (bif Ba .bool s.2.2.2.2.1 (Int.toNat s.2.1) then (bif Ea ((Ba .lk s.2.2.2.1 (Int.toNat s.2.1)).a) (List.length s.2.2.2.2.2.2.1) then (bif Ea ((Ba .lk s.2.2.2.1 (Int.toNat s.2.1)).b) (List.length s.2.2.2.2.2.2.1) then (Ce (Ba .db s.2.2.2.2.2.2.1 (Int.toNat ((Ba .lk s.2.2.2.1 (Int.toNat s.2.1)).a)),Ba .db s.2.2.2.2.2.2.1 (Int.toNat ((Ba .lk s.2.2.2.1 (Int.toNat s.2.1)).b)),())).bind fun r112=>(Yd (s.2.2.1,s.2.2.2.1,s.2.2.2.2.1,s.2.2.2.2.2.1,s.2.2.2.2.2.2.1,(Ba .lk s.2.2.2.1 (Int.toNat s.2.1)).a,(Ba .lk s.2.2.2.1 (Int.toNat s.2.1)).b,(Ba .lk s.2.2.2.1 (Int.toNat s.2.1)).c,r112.1,s.2.2.2.2.2.2.2)).bind fun r113=>(match r113 with| .inl x114=>some x114| .inr _=>none) else none) else none) else some s.2.2) else none) else none) else some s.2.2) else some s.2.2)) else (bif decide (s.1=6) then (bif r0.1 then (bif Ea s.2.1 (List.length s.2.2.2.1) then (bif Ea s.2.1 (List.length s.2.2.2.2.1) then (bif Ba .bool s.2.2.2.2.1 (Int.toNat s.2.1) then (bif Ea ((Ba .lk s.2.2.2.1 (Int.toNat s.2.1)).a) (List.length s.2.2.2.2.2.2.1) then (bif Ea ((Ba .lk s.2.2.2.1 (Int.toNat s.2.1)).b) (List.length s.2.2.2.2.2.2.1) then (Ce (Ba .db s.2.2.2.2.2.2.1 (Int.toNat ((Ba .lk s.2.2.2.1 (Int.toNat s.2.1)).a)),Ba .db s.2.2.2.2.2.2.1 (Int.toNat ((Ba .lk s.2.2.2.1 (Int.toNat s.2.1)).b)),())).bind fun r115=>(Yd (s.2.2.1,s.2.2.2.1,s.2.2.2.2.1,s.2.2.2.2.2.1,s.2.2.2.2.2.2.1,(Ba .lk s.2.2.2.1 (Int.toNat s.2.1)).a,(Ba .lk s.2.2.2.1 (Int.toNat s.2.1)).b,(Ba .lk s.2.2.2.1 (Int.toNat s.2.1)).c,r115.1,s.2.2.2.2.2.2.2)).bind fun r116=>(match r116 with| .inl x117=>some x117| .inr _=>none) else none) else none) else some s.2.2) else none) else none) else some s.2.2) else some s.2.2))) else (bif decide (s.1=5) then (bif r1.1 then (bif decide (nI (List.length s.2.2.2.2.2.2.2.1)<16) then (Yg (s.2.2.1,s.2.2.2.1,s.2.2.2.2.1,s.2.2.2.2.2.1,s.2.2.2.2.2.2.1,s.1,s.2.1,s.2.2.2.2.2.2.2)).bind fun r118=>(match r118 with| .inl x119=>some x119| .inr _=>none) else some s.2.2) else (bif decide (s.1=6) then (bif r0.1 then (bif Ea s.2.1 (List.length s.2.2.2.1) then (bif Ea s.2.1 (List.length s.2.2.2.2.1) then (bif Ba .bool s.2.2.2.2.1 (Int.toNat s.2.1) then (bif Ea ((Ba .lk s.2.2.2.1 (Int.toNat s.2.1)).a) (List.length s.2.2.2.2.2.2.1) then (bif Ea ((Ba .lk s.2.2.2.1 (Int.toNat s.2.1)).b) (List.length s.2.2.2.2.2.2.1) then (Ce (Ba .db s.2.2.2.2.2.2.1 (Int.toNat ((Ba .lk s.2.2.2.1 (Int.toNat s.2.1)).a)),Ba .db s.2.2.2.2.2.2.1 (Int.toNat ((Ba .lk s.2.2.2.1 (Int.toNat s.2.1)).b)),())).bind fun r120=>(Yd (s.2.2.1,s.2.2.2.1,s.2.2.2.2.1,s.2.2.2.2.2.1,s.2.2.2.2.2.2.1,(Ba .lk s.2.2.2.1 (Int.toNat s.2.1)).a,(Ba .lk s.2.2.2.1 (Int.toNat s.2.1)).b,(Ba .lk s.2.2.2.1 (Int.toNat s.2.1)).c,r120.1,s.2.2.2.2.2.2.2)).bind fun r121=>(match r121 with| .inl x122=>some x122| .inr _=>none) else none) else none) else some s.2.2) else none) else none) else some s.2.2) else some s.2.2)) else (bif decide (s.1=6) then (bif r0.1 then (bif Ea s.2.1 (List.length s.2.2.2.1) then (bif Ea s.2.1 (List.length s.2.2.2.2.1) then (bif Ba .bool s.2.2.2.2.1 (Int.toNat s.2.1) then (bif Ea ((Ba .lk s.2.2.2.1 (Int.toNat s.2.1)).a) (List.length s.2.2.2.2.2.2.1) then (bif Ea ((Ba .lk s.2.2.2.1 (Int.toNat s.2.1)).b) (List.length s.2.2.2.2.2.2.1) then (Ce (Ba .db s.2.2.2.2.2.2.1 (Int.toNat ((Ba .lk s.2.2.2.1 (Int.toNat s.2.1)).a)),Ba .db s.2.2.2.2.2.2.1 (Int.toNat ((Ba .lk s.2.2.2.1 (Int.toNat s.2.1)).b)),())).bind fun r123=>(Yd (s.2.2.1,s.2.2.2.1,s.2.2.2.2.1,s.2.2.2.2.2.1,s.2.2.2.2.2.2.1,(Ba .lk s.2.2.2.1 (Int.toNat s.2.1)).a,(Ba .lk s.2.2.2.1 (Int.toNat s.2.1)).b,(Ba .lk s.2.2.2.1 (Int.toNat s.2.1)).c,r123.1,s.2.2.2.2.2.2.2)).bind fun r124=>(match r124 with| .inl x125=>some x125| .inr _=>none) else none) else none) else some s.2.2) else none) else none) else some s.2.2) else some s.2.2))))))
def WC (s:(Int×Int×Int×Int×Y0)):Option ((Int×Int×Int×Int×Y0)⊕((Int×Int×Y0)⊕Unit)):=(bif decide (s.2.2.2.1<s.2.2.1) then (TN (6,s.2.2.2)).bind fun r0=>some (Sum.inl (s.1,s.2.1,s.2.2.1,wrap64 (s.2.2.2.1+1),r0)) else some (Sum.inr (Sum.inl (s.1,s.2.1,s.2.2.2.2))))
def XC (s:(Int×Int×Y0)):Option ((Int×Int×Y0)⊕(Y0⊕Unit)):=(bif decide (s.2.1<s.1) then (lp WC Fa (s.1,s.2.1,nI (List.length s.2.2.2.2.1),0,s.2.2)).bind fun r0=>(match r0 with| .inl x1=>some (Sum.inl (x1.1,wrap64 (x1.2.1+1),x1.2.2))| .inr _=>none) else some (Sum.inr (Sum.inl s.2.2)))
def UN (s:Y0):Option Y0:=(lp XC Fa (s.1,0,s.1,s.2.1,s.2.2.1,s.2.2.2.1,s.2.2.2.2.1,([]:List Pk),())).bind fun r0=>(match r0 with| .inl x1=>some x1| .inr _=>none)
def JV (s:Y0):Option Y0:=(Nw s).bind fun r0=>(bif (!r0.1) then some (0,([]:List Lk),([]:List Bool),([]:List Int),([]:List (List Ls)),([]:List Pk),()) else (DN s).bind fun r1=>(UN r1).bind fun r2=>some r2)
end
section
open Go.RowKit
theorem YC (es:List Bool) (i:Nat):Ba .bool es i=es.getD i false:=by
  induction es generalizing i with
  |nil=>rfl
  |cons z r ih=>cases i with
   |zero=>rfl
   |succ i=>exact (ih i).trans (by simp)
theorem Bi (es:List (List Ls)) (i:Nat):Ba .db es i=Cb es i:=by
  induction es generalizing i with
  |nil=>rfl
  |cons z r ih=>cases i with
   |zero=>rfl
   |succ i=>exact (ih i).trans (by simp [Cb])
theorem Jq (es:List Pk) (i:Nat):Ba .pk es i=Rb es i:=by
  induction es generalizing i with
  |nil=>rfl
  |cons z r ih=>cases i with
   |zero=>rfl
   |succ i=>exact (ih i).trans (by simp [Rb])
abbrev Wt:=Int×List Lk×List Bool×List Int×List (List Ls)×List Pk×Unit
def wt (w:Wd):Wt:=(w.n,w.ls,w.up,w.sq,w.db,w.net,())
theorem vP {ls:List Lk} {k:Nat} (h:k<ls.length):ls.take k++[lk ls k]=ls.take (k+1):=by
  rw [List.take_add_one,List.getElem?_eq_getElem h,Pi h];rfl
theorem vQ (n:Int) (ls:List Lk) (hl:ls.length≤2000000):AN (n,ls,())=some (n,ls,()):=by
  unfold AN
  refine Aa.out (Aa.bnd (R:=fun r=>match r with| .inl x=>x=(0,n,[],ls,())| .inr _=>False) ?_ ?_)
  ·refine Aa.count ls.length (fun k t=>t=(ls,(ls.length:Int),(k:Int),0,n,[],ls.take k,())) ?_ (Nat.zero_le _) (Sb (by omega)) (by simp [La])
   rintro k t hk rfl
   simp (disch:=omega) only [ZM,OU,Ng,Wa,Sa,La,Option.bind_some]
   by_cases hlt:k<ls.length
   ·refine Aa.gd (decide_eq_true (by omega)) (Aa.gd (Ja (by omega) (by omega)) (Aa.ite (fun _=>Aa.gd (decide_eq_true (by simp only [List.length_take,List.length_singleton];omega)) (.some ⟨hlt,?_⟩)) (fun hh=>by cases hh)))
    rw [←vP hlt];rfl
   ·obtain rfl:k=ls.length:=by omega
    rw [List.take_length]
    exact Aa.no (dF (by omega)) (.some rfl)
  ·rintro (r|r) hr
   case inr=>exact hr.elim
   obtain rfl:=hr
   exact .some rfl
theorem cR (ls:List Lk) (up:List Bool) (k:Nat):(Yh ls up k).length≤k:=by
  unfold Yh
  rw [List.length_map]
  exact Nat.le_trans (List.length_filter_le _ _) (by simp)
theorem VN (w:Wd) (h:w.up.length=w.ls.length) (hl:w.ls.length≤1000):Dq (w.n,w.ls,w.up,w.sq,w.db,w.net,())=some (w.n,Sc w.ls w.up,()):=by
  cases w with|mk n ls up sq db net =>
  dsimp only at h hl
  unfold Dq SU
  refine Aa.out (Aa.bnd (R:=fun r=>r=(n,Sc ls up,())) (Aa.bnd (R:=fun r=>match r with| .inl x=>x=(0,n,[],Sc ls up,())| .inr _=>False) ?_ ?_) ?_)
  ·refine Aa.count ls.length (fun k t=>t=(n,ls,up,sq,db,net,ls,(ls.length:Int),(k:Int),0,n,[],Yh ls up k,())) ?_ (Nat.zero_le _) (Sb (by omega)) (by simp [La,Yh])
   rintro k t hk rfl
   have hq:=cR ls up k
   simp (disch:=omega) only [CN,QU,Ng,YC,Wa,Sa,La]
   by_cases hlt:k<ls.length
   ·refine Aa.gd (decide_eq_true (by omega)) (Aa.gd (Ja (by omega) (by omega)) (Aa.bnd (R:=fun r=>r=(up.getD k false,())) (Aa.gd (Ja (by omega) (by omega)) (.some rfl)) ?_))
    rintro _ rfl
    refine Aa.ite (fun hu=>Aa.gd (decide_eq_true (by simp only [List.length_singleton];omega)) (.some ⟨hlt,?_⟩)) (fun hu=>.some ⟨hlt,?_⟩)
    ·have hu:up.getD k false=true:=hu
     rw [LN,if_pos hu];rfl
    ·have hu:up.getD k false=false:=hu
     rw [LN,hu];rfl
   ·obtain rfl:k=ls.length:=by omega
    refine Aa.no (dF (by omega)) (.some rfl)
  ·rintro (r|r) hr
   case inr=>exact hr.elim
   obtain rfl:=hr
   exact .some rfl
  ·rintro _ rfl
   exact .some rfl
theorem cS (w:Wd) (h:w.up.length=w.ls.length) (hl:w.ls.length≤1000):GB (w.n,w.ls,w.up,w.sq,w.db,w.net,())=some (w.n,Sc w.ls w.up,()):=by
  cases w with|mk n ls up sq db net =>
  dsimp only at h hl
  unfold GB
  refine Aa.out (Aa.bnd (R:=fun r=>match r with| .inl x=>x=(0,[],n,Sc ls up,())| .inr _=>False) ?_ ?_)
  ·refine Aa.count ls.length (fun k t=>t=((k:Int),n,ls,up,sq,db,net,0,[],n,Yh ls up k,())) ?_ (Nat.zero_le _) (Sb (by omega)) (by simp [La,Yh])
   rintro k t hk rfl
   have hq:=cR ls up k
   simp (disch:=omega) only [QM,Ng,YC,Wa,Sa,La]
   by_cases hlt:k<ls.length
   ·refine Aa.gd (decide_eq_true (by omega)) (Aa.gd (Ja (by omega) (by omega)) ?_)
    refine Aa.ite (fun hu=>Aa.gd (Ja (by omega) (by omega)) (Aa.gd (decide_eq_true (by simp only [List.length_singleton];omega)) (.some ⟨hlt,?_⟩))) (fun hu=>.some ⟨hlt,?_⟩)
    ·have hu:up.getD k false=true:=hu
     rw [LN,if_pos hu];rfl
    ·have hu:up.getD k false=false:=hu
     rw [LN,hu];rfl
   ·obtain rfl:k=ls.length:=by omega
    refine Aa.no (dF (by omega)) (.some rfl)
  ·rintro (r|r) hr
   case inr=>exact hr.elim
   obtain rfl:=hr
   exact .some rfl
theorem Fe.len {db:List Ls} (h:Fe db):db.length≤8:=by
  have key:∀i,i<db.length→(i:Int)≤(Ya db i).o:=fun i=>by
    induction i with
    |zero=>intro hi;exact (h 0 hi).1.1
    |succ i ih =>
     intro hi
     have h1:=ih (by omega)
     have h2:=(h (i+1) hi).2 (by omega)
     rw [Nat.add_sub_cancel] at h2
     omega
  rcases Nat.lt_or_ge 8 db.length with h8|h8
  ·have h1:=key 8 h8
   have h2:=(h 8 h8).1.2.1
   omega
  ·exact h8
theorem Nf.len {l:Ls} (h:Nf l):l.e.length≤8:=by
  have key:∀i,i<l.e.length→(i:Int)≤(en l.e i).n:=fun i=>by
    induction i with
    |zero=>intro hi;exact (h.2.2.2.2 0 hi).1
    |succ i ih =>
     intro hi
     have h1:=ih (by omega)
     have h2:=(h.2.2.2.2 (i+1) hi).2.2.2.2.2 (by omega)
     rw [Nat.add_sub_cancel] at h2
     omega
  rcases Nat.lt_or_ge 8 l.e.length with h8|h8
  ·have h1:=key 8 h8
   have h2:=(h.2.2.2.2 8 h8).2.1
   omega
  ·exact h8
theorem Fe.sm {db:List Ls} (h:Fe db):Bf db:=⟨by have:=h.len;unfold Sm;omega,fun l hl=>by
  have:=((Bq.1 h).1 l hl).len
  unfold Sm;omega⟩
theorem Nf.sm {l:Ls} (h:Nf l):Sm l.e:=by have:=h.len;unfold Sm;omega
theorem Fe.so {db:List Ls} (h:Fe db):Bd db:=Lj.1 h.srt
theorem WV.nn {w:Wd} {A:Int→Prop} (h:WV w A):1≤w.n∧w.n≤8:=⟨h.g.1,h.g.2.1⟩
theorem WV.lsl {w:Wd} {A:Int→Prop} (h:WV w A):w.ls.length≤14:=h.g.2.2.1
theorem vR {n:Int} {ls:List Lk} (g:GV n ls) (m:Int):Fw (n,ls,m,())=some (Xd ls m n.toNat,()):=by
  have h1:=g.1
  have h3:=g.2.2.1
  obtain ⟨N,rfl⟩:=Int.eq_ofNat_of_zero_le (show 0≤n by omega)
  rw [aX _ _ _ (by omega),bL g,Int.toNat_natCast]
theorem KV {l:Ls} {ex:Int} {net:List Pk} {nb:List Int} {k:Nat} (h:k<nb.length):Zh l ex net (nb.take (k+1))=Jo l ex (Zh l ex net (nb.take k)) (iz nb k):=by
  unfold Zh
  rw [List.take_add_one,List.getElem?_eq_getElem h,List.foldl_append]
  congr 1
  simp [iz,List.getD,h]
theorem cU (w:Wd) (i ex:Int) (l:Ls) (g:GV w.n w.ls) (hu:w.up.length=w.ls.length) (hn:w.net.length≤16) (hl:Sm l.e):Hq (i,l.o,l.s,l.e,ex,w.n,w.ls,w.up,w.sq,w.db,w.net,())=some (w.n,w.ls,w.up,w.sq,w.db,Zh l ex w.net (Xd (Sc w.ls w.up) i w.n.toNat),()):=by
  have h14:=g.2.2.1
  unfold Hq
  dsimp only
  rw [VN w hu (by omega)]
  simp only [Option.bind_some,vR (Fq g w.up)]
  have h8:=LJ (Sc w.ls w.up) i w.n.toNat
  have hn8:=g.2.1
  generalize Xd (Sc w.ls w.up) i w.n.toNat=nb at h8 ⊢
  refine Aa.out (Aa.bnd (R:=fun r=>match r with| .inl x=>x=(w.n,w.ls,w.up,w.sq,w.db,Zh l ex w.net nb,())| .inr _=>False) ?_ ?_)
  ·refine Aa.count nb.length (fun k t=>t=(ex,(nb.length:Int),(k:Int),w.n,w.ls,w.up,w.sq,w.db,l.o,l.s,l.e,nb,Zh l ex w.net (nb.take k),())) ?_ (Nat.zero_le _) (Sb (by omega)) (by simp [La,Zh])
   rintro k t hk rfl
   simp (disch:=omega) only [SN,RN,Wh,Wa,Sa,La,NC _ _ _ hl,Option.bind_some]
   by_cases hlt:k<nb.length
   ·refine Aa.gd (decide_eq_true (by omega)) (Aa.gd (Ja (by omega) (by omega)) (Aa.ite (fun he=>Aa.ite (fun hf=>?_) (fun hf=>?_)) (fun he=>?_)))
    ·have he:¬iz nb k=ex:=by simpa using he
     have hf:=oT hf
     refine Aa.bnd (R:=fun r=>r=.inl (ex,(nb.length:Int),(k:Int),w.n,w.ls,w.up,w.sq,w.db,l.o,l.s,l.e,nb,Zh l ex w.net (nb.take k)++[⟨iz nb k,l⟩],())) (Aa.gd (decide_eq_true (by simp only [List.length_singleton];omega)) (.some rfl)) ?_
     rintro _ rfl
     simp (disch:=omega) only [Sa]
     refine .some ⟨hlt,?_⟩
     rw [KV hlt,Jo,if_pos ⟨he,by omega⟩]
     rfl
    ·have hf:=oF hf
     refine .some ⟨hlt,?_⟩
     rw [KV hlt,Jo,if_neg (by omega)]
     rfl
    ·have he:iz nb k=ex:=by simpa using he
     refine .some ⟨hlt,?_⟩
     rw [KV hlt,Jo,if_neg (fun hh=>hh.1 he)]
     rfl
   ·obtain rfl:k=nb.length:=by omega
    rw [List.take_length]
    exact Aa.no (dF (by omega)) (.some rfl)
  ·rintro (r|r) hr
   case inr=>exact hr.elim
   obtain rfl:=hr
   exact .some rfl
end
section
open Go.RowKit
theorem Ub {α β:Type} {o:Option α} {f:α→Option β} {r:α} {Q:β→Prop} (h:o=some r) (k:Aa (f r) Q):Aa (o.bind f) Q:=by subst h;exact k
theorem vS {α:Type} {l:List α} {i:Nat} {d:α} (h:i<l.length):l.set i (l.getD i d)=l:=by
  rw [List.getD,List.getElem?_eq_getElem h]
  exact List.set_getElem_self h
theorem cV {n:Int} {ls:List Lk} (g:GV n ls) (o s:Int):Iw (n,ls,o,s,())=some (o,s,Be ls n.toNat o,()):=by
  have h1:=g.1
  obtain ⟨N,rfl⟩:=Int.eq_ofNat_of_zero_le (show 0≤n by omega)
  exact uG g o s
theorem vT {n:Int} {ls:List Lk} (g:GV n ls) (o s:Int):Hz (n,ls,o,s,())=some (o,s,Be ls n.toNat o,()):=by
  have h1:=g.1
  obtain ⟨N,rfl⟩:=Int.eq_ofNat_of_zero_le (show 0≤n by omega)
  exact uH g o s
section
variable {w:Wd} {A:Int→Prop}
theorem vU (h:WV w A) {i:Nat} (hi:i<w.db.length) (h99:iz w.sq i<99):Ml ((i:Int),w.n,w.ls,w.up,w.sq,w.db,w.net,())=some (wt (Oj w i)):=by
  have hsq:=h.sq
  have hdb:=h.db
  have his:i<w.sq.length:=by omega
  have hr:=h.rng i his
  have h14:=h.lsl
  have hd:=h.ok i hi
  have hnw:=cJ h hi h99
  have hlen:=hd.len
  have b1:SC ((i:Int),w.n,w.ls,w.up,w.sq.set i (iz w.sq i+1),w.db,w.net,())=some (.inl ((i:Int),w.n,w.ls,w.up,w.sq.set i (iz w.sq i+1),w.db,(i:Int),iz w.sq i+1,w.net,Be (Sc w.ls w.up) w.n.toNat i,())):=by
    unfold SC
    simp only [Wa,Wh]
    refine Aa.out (Aa.gd (Ja (by omega) (by rw [List.length_set];omega)) (Ub (VN { w with sq:=w.sq.set i (iz w.sq i+1) } h.up (by show w.ls.length≤1000;omega)) ?_))
    dsimp only
    refine Ub (cV (Fq h.g w.up) _ _) (.some ?_)
    dsimp only
    rw [BV his,if_pos rfl]
  have b2:TC ((i:Int),w.n,w.ls,w.up,w.sq.set i (iz w.sq i+1),w.db,(i:Int),iz w.sq i+1,w.net,Be (Sc w.ls w.up) w.n.toNat i,())=some (.inl ((i:Int),w.n,w.ls,w.up,w.sq.set i (iz w.sq i+1),w.db.set i (Pd (Cb w.db i) (Wg w i)),(i:Int),iz w.sq i+1,w.net,Be (Sc w.ls w.up) w.n.toNat i,())):=by
    unfold TC
    simp only [Wa,Bi]
    exact Aa.out (Aa.gd (Ja (by omega) (by omega)) (Ub (WU (Cb w.db i) (Wg w i) hd.so hd.sm hnw.sm (by omega)) (Aa.gd (Ja (by omega) (by omega)) (.some rfl))))
  unfold Ml
  simp (disch:=omega) only [Wa,Wh,Sa]
  refine Aa.out (Aa.gd (Ja (by omega) (by omega)) (Aa.gd (Ja (by omega) (by omega)) (Ub b1 ?_)))
  dsimp only
  refine Ub b2 ?_
  dsimp only
  exact Ub (cU { w with sq:=w.sq.set i (iz w.sq i+1),db:=w.db.set i (Pd (Cb w.db i) (Wg w i)) } (i:Int) (-1) (Wg w i) h.g h.up h.net hnw.sm) (.some rfl)
theorem cW (h:WV w A) {i:Int} (h0:0≤i) (hi:i<w.n) (h99:iz w.sq i.toNat<99):Ml (i,w.n,w.ls,w.up,w.sq,w.db,w.net,())=some (wt (Oj w i.toNat)):=by
  have hdb:=h.db
  obtain ⟨k,rfl⟩:=Int.eq_ofNat_of_zero_le h0
  exact vU h (by omega) h99
structure Vi (w:Wd):Prop where
  ls:w.ls.length≤2000000
  up:w.up.length≤2000000
  sq:w.sq.length≤2000000
  db:w.db.length≤2000000
  net:w.net.length≤2000000
  dbs:∀i,i<w.db.length→Bf (Cb w.db i)
  pks:∀i,i<w.net.length→Sm (Rb w.net i).p.e
theorem WV.sm (h:WV w A):Vi w:=by
  have h1:=h.lsl
  have h2:=h.up
  have h3:=h.sq
  have h4:=h.db
  have h5:=h.net
  have h6:=h.nn
  exact ⟨by omega,by omega,by omega,by omega,by omega,fun i hi=>(h.ok i hi).sm,fun i hi=>(h.poss _ (.inr ⟨_,Qw hi,rfl⟩)).1.sm⟩
theorem WN {db:List (List Ls)} {k:Nat} (h:k<db.length):db.take k++[Cb db k]=db.take (k+1):=by
  rw [List.take_add_one,List.getElem?_eq_getElem h];simp [Cb,List.getD,h]
theorem LV {net:List Pk} {k:Nat} (h:k<net.length):net.take k++[⟨(Rb net k).t,⟨(Rb net k).p.o,(Rb net k).p.s,(Rb net k).p.e⟩⟩]=net.take (k+1):=by
  rw [List.take_add_one,List.getElem?_eq_getElem h]
  have:Rb net k=net[k]:=by simp [Rb,List.getD,h]
  rw [this];rfl
theorem vV (h:Vi w):DN (w.n,w.ls,w.up,w.sq,w.db,w.net,())=some (w.n,w.ls,w.up,w.sq,w.db,w.net,()):=by
  have h1:=h.ls
  have h2:=h.up
  have h3:=h.sq
  have h4:=h.db
  have h5:=h.net
  cases w with|mk n ls up sq db net =>
  dsimp only at h1 h2 h3 h4 h5 ⊢
  have b1:AC (n,ls,up,sq,db,net,0,[],[],[],[],[],())=some (.inl (n,ls,up,sq,db,net,0,[],[],[],[],[],n,ls,up,sq,[],[],())):=by
    unfold AC
    refine Aa.out (Ub (vQ n ls h1) ?_)
    unfold ET GT
    rw [decide_eq_true (show up.length≤16777216 by omega),decide_eq_true (show sq.length≤16777216 by omega)]
    exact .some rfl
  unfold DN
  refine Aa.out (Ub b1 ?_)
  refine Aa.bnd (R:=fun r=>match r with| .inl x=>x=(n,ls,up,sq,db,net,0,[],[],[],[],[],n,ls,up,sq,db,[],())| .inr _=>False) ?_ ?_
  ·refine Aa.count db.length (fun k t=>t=(db,(db.length:Int),(k:Int),n,ls,up,sq,db,net,0,[],[],[],[],[],n,ls,up,sq,db.take k,[],())) ?_ (Nat.zero_le _) (Sb (by omega)) (by simp [La])
   rintro k t hk rfl
   by_cases hlt:k<db.length
   ·have e1:=JN _ (h.dbs k hlt)
    simp (disch:=omega) only [BC,Bi,Wa,Sa,e1,Option.bind_some]
    refine Aa.gd (decide_eq_true (by omega)) (Aa.gd (Ja (by omega) (by omega)) (Aa.gd (decide_eq_true (by simp;omega)) (.some ⟨hlt,?_⟩)))
    rw [←WN hlt];rfl
   ·obtain rfl:k=db.length:=by omega
    unfold BC
    refine Aa.no (dF (by first|omega|(dsimp only;omega))) (.some ?_)
    rw [List.take_length]
  rintro (r|r) hr
  case inr=>exact hr.elim
  obtain rfl:=hr
  refine Aa.bnd (R:=fun r=>match r with| .inl x=>x=(0,[],[],[],[],[],n,ls,up,sq,db,net,())| .inr _=>False) ?_ ?_
  ·refine Aa.count net.length (fun k t=>t=(net,(net.length:Int),(k:Int),0,[],[],[],[],[],n,ls,up,sq,db,net.take k,())) ?_ (Nat.zero_le _) (Sb (by omega)) (by simp [La])
   rintro k t hk rfl
   by_cases hlt:k<net.length
   ·have e1:=NC (Rb net k).p.o (Rb net k).p.s _ (h.pks k hlt)
    simp (disch:=omega) only [CC,Jq,Wa,Sa,e1,Option.bind_some]
    refine Aa.gd (decide_eq_true (by omega)) (Aa.gd (Ja (by omega) (by omega)) ?_)
    refine Aa.gd (decide_eq_true (by simp;omega)) (.some ⟨hlt,?_⟩)
    rw [←LV hlt];rfl
   ·obtain rfl:k=net.length:=by omega
    unfold CC
    refine Aa.no (dF (by first|omega|(dsimp only;omega))) (.some ?_)
    rw [List.take_length]
  rintro (r|r) hr
  case inr=>exact hr.elim
  obtain rfl:=hr
  exact .some rfl
theorem vW (n:Int) (ls:List Lk) (hl:ls.length≤2000000):PM (n,ls,())=some (n,ls,()):=by
  unfold PM
  exact Aa.out (Aa.gd (decide_eq_true (by simp only [List.length_nil];omega)) (.some rfl))
theorem MV (h:Vi w):Lw (w.n,w.ls,w.up,w.sq,w.db,w.net,())=some (w.n,w.ls,w.up,w.sq,w.db,w.net,()):=by
  have h1:=h.ls
  have h2:=h.up
  have h3:=h.sq
  have h4:=h.db
  have h5:=h.net
  cases w with|mk n ls up sq db net =>
  dsimp only at h1 h2 h3 h4 h5 ⊢
  have b1:SB (n,ls,up,sq,db,net,0,[],[],[],[],[],())=some (.inl (n,ls,up,sq,db,net,0,[],[],[],[],[],n,ls,up,sq,[],[],())):=by
    unfold SB
    exact Aa.out (Ub (vW n ls h1) (Aa.gd (decide_eq_true (by simp;omega)) (Aa.gd (decide_eq_true (by simp;omega)) (.some (by simp)))))
  unfold Lw
  refine Aa.out (Ub b1 ?_)
  refine Aa.bnd (R:=fun r=>match r with| .inl x=>x=(n,ls,up,sq,db,net,0,[],[],[],[],[],n,ls,up,sq,db,[],())| .inr _=>False) ?_ ?_
  ·refine Aa.count db.length (fun k t=>t=((k:Int),n,ls,up,sq,db,net,0,[],[],[],[],[],n,ls,up,sq,db.take k,[],())) ?_ (Nat.zero_le _) (Sb (by omega)) (by simp [La])
   rintro k t hk rfl
   by_cases hlt:k<db.length
   ·have e1:=KN _ (h.dbs k hlt)
    simp (disch:=omega) only [TB,Bi,Wa,Sa,La,e1,Option.bind_some]
    refine Aa.gd (decide_eq_true (by omega)) (Aa.gd (Ja (by omega) (by omega)) (Aa.gd (decide_eq_true (by simp;omega)) (.some ⟨hlt,?_⟩)))
    rw [←WN hlt];rfl
   ·obtain rfl:k=db.length:=by omega
    unfold TB
    simp only [La]
    refine Aa.no (dF (by first|omega|(dsimp only;omega))) (.some ?_)
    rw [List.take_length]
  rintro (r|r) hr
  case inr=>exact hr.elim
  obtain rfl:=hr
  refine Aa.bnd (R:=fun r=>match r with| .inl x=>x=(0,[],[],[],[],[],n,ls,up,sq,db,net,())| .inr _=>False) ?_ ?_
  ·refine Aa.count net.length (fun k t=>t=((k:Int),n,ls,up,sq,db,net,0,[],[],[],[],[],n,ls,up,sq,db,net.take k,())) ?_ (Nat.zero_le _) (Sb (by omega)) (by simp [La])
   rintro k t hk rfl
   by_cases hlt:k<net.length
   ·have e1:=OC (Rb net k).p.o (Rb net k).p.s _ (h.pks k hlt)
    simp (disch:=omega) only [UB,Jq,Wa,Sa,La,e1,Option.bind_some]
    refine Aa.gd (decide_eq_true (by omega)) (Aa.gd (Ja (by omega) (by omega)) (Aa.gd (Ja (by omega) (by omega)) ?_))
    refine Aa.gd (decide_eq_true (by simp;omega)) (.some ⟨hlt,?_⟩)
    rw [←LV hlt];rfl
   ·obtain rfl:k=net.length:=by omega
    unfold UB
    simp only [La]
    refine Aa.no (dF (by first|omega|(dsimp only;omega))) (.some ?_)
    rw [List.take_length]
  rintro (r|r) hr
  case inr=>exact hr.elim
  obtain rfl:=hr
  exact .some rfl
end
end
section
open Go.RowKit
section
variable {w:Wd} {A:Int→Prop}
theorem vX {kind a:Int} (hk:kind=1∨kind=2):Ai w kind a=if 0≤a∧a<w.up.length then Pw w a.toNat (decide (kind=2)) else w:=by
  unfold Ai
  rcases hk with rfl|rfl<;>simp
theorem cX {a:Int}:Ai w 3 a=if 0≤a∧a<w.net.length then EV { w with net:=w.net.eraseIdx a.toNat } (Rb w.net a.toNat).t.toNat (Rb w.net a.toNat).p else w:=by
  unfold Ai;simp
theorem cY {a:Int}:Ai w 4 a=if 0≤a∧a<w.net.length then { w with net:=w.net.eraseIdx a.toNat } else w:=by
  unfold Ai;simp
theorem cZ {a:Int}:Ai w 5 a=if 0≤a∧a<w.net.length then (if w.net.length<16 then { w with net:=w.net++[Rb w.net a.toNat] } else w) else w:=by
  unfold Ai;simp
theorem dA {a:Int}:Ai w 6 a=if 0≤a∧a<w.up.length then Xg w a.toNat else w:=by
  unfold Ai;simp
theorem vY {kind a:Int} (h1:kind≠1) (h2:kind≠2) (h3:kind≠3) (h4:kind≠4) (h5:kind≠5) (h6:kind≠6):Ai w kind a=w:=by
  unfold Ai;simp [h1,h2,h3,h4,h5,h6]
theorem vZ (h:WV w Tb) {k:Nat} (hk:k<w.ls.length) (u:Bool) (ha:iz w.sq (lk w.ls k).a.toNat<99) (hb:iz w.sq (lk w.ls k).b.toNat<99):∃A,WV (Oj { w with up:=w.up.set k u } (lk w.ls k).a.toNat) A∧iz (Oj { w with up:=w.up.set k u } (lk w.ls k).a.toNat).sq (lk w.ls k).b.toNat<99:=by
  have hdb:=h.db
  have hsq:=h.sq
  have ho:=h.g.ok (Pm hk)
  unfold Hh at ho
  refine ⟨_,vH (cL h hk u) (i:=(lk w.ls k).a.toNat) (by show _<w.db.length;omega) (by show iz w.sq _<99;omega),?_⟩
  show iz (w.sq.set (lk w.ls k).a.toNat _) (lk w.ls k).b.toNat<99
  rw [BV (by omega),if_neg (by omega)]
  omega
theorem wA (h:WV w A) {k:Nat} (hk:k<w.ls.length):QN (w.n,w.ls,w.up,w.sq,w.db,w.net,(k:Int),())=some (wt (Xg w k)):=by
  have hdb:=h.db
  have hup:=h.up
  have ho:=h.g.ok (Pm hk)
  unfold Hh at ho
  have va:=h.ok (lk w.ls k).a.toNat (by omega)
  have vb:=h.ok (lk w.ls k).b.toNat (by omega)
  have vm:=MU va (Bq.1 vb).1
  have la:=va.len
  have lb:=vb.len
  unfold QN Xg
  simp only [Wa,Bi,Ng,YC]
  refine Aa.out (Aa.gd (Ja (by omega) (by omega)) (Aa.gd (Ja (by omega) (by omega)) (Aa.ite (fun hc=>.some ?_) (fun hc=>?_))))
  ·have hc:¬w.up.getD k false=true:=by simpa using hc
   rw [if_neg hc];rfl
  ·have hc:w.up.getD k false=true:=by simpa using hc
   rw [if_pos hc]
   refine Ub (MV h.sm) ?_
   dsimp only
   refine Aa.gd (Ja (by omega) (by omega)) (Aa.gd (Ja (by omega) (by omega)) (Ub (vB _ _ va.so va.sm vb.sm (by omega) (by omega)) ?_))
   dsimp only
   refine Aa.gd (Ja (by omega) (by omega)) (Ub (KN _ vm.sm) ?_)
   refine Aa.gd (Ja (by omega) (by rw [List.length_set];omega)) (.some rfl)
theorem wB {lo hi:Int} {n:Nat} (h1:0≤lo) (h2:lo≤hi) (h3:hi≤n):Uo lo hi n=true:=by unfold Uo;simp;omega
end
end
section
open Go.RowKit
section
variable {w:Wd} {A:Int→Prop}
theorem dB (net:List Pk) (k:Nat) (hk:k<net.length) (hn:net.length≤16):Bz ((k:Int),(k:Int)+1,net,())=some (net.eraseIdx k,()):=by
  unfold Bz
  rw [List.eraseIdx_eq_take_drop_succ]
  exact Aa.out (Aa.gd (decide_eq_true ⟨by omega,rfl,by show (k:Int)<(net.length:Int);omega,by show net.length≤16777216;omega⟩) (.some rfl))
theorem wC (h:WV w Tb) (kind a:Int):TN (kind,a,w.n,w.ls,w.up,w.sq,w.db,w.net,())=some (wt (Ai w kind a)):=by
  have hup:=h.up
  have h14:=h.lsl
  have hnet:=h.net
  have hdb:=h.db
  have hsq:=h.sq
  unfold TN
  simp (disch:=omega) only [Il,Option.bind_some,La,Sa]
  by_cases h12:kind=1∨kind=2
  ·rw [vX h12]
   cases hin:Dc a 0 ((w.up.length:Int)-1) with
   |false =>
    have hc:=Xi hin
    rw [if_neg (by omega)]
    rcases h12 with rfl|rfl
    ·exact Aa.out (Aa.gd rfl (Aa.no rfl (Aa.no rfl (Aa.no rfl (Aa.no rfl (Aa.no rfl (.some rfl)))))))
    ·exact Aa.out (Aa.no rfl (Aa.gd rfl (Aa.no rfl (Aa.no rfl (Aa.no rfl (Aa.no rfl (Aa.no rfl (.some rfl))))))))
   |true =>
    have hc:=Mh hin
    obtain ⟨k,rfl⟩:=Int.eq_ofNat_of_zero_le hc.1
    have hk:k<w.ls.length:=by omega
    have ho:=h.g.ok (Pm hk)
    unfold Hh at ho
    rw [if_pos ⟨by omega,by omega⟩,Wa]
    have main:∀u:Bool,w.up.getD k false≠u→iz w.sq (lk w.ls k).a.toNat<99→iz w.sq (lk w.ls k).b.toNat<99→Aa ((Ml ((lk w.ls k).a,w.n,w.ls,w.up.set k u,w.sq,w.db,w.net,())).bind fun r2=>(Ml (((lk w.ls k).b,(r2.1,(r2.2.1,(r2.2.2.1,(r2.2.2.2.1,(r2.2.2.2.2.1,(r2.2.2.2.2.2.1,()))))))))).bind fun r3=>some ((r3.1,r3.2.1,r3.2.2.1,r3.2.2.2.1,r3.2.2.2.2.1,r3.2.2.2.2.2.1,()))) (·=wt (Pw w k u)):=fun u hu ha hb=>by
      obtain ⟨A,v,hv⟩:=vZ h hk u ha hb
      refine Ub (cW (cL h hk u) (i:=(lk w.ls k).a) (by omega) (by show _<w.n;omega) ha) ?_
      dsimp only [wt]
      refine Ub (cW v (i:=(lk w.ls k).b) (by omega) (by show _<w.n;omega) hv) (.some ?_)
      unfold Pw
      rw [if_neg (by rintro (e|e|e);exact hu e;omega;omega)]
      rfl
    have same:∀u:Bool,¬(w.up.getD k false≠u∧iz w.sq (lk w.ls k).a.toNat<99∧iz w.sq (lk w.ls k).b.toNat<99)→(w.n,w.ls,w.up,w.sq,w.db,w.net,())=wt (Pw w k u):=fun u hh=>by
      unfold Pw
      rw [if_pos (by
        by_cases e1:w.up.getD k false=u
        ·exact .inl e1
        ·by_cases e2:iz w.sq (lk w.ls k).a.toNat<99
         ·exact .inr (.inr (by
            by_cases e3:iz w.sq (lk w.ls k).b.toNat<99
            ·exact (hh ⟨e1,e2,e3⟩).elim
            ·omega))
         ·exact .inr (.inl (by omega)))]
      rfl
    simp only [Wa,Ng,YC,Wh]
    rcases h12 with rfl|rfl
    ·refine Aa.out (Aa.gd rfl (Aa.gd rfl (Aa.gd (Ja (by omega) (by omega)) (Aa.gd (Ja (by omega) (by omega)) ?_))))
     refine Aa.ite (fun hu=>?_) (fun hu=>.some (same _ (fun q=>q.1 (by simpa using hu))))
     refine Aa.gd (Ja (by omega) (by omega)) (Aa.ite (fun ha=>?_) (fun ha=>.some (same _ (fun q=>oF ha q.2.1))))
     refine Aa.gd (Ja (by omega) (by omega)) (Aa.ite (fun hb=>?_) (fun hb=>.some (same _ (fun q=>oF hb q.2.2))))
     exact Aa.gd (Ja (by omega) (by omega)) (main _ (by simpa using hu) (oT ha) (oT hb))
    ·refine Aa.out (Aa.no rfl (Aa.gd rfl (Aa.gd rfl (Aa.gd (Ja (by omega) (by omega)) (Aa.gd (Ja (by omega) (by omega)) ?_)))))
     refine Aa.ite (fun hu=>?_) (fun hu=>.some (same _ (fun q=>q.1 (by simpa using hu))))
     refine Aa.gd (Ja (by omega) (by omega)) (Aa.ite (fun ha=>?_) (fun ha=>.some (same _ (fun q=>oF ha q.2.1))))
     refine Aa.gd (Ja (by omega) (by omega)) (Aa.ite (fun hb=>?_) (fun hb=>.some (same _ (fun q=>oF hb q.2.2))))
     exact Aa.gd (Ja (by omega) (by omega)) (main _ (by simpa using hu) (oT ha) (oT hb))
  have h1:kind≠1:=fun e=>h12 (.inl e)
  have h2:kind≠2:=fun e=>h12 (.inr e)
  refine Aa.out (Aa.no (dF h1) (Aa.no (dF h2) ?_))
  by_cases h6:kind=6
  ·subst h6
   rw [dA]
   cases hin:Dc a 0 ((w.up.length:Int)-1) with
   |false =>
    have hc:=Xi hin
    rw [if_neg (by omega)]
    exact Aa.no rfl (Aa.no rfl (Aa.no rfl (Aa.gd rfl (Aa.no rfl (.some rfl)))))
   |true =>
    have hc:=Mh hin
    obtain ⟨k,rfl⟩:=Int.eq_ofNat_of_zero_le hc.1
    have hk:k<w.ls.length:=by omega
    have ho:=h.g.ok (Pm hk)
    unfold Hh at ho
    rw [if_pos ⟨by omega,by omega⟩,Wa]
    have va:=h.ok (lk w.ls k).a.toNat (by omega)
    have vb:=h.ok (lk w.ls k).b.toNat (by omega)
    have vm:=MU va (Bq.1 vb).1
    have la:=va.len
    have lb:=vb.len
    have b25:Yd (w.n,w.ls,w.up,w.sq,w.db,(lk w.ls k).a,(lk w.ls k).b,(lk w.ls k).c,Jd (Cb w.db (lk w.ls k).a.toNat) (Cb w.db (lk w.ls k).b.toNat),w.net,())=some (.inl (wt (Wm w (lk w.ls k).a.toNat (lk w.ls k).b.toNat))):=by
      unfold Yd
      dsimp only
      refine Aa.out (Ub (JN _ vm.sm) (Aa.gd (Ja (by omega) (by omega)) (Aa.gd (Ja (by omega) (by rw [List.length_set];omega)) (.some rfl))))
    unfold Xg
    simp only [Wa,Ng,YC,Bi]
    refine Aa.no rfl (Aa.no rfl (Aa.no rfl (Aa.gd rfl (Aa.gd rfl (Aa.gd (Ja (by omega) (by omega)) (Aa.gd (Ja (by omega) (by omega)) (Aa.ite (fun hc=>?_) (fun hc=>.some ?_))))))))
    ·rw [if_pos hc]
     refine Aa.gd (Ja (by omega) (by omega)) (Aa.gd (Ja (by omega) (by omega)) (Ub (vA _ _ va.so va.sm vb.sm (by omega) (by omega)) ?_))
     exact Ub b25 (.some rfl)
    ·rw [if_neg (by rw [hc];simp)];rfl
  by_cases h345:kind=3∨kind=4∨kind=5
  case neg =>
    have h3:kind≠3:=fun e=>h345 (.inl e)
    have h4:kind≠4:=fun e=>h345 (.inr (.inl e))
    have h5:kind≠5:=fun e=>h345 (.inr (.inr e))
    refine Aa.no (dF h3) (Aa.no (dF h4) (Aa.no (dF h5) (Aa.no (dF h6) (.some ?_))))
    rw [vY h1 h2 h3 h4 h5 h6];rfl
  cases hin:Dc a 0 ((w.net.length:Int)-1) with
  |false =>
   have hc:=Xi hin
   rcases h345 with rfl|rfl|rfl
   ·rw [cX,if_neg (by omega)]
    exact Aa.gd rfl (Aa.no rfl (Aa.no rfl (Aa.no rfl (Aa.no rfl (.some rfl)))))
   ·rw [cY,if_neg (by omega)]
    exact Aa.no rfl (Aa.gd rfl (Aa.no rfl (Aa.no rfl (Aa.no rfl (.some rfl)))))
   ·rw [cZ,if_neg (by omega)]
    exact Aa.no rfl (Aa.no rfl (Aa.gd rfl (Aa.no rfl (Aa.no rfl (.some rfl)))))
  |true =>
   have hc:=Mh hin
   obtain ⟨k,rfl⟩:=Int.eq_ofNat_of_zero_le hc.1
   have hkn:k<w.net.length:=by omega
   have hm:Rb w.net k∈w.net:=Qw hkn
   have hP:=h.poss _ (.inr ⟨_,hm,rfl⟩)
   have ht:=h.tgt _ hm
   have hV:=hP.1
   have w1:wrap64 ((k:Int)+1)=((k:Int)+1):=Sa (by omega) (by omega)
   rcases h345 with rfl|rfl|rfl
   ·rw [cX,if_pos ⟨by omega,by omega⟩,Wa]
    obtain ⟨t,ht'⟩:=Int.eq_ofNat_of_zero_le ht.1
    have hd:=h.ok t (by omega)
    have hdl:=hd.len
    have b11:Iq (w.n,w.ls,w.up,w.sq,w.db,3,(k:Int),(t:Int),(Rb w.net k).p.o,(Rb w.net k).p.s,(Rb w.net k).p.e,w.net,())=some (.inl (w.n,w.ls,w.up,w.sq,w.db,(t:Int),(Rb w.net k).p.o,(Rb w.net k).p.s,(Rb w.net k).p.e,w.net.eraseIdx k,())):=by
      unfold Iq
      simp only [w1]
      exact Aa.out (Ub (dB w.net k hkn hnet) (.some rfl))
    clear w1
    simp only [Wa,Jq]
    refine Aa.gd rfl (Aa.gd rfl (Aa.gd (Ja (by omega) (by omega)) ?_))
    rw [ht',Wa]
    refine Ub b11 ?_
    simp only [Wa,Bi]
    refine Aa.gd (Ja (by omega) (by omega)) (Ub (WU (Cb w.db t) (Rb w.net k).p hd.so hd.sm hV.sm (by omega)) ?_)
    dsimp only
    refine Aa.gd (Ja (by omega) (by omega)) ?_
    unfold EV
    dsimp only
    refine Aa.ite (fun hp=>?_) (fun hp=>.some ?_)
    ·have hp:=oT hp
     rw [if_pos hp]
     exact Ub (cU { w with db:=w.db.set t (Pd (Cb w.db t) (Rb w.net k).p),net:=w.net.eraseIdx k } (t:Int) (Rb w.net k).p.o (Rb w.net k).p h.g h.up (by show (w.net.eraseIdx k).length≤16;rw [List.length_eraseIdx];split<;>omega) hV.sm) (.some rfl)
    ·have hp:=oF hp
     rw [if_neg hp]
     have:Pd (Cb w.db t) (Rb w.net k).p=Cb w.db t:=by unfold Pd;rw [if_neg hp]
     rw [this]
     have e:w.db.set t (Cb w.db t)=w.db:=vS (by omega)
     rw [e];rfl
   ·rw [cY,if_pos ⟨by omega,by omega⟩,Wa]
    have b17:Nl (w.n,w.ls,w.up,w.sq,w.db,4,(k:Int),w.net,())=some (.inl (wt { w with net:=w.net.eraseIdx k })):=by
      unfold Nl
      simp only [w1]
      exact Aa.out (Ub (dB w.net k hkn hnet) (.some rfl))
    exact Aa.no rfl (Aa.gd rfl (Aa.gd rfl (Ub b17 (.some rfl))))
   ·rw [cZ,if_pos ⟨by omega,by omega⟩,Wa]
    refine Aa.no rfl (Aa.no rfl (Aa.gd rfl (Aa.gd rfl (Aa.ite (fun hf=>?_) (fun hf=>.some ?_)))))
    ·have hf:=oT hf
     rw [if_pos (by omega)]
     have b20:Yg (w.n,w.ls,w.up,w.sq,w.db,5,(k:Int),w.net,())=some (.inl (wt { w with net:=w.net++[Rb w.net k] })):=by
       unfold Yg
       simp only [Wa,Jq,NC _ _ _ hV.sm,Option.bind_some]
       exact Aa.out (Aa.gd (Ja (by omega) (by omega)) (Aa.gd (Ja (by omega) (by omega)) (Aa.gd (decide_eq_true (by simp only [List.length_singleton];omega)) (.some rfl))))
     exact Ub b20 (.some rfl)
    ·have hf:=oF hf
     rw [if_neg (by omega)];rfl
end
end
section
open Go.RowKit
noncomputable def poss (w:Wd) (l:Ls):Bool:=@decide (Vg w Tb l) (Classical.propDecidable _)
theorem Kq {w:Wd} {l:Ls}:poss w l=true↔Vg w Tb l:=by unfold poss;simp
theorem ZC {w:Wd} {l:Ls}:poss w l=false↔¬Vg w Tb l:=by unfold poss;simp
theorem dC (ls:List Lk) (a b:Int):Fc ls a b<ls.length:=by
  rcases Wy ls a b with ⟨h,_⟩|⟨k,h,hk,_⟩<;>omega
section
variable {w:Wd}
set_option maxHeartbeats 2000000 in
theorem wD (g:GV w.n w.ls) (hu:w.up.length=w.ls.length) (hsq:(w.sq.length:Int)=w.n) (l:Ls) (hl:Sm l.e):EN (w.n,w.ls,w.up,w.sq,w.db,w.net,l.o,l.s,l.e,())=some (poss w l,()):=by
  have h14:=g.2.2.1
  have fl:Ta l.e:=by unfold Ta;unfold Sm at hl;omega
  have fls:Ta w.ls:=by unfold Ta;omega
  unfold Sm at hl
  have no:¬Vg w Tb l→poss w l=false:=fun h=>ZC.2 h
  cases l with|mk o s es =>
  cases w with|mk n ls up sq db net =>
  dsimp only at *
  unfold EN
  dsimp only
  rw [aZ o s es fl]
  refine Aa.out (Aa.ite (fun hc=>.some ?_) (fun hc=>?_))
  ·rw [no fun h=>oF (show Ug o s es=false by simpa using hc) h.1]
  have hV:Nf ⟨o,s,es⟩:=oT (show Ug o s es=true by simpa using hc)
  have h0:0≤o:=hV.1
  refine Aa.ite (fun hc=>.some ?_) (fun hc=>?_)
  ·have hc:=oT hc
   rw [no fun h=>by have:o<n:=h.2.1;omega]
  have hn:=oF hc
  simp only [Wh]
  refine Aa.gd (Ja (by omega) (by omega)) (Aa.ite (fun hc=>.some ?_) (fun hc=>?_))
  ·have hc:iz sq o.toNat<s:=oT hc
   rw [no fun h=>by have:s≤iz sq o.toNat:=h.2.2.1;omega]
  have hs:¬iz sq o.toNat<s:=oF hc
  try simp only [La]
  refine Aa.bnd (R:=fun r=>match r with| .inl x=>x=(n,ls,up,sq,db,net,o,s,es,())∧∀e∈es,lc ls o e.n=some e.c| .inr y=>y=(false,())∧¬∀e∈es,lc ls o e.n=some e.c) ?_ ?_
  ·refine Aa.count es.length (fun k t=>t=(es,(es.length:Int),(k:Int),n,ls,up,sq,db,net,o,s,es,())∧∀i,i<k→lc ls o (en es i).n=some (en es i).c) ?_ (Nat.zero_le _) (Sb (by omega)) ⟨rfl,fun i hi=>by omega⟩
   rintro k t hk ⟨rfl,hok⟩
   by_cases hlt:k<es.length
   ·have hm:en es k∈es:=by rw [Xh hlt];exact List.getElem_mem hlt
    simp (disch:=omega) only [DC,Jl,Ng,Wa,Sa,La,aW _ _ _ _ fls,Option.bind_some]
    refine Aa.gd (decide_eq_true (by omega)) (Aa.gd (Ja (by omega) (by omega)) (Aa.ite (fun hc=>.some ⟨rfl,?_⟩) (fun hc=>?_)))
    ·have hc:=oT hc
     intro h
     have:=(Dw (h _ hm)).1
     omega
    ·have hc:=oF hc
     have hlo:=dC ls o (en es k).n
     repeat refine Aa.gd (Ja (by omega) (by omega)) ?_
     refine Aa.ite (fun hc2=>.some ⟨rfl,?_⟩) (fun hc2=>.some ⟨hlt,rfl,fun i hi=>?_⟩)
     ·have hc2:¬(lk ls (Fc ls o (en es k).n).toNat).c=(en es k).c:=by simpa using hc2
      intro h
      have:=(Dw (h _ hm)).2.2
      rw [this] at hc2
      exact hc2 rfl
     ·have hc2:(lk ls (Fc ls o (en es k).n).toNat).c=(en es k).c:=by simpa using hc2
      by_cases e:i<k
      ·exact hok i e
      ·obtain rfl:i=k:=by omega
       unfold lc
       rw [if_pos (by omega),hc2]
   ·obtain rfl:k=es.length:=by omega
    unfold DC
    simp only [La]
    refine Aa.no (dF (by omega)) (.some ⟨rfl,fun e he=>?_⟩)
    obtain ⟨i,hi,rfl⟩:=List.getElem_of_mem he
    rw [←Xh hi]
    exact hok i hi
  rintro (r|r) hr
  case inr =>
    obtain ⟨rfl,hr⟩:=hr
    exact .some (by rw [no fun h=>hr h.2.2.2.1])
  obtain ⟨rfl,hr⟩:=hr
  simp only [Wh]
  refine Aa.gd (Ja (by omega) (by omega)) (Aa.ite (fun hc=>.some ?_) (fun hc=>?_))
  ·have hc:s<iz sq o.toNat:=oT hc
   rw [Kq.2 ⟨hV,by show o<n;omega,by show s≤iz sq o.toNat;omega,hr,.inl hc⟩]
  have hlt:¬s<iz sq o.toNat:=oF hc
  refine Ub (VN ⟨n,ls,up,sq,db,net⟩ hu (by show ls.length≤1000;omega)) ?_
  dsimp only
  refine Ub (cV (Fq g up) o s) ?_
  have hel:=bM (N:=n.toNat) (ls:=Sc ls up) o
  have hn8:=g.2.1
  refine Ub (bZ ⟨o,s,es⟩ ⟨o,s,Be (Sc ls up) n.toNat o⟩ fl (by unfold Ta;dsimp only;omega)) (.some ?_)
  by_cases he:es=Be (Sc ls up) n.toNat o
  ·rw [Kq.2 ⟨hV,by show o<n;omega,by show s≤iz sq o.toNat;omega,hr,.inr (.inl he)⟩]
   try dsimp only
   rw [decide_eq_true (by rw [←he])]
  ·rw [no fun h=>by
     rcases h.2.2.2.2 with h|h|h
     ·exact hlt h
     ·exact he h
     ·exact h]
   try dsimp only
   rw [dF (by intro e;injection e with _ _ e;exact he e)]
set_option maxHeartbeats 2000000 in
theorem dD (g:GV w.n w.ls) (hu:w.up.length=w.ls.length) (hsq:(w.sq.length:Int)=w.n) (l:Ls) (hl:Sm l.e):PB (w.n,w.ls,w.up,w.sq,w.db,w.net,l.o,l.s,l.e,())=some (poss w l,()):=by
  have h14:=g.2.2.1
  have fl:Ta l.e:=by unfold Ta;unfold Sm at hl;omega
  have fls:Ta w.ls:=by unfold Ta;omega
  unfold Sm at hl
  have no:¬Vg w Tb l→poss w l=false:=fun h=>ZC.2 h
  cases l with|mk o s es =>
  cases w with|mk n ls up sq db net =>
  dsimp only at *
  unfold PB
  dsimp only
  rw [bA o s es fl]
  refine Aa.out (Aa.ite (fun hc=>.some ?_) (fun hc=>?_))
  ·rw [no fun h=>oF (show Ug o s es=false by simpa using hc) h.1]
  have hV:Nf ⟨o,s,es⟩:=oT (show Ug o s es=true by simpa using hc)
  have h0:0≤o:=hV.1
  refine Aa.ite (fun hc=>.some ?_) (fun hc=>?_)
  ·have hc:=oT hc
   rw [no fun h=>by have:o<n:=h.2.1;omega]
  have hn:=oF hc
  simp only [Wh]
  refine Aa.gd (Ja (by omega) (by omega)) (Aa.ite (fun hc=>.some ?_) (fun hc=>?_))
  ·have hc:iz sq o.toNat<s:=oT hc
   rw [no fun h=>by have:s≤iz sq o.toNat:=h.2.2.1;omega]
  have hs:¬iz sq o.toNat<s:=oF hc
  try simp only [La]
  refine Aa.bnd (R:=fun r=>match r with| .inl x=>x=(n,ls,up,sq,db,net,o,s,es,())∧∀e∈es,lc ls o e.n=some e.c| .inr y=>y=(false,())∧¬∀e∈es,lc ls o e.n=some e.c) ?_ ?_
  ·refine Aa.count es.length (fun k t=>t=((k:Int),n,ls,up,sq,db,net,o,s,es,())∧∀i,i<k→lc ls o (en es i).n=some (en es i).c) ?_ (Nat.zero_le _) (Sb (by omega)) ⟨rfl,fun i hi=>by omega⟩
   rintro k t hk ⟨rfl,hok⟩
   by_cases hlt:k<es.length
   ·have hm:en es k∈es:=by rw [Xh hlt];exact List.getElem_mem hlt
    simp (disch:=omega) only [OB,Jl,Ng,Wa,Sa,La,aV _ _ _ _ fls,Option.bind_some]
    refine Aa.gd (decide_eq_true (by omega)) (Aa.gd (Ja (by omega) (by omega)) (Aa.ite (fun hc=>.some ⟨rfl,?_⟩) (fun hc=>?_)))
    ·have hc:=oT hc
     intro h
     have:=(Dw (h _ hm)).1
     omega
    ·have hc:=oF hc
     have hlo:=dC ls o (en es k).n
     repeat refine Aa.gd (Ja (by omega) (by omega)) ?_
     refine Aa.ite (fun hc2=>.some ⟨rfl,?_⟩) (fun hc2=>.some ⟨hlt,rfl,fun i hi=>?_⟩)
     ·have hc2:¬(lk ls (Fc ls o (en es k).n).toNat).c=(en es k).c:=by simpa using hc2
      intro h
      have:=(Dw (h _ hm)).2.2
      rw [this] at hc2
      exact hc2 rfl
     ·have hc2:(lk ls (Fc ls o (en es k).n).toNat).c=(en es k).c:=by simpa using hc2
      by_cases e:i<k
      ·exact hok i e
      ·obtain rfl:i=k:=by omega
       unfold lc
       rw [if_pos (by omega),hc2]
   ·obtain rfl:k=es.length:=by omega
    unfold OB
    simp only [La]
    refine Aa.no (dF (by omega)) (.some ⟨rfl,fun e he=>?_⟩)
    obtain ⟨i,hi,rfl⟩:=List.getElem_of_mem he
    rw [←Xh hi]
    exact hok i hi
  rintro (r|r) hr
  case inr =>
    obtain ⟨rfl,hr⟩:=hr
    exact .some (by rw [no fun h=>hr h.2.2.2.1])
  obtain ⟨rfl,hr⟩:=hr
  simp only [Wh]
  refine Aa.gd (Ja (by omega) (by omega)) (Aa.ite (fun hc=>.some ?_) (fun hc=>?_))
  ·have hc:s<iz sq o.toNat:=oT hc
   rw [Kq.2 ⟨hV,by show o<n;omega,by show s≤iz sq o.toNat;omega,hr,.inl hc⟩]
  have hlt:¬s<iz sq o.toNat:=oF hc
  refine Ub (cS ⟨n,ls,up,sq,db,net⟩ hu (by show ls.length≤1000;omega)) ?_
  dsimp only
  refine Ub (vT (Fq g up) o s) ?_
  have hel:=bM (N:=n.toNat) (ls:=Sc ls up) o
  have hn8:=g.2.1
  refine Ub (cA ⟨o,s,es⟩ ⟨o,s,Be (Sc ls up) n.toNat o⟩ fl (by unfold Ta;dsimp only;omega)) (.some ?_)
  by_cases he:es=Be (Sc ls up) n.toNat o
  ·rw [Kq.2 ⟨hV,by show o<n;omega,by show s≤iz sq o.toNat;omega,hr,.inr (.inl he)⟩]
   try dsimp only
   rw [decide_eq_true (by rw [←he])]
  ·rw [no fun h=>by
     rcases h.2.2.2.2 with h|h|h
     ·exact hlt h
     ·exact he h
     ·exact h]
   try dsimp only
   rw [dF (by intro e;injection e with _ _ e;exact he e)]
end
end
end Go.Proofs.YtknkhdjhongklaaGreat
