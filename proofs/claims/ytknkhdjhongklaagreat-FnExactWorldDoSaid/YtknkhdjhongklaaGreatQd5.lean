/- Part 5 of the proof: SC Pq SX Pk1 UD Pr Ps Py SW Pe1 Pe2 Pz Px Pw1 Pw Pw2 Pw3 Pw4 Pw5 Pw8 SV Pe3 Pe4. -/
import Derived.Test.YtknkhdjhongklaaGreatQd4
set_option linter.unusedSimpArgs false
set_option linter.unusedVariables false
set_option maxRecDepth 100000
namespace Go.Proofs.YtknkhdjhongklaaGreat
section
open Go.RowKit
def Dz (s:Y2):Option Y6:=some ((!(decide (s.1=s.1))),())
def KJ (s:Yb):Option Y2:=(Dz (s.1,())).bind fun r0=>(Dz s.2).bind fun r1=>(bif r0.1 then (bif r1.1 then some (0,()) else some ((-(1)),())) else (bif r1.1 then some (1,()) else (bif decide (s.1<s.2.1) then some ((-(1)),()) else (bif decide (s.2.1<s.1) then some (1,()) else some (0,())))))
def LJ (s:(List Ls×Int×Int×Y3)):Option ((List Ls×Int×Int×Y3)⊕(Y3⊕(Bool×Y3))):=(bif decide (s.2.2.1<nI (List.length s.1)) then (bif Ea s.2.2.1 (List.length s.1) then (bif decide ((Ba .ls s.1 (Int.toNat s.2.2.1)).o=s.2.1) then (bif Ea s.2.2.1 (List.length s.1) then some (Sum.inr (Sum.inr (true,(Ba .ls s.1 (Int.toNat s.2.2.1)).o,(Ba .ls s.1 (Int.toNat s.2.2.1)).s,(Ba .ls s.1 (Int.toNat s.2.2.1)).e,()))) else none) else some (Sum.inl (s.1,s.2.1,wrap64 (s.2.2.1+1),s.2.2.2))) else none) else some (Sum.inr (Sum.inl s.2.2.2)))
def Ez (s:(List Ls×Y2)):Option (Int×Int×List En×Y6):=(lp LJ Fa (s.1,s.2.1,0,0,0,([]:List En),())).bind fun r0=>(match r0 with| .inl _=>some (0,0,([]:List En),false,())| .inr y1=>some (y1.2.1,y1.2.2.1,y1.2.2.2.1,y1.1,()))
def MJ (s:(List En×Int×Int×Y3)):Option ((List En×Int×Int×Y3)⊕((Unit)⊕Y6)):=(bif decide (s.2.2.1<s.2.1) then (bif Ea s.2.2.1 (List.length s.1) then (Pi ((Ba .en s.1 (Int.toNat s.2.2.1)).n,0,7,())).bind fun r0=>(bif (!r0.1) then some (Sum.inr (Sum.inr (false,()))) else (bif decide ((Ba .en s.1 (Int.toNat s.2.2.1)).n=s.2.2.2.1) then some (Sum.inr (Sum.inr (false,()))) else (Pi ((Ba .en s.1 (Int.toNat s.2.2.1)).c,1,20,())).bind fun r1=>(bif (!r1.1) then some (Sum.inr (Sum.inr (false,()))) else (bif decide (0<s.2.2.1) then (bif Ea (wrap64 (s.2.2.1-1)) (List.length s.2.2.2.2.2.1) then (bif decide ((Ba .en s.1 (Int.toNat s.2.2.1)).n≤(Ba .en s.2.2.2.2.2.1 (Int.toNat (wrap64 (s.2.2.1-1)))).n) then some (Sum.inr (Sum.inr (false,()))) else some (Sum.inl (s.1,s.2.1,wrap64 (s.2.2.1+1),s.2.2.2))) else none) else some (Sum.inl (s.1,s.2.1,wrap64 (s.2.2.1+1),s.2.2.2)))))) else none) else some (Sum.inr (Sum.inl ())))
def Fz (s:Y3):Option Y6:=(Pi (s.1,0,7,())).bind fun r0=>(bif (!r0.1) then some (false,()) else (Pi (s.2.1,1,99,())).bind fun r1=>(bif (!r1.1) then some (false,()) else (lp MJ Fa (s.2.2.1,nI (List.length s.2.2.1),0,s)).bind fun r2=>(match r2 with| .inl _=>some (true,())| .inr y3=>some (y3.1,()))))
def NJ (s:(Int×Y3)):Option ((Int×Y3)⊕(Y3⊕Y6)):=(bif decide (s.1<nI (List.length s.2.2.2.1)) then (bif Ea s.1 (List.length s.2.2.2.1) then (Vg ((Ba .en s.2.2.2.1 (Int.toNat s.1)).n,0,7,())).bind fun r0=>(bif (!r0.1) then some (Sum.inr (Sum.inr (false,()))) else (bif decide ((Ba .en s.2.2.2.1 (Int.toNat s.1)).n=s.2.1) then some (Sum.inr (Sum.inr (false,()))) else (Vg ((Ba .en s.2.2.2.1 (Int.toNat s.1)).c,1,20,())).bind fun r1=>(bif (!r1.1) then some (Sum.inr (Sum.inr (false,()))) else (bif decide (0<s.1) then (bif Ea (wrap64 (s.1-1)) (List.length s.2.2.2.1) then (bif decide ((Ba .en s.2.2.2.1 (Int.toNat s.1)).n≤(Ba .en s.2.2.2.1 (Int.toNat (wrap64 (s.1-1)))).n) then some (Sum.inr (Sum.inr (false,()))) else some (Sum.inl (wrap64 (s.1+1),s.2))) else none) else some (Sum.inl (wrap64 (s.1+1),s.2)))))) else none) else some (Sum.inr (Sum.inl s.2)))
def Gz (s:Y3):Option Y6:=(lp NJ Fa (0,s)).bind fun r0=>(match r0 with| .inl x1=>(Vg (x1.1,0,7,())).bind fun r2=>(bif r2.1 then (Vg (x1.2.1,1,99,())).bind fun r3=>some r3 else some (false,()))| .inr y1=>some (y1.1,()))
def OJ (s:(Int×Int×Int×List Lk×Int×Int×List En×Y3)):Option ((Int×Int×Int×List Lk×Int×Int×List En×Y3)⊕((Int×Int×List En×Y3)⊕Unit)):=(bif decide (s.2.1<s.2.2.1) then (Xv (s.2.2.1,s.2.2.2.1,s.1,s.2.1,())).bind fun r0=>(bif decide (0≤r0.1) then (bif Ea r0.1 (List.length s.2.2.2.1) then (bif decide ((List.length s.2.2.2.2.2.2.2.2.2.1+List.length [(En.mk s.2.1 ((Ba .lk s.2.2.2.1 (Int.toNat r0.1)).c))])≤(33554432:Nat)) then some (Sum.inl (s.1,wrap64 (s.2.1+1),s.2.2.1,s.2.2.2.1,s.2.2.2.2.1,s.2.2.2.2.2.1,s.2.2.2.2.2.2.1,s.2.2.2.2.2.2.2.1,s.2.2.2.2.2.2.2.2.1,(s.2.2.2.2.2.2.2.2.2.1++[(En.mk s.2.1 ((Ba .lk s.2.2.2.1 (Int.toNat r0.1)).c))]),())) else none) else none) else some (Sum.inl (s.1,wrap64 (s.2.1+1),s.2.2))) else some (Sum.inr (Sum.inl s.2.2.2.2)))
def Aw (s:(Int×List Lk×Yb)):Option Y3:=(lp OJ Fa (s.2.2.1,0,s.1,s.2.1,0,0,([]:List En),s.2.2.1,s.2.2.2.1,([]:List En),())).bind fun r0=>(match r0 with| .inl x1=>some x1.2.2.2| .inr _=>none)
def Hz (s:(List Ls×List Ls×Yb)):Option ((List Ls×List Ls×Yb)⊕((Unit)⊕Y6)):=(bif decide (s.2.2.2.1<s.2.2.1) then (bif Ea s.2.2.2.1 (List.length s.2.1) then (Fz ((Ba .ls s.2.1 (Int.toNat s.2.2.2.1)).o,(Ba .ls s.2.1 (Int.toNat s.2.2.2.1)).s,(Ba .ls s.2.1 (Int.toNat s.2.2.2.1)).e,())).bind fun r0=>(bif (!r0.1) then some (Sum.inr (Sum.inr (false,()))) else (bif decide (0<s.2.2.2.1) then (bif Ea (wrap64 (s.2.2.2.1-1)) (List.length s.1) then (bif decide ((Ba .ls s.2.1 (Int.toNat s.2.2.2.1)).o≤(Ba .ls s.1 (Int.toNat (wrap64 (s.2.2.2.1-1)))).o) then some (Sum.inr (Sum.inr (false,()))) else some (Sum.inl (s.1,s.2.1,s.2.2.1,wrap64 (s.2.2.2.1+1),()))) else none) else some (Sum.inl (s.1,s.2.1,s.2.2.1,wrap64 (s.2.2.2.1+1),())))) else none) else some (Sum.inr (Sum.inl ())))
def PJ (s:Y8):Option Y6:=(lp Hz Fa (s.1,s.1,nI (List.length s.1),0,())).bind fun r0=>(match r0 with| .inl _=>some (true,())| .inr y1=>some (y1.1,()))
def Iz (s:(List Ls×Y2)):Option ((List Ls×Y2)⊕((Unit)⊕Y6)):=(bif decide (s.2.1<nI (List.length s.1)) then (bif Ea s.2.1 (List.length s.1) then (Gz ((Ba .ls s.1 (Int.toNat s.2.1)).o,(Ba .ls s.1 (Int.toNat s.2.1)).s,(Ba .ls s.1 (Int.toNat s.2.1)).e,())).bind fun r0=>(bif (!r0.1) then some (Sum.inr (Sum.inr (false,()))) else (bif decide (0<s.2.1) then (bif Ea (wrap64 (s.2.1-1)) (List.length s.1) then (bif Ea s.2.1 (List.length s.1) then (bif decide ((Ba .ls s.1 (Int.toNat s.2.1)).o≤(Ba .ls s.1 (Int.toNat (wrap64 (s.2.1-1)))).o) then some (Sum.inr (Sum.inr (false,()))) else some (Sum.inl (s.1,wrap64 (s.2.1+1),()))) else none) else none) else some (Sum.inl (s.1,wrap64 (s.2.1+1),())))) else none) else some (Sum.inr (Sum.inl ())))
def QJ (s:Y8):Option Y6:=(lp Iz Fa (s.1,0,())).bind fun r0=>(match r0 with| .inl _=>some (true,())| .inr y1=>some (y1.1,()))
def Jz (s:(Int×Int×List En×Y2)):Option Y2:=(KJ (s.1,s.2.2.2)).bind fun r0=>some r0
def RJ (s:(List Ls×Int×Int×Yb)):Option ((List Ls×Int×Int×Yb)⊕((List Ls×Int×Yb)⊕Unit)):=(bif decide (s.2.2.2.1<s.2.2.2.2.1) then (bif Ea (wrap64 (Kk .u64 (Pf .u64 (wrap64 (s.2.2.2.1+s.2.2.2.2.1))) (1))) (List.length s.1) then (Jz ((Ba .ls s.1 (Int.toNat (wrap64 (Kk .u64 (Pf .u64 (wrap64 (s.2.2.2.1+s.2.2.2.2.1))) (1))))).o,(Ba .ls s.1 (Int.toNat (wrap64 (Kk .u64 (Pf .u64 (wrap64 (s.2.2.2.1+s.2.2.2.2.1))) (1))))).s,(Ba .ls s.1 (Int.toNat (wrap64 (Kk .u64 (Pf .u64 (wrap64 (s.2.2.2.1+s.2.2.2.2.1))) (1))))).e,s.2.1,())).bind fun r0=>(bif decide (r0.1<0) then some (Sum.inl (s.1,s.2.1,s.2.2.1,wrap64 (wrap64 (Kk .u64 (Pf .u64 (wrap64 (s.2.2.2.1+s.2.2.2.2.1))) (1))+1),s.2.2.2.2)) else some (Sum.inl (s.1,s.2.1,s.2.2.1,s.2.2.2.1,wrap64 (Kk .u64 (Pf .u64 (wrap64 (s.2.2.2.1+s.2.2.2.2.1))) (1)),()))) else none) else some (Sum.inr (Sum.inl (s.1,s.2.1,s.2.2.1,s.2.2.2.1,()))))
def TS (s:(List Ls×Y2)):Option (Int×Y6):=(lp RJ Fa (s.1,s.2.1,nI (List.length s.1),0,nI (List.length s.1),())).bind fun r0=>(match r0 with| .inl x1=>(bif decide (x1.2.2.2.1<x1.2.2.1) then (bif Ea x1.2.2.2.1 (List.length x1.1) then (Jz ((Ba .ls x1.1 (Int.toNat x1.2.2.2.1)).o,(Ba .ls x1.1 (Int.toNat x1.2.2.2.1)).s,(Ba .ls x1.1 (Int.toNat x1.2.2.2.1)).e,x1.2.1,())).bind fun r2=>some (x1.2.2.2.1,decide (r2.1=0),()) else none) else some (x1.2.2.2.1,false,()))| .inr _=>none)
def Cw (s:(List Ls×Y2)):Option (Int×Y6):=(TS s).bind fun r0=>some r0
def Kz (s:(Int×Int×Int×Int×List Lk×Int×Int×Int×Int×List Int×List En×List En×Unit)):Option ((Int×Int×Int×Int×List Lk×Int×Int×Int×Int×List Int×List En×List En×Unit)⊕((Int×Int×Int×Int×List En×List En×Unit)⊕Unit)):=(bif decide (s.2.2.1<s.2.1) then (bif Ea s.2.2.1 (List.length s.2.2.2.2.2.2.2.2.2.1) then (Cz (s.2.2.2.1,s.2.2.2.2.1,s.1,Ba .int s.2.2.2.2.2.2.2.2.2.1 (Int.toNat s.2.2.1),())).bind fun r0=>(bif Ea r0.1 (List.length s.2.2.2.2.1) then (bif decide ((List.length s.2.2.2.2.2.2.2.2.2.2.2.1+List.length [(En.mk (Ba .int s.2.2.2.2.2.2.2.2.2.1 (Int.toNat s.2.2.1)) ((Ba .lk s.2.2.2.2.1 (Int.toNat r0.1)).c))])≤(33554432:Nat)) then some (Sum.inl (s.1,s.2.1,wrap64 (s.2.2.1+1),s.2.2.2.1,s.2.2.2.2.1,s.2.2.2.2.2.1,s.2.2.2.2.2.2.1,s.2.2.2.2.2.2.2.1,s.2.2.2.2.2.2.2.2.1,s.2.2.2.2.2.2.2.2.2.1,s.2.2.2.2.2.2.2.2.2.2.1,(s.2.2.2.2.2.2.2.2.2.2.2.1++[(En.mk (Ba .int s.2.2.2.2.2.2.2.2.2.1 (Int.toNat s.2.2.1)) ((Ba .lk s.2.2.2.2.1 (Int.toNat r0.1)).c))]),())) else none) else none) else none) else some (Sum.inr (Sum.inl (s.2.2.2.2.2.1,s.2.2.2.2.2.2.1,s.2.2.2.2.2.2.2.1,s.2.2.2.2.2.2.2.2.1,s.2.2.2.2.2.2.2.2.2.2))))
def Dw (s:(Int×List Lk×Yb)):Option Y3:=(Yv (s.1,s.2.1,s.2.2.1,())).bind fun r0=>(lp Kz Fa (s.2.2.1,nI (List.length r0.1),0,s.1,s.2.1,0,0,s.2.2.1,s.2.2.2.1,r0.1,([]:List En),([]:List En),())).bind fun r1=>(match r1 with| .inl x2=>some (x2.2.2.1,x2.2.2.2.1,x2.2.2.2.2.2)| .inr _=>none)
end
section
open Go.RowKit
def en (es:List En) (i:Nat):En:=es.getD i ⟨0,0⟩
def Ya (db:List Ls) (i:Nat):Ls:=db.getD i ⟨0,0,[]⟩
theorem Ro (es:List En) (i:Nat):Ba .en es i=en es i:=by
  induction es generalizing i with
  |nil=>rfl
  |cons z r ih=>cases i with
   |zero=>rfl
   |succ i=>exact (ih i).trans (by simp [en])
theorem Wg (es:List Ls) (i:Nat):Ba .ls es i=Ya es i:=by
  induction es generalizing i with
  |nil=>rfl
  |cons z r ih=>cases i with
   |zero=>rfl
   |succ i=>exact (ih i).trans (by simp [Ya])
theorem Ew {es:List En} {i:Nat} (h:i<es.length):en es i=es[i]:=by simp [en,h]
theorem Hd {es:List Ls} {i:Nat} (h:i<es.length):Ya es i=es[i]:=by simp [Ya,h]
def Ij (o:Int) (es:List En) (i:Nat):Prop:=0≤(en es i).n∧(en es i).n≤7∧(en es i).n≠o∧1≤(en es i).c∧(en es i).c≤20∧(0<i→(en es (i-1)).n<(en es i).n)
instance (o:Int) (es:List En) (i:Nat):Decidable (Ij o es i):=by unfold Ij;infer_instance
def Cf (l:Ls):Prop:=0≤l.o∧l.o≤7∧1≤l.s∧l.s≤99∧∀i,i<l.e.length→Ij l.o l.e i
instance (l:Ls):Decidable (Cf l):=by unfold Cf;infer_instance
def Ch (o s:Int) (es:List En):Bool:=decide (Cf ⟨o,s,es⟩)
theorem Z9 {o s:Int} {es:List En} (h:¬Cf ⟨o,s,es⟩):Ch o s es=false:=dF h
theorem aA (o s:Int) (es:List En) (hl:Wa es):Fz (o,s,es,())=some (Ch o s es,()):=by
  unfold Fz
  simp only [Gq,Option.bind_some,La]
  cases h1:Mc o 0 7 with
  |false=>simp;exact Z9 fun g=>Rh h1 ⟨g.1,g.2.1⟩
  |true =>
  cases h2:Mc s 1 99 with
  |false=>simp;exact Z9 fun g=>Rh h2 ⟨g.2.2.1,g.2.2.2.1⟩
  |true =>
  have h1:=Ui h1
  have h2:=Ui h2
  simp only [Bool.not_true,cond_false]
  refine Aa.out (Aa.bnd (R:=fun r=>match r with| .inl _=>Ch o s es=true| .inr y=>y.1=false∧Ch o s es=false) ?_ ?_)
  ·refine Aa.count es.length (fun k t=>t=(es,(es.length:Int),(k:Int),o,s,es,())∧∀i,i<k→Ij o es i) ?_ (Nat.zero_le _) (Cc (by omega)) ⟨rfl,fun i hi=>by omega⟩
   rintro k t hk ⟨rfl,hok⟩
   simp (disch:=omega) only [MJ,Ro,Ta,Zv,Ua,Gq,Option.bind_some]
   repeat' (first
     |refine Aa.some ?_
     |fail
     |(refine Aa.gd (by first|exact Ia (by omega) (by omega)|(simp (disch:=omega) only [Ua];exact Ia (by omega) (by omega))) ?_)
     |(refine Aa.ite (fun h=>?_) (fun h=>?_)<;>try simp only [decide_eq_true_eq,decide_eq_false_iff_not,Bool.not_eq_true',Bool.not_eq_false',Vi,Wi,Bool.and_eq_true,Bool.or_eq_true,Bool.and_eq_false_iff,Bool.or_eq_false_iff,El] at h))
   all_goals try dsimp only
   all_goals first
     |(refine ⟨rfl,dF fun g=>?_⟩
       have:=g.2.2.2.2 k (by dsimp only;omega)
       unfold Ij at this
       dsimp only at this
       omega)
     |(refine ⟨by omega,rfl,fun i hi=>?_⟩
       by_cases e:i<k
       ·exact hok i e
       ·obtain rfl:i=k:=by omega
        unfold Ij
        omega)
     |exact decide_eq_true ⟨h1.1,h1.2,h2.1,h2.2,fun i hi=>hok i (by dsimp only at hi;omega)⟩
  ·rintro (r|r) hr
   ·have hr:Ch o s es=true:=hr
    exact .some (by first | rw [hr] | exact Prod.ext hr rfl)
   ·obtain ⟨b,u⟩:=r
    have hr:b=false∧Ch o s es=false:=hr
    exact .some (by first | rw [hr.1,hr.2] | exact Prod.ext hr.1 (Prod.ext hr.2 rfl))
theorem aB (o s:Int) (es:List En) (hl:Wa es):Gz (o,s,es,())=some (Ch o s es,()):=by
  unfold Gz
  refine Aa.out (Aa.bnd (R:=fun r=>match r with| .inl x=>x=(o,s,es,())∧∀i,i<es.length→Ij o es i| .inr y=>y.1=false∧Ch o s es=false) ?_ ?_)
  ·refine Aa.count es.length (fun k t=>t=((k:Int),o,s,es,())∧∀i,i<k→Ij o es i) ?_ (Nat.zero_le _) (Cc (by omega)) ⟨rfl,fun i hi=>by omega⟩
   rintro k t hk ⟨rfl,hok⟩
   simp (disch:=omega) only [NJ,Ro,Ta,Zv,Ua,La,Qo,Option.bind_some]
   repeat' (first
     |refine Aa.some ?_
     |fail
     |(refine Aa.gd (by first|exact Ia (by omega) (by omega)|(simp (disch:=omega) only [Ua];exact Ia (by omega) (by omega))) ?_)
     |(refine Aa.ite (fun h=>?_) (fun h=>?_)<;>try simp only [decide_eq_true_eq,decide_eq_false_iff_not,Bool.not_eq_true',Bool.not_eq_false',Vi,Wi,Bool.and_eq_true,Bool.or_eq_true,Bool.and_eq_false_iff,Bool.or_eq_false_iff,El] at h))
   all_goals try dsimp only
   all_goals first
     |(refine ⟨rfl,dF fun g=>?_⟩
       have:=g.2.2.2.2 k (by dsimp only;omega)
       unfold Ij at this
       dsimp only at this
       omega)
     |(refine ⟨by omega,rfl,fun i hi=>?_⟩
       by_cases e:i<k
       ·exact hok i e
       ·obtain rfl:i=k:=by omega
        unfold Ij
        omega)
     |exact ⟨rfl,fun i hi=>hok i (by omega)⟩
  ·rintro (r|r) hr
   ·have hr:r=(o,s,es,())∧∀i,i<es.length→Ij o es i:=hr
    obtain ⟨rfl,hq⟩:=hr
    simp only [Qo,Option.bind_some]
    cases h1:Mc o 0 7 with
    |false=>exact .some (by rw [show Ch o s es=false from dF fun g=>Rh h1 ⟨g.1,g.2.1⟩])
    |true =>
     cases h2:Mc s 1 99 with
     |false=>exact .some (by rw [show Ch o s es=false from dF fun g=>Rh h2 ⟨g.2.2.1,g.2.2.2.1⟩])
     |true =>
      have h1:=Ui h1
      have h2:=Ui h2
      exact .some (by rw [show Ch o s es=true from decide_eq_true ⟨h1.1,h1.2,h2.1,h2.2,hq⟩])
   ·obtain ⟨b,u⟩:=r
    have hr:b=false∧Ch o s es=false:=hr
    exact .some (by first | rw [hr.1,hr.2] | exact Prod.ext hr.1 (Prod.ext hr.2 rfl))
def Ke (db:List Ls):Prop:=∀i,i<db.length→Cf (Ya db i)∧(0<i→(Ya db (i-1)).o<(Ya db i).o)
instance (db:List Ls):Decidable (Ke db):=by unfold Ke;infer_instance
def Ai (db:List Ls):Bool:=decide (Ke db)
theorem rH (db:List Ls) (hl:Wa db) (he:∀l∈db,Wa l.e):PJ (db,())=some (Ai db,()):=by
  unfold PJ
  refine Aa.out (Aa.bnd (R:=fun r=>match r with| .inl _=>Ai db=true| .inr y=>y.1=false∧Ai db=false) ?_ ?_)
  ·refine Aa.count db.length (fun k t=>t=(db,db,(db.length:Int),(k:Int),())∧∀i,i<k→Cf (Ya db i)∧(0<i→(Ya db (i-1)).o<(Ya db i).o)) ?_ (Nat.zero_le _) (Cc (by omega)) ⟨by simp [La],fun i hi=>by omega⟩
   rintro k t hk ⟨rfl,hok⟩
   by_cases hlt:k<db.length
   ·have hf:Wa (Ya db k).e:=he _ (by rw [Hd hlt];exact List.getElem_mem hlt)
    simp (disch:=omega) only [Hz,Wg,Ta,Zv,Ua,aA _ _ _ hf,Option.bind_some]
    repeat' (first
      |refine Aa.some ?_
      |fail
      |(refine Aa.gd (by first|exact Ia (by omega) (by omega)|(simp (disch:=omega) only [Ua];exact Ia (by omega) (by omega))) ?_)
      |(refine Aa.ite (fun h=>?_) (fun h=>?_)<;>try simp only [decide_eq_true_eq,decide_eq_false_iff_not,Bool.not_eq_true',Bool.not_eq_false',Vi,Wi,Bool.and_eq_true,Bool.or_eq_true,Bool.and_eq_false_iff,Bool.or_eq_false_iff,El] at h))
    all_goals try dsimp only
    all_goals first
      |(refine ⟨rfl,dF fun g=>?_⟩
        have:=g k hlt
        first|exact oF (by assumption) this.1|omega)
      |(refine ⟨by omega,rfl,fun i hi=>?_⟩
        by_cases e:i<k
        ·exact hok i e
        ·obtain rfl:i=k:=by omega
         exact ⟨oT (by assumption),fun _=>by omega⟩)
      |omega
   ·obtain rfl:k=db.length:=by omega
    unfold Hz
    simp only [dF (show ¬(db.length:Int)<db.length by omega),cond_false]
    exact .some (decide_eq_true hok)
  ·rintro (r|r) hr
   ·have hr:Ai db=true:=hr
    exact .some (by first | rw [hr] | exact Prod.ext hr rfl)
   ·obtain ⟨b,u⟩:=r
    have hr:b=false∧Ai db=false:=hr
    exact .some (by first | rw [hr.1,hr.2] | exact Prod.ext hr.1 (Prod.ext hr.2 rfl))
def fd (db:List Ls) (o:Int):Option Ls:=db.find? fun l=>decide (l.o=o)
def ec (es:List En) (b:Int):Int:=match es.find? (fun e=>decide (e.n=b)) with|some e=>e.c|none=>0
theorem aC {α:Type} {p:α→Bool} {l:List α} {k:Nat} (hk:k<l.length) (h:p l[k]=true) (hn:∀i (hi:i<l.length),i<k→p l[i]=false):l.find? p=some l[k]:=by
  rw [List.find?_eq_some_iff_getElem]
  exact ⟨h,k,hk,rfl,fun j hj=>by simp [hn j (by omega) hj]⟩
theorem aD {α:Type} {p:α→Bool} {l:List α} (hn:∀i (hi:i<l.length),p l[i]=false):l.find? p=none:=by
  rw [List.find?_eq_none]
  intro x hx
  obtain ⟨i,hi,rfl⟩:=List.getElem_of_mem hx
  simp [hn i hi]
theorem aE (db:List Ls) (o:Int) (hl:Wa db):Ez (db,o,())=some (match fd db o with|some l=>(l.o,l.s,l.e,true,())|none=>(0,0,[],false,())):=by
  unfold Ez
  refine Aa.out (Aa.bnd (R:=fun r=>match r with| .inl _=>fd db o=none| .inr y=>∃l,fd db o=some l∧y=(true,l.o,l.s,l.e,())) ?_ ?_)
  ·refine Aa.count db.length (fun k t=>t=(db,o,(k:Int),0,0,[],())∧∀i,i<k→(Ya db i).o≠o) ?_ (Nat.zero_le _) (Cc (by omega)) ⟨rfl,fun i hi=>by omega⟩
   rintro k t hk ⟨rfl,hok⟩
   simp (disch:=omega) only [LJ,Wg,Ta,Ua,La]
   repeat' (first
     |refine Aa.some ?_
     |fail
     |(refine Aa.gd (by first|exact Ia (by omega) (by omega)|(simp (disch:=omega) only [Ua];exact Ia (by omega) (by omega))) ?_)
     |(refine Aa.ite (fun h=>?_) (fun h=>?_)<;>try simp only [decide_eq_true_eq,decide_eq_false_iff_not,Bool.not_eq_true',Bool.not_eq_false',Vi,Wi,Bool.and_eq_true,Bool.or_eq_true,Bool.and_eq_false_iff,Bool.or_eq_false_iff,El] at h))
   all_goals try dsimp only
   ·have hlt:k<db.length:=by omega
    refine ⟨Ya db k,?_,rfl⟩
    unfold fd
    rw [Hd hlt]
    exact aC hlt (decide_eq_true (by rw [←Hd hlt];assumption)) fun i hi hik=>dF (by rw [←Hd hi];exact hok i hik)
   ·refine ⟨by omega,rfl,fun i hi=>?_⟩
    by_cases e:i<k
    ·exact hok i e
    ·obtain rfl:i=k:=by omega
     assumption
   ·exact aD fun i hi=>dF (by rw [←Hd hi];exact hok i (by omega))
  ·rintro (r|r) hr
   ·have hr:fd db o=none:=hr
    exact .some (by first | rw [hr] | exact Prod.ext hr rfl)
   ·obtain ⟨l,h1,rfl⟩:=hr
    exact .some (by rw [h1])
end
section
open Go.RowKit
def SJ (s:(List Lk×Y2)):Option Y2:=(bif decide (wrap64 (s.2.1-nI (List.length s.1))<0) then some ((-(1)),()) else some (wrap64 (s.2.1-nI (List.length s.1)),()))
def Lz (s:(Int×List Lk×Y2)):Option Y2:=(SJ s.2).bind fun r0=>(bif decide (r0.1<0) then some ((-(1)),()) else some r0)
def US (s:(Int×Yb)):Option (Int×Yb):=some s
def VS (s:(Int×Int×Int×Int×Yb)):Option Y6:=(bif (!(decide (s.1=s.2.2.2.1))) then some (false,()) else (bif (!(decide (s.2.1=s.2.2.2.2.1))) then some (false,()) else (bif (!(decide (s.2.2.1=s.2.2.2.2.2.1))) then some (false,()) else some (true,()))))
def Mz (s:(List Int×Int×Yf)):Option ((List Int×Int×Yf)⊕(Yf⊕Unit)):=(bif decide (s.2.1<nI (List.length s.1)) then (bif Ea s.2.1 (List.length s.1) then (bif Ea s.2.1 (List.length s.2.2.1) then some (Sum.inl (s.1,wrap64 (s.2.1+1),List.set s.2.2.1 (Int.toNat s.2.1) (Ba .int s.1 (Int.toNat s.2.1)),())) else none) else none) else some (Sum.inr (Sum.inl s.2.2)))
def TJ (s:Yf):Option Yf:=(bif (decide (nI (List.length s.1)=nI (List.length s.1))&&(decide (0≤nI (List.length s.1))&&decide (nI (List.length s.1)≤16777216))) then (lp Mz Fa (s.1,0,List.replicate (Int.toNat (nI (List.length s.1))) (Uh .int),())).bind fun r0=>(match r0 with| .inl x1=>some x1| .inr _=>none) else none)
def Nz (s:(List Lk×Y5)):Option ((List Lk×Y5)⊕((List Lk×Unit)⊕Unit)):=(bif decide (s.2.1<nI (List.length s.1)) then (bif Ea s.2.1 (List.length s.1) then (US ((Ba .lk s.1 (Int.toNat s.2.1)).a,(Ba .lk s.1 (Int.toNat s.2.1)).b,(Ba .lk s.1 (Int.toNat s.2.1)).c,())).bind fun r0=>(bif Ea s.2.1 (List.length s.2.2.1) then some (Sum.inl (s.1,wrap64 (s.2.1+1),List.set s.2.2.1 (Int.toNat s.2.1) (Lk.mk r0.1 r0.2.1 r0.2.2.1),())) else none) else none) else some (Sum.inr (Sum.inl s.2.2)))
def UJ (s:(List Lk×Unit)):Option (List Lk×Unit):=(bif (decide (nI (List.length s.1)=nI (List.length s.1))&&(decide (0≤nI (List.length s.1))&&decide (nI (List.length s.1)≤16777216))) then (lp Nz Fa (s.1,0,List.replicate (Int.toNat (nI (List.length s.1))) (Uh .lk),())).bind fun r0=>(match r0 with| .inl x1=>some x1| .inr _=>none) else none)
def Oz (s:(List Int×List Int×Y2)):Option ((List Int×List Int×Y2)⊕((Unit)⊕Y6)):=(bif decide (s.2.2.1<nI (List.length s.1)) then (bif Ea s.2.2.1 (List.length s.1) then (bif Ea s.2.2.1 (List.length s.2.1) then (bif (!(decide (Ba .int s.1 (Int.toNat s.2.2.1)=Ba .int s.2.1 (Int.toNat s.2.2.1)))) then some (Sum.inr (Sum.inr (false,()))) else some (Sum.inl (s.1,s.2.1,wrap64 (s.2.2.1+1),()))) else none) else none) else some (Sum.inr (Sum.inl ())))
def VJ (s:(List Int×Yf)):Option Y6:=(bif (!(decide (nI (List.length s.1)=nI (List.length s.2.1)))) then some (false,()) else (lp Oz Fa (s.1,s.2.1,0,())).bind fun r0=>(match r0 with| .inl _=>some (true,())| .inr y1=>some (y1.1,())))
def WJ (s:(List En×Y2)):Option Y2:=(bif decide (wrap64 (s.2.1-nI (List.length s.1))<0) then some ((-(1)),()) else some (wrap64 (s.2.1-nI (List.length s.1)),()))
def XJ (s:Y5):Option Y5:=(UJ s.2).bind fun r0=>some (s.1,r0)
def Pz (s:(List Lk×List Lk×Y2)):Option ((List Lk×List Lk×Y2)⊕((Unit)⊕Y6)):=(bif decide (s.2.2.1<nI (List.length s.1)) then (bif Ea s.2.2.1 (List.length s.1) then (bif Ea s.2.2.1 (List.length s.2.1) then (VS ((Ba .lk s.1 (Int.toNat s.2.2.1)).a,(Ba .lk s.1 (Int.toNat s.2.2.1)).b,(Ba .lk s.1 (Int.toNat s.2.2.1)).c,(Ba .lk s.2.1 (Int.toNat s.2.2.1)).a,(Ba .lk s.2.1 (Int.toNat s.2.2.1)).b,(Ba .lk s.2.1 (Int.toNat s.2.2.1)).c,())).bind fun r0=>(bif (!r0.1) then some (Sum.inr (Sum.inr (false,()))) else some (Sum.inl (s.1,s.2.1,wrap64 (s.2.2.1+1),()))) else none) else none) else some (Sum.inr (Sum.inl ())))
def YJ (s:(List Lk×List Lk×Unit)):Option Y6:=(bif (!(decide (nI (List.length s.1)=nI (List.length s.2.1)))) then some (false,()) else (lp Pz Fa (s.1,s.2.1,0,())).bind fun r0=>(match r0 with| .inl _=>some (true,())| .inr y1=>some (y1.1,())))
def WS (s:Yb):Option Yb:=some s
def XS (s:(Int×Int×Yb)):Option Y6:=(bif (!(decide (s.1=s.2.2.1))) then some (false,()) else (bif (!(decide (s.2.1=s.2.2.2.1))) then some (false,()) else some (true,())))
def ZJ (s:(Int×List Lk×Y5)):Option Y6:=(bif (!(decide (s.1=s.2.2.1))) then some (false,()) else (YJ (s.2.1,s.2.2.2)).bind fun r0=>(bif (!r0.1) then some (false,()) else some (true,())))
def Qz (s:(List Bool×Int×List Bool×Unit)):Option ((List Bool×Int×List Bool×Unit)⊕((List Bool×Unit)⊕Unit)):=(bif decide (s.2.1<nI (List.length s.1)) then (bif Ea s.2.1 (List.length s.1) then (bif Ea s.2.1 (List.length s.2.2.1) then some (Sum.inl (s.1,wrap64 (s.2.1+1),List.set s.2.2.1 (Int.toNat s.2.1) (Ba .bool s.1 (Int.toNat s.2.1)),())) else none) else none) else some (Sum.inr (Sum.inl s.2.2)))
def AK (s:(List Bool×Unit)):Option (List Bool×Unit):=(bif (decide (nI (List.length s.1)=nI (List.length s.1))&&(decide (0≤nI (List.length s.1))&&decide (nI (List.length s.1)≤16777216))) then (lp Qz Fa (s.1,0,List.replicate (Int.toNat (nI (List.length s.1))) (Uh .bool),())).bind fun r0=>(match r0 with| .inl x1=>some x1| .inr _=>none) else none)
def Rz (s:(List En×Int×List En×Unit)):Option ((List En×Int×List En×Unit)⊕((List En×Unit)⊕Unit)):=(bif decide (s.2.1<nI (List.length s.1)) then (bif Ea s.2.1 (List.length s.1) then (WS ((Ba .en s.1 (Int.toNat s.2.1)).n,(Ba .en s.1 (Int.toNat s.2.1)).c,())).bind fun r0=>(bif Ea s.2.1 (List.length s.2.2.1) then some (Sum.inl (s.1,wrap64 (s.2.1+1),List.set s.2.2.1 (Int.toNat s.2.1) (En.mk r0.1 r0.2.1),())) else none) else none) else some (Sum.inr (Sum.inl s.2.2)))
def BK (s:(List En×Unit)):Option (List En×Unit):=(bif (decide (nI (List.length s.1)=nI (List.length s.1))&&(decide (0≤nI (List.length s.1))&&decide (nI (List.length s.1)≤16777216))) then (lp Rz Fa (s.1,0,List.replicate (Int.toNat (nI (List.length s.1))) (Uh .en),())).bind fun r0=>(match r0 with| .inl x1=>some x1| .inr _=>none) else none)
def CK (s:(List Bool×Y2)):Option Y2:=(bif decide (wrap64 (s.2.1-nI (List.length s.1))<0) then some ((-(1)),()) else some (wrap64 (s.2.1-nI (List.length s.1)),()))
def DK (s:(List Int×Y2)):Option Y2:=(bif decide (wrap64 (s.2.1-nI (List.length s.1))<0) then some ((-(1)),()) else some (wrap64 (s.2.1-nI (List.length s.1)),()))
def Sz (s:Y3):Option Y3:=(BK s.2.2).bind fun r0=>some (s.1,s.2.1,r0)
def Tz (s:(List En×List En×Y2)):Option ((List En×List En×Y2)⊕((Unit)⊕Y6)):=(bif decide (s.2.2.1<nI (List.length s.1)) then (bif Ea s.2.2.1 (List.length s.1) then (bif Ea s.2.2.1 (List.length s.2.1) then (XS ((Ba .en s.1 (Int.toNat s.2.2.1)).n,(Ba .en s.1 (Int.toNat s.2.2.1)).c,(Ba .en s.2.1 (Int.toNat s.2.2.1)).n,(Ba .en s.2.1 (Int.toNat s.2.2.1)).c,())).bind fun r0=>(bif (!r0.1) then some (Sum.inr (Sum.inr (false,()))) else some (Sum.inl (s.1,s.2.1,wrap64 (s.2.2.1+1),()))) else none) else none) else some (Sum.inr (Sum.inl ())))
def EK (s:(List En×List En×Unit)):Option Y6:=(bif (!(decide (nI (List.length s.1)=nI (List.length s.2.1)))) then some (false,()) else (lp Tz Fa (s.1,s.2.1,0,())).bind fun r0=>(match r0 with| .inl _=>some (true,())| .inr y1=>some (y1.1,())))
def Uz (s:(Int×Int×List En×Y2)):Option Y2:=(WJ s.2.2).bind fun r0=>(bif decide (r0.1<0) then some ((-(1)),()) else some r0)
def Vz (s:(List Bool×List Bool×Y2)):Option ((List Bool×List Bool×Y2)⊕((Unit)⊕Y6)):=(bif decide (s.2.2.1<nI (List.length s.1)) then (bif Ea s.2.2.1 (List.length s.1) then (bif Ea s.2.2.1 (List.length s.2.1) then (bif (!(Ba .bool s.1 (Int.toNat s.2.2.1)==Ba .bool s.2.1 (Int.toNat s.2.2.1))) then some (Sum.inr (Sum.inr (false,()))) else some (Sum.inl (s.1,s.2.1,wrap64 (s.2.2.1+1),()))) else none) else none) else some (Sum.inr (Sum.inl ())))
def FK (s:(List Bool×List Bool×Unit)):Option Y6:=(bif (!(decide (nI (List.length s.1)=nI (List.length s.2.1)))) then some (false,()) else (lp Vz Fa (s.1,s.2.1,0,())).bind fun r0=>(match r0 with| .inl _=>some (true,())| .inr y1=>some (y1.1,())))
def rI (s:Yb):Option Yb:=some s
def GK (s:(Int×Y3)):Option (Int×Y3):=(Sz s.2).bind fun r0=>some (s.1,r0)
def IK (s:(Int×Int×Int×List En×Y2)):Option Y2:=(Uz s.2).bind fun r0=>(bif decide (r0.1<0) then some ((-(1)),()) else some r0)
def Wz (s:(Int×Int×List En×Y3)):Option Y6:=(bif (!(decide (s.1=s.2.2.2.1))) then some (false,()) else (bif (!(decide (s.2.1=s.2.2.2.2.1))) then some (false,()) else (EK (s.2.2.1,s.2.2.2.2.2)).bind fun r0=>(bif (!r0.1) then some (false,()) else some (true,()))))
def Xz (s:(List Ls×Int×Y8)):Option ((List Ls×Int×Y8)⊕(Y8⊕Unit)):=(bif decide (s.2.1<nI (List.length s.1)) then (bif Ea s.2.1 (List.length s.1) then (Sz ((Ba .ls s.1 (Int.toNat s.2.1)).o,(Ba .ls s.1 (Int.toNat s.2.1)).s,(Ba .ls s.1 (Int.toNat s.2.1)).e,())).bind fun r0=>(bif Ea s.2.1 (List.length s.2.2.1) then some (Sum.inl (s.1,wrap64 (s.2.1+1),List.set s.2.2.1 (Int.toNat s.2.1) (Ls.mk r0.1 r0.2.1 r0.2.2.1),())) else none) else none) else some (Sum.inr (Sum.inl s.2.2)))
def JK (s:Y8):Option Y8:=(bif (decide (nI (List.length s.1)=nI (List.length s.1))&&(decide (0≤nI (List.length s.1))&&decide (nI (List.length s.1)≤16777216))) then (lp Xz Fa (s.1,0,List.replicate (Int.toNat (nI (List.length s.1))) (Uh .uls),())).bind fun r0=>(match r0 with| .inl x1=>some x1| .inr _=>none) else none)
def Yz (s:(List Ls×Yb)):Option ((List Ls×Yb)⊕(Y2⊕Y2)):=(bif decide (s.2.2.1<nI (List.length s.1)) then (bif Ea s.2.2.1 (List.length s.1) then (Uz ((Ba .ls s.1 (Int.toNat s.2.2.1)).o,(Ba .ls s.1 (Int.toNat s.2.2.1)).s,(Ba .ls s.1 (Int.toNat s.2.2.1)).e,s.2.1,())).bind fun r0=>(bif decide (r0.1<0) then some (Sum.inr (Sum.inr ((-(1)),()))) else some (Sum.inl (s.1,r0.1,wrap64 (s.2.2.1+1),()))) else none) else some (Sum.inr (Sum.inl (s.2.1,()))))
def LK (s:(List Ls×Y2)):Option Y2:=(bif decide (wrap64 (s.2.1-nI (List.length s.1))<0) then some ((-(1)),()) else (lp Yz Fa (s.1,wrap64 (s.2.1-nI (List.length s.1)),0,())).bind fun r0=>(match r0 with| .inl x1=>some x1| .inr y1=>some (y1.1,())))
def Zz (s:(List Pk×Int×List Pk×Unit)):Option ((List Pk×Int×List Pk×Unit)⊕((List Pk×Unit)⊕Unit)):=(bif decide (s.2.1<nI (List.length s.1)) then (bif Ea s.2.1 (List.length s.1) then (GK ((Ba .pk s.1 (Int.toNat s.2.1)).t,((Ba .pk s.1 (Int.toNat s.2.1)).p).o,((Ba .pk s.1 (Int.toNat s.2.1)).p).s,((Ba .pk s.1 (Int.toNat s.2.1)).p).e,())).bind fun r0=>(bif Ea s.2.1 (List.length s.2.2.1) then some (Sum.inl (s.1,wrap64 (s.2.1+1),List.set s.2.2.1 (Int.toNat s.2.1) (Pk.mk r0.1 (Ls.mk r0.2.1 r0.2.2.1 r0.2.2.2.1)),())) else none) else none) else some (Sum.inr (Sum.inl s.2.2)))
def MK (s:(List Pk×Unit)):Option (List Pk×Unit):=(bif (decide (nI (List.length s.1)=nI (List.length s.1))&&(decide (0≤nI (List.length s.1))&&decide (nI (List.length s.1)≤16777216))) then (lp Zz Fa (s.1,0,List.replicate (Int.toNat (nI (List.length s.1))) (Uh .upk),())).bind fun r0=>(match r0 with| .inl x1=>some x1| .inr _=>none) else none)
def NK (s:(Int×Int×Int×List En×Int×Y3)):Option Y6:=(bif (!(decide (s.1=s.2.2.2.2.1))) then some (false,()) else (Wz (s.2.1,s.2.2.1,s.2.2.2.1,s.2.2.2.2.2)).bind fun r0=>(bif (!r0.1) then some (false,()) else some (true,())))
def AA (s:(List Ls×List Ls×Y2)):Option ((List Ls×List Ls×Y2)⊕((Unit)⊕Y6)):=(bif decide (s.2.2.1<nI (List.length s.1)) then (bif Ea s.2.2.1 (List.length s.1) then (bif Ea s.2.2.1 (List.length s.2.1) then (Wz ((Ba .ls s.1 (Int.toNat s.2.2.1)).o,(Ba .ls s.1 (Int.toNat s.2.2.1)).s,(Ba .ls s.1 (Int.toNat s.2.2.1)).e,(Ba .ls s.2.1 (Int.toNat s.2.2.1)).o,(Ba .ls s.2.1 (Int.toNat s.2.2.1)).s,(Ba .ls s.2.1 (Int.toNat s.2.2.1)).e,())).bind fun r0=>(bif (!r0.1) then some (Sum.inr (Sum.inr (false,()))) else some (Sum.inl (s.1,s.2.1,wrap64 (s.2.2.1+1),()))) else none) else none) else some (Sum.inr (Sum.inl ())))
def OK (s:(List Ls×Y8)):Option Y6:=(bif (!(decide (nI (List.length s.1)=nI (List.length s.2.1)))) then some (false,()) else (lp AA Fa (s.1,s.2.1,0,())).bind fun r0=>(match r0 with| .inl _=>some (true,())| .inr y1=>some (y1.1,())))
def BA (s:(List Pk×Yb)):Option ((List Pk×Yb)⊕(Y2⊕Y2)):=(bif decide (s.2.2.1<nI (List.length s.1)) then (bif Ea s.2.2.1 (List.length s.1) then (IK ((Ba .pk s.1 (Int.toNat s.2.2.1)).t,((Ba .pk s.1 (Int.toNat s.2.2.1)).p).o,((Ba .pk s.1 (Int.toNat s.2.2.1)).p).s,((Ba .pk s.1 (Int.toNat s.2.2.1)).p).e,s.2.1,())).bind fun r0=>(bif decide (r0.1<0) then some (Sum.inr (Sum.inr ((-(1)),()))) else some (Sum.inl (s.1,r0.1,wrap64 (s.2.2.1+1),()))) else none) else some (Sum.inr (Sum.inl (s.2.1,()))))
def PK (s:(List Pk×Y2)):Option Y2:=(bif decide (wrap64 (s.2.1-nI (List.length s.1))<0) then some ((-(1)),()) else (lp BA Fa (s.1,wrap64 (s.2.1-nI (List.length s.1)),0,())).bind fun r0=>(match r0 with| .inl x1=>some x1| .inr y1=>some (y1.1,())))
def DA (s:(List (List Ls)×Int×List (List Ls)×Unit)):Option ((List (List Ls)×Int×List (List Ls)×Unit)⊕((List (List Ls)×Unit)⊕Unit)):=(bif decide (s.2.1<nI (List.length s.1)) then (bif Ea s.2.1 (List.length s.1) then (JK (Ba .db s.1 (Int.toNat s.2.1),())).bind fun r0=>(bif Ea s.2.1 (List.length s.2.2.1) then some (Sum.inl (s.1,wrap64 (s.2.1+1),List.set s.2.2.1 (Int.toNat s.2.1) r0.1,())) else none) else none) else some (Sum.inr (Sum.inl s.2.2)))
def QK (s:(List (List Ls)×Unit)):Option (List (List Ls)×Unit):=(bif (decide (nI (List.length s.1)=nI (List.length s.1))&&(decide (0≤nI (List.length s.1))&&decide (nI (List.length s.1)≤16777216))) then (lp DA Fa (s.1,0,List.replicate (Int.toNat (nI (List.length s.1))) (Uh .udb),())).bind fun r0=>(match r0 with| .inl x1=>some x1| .inr _=>none) else none)
def YS (s:Y0):Option Y0:=(XJ (s.1,s.2.1,())).bind fun r0=>(AK (s.2.2.1,())).bind fun r1=>(TJ (s.2.2.2.1,())).bind fun r2=>(QK (s.2.2.2.2.1,())).bind fun r3=>(MK s.2.2.2.2.2).bind fun r4=>some (r0.1,r0.2.1,r1.1,r2.1,r3.1,r4)
def EA (s:(List (List Ls)×Yb)):Option ((List (List Ls)×Yb)⊕(Y2⊕Y2)):=(bif decide (s.2.2.1<nI (List.length s.1)) then (bif Ea s.2.2.1 (List.length s.1) then (LK (Ba .db s.1 (Int.toNat s.2.2.1),s.2.1,())).bind fun r0=>(bif decide (r0.1<0) then some (Sum.inr (Sum.inr ((-(1)),()))) else some (Sum.inl (s.1,r0.1,wrap64 (s.2.2.1+1),()))) else none) else some (Sum.inr (Sum.inl (s.2.1,()))))
def RK (s:(List (List Ls)×Y2)):Option Y2:=(bif decide (wrap64 (s.2.1-nI (List.length s.1))<0) then some ((-(1)),()) else (lp EA Fa (s.1,wrap64 (s.2.1-nI (List.length s.1)),0,())).bind fun r0=>(match r0 with| .inl x1=>some x1| .inr y1=>some (y1.1,())))
def ZS (s:(Int×List Lk×List Bool×List Int×List (List Ls)×List Pk×Y2)):Option Y2:=(Lz (s.1,s.2.1,s.2.2.2.2.2.2)).bind fun r0=>(bif decide (r0.1<0) then some ((-(1)),()) else (CK (s.2.2.1,r0)).bind fun r1=>(bif decide (r1.1<0) then some ((-(1)),()) else (DK (s.2.2.2.1,r1)).bind fun r2=>(bif decide (r2.1<0) then some ((-(1)),()) else (RK (s.2.2.2.2.1,r2)).bind fun r3=>(bif decide (r3.1<0) then some ((-(1)),()) else (PK (s.2.2.2.2.2.1,r3)).bind fun r4=>(bif decide (r4.1<0) then some ((-(1)),()) else some r4)))))
def FA (s:(List Pk×List Pk×Y2)):Option ((List Pk×List Pk×Y2)⊕((Unit)⊕Y6)):=(bif decide (s.2.2.1<nI (List.length s.1)) then (bif Ea s.2.2.1 (List.length s.1) then (bif Ea s.2.2.1 (List.length s.2.1) then (NK ((Ba .pk s.1 (Int.toNat s.2.2.1)).t,((Ba .pk s.1 (Int.toNat s.2.2.1)).p).o,((Ba .pk s.1 (Int.toNat s.2.2.1)).p).s,((Ba .pk s.1 (Int.toNat s.2.2.1)).p).e,(Ba .pk s.2.1 (Int.toNat s.2.2.1)).t,((Ba .pk s.2.1 (Int.toNat s.2.2.1)).p).o,((Ba .pk s.2.1 (Int.toNat s.2.2.1)).p).s,((Ba .pk s.2.1 (Int.toNat s.2.2.1)).p).e,())).bind fun r0=>(bif (!r0.1) then some (Sum.inr (Sum.inr (false,()))) else some (Sum.inl (s.1,s.2.1,wrap64 (s.2.2.1+1),()))) else none) else none) else some (Sum.inr (Sum.inl ())))
def SK (s:(List Pk×List Pk×Unit)):Option Y6:=(bif (!(decide (nI (List.length s.1)=nI (List.length s.2.1)))) then some (false,()) else (lp FA Fa (s.1,s.2.1,0,())).bind fun r0=>(match r0 with| .inl _=>some (true,())| .inr y1=>some (y1.1,())))
def GA (s:(List (List Ls)×List (List Ls)×Y2)):Option ((List (List Ls)×List (List Ls)×Y2)⊕((Unit)⊕Y6)):=(bif decide (s.2.2.1<nI (List.length s.1)) then (bif Ea s.2.2.1 (List.length s.1) then (bif Ea s.2.2.1 (List.length s.2.1) then (OK (Ba .db s.1 (Int.toNat s.2.2.1),Ba .db s.2.1 (Int.toNat s.2.2.1),())).bind fun r0=>(bif (!r0.1) then some (Sum.inr (Sum.inr (false,()))) else some (Sum.inl (s.1,s.2.1,wrap64 (s.2.2.1+1),()))) else none) else none) else some (Sum.inr (Sum.inl ())))
def TK (s:(List (List Ls)×List (List Ls)×Unit)):Option Y6:=(bif (!(decide (nI (List.length s.1)=nI (List.length s.2.1)))) then some (false,()) else (lp GA Fa (s.1,s.2.1,0,())).bind fun r0=>(match r0 with| .inl _=>some (true,())| .inr y1=>some (y1.1,())))
def AT (s:Y9):Option Y6:=(ZJ (s.1,s.2.1,s.2.2.2.2.2.2.1,s.2.2.2.2.2.2.2.1,())).bind fun r0=>(bif (!r0.1) then some (false,()) else (FK (s.2.2.1,s.2.2.2.2.2.2.2.2.1,())).bind fun r1=>(bif (!r1.1) then some (false,()) else (VJ (s.2.2.2.1,s.2.2.2.2.2.2.2.2.2.1,())).bind fun r2=>(bif (!r2.1) then some (false,()) else (TK (s.2.2.2.2.1,s.2.2.2.2.2.2.2.2.2.2.1,())).bind fun r3=>(bif (!r3.1) then some (false,()) else (SK (s.2.2.2.2.2.1,s.2.2.2.2.2.2.2.2.2.2.2)).bind fun r4=>(bif (!r4.1) then some (false,()) else some (true,()))))))
def IA (s:(Int×Y5)):Option ((Int×Y5)⊕(Y5⊕Unit)):=(bif decide (s.2.1<nI (List.length s.2.2.1)) then (bif Ea s.2.1 (List.length s.2.2.1) then (bif Ea s.2.1 (List.length (List.set s.2.2.1 (Int.toNat s.2.1) (Lk.mk s.1 ((Ba .lk s.2.2.1 (Int.toNat s.2.1)).b) ((Ba .lk s.2.2.1 (Int.toNat s.2.1)).c)))) then (bif Ea s.2.1 (List.length (List.set (List.set s.2.2.1 (Int.toNat s.2.1) (Lk.mk s.1 ((Ba .lk s.2.2.1 (Int.toNat s.2.1)).b) ((Ba .lk s.2.2.1 (Int.toNat s.2.1)).c))) (Int.toNat s.2.1) (Lk.mk ((Ba .lk (List.set s.2.2.1 (Int.toNat s.2.1) (Lk.mk s.1 ((Ba .lk s.2.2.1 (Int.toNat s.2.1)).b) ((Ba .lk s.2.2.1 (Int.toNat s.2.1)).c))) (Int.toNat s.2.1)).a) (wrap64 (s.1+1)) ((Ba .lk (List.set s.2.2.1 (Int.toNat s.2.1) (Lk.mk s.1 ((Ba .lk s.2.2.1 (Int.toNat s.2.1)).b) ((Ba .lk s.2.2.1 (Int.toNat s.2.1)).c))) (Int.toNat s.2.1)).c)))) then some (Sum.inl (wrap64 (wrap64 (wrap64 (s.1+1)+1)+1),wrap64 (s.2.1+1),List.set (List.set (List.set s.2.2.1 (Int.toNat s.2.1) (Lk.mk s.1 ((Ba .lk s.2.2.1 (Int.toNat s.2.1)).b) ((Ba .lk s.2.2.1 (Int.toNat s.2.1)).c))) (Int.toNat s.2.1) (Lk.mk ((Ba .lk (List.set s.2.2.1 (Int.toNat s.2.1) (Lk.mk s.1 ((Ba .lk s.2.2.1 (Int.toNat s.2.1)).b) ((Ba .lk s.2.2.1 (Int.toNat s.2.1)).c))) (Int.toNat s.2.1)).a) (wrap64 (s.1+1)) ((Ba .lk (List.set s.2.2.1 (Int.toNat s.2.1) (Lk.mk s.1 ((Ba .lk s.2.2.1 (Int.toNat s.2.1)).b) ((Ba .lk s.2.2.1 (Int.toNat s.2.1)).c))) (Int.toNat s.2.1)).c))) (Int.toNat s.2.1) (Lk.mk ((Ba .lk (List.set (List.set s.2.2.1 (Int.toNat s.2.1) (Lk.mk s.1 ((Ba .lk s.2.2.1 (Int.toNat s.2.1)).b) ((Ba .lk s.2.2.1 (Int.toNat s.2.1)).c))) (Int.toNat s.2.1) (Lk.mk ((Ba .lk (List.set s.2.2.1 (Int.toNat s.2.1) (Lk.mk s.1 ((Ba .lk s.2.2.1 (Int.toNat s.2.1)).b) ((Ba .lk s.2.2.1 (Int.toNat s.2.1)).c))) (Int.toNat s.2.1)).a) (wrap64 (s.1+1)) ((Ba .lk (List.set s.2.2.1 (Int.toNat s.2.1) (Lk.mk s.1 ((Ba .lk s.2.2.1 (Int.toNat s.2.1)).b) ((Ba .lk s.2.2.1 (Int.toNat s.2.1)).c))) (Int.toNat s.2.1)).c))) (Int.toNat s.2.1)).a) ((Ba .lk (List.set (List.set s.2.2.1 (Int.toNat s.2.1) (Lk.mk s.1 ((Ba .lk s.2.2.1 (Int.toNat s.2.1)).b) ((Ba .lk s.2.2.1 (Int.toNat s.2.1)).c))) (Int.toNat s.2.1) (Lk.mk ((Ba .lk (List.set s.2.2.1 (Int.toNat s.2.1) (Lk.mk s.1 ((Ba .lk s.2.2.1 (Int.toNat s.2.1)).b) ((Ba .lk s.2.2.1 (Int.toNat s.2.1)).c))) (Int.toNat s.2.1)).a) (wrap64 (s.1+1)) ((Ba .lk (List.set s.2.2.1 (Int.toNat s.2.1) (Lk.mk s.1 ((Ba .lk s.2.2.1 (Int.toNat s.2.1)).b) ((Ba .lk s.2.2.1 (Int.toNat s.2.1)).c))) (Int.toNat s.2.1)).c))) (Int.toNat s.2.1)).b) (wrap64 (wrap64 (s.1+1)+1))),())) else none) else none) else none) else some (Sum.inr (Sum.inl (s.1,s.2.2))))
def UK (s:Y5):Option Y5:=(lp IA Fa (s.1,0,s.2)).bind fun r0=>(match r0 with| .inl x1=>some x1| .inr _=>none)
def JA (s:(Int×Int×Yf)):Option ((Int×Int×Yf)⊕((Int×Yf)⊕Unit)):=(bif decide (s.2.1<nI (List.length s.2.2.1)) then (bif Ea s.2.1 (List.length s.2.2.1) then some (Sum.inl (wrap64 (s.1+1),wrap64 (s.2.1+1),List.set s.2.2.1 (Int.toNat s.2.1) s.1,())) else none) else some (Sum.inr (Sum.inl (s.1,s.2.2))))
def BT (s:(Int×Yf)):Option (Int×Yf):=(lp JA Fa (s.1,0,s.2)).bind fun r0=>(match r0 with| .inl x1=>some x1| .inr _=>none)
def KA (s:(List Lk×Yb)):Option ((List Lk×Yb)⊕(Y2⊕Y2)):=(bif decide (s.2.2.1<nI (List.length s.1)) then (bif Ea s.2.2.1 (List.length s.1) then (bif (!(decide ((Ba .lk s.1 (Int.toNat s.2.2.1)).a=s.2.1))) then some (Sum.inr (Sum.inr ((-(1)),()))) else (bif Ea s.2.2.1 (List.length s.1) then (bif (!(decide ((Ba .lk s.1 (Int.toNat s.2.2.1)).b=wrap64 (s.2.1+1)))) then some (Sum.inr (Sum.inr ((-(1)),()))) else (bif Ea s.2.2.1 (List.length s.1) then (bif (!(decide ((Ba .lk s.1 (Int.toNat s.2.2.1)).c=wrap64 (wrap64 (s.2.1+1)+1)))) then some (Sum.inr (Sum.inr ((-(1)),()))) else some (Sum.inl (s.1,wrap64 (wrap64 (wrap64 (s.2.1+1)+1)+1),wrap64 (s.2.2.1+1),()))) else none)) else none)) else none) else some (Sum.inr (Sum.inl (s.2.1,()))))
def VK (s:(List Lk×Y2)):Option Y2:=(lp KA Fa (s.1,s.2.1,0,())).bind fun r0=>(match r0 with| .inl x1=>some x1| .inr y1=>some (y1.1,()))
def LA (s:(List Int×Yb)):Option ((List Int×Yb)⊕(Y2⊕Y2)):=(bif decide (s.2.2.1<nI (List.length s.1)) then (bif Ea s.2.2.1 (List.length s.1) then (bif (!(decide (Ba .int s.1 (Int.toNat s.2.2.1)=s.2.1))) then some (Sum.inr (Sum.inr ((-(1)),()))) else some (Sum.inl (s.1,wrap64 (s.2.1+1),wrap64 (s.2.2.1+1),()))) else none) else some (Sum.inr (Sum.inl (s.2.1,()))))
def WK (s:(List Int×Y2)):Option Y2:=(lp LA Fa (s.1,s.2.1,0,())).bind fun r0=>(match r0 with| .inl x1=>some x1| .inr y1=>some (y1.1,()))
def MA (s:Y3):Option (Y3⊕((Int×List En×Unit)⊕Unit)):=(bif decide (s.2.1<nI (List.length s.2.2.1)) then (bif Ea s.2.1 (List.length s.2.2.1) then (bif Ea s.2.1 (List.length (List.set s.2.2.1 (Int.toNat s.2.1) (En.mk s.1 ((Ba .en s.2.2.1 (Int.toNat s.2.1)).c)))) then some (Sum.inl (wrap64 (wrap64 (s.1+1)+1),wrap64 (s.2.1+1),List.set (List.set s.2.2.1 (Int.toNat s.2.1) (En.mk s.1 ((Ba .en s.2.2.1 (Int.toNat s.2.1)).c))) (Int.toNat s.2.1) (En.mk ((Ba .en (List.set s.2.2.1 (Int.toNat s.2.1) (En.mk s.1 ((Ba .en s.2.2.1 (Int.toNat s.2.1)).c))) (Int.toNat s.2.1)).n) (wrap64 (s.1+1))),())) else none) else none) else some (Sum.inr (Sum.inl (s.1,s.2.2))))
def CT (s:(Int×List En×Unit)):Option (Int×List En×Unit):=(lp MA Fa (s.1,0,s.2)).bind fun r0=>(match r0 with| .inl x1=>some x1| .inr _=>none)
def NA (s:(List En×Yb)):Option ((List En×Yb)⊕(Y2⊕Y2)):=(bif decide (s.2.2.1<nI (List.length s.1)) then (bif Ea s.2.2.1 (List.length s.1) then (bif (!(decide ((Ba .en s.1 (Int.toNat s.2.2.1)).n=s.2.1))) then some (Sum.inr (Sum.inr ((-(1)),()))) else (bif Ea s.2.2.1 (List.length s.1) then (bif (!(decide ((Ba .en s.1 (Int.toNat s.2.2.1)).c=wrap64 (s.2.1+1)))) then some (Sum.inr (Sum.inr ((-(1)),()))) else some (Sum.inl (s.1,wrap64 (wrap64 (s.2.1+1)+1),wrap64 (s.2.2.1+1),()))) else none)) else none) else some (Sum.inr (Sum.inl (s.2.1,()))))
def OA (s:(List En×Y2)):Option Y2:=(lp NA Fa (s.1,s.2.1,0,())).bind fun r0=>(match r0 with| .inl x1=>some x1| .inr y1=>some (y1.1,()))
def PA (s:(Int×Int×List Bool×Unit)):Option ((Int×Int×List Bool×Unit)⊕((Int×List Bool×Unit)⊕Unit)):=(bif decide (s.2.1<nI (List.length s.2.2.1)) then (bif Ea s.2.1 (List.length s.2.2.1) then some (Sum.inl (wrap64 (s.1+1),wrap64 (s.2.1+1),List.set s.2.2.1 (Int.toNat s.2.1) (decide (Int.tmod s.1 (3)=0)),())) else none) else some (Sum.inr (Sum.inl (s.1,s.2.2))))
def DT (s:(Int×List Bool×Unit)):Option (Int×List Bool×Unit):=(lp PA Fa (s.1,0,s.2)).bind fun r0=>(match r0 with| .inl x1=>some x1| .inr _=>none)
def ET (s:(Int×Y5)):Option Y5:=(UK s.2).bind fun r0=>some r0
def XK (s:(Int×List Lk×Y2)):Option Y2:=(VK s.2).bind fun r0=>(bif decide (r0.1<0) then some ((-(1)),()) else some r0)
def QA (s:(List Bool×Yb)):Option ((List Bool×Yb)⊕(Y2⊕Y2)):=(bif decide (s.2.2.1<nI (List.length s.1)) then (bif Ea s.2.2.1 (List.length s.1) then (bif (!(Ba .bool s.1 (Int.toNat s.2.2.1)==decide (Int.tmod s.2.1 (3)=0))) then some (Sum.inr (Sum.inr ((-(1)),()))) else some (Sum.inl (s.1,wrap64 (s.2.1+1),wrap64 (s.2.2.1+1),()))) else none) else some (Sum.inr (Sum.inl (s.2.1,()))))
def YK (s:(List Bool×Y2)):Option Y2:=(lp QA Fa (s.1,s.2.1,0,())).bind fun r0=>(match r0 with| .inl x1=>some x1| .inr y1=>some (y1.1,()))
def RA (s:(List Ls×Yb)):Option ((List Ls×Yb)⊕(Y2⊕Y2)):=(bif decide (s.2.2.1<nI (List.length s.1)) then (bif Ea s.2.2.1 (List.length s.1) then (bif (!(decide ((Ba .ls s.1 (Int.toNat s.2.2.1)).o=s.2.1))) then some (Sum.inr (Sum.inr ((-(1)),()))) else (bif Ea s.2.2.1 (List.length s.1) then (bif (!(decide ((Ba .ls s.1 (Int.toNat s.2.2.1)).s=wrap64 (s.2.1+1)))) then some (Sum.inr (Sum.inr ((-(1)),()))) else (bif Ea s.2.2.1 (List.length s.1) then (OA ((Ba .ls s.1 (Int.toNat s.2.2.1)).e,wrap64 (wrap64 (s.2.1+1)+1),())).bind fun r0=>(bif decide (r0.1<0) then some (Sum.inr (Sum.inr ((-(1)),()))) else some (Sum.inl (s.1,r0.1,wrap64 (s.2.2.1+1),()))) else none)) else none)) else none) else some (Sum.inr (Sum.inl (s.2.1,()))))
def ZK (s:(List Ls×Y2)):Option Y2:=(lp RA Fa (s.1,s.2.1,0,())).bind fun r0=>(match r0 with| .inl x1=>some x1| .inr y1=>some (y1.1,()))
def SA (s:(List Pk×Yb)):Option ((List Pk×Yb)⊕(Y2⊕Y2)):=(bif decide (s.2.2.1<nI (List.length s.1)) then (bif Ea s.2.2.1 (List.length s.1) then (bif (!(decide ((Ba .pk s.1 (Int.toNat s.2.2.1)).t=s.2.1))) then some (Sum.inr (Sum.inr ((-(1)),()))) else (bif Ea s.2.2.1 (List.length s.1) then (bif (!(decide (((Ba .pk s.1 (Int.toNat s.2.2.1)).p).o=wrap64 (s.2.1+1)))) then some (Sum.inr (Sum.inr ((-(1)),()))) else (bif Ea s.2.2.1 (List.length s.1) then (bif (!(decide (((Ba .pk s.1 (Int.toNat s.2.2.1)).p).s=wrap64 (wrap64 (s.2.1+1)+1)))) then some (Sum.inr (Sum.inr ((-(1)),()))) else (bif Ea s.2.2.1 (List.length s.1) then (OA (((Ba .pk s.1 (Int.toNat s.2.2.1)).p).e,wrap64 (wrap64 (wrap64 (s.2.1+1)+1)+1),())).bind fun r0=>(bif decide (r0.1<0) then some (Sum.inr (Sum.inr ((-(1)),()))) else some (Sum.inl (s.1,r0.1,wrap64 (s.2.2.1+1),()))) else none)) else none)) else none)) else none) else some (Sum.inr (Sum.inl (s.2.1,()))))
def AL (s:(List Pk×Y2)):Option Y2:=(lp SA Fa (s.1,s.2.1,0,())).bind fun r0=>(match r0 with| .inl x1=>some x1| .inr y1=>some (y1.1,()))
def TA (s:(List (List Ls)×Yb)):Option ((List (List Ls)×Yb)⊕(Y2⊕Y2)):=(bif decide (s.2.2.1<nI (List.length s.1)) then (bif Ea s.2.2.1 (List.length s.1) then (ZK (Ba .db s.1 (Int.toNat s.2.2.1),s.2.1,())).bind fun r0=>(bif decide (r0.1<0) then some (Sum.inr (Sum.inr ((-(1)),()))) else some (Sum.inl (s.1,r0.1,wrap64 (s.2.2.1+1),()))) else none) else some (Sum.inr (Sum.inl (s.2.1,()))))
def BL (s:(List (List Ls)×Y2)):Option Y2:=(lp TA Fa (s.1,s.2.1,0,())).bind fun r0=>(match r0 with| .inl x1=>some x1| .inr y1=>some (y1.1,()))
def FT (s:(Int×List Lk×List Bool×List Int×List (List Ls)×List Pk×Y2)):Option Y2:=(XK (s.1,s.2.1,s.2.2.2.2.2.2)).bind fun r0=>(bif decide (r0.1<0) then some ((-(1)),()) else (YK (s.2.2.1,r0)).bind fun r1=>(bif decide (r1.1<0) then some ((-(1)),()) else (WK (s.2.2.2.1,r1)).bind fun r2=>(bif decide (r2.1<0) then some ((-(1)),()) else (BL (s.2.2.2.2.1,r2)).bind fun r3=>(bif decide (r3.1<0) then some ((-(1)),()) else (AL (s.2.2.2.2.2.1,r3)).bind fun r4=>(bif decide (r4.1<0) then some ((-(1)),()) else some r4)))))
end
section
open Go.RowKit
theorem sv {α β:Type} {o:Option α} {f:α→Option β} {r:α} {Q:β→Prop} (h:o=some r) (k:Aa (f r) Q):Aa (o.bind f) Q:=by subst h;exact k
theorem UA (τ:Ty) (xs:List (El τ)) (i:Nat) (v:El τ) (h:i<xs.length):Ba τ (xs.set i v) i=v:=by
  have h1:=Gp τ (xs.set i v) i (by rw [List.length_set];exact h)
  rw [List.getElem?_set_self h] at h1
  exact (Option.some.inj h1).symm
theorem rJ {α:Type} (xs:List α) (d:α) {x:α} {k:Nat} (hx:xs[k]? =some x):(xs.take k++List.replicate (xs.length-k) d).set k x=xs.take (k+1)++List.replicate (xs.length-(k+1)) d:=by
  have hk:=(List.getElem?_eq_some_iff.1 hx).1
  rw [List.set_append_right _ _ (by rw [List.length_take];omega),List.length_take,Nat.min_eq_left (by omega),Nat.sub_self,show xs.length-k=(xs.length-(k+1))+1 by omega,List.replicate_succ,List.set_cons_zero,List.take_add_one,hx]
  simp
theorem rK (ls:List Lk) (i:Nat) (v:Lk) (h:i<ls.length):lk (ls.set i v) i=v:=by rw [←Lg];exact UA .lk ls i v h
theorem rL (ls:List En) (i:Nat) (v:En) (h:i<ls.length):en (ls.set i v) i=v:=by rw [←Ro];exact UA .en ls i v h
theorem rM (ls:List Int) (i:Nat) (v:Int) (h:i<ls.length):iz (ls.set i v) i=v:=by rw [←Kg];exact UA .int ls i v h
theorem Hq {α:Type} {B:(List α×Int×List α×Unit)→Option ((List α×Int×List α×Unit)⊕((List α×Unit)⊕Unit))} (xs:List α) (d:α) (hx:xs.length≤16777216)
    (hB:∀(k:Nat) (x:α) (out:List α),xs[k]? =some x→out.length=xs.length→B (xs,(k:Int),out,())=some (.inl (xs,((k+1:Nat):Int),out.set k x,())))
    (hE:∀out:List α,B (xs,(xs.length:Int),out,())=some (.inr (.inl (out,())))):lp B Fa (xs,(0:Int),List.replicate xs.length d,())=some (.inl (xs,())):=by
  refine Aa.out (Aa.count xs.length (fun k t=>t=(xs,(k:Int),xs.take k++List.replicate (xs.length-k) d,())) ?_ (Nat.zero_le _) (Cc (by omega)) (by simp))
  rintro k t hk rfl
  by_cases hlt:k<xs.length
  ·have hx:=List.getElem?_eq_getElem hlt
   rw [hB k _ _ hx (by simp;omega)]
   exact .some ⟨hlt,by rw [rJ xs d hx]⟩
  ·obtain rfl:k=xs.length:=by omega
   rw [hE]
   exact .some (by simp)
theorem Iq {α:Type} {B:(List α×List α×Int×Unit)→Option ((List α×List α×Int×Unit)⊕(Unit⊕(Bool×Unit)))} (xs:List α) (hx:Wa xs)
    (hB:∀(k:Nat) (x:α),xs[k]? =some x→B (xs,xs,(k:Int),())=some (.inl (xs,xs,((k+1:Nat):Int),())))
    (hE:B (xs,xs,(xs.length:Int),())=some (.inr (.inl ()))):lp B Fa (xs,xs,(0:Int),())=some (.inl ()):=by
  refine Aa.out (Aa.count xs.length (fun k t=>t=(xs,xs,(k:Int),())) ?_ (Nat.zero_le _) (Cc hx) rfl)
  rintro k t hk rfl
  by_cases hlt:k<xs.length
  ·rw [hB k _ (List.getElem?_eq_getElem hlt)]
   exact .some ⟨hlt,rfl⟩
  ·obtain rfl:k=xs.length:=by omega
   rw [hE]
   exact .some rfl
def Id {α:Type} (c:Nat) (f:Int→α) (k:Int) (n:Nat):List α:=(List.range n).map fun i:Nat=>f (k+c*i)
theorem Qi {α:Type} (c:Nat) (f:Int→α) (k:Int) (n:Nat):(Id c f k n).length=n:=by simp [Id]
theorem rN {α:Type} (c:Nat) (f:Int→α) (k:Int) (n:Nat):Id c f k (n+1)=Id c f k n++[f (k+c*n)]:=by simp [Id,List.range_succ]
theorem GT {α:Type} (c:Nat) (f:Int→α) (k:Int) (n i:Nat) (h:i<n):(Id c f k n)[i]? =some (f (k+c*i)):=by simp [Id,h]
theorem CL {α:Type} {B:(Int×Int×List α×Unit)→Option ((Int×Int×List α×Unit)⊕((Int×List α×Unit)⊕Unit))} (c:Nat) (f:Int→α) (xs:List α) (k:Int) (h0:0≤k) (hx:xs.length≤4000000000) (hk:k+c*xs.length≤1000000000000)
    (hB:∀(i:Nat) (q:Int) (l:List α),i<l.length→l.length≤4000000000→0≤q→q≤1000000000000→B (q,(i:Int),l,())=some (.inl (q+c,((i+1:Nat):Int),l.set i (f q),())))
    (hE:∀(q:Int) (l:List α),B (q,(l.length:Int),l,())=some (.inr (.inl (q,l,())))):lp B Fa (k,(0:Int),xs,())=some (.inl (k+c*xs.length,Id c f k xs.length,())):=by
  refine Aa.out (Aa.count xs.length (fun i t=>t=(k+c*i,(i:Int),Id c f k i++xs.drop i,())) ?_ (Nat.zero_le _) (Cc (by omega)) (by simp [Id]))
  rintro i t hi rfl
  have hl:(Id c f k i++xs.drop i).length=xs.length:=by rw [List.length_append,Qi,List.length_drop];omega
  have hci:(c:Int)*i≤c*xs.length:=Int.mul_le_mul_of_nonneg_left (by omega) (by omega)
  have hc0:0≤(c:Int)*i:=Int.mul_nonneg (by omega) (by omega)
  by_cases hlt:i<xs.length
  ·rw [hB i _ _ (by omega) (by omega) (by omega) (by omega)]
   refine .some ⟨hlt,?_⟩
   have e:(Id c f k i++xs.drop i).set i (f (k+c*i))=Id c f k (i+1)++xs.drop (i+1):=by
     rw [List.set_append_right _ _ (by rw [Qi];exact Nat.le_refl _),Qi,Nat.sub_self,rN,List.drop_eq_getElem_cons hlt,List.set_cons_zero,List.append_assoc]
     rfl
   rw [e,show k+(c:Int)*i+c=k+c*((i+1:Nat):Int) by rw [Int.natCast_add,Int.mul_add];simp;omega]
  ·obtain rfl:i=xs.length:=by omega
   have:=hE (k+c*xs.length) (Id c f k xs.length++xs.drop xs.length)
   rw [hl] at this
   rw [this]
   exact .some (by simp)
theorem DL {α:Type} {B:(List α×Int×Int×Unit)→Option ((List α×Int×Int×Unit)⊕((Int×Unit)⊕(Int×Unit)))} (c:Nat) (f:Int→α) (n:Nat) (k:Int) (h0:0≤k) (hx:n≤4000000000) (hk:k+c*n≤1000000000000)
    (hB:∀(i:Nat) (q:Int) (l:List α),l[i]? =some (f q)→l.length≤4000000000→0≤q→q≤1000000000000→B (l,q,(i:Int),())=some (.inl (l,q+c,((i+1:Nat):Int),())))
    (hE:∀(q:Int) (l:List α),B (l,q,(l.length:Int),())=some (.inr (.inl (q,())))):lp B Fa (Id c f k n,k,(0:Int),())=some (.inl (k+c*n,())):=by
  refine Aa.out (Aa.count n (fun i t=>t=(Id c f k n,k+c*i,(i:Int),())) ?_ (Nat.zero_le _) (Cc (by omega)) (by simp))
  rintro i t hi rfl
  have hci:(c:Int)*i≤c*n:=Int.mul_le_mul_of_nonneg_left (by omega) (by omega)
  have hc0:0≤(c:Int)*i:=Int.mul_nonneg (by omega) (by omega)
  by_cases hlt:i<n
  ·rw [hB i _ _ (GT c f k n i hlt) (by rw [Qi];omega) (by omega) (by omega)]
   refine .some ⟨hlt,?_⟩
   rw [show k+(c:Int)*i+c=k+c*((i+1:Nat):Int) by rw [Int.natCast_add,Int.mul_add];simp;omega]
  ·obtain rfl:i=n:=by omega
   have:=hE (k+c*i) (Id c f k i)
   rw [Qi] at this
   rw [this]
   exact .some rfl
theorem Te {τ:Ty} {xs:List (El τ)} {i:Nat} {x:El τ} (h:xs[i]? =some x):Ba τ xs i=x:=by
  have:=Gp τ xs i (List.getElem?_eq_some_iff.1 h).1
  rw [h] at this
  exact (Option.some.inj this).symm
theorem Me {α:Type} {xs:List α} {i:Nat} {x:α} (h:xs[i]? =some x):i<xs.length:=(List.getElem?_eq_some_iff.1 h).1
def Jj (q:Int):Lk:=⟨q,q+1,q+2⟩
def Mm (q:Int):En:=⟨q,q+1⟩
theorem rO (xs:List Lk) (h:xs.length≤16777216):UJ (xs,())=some (xs,()):=by
  unfold UJ
  simp only [La,Ta]
  refine Aa.out (Aa.gd (by simp;omega) (sv (Hq xs _ h (fun k x out hx ho=>?_) (fun out=>?_)) (.some rfl)))
  ·have hk:=Me hx
   simp (disch:=omega) only [Nz,Te (τ:=.lk) hx,Ta,Ua,La,Option.bind_some,US]
   exact Aa.out (Aa.gd (decide_eq_true (by omega)) (Aa.gd (Ia (by omega) (by omega)) (Aa.gd (Ia (by omega) (by omega)) (.some rfl))))
  ·simp only [Nz,La]
   exact Aa.out (Aa.no (dF (by omega)) (.some rfl))
theorem rP (xs:List Int) (h:xs.length≤16777216):TJ (xs,())=some (xs,()):=by
  unfold TJ
  simp only [La,Ta]
  refine Aa.out (Aa.gd (by simp;omega) (sv (Hq xs _ h (fun k x out hx ho=>?_) (fun out=>?_)) (.some rfl)))
  ·have hk:=Me hx
   simp (disch:=omega) only [Mz,Te (τ:=.int) hx,Ta,Ua,La,Option.bind_some]
   exact Aa.out (Aa.gd (decide_eq_true (by omega)) (Aa.gd (Ia (by omega) (by omega)) (Aa.gd (Ia (by omega) (by omega)) (.some rfl))))
  ·simp only [Mz,La]
   exact Aa.out (Aa.no (dF (by omega)) (.some rfl))
theorem rQ (xs:List En) (h:xs.length≤16777216):BK (xs,())=some (xs,()):=by
  unfold BK
  simp only [La,Ta]
  refine Aa.out (Aa.gd (by simp;omega) (sv (Hq xs _ h (fun k x out hx ho=>?_) (fun out=>?_)) (.some rfl)))
  ·have hk:=Me hx
   simp (disch:=omega) only [Rz,Te (τ:=.en) hx,Ta,Ua,La,Option.bind_some,WS]
   exact Aa.out (Aa.gd (decide_eq_true (by omega)) (Aa.gd (Ia (by omega) (by omega)) (Aa.gd (Ia (by omega) (by omega)) (.some rfl))))
  ·simp only [Rz,La]
   exact Aa.out (Aa.no (dF (by omega)) (.some rfl))
theorem rR (xs:List Lk) (h:Wa xs):YJ (xs,xs,())=some (true,()):=by
  unfold YJ
  unfold Wa at h
  simp only [La]
  refine Aa.out (Aa.no (by simp) (sv (Iq xs h (fun k x hx=>?_) ?_) (.some rfl)))
  ·have hk:=Me hx
   simp (disch:=omega) only [Pz,Te (τ:=.lk) hx,Ta,Ua,La,Option.bind_some,decide_true,Bool.not_true,cond_false,VS]
   exact Aa.out (Aa.gd (decide_eq_true (by omega)) (Aa.gd (Ia (by omega) (by omega)) (Aa.gd (Ia (by omega) (by omega)) (.some rfl))))
  ·simp only [Pz,La]
   exact Aa.out (Aa.no (dF (by omega)) (.some rfl))
theorem rS (xs:List Int) (h:Wa xs):VJ (xs,xs,())=some (true,()):=by
  unfold VJ
  unfold Wa at h
  simp only [La]
  refine Aa.out (Aa.no (by simp) (sv (Iq xs h (fun k x hx=>?_) ?_) (.some rfl)))
  ·have hk:=Me hx
   simp (disch:=omega) only [Oz,Te (τ:=.int) hx,Ta,Ua,La,Option.bind_some,decide_true,Bool.not_true,cond_false]
   exact Aa.out (Aa.gd (decide_eq_true (by omega)) (Aa.gd (Ia (by omega) (by omega)) (Aa.gd (Ia (by omega) (by omega)) (.some rfl))))
  ·simp only [Oz,La]
   exact Aa.out (Aa.no (dF (by omega)) (.some rfl))
theorem rT (xs:List En) (h:Wa xs):EK (xs,xs,())=some (true,()):=by
  unfold EK
  unfold Wa at h
  simp only [La]
  refine Aa.out (Aa.no (by simp) (sv (Iq xs h (fun k x hx=>?_) ?_) (.some rfl)))
  ·have hk:=Me hx
   simp (disch:=omega) only [Tz,Te (τ:=.en) hx,Ta,Ua,La,Option.bind_some,decide_true,Bool.not_true,cond_false,XS]
   exact Aa.out (Aa.gd (decide_eq_true (by omega)) (Aa.gd (Ia (by omega) (by omega)) (Aa.gd (Ia (by omega) (by omega)) (.some rfl))))
  ·simp only [Tz,La]
   exact Aa.out (Aa.no (dF (by omega)) (.some rfl))
theorem rU (k:Int) (xs:List Lk) (h0:0≤k) (hx:xs.length≤4000000000) (hk:k+3*xs.length≤1000000000000):UK (k,xs,())=some (k+3*xs.length,Id 3 Jj k xs.length,()):=by
  unfold UK
  refine Aa.out (sv (CL 3 Jj xs k h0 hx hk (fun i q l hi hl hq0 hq1=>?_) (fun q l=>?_)) (.some rfl))
  ·simp (disch:=first|omega|assumption|(simp only [List.length_set];omega)) only [IA,Ta,Ua,La,Lg,rK,List.set_set,Int.add_assoc,Int.reduceAdd]
   refine Aa.out (Aa.gd (decide_eq_true (by omega)) (Aa.gd (Ia (by omega) (by (try simp only [List.length_set]);omega)) (Aa.gd (Ia (by omega) (by (try simp only [List.length_set]);omega)) (Aa.gd (Ia (by omega) (by (try simp only [List.length_set]);omega)) (.some ?_)))))
   first|rfl|(simp [Jj];done)|(unfold Jj;congr 2;omega)
  ·simp only [IA,La]
   exact Aa.out (Aa.no (dF (by omega)) (.some rfl))
theorem rV (k:Int) (n:Nat) (h0:0≤k) (hx:n≤4000000000) (hk:k+3*n≤1000000000000):VK (Id 3 Jj k n,k,())=some (k+3*n,()):=by
  unfold VK
  refine Aa.out (sv (DL 3 Jj n k h0 hx hk (fun i q l hi hl hq0 hq1=>?_) (fun q l=>?_)) (.some rfl))
  ·have hlt:=Me hi
   simp (disch:=omega) only [KA,Ta,Ua,La,Te (τ:=.lk) hi,Int.add_assoc,Int.reduceAdd]
   refine Aa.out (Aa.gd (decide_eq_true (by omega)) (Aa.gd (Ia (by omega) (by omega)) (Aa.no (by simp [Jj]) (Aa.gd (Ia (by omega) (by omega)) (Aa.no (by simp [Jj]) (Aa.gd (Ia (by omega) (by omega)) (Aa.no (by simp [Jj]) (.some ?_))))))))
   first|rfl|(simp;omega)
  ·simp only [KA,La]
   exact Aa.out (Aa.no (dF (by omega)) (.some rfl))
theorem rW (k:Int) (xs:List Int) (h0:0≤k) (hx:xs.length≤4000000000) (hk:k+1*xs.length≤1000000000000):BT (k,xs,())=some (k+1*xs.length,Id 1 id k xs.length,()):=by
  unfold BT
  refine Aa.out (sv (CL 1 id xs k h0 hx hk (fun i q l hi hl hq0 hq1=>?_) (fun q l=>?_)) (.some rfl))
  ·simp (disch:=first|omega|assumption|(simp only [List.length_set];omega)) only [JA,Ta,Ua,La,Kg,rM,List.set_set,Int.add_assoc,Int.reduceAdd]
   refine Aa.out (Aa.gd (decide_eq_true (by omega)) (Aa.gd (Ia (by omega) (by (try simp only [List.length_set]);omega)) (.some ?_)))
   first|rfl|(simp [id];done)|(unfold id;congr 2;omega)
  ·simp only [JA,La]
   exact Aa.out (Aa.no (dF (by omega)) (.some rfl))
theorem rX (k:Int) (n:Nat) (h0:0≤k) (hx:n≤4000000000) (hk:k+1*n≤1000000000000):WK (Id 1 id k n,k,())=some (k+1*n,()):=by
  unfold WK
  refine Aa.out (sv (DL 1 id n k h0 hx hk (fun i q l hi hl hq0 hq1=>?_) (fun q l=>?_)) (.some rfl))
  ·have hlt:=Me hi
   simp (disch:=omega) only [LA,Ta,Ua,La,Te (τ:=.int) hi,Int.add_assoc,Int.reduceAdd]
   refine Aa.out (Aa.gd (decide_eq_true (by omega)) (Aa.gd (Ia (by omega) (by omega)) (Aa.no (by simp [id]) (.some ?_))))
   first|rfl|(simp;omega)
  ·simp only [LA,La]
   exact Aa.out (Aa.no (dF (by omega)) (.some rfl))
theorem rY (k:Int) (xs:List En) (h0:0≤k) (hx:xs.length≤4000000000) (hk:k+2*xs.length≤1000000000000):CT (k,xs,())=some (k+2*xs.length,Id 2 Mm k xs.length,()):=by
  unfold CT
  refine Aa.out (sv (CL 2 Mm xs k h0 hx hk (fun i q l hi hl hq0 hq1=>?_) (fun q l=>?_)) (.some rfl))
  ·simp (disch:=first|omega|assumption|(simp only [List.length_set];omega)) only [MA,Ta,Ua,La,Ro,rL,List.set_set,Int.add_assoc,Int.reduceAdd]
   refine Aa.out (Aa.gd (decide_eq_true (by omega)) (Aa.gd (Ia (by omega) (by (try simp only [List.length_set]);omega)) (Aa.gd (Ia (by omega) (by (try simp only [List.length_set]);omega)) (.some ?_))))
   first|rfl|(simp [Mm];done)|(unfold Mm;congr 2;omega)
  ·simp only [MA,La]
   exact Aa.out (Aa.no (dF (by omega)) (.some rfl))
theorem aF (k:Int) (n:Nat) (h0:0≤k) (hx:n≤4000000000) (hk:k+2*n≤1000000000000):OA (Id 2 Mm k n,k,())=some (k+2*n,()):=by
  unfold OA
  refine Aa.out (sv (DL 2 Mm n k h0 hx hk (fun i q l hi hl hq0 hq1=>?_) (fun q l=>?_)) (.some rfl))
  ·have hlt:=Me hi
   simp (disch:=omega) only [NA,Ta,Ua,La,Te (τ:=.en) hi,Int.add_assoc,Int.reduceAdd]
   refine Aa.out (Aa.gd (decide_eq_true (by omega)) (Aa.gd (Ia (by omega) (by omega)) (Aa.no (by simp [Mm]) (Aa.gd (Ia (by omega) (by omega)) (Aa.no (by simp [Mm]) (.some ?_))))))
   first|rfl|(simp;omega)
  ·simp only [NA,La]
   exact Aa.out (Aa.no (dF (by omega)) (.some rfl))
theorem rZ (n:Int) (ls:List Lk) (h:ls.length≤16777216):XJ (n,ls,())=some (n,ls,()):=by
  unfold XJ
  rw [rO ls h];rfl
theorem sA (n:Int) (ls:List Lk) (h:Wa ls):ZJ (n,ls,n,ls,())=some (true,()):=by
  unfold ZJ
  refine Aa.out (Aa.no (by simp) (sv (rR ls h) (Aa.no rfl (.some rfl))))
theorem sB (n k:Int) (ls:List Lk) (h0:0≤k) (h1:k≤100000000000) (h:ls.length≤16777216):ET (n,k,ls,())=some (k+3*ls.length,Id 3 Jj k ls.length,()):=by
  unfold ET
  rw [rU k ls h0 (by omega) (by omega)];rfl
theorem sC (n k:Int) (m:Nat) (h0:0≤k) (h1:k≤100000000000) (h:m≤16777216):XK (n,Id 3 Jj k m,k,())=some (k+3*m,()):=by
  unfold XK
  refine Aa.out (sv (rV k m h0 (by omega) (by omega)) (Aa.no (dF (by dsimp only;omega)) (.some rfl)))
abbrev Oe {α:Type} (l:List α):Prop:=l.length≤9223372036854775807
theorem sD (s:List Lk×Int×Unit) (h:Oe s.1) (h1: -1≤s.2.1∧s.2.1≤2000000):SJ s=some (if s.2.1-s.1.length<0 then -1 else s.2.1-s.1.length,()):=by
  unfold Oe at h
  unfold SJ
  simp (disch:=omega) only [La,Ua]
  by_cases e:s.2.1-(s.1.length:Int)<0
  ·rw [if_pos e,decide_eq_true e];rfl
  ·rw [if_neg e,dF e];rfl
theorem sE (n:Int) (ls:List Lk) (left:Int) (h:Oe ls) (h1: -1≤left∧left≤2000000):Lz (n,ls,left,())=some (if left-ls.length<0 then -1 else left-ls.length,()):=by
  unfold Lz
  rw [sD _ h h1]
  dsimp only [Option.bind_some]
  by_cases e:left-(ls.length:Int)<0
  ·rw [if_pos e];rfl
  ·rw [if_neg e]
   exact Aa.out (Aa.no (dF e) (.some rfl))
theorem sF (s:List En×Int×Unit) (h:Oe s.1) (h1: -1≤s.2.1∧s.2.1≤2000000):WJ s=some (if s.2.1-s.1.length<0 then -1 else s.2.1-s.1.length,()):=by
  unfold Oe at h
  unfold WJ
  simp (disch:=omega) only [La,Ua]
  by_cases e:s.2.1-(s.1.length:Int)<0
  ·rw [if_pos e,decide_eq_true e];rfl
  ·rw [if_neg e,dF e];rfl
end
section
open Go.RowKit
theorem sG {α:Type} (c:Nat) (f:Int→α) (k:Int) (n:Nat):Id c f k (n+1)=f k::Id c f (k+c) n:=by
  refine List.ext_getElem? fun i=>?_
  rcases Nat.lt_or_ge i (n+1) with h|h
  ·rw [GT c f k (n+1) i h]
   cases i with
   |zero=>simp
   |succ i =>
    rw [List.getElem?_cons_succ,GT c f (k+c) n i (by omega),show k+(c:Int)+(c:Int)*(i:Int)=k+(c:Int)*((i+1:Nat):Int) by rw [Int.natCast_add,Int.mul_add];simp;omega]
  ·rw [List.getElem?_eq_none (by rw [Qi];omega),List.getElem?_eq_none (by rw [List.length_cons,Qi];omega)]
theorem EL:∀(k:Int) (xs:List En),Kh k xs=Id 2 Mm k xs.length
  |_,[]=>rfl
  |k,x::r=>by
   rw [List.length_cons,sG,Kh,EL (k+2) r];rfl
def VA (k:Int) (l:Ls):Ls:=⟨k,k+1,Kh (k+2) l.e⟩
def So (l:Ls):Nat:=2+2*l.e.length
theorem IT:∀xs:List Ls,Bc xs=Ac So xs
  |[]=>rfl
  |l::r=>by rw [Bc,Ac,IT r];rfl
theorem aG:∀(k:Int) (xs:List Ls),Se k xs=Kf VA So k xs
  |_,[]=>rfl
  |k,l::r=>by
   rw [Se,Kf,aG _ r,show k+2+2*(l.e.length:Int)=k+(So l:Int) by unfold So;omega];rfl
theorem aH {α:Type} {m:Int→α→α} {c:α→Nat}:∀(xs:List α) (k:Int) (i:Nat) (x:α),xs[i]? =some x→(Kf m c k xs)[i]? =some (m (k+Ac c (xs.take i)) x)
  |[],_,_,_,h=>by simp at h
  |y::r,k,0,x,h=>by simp at h;subst h;simp [Kf,Ac]
  |y::r,k,i+1,x,h=>by
   rw [List.getElem?_cons_succ] at h
   rw [Kf,List.getElem?_cons_succ,aH r (k+c y) i x h,List.take_succ_cons,Ac,show k+(c y:Int)+(Ac c (r.take i):Int)=k+((c y+Ac c (r.take i):Nat):Int) by omega]
theorem JT {α:Type} {B:(List α×Int×Int×Unit)→Option ((List α×Int×Int×Unit)⊕((Int×Unit)⊕(Int×Unit)))} (m:Int→α→α) (c:α→Nat) (xs:List α) (k:Int) (h0:0≤k) (hx:xs.length≤4000000000) (hk:k+Ac c xs≤4000000000)
    (hB:∀(i:Nat) (q:Int) (l:List α) (x:α),l[i]? =some (m q x)→x∈xs→l.length≤4000000000→0≤q→q+c x≤4000000000→B (l,q,(i:Int),())=some (.inl (l,q+c x,((i+1:Nat):Int),())))
    (hE:∀(q:Int) (l:List α),B (l,q,(l.length:Int),())=some (.inr (.inl (q,())))):lp B Fa (Kf m c k xs,k,(0:Int),())=some (.inl (k+Ac c xs,())):=by
  refine Aa.out (Aa.count xs.length (fun i t=>t=(Kf m c k xs,k+Ac c (xs.take i),(i:Int),())) ?_ (Nat.zero_le _) (Cc (by omega)) (by simp [Ac]))
  rintro i t hi rfl
  by_cases hlt:i<xs.length
  ·have hxi:=List.getElem?_eq_getElem hlt
   have h1:=Ov (c:=c) xs i _ hxi
   rw [hB i _ _ _ (aH xs k i _ hxi) (List.getElem_mem hlt) (by rw [Jm];exact hx) (by omega) (by omega)]
   exact .some ⟨hlt,by rw [h1.2];congr 2;omega⟩
  ·obtain rfl:i=xs.length:=by omega
   have:=hE (k+Ac c (xs.take xs.length)) (Kf m c k xs)
   rw [Jm] at this
   rw [this]
   exact .some (by simp)
def To (q:Int):Bool:=decide (Int.tmod q 3=0)
theorem sH (ls:List Bool) (i:Nat) (v:Bool) (h:i<ls.length):Ba .bool (ls.set i v) i=v:=UA .bool ls i v h
theorem sI (ls:List Bool) (i:Nat) (v:Bool) (h:i<ls.length):Ba .bool (ls.set i v) i=v:=UA .bool ls i v h
theorem sJ (k:Int) (xs:List Bool) (h0:0≤k) (hx:xs.length≤4000000000) (hk:k+1*xs.length≤1000000000000):DT (k,xs,())=some (k+1*xs.length,Id 1 To k xs.length,()):=by
  unfold DT
  refine Aa.out (sv (CL 1 To xs k h0 hx hk (fun i q l hi hl hq0 hq1=>?_) (fun q l=>?_)) (.some rfl))
  ·simp (disch:=first|omega|assumption|(simp only [List.length_set];omega)) only [PA,Ta,Ua,La,sI,sH,List.set_set,Int.add_assoc,Int.reduceAdd]
   refine Aa.out (Aa.gd (decide_eq_true (by omega)) (Aa.gd (Ia (by omega) (by (try simp only [List.length_set]);omega)) (.some ?_)))
   first|rfl|(simp [To];done)|(unfold To;congr 2;omega)
  ·simp only [PA,La]
   exact Aa.out (Aa.no (dF (by omega)) (.some rfl))
theorem sK (k:Int) (n:Nat) (h0:0≤k) (hx:n≤4000000000) (hk:k+1*n≤1000000000000):YK (Id 1 To k n,k,())=some (k+1*n,()):=by
  unfold YK
  refine Aa.out (sv (DL 1 To n k h0 hx hk (fun i q l hi hl hq0 hq1=>?_) (fun q l=>?_)) (.some rfl))
  ·have hlt:=Me hi
   simp (disch:=omega) only [QA,Ta,Ua,La,Te (τ:=.bool) hi,Int.add_assoc,Int.reduceAdd]
   refine Aa.out (Aa.gd (decide_eq_true (by omega)) (Aa.gd (Ia (by omega) (by omega)) (Aa.no (by simp [To]) (.some ?_))))
   first|rfl|(simp;omega)
  ·simp only [QA,La]
   exact Aa.out (Aa.no (dF (by omega)) (.some rfl))
theorem sL (k:Int) (xs:List Ls) (h0:0≤k) (hx:xs.length≤4000000000) (hk:k+Bc xs≤4000000000) (he:∀l∈xs,l.e.length≤4000000000):ZK (Se k xs,k,())=some (k+Bc xs,()):=by
  rw [IT] at hk ⊢
  rw [aG]
  unfold ZK
  refine Aa.out (sv (JT VA So xs k h0 hx hk (fun i q l x hi hm hl hq0 hq1=>?_) (fun q l=>?_)) (.some rfl))
  ·have hlt:=Me hi
   have hxe:=he x hm
   unfold So at hq1 ⊢
   have e1:=aF (q+2) x.e.length (by omega) hxe (by omega)
   simp (disch:=omega) only [RA,Ta,Ua,La,Te (τ:=.ls) hi,Int.add_assoc,Int.reduceAdd]
   refine Aa.out (Aa.gd (decide_eq_true (by omega)) (Aa.gd (Ia (by omega) (by omega)) (Aa.no (by simp [VA]) (Aa.gd (Ia (by omega) (by omega)) (Aa.no (by simp [VA]) (Aa.gd (Ia (by omega) (by omega)) (sv (by dsimp only [VA];rw [EL];exact e1) (Aa.no (dF (by dsimp only;omega)) (.some ?_)))))))))
   congr 3;dsimp only;omega
  ·simp only [RA,La]
   exact Aa.out (Aa.no (dF (by omega)) (.some rfl))
theorem sM (k:Int) (xs:List (List Ls)) (h0:0≤k) (hx:xs.length≤4000000000) (hk:k+Xf xs≤4000000000) (he:∀d∈xs,List.length (α:=Ls) d≤4000000000∧∀l∈(d:List Ls),l.e.length≤4000000000):BL (Xp k xs,k,())=some (k+Xf xs,()):=by
  unfold BL
  refine Aa.out (sv (JT Se Bc xs k h0 hx hk (fun i q l x hi hm hl hq0 hq1=>?_) (fun q l=>?_)) (.some rfl))
  ·have hlt:=Me hi
   have hxe:=he x hm
   have e1:=sL q x hq0 hxe.1 hq1 hxe.2
   simp (disch:=omega) only [TA,Ta,Ua,La,Te (τ:=.db) hi,Int.add_assoc,Int.reduceAdd]
   exact Aa.out (Aa.gd (decide_eq_true (by omega)) (Aa.gd (Ia (by omega) (by omega)) (sv e1 (Aa.no (dF (by dsimp only;omega)) (.some rfl)))))
  ·simp only [TA,La]
   exact Aa.out (Aa.no (dF (by omega)) (.some rfl))
theorem sN (k:Int) (xs:List Pk) (h0:0≤k) (hx:xs.length≤4000000000) (hk:k+Zg xs≤4000000000) (he:∀p∈xs,p.p.e.length≤4000000000):AL (Pv k xs,k,())=some (k+Zg xs,()):=by
  unfold AL
  refine Aa.out (sv (JT Hj Lh xs k h0 hx hk (fun i q l x hi hm hl hq0 hq1=>?_) (fun q l=>?_)) (.some rfl))
  ·have hlt:=Me hi
   have hxe:=he x hm
   unfold Lh at hq1 ⊢
   have e1:=aF (q+3) x.p.e.length (by omega) hxe (by omega)
   simp (disch:=omega) only [SA,Ta,Ua,La,Te (τ:=.pk) hi,Int.add_assoc,Int.reduceAdd]
   refine Aa.out (Aa.gd (decide_eq_true (by omega)) (Aa.gd (Ia (by omega) (by omega)) (Aa.no (by simp [Hj]) (Aa.gd (Ia (by omega) (by omega)) (Aa.no (by simp [Hj]) (Aa.gd (Ia (by omega) (by omega)) (Aa.no (by simp [Hj]) (Aa.gd (Ia (by omega) (by omega)) (sv (by dsimp only [Hj];rw [EL];exact e1) (Aa.no (dF (by dsimp only;omega)) (.some ?_)))))))))))
   congr 3;dsimp only;omega
  ·simp only [SA,La]
   exact Aa.out (Aa.no (dF (by omega)) (.some rfl))
abbrev Nm (k:Int) (xs:List Lk):List Lk:=Id 3 Jj k xs.length
abbrev Om (k:Int) (xs:List Bool):List Bool:=Id 1 To k xs.length
abbrev Pm (k:Int) (xs:List Int):List Int:=Id 1 id k xs.length
structure FV (W:Wl):Prop where
  ls:W.2.1.length≤16777216
  up:W.2.2.1.length≤16777216
  sq:W.2.2.2.1.length≤16777216
  db:W.2.2.2.2.1.length≤16777216
  net:W.2.2.2.2.2.length≤16777216
  dbs:∀d∈W.2.2.2.2.1,List.length (α:=Ls) d≤16777216∧∀l∈(d:List Ls),l.e.length≤16777216
  pks:∀p∈W.2.2.2.2.2,p.p.e.length≤16777216
  cnt:Ah W≤3999999999
theorem sO (W:Wl) (h:FV W):FT ((Km Nm Om Pm 1 W).1,(Km Nm Om Pm 1 W).2.1,(Km Nm Om Pm 1 W).2.2.1,(Km Nm Om Pm 1 W).2.2.2.1,(Km Nm Om Pm 1 W).2.2.2.2.1,(Km Nm Om Pm 1 W).2.2.2.2.2,1,())=some (1+(Ah W:Int),()):=by
  obtain ⟨n,ls,up,sq,db,net⟩:=W
  obtain ⟨h1,h2,h3,h4,h5,h6,h7,h8⟩:=h
  unfold Ah at h8 ⊢
  dsimp only [Km] at *
  unfold FT
  dsimp only
  have e1:=sC n 1 ls.length (by omega) (by omega) h1
  have e2:=sK (1+3*ls.length) up.length (by omega) (by omega) (by omega)
  have e3:=rX (1+3*ls.length+up.length) sq.length (by omega) (by omega) (by omega)
  have e4:=sM (1+3*ls.length+up.length+sq.length) db (by omega) (by omega) (by omega) (fun d hd=>⟨by have:=(h6 d hd).1;omega,fun l hl=>by have:=(h6 d hd).2 l hl;omega⟩)
  have e5:=sN (1+3*ls.length+up.length+sq.length+Xf db) net (by omega) (by omega) (by omega) (fun p hp=>by have:=h7 p hp;omega)
  simp only [Int.one_mul] at e2 e3
  refine Aa.out (sv e1 (Aa.no (dF (by dsimp only;omega)) (sv e2 (Aa.no (dF (by dsimp only;omega)) (sv e3 (Aa.no (dF (by dsimp only;omega)) (sv e4 (Aa.no (dF (by dsimp only;omega)) (sv e5 (Aa.no (dF (by dsimp only;omega)) (.some ?_)))))))))))
  congr 1;(try dsimp only);omega
end
section
open Go.RowKit
theorem sP {i j:Nat} (h:i+j≤4611686018427387904):wrap64 (Kk .u64 (Pf .u64 (wrap64 ((i:Int)+(j:Int)))) 1)=(((i+j) / 2:Nat):Int):=by
  rw [Ua (x:=(i:Int)+j) (by omega) (by omega)]
  have e:Pf .u64 ((i:Int)+j)=(i:Int)+j:=by
    simp [Pf,IntKind.wrap,IntKind.signed,IntKind.bits]
    omega
  rw [e]
  unfold Kk
  rw [show (1:Int).toNat=1 from rfl,show min 1 (IntKind.bits .u64)=1 from rfl]
  rw [Int.fdiv_eq_ediv_of_nonneg _ (by decide)]
  rw [Ua (by omega) (by omega)]
  omega
def Fw (db:List Ls) (o:Int) (i:Nat):Prop:=i≤db.length∧(∀x,x<i→(Ya db x).o<o)∧∀x,i≤x→x<db.length→o≤(Ya db x).o
def Kj (db:List Ls) (o:Int) (i:Nat):Bool:=decide (i<db.length∧(Ya db i).o=o)
def Uo (db:List Ls):Prop:=∀i j,i<j→j<db.length→(Ya db i).o<(Ya db j).o
theorem Ke.srt {db:List Ls} (h:Ke db):Uo db:=by
  have step:∀d i,i+d+1<db.length→(Ya db i).o<(Ya db (i+d+1)).o:=fun d=>by
    induction d with
    |zero=>intro i hi;exact (h (i+1) hi).2 (by omega)
    |succ d ih =>
     intro i hi
     have h1:=ih i (by omega)
     have h2:=(h (i+(d+1)+1) hi).2 (by omega)
     rw [Nat.add_sub_cancel] at h2
     rw [show i+(d+1)=i+d+1 by omega] at h2 ⊢
     omega
  intro i j hij hj
  have:=step (j-i-1) i (by omega)
  rwa [show i+(j-i-1)+1=j by omega] at this
theorem aI (a b:Int):KJ (a,b,())=some (if a<b then -1 else if b<a then 1 else 0,()):=by
  have e:∀x:Int,Dz (x,())=some (false,()):=fun x=>by simp [Dz]
  unfold KJ
  simp only [e,Option.bind_some,cond_false]
  by_cases h1:a<b
  ·simp [h1]
  ·by_cases h2:b<a<;>simp [h1,h2]
theorem aJ (db:List Ls) (o:Int) (hs:Uo db) (hl:db.length≤2000000000):∃i:Nat,Fw db o i∧Cw (db,o,())=some ((i:Int),Kj db o i,()):=by
  have hmono:∀i j,i≤j→j<db.length→(Ya db i).o≤(Ya db j).o:=fun i j hij hj=>by
    rcases Nat.eq_or_lt_of_le hij with e|e
    ·subst e;exact Int.le_refl _
    ·have:=hs i j e hj;omega
  have key:Aa (Cw (db,o,())) fun r=>∃i:Nat,Fw db o i∧r=((i:Int),Kj db o i,()):=by
    unfold Cw TS
    refine Aa.bnd (R:=fun r=>∃i:Nat,Fw db o i∧r=((i:Int),Kj db o i,())) (Aa.bnd (R:=fun r=>match r with| .inl x=>∃i:Nat,Fw db o i∧x=(db,o,(db.length:Int),(i:Int),())| .inr _=>False) ?_ ?_) ?_
    ·refine Aa.loop (fun s=>∃i j:Nat,s=(db,o,(db.length:Int),(i:Int),(j:Int),())∧i≤j∧j≤db.length∧(∀x,x<i→(Ya db x).o<o)∧∀x,j≤x→x<db.length→o≤(Ya db x).o) (fun s=>(s.2.2.2.2.1-s.2.2.2.1).toNat) ?_ Fa _ ?_ ?_
     ·rintro _ ⟨i,j,rfl,hij,hj,h1,h2⟩
      simp only [RJ,sP (show i+j≤4611686018427387904 by omega),Wg,Ta,Jz,aI,Option.bind_some]
      refine Aa.ite (fun hlt=>?_) (fun hlt=>?_)
      ·have hlt:=oT hlt
       have hm:(i+j) / 2<j∧i≤(i+j) / 2:=by omega
       generalize (i+j) / 2=m at *
       refine Aa.gd (Ia (by omega) (by omega)) (Aa.ite (fun hc=>?_) (fun hc=>?_))
       ·have hc:=oT hc
        have hc:(Ya db m).o<o:=by
          by_cases h:(Ya db m).o<o
          ·exact h
          ·rw [if_neg h] at hc
           split at hc<;>omega
        rw [Ua (by omega) (by omega)]
        refine .some ⟨⟨m+1,j,rfl,by omega,hj,fun x hx=>?_,h2⟩,by dsimp only;omega⟩
        have:=hmono x m (by omega) (by omega)
        omega
       ·have hc:=oF hc
        have hc:o≤(Ya db m).o:=by
          by_cases h:(Ya db m).o<o
          ·rw [if_pos h] at hc;omega
          ·omega
        refine .some ⟨⟨i,m,rfl,by omega,by omega,h1,fun x hx hxl=>?_⟩,by dsimp only;omega⟩
        have:=hmono m x hx hxl
        omega
      ·have hlt:=oF hlt
       obtain rfl:i=j:=by omega
       exact .some ⟨i,⟨hj,h1,h2⟩,rfl⟩
     ·rw [La];dsimp only;unfold Fa;omega
     ·exact ⟨0,db.length,by rw [La];rfl,by omega,by omega,fun x hx=>by omega,fun x hx hxl=>by omega⟩
    ·rintro (r|r) hr
     case inr=>exact hr.elim
     obtain ⟨i,hi,rfl⟩:=hr
     simp only [Wg,Ta,Jz,aI,Option.bind_some]
     refine Aa.ite (fun hlt=>?_) (fun hlt=>?_)
     ·have hlt:=oT hlt
      refine Aa.gd (Ia (by omega) (by omega)) (.some ⟨i,hi,?_⟩)
      have hge:=hi.2.2 i (Nat.le_refl _) (by omega)
      unfold Kj
      by_cases h:(Ya db i).o=o
      ·rw [decide_eq_true (show i<db.length∧(Ya db i).o=o from ⟨by omega,h⟩),h,if_neg (by omega),if_neg (by omega)];rfl
      ·rw [dF (show ¬(i<db.length∧(Ya db i).o=o) from fun g=>h g.2),if_neg (by omega),if_pos (by omega)];rfl
     ·have hlt:=oF hlt
      refine .some ⟨i,hi,?_⟩
      unfold Kj
      rw [dF (show ¬(i<db.length∧(Ya db i).o=o) from fun g=>by omega)]
    ·rintro _ ⟨i,hi,rfl⟩
     exact .some ⟨i,hi,rfl⟩
  obtain ⟨r,h1,i,h2,h3⟩:=key
  exact ⟨i,h2,by rw [h1,h3]⟩
theorem aK {db:List Ls} {o:Int} {i:Nat} (hs:Uo db) (h:Fw db o i):fd db o=if Kj db o i then some (Ya db i) else none:=by
  unfold Kj
  by_cases hc:i<db.length∧(Ya db i).o=o
  ·rw [decide_eq_true hc,if_pos rfl]
   unfold fd
   rw [Hd hc.1]
   exact aC hc.1 (decide_eq_true (by rw [←Hd hc.1];exact hc.2)) fun x hx hxi=>dF (by rw [←Hd hx];have:=h.2.1 x hxi;omega)
  ·rw [dF hc]
   unfold fd
   refine aD (p:=fun l:Ls=>decide (l.o=o)) (l:=db) fun x hx=>dF ?_
   rw [←Hd hx]
   rcases Nat.lt_or_ge x i with h1|h1
   ·have:=h.2.1 x h1;omega
   ·intro e
    have h2:=h.2.2 x h1 hx
    have h3:=h.2.2 i (Nat.le_refl _) (by omega)
    rcases Nat.eq_or_lt_of_le h1 with e2|e2
    ·subst e2;exact hc ⟨hx,e⟩
    ·have:=hs i x e2 hx;omega
end
section
open Go.RowKit
theorem KT:∀{l l':List Int},l.Pairwise (·<·)→l'.Pairwise (·<·)→(∀x,x∈l↔x∈l')→l=l'
  |[],[],_,_,_=>rfl
  |[],y::s,_,_,h=>by have:=(h y).2 (List.mem_cons_self ..);simp at this
  |x::r,[],_,_,h=>by have:=(h x).1 (List.mem_cons_self ..);simp at this
  |x::r,y::s,h1,h2,h=>by
   have h1:=List.pairwise_cons.1 h1
   have h2:=List.pairwise_cons.1 h2
   have e:x=y:=by
     rcases List.mem_cons.1 ((h x).1 (List.mem_cons_self ..)) with e|hx
     ·exact e
     ·rcases List.mem_cons.1 ((h y).2 (List.mem_cons_self ..)) with e|hy
      ·exact e.symm
      ·have q1:=h1.1 y hy
       have q2:=h2.1 x hx
       omega
   subst e
   have:r=s:=KT h1.2 h2.2 fun z=>by
     constructor
     ·intro hz
      rcases List.mem_cons.1 ((h z).1 (List.mem_cons_of_mem _ hz)) with e|hz'
      ·subst e;have:=h1.1 z hz;omega
      ·exact hz'
     ·intro hz
      rcases List.mem_cons.1 ((h z).2 (List.mem_cons_of_mem _ hz)) with e|hz'
      ·subst e;have:=h2.1 z hz;omega
      ·exact hz'
   rw [this]
theorem sQ {x:Int} {l:List Int}:x∈Jg l↔x∈l:=List.mem_mergeSort
theorem sR {l:List Int} (h:l.Pairwise (·≠·)):(Jg l).Pairwise (·<·):=by
  have h1:(Jg l).Pairwise (fun a b=>decide (a≤b)=true):=List.pairwise_mergeSort (fun a b c h1 h2=>decide_eq_true (by have:=oT h1;have:=oT h2;omega)) (fun a b=>by simp;omega) l
  have h2:(Jg l).Nodup:=(List.mergeSort_perm l _).nodup_iff.2 h
  refine List.Pairwise.imp ?_ (List.Pairwise.and h1 h2)
  rintro a b ⟨q1,q2⟩
  have:=oT q1
  omega
theorem IL (ls:List Lk) (m:Int) (k:Nat):(Rc ls m k).Pairwise (·<·):=by
  unfold Rc
  rw [List.pairwise_map]
  refine List.Pairwise.imp ?_ (List.Pairwise.filter _ (List.pairwise_lt_range (n:=k)))
  intro a b h
  omega
theorem Vo {ls:List Lk} {m x:Int} {k:Nat}:x∈Rc ls m k↔∃j:Nat,j<k∧x=j∧(lc ls m j).isSome=true:=by
  unfold Rc
  rw [List.mem_map]
  constructor
  ·rintro ⟨j,hj,rfl⟩
   obtain ⟨h1,h2⟩:=List.mem_filter.1 hj
   exact ⟨j,List.mem_range.1 h1,rfl,by rw [WI];exact h2⟩
  ·rintro ⟨j,h1,rfl,h2⟩
   rw [WI] at h2
   exact ⟨j,List.mem_filter.2 ⟨List.mem_range.2 h1,h2⟩,rfl⟩
section
variable {N:Nat} {ls:List Lk}
theorem sS (g:GV N ls) {m:Int} {x:Int}:x∈Ug ls m ls.length↔(lc ls m x).isSome=true:=by
  unfold Ug
  rw [List.mem_map,List.take_of_length_le (Nat.le_refl _)]
  constructor
  ·rintro ⟨l,hl,rfl⟩
   obtain ⟨h1,h2⟩:=List.mem_filter.1 hl
   have ho:=g.ok h1
   unfold Nh at ho
   have h2:m=l.a∨m=l.b:=oT h2
   unfold Cq
   by_cases e:m=l.a
   ·rw [if_pos e,e,M9 g.pw h1 (by omega)];rfl
   ·have e2:=h2.resolve_left e
    rw [if_neg e,if_pos e2,e2,qG,M9 g.pw h1 (by omega)];rfl
  ·intro h
   obtain ⟨c,hc⟩:=Option.isSome_iff_exists.1 h
   have hm:=Uv hc
   have ho:=g.ok hm
   unfold Nh at ho
   dsimp only at ho
   refine ⟨_,List.mem_filter.2 ⟨hm,decide_eq_true (by dsimp only;omega)⟩,?_⟩
   unfold Cq
   dsimp only
   split
   ·omega
   ·rw [if_pos (by omega)];omega
theorem sV (g:GV N ls) (m:Int):(Ug ls m ls.length).Pairwise (·≠·):=by
  unfold Ug
  rw [List.take_of_length_le (Nat.le_refl _),List.pairwise_map]
  refine List.Pairwise.imp_of_mem ?_ (List.Pairwise.filter _ g.pw)
  intro a b ha hb hab
  obtain ⟨ha,ea⟩:=List.mem_filter.1 ha
  obtain ⟨hb,eb⟩:=List.mem_filter.1 hb
  have oa:=g.ok ha
  have ob:=g.ok hb
  have ea:m=a.a∨m=a.b:=oT ea
  have eb:m=b.a∨m=b.b:=oT eb
  unfold Nh at oa ob
  unfold Sf at hab
  unfold Cq
  split<;>split<;>(try split)<;>(try split)<;>omega
theorem LT (g:GV N ls) {m x:Int} (h:(lc ls m x).isSome=true):0≤x∧x<N∧0≤m∧m<N∧x≠m:=by
  obtain ⟨c,hc⟩:=Option.isSome_iff_exists.1 h
  have ho:=g.ok (Uv hc)
  unfold Nh at ho
  dsimp only at ho
  omega
theorem aL (g:GV N ls) (m:Int):Jg (Ug ls m ls.length)=Rc ls m N:=by
  refine KT (sR (sV g m)) (IL ls m N) fun x=>?_
  rw [sQ,sS g,Vo]
  constructor
  ·intro h
   have:=LT g h
   exact ⟨x.toNat,by omega,by omega,by rw [show ((x.toNat:Nat):Int)=x by omega];exact h⟩
  ·rintro ⟨j,_,rfl,h⟩;exact h
def De (ls:List Lk) (N:Nat) (o:Int):List En:=(Rc ls o N).map fun n=>⟨n,(lc ls o n).getD 0⟩
theorem sW (g:GV N ls) (o s:Int):Dw ((N:Int),ls,o,s,())=some (o,s,De ls N o,()):=by
  have h8:=g.2.1
  have fl:Wa ls:=(show Wa ls by have:=g.2.2.1;unfold Wa;omega)
  unfold Dw
  simp only [X9 (N:Int) ls o (by have:=g.2.2.1;omega),aL g o,Option.bind_some,La]
  have hlen:=Tv ls o N
  have hmem:∀x∈Rc ls o N,∃c,lc ls o x=some c:=fun x hx=>by
    obtain ⟨j,_,rfl,h⟩:=Vo.1 hx
    exact Option.isSome_iff_exists.1 h
  unfold De
  generalize Rc ls o N=nb at *
  refine Aa.out (Aa.bnd (R:=fun r=>match r with| .inl x=>x=(0,0,o,s,[],nb.map fun n=>⟨n,(lc ls o n).getD 0⟩,())| .inr _=>False) ?_ ?_)
  ·refine Aa.count nb.length (fun k t=>t=(o,(nb.length:Int),(k:Int),(N:Int),ls,0,0,o,s,nb,[],(nb.take k).map (fun n=>(⟨n,(lc ls o n).getD 0⟩:En)),())) ?_ (Nat.zero_le _) (Cc (by omega)) (by simp)
   rintro k t hk rfl
   by_cases hlt:k<nb.length
   ·obtain ⟨c,hc⟩:=hmem (iz nb k) (List.mem_of_getElem? (LN hlt))
    obtain ⟨h1,h2,h3⟩:=Vv hc
    simp (disch:=omega) only [Kz,Kg,Lg,Ta,Ua,W9 _ _ _ _ fl,Option.bind_some,List.length_singleton,List.length_map]
    refine Aa.gd (decide_eq_true (by omega)) (Aa.gd (Ia (by omega) (by omega)) (Aa.gd (Ia h1 h2) (Aa.gd (decide_eq_true (by simp;omega)) (.some ⟨hlt,?_⟩))))
    rw [h3,List.take_add_one,LN hlt]
    simp [hc]
   ·obtain rfl:k=nb.length:=by omega
    unfold Kz
    simp only [dF (show ¬(nb.length:Int)<nb.length by omega),cond_false,List.take_length]
    exact .some rfl
  ·rintro (r|r) hr
   case inr=>exact hr.elim
   obtain rfl:=hr
   exact .some rfl
theorem aM (o:Int):(De ls N o).length≤N:=by unfold De;rw [List.length_map];exact Tv ls o N
theorem sX (g:GV N ls) (o s:Int):Aw ((N:Int),ls,o,s,())=some (o,s,De ls N o,()):=by
  have h8:=g.2.1
  have fl:Wa ls:=(show Wa ls by have:=g.2.2.1;unfold Wa;omega)
  unfold Aw
  refine Aa.out (Aa.bnd (R:=fun r=>match r with| .inl x=>x=(0,0,[],o,s,De ls N o,())| .inr _=>False) ?_ ?_)
  ·refine Aa.count N (fun k t=>t=(o,(k:Int),(N:Int),ls,0,0,[],o,s,(Rc ls o k).map (fun n=>(⟨n,(lc ls o n).getD 0⟩:En)),())) ?_ (Nat.zero_le _) (Cc (by omega)) (by simp [Rc])
   rintro k t hk rfl
   have hlen:=Tv ls o k
   simp (disch:=omega) only [OJ,Lg,Ta,Ua,SS _ _ _ _ fl,Option.bind_some,List.length_singleton,List.length_map]
   refine Aa.ite (fun hlt=>?_) (fun hlt=>?_)
   ·have hlt:=oT hlt
    cases hc:lc ls o k with
    |none =>
     refine Aa.no (by rw [N9 hc];rfl) (.some ⟨by omega,?_⟩)
     rw [ZR,if_neg (by rw [N9 hc];omega)]
     rfl
    |some c =>
     obtain ⟨h1,h2,h3⟩:=Vv hc
     refine Aa.gd (decide_eq_true h1) (Aa.gd (Ia h1 h2) (Aa.gd (decide_eq_true (by omega)) (.some ⟨by omega,?_⟩)))
     rw [ZR,if_pos h1,h3]
     simp [hc]
   ·have hlt:=oF hlt
    obtain rfl:k=N:=by omega
    exact .some rfl
  ·rintro (r|r) hr
   case inr=>exact hr.elim
   obtain rfl:=hr
   exact .some rfl
end
end
section
open Go.RowKit
abbrev Dd (db:List Ls):Prop:=db.Pairwise fun x y=>x.o<y.o
theorem Lj {db:List Ls}:Uo db↔Dd db:=by
  unfold Dd
  rw [List.pairwise_iff_getElem]
  constructor
  ·intro h i j hi hj hij
   have:=h i j hij hj
   rwa [Hd hi,Hd hj] at this
  ·intro h i j hij hj
   rw [Hd (show i<db.length by omega),Hd hj]
   exact h i j (by omega) hj hij
theorem Jq {db:List Ls}:Ke db↔(∀l∈db,Cf l)∧Dd db:=by
  constructor
  ·intro h
   refine ⟨fun l hl=>?_,Lj.1 h.srt⟩
   obtain ⟨i,hi,rfl⟩:=List.getElem_of_mem hl
   have:=(h i hi).1
   rwa [Hd hi] at this
  ·rintro ⟨h1,h2⟩ i hi
   refine ⟨?_,fun h0=>Lj.2 h2 (i-1) i (by omega) hi⟩
   rw [Hd hi]
   exact h1 _ (List.getElem_mem hi)
def Mj (db:List Ls) (l:Ls):List Ls:=db.filter (fun x=>decide (x.o<l.o))++l::db.filter (fun x=>decide (l.o<x.o))
def Pe (db:List Ls) (l:Ls):Int:=match fd db l.o with|some old=>if old.s=l.s then 1 else if l.s<old.s then 2 else 0|none=>0
def Ad (db:List Ls) (l:Ls):List Ls:=if Pe db l=0 then Mj db l else db
theorem Nj {db:List Ls} {l x:Ls}:x∈Mj db l↔x=l∨x∈db∧x.o≠l.o:=by
  unfold Mj
  rw [List.mem_append,List.mem_cons,List.mem_filter,List.mem_filter]
  simp only [decide_eq_true_eq]
  constructor
  ·rintro (⟨h1,h2⟩|rfl|⟨h1,h2⟩)
   ·exact .inr ⟨h1,by omega⟩
   ·exact .inl rfl
   ·exact .inr ⟨h1,by omega⟩
  ·rintro (rfl|⟨h1,h2⟩)
   ·exact .inr (.inl rfl)
   ·rcases Int.lt_or_gt_of_ne h2 with h|h
    ·exact .inl ⟨h1,h⟩
    ·exact .inr (.inr ⟨h1,h⟩)
theorem WA {db:List Ls} (h:Dd db) (l:Ls):Dd (Mj db l):=by
  unfold Mj Dd
  rw [List.pairwise_append,List.pairwise_cons]
  refine ⟨List.Pairwise.filter _ h,⟨fun x hx=>?_,List.Pairwise.filter _ h⟩,fun x hx y hy=>?_⟩
  ·exact oT (List.mem_filter.1 hx).2
  ·have h1:x.o<l.o:=oT (List.mem_filter.1 hx).2
   rcases List.mem_cons.1 hy with rfl|hy
   ·exact h1
   ·have h2:l.o<y.o:=oT (List.mem_filter.1 hy).2
    omega
theorem JL {db:List Ls} (h:Dd db) (l:Ls):Dd (Ad db l):=by
  unfold Ad
  split
  ·exact WA h l
  ·exact h
theorem MT {db:List Ls} (h:Ke db) {l:Ls} (hl:Cf l):Ke (Ad db l):=by
  have:=Jq.1 h
  refine Jq.2 ⟨fun x hx=>?_,JL this.2 l⟩
  unfold Ad at hx
  split at hx
  ·rcases Nj.1 hx with rfl|hx
   ·exact hl
   ·exact this.1 x hx.1
  ·exact this.1 x hx
theorem sY {db:List Ls} (h:Dd db) {x y:Ls} (hx:x∈db) (hy:y∈db) (e:x.o=y.o):x=y:=by
  obtain ⟨i,hi,rfl⟩:=List.getElem_of_mem hx
  obtain ⟨j,hj,rfl⟩:=List.getElem_of_mem hy
  rcases Nat.lt_trichotomy i j with h1|h1|h1
  ·have:=List.pairwise_iff_getElem.1 h i j hi hj h1;omega
  ·subst h1;rfl
  ·have:=List.pairwise_iff_getElem.1 h j i hj hi h1;omega
theorem Oj {db:List Ls} (h:Dd db) {o:Int} {x:Ls}:fd db o=some x↔x∈db∧x.o=o:=by
  unfold fd
  constructor
  ·intro e
   exact ⟨List.mem_of_find?_eq_some e,oT (List.find?_some (p:=fun l:Ls=>decide (l.o=o)) e)⟩
  ·rintro ⟨hx,rfl⟩
   cases e:db.find? (fun l=>decide (l.o=x.o)) with
   |none =>
    have:=List.find?_eq_none.1 e x hx
    simp at this
   |some y =>
    have h1:=List.mem_of_find?_eq_some e
    have h2:y.o=x.o:=oT (List.find?_some (p:=fun l:Ls=>decide (l.o=x.o)) e)
    rw [sY h h1 hx h2]
theorem Gw {db:List Ls} {o:Int}:fd db o=none↔∀x∈db,x.o≠o:=by
  unfold fd
  rw [List.find?_eq_none]
  constructor
  ·intro h x hx e;exact h x hx (decide_eq_true e)
  ·intro h x hx e;exact h x hx (oT e)
theorem aN {db:List Ls} (h:Dd db) (l:Ls) (o:Int):fd (Ad db l) o=if o=l.o∧Pe db l=0 then some l else fd db o:=by
  unfold Ad
  by_cases hc:Pe db l=0
  ·rw [if_pos hc]
   by_cases ho:o=l.o
   ·rw [if_pos ⟨ho,hc⟩]
    exact (Oj (WA h l)).2 ⟨Nj.2 (.inl rfl),ho.symm⟩
   ·rw [if_neg fun g=>ho g.1]
    cases e:fd db o with
    |none =>
     rw [Gw] at e ⊢
     intro x hx
     rcases Nj.1 hx with rfl|⟨hx,_⟩
     ·exact fun g=>ho g.symm
     ·exact e x hx
    |some y =>
     obtain ⟨h1,h2⟩:=(Oj h).1 e
     exact (Oj (WA h l)).2 ⟨Nj.2 (.inr ⟨h1,by omega⟩),h2⟩
  ·rw [if_neg hc,if_neg fun g=>hc g.2]
theorem NT:∀{a b:List Ls},Dd a→Dd b→(∀x,x∈a↔x∈b)→a=b
  |[],[],_,_,_=>rfl
  |[],y::s,_,_,h=>by have:=(h y).2 (List.mem_cons_self ..);simp at this
  |x::r,[],_,_,h=>by have:=(h x).1 (List.mem_cons_self ..);simp at this
  |x::r,y::s,h1,h2,h=>by
   have h1:=List.pairwise_cons.1 h1
   have h2:=List.pairwise_cons.1 h2
   have e:x=y:=by
     rcases List.mem_cons.1 ((h x).1 (List.mem_cons_self ..)) with e|hx
     ·exact e
     ·rcases List.mem_cons.1 ((h y).2 (List.mem_cons_self ..)) with e|hy
      ·exact e.symm
      ·have q1:=h1.1 y hy
       have q2:=h2.1 x hx
       omega
   subst e
   have:r=s:=NT h1.2 h2.2 fun z=>by
     constructor
     ·intro hz
      rcases List.mem_cons.1 ((h z).1 (List.mem_cons_of_mem _ hz)) with e|hz'
      ·subst e;have:=h1.1 z hz;omega
      ·exact hz'
     ·intro hz
      rcases List.mem_cons.1 ((h z).2 (List.mem_cons_of_mem _ hz)) with e|hz'
      ·subst e;have:=h2.1 z hz;omega
      ·exact hz'
   rw [this]
theorem sZ {db:List Ls} (h:Dd db) {l:Ls} {i:Nat} (hi:i<db.length) (ho:(Ya db i).o=l.o):db.set i l=Mj db l:=by
  have hs:Dd (db.set i l):=by
    unfold Dd
    rw [List.pairwise_iff_getElem]
    intro a b ha hb hab
    rw [List.length_set] at ha hb
    have hp:=fun x y (hx:x<db.length) (hy:y<db.length) (hxy:x<y)=>List.pairwise_iff_getElem.1 h x y hx hy hxy
    rw [Hd hi] at ho
    rw [List.getElem_set,List.getElem_set]
    split<;>split
    ·omega
    ·rename_i e1 e2;subst e1;have:=hp i b hi hb hab;omega
    ·rename_i e1 e2;subst e2;have:=hp a i ha hi hab;omega
    ·exact hp a b ha hb hab
  refine NT hs (WA h l) fun x=>?_
  rw [Nj]
  rw [Hd hi] at ho
  constructor
  ·intro hx
   obtain ⟨j,hj,rfl⟩:=List.getElem_of_mem hx
   rw [List.length_set] at hj
   rw [List.getElem_set]
   split
   ·exact .inl rfl
   ·rename_i e
    refine .inr ⟨List.getElem_mem hj,fun g=>?_⟩
    rcases Nat.lt_or_gt_of_ne e with h1|h1
    ·have:=List.pairwise_iff_getElem.1 h i j hi hj h1;omega
    ·have:=List.pairwise_iff_getElem.1 h j i hj hi h1;omega
  ·rintro (rfl|⟨hx,hne⟩)
   ·exact List.mem_set hi x
   ·obtain ⟨j,hj,rfl⟩:=List.getElem_of_mem hx
    have e:i≠j:=by rintro rfl;exact hne ho
    have:(db.set i l)[j]'(by rw [List.length_set];exact hj)=db[j]:=by rw [List.getElem_set,if_neg e]
    rw [←this]
    exact List.getElem_mem _
theorem tA {db:List Ls} (h:Dd db) {l:Ls} {i:Nat} (hp:Fw db l.o i) (hn:Kj db l.o i=false):db.take i++l::db.drop i=Mj db l:=by
  have hno:∀x∈db,x.o≠l.o:=Gw.1 (by rw [aK (Lj.2 h) hp,hn];rfl)
  have e1:∀x∈db.take i,x.o<l.o:=fun x hx=>by
    obtain ⟨j,hj,rfl⟩:=List.getElem_of_mem hx
    rw [List.length_take] at hj
    rw [List.getElem_take,←Hd (show j<db.length by omega)]
    exact hp.2.1 j (by omega)
  have e2:∀x∈db.drop i,l.o<x.o:=fun x hx=>by
    have hm:=hno x (List.mem_of_mem_drop hx)
    obtain ⟨j,hj,rfl⟩:=List.getElem_of_mem hx
    rw [List.length_drop] at hj
    rw [List.getElem_drop] at hm ⊢
    have:=hp.2.2 (i+j) (by omega) (by omega)
    rw [Hd (show i+j<db.length by omega)] at this
    omega
  have hs:Dd (db.take i++l::db.drop i):=by
    unfold Dd
    rw [List.pairwise_append,List.pairwise_cons]
    refine ⟨List.Pairwise.sublist (List.take_sublist _ _) h,⟨e2,List.Pairwise.sublist (List.drop_sublist _ _) h⟩,fun x hx y hy=>?_⟩
    have:=e1 x hx
    rcases List.mem_cons.1 hy with rfl|hy
    ·exact this
    ·have:=e2 y hy;omega
  refine NT hs (WA h l) fun x=>?_
  rw [Nj,List.mem_append,List.mem_cons]
  constructor
  ·rintro (hx|rfl|hx)
   ·exact .inr ⟨List.mem_of_mem_take hx,hno x (List.mem_of_mem_take hx)⟩
   ·exact .inl rfl
   ·exact .inr ⟨List.mem_of_mem_drop hx,hno x (List.mem_of_mem_drop hx)⟩
  ·rintro (rfl|⟨hx,_⟩)
   ·exact .inr (.inl rfl)
   ·rw [←List.take_append_drop i db,List.mem_append] at hx
    exact hx.imp id .inr
def Md (db other:List Ls):List Ls:=other.foldl Ad db
def Yc (db:List Ls) (o:Int):Int:=match fd db o with|some l=>l.s|none=> -1
theorem KL {db:List Ls} (h:Dd db) (other:List Ls):Dd (Md db other):=by
  unfold Md
  induction other generalizing db with
  |nil=>exact h
  |cons l r ih=>exact ih (JL h l)
theorem PT {db other:List Ls} (h:Ke db) (h':∀l∈other,Cf l):Ke (Md db other):=by
  unfold Md
  induction other generalizing db with
  |nil=>exact h
  |cons l r ih=>exact ih (MT h (h' l (List.mem_cons_self ..))) fun x hx=>h' x (List.mem_cons_of_mem _ hx)
theorem aO {db:List Ls} (h:Dd db) {l:Ls} (hl:0≤l.s) (o:Int):Yc (Ad db l) o=if o=l.o then max (Yc db o) l.s else Yc db o:=by
  unfold Yc
  rw [aN h l o]
  by_cases ho:o=l.o
  ·subst ho
   rw [if_pos rfl]
   cases e:fd db l.o with
   |none =>
    have hc:Pe db l=0:=by unfold Pe;rw [e]
    rw [hc,if_pos ⟨rfl,rfl⟩]
    dsimp only
    omega
   |some old =>
    by_cases h1:old.s=l.s
    ·have hc:Pe db l=1:=by unfold Pe;rw [e];exact if_pos h1
     rw [hc,if_neg (fun g=>by have:=g.2;omega)]
     dsimp only
     omega
    ·by_cases h2:l.s<old.s
     ·have hc:Pe db l=2:=by unfold Pe;rw [e];dsimp only;rw [if_neg h1,if_pos h2]
      rw [hc,if_neg (fun g=>by have:=g.2;omega)]
      dsimp only
      omega
     ·have hc:Pe db l=0:=by unfold Pe;rw [e];dsimp only;rw [if_neg h1,if_neg h2]
      rw [hc,if_pos ⟨rfl,rfl⟩]
      dsimp only
      omega
  ·rw [if_neg fun g=>ho g.1,if_neg ho]
theorem QT {db:List Ls} {l:Ls} (hl:0≤l.s):Pe db l=0↔Yc db l.o<l.s:=by
  unfold Pe Yc
  cases fd db l.o with
  |none=>simp;omega
  |some old =>
   dsimp only
   by_cases h1:old.s=l.s
   ·rw [if_pos h1];omega
   ·rw [if_neg h1]
    by_cases h2:l.s<old.s
    ·rw [if_pos h2];omega
    ·rw [if_neg h2];omega
theorem aP (l:Ls) (r:List Ls) (o:Int):fd (l::r) o=if l.o=o then some l else fd r o:=by
  unfold fd
  rw [List.find?_cons]
  by_cases h:l.o=o
  ·rw [if_pos h,decide_eq_true h]
  ·rw [if_neg h,dF h]
theorem aQ {db:List Ls} (h:∀l∈db,0≤l.s) (o:Int): -1≤Yc db o:=by
  unfold Yc
  cases e:fd db o with
  |none=>simp
  |some l=>have:=h l (List.mem_of_find?_eq_some e);dsimp only;omega
theorem tB {a b:List Ls} (ha:Dd a) (hb:Dd b) (hs:∀l∈b,0≤l.s) (hsa:∀l∈a,0≤l.s) (o:Int):fd (Md a b) o=if Yc a o<Yc b o then fd b o else fd a o:=by
  unfold Md
  induction b generalizing a with
  |nil =>
   have:Yc [] o= -1:=rfl
   rw [if_neg (by have:=aQ hsa o;omega)]
   rfl
  |cons l r ih =>
   have hb':=List.pairwise_cons.1 hb
   have hl:=hs l (List.mem_cons_self ..)
   have hsa':∀x∈Ad a l,0≤x.s:=fun x hx=>by
     unfold Ad at hx
     split at hx
     ·rcases Nj.1 hx with rfl|hx
      ·exact hl
      ·exact hsa x hx.1
     ·exact hsa x hx
   have ih:=ih (JL ha l) hb'.2 (fun x hx=>hs x (List.mem_cons_of_mem _ hx)) hsa'
   rw [List.foldl_cons,ih,aO ha hl,aN ha,aP]
   have hq:Yc (l::r) o=if l.o=o then l.s else Yc r o:=by
     unfold Yc
     rw [aP]
     by_cases e:l.o=o
     ·rw [if_pos e,if_pos e]
     ·rw [if_neg e,if_neg e]
   rw [hq]
   by_cases ho:o=l.o
   ·subst ho
    have hr:Yc r l.o= -1:=by
      unfold Yc
      rw [Gw.2 fun x hx e=>by have:=hb'.1 x hx;omega]
    have hla:=aQ hsa l.o
    rw [if_pos rfl,if_pos rfl,if_pos rfl,hr,if_neg (by omega)]
    by_cases hc:Pe a l=0
    ·rw [if_pos ⟨rfl,hc⟩,if_pos ((QT hl).1 hc)]
    ·rw [if_neg fun g=>hc g.2,if_neg fun g=>hc ((QT hl).2 g)]
   ·have h1:¬l.o=o:=fun g=>ho g.symm
    have h2:¬(o=l.o∧Pe a l=0):=fun g=>ho g.1
    simp only [if_neg ho,if_neg h1,if_neg h2]
theorem aR {a b:List Ls} (ha:Dd a) (hb:Dd b) (hs:∀l∈b,0≤l.s) (hsa:∀l∈a,0≤l.s) (o:Int):Yc (Md a b) o=max (Yc a o) (Yc b o):=by
  have h:=tB ha hb hs hsa o
  by_cases hc:Yc a o<Yc b o
  ·rw [if_pos hc] at h
   have:Yc (Md a b) o=Yc b o:=by unfold Yc;rw [h]
   omega
  ·rw [if_neg hc] at h
   have:Yc (Md a b) o=Yc a o:=by unfold Yc;rw [h]
   omega
def tC (a b:List Ls):Prop:=∀x∈a,∀y∈b,x.o=y.o→x.s=y.s→x=y
theorem aS {a b:List Ls} {x:Ls} (hx:x∈Md a b):x∈a∨x∈b:=by
  unfold Md at hx
  induction b generalizing a with
  |nil=>exact .inl hx
  |cons l r ih =>
   rcases ih hx with h|h
   ·unfold Ad at h
    split at h
    ·rcases Nj.1 h with rfl|h
     ·exact .inr (List.mem_cons_self ..)
     ·exact .inl h.1
    ·exact .inl h
   ·exact .inr (List.mem_cons_of_mem _ h)
end
section
open Go.RowKit
def LL (s:Y5):Option Y5:=(bif decide ((List.length ([]:List Lk)+List.length s.2.1)≤(33554432:Nat)) then some (s.1,(([]:List Lk)++s.2.1),()) else none)
def Si (s:Y3):Option Y3:=(bif decide ((List.length ([]:List En)+List.length s.2.2.1)≤(33554432:Nat)) then some (s.1,s.2.1,(([]:List En)++s.2.2.1),()) else none)
def ML (s:(Int×Int×List Lk×List Bool×List Int×List (List Ls)×List Pk×Int×List Lk×Y5)):Option ((Int×Int×List Lk×List Bool×List Int×List (List Ls)×List Pk×Int×List Lk×Y5)⊕((Int×List Lk×Y5)⊕Unit)):=(bif decide (s.1<nI (List.length s.2.2.2.1)) then (bif Ea s.1 (List.length s.2.2.2.1) then (bif Ba .bool s.2.2.2.1 (Int.toNat s.1) then (bif Ea s.1 (List.length s.2.2.1) then (bif decide ((List.length s.2.2.2.2.2.2.2.2.2.2.1+List.length [(Lk.mk ((Ba .lk s.2.2.1 (Int.toNat s.1)).a) ((Ba .lk s.2.2.1 (Int.toNat s.1)).b) ((Ba .lk s.2.2.1 (Int.toNat s.1)).c))])≤(33554432:Nat)) then some (Sum.inl (wrap64 (s.1+1),s.2.1,s.2.2.1,s.2.2.2.1,s.2.2.2.2.1,s.2.2.2.2.2.1,s.2.2.2.2.2.2.1,s.2.2.2.2.2.2.2.1,s.2.2.2.2.2.2.2.2.1,s.2.2.2.2.2.2.2.2.2.1,(s.2.2.2.2.2.2.2.2.2.2.1++[(Lk.mk ((Ba .lk s.2.2.1 (Int.toNat s.1)).a) ((Ba .lk s.2.2.1 (Int.toNat s.1)).b) ((Ba .lk s.2.2.1 (Int.toNat s.1)).c))]),())) else none) else none) else some (Sum.inl (wrap64 (s.1+1),s.2))) else none) else some (Sum.inr (Sum.inl s.2.2.2.2.2.2.2)))
def Hw (s:Y0):Option Y5:=(lp ML Fa (0,s.1,s.2.1,s.2.2.1,s.2.2.2.1,s.2.2.2.2.1,s.2.2.2.2.2.1,0,([]:List Lk),s.1,([]:List Lk),())).bind fun r0=>(match r0 with| .inl x1=>some x1.2.2| .inr _=>none)
def OL (s:(Int×Int×Int×List En×Y3)):Option ((Int×Int×Int×List En×Y3)⊕((Unit)⊕Y6)):=(bif decide (s.1<nI (List.length s.2.2.2.1)) then (bif Ea s.1 (List.length s.2.2.2.1) then (bif Ea s.1 (List.length s.2.2.2.2.2.2.1) then (bif (!(Ed [(Ba .en s.2.2.2.1 (Int.toNat s.1)).n,(Ba .en s.2.2.2.1 (Int.toNat s.1)).c] [(Ba .en s.2.2.2.2.2.2.1 (Int.toNat s.1)).n,(Ba .en s.2.2.2.2.2.2.1 (Int.toNat s.1)).c])) then some (Sum.inr (Sum.inr (false,()))) else some (Sum.inl (wrap64 (s.1+1),s.2))) else none) else none) else some (Sum.inr (Sum.inl ())))
def XA (s:(Int×Int×List En×Y3)):Option Y6:=(bif (!(decide (s.1=s.2.2.2.1))) then some (false,()) else (bif (!(decide (s.2.1=s.2.2.2.2.1))) then some (false,()) else (bif (!(decide (nI (List.length s.2.2.1)=nI (List.length s.2.2.2.2.2.1)))) then some (false,()) else (lp OL Fa (0,s)).bind fun r0=>(match r0 with| .inl _=>some (true,())| .inr y1=>some (y1.1,())))))
def YA (s:(List Ls×Int×Y8)):Option ((List Ls×Int×Y8)⊕(Y8⊕Unit)):=(bif decide (s.2.1<nI (List.length s.1)) then (bif Ea s.2.1 (List.length s.1) then (Si ((Ba .ls s.1 (Int.toNat s.2.1)).o,(Ba .ls s.1 (Int.toNat s.2.1)).s,(Ba .ls s.1 (Int.toNat s.2.1)).e,())).bind fun r0=>(bif decide ((List.length s.2.2.1+List.length [(Ls.mk r0.1 r0.2.1 r0.2.2.1)])≤(33554432:Nat)) then some (Sum.inl (s.1,wrap64 (s.2.1+1),(s.2.2.1++[(Ls.mk r0.1 r0.2.1 r0.2.2.1)]),())) else none) else none) else some (Sum.inr (Sum.inl s.2.2)))
def Qm (s:Y8):Option Y8:=(lp YA Fa (s.1,0,([]:List Ls),())).bind fun r0=>(match r0 with| .inl x1=>some x1| .inr _=>none)
def Oh (s:Y3):Option Y3:=(JS s.2.2).bind fun r0=>some (s.1,s.2.1,r0.1,())
def ZA (s:(Int×Y4)):Option ((Int×Y4)⊕(Y4⊕Unit)):=(bif decide (s.1<nI (List.length s.2.2.2.2.2.1)) then (bif Ea s.1 (List.length s.2.2.2.2.2.1) then (bif decide ((List.length s.2.2.2.2.2.2.2.1+List.length (Ba .db s.2.2.2.2.2.1 (Int.toNat s.1)))≤(33554432:Nat)) then some (Sum.inl (wrap64 (s.1+1),s.2.1,s.2.2.1,s.2.2.2.1,s.2.2.2.2.1,s.2.2.2.2.2.1,s.2.2.2.2.2.2.1,(s.2.2.2.2.2.2.2.1++Ba .db s.2.2.2.2.2.1 (Int.toNat s.1)),())) else none) else none) else some (Sum.inr (Sum.inl s.2)))
def BB (s:(Int×Y4)):Option ((Int×Y4)⊕(Y8⊕Unit)):=(bif decide (s.1<nI (List.length s.2.2.2.2.2.2.1)) then (bif Ea s.1 (List.length s.2.2.2.2.2.2.1) then (bif decide ((List.length s.2.2.2.2.2.2.2.1+List.length [(Ls.mk (((Ba .pk s.2.2.2.2.2.2.1 (Int.toNat s.1)).p).o) (((Ba .pk s.2.2.2.2.2.2.1 (Int.toNat s.1)).p).s) (((Ba .pk s.2.2.2.2.2.2.1 (Int.toNat s.1)).p).e))])≤(33554432:Nat)) then some (Sum.inl (wrap64 (s.1+1),s.2.1,s.2.2.1,s.2.2.2.1,s.2.2.2.2.1,s.2.2.2.2.2.1,s.2.2.2.2.2.2.1,(s.2.2.2.2.2.2.2.1++[(Ls.mk (((Ba .pk s.2.2.2.2.2.2.1 (Int.toNat s.1)).p).o) (((Ba .pk s.2.2.2.2.2.2.1 (Int.toNat s.1)).p).s) (((Ba .pk s.2.2.2.2.2.2.1 (Int.toNat s.1)).p).e))]),())) else none) else none) else some (Sum.inr (Sum.inl s.2.2.2.2.2.2.2)))
def PL (s:Y0):Option Y8:=(lp ZA Fa (0,s.1,s.2.1,s.2.2.1,s.2.2.2.1,s.2.2.2.2.1,s.2.2.2.2.2.1,([]:List Ls),())).bind fun r0=>(match r0 with| .inl x1=>(lp BB Fa (0,x1)).bind fun r2=>(match r2 with| .inl x3=>some x3| .inr _=>none)| .inr _=>none)
def CB (s:(Int×Y0)):Option ((Int×Y0)⊕((Unit)⊕Y6)):=(bif decide (s.1<s.2.1) then (bif Ea s.1 (List.length s.2.2.2.2.1) then (Vg (Ba .int s.2.2.2.2.1 (Int.toNat s.1),1,99,())).bind fun r0=>(bif (!r0.1) then some (Sum.inr (Sum.inr (false,()))) else (bif Ea s.1 (List.length s.2.2.2.2.2.1) then (QJ (Ba .db s.2.2.2.2.2.1 (Int.toNat s.1),())).bind fun r1=>(bif (!r1.1) then some (Sum.inr (Sum.inr (false,()))) else some (Sum.inl (wrap64 (s.1+1),s.2))) else none)) else none) else some (Sum.inr (Sum.inl ())))
def QL (s:Y0):Option Y6:=(Zy (s.1,s.2.1,())).bind fun r0=>(bif (!r0.1) then some (false,()) else (bif (!(decide (nI (List.length s.2.2.1)=nI (List.length s.2.1)))) then some (false,()) else (bif (!(decide (nI (List.length s.2.2.2.1)=s.1))) then some (false,()) else (bif (!(decide (nI (List.length s.2.2.2.2.1)=s.1))) then some (false,()) else (bif decide (16<nI (List.length s.2.2.2.2.2.1)) then some (false,()) else (lp CB Fa (0,s)).bind fun r1=>(match r1 with| .inl _=>some (true,())| .inr y2=>some (y2.1,())))))))
def DB (s:(List Ls×Int×Int×Y8)):Option ((List Ls×Int×Int×Y8)⊕(Y8⊕Unit)):=(bif decide (s.2.2.1<s.2.1) then (bif Ea s.2.2.1 (List.length s.1) then (Oh ((Ba .ls s.1 (Int.toNat s.2.2.1)).o,(Ba .ls s.1 (Int.toNat s.2.2.1)).s,(Ba .ls s.1 (Int.toNat s.2.2.1)).e,())).bind fun r0=>(bif decide ((List.length s.2.2.2.1+List.length [(Ls.mk r0.1 r0.2.1 r0.2.2.1)])≤(33554432:Nat)) then some (Sum.inl (s.1,s.2.1,wrap64 (s.2.2.1+1),(s.2.2.2.1++[(Ls.mk r0.1 r0.2.1 r0.2.2.1)]),())) else none) else none) else some (Sum.inr (Sum.inl s.2.2.2)))
def Kq (s:Y8):Option Y8:=(lp DB Fa (s.1,nI (List.length s.1),0,([]:List Ls),())).bind fun r0=>(match r0 with| .inl x1=>some x1| .inr _=>none)
def EB (s:(Int×Y7)):Option ((Int×Y7)⊕(Y7⊕Y6)):=(bif decide (s.1<nI (List.length s.2.2.2.2.2.2.2.2.2.1)) then (bif Ea s.1 (List.length s.2.2.2.2.2.2.2.2.2.1) then (Xv (s.2.1,s.2.2.1,s.2.2.2.2.2.2.2.1,(Ba .en s.2.2.2.2.2.2.2.2.2.1 (Int.toNat s.1)).n,())).bind fun r0=>(bif decide (r0.1<0) then some (Sum.inr (Sum.inr (false,()))) else (bif Ea r0.1 (List.length s.2.2.1) then (bif Ea s.1 (List.length s.2.2.2.2.2.2.2.2.2.1) then (bif (!(decide ((Ba .lk s.2.2.1 (Int.toNat r0.1)).c=(Ba .en s.2.2.2.2.2.2.2.2.2.1 (Int.toNat s.1)).c))) then some (Sum.inr (Sum.inr (false,()))) else some (Sum.inl (wrap64 (s.1+1),s.2))) else none) else none)) else none) else some (Sum.inr (Sum.inl s.2)))
def FB (s:Y7):Option Y6:=(Gz s.2.2.2.2.2.2).bind fun r0=>(bif (!r0.1) then some (false,()) else (bif decide (s.1≤s.2.2.2.2.2.2.1) then some (false,()) else (bif Ea s.2.2.2.2.2.2.1 (List.length s.2.2.2.1) then (bif decide (Ba .int s.2.2.2.1 (Int.toNat s.2.2.2.2.2.2.1)<s.2.2.2.2.2.2.2.1) then some (false,()) else (lp EB Fa (0,s)).bind fun r1=>(match r1 with| .inl x2=>(bif Ea x2.2.2.2.2.2.2.1 (List.length x2.2.2.2.1) then (bif decide (x2.2.2.2.2.2.2.2.1<Ba .int x2.2.2.2.1 (Int.toNat x2.2.2.2.2.2.2.1)) then some (true,()) else (Hw (x2.1,x2.2.1,x2.2.2.1,x2.2.2.2.1,x2.2.2.2.2.1,x2.2.2.2.2.2.1,())).bind fun r3=>(Aw (r3.1,r3.2.1,x2.2.2.2.2.2.2.1,x2.2.2.2.2.2.2.2.1,())).bind fun r4=>(XA (x2.2.2.2.2.2.2.1,x2.2.2.2.2.2.2.2.1,x2.2.2.2.2.2.2.2.2.1,r4)).bind fun r5=>some r5) else none)| .inr y2=>some (y2.1,()))) else none)))
def aT (_:(Int×Int×Yb)):Option Y6:=some (true,())
def GB (s:(List Ls×Yb)):Option ((List Ls×Yb)⊕((List Ls×Y2)⊕Y6)):=(bif decide (s.2.2.1<s.2.1) then (bif Ea s.2.1 (List.length s.1) then (bif Ea s.2.2.1 (List.length s.1) then (bif decide ((Ba .ls s.1 (Int.toNat s.2.1)).o=(Ba .ls s.1 (Int.toNat s.2.2.1)).o) then (bif Ea s.2.1 (List.length s.1) then (bif Ea s.2.2.1 (List.length s.1) then (bif decide ((Ba .ls s.1 (Int.toNat s.2.1)).s=(Ba .ls s.1 (Int.toNat s.2.2.1)).s) then (bif Ea s.2.1 (List.length s.1) then (bif Ea s.2.2.1 (List.length s.1) then (XA ((Ba .ls s.1 (Int.toNat s.2.1)).o,(Ba .ls s.1 (Int.toNat s.2.1)).s,(Ba .ls s.1 (Int.toNat s.2.1)).e,(Ba .ls s.1 (Int.toNat s.2.2.1)).o,(Ba .ls s.1 (Int.toNat s.2.2.1)).s,(Ba .ls s.1 (Int.toNat s.2.2.1)).e,())).bind fun r0=>(bif (!r0.1) then some (Sum.inr (Sum.inr (false,()))) else some (Sum.inl (s.1,s.2.1,wrap64 (s.2.2.1+1),()))) else none) else none) else some (Sum.inl (s.1,s.2.1,wrap64 (s.2.2.1+1),()))) else none) else none) else some (Sum.inl (s.1,s.2.1,wrap64 (s.2.2.1+1),()))) else none) else none) else some (Sum.inr (Sum.inl (s.1,s.2.1,()))))
def IB (s:(List Ls×Y2)):Option ((List Ls×Y2)⊕((Unit)⊕Y6)):=(bif decide (s.2.1<nI (List.length s.1)) then (lp GB Fa (s.1,s.2.1,0,())).bind fun r0=>(match r0 with| .inl x1=>some (Sum.inl (x1.1,wrap64 (x1.2.1+1),()))| .inr y1=>some (Sum.inr (Sum.inr (y1.1,())))) else some (Sum.inr (Sum.inl ())))
def RL (s:Y8):Option Y6:=(lp IB Fa (s.1,0,())).bind fun r0=>(match r0 with| .inl _=>some (true,())| .inr y1=>some (y1.1,()))
def RT (_:(Int×Int×Yb)):Option Y6:=some (true,())
def SL (s:(List En×List En×Yb)):Option ((List En×List En×Yb)⊕((Unit)⊕Y6)):=(bif decide (s.2.2.2.1<s.2.2.1) then (bif Ea s.2.2.2.1 (List.length s.1) then (bif Ea s.2.2.2.1 (List.length s.2.1) then (bif (!(Ed [(Ba .en s.1 (Int.toNat s.2.2.2.1)).n,(Ba .en s.1 (Int.toNat s.2.2.2.1)).c] [(Ba .en s.2.1 (Int.toNat s.2.2.2.1)).n,(Ba .en s.2.1 (Int.toNat s.2.2.2.1)).c])) then some (Sum.inr (Sum.inr (false,()))) else some (Sum.inl (s.1,s.2.1,s.2.2.1,wrap64 (s.2.2.2.1+1),()))) else none) else none) else some (Sum.inr (Sum.inl ())))
def TL (s:(List En×List En×Unit)):Option Y6:=(bif (!(decide (nI (List.length s.1)=nI (List.length s.2.1)))) then some (false,()) else (lp SL Fa (s.1,s.2.1,nI (List.length s.1),0,())).bind fun r0=>(match r0 with| .inl _=>some (true,())| .inr y1=>some (y1.1,())))
def JB (s:Y9):Option (Y1⊕Unit):=(LL (s.1,s.2.1,())).bind fun r0=>(bif decide (List.length s.2.2.1≤(33554432:Nat)) then (bif decide (List.length s.2.2.2.1≤(33554432:Nat)) then some (Sum.inl (s.1,s.2.1,s.2.2.1,s.2.2.2.1,s.2.2.2.2.1,s.2.2.2.2.2.1,s.2.2.2.2.2.2.1,s.2.2.2.2.2.2.2.1,s.2.2.2.2.2.2.2.2.1,s.2.2.2.2.2.2.2.2.2.1,s.2.2.2.2.2.2.2.2.2.2.1,s.2.2.2.2.2.2.2.2.2.2.2.1,r0.1,r0.2.1,s.2.2.1,s.2.2.2.1,([]:List (List Ls)),([]:List Pk),())) else none) else none)
def KB (s:(Int×Y1)):Option ((Int×Y1)⊕(Y1⊕Unit)):=(bif decide (s.1<nI (List.length s.2.2.2.2.2.1)) then (bif Ea s.1 (List.length s.2.2.2.2.2.1) then (Qm (Ba .db s.2.2.2.2.2.1 (Int.toNat s.1),())).bind fun r0=>(bif decide ((List.length s.2.2.2.2.2.2.2.2.2.2.2.2.2.2.2.2.2.1+List.length [r0.1])≤(33554432:Nat)) then some (Sum.inl (wrap64 (s.1+1),s.2.1,s.2.2.1,s.2.2.2.1,s.2.2.2.2.1,s.2.2.2.2.2.1,s.2.2.2.2.2.2.1,s.2.2.2.2.2.2.2.1,s.2.2.2.2.2.2.2.2.1,s.2.2.2.2.2.2.2.2.2.1,s.2.2.2.2.2.2.2.2.2.2.1,s.2.2.2.2.2.2.2.2.2.2.2.1,s.2.2.2.2.2.2.2.2.2.2.2.2.1,s.2.2.2.2.2.2.2.2.2.2.2.2.2.1,s.2.2.2.2.2.2.2.2.2.2.2.2.2.2.1,s.2.2.2.2.2.2.2.2.2.2.2.2.2.2.2.1,s.2.2.2.2.2.2.2.2.2.2.2.2.2.2.2.2.1,(s.2.2.2.2.2.2.2.2.2.2.2.2.2.2.2.2.2.1++[r0.1]),s.2.2.2.2.2.2.2.2.2.2.2.2.2.2.2.2.2.2)) else none) else none) else some (Sum.inr (Sum.inl s.2)))
def LB (s:(Int×Y1)):Option ((Int×Y1)⊕(Y9⊕Unit)):=(bif decide (s.1<nI (List.length s.2.2.2.2.2.2.1)) then (bif Ea s.1 (List.length s.2.2.2.2.2.2.1) then (bif Ea s.1 (List.length s.2.2.2.2.2.2.1) then (Si (((Ba .pk s.2.2.2.2.2.2.1 (Int.toNat s.1)).p).o,((Ba .pk s.2.2.2.2.2.2.1 (Int.toNat s.1)).p).s,((Ba .pk s.2.2.2.2.2.2.1 (Int.toNat s.1)).p).e,())).bind fun r0=>(bif decide ((List.length s.2.2.2.2.2.2.2.2.2.2.2.2.2.2.2.2.2.2.1+List.length [(Pk.mk ((Ba .pk s.2.2.2.2.2.2.1 (Int.toNat s.1)).t) (Ls.mk r0.1 r0.2.1 r0.2.2.1))])≤(33554432:Nat)) then some (Sum.inl (wrap64 (s.1+1),s.2.1,s.2.2.1,s.2.2.2.1,s.2.2.2.2.1,s.2.2.2.2.2.1,s.2.2.2.2.2.2.1,s.2.2.2.2.2.2.2.1,s.2.2.2.2.2.2.2.2.1,s.2.2.2.2.2.2.2.2.2.1,s.2.2.2.2.2.2.2.2.2.2.1,s.2.2.2.2.2.2.2.2.2.2.2.1,s.2.2.2.2.2.2.2.2.2.2.2.2.1,s.2.2.2.2.2.2.2.2.2.2.2.2.2.1,s.2.2.2.2.2.2.2.2.2.2.2.2.2.2.1,s.2.2.2.2.2.2.2.2.2.2.2.2.2.2.2.1,s.2.2.2.2.2.2.2.2.2.2.2.2.2.2.2.2.1,s.2.2.2.2.2.2.2.2.2.2.2.2.2.2.2.2.2.1,(s.2.2.2.2.2.2.2.2.2.2.2.2.2.2.2.2.2.2.1++[(Pk.mk ((Ba .pk s.2.2.2.2.2.2.1 (Int.toNat s.1)).t) (Ls.mk r0.1 r0.2.1 r0.2.2.1))]),())) else none) else none) else none) else some (Sum.inr (Sum.inl s.2.2.2.2.2.2.2)))
def Lq (s:Y0):Option Y0:=(JB (s.1,s.2.1,s.2.2.1,s.2.2.2.1,s.2.2.2.2.1,s.2.2.2.2.2.1,0,([]:List Lk),([]:List Bool),([]:List Int),([]:List (List Ls)),([]:List Pk),())).bind fun r0=>(match r0 with| .inl x1=>(lp KB Fa (0,x1)).bind fun r2=>(match r2 with| .inl x3=>(lp LB Fa (0,x3)).bind fun r4=>(match r4 with| .inl x5=>some x5.2.2.2.2.2.2| .inr _=>none)| .inr _=>none)| .inr _=>none)
def MB (s:(Int×Int×List En×Y3)):Option Y6:=(bif decide (s.1=s.2.2.2.1) then (bif decide (s.2.1=s.2.2.2.2.1) then (TL (s.2.2.1,s.2.2.2.2.2)).bind fun r0=>some r0 else some (false,())) else some (false,()))
def UL (s:(Int×Int×List En×Y3)):Option Y6:=(bif decide (s.1=s.2.2.2.1) then (bif decide (s.2.1=s.2.2.2.2.1) then (MB s).bind fun r0=>some ((!r0.1),()) else some (false,())) else some (false,()))
def ST (s:Wv):Option (Wv⊕((Int×Int×List Lk×List Lk×Unit)⊕Unit)):=(bif decide (s.2.2.1<s.2.1) then (bif Ea s.2.2.1 (List.length s.1) then (aT (s.2.2.1,(Ba .lk s.1 (Int.toNat s.2.2.1)).a,(Ba .lk s.1 (Int.toNat s.2.2.1)).b,(Ba .lk s.1 (Int.toNat s.2.2.1)).c,())).bind fun r0=>(bif r0.1 then (bif decide ((List.length s.2.2.2.2.2.2.1+List.length [(Lk.mk ((Ba .lk s.1 (Int.toNat s.2.2.1)).a) ((Ba .lk s.1 (Int.toNat s.2.2.1)).b) ((Ba .lk s.1 (Int.toNat s.2.2.1)).c))])≤(33554432:Nat)) then some (Sum.inl (s.1,s.2.1,wrap64 (s.2.2.1+1),s.2.2.2.1,s.2.2.2.2.1,s.2.2.2.2.2.1,(s.2.2.2.2.2.2.1++[(Lk.mk ((Ba .lk s.1 (Int.toNat s.2.2.1)).a) ((Ba .lk s.1 (Int.toNat s.2.2.1)).b) ((Ba .lk s.1 (Int.toNat s.2.2.1)).c))]),())) else none) else some (Sum.inl (s.1,s.2.1,wrap64 (s.2.2.1+1),s.2.2.2))) else none) else some (Sum.inr (Sum.inl s.2.2.2)))
def tD (s:Y5):Option Y5:=(lp ST Fa (s.2.1,nI (List.length s.2.1),0,0,s.1,([]:List Lk),([]:List Lk),())).bind fun r0=>(match r0 with| .inl x1=>some (x1.2.1,x1.2.2.2)| .inr _=>none)
def TT (s:(Int×Int×Int×Int×Y0)):Option Y6:=(bif Ea s.1 (List.length s.2.2.2.2.2.2.1) then some (Ba .bool s.2.2.2.2.2.2.1 (Int.toNat s.1),()) else none)
def VL (s:Wv):Option (Wv⊕((Int×Int×List Lk×List Lk×Unit)⊕Unit)):=(bif decide (s.2.2.1<s.2.1) then (bif Ea s.2.2.1 (List.length s.1) then (RT (s.2.2.1,(Ba .lk s.1 (Int.toNat s.2.2.1)).a,(Ba .lk s.1 (Int.toNat s.2.2.1)).b,(Ba .lk s.1 (Int.toNat s.2.2.1)).c,())).bind fun r0=>(bif r0.1 then (bif decide ((List.length s.2.2.2.2.2.2.1+List.length [(Lk.mk ((Ba .lk s.1 (Int.toNat s.2.2.1)).a) ((Ba .lk s.1 (Int.toNat s.2.2.1)).b) ((Ba .lk s.1 (Int.toNat s.2.2.1)).c))])≤(33554432:Nat)) then some (Sum.inl (s.1,s.2.1,wrap64 (s.2.2.1+1),s.2.2.2.1,s.2.2.2.2.1,s.2.2.2.2.2.1,(s.2.2.2.2.2.2.1++[(Lk.mk ((Ba .lk s.1 (Int.toNat s.2.2.1)).a) ((Ba .lk s.1 (Int.toNat s.2.2.1)).b) ((Ba .lk s.1 (Int.toNat s.2.2.1)).c))]),())) else none) else some (Sum.inl (s.1,s.2.1,wrap64 (s.2.2.1+1),s.2.2.2))) else none) else some (Sum.inr (Sum.inl s.2.2.2)))
def WL (s:Y5):Option Y5:=(lp VL Fa (s.2.1,nI (List.length s.2.1),0,0,s.1,([]:List Lk),([]:List Lk),())).bind fun r0=>(match r0 with| .inl x1=>some (x1.2.1,x1.2.2.2)| .inr _=>none)
def NB (s:(List Ls×Int×Int×List En×Yb)):Option ((List Ls×Int×Int×List En×Yb)⊕((Unit)⊕Y2)):=(bif decide (s.2.2.2.2.2.1<s.2.2.2.2.1) then (bif Ea s.2.2.2.2.2.1 (List.length s.1) then (UL ((Ba .ls s.1 (Int.toNat s.2.2.2.2.2.1)).o,(Ba .ls s.1 (Int.toNat s.2.2.2.2.2.1)).s,(Ba .ls s.1 (Int.toNat s.2.2.2.2.2.1)).e,s.2.1,s.2.2.1,s.2.2.2.1,())).bind fun r0=>(bif r0.1 then some (Sum.inr (Sum.inr s.2.2.2.2.2)) else some (Sum.inl (s.1,s.2.1,s.2.2.1,s.2.2.2.1,s.2.2.2.2.1,wrap64 (s.2.2.2.2.2.1+1),()))) else none) else some (Sum.inr (Sum.inl ())))
def UT (s:(List Ls×Y3)):Option Y2:=(lp NB Fa (s.1,s.2.1,s.2.2.1,s.2.2.2.1,nI (List.length s.1),0,())).bind fun r0=>(match r0 with| .inl _=>some ((-(1)),())| .inr y1=>some (y1.1,()))
def XL (s:(List Ls×Y3)):Option Y6:=(UT s).bind fun r0=>some (decide (0≤r0.1),())
def YL (s:(Int×List Lk×List Bool×List Int×List (List Ls)×List Pk×Wv)):Option ((Int×List Lk×List Bool×List Int×List (List Ls)×List Pk×Wv)⊕((Int×Int×List Lk×List Lk×Unit)⊕Unit)):=(bif decide (s.2.2.2.2.2.2.2.2.1<s.2.2.2.2.2.2.2.1) then (bif Ea s.2.2.2.2.2.2.2.2.1 (List.length s.2.2.2.2.2.2.1) then (TT (s.2.2.2.2.2.2.2.2.1,(Ba .lk s.2.2.2.2.2.2.1 (Int.toNat s.2.2.2.2.2.2.2.2.1)).a,(Ba .lk s.2.2.2.2.2.2.1 (Int.toNat s.2.2.2.2.2.2.2.2.1)).b,(Ba .lk s.2.2.2.2.2.2.1 (Int.toNat s.2.2.2.2.2.2.2.2.1)).c,s.1,s.2.1,s.2.2.1,s.2.2.2.1,s.2.2.2.2.1,s.2.2.2.2.2.1,())).bind fun r0=>(bif r0.1 then (bif decide ((List.length s.2.2.2.2.2.2.2.2.2.2.2.2.1+List.length [(Lk.mk ((Ba .lk s.2.2.2.2.2.2.1 (Int.toNat s.2.2.2.2.2.2.2.2.1)).a) ((Ba .lk s.2.2.2.2.2.2.1 (Int.toNat s.2.2.2.2.2.2.2.2.1)).b) ((Ba .lk s.2.2.2.2.2.2.1 (Int.toNat s.2.2.2.2.2.2.2.2.1)).c))])≤(33554432:Nat)) then some (Sum.inl (s.1,s.2.1,s.2.2.1,s.2.2.2.1,s.2.2.2.2.1,s.2.2.2.2.2.1,s.2.2.2.2.2.2.1,s.2.2.2.2.2.2.2.1,wrap64 (s.2.2.2.2.2.2.2.2.1+1),s.2.2.2.2.2.2.2.2.2.1,s.2.2.2.2.2.2.2.2.2.2.1,s.2.2.2.2.2.2.2.2.2.2.2.1,(s.2.2.2.2.2.2.2.2.2.2.2.2.1++[(Lk.mk ((Ba .lk s.2.2.2.2.2.2.1 (Int.toNat s.2.2.2.2.2.2.2.2.1)).a) ((Ba .lk s.2.2.2.2.2.2.1 (Int.toNat s.2.2.2.2.2.2.2.2.1)).b) ((Ba .lk s.2.2.2.2.2.2.1 (Int.toNat s.2.2.2.2.2.2.2.2.1)).c))]),())) else none) else some (Sum.inl (s.1,s.2.1,s.2.2.1,s.2.2.2.1,s.2.2.2.2.1,s.2.2.2.2.2.1,s.2.2.2.2.2.2.1,s.2.2.2.2.2.2.2.1,wrap64 (s.2.2.2.2.2.2.2.2.1+1),s.2.2.2.2.2.2.2.2.2))) else none) else some (Sum.inr (Sum.inl s.2.2.2.2.2.2.2.2.2)))
def VT (s:(Int×List Lk×Y0)):Option Y5:=(lp YL Fa (s.2.2.1,s.2.2.2.1,s.2.2.2.2.1,s.2.2.2.2.2.1,s.2.2.2.2.2.2.1,s.2.2.2.2.2.2.2.1,s.2.1,nI (List.length s.2.1),0,0,s.1,([]:List Lk),([]:List Lk),())).bind fun r0=>(match r0 with| .inl x1=>some (x1.2.1,x1.2.2.2)| .inr _=>none)
def OB (s:(Int×Int×Y0)):Option ((Int×Int×Y0)⊕((Int×Y0)⊕Y6)):=(bif Ea s.1 (List.length s.2.2.2.2.2.2.1) then (bif decide (s.2.1<nI (List.length (Ba .db s.2.2.2.2.2.2.1 (Int.toNat s.1)))) then (bif Ea s.1 (List.length s.2.2.2.2.2.2.1) then (bif Ea s.2.1 (List.length (Ba .db s.2.2.2.2.2.2.1 (Int.toNat s.1))) then (FB (s.2.2.1,s.2.2.2.1,s.2.2.2.2.1,s.2.2.2.2.2.1,s.2.2.2.2.2.2.1,s.2.2.2.2.2.2.2.1,(Ba .ls (Ba .db s.2.2.2.2.2.2.1 (Int.toNat s.1)) (Int.toNat s.2.1)).o,(Ba .ls (Ba .db s.2.2.2.2.2.2.1 (Int.toNat s.1)) (Int.toNat s.2.1)).s,(Ba .ls (Ba .db s.2.2.2.2.2.2.1 (Int.toNat s.1)) (Int.toNat s.2.1)).e,())).bind fun r0=>(bif (!r0.1) then some (Sum.inr (Sum.inr (false,()))) else some (Sum.inl (s.1,wrap64 (s.2.1+1),s.2.2))) else none) else none) else some (Sum.inr (Sum.inl (s.1,s.2.2)))) else none)
def PB (s:(Int×Y0)):Option ((Int×Y0)⊕(Y0⊕Y6)):=(bif decide (s.1<s.2.1) then (lp OB Fa (s.1,0,s.2)).bind fun r0=>(match r0 with| .inl x1=>(bif Ea x1.1 (List.length x1.2.2.2.2.2.1) then (Ez (Ba .db x1.2.2.2.2.2.1 (Int.toNat x1.1),x1.1,())).bind fun r2=>(bif (!r2.2.2.2.1) then some (Sum.inr (Sum.inr (false,()))) else (bif Ea x1.1 (List.length x1.2.2.2.2.1) then (bif (!(decide (r2.2.1=Ba .int x1.2.2.2.2.1 (Int.toNat x1.1)))) then some (Sum.inr (Sum.inr (false,()))) else some (Sum.inl (wrap64 (x1.1+1),x1.2))) else none)) else none)| .inr y1=>some (Sum.inr (Sum.inr (y1.1,())))) else some (Sum.inr (Sum.inl s.2)))
def QB (s:(Int×Y0)):Option ((Int×Y0)⊕((Unit)⊕Y6)):=(bif decide (s.1<nI (List.length s.2.2.2.2.2.2.1)) then (bif Ea s.1 (List.length s.2.2.2.2.2.2.1) then (Vg ((Ba .pk s.2.2.2.2.2.2.1 (Int.toNat s.1)).t,0,wrap64 (s.2.1-1),())).bind fun r0=>(bif (!r0.1) then some (Sum.inr (Sum.inr (false,()))) else (bif Ea s.1 (List.length s.2.2.2.2.2.2.1) then (FB (s.2.1,s.2.2.1,s.2.2.2.1,s.2.2.2.2.1,s.2.2.2.2.2.1,s.2.2.2.2.2.2.1,((Ba .pk s.2.2.2.2.2.2.1 (Int.toNat s.1)).p).o,((Ba .pk s.2.2.2.2.2.2.1 (Int.toNat s.1)).p).s,((Ba .pk s.2.2.2.2.2.2.1 (Int.toNat s.1)).p).e,())).bind fun r1=>(bif (!r1.1) then some (Sum.inr (Sum.inr (false,()))) else some (Sum.inl (wrap64 (s.1+1),s.2))) else none)) else none) else some (Sum.inr (Sum.inl ())))
def ZL (s:Y0):Option Y6:=(QL s).bind fun r0=>(bif (!r0.1) then some (false,()) else (PL s).bind fun r1=>(RL r1).bind fun r2=>(bif (!r2.1) then some (false,()) else (lp PB Fa (0,s)).bind fun r3=>(match r3 with| .inl x4=>(lp QB Fa (0,x4)).bind fun r5=>(match r5 with| .inl _=>some (true,())| .inr y6=>some (y6.1,()))| .inr y4=>some (y4.1,()))))
def Iw (s:Y0):Option Y5:=(VT (s.1,s.2.1,s)).bind fun r0=>some r0
def RB (s:Y9):Option (Y1⊕Unit):=(WL (s.1,s.2.1,())).bind fun r0=>(j1 (s.2.2.1,())).bind fun r1=>(HS (s.2.2.2.1,())).bind fun r2=>some (Sum.inl (s.1,s.2.1,s.2.2.1,s.2.2.2.1,s.2.2.2.2.1,s.2.2.2.2.2.1,s.2.2.2.2.2.2.1,s.2.2.2.2.2.2.2.1,s.2.2.2.2.2.2.2.2.1,s.2.2.2.2.2.2.2.2.2.1,s.2.2.2.2.2.2.2.2.2.2.1,s.2.2.2.2.2.2.2.2.2.2.2.1,r0.1,r0.2.1,r1.1,r2.1,([]:List (List Ls)),([]:List Pk),()))
def SB (s:(List (List Ls)×Int×Int×Y1)):Option ((List (List Ls)×Int×Int×Y1)⊕(Y1⊕Unit)):=(bif decide (s.2.2.1<s.2.1) then (bif Ea s.2.2.1 (List.length s.1) then (Kq (Ba .db s.1 (Int.toNat s.2.2.1),())).bind fun r0=>(bif decide ((List.length s.2.2.2.2.2.2.2.2.2.2.2.2.2.2.2.2.2.2.2.1+List.length [r0.1])≤(33554432:Nat)) then some (Sum.inl (s.1,s.2.1,wrap64 (s.2.2.1+1),s.2.2.2.1,s.2.2.2.2.1,s.2.2.2.2.2.1,s.2.2.2.2.2.2.1,s.2.2.2.2.2.2.2.1,s.2.2.2.2.2.2.2.2.1,s.2.2.2.2.2.2.2.2.2.1,s.2.2.2.2.2.2.2.2.2.2.1,s.2.2.2.2.2.2.2.2.2.2.2.1,s.2.2.2.2.2.2.2.2.2.2.2.2.1,s.2.2.2.2.2.2.2.2.2.2.2.2.2.1,s.2.2.2.2.2.2.2.2.2.2.2.2.2.2.1,s.2.2.2.2.2.2.2.2.2.2.2.2.2.2.2.1,s.2.2.2.2.2.2.2.2.2.2.2.2.2.2.2.2.1,s.2.2.2.2.2.2.2.2.2.2.2.2.2.2.2.2.2.1,s.2.2.2.2.2.2.2.2.2.2.2.2.2.2.2.2.2.2.1,(s.2.2.2.2.2.2.2.2.2.2.2.2.2.2.2.2.2.2.2.1++[r0.1]),s.2.2.2.2.2.2.2.2.2.2.2.2.2.2.2.2.2.2.2.2)) else none) else none) else some (Sum.inr (Sum.inl s.2.2.2)))
def TB (s:(List Pk×Int×Int×Y9)):Option ((List Pk×Int×Int×Y9)⊕(Y9⊕Unit)):=(bif decide (s.2.2.1<s.2.1) then (bif Ea s.2.2.1 (List.length s.1) then (Oh (((Ba .pk s.1 (Int.toNat s.2.2.1)).p).o,((Ba .pk s.1 (Int.toNat s.2.2.1)).p).s,((Ba .pk s.1 (Int.toNat s.2.2.1)).p).e,())).bind fun r0=>(bif decide ((List.length s.2.2.2.2.2.2.2.2.2.2.2.2.2.2.1+List.length [(Pk.mk ((Ba .pk s.1 (Int.toNat s.2.2.1)).t) (Ls.mk r0.1 r0.2.1 r0.2.2.1))])≤(33554432:Nat)) then some (Sum.inl (s.1,s.2.1,wrap64 (s.2.2.1+1),s.2.2.2.1,s.2.2.2.2.1,s.2.2.2.2.2.1,s.2.2.2.2.2.2.1,s.2.2.2.2.2.2.2.1,s.2.2.2.2.2.2.2.2.1,s.2.2.2.2.2.2.2.2.2.1,s.2.2.2.2.2.2.2.2.2.2.1,s.2.2.2.2.2.2.2.2.2.2.2.1,s.2.2.2.2.2.2.2.2.2.2.2.2.1,s.2.2.2.2.2.2.2.2.2.2.2.2.2.1,(s.2.2.2.2.2.2.2.2.2.2.2.2.2.2.1++[(Pk.mk ((Ba .pk s.1 (Int.toNat s.2.2.1)).t) (Ls.mk r0.1 r0.2.1 r0.2.2.1))]),())) else none) else none) else some (Sum.inr (Sum.inl s.2.2.2)))
def AM (s:Y0):Option Y0:=(RB (s.1,s.2.1,s.2.2.1,s.2.2.2.1,s.2.2.2.2.1,s.2.2.2.2.2.1,0,([]:List Lk),([]:List Bool),([]:List Int),([]:List (List Ls)),([]:List Pk),())).bind fun r0=>(match r0 with| .inl x1=>(lp SB Fa (x1.2.2.2.2.1,nI (List.length x1.2.2.2.2.1),0,x1)).bind fun r2=>(match r2 with| .inl x3=>(lp TB Fa (x3.2.2.2.2.2.1,nI (List.length x3.2.2.2.2.2.1),0,x3.2.2.2.2.2.2)).bind fun r4=>(match r4 with| .inl x5=>some x5.2.2.2.2.2.2| .inr _=>none)| .inr _=>none)| .inr _=>none)
def UB (s:(List En×Int×Int×Y7)):Option ((List En×Int×Int×Y7)⊕(Y7⊕Y6)):=(bif decide (s.2.2.1<s.2.1) then (bif Ea s.2.2.1 (List.length s.1) then (Cz (s.2.2.2.1,s.2.2.2.2.1,s.2.2.2.2.2.2.2.2.2.1,(Ba .en s.1 (Int.toNat s.2.2.1)).n,())).bind fun r0=>(bif decide (r0.1<0) then some (Sum.inr (Sum.inr (false,()))) else (bif Ea r0.1 (List.length s.2.2.2.2.1) then (bif (!(decide ((Ba .lk s.2.2.2.2.1 (Int.toNat r0.1)).c=(Ba .en s.1 (Int.toNat s.2.2.1)).c))) then some (Sum.inr (Sum.inr (false,()))) else some (Sum.inl (s.1,s.2.1,wrap64 (s.2.2.1+1),s.2.2.2))) else none)) else none) else some (Sum.inr (Sum.inl s.2.2.2)))
def BM (s:Y7):Option Y6:=(Fz s.2.2.2.2.2.2).bind fun r0=>(bif (!r0.1) then some (false,()) else (bif decide (s.1≤s.2.2.2.2.2.2.1) then some (false,()) else (bif Ea s.2.2.2.2.2.2.1 (List.length s.2.2.2.1) then (bif decide (Ba .int s.2.2.2.1 (Int.toNat s.2.2.2.2.2.2.1)<s.2.2.2.2.2.2.2.1) then some (false,()) else (lp UB Fa (s.2.2.2.2.2.2.2.2.1,nI (List.length s.2.2.2.2.2.2.2.2.1),0,s)).bind fun r1=>(match r1 with| .inl x2=>(bif Ea x2.2.2.2.2.2.2.1 (List.length x2.2.2.2.1) then (bif decide (x2.2.2.2.2.2.2.2.1<Ba .int x2.2.2.2.1 (Int.toNat x2.2.2.2.2.2.2.1)) then some (true,()) else (Iw (x2.1,x2.2.1,x2.2.2.1,x2.2.2.2.1,x2.2.2.2.2.1,x2.2.2.2.2.2.1,())).bind fun r3=>(Dw (r3.1,r3.2.1,x2.2.2.2.2.2.2.1,x2.2.2.2.2.2.2.2.1,())).bind fun r4=>(MB (x2.2.2.2.2.2.2.1,x2.2.2.2.2.2.2.2.1,x2.2.2.2.2.2.2.2.2.1,r4)).bind fun r5=>some r5) else none)| .inr y2=>some (y2.1,()))) else none)))
def Wo (s:(List Ls×Y3)):Option (Int×Y8):=(Kq (s.1,())).bind fun r0=>(Cw (r0.1,s.2.1,())).bind fun r1=>(bif r1.2.1 then (bif Ea r1.1 (List.length r0.1) then (bif decide ((Ba .ls r0.1 (Int.toNat r1.1)).s=s.2.2.1) then some (1,r0) else (bif r1.2.1 then (bif Ea r1.1 (List.length r0.1) then (bif decide (s.2.2.1<(Ba .ls r0.1 (Int.toNat r1.1)).s) then some (2,r0) else (bif r1.2.1 then (Oh s.2).bind fun r2=>(bif Ea r1.1 (List.length r0.1) then some (0,List.set r0.1 (Int.toNat r1.1) (Ls.mk r2.1 r2.2.1 r2.2.2.1),()) else none) else (Oh s.2).bind fun r3=>(Fq (r1.1,r0.1,[(Ls.mk r3.1 r3.2.1 r3.2.2.1)],())).bind fun r4=>some (0,r4.1,()))) else none) else (bif r1.2.1 then (Oh s.2).bind fun r5=>(bif Ea r1.1 (List.length r0.1) then some (0,List.set r0.1 (Int.toNat r1.1) (Ls.mk r5.1 r5.2.1 r5.2.2.1),()) else none) else (Oh s.2).bind fun r6=>(Fq (r1.1,r0.1,[(Ls.mk r6.1 r6.2.1 r6.2.2.1)],())).bind fun r7=>some (0,r7.1,())))) else none) else (bif r1.2.1 then (bif Ea r1.1 (List.length r0.1) then (bif decide (s.2.2.1<(Ba .ls r0.1 (Int.toNat r1.1)).s) then some (2,r0) else (bif r1.2.1 then (Oh s.2).bind fun r8=>(bif Ea r1.1 (List.length r0.1) then some (0,List.set r0.1 (Int.toNat r1.1) (Ls.mk r8.1 r8.2.1 r8.2.2.1),()) else none) else (Oh s.2).bind fun r9=>(Fq (r1.1,r0.1,[(Ls.mk r9.1 r9.2.1 r9.2.2.1)],())).bind fun r10=>some (0,r10.1,()))) else none) else (bif r1.2.1 then (Oh s.2).bind fun r11=>(bif Ea r1.1 (List.length r0.1) then some (0,List.set r0.1 (Int.toNat r1.1) (Ls.mk r11.1 r11.2.1 r11.2.2.1),()) else none) else (Oh s.2).bind fun r12=>(Fq (r1.1,r0.1,[(Ls.mk r12.1 r12.2.1 r12.2.2.1)],())).bind fun r13=>some (0,r13.1,()))))
def Gl (s:(List Ls×Int×Int×Int×List En×Y8)):Option ((List Ls×Int×Int×Int×List En×Y8)⊕((List Ls×Int×Int×List En×Y8)⊕Unit)):=(bif decide (s.2.1<nI (List.length s.1)) then (bif Ea s.2.1 (List.length s.1) then (bif decide ((Ba .ls s.1 (Int.toNat s.2.1)).o<s.2.2.1) then (bif Ea s.2.1 (List.length s.1) then (Si ((Ba .ls s.1 (Int.toNat s.2.1)).o,(Ba .ls s.1 (Int.toNat s.2.1)).s,(Ba .ls s.1 (Int.toNat s.2.1)).e,())).bind fun r0=>(bif decide ((List.length s.2.2.2.2.2.1+List.length [(Ls.mk r0.1 r0.2.1 r0.2.2.1)])≤(33554432:Nat)) then some (Sum.inl (s.1,wrap64 (s.2.1+1),s.2.2.1,s.2.2.2.1,s.2.2.2.2.1,(s.2.2.2.2.2.1++[(Ls.mk r0.1 r0.2.1 r0.2.2.1)]),())) else none) else none) else some (Sum.inr (Sum.inl (s.1,s.2.2)))) else none) else some (Sum.inr (Sum.inl (s.1,s.2.2))))
def Hl (s:(List Ls×Int×Int×Int×List En×Y8)):Option ((List Ls×Int×Int×Int×List En×Y8)⊕(Y8⊕Unit)):=(bif decide (s.2.1<nI (List.length s.1)) then (bif Ea s.2.1 (List.length s.1) then (bif decide (s.2.2.1<(Ba .ls s.1 (Int.toNat s.2.1)).o) then (bif Ea s.2.1 (List.length s.1) then (Si ((Ba .ls s.1 (Int.toNat s.2.1)).o,(Ba .ls s.1 (Int.toNat s.2.1)).s,(Ba .ls s.1 (Int.toNat s.2.1)).e,())).bind fun r0=>(bif decide ((List.length s.2.2.2.2.2.1+List.length [(Ls.mk r0.1 r0.2.1 r0.2.2.1)])≤(33554432:Nat)) then some (Sum.inl (s.1,wrap64 (s.2.1+1),s.2.2.1,s.2.2.2.1,s.2.2.2.2.1,(s.2.2.2.2.2.1++[(Ls.mk r0.1 r0.2.1 r0.2.2.1)]),())) else none) else none) else some (Sum.inl (s.1,wrap64 (s.2.1+1),s.2.2))) else none) else some (Sum.inr (Sum.inl s.2.2.2.2.2)))
def Jw (s:(List Ls×Y3)):Option (Int×Y8):=(Ez (s.1,s.2.1,())).bind fun r0=>(bif r0.2.2.2.1 then (bif decide (r0.2.1=s.2.2.1) then (Qm (s.1,())).bind fun r1=>some (1,r1) else (bif r0.2.2.2.1 then (bif decide (s.2.2.1<r0.2.1) then (Qm (s.1,())).bind fun r2=>some (2,r2) else (lp Gl Fa (s.1,0,s.2.1,s.2.2.1,s.2.2.2.1,([]:List Ls),())).bind fun r3=>(match r3 with| .inl x4=>(Si (x4.2.1,x4.2.2.1,x4.2.2.2.1,())).bind fun r5=>(bif decide ((List.length x4.2.2.2.2.1+List.length [(Ls.mk r5.1 r5.2.1 r5.2.2.1)])≤(33554432:Nat)) then (lp Hl Fa (x4.1,0,x4.2.1,x4.2.2.1,x4.2.2.2.1,(x4.2.2.2.2.1++[(Ls.mk r5.1 r5.2.1 r5.2.2.1)]),())).bind fun r6=>(match r6 with| .inl x7=>some (0,x7)| .inr _=>none) else none)| .inr _=>none)) else (lp Gl Fa (s.1,0,s.2.1,s.2.2.1,s.2.2.2.1,([]:List Ls),())).bind fun r8=>(match r8 with| .inl x9=>(Si (x9.2.1,x9.2.2.1,x9.2.2.2.1,())).bind fun r10=>(bif decide ((List.length x9.2.2.2.2.1+List.length [(Ls.mk r10.1 r10.2.1 r10.2.2.1)])≤(33554432:Nat)) then (lp Hl Fa (x9.1,0,x9.2.1,x9.2.2.1,x9.2.2.2.1,(x9.2.2.2.2.1++[(Ls.mk r10.1 r10.2.1 r10.2.2.1)]),())).bind fun r11=>(match r11 with| .inl x12=>some (0,x12)| .inr _=>none) else none)| .inr _=>none))) else (bif r0.2.2.2.1 then (bif decide (s.2.2.1<r0.2.1) then (Qm (s.1,())).bind fun r13=>some (2,r13) else (lp Gl Fa (s.1,0,s.2.1,s.2.2.1,s.2.2.2.1,([]:List Ls),())).bind fun r14=>(match r14 with| .inl x15=>(Si (x15.2.1,x15.2.2.1,x15.2.2.2.1,())).bind fun r16=>(bif decide ((List.length x15.2.2.2.2.1+List.length [(Ls.mk r16.1 r16.2.1 r16.2.2.1)])≤(33554432:Nat)) then (lp Hl Fa (x15.1,0,x15.2.1,x15.2.2.1,x15.2.2.2.1,(x15.2.2.2.2.1++[(Ls.mk r16.1 r16.2.1 r16.2.2.1)]),())).bind fun r17=>(match r17 with| .inl x18=>some (0,x18)| .inr _=>none) else none)| .inr _=>none)) else (lp Gl Fa (s.1,0,s.2.1,s.2.2.1,s.2.2.2.1,([]:List Ls),())).bind fun r19=>(match r19 with| .inl x20=>(Si (x20.2.1,x20.2.2.1,x20.2.2.2.1,())).bind fun r21=>(bif decide ((List.length x20.2.2.2.2.1+List.length [(Ls.mk r21.1 r21.2.1 r21.2.2.1)])≤(33554432:Nat)) then (lp Hl Fa (x20.1,0,x20.2.1,x20.2.2.1,x20.2.2.2.1,(x20.2.2.2.2.1++[(Ls.mk r21.1 r21.2.1 r21.2.2.1)]),())).bind fun r22=>(match r22 with| .inl x23=>some (0,x23)| .inr _=>none) else none)| .inr _=>none)))
def VB (s:(List Ls×Int×Int×Y8)):Option ((List Ls×Int×Int×Y8)⊕(Y8⊕Unit)):=(bif decide (s.2.2.1<s.2.1) then (bif Ea s.2.2.1 (List.length s.1) then (Wo (s.2.2.2.1,(Ba .ls s.1 (Int.toNat s.2.2.1)).o,(Ba .ls s.1 (Int.toNat s.2.2.1)).s,(Ba .ls s.1 (Int.toNat s.2.2.1)).e,())).bind fun r0=>some (Sum.inl (s.1,s.2.1,wrap64 (s.2.2.1+1),r0.2)) else none) else some (Sum.inr (Sum.inl s.2.2.2)))
def Ge (s:(List Ls×Y8)):Option Y8:=(Kq (s.1,())).bind fun r0=>(lp VB Fa (s.2.1,nI (List.length s.2.1),0,r0)).bind fun r1=>(match r1 with| .inl x2=>some x2| .inr _=>none)
def WB (s:(List Ls×Int×Y8)):Option ((List Ls×Int×Y8)⊕(Y8⊕Unit)):=(bif decide (s.2.1<nI (List.length s.1)) then (bif Ea s.2.1 (List.length s.1) then (Jw (s.2.2.1,(Ba .ls s.1 (Int.toNat s.2.1)).o,(Ba .ls s.1 (Int.toNat s.2.1)).s,(Ba .ls s.1 (Int.toNat s.2.1)).e,())).bind fun r0=>some (Sum.inl (s.1,wrap64 (s.2.1+1),r0.2)) else none) else some (Sum.inr (Sum.inl s.2.2)))
def CM (s:(List Ls×Y8)):Option Y8:=(Qm (s.1,())).bind fun r0=>(lp WB Fa (s.2.1,0,r0)).bind fun r1=>(match r1 with| .inl x2=>some x2| .inr _=>none)
def XB (s:(Int×List (List Ls)×Int×Int×Y4)):Option ((Int×List (List Ls)×Int×Int×Y4)⊕((Int×Y4)⊕Y6)):=(bif decide (s.2.2.2.1<s.2.2.1) then (bif Ea s.2.2.2.1 (List.length s.2.1) then (bif Ea s.2.2.2.1 (List.length s.2.2.2.2.2.2.2.1) then (Pi (Ba .int s.2.2.2.2.2.2.2.1 (Int.toNat s.2.2.2.1),1,99,())).bind fun r0=>(bif (!r0.1) then some (Sum.inr (Sum.inr (false,()))) else (PJ (Ba .db s.2.1 (Int.toNat s.2.2.2.1),())).bind fun r1=>(bif (!r1.1) then some (Sum.inr (Sum.inr (false,()))) else (Cw (Ba .db s.2.1 (Int.toNat s.2.2.2.1),s.2.2.2.1,())).bind fun r2=>(bif (!r2.2.1) then some (Sum.inr (Sum.inr (false,()))) else (bif Ea r2.1 (List.length (Ba .db s.2.1 (Int.toNat s.2.2.2.1))) then (bif Ea s.2.2.2.1 (List.length s.2.2.2.2.2.2.2.1) then (bif (!(decide ((Ba .ls (Ba .db s.2.1 (Int.toNat s.2.2.2.1)) (Int.toNat r2.1)).s=Ba .int s.2.2.2.2.2.2.2.1 (Int.toNat s.2.2.2.1)))) then some (Sum.inr (Sum.inr (false,()))) else (bif decide ((List.length s.2.2.2.2.2.2.2.2.2.2.1+List.length (Ba .db s.2.1 (Int.toNat s.2.2.2.1)))≤(33554432:Nat)) then some (Sum.inl (s.1,s.2.1,s.2.2.1,wrap64 (s.2.2.2.1+1),s.2.2.2.2.1,s.2.2.2.2.2.1,s.2.2.2.2.2.2.1,s.2.2.2.2.2.2.2.1,s.2.2.2.2.2.2.2.2.1,s.2.2.2.2.2.2.2.2.2.1,(s.2.2.2.2.2.2.2.2.2.2.1++Ba .db s.2.1 (Int.toNat s.2.2.2.1)),())) else none)) else none) else none)))) else none) else none) else some (Sum.inr (Sum.inl (s.1,s.2.2.2.2))))
def YB (s:(Int×List Pk×Int×Int×Y4)):Option ((Int×List Pk×Int×Int×Y4)⊕(Y4⊕Y6)):=(bif decide (s.2.2.2.1<s.2.2.1) then (bif Ea s.2.2.2.1 (List.length s.2.1) then (Pi ((Ba .pk s.2.1 (Int.toNat s.2.2.2.1)).t,0,wrap64 (s.1-1),())).bind fun r0=>(bif (!r0.1) then some (Sum.inr (Sum.inr (false,()))) else (bif decide ((List.length s.2.2.2.2.2.2.2.2.2.2.1+List.length [(Ls.mk (((Ba .pk s.2.1 (Int.toNat s.2.2.2.1)).p).o) (((Ba .pk s.2.1 (Int.toNat s.2.2.2.1)).p).s) (((Ba .pk s.2.1 (Int.toNat s.2.2.2.1)).p).e))])≤(33554432:Nat)) then some (Sum.inl (s.1,s.2.1,s.2.2.1,wrap64 (s.2.2.2.1+1),s.2.2.2.2.1,s.2.2.2.2.2.1,s.2.2.2.2.2.2.1,s.2.2.2.2.2.2.2.1,s.2.2.2.2.2.2.2.2.1,s.2.2.2.2.2.2.2.2.2.1,(s.2.2.2.2.2.2.2.2.2.2.1++[(Ls.mk (((Ba .pk s.2.1 (Int.toNat s.2.2.2.1)).p).o) (((Ba .pk s.2.1 (Int.toNat s.2.2.2.1)).p).s) (((Ba .pk s.2.1 (Int.toNat s.2.2.2.1)).p).e))]),())) else none)) else none) else some (Sum.inr (Sum.inl s.2.2.2.2)))
def ZB (s:(List Ls×List Ls×Int×Int×Y0)):Option ((List Ls×List Ls×Int×Int×Y0)⊕((Unit)⊕Y6)):=(bif decide (s.2.2.2.1<s.2.2.1) then (bif Ea s.2.2.2.1 (List.length s.2.1) then (BM (s.2.2.2.2.1,s.2.2.2.2.2.1,s.2.2.2.2.2.2.1,s.2.2.2.2.2.2.2.1,s.2.2.2.2.2.2.2.2.1,s.2.2.2.2.2.2.2.2.2.1,(Ba .ls s.2.1 (Int.toNat s.2.2.2.1)).o,(Ba .ls s.2.1 (Int.toNat s.2.2.2.1)).s,(Ba .ls s.2.1 (Int.toNat s.2.2.2.1)).e,())).bind fun r0=>(bif (!r0.1) then some (Sum.inr (Sum.inr (false,()))) else (bif Tl (0) s.2.2.2.1 (List.length s.1) then (XL (List.take (Int.toNat s.2.2.2.1-Int.toNat (0)) (List.drop (Int.toNat (0)) s.1),(Ba .ls s.2.1 (Int.toNat s.2.2.2.1)).o,(Ba .ls s.2.1 (Int.toNat s.2.2.2.1)).s,(Ba .ls s.2.1 (Int.toNat s.2.2.2.1)).e,())).bind fun r1=>(bif r1.1 then some (Sum.inr (Sum.inr (false,()))) else some (Sum.inl (s.1,s.2.1,s.2.2.1,wrap64 (s.2.2.2.1+1),s.2.2.2.2))) else none)) else none) else some (Sum.inr (Sum.inl ())))
def DM (s:Y0):Option Y6:=(GJ (s.1,s.2.1,())).bind fun r0=>(bif (!r0.1) then some (false,()) else (bif (!(decide (nI (List.length s.2.2.1)=nI (List.length s.2.1)))) then some (false,()) else (bif (!(decide (nI (List.length s.2.2.2.1)=s.1))) then some (false,()) else (bif (!(decide (nI (List.length s.2.2.2.2.1)=s.1))) then some (false,()) else (bif decide (16<nI (List.length s.2.2.2.2.2.1)) then some (false,()) else (lp XB Fa (s.1,s.2.2.2.2.1,nI (List.length s.2.2.2.2.1),0,s.1,s.2.1,s.2.2.1,s.2.2.2.1,s.2.2.2.2.1,s.2.2.2.2.2.1,([]:List Ls),())).bind fun r1=>(match r1 with| .inl x2=>(lp YB Fa (x2.1,x2.2.2.2.2.2.2.1,nI (List.length x2.2.2.2.2.2.2.1),0,x2.2)).bind fun r3=>(match r3 with| .inl x4=>(lp ZB Fa (x4.2.2.2.2.2.2.1,x4.2.2.2.2.2.2.1,nI (List.length x4.2.2.2.2.2.2.1),0,x4.1,x4.2.1,x4.2.2.1,x4.2.2.2.1,x4.2.2.2.2.1,x4.2.2.2.2.2.1,())).bind fun r5=>(match r5 with| .inl _=>some (true,())| .inr y6=>some (y6.1,()))| .inr y4=>some (y4.1,()))| .inr y2=>some (y2.1,())))))))
end
section
open Go.RowKit
instance:DecidableEq En:=fun a b=>decidable_of_iff (a.n=b.n∧a.c=b.c) ⟨fun ⟨h1,h2⟩=>by cases a;cases b;simp_all,fun h=>by subst h;exact ⟨rfl,rfl⟩⟩
instance:DecidableEq Ls:=fun a b=>decidable_of_iff (a.o=b.o∧a.s=b.s∧a.e=b.e) ⟨fun ⟨h1,h2,h3⟩=>by cases a;cases b;simp_all,fun h=>by subst h;exact ⟨rfl,rfl,rfl⟩⟩
abbrev Sm {α:Type} (l:List α):Prop:=l.length≤16000000
def Df (db:List Ls):Prop:=Sm db∧∀l∈db,Sm l.e
theorem Df.fits {db:List Ls} (h:Df db):Wa db:=by have:=h.1;unfold Wa;unfold Sm at this;omega
theorem Df.fe {db:List Ls} (h:Df db):∀l∈db,Wa l.e:=fun l hl=>by have:=h.2 l hl;unfold Wa;unfold Sm at this;omega
theorem Mg {db:List Ls} {k:Nat} (h:k<db.length):Ya db k∈db:=by rw [Hd h];exact List.getElem_mem h
theorem WT {db:List Ls} {k:Nat} (h:k<db.length):db.take k++[⟨(Ya db k).o,(Ya db k).s,(Ya db k).e⟩]=db.take (k+1):=by
  rw [List.take_add_one,List.getElem?_eq_getElem h,Hd h];rfl
theorem AC (o s:Int) (es:List En) (h:Sm es):Oh (o,s,es,())=some (o,s,es,()):=by
  unfold Oh JS
  rw [decide_eq_true (by unfold Sm at h;dsimp only;omega)]
  rfl
theorem Kw (o s:Int) (es:List En) (h:Sm es):Si (o,s,es,())=some (o,s,es,()):=by
  unfold Si
  rw [decide_eq_true (by unfold Sm at h;simp;omega)]
  rfl
theorem EM (db:List Ls) (h:Df db):Kq (db,())=some (db,()):=by
  have h1:=h.1
  unfold Sm at h1
  unfold Kq
  refine Aa.out (Aa.bnd (R:=fun r=>match r with| .inl x=>x=(db,())| .inr _=>False) ?_ ?_)
  ·refine Aa.count db.length (fun k t=>t=(db,(db.length:Int),(k:Int),db.take k,())) ?_ (Nat.zero_le _) (Cc (by omega)) (by simp [La])
   rintro k t hk rfl
   by_cases hlt:k<db.length
   ·simp (disch:=omega) only [DB,Wg,Ta,Ua,AC _ _ _ (h.2 _ (Mg hlt)),Option.bind_some]
    refine Aa.gd (decide_eq_true (by omega)) (Aa.gd (Ia (by omega) (by omega)) (Aa.gd (decide_eq_true (by simp;omega)) (.some ⟨hlt,?_⟩)))
    rw [WT hlt]
    rfl
   ·obtain rfl:k=db.length:=by omega
    unfold DB
    simp only [dF (show ¬(db.length:Int)<db.length by omega),cond_false,List.take_length]
    exact .some rfl
  ·rintro (r|r) hr
   case inr=>exact hr.elim
   obtain rfl:=hr
   exact .some rfl
theorem IM (db:List Ls) (h:Df db):Qm (db,())=some (db,()):=by
  have h1:=h.1
  unfold Sm at h1
  unfold Qm
  refine Aa.out (Aa.bnd (R:=fun r=>match r with| .inl x=>x=(db,())| .inr _=>False) ?_ ?_)
  ·refine Aa.count db.length (fun k t=>t=(db,(k:Int),db.take k,())) ?_ (Nat.zero_le _) (Cc (by omega)) (by simp [La])
   rintro k t hk rfl
   by_cases hlt:k<db.length
   ·simp (disch:=omega) only [YA,Wg,Ta,Ua,La,Kw _ _ _ (h.2 _ (Mg hlt)),Option.bind_some]
    refine Aa.gd (decide_eq_true (by omega)) (Aa.gd (Ia (by omega) (by omega)) (Aa.gd (decide_eq_true (by simp;omega)) (.some ⟨hlt,?_⟩)))
    rw [WT hlt]
    rfl
   ·obtain rfl:k=db.length:=by omega
    unfold YA
    simp only [La,dF (show ¬(db.length:Int)<db.length by omega),cond_false,List.take_length]
    exact .some rfl
  ·rintro (r|r) hr
   case inr=>exact hr.elim
   obtain rfl:=hr
   exact .some rfl
theorem aU (a b c d:Int):Ed [a,b] [c,d]=decide ((⟨a,b⟩:En)=⟨c,d⟩):=by
  by_cases h1:a=c<;>by_cases h2:b=d<;>simp [Ed,h1,h2]
theorem aV {es fs:List En} (hl:es.length=fs.length) (h:∀i,i<es.length→en es i=en fs i):es=fs:=by
  refine List.ext_getElem hl fun i h1 h2=>?_
  have:=h i h1
  rwa [Ew h1,Ew h2] at this
theorem aW (e:En):(⟨e.n,e.c⟩:En)=e:=rfl
theorem tE (es fs:List En) (ha:Wa es) (hb:Wa fs):TL (es,fs,())=some (decide (es=fs),()):=by
  unfold TL
  by_cases hl:es.length=fs.length
  case neg =>
    have:es≠fs:=fun e=>hl (by rw [e])
    have hl2:¬(es.length:Int)=fs.length:=by omega
    simp [La,hl2,this]
  simp only [La,hl,decide_true,Bool.not_true,cond_false]
  try rw [←hl]
  refine Aa.out (Aa.bnd (R:=fun r=>match r with| .inl _=>es=fs| .inr y=>y=(false,())∧es≠fs) ?_ ?_)
  ·refine Aa.count es.length (fun k t=>t=(es,fs,(es.length:Int),(k:Int),())∧∀i,i<k→en es i=en fs i) ?_ (Nat.zero_le _) (Cc (by omega)) ⟨rfl,fun i hi=>by omega⟩
   rintro k t hk ⟨rfl,hok⟩
   simp (disch:=omega) only [SL,Ro,Ta,Ua,La,aU,aW]
   refine Aa.ite (fun h=>?_) (fun h=>?_)
   ·have h:=oT h
    refine Aa.gd (Ia (by omega) (by omega)) (Aa.gd (Ia (by omega) (by omega)) (Aa.ite (fun h2=>?_) (fun h2=>?_)))
    ·have h2:¬en es k=en fs k:=by simpa using h2
     exact .some ⟨rfl,fun e=>h2 (by rw [e])⟩
    ·have h2:en es k=en fs k:=by simpa using h2
     exact .some ⟨by omega,rfl,fun i hi=>by
       by_cases e:i<k
       ·exact hok i e
       ·obtain rfl:i=k:=by omega
        exact h2⟩
   ·have h:=oF h
    exact .some (aV hl fun i hi=>hok i (by omega))
  ·rintro (r|r) hr
   ·have hr:es=fs:=hr
    exact .some (by rw [decide_eq_true hr])
   ·obtain ⟨rfl,hr⟩:=hr
    exact .some (by rw [dF hr])
theorem aX (a b:Ls) (ha:Wa a.e) (hb:Wa b.e):MB (a.o,a.s,a.e,b.o,b.s,b.e,())=some (decide (a=b),()):=by
  unfold MB
  cases a with|mk o s e =>
  cases b with|mk o' s' e' =>
  dsimp only
  by_cases h1:o=o'<;>by_cases h2:s=s'<;>simp [h1,h2,tE e e' ha hb]
theorem aY (a b:Ls) (ha:Wa a.e) (hb:Wa b.e):XA (a.o,a.s,a.e,b.o,b.s,b.e,())=some (decide (a=b),()):=by
  unfold XA
  cases a with|mk o s es =>
  cases b with|mk o' s' fs =>
  dsimp only at *
  by_cases h1:o=o'
  case neg=>simp [h1]
  by_cases h2:s=s'
  case neg=>simp [h2]
  subst h1 h2
  by_cases hl:es.length=fs.length
  case neg =>
    have:es≠fs:=fun e=>hl (by rw [e])
    have hl2:¬(es.length:Int)=fs.length:=by omega
    simp [La,hl2,this]
  simp only [La,hl,decide_true,Bool.not_true,cond_false]
  refine Aa.out (Aa.bnd (R:=fun r=>match r with| .inl _=>es=fs| .inr y=>y=(false,())∧es≠fs) ?_ ?_)
  ·refine Aa.count es.length (fun k t=>t=((k:Int),o,s,es,o,s,fs,())∧∀i,i<k→en es i=en fs i) ?_ (Nat.zero_le _) (Cc (by omega)) ⟨rfl,fun i hi=>by omega⟩
   rintro k t hk ⟨rfl,hok⟩
   simp (disch:=omega) only [OL,Ro,Ta,Ua,La,aU,aW]
   refine Aa.ite (fun h=>?_) (fun h=>?_)
   ·have h:=oT h
    refine Aa.gd (Ia (by omega) (by omega)) (Aa.gd (Ia (by omega) (by omega)) (Aa.ite (fun h2=>?_) (fun h2=>?_)))
    ·have h2:¬en es k=en fs k:=by simpa using h2
     exact .some ⟨rfl,fun e=>h2 (by rw [e])⟩
    ·have h2:en es k=en fs k:=by simpa using h2
     exact .some ⟨by omega,rfl,fun i hi=>by
       by_cases e:i<k
       ·exact hok i e
       ·obtain rfl:i=k:=by omega
        exact h2⟩
   ·have h:=oF h
    exact .some (aV hl fun i hi=>hok i (by omega))
  ·rintro (r|r) hr
   ·have hr:es=fs:=hr
    exact .some (by rw [decide_eq_true (by rw [hr])])
   ·obtain ⟨rfl,hr⟩:=hr
    exact .some (by rw [dF (by intro e;injection e with _ _ e;exact hr e)])
theorem Df.put {db:List Ls} (h:Df db) {l:Ls} (hl:Sm l.e) (hs:db.length≤1000000):Df (Ad db l)∧(Ad db l).length≤db.length+1:=by
  have hlen:(Mj db l).length≤db.length+1:=by
    unfold Mj
    have h1:∀ds:List Ls,(ds.filter fun x=>decide (x.o<l.o)).length+(ds.filter fun x=>decide (l.o<x.o)).length≤ds.length:=fun ds=>by
      induction ds with
      |nil=>simp
      |cons x r ih =>
       simp only [List.filter_cons]
       by_cases a:x.o<l.o
       ·have b:¬l.o<x.o:=by omega
        simp [a,b];omega
       ·by_cases b:l.o<x.o
        ·simp [a,b];omega
        ·simp [a,b];omega
    have:=h1 db
    simp only [List.length_append,List.length_cons]
    omega
  unfold Ad
  split
  ·refine ⟨⟨by unfold Sm;omega,fun x hx=>?_⟩,hlen⟩
   rcases Nj.1 hx with rfl|⟨hx,_⟩
   ·exact hl
   ·exact h.2 x hx
  ·exact ⟨h,by omega⟩
theorem XT (db:List Ls) (l:Ls) (hs:Dd db) (h:Df db) (hl:Sm l.e) (hn:db.length≤1000000):Wo (db,l.o,l.s,l.e,())=some (Pe db l,Ad db l,()):=by
  have hsrt:Uo db:=Lj.2 hs
  obtain ⟨i,hi,hp⟩:=aJ db l.o hsrt (by omega)
  unfold Wo
  dsimp only
  simp only [EM db h,Option.bind_some,hp,AC _ _ _ hl]
  have ins:Kj db l.o i=false→Fq ((i:Int),db,[l],())=some (Mj db l,()):=fun hh=>by
    have:=hi.1
    unfold Fq
    simp only [ZI]
    rw [decide_eq_true (by omega)]
    simp only [cond_true,Int.toNat_natCast]
    rw [tA hs hi hh]
  cases hh:Kj db l.o i with
  |false =>
   have hfd:fd db l.o=none:=by
     refine Gw.2 fun x hx e=>?_
     obtain ⟨j,hj,rfl⟩:=List.getElem_of_mem hx
     rw [←Hd hj] at e
     have h1:i≤j:=by
       rcases Nat.lt_or_ge j i with h1|h1
       ·have:=hi.2.1 j h1;omega
       ·exact h1
     have h2:i<db.length:=by omega
     have h3:=hi.2.2 i (Nat.le_refl _) h2
     have h4:(Ya db i).o≤(Ya db j).o:=by
       rcases Nat.eq_or_lt_of_le h1 with h1|h1
       ·subst h1;omega
       ·have:=hsrt i j h1 hj;omega
     have:Kj db l.o i=true:=decide_eq_true ⟨h2,by omega⟩
     rw [hh] at this;cases this
   have hc:Pe db l=0:=by unfold Pe;rw [hfd]
   simp only [cond_false,ins hh,Option.bind_some]
   unfold Ad
   rw [hc,if_pos rfl]
  |true =>
   obtain ⟨h2,h3⟩:=oT hh
   have hfd:fd db l.o=some (Ya db i):=(Oj hs).2 ⟨Mg h2,h3⟩
   have hin:Ea (i:Int) db.length=true:=Ia (by omega) (by omega)
   simp only [cond_true,hin,Wg,Ta]
   have hpc:Pe db l=if (Ya db i).s=l.s then 1 else if l.s<(Ya db i).s then 2 else 0:=by unfold Pe;rw [hfd]
   unfold Ad
   rw [hpc]
   by_cases e1:(Ya db i).s=l.s
   ·simp [e1]
   ·by_cases e2:l.s<(Ya db i).s
    ·simp [e1,e2]
    ·have:=sZ hs h2 h3
     simp [e1,e2,←this]
end
section
open Go.RowKit
theorem aZ {db:List Ls} {k:Nat} (p:Ls→Bool) (h:k<db.length):(db.take (k+1)).filter p=(db.take k).filter p++if p (Ya db k) then [Ya db k] else []:=by
  rw [List.take_add_one,List.getElem?_eq_getElem h,List.filter_append,Hd h]
  cases hp:p db[k]<;>simp [hp]
theorem tF {db:List Ls} (p:Ls→Bool) (k:Nat):((db.take k).filter p).length≤db.length:=Nat.le_trans (List.length_filter_le _ _) (by rw [List.length_take];omega)
theorem bA {db:List Ls} (hs:Uo db) {o:Int} {k:Nat} (h1:∀i,i<k→(Ya db i).o<o) (h2:k<db.length→¬(Ya db k).o<o) (hk:k≤db.length):db.take k=db.filter fun x=>decide (x.o<o):=by
  have e1:(db.take k).filter (fun x=>decide (x.o<o))=db.take k:=by
    refine List.filter_eq_self.2 fun x hx=>?_
    obtain ⟨i,hi,rfl⟩:=List.getElem_of_mem hx
    have hi':i<k:=by rw [List.length_take] at hi;omega
    have:=h1 i hi'
    rw [Hd (by omega)] at this
    simpa [List.getElem_take] using this
  have e2:(db.drop k).filter (fun x=>decide (x.o<o))=[]:=by
    refine List.filter_eq_nil_iff.2 fun x hx=>?_
    obtain ⟨i,hi,rfl⟩:=List.getElem_of_mem hx
    have hi':k+i<db.length:=by rw [List.length_drop] at hi;omega
    have h3:=h2 (by omega)
    have h4:(Ya db k).o≤(Ya db (k+i)).o:=by
      rcases Nat.eq_zero_or_pos i with e|e
      ·subst e;exact Int.le_refl _
      ·have:=hs k (k+i) (by omega) hi';omega
    rw [Hd hi'] at h4
    simp only [List.getElem_drop,decide_eq_true_eq]
    omega
  calc db.take k=(db.take k).filter (fun x=>decide (x.o<o))++(db.drop k).filter (fun x=>decide (x.o<o)):=by rw [e1,e2,List.append_nil]
    _=db.filter fun x=>decide (x.o<o):=by rw [←List.filter_append,List.take_append_drop]
theorem tG (db:List Ls) (l:Ls) (hs:Uo db) (h:Df db):Aa (lp Gl Fa (db,0,l.o,l.s,l.e,[],())) fun r=>match r with| .inl x=>x=(db,l.o,l.s,l.e,db.filter (fun x=>decide (x.o<l.o)),())| .inr _=>False:=by
  have h1:=h.1
  unfold Sm at h1
  refine Aa.count db.length (fun k t=>t=(db,(k:Int),l.o,l.s,l.e,db.take k,())∧∀i,i<k→(Ya db i).o<l.o) ?_ (Nat.zero_le _) (Cc (by omega)) ⟨by simp,fun i hi=>by omega⟩
  rintro k t hk ⟨rfl,hok⟩
  by_cases hlt:k<db.length
  ·simp (disch:=omega) only [Gl,Wg,Ta,Ua,La,Kw _ _ _ (h.2 _ (Mg hlt)),Option.bind_some]
   refine Aa.gd (decide_eq_true (by omega)) (Aa.gd (Ia (by omega) (by omega)) (Aa.ite (fun hc=>?_) (fun hc=>?_)))
   ·have hc:=oT hc
    refine Aa.gd (Ia (by omega) (by omega)) (Aa.gd (decide_eq_true (by simp;omega)) (.some ⟨hlt,?_,fun i hi=>?_⟩))
    ·rw [WT hlt];rfl
    ·by_cases e:i<k
     ·exact hok i e
     ·obtain rfl:i=k:=by omega
      exact hc
   ·have hc:=oF hc
    exact .some (by rw [bA hs hok (fun _=>hc) hk])
  ·obtain rfl:k=db.length:=by omega
   unfold Gl
   simp only [La,dF (show ¬(db.length:Int)<db.length by omega),cond_false]
   exact .some (by rw [bA hs hok (fun h=>by omega) hk])
theorem tH (db:List Ls) (l:Ls) (out:List Ls) (h:Df db) (ho:out.length≤17000000):Aa (lp Hl Fa (db,0,l.o,l.s,l.e,out,())) fun r=>match r with| .inl x=>x=(out++db.filter (fun x=>decide (l.o<x.o)),())| .inr _=>False:=by
  have h1:=h.1
  unfold Sm at h1
  refine Aa.count db.length (fun k t=>t=(db,(k:Int),l.o,l.s,l.e,out++(db.take k).filter (fun x=>decide (l.o<x.o)),())) ?_ (Nat.zero_le _) (Cc (by omega)) (by simp)
  rintro k t hk rfl
  by_cases hlt:k<db.length
  ·have hfl:=tF (db:=db) (fun x=>decide (l.o<x.o)) k
   simp (disch:=omega) only [Hl,Wg,Ta,Ua,La,Kw _ _ _ (h.2 _ (Mg hlt)),Option.bind_some]
   refine Aa.gd (decide_eq_true (by omega)) (Aa.gd (Ia (by omega) (by omega)) (Aa.ite (fun hc=>?_) (fun hc=>?_)))
   ·have hc':=oT hc
    refine Aa.gd (Ia (by omega) (by omega)) (Aa.gd (decide_eq_true (by simp only [List.length_append,List.length_singleton];omega)) (.some ⟨hlt,?_⟩))
    rw [aZ _ hlt,if_pos hc,←List.append_assoc]
    rfl
   ·refine .some ⟨hlt,?_⟩
    rw [aZ _ hlt,if_neg (by rw [hc];simp),List.append_nil]
    rfl
  ·obtain rfl:k=db.length:=by omega
   unfold Hl
   simp only [La,dF (show ¬(db.length:Int)<db.length by omega),cond_false,List.take_length]
   exact .some rfl
theorem YT (db:List Ls) (l:Ls) (hs:Dd db) (h:Df db) (hl:Sm l.e):Jw (db,l.o,l.s,l.e,())=some (Pe db l,Ad db l,()):=by
  have hsrt:Uo db:=Lj.2 hs
  have h1:=h.1
  unfold Sm at h1
  have hfin:Aa ((lp Gl Fa (db,0,l.o,l.s,l.e,[],())).bind fun r3=>(match r3 with| .inl x4=>(Si ((x4.2.1,(x4.2.2.1,(x4.2.2.2.1,()))))).bind fun r5=>(bif decide (((List.length x4.2.2.2.2.1+List.length ([(Ls.mk r5.1 r5.2.1 r5.2.2.1)]))≤(33554432:Nat))) then (lp Hl Fa ((x4.1,((0:Int),(x4.2.1,(x4.2.2.1,(x4.2.2.2.1,((x4.2.2.2.2.1++[(Ls.mk r5.1 r5.2.1 r5.2.2.1)]),())))))))).bind fun r6=>(match r6 with| .inl x7=>some (((0:Int),x7.1,()))| .inr _=>none) else none)| .inr _=>none)) (·=(0,Mj db l,())):=by
    refine Aa.bnd (tG db l hsrt h) ?_
    rintro (r|r) hr
    case inr=>exact hr.elim
    obtain rfl:=hr
    dsimp only
    rw [Kw _ _ _ hl]
    have hfl:(db.filter fun x=>decide (x.o<l.o)).length≤db.length:=List.length_filter_le _ _
    simp only [Option.bind_some]
    refine Aa.gd (decide_eq_true (by simp only [List.length_singleton];omega)) (Aa.bnd (tH db l _ h (by simp only [List.length_append,List.length_singleton];omega)) ?_)
    rintro (r|r) hr
    case inr=>exact hr.elim
    obtain rfl:=hr
    refine .some ?_
    unfold Mj
    simp
  have hfin:=hfin.out
  unfold Jw
  dsimp only
  rw [aE db l.o h.fits]
  unfold Ad Pe
  cases hfd:fd db l.o with
  |none =>
   simp only [Option.bind_some,cond_false]
   exact hfin
  |some old =>
   simp only [Option.bind_some,cond_true,IM db h]
   by_cases e1:old.s=l.s
   ·simp only [e1,decide_true,cond_true]
    simp
   ·by_cases e2:l.s<old.s
    ·simp only [e1,e2,decide_true,decide_false,cond_true,cond_false]
     simp
    ·simp only [e1,e2,decide_false,cond_false]
     exact hfin
theorem tI (db:List Ls) (hl:Wa db) (he:∀l∈db,Wa l.e):QJ (db,())=some (Ai db,()):=by
  unfold QJ
  refine Aa.out (Aa.bnd (R:=fun r=>match r with| .inl _=>Ai db=true| .inr y=>y.1=false∧Ai db=false) ?_ ?_)
  ·refine Aa.count db.length (fun k t=>t=(db,(k:Int),())∧∀i,i<k→Cf (Ya db i)∧(0<i→(Ya db (i-1)).o<(Ya db i).o)) ?_ (Nat.zero_le _) (Cc (by omega)) ⟨by simp,fun i hi=>by omega⟩
   rintro k t hk ⟨rfl,hok⟩
   by_cases hlt:k<db.length
   ·have hf:Wa (Ya db k).e:=he _ (by rw [Hd hlt];exact List.getElem_mem hlt)
    simp (disch:=omega) only [Iz,Wg,Ta,Zv,Ua,La,aB _ _ _ hf,Option.bind_some]
    repeat' (first
      |refine Aa.some ?_
      |fail
      |(refine Aa.gd (by first|exact Ia (by omega) (by omega)|(simp (disch:=omega) only [Ua];exact Ia (by omega) (by omega))) ?_)
      |(refine Aa.ite (fun h=>?_) (fun h=>?_)<;>try simp only [decide_eq_true_eq,decide_eq_false_iff_not,Bool.not_eq_true',Bool.not_eq_false',Vi,Wi,Bool.and_eq_true,Bool.or_eq_true,Bool.and_eq_false_iff,Bool.or_eq_false_iff,El] at h))
    all_goals try dsimp only
    all_goals first
      |(refine ⟨rfl,dF fun g=>?_⟩
        have:=g k hlt
        first|exact oF (by assumption) this.1|omega)
      |(refine ⟨by omega,rfl,fun i hi=>?_⟩
        by_cases e:i<k
        ·exact hok i e
        ·obtain rfl:i=k:=by omega
         exact ⟨oT (by assumption),fun _=>by omega⟩)
      |omega
   ·obtain rfl:k=db.length:=by omega
    unfold Iz
    simp only [La,dF (show ¬(db.length:Int)<db.length by omega),cond_false]
    exact .some (decide_eq_true hok)
  ·rintro (r|r) hr
   ·have hr:Ai db=true:=hr
    exact .some (by first | rw [hr] | exact Prod.ext hr rfl)
   ·obtain ⟨b,u⟩:=r
    have hr:b=false∧Ai db=false:=hr
    exact .some (by first | rw [hr.1,hr.2] | exact Prod.ext hr.1 (Prod.ext hr.2 rfl))
theorem ZT {a b:List Ls} {k:Nat} (h:k<b.length):Md a (b.take (k+1))=Ad (Md a (b.take k)) (Ya b k):=by
  unfold Md
  rw [List.take_add_one,List.getElem?_eq_getElem h,Hd h,List.foldl_append]
  rfl
theorem AU {a b:List Ls} (ha:Df a) (hb:Df b) (hla:a.length≤500000) (hlb:b.length≤400000):∀k,k≤b.length→Df (Md a (b.take k))∧(Md a (b.take k)).length≤a.length+k
  |0,_=>⟨by simpa [Md] using ha,by simp [Md]⟩
  |k+1,hk=>by
   obtain ⟨i1,i2⟩:=AU ha hb hla hlb k (by omega)
   rw [ZT (by omega)]
   have:=i1.put (hb.2 _ (Mg (show k<b.length by omega))) (by omega)
   exact ⟨this.1,by omega⟩
theorem tJ (a b:List Ls) (hs:Dd a) (ha:Df a) (hb:Df b) (hla:a.length≤500000) (hlb:b.length≤400000):Ge (a,b,())=some (Md a b,()):=by
  unfold Ge
  simp only [EM a ha,Option.bind_some,La]
  refine Aa.out (Aa.bnd (R:=fun r=>match r with| .inl x=>x=(Md a b,())| .inr _=>False) ?_ ?_)
  ·refine Aa.count b.length (fun k t=>t=(b,(b.length:Int),(k:Int),Md a (b.take k),())) ?_ (Nat.zero_le _) (Cc (by omega)) (by simp [Md])
   rintro k t hk rfl
   by_cases hlt:k<b.length
   ·obtain ⟨i1,i2⟩:=AU ha hb hla hlb k hk
    simp (disch:=omega) only [VB,Wg,Ta,Ua,XT _ _ (KL hs _) i1 (hb.2 _ (Mg hlt)) (show (Md a (b.take k)).length≤1000000 by omega),Option.bind_some]
    refine Aa.gd (decide_eq_true (by omega)) (Aa.gd (Ia (by omega) (by omega)) (.some ⟨hlt,?_⟩))
    rw [ZT hlt]
    rfl
   ·obtain rfl:k=b.length:=by omega
    unfold VB
    simp only [dF (show ¬(b.length:Int)<b.length by omega),cond_false,List.take_length]
    exact .some rfl
  ·rintro (r|r) hr
   case inr=>exact hr.elim
   obtain rfl:=hr
   exact .some rfl
theorem tK (a b:List Ls) (hs:Dd a) (ha:Df a) (hb:Df b) (hla:a.length≤500000) (hlb:b.length≤400000):CM (a,b,())=some (Md a b,()):=by
  unfold CM
  simp only [IM a ha,Option.bind_some,La]
  refine Aa.out (Aa.bnd (R:=fun r=>match r with| .inl x=>x=(Md a b,())| .inr _=>False) ?_ ?_)
  ·refine Aa.count b.length (fun k t=>t=(b,(k:Int),Md a (b.take k),())) ?_ (Nat.zero_le _) (Cc (by omega)) (by simp [Md])
   rintro k t hk rfl
   by_cases hlt:k<b.length
   ·obtain ⟨i1,i2⟩:=AU ha hb hla hlb k hk
    simp (disch:=omega) only [WB,Wg,Ta,Ua,La,YT _ _ (KL hs _) i1 (hb.2 _ (Mg hlt)),Option.bind_some]
    refine Aa.gd (decide_eq_true (by omega)) (Aa.gd (Ia (by omega) (by omega)) (.some ⟨hlt,?_⟩))
    rw [ZT hlt]
    rfl
   ·obtain rfl:k=b.length:=by omega
    unfold WB
    simp only [La,dF (show ¬(b.length:Int)<b.length by omega),cond_false,List.take_length]
    exact .some rfl
  ·rintro (r|r) hr
   case inr=>exact hr.elim
   obtain rfl:=hr
   exact .some rfl
end
section
open Go.RowKit
def sy (f:Nat→Int) (e:Nat×Nat):Nat→Int:=fun n=>if n=e.1∨n=e.2 then max (f e.1) (f e.2) else f n
def Jn (ls:List Lk) (u v:Nat):Prop:=∃k s,Wk ls u k v s
theorem Jn.refl (ls:List Lk) (u:Nat):Jn ls u u:=⟨0,0,.nil⟩
theorem Jn.symm {ls:List Lk} {u v:Nat} (h:Jn ls u v):Jn ls v u:=by
  obtain ⟨k,s,w⟩:=h
  exact ⟨k,s,w.symm⟩
theorem Jn.trans {ls:List Lk} {u v x:Nat} (h:Jn ls u v) (h':Jn ls v x):Jn ls u x:=by
  obtain ⟨k,s,w⟩:=h
  obtain ⟨k',s',w'⟩:=h'
  exact ⟨_,_,w.append w'⟩
section
variable {N:Nat} {ls:List Lk}
end
end
section
open Go.RowKit
structure BC (D:Nat→List Ls):Prop where
  srt:∀n,Dd (D n)
  pos:∀n,∀l∈D n,0≤l.s
  agr:∀m n,tC (D m) (D n)
def Lw (D:Nat→List Ls) (e:Nat×Nat):Nat→List Ls:=fun n=>if n=e.1∨n=e.2 then Md (D e.1) (D e.2) else D n
theorem BU {D:Nat→List Ls} {e:Nat×Nat} {n:Nat} {x:Ls} (h:x∈Lw D e n):∃m,x∈D m:=by
  unfold Lw at h
  split at h
  ·rcases aS h with h|h
   ·exact ⟨_,h⟩
   ·exact ⟨_,h⟩
  ·exact ⟨n,h⟩
theorem BC.sy {D:Nat→List Ls} (K:BC D) (e:Nat×Nat):BC (Lw D e):=by
  refine ⟨fun n=>?_,fun n l hl=>?_,fun m n x hx y hy=>?_⟩
  ·unfold Lw
   split
   ·exact KL (K.srt _) _
   ·exact K.srt n
  ·obtain ⟨m,hm⟩:=BU hl
   exact K.pos m l hm
  ·obtain ⟨i,hi⟩:=BU hx
   obtain ⟨j,hj⟩:=BU hy
   exact K.agr i j x hi y hj
theorem BC.seq {D:Nat→List Ls} (K:BC D) (e:Nat×Nat) (o:Int) (n:Nat):Yc (Lw D e n) o=Go.Proofs.YtknkhdjhongklaaGreat.sy (fun n=>Yc (D n) o) e n:=by
  unfold Lw Go.Proofs.YtknkhdjhongklaaGreat.sy
  split
  ·exact aR (K.srt _) (K.srt _) (K.pos _) (K.pos _) o
  ·rfl
section
variable {N:Nat} {ls:List Lk} {D:Nat→List Ls}
end
end
section
open Go.RowKit
structure Wd where
  n:Int
  ls:List Lk
  up:List Bool
  sq:List Int
  db:List (List Ls)
  net:List Pk
def Ab (db:List (List Ls)) (i:Nat):List Ls:=db.getD i []
def Bi (ls:List Lk) (up:List Bool) (k:Nat):List Lk:=((List.range k).filter fun i=>up.getD i false).map (lk ls)
def Pc (ls:List Lk) (up:List Bool):List Lk:=Bi ls up ls.length
theorem JM (ls:List Lk) (up:List Bool) (k:Nat):Bi ls up (k+1)=if up.getD k false then Bi ls up k++[lk ls k] else Bi ls up k:=by
  unfold Bi
  rw [List.range_succ,List.filter_append,List.map_append,List.filter_cons]
  cases h:up.getD k false with
  |false=>simp
  |true=>rfl
theorem KM {ls:List Lk} {up:List Bool} {l:Lk}:l∈Pc ls up↔∃i,i<ls.length∧up.getD i false=true∧l=lk ls i:=by
  unfold Pc Bi
  rw [List.mem_map]
  constructor
  ·rintro ⟨i,hi,rfl⟩
   obtain ⟨h1,h2⟩:=List.mem_filter.1 hi
   exact ⟨i,List.mem_range.1 h1,h2,rfl⟩
  ·rintro ⟨i,h1,h2,rfl⟩
   exact ⟨i,List.mem_filter.2 ⟨List.mem_range.2 h1,h2⟩,rfl⟩
theorem tL (ls:List Lk) (up:List Bool):(Pc ls up).length≤ls.length:=by
  unfold Pc Bi
  rw [List.length_map]
  exact Nat.le_trans (List.length_filter_le _ _) (by simp)
theorem Rm {n:Int} {ls:List Lk} (g:GV n ls) (up:List Bool):GV n (Pc ls up):=by
  refine Wy.2 ⟨g.1,g.2.1,Nat.le_trans (tL ls up) g.2.2.1,fun l hl=>?_,?_⟩
  ·obtain ⟨i,hi,_,rfl⟩:=KM.1 hl
   exact g.ok (Gk hi)
  ·unfold Pc Bi
   rw [List.pairwise_map]
   refine List.Pairwise.imp_of_mem ?_ (List.Pairwise.filter _ (List.pairwise_lt_range (n:=ls.length)))
   intro a b ha hb hab
   have h1:=List.mem_range.1 (List.mem_filter.1 ha).1
   have h2:=List.mem_range.1 (List.mem_filter.1 hb).1
   have:=List.pairwise_iff_getElem.1 g.pw a b h1 h2 hab
   rwa [Oi h1,Oi h2]
def Xg (w:Wd) (A:Int→Prop) (l:Ls):Prop:=Cf l∧l.o<w.n∧l.s≤iz w.sq l.o.toNat∧(∀e∈l.e,lc w.ls l.o e.n=some e.c)∧(l.s<iz w.sq l.o.toNat∨l.e=De (Pc w.ls w.up) w.n.toNat l.o∨A l.o)
def Ph (w:Wd) (l:Ls):Prop:=(∃i,i<w.db.length∧l∈Ab w.db i)∨∃p∈w.net,l=p.p
structure WV (w:Wd) (A:Int→Prop):Prop where
  g:GV w.n w.ls
  up:w.up.length=w.ls.length
  sq:(w.sq.length:Int)=w.n
  db:(w.db.length:Int)=w.n
  net:w.net.length≤16
  rng:∀i,i<w.sq.length→1≤iz w.sq i∧iz w.sq i≤99
  ok:∀i,i<w.db.length→Ke (Ab w.db i)
  own:∀i,i<w.db.length→∃l∈Ab w.db i,l.o=i∧l.s=iz w.sq i
  poss:∀l,Ph w l→Xg w A l
  agr:∀x y,Ph w x→Ph w y→x.o=y.o→x.s=y.s→x=y
  tgt:∀p∈w.net,0≤p.t∧p.t<w.n
def Pj (l:Ls) (ex:Int) (net:List Pk) (m:Int):List Pk:=if m≠ex∧net.length<16 then net++[⟨m,l⟩] else net
def Td (l:Ls) (ex:Int) (net:List Pk) (nb:List Int):List Pk:=nb.foldl (Pj l ex) net
theorem CC {l:Ls} {ex:Int} {p:Pk}:∀{nb:List Int} {net:List Pk},p∈Td l ex net nb→p∈net∨∃m∈nb,p=⟨m,l⟩
  |[],net,h=>.inl h
  |m::r,net,h=>by
   rcases CC (nb:=r) (net:=Pj l ex net m) h with h|⟨x,hx,e⟩
   ·unfold Pj at h
    split at h
    ·rcases List.mem_append.1 h with h|h
     ·exact .inl h
     ·exact .inr ⟨m,List.mem_cons_self ..,List.mem_singleton.1 h⟩
    ·exact .inl h
   ·exact .inr ⟨x,List.mem_cons_of_mem _ hx,e⟩
theorem CU {l:Ls} {ex:Int}:∀{nb:List Int} {net:List Pk},net.length≤16→(Td l ex net nb).length≤16
  |[],net,h=>h
  |m::r,net,h=>CU (nb:=r) (by unfold Pj;split;rw [List.length_append,List.length_singleton];omega;exact h)
def Zf (w:Wd) (i:Nat):Ls:=⟨i,iz w.sq i+1,De (Pc w.ls w.up) w.n.toNat i⟩
def Ci (w:Wd) (i:Nat):Wd:={ w with sq:=w.sq.set i (iz w.sq i+1),db:=w.db.set i (Ad (Ab w.db i) (Zf w i)),net:=Td (Zf w i) (-1) w.net (Rc (Pc w.ls w.up) i w.n.toNat) }
theorem Xo {db:List (List Ls)} {i j:Nat} {d:List Ls} (hi:i<db.length):Ab (db.set i d) j=if j=i then d else Ab db j:=by
  unfold Ab
  simp only [List.getD,List.getElem?_set]
  by_cases h:i=j
  ·subst h;simp [hi]
  ·rw [if_neg h,if_neg (fun e=>h e.symm)]
end
section
open Go.RowKit
section
variable {N:Nat} {ls:List Lk} {node:Int} {ends:List En}
theorem bB {l:List Int} {f:Int→En} {i:Nat} (h:i<l.length):en (l.map f) i=f (iz l i):=by simp [en,iz,h]
theorem tM {l:List Int} (h:l.Pairwise (·<·)) {i j:Nat} (hij:i<j) (hj:j<l.length):iz l i<iz l j:=by
  have:=List.pairwise_iff_getElem.1 h i j (by omega) hj hij
  simpa [iz,hj,show i<l.length by omega] using this
theorem tN (g:GV N ls) {n:Nat} (hn:n<N):Cf ⟨n,1,De ls N n⟩:=by
  have h8:=g.2.1
  refine ⟨by dsimp only;omega,by dsimp only;omega,by dsimp only;omega,by dsimp only;omega,fun i hi=>?_⟩
  dsimp only at hi ⊢
  have hi':i<(Rc ls n N).length:=by unfold De at hi;simpa using hi
  have hm:iz (Rc ls n N) i∈Rc ls n N:=List.mem_of_getElem? (LN hi')
  obtain ⟨j,hj,e,hs⟩:=Vo.1 hm
  obtain ⟨c,hc⟩:=Option.isSome_iff_exists.1 hs
  have hcc:=qH g hc
  have hne:=(LT g hs).2.2.2.2
  unfold Ij De
  rw [bB hi',e,hc]
  refine ⟨by dsimp only;omega,by dsimp only;omega,by dsimp only;omega,hcc.1,hcc.2,fun h0=>?_⟩
  rw [bB (show i-1<(Rc ls n N).length by omega)]
  have:=tM (IL ls n N) (show i-1<i by omega) hi'
  dsimp only
  omega
end
section
variable {ls:List Lk} {ends:List En}
end
end
section
open Go.RowKit
theorem tO {n:Int} {ls:List Lk} (g:GV n ls) {up:List Bool} {a b c:Int} (h:lc (Pc ls up) a b=some c):lc ls a b=some c:=by
  have hm:=Uv h
  obtain ⟨i,hi,_,e⟩:=KM.1 hm
  exact (VI g.pw).2 (by rw [e];exact Gk hi)
theorem tP {ls:List Lk} {N:Nat} {o:Int} {e:En} (h:e∈De ls N o):lc ls o e.n=some e.c:=by
  unfold De at h
  obtain ⟨x,hx,rfl⟩:=List.mem_map.1 h
  obtain ⟨j,_,rfl,hs⟩:=Vo.1 hx
  obtain ⟨c,hc⟩:=Option.isSome_iff_exists.1 hs
  dsimp only
  rw [hc];rfl
theorem DC {d:List Int} {y j:Nat} {v:Int} (hy:y<d.length):iz (d.set y v) j=if j=y then v else iz d j:=qA d y j v hy
theorem DU {w:Wd} {A:Int→Prop} (h:WV w A) {i:Nat} (hi:i<w.db.length) (h99:iz w.sq i<99):Cf (Zf w i):=by
  have hdb:=h.db
  obtain ⟨N,hN⟩:=Int.eq_ofNat_of_zero_le (show 0≤w.n by omega)
  have g:GV (N:Int) (Pc w.ls w.up):=by have:=Rm h.g w.up;rwa [hN] at this
  have hiN:i<N:=by omega
  have h1:=tN g hiN
  have hr:=h.rng i (by have:=h.sq;omega)
  unfold Zf
  rw [hN,Int.toNat_natCast]
  exact ⟨h1.1,h1.2.1,by dsimp only;omega,by dsimp only;omega,h1.2.2.2.2⟩
theorem EU {w:Wd} {A:Int→Prop} (h:WV w A) {i:Nat} (hi:i<w.db.length) {l:Ls} (hl:Ph (Ci w i) l):l=Zf w i∨Ph w l:=by
  rcases hl with ⟨j,hj,hl⟩|⟨p,hp,rfl⟩
  ·have hj:j<w.db.length:=by simpa [Ci] using hj
   have hl:l∈Ab (w.db.set i (Ad (Ab w.db i) (Zf w i))) j:=hl
   rw [Xo hi] at hl
   split at hl
   ·unfold Ad at hl
    split at hl
    ·rcases Nj.1 hl with rfl|hl
     ·exact .inl rfl
     ·exact .inr (.inl ⟨i,hi,hl.1⟩)
    ·exact .inr (.inl ⟨i,hi,hl⟩)
   ·exact .inr (.inl ⟨j,hj,hl⟩)
  ·rcases CC (show p∈Td (Zf w i) (-1) w.net _ from hp) with h|⟨m,_,rfl⟩
   ·exact .inr (.inr ⟨p,h,rfl⟩)
   ·exact .inl rfl
theorem FU {w:Wd} {A:Int→Prop} (h:WV w A) {i:Nat} (hi:i<w.db.length) (h99:iz w.sq i<99):WV (Ci w i) (fun o=>A o∧o≠i):=by
  have hsq:=h.sq
  have hdb:=h.db
  have his:i<w.sq.length:=by omega
  have hnew:=DU h hi h99
  have hsrt:∀j,j<w.db.length→Dd (Ab w.db j):=fun j hj=>Lj.1 (h.ok j hj).srt
  have hz:∀j,iz (w.sq.set i (iz w.sq i+1)) j=if j=i then iz w.sq i+1 else iz w.sq j:=fun j=>DC his
  have no:(Zf w i).o=i:=rfl
  have ns:(Zf w i).s=iz w.sq i+1:=rfl
  refine ⟨h.g,h.up,?_,?_,CU h.net,fun j hj=>?_,fun j hj=>?_,fun j hj=>?_,fun l hl=>?_,fun x y hx hy e1 e2=>?_,fun p hp=>?_⟩
  ·show ((w.sq.set i _).length:Int)=w.n
   rw [List.length_set];exact hsq
  ·show ((w.db.set i _).length:Int)=w.n
   rw [List.length_set];exact hdb
  ·have hj:j<w.sq.length:=by simpa [Ci] using hj
   show 1≤iz (w.sq.set i _) j∧iz (w.sq.set i _) j≤99
   rw [hz]
   have:=h.rng i his
   split
   ·omega
   ·exact h.rng j hj
  ·have hj:j<w.db.length:=by simpa [Ci] using hj
   show Ke (Ab (w.db.set i _) j)
   rw [Xo hi]
   split
   ·exact MT (h.ok i hi) hnew
   ·exact h.ok j hj
  ·have hj:j<w.db.length:=by simpa [Ci] using hj
   show ∃l∈Ab (w.db.set i _) j,l.o=j∧l.s=iz (w.sq.set i _) j
   rw [Xo hi,hz]
   by_cases e:j=i
   ·subst e
    rw [if_pos rfl,if_pos rfl]
    obtain ⟨l,hl,h1,h2⟩:=h.own j hi
    refine ⟨Zf w j,?_,rfl,rfl⟩
    have hc:Pe (Ab w.db j) (Zf w j)=0:=by
      refine (QT (by rw [ns];have:=h.rng j his;omega)).2 ?_
      unfold Yc
      rw [no,(Oj (hsrt j hi)).2 ⟨hl,h1⟩,ns]
      dsimp only
      omega
    unfold Ad
    rw [if_pos hc]
    exact Nj.2 (.inl rfl)
   ·rw [if_neg e,if_neg e]
    exact h.own j hj
  ·show Cf l∧l.o<w.n∧l.s≤iz (w.sq.set i _) l.o.toNat∧(∀e∈l.e,lc w.ls l.o e.n=some e.c)∧(l.s<iz (w.sq.set i _) l.o.toNat∨l.e=De (Pc w.ls w.up) w.n.toNat l.o∨A l.o∧l.o≠i)
   rw [hz]
   rcases EU h hi hl with rfl|hl
   ·rw [no,Int.toNat_natCast,if_pos rfl]
    exact ⟨hnew,by omega,Int.le_of_eq ns,fun e he=>tO h.g (tP he),.inr (.inl rfl)⟩
   ·obtain ⟨p1,p2,p3,p4,p5⟩:=h.poss l hl
    have ho:=p1.1
    by_cases e:l.o.toNat=i
    ·rw [if_pos e]
     rw [e] at p3
     exact ⟨p1,p2,by omega,p4,.inl (by omega)⟩
    ·rw [if_neg e]
     exact ⟨p1,p2,p3,p4,p5.imp id fun h=>h.imp id fun h=>⟨h,by omega⟩⟩
  ·have old:∀z,Ph w z→z.o=(i:Int)→z.s≤iz w.sq i:=fun z hz e=>by
     have:=(h.poss z hz).2.2.1
     rwa [e,Int.toNat_natCast] at this
   rcases EU h hi hx with rfl|hx<;>rcases EU h hi hy with rfl|hy
   ·rfl
   ·have:=old y hy (by rw [←e1];rfl)
    rw [ns] at e2;omega
   ·have:=old x hx (by rw [e1];rfl)
    rw [ns] at e2;omega
   ·exact h.agr x y hx hy e1 e2
  ·rcases CC (show p∈Td (Zf w i) (-1) w.net _ from hp) with hp|⟨m,hm,rfl⟩
   ·exact h.tgt p hp
   ·obtain ⟨j,hj,rfl,_⟩:=Vo.1 hm
    show 0≤(j:Int)∧(j:Int)<w.n
    omega
end
section
open Go.RowKit
abbrev Hc:Int→Prop:=fun _=>False
theorem WV.mono {w:Wd} {A B:Int→Prop} (h:WV w A) (k:∀o,A o→B o):WV w B :=
  ⟨h.g,h.up,h.sq,h.db,h.net,h.rng,h.ok,h.own,fun l hl=>by
    obtain ⟨p1,p2,p3,p4,p5⟩:=h.poss l hl
    exact ⟨p1,p2,p3,p4,p5.imp id fun q=>q.imp id (k _)⟩,h.agr,h.tgt⟩
theorem WV.less {w:Wd} {A:Int→Prop} (h:WV w A) {db':List (List Ls)} {net':List Pk} (hd:db'.length=w.db.length) (hn:net'.length≤16) (ok:∀i,i<w.db.length→Ke (Ab db' i)) (own:∀i,i<w.db.length→∃l∈Ab db' i,l.o=i∧l.s=iz w.sq i) (said:∀l,Ph { w with db:=db',net:=net' } l→Ph w l) (tgt:∀p∈net',0≤p.t∧p.t<w.n):WV { w with db:=db',net:=net' } A :=
  ⟨h.g,h.up,h.sq,by show (db'.length:Int)=w.n;rw [hd];exact h.db,hn,h.rng,fun i hi=>ok i (by rw [←hd];exact hi),fun i hi=>own i (by rw [←hd];exact hi),fun l hl=>h.poss l (said l hl),fun x y hx hy=>h.agr x y (said x hx) (said y hy),tgt⟩
section
variable {w:Wd}
theorem WV.seq_le {A:Int→Prop} (h:WV w A) {i:Nat} (hi:i<w.db.length) {o:Nat} (ho:o<w.db.length):Yc (Ab w.db i) o≤iz w.sq o:=by
  unfold Yc
  have hr:=h.rng o (by have:=h.sq;have:=h.db;omega)
  cases e:fd (Ab w.db i) o with
  |none=>dsimp only;omega
  |some l =>
   obtain ⟨h1,h2⟩:=(Oj (Lj.1 (h.ok i hi).srt)).1 e
   have:=(h.poss l (.inl ⟨i,hi,h1⟩)).2.2.1
   rw [h2,Int.toNat_natCast] at this
   exact this
theorem WV.seq_own {A:Int→Prop} (h:WV w A) {i:Nat} (hi:i<w.db.length):Yc (Ab w.db i) i=iz w.sq i:=by
  obtain ⟨l,hl,h1,h2⟩:=h.own i hi
  unfold Yc
  rw [(Oj (Lj.1 (h.ok i hi).srt)).2 ⟨hl,h1⟩]
  exact h2
theorem bC {d:List Ls} (hs:Dd d) {o v:Int} (hv:0≤v) (h:Yc d o=v):∃l∈d,l.o=o∧l.s=v:=by
  unfold Yc at h
  cases e:fd d o with
  |none=>rw [e] at h;dsimp only at h;omega
  |some l =>
   rw [e] at h
   obtain ⟨h1,h2⟩:=(Oj hs).1 e
   exact ⟨l,h1,h2,h⟩
def Yo (w:Wd) (a b:Nat):Wd:={ w with db:=(w.db.set a (Md (Ab w.db a) (Ab w.db b))).set b (Md (Ab w.db a) (Ab w.db b)) }
theorem GU {a b:Nat} (ha:a<w.db.length) (hb:b<w.db.length) (i:Nat):Ab (Yo w a b).db i=if i=a∨i=b then Md (Ab w.db a) (Ab w.db b) else Ab w.db i:=by
  show Ab ((w.db.set a _).set b _) i=_
  rw [Xo (by rw [List.length_set];exact hb)]
  by_cases h:i=b
  ·rw [if_pos h,if_pos (.inr h)]
  ·rw [if_neg h,Xo ha]
   by_cases h2:i=a
   ·rw [if_pos h2,if_pos (.inl h2)]
   ·rw [if_neg h2,if_neg (by rintro (e|e);exact h2 e;exact h e)]
theorem Ke.pos {db:List Ls} (h:Ke db):∀l∈db,0≤l.s:=fun l hl=>by
  have:=((Jq.1 h).1 l hl).2.2.1
  omega
theorem tQ {A:Int→Prop} (h:WV w A) {a b:Nat} (ha:a<w.db.length) (hb:b<w.db.length):WV (Yo w a b) A:=by
  have sa:=Lj.1 (h.ok a ha).srt
  have sb:=Lj.1 (h.ok b hb).srt
  have pa:=(h.ok a ha).pos
  have pb:=(h.ok b hb).pos
  refine h.less (db':=(Yo w a b).db) (net':=w.net) (by simp [Yo]) h.net (fun i hi=>?_) (fun i hi=>?_) (fun l hl=>?_) h.tgt
  ·rw [GU ha hb]
   split
   ·exact PT (h.ok a ha) (Jq.1 (h.ok b hb)).1
   ·exact h.ok i hi
  ·rw [GU ha hb]
   have hr:=h.rng i (by have:=h.sq;have:=h.db;omega)
   split
   ·rename_i e
    refine bC (KL sa _) (by omega) ?_
    rw [aR sa sb pb pa]
    have q1:=h.seq_le ha hi
    have q2:=h.seq_le hb hi
    rcases e with rfl|rfl
    ·have:=h.seq_own hi;omega
    ·have:=h.seq_own hi;omega
   ·exact h.own i hi
  ·rcases hl with ⟨j,hj,hl⟩|hl
   ·have hl:l∈Ab (Yo w a b).db j:=hl
    have hj:j<w.db.length:=by simpa [Yo] using hj
    rw [GU ha hb] at hl
    split at hl
    ·rcases aS hl with h|h
     ·exact .inl ⟨a,ha,h⟩
     ·exact .inl ⟨b,hb,h⟩
    ·exact .inl ⟨j,hj,hl⟩
   ·exact .inr hl
theorem IU {A:Int→Prop} (h:WV w A) (k:Nat):WV { w with net:=w.net.eraseIdx k } A:=by
  refine h.less (db':=w.db) rfl (Nat.le_trans (List.length_eraseIdx_le _ _) h.net) h.ok h.own (fun l hl=>?_) (fun p hp=>h.tgt p (List.mem_of_mem_eraseIdx hp))
  rcases hl with hl|⟨p,hp,rfl⟩
  ·exact .inl hl
  ·exact .inr ⟨p,List.mem_of_mem_eraseIdx hp,rfl⟩
theorem tR {A:Int→Prop} (h:WV w A) {p:Pk} (hp:p∈w.net) (hl:w.net.length<16):WV { w with net:=w.net++[p] } A:=by
  refine h.less (db':=w.db) rfl (by rw [List.length_append,List.length_singleton];omega) h.ok h.own (fun l hl=>?_) (fun q hq=>?_)
  ·rcases hl with hl|⟨q,hq,rfl⟩
   ·exact .inl hl
   ·rcases List.mem_append.1 hq with hq|hq
    ·exact .inr ⟨q,hq,rfl⟩
    ·obtain rfl:=List.mem_singleton.1 hq
     exact .inr ⟨q,hp,rfl⟩
  ·rcases List.mem_append.1 hq with hq|hq
   ·exact h.tgt q hq
   ·obtain rfl:=List.mem_singleton.1 hq
    exact h.tgt q hp
def Mq (w:Wd) (t:Nat) (l:Ls):Wd:=if Pe (Ab w.db t) l=0 then { w with db:=w.db.set t (Ad (Ab w.db t) l),net:=Td l l.o w.net (Rc (Pc w.ls w.up) t w.n.toNat) } else w
theorem tS {A:Int→Prop} (h:WV w A) {t:Nat} (ht:t<w.db.length) {l:Ls} (hV:Cf l) (hs:l.o<w.n) (hq:l.s≤iz w.sq l.o.toNat) (hP:Xg w A l) (hag:∀y,Ph w y→l.o=y.o→l.s=y.s→l=y):WV (Mq w t l) A:=by
  unfold Mq
  split
  case isFalse=>exact h
  rename_i hc
  have hdb:=h.db
  have st:=Lj.1 (h.ok t ht).srt
  have said:∀x,Ph { w with db:=w.db.set t (Ad (Ab w.db t) l),net:=Td l l.o w.net (Rc (Pc w.ls w.up) t w.n.toNat) } x→x=l∨Ph w x:=fun x hx=>by
    rcases hx with ⟨j,hj,hx⟩|⟨p,hp,rfl⟩
    ·have hj:j<w.db.length:=by simpa using hj
     have hx:x∈Ab (w.db.set t (Ad (Ab w.db t) l)) j:=hx
     rw [Xo ht] at hx
     split at hx
     ·unfold Ad at hx
      rw [if_pos hc] at hx
      rcases Nj.1 hx with rfl|hx
      ·exact .inl rfl
      ·exact .inr (.inl ⟨t,ht,hx.1⟩)
     ·exact .inr (.inl ⟨j,hj,hx⟩)
    ·rcases CC (show p∈Td l l.o w.net _ from hp) with hp|⟨m,_,rfl⟩
     ·exact .inr (.inr ⟨p,hp,rfl⟩)
     ·exact .inl rfl
  refine ⟨h.g,h.up,h.sq,by show ((w.db.set t _).length:Int)=w.n;rw [List.length_set];exact hdb,CU h.net,h.rng,fun j hj=>?_,fun j hj=>?_,fun x hx=>?_,fun x y hx hy e1 e2=>?_,fun p hp=>?_⟩
  ·have hj:j<w.db.length:=by simpa using hj
   show Ke (Ab (w.db.set t _) j)
   rw [Xo ht]
   split
   ·exact MT (h.ok t ht) hV
   ·exact h.ok j hj
  ·have hj:j<w.db.length:=by simpa using hj
   show ∃x∈Ab (w.db.set t _) j,x.o=j∧x.s=iz w.sq j
   rw [Xo ht]
   split
   ·rename_i e
    subst e
    have hr:=h.rng j (by have:=h.sq;omega)
    refine bC (JL st l) (by omega) ?_
    have hp:0≤l.s:=by have:=hV.2.2.1;omega
    rw [aO st hp]
    have:=h.seq_own ht
    split
    ·rename_i e
     have e2:l.o.toNat=j:=by omega
     rw [e2] at hq
     omega
    ·omega
   ·exact h.own j hj
  ·rcases said x hx with rfl|hx
   ·exact hP
   ·exact h.poss x hx
  ·rcases said x hx with ex|hx1
   ·rcases said y hy with ey|hy1
    ·rw [ex,ey]
    ·rw [ex] at e1 e2 ⊢
     exact hag y hy1 e1 e2
   ·rcases said y hy with ey|hy1
    ·rw [ey] at e1 e2 ⊢
     exact (hag x hx1 e1.symm e2.symm).symm
    ·exact h.agr x y hx1 hy1 e1 e2
  ·rcases CC (show p∈Td l l.o w.net _ from hp) with hp|⟨m,hm,rfl⟩
   ·exact h.tgt p hp
   ·obtain ⟨j,hj,rfl,_⟩:=Vo.1 hm
    show 0≤(j:Int)∧(j:Int)<w.n
    omega
end
end
section
open Go.RowKit
theorem tT {ls ls':List Lk} {m:Int} (h:∀x:Int,lc ls m x=lc ls' m x) (k:Nat):Rc ls m k=Rc ls' m k:=by
  unfold Rc
  congr 1
  refine List.filter_congr fun x _=>?_
  rw [←WI,←WI,h]
theorem tU {ls ls':List Lk} {m:Int} (h:∀x:Int,lc ls m x=lc ls' m x) (N:Nat):De ls N m=De ls' N m:=by
  unfold De
  rw [tT h N]
  exact List.map_congr_left fun x _=>by rw [h]
theorem bD {up:List Bool} {k i:Nat} {u:Bool} (h:i≠k):(up.set k u).getD i false=up.getD i false:=by
  simp only [List.getD,List.getElem?_set]
  rw [if_neg (fun e=>h e.symm)]
theorem tV {n:Int} {ls:List Lk} (g:GV n ls) {up:List Bool} {k:Nat} {u:Bool} {o:Int} (ha:o≠(lk ls k).a) (hb:o≠(lk ls k).b) (x:Int):lc (Pc ls (up.set k u)) o x=lc (Pc ls up) o x:=by
  have key:∀c,(⟨min o x,max o x,c⟩:Lk)∈Pc ls (up.set k u)↔(⟨min o x,max o x,c⟩:Lk)∈Pc ls up:=fun c=>by
    rw [KM,KM]
    have ne:∀i,(⟨min o x,max o x,c⟩:Lk)=lk ls i→i≠k:=fun i e hik=>by
      subst hik
      rw [←e] at ha hb
      dsimp only at ha hb
      omega
    constructor
    ·rintro ⟨i,h1,h2,h3⟩
     exact ⟨i,h1,by rwa [bD (ne i h3)] at h2,h3⟩
    ·rintro ⟨i,h1,h2,h3⟩
     exact ⟨i,h1,by rwa [bD (ne i h3)],h3⟩
  refine Option.ext fun c=>?_
  have h1:=VI (Rm g (up.set k u)).pw (a:=o) (b:=x) (c:=c)
  have h2:=VI (Rm g up).pw (a:=o) (b:=x) (c:=c)
  exact (h1.trans (key c)).trans h2.symm
theorem LM {w:Wd} (h:WV w Hc) {k:Nat} (hk:k<w.ls.length) (u:Bool):WV { w with up:=w.up.set k u } (fun o=>o=(lk w.ls k).a∨o=(lk w.ls k).b) :=
  ⟨h.g,by show (w.up.set k u).length=w.ls.length;rw [List.length_set];exact h.up,h.sq,h.db,h.net,h.rng,h.ok,h.own,fun l hl=>by
    obtain ⟨p1,p2,p3,p4,p5⟩:=h.poss l hl
    refine ⟨p1,p2,p3,p4,?_⟩
    by_cases hA:l.o=(lk w.ls k).a∨l.o=(lk w.ls k).b
    ·exact .inr (.inr hA)
    ·refine p5.imp id fun q=>.inl ?_
     have q:=q.resolve_right id
     show l.e=De (Pc w.ls (w.up.set k u)) w.n.toNat l.o
     rw [q]
     exact (tU (tV h.g (fun e=>hA (.inl e)) (fun e=>hA (.inr e))) _).symm,h.agr,h.tgt⟩
def Di (w:Wd) (k:Nat) (u:Bool):Wd:=if w.up.getD k false=u∨99≤iz w.sq (lk w.ls k).a.toNat∨99≤iz w.sq (lk w.ls k).b.toNat then w else Ci (Ci { w with up:=w.up.set k u } (lk w.ls k).a.toNat) (lk w.ls k).b.toNat
theorem tW {w:Wd} (h:WV w Hc) {k:Nat} (hk:k<w.ls.length) (u:Bool):WV (Di w k u) Hc:=by
  unfold Di
  split
  ·exact h
  ·rename_i hn
   have hdb:=h.db
   have hsq:=h.sq
   have ho:=h.g.ok (Gk hk)
   unfold Nh at ho
   have h1:=FU (LM h hk u) (i:=(lk w.ls k).a.toNat) (by show _<w.db.length;omega) (by show iz w.sq _<99;omega)
   have h2:=FU h1 (i:=(lk w.ls k).b.toNat) (by show _<(w.db.set _ _).length;rw [List.length_set];omega) (by
     show iz (w.sq.set (lk w.ls k).a.toNat _) (lk w.ls k).b.toNat<99
     rw [DC (by omega),if_neg (by omega)]
     omega)
   refine h2.mono fun o ho'=>?_
   obtain ⟨⟨q,q1⟩,q2⟩:=ho'
   rcases q with e|e
   ·exact q1 (by omega)
   ·exact q2 (by omega)
end
section
open Go.RowKit
def Ob (net:List Pk) (i:Nat):Pk:=net.getD i ⟨0,⟨0,0,[]⟩⟩
theorem Um {net:List Pk} {i:Nat} (h:i<net.length):Ob net i∈net:=by
  unfold Ob
  rw [List.getD,List.getElem?_eq_getElem h]
  exact List.getElem_mem h
def Nq (w:Wd) (k:Nat):Wd:=if w.up.getD k false then Yo w (lk w.ls k).a.toNat (lk w.ls k).b.toNat else w
def Mf (w:Wd) (kind a:Int):Wd :=
  if (kind=1∨kind=2)∧0≤a∧a<w.up.length then Di w a.toNat (decide (kind=2))
  else if kind=3∧0≤a∧a<w.net.length then Mq { w with net:=w.net.eraseIdx a.toNat } (Ob w.net a.toNat).t.toNat (Ob w.net a.toNat).p
  else if kind=4∧0≤a∧a<w.net.length then { w with net:=w.net.eraseIdx a.toNat }
  else if kind=5∧0≤a∧a<w.net.length then (if w.net.length<16 then { w with net:=w.net++[Ob w.net a.toNat] } else w)
  else if kind=6∧0≤a∧a<w.up.length then Nq w a.toNat
  else w
theorem tX {w:Wd} (h:WV w Hc) {k:Nat} (hk:k<w.ls.length):WV (Nq w k) Hc:=by
  unfold Nq
  split
  ·have ho:=h.g.ok (Gk hk)
   have hdb:=h.db
   unfold Nh at ho
   exact tQ h (by omega) (by omega)
  ·exact h
theorem bE {w:Wd} (h:WV w Hc) (kind a:Int):WV (Mf w kind a) Hc:=by
  have hup:=h.up
  unfold Mf
  split
  ·exact tW h (by omega) _
  split
  ·rename_i hp
   have hm:Ob w.net a.toNat∈w.net:=Um (by omega)
   have hs:Ph w (Ob w.net a.toNat).p:=.inr ⟨_,hm,rfl⟩
   have hP:=h.poss _ hs
   have ht:=h.tgt _ hm
   have hdb:=h.db
   refine tS (IU h a.toNat) (by show _<w.db.length;omega) hP.1 hP.2.1 hP.2.2.1 hP fun y hy e1 e2=>?_
   refine h.agr _ y hs ?_ e1 e2
   rcases hy with hy|⟨p,hp,rfl⟩
   ·exact .inl hy
   ·exact .inr ⟨p,List.mem_of_mem_eraseIdx hp,rfl⟩
  split
  ·exact IU h _
  split
  ·split
   ·exact tR h (Um (by omega)) (by assumption)
   ·exact h
  split
  ·exact tX h (by omega)
  ·exact h
end
section
open Go.RowKit
theorem Wd.same {a b:Wd} (h1:a.n=b.n) (h2:a.ls=b.ls) (h3:a.up=b.up) (h4:a.sq=b.sq) (h5:a.db=b.db) (h6:a.net=b.net):a=b:=by
  cases a;cases b;dsimp only at h1 h2 h3 h4 h5 h6;subst h1 h2 h3 h4 h5 h6;rfl
section
variable {w:Wd} {N:Nat}
end
end
section
open Go.RowKit
def MM (s:(Int×Int×List Lk×List Bool×List Int×List (List Ls)×Int×Int×Int×List En×Int×List Lk×List Bool×List Int×List (List Ls)×List Pk×List Int×List Pk×Unit)):Option ((Int×Int×List Lk×List Bool×List Int×List (List Ls)×Int×Int×Int×List En×Int×List Lk×List Bool×List Int×List (List Ls)×List Pk×List Int×List Pk×Unit)⊕((List Lk×List Bool×List Int×List (List Ls)×Int×Int×List Lk×List Bool×List Int×List (List Ls)×List Pk×List Pk×Unit)⊕Unit)):=(bif decide (s.2.1<nI (List.length s.2.2.2.2.2.2.2.2.2.2.2.2.2.2.2.2.1)) then (bif decide (nI (List.length s.2.2.2.2.2.2.2.2.2.2.2.2.2.2.2.2.2.1)<16) then (bif Ea s.2.1 (List.length s.2.2.2.2.2.2.2.2.2.2.2.2.2.2.2.2.1) then (bif (!(decide (Ba .int s.2.2.2.2.2.2.2.2.2.2.2.2.2.2.2.2.1 (Int.toNat s.2.1)=s.1))) then (bif Ea s.2.1 (List.length s.2.2.2.2.2.2.2.2.2.2.2.2.2.2.2.2.1) then (bif decide ((List.length ([]:List Pk)+List.length s.2.2.2.2.2.2.2.2.2.2.2.2.2.2.2.2.2.1)≤(33554432:Nat)) then (Si (s.2.2.2.2.2.2.2.1,s.2.2.2.2.2.2.2.2.1,s.2.2.2.2.2.2.2.2.2.1,())).bind fun r0=>(bif decide ((List.length (([]:List Pk)++s.2.2.2.2.2.2.2.2.2.2.2.2.2.2.2.2.2.1)+List.length [(Pk.mk (Ba .int s.2.2.2.2.2.2.2.2.2.2.2.2.2.2.2.2.1 (Int.toNat s.2.1)) (Ls.mk r0.1 r0.2.1 r0.2.2.1))])≤(33554432:Nat)) then some (Sum.inl (s.1,wrap64 (s.2.1+1),s.2.2.1,s.2.2.2.1,s.2.2.2.2.1,s.2.2.2.2.2.1,s.2.2.2.2.2.2.1,s.2.2.2.2.2.2.2.1,s.2.2.2.2.2.2.2.2.1,s.2.2.2.2.2.2.2.2.2.1,s.2.2.2.2.2.2.2.2.2.2.1,s.2.2.2.2.2.2.2.2.2.2.2.1,s.2.2.2.2.2.2.2.2.2.2.2.2.1,s.2.2.2.2.2.2.2.2.2.2.2.2.2.1,s.2.2.2.2.2.2.2.2.2.2.2.2.2.2.1,s.2.2.2.2.2.2.2.2.2.2.2.2.2.2.2.1,s.2.2.2.2.2.2.2.2.2.2.2.2.2.2.2.2.1,((([]:List Pk)++s.2.2.2.2.2.2.2.2.2.2.2.2.2.2.2.2.2.1)++[(Pk.mk (Ba .int s.2.2.2.2.2.2.2.2.2.2.2.2.2.2.2.2.1 (Int.toNat s.2.1)) (Ls.mk r0.1 r0.2.1 r0.2.2.1))]),())) else none) else none) else none) else some (Sum.inl (s.1,wrap64 (s.2.1+1),s.2.2))) else none) else some (Sum.inr (Sum.inl (s.2.2.1,s.2.2.2.1,s.2.2.2.2.1,s.2.2.2.2.2.1,s.2.2.2.2.2.2.1,s.2.2.2.2.2.2.2.2.2.2.1,s.2.2.2.2.2.2.2.2.2.2.2.1,s.2.2.2.2.2.2.2.2.2.2.2.2.1,s.2.2.2.2.2.2.2.2.2.2.2.2.2.1,s.2.2.2.2.2.2.2.2.2.2.2.2.2.2.1,s.2.2.2.2.2.2.2.2.2.2.2.2.2.2.2.1,s.2.2.2.2.2.2.2.2.2.2.2.2.2.2.2.2.2)))) else some (Sum.inr (Sum.inl (s.2.2.1,s.2.2.2.1,s.2.2.2.2.1,s.2.2.2.2.2.1,s.2.2.2.2.2.2.1,s.2.2.2.2.2.2.2.2.2.2.1,s.2.2.2.2.2.2.2.2.2.2.2.1,s.2.2.2.2.2.2.2.2.2.2.2.2.1,s.2.2.2.2.2.2.2.2.2.2.2.2.2.1,s.2.2.2.2.2.2.2.2.2.2.2.2.2.2.1,s.2.2.2.2.2.2.2.2.2.2.2.2.2.2.2.1,s.2.2.2.2.2.2.2.2.2.2.2.2.2.2.2.2.2))))
def EC (s:(Int×Int×Int×Int×List En×Y0)):Option Y0:=(Hw (s.1,s.2.2.2.2.2.2)).bind fun r0=>(Bz (r0.1,r0.2.1,s.2.1,())).bind fun r1=>(lp MM Fa (s.2.2.2.2.2.1,0,s.2.2.2.2.2.2.1,s.2.2.2.2.2.2.2.1,s.2.2.2.2.2.2.2.2.1,s.2.2.2.2.2.2.2.2.2.1,s.1,s.2.2.1,s.2.2.2.1,s.2.2.2.2.1,0,([]:List Lk),([]:List Bool),([]:List Int),([]:List (List Ls)),([]:List Pk),r1.1,s.2.2.2.2.2.2.2.2.2.2)).bind fun r2=>(match r2 with| .inl x3=>some (x3.2.2.2.2.1,x3.1,x3.2.1,x3.2.2.1,x3.2.2.2.1,x3.2.2.2.2.2.2.2.2.2.2.2)| .inr _=>none)
def NM (s:(Int×List Lk×List Bool×List Int×List (List Ls)×List Pk×Int×Y3)):Option Y0:=(bif Ea s.2.2.2.2.2.2.1 (List.length s.2.2.2.2.1) then (Jw (Ba .db s.2.2.2.2.1 (Int.toNat s.2.2.2.2.2.2.1),s.2.2.2.2.2.2.2)).bind fun r0=>(bif (!(decide (r0.1=0))) then some (s.1,s.2.1,s.2.2.1,s.2.2.2.1,s.2.2.2.2.1,s.2.2.2.2.2.1,()) else (Lq (s.1,s.2.1,s.2.2.1,s.2.2.2.1,s.2.2.2.2.1,s.2.2.2.2.2.1,())).bind fun r1=>(bif Ea s.2.2.2.2.2.2.1 (List.length r1.2.2.2.2.1) then (EC (r1.1,s.2.2.2.2.2.2.1,s.2.2.2.2.2.2.2.1,s.2.2.2.2.2.2.2.2.1,s.2.2.2.2.2.2.2.2.2.1,s.2.2.2.2.2.2.2.1,r1.2.1,r1.2.2.1,r1.2.2.2.1,List.set r1.2.2.2.2.1 (Int.toNat s.2.2.2.2.2.2.1) r0.2.1,r1.2.2.2.2.2)).bind fun r2=>some r2 else none)) else none)
def Vm (s:(Int×List Lk×List Bool×List Int×List (List Ls)×List Pk×Y2)):Option Y0:=(bif Ea s.2.2.2.2.2.2.1 (List.length s.2.1) then (bif Ea s.2.2.2.2.2.2.1 (List.length s.2.2.1) then (bif (!(Ba .bool s.2.2.1 (Int.toNat s.2.2.2.2.2.2.1))) then some (s.1,s.2.1,s.2.2.1,s.2.2.2.1,s.2.2.2.2.1,s.2.2.2.2.2.1,()) else (Lq (s.1,s.2.1,s.2.2.1,s.2.2.2.1,s.2.2.2.2.1,s.2.2.2.2.2.1,())).bind fun r0=>(bif Ea ((Ba .lk s.2.1 (Int.toNat s.2.2.2.2.2.2.1)).a) (List.length r0.2.2.2.2.1) then (bif Ea ((Ba .lk s.2.1 (Int.toNat s.2.2.2.2.2.2.1)).b) (List.length r0.2.2.2.2.1) then (CM (Ba .db r0.2.2.2.2.1 (Int.toNat ((Ba .lk s.2.1 (Int.toNat s.2.2.2.2.2.2.1)).a)),Ba .db r0.2.2.2.2.1 (Int.toNat ((Ba .lk s.2.1 (Int.toNat s.2.2.2.2.2.2.1)).b)),())).bind fun r1=>(bif Ea ((Ba .lk s.2.1 (Int.toNat s.2.2.2.2.2.2.1)).a) (List.length r0.2.2.2.2.1) then (Qm r1).bind fun r2=>(bif Ea ((Ba .lk s.2.1 (Int.toNat s.2.2.2.2.2.2.1)).b) (List.length (List.set r0.2.2.2.2.1 (Int.toNat ((Ba .lk s.2.1 (Int.toNat s.2.2.2.2.2.2.1)).a)) r1.1)) then some (r0.1,r0.2.1,r0.2.2.1,r0.2.2.2.1,List.set (List.set r0.2.2.2.2.1 (Int.toNat ((Ba .lk s.2.1 (Int.toNat s.2.2.2.2.2.2.1)).a)) r1.1) (Int.toNat ((Ba .lk s.2.1 (Int.toNat s.2.2.2.2.2.2.1)).b)) r2.1,r0.2.2.2.2.2) else none) else none) else none) else none)) else none) else none)
def OM (s:(Int×AJ)):Option (AJ⊕Unit):=(Oh (s.2.2.2.2.2.2.2.2.2.1,s.2.2.2.2.2.2.2.2.2.2.1,s.2.2.2.2.2.2.2.2.2.2.2.1,())).bind fun r0=>(bif decide ((List.length s.2.2.2.2.2.2.2.2.2.2.2.2.2.1+List.length [(Pk.mk s.2.1 (Ls.mk r0.1 r0.2.1 r0.2.2.1))])≤(33554432:Nat)) then some (Sum.inl (s.1,s.2.2.1,s.2.2.2.1,s.2.2.2.2.1,s.2.2.2.2.2.1,s.2.2.2.2.2.2.1,s.2.2.2.2.2.2.2.1,s.2.2.2.2.2.2.2.2.1,s.2.2.2.2.2.2.2.2.2.1,s.2.2.2.2.2.2.2.2.2.2.1,s.2.2.2.2.2.2.2.2.2.2.2.1,s.2.2.2.2.2.2.2.2.2.2.2.2.1,(s.2.2.2.2.2.2.2.2.2.2.2.2.2.1++[(Pk.mk s.2.1 (Ls.mk r0.1 r0.2.1 r0.2.2.1))]),())) else none)
def PM (s:AJ):Option (AJ⊕(Y0⊕Unit)):=(bif decide (s.2.2.1<s.2.1) then (bif Ea s.2.2.1 (List.length s.2.2.2.2.2.2.2.2.2.2.2.1) then (bif (!(decide (Ba .int s.2.2.2.2.2.2.2.2.2.2.2.1 (Int.toNat s.2.2.1)=s.1))) then (bif decide (nI (List.length s.2.2.2.2.2.2.2.2.2.2.2.2.1)<16) then (OM (s.1,Ba .int s.2.2.2.2.2.2.2.2.2.2.2.1 (Int.toNat s.2.2.1),s.2)).bind fun r0=>(match r0 with| .inl x1=>some (Sum.inl (x1.1,x1.2.1,wrap64 (x1.2.2.1+1),x1.2.2.2))| .inr _=>none) else some (Sum.inl (s.1,s.2.1,wrap64 (s.2.2.1+1),s.2.2.2))) else some (Sum.inl (s.1,s.2.1,wrap64 (s.2.2.1+1),s.2.2.2))) else none) else some (Sum.inr (Sum.inl (s.2.2.2.1,s.2.2.2.2.1,s.2.2.2.2.2.1,s.2.2.2.2.2.2.1,s.2.2.2.2.2.2.2.1,s.2.2.2.2.2.2.2.2.2.2.2.2))))
def Oq (s:(Int×Int×Int×List En×Int×Y0)):Option Y0:=(Iw s.2.2.2.2.2).bind fun r0=>(Yv (r0.1,r0.2.1,s.1,())).bind fun r1=>(lp PM Fa (s.2.2.2.2.1,nI (List.length r1.1),0,s.2.2.2.2.2.1,s.2.2.2.2.2.2.1,s.2.2.2.2.2.2.2.1,s.2.2.2.2.2.2.2.2.1,s.2.2.2.2.2.2.2.2.2.1,s.2.1,s.2.2.1,s.2.2.2.1,r1.1,s.2.2.2.2.2.2.2.2.2.2)).bind fun r2=>(match r2 with| .inl x3=>some x3| .inr _=>none)
def FC (s:(Int×List Lk×List Bool×List Int×List (List Ls)×Int×Int×List Lk×List Bool×List Int×List (List Ls)×List Pk×List Pk×Unit)):Option ((Int×List Lk×List Bool×List Int×List (List Ls)×Int×Int×List Lk×List Bool×List Int×List (List Ls)×List Pk×Int×Int×List Pk×List En×Unit)⊕Unit):=(bif Ea s.1 (List.length s.2.2.2.1) then (Hw (s.2.2.2.2.2.1,s.2.1,s.2.2.1,s.2.2.2.1,s.2.2.2.2.1,s.2.2.2.2.2.2.2.2.2.2.2.2)).bind fun r0=>(Aw (r0.1,r0.2.1,s.1,Ba .int s.2.2.2.1 (Int.toNat s.1),())).bind fun r1=>some (Sum.inl (s.1,s.2.1,s.2.2.1,s.2.2.2.1,s.2.2.2.2.1,s.2.2.2.2.2.1,s.2.2.2.2.2.2.1,s.2.2.2.2.2.2.2.1,s.2.2.2.2.2.2.2.2.1,s.2.2.2.2.2.2.2.2.2.1,s.2.2.2.2.2.2.2.2.2.2.1,s.2.2.2.2.2.2.2.2.2.2.2.1,r1.1,r1.2.1,s.2.2.2.2.2.2.2.2.2.2.2.2.1,r1.2.2)) else none)
def Mw (s:(Int×Y0)):Option Y0:=(bif Ea s.2.1 (List.length s.2.2.2.2.1) then (bif Ea s.2.1 (List.length s.2.2.2.2.1) then (FC (s.2.1,s.2.2.1,s.2.2.2.1,List.set s.2.2.2.2.1 (Int.toNat s.2.1) (wrap64 (Ba .int s.2.2.2.2.1 (Int.toNat s.2.1)+(1:Int))),s.2.2.2.2.2.1,s.1,0,([]:List Lk),([]:List Bool),([]:List Int),([]:List (List Ls)),([]:List Pk),s.2.2.2.2.2.2)).bind fun r0=>(match r0 with| .inl x1=>(bif Ea x1.1 (List.length x1.2.2.2.2.1) then (Jw (Ba .db x1.2.2.2.2.1 (Int.toNat x1.1),x1.2.2.2.2.2.2.2.2.2.2.2.2.1,x1.2.2.2.2.2.2.2.2.2.2.2.2.2.1,x1.2.2.2.2.2.2.2.2.2.2.2.2.2.2.2)).bind fun r2=>(bif Ea x1.1 (List.length x1.2.2.2.2.1) then (EC (x1.2.2.2.2.2.1,x1.1,x1.2.2.2.2.2.2.2.2.2.2.2.2.1,x1.2.2.2.2.2.2.2.2.2.2.2.2.2.1,x1.2.2.2.2.2.2.2.2.2.2.2.2.2.2.2.1,(-(1)),x1.2.1,x1.2.2.1,x1.2.2.2.1,List.set x1.2.2.2.2.1 (Int.toNat x1.1) r2.2.1,x1.2.2.2.2.2.2.2.2.2.2.2.2.2.2.1,())).bind fun r3=>some r3 else none) else none)| .inr _=>none) else none) else none)
def IC (s:(Int×List Lk×List Bool×List Int×List (List Ls)×List Pk×Int×List Lk×List Bool×List Int×List (List Ls)×List Pk×Int×Y3)):Option ((Int×List Lk×List Bool×List Int×List (List Ls)×Int×List Lk×List Bool×List Int×List (List Ls)×List Pk×List Pk×Unit)⊕Unit):=(bif decide ((List.length ([]:List Pk)+List.length s.2.2.2.2.2.1)≤(33554432:Nat)) then (bif decide ((List.length (([]:List Pk)++s.2.2.2.2.2.1)+List.length [(Pk.mk s.2.2.2.2.2.2.2.2.2.2.2.2.1 (Ls.mk s.2.2.2.2.2.2.2.2.2.2.2.2.2.1 s.2.2.2.2.2.2.2.2.2.2.2.2.2.2.1 s.2.2.2.2.2.2.2.2.2.2.2.2.2.2.2.1))])≤(33554432:Nat)) then some (Sum.inl (s.1,s.2.1,s.2.2.1,s.2.2.2.1,s.2.2.2.2.1,s.2.2.2.2.2.2.1,s.2.2.2.2.2.2.2.1,s.2.2.2.2.2.2.2.2.1,s.2.2.2.2.2.2.2.2.2.1,s.2.2.2.2.2.2.2.2.2.2.1,s.2.2.2.2.2.2.2.2.2.2.2.1,((([]:List Pk)++s.2.2.2.2.2.1)++[(Pk.mk s.2.2.2.2.2.2.2.2.2.2.2.2.1 (Ls.mk s.2.2.2.2.2.2.2.2.2.2.2.2.2.1 s.2.2.2.2.2.2.2.2.2.2.2.2.2.2.1 s.2.2.2.2.2.2.2.2.2.2.2.2.2.2.2.1))]),())) else none) else none)
def Pq (s:BJ):Option Y0:=(Vg (s.2.2.2.2.2.2.2.1,0,wrap64 (nI (List.length s.2.2.2.2.2.1)-1),())).bind fun r0=>(bif (!r0.1) then some (s.1,s.2.1,s.2.2.1,s.2.2.2.1,s.2.2.2.2.1,s.2.2.2.2.2.1,()) else (bif Ea s.2.2.2.2.2.2.2.1 (List.length s.2.2.2.2.2.1) then (bif decide (s.2.2.2.2.2.2.1=5) then (bif decide (nI (List.length s.2.2.2.2.2.1)<16) then (IC (s.1,s.2.1,s.2.2.1,s.2.2.2.1,s.2.2.2.2.1,s.2.2.2.2.2.1,0,([]:List Lk),([]:List Bool),([]:List Int),([]:List (List Ls)),([]:List Pk),(Ba .pk s.2.2.2.2.2.1 (Int.toNat s.2.2.2.2.2.2.2.1)).t,((Ba .pk s.2.2.2.2.2.1 (Int.toNat s.2.2.2.2.2.2.2.1)).p).o,((Ba .pk s.2.2.2.2.2.1 (Int.toNat s.2.2.2.2.2.2.2.1)).p).s,((Ba .pk s.2.2.2.2.2.1 (Int.toNat s.2.2.2.2.2.2.2.1)).p).e,())).bind fun r1=>(match r1 with| .inl x2=>some (x2.1,x2.2.1,x2.2.2.1,x2.2.2.2.1,x2.2.2.2.2.1,x2.2.2.2.2.2.2.2.2.2.2.2)| .inr _=>none) else some (s.1,s.2.1,s.2.2.1,s.2.2.2.1,s.2.2.2.2.1,s.2.2.2.2.2.1,())) else (bif Tl (0) s.2.2.2.2.2.2.2.1 (List.length s.2.2.2.2.2.1) then (bif Tl (wrap64 (s.2.2.2.2.2.2.2.1+1)) (((List.length s.2.2.2.2.2.1):Nat):Int) (List.length s.2.2.2.2.2.1) then (bif decide ((List.length ([]:List Pk)+List.length (List.take (Int.toNat s.2.2.2.2.2.2.2.1-Int.toNat (0)) (List.drop (Int.toNat (0)) s.2.2.2.2.2.1)))≤(33554432:Nat)) then (bif decide ((List.length (([]:List Pk)++List.take (Int.toNat s.2.2.2.2.2.2.2.1-Int.toNat (0)) (List.drop (Int.toNat (0)) s.2.2.2.2.2.1))+List.length (List.take (Int.toNat (((List.length s.2.2.2.2.2.1):Nat):Int)-Int.toNat (wrap64 (s.2.2.2.2.2.2.2.1+1))) (List.drop (Int.toNat (wrap64 (s.2.2.2.2.2.2.2.1+1))) s.2.2.2.2.2.1)))≤(33554432:Nat)) then (bif decide (s.2.2.2.2.2.2.1=3) then (NM (s.1,s.2.1,s.2.2.1,s.2.2.2.1,s.2.2.2.2.1,((([]:List Pk)++List.take (Int.toNat s.2.2.2.2.2.2.2.1-Int.toNat (0)) (List.drop (Int.toNat (0)) s.2.2.2.2.2.1))++List.take (Int.toNat (((List.length s.2.2.2.2.2.1):Nat):Int)-Int.toNat (wrap64 (s.2.2.2.2.2.2.2.1+1))) (List.drop (Int.toNat (wrap64 (s.2.2.2.2.2.2.2.1+1))) s.2.2.2.2.2.1)),(Ba .pk s.2.2.2.2.2.1 (Int.toNat s.2.2.2.2.2.2.2.1)).t,((Ba .pk s.2.2.2.2.2.1 (Int.toNat s.2.2.2.2.2.2.2.1)).p).o,((Ba .pk s.2.2.2.2.2.1 (Int.toNat s.2.2.2.2.2.2.2.1)).p).s,((Ba .pk s.2.2.2.2.2.1 (Int.toNat s.2.2.2.2.2.2.2.1)).p).e,())).bind fun r3=>some r3 else some (s.1,s.2.1,s.2.2.1,s.2.2.2.1,s.2.2.2.2.1,((([]:List Pk)++List.take (Int.toNat s.2.2.2.2.2.2.2.1-Int.toNat (0)) (List.drop (Int.toNat (0)) s.2.2.2.2.2.1))++List.take (Int.toNat (((List.length s.2.2.2.2.2.1):Nat):Int)-Int.toNat (wrap64 (s.2.2.2.2.2.2.2.1+1))) (List.drop (Int.toNat (wrap64 (s.2.2.2.2.2.2.2.1+1))) s.2.2.2.2.2.1)),())) else none) else none) else none) else none)) else none))
def JC (s:(Int×Int×List Lk×List Bool×List Int×List (List Ls)×List Pk×Int×Int×Y0)):Option (Y0⊕Unit):=(Mw (s.1,s.2.2.2.2.2.2.2.1,s.2.2.2.2.2.2.2.2.2.2)).bind fun r0=>(Mw (r0.1,s.2.2.2.2.2.2.2.2.1,r0.2)).bind fun r1=>some (Sum.inl r1)
def Wm (s:(Int×List Lk×List Bool×List Int×List (List Ls)×List Pk×Int×Y6)):Option Y0:=(bif Ea s.2.2.2.2.2.2.1 (List.length s.2.1) then (bif Ea s.2.2.2.2.2.2.1 (List.length s.2.2.1) then (bif (Ba .bool s.2.2.1 (Int.toNat s.2.2.2.2.2.2.1)==s.2.2.2.2.2.2.2.1) then some (s.1,s.2.1,s.2.2.1,s.2.2.2.1,s.2.2.2.2.1,s.2.2.2.2.2.1,()) else (bif Ea ((Ba .lk s.2.1 (Int.toNat s.2.2.2.2.2.2.1)).a) (List.length s.2.2.2.1) then (bif decide ((99:Int)≤Ba .int s.2.2.2.1 (Int.toNat ((Ba .lk s.2.1 (Int.toNat s.2.2.2.2.2.2.1)).a))) then some (s.1,s.2.1,s.2.2.1,s.2.2.2.1,s.2.2.2.2.1,s.2.2.2.2.2.1,()) else (bif Ea ((Ba .lk s.2.1 (Int.toNat s.2.2.2.2.2.2.1)).b) (List.length s.2.2.2.1) then (bif decide ((99:Int)≤Ba .int s.2.2.2.1 (Int.toNat ((Ba .lk s.2.1 (Int.toNat s.2.2.2.2.2.2.1)).b))) then some (s.1,s.2.1,s.2.2.1,s.2.2.2.1,s.2.2.2.2.1,s.2.2.2.2.2.1,()) else (Lq (s.1,s.2.1,s.2.2.1,s.2.2.2.1,s.2.2.2.2.1,s.2.2.2.2.2.1,())).bind fun r0=>(bif Ea s.2.2.2.2.2.2.1 (List.length r0.2.2.1) then (JC (r0.1,0,([]:List Lk),([]:List Bool),([]:List Int),([]:List (List Ls)),([]:List Pk),(Ba .lk s.2.1 (Int.toNat s.2.2.2.2.2.2.1)).a,(Ba .lk s.2.1 (Int.toNat s.2.2.2.2.2.2.1)).b,(Ba .lk s.2.1 (Int.toNat s.2.2.2.2.2.2.1)).c,r0.2.1,List.set r0.2.2.1 (Int.toNat s.2.2.2.2.2.2.1) s.2.2.2.2.2.2.2.1,r0.2.2.2)).bind fun r1=>(match r1 with| .inl x2=>some x2| .inr _=>none) else none)) else none)) else none)) else none) else none)
def KC (s:(Int×Y0)):Option (OS⊕Unit):=(bif Ea s.1 (List.length s.2.2.2.2.1) then (Iw s.2).bind fun r0=>(Dw (r0.1,r0.2.1,s.1,Ba .int s.2.2.2.2.1 (Int.toNat s.1),())).bind fun r1=>some (Sum.inl (s.1,s.2.1,s.2.2.1,s.2.2.2.1,s.2.2.2.2.1,s.2.2.2.2.2.1,r1.1,r1.2.1,s.2.2.2.2.2.2.1,r1.2.2)) else none)
def LC (s:OS):Option (OS⊕Unit):=(bif Ea s.1 (List.length s.2.2.2.2.2.1) then (Wo (Ba .db s.2.2.2.2.2.1 (Int.toNat s.1),s.2.2.2.2.2.2.1,s.2.2.2.2.2.2.2.1,s.2.2.2.2.2.2.2.2.2)).bind fun r0=>(bif Ea s.1 (List.length s.2.2.2.2.2.1) then some (Sum.inl (s.1,s.2.1,s.2.2.1,s.2.2.2.1,s.2.2.2.2.1,List.set s.2.2.2.2.2.1 (Int.toNat s.1) r0.2.1,s.2.2.2.2.2.2)) else none) else none)
def Il (s:(Int×Y0)):Option Y0:=(bif Ea s.1 (List.length s.2.2.2.2.1) then (bif Ea s.1 (List.length s.2.2.2.2.1) then (KC (s.1,s.2.1,s.2.2.1,s.2.2.2.1,List.set s.2.2.2.2.1 (Int.toNat s.1) (wrap64 (Ba .int s.2.2.2.2.1 (Int.toNat s.1)+(1:Int))),s.2.2.2.2.2)).bind fun r0=>(match r0 with| .inl x1=>(LC x1).bind fun r2=>(match r2 with| .inl x3=>(Oq (x3.1,x3.2.2.2.2.2.2.1,x3.2.2.2.2.2.2.2.1,x3.2.2.2.2.2.2.2.2.2.1,(-(1)),x3.2.1,x3.2.2.1,x3.2.2.2.1,x3.2.2.2.2.1,x3.2.2.2.2.2.1,x3.2.2.2.2.2.2.2.2.1,())).bind fun r4=>some r4| .inr _=>none)| .inr _=>none) else none) else none)
def QM (s:BJ):Option Y0:=(bif decide (s.2.2.2.2.2.2.1=3) then (bif decide (s.2.2.2.2.2.2.1=3) then (Pq s).bind fun r0=>some r0 else (Vg (s.2.2.2.2.2.2.2.1,0,wrap64 (nI (List.length s.2.2.1)-1),())).bind fun r1=>(bif (!r1.1) then some (s.1,s.2.1,s.2.2.1,s.2.2.2.1,s.2.2.2.2.1,s.2.2.2.2.2.1,()) else (bif decide (s.2.2.2.2.2.2.1=1) then (bif decide (s.2.2.2.2.2.2.1=1) then (Wm (s.1,s.2.1,s.2.2.1,s.2.2.2.1,s.2.2.2.2.1,s.2.2.2.2.2.1,s.2.2.2.2.2.2.2.1,decide (s.2.2.2.2.2.2.1=2),())).bind fun r2=>some r2 else (bif decide (s.2.2.2.2.2.2.1=6) then (Vm (s.1,s.2.1,s.2.2.1,s.2.2.2.1,s.2.2.2.2.1,s.2.2.2.2.2.1,s.2.2.2.2.2.2.2)).bind fun r3=>some r3 else some (s.1,s.2.1,s.2.2.1,s.2.2.2.1,s.2.2.2.2.1,s.2.2.2.2.2.1,()))) else (bif decide (s.2.2.2.2.2.2.1=2) then (Wm (s.1,s.2.1,s.2.2.1,s.2.2.2.1,s.2.2.2.2.1,s.2.2.2.2.2.1,s.2.2.2.2.2.2.2.1,decide (s.2.2.2.2.2.2.1=2),())).bind fun r4=>some r4 else (bif decide (s.2.2.2.2.2.2.1=6) then (Vm (s.1,s.2.1,s.2.2.1,s.2.2.2.1,s.2.2.2.2.1,s.2.2.2.2.2.1,s.2.2.2.2.2.2.2)).bind fun r5=>some r5 else some (s.1,s.2.1,s.2.2.1,s.2.2.2.1,s.2.2.2.2.1,s.2.2.2.2.2.1,())))))) else (bif decide (s.2.2.2.2.2.2.1=4) then (bif decide (s.2.2.2.2.2.2.1=4) then (Pq s).bind fun r6=>some r6 else (Vg (s.2.2.2.2.2.2.2.1,0,wrap64 (nI (List.length s.2.2.1)-1),())).bind fun r7=>(bif (!r7.1) then some (s.1,s.2.1,s.2.2.1,s.2.2.2.1,s.2.2.2.2.1,s.2.2.2.2.2.1,()) else (bif decide (s.2.2.2.2.2.2.1=1) then (bif decide (s.2.2.2.2.2.2.1=1) then (Wm (s.1,s.2.1,s.2.2.1,s.2.2.2.1,s.2.2.2.2.1,s.2.2.2.2.2.1,s.2.2.2.2.2.2.2.1,decide (s.2.2.2.2.2.2.1=2),())).bind fun r8=>some r8 else (bif decide (s.2.2.2.2.2.2.1=6) then (Vm (s.1,s.2.1,s.2.2.1,s.2.2.2.1,s.2.2.2.2.1,s.2.2.2.2.2.1,s.2.2.2.2.2.2.2)).bind fun r9=>some r9 else some (s.1,s.2.1,s.2.2.1,s.2.2.2.1,s.2.2.2.2.1,s.2.2.2.2.2.1,()))) else (bif decide (s.2.2.2.2.2.2.1=2) then (Wm (s.1,s.2.1,s.2.2.1,s.2.2.2.1,s.2.2.2.2.1,s.2.2.2.2.2.1,s.2.2.2.2.2.2.2.1,decide (s.2.2.2.2.2.2.1=2),())).bind fun r10=>some r10 else (bif decide (s.2.2.2.2.2.2.1=6) then (Vm (s.1,s.2.1,s.2.2.1,s.2.2.2.1,s.2.2.2.2.1,s.2.2.2.2.2.1,s.2.2.2.2.2.2.2)).bind fun r11=>some r11 else some (s.1,s.2.1,s.2.2.1,s.2.2.2.1,s.2.2.2.2.1,s.2.2.2.2.2.1,())))))) else (bif decide (s.2.2.2.2.2.2.1=5) then (Pq s).bind fun r12=>some r12 else (Vg (s.2.2.2.2.2.2.2.1,0,wrap64 (nI (List.length s.2.2.1)-1),())).bind fun r13=>(bif (!r13.1) then some (s.1,s.2.1,s.2.2.1,s.2.2.2.1,s.2.2.2.2.1,s.2.2.2.2.2.1,()) else (bif decide (s.2.2.2.2.2.2.1=1) then (bif decide (s.2.2.2.2.2.2.1=1) then (Wm (s.1,s.2.1,s.2.2.1,s.2.2.2.1,s.2.2.2.2.1,s.2.2.2.2.2.1,s.2.2.2.2.2.2.2.1,decide (s.2.2.2.2.2.2.1=2),())).bind fun r14=>some r14 else (bif decide (s.2.2.2.2.2.2.1=6) then (Vm (s.1,s.2.1,s.2.2.1,s.2.2.2.1,s.2.2.2.2.1,s.2.2.2.2.2.1,s.2.2.2.2.2.2.2)).bind fun r15=>some r15 else some (s.1,s.2.1,s.2.2.1,s.2.2.2.1,s.2.2.2.2.1,s.2.2.2.2.2.1,()))) else (bif decide (s.2.2.2.2.2.2.1=2) then (Wm (s.1,s.2.1,s.2.2.1,s.2.2.2.1,s.2.2.2.2.1,s.2.2.2.2.2.1,s.2.2.2.2.2.2.2.1,decide (s.2.2.2.2.2.2.1=2),())).bind fun r16=>some r16 else (bif decide (s.2.2.2.2.2.2.1=6) then (Vm (s.1,s.2.1,s.2.2.1,s.2.2.2.1,s.2.2.2.2.1,s.2.2.2.2.2.1,s.2.2.2.2.2.2.2)).bind fun r17=>some r17 else some (s.1,s.2.1,s.2.2.1,s.2.2.2.1,s.2.2.2.2.1,s.2.2.2.2.2.1,()))))))))
def JU (s:BJ):Option Y0:=(ZL (s.1,s.2.1,s.2.2.1,s.2.2.2.1,s.2.2.2.2.1,s.2.2.2.2.2.1,())).bind fun r0=>(bif (!r0.1) then some (0,([]:List Lk),([]:List Bool),([]:List Int),([]:List (List Ls)),([]:List Pk),()) else (QM s).bind fun r1=>(Lq r1).bind fun r2=>some r2)
def Qq (s:(Int×List Lk×List Bool×List Int×List (List Ls)×Int×Int×Int×Int×Int×List En×List Pk×Unit)):Option ((Int×List Lk×List Bool×List Int×List (List Ls)×Int×Int×Int×List En×List Pk×Unit)⊕Unit):=(Yy (s.2.2.2.2.2.2.1,wrap64 (s.2.2.2.2.2.2.1+1),s.2.2.2.2.2.2.2.2.2.2.2)).bind fun r0=>some (Sum.inl (s.1,s.2.1,s.2.2.1,s.2.2.2.1,s.2.2.2.2.1,s.2.2.2.2.2.2.2.1,s.2.2.2.2.2.2.2.2.1,s.2.2.2.2.2.2.2.2.2.1,s.2.2.2.2.2.2.2.2.2.2.1,r0.1,()))
def Jl (s:(Int×List Lk×List Bool×List Int×List (List Ls)×Int×Int×List Pk×Unit)):Option (Y0⊕Unit):=(Yy (s.2.2.2.2.2.2.1,wrap64 (s.2.2.2.2.2.2.1+1),s.2.2.2.2.2.2.2)).bind fun r0=>some (Sum.inl (s.1,s.2.1,s.2.2.1,s.2.2.2.1,s.2.2.2.2.1,r0.1,()))
def Dh (s:(Int×List Lk×List Bool×List Int×List (List Ls)×Int×Int×List Pk×Unit)):Option (Y0⊕Unit):=(bif Ea s.2.2.2.2.2.2.1 (List.length s.2.2.2.2.2.2.2.1) then (bif Ea s.2.2.2.2.2.2.1 (List.length s.2.2.2.2.2.2.2.1) then (Oh (((Ba .pk s.2.2.2.2.2.2.2.1 (Int.toNat s.2.2.2.2.2.2.1)).p).o,((Ba .pk s.2.2.2.2.2.2.2.1 (Int.toNat s.2.2.2.2.2.2.1)).p).s,((Ba .pk s.2.2.2.2.2.2.2.1 (Int.toNat s.2.2.2.2.2.2.1)).p).e,())).bind fun r0=>(bif decide ((List.length s.2.2.2.2.2.2.2.1+List.length [(Pk.mk ((Ba .pk s.2.2.2.2.2.2.2.1 (Int.toNat s.2.2.2.2.2.2.1)).t) (Ls.mk r0.1 r0.2.1 r0.2.2.1))])≤(33554432:Nat)) then some (Sum.inl (s.1,s.2.1,s.2.2.1,s.2.2.2.1,s.2.2.2.2.1,(s.2.2.2.2.2.2.2.1++[(Pk.mk ((Ba .pk s.2.2.2.2.2.2.2.1 (Int.toNat s.2.2.2.2.2.2.1)).t) (Ls.mk r0.1 r0.2.1 r0.2.2.1))]),())) else none) else none) else none)
def Ee (s:(Int×List Lk×List Bool×List Int×List (List Ls)×Int×Int×Int×List Ls×List Pk×Unit)):Option (Y0⊕Unit):=(Kq (s.2.2.2.2.2.2.2.2.1,())).bind fun r0=>(bif Ea s.2.2.2.2.2.1 (List.length s.2.2.2.2.1) then (bif Ea s.2.2.2.2.2.2.1 (List.length (List.set s.2.2.2.2.1 (Int.toNat s.2.2.2.2.2.1) s.2.2.2.2.2.2.2.2.1)) then some (Sum.inl (s.1,s.2.1,s.2.2.1,s.2.2.2.1,List.set (List.set s.2.2.2.2.1 (Int.toNat s.2.2.2.2.2.1) s.2.2.2.2.2.2.2.2.1) (Int.toNat s.2.2.2.2.2.2.1) r0.1,s.2.2.2.2.2.2.2.2.2)) else none) else none)
def RM (s:(Int×Int×Y0)):Option Y0:=(Pi (s.2.1,0,wrap64 (nI (List.length s.2.2.2.2.1)-1),())).bind fun r0=>(Pi (s.2.1,0,wrap64 (nI (List.length s.2.2.2.2.2.2.2.1)-1),())).bind fun r1=>(bif decide (s.1=1) then (bif r0.1 then (bif Ea s.2.1 (List.length s.2.2.2.1) then (bif Ea s.2.1 (List.length s.2.2.2.2.1) then (bif (!(Ba .bool s.2.2.2.2.1 (Int.toNat s.2.1)==decide (s.1=2))) then (bif Ea ((Ba .lk s.2.2.2.1 (Int.toNat s.2.1)).a) (List.length s.2.2.2.2.2.1) then (bif decide (Ba .int s.2.2.2.2.2.1 (Int.toNat ((Ba .lk s.2.2.2.1 (Int.toNat s.2.1)).a))<(99:Int)) then (bif Ea ((Ba .lk s.2.2.2.1 (Int.toNat s.2.1)).b) (List.length s.2.2.2.2.2.1) then (bif decide (Ba .int s.2.2.2.2.2.1 (Int.toNat ((Ba .lk s.2.2.2.1 (Int.toNat s.2.1)).b))<(99:Int)) then (bif Ea s.2.1 (List.length s.2.2.2.2.1) then (Il ((Ba .lk s.2.2.2.1 (Int.toNat s.2.1)).a,s.2.2.1,s.2.2.2.1,List.set s.2.2.2.2.1 (Int.toNat s.2.1) (decide (s.1=2)),s.2.2.2.2.2)).bind fun r2=>(Il ((Ba .lk s.2.2.2.1 (Int.toNat s.2.1)).b,r2)).bind fun r3=>some r3 else none) else some s.2.2) else none) else some s.2.2) else none) else some s.2.2) else none) else none) else (bif decide (s.1=3) then (bif r1.1 then (bif Ea s.2.1 (List.length s.2.2.2.2.2.2.2.1) then (Qq (s.2.2.1,s.2.2.2.1,s.2.2.2.2.1,s.2.2.2.2.2.1,s.2.2.2.2.2.2.1,s.1,s.2.1,(Ba .pk s.2.2.2.2.2.2.2.1 (Int.toNat s.2.1)).t,((Ba .pk s.2.2.2.2.2.2.2.1 (Int.toNat s.2.1)).p).o,((Ba .pk s.2.2.2.2.2.2.2.1 (Int.toNat s.2.1)).p).s,((Ba .pk s.2.2.2.2.2.2.2.1 (Int.toNat s.2.1)).p).e,s.2.2.2.2.2.2.2)).bind fun r4=>(match r4 with| .inl x5=>(bif Ea x5.2.2.2.2.2.1 (List.length x5.2.2.2.2.1) then (Wo (Ba .db x5.2.2.2.2.1 (Int.toNat x5.2.2.2.2.2.1),x5.2.2.2.2.2.2.1,x5.2.2.2.2.2.2.2.1,x5.2.2.2.2.2.2.2.2.1,())).bind fun r6=>(bif Ea x5.2.2.2.2.2.1 (List.length x5.2.2.2.2.1) then (bif decide (r6.1=0) then (Oq (x5.2.2.2.2.2.1,x5.2.2.2.2.2.2.1,x5.2.2.2.2.2.2.2.1,x5.2.2.2.2.2.2.2.2.1,x5.2.2.2.2.2.2.1,x5.1,x5.2.1,x5.2.2.1,x5.2.2.2.1,List.set x5.2.2.2.2.1 (Int.toNat x5.2.2.2.2.2.1) r6.2.1,x5.2.2.2.2.2.2.2.2.2)).bind fun r7=>some r7 else some (x5.1,x5.2.1,x5.2.2.1,x5.2.2.2.1,List.set x5.2.2.2.2.1 (Int.toNat x5.2.2.2.2.2.1) r6.2.1,x5.2.2.2.2.2.2.2.2.2)) else none) else none)| .inr _=>none) else none) else (bif decide (s.1=4) then (bif r1.1 then (Jl (s.2.2.1,s.2.2.2.1,s.2.2.2.2.1,s.2.2.2.2.2.1,s.2.2.2.2.2.2.1,s.1,s.2.1,s.2.2.2.2.2.2.2)).bind fun r8=>(match r8 with| .inl x9=>some x9| .inr _=>none) else (bif decide (s.1=5) then (bif r1.1 then (bif decide (nI (List.length s.2.2.2.2.2.2.2.1)<16) then (Dh (s.2.2.1,s.2.2.2.1,s.2.2.2.2.1,s.2.2.2.2.2.1,s.2.2.2.2.2.2.1,s.1,s.2.1,s.2.2.2.2.2.2.2)).bind fun r10=>(match r10 with| .inl x11=>some x11| .inr _=>none) else some s.2.2) else (bif decide (s.1=6) then (bif r0.1 then (bif Ea s.2.1 (List.length s.2.2.2.1) then (bif Ea s.2.1 (List.length s.2.2.2.2.1) then (bif Ba .bool s.2.2.2.2.1 (Int.toNat s.2.1) then (bif Ea ((Ba .lk s.2.2.2.1 (Int.toNat s.2.1)).a) (List.length s.2.2.2.2.2.2.1) then (bif Ea ((Ba .lk s.2.2.2.1 (Int.toNat s.2.1)).b) (List.length s.2.2.2.2.2.2.1) then (Ge (Ba .db s.2.2.2.2.2.2.1 (Int.toNat ((Ba .lk s.2.2.2.1 (Int.toNat s.2.1)).a)),Ba .db s.2.2.2.2.2.2.1 (Int.toNat ((Ba .lk s.2.2.2.1 (Int.toNat s.2.1)).b)),())).bind fun r12=>(Ee (s.2.2.1,s.2.2.2.1,s.2.2.2.2.1,s.2.2.2.2.2.1,s.2.2.2.2.2.2.1,(Ba .lk s.2.2.2.1 (Int.toNat s.2.1)).a,(Ba .lk s.2.2.2.1 (Int.toNat s.2.1)).b,(Ba .lk s.2.2.2.1 (Int.toNat s.2.1)).c,r12.1,s.2.2.2.2.2.2.2)).bind fun r13=>(match r13 with| .inl x14=>some x14| .inr _=>none) else none) else none) else some s.2.2) else none) else none) else some s.2.2) else some s.2.2)) else (bif decide (s.1=6) then (bif r0.1 then (bif Ea s.2.1 (List.length s.2.2.2.1) then (bif Ea s.2.1 (List.length s.2.2.2.2.1) then (bif Ba .bool s.2.2.2.2.1 (Int.toNat s.2.1) then (bif Ea ((Ba .lk s.2.2.2.1 (Int.toNat s.2.1)).a) (List.length s.2.2.2.2.2.2.1) then (bif Ea ((Ba .lk s.2.2.2.1 (Int.toNat s.2.1)).b) (List.length s.2.2.2.2.2.2.1) then (Ge (Ba .db s.2.2.2.2.2.2.1 (Int.toNat ((Ba .lk s.2.2.2.1 (Int.toNat s.2.1)).a)),Ba .db s.2.2.2.2.2.2.1 (Int.toNat ((Ba .lk s.2.2.2.1 (Int.toNat s.2.1)).b)),())).bind fun r15=>(Ee (s.2.2.1,s.2.2.2.1,s.2.2.2.2.1,s.2.2.2.2.2.1,s.2.2.2.2.2.2.1,(Ba .lk s.2.2.2.1 (Int.toNat s.2.1)).a,(Ba .lk s.2.2.2.1 (Int.toNat s.2.1)).b,(Ba .lk s.2.2.2.1 (Int.toNat s.2.1)).c,r15.1,s.2.2.2.2.2.2.2)).bind fun r16=>(match r16 with| .inl x17=>some x17| .inr _=>none) else none) else none) else some s.2.2) else none) else none) else some s.2.2) else some s.2.2))) else (bif decide (s.1=5) then (bif r1.1 then (bif decide (nI (List.length s.2.2.2.2.2.2.2.1)<16) then (Dh (s.2.2.1,s.2.2.2.1,s.2.2.2.2.1,s.2.2.2.2.2.1,s.2.2.2.2.2.2.1,s.1,s.2.1,s.2.2.2.2.2.2.2)).bind fun r18=>(match r18 with| .inl x19=>some x19| .inr _=>none) else some s.2.2) else (bif decide (s.1=6) then (bif r0.1 then (bif Ea s.2.1 (List.length s.2.2.2.1) then (bif Ea s.2.1 (List.length s.2.2.2.2.1) then (bif Ba .bool s.2.2.2.2.1 (Int.toNat s.2.1) then (bif Ea ((Ba .lk s.2.2.2.1 (Int.toNat s.2.1)).a) (List.length s.2.2.2.2.2.2.1) then (bif Ea ((Ba .lk s.2.2.2.1 (Int.toNat s.2.1)).b) (List.length s.2.2.2.2.2.2.1) then (Ge (Ba .db s.2.2.2.2.2.2.1 (Int.toNat ((Ba .lk s.2.2.2.1 (Int.toNat s.2.1)).a)),Ba .db s.2.2.2.2.2.2.1 (Int.toNat ((Ba .lk s.2.2.2.1 (Int.toNat s.2.1)).b)),())).bind fun r20=>(Ee (s.2.2.1,s.2.2.2.1,s.2.2.2.2.1,s.2.2.2.2.2.1,s.2.2.2.2.2.2.1,(Ba .lk s.2.2.2.1 (Int.toNat s.2.1)).a,(Ba .lk s.2.2.2.1 (Int.toNat s.2.1)).b,(Ba .lk s.2.2.2.1 (Int.toNat s.2.1)).c,r20.1,s.2.2.2.2.2.2.2)).bind fun r21=>(match r21 with| .inl x22=>some x22| .inr _=>none) else none) else none) else some s.2.2) else none) else none) else some s.2.2) else some s.2.2)) else (bif decide (s.1=6) then (bif r0.1 then (bif Ea s.2.1 (List.length s.2.2.2.1) then (bif Ea s.2.1 (List.length s.2.2.2.2.1) then (bif Ba .bool s.2.2.2.2.1 (Int.toNat s.2.1) then (bif Ea ((Ba .lk s.2.2.2.1 (Int.toNat s.2.1)).a) (List.length s.2.2.2.2.2.2.1) then (bif Ea ((Ba .lk s.2.2.2.1 (Int.toNat s.2.1)).b) (List.length s.2.2.2.2.2.2.1) then (Ge (Ba .db s.2.2.2.2.2.2.1 (Int.toNat ((Ba .lk s.2.2.2.1 (Int.toNat s.2.1)).a)),Ba .db s.2.2.2.2.2.2.1 (Int.toNat ((Ba .lk s.2.2.2.1 (Int.toNat s.2.1)).b)),())).bind fun r23=>(Ee (s.2.2.1,s.2.2.2.1,s.2.2.2.2.1,s.2.2.2.2.2.1,s.2.2.2.2.2.2.1,(Ba .lk s.2.2.2.1 (Int.toNat s.2.1)).a,(Ba .lk s.2.2.2.1 (Int.toNat s.2.1)).b,(Ba .lk s.2.2.2.1 (Int.toNat s.2.1)).c,r23.1,s.2.2.2.2.2.2.2)).bind fun r24=>(match r24 with| .inl x25=>some x25| .inr _=>none) else none) else none) else some s.2.2) else none) else none) else some s.2.2) else some s.2.2)))) else (bif decide (s.1=4) then (bif r1.1 then (Jl (s.2.2.1,s.2.2.2.1,s.2.2.2.2.1,s.2.2.2.2.2.1,s.2.2.2.2.2.2.1,s.1,s.2.1,s.2.2.2.2.2.2.2)).bind fun r26=>(match r26 with| .inl x27=>some x27| .inr _=>none) else (bif decide (s.1=5) then (bif r1.1 then (bif decide (nI (List.length s.2.2.2.2.2.2.2.1)<16) then (Dh (s.2.2.1,s.2.2.2.1,s.2.2.2.2.1,s.2.2.2.2.2.1,s.2.2.2.2.2.2.1,s.1,s.2.1,s.2.2.2.2.2.2.2)).bind fun r28=>(match r28 with| .inl x29=>some x29| .inr _=>none) else some s.2.2) else (bif decide (s.1=6) then (bif r0.1 then (bif Ea s.2.1 (List.length s.2.2.2.1) then (bif Ea s.2.1 (List.length s.2.2.2.2.1) then (bif Ba .bool s.2.2.2.2.1 (Int.toNat s.2.1) then (bif Ea ((Ba .lk s.2.2.2.1 (Int.toNat s.2.1)).a) (List.length s.2.2.2.2.2.2.1) then (bif Ea ((Ba .lk s.2.2.2.1 (Int.toNat s.2.1)).b) (List.length s.2.2.2.2.2.2.1) then (Ge (Ba .db s.2.2.2.2.2.2.1 (Int.toNat ((Ba .lk s.2.2.2.1 (Int.toNat s.2.1)).a)),Ba .db s.2.2.2.2.2.2.1 (Int.toNat ((Ba .lk s.2.2.2.1 (Int.toNat s.2.1)).b)),())).bind fun r30=>(Ee (s.2.2.1,s.2.2.2.1,s.2.2.2.2.1,s.2.2.2.2.2.1,s.2.2.2.2.2.2.1,(Ba .lk s.2.2.2.1 (Int.toNat s.2.1)).a,(Ba .lk s.2.2.2.1 (Int.toNat s.2.1)).b,(Ba .lk s.2.2.2.1 (Int.toNat s.2.1)).c,r30.1,s.2.2.2.2.2.2.2)).bind fun r31=>(match r31 with| .inl x32=>some x32| .inr _=>none) else none) else none) else some s.2.2) else none) else none) else some s.2.2) else some s.2.2)) else (bif decide (s.1=6) then (bif r0.1 then (bif Ea s.2.1 (List.length s.2.2.2.1) then (bif Ea s.2.1 (List.length s.2.2.2.2.1) then (bif Ba .bool s.2.2.2.2.1 (Int.toNat s.2.1) then (bif Ea ((Ba .lk s.2.2.2.1 (Int.toNat s.2.1)).a) (List.length s.2.2.2.2.2.2.1) then (bif Ea ((Ba .lk s.2.2.2.1 (Int.toNat s.2.1)).b) (List.length s.2.2.2.2.2.2.1) then (Ge (Ba .db s.2.2.2.2.2.2.1 (Int.toNat ((Ba .lk s.2.2.2.1 (Int.toNat s.2.1)).a)),Ba .db s.2.2.2.2.2.2.1 (Int.toNat ((Ba .lk s.2.2.2.1 (Int.toNat s.2.1)).b)),())).bind fun r33=>(Ee (s.2.2.1,s.2.2.2.1,s.2.2.2.2.1,s.2.2.2.2.2.1,s.2.2.2.2.2.2.1,(Ba .lk s.2.2.2.1 (Int.toNat s.2.1)).a,(Ba .lk s.2.2.2.1 (Int.toNat s.2.1)).b,(Ba .lk s.2.2.2.1 (Int.toNat s.2.1)).c,r33.1,s.2.2.2.2.2.2.2)).bind fun r34=>(match r34 with| .inl x35=>some x35| .inr _=>none) else none) else none) else some s.2.2) else none) else none) else some s.2.2) else some s.2.2))) else (bif decide (s.1=5) then (bif r1.1 then (bif decide (nI (List.length s.2.2.2.2.2.2.2.1)<16) then (Dh (s.2.2.1,s.2.2.2.1,s.2.2.2.2.1,s.2.2.2.2.2.1,s.2.2.2.2.2.2.1,s.1,s.2.1,s.2.2.2.2.2.2.2)).bind fun r36=>(match r36 with| .inl x37=>some x37| .inr _=>none) else some s.2.2) else (bif decide (s.1=6) then (bif r0.1 then (bif Ea s.2.1 (List.length s.2.2.2.1) then (bif Ea s.2.1 (List.length s.2.2.2.2.1) then (bif Ba .bool s.2.2.2.2.1 (Int.toNat s.2.1) then (bif Ea ((Ba .lk s.2.2.2.1 (Int.toNat s.2.1)).a) (List.length s.2.2.2.2.2.2.1) then (bif Ea ((Ba .lk s.2.2.2.1 (Int.toNat s.2.1)).b) (List.length s.2.2.2.2.2.2.1) then (Ge (Ba .db s.2.2.2.2.2.2.1 (Int.toNat ((Ba .lk s.2.2.2.1 (Int.toNat s.2.1)).a)),Ba .db s.2.2.2.2.2.2.1 (Int.toNat ((Ba .lk s.2.2.2.1 (Int.toNat s.2.1)).b)),())).bind fun r38=>(Ee (s.2.2.1,s.2.2.2.1,s.2.2.2.2.1,s.2.2.2.2.2.1,s.2.2.2.2.2.2.1,(Ba .lk s.2.2.2.1 (Int.toNat s.2.1)).a,(Ba .lk s.2.2.2.1 (Int.toNat s.2.1)).b,(Ba .lk s.2.2.2.1 (Int.toNat s.2.1)).c,r38.1,s.2.2.2.2.2.2.2)).bind fun r39=>(match r39 with| .inl x40=>some x40| .inr _=>none) else none) else none) else some s.2.2) else none) else none) else some s.2.2) else some s.2.2)) else (bif decide (s.1=6) then (bif r0.1 then (bif Ea s.2.1 (List.length s.2.2.2.1) then (bif Ea s.2.1 (List.length s.2.2.2.2.1) then (bif Ba .bool s.2.2.2.2.1 (Int.toNat s.2.1) then (bif Ea ((Ba .lk s.2.2.2.1 (Int.toNat s.2.1)).a) (List.length s.2.2.2.2.2.2.1) then (bif Ea ((Ba .lk s.2.2.2.1 (Int.toNat s.2.1)).b) (List.length s.2.2.2.2.2.2.1) then (Ge (Ba .db s.2.2.2.2.2.2.1 (Int.toNat ((Ba .lk s.2.2.2.1 (Int.toNat s.2.1)).a)),Ba .db s.2.2.2.2.2.2.1 (Int.toNat ((Ba .lk s.2.2.2.1 (Int.toNat s.2.1)).b)),())).bind fun r41=>(Ee (s.2.2.1,s.2.2.2.1,s.2.2.2.2.1,s.2.2.2.2.2.1,s.2.2.2.2.2.2.1,(Ba .lk s.2.2.2.1 (Int.toNat s.2.1)).a,(Ba .lk s.2.2.2.1 (Int.toNat s.2.1)).b,(Ba .lk s.2.2.2.1 (Int.toNat s.2.1)).c,r41.1,s.2.2.2.2.2.2.2)).bind fun r42=>(match r42 with| .inl x43=>some x43| .inr _=>none) else none) else none) else some s.2.2) else none) else none) else some s.2.2) else some s.2.2))))) else (bif decide (s.1=2) then (bif r0.1 then (bif Ea s.2.1 (List.length s.2.2.2.1) then (bif Ea s.2.1 (List.length s.2.2.2.2.1) then (bif (!(Ba .bool s.2.2.2.2.1 (Int.toNat s.2.1)==decide (s.1=2))) then (bif Ea ((Ba .lk s.2.2.2.1 (Int.toNat s.2.1)).a) (List.length s.2.2.2.2.2.1) then (bif decide (Ba .int s.2.2.2.2.2.1 (Int.toNat ((Ba .lk s.2.2.2.1 (Int.toNat s.2.1)).a))<(99:Int)) then (bif Ea ((Ba .lk s.2.2.2.1 (Int.toNat s.2.1)).b) (List.length s.2.2.2.2.2.1) then (bif decide (Ba .int s.2.2.2.2.2.1 (Int.toNat ((Ba .lk s.2.2.2.1 (Int.toNat s.2.1)).b))<(99:Int)) then (bif Ea s.2.1 (List.length s.2.2.2.2.1) then (Il ((Ba .lk s.2.2.2.1 (Int.toNat s.2.1)).a,s.2.2.1,s.2.2.2.1,List.set s.2.2.2.2.1 (Int.toNat s.2.1) (decide (s.1=2)),s.2.2.2.2.2)).bind fun r44=>(Il ((Ba .lk s.2.2.2.1 (Int.toNat s.2.1)).b,r44)).bind fun r45=>some r45 else none) else some s.2.2) else none) else some s.2.2) else none) else some s.2.2) else none) else none) else (bif decide (s.1=3) then (bif r1.1 then (bif Ea s.2.1 (List.length s.2.2.2.2.2.2.2.1) then (Qq (s.2.2.1,s.2.2.2.1,s.2.2.2.2.1,s.2.2.2.2.2.1,s.2.2.2.2.2.2.1,s.1,s.2.1,(Ba .pk s.2.2.2.2.2.2.2.1 (Int.toNat s.2.1)).t,((Ba .pk s.2.2.2.2.2.2.2.1 (Int.toNat s.2.1)).p).o,((Ba .pk s.2.2.2.2.2.2.2.1 (Int.toNat s.2.1)).p).s,((Ba .pk s.2.2.2.2.2.2.2.1 (Int.toNat s.2.1)).p).e,s.2.2.2.2.2.2.2)).bind fun r46=>(match r46 with| .inl x47=>(bif Ea x47.2.2.2.2.2.1 (List.length x47.2.2.2.2.1) then (Wo (Ba .db x47.2.2.2.2.1 (Int.toNat x47.2.2.2.2.2.1),x47.2.2.2.2.2.2.1,x47.2.2.2.2.2.2.2.1,x47.2.2.2.2.2.2.2.2.1,())).bind fun r48=>(bif Ea x47.2.2.2.2.2.1 (List.length x47.2.2.2.2.1) then (bif decide (r48.1=0) then (Oq (x47.2.2.2.2.2.1,x47.2.2.2.2.2.2.1,x47.2.2.2.2.2.2.2.1,x47.2.2.2.2.2.2.2.2.1,x47.2.2.2.2.2.2.1,x47.1,x47.2.1,x47.2.2.1,x47.2.2.2.1,List.set x47.2.2.2.2.1 (Int.toNat x47.2.2.2.2.2.1) r48.2.1,x47.2.2.2.2.2.2.2.2.2)).bind fun r49=>some r49 else some (x47.1,x47.2.1,x47.2.2.1,x47.2.2.2.1,List.set x47.2.2.2.2.1 (Int.toNat x47.2.2.2.2.2.1) r48.2.1,x47.2.2.2.2.2.2.2.2.2)) else none) else none)| .inr _=>none) else none) else (bif decide (s.1=4) then (bif r1.1 then (Jl (s.2.2.1,s.2.2.2.1,s.2.2.2.2.1,s.2.2.2.2.2.1,s.2.2.2.2.2.2.1,s.1,s.2.1,s.2.2.2.2.2.2.2)).bind fun r50=>(match r50 with| .inl x51=>some x51| .inr _=>none) else (bif decide (s.1=5) then (bif r1.1 then (bif decide (nI (List.length s.2.2.2.2.2.2.2.1)<16) then (Dh (s.2.2.1,s.2.2.2.1,s.2.2.2.2.1,s.2.2.2.2.2.1,s.2.2.2.2.2.2.1,s.1,s.2.1,s.2.2.2.2.2.2.2)).bind fun r52=>(match r52 with| .inl x53=>some x53| .inr _=>none) else some s.2.2) else (bif decide (s.1=6) then (bif r0.1 then (bif Ea s.2.1 (List.length s.2.2.2.1) then (bif Ea s.2.1 (List.length s.2.2.2.2.1) then (bif Ba .bool s.2.2.2.2.1 (Int.toNat s.2.1) then (bif Ea ((Ba .lk s.2.2.2.1 (Int.toNat s.2.1)).a) (List.length s.2.2.2.2.2.2.1) then (bif Ea ((Ba .lk s.2.2.2.1 (Int.toNat s.2.1)).b) (List.length s.2.2.2.2.2.2.1) then (Ge (Ba .db s.2.2.2.2.2.2.1 (Int.toNat ((Ba .lk s.2.2.2.1 (Int.toNat s.2.1)).a)),Ba .db s.2.2.2.2.2.2.1 (Int.toNat ((Ba .lk s.2.2.2.1 (Int.toNat s.2.1)).b)),())).bind fun r54=>(Ee (s.2.2.1,s.2.2.2.1,s.2.2.2.2.1,s.2.2.2.2.2.1,s.2.2.2.2.2.2.1,(Ba .lk s.2.2.2.1 (Int.toNat s.2.1)).a,(Ba .lk s.2.2.2.1 (Int.toNat s.2.1)).b,(Ba .lk s.2.2.2.1 (Int.toNat s.2.1)).c,r54.1,s.2.2.2.2.2.2.2)).bind fun r55=>(match r55 with| .inl x56=>some x56| .inr _=>none) else none) else none) else some s.2.2) else none) else none) else some s.2.2) else some s.2.2)) else (bif decide (s.1=6) then (bif r0.1 then (bif Ea s.2.1 (List.length s.2.2.2.1) then (bif Ea s.2.1 (List.length s.2.2.2.2.1) then (bif Ba .bool s.2.2.2.2.1 (Int.toNat s.2.1) then (bif Ea ((Ba .lk s.2.2.2.1 (Int.toNat s.2.1)).a) (List.length s.2.2.2.2.2.2.1) then (bif Ea ((Ba .lk s.2.2.2.1 (Int.toNat s.2.1)).b) (List.length s.2.2.2.2.2.2.1) then (Ge (Ba .db s.2.2.2.2.2.2.1 (Int.toNat ((Ba .lk s.2.2.2.1 (Int.toNat s.2.1)).a)),Ba .db s.2.2.2.2.2.2.1 (Int.toNat ((Ba .lk s.2.2.2.1 (Int.toNat s.2.1)).b)),())).bind fun r57=>(Ee (s.2.2.1,s.2.2.2.1,s.2.2.2.2.1,s.2.2.2.2.2.1,s.2.2.2.2.2.2.1,(Ba .lk s.2.2.2.1 (Int.toNat s.2.1)).a,(Ba .lk s.2.2.2.1 (Int.toNat s.2.1)).b,(Ba .lk s.2.2.2.1 (Int.toNat s.2.1)).c,r57.1,s.2.2.2.2.2.2.2)).bind fun r58=>(match r58 with| .inl x59=>some x59| .inr _=>none) else none) else none) else some s.2.2) else none) else none) else some s.2.2) else some s.2.2))) else (bif decide (s.1=5) then (bif r1.1 then (bif decide (nI (List.length s.2.2.2.2.2.2.2.1)<16) then (Dh (s.2.2.1,s.2.2.2.1,s.2.2.2.2.1,s.2.2.2.2.2.1,s.2.2.2.2.2.2.1,s.1,s.2.1,s.2.2.2.2.2.2.2)).bind fun r60=>(match r60 with| .inl x61=>some x61| .inr _=>none) else some s.2.2) else (bif decide (s.1=6) then (bif r0.1 then (bif Ea s.2.1 (List.length s.2.2.2.1) then (bif Ea s.2.1 (List.length s.2.2.2.2.1) then (bif Ba .bool s.2.2.2.2.1 (Int.toNat s.2.1) then (bif Ea ((Ba .lk s.2.2.2.1 (Int.toNat s.2.1)).a) (List.length s.2.2.2.2.2.2.1) then (bif Ea ((Ba .lk s.2.2.2.1 (Int.toNat s.2.1)).b) (List.length s.2.2.2.2.2.2.1) then (Ge (Ba .db s.2.2.2.2.2.2.1 (Int.toNat ((Ba .lk s.2.2.2.1 (Int.toNat s.2.1)).a)),Ba .db s.2.2.2.2.2.2.1 (Int.toNat ((Ba .lk s.2.2.2.1 (Int.toNat s.2.1)).b)),())).bind fun r62=>(Ee (s.2.2.1,s.2.2.2.1,s.2.2.2.2.1,s.2.2.2.2.2.1,s.2.2.2.2.2.2.1,(Ba .lk s.2.2.2.1 (Int.toNat s.2.1)).a,(Ba .lk s.2.2.2.1 (Int.toNat s.2.1)).b,(Ba .lk s.2.2.2.1 (Int.toNat s.2.1)).c,r62.1,s.2.2.2.2.2.2.2)).bind fun r63=>(match r63 with| .inl x64=>some x64| .inr _=>none) else none) else none) else some s.2.2) else none) else none) else some s.2.2) else some s.2.2)) else (bif decide (s.1=6) then (bif r0.1 then (bif Ea s.2.1 (List.length s.2.2.2.1) then (bif Ea s.2.1 (List.length s.2.2.2.2.1) then (bif Ba .bool s.2.2.2.2.1 (Int.toNat s.2.1) then (bif Ea ((Ba .lk s.2.2.2.1 (Int.toNat s.2.1)).a) (List.length s.2.2.2.2.2.2.1) then (bif Ea ((Ba .lk s.2.2.2.1 (Int.toNat s.2.1)).b) (List.length s.2.2.2.2.2.2.1) then (Ge (Ba .db s.2.2.2.2.2.2.1 (Int.toNat ((Ba .lk s.2.2.2.1 (Int.toNat s.2.1)).a)),Ba .db s.2.2.2.2.2.2.1 (Int.toNat ((Ba .lk s.2.2.2.1 (Int.toNat s.2.1)).b)),())).bind fun r65=>(Ee (s.2.2.1,s.2.2.2.1,s.2.2.2.2.1,s.2.2.2.2.2.1,s.2.2.2.2.2.2.1,(Ba .lk s.2.2.2.1 (Int.toNat s.2.1)).a,(Ba .lk s.2.2.2.1 (Int.toNat s.2.1)).b,(Ba .lk s.2.2.2.1 (Int.toNat s.2.1)).c,r65.1,s.2.2.2.2.2.2.2)).bind fun r66=>(match r66 with| .inl x67=>some x67| .inr _=>none) else none) else none) else some s.2.2) else none) else none) else some s.2.2) else some s.2.2)))) else (bif decide (s.1=4) then (bif r1.1 then (Jl (s.2.2.1,s.2.2.2.1,s.2.2.2.2.1,s.2.2.2.2.2.1,s.2.2.2.2.2.2.1,s.1,s.2.1,s.2.2.2.2.2.2.2)).bind fun r68=>(match r68 with| .inl x69=>some x69| .inr _=>none) else (bif decide (s.1=5) then (bif r1.1 then (bif decide (nI (List.length s.2.2.2.2.2.2.2.1)<16) then (Dh (s.2.2.1,s.2.2.2.1,s.2.2.2.2.1,s.2.2.2.2.2.1,s.2.2.2.2.2.2.1,s.1,s.2.1,s.2.2.2.2.2.2.2)).bind fun r70=>(match r70 with| .inl x71=>some x71| .inr _=>none) else some s.2.2) else (bif decide (s.1=6) then (bif r0.1 then (bif Ea s.2.1 (List.length s.2.2.2.1) then (bif Ea s.2.1 (List.length s.2.2.2.2.1) then (bif Ba .bool s.2.2.2.2.1 (Int.toNat s.2.1) then (bif Ea ((Ba .lk s.2.2.2.1 (Int.toNat s.2.1)).a) (List.length s.2.2.2.2.2.2.1) then (bif Ea ((Ba .lk s.2.2.2.1 (Int.toNat s.2.1)).b) (List.length s.2.2.2.2.2.2.1) then (Ge (Ba .db s.2.2.2.2.2.2.1 (Int.toNat ((Ba .lk s.2.2.2.1 (Int.toNat s.2.1)).a)),Ba .db s.2.2.2.2.2.2.1 (Int.toNat ((Ba .lk s.2.2.2.1 (Int.toNat s.2.1)).b)),())).bind fun r72=>(Ee (s.2.2.1,s.2.2.2.1,s.2.2.2.2.1,s.2.2.2.2.2.1,s.2.2.2.2.2.2.1,(Ba .lk s.2.2.2.1 (Int.toNat s.2.1)).a,(Ba .lk s.2.2.2.1 (Int.toNat s.2.1)).b,(Ba .lk s.2.2.2.1 (Int.toNat s.2.1)).c,r72.1,s.2.2.2.2.2.2.2)).bind fun r73=>(match r73 with| .inl x74=>some x74| .inr _=>none) else none) else none) else some s.2.2) else none) else none) else some s.2.2) else some s.2.2)) else (bif decide (s.1=6) then (bif r0.1 then (bif Ea s.2.1 (List.length s.2.2.2.1) then (bif Ea s.2.1 (List.length s.2.2.2.2.1) then (bif Ba .bool s.2.2.2.2.1 (Int.toNat s.2.1) then (bif Ea ((Ba .lk s.2.2.2.1 (Int.toNat s.2.1)).a) (List.length s.2.2.2.2.2.2.1) then (bif Ea ((Ba .lk s.2.2.2.1 (Int.toNat s.2.1)).b) (List.length s.2.2.2.2.2.2.1) then (Ge (Ba .db s.2.2.2.2.2.2.1 (Int.toNat ((Ba .lk s.2.2.2.1 (Int.toNat s.2.1)).a)),Ba .db s.2.2.2.2.2.2.1 (Int.toNat ((Ba .lk s.2.2.2.1 (Int.toNat s.2.1)).b)),())).bind fun r75=>(Ee (s.2.2.1,s.2.2.2.1,s.2.2.2.2.1,s.2.2.2.2.2.1,s.2.2.2.2.2.2.1,(Ba .lk s.2.2.2.1 (Int.toNat s.2.1)).a,(Ba .lk s.2.2.2.1 (Int.toNat s.2.1)).b,(Ba .lk s.2.2.2.1 (Int.toNat s.2.1)).c,r75.1,s.2.2.2.2.2.2.2)).bind fun r76=>(match r76 with| .inl x77=>some x77| .inr _=>none) else none) else none) else some s.2.2) else none) else none) else some s.2.2) else some s.2.2))) else (bif decide (s.1=5) then (bif r1.1 then (bif decide (nI (List.length s.2.2.2.2.2.2.2.1)<16) then (Dh (s.2.2.1,s.2.2.2.1,s.2.2.2.2.1,s.2.2.2.2.2.1,s.2.2.2.2.2.2.1,s.1,s.2.1,s.2.2.2.2.2.2.2)).bind fun r78=>(match r78 with| .inl x79=>some x79| .inr _=>none) else some s.2.2) else (bif decide (s.1=6) then (bif r0.1 then (bif Ea s.2.1 (List.length s.2.2.2.1) then (bif Ea s.2.1 (List.length s.2.2.2.2.1) then (bif Ba .bool s.2.2.2.2.1 (Int.toNat s.2.1) then (bif Ea ((Ba .lk s.2.2.2.1 (Int.toNat s.2.1)).a) (List.length s.2.2.2.2.2.2.1) then (bif Ea ((Ba .lk s.2.2.2.1 (Int.toNat s.2.1)).b) (List.length s.2.2.2.2.2.2.1) then (Ge (Ba .db s.2.2.2.2.2.2.1 (Int.toNat ((Ba .lk s.2.2.2.1 (Int.toNat s.2.1)).a)),Ba .db s.2.2.2.2.2.2.1 (Int.toNat ((Ba .lk s.2.2.2.1 (Int.toNat s.2.1)).b)),())).bind fun r80=>(Ee (s.2.2.1,s.2.2.2.1,s.2.2.2.2.1,s.2.2.2.2.2.1,s.2.2.2.2.2.2.1,(Ba .lk s.2.2.2.1 (Int.toNat s.2.1)).a,(Ba .lk s.2.2.2.1 (Int.toNat s.2.1)).b,(Ba .lk s.2.2.2.1 (Int.toNat s.2.1)).c,r80.1,s.2.2.2.2.2.2.2)).bind fun r81=>(match r81 with| .inl x82=>some x82| .inr _=>none) else none) else none) else some s.2.2) else none) else none) else some s.2.2) else some s.2.2)) else (bif decide (s.1=6) then (bif r0.1 then (bif Ea s.2.1 (List.length s.2.2.2.1) then (bif Ea s.2.1 (List.length s.2.2.2.2.1) then (bif Ba .bool s.2.2.2.2.1 (Int.toNat s.2.1) then (bif Ea ((Ba .lk s.2.2.2.1 (Int.toNat s.2.1)).a) (List.length s.2.2.2.2.2.2.1) then (bif Ea ((Ba .lk s.2.2.2.1 (Int.toNat s.2.1)).b) (List.length s.2.2.2.2.2.2.1) then (Ge (Ba .db s.2.2.2.2.2.2.1 (Int.toNat ((Ba .lk s.2.2.2.1 (Int.toNat s.2.1)).a)),Ba .db s.2.2.2.2.2.2.1 (Int.toNat ((Ba .lk s.2.2.2.1 (Int.toNat s.2.1)).b)),())).bind fun r83=>(Ee (s.2.2.1,s.2.2.2.1,s.2.2.2.2.1,s.2.2.2.2.2.1,s.2.2.2.2.2.2.1,(Ba .lk s.2.2.2.1 (Int.toNat s.2.1)).a,(Ba .lk s.2.2.2.1 (Int.toNat s.2.1)).b,(Ba .lk s.2.2.2.1 (Int.toNat s.2.1)).c,r83.1,s.2.2.2.2.2.2.2)).bind fun r84=>(match r84 with| .inl x85=>some x85| .inr _=>none) else none) else none) else some s.2.2) else none) else none) else some s.2.2) else some s.2.2))))) else (bif decide (s.1=3) then (bif r1.1 then (bif Ea s.2.1 (List.length s.2.2.2.2.2.2.2.1) then (Qq (s.2.2.1,s.2.2.2.1,s.2.2.2.2.1,s.2.2.2.2.2.1,s.2.2.2.2.2.2.1,s.1,s.2.1,(Ba .pk s.2.2.2.2.2.2.2.1 (Int.toNat s.2.1)).t,((Ba .pk s.2.2.2.2.2.2.2.1 (Int.toNat s.2.1)).p).o,((Ba .pk s.2.2.2.2.2.2.2.1 (Int.toNat s.2.1)).p).s,((Ba .pk s.2.2.2.2.2.2.2.1 (Int.toNat s.2.1)).p).e,s.2.2.2.2.2.2.2)).bind fun r86=>(match r86 with| .inl x87=>(bif Ea x87.2.2.2.2.2.1 (List.length x87.2.2.2.2.1) then (Wo (Ba .db x87.2.2.2.2.1 (Int.toNat x87.2.2.2.2.2.1),x87.2.2.2.2.2.2.1,x87.2.2.2.2.2.2.2.1,x87.2.2.2.2.2.2.2.2.1,())).bind fun r88=>(bif Ea x87.2.2.2.2.2.1 (List.length x87.2.2.2.2.1) then (bif decide (r88.1=0) then (Oq (x87.2.2.2.2.2.1,x87.2.2.2.2.2.2.1,x87.2.2.2.2.2.2.2.1,x87.2.2.2.2.2.2.2.2.1,x87.2.2.2.2.2.2.1,x87.1,x87.2.1,x87.2.2.1,x87.2.2.2.1,List.set x87.2.2.2.2.1 (Int.toNat x87.2.2.2.2.2.1) r88.2.1,x87.2.2.2.2.2.2.2.2.2)).bind fun r89=>some r89 else some (x87.1,x87.2.1,x87.2.2.1,x87.2.2.2.1,List.set x87.2.2.2.2.1 (Int.toNat x87.2.2.2.2.2.1) r88.2.1,x87.2.2.2.2.2.2.2.2.2)) else none) else none)| .inr _=>none) else none) else (bif decide (s.1=4) then (bif r1.1 then (Jl (s.2.2.1,s.2.2.2.1,s.2.2.2.2.1,s.2.2.2.2.2.1,s.2.2.2.2.2.2.1,s.1,s.2.1,s.2.2.2.2.2.2.2)).bind fun r90=>(match r90 with| .inl x91=>some x91| .inr _=>none) else (bif decide (s.1=5) then (bif r1.1 then (bif decide (nI (List.length s.2.2.2.2.2.2.2.1)<16) then (Dh (s.2.2.1,s.2.2.2.1,s.2.2.2.2.1,s.2.2.2.2.2.1,s.2.2.2.2.2.2.1,s.1,s.2.1,s.2.2.2.2.2.2.2)).bind fun r92=>(match r92 with| .inl x93=>some x93| .inr _=>none) else some s.2.2) else (bif decide (s.1=6) then (bif r0.1 then (bif Ea s.2.1 (List.length s.2.2.2.1) then (bif Ea s.2.1 (List.length s.2.2.2.2.1) then (bif Ba .bool s.2.2.2.2.1 (Int.toNat s.2.1) then (bif Ea ((Ba .lk s.2.2.2.1 (Int.toNat s.2.1)).a) (List.length s.2.2.2.2.2.2.1) then (bif Ea ((Ba .lk s.2.2.2.1 (Int.toNat s.2.1)).b) (List.length s.2.2.2.2.2.2.1) then (Ge (Ba .db s.2.2.2.2.2.2.1 (Int.toNat ((Ba .lk s.2.2.2.1 (Int.toNat s.2.1)).a)),Ba .db s.2.2.2.2.2.2.1 (Int.toNat ((Ba .lk s.2.2.2.1 (Int.toNat s.2.1)).b)),())).bind fun r94=>(Ee (s.2.2.1,s.2.2.2.1,s.2.2.2.2.1,s.2.2.2.2.2.1,s.2.2.2.2.2.2.1,(Ba .lk s.2.2.2.1 (Int.toNat s.2.1)).a,(Ba .lk s.2.2.2.1 (Int.toNat s.2.1)).b,(Ba .lk s.2.2.2.1 (Int.toNat s.2.1)).c,r94.1,s.2.2.2.2.2.2.2)).bind fun r95=>(match r95 with| .inl x96=>some x96| .inr _=>none) else none) else none) else some s.2.2) else none) else none) else some s.2.2) else some s.2.2)) else (bif decide (s.1=6) then (bif r0.1 then (bif Ea s.2.1 (List.length s.2.2.2.1) then (bif Ea s.2.1 (List.length s.2.2.2.2.1) then (bif Ba .bool s.2.2.2.2.1 (Int.toNat s.2.1) then (bif Ea ((Ba .lk s.2.2.2.1 (Int.toNat s.2.1)).a) (List.length s.2.2.2.2.2.2.1) then (bif Ea ((Ba .lk s.2.2.2.1 (Int.toNat s.2.1)).b) (List.length s.2.2.2.2.2.2.1) then (Ge (Ba .db s.2.2.2.2.2.2.1 (Int.toNat ((Ba .lk s.2.2.2.1 (Int.toNat s.2.1)).a)),Ba .db s.2.2.2.2.2.2.1 (Int.toNat ((Ba .lk s.2.2.2.1 (Int.toNat s.2.1)).b)),())).bind fun r97=>(Ee (s.2.2.1,s.2.2.2.1,s.2.2.2.2.1,s.2.2.2.2.2.1,s.2.2.2.2.2.2.1,(Ba .lk s.2.2.2.1 (Int.toNat s.2.1)).a,(Ba .lk s.2.2.2.1 (Int.toNat s.2.1)).b,(Ba .lk s.2.2.2.1 (Int.toNat s.2.1)).c,r97.1,s.2.2.2.2.2.2.2)).bind fun r98=>(match r98 with| .inl x99=>some x99| .inr _=>none) else none) else none) else some s.2.2) else none) else none) else some s.2.2) else some s.2.2))) else (bif decide (s.1=5) then (bif r1.1 then (bif decide (nI (List.length s.2.2.2.2.2.2.2.1)<16) then (Dh (s.2.2.1,s.2.2.2.1,s.2.2.2.2.1,s.2.2.2.2.2.1,s.2.2.2.2.2.2.1,s.1,s.2.1,s.2.2.2.2.2.2.2)).bind fun r100=>(match r100 with| .inl x101=>some x101| .inr _=>none) else some s.2.2) else (bif decide (s.1=6) then (bif r0.1 then (bif Ea s.2.1 (List.length s.2.2.2.1) then (bif Ea s.2.1 (List.length s.2.2.2.2.1) then (bif Ba .bool s.2.2.2.2.1 (Int.toNat s.2.1) then (bif Ea ((Ba .lk s.2.2.2.1 (Int.toNat s.2.1)).a) (List.length s.2.2.2.2.2.2.1) then (bif Ea ((Ba .lk s.2.2.2.1 (Int.toNat s.2.1)).b) (List.length s.2.2.2.2.2.2.1) then (Ge (Ba .db s.2.2.2.2.2.2.1 (Int.toNat ((Ba .lk s.2.2.2.1 (Int.toNat s.2.1)).a)),Ba .db s.2.2.2.2.2.2.1 (Int.toNat ((Ba .lk s.2.2.2.1 (Int.toNat s.2.1)).b)),())).bind fun r102=>(Ee (s.2.2.1,s.2.2.2.1,s.2.2.2.2.1,s.2.2.2.2.2.1,s.2.2.2.2.2.2.1,(Ba .lk s.2.2.2.1 (Int.toNat s.2.1)).a,(Ba .lk s.2.2.2.1 (Int.toNat s.2.1)).b,(Ba .lk s.2.2.2.1 (Int.toNat s.2.1)).c,r102.1,s.2.2.2.2.2.2.2)).bind fun r103=>(match r103 with| .inl x104=>some x104| .inr _=>none) else none) else none) else some s.2.2) else none) else none) else some s.2.2) else some s.2.2)) else (bif decide (s.1=6) then (bif r0.1 then (bif Ea s.2.1 (List.length s.2.2.2.1) then (bif Ea s.2.1 (List.length s.2.2.2.2.1) then (bif Ba .bool s.2.2.2.2.1 (Int.toNat s.2.1) then (bif Ea ((Ba .lk s.2.2.2.1 (Int.toNat s.2.1)).a) (List.length s.2.2.2.2.2.2.1) then (bif Ea ((Ba .lk s.2.2.2.1 (Int.toNat s.2.1)).b) (List.length s.2.2.2.2.2.2.1) then (Ge (Ba .db s.2.2.2.2.2.2.1 (Int.toNat ((Ba .lk s.2.2.2.1 (Int.toNat s.2.1)).a)),Ba .db s.2.2.2.2.2.2.1 (Int.toNat ((Ba .lk s.2.2.2.1 (Int.toNat s.2.1)).b)),())).bind fun r105=>(Ee (s.2.2.1,s.2.2.2.1,s.2.2.2.2.1,s.2.2.2.2.2.1,s.2.2.2.2.2.2.1,(Ba .lk s.2.2.2.1 (Int.toNat s.2.1)).a,(Ba .lk s.2.2.2.1 (Int.toNat s.2.1)).b,(Ba .lk s.2.2.2.1 (Int.toNat s.2.1)).c,r105.1,s.2.2.2.2.2.2.2)).bind fun r106=>(match r106 with| .inl x107=>some x107| .inr _=>none) else none) else none) else some s.2.2) else none) else none) else some s.2.2) else some s.2.2)))) else (bif decide (s.1=4) then (bif r1.1 then (Jl (s.2.2.1,s.2.2.2.1,s.2.2.2.2.1,s.2.2.2.2.2.1,s.2.2.2.2.2.2.1,s.1,s.2.1,s.2.2.2.2.2.2.2)).bind fun r108=>(match r108 with| .inl x109=>some x109| .inr _=>none) else (bif decide (s.1=5) then (bif r1.1 then (bif decide (nI (List.length s.2.2.2.2.2.2.2.1)<16) then (Dh (s.2.2.1,s.2.2.2.1,s.2.2.2.2.1,s.2.2.2.2.2.1,s.2.2.2.2.2.2.1,s.1,s.2.1,s.2.2.2.2.2.2.2)).bind fun r110=>(match r110 with| .inl x111=>some x111| .inr _=>none) else some s.2.2) else (bif decide (s.1=6) then (bif r0.1 then (bif Ea s.2.1 (List.length s.2.2.2.1) then (bif Ea s.2.1 (List.length s.2.2.2.2.1) then (bif Ba .bool s.2.2.2.2.1 (Int.toNat s.2.1) then (bif Ea ((Ba .lk s.2.2.2.1 (Int.toNat s.2.1)).a) (List.length s.2.2.2.2.2.2.1) then (bif Ea ((Ba .lk s.2.2.2.1 (Int.toNat s.2.1)).b) (List.length s.2.2.2.2.2.2.1) then (Ge (Ba .db s.2.2.2.2.2.2.1 (Int.toNat ((Ba .lk s.2.2.2.1 (Int.toNat s.2.1)).a)),Ba .db s.2.2.2.2.2.2.1 (Int.toNat ((Ba .lk s.2.2.2.1 (Int.toNat s.2.1)).b)),())).bind fun r112=>(Ee (s.2.2.1,s.2.2.2.1,s.2.2.2.2.1,s.2.2.2.2.2.1,s.2.2.2.2.2.2.1,(Ba .lk s.2.2.2.1 (Int.toNat s.2.1)).a,(Ba .lk s.2.2.2.1 (Int.toNat s.2.1)).b,(Ba .lk s.2.2.2.1 (Int.toNat s.2.1)).c,r112.1,s.2.2.2.2.2.2.2)).bind fun r113=>(match r113 with| .inl x114=>some x114| .inr _=>none) else none) else none) else some s.2.2) else none) else none) else some s.2.2) else some s.2.2)) else (bif decide (s.1=6) then (bif r0.1 then (bif Ea s.2.1 (List.length s.2.2.2.1) then (bif Ea s.2.1 (List.length s.2.2.2.2.1) then (bif Ba .bool s.2.2.2.2.1 (Int.toNat s.2.1) then (bif Ea ((Ba .lk s.2.2.2.1 (Int.toNat s.2.1)).a) (List.length s.2.2.2.2.2.2.1) then (bif Ea ((Ba .lk s.2.2.2.1 (Int.toNat s.2.1)).b) (List.length s.2.2.2.2.2.2.1) then (Ge (Ba .db s.2.2.2.2.2.2.1 (Int.toNat ((Ba .lk s.2.2.2.1 (Int.toNat s.2.1)).a)),Ba .db s.2.2.2.2.2.2.1 (Int.toNat ((Ba .lk s.2.2.2.1 (Int.toNat s.2.1)).b)),())).bind fun r115=>(Ee (s.2.2.1,s.2.2.2.1,s.2.2.2.2.1,s.2.2.2.2.2.1,s.2.2.2.2.2.2.1,(Ba .lk s.2.2.2.1 (Int.toNat s.2.1)).a,(Ba .lk s.2.2.2.1 (Int.toNat s.2.1)).b,(Ba .lk s.2.2.2.1 (Int.toNat s.2.1)).c,r115.1,s.2.2.2.2.2.2.2)).bind fun r116=>(match r116 with| .inl x117=>some x117| .inr _=>none) else none) else none) else some s.2.2) else none) else none) else some s.2.2) else some s.2.2))) else (bif decide (s.1=5) then (bif r1.1 then (bif decide (nI (List.length s.2.2.2.2.2.2.2.1)<16) then (Dh (s.2.2.1,s.2.2.2.1,s.2.2.2.2.1,s.2.2.2.2.2.1,s.2.2.2.2.2.2.1,s.1,s.2.1,s.2.2.2.2.2.2.2)).bind fun r118=>(match r118 with| .inl x119=>some x119| .inr _=>none) else some s.2.2) else (bif decide (s.1=6) then (bif r0.1 then (bif Ea s.2.1 (List.length s.2.2.2.1) then (bif Ea s.2.1 (List.length s.2.2.2.2.1) then (bif Ba .bool s.2.2.2.2.1 (Int.toNat s.2.1) then (bif Ea ((Ba .lk s.2.2.2.1 (Int.toNat s.2.1)).a) (List.length s.2.2.2.2.2.2.1) then (bif Ea ((Ba .lk s.2.2.2.1 (Int.toNat s.2.1)).b) (List.length s.2.2.2.2.2.2.1) then (Ge (Ba .db s.2.2.2.2.2.2.1 (Int.toNat ((Ba .lk s.2.2.2.1 (Int.toNat s.2.1)).a)),Ba .db s.2.2.2.2.2.2.1 (Int.toNat ((Ba .lk s.2.2.2.1 (Int.toNat s.2.1)).b)),())).bind fun r120=>(Ee (s.2.2.1,s.2.2.2.1,s.2.2.2.2.1,s.2.2.2.2.2.1,s.2.2.2.2.2.2.1,(Ba .lk s.2.2.2.1 (Int.toNat s.2.1)).a,(Ba .lk s.2.2.2.1 (Int.toNat s.2.1)).b,(Ba .lk s.2.2.2.1 (Int.toNat s.2.1)).c,r120.1,s.2.2.2.2.2.2.2)).bind fun r121=>(match r121 with| .inl x122=>some x122| .inr _=>none) else none) else none) else some s.2.2) else none) else none) else some s.2.2) else some s.2.2)) else (bif decide (s.1=6) then (bif r0.1 then (bif Ea s.2.1 (List.length s.2.2.2.1) then (bif Ea s.2.1 (List.length s.2.2.2.2.1) then (bif Ba .bool s.2.2.2.2.1 (Int.toNat s.2.1) then (bif Ea ((Ba .lk s.2.2.2.1 (Int.toNat s.2.1)).a) (List.length s.2.2.2.2.2.2.1) then (bif Ea ((Ba .lk s.2.2.2.1 (Int.toNat s.2.1)).b) (List.length s.2.2.2.2.2.2.1) then (Ge (Ba .db s.2.2.2.2.2.2.1 (Int.toNat ((Ba .lk s.2.2.2.1 (Int.toNat s.2.1)).a)),Ba .db s.2.2.2.2.2.2.1 (Int.toNat ((Ba .lk s.2.2.2.1 (Int.toNat s.2.1)).b)),())).bind fun r123=>(Ee (s.2.2.1,s.2.2.2.1,s.2.2.2.2.1,s.2.2.2.2.2.1,s.2.2.2.2.2.2.1,(Ba .lk s.2.2.2.1 (Int.toNat s.2.1)).a,(Ba .lk s.2.2.2.1 (Int.toNat s.2.1)).b,(Ba .lk s.2.2.2.1 (Int.toNat s.2.1)).c,r123.1,s.2.2.2.2.2.2.2)).bind fun r124=>(match r124 with| .inl x125=>some x125| .inr _=>none) else none) else none) else some s.2.2) else none) else none) else some s.2.2) else some s.2.2))))))
def KU (s:BJ):Option Y0:=(DM (s.1,s.2.1,s.2.2.1,s.2.2.2.1,s.2.2.2.2.1,s.2.2.2.2.2.1,())).bind fun r0=>(bif (!r0.1) then some (0,([]:List Lk),([]:List Bool),([]:List Int),([]:List (List Ls)),([]:List Pk),()) else (AM (s.1,s.2.1,s.2.2.1,s.2.2.2.1,s.2.2.2.2.1,s.2.2.2.2.2.1,())).bind fun r1=>(RM (s.2.2.2.2.2.2.1,s.2.2.2.2.2.2.2.1,r1)).bind fun r2=>some r2)
end
section
open Go.RowKit
theorem Nw (es:List Bool) (i:Nat):Ba .bool es i=es.getD i false:=by
  induction es generalizing i with
  |nil=>rfl
  |cons z r ih=>cases i with
   |zero=>rfl
   |succ i=>exact (ih i).trans (by simp)
theorem Ei (es:List (List Ls)) (i:Nat):Ba .db es i=Ab es i:=by
  induction es generalizing i with
  |nil=>rfl
  |cons z r ih=>cases i with
   |zero=>rfl
   |succ i=>exact (ih i).trans (by simp [Ab])
theorem Zo (es:List Pk) (i:Nat):Ba .pk es i=Ob es i:=by
  induction es generalizing i with
  |nil=>rfl
  |cons z r ih=>cases i with
   |zero=>rfl
   |succ i=>exact (ih i).trans (by simp [Ob])
abbrev Wt:=Int×List Lk×List Bool×List Int×List (List Ls)×List Pk×Unit
def wt (w:Wd):Wt:=(w.n,w.ls,w.up,w.sq,w.db,w.net,())
theorem tY {ls:List Lk} {k:Nat} (h:k<ls.length):ls.take k++[lk ls k]=ls.take (k+1):=by
  rw [List.take_add_one,List.getElem?_eq_getElem h,Oi h];rfl
theorem tZ (n:Int) (ls:List Lk) (hl:ls.length≤2000000):WL (n,ls,())=some (n,ls,()):=by
  unfold WL
  refine Aa.out (Aa.bnd (R:=fun r=>match r with| .inl x=>x=(0,n,[],ls,())| .inr _=>False) ?_ ?_)
  ·refine Aa.count ls.length (fun k t=>t=(ls,(ls.length:Int),(k:Int),0,n,[],ls.take k,())) ?_ (Nat.zero_le _) (Cc (by omega)) (by simp [La])
   rintro k t hk rfl
   simp (disch:=omega) only [VL,RT,Lg,Ta,Ua,La,Option.bind_some]
   by_cases hlt:k<ls.length
   ·refine Aa.gd (decide_eq_true (by omega)) (Aa.gd (Ia (by omega) (by omega)) (Aa.ite (fun _=>Aa.gd (decide_eq_true (by simp only [List.length_take,List.length_singleton];omega)) (.some ⟨hlt,?_⟩)) (fun hh=>by cases hh)))
    rw [←tY hlt];rfl
   ·obtain rfl:k=ls.length:=by omega
    rw [List.take_length]
    exact Aa.no (dF (by omega)) (.some rfl)
  ·rintro (r|r) hr
   case inr=>exact hr.elim
   obtain rfl:=hr
   exact .some rfl
theorem bF (ls:List Lk) (up:List Bool) (k:Nat):(Bi ls up k).length≤k:=by
  unfold Bi
  rw [List.length_map]
  exact Nat.le_trans (List.length_filter_le _ _) (by simp)
theorem LU (w:Wd) (h:w.up.length=w.ls.length) (hl:w.ls.length≤1000):Iw (w.n,w.ls,w.up,w.sq,w.db,w.net,())=some (w.n,Pc w.ls w.up,()):=by
  cases w with|mk n ls up sq db net =>
  dsimp only at h hl
  unfold Iw VT
  refine Aa.out (Aa.bnd (R:=fun r=>r=(n,Pc ls up,())) (Aa.bnd (R:=fun r=>match r with| .inl x=>x=(0,n,[],Pc ls up,())| .inr _=>False) ?_ ?_) ?_)
  ·refine Aa.count ls.length (fun k t=>t=(n,ls,up,sq,db,net,ls,(ls.length:Int),(k:Int),0,n,[],Bi ls up k,())) ?_ (Nat.zero_le _) (Cc (by omega)) (by simp [La,Bi])
   rintro k t hk rfl
   have hq:=bF ls up k
   simp (disch:=omega) only [YL,TT,Lg,Nw,Ta,Ua,La]
   by_cases hlt:k<ls.length
   ·refine Aa.gd (decide_eq_true (by omega)) (Aa.gd (Ia (by omega) (by omega)) (Aa.bnd (R:=fun r=>r=(up.getD k false,())) (Aa.gd (Ia (by omega) (by omega)) (.some rfl)) ?_))
    rintro _ rfl
    refine Aa.ite (fun hu=>Aa.gd (decide_eq_true (by simp only [List.length_singleton];omega)) (.some ⟨hlt,?_⟩)) (fun hu=>.some ⟨hlt,?_⟩)
    ·have hu:up.getD k false=true:=hu
     rw [JM,if_pos hu];rfl
    ·have hu:up.getD k false=false:=hu
     rw [JM,hu];rfl
   ·obtain rfl:k=ls.length:=by omega
    refine Aa.no (dF (by omega)) (.some rfl)
  ·rintro (r|r) hr
   case inr=>exact hr.elim
   obtain rfl:=hr
   exact .some rfl
  ·rintro _ rfl
   exact .some rfl
theorem MU (w:Wd) (h:w.up.length=w.ls.length) (hl:w.ls.length≤1000):Hw (w.n,w.ls,w.up,w.sq,w.db,w.net,())=some (w.n,Pc w.ls w.up,()):=by
  cases w with|mk n ls up sq db net =>
  dsimp only at h hl
  unfold Hw
  refine Aa.out (Aa.bnd (R:=fun r=>match r with| .inl x=>x=(0,[],n,Pc ls up,())| .inr _=>False) ?_ ?_)
  ·refine Aa.count ls.length (fun k t=>t=((k:Int),n,ls,up,sq,db,net,0,[],n,Bi ls up k,())) ?_ (Nat.zero_le _) (Cc (by omega)) (by simp [La,Bi])
   rintro k t hk rfl
   have hq:=bF ls up k
   simp (disch:=omega) only [ML,Lg,Nw,Ta,Ua,La]
   by_cases hlt:k<ls.length
   ·refine Aa.gd (decide_eq_true (by omega)) (Aa.gd (Ia (by omega) (by omega)) ?_)
    refine Aa.ite (fun hu=>Aa.gd (Ia (by omega) (by omega)) (Aa.gd (decide_eq_true (by simp only [List.length_singleton];omega)) (.some ⟨hlt,?_⟩))) (fun hu=>.some ⟨hlt,?_⟩)
    ·have hu:up.getD k false=true:=hu
     rw [JM,if_pos hu];rfl
    ·have hu:up.getD k false=false:=hu
     rw [JM,hu];rfl
   ·obtain rfl:k=ls.length:=by omega
    refine Aa.no (dF (by omega)) (.some rfl)
  ·rintro (r|r) hr
   case inr=>exact hr.elim
   obtain rfl:=hr
   exact .some rfl
theorem Ke.len {db:List Ls} (h:Ke db):db.length≤8:=by
  have key:∀i,i<db.length→(i:Int)≤(Ya db i).o:=fun i=>by
    induction i with
    |zero=>intro hi;exact (h 0 hi).1.1
    |succ i ih =>
     intro hi
     have h1:=ih (by omega)
     have h2:=(h (i+1) hi).2 (by omega)
     rw [Nat.add_sub_cancel] at h2
     omega
  rcases Nat.lt_or_ge 8 db.length with h8|h8
  ·have h1:=key 8 h8
   have h2:=(h 8 h8).1.2.1
   omega
  ·exact h8
theorem Cf.len {l:Ls} (h:Cf l):l.e.length≤8:=by
  have key:∀i,i<l.e.length→(i:Int)≤(en l.e i).n:=fun i=>by
    induction i with
    |zero=>intro hi;exact (h.2.2.2.2 0 hi).1
    |succ i ih =>
     intro hi
     have h1:=ih (by omega)
     have h2:=(h.2.2.2.2 (i+1) hi).2.2.2.2.2 (by omega)
     rw [Nat.add_sub_cancel] at h2
     omega
  rcases Nat.lt_or_ge 8 l.e.length with h8|h8
  ·have h1:=key 8 h8
   have h2:=(h.2.2.2.2 8 h8).2.1
   omega
  ·exact h8
theorem Ke.sm {db:List Ls} (h:Ke db):Df db:=⟨by have:=h.len;unfold Sm;omega,fun l hl=>by
  have:=((Jq.1 h).1 l hl).len
  unfold Sm;omega⟩
theorem Cf.sm {l:Ls} (h:Cf l):Sm l.e:=by have:=h.len;unfold Sm;omega
theorem Ke.so {db:List Ls} (h:Ke db):Dd db:=Lj.1 h.srt
theorem WV.nn {w:Wd} {A:Int→Prop} (h:WV w A):1≤w.n∧w.n≤8:=⟨h.g.1,h.g.2.1⟩
theorem WV.lsl {w:Wd} {A:Int→Prop} (h:WV w A):w.ls.length≤14:=h.g.2.2.1
theorem uA {n:Int} {ls:List Lk} (g:GV n ls) (m:Int):Yv (n,ls,m,())=some (Rc ls m n.toNat,()):=by
  have h1:=g.1
  have h3:=g.2.2.1
  obtain ⟨N,rfl⟩:=Int.eq_ofNat_of_zero_le (show 0≤n by omega)
  rw [X9 _ _ _ (by omega),aL g,Int.toNat_natCast]
theorem uB {N:Nat} {ls:List Lk} (g:GV N ls) (m:Int):Rc ls m 8=Rc ls m N:=by
  have h2:=g.2.1
  refine KT (IL ls m 8) (IL ls m N) fun x=>?_
  rw [Vo,Vo]
  constructor
  ·rintro ⟨j,_,rfl,h⟩
   have:=LT g h
   exact ⟨j,by omega,rfl,h⟩
  ·rintro ⟨j,hj,rfl,h⟩
   exact ⟨j,by omega,rfl,h⟩
theorem uC {n:Int} {ls:List Lk} (g:GV n ls) (m:Int):Bz (n,ls,m,())=some (Rc ls m n.toNat,()):=by
  have h1:=g.1
  have h3:=g.2.2.1
  obtain ⟨N,rfl⟩:=Int.eq_ofNat_of_zero_le (show 0≤n by omega)
  rw [rG _ _ _ (show Wa ls by unfold Wa;omega),if_pos (show gv (N:Int) ls=true from decide_eq_true g),Int.toNat_natCast,uB g m]
theorem MC {l:Ls} {ex:Int} {net:List Pk} {nb:List Int} {k:Nat} (h:k<nb.length):Td l ex net (nb.take (k+1))=Pj l ex (Td l ex net (nb.take k)) (iz nb k):=by
  unfold Td
  rw [List.take_add_one,List.getElem?_eq_getElem h,List.foldl_append]
  congr 1
  simp [iz,List.getD,h]
theorem uD {l:Ls} {ex:Int} {net:List Pk} {m:Int} (h:16≤net.length):Pj l ex net m=net:=if_neg (by omega)
theorem bG {l:Ls} {ex:Int} {net:List Pk} (h:16≤net.length):∀nb:List Int,Td l ex net nb=net
  |[]=>rfl
  |m::r=>by
   show Td l ex (Pj l ex net m) r=net
   rw [uD h,bG h r]
theorem uE {l:Ls} {ex:Int} {net:List Pk} {nb:List Int} {k:Nat} (h:16≤(Td l ex net (nb.take k)).length):Td l ex net (nb.take k)=Td l ex net nb:=by
  have:Td l ex net nb=Td l ex (Td l ex net (nb.take k)) (nb.drop k):=by
    conv=>lhs;rw [←List.take_append_drop k nb]
    unfold Td
    rw [List.foldl_append]
  rw [this,bG h]
theorem bH (w:Wd) (i ex:Int) (l:Ls) (g:GV w.n w.ls) (hu:w.up.length=w.ls.length) (hn:w.net.length≤16) (hl:Sm l.e):Oq (i,l.o,l.s,l.e,ex,w.n,w.ls,w.up,w.sq,w.db,w.net,())=some (w.n,w.ls,w.up,w.sq,w.db,Td l ex w.net (Rc (Pc w.ls w.up) i w.n.toNat),()):=by
  have h14:=g.2.2.1
  unfold Oq
  dsimp only
  rw [LU w hu (by omega)]
  simp only [Option.bind_some,uA (Rm g w.up)]
  have h8:=Tv (Pc w.ls w.up) i w.n.toNat
  have hn8:=g.2.1
  generalize Rc (Pc w.ls w.up) i w.n.toNat=nb at h8 ⊢
  refine Aa.out (Aa.bnd (R:=fun r=>match r with| .inl x=>x=(w.n,w.ls,w.up,w.sq,w.db,Td l ex w.net nb,())| .inr _=>False) ?_ ?_)
  ·refine Aa.count nb.length (fun k t=>t=(ex,(nb.length:Int),(k:Int),w.n,w.ls,w.up,w.sq,w.db,l.o,l.s,l.e,nb,Td l ex w.net (nb.take k),())) ?_ (Nat.zero_le _) (Cc (by omega)) (by simp [La,Td])
   rintro k t hk rfl
   simp (disch:=omega) only [PM,OM,Kg,Ta,Ua,La,AC _ _ _ hl,Option.bind_some]
   by_cases hlt:k<nb.length
   ·refine Aa.gd (decide_eq_true (by omega)) (Aa.gd (Ia (by omega) (by omega)) (Aa.ite (fun he=>Aa.ite (fun hf=>?_) (fun hf=>?_)) (fun he=>?_)))
    ·have he:¬iz nb k=ex:=by simpa using he
     have hf:=oT hf
     refine Aa.bnd (R:=fun r=>r=.inl (ex,(nb.length:Int),(k:Int),w.n,w.ls,w.up,w.sq,w.db,l.o,l.s,l.e,nb,Td l ex w.net (nb.take k)++[⟨iz nb k,l⟩],())) (Aa.gd (decide_eq_true (by simp only [List.length_singleton];omega)) (.some rfl)) ?_
     rintro _ rfl
     simp (disch:=omega) only [Ua]
     refine .some ⟨hlt,?_⟩
     rw [MC hlt,Pj,if_pos ⟨he,by omega⟩]
     rfl
    ·have hf:=oF hf
     refine .some ⟨hlt,?_⟩
     rw [MC hlt,Pj,if_neg (by omega)]
     rfl
    ·have he:iz nb k=ex:=by simpa using he
     refine .some ⟨hlt,?_⟩
     rw [MC hlt,Pj,if_neg (fun hh=>hh.1 he)]
     rfl
   ·obtain rfl:k=nb.length:=by omega
    rw [List.take_length]
    exact Aa.no (dF (by omega)) (.some rfl)
  ·rintro (r|r) hr
   case inr=>exact hr.elim
   obtain rfl:=hr
   exact .some rfl
theorem bI (w:Wd) (i ex:Int) (l:Ls) (g:GV w.n w.ls) (hu:w.up.length=w.ls.length) (hn:w.net.length≤16) (hl:Sm l.e):EC (w.n,i,l.o,l.s,l.e,ex,w.ls,w.up,w.sq,w.db,w.net,())=some (w.n,w.ls,w.up,w.sq,w.db,Td l ex w.net (Rc (Pc w.ls w.up) i w.n.toNat),()):=by
  have h14:=g.2.2.1
  unfold EC
  dsimp only
  rw [MU w hu (by omega)]
  simp only [Option.bind_some,uC (Rm g w.up)]
  have h8:=Tv (Pc w.ls w.up) i w.n.toNat
  have hn8:=g.2.1
  generalize Rc (Pc w.ls w.up) i w.n.toNat=nb at h8 ⊢
  refine Aa.out (Aa.bnd (R:=fun r=>match r with| .inl x=>x=(w.ls,w.up,w.sq,w.db,w.n,0,[],[],[],[],[],Td l ex w.net nb,())| .inr _=>False) ?_ ?_)
  ·refine Aa.count nb.length (fun k t=>t=(ex,(k:Int),w.ls,w.up,w.sq,w.db,w.n,l.o,l.s,l.e,0,[],[],[],[],[],nb,Td l ex w.net (nb.take k),())) ?_ (Nat.zero_le _) (Cc (by omega)) (by simp [La,Td])
   rintro k t hk rfl
   simp (disch:=omega) only [MM,Kg,Ta,Ua,La,Kw _ _ _ hl,Option.bind_some]
   by_cases hlt:k<nb.length
   ·refine Aa.gd (decide_eq_true (by omega)) (Aa.ite (fun hf=>?_) (fun hf=>?_))
    ·have hf:=oT hf
     refine Aa.gd (Ia (by omega) (by omega)) (Aa.ite (fun he=>?_) (fun he=>?_))
     ·have he:¬iz nb k=ex:=by simpa using he
      refine Aa.gd (Ia (by omega) (by omega)) (Aa.gd (decide_eq_true (by simp only [List.length_nil];omega)) (Aa.gd (decide_eq_true (by simp only [List.nil_append,List.length_singleton];omega)) (.some ⟨hlt,?_⟩)))
      rw [MC hlt,Pj,if_pos ⟨he,by omega⟩]
      rfl
     ·have he:iz nb k=ex:=by simpa using he
      refine .some ⟨hlt,?_⟩
      rw [MC hlt,Pj,if_neg (fun hh=>hh.1 he)]
      rfl
    ·have hf:=oF hf
     exact .some (by rw [uE (by omega)])
   ·obtain rfl:k=nb.length:=by omega
    rw [List.take_length]
    exact Aa.no (dF (by omega)) (.some rfl)
  ·rintro (r|r) hr
   case inr=>exact hr.elim
   obtain rfl:=hr
   exact .some rfl
end
section
open Go.RowKit
theorem Vb {α β:Type} {o:Option α} {f:α→Option β} {r:α} {Q:β→Prop} (h:o=some r) (k:Aa (f r) Q):Aa (o.bind f) Q:=by subst h;exact k
theorem uF {α:Type} {l:List α} {i:Nat} {d:α} (h:i<l.length):l.set i (l.getD i d)=l:=by
  rw [List.getD,List.getElem?_eq_getElem h]
  exact List.set_getElem_self h
theorem bJ {n:Int} {ls:List Lk} (g:GV n ls) (o s:Int):Dw (n,ls,o,s,())=some (o,s,De ls n.toNat o,()):=by
  have h1:=g.1
  obtain ⟨N,rfl⟩:=Int.eq_ofNat_of_zero_le (show 0≤n by omega)
  exact sW g o s
theorem bK {n:Int} {ls:List Lk} (g:GV n ls) (o s:Int):Aw (n,ls,o,s,())=some (o,s,De ls n.toNat o,()):=by
  have h1:=g.1
  obtain ⟨N,rfl⟩:=Int.eq_ofNat_of_zero_le (show 0≤n by omega)
  exact sX g o s
section
variable {w:Wd} {A:Int→Prop}
theorem uG (h:WV w A) {i:Nat} (hi:i<w.db.length) (h99:iz w.sq i<99):Il ((i:Int),w.n,w.ls,w.up,w.sq,w.db,w.net,())=some (wt (Ci w i)):=by
  have hsq:=h.sq
  have hdb:=h.db
  have his:i<w.sq.length:=by omega
  have hr:=h.rng i his
  have h14:=h.lsl
  have hd:=h.ok i hi
  have hnw:=DU h hi h99
  have hlen:=hd.len
  have b1:KC ((i:Int),w.n,w.ls,w.up,w.sq.set i (iz w.sq i+1),w.db,w.net,())=some (.inl ((i:Int),w.n,w.ls,w.up,w.sq.set i (iz w.sq i+1),w.db,(i:Int),iz w.sq i+1,w.net,De (Pc w.ls w.up) w.n.toNat i,())):=by
    unfold KC
    simp only [Ta,Kg]
    refine Aa.out (Aa.gd (Ia (by omega) (by rw [List.length_set];omega)) (Vb (LU { w with sq:=w.sq.set i (iz w.sq i+1) } h.up (by show w.ls.length≤1000;omega)) ?_))
    dsimp only
    refine Vb (bJ (Rm h.g w.up) _ _) (.some ?_)
    dsimp only
    rw [DC his,if_pos rfl]
  have b2:LC ((i:Int),w.n,w.ls,w.up,w.sq.set i (iz w.sq i+1),w.db,(i:Int),iz w.sq i+1,w.net,De (Pc w.ls w.up) w.n.toNat i,())=some (.inl ((i:Int),w.n,w.ls,w.up,w.sq.set i (iz w.sq i+1),w.db.set i (Ad (Ab w.db i) (Zf w i)),(i:Int),iz w.sq i+1,w.net,De (Pc w.ls w.up) w.n.toNat i,())):=by
    unfold LC
    simp only [Ta,Ei]
    exact Aa.out (Aa.gd (Ia (by omega) (by omega)) (Vb (XT (Ab w.db i) (Zf w i) hd.so hd.sm hnw.sm (by omega)) (Aa.gd (Ia (by omega) (by omega)) (.some rfl))))
  unfold Il
  simp (disch:=omega) only [Ta,Kg,Ua]
  refine Aa.out (Aa.gd (Ia (by omega) (by omega)) (Aa.gd (Ia (by omega) (by omega)) (Vb b1 ?_)))
  dsimp only
  refine Vb b2 ?_
  dsimp only
  exact Vb (bH { w with sq:=w.sq.set i (iz w.sq i+1),db:=w.db.set i (Ad (Ab w.db i) (Zf w i)) } (i:Int) (-1) (Zf w i) h.g h.up h.net hnw.sm) (.some rfl)
theorem uH (h:WV w A) {i:Nat} (hi:i<w.db.length) (h99:iz w.sq i<99):Mw (w.n,(i:Int),w.ls,w.up,w.sq,w.db,w.net,())=some (wt (Ci w i)):=by
  have hsq:=h.sq
  have hdb:=h.db
  have his:i<w.sq.length:=by omega
  have hr:=h.rng i his
  have h14:=h.lsl
  have hd:=h.ok i hi
  have hnw:=DU h hi h99
  have b1:FC ((i:Int),w.ls,w.up,w.sq.set i (iz w.sq i+1),w.db,w.n,0,[],[],[],[],[],w.net,())=some (.inl ((i:Int),w.ls,w.up,w.sq.set i (iz w.sq i+1),w.db,w.n,0,[],[],[],[],[],(i:Int),iz w.sq i+1,w.net,De (Pc w.ls w.up) w.n.toNat i,())):=by
    unfold FC
    simp only [Ta,Kg]
    refine Aa.out (Aa.gd (Ia (by omega) (by rw [List.length_set];omega)) (Vb (MU { w with sq:=w.sq.set i (iz w.sq i+1) } h.up (by show w.ls.length≤1000;omega)) ?_))
    dsimp only
    refine Vb (bK (Rm h.g w.up) _ _) (.some ?_)
    dsimp only
    rw [DC his,if_pos rfl]
  unfold Mw
  simp (disch:=omega) only [Ta,Kg,Ua]
  refine Aa.out (Aa.gd (Ia (by omega) (by omega)) (Aa.gd (Ia (by omega) (by omega)) (Vb b1 ?_)))
  simp only [Ta,Ei]
  refine Aa.gd (Ia (by omega) (by omega)) (Vb (YT (Ab w.db i) (Zf w i) hd.so hd.sm hnw.sm) (Aa.gd (Ia (by omega) (by omega)) ?_))
  exact Vb (bI { w with sq:=w.sq.set i (iz w.sq i+1),db:=w.db.set i (Ad (Ab w.db i) (Zf w i)) } (i:Int) (-1) (Zf w i) h.g h.up h.net hnw.sm) (.some rfl)
theorem bL (h:WV w A) {i:Int} (h0:0≤i) (hi:i<w.n) (h99:iz w.sq i.toNat<99):Il (i,w.n,w.ls,w.up,w.sq,w.db,w.net,())=some (wt (Ci w i.toNat)):=by
  have hdb:=h.db
  obtain ⟨k,rfl⟩:=Int.eq_ofNat_of_zero_le h0
  exact uG h (by omega) h99
theorem bM (h:WV w A) {i:Int} (h0:0≤i) (hi:i<w.n) (h99:iz w.sq i.toNat<99):Mw (w.n,i,w.ls,w.up,w.sq,w.db,w.net,())=some (wt (Ci w i.toNat)):=by
  have hdb:=h.db
  obtain ⟨k,rfl⟩:=Int.eq_ofNat_of_zero_le h0
  exact uH h (by omega) h99
structure Xm (w:Wd):Prop where
  ls:w.ls.length≤2000000
  up:w.up.length≤2000000
  sq:w.sq.length≤2000000
  db:w.db.length≤2000000
  net:w.net.length≤2000000
  dbs:∀i,i<w.db.length→Df (Ab w.db i)
  pks:∀i,i<w.net.length→Sm (Ob w.net i).p.e
theorem WV.sm (h:WV w A):Xm w:=by
  have h1:=h.lsl
  have h2:=h.up
  have h3:=h.sq
  have h4:=h.db
  have h5:=h.net
  have h6:=h.nn
  exact ⟨by omega,by omega,by omega,by omega,by omega,fun i hi=>(h.ok i hi).sm,fun i hi=>(h.poss _ (.inr ⟨_,Um hi,rfl⟩)).1.sm⟩
theorem SM {db:List (List Ls)} {k:Nat} (h:k<db.length):db.take k++[Ab db k]=db.take (k+1):=by
  rw [List.take_add_one,List.getElem?_eq_getElem h];simp [Ab,List.getD,h]
theorem NU {net:List Pk} {k:Nat} (h:k<net.length):net.take k++[⟨(Ob net k).t,⟨(Ob net k).p.o,(Ob net k).p.s,(Ob net k).p.e⟩⟩]=net.take (k+1):=by
  rw [List.take_add_one,List.getElem?_eq_getElem h]
  have:Ob net k=net[k]:=by simp [Ob,List.getD,h]
  rw [this];rfl
theorem uI (h:Xm w):AM (w.n,w.ls,w.up,w.sq,w.db,w.net,())=some (w.n,w.ls,w.up,w.sq,w.db,w.net,()):=by
  have h1:=h.ls
  have h2:=h.up
  have h3:=h.sq
  have h4:=h.db
  have h5:=h.net
  cases w with|mk n ls up sq db net =>
  dsimp only at h1 h2 h3 h4 h5 ⊢
  have b1:RB (n,ls,up,sq,db,net,0,[],[],[],[],[],())=some (.inl (n,ls,up,sq,db,net,0,[],[],[],[],[],n,ls,up,sq,[],[],())):=by
    unfold RB
    refine Aa.out (Vb (tZ n ls h1) ?_)
    unfold j1 HS
    rw [decide_eq_true (show up.length≤16777216 by omega),decide_eq_true (show sq.length≤16777216 by omega)]
    exact .some rfl
  unfold AM
  refine Aa.out (Vb b1 ?_)
  refine Aa.bnd (R:=fun r=>match r with| .inl x=>x=(n,ls,up,sq,db,net,0,[],[],[],[],[],n,ls,up,sq,db,[],())| .inr _=>False) ?_ ?_
  ·refine Aa.count db.length (fun k t=>t=(db,(db.length:Int),(k:Int),n,ls,up,sq,db,net,0,[],[],[],[],[],n,ls,up,sq,db.take k,[],())) ?_ (Nat.zero_le _) (Cc (by omega)) (by simp [La])
   rintro k t hk rfl
   by_cases hlt:k<db.length
   ·have e1:=EM _ (h.dbs k hlt)
    simp (disch:=omega) only [SB,Ei,Ta,Ua,e1,Option.bind_some]
    refine Aa.gd (decide_eq_true (by omega)) (Aa.gd (Ia (by omega) (by omega)) (Aa.gd (decide_eq_true (by simp;omega)) (.some ⟨hlt,?_⟩)))
    rw [←SM hlt];rfl
   ·obtain rfl:k=db.length:=by omega
    unfold SB
    refine Aa.no (dF (by first|omega|(dsimp only;omega))) (.some ?_)
    rw [List.take_length]
  rintro (r|r) hr
  case inr=>exact hr.elim
  obtain rfl:=hr
  refine Aa.bnd (R:=fun r=>match r with| .inl x=>x=(0,[],[],[],[],[],n,ls,up,sq,db,net,())| .inr _=>False) ?_ ?_
  ·refine Aa.count net.length (fun k t=>t=(net,(net.length:Int),(k:Int),0,[],[],[],[],[],n,ls,up,sq,db,net.take k,())) ?_ (Nat.zero_le _) (Cc (by omega)) (by simp [La])
   rintro k t hk rfl
   by_cases hlt:k<net.length
   ·have e1:=AC (Ob net k).p.o (Ob net k).p.s _ (h.pks k hlt)
    simp (disch:=omega) only [TB,Zo,Ta,Ua,e1,Option.bind_some]
    refine Aa.gd (decide_eq_true (by omega)) (Aa.gd (Ia (by omega) (by omega)) ?_)
    refine Aa.gd (decide_eq_true (by simp;omega)) (.some ⟨hlt,?_⟩)
    rw [←NU hlt];rfl
   ·obtain rfl:k=net.length:=by omega
    unfold TB
    refine Aa.no (dF (by first|omega|(dsimp only;omega))) (.some ?_)
    rw [List.take_length]
  rintro (r|r) hr
  case inr=>exact hr.elim
  obtain rfl:=hr
  exact .some rfl
theorem uJ (n:Int) (ls:List Lk) (hl:ls.length≤2000000):LL (n,ls,())=some (n,ls,()):=by
  unfold LL
  exact Aa.out (Aa.gd (decide_eq_true (by simp only [List.length_nil];omega)) (.some rfl))
theorem TM (h:Xm w):Lq (w.n,w.ls,w.up,w.sq,w.db,w.net,())=some (w.n,w.ls,w.up,w.sq,w.db,w.net,()):=by
  have h1:=h.ls
  have h2:=h.up
  have h3:=h.sq
  have h4:=h.db
  have h5:=h.net
  cases w with|mk n ls up sq db net =>
  dsimp only at h1 h2 h3 h4 h5 ⊢
  have b1:JB (n,ls,up,sq,db,net,0,[],[],[],[],[],())=some (.inl (n,ls,up,sq,db,net,0,[],[],[],[],[],n,ls,up,sq,[],[],())):=by
    unfold JB
    exact Aa.out (Vb (uJ n ls h1) (Aa.gd (decide_eq_true (by simp;omega)) (Aa.gd (decide_eq_true (by simp;omega)) (.some (by simp)))))
  unfold Lq
  refine Aa.out (Vb b1 ?_)
  refine Aa.bnd (R:=fun r=>match r with| .inl x=>x=(n,ls,up,sq,db,net,0,[],[],[],[],[],n,ls,up,sq,db,[],())| .inr _=>False) ?_ ?_
  ·refine Aa.count db.length (fun k t=>t=((k:Int),n,ls,up,sq,db,net,0,[],[],[],[],[],n,ls,up,sq,db.take k,[],())) ?_ (Nat.zero_le _) (Cc (by omega)) (by simp [La])
   rintro k t hk rfl
   by_cases hlt:k<db.length
   ·have e1:=IM _ (h.dbs k hlt)
    simp (disch:=omega) only [KB,Ei,Ta,Ua,La,e1,Option.bind_some]
    refine Aa.gd (decide_eq_true (by omega)) (Aa.gd (Ia (by omega) (by omega)) (Aa.gd (decide_eq_true (by simp;omega)) (.some ⟨hlt,?_⟩)))
    rw [←SM hlt];rfl
   ·obtain rfl:k=db.length:=by omega
    unfold KB
    simp only [La]
    refine Aa.no (dF (by first|omega|(dsimp only;omega))) (.some ?_)
    rw [List.take_length]
  rintro (r|r) hr
  case inr=>exact hr.elim
  obtain rfl:=hr
  refine Aa.bnd (R:=fun r=>match r with| .inl x=>x=(0,[],[],[],[],[],n,ls,up,sq,db,net,())| .inr _=>False) ?_ ?_
  ·refine Aa.count net.length (fun k t=>t=((k:Int),n,ls,up,sq,db,net,0,[],[],[],[],[],n,ls,up,sq,db,net.take k,())) ?_ (Nat.zero_le _) (Cc (by omega)) (by simp [La])
   rintro k t hk rfl
   by_cases hlt:k<net.length
   ·have e1:=Kw (Ob net k).p.o (Ob net k).p.s _ (h.pks k hlt)
    simp (disch:=omega) only [LB,Zo,Ta,Ua,La,e1,Option.bind_some]
    refine Aa.gd (decide_eq_true (by omega)) (Aa.gd (Ia (by omega) (by omega)) (Aa.gd (Ia (by omega) (by omega)) ?_))
    refine Aa.gd (decide_eq_true (by simp;omega)) (.some ⟨hlt,?_⟩)
    rw [←NU hlt];rfl
   ·obtain rfl:k=net.length:=by omega
    unfold LB
    simp only [La]
    refine Aa.no (dF (by first|omega|(dsimp only;omega))) (.some ?_)
    rw [List.take_length]
  rintro (r|r) hr
  case inr=>exact hr.elim
  obtain rfl:=hr
  exact .some rfl
end
end
end Go.Proofs.YtknkhdjhongklaaGreat
