/- Part 6 of the proof: Pq Pr Ps Pv Py Pe1 Pe2 Pz Px Pw1 Pw Pw2 Pw3 Pw4 Pw5 Pg Pw6 Ph Pw8 Pw9 Pe3 Pe4 Pe5 Pe6 Pe7 Pe8 Pe9 PeA PeB Pc Pnh PeF PeG Pu2 Pu3 Pu4 Pu5 Ph2 Ph3 Pu6 Pu7. -/
import Derived.Lib.ItoaLen
import Derived.Test.YtjffopopheiinaaGreatDoorQj5
set_option linter.unusedSimpArgs false
set_option linter.unusedVariables false
set_option maxRecDepth 100000
namespace Go.Proofs.YtjffopopheiinaaGreatDoor
section
open Go.RowKit
def en (es:List En) (i:Nat):En:=es.getD i ⟨0,0⟩
def Jb (db:List Ls) (i:Nat):Ls:=db.getD i ⟨0,0,[]⟩
theorem YA (es:List En) (i:Nat):Ba .en es i=en es i:=by
  induction es generalizing i with
  |nil=>rfl
  |cons z r ih=>cases i with
   |zero=>rfl
   |succ i=>exact (ih i).trans (by simp [en])
theorem Sg (es:List Ls) (i:Nat):Ba .ls es i=Jb es i:=by
  induction es generalizing i with
  |nil=>rfl
  |cons z r ih=>cases i with
   |zero=>rfl
   |succ i=>exact (ih i).trans (by simp [Jb])
theorem Qj {es:List En} {i:Nat} (h:i<es.length):en es i=es[i]:=by simp [en,h]
theorem Id {es:List Ls} {i:Nat} (h:i<es.length):Jb es i=es[i]:=by simp [Jb,h]
def Rj (o:Int) (es:List En) (i:Nat):Prop:=0≤(en es i).n∧(en es i).n≤7∧(en es i).n≠o∧1≤(en es i).c∧(en es i).c≤20∧(0<i→(en es (i-1)).n<(en es i).n)
instance (o:Int) (es:List En) (i:Nat):Decidable (Rj o es i):=by unfold Rj;infer_instance
def Ff (l:Ls):Prop:=0≤l.o∧l.o≤7∧1≤l.s∧l.s≤99∧∀i,i<l.e.length→Rj l.o l.e i
instance (l:Ls):Decidable (Ff l):=by unfold Ff;infer_instance
def Ji (o s:Int) (es:List En):Bool:=decide (Ff ⟨o,s,es⟩)
theorem iG {o s:Int} {es:List En} (h:¬Ff ⟨o,s,es⟩):Ji o s es=false:=dF h
theorem zDU (o s:Int) (es:List En) (hl:Cb es):KO (o,s,es,())=some (Ji o s es,()):=by
  unfold KO
  simp only [Bm,Option.bind_some,Ta]
  cases h1:Db o 0 7 with
  |false=>simp;exact iG fun g=>Zh h1 ⟨g.1,g.2.1⟩
  |true =>
  cases h2:Db s 1 99 with
  |false=>simp;exact iG fun g=>Zh h2 ⟨g.2.2.1,g.2.2.2.1⟩
  |true =>
  have h1:=De h1
  have h2:=De h2
  simp only [Bool.not_true,cond_false]
  refine Aa.out (Aa.bnd (R:=fun r=>match r with| .inl _=>Ji o s es=true| .inr y=>y.1=false∧Ji o s es=false) ?_ ?_)
  ·refine Aa.count es.length (fun k t=>t=(es,(es.length:Int),(k:Int),o,s,es,())∧∀i,i<k→Rj o es i) ?_ (Nat.zero_le _) (Ib (by omega)) ⟨rfl,fun i hi=>by omega⟩
   rintro k t hk ⟨rfl,hok⟩
   simp (disch:=omega) only [JO,YA,Ua,WA,Ma,Bm,Option.bind_some]
   repeat' (first
     |refine Aa.some ?_
     |fail
     |(refine Aa.gd (by first|exact Ia (by omega) (by omega)|(simp (disch:=omega) only [Ma];exact Ia (by omega) (by omega))) ?_)
     |(refine Aa.ite (fun h=>?_) (fun h=>?_)<;>try simp only [decide_eq_true_eq,decide_eq_false_iff_not,Bool.not_eq_true',Bool.not_eq_false',Ih,Jh,Bool.and_eq_true,Bool.or_eq_true,Bool.and_eq_false_iff,Bool.or_eq_false_iff,El] at h))
   all_goals try dsimp only
   all_goals first
     |(refine ⟨rfl,dF fun g=>?_⟩
       have:=g.2.2.2.2 k (by dsimp only;omega)
       unfold Rj at this
       dsimp only at this
       omega)
     |(refine ⟨by omega,rfl,fun i hi=>?_⟩
       by_cases e:i<k
       ·exact hok i e
       ·obtain rfl:i=k:=by omega
        unfold Rj
        omega)
     |exact decide_eq_true ⟨h1.1,h1.2,h2.1,h2.2,fun i hi=>hok i (by dsimp only at hi;omega)⟩
  ·rintro (r|r) hr
   ·have hr:Ji o s es=true:=hr
    exact .some (by first | rw [hr] | exact Prod.ext hr rfl)
   ·obtain ⟨b,u⟩:=r
    have hr:b=false∧Ji o s es=false:=hr
    exact .some (by first | rw [hr.1,hr.2] | exact Prod.ext hr.1 (Prod.ext hr.2 rfl))
theorem iH (o s:Int) (es:List En) (hl:Cb es):HE (o,s,es,())=some (Ji o s es,()):=by
  unfold HE
  refine Aa.out (Aa.bnd (R:=fun r=>match r with| .inl x=>x=(o,s,es,())∧∀i,i<es.length→Rj o es i| .inr y=>y.1=false∧Ji o s es=false) ?_ ?_)
  ·refine Aa.count es.length (fun k t=>t=((k:Int),o,s,es,())∧∀i,i<k→Rj o es i) ?_ (Nat.zero_le _) (Ib (by omega)) ⟨rfl,fun i hi=>by omega⟩
   rintro k t hk ⟨rfl,hok⟩
   simp (disch:=omega) only [HO,YA,Ua,WA,Ma,Ta,Uk,Option.bind_some]
   repeat' (first
     |refine Aa.some ?_
     |fail
     |(refine Aa.gd (by first|exact Ia (by omega) (by omega)|(simp (disch:=omega) only [Ma];exact Ia (by omega) (by omega))) ?_)
     |(refine Aa.ite (fun h=>?_) (fun h=>?_)<;>try simp only [decide_eq_true_eq,decide_eq_false_iff_not,Bool.not_eq_true',Bool.not_eq_false',Ih,Jh,Bool.and_eq_true,Bool.or_eq_true,Bool.and_eq_false_iff,Bool.or_eq_false_iff,El] at h))
   all_goals try dsimp only
   all_goals first
     |(refine ⟨rfl,dF fun g=>?_⟩
       have:=g.2.2.2.2 k (by dsimp only;omega)
       unfold Rj at this
       dsimp only at this
       omega)
     |(refine ⟨by omega,rfl,fun i hi=>?_⟩
       by_cases e:i<k
       ·exact hok i e
       ·obtain rfl:i=k:=by omega
        unfold Rj
        omega)
     |exact ⟨rfl,fun i hi=>hok i (by omega)⟩
  ·rintro (r|r) hr
   ·have hr:r=(o,s,es,())∧∀i,i<es.length→Rj o es i:=hr
    obtain ⟨rfl,hq⟩:=hr
    simp only [Uk,Option.bind_some]
    cases h1:Db o 0 7 with
    |false=>exact .some (by rw [show Ji o s es=false from dF fun g=>Zh h1 ⟨g.1,g.2.1⟩])
    |true =>
     cases h2:Db s 1 99 with
     |false=>exact .some (by rw [show Ji o s es=false from dF fun g=>Zh h2 ⟨g.2.2.1,g.2.2.2.1⟩])
     |true =>
      have h1:=De h1
      have h2:=De h2
      exact .some (by rw [show Ji o s es=true from decide_eq_true ⟨h1.1,h1.2,h2.1,h2.2,hq⟩])
   ·obtain ⟨b,u⟩:=r
    have hr:b=false∧Ji o s es=false:=hr
    exact .some (by first | rw [hr.1,hr.2] | exact Prod.ext hr.1 (Prod.ext hr.2 rfl))
def Jd (db:List Ls):Prop:=∀i,i<db.length→Ff (Jb db i)∧(0<i→(Jb db (i-1)).o<(Jb db i).o)
instance (db:List Ls):Decidable (Jd db):=by unfold Jd;infer_instance
def Rh (db:List Ls):Bool:=decide (Jd db)
theorem zDP (db:List Ls) (hl:Cb db) (he:∀l∈db,Cb l.e):LO (db,())=some (Rh db,()):=by
  unfold LO
  refine Aa.out (Aa.bnd (R:=fun r=>match r with| .inl _=>Rh db=true| .inr y=>y.1=false∧Rh db=false) ?_ ?_)
  ·refine Aa.count db.length (fun k t=>t=(db,db,(db.length:Int),(k:Int),())∧∀i,i<k→Ff (Jb db i)∧(0<i→(Jb db (i-1)).o<(Jb db i).o)) ?_ (Nat.zero_le _) (Ib (by omega)) ⟨by simp [Ta],fun i hi=>by omega⟩
   rintro k t hk ⟨rfl,hok⟩
   by_cases hlt:k<db.length
   ·have hf:Cb (Jb db k).e:=he _ (by rw [Id hlt];exact List.getElem_mem hlt)
    simp (disch:=omega) only [IE,Sg,Ua,WA,Ma,zDU _ _ _ hf,Option.bind_some]
    repeat' (first
      |refine Aa.some ?_
      |fail
      |(refine Aa.gd (by first|exact Ia (by omega) (by omega)|(simp (disch:=omega) only [Ma];exact Ia (by omega) (by omega))) ?_)
      |(refine Aa.ite (fun h=>?_) (fun h=>?_)<;>try simp only [decide_eq_true_eq,decide_eq_false_iff_not,Bool.not_eq_true',Bool.not_eq_false',Ih,Jh,Bool.and_eq_true,Bool.or_eq_true,Bool.and_eq_false_iff,Bool.or_eq_false_iff,El] at h))
    all_goals try dsimp only
    all_goals first
      |(refine ⟨rfl,dF fun g=>?_⟩
        have:=g k hlt
        first|exact oF (by assumption) this.1|omega)
      |(refine ⟨by omega,rfl,fun i hi=>?_⟩
        by_cases e:i<k
        ·exact hok i e
        ·obtain rfl:i=k:=by omega
         exact ⟨oT (by assumption),fun _=>by omega⟩)
      |omega
   ·obtain rfl:k=db.length:=by omega
    unfold IE
    simp only [dF (show ¬(db.length:Int)<db.length by omega),cond_false]
    exact .some (decide_eq_true hok)
  ·rintro (r|r) hr
   ·have hr:Rh db=true:=hr
    exact .some (by first | rw [hr] | exact Prod.ext hr rfl)
   ·obtain ⟨b,u⟩:=r
    have hr:b=false∧Rh db=false:=hr
    exact .some (by first | rw [hr.1,hr.2] | exact Prod.ext hr.1 (Prod.ext hr.2 rfl))
def fd (db:List Ls) (o:Int):Option Ls:=db.find? fun l=>decide (l.o=o)
def ec (es:List En) (b:Int):Int:=match es.find? (fun e=>decide (e.n=b)) with|some e=>e.c|none=>0
def Sh (db:List Ls) (a b:Int):Int:=match fd db a with|some l=>ec l.e b|none=>0
theorem OR {α:Type} {p:α→Bool} {l:List α} {k:Nat} (hk:k<l.length) (h:p l[k]=true) (hn:∀i (hi:i<l.length),i<k→p l[i]=false):l.find? p=some l[k]:=by
  rw [List.find?_eq_some_iff_getElem]
  exact ⟨h,k,hk,rfl,fun j hj=>by simp [hn j (by omega) hj]⟩
theorem PR {α:Type} {p:α→Bool} {l:List α} (hn:∀i (hi:i<l.length),p l[i]=false):l.find? p=none:=by
  rw [List.find?_eq_none]
  intro x hx
  obtain ⟨i,hi,rfl⟩:=List.getElem_of_mem hx
  simp [hn i hi]
theorem L5 (db:List Ls) (o:Int) (hl:Cb db):Az (db,o,())=some (match fd db o with|some l=>(l.o,l.s,l.e,true,())|none=>(0,0,[],false,())):=by
  unfold Az
  refine Aa.out (Aa.bnd (R:=fun r=>match r with| .inl _=>fd db o=none| .inr y=>∃l,fd db o=some l∧y=(true,l.o,l.s,l.e,())) ?_ ?_)
  ·refine Aa.count db.length (fun k t=>t=(db,o,(k:Int),0,0,[],())∧∀i,i<k→(Jb db i).o≠o) ?_ (Nat.zero_le _) (Ib (by omega)) ⟨rfl,fun i hi=>by omega⟩
   rintro k t hk ⟨rfl,hok⟩
   simp (disch:=omega) only [FO,Sg,Ua,Ma,Ta]
   repeat' (first
     |refine Aa.some ?_
     |fail
     |(refine Aa.gd (by first|exact Ia (by omega) (by omega)|(simp (disch:=omega) only [Ma];exact Ia (by omega) (by omega))) ?_)
     |(refine Aa.ite (fun h=>?_) (fun h=>?_)<;>try simp only [decide_eq_true_eq,decide_eq_false_iff_not,Bool.not_eq_true',Bool.not_eq_false',Ih,Jh,Bool.and_eq_true,Bool.or_eq_true,Bool.and_eq_false_iff,Bool.or_eq_false_iff,El] at h))
   all_goals try dsimp only
   ·have hlt:k<db.length:=by omega
    refine ⟨Jb db k,?_,rfl⟩
    unfold fd
    rw [Id hlt]
    exact OR hlt (decide_eq_true (by rw [←Id hlt];assumption)) fun i hi hik=>dF (by rw [←Id hi];exact hok i hik)
   ·refine ⟨by omega,rfl,fun i hi=>?_⟩
    by_cases e:i<k
    ·exact hok i e
    ·obtain rfl:i=k:=by omega
     assumption
   ·exact PR fun i hi=>dF (by rw [←Id hi];exact hok i (by omega))
  ·rintro (r|r) hr
   ·have hr:fd db o=none:=hr
    exact .some (by first | rw [hr] | exact Prod.ext hr rfl)
   ·obtain ⟨l,h1,rfl⟩:=hr
    exact .some (by rw [h1])
theorem zFc (db:List Ls) (a b:Int) (hl:Cb db) (he:∀l∈db,Cb l.e):QE (db,a,b,())=some (Sh db a b,()):=by
  unfold QE
  simp only [L5 db a hl,Option.bind_some]
  have loop:∀(x y:Int) (es:List En),Cb es→Aa (lp PE Ea (b,0,x,y,es,())) fun r=>match r with| .inl _=>ec es b=0| .inr z=>z.1=ec es b:=fun x y es hf=>by
    refine Aa.count es.length (fun k t=>t=(b,(k:Int),x,y,es,())∧∀i,i<k→(en es i).n≠b) ?_ (Nat.zero_le _) (Ib (by omega)) ⟨rfl,fun i hi=>by omega⟩
    rintro k t hk ⟨rfl,hok⟩
    simp (disch:=omega) only [PE,YA,Ua,Ma,Ta]
    repeat' (first
      |refine Aa.some ?_
      |fail
      |(refine Aa.gd (by first|exact Ia (by omega) (by omega)|(simp (disch:=omega) only [Ma];exact Ia (by omega) (by omega))) ?_)
      |(refine Aa.ite (fun h=>?_) (fun h=>?_)<;>try simp only [decide_eq_true_eq,decide_eq_false_iff_not,Bool.not_eq_true',Bool.not_eq_false',Ih,Jh,Bool.and_eq_true,Bool.or_eq_true,Bool.and_eq_false_iff,Bool.or_eq_false_iff,El] at h))
    all_goals try dsimp only
    ·have hlt:k<es.length:=by omega
     unfold ec
     rw [OR (k:=k) hlt (decide_eq_true (by rw [←Qj hlt];assumption)) fun i hi hik=>dF (by rw [←Qj hi];exact hok i hik),Qj hlt]
    ·refine ⟨by omega,rfl,fun i hi=>?_⟩
     by_cases e:i<k
     ·exact hok i e
     ·obtain rfl:i=k:=by omega
      assumption
    ·unfold ec
     rw [PR (p:=fun e:En=>decide (e.n=b)) (l:=es) fun i hi=>dF (by rw [←Qj hi];exact hok i (by omega))]
  unfold Sh
  cases h:fd db a with
  |none =>
   refine Aa.out (Aa.bnd (loop 0 0 [] (by simp)) ?_)
   rintro (r|r) hr
   ·exact .some rfl
   ·obtain ⟨z,u⟩:=r
    have hr:z=ec [] b:=hr
    exact .some (by rw [hr];rfl)
  |some l =>
   have hm:l∈db:=List.mem_of_find?_eq_some h
   refine Aa.out (Aa.bnd (loop l.o l.s l.e (he l hm)) ?_)
   rintro (r|r) hr
   ·have hr:ec l.e b=0:=hr
    exact .some (by dsimp only;rw [hr])
   ·obtain ⟨z,u⟩:=r
    have hr:z=ec l.e b:=hr
    exact .some (by first | rw [hr] | exact Prod.ext hr rfl)
end
section
open Go.RowKit
theorem yAa {i j:Nat} (h:i+j≤4611686018427387904):wrap64 (Bl .u64 (Nd .u64 (wrap64 ((i:Int)+(j:Int)))) 1)=(((i+j) / 2:Nat):Int):=by
  rw [Ma (x:=(i:Int)+j) (by omega) (by omega)]
  have e:Nd .u64 ((i:Int)+j)=(i:Int)+j:=by
    simp [Nd,IntKind.wrap,IntKind.signed,IntKind.bits]
    omega
  rw [e]
  unfold Bl
  rw [show (1:Int).toNat=1 from rfl,show min 1 (IntKind.bits .u64)=1 from rfl]
  rw [Int.fdiv_eq_ediv_of_nonneg _ (by decide)]
  rw [Ma (by omega) (by omega)]
  omega
def ZA (db:List Ls) (o:Int) (i:Nat):Prop:=i≤db.length∧(∀x,x<i→(Jb db x).o<o)∧∀x,i≤x→x<db.length→o≤(Jb db x).o
def Sj (db:List Ls) (o:Int) (i:Nat):Bool:=decide (i<db.length∧(Jb db i).o=o)
def Vk (db:List Ls):Prop:=∀i j,i<j→j<db.length→(Jb db i).o<(Jb db j).o
theorem Jd.srt {db:List Ls} (h:Jd db):Vk db:=by
  have step:∀d i,i+d+1<db.length→(Jb db i).o<(Jb db (i+d+1)).o:=fun d=>by
    induction d with
    |zero=>intro i hi;exact (h (i+1) hi).2 (by omega)
    |succ d ih =>
     intro i hi
     have h1:=ih i (by omega)
     have h2:=(h (i+(d+1)+1) hi).2 (by omega)
     rw [Nat.add_sub_cancel] at h2
     rw [show i+(d+1)=i+d+1 by omega] at h2 ⊢
     omega
  intro i j hij hj
  have:=step (j-i-1) i (by omega)
  rwa [show i+(j-i-1)+1=j by omega] at this
theorem iJ (a b:Int):GE (a,b,())=some (if a<b then -1 else if b<a then 1 else 0,()):=by
  have e:∀x:Int,FE (x,())=some (false,()):=fun x=>by simp [FE]
  unfold GE
  simp only [e,Option.bind_some,cond_false]
  by_cases h1:a<b
  ·simp [h1]
  ·by_cases h2:b<a<;>simp [h1,h2]
theorem iK (db:List Ls) (o:Int) (hs:Vk db) (hl:db.length≤2000000000):∃i:Nat,ZA db o i∧Bz (db,o,())=some ((i:Int),Sj db o i,()):=by
  have hmono:∀i j,i≤j→j<db.length→(Jb db i).o≤(Jb db j).o:=fun i j hij hj=>by
    rcases Nat.eq_or_lt_of_le hij with e|e
    ·subst e;exact Int.le_refl _
    ·have:=hs i j e hj;omega
  have key:Aa (Bz (db,o,())) fun r=>∃i:Nat,ZA db o i∧r=((i:Int),Sj db o i,()):=by
    unfold Bz ZX
    refine Aa.bnd (R:=fun r=>∃i:Nat,ZA db o i∧r=((i:Int),Sj db o i,())) (Aa.bnd (R:=fun r=>match r with| .inl x=>∃i:Nat,ZA db o i∧x=(db,o,(db.length:Int),(i:Int),())| .inr _=>False) ?_ ?_) ?_
    ·refine Aa.loop (fun s=>∃i j:Nat,s=(db,o,(db.length:Int),(i:Int),(j:Int),())∧i≤j∧j≤db.length∧(∀x,x<i→(Jb db x).o<o)∧∀x,j≤x→x<db.length→o≤(Jb db x).o) (fun s=>(s.2.2.2.2.1-s.2.2.2.1).toNat) ?_ Ea _ ?_ ?_
     ·rintro _ ⟨i,j,rfl,hij,hj,h1,h2⟩
      simp only [NO,yAa (show i+j≤4611686018427387904 by omega),Sg,Ua,KE,iJ,Option.bind_some]
      refine Aa.ite (fun hlt=>?_) (fun hlt=>?_)
      ·have hlt:=oT hlt
       have hm:(i+j) / 2<j∧i≤(i+j) / 2:=by omega
       generalize (i+j) / 2=m at *
       refine Aa.gd (Ia (by omega) (by omega)) (Aa.ite (fun hc=>?_) (fun hc=>?_))
       ·have hc:=oT hc
        have hc:(Jb db m).o<o:=by
          by_cases h:(Jb db m).o<o
          ·exact h
          ·rw [if_neg h] at hc
           split at hc<;>omega
        rw [Ma (by omega) (by omega)]
        refine .some ⟨⟨m+1,j,rfl,by omega,hj,fun x hx=>?_,h2⟩,by dsimp only;omega⟩
        have:=hmono x m (by omega) (by omega)
        omega
       ·have hc:=oF hc
        have hc:o≤(Jb db m).o:=by
          by_cases h:(Jb db m).o<o
          ·rw [if_pos h] at hc;omega
          ·omega
        refine .some ⟨⟨i,m,rfl,by omega,by omega,h1,fun x hx hxl=>?_⟩,by dsimp only;omega⟩
        have:=hmono m x hx hxl
        omega
      ·have hlt:=oF hlt
       obtain rfl:i=j:=by omega
       exact .some ⟨i,⟨hj,h1,h2⟩,rfl⟩
     ·rw [Ta];dsimp only;unfold Ea;omega
     ·exact ⟨0,db.length,by rw [Ta];rfl,by omega,by omega,fun x hx=>by omega,fun x hx hxl=>by omega⟩
    ·rintro (r|r) hr
     case inr=>exact hr.elim
     obtain ⟨i,hi,rfl⟩:=hr
     simp only [Sg,Ua,KE,iJ,Option.bind_some]
     refine Aa.ite (fun hlt=>?_) (fun hlt=>?_)
     ·have hlt:=oT hlt
      refine Aa.gd (Ia (by omega) (by omega)) (.some ⟨i,hi,?_⟩)
      have hge:=hi.2.2 i (Nat.le_refl _) (by omega)
      unfold Sj
      by_cases h:(Jb db i).o=o
      ·rw [decide_eq_true (show i<db.length∧(Jb db i).o=o from ⟨by omega,h⟩),h,if_neg (by omega),if_neg (by omega)];rfl
      ·rw [dF (show ¬(i<db.length∧(Jb db i).o=o) from fun g=>h g.2),if_neg (by omega),if_pos (by omega)];rfl
     ·have hlt:=oF hlt
      refine .some ⟨i,hi,?_⟩
      unfold Sj
      rw [dF (show ¬(i<db.length∧(Jb db i).o=o) from fun g=>by omega)]
    ·rintro _ ⟨i,hi,rfl⟩
     exact .some ⟨i,hi,rfl⟩
  obtain ⟨r,h1,i,h2,h3⟩:=key
  exact ⟨i,h2,by rw [h1,h3]⟩
theorem iL {db:List Ls} {o:Int} {i:Nat} (hs:Vk db) (h:ZA db o i):fd db o=if Sj db o i then some (Jb db i) else none:=by
  unfold Sj
  by_cases hc:i<db.length∧(Jb db i).o=o
  ·rw [decide_eq_true hc,if_pos rfl]
   unfold fd
   rw [Id hc.1]
   exact OR hc.1 (decide_eq_true (by rw [←Id hc.1];exact hc.2)) fun x hx hxi=>dF (by rw [←Id hx];have:=h.2.1 x hxi;omega)
  ·rw [dF hc]
   unfold fd
   refine PR (p:=fun l:Ls=>decide (l.o=o)) (l:=db) fun x hx=>dF ?_
   rw [←Id hx]
   rcases Nat.lt_or_ge x i with h1|h1
   ·have:=h.2.1 x h1;omega
   ·intro e
    have h2:=h.2.2 x h1 hx
    have h3:=h.2.2 i (Nat.le_refl _) (by omega)
    rcases Nat.eq_or_lt_of_le h1 with e2|e2
    ·subst e2;exact hc ⟨hx,e⟩
    ·have:=hs i x e2 hx;omega
end
section
open Go.RowKit
theorem QR:∀{l l':List Int},l.Pairwise (·<·)→l'.Pairwise (·<·)→(∀x,x∈l↔x∈l')→l=l'
  |[],[],_,_,_=>rfl
  |[],y::s,_,_,h=>by have:=(h y).2 (List.mem_cons_self ..);simp at this
  |x::r,[],_,_,h=>by have:=(h x).1 (List.mem_cons_self ..);simp at this
  |x::r,y::s,h1,h2,h=>by
   have h1:=List.pairwise_cons.1 h1
   have h2:=List.pairwise_cons.1 h2
   have e:x=y:=by
     rcases List.mem_cons.1 ((h x).1 (List.mem_cons_self ..)) with e|hx
     ·exact e
     ·rcases List.mem_cons.1 ((h y).2 (List.mem_cons_self ..)) with e|hy
      ·exact e.symm
      ·have q1:=h1.1 y hy
       have q2:=h2.1 x hx
       omega
   subst e
   have:r=s:=QR h1.2 h2.2 fun z=>by
     constructor
     ·intro hz
      rcases List.mem_cons.1 ((h z).1 (List.mem_cons_of_mem _ hz)) with e|hz'
      ·subst e;have:=h1.1 z hz;omega
      ·exact hz'
     ·intro hz
      rcases List.mem_cons.1 ((h z).2 (List.mem_cons_of_mem _ hz)) with e|hz'
      ·subst e;have:=h2.1 z hz;omega
      ·exact hz'
   rw [this]
theorem yAb {x:Int} {l:List Int}:x∈Pg l↔x∈l:=List.mem_mergeSort
theorem yAc {l:List Int} (h:l.Pairwise (·≠·)):(Pg l).Pairwise (·<·):=by
  have h1:(Pg l).Pairwise (fun a b=>decide (a≤b)=true):=List.pairwise_mergeSort (fun a b c h1 h2=>decide_eq_true (by have:=oT h1;have:=oT h2;omega)) (fun a b=>by simp;omega) l
  have h2:(Pg l).Nodup:=(List.mergeSort_perm l _).nodup_iff.2 h
  refine List.Pairwise.imp ?_ (List.Pairwise.and h1 h2)
  rintro a b ⟨q1,q2⟩
  have:=oT q1
  omega
theorem SJ (ls:List Lk) (m:Int) (k:Nat):(Hc ls m k).Pairwise (·<·):=by
  unfold Hc
  rw [List.pairwise_map]
  refine List.Pairwise.imp ?_ (List.Pairwise.filter _ (List.pairwise_lt_range (n:=k)))
  intro a b h
  omega
theorem Zi {ls:List Lk} {m x:Int} {k:Nat}:x∈Hc ls m k↔∃j:Nat,j<k∧x=j∧(lc ls m j).isSome=true:=by
  unfold Hc
  rw [List.mem_map]
  constructor
  ·rintro ⟨j,hj,rfl⟩
   obtain ⟨h1,h2⟩:=List.mem_filter.1 hj
   exact ⟨j,List.mem_range.1 h1,rfl,by rw [GD];exact h2⟩
  ·rintro ⟨j,h1,rfl,h2⟩
   rw [GD] at h2
   exact ⟨j,List.mem_filter.2 ⟨List.mem_range.2 h1,h2⟩,rfl⟩
section
variable {N:Nat} {ls:List Lk}
theorem yAd (g:GV N ls) {m:Int} {x:Int}:x∈Og ls m ls.length↔(lc ls m x).isSome=true:=by
  unfold Og
  rw [List.mem_map,List.take_of_length_le (Nat.le_refl _)]
  constructor
  ·rintro ⟨l,hl,rfl⟩
   obtain ⟨h1,h2⟩:=List.mem_filter.1 hl
   have ho:=g.ok h1
   unfold Jg at ho
   have h2:m=l.a∨m=l.b:=oT h2
   unfold Xq
   by_cases e:m=l.a
   ·rw [if_pos e,e,NW g.pw h1 (by omega)];rfl
   ·have e2:=h2.resolve_left e
    rw [if_neg e,if_pos e2,e2,FD,NW g.pw h1 (by omega)];rfl
  ·intro h
   obtain ⟨c,hc⟩:=Option.isSome_iff_exists.1 h
   have hm:=Zq hc
   have ho:=g.ok hm
   unfold Jg at ho
   dsimp only at ho
   refine ⟨_,List.mem_filter.2 ⟨hm,decide_eq_true (by dsimp only;omega)⟩,?_⟩
   unfold Xq
   dsimp only
   split
   ·omega
   ·rw [if_pos (by omega)];omega
theorem yAe (g:GV N ls) (m:Int):(Og ls m ls.length).Pairwise (·≠·):=by
  unfold Og
  rw [List.take_of_length_le (Nat.le_refl _),List.pairwise_map]
  refine List.Pairwise.imp_of_mem ?_ (List.Pairwise.filter _ g.pw)
  intro a b ha hb hab
  obtain ⟨ha,ea⟩:=List.mem_filter.1 ha
  obtain ⟨hb,eb⟩:=List.mem_filter.1 hb
  have oa:=g.ok ha
  have ob:=g.ok hb
  have ea:m=a.a∨m=a.b:=oT ea
  have eb:m=b.a∨m=b.b:=oT eb
  unfold Jg at oa ob
  unfold Re at hab
  unfold Xq
  split<;>split<;>(try split)<;>(try split)<;>omega
theorem TJ (g:GV N ls) {m x:Int} (h:(lc ls m x).isSome=true):0≤x∧x<N∧0≤m∧m<N∧x≠m:=by
  obtain ⟨c,hc⟩:=Option.isSome_iff_exists.1 h
  have ho:=g.ok (Zq hc)
  unfold Jg at ho
  dsimp only at ho
  omega
theorem M5 (g:GV N ls) (m:Int):Pg (Og ls m ls.length)=Hc ls m N:=by
  refine QR (yAc (yAe g m)) (SJ ls m N) fun x=>?_
  rw [yAb,yAd g,Zi]
  constructor
  ·intro h
   have:=TJ g h
   exact ⟨x.toNat,by omega,by omega,by rw [show ((x.toNat:Nat):Int)=x by omega];exact h⟩
  ·rintro ⟨j,_,rfl,h⟩;exact h
def Pc (ls:List Lk) (N:Nat) (o:Int):List En:=(Hc ls o N).map fun n=>⟨n,(lc ls o n).getD 0⟩
theorem iM (g:GV N ls) (o s:Int):Cz ((N:Int),ls,o,s,())=some (o,s,Pc ls N o,()):=by
  have h8:=g.2.1
  have fl:Cb ls:=(show Cb ls by have:=g.2.2.1;unfold Cb;omega)
  unfold Cz
  simp only [K5 (N:Int) ls o (by have:=g.2.2.1;omega),M5 g o,Option.bind_some,Ta]
  have hlen:=Yq ls o N
  have hmem:∀x∈Hc ls o N,∃c,lc ls o x=some c:=fun x hx=>by
    obtain ⟨j,_,rfl,h⟩:=Zi.1 hx
    exact Option.isSome_iff_exists.1 h
  unfold Pc
  generalize Hc ls o N=nb at *
  refine Aa.out (Aa.bnd (R:=fun r=>match r with| .inl x=>x=(0,0,o,s,[],nb.map fun n=>⟨n,(lc ls o n).getD 0⟩,())| .inr _=>False) ?_ ?_)
  ·refine Aa.count nb.length (fun k t=>t=(o,(nb.length:Int),(k:Int),(N:Int),ls,0,0,o,s,nb,[],(nb.take k).map (fun n=>(⟨n,(lc ls o n).getD 0⟩:En)),())) ?_ (Nat.zero_le _) (Ib (by omega)) (by simp)
   rintro k t hk rfl
   by_cases hlt:k<nb.length
   ·obtain ⟨c,hc⟩:=hmem (iz nb k) (List.mem_of_getElem? (Xg hlt))
    obtain ⟨h1,h2,h3⟩:=Bp hc
    simp (disch:=omega) only [NE,Uc,Ef,Ua,Ma,J5 _ _ _ _ fl,Option.bind_some,List.length_singleton,List.length_map]
    refine Aa.gd (decide_eq_true (by omega)) (Aa.gd (Ia (by omega) (by omega)) (Aa.gd (Ia h1 h2) (Aa.gd (decide_eq_true (by simp;omega)) (.some ⟨hlt,?_⟩))))
    rw [h3,List.take_add_one,Xg hlt]
    simp [hc]
   ·obtain rfl:k=nb.length:=by omega
    unfold NE
    simp only [dF (show ¬(nb.length:Int)<nb.length by omega),cond_false,List.take_length]
    exact .some rfl
  ·rintro (r|r) hr
   case inr=>exact hr.elim
   obtain rfl:=hr
   exact .some rfl
theorem iN (o:Int):(Pc ls N o).length≤N:=by unfold Pc;rw [List.length_map];exact Yq ls o N
theorem iO (g:GV N ls) (o s:Int):Cs ((N:Int),ls,o,s,())=some (o,s,Pc ls N o,()):=by
  have h8:=g.2.1
  have fl:Cb ls:=(show Cb ls by have:=g.2.2.1;unfold Cb;omega)
  unfold Cs
  refine Aa.out (Aa.bnd (R:=fun r=>match r with| .inl x=>x=(0,0,[],o,s,Pc ls N o,())| .inr _=>False) ?_ ?_)
  ·refine Aa.count N (fun k t=>t=(o,(k:Int),(N:Int),ls,0,0,[],o,s,(Hc ls o k).map (fun n=>(⟨n,(lc ls o n).getD 0⟩:En)),())) ?_ (Nat.zero_le _) (Ib (by omega)) (by simp [Hc])
   rintro k t hk rfl
   have hlen:=Yq ls o k
   simp (disch:=omega) only [z6,Ef,Ua,Ma,QJ _ _ _ _ fl,Option.bind_some,List.length_singleton,List.length_map]
   refine Aa.ite (fun hlt=>?_) (fun hlt=>?_)
   ·have hlt:=oT hlt
    cases hc:lc ls o k with
    |none =>
     refine Aa.no (by rw [dJ hc];rfl) (.some ⟨by omega,?_⟩)
     rw [KW,if_neg (by rw [dJ hc];omega)]
     rfl
    |some c =>
     obtain ⟨h1,h2,h3⟩:=Bp hc
     refine Aa.gd (decide_eq_true h1) (Aa.gd (Ia h1 h2) (Aa.gd (decide_eq_true (by omega)) (.some ⟨by omega,?_⟩)))
     rw [KW,if_pos h1,h3]
     simp [hc]
   ·have hlt:=oF hlt
    obtain rfl:k=N:=by omega
    exact .some rfl
  ·rintro (r|r) hr
   case inr=>exact hr.elim
   obtain rfl:=hr
   exact .some rfl
end
end
section
open Go.RowKit
theorem zD3 (db:List Ls) (a b:Int) (hs:Vk db) (hl:db.length≤2000000000) (he:∀l∈db,Cb l.e):LE (db,a,b,())=some (Sh db a b,()):=by
  obtain ⟨i,hi,e⟩:=iK db a hs hl
  unfold LE
  rw [e]
  dsimp only [Option.bind_some]
  unfold Sh
  rw [iL hs hi]
  refine Aa.out ?_
  rcases mH (Sj db a i) with h|h
  ·refine Aa.gd (by rw [h];rfl) ?_
   rw [h]
   exact .some rfl
  ·refine Aa.no (by rw [h];rfl) ?_
   have hh:=oT h
   refine Aa.gd (Ia (by omega) (by omega)) ?_
   rw [if_pos h,Sg,Ua,Ta]
   dsimp only
   have hf:Cb (Jb db i).e:=he _ (by rw [Id hh.1];exact List.getElem_mem hh.1)
   generalize (Jb db i).e=es at *
   refine Aa.bnd (R:=fun r=>match r with| .inl _=>ec es b=0| .inr z=>z.1=ec es b) ?_ ?_
   ·refine Aa.count es.length (fun k t=>t=(b,es,(es.length:Int),(k:Int),())∧∀i,i<k→(en es i).n≠b) ?_ (Nat.zero_le _) (Ib (by omega)) ⟨rfl,fun i hi=>by omega⟩
    rintro k t hk ⟨rfl,hok⟩
    simp (disch:=omega) only [OO,YA,Ua,Ma,Ta]
    repeat' (first
      |refine Aa.some ?_
      |fail
      |(refine Aa.gd (by first|exact Ia (by omega) (by omega)|(simp (disch:=omega) only [Ma];exact Ia (by omega) (by omega))) ?_)
      |(refine Aa.ite (fun h=>?_) (fun h=>?_)<;>try simp only [decide_eq_true_eq,decide_eq_false_iff_not,Bool.not_eq_true',Bool.not_eq_false',Ih,Jh,Bool.and_eq_true,Bool.or_eq_true,Bool.and_eq_false_iff,Bool.or_eq_false_iff,El] at h))
    all_goals try dsimp only
    ·have hlt:k<es.length:=by omega
     unfold ec
     rw [OR (k:=k) hlt (decide_eq_true (by rw [←Qj hlt];assumption)) fun i hi hik=>dF (by rw [←Qj hi];exact hok i hik),Qj hlt]
    ·refine ⟨by omega,rfl,fun i hi=>?_⟩
     by_cases e:i<k
     ·exact hok i e
     ·obtain rfl:i=k:=by omega
      assumption
    ·unfold ec
     rw [PR (p:=fun e:En=>decide (e.n=b)) (l:=es) fun i hi=>dF (by rw [←Qj hi];exact hok i (by omega))]
   ·rintro (r|r) hr
    ·have hr:ec es b=0:=hr
     exact .some (by first | rw [hr] | exact Prod.ext hr rfl)
    ·obtain ⟨z,u⟩:=r
     have hr:z=ec es b:=hr
     exact .some (by first | rw [hr] | exact Prod.ext hr rfl)
def Ed (db:List Ls) (a b:Nat):Option Int:=if 0<Sh db a b∧0<Sh db b a then some (max (Sh db a b) (Sh db b a)) else none
section
variable {db:List Ls} {N:Nat}
theorem iP {a b:Nat}:cell (Ed db) a b=if 0<Sh db a b∧0<Sh db b a then [⟨a,b,max (Sh db a b) (Sh db b a)⟩] else []:=by
  unfold cell Ed
  split<;>rename_i h
  ·split at h
   ·rename_i h2
    injection h with h
    rw [if_pos h2,←h]
   ·cases h
  ·split at h
   ·cases h
   ·rename_i h2
    rw [if_neg h2]
theorem zEd (hl:Cb db) (he:∀l∈db,Cb l.e) (h8:N≤8) {n:Nat} (hn:n<N) (x4 x6:Int) (xl xo:List Lk) (ho:xo.length≤1000):Aa (lp RE Ea ((N:Int),db,(n:Int),wrap64 ((n:Int)+1),x4,xl,x6,xo,())) fun r=>match r with
      | .inl x=>x=((N:Int),db,(n:Int),x4,xl,x6,xo++Se (Ed db) n (N-1-n),())
      | .inr _=>False:=by
  refine Aa.count (N-1-n) (fun k s=>s=((N:Int),db,(n:Int),((n+1+k:Nat):Int),x4,xl,x6,xo++Se (Ed db) n k,())) ?_ (Nat.zero_le _) (Ib (by omega)) (by rw [Ma (by omega) (by omega)];simp [Se])
  rintro k s hk rfl
  have hlen:=MW (Ed db) n k
  have Dd:∀c:List Lk,cell (Ed db) n (n+1+k)=c→k<N-1-n→((N:Int),db,(n:Int),wrap64 (((n+1+k:Nat):Int)+1),x4,xl,x6,(xo++Se (Ed db) n k)++c,())=((N:Int),db,(n:Int),((n+1+(k+1):Nat):Int),x4,xl,x6,xo++Se (Ed db) n (k+1),()):=fun c hc hk=>by
    rw [CD,hc,Ma (by omega) (by omega),List.append_assoc]
    rfl
  simp only [RE,zFc _ _ _ hl he,Option.bind_some,List.length_singleton,List.length_append]
  refine Aa.ite (fun hlt=>?_) (fun hlt=>?_)
  ·have hlt:=oT hlt
   have hkN:k<N-1-n:=by omega
   have hcell:=iP (db:=db) (a:=n) (b:=n+1+k)
   refine Aa.ite (fun h1=>Aa.ite (fun h2=>?_) (fun h2=>?_)) (fun h1=>?_)
   ·have h1:=oT h1
    have h2:=oT h2
    rw [if_pos ⟨h1,h2⟩] at hcell
    exact Aa.gd (decide_eq_true (by omega)) (.some ⟨hkN,Dd _ hcell hkN⟩)
   ·have h2:=oF h2
    rw [if_neg fun h=>h2 h.2] at hcell
    have:=Dd _ hcell hkN
    rw [List.append_nil] at this
    exact .some ⟨hkN,this⟩
   ·have h1:=oF h1
    rw [if_neg fun h=>h1 h.1] at hcell
    have:=Dd _ hcell hkN
    rw [List.append_nil] at this
    exact .some ⟨hkN,this⟩
  ·have hlt:=oF hlt
   obtain rfl:k=N-1-n:=by omega
   exact .some rfl
theorem iQ {k:Nat} (h8:N≤8) (hk:k≤N):k*N≤64:=Nat.le_trans (Nat.mul_le_mul hk (Nat.le_refl N)) (Nat.le_trans (Nat.mul_le_mul h8 h8) (by omega))
theorem zFe (hl:Cb db) (he:∀l∈db,Cb l.e) (h8:N≤8):UO ((N:Int),db,())=some ((N:Int),Ag (Ed db) N,()):=by
  unfold UO
  refine Aa.out (Aa.bnd (R:=fun r=>match r with| .inl x=>x.2.2.1=(N:Int)∧x.2.2.2.1=Ag (Ed db) N| .inr _=>False) ?_ ?_)
  ·refine Aa.count N (fun k s=>s=((N:Int),db,(k:Int),0,[],(N:Int),Hi (Ed db) N k,())) ?_ (Nat.zero_le _) (Ib (by omega)) rfl
   rintro k s hk rfl
   have hlen:=dH (Ed db) N k
   have hkN:=iQ h8 hk
   unfold TO
   dsimp only
   refine Aa.ite (fun hlt=>?_) (fun hlt=>?_)
   ·have hlt:=oT hlt
    have hkl:k<N:=by omega
    refine Aa.bnd (zEd hl he h8 hkl 0 (N:Int) [] _ (by omega)) ?_
    rintro (r|r) hr
    case inr=>exact hr.elim
    obtain rfl:=hr
    refine .some ⟨hkl,?_⟩
    dsimp only
    rw [DD,Ma (by omega) (by omega)]
    rfl
   ·have hlt:=oF hlt
    obtain rfl:k=N:=by omega
    exact .some ⟨rfl,rfl⟩
  ·rintro (r|r) hr
   case inr=>exact hr.elim
   have hr:r.2.2.1=(N:Int)∧r.2.2.2.1=Ag (Ed db) N:=hr
   exact .some (by first | rw [hr.1,hr.2] | exact Prod.ext hr.1 (Prod.ext hr.2 rfl))
theorem zEc (hs:Vk db) (hl:db.length≤2000000000) (he:∀l∈db,Cb l.e) (h8:N≤8) {n:Nat} (hn:n<N) (x4 x6 x7:Int) (xl xo:List Lk) (ho:xo.length≤1000):Aa (lp OE Ea ((N:Int),db,(n:Int),wrap64 ((n:Int)+1),x4,(n:Int),x6,x7,xl,xo,())) fun r=>match r with
      | .inl x=>x=((N:Int),db,x4,(n:Int),x6,x7,xl,xo++Se (Ed db) n (N-1-n),())
      | .inr _=>False:=by
  refine Aa.count (N-1-n) (fun k s=>s=((N:Int),db,(n:Int),((n+1+k:Nat):Int),x4,(n:Int),x6,x7,xl,xo++Se (Ed db) n k,())) ?_ (Nat.zero_le _) (Ib (by omega)) (by rw [Ma (by omega) (by omega)];simp [Se])
  rintro k s hk rfl
  have hlen:=MW (Ed db) n k
  have Dd:∀c:List Lk,cell (Ed db) n (n+1+k)=c→k<N-1-n→((N:Int),db,(n:Int),wrap64 (((n+1+k:Nat):Int)+1),x4,(n:Int),x6,x7,xl,(xo++Se (Ed db) n k)++c,())=((N:Int),db,(n:Int),((n+1+(k+1):Nat):Int),x4,(n:Int),x6,x7,xl,xo++Se (Ed db) n (k+1),()):=fun c hc hk=>by
    rw [CD,hc,Ma (by omega) (by omega),List.append_assoc]
    rfl
  simp only [OE,zD3 _ _ _ hs hl he,Option.bind_some,List.length_singleton,List.length_append]
  refine Aa.ite (fun hlt=>?_) (fun hlt=>?_)
  ·have hlt:=oT hlt
   have hkN:k<N-1-n:=by omega
   have hcell:=iP (db:=db) (a:=n) (b:=n+1+k)
   refine Aa.ite (fun h1=>Aa.ite (fun h2=>?_) (fun h2=>?_)) (fun h1=>?_)
   ·have h1:=oT h1
    have h2:=oT h2
    rw [if_pos ⟨h1,h2⟩] at hcell
    exact Aa.gd (decide_eq_true (by omega)) (.some ⟨hkN,Dd _ hcell hkN⟩)
   ·have h2:=oF h2
    rw [if_neg fun h=>h2 h.2] at hcell
    have:=Dd _ hcell hkN
    rw [List.append_nil] at this
    exact .some ⟨hkN,this⟩
   ·have h1:=oF h1
    rw [if_neg fun h=>h1 h.1] at hcell
    have:=Dd _ hcell hkN
    rw [List.append_nil] at this
    exact .some ⟨hkN,this⟩
  ·have hlt:=oF hlt
   obtain rfl:k=N-1-n:=by omega
   exact .some rfl
end
def RR (n:Int) (db:List Ls):Bool:=Db n 1 8&&Rh db&&decide ((Ag (Ed db) n.toNat).length≤14)
theorem zDO (n:Int) (db:List Ls) (hl:db.length≤2000000000) (he:∀l∈db,Cb l.e):SO (n,db,())=some (if RR n db then (n,true,Ag (Ed db) n.toNat,()) else (0,false,[],())):=by
  unfold SO RR
  simp only [Bm,zDP db (show Cb db by unfold Cb;omega) he,Option.bind_some]
  cases h1:Db n 1 8 with
  |false=>rfl
  |true =>
  cases h2:Rh db with
  |false=>rfl
  |true =>
  have h1:=De h1
  have hs:Vk db:=Jd.srt (oT h2)
  obtain ⟨N,rfl⟩:=Int.eq_ofNat_of_zero_le (show 0≤n by omega)
  have h8:N≤8:=by omega
  rw [Int.toNat_natCast]
  simp only [Bool.not_true,cond_false,Bool.true_and,Bool.and_self]
  refine Aa.out (Aa.bnd (R:=fun r=>match r with| .inl x=>x.2.1=(N:Int)∧x.2.2.2.1=Ag (Ed db) N| .inr _=>False) ?_ ?_)
  ·refine Aa.count N (fun k s=>s=((N:Int),db,(N:Int),(k:Int),0,(N:Int),[],Hi (Ed db) N k,())) ?_ (Nat.zero_le _) (Ib (by omega)) rfl
   rintro k s hk rfl
   have hlen:=dH (Ed db) N k
   have hkN:=iQ h8 hk
   unfold RO
   dsimp only
   refine Aa.ite (fun hlt=>?_) (fun hlt=>?_)
   ·have hlt:=oT hlt
    have hkl:k<N:=by omega
    refine Aa.bnd (zEc hs hl he h8 hkl (N:Int) 0 (N:Int) [] _ (by omega)) ?_
    rintro (r|r) hr
    case inr=>exact hr.elim
    obtain rfl:=hr
    refine .some ⟨hkl,?_⟩
    dsimp only
    rw [DD,Ma (by omega) (by omega)]
    rfl
   ·have hlt:=oF hlt
    obtain rfl:k=N:=by omega
    exact .some ⟨rfl,rfl⟩
  ·rintro (r|r) hr
   case inr=>exact hr.elim
   have hr:r.2.1=(N:Int)∧r.2.2.2.1=Ag (Ed db) N:=hr
   dsimp only
   rw [hr.1,hr.2,Ta]
   by_cases h14:(Ag (Ed db) N).length≤14
   ·refine Aa.no (dF (by omega)) (.some ?_)
    rw [decide_eq_true h14];first|rfl|exact congrArg (fun z=>((N:Int),true,z)) (Prod.ext hr.2 rfl)
   ·refine Aa.gd (decide_eq_true (by omega)) (.some ?_)
    rw [dF h14];rfl
end
section
open Go.RowKit
abbrev Jc (db:List Ls):Prop:=db.Pairwise fun x y=>x.o<y.o
theorem Ki {db:List Ls}:Vk db↔Jc db:=by
  unfold Jc
  rw [List.pairwise_iff_getElem]
  constructor
  ·intro h i j hi hj hij
   have:=h i j hij hj
   rwa [Id hi,Id hj] at this
  ·intro h i j hij hj
   rw [Id (show i<db.length by omega),Id hj]
   exact h i j (by omega) hj hij
theorem Ao {db:List Ls}:Jd db↔(∀l∈db,Ff l)∧Jc db:=by
  constructor
  ·intro h
   refine ⟨fun l hl=>?_,Ki.1 h.srt⟩
   obtain ⟨i,hi,rfl⟩:=List.getElem_of_mem hl
   have:=(h i hi).1
   rwa [Id hi] at this
  ·rintro ⟨h1,h2⟩ i hi
   refine ⟨?_,fun h0=>Ki.2 h2 (i-1) i (by omega) hi⟩
   rw [Id hi]
   exact h1 _ (List.getElem_mem hi)
def Tj (db:List Ls) (l:Ls):List Ls:=db.filter (fun x=>decide (x.o<l.o))++l::db.filter (fun x=>decide (l.o<x.o))
def Fe (db:List Ls) (l:Ls):Int:=match fd db l.o with|some old=>if old.s=l.s then 1 else if l.s<old.s then 2 else 0|none=>0
def Mc (db:List Ls) (l:Ls):List Ls:=if Fe db l=0 then Tj db l else db
theorem Uj {db:List Ls} {l x:Ls}:x∈Tj db l↔x=l∨x∈db∧x.o≠l.o:=by
  unfold Tj
  rw [List.mem_append,List.mem_cons,List.mem_filter,List.mem_filter]
  simp only [decide_eq_true_eq]
  constructor
  ·rintro (⟨h1,h2⟩|rfl|⟨h1,h2⟩)
   ·exact .inr ⟨h1,by omega⟩
   ·exact .inl rfl
   ·exact .inr ⟨h1,by omega⟩
  ·rintro (rfl|⟨h1,h2⟩)
   ·exact .inr (.inl rfl)
   ·rcases Int.lt_or_gt_of_ne h2 with h|h
    ·exact .inl ⟨h1,h⟩
    ·exact .inr (.inr ⟨h1,h⟩)
theorem UJ {db:List Ls} (h:Jc db) (l:Ls):Jc (Tj db l):=by
  unfold Tj Jc
  rw [List.pairwise_append,List.pairwise_cons]
  refine ⟨List.Pairwise.filter _ h,⟨fun x hx=>?_,List.Pairwise.filter _ h⟩,fun x hx y hy=>?_⟩
  ·exact oT (List.mem_filter.1 hx).2
  ·have h1:x.o<l.o:=oT (List.mem_filter.1 hx).2
   rcases List.mem_cons.1 hy with rfl|hy
   ·exact h1
   ·have h2:l.o<y.o:=oT (List.mem_filter.1 hy).2
    omega
theorem VJ {db:List Ls} (h:Jc db) (l:Ls):Jc (Mc db l):=by
  unfold Mc
  split
  ·exact UJ h l
  ·exact h
theorem N5 {db:List Ls} (h:Jd db) {l:Ls} (hl:Ff l):Jd (Mc db l):=by
  have:=Ao.1 h
  refine Ao.2 ⟨fun x hx=>?_,VJ this.2 l⟩
  unfold Mc at hx
  split at hx
  ·rcases Uj.1 hx with rfl|hx
   ·exact hl
   ·exact this.1 x hx.1
  ·exact this.1 x hx
theorem yAf {db:List Ls} (h:Jc db) {x y:Ls} (hx:x∈db) (hy:y∈db) (e:x.o=y.o):x=y:=by
  obtain ⟨i,hi,rfl⟩:=List.getElem_of_mem hx
  obtain ⟨j,hj,rfl⟩:=List.getElem_of_mem hy
  rcases Nat.lt_trichotomy i j with h1|h1|h1
  ·have:=List.pairwise_iff_getElem.1 h i j hi hj h1;omega
  ·subst h1;rfl
  ·have:=List.pairwise_iff_getElem.1 h j i hj hi h1;omega
theorem Vj {db:List Ls} (h:Jc db) {o:Int} {x:Ls}:fd db o=some x↔x∈db∧x.o=o:=by
  unfold fd
  constructor
  ·intro e
   exact ⟨List.mem_of_find?_eq_some e,oT (List.find?_some (p:=fun l:Ls=>decide (l.o=o)) e)⟩
  ·rintro ⟨hx,rfl⟩
   cases e:db.find? (fun l=>decide (l.o=x.o)) with
   |none =>
    have:=List.find?_eq_none.1 e x hx
    simp at this
   |some y =>
    have h1:=List.mem_of_find?_eq_some e
    have h2:y.o=x.o:=oT (List.find?_some (p:=fun l:Ls=>decide (l.o=x.o)) e)
    rw [yAf h h1 hx h2]
theorem WJ {db:List Ls} {o:Int}:fd db o=none↔∀x∈db,x.o≠o:=by
  unfold fd
  rw [List.find?_eq_none]
  constructor
  ·intro h x hx e;exact h x hx (decide_eq_true e)
  ·intro h x hx e;exact h x hx (oT e)
theorem iR {db:List Ls} (h:Jc db) (l:Ls) (o:Int):fd (Mc db l) o=if o=l.o∧Fe db l=0 then some l else fd db o:=by
  unfold Mc
  by_cases hc:Fe db l=0
  ·rw [if_pos hc]
   by_cases ho:o=l.o
   ·rw [if_pos ⟨ho,hc⟩]
    exact (Vj (UJ h l)).2 ⟨Uj.2 (.inl rfl),ho.symm⟩
   ·rw [if_neg fun g=>ho g.1]
    cases e:fd db o with
    |none =>
     rw [WJ] at e ⊢
     intro x hx
     rcases Uj.1 hx with rfl|⟨hx,_⟩
     ·exact fun g=>ho g.symm
     ·exact e x hx
    |some y =>
     obtain ⟨h1,h2⟩:=(Vj h).1 e
     exact (Vj (UJ h l)).2 ⟨Uj.2 (.inr ⟨h1,by omega⟩),h2⟩
  ·rw [if_neg hc,if_neg fun g=>hc g.2]
theorem O5:∀{a b:List Ls},Jc a→Jc b→(∀x,x∈a↔x∈b)→a=b
  |[],[],_,_,_=>rfl
  |[],y::s,_,_,h=>by have:=(h y).2 (List.mem_cons_self ..);simp at this
  |x::r,[],_,_,h=>by have:=(h x).1 (List.mem_cons_self ..);simp at this
  |x::r,y::s,h1,h2,h=>by
   have h1:=List.pairwise_cons.1 h1
   have h2:=List.pairwise_cons.1 h2
   have e:x=y:=by
     rcases List.mem_cons.1 ((h x).1 (List.mem_cons_self ..)) with e|hx
     ·exact e
     ·rcases List.mem_cons.1 ((h y).2 (List.mem_cons_self ..)) with e|hy
      ·exact e.symm
      ·have q1:=h1.1 y hy
       have q2:=h2.1 x hx
       omega
   subst e
   have:r=s:=O5 h1.2 h2.2 fun z=>by
     constructor
     ·intro hz
      rcases List.mem_cons.1 ((h z).1 (List.mem_cons_of_mem _ hz)) with e|hz'
      ·subst e;have:=h1.1 z hz;omega
      ·exact hz'
     ·intro hz
      rcases List.mem_cons.1 ((h z).2 (List.mem_cons_of_mem _ hz)) with e|hz'
      ·subst e;have:=h2.1 z hz;omega
      ·exact hz'
   rw [this]
theorem yAg {db:List Ls} (h:Jc db) {l:Ls} {i:Nat} (hi:i<db.length) (ho:(Jb db i).o=l.o):db.set i l=Tj db l:=by
  have hs:Jc (db.set i l):=by
    unfold Jc
    rw [List.pairwise_iff_getElem]
    intro a b ha hb hab
    rw [List.length_set] at ha hb
    have hp:=fun x y (hx:x<db.length) (hy:y<db.length) (hxy:x<y)=>List.pairwise_iff_getElem.1 h x y hx hy hxy
    rw [Id hi] at ho
    rw [List.getElem_set,List.getElem_set]
    split<;>split
    ·omega
    ·rename_i e1 e2;subst e1;have:=hp i b hi hb hab;omega
    ·rename_i e1 e2;subst e2;have:=hp a i ha hi hab;omega
    ·exact hp a b ha hb hab
  refine O5 hs (UJ h l) fun x=>?_
  rw [Uj]
  rw [Id hi] at ho
  constructor
  ·intro hx
   obtain ⟨j,hj,rfl⟩:=List.getElem_of_mem hx
   rw [List.length_set] at hj
   rw [List.getElem_set]
   split
   ·exact .inl rfl
   ·rename_i e
    refine .inr ⟨List.getElem_mem hj,fun g=>?_⟩
    rcases Nat.lt_or_gt_of_ne e with h1|h1
    ·have:=List.pairwise_iff_getElem.1 h i j hi hj h1;omega
    ·have:=List.pairwise_iff_getElem.1 h j i hj hi h1;omega
  ·rintro (rfl|⟨hx,hne⟩)
   ·exact List.mem_set hi x
   ·obtain ⟨j,hj,rfl⟩:=List.getElem_of_mem hx
    have e:i≠j:=by rintro rfl;exact hne ho
    have:(db.set i l)[j]'(by rw [List.length_set];exact hj)=db[j]:=by rw [List.getElem_set,if_neg e]
    rw [←this]
    exact List.getElem_mem _
theorem yAh {db:List Ls} (h:Jc db) {l:Ls} {i:Nat} (hp:ZA db l.o i) (hn:Sj db l.o i=false):db.take i++l::db.drop i=Tj db l:=by
  have hno:∀x∈db,x.o≠l.o:=WJ.1 (by rw [iL (Ki.2 h) hp,hn];rfl)
  have e1:∀x∈db.take i,x.o<l.o:=fun x hx=>by
    obtain ⟨j,hj,rfl⟩:=List.getElem_of_mem hx
    rw [List.length_take] at hj
    rw [List.getElem_take,←Id (show j<db.length by omega)]
    exact hp.2.1 j (by omega)
  have e2:∀x∈db.drop i,l.o<x.o:=fun x hx=>by
    have hm:=hno x (List.mem_of_mem_drop hx)
    obtain ⟨j,hj,rfl⟩:=List.getElem_of_mem hx
    rw [List.length_drop] at hj
    rw [List.getElem_drop] at hm ⊢
    have:=hp.2.2 (i+j) (by omega) (by omega)
    rw [Id (show i+j<db.length by omega)] at this
    omega
  have hs:Jc (db.take i++l::db.drop i):=by
    unfold Jc
    rw [List.pairwise_append,List.pairwise_cons]
    refine ⟨List.Pairwise.sublist (List.take_sublist _ _) h,⟨e2,List.Pairwise.sublist (List.drop_sublist _ _) h⟩,fun x hx y hy=>?_⟩
    have:=e1 x hx
    rcases List.mem_cons.1 hy with rfl|hy
    ·exact this
    ·have:=e2 y hy;omega
  refine O5 hs (UJ h l) fun x=>?_
  rw [Uj,List.mem_append,List.mem_cons]
  constructor
  ·rintro (hx|rfl|hx)
   ·exact .inr ⟨List.mem_of_mem_take hx,hno x (List.mem_of_mem_take hx)⟩
   ·exact .inl rfl
   ·exact .inr ⟨List.mem_of_mem_drop hx,hno x (List.mem_of_mem_drop hx)⟩
  ·rintro (rfl|⟨hx,_⟩)
   ·exact .inr (.inl rfl)
   ·rw [←List.take_append_drop i db,List.mem_append] at hx
    exact hx.imp id .inr
def Xc (db other:List Ls):List Ls:=other.foldl Mc db
def Vb (db:List Ls) (o:Int):Int:=match fd db o with|some l=>l.s|none=> -1
theorem SR {db:List Ls} (h:Jc db) (other:List Ls):Jc (Xc db other):=by
  unfold Xc
  induction other generalizing db with
  |nil=>exact h
  |cons l r ih=>exact ih (VJ h l)
theorem P5 {db other:List Ls} (h:Jd db) (h':∀l∈other,Ff l):Jd (Xc db other):=by
  unfold Xc
  induction other generalizing db with
  |nil=>exact h
  |cons l r ih=>exact ih (N5 h (h' l (List.mem_cons_self ..))) fun x hx=>h' x (List.mem_cons_of_mem _ hx)
theorem Q5 {db:List Ls} (h:Jc db) {l:Ls} (hl:0≤l.s) (o:Int):Vb (Mc db l) o=if o=l.o then max (Vb db o) l.s else Vb db o:=by
  unfold Vb
  rw [iR h l o]
  by_cases ho:o=l.o
  ·subst ho
   rw [if_pos rfl]
   cases e:fd db l.o with
   |none =>
    have hc:Fe db l=0:=by unfold Fe;rw [e]
    rw [hc,if_pos ⟨rfl,rfl⟩]
    dsimp only
    omega
   |some old =>
    by_cases h1:old.s=l.s
    ·have hc:Fe db l=1:=by unfold Fe;rw [e];exact if_pos h1
     rw [hc,if_neg (fun g=>by have:=g.2;omega)]
     dsimp only
     omega
    ·by_cases h2:l.s<old.s
     ·have hc:Fe db l=2:=by unfold Fe;rw [e];dsimp only;rw [if_neg h1,if_pos h2]
      rw [hc,if_neg (fun g=>by have:=g.2;omega)]
      dsimp only
      omega
     ·have hc:Fe db l=0:=by unfold Fe;rw [e];dsimp only;rw [if_neg h1,if_neg h2]
      rw [hc,if_pos ⟨rfl,rfl⟩]
      dsimp only
      omega
  ·rw [if_neg fun g=>ho g.1,if_neg ho]
theorem R5 {db:List Ls} {l:Ls} (hl:0≤l.s):Fe db l=0↔Vb db l.o<l.s:=by
  unfold Fe Vb
  cases fd db l.o with
  |none=>simp;omega
  |some old =>
   dsimp only
   by_cases h1:old.s=l.s
   ·rw [if_pos h1];omega
   ·rw [if_neg h1]
    by_cases h2:l.s<old.s
    ·rw [if_pos h2];omega
    ·rw [if_neg h2];omega
theorem iS (l:Ls) (r:List Ls) (o:Int):fd (l::r) o=if l.o=o then some l else fd r o:=by
  unfold fd
  rw [List.find?_cons]
  by_cases h:l.o=o
  ·rw [if_pos h,decide_eq_true h]
  ·rw [if_neg h,dF h]
theorem iT {db:List Ls} (h:∀l∈db,0≤l.s) (o:Int): -1≤Vb db o:=by
  unfold Vb
  cases e:fd db o with
  |none=>simp
  |some l=>have:=h l (List.mem_of_find?_eq_some e);dsimp only;omega
theorem yAi {a b:List Ls} (ha:Jc a) (hb:Jc b) (hs:∀l∈b,0≤l.s) (hsa:∀l∈a,0≤l.s) (o:Int):fd (Xc a b) o=if Vb a o<Vb b o then fd b o else fd a o:=by
  unfold Xc
  induction b generalizing a with
  |nil =>
   have:Vb [] o= -1:=rfl
   rw [if_neg (by have:=iT hsa o;omega)]
   rfl
  |cons l r ih =>
   have hb':=List.pairwise_cons.1 hb
   have hl:=hs l (List.mem_cons_self ..)
   have hsa':∀x∈Mc a l,0≤x.s:=fun x hx=>by
     unfold Mc at hx
     split at hx
     ·rcases Uj.1 hx with rfl|hx
      ·exact hl
      ·exact hsa x hx.1
     ·exact hsa x hx
   have ih:=ih (VJ ha l) hb'.2 (fun x hx=>hs x (List.mem_cons_of_mem _ hx)) hsa'
   rw [List.foldl_cons,ih,Q5 ha hl,iR ha,iS]
   have hq:Vb (l::r) o=if l.o=o then l.s else Vb r o:=by
     unfold Vb
     rw [iS]
     by_cases e:l.o=o
     ·rw [if_pos e,if_pos e]
     ·rw [if_neg e,if_neg e]
   rw [hq]
   by_cases ho:o=l.o
   ·subst ho
    have hr:Vb r l.o= -1:=by
      unfold Vb
      rw [WJ.2 fun x hx e=>by have:=hb'.1 x hx;omega]
    have hla:=iT hsa l.o
    rw [if_pos rfl,if_pos rfl,if_pos rfl,hr,if_neg (by omega)]
    by_cases hc:Fe a l=0
    ·rw [if_pos ⟨rfl,hc⟩,if_pos ((R5 hl).1 hc)]
    ·rw [if_neg fun g=>hc g.2,if_neg fun g=>hc ((R5 hl).2 g)]
   ·have h1:¬l.o=o:=fun g=>ho g.symm
    have h2:¬(o=l.o∧Fe a l=0):=fun g=>ho g.1
    simp only [if_neg ho,if_neg h1,if_neg h2]
theorem S5 {a b:List Ls} (ha:Jc a) (hb:Jc b) (hs:∀l∈b,0≤l.s) (hsa:∀l∈a,0≤l.s) (o:Int):Vb (Xc a b) o=max (Vb a o) (Vb b o):=by
  have h:=yAi ha hb hs hsa o
  by_cases hc:Vb a o<Vb b o
  ·rw [if_pos hc] at h
   have:Vb (Xc a b) o=Vb b o:=by unfold Vb;rw [h]
   omega
  ·rw [if_neg hc] at h
   have:Vb (Xc a b) o=Vb a o:=by unfold Vb;rw [h]
   omega
def yAj (a b:List Ls):Prop:=∀x∈a,∀y∈b,x.o=y.o→x.s=y.s→x=y
theorem iU {a b:List Ls} {x:Ls} (hx:x∈Xc a b):x∈a∨x∈b:=by
  unfold Xc at hx
  induction b generalizing a with
  |nil=>exact .inl hx
  |cons l r ih =>
   rcases ih hx with h|h
   ·unfold Mc at h
    split at h
    ·rcases Uj.1 h with rfl|h
     ·exact .inr (List.mem_cons_self ..)
     ·exact .inl h.1
    ·exact .inl h
   ·exact .inr (List.mem_cons_of_mem _ h)
end
section
open Go.RowKit
instance:DecidableEq En:=fun a b=>decidable_of_iff (a.n=b.n∧a.c=b.c) ⟨fun ⟨h1,h2⟩=>by cases a;cases b;simp_all,fun h=>by subst h;exact ⟨rfl,rfl⟩⟩
instance:DecidableEq Ls:=fun a b=>decidable_of_iff (a.o=b.o∧a.s=b.s∧a.e=b.e) ⟨fun ⟨h1,h2,h3⟩=>by cases a;cases b;simp_all,fun h=>by subst h;exact ⟨rfl,rfl,rfl⟩⟩
abbrev Sm {α:Type} (l:List α):Prop:=l.length≤16000000
def Ye (db:List Ls):Prop:=Sm db∧∀l∈db,Sm l.e
theorem Ye.fits {db:List Ls} (h:Ye db):Cb db:=by have:=h.1;unfold Cb;unfold Sm at this;omega
theorem Ye.fe {db:List Ls} (h:Ye db):∀l∈db,Cb l.e:=fun l hl=>by have:=h.2 l hl;unfold Cb;unfold Sm at this;omega
theorem Th {db:List Ls} {k:Nat} (h:k<db.length):Jb db k∈db:=by rw [Id h];exact List.getElem_mem h
theorem TR {db:List Ls} {k:Nat} (h:k<db.length):db.take k++[⟨(Jb db k).o,(Jb db k).s,(Jb db k).e⟩]=db.take (k+1):=by
  rw [List.take_add_one,List.getElem?_eq_getElem h,Id h];rfl
theorem UR (o s:Int) (es:List En) (h:Sm es):Ii (o,s,es,())=some (o,s,es,()):=by
  unfold Ii XW
  rw [decide_eq_true (by unfold Sm at h;dsimp only;omega)]
  rfl
theorem BB (o s:Int) (es:List En) (h:Sm es):Yi (o,s,es,())=some (o,s,es,()):=by
  unfold Yi
  rw [decide_eq_true (by unfold Sm at h;simp;omega)]
  rfl
theorem T5 (db:List Ls) (h:Ye db):Fz (db,())=some (db,()):=by
  have h1:=h.1
  unfold Sm at h1
  unfold Fz
  refine Aa.out (Aa.bnd (R:=fun r=>match r with| .inl x=>x=(db,())| .inr _=>False) ?_ ?_)
  ·refine Aa.count db.length (fun k t=>t=(db,(db.length:Int),(k:Int),db.take k,())) ?_ (Nat.zero_le _) (Ib (by omega)) (by simp [Ta])
   rintro k t hk rfl
   by_cases hlt:k<db.length
   ·simp (disch:=omega) only [TF,Sg,Ua,Ma,UR _ _ _ (h.2 _ (Th hlt)),Option.bind_some]
    refine Aa.gd (decide_eq_true (by omega)) (Aa.gd (Ia (by omega) (by omega)) (Aa.gd (decide_eq_true (by simp;omega)) (.some ⟨hlt,?_⟩)))
    rw [TR hlt]
    rfl
   ·obtain rfl:k=db.length:=by omega
    unfold TF
    simp only [dF (show ¬(db.length:Int)<db.length by omega),cond_false,List.take_length]
    exact .some rfl
  ·rintro (r|r) hr
   case inr=>exact hr.elim
   obtain rfl:=hr
   exact .some rfl
theorem XJ (db:List Ls) (h:Ye db):Pl (db,())=some (db,()):=by
  have h1:=h.1
  unfold Sm at h1
  unfold Pl
  refine Aa.out (Aa.bnd (R:=fun r=>match r with| .inl x=>x=(db,())| .inr _=>False) ?_ ?_)
  ·refine Aa.count db.length (fun k t=>t=(db,(k:Int),db.take k,())) ?_ (Nat.zero_le _) (Ib (by omega)) (by simp [Ta])
   rintro k t hk rfl
   by_cases hlt:k<db.length
   ·simp (disch:=omega) only [MF,Sg,Ua,Ma,Ta,BB _ _ _ (h.2 _ (Th hlt)),Option.bind_some]
    refine Aa.gd (decide_eq_true (by omega)) (Aa.gd (Ia (by omega) (by omega)) (Aa.gd (decide_eq_true (by simp;omega)) (.some ⟨hlt,?_⟩)))
    rw [TR hlt]
    rfl
   ·obtain rfl:k=db.length:=by omega
    unfold MF
    simp only [Ta,dF (show ¬(db.length:Int)<db.length by omega),cond_false,List.take_length]
    exact .some rfl
  ·rintro (r|r) hr
   case inr=>exact hr.elim
   obtain rfl:=hr
   exact .some rfl
theorem eqI (a b c d:Int):Qe [a,b] [c,d]=decide ((⟨a,b⟩:En)=⟨c,d⟩):=by
  by_cases h1:a=c<;>by_cases h2:b=d<;>simp [Qe,h1,h2]
theorem yAk {es fs:List En} (hl:es.length=fs.length) (h:∀i,i<es.length→en es i=en fs i):es=fs:=by
  refine List.ext_getElem hl fun i h1 h2=>?_
  have:=h i h1
  rwa [Qj h1,Qj h2] at this
theorem yAl (e:En):(⟨e.n,e.c⟩:En)=e:=rfl
theorem iV (a b:Ls) (ha:Cb a.e) (hb:Cb b.e):NF (a.o,a.s,a.e,b.o,b.s,b.e,())=some (decide (a=b),()):=by
  unfold NF
  cases a with|mk o s es =>
  cases b with|mk o' s' fs =>
  dsimp only at *
  by_cases h1:o=o'
  case neg=>simp [h1]
  by_cases h2:s=s'
  case neg=>simp [h2]
  subst h1 h2
  by_cases hl:es.length=fs.length
  case neg =>
    have:es≠fs:=fun e=>hl (by rw [e])
    have hl2:¬(es.length:Int)=fs.length:=by omega
    simp [Ta,hl2,this]
  simp only [Ta,hl,decide_true,Bool.not_true,cond_false]
  refine Aa.out (Aa.bnd (R:=fun r=>match r with| .inl _=>es=fs| .inr y=>y=(false,())∧es≠fs) ?_ ?_)
  ·refine Aa.count es.length (fun k t=>t=((k:Int),o,s,es,o,s,fs,())∧∀i,i<k→en es i=en fs i) ?_ (Nat.zero_le _) (Ib (by omega)) ⟨rfl,fun i hi=>by omega⟩
   rintro k t hk ⟨rfl,hok⟩
   simp (disch:=omega) only [VO,YA,Ua,Ma,Ta,eqI,yAl]
   refine Aa.ite (fun h=>?_) (fun h=>?_)
   ·have h:=oT h
    refine Aa.gd (Ia (by omega) (by omega)) (Aa.gd (Ia (by omega) (by omega)) (Aa.ite (fun h2=>?_) (fun h2=>?_)))
    ·have h2:¬en es k=en fs k:=by simpa using h2
     exact .some ⟨rfl,fun e=>h2 (by rw [e])⟩
    ·have h2:en es k=en fs k:=by simpa using h2
     exact .some ⟨by omega,rfl,fun i hi=>by
       by_cases e:i<k
       ·exact hok i e
       ·obtain rfl:i=k:=by omega
        exact h2⟩
   ·have h:=oF h
    exact .some (yAk hl fun i hi=>hok i (by omega))
  ·rintro (r|r) hr
   ·have hr:es=fs:=hr
    exact .some (by rw [decide_eq_true (by rw [hr])])
   ·obtain ⟨rfl,hr⟩:=hr
    exact .some (by rw [dF (by intro e;injection e with _ _ e;exact hr e)])
theorem Ye.put {db:List Ls} (h:Ye db) {l:Ls} (hl:Sm l.e) (hs:db.length≤1000000):Ye (Mc db l)∧(Mc db l).length≤db.length+1:=by
  have hlen:(Tj db l).length≤db.length+1:=by
    unfold Tj
    have h1:∀ds:List Ls,(ds.filter fun x=>decide (x.o<l.o)).length+(ds.filter fun x=>decide (l.o<x.o)).length≤ds.length:=fun ds=>by
      induction ds with
      |nil=>simp
      |cons x r ih =>
       simp only [List.filter_cons]
       by_cases a:x.o<l.o
       ·have b:¬l.o<x.o:=by omega
        simp [a,b];omega
       ·by_cases b:l.o<x.o
        ·simp [a,b];omega
        ·simp [a,b];omega
    have:=h1 db
    simp only [List.length_append,List.length_cons]
    omega
  unfold Mc
  split
  ·refine ⟨⟨by unfold Sm;omega,fun x hx=>?_⟩,hlen⟩
   rcases Uj.1 hx with rfl|⟨hx,_⟩
   ·exact hl
   ·exact h.2 x hx
  ·exact ⟨h,by omega⟩
theorem U5 (db:List Ls) (l:Ls) (hs:Jc db) (h:Ye db) (hl:Sm l.e) (hn:db.length≤1000000):Hp (db,l.o,l.s,l.e,())=some (Fe db l,Mc db l,()):=by
  have hsrt:Vk db:=Ki.2 hs
  obtain ⟨i,hi,hp⟩:=iK db l.o hsrt (by omega)
  unfold Hp
  dsimp only
  simp only [T5 db h,Option.bind_some,hp,UR _ _ _ hl]
  have ins:Sj db l.o i=false→Dr ((i:Int),db,[l],())=some (Tj db l,()):=fun hh=>by
    have:=hi.1
    unfold Dr
    simp only [MN]
    rw [decide_eq_true (by omega)]
    simp only [cond_true,Int.toNat_natCast]
    rw [yAh hs hi hh]
  cases hh:Sj db l.o i with
  |false =>
   have hfd:fd db l.o=none:=by
     refine WJ.2 fun x hx e=>?_
     obtain ⟨j,hj,rfl⟩:=List.getElem_of_mem hx
     rw [←Id hj] at e
     have h1:i≤j:=by
       rcases Nat.lt_or_ge j i with h1|h1
       ·have:=hi.2.1 j h1;omega
       ·exact h1
     have h2:i<db.length:=by omega
     have h3:=hi.2.2 i (Nat.le_refl _) h2
     have h4:(Jb db i).o≤(Jb db j).o:=by
       rcases Nat.eq_or_lt_of_le h1 with h1|h1
       ·subst h1;omega
       ·have:=hsrt i j h1 hj;omega
     have:Sj db l.o i=true:=decide_eq_true ⟨h2,by omega⟩
     rw [hh] at this;cases this
   have hc:Fe db l=0:=by unfold Fe;rw [hfd]
   simp only [cond_false,ins hh,Option.bind_some]
   unfold Mc
   rw [hc,if_pos rfl]
  |true =>
   obtain ⟨h2,h3⟩:=oT hh
   have hfd:fd db l.o=some (Jb db i):=(Vj hs).2 ⟨Th h2,h3⟩
   have hin:Ca (i:Int) db.length=true:=Ia (by omega) (by omega)
   simp only [cond_true,hin,Sg,Ua]
   have hpc:Fe db l=if (Jb db i).s=l.s then 1 else if l.s<(Jb db i).s then 2 else 0:=by unfold Fe;rw [hfd]
   unfold Mc
   rw [hpc]
   by_cases e1:(Jb db i).s=l.s
   ·simp [e1]
   ·by_cases e2:l.s<(Jb db i).s
    ·simp [e1,e2]
    ·have:=yAg hs h2 h3
     simp [e1,e2,←this]
end
section
open Go.RowKit
theorem iW {db:List Ls} {k:Nat} (p:Ls→Bool) (h:k<db.length):(db.take (k+1)).filter p=(db.take k).filter p++if p (Jb db k) then [Jb db k] else []:=by
  rw [List.take_add_one,List.getElem?_eq_getElem h,List.filter_append,Id h]
  cases hp:p db[k]<;>simp [hp]
theorem yAm {db:List Ls} (p:Ls→Bool) (k:Nat):((db.take k).filter p).length≤db.length:=Nat.le_trans (List.length_filter_le _ _) (by rw [List.length_take];omega)
theorem iX {db:List Ls} (hs:Vk db) {o:Int} {k:Nat} (h1:∀i,i<k→(Jb db i).o<o) (h2:k<db.length→¬(Jb db k).o<o) (hk:k≤db.length):db.take k=db.filter fun x=>decide (x.o<o):=by
  have e1:(db.take k).filter (fun x=>decide (x.o<o))=db.take k:=by
    refine List.filter_eq_self.2 fun x hx=>?_
    obtain ⟨i,hi,rfl⟩:=List.getElem_of_mem hx
    have hi':i<k:=by rw [List.length_take] at hi;omega
    have:=h1 i hi'
    rw [Id (by omega)] at this
    simpa [List.getElem_take] using this
  have e2:(db.drop k).filter (fun x=>decide (x.o<o))=[]:=by
    refine List.filter_eq_nil_iff.2 fun x hx=>?_
    obtain ⟨i,hi,rfl⟩:=List.getElem_of_mem hx
    have hi':k+i<db.length:=by rw [List.length_drop] at hi;omega
    have h3:=h2 (by omega)
    have h4:(Jb db k).o≤(Jb db (k+i)).o:=by
      rcases Nat.eq_zero_or_pos i with e|e
      ·subst e;exact Int.le_refl _
      ·have:=hs k (k+i) (by omega) hi';omega
    rw [Id hi'] at h4
    simp only [List.getElem_drop,decide_eq_true_eq]
    omega
  calc db.take k=(db.take k).filter (fun x=>decide (x.o<o))++(db.drop k).filter (fun x=>decide (x.o<o)):=by rw [e1,e2,List.append_nil]
    _=db.filter fun x=>decide (x.o<o):=by rw [←List.filter_append,List.take_append_drop]
theorem yAn (db:List Ls) (l:Ls) (hs:Vk db) (h:Ye db):Aa (lp Ql Ea (db,0,l.o,l.s,l.e,[],())) fun r=>match r with| .inl x=>x=(db,l.o,l.s,l.e,db.filter (fun x=>decide (x.o<l.o)),())| .inr _=>False:=by
  have h1:=h.1
  unfold Sm at h1
  refine Aa.count db.length (fun k t=>t=(db,(k:Int),l.o,l.s,l.e,db.take k,())∧∀i,i<k→(Jb db i).o<l.o) ?_ (Nat.zero_le _) (Ib (by omega)) ⟨by simp,fun i hi=>by omega⟩
  rintro k t hk ⟨rfl,hok⟩
  by_cases hlt:k<db.length
  ·simp (disch:=omega) only [Ql,Sg,Ua,Ma,Ta,BB _ _ _ (h.2 _ (Th hlt)),Option.bind_some]
   refine Aa.gd (decide_eq_true (by omega)) (Aa.gd (Ia (by omega) (by omega)) (Aa.ite (fun hc=>?_) (fun hc=>?_)))
   ·have hc:=oT hc
    refine Aa.gd (Ia (by omega) (by omega)) (Aa.gd (decide_eq_true (by simp;omega)) (.some ⟨hlt,?_,fun i hi=>?_⟩))
    ·rw [TR hlt];rfl
    ·by_cases e:i<k
     ·exact hok i e
     ·obtain rfl:i=k:=by omega
      exact hc
   ·have hc:=oF hc
    exact .some (by rw [iX hs hok (fun _=>hc) hk])
  ·obtain rfl:k=db.length:=by omega
   unfold Ql
   simp only [Ta,dF (show ¬(db.length:Int)<db.length by omega),cond_false]
   exact .some (by rw [iX hs hok (fun h=>by omega) hk])
theorem yAo (db:List Ls) (l:Ls) (out:List Ls) (h:Ye db) (ho:out.length≤17000000):Aa (lp Rl Ea (db,0,l.o,l.s,l.e,out,())) fun r=>match r with| .inl x=>x=(out++db.filter (fun x=>decide (l.o<x.o)),())| .inr _=>False:=by
  have h1:=h.1
  unfold Sm at h1
  refine Aa.count db.length (fun k t=>t=(db,(k:Int),l.o,l.s,l.e,out++(db.take k).filter (fun x=>decide (l.o<x.o)),())) ?_ (Nat.zero_le _) (Ib (by omega)) (by simp)
  rintro k t hk rfl
  by_cases hlt:k<db.length
  ·have hfl:=yAm (db:=db) (fun x=>decide (l.o<x.o)) k
   simp (disch:=omega) only [Rl,Sg,Ua,Ma,Ta,BB _ _ _ (h.2 _ (Th hlt)),Option.bind_some]
   refine Aa.gd (decide_eq_true (by omega)) (Aa.gd (Ia (by omega) (by omega)) (Aa.ite (fun hc=>?_) (fun hc=>?_)))
   ·have hc':=oT hc
    refine Aa.gd (Ia (by omega) (by omega)) (Aa.gd (decide_eq_true (by simp only [List.length_append,List.length_singleton];omega)) (.some ⟨hlt,?_⟩))
    rw [iW _ hlt,if_pos hc,←List.append_assoc]
    rfl
   ·refine .some ⟨hlt,?_⟩
    rw [iW _ hlt,if_neg (by rw [hc];simp),List.append_nil]
    rfl
  ·obtain rfl:k=db.length:=by omega
   unfold Rl
   simp only [Ta,dF (show ¬(db.length:Int)<db.length by omega),cond_false,List.take_length]
   exact .some rfl
theorem V5 (db:List Ls) (l:Ls) (hs:Jc db) (h:Ye db) (hl:Sm l.e):Gz (db,l.o,l.s,l.e,())=some (Fe db l,Mc db l,()):=by
  have hsrt:Vk db:=Ki.2 hs
  have h1:=h.1
  unfold Sm at h1
  have hfin:Aa ((lp Ql Ea (db,0,l.o,l.s,l.e,[],())).bind fun r3=>(match r3 with| .inl x4=>(Yi ((x4.2.1,(x4.2.2.1,(x4.2.2.2.1,()))))).bind fun r5=>(bif decide (((List.length x4.2.2.2.2.1+List.length ([(Ls.mk r5.1 r5.2.1 r5.2.2.1)]))≤(33554432:Nat))) then (lp Rl Ea ((x4.1,((0:Int),(x4.2.1,(x4.2.2.1,(x4.2.2.2.1,((x4.2.2.2.2.1++[(Ls.mk r5.1 r5.2.1 r5.2.2.1)]),())))))))).bind fun r6=>(match r6 with| .inl x7=>some (((0:Int),x7.1,()))| .inr _=>none) else none)| .inr _=>none)) (·=(0,Tj db l,())):=by
    refine Aa.bnd (yAn db l hsrt h) ?_
    rintro (r|r) hr
    case inr=>exact hr.elim
    obtain rfl:=hr
    dsimp only
    rw [BB _ _ _ hl]
    have hfl:(db.filter fun x=>decide (x.o<l.o)).length≤db.length:=List.length_filter_le _ _
    simp only [Option.bind_some]
    refine Aa.gd (decide_eq_true (by simp only [List.length_singleton];omega)) (Aa.bnd (yAo db l _ h (by simp only [List.length_append,List.length_singleton];omega)) ?_)
    rintro (r|r) hr
    case inr=>exact hr.elim
    obtain rfl:=hr
    refine .some ?_
    unfold Tj
    simp
  have hfin:=hfin.out
  unfold Gz
  dsimp only
  rw [L5 db l.o h.fits]
  unfold Mc Fe
  cases hfd:fd db l.o with
  |none =>
   simp only [Option.bind_some,cond_false]
   exact hfin
  |some old =>
   simp only [Option.bind_some,cond_true,XJ db h]
   by_cases e1:old.s=l.s
   ·simp only [e1,decide_true,cond_true]
    simp
   ·by_cases e2:l.s<old.s
    ·simp only [e1,e2,decide_true,decide_false,cond_true,cond_false]
     simp
    ·simp only [e1,e2,decide_false,cond_false]
     exact hfin
theorem zF8 (db:List Ls) (hl:Cb db) (he:∀l∈db,Cb l.e):MO (db,())=some (Rh db,()):=by
  unfold MO
  refine Aa.out (Aa.bnd (R:=fun r=>match r with| .inl _=>Rh db=true| .inr y=>y.1=false∧Rh db=false) ?_ ?_)
  ·refine Aa.count db.length (fun k t=>t=(db,(k:Int),())∧∀i,i<k→Ff (Jb db i)∧(0<i→(Jb db (i-1)).o<(Jb db i).o)) ?_ (Nat.zero_le _) (Ib (by omega)) ⟨by simp,fun i hi=>by omega⟩
   rintro k t hk ⟨rfl,hok⟩
   by_cases hlt:k<db.length
   ·have hf:Cb (Jb db k).e:=he _ (by rw [Id hlt];exact List.getElem_mem hlt)
    simp (disch:=omega) only [JE,Sg,Ua,WA,Ma,Ta,iH _ _ _ hf,Option.bind_some]
    repeat' (first
      |refine Aa.some ?_
      |fail
      |(refine Aa.gd (by first|exact Ia (by omega) (by omega)|(simp (disch:=omega) only [Ma];exact Ia (by omega) (by omega))) ?_)
      |(refine Aa.ite (fun h=>?_) (fun h=>?_)<;>try simp only [decide_eq_true_eq,decide_eq_false_iff_not,Bool.not_eq_true',Bool.not_eq_false',Ih,Jh,Bool.and_eq_true,Bool.or_eq_true,Bool.and_eq_false_iff,Bool.or_eq_false_iff,El] at h))
    all_goals try dsimp only
    all_goals first
      |(refine ⟨rfl,dF fun g=>?_⟩
        have:=g k hlt
        first|exact oF (by assumption) this.1|omega)
      |(refine ⟨by omega,rfl,fun i hi=>?_⟩
        by_cases e:i<k
        ·exact hok i e
        ·obtain rfl:i=k:=by omega
         exact ⟨oT (by assumption),fun _=>by omega⟩)
      |omega
   ·obtain rfl:k=db.length:=by omega
    unfold JE
    simp only [Ta,dF (show ¬(db.length:Int)<db.length by omega),cond_false]
    exact .some (decide_eq_true hok)
  ·rintro (r|r) hr
   ·have hr:Rh db=true:=hr
    exact .some (by first | rw [hr] | exact Prod.ext hr rfl)
   ·obtain ⟨b,u⟩:=r
    have hr:b=false∧Rh db=false:=hr
    exact .some (by first | rw [hr.1,hr.2] | exact Prod.ext hr.1 (Prod.ext hr.2 rfl))
theorem W5 {a b:List Ls} {k:Nat} (h:k<b.length):Xc a (b.take (k+1))=Mc (Xc a (b.take k)) (Jb b k):=by
  unfold Xc
  rw [List.take_add_one,List.getElem?_eq_getElem h,Id h,List.foldl_append]
  rfl
theorem X5 {a b:List Ls} (ha:Ye a) (hb:Ye b) (hla:a.length≤500000) (hlb:b.length≤400000):∀k,k≤b.length→Ye (Xc a (b.take k))∧(Xc a (b.take k)).length≤a.length+k
  |0,_=>⟨by simpa [Xc] using ha,by simp [Xc]⟩
  |k+1,hk=>by
   obtain ⟨i1,i2⟩:=X5 ha hb hla hlb k (by omega)
   rw [W5 (by omega)]
   have:=i1.put (hb.2 _ (Th (show k<b.length by omega))) (by omega)
   exact ⟨this.1,by omega⟩
theorem zF2 (a b:List Ls) (hs:Jc a) (ha:Ye a) (hb:Ye b) (hla:a.length≤500000) (hlb:b.length≤400000):Ce (a,b,())=some (Xc a b,()):=by
  unfold Ce
  simp only [T5 a ha,Option.bind_some,Ta]
  refine Aa.out (Aa.bnd (R:=fun r=>match r with| .inl x=>x=(Xc a b,())| .inr _=>False) ?_ ?_)
  ·refine Aa.count b.length (fun k t=>t=(b,(b.length:Int),(k:Int),Xc a (b.take k),())) ?_ (Nat.zero_le _) (Ib (by omega)) (by simp [Xc])
   rintro k t hk rfl
   by_cases hlt:k<b.length
   ·obtain ⟨i1,i2⟩:=X5 ha hb hla hlb k hk
    simp (disch:=omega) only [HG,Sg,Ua,Ma,U5 _ _ (SR hs _) i1 (hb.2 _ (Th hlt)) (show (Xc a (b.take k)).length≤1000000 by omega),Option.bind_some]
    refine Aa.gd (decide_eq_true (by omega)) (Aa.gd (Ia (by omega) (by omega)) (.some ⟨hlt,?_⟩))
    rw [W5 hlt]
    rfl
   ·obtain rfl:k=b.length:=by omega
    unfold HG
    simp only [dF (show ¬(b.length:Int)<b.length by omega),cond_false,List.take_length]
    exact .some rfl
  ·rintro (r|r) hr
   case inr=>exact hr.elim
   obtain rfl:=hr
   exact .some rfl
theorem zFf (a b:List Ls) (hs:Jc a) (ha:Ye a) (hb:Ye b) (hla:a.length≤500000) (hlb:b.length≤400000):HP (a,b,())=some (Xc a b,()):=by
  unfold HP
  simp only [XJ a ha,Option.bind_some,Ta]
  refine Aa.out (Aa.bnd (R:=fun r=>match r with| .inl x=>x=(Xc a b,())| .inr _=>False) ?_ ?_)
  ·refine Aa.count b.length (fun k t=>t=(b,(k:Int),Xc a (b.take k),())) ?_ (Nat.zero_le _) (Ib (by omega)) (by simp [Xc])
   rintro k t hk rfl
   by_cases hlt:k<b.length
   ·obtain ⟨i1,i2⟩:=X5 ha hb hla hlb k hk
    simp (disch:=omega) only [LG,Sg,Ua,Ma,Ta,V5 _ _ (SR hs _) i1 (hb.2 _ (Th hlt)),Option.bind_some]
    refine Aa.gd (decide_eq_true (by omega)) (Aa.gd (Ia (by omega) (by omega)) (.some ⟨hlt,?_⟩))
    rw [W5 hlt]
    rfl
   ·obtain rfl:k=b.length:=by omega
    unfold LG
    simp only [Ta,dF (show ¬(b.length:Int)<b.length by omega),cond_false,List.take_length]
    exact .some rfl
  ·rintro (r|r) hr
   case inr=>exact hr.elim
   obtain rfl:=hr
   exact .some rfl
end
section
open Go.RowKit
def sy (f:Nat→Int) (e:Nat×Nat):Nat→Int:=fun n=>if n=e.1∨n=e.2 then max (f e.1) (f e.2) else f n
def Jn (ls:List Lk) (u v:Nat):Prop:=∃k s,Wk ls u k v s
theorem Jn.refl (ls:List Lk) (u:Nat):Jn ls u u:=⟨0,0,.nil⟩
theorem Jn.symm {ls:List Lk} {u v:Nat} (h:Jn ls u v):Jn ls v u:=by
  obtain ⟨k,s,w⟩:=h
  exact ⟨k,s,w.symm⟩
theorem Jn.trans {ls:List Lk} {u v x:Nat} (h:Jn ls u v) (h':Jn ls v x):Jn ls u x:=by
  obtain ⟨k,s,w⟩:=h
  obtain ⟨k',s',w'⟩:=h'
  exact ⟨_,_,w.append w'⟩
section
variable {N:Nat} {ls:List Lk}
end
end
section
open Go.RowKit
structure CB (D:Nat→List Ls):Prop where
  srt:∀n,Jc (D n)
  pos:∀n,∀l∈D n,0≤l.s
  agr:∀m n,yAj (D m) (D n)
def DB (D:Nat→List Ls) (e:Nat×Nat):Nat→List Ls:=fun n=>if n=e.1∨n=e.2 then Xc (D e.1) (D e.2) else D n
theorem Z5 {D:Nat→List Ls} {e:Nat×Nat} {n:Nat} {x:Ls} (h:x∈DB D e n):∃m,x∈D m:=by
  unfold DB at h
  split at h
  ·rcases iU h with h|h
   ·exact ⟨_,h⟩
   ·exact ⟨_,h⟩
  ·exact ⟨n,h⟩
theorem CB.sy {D:Nat→List Ls} (K:CB D) (e:Nat×Nat):CB (DB D e):=by
  refine ⟨fun n=>?_,fun n l hl=>?_,fun m n x hx y hy=>?_⟩
  ·unfold DB
   split
   ·exact SR (K.srt _) _
   ·exact K.srt n
  ·obtain ⟨m,hm⟩:=Z5 hl
   exact K.pos m l hm
  ·obtain ⟨i,hi⟩:=Z5 hx
   obtain ⟨j,hj⟩:=Z5 hy
   exact K.agr i j x hi y hj
theorem CB.seq {D:Nat→List Ls} (K:CB D) (e:Nat×Nat) (o:Int) (n:Nat):Vb (DB D e n) o=Go.Proofs.YtjffopopheiinaaGreatDoor.sy (fun n=>Vb (D n) o) e n:=by
  unfold DB Go.Proofs.YtjffopopheiinaaGreatDoor.sy
  split
  ·exact S5 (K.srt _) (K.srt _) (K.pos _) (K.pos _) o
  ·rfl
section
variable {N:Nat} {ls:List Lk} {D:Nat→List Ls}
end
end
section
open Go.RowKit
structure Wd where
  n:Int
  ls:List Lk
  up:List Bool
  sq:List Int
  db:List (List Ls)
  net:List Pk
def Qa (db:List (List Ls)) (i:Nat):List Ls:=db.getD i []
def Uh (ls:List Lk) (up:List Bool) (k:Nat):List Lk:=((List.range k).filter fun i=>up.getD i false).map (lk ls)
def Kc (ls:List Lk) (up:List Bool):List Lk:=Uh ls up ls.length
theorem VR (ls:List Lk) (up:List Bool) (k:Nat):Uh ls up (k+1)=if up.getD k false then Uh ls up k++[lk ls k] else Uh ls up k:=by
  unfold Uh
  rw [List.range_succ,List.filter_append,List.map_append,List.filter_cons]
  cases h:up.getD k false with
  |false=>simp
  |true=>rfl
theorem WR {ls:List Lk} {up:List Bool} {l:Lk}:l∈Kc ls up↔∃i,i<ls.length∧up.getD i false=true∧l=lk ls i:=by
  unfold Kc Uh
  rw [List.mem_map]
  constructor
  ·rintro ⟨i,hi,rfl⟩
   obtain ⟨h1,h2⟩:=List.mem_filter.1 hi
   exact ⟨i,List.mem_range.1 h1,h2,rfl⟩
  ·rintro ⟨i,h1,h2,rfl⟩
   exact ⟨i,List.mem_filter.2 ⟨List.mem_range.2 h1,h2⟩,rfl⟩
theorem yAp (ls:List Lk) (up:List Bool):(Kc ls up).length≤ls.length:=by
  unfold Kc Uh
  rw [List.length_map]
  exact Nat.le_trans (List.length_filter_le _ _) (by simp)
theorem Sp {n:Int} {ls:List Lk} (g:GV n ls) (up:List Bool):GV n (Kc ls up):=by
  refine Zm.2 ⟨g.1,g.2.1,Nat.le_trans (yAp ls up) g.2.2.1,fun l hl=>?_,?_⟩
  ·obtain ⟨i,hi,_,rfl⟩:=WR.1 hl
   exact g.ok (Ti hi)
  ·unfold Kc Uh
   rw [List.pairwise_map]
   refine List.Pairwise.imp_of_mem ?_ (List.Pairwise.filter _ (List.pairwise_lt_range (n:=ls.length)))
   intro a b ha hb hab
   have h1:=List.mem_range.1 (List.mem_filter.1 ha).1
   have h2:=List.mem_range.1 (List.mem_filter.1 hb).1
   have:=List.pairwise_iff_getElem.1 g.pw a b h1 h2 hab
   rwa [Gi h1,Gi h2]
def Aj (w:Wd) (A:Int→Prop) (l:Ls):Prop:=Ff l∧l.o<w.n∧l.s≤iz w.sq l.o.toNat∧(∀e∈l.e,lc w.ls l.o e.n=some e.c)∧(l.s<iz w.sq l.o.toNat∨l.e=Pc (Kc w.ls w.up) w.n.toNat l.o∨A l.o)
def Eh (w:Wd) (l:Ls):Prop:=(∃i,i<w.db.length∧l∈Qa w.db i)∨∃p∈w.net,l=p.p
structure WV (w:Wd) (A:Int→Prop):Prop where
  g:GV w.n w.ls
  up:w.up.length=w.ls.length
  sq:(w.sq.length:Int)=w.n
  db:(w.db.length:Int)=w.n
  net:w.net.length≤16
  rng:∀i,i<w.sq.length→1≤iz w.sq i∧iz w.sq i≤99
  ok:∀i,i<w.db.length→Jd (Qa w.db i)
  own:∀i,i<w.db.length→∃l∈Qa w.db i,l.o=i∧l.s=iz w.sq i
  poss:∀l,Eh w l→Aj w A l
  agr:∀x y,Eh w x→Eh w y→x.o=y.o→x.s=y.s→x=y
  tgt:∀p∈w.net,0≤p.t∧p.t<w.n
def Wj (l:Ls) (ex:Int) (net:List Pk) (m:Int):List Pk:=if m≠ex∧net.length<16 then net++[⟨m,l⟩] else net
def Kd (l:Ls) (ex:Int) (net:List Pk) (nb:List Int):List Pk:=nb.foldl (Wj l ex) net
theorem YJ {l:Ls} {ex:Int} {p:Pk}:∀{nb:List Int} {net:List Pk},p∈Kd l ex net nb→p∈net∨∃m∈nb,p=⟨m,l⟩
  |[],net,h=>.inl h
  |m::r,net,h=>by
   rcases YJ (nb:=r) (net:=Wj l ex net m) h with h|⟨x,hx,e⟩
   ·unfold Wj at h
    split at h
    ·rcases List.mem_append.1 h with h|h
     ·exact .inl h
     ·exact .inr ⟨m,List.mem_cons_self ..,List.mem_singleton.1 h⟩
    ·exact .inl h
   ·exact .inr ⟨x,List.mem_cons_of_mem _ hx,e⟩
theorem A6 {l:Ls} {ex:Int}:∀{nb:List Int} {net:List Pk},net.length≤16→(Kd l ex net nb).length≤16
  |[],net,h=>h
  |m::r,net,h=>A6 (nb:=r) (by unfold Wj;split;rw [List.length_append,List.length_singleton];omega;exact h)
def Uf (w:Wd) (i:Nat):Ls:=⟨i,iz w.sq i+1,Pc (Kc w.ls w.up) w.n.toNat i⟩
def Vf (w:Wd) (i:Nat):Wd:={ w with sq:=w.sq.set i (iz w.sq i+1),db:=w.db.set i (Mc (Qa w.db i) (Uf w i)),net:=Kd (Uf w i) (-1) w.net (Hc (Kc w.ls w.up) i w.n.toNat) }
theorem Cm {db:List (List Ls)} {i j:Nat} {d:List Ls} (hi:i<db.length):Qa (db.set i d) j=if j=i then d else Qa db j:=by
  unfold Qa
  simp only [List.getD,List.getElem?_set]
  by_cases h:i=j
  ·subst h;simp [hi]
  ·rw [if_neg h,if_neg (fun e=>h e.symm)]
end
section
open Go.RowKit
section
variable {N:Nat} {ls:List Lk} {node:Int} {ends:List En}
theorem iY {l:List Int} {f:Int→En} {i:Nat} (h:i<l.length):en (l.map f) i=f (iz l i):=by simp [en,iz,h]
theorem yAq {l:List Int} (h:l.Pairwise (·<·)) {i j:Nat} (hij:i<j) (hj:j<l.length):iz l i<iz l j:=by
  have:=List.pairwise_iff_getElem.1 h i j (by omega) hj hij
  simpa [iz,hj,show i<l.length by omega] using this
theorem B6 (g:GV N ls) {n:Nat} (hn:n<N):Ff ⟨n,1,Pc ls N n⟩:=by
  have h8:=g.2.1
  refine ⟨by dsimp only;omega,by dsimp only;omega,by dsimp only;omega,by dsimp only;omega,fun i hi=>?_⟩
  dsimp only at hi ⊢
  have hi':i<(Hc ls n N).length:=by unfold Pc at hi;simpa using hi
  have hm:iz (Hc ls n N) i∈Hc ls n N:=List.mem_of_getElem? (Xg hi')
  obtain ⟨j,hj,e,hs⟩:=Zi.1 hm
  obtain ⟨c,hc⟩:=Option.isSome_iff_exists.1 hs
  have hcc:=Ry g hc
  have hne:=(TJ g hs).2.2.2.2
  unfold Rj Pc
  rw [iY hi',e,hc]
  refine ⟨by dsimp only;omega,by dsimp only;omega,by dsimp only;omega,hcc.1,hcc.2,fun h0=>?_⟩
  rw [iY (show i-1<(Hc ls n N).length by omega)]
  have:=yAq (SJ ls n N) (show i-1<i by omega) hi'
  dsimp only
  omega
theorem iZ {f g:Nat→Nat→Option Int} {a:Nat}:∀{j:Nat},(∀b,a<b→b≤a+j→(f a b).isSome=true→(g a b).isSome=true)→(Se f a j).length≤(Se g a j).length
  |0,_=>by simp [Se]
  |j+1,h=>by
   rw [CD,CD,List.length_append,List.length_append]
   have h1:=iZ (j:=j) fun b h1 h2=>h b h1 (by omega)
   have h2:=h (a+1+j) (by omega) (by omega)
   have:(cell f a (a+1+j)).length≤(cell g a (a+1+j)).length:=by
     unfold cell
     cases e:f a (a+1+j) with
     |none=>simp
     |some c =>
      rw [e] at h2
      obtain ⟨d,hd⟩:=Option.isSome_iff_exists.1 (h2 rfl)
      simp [hd]
   omega
theorem jA {f g:Nat→Nat→Option Int}:∀{k:Nat},(∀a b,a<k→a<b→b<N→(f a b).isSome=true→(g a b).isSome=true)→(Hi f N k).length≤(Hi g N k).length
  |0,_=>by simp [Hi]
  |k+1,h=>by
   rw [DD,DD,List.length_append,List.length_append]
   have h1:=jA (k:=k) fun a b ha=>h a b (by omega)
   have h2:=iZ (f:=f) (g:=g) (a:=k) (j:=N-1-k) fun b hb1 hb2=>h k b (by omega) hb1 (by omega)
   omega
end
section
variable {ls:List Lk} {ends:List En}
end
end
section
open Go.RowKit
theorem yAr {n:Int} {ls:List Lk} (g:GV n ls) {up:List Bool} {a b c:Int} (h:lc (Kc ls up) a b=some c):lc ls a b=some c:=by
  have hm:=Zq h
  obtain ⟨i,hi,_,e⟩:=WR.1 hm
  exact (CN g.pw).2 (by rw [e];exact Ti hi)
theorem jB {ls:List Lk} {N:Nat} {o:Int} {e:En} (h:e∈Pc ls N o):lc ls o e.n=some e.c:=by
  unfold Pc at h
  obtain ⟨x,hx,rfl⟩:=List.mem_map.1 h
  obtain ⟨j,_,rfl,hs⟩:=Zi.1 hx
  obtain ⟨c,hc⟩:=Option.isSome_iff_exists.1 hs
  dsimp only
  rw [hc];rfl
theorem ZJ {d:List Int} {y j:Nat} {v:Int} (hy:y<d.length):iz (d.set y v) j=if j=y then v else iz d j:=Nj d y j v hy
theorem C6 {w:Wd} {A:Int→Prop} (h:WV w A) {i:Nat} (hi:i<w.db.length) (h99:iz w.sq i<99):Ff (Uf w i):=by
  have hdb:=h.db
  obtain ⟨N,hN⟩:=Int.eq_ofNat_of_zero_le (show 0≤w.n by omega)
  have g:GV (N:Int) (Kc w.ls w.up):=by have:=Sp h.g w.up;rwa [hN] at this
  have hiN:i<N:=by omega
  have h1:=B6 g hiN
  have hr:=h.rng i (by have:=h.sq;omega)
  unfold Uf
  rw [hN,Int.toNat_natCast]
  exact ⟨h1.1,h1.2.1,by dsimp only;omega,by dsimp only;omega,h1.2.2.2.2⟩
theorem D6 {w:Wd} {A:Int→Prop} (h:WV w A) {i:Nat} (hi:i<w.db.length) {l:Ls} (hl:Eh (Vf w i) l):l=Uf w i∨Eh w l:=by
  rcases hl with ⟨j,hj,hl⟩|⟨p,hp,rfl⟩
  ·have hj:j<w.db.length:=by simpa [Vf] using hj
   have hl:l∈Qa (w.db.set i (Mc (Qa w.db i) (Uf w i))) j:=hl
   rw [Cm hi] at hl
   split at hl
   ·unfold Mc at hl
    split at hl
    ·rcases Uj.1 hl with rfl|hl
     ·exact .inl rfl
     ·exact .inr (.inl ⟨i,hi,hl.1⟩)
    ·exact .inr (.inl ⟨i,hi,hl⟩)
   ·exact .inr (.inl ⟨j,hj,hl⟩)
  ·rcases YJ (show p∈Kd (Uf w i) (-1) w.net _ from hp) with h|⟨m,_,rfl⟩
   ·exact .inr (.inr ⟨p,h,rfl⟩)
   ·exact .inl rfl
theorem E6 {w:Wd} {A:Int→Prop} (h:WV w A) {i:Nat} (hi:i<w.db.length) (h99:iz w.sq i<99):WV (Vf w i) (fun o=>A o∧o≠i):=by
  have hsq:=h.sq
  have hdb:=h.db
  have his:i<w.sq.length:=by omega
  have hnew:=C6 h hi h99
  have hsrt:∀j,j<w.db.length→Jc (Qa w.db j):=fun j hj=>Ki.1 (h.ok j hj).srt
  have hz:∀j,iz (w.sq.set i (iz w.sq i+1)) j=if j=i then iz w.sq i+1 else iz w.sq j:=fun j=>ZJ his
  have no:(Uf w i).o=i:=rfl
  have ns:(Uf w i).s=iz w.sq i+1:=rfl
  refine ⟨h.g,h.up,?_,?_,A6 h.net,fun j hj=>?_,fun j hj=>?_,fun j hj=>?_,fun l hl=>?_,fun x y hx hy e1 e2=>?_,fun p hp=>?_⟩
  ·show ((w.sq.set i _).length:Int)=w.n
   rw [List.length_set];exact hsq
  ·show ((w.db.set i _).length:Int)=w.n
   rw [List.length_set];exact hdb
  ·have hj:j<w.sq.length:=by simpa [Vf] using hj
   show 1≤iz (w.sq.set i _) j∧iz (w.sq.set i _) j≤99
   rw [hz]
   have:=h.rng i his
   split
   ·omega
   ·exact h.rng j hj
  ·have hj:j<w.db.length:=by simpa [Vf] using hj
   show Jd (Qa (w.db.set i _) j)
   rw [Cm hi]
   split
   ·exact N5 (h.ok i hi) hnew
   ·exact h.ok j hj
  ·have hj:j<w.db.length:=by simpa [Vf] using hj
   show ∃l∈Qa (w.db.set i _) j,l.o=j∧l.s=iz (w.sq.set i _) j
   rw [Cm hi,hz]
   by_cases e:j=i
   ·subst e
    rw [if_pos rfl,if_pos rfl]
    obtain ⟨l,hl,h1,h2⟩:=h.own j hi
    refine ⟨Uf w j,?_,rfl,rfl⟩
    have hc:Fe (Qa w.db j) (Uf w j)=0:=by
      refine (R5 (by rw [ns];have:=h.rng j his;omega)).2 ?_
      unfold Vb
      rw [no,(Vj (hsrt j hi)).2 ⟨hl,h1⟩,ns]
      dsimp only
      omega
    unfold Mc
    rw [if_pos hc]
    exact Uj.2 (.inl rfl)
   ·rw [if_neg e,if_neg e]
    exact h.own j hj
  ·show Ff l∧l.o<w.n∧l.s≤iz (w.sq.set i _) l.o.toNat∧(∀e∈l.e,lc w.ls l.o e.n=some e.c)∧(l.s<iz (w.sq.set i _) l.o.toNat∨l.e=Pc (Kc w.ls w.up) w.n.toNat l.o∨A l.o∧l.o≠i)
   rw [hz]
   rcases D6 h hi hl with rfl|hl
   ·rw [no,Int.toNat_natCast,if_pos rfl]
    exact ⟨hnew,by omega,Int.le_of_eq ns,fun e he=>yAr h.g (jB he),.inr (.inl rfl)⟩
   ·obtain ⟨p1,p2,p3,p4,p5⟩:=h.poss l hl
    have ho:=p1.1
    by_cases e:l.o.toNat=i
    ·rw [if_pos e]
     rw [e] at p3
     exact ⟨p1,p2,by omega,p4,.inl (by omega)⟩
    ·rw [if_neg e]
     exact ⟨p1,p2,p3,p4,p5.imp id fun h=>h.imp id fun h=>⟨h,by omega⟩⟩
  ·have old:∀z,Eh w z→z.o=(i:Int)→z.s≤iz w.sq i:=fun z hz e=>by
     have:=(h.poss z hz).2.2.1
     rwa [e,Int.toNat_natCast] at this
   rcases D6 h hi hx with rfl|hx<;>rcases D6 h hi hy with rfl|hy
   ·rfl
   ·have:=old y hy (by rw [←e1];rfl)
    rw [ns] at e2;omega
   ·have:=old x hx (by rw [e1];rfl)
    rw [ns] at e2;omega
   ·exact h.agr x y hx hy e1 e2
  ·rcases YJ (show p∈Kd (Uf w i) (-1) w.net _ from hp) with hp|⟨m,hm,rfl⟩
   ·exact h.tgt p hp
   ·obtain ⟨j,hj,rfl,_⟩:=Zi.1 hm
    show 0≤(j:Int)∧(j:Int)<w.n
    omega
end
section
open Go.RowKit
abbrev Pb:Int→Prop:=fun _=>False
theorem WV.mono {w:Wd} {A B:Int→Prop} (h:WV w A) (k:∀o,A o→B o):WV w B :=
  ⟨h.g,h.up,h.sq,h.db,h.net,h.rng,h.ok,h.own,fun l hl=>by
    obtain ⟨p1,p2,p3,p4,p5⟩:=h.poss l hl
    exact ⟨p1,p2,p3,p4,p5.imp id fun q=>q.imp id (k _)⟩,h.agr,h.tgt⟩
theorem WV.less {w:Wd} {A:Int→Prop} (h:WV w A) {db':List (List Ls)} {net':List Pk} (hd:db'.length=w.db.length) (hn:net'.length≤16) (ok:∀i,i<w.db.length→Jd (Qa db' i)) (own:∀i,i<w.db.length→∃l∈Qa db' i,l.o=i∧l.s=iz w.sq i) (said:∀l,Eh { w with db:=db',net:=net' } l→Eh w l) (tgt:∀p∈net',0≤p.t∧p.t<w.n):WV { w with db:=db',net:=net' } A :=
  ⟨h.g,h.up,h.sq,by show (db'.length:Int)=w.n;rw [hd];exact h.db,hn,h.rng,fun i hi=>ok i (by rw [←hd];exact hi),fun i hi=>own i (by rw [←hd];exact hi),fun l hl=>h.poss l (said l hl),fun x y hx hy=>h.agr x y (said x hx) (said y hy),tgt⟩
section
variable {w:Wd}
theorem WV.seq_le {A:Int→Prop} (h:WV w A) {i:Nat} (hi:i<w.db.length) {o:Nat} (ho:o<w.db.length):Vb (Qa w.db i) o≤iz w.sq o:=by
  unfold Vb
  have hr:=h.rng o (by have:=h.sq;have:=h.db;omega)
  cases e:fd (Qa w.db i) o with
  |none=>dsimp only;omega
  |some l =>
   obtain ⟨h1,h2⟩:=(Vj (Ki.1 (h.ok i hi).srt)).1 e
   have:=(h.poss l (.inl ⟨i,hi,h1⟩)).2.2.1
   rw [h2,Int.toNat_natCast] at this
   exact this
theorem WV.seq_own {A:Int→Prop} (h:WV w A) {i:Nat} (hi:i<w.db.length):Vb (Qa w.db i) i=iz w.sq i:=by
  obtain ⟨l,hl,h1,h2⟩:=h.own i hi
  unfold Vb
  rw [(Vj (Ki.1 (h.ok i hi).srt)).2 ⟨hl,h1⟩]
  exact h2
theorem jC {d:List Ls} (hs:Jc d) {o v:Int} (hv:0≤v) (h:Vb d o=v):∃l∈d,l.o=o∧l.s=v:=by
  unfold Vb at h
  cases e:fd d o with
  |none=>rw [e] at h;dsimp only at h;omega
  |some l =>
   rw [e] at h
   obtain ⟨h1,h2⟩:=(Vj hs).1 e
   exact ⟨l,h1,h2,h⟩
def Bo (w:Wd) (a b:Nat):Wd:={ w with db:=(w.db.set a (Xc (Qa w.db a) (Qa w.db b))).set b (Xc (Qa w.db a) (Qa w.db b)) }
theorem XR {a b:Nat} (ha:a<w.db.length) (hb:b<w.db.length) (i:Nat):Qa (Bo w a b).db i=if i=a∨i=b then Xc (Qa w.db a) (Qa w.db b) else Qa w.db i:=by
  show Qa ((w.db.set a _).set b _) i=_
  rw [Cm (by rw [List.length_set];exact hb)]
  by_cases h:i=b
  ·rw [if_pos h,if_pos (.inr h)]
  ·rw [if_neg h,Cm ha]
   by_cases h2:i=a
   ·rw [if_pos h2,if_pos (.inl h2)]
   ·rw [if_neg h2,if_neg (by rintro (e|e);exact h2 e;exact h e)]
theorem Jd.pos {db:List Ls} (h:Jd db):∀l∈db,0≤l.s:=fun l hl=>by
  have:=((Ao.1 h).1 l hl).2.2.1
  omega
theorem yAs {A:Int→Prop} (h:WV w A) {a b:Nat} (ha:a<w.db.length) (hb:b<w.db.length):WV (Bo w a b) A:=by
  have sa:=Ki.1 (h.ok a ha).srt
  have sb:=Ki.1 (h.ok b hb).srt
  have pa:=(h.ok a ha).pos
  have pb:=(h.ok b hb).pos
  refine h.less (db':=(Bo w a b).db) (net':=w.net) (by simp [Bo]) h.net (fun i hi=>?_) (fun i hi=>?_) (fun l hl=>?_) h.tgt
  ·rw [XR ha hb]
   split
   ·exact P5 (h.ok a ha) (Ao.1 (h.ok b hb)).1
   ·exact h.ok i hi
  ·rw [XR ha hb]
   have hr:=h.rng i (by have:=h.sq;have:=h.db;omega)
   split
   ·rename_i e
    refine jC (SR sa _) (by omega) ?_
    rw [S5 sa sb pb pa]
    have q1:=h.seq_le ha hi
    have q2:=h.seq_le hb hi
    rcases e with rfl|rfl
    ·have:=h.seq_own hi;omega
    ·have:=h.seq_own hi;omega
   ·exact h.own i hi
  ·rcases hl with ⟨j,hj,hl⟩|hl
   ·have hl:l∈Qa (Bo w a b).db j:=hl
    have hj:j<w.db.length:=by simpa [Bo] using hj
    rw [XR ha hb] at hl
    split at hl
    ·rcases iU hl with h|h
     ·exact .inl ⟨a,ha,h⟩
     ·exact .inl ⟨b,hb,h⟩
    ·exact .inl ⟨j,hj,hl⟩
   ·exact .inr hl
theorem F6 {A:Int→Prop} (h:WV w A) (k:Nat):WV { w with net:=w.net.eraseIdx k } A:=by
  refine h.less (db':=w.db) rfl (Nat.le_trans (List.length_eraseIdx_le _ _) h.net) h.ok h.own (fun l hl=>?_) (fun p hp=>h.tgt p (List.mem_of_mem_eraseIdx hp))
  rcases hl with hl|⟨p,hp,rfl⟩
  ·exact .inl hl
  ·exact .inr ⟨p,List.mem_of_mem_eraseIdx hp,rfl⟩
theorem yAt {A:Int→Prop} (h:WV w A) {p:Pk} (hp:p∈w.net) (hl:w.net.length<16):WV { w with net:=w.net++[p] } A:=by
  refine h.less (db':=w.db) rfl (by rw [List.length_append,List.length_singleton];omega) h.ok h.own (fun l hl=>?_) (fun q hq=>?_)
  ·rcases hl with hl|⟨q,hq,rfl⟩
   ·exact .inl hl
   ·rcases List.mem_append.1 hq with hq|hq
    ·exact .inr ⟨q,hq,rfl⟩
    ·obtain rfl:=List.mem_singleton.1 hq
     exact .inr ⟨q,hp,rfl⟩
  ·rcases List.mem_append.1 hq with hq|hq
   ·exact h.tgt q hq
   ·obtain rfl:=List.mem_singleton.1 hq
    exact h.tgt q hp
def Xj (w:Wd) (t:Nat) (l:Ls):Wd:=if Fe (Qa w.db t) l=0 then { w with db:=w.db.set t (Mc (Qa w.db t) l),net:=Kd l l.o w.net (Hc (Kc w.ls w.up) t w.n.toNat) } else w
theorem yAu {A:Int→Prop} (h:WV w A) {t:Nat} (ht:t<w.db.length) {l:Ls} (hV:Ff l) (hs:l.o<w.n) (hq:l.s≤iz w.sq l.o.toNat) (hP:Aj w A l) (hag:∀y,Eh w y→l.o=y.o→l.s=y.s→l=y):WV (Xj w t l) A:=by
  unfold Xj
  split
  case isFalse=>exact h
  rename_i hc
  have hdb:=h.db
  have st:=Ki.1 (h.ok t ht).srt
  have said:∀x,Eh { w with db:=w.db.set t (Mc (Qa w.db t) l),net:=Kd l l.o w.net (Hc (Kc w.ls w.up) t w.n.toNat) } x→x=l∨Eh w x:=fun x hx=>by
    rcases hx with ⟨j,hj,hx⟩|⟨p,hp,rfl⟩
    ·have hj:j<w.db.length:=by simpa using hj
     have hx:x∈Qa (w.db.set t (Mc (Qa w.db t) l)) j:=hx
     rw [Cm ht] at hx
     split at hx
     ·unfold Mc at hx
      rw [if_pos hc] at hx
      rcases Uj.1 hx with rfl|hx
      ·exact .inl rfl
      ·exact .inr (.inl ⟨t,ht,hx.1⟩)
     ·exact .inr (.inl ⟨j,hj,hx⟩)
    ·rcases YJ (show p∈Kd l l.o w.net _ from hp) with hp|⟨m,_,rfl⟩
     ·exact .inr (.inr ⟨p,hp,rfl⟩)
     ·exact .inl rfl
  refine ⟨h.g,h.up,h.sq,by show ((w.db.set t _).length:Int)=w.n;rw [List.length_set];exact hdb,A6 h.net,h.rng,fun j hj=>?_,fun j hj=>?_,fun x hx=>?_,fun x y hx hy e1 e2=>?_,fun p hp=>?_⟩
  ·have hj:j<w.db.length:=by simpa using hj
   show Jd (Qa (w.db.set t _) j)
   rw [Cm ht]
   split
   ·exact N5 (h.ok t ht) hV
   ·exact h.ok j hj
  ·have hj:j<w.db.length:=by simpa using hj
   show ∃x∈Qa (w.db.set t _) j,x.o=j∧x.s=iz w.sq j
   rw [Cm ht]
   split
   ·rename_i e
    subst e
    have hr:=h.rng j (by have:=h.sq;omega)
    refine jC (VJ st l) (by omega) ?_
    have hp:0≤l.s:=by have:=hV.2.2.1;omega
    rw [Q5 st hp]
    have:=h.seq_own ht
    split
    ·rename_i e
     have e2:l.o.toNat=j:=by omega
     rw [e2] at hq
     omega
    ·omega
   ·exact h.own j hj
  ·rcases said x hx with rfl|hx
   ·exact hP
   ·exact h.poss x hx
  ·rcases said x hx with ex|hx1
   ·rcases said y hy with ey|hy1
    ·rw [ex,ey]
    ·rw [ex] at e1 e2 ⊢
     exact hag y hy1 e1 e2
   ·rcases said y hy with ey|hy1
    ·rw [ey] at e1 e2 ⊢
     exact (hag x hx1 e1.symm e2.symm).symm
    ·exact h.agr x y hx1 hy1 e1 e2
  ·rcases YJ (show p∈Kd l l.o w.net _ from hp) with hp|⟨m,hm,rfl⟩
   ·exact h.tgt p hp
   ·obtain ⟨j,hj,rfl,_⟩:=Zi.1 hm
    show 0≤(j:Int)∧(j:Int)<w.n
    omega
end
end
section
open Go.RowKit
theorem yAv {ls ls':List Lk} {m:Int} (h:∀x:Int,lc ls m x=lc ls' m x) (k:Nat):Hc ls m k=Hc ls' m k:=by
  unfold Hc
  congr 1
  refine List.filter_congr fun x _=>?_
  rw [←GD,←GD,h]
theorem yAw {ls ls':List Lk} {m:Int} (h:∀x:Int,lc ls m x=lc ls' m x) (N:Nat):Pc ls N m=Pc ls' N m:=by
  unfold Pc
  rw [yAv h N]
  exact List.map_congr_left fun x _=>by rw [h]
theorem jD {up:List Bool} {k i:Nat} {u:Bool} (h:i≠k):(up.set k u).getD i false=up.getD i false:=by
  simp only [List.getD,List.getElem?_set]
  rw [if_neg (fun e=>h e.symm)]
theorem yAx {n:Int} {ls:List Lk} (g:GV n ls) {up:List Bool} {k:Nat} {u:Bool} {o:Int} (ha:o≠(lk ls k).a) (hb:o≠(lk ls k).b) (x:Int):lc (Kc ls (up.set k u)) o x=lc (Kc ls up) o x:=by
  have key:∀c,(⟨min o x,max o x,c⟩:Lk)∈Kc ls (up.set k u)↔(⟨min o x,max o x,c⟩:Lk)∈Kc ls up:=fun c=>by
    rw [WR,WR]
    have ne:∀i,(⟨min o x,max o x,c⟩:Lk)=lk ls i→i≠k:=fun i e hik=>by
      subst hik
      rw [←e] at ha hb
      dsimp only at ha hb
      omega
    constructor
    ·rintro ⟨i,h1,h2,h3⟩
     exact ⟨i,h1,by rwa [jD (ne i h3)] at h2,h3⟩
    ·rintro ⟨i,h1,h2,h3⟩
     exact ⟨i,h1,by rwa [jD (ne i h3)],h3⟩
  refine Option.ext fun c=>?_
  have h1:=CN (Sp g (up.set k u)).pw (a:=o) (b:=x) (c:=c)
  have h2:=CN (Sp g up).pw (a:=o) (b:=x) (c:=c)
  exact (h1.trans (key c)).trans h2.symm
theorem YR {w:Wd} (h:WV w Pb) {k:Nat} (hk:k<w.ls.length) (u:Bool):WV { w with up:=w.up.set k u } (fun o=>o=(lk w.ls k).a∨o=(lk w.ls k).b) :=
  ⟨h.g,by show (w.up.set k u).length=w.ls.length;rw [List.length_set];exact h.up,h.sq,h.db,h.net,h.rng,h.ok,h.own,fun l hl=>by
    obtain ⟨p1,p2,p3,p4,p5⟩:=h.poss l hl
    refine ⟨p1,p2,p3,p4,?_⟩
    by_cases hA:l.o=(lk w.ls k).a∨l.o=(lk w.ls k).b
    ·exact .inr (.inr hA)
    ·refine p5.imp id fun q=>.inl ?_
     have q:=q.resolve_right id
     show l.e=Pc (Kc w.ls (w.up.set k u)) w.n.toNat l.o
     rw [q]
     exact (yAw (yAx h.g (fun e=>hA (.inl e)) (fun e=>hA (.inr e))) _).symm,h.agr,h.tgt⟩
def Cg (w:Wd) (k:Nat) (u:Bool):Wd:=if w.up.getD k false=u∨99≤iz w.sq (lk w.ls k).a.toNat∨99≤iz w.sq (lk w.ls k).b.toNat then w else Vf (Vf { w with up:=w.up.set k u } (lk w.ls k).a.toNat) (lk w.ls k).b.toNat
theorem yAy {w:Wd} (h:WV w Pb) {k:Nat} (hk:k<w.ls.length) (u:Bool):WV (Cg w k u) Pb:=by
  unfold Cg
  split
  ·exact h
  ·rename_i hn
   have hdb:=h.db
   have hsq:=h.sq
   have ho:=h.g.ok (Ti hk)
   unfold Jg at ho
   have h1:=E6 (YR h hk u) (i:=(lk w.ls k).a.toNat) (by show _<w.db.length;omega) (by show iz w.sq _<99;omega)
   have h2:=E6 h1 (i:=(lk w.ls k).b.toNat) (by show _<(w.db.set _ _).length;rw [List.length_set];omega) (by
     show iz (w.sq.set (lk w.ls k).a.toNat _) (lk w.ls k).b.toNat<99
     rw [ZJ (by omega),if_neg (by omega)]
     omega)
   refine h2.mono fun o ho'=>?_
   obtain ⟨⟨q,q1⟩,q2⟩:=ho'
   rcases q with e|e
   ·exact q1 (by omega)
   ·exact q2 (by omega)
def Tg (n:Int) (ls:List Lk):Wd:=⟨n,ls,List.replicate ls.length true,List.replicate n.toNat 1,List.replicate n.toNat ((List.range n.toNat).map fun i:Nat=>(⟨i,1,Pc ls n.toNat i⟩:Ls)),[]⟩
theorem yAz (ls:List Lk):Kc ls (List.replicate ls.length true)=ls:=by
  unfold Kc Uh
  have:(List.range ls.length).filter (fun i=>(List.replicate ls.length true).getD i false)=List.range ls.length:=by
    rw [List.filter_eq_self]
    intro i hi
    have:=List.mem_range.1 hi
    simp [List.getD,this]
  rw [this]
  refine List.ext_getElem (by simp) fun i h1 h2=>?_
  rw [List.getElem_map,List.getElem_range,Gi h2]
theorem yAA {N:Nat} {ls:List Lk} (g:GV N ls):WV (Tg N ls) Pb:=by
  have hr:∀i,i<N→iz (List.replicate N (1:Int)) i=1:=fun i hi=>by simp [iz,List.getD,hi]
  have hd:∀i,i<N→Qa (Tg N ls).db i=(List.range N).map fun i:Nat=>(⟨i,1,Pc ls N i⟩:Ls):=fun i hi=>by
    show Qa (List.replicate (N:Int).toNat _) i=_
    rw [Int.toNat_natCast]
    simp [Qa,List.getD,hi]
  have hm:∀i,i<N→∀l,l∈Qa (Tg N ls).db i↔∃j,j<N∧l=⟨j,1,Pc ls N j⟩:=fun i hi l=>by
    rw [hd i hi,List.mem_map]
    constructor
    ·rintro ⟨j,hj,rfl⟩;exact ⟨j,List.mem_range.1 hj,rfl⟩
    ·rintro ⟨j,hj,rfl⟩;exact ⟨j,List.mem_range.2 hj,rfl⟩
  have hlen:(Tg N ls).db.length=N:=by simp [Tg]
  have said:∀l,Eh (Tg N ls) l→∃j,j<N∧l=⟨j,1,Pc ls N j⟩:=fun l hl=>by
    rcases hl with ⟨i,hi,hl⟩|⟨p,hp,_⟩
    ·rw [hlen] at hi
     exact (hm i hi l).1 hl
    ·simp [Tg] at hp
  have h1:=g.1
  refine ⟨g,by simp [Tg],by simp [Tg],by simp [Tg],by simp [Tg],fun i hi=>?_,fun i hi=>?_,fun i hi=>?_,fun l hl=>?_,fun x y hx hy e1 e2=>?_,fun p hp=>by simp [Tg] at hp⟩
  ·have hi:i<N:=by simpa [Tg] using hi
   show 1≤iz (List.replicate (N:Int).toNat 1) i∧iz (List.replicate (N:Int).toNat 1) i≤99
   rw [Int.toNat_natCast,hr i hi]
   omega
  ·rw [hlen] at hi
   rw [hd i hi]
   refine Ao.2 ⟨fun l hl=>?_,?_⟩
   ·obtain ⟨j,hj,rfl⟩:=List.mem_map.1 hl
    exact B6 g (List.mem_range.1 hj)
   ·unfold Jc
    rw [List.pairwise_map]
    refine List.Pairwise.imp ?_ (List.pairwise_lt_range (n:=N))
    intro a b hab
    show (a:Int)<b
    omega
  ·rw [hlen] at hi
   refine ⟨⟨i,1,Pc ls N i⟩,(hm i hi _).2 ⟨i,hi,rfl⟩,rfl,?_⟩
   show 1=iz (List.replicate (N:Int).toNat 1) i
   rw [Int.toNat_natCast,hr i hi]
  ·obtain ⟨j,hj,rfl⟩:=said l hl
   have hs:iz (Tg N ls).sq ((j:Nat):Int).toNat=1:=by
     show iz (List.replicate (N:Int).toNat 1) ((j:Nat):Int).toNat=1
     rw [Int.toNat_natCast,Int.toNat_natCast,hr j hj]
   refine ⟨B6 g hj,?_,?_,fun e he=>jB he,.inr (.inl ?_)⟩
   ·show (j:Int)<N;omega
   ·rw [hs];exact Int.le_refl _
   ·show Pc ls N j=Pc (Kc ls (List.replicate ls.length true)) (N:Int).toNat j
    rw [yAz,Int.toNat_natCast]
  ·obtain ⟨i,_,rfl⟩:=said x hx
   obtain ⟨j,_,rfl⟩:=said y hy
   dsimp only at e1
   obtain rfl:i=j:=by omega
   rfl
end
section
open Go.RowKit
def Qb (net:List Pk) (i:Nat):Pk:=net.getD i ⟨0,⟨0,0,[]⟩⟩
theorem Co {net:List Pk} {i:Nat} (h:i<net.length):Qb net i∈net:=by
  unfold Qb
  rw [List.getD,List.getElem?_eq_getElem h]
  exact List.getElem_mem h
def Dg (w:Wd) (k:Nat):Wd:=if w.up.getD k false then Bo w (lk w.ls k).a.toNat (lk w.ls k).b.toNat else w
def Yd (w:Wd) (kind a:Int):Wd :=
  if (kind=1∨kind=2)∧0≤a∧a<w.up.length then Cg w a.toNat (decide (kind=2))
  else if kind=3∧0≤a∧a<w.net.length then Xj { w with net:=w.net.eraseIdx a.toNat } (Qb w.net a.toNat).t.toNat (Qb w.net a.toNat).p
  else if kind=4∧0≤a∧a<w.net.length then { w with net:=w.net.eraseIdx a.toNat }
  else if kind=5∧0≤a∧a<w.net.length then (if w.net.length<16 then { w with net:=w.net++[Qb w.net a.toNat] } else w)
  else if kind=6∧0≤a∧a<w.up.length then Dg w a.toNat
  else w
theorem jE {w:Wd} (h:WV w Pb) {k:Nat} (hk:k<w.ls.length):WV (Dg w k) Pb:=by
  unfold Dg
  split
  ·have ho:=h.g.ok (Ti hk)
   have hdb:=h.db
   unfold Jg at ho
   exact yAs h (by omega) (by omega)
  ·exact h
theorem yAB {w:Wd} (h:WV w Pb) (kind a:Int):WV (Yd w kind a) Pb:=by
  have hup:=h.up
  unfold Yd
  split
  ·exact yAy h (by omega) _
  split
  ·rename_i hp
   have hm:Qb w.net a.toNat∈w.net:=Co (by omega)
   have hs:Eh w (Qb w.net a.toNat).p:=.inr ⟨_,hm,rfl⟩
   have hP:=h.poss _ hs
   have ht:=h.tgt _ hm
   have hdb:=h.db
   refine yAu (F6 h a.toNat) (by show _<w.db.length;omega) hP.1 hP.2.1 hP.2.2.1 hP fun y hy e1 e2=>?_
   refine h.agr _ y hs ?_ e1 e2
   rcases hy with hy|⟨p,hp,rfl⟩
   ·exact .inl hy
   ·exact .inr ⟨p,List.mem_of_mem_eraseIdx hp,rfl⟩
  split
  ·exact F6 h _
  split
  ·split
   ·exact yAt h (Co (by omega)) (by assumption)
   ·exact h
  split
  ·exact jE h (by omega)
  ·exact h
def Bj (w:Wd):Nat→Wd
  |0=>w
  |k+1=>Dg (Bj w k) k
def AK (w:Wd):Wd:=Bj w w.ls.length
def Kg (w:Wd):Nat→Wd
  |0=>w
  |k+1=>AK (Kg w k)
def Ug (w:Wd):Wd:=Kg { w with net:=[] } w.n.toNat
theorem G6 (w:Wd) (k:Nat):(Dg w k).n=w.n∧(Dg w k).ls=w.ls∧(Dg w k).up=w.up∧(Dg w k).sq=w.sq∧(Dg w k).net=w.net∧(Dg w k).db.length=w.db.length:=by
  unfold Dg
  split
  ·exact ⟨rfl,rfl,rfl,rfl,rfl,by simp [Bo]⟩
  ·exact ⟨rfl,rfl,rfl,rfl,rfl,rfl⟩
theorem BK (w:Wd) (k:Nat):(Bj w k).n=w.n∧(Bj w k).ls=w.ls∧(Bj w k).up=w.up∧(Bj w k).sq=w.sq∧(Bj w k).net=w.net∧(Bj w k).db.length=w.db.length:=by
  induction k with
  |zero=>exact ⟨rfl,rfl,rfl,rfl,rfl,rfl⟩
  |succ k ih =>
   have h:=G6 (Bj w k) k
   exact ⟨h.1.trans ih.1,h.2.1.trans ih.2.1,h.2.2.1.trans ih.2.2.1,h.2.2.2.1.trans ih.2.2.2.1,h.2.2.2.2.1.trans ih.2.2.2.2.1,h.2.2.2.2.2.trans ih.2.2.2.2.2⟩
theorem H6 (w:Wd) (k:Nat):(Kg w k).n=w.n∧(Kg w k).ls=w.ls∧(Kg w k).up=w.up∧(Kg w k).sq=w.sq∧(Kg w k).net=w.net∧(Kg w k).db.length=w.db.length:=by
  induction k with
  |zero=>exact ⟨rfl,rfl,rfl,rfl,rfl,rfl⟩
  |succ k ih =>
   have h:=BK (Kg w k) (Kg w k).ls.length
   exact ⟨h.1.trans ih.1,h.2.1.trans ih.2.1,h.2.2.1.trans ih.2.2.1,h.2.2.2.1.trans ih.2.2.2.1,h.2.2.2.2.1.trans ih.2.2.2.2.1,h.2.2.2.2.2.trans ih.2.2.2.2.2⟩
theorem CK {w:Wd} (h:WV w Pb):∀k,k≤w.ls.length→WV (Bj w k) Pb
  |0,_=>h
  |k+1,hk=>jE (CK h k (by omega)) (by rw [(BK w k).2.1];omega)
theorem DK {w:Wd} (h:WV w Pb):∀k,WV (Kg w k) Pb
  |0=>h
  |k+1=>CK (DK h k) _ (Nat.le_refl _)
theorem jF {w:Wd} (h:WV w Pb):WV (Ug w) Pb:=by
  refine DK (h.less (db':=w.db) rfl (by simp) h.ok h.own (fun l hl=>?_) (by simp)) _
  rcases hl with hl|⟨p,hp,_⟩
  ·exact .inl hl
  ·simp at hp
theorem WV.know {w:Wd} (h:WV w Pb):CB fun n=>Qa w.db n:=by
  have out:∀n,w.db.length≤n→Qa w.db n=[]:=fun n hn=>by
    unfold Qa
    rw [List.getD,List.getElem?_eq_none hn];rfl
  refine ⟨fun n=>?_,fun n l hl=>?_,fun m n x hx y hy=>?_⟩
  ·rcases Nat.lt_or_ge n w.db.length with hn|hn
   ·exact Ki.1 (h.ok n hn).srt
   ·show Jc (Qa w.db n)
    rw [out n hn];exact List.Pairwise.nil
  ·rcases Nat.lt_or_ge n w.db.length with hn|hn
   ·exact (h.ok n hn).pos l hl
   ·have hl:l∈Qa w.db n:=hl
    rw [out n hn] at hl;simp at hl
  ·have hx:x∈Qa w.db m:=hx
   have hy:y∈Qa w.db n:=hy
   rcases Nat.lt_or_ge m w.db.length with hm|hm
   ·rcases Nat.lt_or_ge n w.db.length with hn|hn
    ·exact h.agr x y (.inl ⟨m,hm,hx⟩) (.inl ⟨n,hn,hy⟩)
    ·rw [out n hn] at hy;simp at hy
   ·rw [out m hm] at hx;simp at hx
end
section
open Go.RowKit
section
variable {N:Nat} {la lb:List Lk}
theorem yAC {f:Nat→Nat→Option Int} {x y:Nat} {c:Int}:Sf (Ag f N) x y c↔(x<y∧y<N∧f x y=some c)∨(y<x∧x<N∧f y x=some c):=by
  constructor
  ·rintro ⟨l,hl,rfl,h⟩
   obtain ⟨a,b,c,h1,h2,h3,rfl⟩:=ED.1 hl
   dsimp only at h ⊢
   rcases h with ⟨e1,e2⟩|⟨e1,e2⟩
   ·obtain rfl:a=x:=by omega
    obtain rfl:b=y:=by omega
    exact .inl ⟨h1,h2,h3⟩
   ·obtain rfl:a=y:=by omega
    obtain rfl:b=x:=by omega
    exact .inr ⟨h1,h2,h3⟩
  ·rintro (⟨h1,h2,h3⟩|⟨h1,h2,h3⟩)
   ·exact ⟨⟨x,y,c⟩,ED.2 ⟨x,y,c,h1,h2,h3,rfl⟩,rfl,.inl ⟨rfl,rfl⟩⟩
   ·exact ⟨⟨y,x,c⟩,ED.2 ⟨y,x,c,h1,h2,h3,rfl⟩,rfl,.inr ⟨rfl,rfl⟩⟩
theorem I6 (g:GV N la) {x y:Nat} {c:Int}:Sf la x y c↔(x<y∧y<N∧lc la x y=some c)∨(y<x∧x<N∧lc la y x=some c):=by
  have:=yAC (N:=N) (f:=fun a b=>lc la a b) (x:=x) (y:=y) (c:=c)
  rwa [g.grid] at this
end
def Xk (ls:List Lk) (d:List Int) (f:Nat) (m:Int):Bool:=decide (iz d m.toNat+(lc ls f m).getD 0=iz d f)
def Pd (N:Nat) (ls:List Lk) (f t:Nat):List Int:=if f=t∨iz (Ub N ls t) f<0 then [] else (Hc ls f N).filter (Xk ls (Ub N ls t) f)
section
variable {N:Nat} {ls:List Lk}
end
end
section
open Go.RowKit
theorem jG (w:Wd):(Ug w).n=w.n∧(Ug w).ls=w.ls∧(Ug w).up=w.up∧(Ug w).sq=w.sq∧(Ug w).net=[]∧(Ug w).db.length=w.db.length:=H6 { w with net:=[] } w.n.toNat
section
variable {w:Wd} {N:Nat}
theorem jH (h:WV w Pb) (hN:w.n=N) {i a b:Nat} (hi:i<N) (hp:0<Sh (Qa w.db i) a b):lc w.ls a b=some (Sh (Qa w.db i) a b):=by
  have hdb:=h.db
  unfold Sh at hp ⊢
  cases e:fd (Qa w.db i) a with
  |none=>rw [e] at hp;simp at hp
  |some l =>
   rw [e] at hp
   dsimp only at hp ⊢
   obtain ⟨h1,h2⟩:=(Vj (Ki.1 (h.ok i (by omega)).srt)).1 e
   have hP:=(h.poss l (.inl ⟨i,by omega,h1⟩)).2.2.2.1
   unfold ec at hp ⊢
   cases e2:l.e.find? (fun e=>decide (e.n=(b:Int))) with
   |none=>rw [e2] at hp;simp at hp
   |some en =>
    have hm:=List.mem_of_find?_eq_some e2
    have hb:en.n=b:=oT (List.find?_some (p:=fun e:En=>decide (e.n=(b:Int))) e2)
    have:=hP en hm
    rw [h2,hb] at this
    exact this
theorem jI (h:WV w Pb) (hN:w.n=N) {i a b:Nat} {c:Int} (hi:i<N) (e:Ed (Qa w.db i) a b=some c):lc w.ls a b=some c:=by
  unfold Ed at e
  split at e
  ·rename_i hp
   injection e with e
   have h1:=jH h hN hi hp.1
   have h2:=jH h hN hi hp.2
   rw [FD] at h2
   rw [h1] at h2
   injection h2 with h2
   rw [h1]
   congr 1
   omega
  ·cases e
theorem jJ (h:WV w Pb) (hN:w.n=N) {i:Nat} (hi:i<N):GV N (Ag (Ed (Qa w.db i)) N):=by
  have g:GV (N:Int) w.ls:=by have:=h.g;rwa [hN] at this
  refine tC (by have:=g.1;omega) (by have:=g.2.1;omega) (fun a b c _ _ e=>Ry g (jI h hN hi e)) ?_
  have hle:=jA (N:=N) (f:=Ed (Qa w.db i)) (g:=fun a b=>lc w.ls a b) (k:=N) fun a b _ _ _ hs=>by
    obtain ⟨c,hc⟩:=Option.isSome_iff_exists.1 hs
    rw [jI h hN hi hc];rfl
  have e:(Ag (fun a b=>lc w.ls a b) N).length≤14:=by rw [g.grid];exact g.2.2.1
  exact Nat.le_trans hle e
end
end
section
open Go.RowKit
theorem yAD {N:Nat} {ls:List Lk} (g:GV N ls) {x y:Nat} {c:Int} (h:Sf ls x y c):lc ls y x=some c∧x<N∧y<N:=by
  rcases (I6 g).1 h with ⟨h1,h2,h3⟩|⟨h1,h2,h3⟩
  ·exact ⟨by rw [FD];exact h3,by omega,h2⟩
  ·exact ⟨h3,h2,by omega⟩
theorem ZR {N f t:Nat} {ls:List Lk} (g:GV N ls) (hf:f<N) (ht:t<N) (hne:f≠t) (hd:0≤iz (Ub N ls t) f):∃m:Nat,m<N∧iz (Pd N ls f t) 0=m∧0<(Pd N ls f t).length∧0≤iz (Ub N ls t) m∧iz (Ub N ls t) m<iz (Ub N ls t) f∧∃c,Sf ls f m c:=by
  have e:Pd N ls f t=(Hc ls f N).filter (Xk ls (Ub N ls t) f):=if_neg (not_or.2 ⟨hne,by omega⟩)
  have hx:∃x,x∈Pd N ls f t:=by
    obtain ⟨k,q⟩:=YM g ht hf hd
    generalize hD:iz (Ub N ls t) f=D at q
    cases q with
    |nil=>exact absurd rfl hne
    |@step k x _ s c q ha =>
     obtain ⟨h1,h2,h3⟩:=yAD g ha
     obtain ⟨l1,l2⟩:=Qy g ht q
     obtain ⟨k',q'⟩:=YM g ht h2 l1
     obtain ⟨l3,l4⟩:=Qy g ht (q'.step ha)
     refine ⟨(x:Int),?_⟩
     rw [e]
     refine List.mem_filter.2 ⟨Zi.2 ⟨x,h2,rfl,by rw [h1];rfl⟩,?_⟩
     unfold Xk
     rw [Ua,h1]
     simp only [Option.getD_some]
     exact decide_eq_true (by omega)
  have hl:0<(Pd N ls f t).length:=by
    obtain ⟨x,hx⟩:=hx
    exact List.length_pos_of_mem hx
  have h0:iz (Pd N ls f t) 0∈Pd N ls f t:=by
    have:iz (Pd N ls f t) 0=(Pd N ls f t)[0]:=by simp [iz,hl]
    rw [this]
    exact List.getElem_mem _
  generalize iz (Pd N ls f t) 0=y at h0
  rw [e] at h0
  obtain ⟨h1,h2⟩:=List.mem_filter.1 h0
  obtain ⟨m,hm,rfl,hs⟩:=Zi.1 h1
  obtain ⟨c,hc⟩:=Option.isSome_iff_exists.1 hs
  have h2:=oT h2
  rw [Ua,hc] at h2
  simp only [Option.getD_some] at h2
  have cc:=Ry g hc
  have o:=TJ g (m:=f) (x:=m) (by rw [hc];rfl)
  have ha:Sf ls f m c:=by
    rw [I6 g]
    rcases Nat.lt_trichotomy f m with e|e|e
    ·exact .inl ⟨e,hm,hc⟩
    ·omega
    ·exact .inr ⟨e,hf,by rw [FD];exact hc⟩
  have hm0:0≤iz (Ub N ls t) m:=by
    obtain ⟨k,q⟩:=YM g ht hf hd
    exact (Qy g ht (q.step ha)).1
  exact ⟨m,hm,rfl,hl,hm0,by omega,c,ha⟩
def Li (N:Nat) (ls:List Lk) (t:Nat):Nat→Nat→List Int
  |0,f=>[(f:Int)]
  |k+1,f=>if f=t then [(f:Int)] else (f:Int)::Li N ls t k (iz (Pd N ls f t) 0).toNat
end
section
open Go.RowKit
theorem Wd.same {a b:Wd} (h1:a.n=b.n) (h2:a.ls=b.ls) (h3:a.up=b.up) (h4:a.sq=b.sq) (h5:a.db=b.db) (h6:a.net=b.net):a=b:=by
  cases a;cases b;dsimp only at h1 h2 h3 h4 h5 h6;subst h1 h2 h3 h4 h5 h6;rfl
section
variable {w:Wd} {N:Nat}
theorem yAE (h:WV w Pb) {k:Nat} (hk:k<w.ls.length) (n:Nat):Qa (Dg w k).db n=if w.up.getD k false=true∧(n=(lk w.ls k).a.toNat∨n=(lk w.ls k).b.toNat) then Xc (Qa w.db (lk w.ls k).a.toNat) (Qa w.db (lk w.ls k).b.toNat) else Qa w.db n:=by
  have hdb:=h.db
  have g:=h.g
  obtain ⟨M,hM⟩:∃M:Nat,w.n=M:=⟨w.n.toNat,by have:=g.1;omega⟩
  rw [hM] at g
  obtain ⟨x,y,q1,q2,q3,q4⟩:=g.ends (lk w.ls k) (Ti hk)
  rw [q1,q2,Int.toNat_natCast,Int.toNat_natCast]
  unfold Dg
  rw [q1,q2,Int.toNat_natCast,Int.toNat_natCast]
  by_cases hu:w.up.getD k false=true
  ·rw [if_pos hu,XR (by omega) (by omega)]
   by_cases hn:n=x∨n=y
   ·rw [if_pos hn,if_pos ⟨hu,hn⟩]
   ·rw [if_neg hn,if_neg (by rintro ⟨_,h⟩;exact hn h)]
  ·rw [if_neg hu,if_neg (by rintro ⟨h,_⟩;exact hu h)]
theorem jK (h:WV w Pb) {k:Nat} (hk:k<w.ls.length) (n:Nat) (o:Int):Vb (Qa w.db n) o≤Vb (Qa (Dg w k).db n) o:=by
  have K:=h.know
  rw [yAE h hk]
  split
  ·rename_i q
   rw [S5 (K.srt _) (K.srt _) (K.pos _) (K.pos _)]
   rcases q.2 with rfl|rfl
   ·show Vb (Qa w.db _) o≤max (Vb (Qa w.db _) o) _
    exact Int.le_max_left _ _
   ·exact Int.le_max_right _ _
  ·exact Int.le_refl _
end
end
section
open Go.RowKit
theorem jL {db:List Ls} (hs:Jc db) {l:Ls} (hl:0≤l.s) (o:Int):Vb db o≤Vb (Mc db l) o:=by
  rw [Q5 hs hl]
  split
  ·exact Int.le_max_left _ _
  ·exact Int.le_refl _
section
variable {w:Wd}
theorem jM {i:Nat} (hi:i<w.db.length) (n:Nat):Qa (Vf w i).db n=if n=i then Mc (Qa w.db i) (Uf w i) else Qa w.db n:=Cm hi
theorem jN {i:Nat} (hi:i<w.db.length) (hs:∀n,Jc (Qa w.db n)) (h0:0≤iz w.sq i+1) (n:Nat) (o:Int):Vb (Qa w.db n) o≤Vb (Qa (Vf w i).db n) o:=by
  rw [jM hi]
  split
  ·rename_i e;subst e;exact jL (hs n) h0 o
  ·exact Int.le_refl _
theorem yAF {i:Nat} (hi:i<w.db.length) (hs:∀n,Jc (Qa w.db n)) (n:Nat):Jc (Qa (Vf w i).db n):=by
  rw [jM hi]
  split
  ·exact VJ (hs i) _
  ·exact hs n
theorem yAG {t:Nat} (ht:t<w.db.length) {l:Ls} (hs:∀n,Jc (Qa w.db n)) (hl:0≤l.s) (n:Nat) (o:Int):Vb (Qa w.db n) o≤Vb (Qa (Xj w t l).db n) o:=by
  unfold Xj
  split
  ·show _≤Vb (Qa (w.db.set t _) n) o
   rw [Cm ht]
   split
   ·rename_i e;subst e;exact jL (hs n) hl o
   ·exact Int.le_refl _
  ·exact Int.le_refl _
theorem yAH (h:WV w Pb) {k:Nat} (hk:k<w.ls.length) (u:Bool) (n:Nat) (o:Int):Vb (Qa w.db n) o≤Vb (Qa (Cg w k u).db n) o:=by
  unfold Cg
  split
  ·exact Int.le_refl _
  ·have ho:=h.g.ok (Ti hk)
   have hdb:=h.db
   have hsq:=h.sq
   unfold Jg at ho
   have ha:(lk w.ls k).a.toNat<w.db.length:=by omega
   have hb:(lk w.ls k).b.toNat<w.db.length:=by omega
   generalize (lk w.ls k).a.toNat=a at *
   generalize (lk w.ls k).b.toNat=b at *
   have ra:=h.rng a (by omega)
   have rb:=h.rng b (by omega)
   have K:=h.know.srt
   have s1:=yAF (w:={ w with up:=w.up.set k u }) (i:=a) ha K
   have n1:=jN (w:={ w with up:=w.up.set k u }) (i:=a) ha K (by show 0≤iz w.sq a+1;omega) n o
   have l1:(Vf { w with up:=w.up.set k u } a).db.length=w.db.length:=by simp [Vf]
   have q:0≤iz (Vf { w with up:=w.up.set k u } a).sq b+1:=by
     show 0≤iz (w.sq.set a (iz w.sq a+1)) b+1
     by_cases e:a=b
     ·subst e
      have:iz (w.sq.set a (iz w.sq a+1)) a=iz w.sq a+1:=by simp [iz,show a<w.sq.length by omega]
      omega
     ·have:iz (w.sq.set a (iz w.sq a+1)) b=iz w.sq b:=by simp [iz,List.getElem?_set,e]
      omega
   exact Int.le_trans n1 (jN (by omega) s1 q n o)
theorem yAI (h:WV w Pb) (kind a:Int) (n:Nat) (o:Int):Vb (Qa w.db n) o≤Vb (Qa (Yd w kind a).db n) o:=by
  have hup:=h.up
  have K:=h.know.srt
  unfold Yd
  split
  ·exact yAH h (by omega) _ n o
  split
  ·rename_i hx
   have hp:=Co (net:=w.net) (i:=a.toNat) (by omega)
   have q:=h.tgt _ hp
   have hdb:=h.db
   exact yAG (w:={ w with net:=w.net.eraseIdx a.toNat }) (by show _<w.db.length;omega) K (by
     have:=(h.poss _ (.inr ⟨_,hp,rfl⟩)).1
     unfold Ff at this
     omega) n o
  split
  ·exact Int.le_refl _
  split
  ·split
   ·exact Int.le_refl _
   ·exact Int.le_refl _
  split
  ·exact jK h (by omega) n o
  ·exact Int.le_refl _
end
end
section
open Go.RowKit
theorem EB (es:List Bool) (i:Nat):Ba .bool es i=es.getD i false:=by
  induction es generalizing i with
  |nil=>rfl
  |cons z r ih=>cases i with
   |zero=>rfl
   |succ i=>exact (ih i).trans (by simp)
theorem Vg (es:List (List Ls)) (i:Nat):Ba .db es i=Qa es i:=by
  induction es generalizing i with
  |nil=>rfl
  |cons z r ih=>cases i with
   |zero=>rfl
   |succ i=>exact (ih i).trans (by simp [Qa])
theorem Tp (es:List Pk) (i:Nat):Ba .pk es i=Qb es i:=by
  induction es generalizing i with
  |nil=>rfl
  |cons z r ih=>cases i with
   |zero=>rfl
   |succ i=>exact (ih i).trans (by simp [Qb])
abbrev Wt:=Int×List Lk×List Bool×List Int×List (List Ls)×List Pk×Unit
def wt (w:Wd):Wt:=(w.n,w.ls,w.up,w.sq,w.db,w.net,())
theorem yAJ {ls:List Lk} {k:Nat} (h:k<ls.length):ls.take k++[lk ls k]=ls.take (k+1):=by
  rw [List.take_add_one,List.getElem?_eq_getElem h,Gi h];rfl
theorem zFa (n:Int) (ls:List Lk) (hl:ls.length≤1000):BP (n,ls,())=some (n,ls,()):=by
  unfold BP
  refine Aa.out (Aa.bnd (R:=fun r=>match r with| .inl x=>x=(0,n,[],ls,())| .inr _=>False) ?_ ?_)
  ·refine Aa.count ls.length (fun k t=>t=(ls,(ls.length:Int),(k:Int),0,n,[],ls.take k,())) ?_ (Nat.zero_le _) (Ib (by omega)) (by simp [Ta])
   rintro k t hk rfl
   simp (disch:=omega) only [AP,UY,Ef,Ua,Ma,Ta,Option.bind_some]
   by_cases hlt:k<ls.length
   ·refine Aa.gd (decide_eq_true (by omega)) (Aa.gd (Ia (by omega) (by omega)) (Aa.ite (fun _=>Aa.gd (decide_eq_true (by simp only [List.length_take,List.length_singleton];omega)) (.some ⟨hlt,?_⟩)) (fun hh=>by cases hh)))
    rw [←yAJ hlt];rfl
   ·obtain rfl:k=ls.length:=by omega
    rw [List.take_length]
    exact Aa.no (dF (by omega)) (.some rfl)
  ·rintro (r|r) hr
   case inr=>exact hr.elim
   obtain rfl:=hr
   exact .some rfl
theorem jO (ls:List Lk) (up:List Bool) (k:Nat):(Uh ls up k).length≤k:=by
  unfold Uh
  rw [List.length_map]
  exact Nat.le_trans (List.length_filter_le _ _) (by simp)
theorem jP (w:Wd) (h:w.up.length=w.ls.length) (hl:w.ls.length≤1000):ZF (w.n,w.ls,w.up,w.sq,w.db,w.net,())=some (w.n,Kc w.ls w.up,()):=by
  cases w with|mk n ls up sq db net =>
  dsimp only at h hl
  unfold ZF WY
  refine Aa.out (Aa.bnd (R:=fun r=>r=(n,Kc ls up,())) (Aa.bnd (R:=fun r=>match r with| .inl x=>x=(0,n,[],Kc ls up,())| .inr _=>False) ?_ ?_) ?_)
  ·refine Aa.count ls.length (fun k t=>t=(n,ls,up,sq,db,net,ls,(ls.length:Int),(k:Int),0,n,[],Uh ls up k,())) ?_ (Nat.zero_le _) (Ib (by omega)) (by simp [Ta,Uh])
   rintro k t hk rfl
   have hq:=jO ls up k
   simp (disch:=omega) only [CP,VY,Ef,EB,Ua,Ma,Ta]
   by_cases hlt:k<ls.length
   ·refine Aa.gd (decide_eq_true (by omega)) (Aa.gd (Ia (by omega) (by omega)) (Aa.bnd (R:=fun r=>r=(up.getD k false,())) (Aa.gd (Ia (by omega) (by omega)) (.some rfl)) ?_))
    rintro _ rfl
    refine Aa.ite (fun hu=>Aa.gd (decide_eq_true (by simp only [List.length_singleton];omega)) (.some ⟨hlt,?_⟩)) (fun hu=>.some ⟨hlt,?_⟩)
    ·have hu:up.getD k false=true:=hu
     rw [VR,if_pos hu];rfl
    ·have hu:up.getD k false=false:=hu
     rw [VR,hu];rfl
   ·obtain rfl:k=ls.length:=by omega
    refine Aa.no (dF (by omega)) (.some rfl)
  ·rintro (r|r) hr
   case inr=>exact hr.elim
   obtain rfl:=hr
   exact .some rfl
  ·rintro _ rfl
   exact .some rfl
theorem J6 (w:Wd) (h:w.up.length=w.ls.length) (hl:w.ls.length≤1000):Ez (w.n,w.ls,w.up,w.sq,w.db,w.net,())=some (w.n,Kc w.ls w.up,()):=by
  cases w with|mk n ls up sq db net =>
  dsimp only at h hl
  unfold Ez
  refine Aa.out (Aa.bnd (R:=fun r=>match r with| .inl x=>x=(0,[],n,Kc ls up,())| .inr _=>False) ?_ ?_)
  ·refine Aa.count ls.length (fun k t=>t=((k:Int),n,ls,up,sq,db,net,0,[],n,Uh ls up k,())) ?_ (Nat.zero_le _) (Ib (by omega)) (by simp [Ta,Uh])
   rintro k t hk rfl
   have hq:=jO ls up k
   simp (disch:=omega) only [WO,Ef,EB,Ua,Ma,Ta]
   by_cases hlt:k<ls.length
   ·refine Aa.gd (decide_eq_true (by omega)) (Aa.gd (Ia (by omega) (by omega)) ?_)
    refine Aa.ite (fun hu=>Aa.gd (Ia (by omega) (by omega)) (Aa.gd (decide_eq_true (by simp only [List.length_singleton];omega)) (.some ⟨hlt,?_⟩))) (fun hu=>.some ⟨hlt,?_⟩)
    ·have hu:up.getD k false=true:=hu
     rw [VR,if_pos hu];rfl
    ·have hu:up.getD k false=false:=hu
     rw [VR,hu];rfl
   ·obtain rfl:k=ls.length:=by omega
    refine Aa.no (dF (by omega)) (.some rfl)
  ·rintro (r|r) hr
   case inr=>exact hr.elim
   obtain rfl:=hr
   exact .some rfl
theorem Jd.len {db:List Ls} (h:Jd db):db.length≤8:=by
  have key:∀i,i<db.length→(i:Int)≤(Jb db i).o:=fun i=>by
    induction i with
    |zero=>intro hi;exact (h 0 hi).1.1
    |succ i ih =>
     intro hi
     have h1:=ih (by omega)
     have h2:=(h (i+1) hi).2 (by omega)
     rw [Nat.add_sub_cancel] at h2
     omega
  rcases Nat.lt_or_ge 8 db.length with h8|h8
  ·have h1:=key 8 h8
   have h2:=(h 8 h8).1.2.1
   omega
  ·exact h8
theorem Ff.len {l:Ls} (h:Ff l):l.e.length≤8:=by
  have key:∀i,i<l.e.length→(i:Int)≤(en l.e i).n:=fun i=>by
    induction i with
    |zero=>intro hi;exact (h.2.2.2.2 0 hi).1
    |succ i ih =>
     intro hi
     have h1:=ih (by omega)
     have h2:=(h.2.2.2.2 (i+1) hi).2.2.2.2.2 (by omega)
     rw [Nat.add_sub_cancel] at h2
     omega
  rcases Nat.lt_or_ge 8 l.e.length with h8|h8
  ·have h1:=key 8 h8
   have h2:=(h.2.2.2.2 8 h8).2.1
   omega
  ·exact h8
theorem Jd.sm {db:List Ls} (h:Jd db):Ye db:=⟨by have:=h.len;unfold Sm;omega,fun l hl=>by
  have:=((Ao.1 h).1 l hl).len
  unfold Sm;omega⟩
theorem Ff.sm {l:Ls} (h:Ff l):Sm l.e:=by have:=h.len;unfold Sm;omega
theorem Jd.so {db:List Ls} (h:Jd db):Jc db:=Ki.1 h.srt
theorem WV.nn {w:Wd} {A:Int→Prop} (h:WV w A):1≤w.n∧w.n≤8:=⟨h.g.1,h.g.2.1⟩
theorem WV.lsl {w:Wd} {A:Int→Prop} (h:WV w A):w.ls.length≤14:=h.g.2.2.1
theorem yAK {n:Int} {ls:List Lk} (g:GV n ls) (m:Int):Ir (n,ls,m,())=some (Hc ls m n.toNat,()):=by
  have h1:=g.1
  have h3:=g.2.2.1
  obtain ⟨N,rfl⟩:=Int.eq_ofNat_of_zero_le (show 0≤n by omega)
  rw [K5 _ _ _ (by omega),M5 g,Int.toNat_natCast]
theorem nb8 {N:Nat} {ls:List Lk} (g:GV N ls) (m:Int):Hc ls m 8=Hc ls m N:=by
  have h2:=g.2.1
  refine QR (SJ ls m 8) (SJ ls m N) fun x=>?_
  rw [Zi,Zi]
  constructor
  ·rintro ⟨j,_,rfl,h⟩
   have:=TJ g h
   exact ⟨j,by omega,rfl,h⟩
  ·rintro ⟨j,hj,rfl,h⟩
   exact ⟨j,by omega,rfl,h⟩
theorem yAL {n:Int} {ls:List Lk} (g:GV n ls) (m:Int):VD (n,ls,m,())=some (Hc ls m n.toNat,()):=by
  have h1:=g.1
  have h3:=g.2.2.1
  obtain ⟨N,rfl⟩:=Int.eq_ofNat_of_zero_le (show 0≤n by omega)
  rw [zGb _ _ _ (show Cb ls by unfold Cb;omega),if_pos (show gv (N:Int) ls=true from decide_eq_true g),Int.toNat_natCast,nb8 g m]
theorem EK {l:Ls} {ex:Int} {net:List Pk} {nb:List Int} {k:Nat} (h:k<nb.length):Kd l ex net (nb.take (k+1))=Wj l ex (Kd l ex net (nb.take k)) (iz nb k):=by
  unfold Kd
  rw [List.take_add_one,List.getElem?_eq_getElem h,List.foldl_append]
  congr 1
  simp [iz,List.getD,h]
theorem yAM {l:Ls} {ex:Int} {net:List Pk} {m:Int} (h:16≤net.length):Wj l ex net m=net:=if_neg (by omega)
theorem jQ {l:Ls} {ex:Int} {net:List Pk} (h:16≤net.length):∀nb:List Int,Kd l ex net nb=net
  |[]=>rfl
  |m::r=>by
   show Kd l ex (Wj l ex net m) r=net
   rw [yAM h,jQ h r]
theorem yAN {l:Ls} {ex:Int} {net:List Pk} {nb:List Int} {k:Nat} (h:16≤(Kd l ex net (nb.take k)).length):Kd l ex net (nb.take k)=Kd l ex net nb:=by
  have:Kd l ex net nb=Kd l ex (Kd l ex net (nb.take k)) (nb.drop k):=by
    conv=>lhs;rw [←List.take_append_drop k nb]
    unfold Kd
    rw [List.foldl_append]
  rw [this,jQ h]
theorem jR (w:Wd) (i ex:Int) (l:Ls) (g:GV w.n w.ls) (hu:w.up.length=w.ls.length) (hn:w.net.length≤16) (hl:Sm l.e):Jv (i,l.o,l.s,l.e,ex,w.n,w.ls,w.up,w.sq,w.db,w.net,())=some (w.n,w.ls,w.up,w.sq,w.db,Kd l ex w.net (Hc (Kc w.ls w.up) i w.n.toNat),()):=by
  have h14:=g.2.2.1
  unfold Jv
  dsimp only
  rw [jP w hu (by omega)]
  simp only [Option.bind_some,yAK (Sp g w.up)]
  have h8:=Yq (Kc w.ls w.up) i w.n.toNat
  have hn8:=g.2.1
  generalize Hc (Kc w.ls w.up) i w.n.toNat=nb at h8 ⊢
  refine Aa.out (Aa.bnd (R:=fun r=>match r with| .inl x=>x=(w.n,w.ls,w.up,w.sq,w.db,Kd l ex w.net nb,())| .inr _=>False) ?_ ?_)
  ·refine Aa.count nb.length (fun k t=>t=(ex,(nb.length:Int),(k:Int),w.n,w.ls,w.up,w.sq,w.db,l.o,l.s,l.e,nb,Kd l ex w.net (nb.take k),())) ?_ (Nat.zero_le _) (Ib (by omega)) (by simp [Ta,Kd])
   rintro k t hk rfl
   simp (disch:=omega) only [OQ,NQ,Uc,Ua,Ma,Ta,UR _ _ _ hl,Option.bind_some]
   by_cases hlt:k<nb.length
   ·refine Aa.gd (decide_eq_true (by omega)) (Aa.gd (Ia (by omega) (by omega)) (Aa.ite (fun he=>Aa.ite (fun hf=>?_) (fun hf=>?_)) (fun he=>?_)))
    ·have he:¬iz nb k=ex:=by simpa using he
     have hf:=oT hf
     refine Aa.bnd (R:=fun r=>r=.inl (ex,(nb.length:Int),(k:Int),w.n,w.ls,w.up,w.sq,w.db,l.o,l.s,l.e,nb,Kd l ex w.net (nb.take k)++[⟨iz nb k,l⟩],())) (Aa.gd (decide_eq_true (by simp only [List.length_singleton];omega)) (.some rfl)) ?_
     rintro _ rfl
     simp (disch:=omega) only [Ma]
     refine .some ⟨hlt,?_⟩
     rw [EK hlt,Wj,if_pos ⟨he,by omega⟩]
     rfl
    ·have hf:=oF hf
     refine .some ⟨hlt,?_⟩
     rw [EK hlt,Wj,if_neg (by omega)]
     rfl
    ·have he:iz nb k=ex:=by simpa using he
     refine .some ⟨hlt,?_⟩
     rw [EK hlt,Wj,if_neg (fun hh=>hh.1 he)]
     rfl
   ·obtain rfl:k=nb.length:=by omega
    rw [List.take_length]
    exact Aa.no (dF (by omega)) (.some rfl)
  ·rintro (r|r) hr
   case inr=>exact hr.elim
   obtain rfl:=hr
   exact .some rfl
theorem jS (w:Wd) (i ex:Int) (l:Ls) (g:GV w.n w.ls) (hu:w.up.length=w.ls.length) (hn:w.net.length≤16) (hl:Sm l.e):VH (w.n,i,l.o,l.s,l.e,ex,w.ls,w.up,w.sq,w.db,w.net,())=some (w.n,w.ls,w.up,w.sq,w.db,Kd l ex w.net (Hc (Kc w.ls w.up) i w.n.toNat),()):=by
  have h14:=g.2.2.1
  unfold VH
  dsimp only
  rw [J6 w hu (by omega)]
  simp only [Option.bind_some,yAL (Sp g w.up)]
  have h8:=Yq (Kc w.ls w.up) i w.n.toNat
  have hn8:=g.2.1
  generalize Hc (Kc w.ls w.up) i w.n.toNat=nb at h8 ⊢
  refine Aa.out (Aa.bnd (R:=fun r=>match r with| .inl x=>x=(w.ls,w.up,w.sq,w.db,w.n,0,[],[],[],[],[],Kd l ex w.net nb,())| .inr _=>False) ?_ ?_)
  ·refine Aa.count nb.length (fun k t=>t=(ex,(k:Int),w.ls,w.up,w.sq,w.db,w.n,l.o,l.s,l.e,0,[],[],[],[],[],nb,Kd l ex w.net (nb.take k),())) ?_ (Nat.zero_le _) (Ib (by omega)) (by simp [Ta,Kd])
   rintro k t hk rfl
   simp (disch:=omega) only [LQ,Uc,Ua,Ma,Ta,BB _ _ _ hl,Option.bind_some]
   by_cases hlt:k<nb.length
   ·refine Aa.gd (decide_eq_true (by omega)) (Aa.ite (fun hf=>?_) (fun hf=>?_))
    ·have hf:=oT hf
     refine Aa.gd (Ia (by omega) (by omega)) (Aa.ite (fun he=>?_) (fun he=>?_))
     ·have he:¬iz nb k=ex:=by simpa using he
      refine Aa.gd (Ia (by omega) (by omega)) (Aa.gd (decide_eq_true (by simp only [List.length_nil];omega)) (Aa.gd (decide_eq_true (by simp only [List.nil_append,List.length_singleton];omega)) (.some ⟨hlt,?_⟩)))
      rw [EK hlt,Wj,if_pos ⟨he,by omega⟩]
      rfl
     ·have he:iz nb k=ex:=by simpa using he
      refine .some ⟨hlt,?_⟩
      rw [EK hlt,Wj,if_neg (fun hh=>hh.1 he)]
      rfl
    ·have hf:=oF hf
     exact .some (by rw [yAN (by omega)])
   ·obtain rfl:k=nb.length:=by omega
    rw [List.take_length]
    exact Aa.no (dF (by omega)) (.some rfl)
  ·rintro (r|r) hr
   case inr=>exact hr.elim
   obtain rfl:=hr
   exact .some rfl
end
section
open Go.RowKit
theorem Ka {α β:Type} {o:Option α} {f:α→Option β} {r:α} {Q:β→Prop} (h:o=some r) (k:Aa (f r) Q):Aa (o.bind f) Q:=by subst h;exact k
theorem yAO {α:Type} {l:List α} {i:Nat} {d:α} (h:i<l.length):l.set i (l.getD i d)=l:=by
  rw [List.getD,List.getElem?_eq_getElem h]
  exact List.set_getElem_self h
theorem yAP {n:Int} {ls:List Lk} (g:GV n ls) (o s:Int):Cz (n,ls,o,s,())=some (o,s,Pc ls n.toNat o,()):=by
  have h1:=g.1
  obtain ⟨N,rfl⟩:=Int.eq_ofNat_of_zero_le (show 0≤n by omega)
  exact iM g o s
theorem jT {n:Int} {ls:List Lk} (g:GV n ls) (o s:Int):Cs (n,ls,o,s,())=some (o,s,Pc ls n.toNat o,()):=by
  have h1:=g.1
  obtain ⟨N,rfl⟩:=Int.eq_ofNat_of_zero_le (show 0≤n by omega)
  exact iO g o s
section
variable {w:Wd} {A:Int→Prop}
theorem zD1 (h:WV w A) {i:Nat} (hi:i<w.db.length) (h99:iz w.sq i<99):Xl ((i:Int),w.n,w.ls,w.up,w.sq,w.db,w.net,())=some (wt (Vf w i)):=by
  have hsq:=h.sq
  have hdb:=h.db
  have his:i<w.sq.length:=by omega
  have hr:=h.rng i his
  have h14:=h.lsl
  have hd:=h.ok i hi
  have hnw:=C6 h hi h99
  have hlen:=hd.len
  have b1:ZH ((i:Int),w.n,w.ls,w.up,w.sq.set i (iz w.sq i+1),w.db,w.net,())=some (.inl ((i:Int),w.n,w.ls,w.up,w.sq.set i (iz w.sq i+1),w.db,(i:Int),iz w.sq i+1,w.net,Pc (Kc w.ls w.up) w.n.toNat i,())):=by
    unfold ZH
    simp only [Ua,Uc]
    refine Aa.out (Aa.gd (Ia (by omega) (by rw [List.length_set];omega)) (Ka (jP { w with sq:=w.sq.set i (iz w.sq i+1) } h.up (by show w.ls.length≤1000;omega)) ?_))
    dsimp only
    refine Ka (yAP (Sp h.g w.up) _ _) (.some ?_)
    dsimp only
    rw [ZJ his,if_pos rfl]
  have b2:AI ((i:Int),w.n,w.ls,w.up,w.sq.set i (iz w.sq i+1),w.db,(i:Int),iz w.sq i+1,w.net,Pc (Kc w.ls w.up) w.n.toNat i,())=some (.inl ((i:Int),w.n,w.ls,w.up,w.sq.set i (iz w.sq i+1),w.db.set i (Mc (Qa w.db i) (Uf w i)),(i:Int),iz w.sq i+1,w.net,Pc (Kc w.ls w.up) w.n.toNat i,())):=by
    unfold AI
    simp only [Ua,Vg]
    exact Aa.out (Aa.gd (Ia (by omega) (by omega)) (Ka (U5 (Qa w.db i) (Uf w i) hd.so hd.sm hnw.sm (by omega)) (Aa.gd (Ia (by omega) (by omega)) (.some rfl))))
  unfold Xl
  simp (disch:=omega) only [Ua,Uc,Ma]
  refine Aa.out (Aa.gd (Ia (by omega) (by omega)) (Aa.gd (Ia (by omega) (by omega)) (Ka b1 ?_)))
  dsimp only
  refine Ka b2 ?_
  dsimp only
  exact Ka (jR { w with sq:=w.sq.set i (iz w.sq i+1),db:=w.db.set i (Mc (Qa w.db i) (Uf w i)) } (i:Int) (-1) (Uf w i) h.g h.up h.net hnw.sm) (.some rfl)
theorem zFu (h:WV w A) {i:Nat} (hi:i<w.db.length) (h99:iz w.sq i<99):Sz (w.n,(i:Int),w.ls,w.up,w.sq,w.db,w.net,())=some (wt (Vf w i)):=by
  have hsq:=h.sq
  have hdb:=h.db
  have his:i<w.sq.length:=by omega
  have hr:=h.rng i his
  have h14:=h.lsl
  have hd:=h.ok i hi
  have hnw:=C6 h hi h99
  have b1:WH ((i:Int),w.ls,w.up,w.sq.set i (iz w.sq i+1),w.db,w.n,0,[],[],[],[],[],w.net,())=some (.inl ((i:Int),w.ls,w.up,w.sq.set i (iz w.sq i+1),w.db,w.n,0,[],[],[],[],[],(i:Int),iz w.sq i+1,w.net,Pc (Kc w.ls w.up) w.n.toNat i,())):=by
    unfold WH
    simp only [Ua,Uc]
    refine Aa.out (Aa.gd (Ia (by omega) (by rw [List.length_set];omega)) (Ka (J6 { w with sq:=w.sq.set i (iz w.sq i+1) } h.up (by show w.ls.length≤1000;omega)) ?_))
    dsimp only
    refine Ka (jT (Sp h.g w.up) _ _) (.some ?_)
    dsimp only
    rw [ZJ his,if_pos rfl]
  unfold Sz
  simp (disch:=omega) only [Ua,Uc,Ma]
  refine Aa.out (Aa.gd (Ia (by omega) (by omega)) (Aa.gd (Ia (by omega) (by omega)) (Ka b1 ?_)))
  simp only [Ua,Vg]
  refine Aa.gd (Ia (by omega) (by omega)) (Ka (V5 (Qa w.db i) (Uf w i) hd.so hd.sm hnw.sm) (Aa.gd (Ia (by omega) (by omega)) ?_))
  exact Ka (jS { w with sq:=w.sq.set i (iz w.sq i+1),db:=w.db.set i (Mc (Qa w.db i) (Uf w i)) } (i:Int) (-1) (Uf w i) h.g h.up h.net hnw.sm) (.some rfl)
theorem jU (h:WV w A) {i:Int} (h0:0≤i) (hi:i<w.n) (h99:iz w.sq i.toNat<99):Xl (i,w.n,w.ls,w.up,w.sq,w.db,w.net,())=some (wt (Vf w i.toNat)):=by
  have hdb:=h.db
  obtain ⟨k,rfl⟩:=Int.eq_ofNat_of_zero_le h0
  exact zD1 h (by omega) h99
theorem jV (h:WV w A) {i:Int} (h0:0≤i) (hi:i<w.n) (h99:iz w.sq i.toNat<99):Sz (w.n,i,w.ls,w.up,w.sq,w.db,w.net,())=some (wt (Vf w i.toNat)):=by
  have hdb:=h.db
  obtain ⟨k,rfl⟩:=Int.eq_ofNat_of_zero_le h0
  exact zFu h (by omega) h99
structure FB (w:Wd):Prop where
  ls:w.ls.length≤2000000
  up:w.up.length≤2000000
  sq:w.sq.length≤2000000
  db:w.db.length≤2000000
  net:w.net.length≤2000000
  dbs:∀i,i<w.db.length→Ye (Qa w.db i)
  pks:∀i,i<w.net.length→Sm (Qb w.net i).p.e
theorem WV.sm (h:WV w A):FB w:=by
  have h1:=h.lsl
  have h2:=h.up
  have h3:=h.sq
  have h4:=h.db
  have h5:=h.net
  have h6:=h.nn
  exact ⟨by omega,by omega,by omega,by omega,by omega,fun i hi=>(h.ok i hi).sm,fun i hi=>(h.poss _ (.inr ⟨_,Co hi,rfl⟩)).1.sm⟩
theorem K6 {db:List (List Ls)} {k:Nat} (h:k<db.length):db.take k++[Qa db k]=db.take (k+1):=by
  rw [List.take_add_one,List.getElem?_eq_getElem h];simp [Qa,List.getD,h]
theorem jW {net:List Pk} {k:Nat} (h:k<net.length):net.take k++[⟨(Qb net k).t,⟨(Qb net k).p.o,(Qb net k).p.s,(Qb net k).p.e⟩⟩]=net.take (k+1):=by
  rw [List.take_add_one,List.getElem?_eq_getElem h]
  have:Qb net k=net[k]:=by simp [Qb,List.getD,h]
  rw [this];rfl
theorem jX (n:Int) (ls:List Lk) (hl:ls.length≤2000000):LF (n,ls,())=some (n,ls,()):=by
  unfold LF
  exact Aa.out (Aa.gd (decide_eq_true (by simp only [List.length_nil];omega)) (.some rfl))
theorem FK (h:FB w):Gp (w.n,w.ls,w.up,w.sq,w.db,w.net,())=some (w.n,w.ls,w.up,w.sq,w.db,w.net,()):=by
  have h1:=h.ls
  have h2:=h.up
  have h3:=h.sq
  have h4:=h.db
  have h5:=h.net
  cases w with|mk n ls up sq db net =>
  dsimp only at h1 h2 h3 h4 h5 ⊢
  have b1:WF (n,ls,up,sq,db,net,0,[],[],[],[],[],())=some (.inl (n,ls,up,sq,db,net,0,[],[],[],[],[],n,ls,up,sq,[],[],())):=by
    unfold WF
    exact Aa.out (Ka (jX n ls h1) (Aa.gd (decide_eq_true (by simp;omega)) (Aa.gd (decide_eq_true (by simp;omega)) (.some (by simp)))))
  unfold Gp
  refine Aa.out (Ka b1 ?_)
  refine Aa.bnd (R:=fun r=>match r with| .inl x=>x=(n,ls,up,sq,db,net,0,[],[],[],[],[],n,ls,up,sq,db,[],())| .inr _=>False) ?_ ?_
  ·refine Aa.count db.length (fun k t=>t=((k:Int),n,ls,up,sq,db,net,0,[],[],[],[],[],n,ls,up,sq,db.take k,[],())) ?_ (Nat.zero_le _) (Ib (by omega)) (by simp [Ta])
   rintro k t hk rfl
   by_cases hlt:k<db.length
   ·have e1:=XJ _ (h.dbs k hlt)
    simp (disch:=omega) only [XF,Vg,Ua,Ma,Ta,e1,Option.bind_some]
    refine Aa.gd (decide_eq_true (by omega)) (Aa.gd (Ia (by omega) (by omega)) (Aa.gd (decide_eq_true (by simp;omega)) (.some ⟨hlt,?_⟩)))
    rw [←K6 hlt];rfl
   ·obtain rfl:k=db.length:=by omega
    unfold XF
    simp only [Ta]
    refine Aa.no (dF (by first|omega|(dsimp only;omega))) (.some ?_)
    rw [List.take_length]
  rintro (r|r) hr
  case inr=>exact hr.elim
  obtain rfl:=hr
  refine Aa.bnd (R:=fun r=>match r with| .inl x=>x=(0,[],[],[],[],[],n,ls,up,sq,db,net,())| .inr _=>False) ?_ ?_
  ·refine Aa.count net.length (fun k t=>t=((k:Int),n,ls,up,sq,db,net,0,[],[],[],[],[],n,ls,up,sq,db,net.take k,())) ?_ (Nat.zero_le _) (Ib (by omega)) (by simp [Ta])
   rintro k t hk rfl
   by_cases hlt:k<net.length
   ·have e1:=BB (Qb net k).p.o (Qb net k).p.s _ (h.pks k hlt)
    simp (disch:=omega) only [YF,Tp,Ua,Ma,Ta,e1,Option.bind_some]
    refine Aa.gd (decide_eq_true (by omega)) (Aa.gd (Ia (by omega) (by omega)) (Aa.gd (Ia (by omega) (by omega)) ?_))
    refine Aa.gd (decide_eq_true (by simp;omega)) (.some ⟨hlt,?_⟩)
    rw [←jW hlt];rfl
   ·obtain rfl:k=net.length:=by omega
    unfold YF
    simp only [Ta]
    refine Aa.no (dF (by first|omega|(dsimp only;omega))) (.some ?_)
    rw [List.take_length]
  rintro (r|r) hr
  case inr=>exact hr.elim
  obtain rfl:=hr
  exact .some rfl
end
end
section
open Go.RowKit
section
variable {w:Wd} {A:Int→Prop}
theorem L6 {kind a:Int} (hk:kind=1∨kind=2):Yd w kind a=if 0≤a∧a<w.up.length then Cg w a.toNat (decide (kind=2)) else w:=by
  unfold Yd
  rcases hk with rfl|rfl<;>simp
theorem BS {a:Int}:Yd w 3 a=if 0≤a∧a<w.net.length then Xj { w with net:=w.net.eraseIdx a.toNat } (Qb w.net a.toNat).t.toNat (Qb w.net a.toNat).p else w:=by
  unfold Yd;simp
theorem CS {a:Int}:Yd w 4 a=if 0≤a∧a<w.net.length then { w with net:=w.net.eraseIdx a.toNat } else w:=by
  unfold Yd;simp
theorem DS {a:Int}:Yd w 5 a=if 0≤a∧a<w.net.length then (if w.net.length<16 then { w with net:=w.net++[Qb w.net a.toNat] } else w) else w:=by
  unfold Yd;simp
theorem M6 {a:Int}:Yd w 6 a=if 0≤a∧a<w.up.length then Dg w a.toNat else w:=by
  unfold Yd;simp
theorem jY {kind a:Int} (h1:kind≠1) (h2:kind≠2) (h3:kind≠3) (h4:kind≠4) (h5:kind≠5) (h6:kind≠6):Yd w kind a=w:=by
  unfold Yd;simp [h1,h2,h3,h4,h5,h6]
theorem jZ (h:WV w Pb) {k:Nat} (hk:k<w.ls.length) (u:Bool) (ha:iz w.sq (lk w.ls k).a.toNat<99) (hb:iz w.sq (lk w.ls k).b.toNat<99):∃A,WV (Vf { w with up:=w.up.set k u } (lk w.ls k).a.toNat) A∧iz (Vf { w with up:=w.up.set k u } (lk w.ls k).a.toNat).sq (lk w.ls k).b.toNat<99:=by
  have hdb:=h.db
  have hsq:=h.sq
  have ho:=h.g.ok (Ti hk)
  unfold Jg at ho
  refine ⟨_,E6 (YR h hk u) (i:=(lk w.ls k).a.toNat) (by show _<w.db.length;omega) (by show iz w.sq _<99;omega),?_⟩
  show iz (w.sq.set (lk w.ls k).a.toNat _) (lk w.ls k).b.toNat<99
  rw [ZJ (by omega),if_neg (by omega)]
  omega
theorem kA (h:WV w Pb) {k:Nat} (hk:k<w.ls.length) (u:Bool):Sn (w.n,w.ls,w.up,w.sq,w.db,w.net,(k:Int),u,())=some (wt (Cg w k u)):=by
  have hdb:=h.db
  have hsq:=h.sq
  have hup:=h.up
  have ho:=h.g.ok (Ti hk)
  unfold Jg at ho
  have main:w.up.getD k false≠u→iz w.sq (lk w.ls k).a.toNat<99→iz w.sq (lk w.ls k).b.toNat<99→YH (w.n,0,[],[],[],[],[],(lk w.ls k).a,(lk w.ls k).b,(lk w.ls k).c,w.ls,w.up.set k u,w.sq,w.db,w.net,())=some (.inl (wt (Cg w k u))):=fun hu ha hb=>by
    obtain ⟨A,v,hv⟩:=jZ h hk u ha hb
    unfold YH
    refine Aa.out (Ka (jV (YR h hk u) (i:=(lk w.ls k).a) (by omega) (by show _<w.n;omega) ha) ?_)
    dsimp only [wt]
    refine Ka (jV v (i:=(lk w.ls k).b) (by omega) (by show _<w.n;omega) hv) (.some ?_)
    unfold Cg
    rw [if_neg (by rintro (e|e|e);exact hu e;omega;omega)]
    rfl
  unfold Sn
  simp only [Ua,Ef,EB,Uc]
  refine Aa.out (Aa.gd (Ia (by omega) (by omega)) (Aa.gd (Ia (by omega) (by omega)) (Aa.ite (fun hc=>.some ?_) (fun hc=>?_))))
  ·have hc:w.up.getD k false=u:=by simpa using hc
   unfold Cg;rw [if_pos (.inl hc)];rfl
  have hc:w.up.getD k false≠u:=by simpa using hc
  refine Aa.gd (Ia (by omega) (by omega)) (Aa.ite (fun ha=>.some ?_) (fun ha=>?_))
  ·have ha:=oT ha
   unfold Cg;rw [if_pos (.inr (.inl ha))];rfl
  have ha:=oF ha
  refine Aa.gd (Ia (by omega) (by omega)) (Aa.ite (fun hb=>.some ?_) (fun hb=>?_))
  ·have hb:=oT hb
   unfold Cg;rw [if_pos (.inr (.inr hb))];rfl
  have hb:=oF hb
  refine Ka (FK h.sm) ?_
  dsimp only [wt]
  refine Aa.gd (Ia (by omega) (by omega)) (Ka (main hc (by omega) (by omega)) (.some rfl))
theorem zFz (h:WV w A) {t:Nat} (ht:t<w.db.length) {l:Ls} (hl:Ff l):MQ (w.n,w.ls,w.up,w.sq,w.db,w.net,(t:Int),l.o,l.s,l.e,())=some (wt (Xj w t l)):=by
  have hd:=h.ok t ht
  unfold MQ
  simp only [Ua,Vg]
  refine Aa.out (Aa.gd (Ia (by omega) (by omega)) (Ka (V5 (Qa w.db t) l hd.so hd.sm hl.sm) ?_))
  dsimp only
  unfold Xj
  refine Aa.ite (fun hc=>.some ?_) (fun hc=>?_)
  ·have hc:¬Fe (Qa w.db t) l=0:=by simpa using hc
   rw [if_neg hc];rfl
  ·have hc:Fe (Qa w.db t) l=0:=by simpa using hc
   rw [if_pos hc]
   refine Ka (FK h.sm) ?_
   dsimp only
   refine Aa.gd (Ia (by omega) (by omega)) ?_
   exact Ka (jS { w with db:=w.db.set t (Mc (Qa w.db t) l) } (t:Int) l.o l h.g h.up h.net hl.sm) (.some rfl)
theorem kB (h:WV w A) {k:Nat} (hk:k<w.ls.length):Wl (w.n,w.ls,w.up,w.sq,w.db,w.net,(k:Int),())=some (wt (Dg w k)):=by
  have hdb:=h.db
  have hup:=h.up
  have ho:=h.g.ok (Ti hk)
  unfold Jg at ho
  have va:=h.ok (lk w.ls k).a.toNat (by omega)
  have vb:=h.ok (lk w.ls k).b.toNat (by omega)
  have vm:=P5 va (Ao.1 vb).1
  have la:=va.len
  have lb:=vb.len
  unfold Wl Dg
  simp only [Ua,Vg,Ef,EB]
  refine Aa.out (Aa.gd (Ia (by omega) (by omega)) (Aa.gd (Ia (by omega) (by omega)) (Aa.ite (fun hc=>.some ?_) (fun hc=>?_))))
  ·have hc:¬w.up.getD k false=true:=by simpa using hc
   rw [if_neg hc];rfl
  ·have hc:w.up.getD k false=true:=by simpa using hc
   rw [if_pos hc]
   refine Ka (FK h.sm) ?_
   dsimp only
   refine Aa.gd (Ia (by omega) (by omega)) (Aa.gd (Ia (by omega) (by omega)) (Ka (zFf _ _ va.so va.sm vb.sm (by omega) (by omega)) ?_))
   dsimp only
   refine Aa.gd (Ia (by omega) (by omega)) (Ka (XJ _ vm.sm) ?_)
   refine Aa.gd (Ia (by omega) (by rw [List.length_set];omega)) (.some rfl)
theorem toS (k:Nat):Int.toNat ((k:Int)+1)=k+1:=by omega
theorem tkd {α:Type} (l:List α) (j:Nat):List.take (l.length-j) (List.drop j l)=List.drop j l:=List.take_of_length_le (by simp)
theorem kC {lo hi:Int} {n:Nat} (h1:0≤lo) (h2:lo≤hi) (h3:hi≤n):Bf lo hi n=true:=by unfold Bf;simp;omega
theorem zFB (h:WV w Pb) {kind:Int} (hk:kind=3∨kind=4∨kind=5) (a:Int):Kv (w.n,w.ls,w.up,w.sq,w.db,w.net,kind,a,())=some (wt (Yd w kind a)):=by
  have hnet:=h.net
  have hdb:=h.db
  unfold Kv
  simp (disch:=omega) only [Uk,Option.bind_some,Ta,Ma]
  refine Aa.out (Aa.ite (fun hc=>.some ?_) (fun hc=>?_))
  ·have hc:=Zh (show Db a 0 ((w.net.length:Int)-1)=false by simpa using hc)
   rcases hk with rfl|rfl|rfl
   ·rw [BS,if_neg (by omega)];rfl
   ·rw [CS,if_neg (by omega)];rfl
   ·rw [DS,if_neg (by omega)];rfl
  have hc:0≤a∧a≤(w.net.length:Int)-1:=by simpa [Db] using hc
  obtain ⟨k,rfl⟩:=Int.eq_ofNat_of_zero_le hc.1
  have hkn:k<w.net.length:=by omega
  have hm:Qb w.net k∈w.net:=Co hkn
  have hP:=h.poss _ (.inr ⟨_,hm,rfl⟩)
  have ht:=h.tgt _ hm
  have hV:=hP.1
  have w1:wrap64 ((k:Int)+1)=((k:Int)+1):=Ma (by omega) (by omega)
  simp only [w1,Ua,toS,Tp,Int.toNat_zero,List.drop_zero,Nat.sub_zero,List.nil_append,tkd,←List.eraseIdx_eq_take_drop_succ]
  clear w1
  refine Aa.gd (Ia (by omega) (by omega)) ?_
  by_cases h5:kind=5
  ·subst h5
   rw [DS,if_pos ⟨by omega,by omega⟩,Ua]
   refine Aa.gd rfl (Aa.ite (fun hf=>?_) (fun hf=>?_))
   ·have hf:=oT hf
    rw [if_pos (by omega)]
    have e:XH (w.n,w.ls,w.up,w.sq,w.db,w.net,0,[],[],[],[],[],(Qb w.net k).t,(Qb w.net k).p.o,(Qb w.net k).p.s,(Qb w.net k).p.e,())=some (.inl (w.n,w.ls,w.up,w.sq,w.db,0,[],[],[],[],[],w.net++[Qb w.net k],())):=by
      unfold XH
      refine Aa.out (Aa.gd (decide_eq_true (by simp only [List.length_nil];omega)) (Aa.gd (decide_eq_true (by simp only [List.nil_append,List.length_singleton];omega)) (.some (by simp))))
    exact Ka e (.some rfl)
   ·have hf:=oF hf
    rw [if_neg (by omega)]
    exact .some rfl
  refine Aa.no (dF h5) (Aa.gd (kC (by omega) (by omega) (by omega)) (Aa.gd (kC (by omega) (by omega) (by omega)) ?_))
  refine Aa.gd (decide_eq_true (by simp only [List.length_nil,List.length_take];omega)) (Aa.gd (decide_eq_true (by simp only [List.length_take,List.length_drop];omega)) ?_)
  by_cases h3:kind=3
  ·subst h3
   rw [BS,if_pos ⟨by omega,by omega⟩,Ua]
   refine Aa.gd rfl ?_
   obtain ⟨t,ht'⟩:=Int.eq_ofNat_of_zero_le ht.1
   rw [ht']
   exact Ka (zFz (F6 h k) (t:=t) (by show t<w.db.length;omega) hV) (.some rfl)
  ·have h4:kind=4:=by omega
   subst h4
   rw [CS,if_pos ⟨by omega,by omega⟩,Ua]
   exact Aa.no rfl (.some rfl)
theorem zFx (h:WV w Pb) (kind a:Int):QQ (w.n,w.ls,w.up,w.sq,w.db,w.net,kind,a,())=some (wt (Yd w kind a)):=by
  have hup:=h.up
  have h14:=h.lsl
  have hnet:∀kind,kind=3∨kind=4∨kind=5→Aa ((Kv (w.n,w.ls,w.up,w.sq,w.db,w.net,kind,a,())).bind fun r0=>some ((r0.1,r0.2.1,r0.2.2.1,r0.2.2.2.1,r0.2.2.2.2.1,r0.2.2.2.2.2.1,()))) (·=wt (Yd w kind a)):=fun kind hk=>Ka (zFB h hk a) (.some rfl)
  unfold QQ
  dsimp only
  by_cases h3:kind=3
  ·subst h3;exact Aa.out (Aa.gd rfl (Aa.gd rfl (hnet 3 (.inl rfl))))
  by_cases h4:kind=4
  ·subst h4;exact Aa.out (Aa.no rfl (Aa.gd rfl (Aa.gd rfl (hnet 4 (.inr (.inl rfl))))))
  by_cases h5:kind=5
  ·subst h5;exact Aa.out (Aa.no rfl (Aa.no rfl (Aa.gd rfl (hnet 5 (.inr (.inr rfl))))))
  refine Aa.out (Aa.no (dF h3) (Aa.no (dF h4) (Aa.no (dF h5) (Ka (Uk _ _ _) ?_))))
  simp (disch:=omega) only [Ta,Ma]
  have out:¬(0≤a∧a<w.up.length)→Yd w kind a=w:=fun hh=>by
    unfold Yd
    simp only [h3,h4,h5,false_and,if_false]
    rw [if_neg (fun q=>hh q.2),if_neg (fun q=>hh q.2)]
  refine Aa.ite (fun hc=>.some ?_) (fun hc=>?_)
  ·have hc:=Zh (show Db a 0 ((w.up.length:Int)-1)=false by simpa using hc)
   rw [out (by omega)];rfl
  have hc:0≤a∧a≤(w.up.length:Int)-1:=by simpa [Db] using hc
  obtain ⟨k,rfl⟩:=Int.eq_ofNat_of_zero_le hc.1
  by_cases h1:kind=1
  ·subst h1
   rw [L6 (.inl rfl),if_pos ⟨by omega,by omega⟩,Ua]
   exact Aa.gd rfl (Aa.gd rfl (Ka (kA h (by omega) _) (.some rfl)))
  by_cases h2:kind=2
  ·subst h2
   rw [L6 (.inr rfl),if_pos ⟨by omega,by omega⟩,Ua]
   exact Aa.no rfl (Aa.gd rfl (Ka (kA h (by omega) _) (.some rfl)))
  refine Aa.no (dF h1) (Aa.no (dF h2) ?_)
  by_cases h6:kind=6
  ·subst h6
   rw [M6,if_pos ⟨by omega,by omega⟩,Ua]
   exact Aa.gd rfl (Ka (kB h (by omega)) (.some rfl))
  ·refine Aa.no (dF h6) (.some ?_)
   rw [jY h1 h2 h3 h4 h5 h6];rfl
end
end
section
open Go.RowKit
section
variable {w:Wd} {A:Int→Prop}
theorem kD (net:List Pk) (k:Nat) (hk:k<net.length) (hn:net.length≤16):RD ((k:Int),(k:Int)+1,net,())=some (net.eraseIdx k,()):=by
  unfold RD
  rw [List.eraseIdx_eq_take_drop_succ]
  exact Aa.out (Aa.gd (decide_eq_true ⟨by omega,rfl,by show (k:Int)<(net.length:Int);omega,by show net.length≤16777216;omega⟩) (.some rfl))
theorem kE (h:WV w Pb) (kind a:Int):DI (kind,a,w.n,w.ls,w.up,w.sq,w.db,w.net,())=some (wt (Yd w kind a)):=by
  have hup:=h.up
  have h14:=h.lsl
  have hnet:=h.net
  have hdb:=h.db
  have hsq:=h.sq
  unfold DI
  simp (disch:=omega) only [Bm,Option.bind_some,Ta,Ma]
  by_cases h12:kind=1∨kind=2
  ·rw [L6 h12]
   cases hin:Db a 0 ((w.up.length:Int)-1) with
   |false =>
    have hc:=Zh hin
    rw [if_neg (by omega)]
    rcases h12 with rfl|rfl
    ·exact Aa.out (Aa.gd rfl (Aa.no rfl (Aa.no rfl (Aa.no rfl (Aa.no rfl (Aa.no rfl (.some rfl)))))))
    ·exact Aa.out (Aa.no rfl (Aa.gd rfl (Aa.no rfl (Aa.no rfl (Aa.no rfl (Aa.no rfl (Aa.no rfl (.some rfl))))))))
   |true =>
    have hc:=De hin
    obtain ⟨k,rfl⟩:=Int.eq_ofNat_of_zero_le hc.1
    have hk:k<w.ls.length:=by omega
    have ho:=h.g.ok (Ti hk)
    unfold Jg at ho
    rw [if_pos ⟨by omega,by omega⟩,Ua]
    have main:∀u:Bool,w.up.getD k false≠u→iz w.sq (lk w.ls k).a.toNat<99→iz w.sq (lk w.ls k).b.toNat<99→Aa ((Xl ((lk w.ls k).a,w.n,w.ls,w.up.set k u,w.sq,w.db,w.net,())).bind fun r2=>(Xl (((lk w.ls k).b,(r2.1,(r2.2.1,(r2.2.2.1,(r2.2.2.2.1,(r2.2.2.2.2.1,(r2.2.2.2.2.2.1,()))))))))).bind fun r3=>some ((r3.1,r3.2.1,r3.2.2.1,r3.2.2.2.1,r3.2.2.2.2.1,r3.2.2.2.2.2.1,()))) (·=wt (Cg w k u)):=fun u hu ha hb=>by
      obtain ⟨A,v,hv⟩:=jZ h hk u ha hb
      refine Ka (jU (YR h hk u) (i:=(lk w.ls k).a) (by omega) (by show _<w.n;omega) ha) ?_
      dsimp only [wt]
      refine Ka (jU v (i:=(lk w.ls k).b) (by omega) (by show _<w.n;omega) hv) (.some ?_)
      unfold Cg
      rw [if_neg (by rintro (e|e|e);exact hu e;omega;omega)]
      rfl
    have same:∀u:Bool,¬(w.up.getD k false≠u∧iz w.sq (lk w.ls k).a.toNat<99∧iz w.sq (lk w.ls k).b.toNat<99)→(w.n,w.ls,w.up,w.sq,w.db,w.net,())=wt (Cg w k u):=fun u hh=>by
      unfold Cg
      rw [if_pos (by
        by_cases e1:w.up.getD k false=u
        ·exact .inl e1
        ·by_cases e2:iz w.sq (lk w.ls k).a.toNat<99
         ·exact .inr (.inr (by
            by_cases e3:iz w.sq (lk w.ls k).b.toNat<99
            ·exact (hh ⟨e1,e2,e3⟩).elim
            ·omega))
         ·exact .inr (.inl (by omega)))]
      rfl
    simp only [Ua,Ef,EB,Uc]
    rcases h12 with rfl|rfl
    ·refine Aa.out (Aa.gd rfl (Aa.gd rfl (Aa.gd (Ia (by omega) (by omega)) (Aa.gd (Ia (by omega) (by omega)) ?_))))
     refine Aa.ite (fun hu=>?_) (fun hu=>.some (same _ (fun q=>q.1 (by simpa using hu))))
     refine Aa.gd (Ia (by omega) (by omega)) (Aa.ite (fun ha=>?_) (fun ha=>.some (same _ (fun q=>oF ha q.2.1))))
     refine Aa.gd (Ia (by omega) (by omega)) (Aa.ite (fun hb=>?_) (fun hb=>.some (same _ (fun q=>oF hb q.2.2))))
     exact Aa.gd (Ia (by omega) (by omega)) (main _ (by simpa using hu) (oT ha) (oT hb))
    ·refine Aa.out (Aa.no rfl (Aa.gd rfl (Aa.gd rfl (Aa.gd (Ia (by omega) (by omega)) (Aa.gd (Ia (by omega) (by omega)) ?_)))))
     refine Aa.ite (fun hu=>?_) (fun hu=>.some (same _ (fun q=>q.1 (by simpa using hu))))
     refine Aa.gd (Ia (by omega) (by omega)) (Aa.ite (fun ha=>?_) (fun ha=>.some (same _ (fun q=>oF ha q.2.1))))
     refine Aa.gd (Ia (by omega) (by omega)) (Aa.ite (fun hb=>?_) (fun hb=>.some (same _ (fun q=>oF hb q.2.2))))
     exact Aa.gd (Ia (by omega) (by omega)) (main _ (by simpa using hu) (oT ha) (oT hb))
  have h1:kind≠1:=fun e=>h12 (.inl e)
  have h2:kind≠2:=fun e=>h12 (.inr e)
  refine Aa.out (Aa.no (dF h1) (Aa.no (dF h2) ?_))
  by_cases h6:kind=6
  ·subst h6
   rw [M6]
   cases hin:Db a 0 ((w.up.length:Int)-1) with
   |false =>
    have hc:=Zh hin
    rw [if_neg (by omega)]
    exact Aa.no rfl (Aa.no rfl (Aa.no rfl (Aa.gd rfl (Aa.no rfl (.some rfl)))))
   |true =>
    have hc:=De hin
    obtain ⟨k,rfl⟩:=Int.eq_ofNat_of_zero_le hc.1
    have hk:k<w.ls.length:=by omega
    have ho:=h.g.ok (Ti hk)
    unfold Jg at ho
    rw [if_pos ⟨by omega,by omega⟩,Ua]
    have va:=h.ok (lk w.ls k).a.toNat (by omega)
    have vb:=h.ok (lk w.ls k).b.toNat (by omega)
    have vm:=P5 va (Ao.1 vb).1
    have la:=va.len
    have lb:=vb.len
    have b25:Xd (w.n,w.ls,w.up,w.sq,w.db,(lk w.ls k).a,(lk w.ls k).b,(lk w.ls k).c,Xc (Qa w.db (lk w.ls k).a.toNat) (Qa w.db (lk w.ls k).b.toNat),w.net,())=some (.inl (wt (Bo w (lk w.ls k).a.toNat (lk w.ls k).b.toNat))):=by
      unfold Xd
      dsimp only
      refine Aa.out (Ka (T5 _ vm.sm) (Aa.gd (Ia (by omega) (by omega)) (Aa.gd (Ia (by omega) (by rw [List.length_set];omega)) (.some rfl))))
    unfold Dg
    simp only [Ua,Ef,EB,Vg]
    refine Aa.no rfl (Aa.no rfl (Aa.no rfl (Aa.gd rfl (Aa.gd rfl (Aa.gd (Ia (by omega) (by omega)) (Aa.gd (Ia (by omega) (by omega)) (Aa.ite (fun hc=>?_) (fun hc=>.some ?_))))))))
    ·rw [if_pos hc]
     refine Aa.gd (Ia (by omega) (by omega)) (Aa.gd (Ia (by omega) (by omega)) (Ka (zF2 _ _ va.so va.sm vb.sm (by omega) (by omega)) ?_))
     exact Ka b25 (.some rfl)
    ·rw [if_neg (by rw [hc];simp)];rfl
  by_cases h345:kind=3∨kind=4∨kind=5
  case neg =>
    have h3:kind≠3:=fun e=>h345 (.inl e)
    have h4:kind≠4:=fun e=>h345 (.inr (.inl e))
    have h5:kind≠5:=fun e=>h345 (.inr (.inr e))
    refine Aa.no (dF h3) (Aa.no (dF h4) (Aa.no (dF h5) (Aa.no (dF h6) (.some ?_))))
    rw [jY h1 h2 h3 h4 h5 h6];rfl
  cases hin:Db a 0 ((w.net.length:Int)-1) with
  |false =>
   have hc:=Zh hin
   rcases h345 with rfl|rfl|rfl
   ·rw [BS,if_neg (by omega)]
    exact Aa.gd rfl (Aa.no rfl (Aa.no rfl (Aa.no rfl (Aa.no rfl (.some rfl)))))
   ·rw [CS,if_neg (by omega)]
    exact Aa.no rfl (Aa.gd rfl (Aa.no rfl (Aa.no rfl (Aa.no rfl (.some rfl)))))
   ·rw [DS,if_neg (by omega)]
    exact Aa.no rfl (Aa.no rfl (Aa.gd rfl (Aa.no rfl (Aa.no rfl (.some rfl)))))
  |true =>
   have hc:=De hin
   obtain ⟨k,rfl⟩:=Int.eq_ofNat_of_zero_le hc.1
   have hkn:k<w.net.length:=by omega
   have hm:Qb w.net k∈w.net:=Co hkn
   have hP:=h.poss _ (.inr ⟨_,hm,rfl⟩)
   have ht:=h.tgt _ hm
   have hV:=hP.1
   have w1:wrap64 ((k:Int)+1)=((k:Int)+1):=Ma (by omega) (by omega)
   rcases h345 with rfl|rfl|rfl
   ·rw [BS,if_pos ⟨by omega,by omega⟩,Ua]
    obtain ⟨t,ht'⟩:=Int.eq_ofNat_of_zero_le ht.1
    have hd:=h.ok t (by omega)
    have hdl:=hd.len
    have b11:Lv (w.n,w.ls,w.up,w.sq,w.db,3,(k:Int),(t:Int),(Qb w.net k).p.o,(Qb w.net k).p.s,(Qb w.net k).p.e,w.net,())=some (.inl (w.n,w.ls,w.up,w.sq,w.db,(t:Int),(Qb w.net k).p.o,(Qb w.net k).p.s,(Qb w.net k).p.e,w.net.eraseIdx k,())):=by
      unfold Lv
      simp only [w1]
      exact Aa.out (Ka (kD w.net k hkn hnet) (.some rfl))
    clear w1
    simp only [Ua,Tp]
    refine Aa.gd rfl (Aa.gd rfl (Aa.gd (Ia (by omega) (by omega)) ?_))
    rw [ht',Ua]
    refine Ka b11 ?_
    simp only [Ua,Vg]
    refine Aa.gd (Ia (by omega) (by omega)) (Ka (U5 (Qa w.db t) (Qb w.net k).p hd.so hd.sm hV.sm (by omega)) ?_)
    dsimp only
    refine Aa.gd (Ia (by omega) (by omega)) ?_
    unfold Xj
    dsimp only
    refine Aa.ite (fun hp=>?_) (fun hp=>.some ?_)
    ·have hp:=oT hp
     rw [if_pos hp]
     exact Ka (jR { w with db:=w.db.set t (Mc (Qa w.db t) (Qb w.net k).p),net:=w.net.eraseIdx k } (t:Int) (Qb w.net k).p.o (Qb w.net k).p h.g h.up (by show (w.net.eraseIdx k).length≤16;rw [List.length_eraseIdx];split<;>omega) hV.sm) (.some rfl)
    ·have hp:=oF hp
     rw [if_neg hp]
     have:Mc (Qa w.db t) (Qb w.net k).p=Qa w.db t:=by unfold Mc;rw [if_neg hp]
     rw [this]
     have e:w.db.set t (Qa w.db t)=w.db:=yAO (by omega)
     rw [e];rfl
   ·rw [CS,if_pos ⟨by omega,by omega⟩,Ua]
    have b17:Yl (w.n,w.ls,w.up,w.sq,w.db,4,(k:Int),w.net,())=some (.inl (wt { w with net:=w.net.eraseIdx k })):=by
      unfold Yl
      simp only [w1]
      exact Aa.out (Ka (kD w.net k hkn hnet) (.some rfl))
    exact Aa.no rfl (Aa.gd rfl (Aa.gd rfl (Ka b17 (.some rfl))))
   ·rw [DS,if_pos ⟨by omega,by omega⟩,Ua]
    refine Aa.no rfl (Aa.no rfl (Aa.gd rfl (Aa.gd rfl (Aa.ite (fun hf=>?_) (fun hf=>.some ?_)))))
    ·have hf:=oT hf
     rw [if_pos (by omega)]
     have b20:Dh (w.n,w.ls,w.up,w.sq,w.db,5,(k:Int),w.net,())=some (.inl (wt { w with net:=w.net++[Qb w.net k] })):=by
       unfold Dh
       simp only [Ua,Tp,UR _ _ _ hV.sm,Option.bind_some]
       exact Aa.out (Aa.gd (Ia (by omega) (by omega)) (Aa.gd (Ia (by omega) (by omega)) (Aa.gd (decide_eq_true (by simp only [List.length_singleton];omega)) (.some rfl))))
     exact Ka b20 (.some rfl)
    ·have hf:=oF hf
     rw [if_neg (by omega)];rfl
end
end
section
open Go.RowKit
noncomputable def poss (w:Wd) (l:Ls):Bool:=@decide (Aj w Pb l) (Classical.propDecidable _)
theorem ES {w:Wd} {l:Ls}:poss w l=true↔Aj w Pb l:=by unfold poss;simp
theorem N6 {w:Wd} {l:Ls}:poss w l=false↔¬Aj w Pb l:=by unfold poss;simp
theorem yAQ (ls:List Lk) (a b:Int):Bc ls a b<ls.length:=by
  rcases Wq ls a b with ⟨h,_⟩|⟨k,h,hk,_⟩<;>omega
section
variable {w:Wd}
set_option maxHeartbeats 2000000 in
theorem kF (g:GV w.n w.ls) (hu:w.up.length=w.ls.length) (hsq:(w.sq.length:Int)=w.n) (l:Ls) (hl:Sm l.e):SF (w.n,w.ls,w.up,w.sq,w.db,w.net,l.o,l.s,l.e,())=some (poss w l,()):=by
  have h14:=g.2.2.1
  have fl:Cb l.e:=by unfold Cb;unfold Sm at hl;omega
  have fls:Cb w.ls:=by unfold Cb;omega
  unfold Sm at hl
  have no:¬Aj w Pb l→poss w l=false:=fun h=>N6.2 h
  cases l with|mk o s es =>
  cases w with|mk n ls up sq db net =>
  dsimp only at *
  unfold SF
  dsimp only
  rw [iH o s es fl]
  refine Aa.out (Aa.ite (fun hc=>.some ?_) (fun hc=>?_))
  ·rw [no fun h=>oF (show Ji o s es=false by simpa using hc) h.1]
  have hV:Ff ⟨o,s,es⟩:=oT (show Ji o s es=true by simpa using hc)
  have h0:0≤o:=hV.1
  refine Aa.ite (fun hc=>.some ?_) (fun hc=>?_)
  ·have hc:=oT hc
   rw [no fun h=>by have:o<n:=h.2.1;omega]
  have hn:=oF hc
  simp only [Uc]
  refine Aa.gd (Ia (by omega) (by omega)) (Aa.ite (fun hc=>.some ?_) (fun hc=>?_))
  ·have hc:iz sq o.toNat<s:=oT hc
   rw [no fun h=>by have:s≤iz sq o.toNat:=h.2.2.1;omega]
  have hs:¬iz sq o.toNat<s:=oF hc
  try simp only [Ta]
  refine Aa.bnd (R:=fun r=>match r with| .inl x=>x=(n,ls,up,sq,db,net,o,s,es,())∧∀e∈es,lc ls o e.n=some e.c| .inr y=>y=(false,())∧¬∀e∈es,lc ls o e.n=some e.c) ?_ ?_
  ·refine Aa.count es.length (fun k t=>t=((k:Int),n,ls,up,sq,db,net,o,s,es,())∧∀i,i<k→lc ls o (en es i).n=some (en es i).c) ?_ (Nat.zero_le _) (Ib (by omega)) ⟨rfl,fun i hi=>by omega⟩
   rintro k t hk ⟨rfl,hok⟩
   by_cases hlt:k<es.length
   ·have hm:en es k∈es:=by rw [Qj hlt];exact List.getElem_mem hlt
    simp (disch:=omega) only [RF,YA,Ef,Ua,Ma,Ta,QJ _ _ _ _ fls,Option.bind_some]
    refine Aa.gd (decide_eq_true (by omega)) (Aa.gd (Ia (by omega) (by omega)) (Aa.ite (fun hc=>.some ⟨rfl,?_⟩) (fun hc=>?_)))
    ·have hc:=oT hc
     intro h
     have:=(Bp (h _ hm)).1
     omega
    ·have hc:=oF hc
     have hlo:=yAQ ls o (en es k).n
     repeat refine Aa.gd (Ia (by omega) (by omega)) ?_
     refine Aa.ite (fun hc2=>.some ⟨rfl,?_⟩) (fun hc2=>.some ⟨hlt,rfl,fun i hi=>?_⟩)
     ·have hc2:¬(lk ls (Bc ls o (en es k).n).toNat).c=(en es k).c:=by simpa using hc2
      intro h
      have:=(Bp (h _ hm)).2.2
      rw [this] at hc2
      exact hc2 rfl
     ·have hc2:(lk ls (Bc ls o (en es k).n).toNat).c=(en es k).c:=by simpa using hc2
      by_cases e:i<k
      ·exact hok i e
      ·obtain rfl:i=k:=by omega
       unfold lc
       rw [if_pos (by omega),hc2]
   ·obtain rfl:k=es.length:=by omega
    unfold RF
    simp only [Ta]
    refine Aa.no (dF (by omega)) (.some ⟨rfl,fun e he=>?_⟩)
    obtain ⟨i,hi,rfl⟩:=List.getElem_of_mem he
    rw [←Qj hi]
    exact hok i hi
  rintro (r|r) hr
  case inr =>
    obtain ⟨rfl,hr⟩:=hr
    exact .some (by rw [no fun h=>hr h.2.2.2.1])
  obtain ⟨rfl,hr⟩:=hr
  simp only [Uc]
  refine Aa.gd (Ia (by omega) (by omega)) (Aa.ite (fun hc=>.some ?_) (fun hc=>?_))
  ·have hc:s<iz sq o.toNat:=oT hc
   rw [ES.2 ⟨hV,by show o<n;omega,by show s≤iz sq o.toNat;omega,hr,.inl hc⟩]
  have hlt:¬s<iz sq o.toNat:=oF hc
  refine Ka (J6 ⟨n,ls,up,sq,db,net⟩ hu (by show ls.length≤1000;omega)) ?_
  dsimp only
  refine Ka (jT (Sp g up) o s) ?_
  have hel:=iN (N:=n.toNat) (ls:=Kc ls up) o
  have hn8:=g.2.1
  refine Ka (iV ⟨o,s,es⟩ ⟨o,s,Pc (Kc ls up) n.toNat o⟩ fl (by unfold Cb;dsimp only;omega)) (.some ?_)
  by_cases he:es=Pc (Kc ls up) n.toNat o
  ·rw [ES.2 ⟨hV,by show o<n;omega,by show s≤iz sq o.toNat;omega,hr,.inr (.inl he)⟩]
   try dsimp only
   rw [decide_eq_true (by rw [←he])]
  ·rw [no fun h=>by
     rcases h.2.2.2.2 with h|h|h
     ·exact hlt h
     ·exact he h
     ·exact h]
   try dsimp only
   rw [dF (by intro e;injection e with _ _ e;exact he e)]
end
end
section
open Go.RowKit
noncomputable def wv (w:Wd):Bool:=@decide (WV w Pb) (Classical.propDecidable _)
theorem Bx {w:Wd}:wv w=true↔WV w Pb:=by unfold wv;simp
theorem yAR {w:Wd}:wv w=false↔¬WV w Pb:=by unfold wv;simp
def Fh (w:Wd):List Ls:=w.db.flatten++w.net.map (·.p)
theorem yAS {db:List (List Ls)} {i:Nat} (h:i<db.length):Qa db i∈db:=by
  unfold Qa;rw [List.getD,List.getElem?_eq_getElem h];exact List.getElem_mem h
theorem GK {w:Wd} {l:Ls}:Eh w l↔l∈Fh w:=by
  unfold Eh Fh
  rw [List.mem_append,List.mem_flatten,List.mem_map]
  constructor
  ·rintro (⟨i,hi,h⟩|⟨p,hp,rfl⟩)
   ·exact .inl ⟨_,yAS hi,h⟩
   ·exact .inr ⟨p,hp,rfl⟩
  ·rintro (⟨d,hd,h⟩|⟨p,hp,rfl⟩)
   ·obtain ⟨i,hi,rfl⟩:=List.getElem_of_mem hd
    refine .inl ⟨i,hi,?_⟩
    unfold Qa;rw [List.getD,List.getElem?_eq_getElem hi];exact h
   ·exact .inr ⟨p,hp,rfl⟩
def Cx (w:Wd) (i:Nat):Prop:=(1≤iz w.sq i∧iz w.sq i≤99)∧Jd (Qa w.db i)
def O6 (w:Wd) (i:Nat):Prop:=∃l∈Qa w.db i,l.o=i∧l.s=iz w.sq i
def Up (xs:List Ls) (i:Nat):Prop:=∀j,j<i→(Jb xs j).o=(Jb xs i).o→(Jb xs j).s=(Jb xs i).s→Jb xs j=Jb xs i
theorem yAT {w:Wd} (g:GV w.n w.ls) (hu:w.up.length=w.ls.length) (hs:(w.sq.length:Int)=w.n) (hd:(w.db.length:Int)=w.n) (hn:w.net.length≤16) (nd:∀i,i<w.db.length→Cx w i) (ow:∀i,i<w.db.length→O6 w i) (tg:∀i,i<w.net.length→0≤(Qb w.net i).t∧(Qb w.net i).t<w.n) (ps:∀i,i<(Fh w).length→Aj w Pb (Jb (Fh w) i)) (ag:∀i,i<(Fh w).length→Up (Fh w) i):WV w Pb:=by
  have idx:∀l,Eh w l→∃i,i<(Fh w).length∧Jb (Fh w) i=l:=fun l hl=>by
    obtain ⟨i,hi,rfl⟩:=List.getElem_of_mem (GK.1 hl)
    exact ⟨i,hi,Id hi⟩
  refine ⟨g,hu,hs,hd,hn,fun i hi=>(nd i (by omega)).1,fun i hi=>(nd i hi).2,ow,fun l hl=>?_,fun x y hx hy e1 e2=>?_,fun p hp=>?_⟩
  ·obtain ⟨i,hi,rfl⟩:=idx l hl
   exact ps i hi
  ·obtain ⟨i,hi,rfl⟩:=idx x hx
   obtain ⟨j,hj,rfl⟩:=idx y hy
   rcases Nat.lt_trichotomy i j with h|h|h
   ·exact ag j hj i h e1 e2
   ·rw [h]
   ·exact (ag i hi j h e1.symm e2.symm).symm
  ·obtain ⟨i,hi,rfl⟩:=List.getElem_of_mem hp
   have:=tg i hi
   have e:Qb w.net i=w.net[i]:=by simp [Qb,List.getD,hi]
   rwa [e] at this
section
variable {w:Wd}
theorem WV.nd (h:WV w Pb) {i:Nat} (hi:i<w.db.length):Cx w i:=⟨h.rng i (by have:=h.sq;have:=h.db;omega),h.ok i hi⟩
theorem WV.ag (h:WV w Pb) {i:Nat} (hi:i<(Fh w).length):Up (Fh w) i:=fun j hj e1 e2=>h.agr _ _ (GK.2 (Th (by omega))) (GK.2 (Th hi)) e1 e2
theorem kG {db:List (List Ls)} {k:Nat} (hk:k≤db.length) (h:∀i,i<k→(Qa db i).length≤8):(db.take k).flatten.length≤8*k:=by
  induction k with
  |zero=>simp
  |succ k ih =>
   have:=ih (by omega) fun i hi=>h i (by omega)
   have h2:=h k (by omega)
   rw [←K6 (by omega),List.flatten_append,List.length_append,List.flatten_singleton]
   omega
theorem yAU {db:List (List Ls)} {k:Nat} (hk:k<db.length):(db.take (k+1)).flatten=(db.take k).flatten++Qa db k:=by
  rw [←K6 hk,List.flatten_append,List.flatten_singleton]
theorem yAV {net:List Pk} {k:Nat} (hk:k<net.length):(net.take (k+1)).map (·.p)=(net.take k).map (·.p)++[(Qb net k).p]:=by
  rw [←jW hk,List.map_append];rfl
theorem Cx.sm {i:Nat} (h:Cx w i):(Qa w.db i).length≤8:=h.2.len
end
end
section
open Go.RowKit
section
variable {w:Wd}
structure HK (w:Wd):Prop where
  g:GV w.n w.ls
  up:w.up.length=w.ls.length
  sq:(w.sq.length:Int)=w.n
  db:(w.db.length:Int)=w.n
  net:w.net.length≤16
  nd:∀i,i<w.db.length→Cx w i
theorem zFE (h:FB w):Aa (XO (w.n,w.ls,w.up,w.sq,w.db,w.net,())) fun r=>∃b:Bool,r=(b,())∧(b=true→HK w)∧(b=false→¬WV w Pb):=by
  have h1:=h.ls
  have h2:=h.up
  have h3:=h.sq
  have h4:=h.db
  have h5:=h.net
  have no:¬WV w Pb→∃b:Bool,(false,())=(b,())∧(b=true→HK w)∧(b=false→¬WV w Pb):=fun q=>⟨false,rfl,(fun e=>by cases e),fun _=>q⟩
  unfold XO
  dsimp only
  rw [Yw _ _ (show Cb w.ls by unfold Cb;omega)]
  simp only [Ta]
  refine Aa.ite (fun hc=>.some (no fun q=>?_)) (fun hc=>?_)
  ·have hc:gv w.n w.ls=false:=by simpa using hc
   exact oF hc q.g
  have g:GV w.n w.ls:=oT (show gv w.n w.ls=true by simpa using hc)
  refine Aa.ite (fun hc=>.some (no fun q=>?_)) (fun hc=>?_)
  ·have hc:¬(w.up.length:Int)=w.ls.length:=by simpa using hc
   have:=q.up;omega
  have hu:(w.up.length:Int)=w.ls.length:=by simpa using hc
  refine Aa.ite (fun hc=>.some (no fun q=>?_)) (fun hc=>?_)
  ·have hc:¬(w.sq.length:Int)=w.n:=by simpa using hc
   have:=q.sq;omega
  have hs:(w.sq.length:Int)=w.n:=by simpa using hc
  refine Aa.ite (fun hc=>.some (no fun q=>?_)) (fun hc=>?_)
  ·have hc:¬(w.db.length:Int)=w.n:=by simpa using hc
   have:=q.db;omega
  have hd:(w.db.length:Int)=w.n:=by simpa using hc
  refine Aa.ite (fun hc=>.some (no fun q=>?_)) (fun hc=>?_)
  ·have hc:=oT hc
   have:=q.net;omega
  have hn:=oF hc
  have hn8:=g.2.1
  refine Aa.bnd (R:=fun r=>match r with| .inl x=>∀i,i<w.db.length→Cx w i| .inr y=>y=(false,())∧¬WV w Pb) ?_ ?_
  ·refine Aa.count w.db.length (fun k t=>t=((k:Int),w.n,w.ls,w.up,w.sq,w.db,w.net,())∧∀i,i<k→Cx w i) ?_ (Nat.zero_le _) (Ib (by omega)) ⟨rfl,fun i hi=>by omega⟩
   rintro k t hk ⟨rfl,hok⟩
   by_cases hlt:k<w.db.length
   ·have hsm:=h.dbs k hlt
    simp (disch:=omega) only [OF,Vg,Uc,Ua,Ma,Uk,zF8 _ hsm.fits hsm.fe,Option.bind_some]
    refine Aa.gd (decide_eq_true (by omega)) (Aa.gd (Ia (by omega) (by omega)) (Aa.ite (fun hc=>.some ⟨rfl,fun q=>?_⟩) (fun hc=>?_)))
    ·have hc:=Zh (show Db (iz w.sq k) 1 99=false by simpa using hc)
     exact hc (q.rng k (by omega))
    have hr:=De (show Db (iz w.sq k) 1 99=true by simpa using hc)
    refine Aa.gd (Ia (by omega) (by omega)) (Aa.ite (fun hc=>.some ⟨rfl,fun q=>?_⟩) (fun hc=>.some ⟨hlt,rfl,fun j hj=>?_⟩))
    ·have hc:Rh (Qa w.db k)=false:=by simpa using hc
     exact oF hc (q.ok k hlt)
    ·have hv:Jd (Qa w.db k):=oT (show Rh (Qa w.db k)=true by simpa using hc)
     by_cases e:j<k
     ·exact hok j e
     ·obtain rfl:j=k:=by omega
      exact ⟨hr,hv⟩
   ·obtain rfl:k=w.db.length:=by omega
    unfold OF
    exact Aa.no (dF (by dsimp only;omega)) (.some hok)
  rintro (r|r) hr
  case inr =>
    obtain ⟨rfl,hr⟩:=hr
    exact .some (no hr)
  exact .some ⟨true,rfl,fun _=>⟨g,by omega,hs,hd,by omega,hr⟩,fun e=>by cases e⟩
theorem HK.fl (h:HK w):w.db.flatten.length≤8*w.db.length:=by
  have:=kG (db:=w.db) (k:=w.db.length) (by omega) fun i hi=>(h.nd i hi).sm
  rwa [List.take_length] at this
theorem zFt (h:HK w):YO (w.n,w.ls,w.up,w.sq,w.db,w.net,())=some (Fh w,()):=by
  have hd:=h.db
  have hn:=h.net
  have h8:=h.g.2.1
  have hfl:=h.fl
  unfold YO
  dsimp only
  refine Aa.out (Aa.bnd (R:=fun r=>match r with| .inl x=>x=(w.n,w.ls,w.up,w.sq,w.db,w.net,w.db.flatten,())| .inr _=>False) ?_ ?_)
  ·refine Aa.count w.db.length (fun k t=>t=((k:Int),w.n,w.ls,w.up,w.sq,w.db,w.net,(w.db.take k).flatten,())) ?_ (Nat.zero_le _) (Ib (by omega)) (by simp)
   rintro k t hk rfl
   by_cases hlt:k<w.db.length
   ·have hl:=(h.nd k hlt).sm
    have hfk:=kG (db:=w.db) (k:=k) (by omega) fun i hi=>(h.nd i (by omega)).sm
    simp (disch:=omega) only [PF,Vg,Ua,Ma,Ta]
    refine Aa.gd (decide_eq_true (by omega)) (Aa.gd (Ia (by omega) (by omega)) (Aa.gd (decide_eq_true (by omega)) (.some ⟨hlt,?_⟩)))
    rw [yAU hlt];rfl
   ·obtain rfl:k=w.db.length:=by omega
    unfold PF
    simp only [Ta]
    refine Aa.no (dF (by omega)) (.some ?_)
    rw [List.take_length]
  rintro (r|r) hr
  case inr=>exact hr.elim
  obtain rfl:=hr
  dsimp only
  refine Aa.bnd (R:=fun r=>match r with| .inl x=>x=(Fh w,())| .inr _=>False) ?_ ?_
  ·refine Aa.count w.net.length (fun k t=>t=((k:Int),w.n,w.ls,w.up,w.sq,w.db,w.net,w.db.flatten++(w.net.take k).map (·.p),())) ?_ (Nat.zero_le _) (Ib (by omega)) (by simp)
   rintro k t hk rfl
   by_cases hlt:k<w.net.length
   ·simp (disch:=omega) only [QF,Tp,Ua,Ma,Ta]
    refine Aa.gd (decide_eq_true (by omega)) (Aa.gd (Ia (by omega) (by omega)) (Aa.gd (decide_eq_true (by simp only [List.length_append,List.length_map,List.length_take,List.length_singleton];omega)) (.some ⟨hlt,?_⟩)))
    rw [yAV hlt,←List.append_assoc];rfl
   ·obtain rfl:k=w.net.length:=by omega
    unfold QF
    simp only [Ta]
    refine Aa.no (dF (by omega)) (.some ?_)
    rw [List.take_length];rfl
  rintro (r|r) hr
  case inr=>exact hr.elim
  obtain rfl:=hr
  exact .some rfl
theorem zFC (xs:List Ls) (hl:xs.length≤100000) (he:∀x∈xs,Cb x.e):Aa (ZO (xs,())) fun r=>∃b:Bool,r=(b,())∧(b=true↔∀i,i<xs.length→Up xs i):=by
  unfold ZO
  refine Aa.bnd (R:=fun r=>match r with| .inl _=>∀i,i<xs.length→Up xs i| .inr y=>y=(false,())∧¬∀i,i<xs.length→Up xs i) ?_ ?_
  ·refine Aa.count xs.length (fun k t=>t=(xs,(k:Int),())∧∀i,i<k→Up xs i) ?_ (Nat.zero_le _) (Ib (by omega)) ⟨rfl,fun i hi=>by omega⟩
   rintro k t hk ⟨rfl,hok⟩
   by_cases hlt:k<xs.length
   ·simp only [VF,Ta]
    refine Aa.gd (decide_eq_true (by omega)) (Aa.bnd (R:=fun r=>match r with| .inl x=>x=(xs,(k:Int),())∧Up xs k| .inr y=>y=(false,())∧¬Up xs k) ?_ ?_)
    ·refine Aa.count k (fun j t=>t=(xs,(k:Int),(j:Int),())∧∀i,i<j→(Jb xs i).o=(Jb xs k).o→(Jb xs i).s=(Jb xs k).s→Jb xs i=Jb xs k) ?_ (Nat.zero_le _) (Ib (by omega)) ⟨rfl,fun i hi=>by omega⟩
     rintro j t hj ⟨rfl,hok2⟩
     by_cases hjk:j<k
     ·have fk:=he _ (Th hlt)
      have fj:=he _ (Th (show j<xs.length by omega))
      simp (disch:=omega) only [UF,Sg,Ua,Ma,iV _ _ fk fj,Option.bind_some]
      refine Aa.gd (decide_eq_true (by omega)) (Aa.gd (Ia (by omega) (by omega)) (Aa.gd (Ia (by omega) (by omega)) (Aa.ite (fun h1=>?_) (fun h1=>.some ⟨hjk,rfl,fun i hi=>?_⟩))))
      ·have h1:=oT h1
       refine Aa.gd (Ia (by omega) (by omega)) (Aa.gd (Ia (by omega) (by omega)) (Aa.ite (fun h2=>?_) (fun h2=>.some ⟨hjk,rfl,fun i hi=>?_⟩)))
       ·have h2:=oT h2
        refine Aa.gd (Ia (by omega) (by omega)) (Aa.gd (Ia (by omega) (by omega)) (Aa.ite (fun h3=>.some ⟨rfl,fun q=>?_⟩) (fun h3=>.some ⟨hjk,rfl,fun i hi=>?_⟩)))
        ·have h3:¬Jb xs k=Jb xs j:=by simpa using h3
         exact h3 (q j hjk h1.symm h2.symm).symm
        ·have h3:Jb xs k=Jb xs j:=by simpa using h3
         by_cases e:i<j
         ·exact hok2 i e
         ·obtain rfl:i=j:=by omega
          exact fun _ _=>h3.symm
       ·have h2:=oF h2
        by_cases e:i<j
        ·exact hok2 i e
        ·obtain rfl:i=j:=by omega
         exact fun _ e2=>(h2 e2.symm).elim
      ·have h1:=oF h1
       by_cases e:i<j
       ·exact hok2 i e
       ·obtain rfl:i=j:=by omega
        exact fun e1=>(h1 e1.symm).elim
     ·obtain rfl:j=k:=by omega
      unfold UF
      exact Aa.no (dF (by dsimp only;omega)) (.some ⟨rfl,hok2⟩)
    ·rintro (r|r) hr
     ·obtain ⟨rfl,hr⟩:=hr
      simp (disch:=omega) only [Ma]
      refine .some ⟨hlt,rfl,fun i hi=>?_⟩
      by_cases e:i<k
      ·exact hok i e
      ·obtain rfl:i=k:=by omega
       exact hr
     ·obtain ⟨rfl,hr⟩:=hr
      exact .some ⟨rfl,fun q=>hr (q k hlt)⟩
   ·obtain rfl:k=xs.length:=by omega
    unfold VF
    simp only [Ta]
    exact Aa.no (dF (by omega)) (.some hok)
  rintro (r|r) hr
  ·exact .some ⟨true,rfl,fun _=>hr,fun _=>rfl⟩
  ·obtain ⟨rfl,hr⟩:=hr
   exact .some ⟨false,rfl,(fun e=>by cases e),fun q=>(hr q).elim⟩
set_option maxHeartbeats 2000000 in
theorem kH (h:FB w):GG (w.n,w.ls,w.up,w.sq,w.db,w.net,())=some (wv w,()):=by
  have no:¬WV w Pb→(false,())=(wv w,()):=fun q=>by rw [yAR.2 q]
  unfold GG
  refine Aa.out (Aa.bnd (zFE h) ?_)
  rintro _ ⟨b,rfl,hb1,hb2⟩
  dsimp only
  refine Aa.ite (fun hc=>.some (no (hb2 (by simpa using hc)))) (fun hc=>?_)
  have hS:=hb1 (by simpa using hc)
  have hd:=hS.db
  have hs:=hS.sq
  have hn:=hS.net
  have h8:=hS.g.2.1
  have hn1:=hS.g.1
  have hfl:=hS.fl
  have hal:(Fh w).length≤1000:=by unfold Fh;rw [List.length_append,List.length_map];omega
  have hfe:∀x∈Fh w,Sm x.e:=fun x hx=>by
    rcases GK.2 hx with ⟨i,hi,hx⟩|⟨p,hp,rfl⟩
    ·exact (h.dbs i hi).2 x hx
    ·obtain ⟨i,hi,rfl⟩:=List.getElem_of_mem hp
     have:=h.pks i hi
     have e:Qb w.net i=w.net[i]:=by simp [Qb,List.getD,hi]
     rwa [e] at this
  have smf:∀l:List En,Sm l→Cb l:=fun l hl=>by unfold Cb;unfold Sm at hl;omega
  refine Ka (zFt hS) ?_
  try dsimp only
  refine Aa.bnd (zFC (Fh w) (by omega) (fun x hx=>smf _ (hfe x hx))) ?_
  rintro _ ⟨b2,rfl,hb⟩
  dsimp only
  refine Aa.ite (fun hc=>.some (no fun q=>?_)) (fun hc=>?_)
  ·have hc:b2=false:=by simpa using hc
   have:=hb.2 fun i hi=>q.ag hi
   rw [hc] at this;cases this
  have hag:=hb.1 (show b2=true by simpa using hc)
  refine Aa.bnd (R:=fun r=>match r with| .inl x=>x=(w.n,w.ls,w.up,w.sq,w.db,w.net,())∧∀i,i<w.db.length→(∀l∈Qa w.db i,Aj w Pb l)∧O6 w i| .inr y=>y=(false,())∧¬WV w Pb) ?_ ?_
  ·refine Aa.count w.db.length (fun k t=>t=((k:Int),w.n,w.ls,w.up,w.sq,w.db,w.net,())∧∀i,i<k→(∀l∈Qa w.db i,Aj w Pb l)∧O6 w i) ?_ (Nat.zero_le _) (Ib (by omega)) ⟨rfl,fun i hi=>by omega⟩
   rintro k t hk ⟨rfl,hok⟩
   by_cases hlt:k<w.db.length
   ·have hsm:=h.dbs k hlt
    have hv:=(hS.nd k hlt).2
    have hvl:=hv.len
    simp only [EG]
    refine Aa.gd (decide_eq_true (by omega)) (Aa.bnd (R:=fun r=>match r with| .inl x=>x=((k:Int),w.n,w.ls,w.up,w.sq,w.db,w.net,())∧∀l∈Qa w.db k,Aj w Pb l| .inr y=>y=(false,())∧¬WV w Pb) ?_ ?_)
    ·refine Aa.count (Qa w.db k).length (fun j t=>t=((k:Int),(j:Int),w.n,w.ls,w.up,w.sq,w.db,w.net,())∧∀i,i<j→Aj w Pb (Jb (Qa w.db k) i)) ?_ (Nat.zero_le _) (Ib (by omega)) ⟨rfl,fun i hi=>by omega⟩
     rintro j t hj ⟨rfl,hok2⟩
     by_cases hjl:j<(Qa w.db k).length
     ·have hm:Jb (Qa w.db k) j∈Qa w.db k:=Th hjl
      simp (disch:=omega) only [DG,Vg,Sg,Ua,Ma,Ta,kF hS.g hS.up hs _ (hsm.2 _ hm),Option.bind_some]
      refine Aa.gd (Ia (by omega) (by omega)) (Aa.gd (decide_eq_true (by omega)) (Aa.gd (Ia (by omega) (by omega)) (Aa.gd (Ia (by omega) (by omega)) (Aa.ite (fun hc=>.some ⟨rfl,fun q=>?_⟩) (fun hc=>.some ⟨hjl,rfl,fun i hi=>?_⟩)))))
      ·have hc:poss w (Jb (Qa w.db k) j)=false:=by simpa using hc
       exact N6.1 hc (q.poss _ (.inl ⟨k,hlt,hm⟩))
      ·have hp:=ES.1 (show poss w (Jb (Qa w.db k) j)=true by simpa using hc)
       by_cases e:i<j
       ·exact hok2 i e
       ·obtain rfl:i=j:=by omega
        exact hp
     ·obtain rfl:j=(Qa w.db k).length:=by omega
      unfold DG
      simp only [Vg,Ua,Ta]
      refine Aa.gd (Ia (by omega) (by omega)) (Aa.no (dF (by omega)) (.some ⟨rfl,fun l hl=>?_⟩))
      obtain ⟨i,hi,rfl⟩:=List.getElem_of_mem hl
      rw [←Id hi]
      exact hok2 i hi
    ·rintro (r|r) hr
     case inr =>
       obtain ⟨rfl,hr⟩:=hr
       exact .some ⟨rfl,hr⟩
     obtain ⟨rfl,hr⟩:=hr
     simp (disch:=omega) only [Vg,Uc,Ua,Ma,L5 _ (k:Int) hsm.fits,Option.bind_some]
     refine Aa.gd (Ia (by omega) (by omega)) ?_
     cases hfd:fd (Qa w.db k) (k:Int) with
     |none =>
      refine Aa.gd rfl (.some ⟨rfl,fun q=>?_⟩)
      obtain ⟨l,hl,e1,_⟩:=q.own k hlt
      exact WJ.1 hfd l hl e1
     |some l0 =>
      obtain ⟨hm,ho⟩:=(Vj hv.so).1 hfd
      refine Aa.no rfl (Aa.gd (Ia (by omega) (by omega)) (Aa.ite (fun hc=>.some ⟨rfl,fun q=>?_⟩) (fun hc=>.some ⟨hlt,rfl,fun i hi=>?_⟩)))
      ·have hc:¬l0.s=iz w.sq k:=by simpa using hc
       obtain ⟨l,hl,e1,e2⟩:=q.own k hlt
       have:=(Vj hv.so).2 ⟨hl,e1⟩
       rw [hfd] at this
       injection this with this
       rw [this] at hc
       exact hc e2
      ·have hc:l0.s=iz w.sq k:=by simpa using hc
       by_cases e:i<k
       ·exact hok i e
       ·obtain rfl:i=k:=by omega
        exact ⟨hr,l0,hm,ho,hc⟩
   ·obtain rfl:k=w.db.length:=by omega
    unfold EG
    exact Aa.no (dF (by dsimp only;omega)) (.some ⟨rfl,hok⟩)
  rintro (r|r) hr
  case inr =>
    obtain ⟨rfl,hr⟩:=hr
    exact .some (no hr)
  obtain ⟨rfl,hnd⟩:=hr
  dsimp only
  refine Aa.bnd (R:=fun r=>match r with| .inl x=>∀i,i<w.net.length→(0≤(Qb w.net i).t∧(Qb w.net i).t<w.n)∧Aj w Pb (Qb w.net i).p| .inr y=>y=(false,())∧¬WV w Pb) ?_ ?_
  ·refine Aa.count w.net.length (fun k t=>t=((k:Int),w.n,w.ls,w.up,w.sq,w.db,w.net,())∧∀i,i<k→(0≤(Qb w.net i).t∧(Qb w.net i).t<w.n)∧Aj w Pb (Qb w.net i).p) ?_ (Nat.zero_le _) (Ib (by omega)) ⟨rfl,fun i hi=>by omega⟩
   rintro k t hk ⟨rfl,hok⟩
   by_cases hlt:k<w.net.length
   ·simp (disch:=omega) only [FG,Tp,Ua,Ma,Ta,Uk,kF hS.g hS.up hs _ (h.pks k hlt),Option.bind_some]
    refine Aa.gd (decide_eq_true (by omega)) (Aa.gd (Ia (by omega) (by omega)) (Aa.ite (fun hc=>.some ⟨rfl,fun q=>?_⟩) (fun hc=>?_)))
    ·have hc:=Zh (show Db (Qb w.net k).t 0 (w.n-1)=false by simpa using hc)
     have:=q.tgt _ (Co hlt)
     omega
    have ht:=De (show Db (Qb w.net k).t 0 (w.n-1)=true by simpa using hc)
    refine Aa.gd (Ia (by omega) (by omega)) (Aa.ite (fun hc=>.some ⟨rfl,fun q=>?_⟩) (fun hc=>.some ⟨hlt,rfl,fun i hi=>?_⟩))
    ·have hc:poss w (Qb w.net k).p=false:=by simpa using hc
     exact N6.1 hc (q.poss _ (.inr ⟨_,Co hlt,rfl⟩))
    ·have hp:=ES.1 (show poss w (Qb w.net k).p=true by simpa using hc)
     by_cases e:i<k
     ·exact hok i e
     ·obtain rfl:i=k:=by omega
      exact ⟨by omega,hp⟩
   ·obtain rfl:k=w.net.length:=by omega
    unfold FG
    simp only [Ta]
    exact Aa.no (dF (by omega)) (.some hok)
  rintro (r|r) hr
  case inr =>
    obtain ⟨rfl,hr⟩:=hr
    exact .some (no hr)
  refine .some ?_
  rw [Bx.2 (yAT hS.g hS.up hs hd hn hS.nd (fun i hi=>(hnd i hi).2) (fun i hi=>(hr i hi).1) (fun i hi=>?_) hag)]
  rcases GK.2 (Th hi) with ⟨j,hj,hx⟩|⟨p,hp,e⟩
  ·exact (hnd j hj).1 _ hx
  ·rw [e]
   obtain ⟨j,hj,rfl⟩:=List.getElem_of_mem hp
   have:=(hr j hj).2
   have e2:Qb w.net j=w.net[j]:=by simp [Qb,List.getD,hj]
   rwa [e2] at this
end
end
section
open Go.RowKit
section
variable {w:Wd}
def zW:Wd:=⟨0,[],[],[],[],[]⟩
def kI (b:Bool) (w:Wd):Int×Bool×List Lk×List Bool×List Int×List (List Ls)×List Pk×Unit:=(w.n,b,w.ls,w.up,w.sq,w.db,w.net,())
theorem yAW {v:Wd} {i:Nat} (hi:i<v.up.length):Yd v 6 i=Dg v i:=by rw [M6,if_pos ⟨by omega,by omega⟩,Ua]
theorem P6 (h:WV w Pb):WV { w with net:=[] } Pb:=h.less (db':=w.db) rfl (by simp) h.ok h.own (fun l hl=>by
  rcases hl with hl|⟨p,hp,_⟩
  ·exact .inl hl
  ·simp at hp) (by simp)
theorem yAX (h:WV w Pb):RQ (w.n,w.ls,w.up,w.sq,w.db,w.net,())=some (wt (Ug w)):=by
  have h8:=h.nn
  have h14:=h.lsl
  have v0:=P6 h
  unfold RQ
  refine Aa.out (Aa.bnd (R:=fun r=>match r with| .inl x=>x=wt (Ug w)| .inr _=>False) ?_ ?_)
  ·refine Aa.count w.n.toNat (fun k t=>t=(w.n,(k:Int),wt (Kg { w with net:=[] } k))) ?_ (Nat.zero_le _) (Ib (by omega)) rfl
   rintro k t hk rfl
   have hs:=H6 { w with net:=[] } k
   have hv:=DK v0 k
   generalize hc:Kg { w with net:=[] } k=c at hs hv ⊢
   by_cases hlt:k<w.n.toNat
   ·unfold FI
    refine Aa.gd (decide_eq_true (by dsimp only;omega)) (Aa.bnd (R:=fun r=>match r with| .inl x=>x=(w.n,(k:Int),wt (AK c))| .inr _=>False) ?_ ?_)
    ·have hup:=hv.up
     have hl14:=hv.lsl
     refine Aa.count c.ls.length (fun i t=>t=(w.n,(k:Int),(c.ls.length:Int),(i:Int),wt (Bj c i))) ?_ (Nat.zero_le _) (Ib (by omega)) (by dsimp only [wt];rw [Ta,hup];rfl)
     rintro i t hi rfl
     have hs2:=BK c i
     by_cases hil:i<c.ls.length
     ·have hv2:=CK hv i (by omega)
      unfold EI
      simp (disch:=omega) only [Ma]
      refine Aa.gd (decide_eq_true (by first|omega|(dsimp only;omega))) (Ka (kE hv2 6 (i:Int)) (.some ⟨hil,?_⟩))
      rw [yAW (by rw [hs2.2.2.1,hup];exact hil)]
      rfl
     ·obtain rfl:i=c.ls.length:=by omega
      unfold EI
      exact Aa.no (dF (by first|omega|(dsimp only;omega))) (.some rfl)
    ·rintro (r|r) hr
     case inr=>exact hr.elim
     obtain rfl:=hr
     simp (disch:=omega) only [Ma]
     refine .some ⟨hlt,?_⟩
     show _=(w.n,((k+1:Nat):Int),wt (AK (Kg { w with net:=[] } k)))
     rw [hc];rfl
   ·obtain rfl:k=w.n.toNat:=by omega
    unfold FI
    refine Aa.no (dF (by first|omega|(dsimp only;omega))) (.some ?_)
    unfold Ug
    rw [hc]
  ·rintro (r|r) hr
   case inr=>exact hr.elim
   obtain rfl:=hr
   exact .some rfl
noncomputable def z7 (w:Wd):Wd:=if wv w=true then Ug w else zW
theorem zGi (h:FB w):PQ (w.n,w.ls,w.up,w.sq,w.db,w.net,())=some (wt (z7 w)):=by
  unfold PQ z7
  refine Aa.out (Ka (kH h) ?_)
  dsimp only
  cases hv:wv w with
  |false=>exact Aa.gd rfl (.some (by rw [if_neg (by simp)];try rfl))
  |true =>
   rw [if_pos rfl]
   have hV:=Bx.1 hv
   have h8:=hV.nn
   have h14:=hV.lsl
   have v0:=P6 hV
   refine Aa.no rfl (Ka (FK h) ?_)
   dsimp only
   refine Aa.bnd (R:=fun r=>match r with| .inl x=>x=(0,[],[],[],[],[],wt (Ug w))| .inr _=>False) ?_ ?_
   ·refine Aa.count w.n.toNat (fun k t=>t=((k:Int),0,[],[],[],[],[],wt (Kg { w with net:=[] } k))) ?_ (Nat.zero_le _) (Ib (by omega)) rfl
    rintro k t hk rfl
    have hs:=H6 { w with net:=[] } k
    have hv:=DK v0 k
    generalize hc:Kg { w with net:=[] } k=c at hs hv ⊢
    have hn:c.n=w.n:=hs.1
    by_cases hlt:k<w.n.toNat
    ·unfold CI
     refine Aa.gd (decide_eq_true (by dsimp only [wt];omega)) (Aa.bnd (R:=fun r=>match r with| .inl x=>x=((k:Int),0,[],[],[],[],[],wt (AK c))| .inr _=>False) ?_ ?_)
     ·have hup:=hv.up
      have hl14:=hv.lsl
      refine Aa.count c.ls.length (fun i t=>t=((k:Int),(i:Int),0,[],[],[],[],[],wt (Bj c i))) ?_ (Nat.zero_le _) (Ib (by omega)) rfl
      rintro i t hi rfl
      have hs2:=BK c i
      by_cases hil:i<c.ls.length
      ·have hv2:=CK hv i (by omega)
       unfold BI
       simp (disch:=omega) only [Ma,Ta]
       refine Aa.gd (decide_eq_true (by dsimp only [wt];rw [hs2.2.2.1,hup];omega)) (Ka (kB hv2 (by rw [hs2.2.1];exact hil)) (.some ⟨hil,rfl⟩))
      ·obtain rfl:i=c.ls.length:=by omega
       unfold BI
       simp only [Ta]
       exact Aa.no (dF (by dsimp only [wt];rw [hs2.2.2.1,hup];omega)) (.some rfl)
     ·rintro (r|r) hr
      case inr=>exact hr.elim
      obtain rfl:=hr
      simp (disch:=omega) only [Ma]
      refine .some ⟨hlt,?_⟩
      show _=(((k+1:Nat):Int),(0:Int),[],[],[],[],[],wt (AK (Kg { w with net:=[] } k)))
      rw [hc];rfl
    ·obtain rfl:k=w.n.toNat:=by omega
     unfold CI
     refine Aa.no (dF (by dsimp only [wt];omega)) (.some ?_)
     unfold Ug
     rw [hc]
   ·rintro (r|r) hr
    case inr=>exact hr.elim
    obtain rfl:=hr
    dsimp only [wt]
    exact Ka (FK (jF hV).sm) (.some rfl)
end
end
section
open Go.RowKit
section
def Gf (ls:List Lk) (N k:Nat):List Ls:=(List.range k).map fun i:Nat=>(⟨i,1,Pc ls N i⟩:Ls)
theorem kJ (ls:List Lk) (N k:Nat):Gf ls N (k+1)=Gf ls N k++[⟨(k:Nat),1,Pc ls N (k:Nat)⟩]:=by
  unfold Gf
  rw [List.range_succ,List.map_append];rfl
theorem Q6 (ls:List Lk) (N k:Nat):(Gf ls N k).length=k:=by simp [Gf]
theorem GS {α:Type} (k:Nat) (a:α):List.replicate (k+1) a=List.replicate k a++[a]:=List.replicate_succ'
noncomputable def GB (n:Int) (ls:List Lk):Wd:=if gv n ls=true then Tg n ls else zW
theorem yAY {n:Int} {ls:List Lk} (g:GV n ls):WV (Tg n ls) Pb:=by
  have h1:=g.1
  obtain ⟨N,rfl⟩:=Int.eq_ofNat_of_zero_le (show 0≤n by omega)
  exact yAA g
theorem zD0 (n:Int) (ls:List Lk) (hl:Cb ls):GP (n,ls,())=some (kI (gv n ls) (GB n ls)):=by
  unfold GP GB
  dsimp only
  rw [I5 n ls hl]
  cases hg:gv n ls with
  |false=>exact Aa.out (Ka rfl (Aa.gd rfl (.some rfl)))
  |true =>
   have g:=Oy hg
   have h1:=g.1
   have h8:=g.2.1
   have h14:=g.2.2.1
   obtain ⟨N,rfl⟩:=Int.eq_ofNat_of_zero_le (show 0≤n by omega)
   have b3:IG ((N:Int),ls,0,[],[],[],[],[],())=some (.inl ((N:Int),ls,0,[],[],[],[],[],(N:Int),ls,List.replicate ls.length true,List.replicate N (1:Int),[],[],())):=by
     unfold IG
     refine Aa.out (Ka (zFa _ ls (by omega)) ?_)
     refine Ka (r:=(List.replicate ls.length true,())) ?_ (Ka (r:=(List.replicate N (1:Int),())) ?_ (.some rfl))
     ·simp only [Ta]
      unfold AX
      exact Aa.out (Aa.gd (decide_eq_true (by dsimp only;omega)) (.some rfl))
     ·unfold PD
      exact Aa.out (Aa.gd (decide_eq_true (by dsimp only;omega)) (.some rfl))
   refine Aa.out (Ka rfl (Aa.no rfl (Ka b3 ?_)))
   dsimp only
   rw [if_pos rfl]
   refine Aa.bnd (R:=fun r=>match r with| .inl x=>x=(0,[],[],[],[],[],(N:Int),ls,List.replicate ls.length true,List.replicate N (1:Int),List.replicate N (Gf ls N N),[],())| .inr _=>False) ?_ ?_
   ·refine Aa.count N (fun k t=>t=((N:Int),(k:Int),(N:Int),ls,0,[],[],[],[],[],(N:Int),ls,List.replicate ls.length true,List.replicate N (1:Int),List.replicate k (Gf ls N N),[],())) ?_ (Nat.zero_le _) (Ib (by omega)) rfl
    rintro k t hk rfl
    by_cases hlt:k<N
    ·simp only [KG]
     refine Aa.gd (decide_eq_true (by omega)) (Aa.bnd (R:=fun r=>match r with| .inl x=>x=((N:Int),(k:Int),(N:Int),ls,0,[],[],[],[],[],(N:Int),Gf ls N N,ls,List.replicate ls.length true,List.replicate N (1:Int),List.replicate k (Gf ls N N),[],())| .inr _=>False) ?_ ?_)
     ·refine Aa.count N (fun j t=>t=((N:Int),(k:Int),(N:Int),(j:Int),(N:Int),ls,0,[],[],[],[],[],(N:Int),Gf ls N j,ls,List.replicate ls.length true,List.replicate N (1:Int),List.replicate k (Gf ls N N),[],())) ?_ (Nat.zero_le _) (Ib (by omega)) rfl
      rintro j t hj rfl
      have hrl:=Q6 ls N j
      by_cases hjl:j<N
      ·simp (disch:=omega) only [JG,iM g,Option.bind_some,Ma]
       refine Aa.gd (decide_eq_true (by omega)) (Aa.gd (decide_eq_true (by simp only [List.length_singleton];omega)) (.some ⟨hjl,?_⟩))
       rw [kJ];rfl
      ·obtain rfl:j=N:=by omega
       unfold JG
       exact Aa.no (dF (by first|omega|(dsimp only;omega))) (.some rfl)
     ·rintro (r|r) hr
      case inr=>exact hr.elim
      obtain rfl:=hr
      simp (disch:=omega) only [Ma]
      refine Aa.gd (decide_eq_true (by simp only [List.length_singleton,List.length_replicate];omega)) (.some ⟨hlt,?_⟩)
      rw [GS k (Gf ls N N)];rfl
    ·obtain rfl:k=N:=by omega
     unfold KG
     exact Aa.no (dF (by first|omega|(dsimp only;omega))) (.some rfl)
   rintro (r|r) hr
   case inr=>exact hr.elim
   obtain rfl:=hr
   exact .some rfl
theorem yAZ {N k:Nat} (ls:List Lk) (h8:N≤8) (hk:k≤8):Ye (Gf ls N k):=by
  refine ⟨by have:=Q6 ls N k;unfold Sm;omega,fun l hl=>?_⟩
  unfold Gf at hl
  obtain ⟨i,hi,rfl⟩:=List.mem_map.1 hl
  have:=iN (ls:=ls) (N:=N) (i:Int)
  unfold Sm;dsimp only;omega
theorem zGj (n:Int) (ls:List Lk) (hl:Cb ls):DP (n,ls,())=some (kI (gv n ls) (GB n ls)):=by
  unfold DP GB
  dsimp only
  rw [Yw n ls hl]
  cases hg:gv n ls with
  |false=>exact Aa.out (Ka rfl (Aa.gd rfl (.some rfl)))
  |true =>
   have g:=Oy hg
   have h1:=g.1
   have h8:=g.2.1
   have h14:=g.2.2.1
   obtain ⟨N,rfl⟩:=Int.eq_ofNat_of_zero_le (show 0≤n by omega)
   refine Aa.out (Ka rfl (Aa.no rfl (Ka (jX _ ls (by omega)) ?_)))
   dsimp only
   rw [if_pos rfl]
   refine Aa.bnd (R:=fun r=>match r with| .inl x=>x=((N:Int),ls,0,[],[],[],[],[],Gf ls N N,(N:Int),ls,[],List.replicate N (1:Int),[],[],())| .inr _=>False) ?_ ?_
   ·refine Aa.count N (fun k t=>t=((k:Int),(N:Int),ls,0,[],[],[],[],[],Gf ls N k,(N:Int),ls,[],List.replicate k (1:Int),[],[],())) ?_ (Nat.zero_le _) (Ib (by omega)) rfl
    rintro k t hk rfl
    have hrl:=Q6 ls N k
    by_cases hlt:k<N
    ·simp (disch:=omega) only [AG,iO g,Option.bind_some,Ma]
     refine Aa.gd (decide_eq_true (by omega)) (Aa.gd (decide_eq_true (by simp only [List.length_singleton];omega)) (Aa.gd (decide_eq_true (by simp only [List.length_singleton,List.length_replicate];omega)) (.some ⟨hlt,?_⟩)))
     rw [kJ,GS k (1:Int)];rfl
    ·obtain rfl:k=N:=by omega
     unfold AG
     exact Aa.no (dF (by first|omega|(dsimp only;omega))) (.some rfl)
   rintro (r|r) hr
   case inr=>exact hr.elim
   obtain rfl:=hr
   dsimp only
   refine Aa.bnd (R:=fun r=>match r with| .inl x=>x=((N:Int),ls,0,[],[],[],[],[],(N:Int),ls,[],List.replicate N (1:Int),List.replicate N (Gf ls N N),[],())| .inr _=>False) ?_ ?_
   ·refine Aa.count N (fun k t=>t=((k:Int),(N:Int),ls,0,[],[],[],[],[],Gf ls N N,(N:Int),ls,[],List.replicate N (1:Int),List.replicate k (Gf ls N N),[],())) ?_ (Nat.zero_le _) (Ib (by omega)) rfl
    rintro k t hk rfl
    by_cases hlt:k<N
    ·simp (disch:=omega) only [BG,XJ _ (yAZ ls (show N≤8 by omega) (show N≤8 by omega)),Option.bind_some,Ma]
     refine Aa.gd (decide_eq_true (by omega)) (Aa.gd (decide_eq_true (by simp only [List.length_singleton,List.length_replicate];omega)) (.some ⟨hlt,?_⟩))
     rw [GS k (Gf ls N N)];rfl
    ·obtain rfl:k=N:=by omega
     unfold BG
     exact Aa.no (dF (by first|omega|(dsimp only;omega))) (.some rfl)
   rintro (r|r) hr
   case inr=>exact hr.elim
   obtain rfl:=hr
   dsimp only
   refine Aa.bnd (R:=fun r=>match r with| .inl x=>x=(0,[],[],[],[],[],(N:Int),ls,List.replicate ls.length true,List.replicate N (1:Int),List.replicate N (Gf ls N N),[],())| .inr _=>False) ?_ ?_
   ·refine Aa.count ls.length (fun k t=>t=((k:Int),(N:Int),ls,0,[],[],[],[],[],(N:Int),ls,List.replicate k true,List.replicate N (1:Int),List.replicate N (Gf ls N N),[],())) ?_ (Nat.zero_le _) (Ib (by omega)) rfl
    rintro k t hk rfl
    by_cases hlt:k<ls.length
    ·simp (disch:=omega) only [CG,Ma,Ta]
     refine Aa.gd (decide_eq_true (by omega)) (Aa.gd (decide_eq_true (by simp only [List.length_singleton,List.length_replicate];omega)) (.some ⟨hlt,?_⟩))
     rw [GS k true];rfl
    ·obtain rfl:k=ls.length:=by omega
     unfold CG
     simp only [Ta]
     exact Aa.no (dF (by first|omega|(dsimp only;omega))) (.some rfl)
   rintro (r|r) hr
   case inr=>exact hr.elim
   obtain rfl:=hr
   exact .some rfl
end
end
end Go.Proofs.YtjffopopheiinaaGreatDoor
section
namespace Go.Proofs.YtjffopopheiinaaGreatDoor
open Go.RowKit
structure IB (b:List Int):Prop where
  len:b.length≤2000
  rng:∀i,0≤iz b i∧iz b i≤255
theorem kK (zs:List Int) (i:Nat):Ba .u8 zs i=iz zs i:=by
  induction zs generalizing i with
  |nil=>rfl
  |cons z r ih=>cases i with
   |zero=>rfl
   |succ i=>exact (ih i).trans (by simp [iz])
theorem HS {a b:Int} (h:0≤a) (hb:0<b):0≤Int.tmod a b∧Int.tmod a b<b:=⟨Int.tmod_nonneg _ h,Int.tmod_lt_of_pos _ hb⟩
theorem yA0 {x y:Int} (h:0≤x) (h1:x<1099511627776) (k:0≤y) (k1:y<1099511627776):0≤Cq .i64 x y∧Cq .i64 x y<1099511627776:=by
  obtain ⟨a,rfl⟩:=Int.eq_ofNat_of_zero_le h
  obtain ⟨b,rfl⟩:=Int.eq_ofNat_of_zero_le k
  have e:(BitVec.ofInt 64 (a:Int) ^^^ BitVec.ofInt 64 (b:Int)).toNat=a ^^^ b:=by
    rw [BitVec.toNat_xor,BitVec.toNat_ofInt,BitVec.toNat_ofInt]
    have e1:((a:Int) % ((2 ^ 64:Nat):Int)).toNat=a:=by omega
    have e2:((b:Int) % ((2 ^ 64:Nat):Int)).toNat=b:=by omega
    rw [e1,e2]
  have hlt:a ^^^ b<2 ^ 40:=Nat.xor_lt_two_pow (by omega) (by omega)
  unfold Cq
  rw [show IntKind.bits .i64=64 from rfl,e,wI (by omega) (by omega)]
  omega
theorem kL {b:List Int} {p n:Int} (hB:IB b) (h0:0≤p) (h1:p≤1000000000):∃x,Tk (n,b,p,())=some (x,b,p+1,())∧0≤x∧(1≤n→x<n)∧(n<1→x=0):=by
  have hl:=hB.len
  have e1:wrap64 (p+1)=p+1:=Ma (by omega) (by omega)
  have e2:wrap64 (p+1-1)=p:=by rw [Ma (by omega) (by omega)];omega
  unfold Tk
  simp only [e1,e2,Ta]
  clear e1 e2
  by_cases hn:n<1
  ·exact ⟨0,by rw [decide_eq_true hn];rfl,Int.le_refl _,fun h=>by omega,fun _=>rfl⟩
  by_cases hb:b.length=0
  ·exact ⟨0,by simp [hn,hb],Int.le_refl _,fun h=>by omega,fun h=>by omega⟩
  have hb':¬((b.length:Nat):Int)=0:=by omega
  have hn0:¬n=0:=by omega
  simp only [dF hn,dF hb',dF hn0,Bool.not_false,cond_true,cond_false]
  by_cases hk:p<b.length
  ·have r:=hB.rng p.toNat
   have ew:wrap64 (Ba .u8 b p.toNat)=iz b p.toNat:=by rw [kK];exact Ma (by omega) (by omega)
   have:=HS (a:=iz b p.toNat) (b:=n) r.1 (by omega)
   refine ⟨_,by rw [decide_eq_true hk,Ia h0 hk];rfl,?_⟩
   rw [ew]
   exact ⟨this.1,fun _=>this.2,fun h=>by omega⟩
  ·have t1:=HS (a:=p) (b:=((b.length:Nat):Int)) h0 (by omega)
   have ep:wrap64 (wrap64 (p*7)+3)=p*7+3:=by rw [Ma (x:=p*7) (by omega) (by omega)];exact Ma (by omega) (by omega)
   have t2:=HS (a:=p*7+3) (b:=((b.length:Nat):Int)) (by omega) (by omega)
   have r1:=hB.rng (Int.tmod p b.length).toNat
   have r2:=hB.rng (Int.tmod (p*7+3) b.length).toNat
   simp only [ep,dF hk,Ia t1.1 t1.2,Ia t2.1 t2.2,cond_true,cond_false,kK]
   generalize iz b (Int.tmod p b.length).toNat=u at *
   generalize iz b (Int.tmod (p*7+3) b.length).toNat=v at *
   have hq:0≤Int.tdiv p b.length∧Int.tdiv p b.length≤1000000000:=by
     rw [Int.tdiv_eq_ediv_of_nonneg h0]
     exact ⟨Int.ediv_nonneg h0 (by omega),Int.le_trans (Int.ediv_le_self _ h0) h1⟩
   generalize Int.tdiv p b.length=q at *
   have ex:wrap64 (wrap64 (wrap64 (wrap64 (wrap64 u*131)+wrap64 (wrap64 v*1117))+wrap64 (p*29))+wrap64 (wrap64 q*53))=u*131+v*1117+p*29+q*53:=by
     rw [Ma (x:=u) (by omega) (by omega),Ma (x:=v) (by omega) (by omega),Ma (x:=q) (by omega) (by omega),Ma (x:=u*131) (by omega) (by omega),Ma (x:=v*1117) (by omega) (by omega),Ma (x:=p*29) (by omega) (by omega),Ma (x:=q*53) (by omega) (by omega)]
     rw [Ma (x:=u*131+v*1117) (by omega) (by omega),Ma (x:=u*131+v*1117+p*29) (by omega) (by omega),Ma (by omega) (by omega)]
   simp only [ex]
   clear ex ep
   have hx:0≤u*131+v*1117+p*29+q*53∧u*131+v*1117+p*29+q*53<1099511627776:=by omega
   generalize u*131+v*1117+p*29+q*53=x at *
   have hd:0≤Int.tdiv x 64∧Int.tdiv x 64<1099511627776:=by
     rw [Int.tdiv_eq_ediv_of_nonneg hx.1]
     omega
   have ed:wrap64 (Int.tdiv x 64)=Int.tdiv x 64:=Ma (by omega) (by omega)
   have hxr:=yA0 hx.1 hx.2 hd.1 hd.2
   have:=HS (a:=Cq .i64 x (Int.tdiv x 64)) (b:=n) hxr.1 (by omega)
   rw [ed]
   exact ⟨_,rfl,this.1,fun _=>this.2,fun h=>by omega⟩
theorem Aa.pick {β:Type} {b:List Int} {p n:Int} {f:Int×List Int×Int×Unit→Option β} {Q:β→Prop} (hB:IB b) (h0:0≤p) (h1:p≤1000000000) (k:∀x,0≤x→(1≤n→x<n)→(n<1→x=0)→Aa (f (x,b,p+1,())) Q):Aa ((Tk (n,b,p,())).bind f) Q:=by
  obtain ⟨x,e,q1,q2,q3⟩:=kL (n:=n) hB h0 h1
  rw [e]
  exact k x q1 q2 q3
structure Do (n a m:Int) (l:List Lk):Prop where
  pw:l.Pairwise Re
  ok:∀x∈l,Jg n x
  lt:∀x∈l,x.a<a∨x.a=a∧x.b<m
  len:l.length≤14
theorem Do.skip {n a m:Int} {l:List Lk} (h:Do n a m l):Do n a (m+1) l:=⟨h.pw,h.ok,fun x hx=>by have:=h.lt x hx;omega,h.len⟩
theorem Do.app {n a m c:Int} {l:List Lk} (h:Do n a m l) (h0:0≤a) (h1:a<m) (h2:m<n) (hc:1≤c∧c≤20) (hl:l.length<14):Do n a (m+1) (l++[⟨a,m,c⟩]):=by
  refine ⟨?_,fun x hx=>?_,fun x hx=>?_,by simp;omega⟩
  ·rw [List.pairwise_append]
   refine ⟨h.pw,by simp,fun x hx y hy=>?_⟩
   obtain rfl:=List.mem_singleton.1 hy
   have:=h.lt x hx
   unfold Re
   exact this
  ·rcases List.mem_append.1 hx with hx|hx
   ·exact h.ok x hx
   ·obtain rfl:=List.mem_singleton.1 hx
    exact ⟨h0,h1,h2,hc.1,hc.2⟩
  ·rcases List.mem_append.1 hx with hx|hx
   ·have:=h.lt x hx
    omega
   ·obtain rfl:=List.mem_singleton.1 hx
    dsimp only
    omega
theorem Do.row {n a m m':Int} {l:List Lk} (h:Do n a m l):Do n (a+1) m' l:=⟨h.pw,h.ok,fun x hx=>by have:=h.lt x hx;omega,h.len⟩
end Go.Proofs.YtjffopopheiinaaGreatDoor
namespace Go.Proofs.YtjffopopheiinaaGreatDoor
open Go.RowKit
end Go.Proofs.YtjffopopheiinaaGreatDoor
namespace Go.Proofs.YtjffopopheiinaaGreatDoor
open Go.RowKit
theorem yA1 {c:List Int} (h:∀z∈c,0≤z∧z<256) (hl:Cb c):∃b,IR (c,())=some (b,0,())∧IB b:=by
  unfold IR
  dsimp only
  have rng:∀l:List Int,(∀z∈l,0≤z∧z<256)→∀i,0≤iz l i∧iz l i≤255:=fun l hl i=>by
    rcases Nat.lt_or_ge i l.length with hi|hi
    ·have:=hl (iz l i) (List.mem_of_getElem? (Xg hi))
     omega
    ·unfold iz
     rw [List.getD,List.getElem?_eq_none hi]
     simp
  by_cases h2:c.length≤2000
  ·refine ⟨c,?_,h2,rng c h⟩
   rw [Ta,dF (show ¬(2000:Int)<c.length by omega)]
   rfl
  ·refine ⟨c.take 2000,?_,by simp;omega,rng _ fun z hz=>h z (List.mem_of_mem_take hz)⟩
   rw [Ta,decide_eq_true (show (2000:Int)<c.length by omega),Uq (by omega) (by omega) (by omega)]
   rfl
end Go.Proofs.YtjffopopheiinaaGreatDoor
end
namespace Go.Proofs.YtjffopopheiinaaGreatDoor
section
open Go.RowKit
section
variable {N:Nat} {ls:List Lk}
theorem Dm {N:Nat} {ls:List Lk} (g:GV N ls) (a:Nat) (j:Nat): -1≤iz (Ub N ls a) j∧iz (Ub N ls a) j≤5100:=HW N ls a N 0 g.cheap g.2.2.1 (by have:=g.2.1;omega) j
theorem zF4 (g:GV N ls) {f t:Nat} (hf:f<N) (ht:t<N):PO ((N:Int),ls,(f:Int),(t:Int),())=some (Pd N ls f t,()):=by
  have h8:=g.2.1
  have h14:=g.2.2.1
  have fl:Cb ls:=(show Cb ls by unfold Cb;omega)
  unfold PO Pd
  rw [XA g ht]
  dsimp only [Option.bind_some]
  have bd:=fun j=>Dm g t j
  have hdl:=Nl N ls t
  generalize Ub N ls t=d at *
  refine Aa.out ?_
  refine Aa.ite (fun h=>?_) (fun h=>?_)
  ·have h:=oT h
   rw [if_pos (.inl (by omega))]
   exact .some rfl
  have h:=oF h
  refine Aa.gd (Ia (by omega) (by omega)) (Aa.ite (fun h1=>?_) (fun h1=>?_))
  ·rw [Uc,Ua] at h1
   have h1:=oT h1
   rw [if_pos (.inr h1)]
   exact .some rfl
  rw [Uc,Ua] at h1
  have h1:=oF h1
  rw [if_neg (not_or.2 ⟨by omega,h1⟩)]
  rw [K5 _ _ _ (by omega),M5 g]
  dsimp only [Option.bind_some]
  have hmem:∀x∈Hc ls f N,∃(j:Nat) (c:Int),x=j∧j<N∧lc ls f x=some c∧1≤c∧c≤20:=fun x hx=>by
    obtain ⟨j,hj,rfl,hs⟩:=Zi.1 hx
    obtain ⟨c,hc⟩:=Option.isSome_iff_exists.1 hs
    have:=Ry g hc
    exact ⟨j,c,rfl,hj,hc,this.1,this.2⟩
  have hnl:=Yq ls f N
  generalize Hc ls f N=nb at *
  rw [Ta]
  refine Aa.bnd (R:=fun r=>match r with| .inl x=>x.1=nb.filter (Xk ls d f)| .inr _=>False) ?_ ?_
  ·refine Aa.count nb.length (fun k s=>s=((f:Int),(nb.length:Int),(k:Int),(N:Int),ls,(nb.take k).filter (Xk ls d f),d,nb,())) ?_ (Nat.zero_le _) (Ib (by omega)) (by simp)
   rintro k s hk rfl
   have hle:((nb.take k).filter (Xk ls d f)).length≤k:=Nat.le_trans (List.length_filter_le _ _) (List.length_take_le _ _)
   by_cases hlt:k<nb.length
   ·obtain ⟨j,c,hj,hjN,hc,hc1,hc2⟩:=hmem (iz nb k) (List.mem_of_getElem? (Xg hlt))
    obtain ⟨p1,p2,p3⟩:=Bp hc
    have bj:=bd j
    have hB:Xk ls d f (iz nb k)=decide (iz d j+c=iz d f):=by unfold Xk;rw [hc,hj];rfl
    simp (disch:=omega) only [ME,Uc,Ef,Ua,Ma,J5 _ _ _ _ fl,Option.bind_some,List.length_singleton]
    refine Aa.gd (decide_eq_true (by omega)) (Aa.gd (Ia (by omega) (by omega)) (Aa.gd (Ia (by omega) (by omega)) (Aa.gd (Ia (by omega) (by omega)) (Aa.gd (Ia p1 p2) ?_))))
    rw [p3,hj,Ua]
    dsimp only
    rw [Ma (by omega) (by omega),←hB]
    refine Aa.ite (fun hu=>Aa.gd (decide_eq_true (by omega)) (.some ⟨hlt,?_⟩)) (fun hu=>.some ⟨hlt,?_⟩)
    ·rw [List.take_add_one,Xg hlt,List.filter_append]
     simp [hu,hj]
     rw [←hj];simp [hu]
    ·rw [List.take_add_one,Xg hlt,List.filter_append]
     simp [hu]
   ·obtain rfl:k=nb.length:=by omega
    unfold ME
    simp only [dF (show ¬(nb.length:Int)<nb.length by omega),cond_false,List.take_length]
    exact .some rfl
  ·rintro (r|r) hr
   case inr=>exact hr.elim
   have hr:r.1=nb.filter (Xk ls d f):=hr
   exact .some (by first | rw [hr] | exact Prod.ext hr rfl)
end
end
section
open Go.RowKit
section
variable {w:Wd}
def Dx (w:Wd) (i:Nat):List Lk:=Ag (Ed (Qa w.db i)) w.n.toNat
theorem yA2 (h:WV w Pb) {i:Nat} (hi:i<w.db.length):FP (w.n,w.ls,w.up,w.sq,w.db,w.net,(i:Int),())=some (w.n,Dx w i,()):=by
  have hd:=h.ok i hi
  have hdb:=h.db
  have h8:=h.nn
  obtain ⟨N,hN⟩:=Int.eq_ofNat_of_zero_le (show 0≤w.n by omega)
  have hg:=jJ h hN (i:=i) (by omega)
  have hok:RR w.n (Qa w.db i)=true:=by
    unfold RR
    rw [Kx (by omega),show Rh (Qa w.db i)=true from decide_eq_true hd,decide_eq_true (by rw [hN,Int.toNat_natCast];exact hg.2.2.1)]
    rfl
  have hlen:=hd.len
  unfold FP EP
  simp only [Ua,Vg]
  refine Aa.out (Ka (Aa.out (Aa.gd (Ia (by omega) (by omega)) (Ka (zDO w.n (Qa w.db i) (by omega) hd.sm.fe) (.some rfl)))) ?_)
  rw [hok]
  exact .some rfl
theorem kM (N:Nat) (ls:List Lk) (t:Nat):∀k f,(Li N ls t k f).length≤k+1
  |0,f=>by simp [Li]
  |k+1,f=>by
   unfold Li
   split
   ·simp
   ·have:=kM N ls t k (iz (Pd N ls f t) 0).toNat
    rw [List.length_cons];omega
theorem Gh {σ τ:Type} {B:σ→Option (σ⊕τ)} {m:Nat} {s:σ} {Q:τ→Prop} (h:Aa (B s) fun r=>match r with| .inl s'=>Aa (lp B m s') Q| .inr x=>Q x):Aa (lp B (m+1) s) Q:=by
  unfold Go.Proofs.YtjffopopheiinaaGreatDoor.lp
  refine Aa.bnd h fun r hr=>?_
  cases r with
  |inl s'=>exact hr
  |inr x=>exact .some hr
theorem yA3 {N t:Nat} {ls:List Lk} (g:GV N ls) (ht:t<N) (k:Nat):∀(f:Nat) (acc:List Int) (m:Nat),f<N→0≤iz (Ub N ls t) f→iz (Ub N ls t) f≤k→k<m→acc.length+k≤30000000→Aa (lp Dz m ((f:Int),(t:Int),(N:Int),ls,acc++[(f:Int)],())) fun r=>match r with| .inl x=>x=(acc++Li N ls t k f,())| .inr _=>False:=by
  induction k with
  |zero =>
   intro f acc m hf hd hk hm hl
   obtain ⟨m,rfl⟩:∃m',m=m'+1:=⟨m-1,by omega⟩
   have hft:f=t:=by
     by_cases e:f=t
     ·exact e
     ·obtain ⟨x,_,_,_,h4,h5,_⟩:=ZR g hf ht e hd
      omega
   refine Gh ?_
   unfold Dz
   exact Aa.no (by simp [hft]) (.some rfl)
  |succ k ih =>
   intro f acc m hf hd hk hm hl
   obtain ⟨m,rfl⟩:∃m',m=m'+1:=⟨m-1,by omega⟩
   refine Gh ?_
   unfold Dz
   by_cases e:f=t
   ·refine Aa.no (by simp [e]) (.some ?_)
    unfold Li
    rw [if_pos e]
   ·obtain ⟨x,h1,h2,h3,h4,h5,_⟩:=ZR g hf ht e hd
    refine Aa.gd (by simp;omega) (Ka (zF4 g hf ht) ?_)
    have h2':Ba .int (Pd N ls f t) (Int.toNat 0)=(x:Int):=(Uc _ _).trans h2
    dsimp only
    rw [h2']
    refine Aa.gd (Ia (by omega) (by omega)) (Aa.gd (decide_eq_true (by simp only [List.length_append,List.length_singleton];omega)) (.some ?_))
    have:=ih x (acc++[(f:Int)]) m h1 h4 (by omega) (by omega) (by simp only [List.length_append,List.length_singleton];omega)
    refine this.mono ?_
    rintro (r|r) hr
    ·dsimp only at hr ⊢
     rw [hr,Li,if_neg e,h2,Ua,List.append_assoc];rfl
    ·exact hr
def Yk (N:Nat) (ls:List Lk) (f t:Nat):List Int:=if iz (Ub N ls t) f<0 then [] else Li N ls t (iz (Ub N ls t) f).toNat f
theorem zDX {N:Nat} {ls:List Lk} (g:GV N ls) {f t:Nat} (hf:f<N) (ht:t<N):Ds ((N:Int),ls,(f:Int),(t:Int),())=some (Yk N ls f t,()):=by
  have fl:Cb ls:=by have:=g.2.2.1;unfold Cb;omega
  have hg:gv N ls=true:=decide_eq_true g
  have key:QO ((N:Int),ls,(f:Int),(t:Int),())=some (Yk N ls f t,()):=by
    unfold QO Yk
    have bd:=Dm g t f
    refine Aa.out (Ka (XA g ht) ?_)
    have hdl:=Nl N ls t
    simp only [Uc,Ua]
    refine Aa.gd (Ia (by omega) (by omega)) (Aa.ite (fun hc=>?_) (fun hc=>?_))
    ·have hc:iz (Ub N ls t) f<0:=oT hc
     exact .some (by rw [if_pos hc])
    ·have hc:¬iz (Ub N ls t) f<0:=oF hc
     rw [if_neg hc]
     refine Aa.bnd (yA3 g ht (iz (Ub N ls t) f).toNat f [] Ea hf (by omega) (by omega) (Ib (by omega)) (by simp;omega)) ?_
     rintro (r|r) hr
     case inr=>exact hr.elim
     obtain rfl:=hr
     exact .some rfl
  unfold Ds
  refine Aa.out (Ka (Zw _ _ _ fl) ?_)
  dsimp only
  rw [hg,Kx (by omega)]
  refine Aa.no rfl (Ka (Zw _ _ _ fl) ?_)
  dsimp only
  rw [hg,Kx (by omega)]
  exact Aa.no rfl (Ka key (.some rfl))
end
end
section
open Go.RowKit
section
variable {w:Wd}
theorem yA4 (h:WV w Pb) {i:Nat} (hi:i<w.db.length):GV w.n (Dx w i):=by
  have hdb:=h.db
  have h8:=h.nn
  obtain ⟨N,hN⟩:=Int.eq_ofNat_of_zero_le (show 0≤w.n by omega)
  have:=jJ h hN (i:=i) (by omega)
  unfold Dx
  rw [hN,Int.toNat_natCast]
  exact this
noncomputable def Yj (w:Wd) (i:Int):Int×List Lk:=if (wv w&&Db i 0 (w.n-1))=true then (w.n,Dx w i.toNat) else (0,[])
theorem kN (w:Wd) (i:Int):(Yj w i=(0,[])∧(wv w&&Db i 0 (w.n-1))=false)∨∃k:Nat,i=k∧WV w Pb∧k<w.db.length∧Yj w i=(w.n,Dx w k):=by
  unfold Yj
  cases hb:(wv w&&Db i 0 (w.n-1)) with
  |false=>exact .inl ⟨rfl,rfl⟩
  |true =>
   simp only [Bool.and_eq_true] at hb
   have v:=Bx.1 hb.1
   have hi:=De hb.2
   have hdb:=v.db
   obtain ⟨k,rfl⟩:=Int.eq_ofNat_of_zero_le hi.1
   exact .inr ⟨k,rfl,v,by omega,rfl⟩
theorem yA5 (w:Wd) (i:Int):Cb (Yj w i).2:=by
  rcases kN w i with ⟨e,_⟩|⟨k,rfl,v,hk,e⟩
  ·rw [e];unfold Cb;simp
  ·rw [e]
   have:=(yA4 v hk).2.2.1
   unfold Cb;dsimp only;omega
theorem zGk (h:FB w) (i:Int):Hz (w.n,w.ls,w.up,w.sq,w.db,w.net,i,())=some ((Yj w i).1,(Yj w i).2,()):=by
  unfold Hz
  refine Aa.out (Ka (kH h) ?_)
  dsimp only
  cases hv:wv w with
  |false =>
   have e:Yj w i=(0,[]):=by unfold Yj;rw [hv];rfl
   rw [e]
   exact Aa.gd rfl (.some rfl)
  |true =>
   have v:=Bx.1 hv
   have h8:=v.nn
   refine Aa.no rfl (Ka (Qp w.n i w.ls (by omega) (by omega)) ?_)
   dsimp only
   rcases kN w i with ⟨e,hb⟩|⟨k,rfl,v,hk,e⟩
   ·rw [hv,Bool.true_and] at hb
    rw [hb,e]
    exact Aa.gd rfl (.some rfl)
   ·have hdb:=v.db
    have hd:=v.ok k hk
    rw [Kx (by omega),e]
    obtain ⟨N,hN⟩:=Int.eq_ofNat_of_zero_le (show 0≤w.n by omega)
    simp only [Ua,Vg]
    refine Aa.no rfl (Aa.gd (Ia (by omega) (by omega)) ?_)
    unfold Dx
    rw [hN,Int.toNat_natCast]
    exact Ka (zFe hd.sm.fits hd.sm.fe (show N≤8 by omega)) (.some rfl)
end
end
section
open Go.RowKit
open Go.Lib (itoa decDigits)
def Em:List UInt8:=[110,111,100,101]
def Ex:List UInt8:=[112,97,116,104]
def Fx:List UInt8:=[115,101,101,110]
def Cj:List UInt8:=[114,101,112,97,105,114]
def Gx:List UInt8:=[111,114,100,101,114]
def IK:List UInt8:=[110,101,116]
def IS:List UInt8:=[99,97,108,109]
def kO:List UInt8:=[119,104,97,116,10]
def yA6:List UInt8:=[110,111,32,114,101,112,97,105,114,10]
def kP:List UInt8:=[116,111,111,32,108,111,110,103,10]
def Dj (w:List UInt8):Int :=
  if w=[100,111,119,110] then 1 else if w=[117,112] then 2 else if w=[100,101,108,105,118,101,114] then 3 else if w=[108,111,115,101] then 4 else if w=[116,119,105,99,101] then 5 else if w=[115,121,110,99] then 6 else 0
def Lg (b:UInt8):Bool:=decide (48≤b.toNat)&&decide (b.toNat≤57)
def Vh (n:Int) (w:List UInt8):Int:=w.foldl (fun n b=>10*n+((b.toNat:Int)-48)) n
def Kb (w:List UInt8):Int:=if 1≤w.length∧w.length≤2∧w.all Lg=true then Vh 0 w else -1
theorem kQ {w:List UInt8} (h:w.all Lg=true) {n:Int} (h0:0≤n):0≤Vh n w∧(w.length≤2→n=0→Vh n w≤99):=by
  have dg:∀b:UInt8,Lg b=true→48≤b.toNat∧b.toNat≤57:=fun b hb=>by simpa [Lg] using hb
  have pos:∀(w:List UInt8) (n:Int),w.all Lg=true→0≤n→0≤Vh n w:=by
    intro w
    induction w with
    |nil=>intro n _ h;exact h
    |cons b r ih =>
     intro n h h0
     simp only [List.all_cons,Bool.and_eq_true] at h
     have:=dg b h.1
     exact ih _ h.2 (by dsimp only;omega)
  refine ⟨pos w n h h0,fun hl hn=>?_⟩
  subst hn
  match w,hl,h with
  |[],_,_=>simp [Vh]
  |[a],_,h =>
   have:=dg a (by simpa using h)
   simp only [Vh,List.foldl_cons,List.foldl_nil]
   omega
  |[a,b],_,h =>
   simp only [List.all_cons,List.all_nil,Bool.and_true,Bool.and_eq_true] at h
   have:=dg a h.1
   have:=dg b h.2
   simp only [Vh,List.foldl_cons,List.foldl_nil]
   omega
  |_::_::_::_,hl,_=>simp at hl
theorem JK (u:Nat):decDigits u=if u<10 then [UInt8.ofNat (48+u)] else decDigits (u / 10)++[UInt8.ofNat (48+u % 10)]:=by
  rw [decDigits]
  split<;>rfl
theorem kR (u:Nat):∀x∈decDigits u,48≤x.toNat∧x.toNat≤57:=by
  have one:∀d,d<10→48≤(UInt8.ofNat (48+d)).toNat∧(UInt8.ofNat (48+d)).toNat≤57:=fun d hd=>by
    rw [UInt8.toNat_ofNat',Nat.mod_eq_of_lt (by omega)];omega
  induction u using Nat.strongRecOn with
  |ind u ih =>
   rw [JK]
   split
   ·rename_i h
    intro x hx
    rw [List.mem_singleton.1 hx]
    exact one u h
   ·rename_i h
    intro x hx
    rcases List.mem_append.1 hx with hx|hx
    ·exact ih (u / 10) (by omega) x hx
    ·rw [List.mem_singleton.1 hx]
     exact one _ (Nat.mod_lt _ (by omega))
theorem yA7 (u:Nat):1≤(decDigits u).length:=by
  rw [JK]
  split<;>simp
theorem yA8 (n:Int):1≤(itoa n).length:=by
  unfold itoa
  split
  ·simp
  ·exact yA7 _
theorem yA9 (n:Int):∀x∈itoa n,x≠10∧x≠32:=by
  have key:∀x:UInt8,48≤x.toNat→x≠10∧x≠32:=fun x h=>⟨by rintro rfl;simp at h,by rintro rfl;simp at h⟩
  unfold itoa
  split
  ·intro x hx
   rcases List.mem_cons.1 hx with rfl|hx
   ·decide
   ·exact key x (kR _ x hx).1
  ·intro x hx
   exact key x (kR _ x hx).1
def blk (l:List Int):List UInt8:=l.flatMap fun n=>32::itoa n
theorem kS (a b:List Int):blk (a++b)=blk a++blk b:=by simp [blk]
theorem yBa (l:List Int):∀x∈blk l,x≠10:=by
  intro x hx
  obtain ⟨n,_,h⟩:=List.mem_flatMap.1 hx
  rcases List.mem_cons.1 h with rfl|h
  ·decide
  ·exact (yA9 n x h).1
theorem yBb (l:List Int):2*l.length≤(blk l).length:=by
  induction l with
  |nil=>simp [blk]
  |cons a r ih =>
   have:=yA8 a
   have e:blk (a::r)=(32::itoa a)++blk r:=by simp [blk]
   rw [e,List.length_append,List.length_cons,List.length_cons]
   omega
def listT (w:List UInt8) (l:List Int):List UInt8:=w++(blk l++[10])
def Me (l:List UInt8):Prop:=l=[]∨∃a,l=a++[10]
theorem Me.nil:Me []:=.inl rfl
theorem Me.app {a b:List UInt8} (ha:Me a) (hb:Me b):Me (a++b):=by
  rcases hb with rfl|⟨c,rfl⟩
  ·rwa [List.append_nil]
  ·exact .inr ⟨a++c,(List.append_assoc ..).symm⟩
theorem Me.mk (a:List UInt8):Me (a++[10]):=.inr ⟨a,rfl⟩
theorem Me.listT (w:List UInt8) (l:List Int):Me (listT w l):=.inr ⟨w++blk l,by unfold Go.Proofs.YtjffopopheiinaaGreatDoor.listT;rw [List.append_assoc]⟩
theorem Me.flat {α:Type} {f:α→List UInt8}:∀{l:List α},(∀x∈l,Me (f x))→Me (l.flatMap f)
  |[],_=>.nil
  |x::r,h=>by
   rw [List.flatMap_cons]
   exact (h x (List.mem_cons_self ..)).app (Me.flat fun y hy=>h y (List.mem_cons_of_mem _ hy))
def Zb (t:List UInt8):List (List UInt8):=(Wb 10 t).dropLast
theorem kT:∀(t:List UInt8),(∀x∈t,x≠10)∨∃a b,t=a++10::b∧∀x∈b,x≠10
  |[]=>.inl (by simp)
  |x::r=>by
   rcases kT r with h|⟨a,b,rfl,h⟩
   ·by_cases hx:x=10
    ·exact .inr ⟨[],r,by simp [hx],h⟩
    ·exact .inl fun y hy=>by
       rcases List.mem_cons.1 hy with rfl|hy
       ·exact hx
       ·exact h y hy
   ·exact .inr ⟨x::a,b,rfl,h⟩
theorem kU {t:List UInt8} (h:∀x∈t,x≠10):Zb t=[]:=by unfold Zb;rw [An 10 t h];rfl
theorem R6 {a b:List UInt8} (h:∀x∈b,x≠10):Zb (a++10::b)=Wb 10 a:=by
  unfold Zb
  rw [DN,An 10 b h]
  simp
def Vp (t c:List UInt8):Prop:=c.length≤t.length∧((c=[]∧Zb t=[])∨∃a,c=a++[10]∧Zb t=Wb 10 a)
theorem Vp.lines {t c:List UInt8} (h:Vp t c):Zb c=Zb t:=by
  rcases h.2 with ⟨rfl,e⟩|⟨a,rfl,e⟩
  ·rw [e,kU (by simp)]
  ·rw [e];exact R6 (by simp)
theorem Vp.more {t c s:List UInt8} (h:Vp t c) (hs:∀x∈s,x≠10):Zb (c++(s++[10]))=Zb t++[s]:=by
  rcases h.2 with ⟨rfl,e⟩|⟨a,rfl,e⟩
  ·rw [e,List.nil_append,show s++[10]=s++10::[] from rfl,R6 (by simp),An 10 s hs];rfl
  ·rw [e,List.append_assoc]
   show Zb (a++10::(s++[10]))=_
   unfold Zb
   rw [DN,show s++[10]=s++10::[] from rfl,DN,An 10 s hs]
   simp [Wb]
theorem kV:∀(l:List Int) (k:Nat) (a:Int),l.Pairwise (·<·)→(∀i:Nat,i<k→a+i∈l)→k≤l.length
  |_,0,_,_,_=>Nat.zero_le _
  |[],k+1,a,_,h=>by have:=h 0 (by omega);simp at this
  |x::r,k+1,a,hp,h=>by
   have hp:=List.pairwise_cons.1 hp
   have:=kV r k (a+1) hp.2 fun i hi=>by
     have h1:=h (i+1) (by omega)
     have h0:=h 0 (by omega)
     rcases List.mem_cons.1 h1 with e|e
     ·exfalso
      rcases List.mem_cons.1 h0 with e0|e0
      ·omega
      ·have:=hp.1 _ e0
       omega
     ·rwa [show a+1+(i:Int)=a+((i+1:Nat):Int) by omega]
   rw [List.length_cons];omega
end
section
open Go.RowKit
open Go.Lib (itoa decDigits)
def Oe:List Lk:=[⟨0,1,2⟩,⟨0,4,3⟩,⟨1,2,2⟩,⟨1,4,6⟩,⟨2,3,2⟩,⟨3,4,3⟩]
theorem kW:GV 5 Oe:=Oy (by decide)
def Hh (l:List Lb):List UInt8:=l.flatMap fun x=>32::(if x.k=1 then 110 else 108)::itoa x.a
def Ge (W:Wd) (a:Int):Int×List Lk:=if Db a 0 (W.n-1)=true then (W.n,Dx W a.toNat) else (0,[])
def Ej (g:Int×List Lk) (a b:Int):List Int:=if (gv g.1 g.2&&(Db a 0 (g.1-1)&&Db b 0 (g.1-1)))=true then Yk g.1.toNat g.2 a.toNat b.toNat else []
def Wh (net:List Pk) (k:Nat):List UInt8:=(List.range k).flatMap fun i:Nat=>listT (itoa i) [(Qb net i).t,(Qb net i).p.o,(Qb net i).p.s]
def He (db:List (List Ls)) (k:Nat):List UInt8:=(List.range k).flatMap fun n:Nat=>listT Em ((n:Int)::(Qa db n).map (·.s))
section
variable (rep:Int→Int→Int→List Lb×Bool) (ord:Int→Int→List Int)
def LK (a b c:Int):List UInt8:=if (rep a b c).2=true then Cj++(Hh (rep a b c).1++[10]) else yA6
def Wp (W:Wd) (ws:List (List UInt8)):List UInt8 :=
  let a:=Kb (ws.getD 1 [])
  let b:=Kb (ws.getD 2 [])
  let c:=Kb (ws.getD 3 [])
  let h:=ws.getD 0 []
  if h=Ex then listT Ex (Ej (Ge W a) a b) else if h=Fx then listT Fx (Rp (Ge W a).1 (Ge W a).2 b)
  else if h=Cj then LK rep a b c else if h=Gx then listT Gx (ord a b) else if h=IK then Wh W.net W.net.length else kO
def Vc (W:Wd) (l:List UInt8):Wd×List UInt8 :=
  let ws:=Wb 32 l
  if 0<Dj (ws.getD 0 []) then (Yd W (Dj (ws.getD 0 [])) (Kb (ws.getD 1 [])),[]) else if ws.getD 0 []=IS then (Ug W,[]) else (W,Wp rep ord W ws)
def Mb:Wd→List (List UInt8)→Wd×List UInt8
  |W,[]=>(W,[])
  |W,l::r=>((Mb (Vc rep ord W l).1 r).1,(Vc rep ord W l).2++(Mb (Vc rep ord W l).1 r).2)
def W0:Wd:=Tg 5 Oe
def Mf (t:List UInt8):List UInt8:=if 600<t.length then kP else (Mb rep ord W0 (Zb t)).2++He (Mb rep ord W0 (Zb t)).1.db (Mb rep ord W0 (Zb t)).1.db.length
theorem kX (W:Wd) (a b:List (List UInt8)):Mb rep ord W (a++b)=((Mb rep ord (Mb rep ord W a).1 b).1,(Mb rep ord W a).2++(Mb rep ord (Mb rep ord W a).1 b).2):=by
  induction a generalizing W with
  |nil=>simp [Mb]
  |cons l r ih=>rw [List.cons_append,Mb,ih,Mb];simp
theorem kY (W:Wd) (l:List UInt8):Mb rep ord W [l]=Vc rep ord W l:=by simp [Mb]
theorem yBc (net:List Pk) (k:Nat):Me (Wh net k):=Me.flat fun _ _=>.listT _ _
theorem yBd (W:Wd) (ws:List (List UInt8)):Me (Wp rep ord W ws):=by
  unfold Wp
  dsimp only
  split
  ·exact .listT _ _
  split
  ·exact .listT _ _
  split
  ·unfold LK
   split
   ·rw [←List.append_assoc];exact .mk _
   ·exact .mk [110,111,32,114,101,112,97,105,114]
  split
  ·exact .listT _ _
  split
  ·exact yBc _ _
  ·exact .mk [119,104,97,116]
theorem kZ (W:Wd) (l:List UInt8):Me (Vc rep ord W l).2:=by
  unfold Vc
  dsimp only
  split
  ·exact .nil
  split
  ·exact .nil
  ·exact yBd rep ord W _
theorem yBe (W:Wd) (ls:List (List UInt8)):Me (Mb rep ord W ls).2:=by
  induction ls generalizing W with
  |nil=>exact .nil
  |cons l r ih=>exact (kZ rep ord W l).app (ih _)
structure Nf (W:Wd):Prop where
  ok:WV W Pb
  n:W.n=5
  ls:W.ls=Oe
  kn:∀n o:Nat,n<5→o<5→1≤Vb (Qa W.db n) o
theorem Eo:Nf W0:=⟨yAY kW,rfl,rfl,by
  have:∀n o:Fin 5,1≤Vb (Qa W0.db n) ((o:Nat):Int):=by decide
  exact fun n o hn ho=>this ⟨n,hn⟩ ⟨o,ho⟩⟩
theorem yBf (w:Wd) (k:Nat) (u:Bool):(Cg w k u).n=w.n∧(Cg w k u).ls=w.ls:=by
  unfold Cg
  split<;>exact ⟨rfl,rfl⟩
theorem yBg (w:Wd) (t:Nat) (l:Ls):(Xj w t l).n=w.n∧(Xj w t l).ls=w.ls:=by
  unfold Xj
  split<;>exact ⟨rfl,rfl⟩
theorem lA (w:Wd) (k a:Int):(Yd w k a).n=w.n∧(Yd w k a).ls=w.ls:=by
  unfold Yd
  split
  ·exact yBf _ _ _
  split
  ·exact yBg _ _ _
  split
  ·exact ⟨rfl,rfl⟩
  split
  ·split<;>exact ⟨rfl,rfl⟩
  split
  ·exact ⟨(G6 w a.toNat).1,(G6 w a.toNat).2.1⟩
  ·exact ⟨rfl,rfl⟩
theorem yBh {W:Wd} (F:Nf W) (k a:Int):Nf (Yd W k a):=⟨yAB F.ok k a,(lA W k a).1.trans F.n,(lA W k a).2.trans F.ls,fun n o hn ho=>by
  have:=yAI F.ok k a n (o:Int)
  have:=F.kn n o hn ho
  omega⟩
theorem lB {w:Wd} (h:WV w Pb) (n:Nat) (o:Int):∀k,k≤w.ls.length→Vb (Qa w.db n) o≤Vb (Qa (Bj w k).db n) o
  |0,_=>Int.le_refl _
  |k+1,hk=>by
   have h1:=lB h n o k (by omega)
   have h2:=jK (CK h k (by omega)) (k:=k) (by rw [(BK w k).2.1];omega) n o
   exact Int.le_trans h1 h2
theorem lC {w:Wd} (h:WV w Pb) (n:Nat) (o:Int):∀k,Vb (Qa w.db n) o≤Vb (Qa (Kg w k).db n) o
  |0=>Int.le_refl _
  |k+1=>Int.le_trans (lC h n o k) (lB (DK h k) n o _ (Nat.le_refl _))
theorem yBi {W:Wd} (F:Nf W):Nf (Ug W):=⟨jF F.ok,(jG W).1.trans F.n,(jG W).2.1.trans F.ls,fun n o hn ho=>by
  have:=lC (P6 F.ok) n (o:Int) W.n.toNat
  have e:Vb (Qa W.db n) o≤Vb (Qa (Ug W).db n) o:=this
  have:=F.kn n o hn ho
  omega⟩
theorem S6 {W:Wd} (F:Nf W) (l:List UInt8):Nf (Vc rep ord W l).1:=by
  unfold Vc
  dsimp only
  split
  ·exact yBh F _ _
  split
  ·exact yBi F
  ·exact F
theorem JB {W:Wd} (F:Nf W) (ls:List (List UInt8)):Nf (Mb rep ord W ls).1:=by
  induction ls generalizing W with
  |nil=>exact F
  |cons l r ih=>exact ih (S6 rep ord F l)
theorem Hx {W:Wd} (F:Nf W):W.db.length=5:=by have:=F.ok.db;have:=F.n;omega
theorem yBj {W:Wd} (F:Nf W) {n:Nat} (hn:n<5):5≤(Qa W.db n).length:=by
  have hd:=F.ok.ok n (by rw [Hx F];exact hn)
  have:=kV ((Qa W.db n).map (·.o)) 5 0 (List.pairwise_map.2 hd.so) fun i hi=>by
    have:=F.kn n i hn hi
    unfold Vb at this
    cases e:fd (Qa W.db n) (i:Int) with
    |none=>rw [e] at this;dsimp only at this;omega
    |some l =>
     obtain ⟨h1,h2⟩:=(Vj hd.so).1 e
     rw [Int.zero_add]
     exact List.mem_map.2 ⟨l,h1,h2⟩
  rwa [List.length_map] at this
theorem yBk (w:List UInt8) (l:List Int) (hw:∀x∈w,x≠10):(listT w l).count 10=1:=by
  unfold listT
  rw [List.count_append,List.count_append,List.count_eq_zero.2 fun h=>hw 10 h rfl,List.count_eq_zero.2 fun h=>yBa l 10 h rfl]
  rfl
theorem yBl (w:List UInt8) (l:List Int):w.length+2*l.length+1≤(listT w l).length:=by
  unfold listT
  have:=yBb l
  rw [List.length_append,List.length_append,List.length_singleton]
  omega
theorem yBm:∀x∈Em,x≠10:=by decide
theorem MK (db:List (List Ls)) (k:Nat):He db (k+1)=He db k++listT Em ((k:Int)::(Qa db k).map (·.s)):=by
  unfold He
  rw [List.range_succ,List.flatMap_append]
  simp
theorem yBn (db:List (List Ls)) (k:Nat):(He db k).count 10=k:=by
  induction k with
  |zero=>rfl
  |succ k ih=>rw [MK,List.count_append,ih,yBk _ _ yBm]
theorem yBo (db:List (List Ls)) (k:Nat):Me (He db k):=Me.flat fun _ _=>.listT _ _
theorem T6 {W:Wd} (F:Nf W):∀k,k≤5→17*k≤(He W.db k).length
  |0,_=>Nat.zero_le _
  |k+1,hk=>by
   have h1:=T6 F k (by omega)
   have h2:=yBj F (n:=k) (by omega)
   have h3:=yBl Em ((k:Int)::(Qa W.db k).map (·.s))
   rw [List.length_cons,List.length_map,show Em.length=4 from rfl] at h3
   rw [MK,List.length_append]
   omega
def U6 (o s:List UInt8):Prop:=Me o∧s.count 10=5∧∃a,s=a++[10]
theorem JS {W:Wd} (F:Nf W) {o:List UInt8} (ho:Me o):U6 o (He W.db 5):=⟨ho,yBn _ _,by
  rcases yBo W.db 5 with h|h
  ·have:=T6 F 5 (Nat.le_refl _)
   rw [h] at this
   simp at this
  ·exact h⟩
theorem KS {t:List UInt8} (h:t.length≤600):∃W o,Mb rep ord W0 (Zb t)=(W,o)∧Nf W∧Me o∧Mf rep ord t=o++He W.db 5:=by
  have F:=JB rep ord Eo (Zb t)
  refine ⟨_,_,rfl,F,yBe rep ord _ _,?_⟩
  unfold Mf
  rw [if_neg (by omega),Hx F]
theorem lD {t c s:List UInt8} (hC:Vp t c) (hs:∀x∈s,x≠10) (hl:c.length+s.length+1≤600) {W:Wd} {o:List UInt8} (h:Mb rep ord W0 (Zb t)=(W,o)) (F:Nf W):Mf rep ord (c++(s++[10]))=(o++(Vc rep ord W s).2)++He (Vc rep ord W s).1.db 5:=by
  have F2:=S6 rep ord F s
  unfold Mf
  rw [if_neg (by simp only [List.length_append,List.length_singleton];omega),hC.more hs,kX,h,kY,Hx F2]
theorem V6 {t c:List UInt8} (hC:Vp t c) (hl:c.length≤600) {W:Wd} {o:List UInt8} (h:Mb rep ord W0 (Zb t)=(W,o)) (F:Nf W):Mf rep ord c=o++He W.db 5:=by
  unfold Mf
  rw [if_neg (by omega),hC.lines,h,Hx F]
end
end
section
open Go.RowKit
open Go.Lib (itoa decDigits)
def NR (n:Int):Prop:= -1000000≤n∧n≤1000000
theorem Mi {n:Int} (h:NR n):(itoa n).length≤21:=Go.Lib.itoa_length_le n (by have:=h.1;omega) (by have:=h.2;omega)
theorem LS {n:Int} (h:NR n):Br (n,())=some (bs (itoa n),()):=by
  unfold Br
  have h1:=h.1
  have h2:=h.2
  rw [decide_eq_true (show -9223372036854775808≤(n,()).1∧(n,()).1≤9223372036854775807 by dsimp only;omega)]
  rfl
theorem lE {n:Nat} (h:n<256):No [(n:Int)]=bs [UInt8.ofNat n]:=rfl
theorem lF {u k:Nat} (h:u<10 ^ k) (hk:1≤k):(decDigits u).length≤k:=by
  induction k generalizing u with
  |zero=>omega
  |succ k ih =>
   rw [JK]
   split
   ·simp
   ·rcases Nat.eq_zero_or_pos k with e|e
    ·subst e;simp at h;omega
    ·have:=ih (u:=u / 10) (by rw [Nat.pow_succ] at h;omega) e
     rw [List.length_append,List.length_singleton];omega
theorem W6:∀(k u:Nat),u<10 ^ k→u<10 ^ 15→1≤k→Kp k ((u:Int),())=some (bs (decDigits u),())
  |0,u,h,_,h1=>by omega
  |k+1,u,h,hu,_=>by
   show HA (Kp k) ((u:Int),())=_
   unfold HA
   have h15:10 ^ 15=1000000000000000:=by decide
   refine Aa.out (Aa.no (dF (by dsimp only;omega)) (Aa.no (dF (by dsimp only;omega)) ?_))
   by_cases h10:u<10
   ·refine Aa.gd (decide_eq_true (by dsimp only;omega)) (.some ?_)
    have e:Nd .u8 (48+(u:Int))=((48+u:Nat):Int):=by
      show (48+(u:Int)) % 256=_
      omega
    dsimp only
    rw [Ma (by omega) (by omega),e,lE (by omega),JK,if_pos h10]
   ·refine Aa.no (dF (by dsimp only;omega)) ?_
    rcases Nat.eq_zero_or_pos k with e|e
    ·subst e;simp at h;omega
    have ih:=W6 k (u / 10) (by rw [Nat.pow_succ] at h;omega) (by omega) e
    have hl:=lF (u:=u / 10) (k:=15) (by omega) (by omega)
    have e1:Int.tdiv (u:Int) 10=((u / 10:Nat):Int):=by rw [Int.tdiv_eq_ediv_of_nonneg (by omega)];omega
    have e2:Int.tmod (u:Int) 10=((u % 10:Nat):Int):=by rw [Int.tmod_eq_emod_of_nonneg (by omega)];omega
    have e3:Nd .u8 (48+((u % 10:Nat):Int))=((48+u % 10:Nat):Int):=by
      show (48+((u % 10:Nat):Int)) % 256=_
      omega
    have b:PI (Kp k) ((u:Int),())=some (.inl (bs (decDigits u),())):=by
      unfold PI
      dsimp only
      simp only [e1,e2]
      simp (disch:=omega) only [Ma]
      rw [e3,lE (by omega)]
      refine Aa.out (Ka ih ?_)
      dsimp only
      simp only [Tc,Ob]
      refine Aa.gd (decide_eq_true (by rw [List.length_singleton];omega)) (.some ?_)
      rw [JK u,if_neg h10]
    exact Ka b (.some rfl)
theorem Fo {n:Int} (h:NR n):Sk (n,())=some (bs (itoa n),()):=by
  have h1:=h.1
  have h2:=h.2
  have h15:10 ^ 15=1000000000000000:=by decide
  show Kp 25 (n,())=_
  by_cases h0:n<0
  ·obtain ⟨u,rfl⟩:∃u:Nat,n= -(u:Int):=⟨(-n).toNat,by omega⟩
   have ih:=W6 24 u (by omega) (by omega) (by omega)
   have hl:=lF (u:=u) (k:=15) (by omega) (by omega)
   show HA (Kp 24) (-(u:Int),())=_
   unfold HA
   refine Aa.out (Aa.no (dF (by dsimp only;omega)) (Aa.gd (decide_eq_true (by dsimp only;omega)) ?_))
   dsimp only
   rw [Int.neg_neg,Ma (by omega) (by omega)]
   refine Ka ih ?_
   dsimp only
   simp only [Tc,Ob]
   refine Aa.gd (decide_eq_true (by rw [List.length_singleton];omega)) (.some ?_)
   unfold itoa
   rw [if_pos h0]
   simp
  ·obtain ⟨u,rfl⟩:=Int.eq_ofNat_of_zero_le (show 0≤n by omega)
   rw [W6 25 u (by omega) (by omega) (by omega)]
   unfold itoa
   rw [if_neg h0]
   rfl
theorem Zk {l:List Int} (h:∀n∈l,NR n):(blk l).length≤22*l.length:=by
  induction l with
  |nil=>simp [blk]
  |cons a r ih =>
   have h1:=Mi (h a (List.mem_cons_self ..))
   have h2:=ih fun n hn=>h n (List.mem_cons_of_mem _ hn)
   have e:blk (a::r)=(32::itoa a)++blk r:=by simp [blk]
   rw [e,List.length_append,List.length_cons,List.length_cons]
   omega
theorem lG {l:List Int} {k:Nat} (h:k<l.length):blk (l.take (k+1))=blk (l.take k)++(32::itoa (iz l k)):=by
  rw [List.take_add_one,Xg h,kS]
  simp [blk]
theorem lH {l:List Int} (h:∀n∈l,NR n) (k:Nat):∀n∈l.take k,NR n:=fun n hn=>h n (List.mem_of_mem_take hn)
theorem NK {w:List UInt8} {l:List Int} (hw:w.length≤1000000) (hl:l.length≤1000000) (hr:∀n∈l,NR n):Lp (bs w,l,())=some (bs (listT w l),()):=by
  unfold Lp
  simp only [Ta]
  refine Aa.out (Aa.bnd (R:=fun r=>r=.inl (bs (w++blk l),())) ?_ ?_)
  ·refine Aa.count l.length (fun k s=>s=(bs (w++blk (l.take k)),l,(l.length:Int),(k:Int),())) ?_ (Nat.zero_le _) (Ib (by omega)) (by simp [blk])
   rintro k s hk rfl
   by_cases hlt:k<l.length
   ·have hm:=hr _ (List.mem_of_getElem? (Xg hlt))
    have h1:=Mi hm
    have h2:=Zk (lH hr k)
    have h3:(l.take k).length≤k:=List.length_take_le _ _
    simp (disch:=omega) only [YI,Uc,Ua,Ma]
    refine Aa.gd (decide_eq_true (by omega)) (Aa.gd (Ia (by omega) (by omega)) (Ka (LS hm) ?_))
    simp only [Tc,Ob,List.length_append,List.length_singleton]
    refine Aa.gd (decide_eq_true (by omega)) (Aa.gd (decide_eq_true (by omega)) (.some ⟨hlt,?_⟩))
    rw [lG hlt,List.append_assoc];rfl
   ·obtain rfl:k=l.length:=by omega
    unfold YI
    rw [List.take_length]
    exact Aa.no (dF (by first|omega|(dsimp only;omega))) (.some rfl)
  ·rintro _ rfl
   have h2:=Zk hr
   dsimp only
   simp only [Tc,Ob,List.length_append,List.length_singleton]
   refine Aa.gd (decide_eq_true (by omega)) (.some ?_)
   unfold listT
   rw [List.append_assoc]
theorem X6 {l:List Int} (hl:l.length≤1000000) (hr:∀n∈l,NR n):JA (l,())=some (bs (blk l),()):=by
  unfold JA
  refine Aa.out (Aa.bnd (R:=fun r=>r=.inl (bs (blk l),())) ?_ ?_)
  ·refine Aa.count l.length (fun k s=>s=(l,bs (blk (l.take k)),(k:Int),())) ?_ (Nat.zero_le _) (Ib (by omega)) (by simp [blk])
   rintro k s hk rfl
   by_cases hlt:k<l.length
   ·have hm:=hr _ (List.mem_of_getElem? (Xg hlt))
    have h1:=Mi hm
    have h2:=Zk (lH hr k)
    have h3:(l.take k).length≤k:=List.length_take_le _ _
    simp (disch:=omega) only [UI,Uc,Ua,Ma,Ta,Tc,Ob,List.length_append,List.length_singleton]
    refine Aa.gd (decide_eq_true (by omega)) (Aa.gd (decide_eq_true (by omega)) (Aa.gd (Ia (by omega) (by omega)) (Ka (Fo hm) ?_)))
    simp only [Tc,Ob,List.length_append,List.length_singleton]
    refine Aa.gd (decide_eq_true (by omega)) (.some ⟨hlt,?_⟩)
    rw [lG hlt,List.append_assoc];rfl
   ·obtain rfl:k=l.length:=by omega
    simp only [UI,Ta]
    rw [List.take_length]
    exact Aa.no (dF (by omega)) (.some rfl)
  ·rintro _ rfl
   exact .some rfl
end
section
open Go.RowKit
open Go.Lib (itoa decDigits)
theorem lI {x:Int} (h0:0≤x) (h1:x<256):Nd .u8 x=x:=by
  show x % 256=x
  omega
theorem Xp {w:List UInt8} {k:Nat} {x:UInt8} (h:w[k]? =some x):(bs w).get! k=x:=by
  rw [tF,List.getD,h];rfl
theorem Fm {ws:List (List UInt8)} {k:Nat} (h:k<ws.length):Ba .str (ws.map bs) k=bs (ws.getD k []):=by
  have h1:=Px .str (ws.map bs) k (by rw [List.length_map];exact h)
  rw [List.getElem?_map,List.getElem?_eq_getElem h] at h1
  have h2:ws.getD k []=ws[k]:=by simp [List.getD,h]
  rw [h2]
  exact (Option.some.inj h1).symm
theorem MS {w:List UInt8} {k:Nat} {x:UInt8} (h:w[k]? =some x) (hx:x.toNat<48∨57<x.toNat):w.all Lg=false:=by
  refine Bool.eq_false_iff.2 fun e=>?_
  have:=List.all_eq_true.1 e x (List.mem_of_getElem? h)
  simp [Lg] at this
  omega
theorem lJ {w:List UInt8} {k:Nat} {x:UInt8} (h:w[k]? =some x) (hx:48≤x.toNat∧x.toNat≤57) (hd:(w.take k).all Lg=true):(w.take (k+1)).all Lg=true:=by
  rw [List.take_add_one,h,List.all_append,hd]
  simp [Lg,hx]
theorem lK {w:List UInt8} {k:Nat} {x:UInt8} (h:w[k]? =some x):Vh 0 (w.take (k+1))=10*Vh 0 (w.take k)+((x.toNat:Int)-48):=by
  rw [List.take_add_one,h]
  simp [Vh,List.foldl_append]
theorem lL {w:List UInt8} (h:1≤w.length∧w.length≤2) (hd:w.all Lg=true):Kb w=Vh 0 w:=by unfold Kb;rw [if_pos ⟨h.1,h.2,hd⟩]
theorem lM {w:List UInt8} (h:w.all Lg=false):Kb w= -1:=by unfold Kb;rw [if_neg (by rw [h];simp)]
theorem lN {w:List UInt8} (h:¬(1≤w.length∧w.length≤2)):Kb w= -1:=by unfold Kb;rw [if_neg (fun e=>h ⟨e.1,e.2.1⟩)]
theorem Z6 {w:List UInt8} (hw:w.length≤1000000):GA (bs w,())=some (Kb w,()):=by
  unfold GA
  simp only [Ob,Ta]
  refine Aa.out (Ka (Bm _ _ _) ?_)
  dsimp only
  cases hb:Db (w.length:Int) 1 2 with
  |false=>exact Aa.gd rfl (.some (by rw [lN];have:=Zh hb;omega))
  |true =>
   have h2:=De hb
   refine Aa.no rfl (Aa.bnd (R:=fun r=>match r with| .inl x=>x=(Vh 0 w,())∧w.all Lg=true| .inr y=>y=(-1,())∧w.all Lg=false) ?_ ?_)
   ·refine Aa.count w.length (fun k s=>s=(bs w,Vh 0 (w.take k),(w.length:Int),(k:Int),())∧(w.take k).all Lg=true) ?_ (Nat.zero_le _) (Ib (by omega)) ⟨rfl,rfl⟩
    rintro k s hk ⟨rfl,hd⟩
    by_cases hlt:k<w.length
    ·obtain ⟨x,hx⟩:∃x,w[k]? =some x:=⟨_,List.getElem?_eq_getElem hlt⟩
     have h256:=x.toNat_lt
     have hv:=kQ hd (Int.le_refl 0)
     have hv2:=hv.2 (by rw [List.length_take];omega) rfl
     simp (disch:=omega) only [NI,Ua,Ob,Xp hx]
     refine Aa.gd (decide_eq_true (by omega)) (Aa.gd (Ia (by omega) (by omega)) (Aa.ite (fun h=>.some ⟨rfl,?_⟩) (fun h=>Aa.gd (Ia (by omega) (by omega)) (Aa.ite (fun h'=>.some ⟨rfl,?_⟩) (fun h'=>Aa.gd (Ia (by omega) (by omega)) ?_)))))
     ·have h:=oT h
      exact MS hx (by omega)
     ·have h':=oT h'
      exact MS hx (by omega)
     ·have h:=oF h
      have h':=oF h'
      simp (disch:=omega) only [lI,Ma]
      exact .some ⟨hlt,by rw [lK hx];rfl,lJ hx (by omega) hd⟩
    ·obtain rfl:k=w.length:=by omega
     unfold NI
     rw [List.take_length] at hd ⊢
     exact Aa.no (dF (by first|omega|(dsimp only;omega))) (.some ⟨rfl,hd⟩)
   ·rintro (r|r) ⟨rfl,hr⟩
    ·exact .some (by rw [lL (by omega) hr])
    ·exact .some (by rw [lM hr])
theorem NS {ws:List (List UInt8)} (k0:Nat) (hws:ws.length≤1000000) (hw:∀w∈ws,w.length≤1000000):Vv (ws.map bs,(k0:Int),())=some (Kb (ws.getD k0 []),()):=by
  unfold Vv
  simp only [List.length_map,Ta]
  refine Aa.out (Aa.ite (fun h=>.some ?_) (fun h=>?_))
  ·have h:=oT h
   have e:ws.getD k0 []=[]:=by
     rw [List.getD,List.getElem?_eq_none (by omega)];rfl
   rw [e];rfl
  have h:=oF h
  have hk0:k0<ws.length:=by omega
  have hm:ws.getD k0 []∈ws:=by rw [List.getD,List.getElem?_eq_getElem hk0];exact List.getElem_mem hk0
  have hwl:=hw _ hm
  refine Aa.gd (Ia (by omega) (by omega)) ?_
  simp only [Ua,Fm hk0,Ob]
  have hat:∀{τ:Nat},Ba .str (ws.map bs) k0=bs (ws.getD k0 []):=Fm hk0
  generalize hW:ws.getD k0 []=w at *
  refine Ka (Uk _ _ _) ?_
  dsimp only
  cases hb:Db (w.length:Int) 1 2 with
  |false=>exact Aa.gd rfl (.some (by rw [lN];have:=Zh hb;omega))
  |true =>
   have h2:=De hb
   refine Aa.no rfl (Aa.bnd (R:=fun r=>match r with| .inl x=>x=(Vh 0 w,())∧w.all Lg=true| .inr y=>y=(-1,())∧w.all Lg=false) ?_ ?_)
   ·refine Aa.count w.length (fun k s=>s=(ws.map bs,(k0:Int),Vh 0 (w.take k),(k:Int),())∧(w.take k).all Lg=true) ?_ (Nat.zero_le _) (Ib (by omega)) ⟨rfl,rfl⟩
    rintro k s hk ⟨rfl,hd⟩
    by_cases hlt:k<w.length
    ·obtain ⟨x,hx⟩:∃x,w[k]? =some x:=⟨_,List.getElem?_eq_getElem hlt⟩
     have h256:=x.toNat_lt
     have hv:=kQ hd (Int.le_refl 0)
     have hv2:=hv.2 (by rw [List.length_take];omega) rfl
     simp (disch:=omega) only [SI,Ua,Fm hk0,hW,Ob,Xp hx,Ta,List.length_map]
     refine Aa.gd (Ia (by omega) (by omega)) (Aa.gd (decide_eq_true (by omega)) (Aa.gd (Ia (by omega) (by omega)) (Aa.gd (Ia (by omega) (by omega)) (Aa.ite (fun h=>.some ⟨rfl,?_⟩) (fun h=>Aa.gd (Ia (by omega) (by omega)) (Aa.gd (Ia (by omega) (by omega)) (Aa.ite (fun h'=>.some ⟨rfl,?_⟩) (fun h'=>Aa.gd (Ia (by omega) (by omega)) (Aa.gd (Ia (by omega) (by omega)) ?_)))))))))
     ·have h:=oT h
      exact MS hx (by omega)
     ·have h':=oT h'
      exact MS hx (by omega)
     ·have h:=oF h
      have h':=oF h'
      simp (disch:=omega) only [lI,Ma]
      exact .some ⟨hlt,by rw [lK hx];rfl,lJ hx (by omega) hd⟩
    ·obtain rfl:k=w.length:=by omega
     rw [List.take_length] at hd ⊢
     simp (disch:=omega) only [SI,Ua,Fm hk0,hW,Ob,Ta,List.length_map]
     exact Aa.gd (Ia (by omega) (by omega)) (Aa.no (dF (by first|omega|(dsimp only;omega))) (.some ⟨rfl,hd⟩))
   ·rintro (r|r) ⟨rfl,hr⟩
    ·exact .some (by rw [lL (by omega) hr])
    ·exact .some (by rw [lM hr])
theorem zHE (w:List UInt8):SQ (bs w,())=some (Dj w,()):=by
  unfold SQ
  simp only [Ui]
  refine Aa.out ?_
  refine Aa.ite (fun h=>.some ?_) (fun h1=>Aa.ite (fun h=>.some ?_) (fun h2=>Aa.ite (fun h=>.some ?_) (fun h3=>Aa.ite (fun h=>.some ?_) (fun h4=>Aa.ite (fun h=>.some ?_) (fun h5=>Aa.ite (fun h=>.some ?_) (fun h6=>.some ?_))))))
  case refine_7 =>
    have h1:=oF h1
    have h2:=oF h2
    have h3:=oF h3
    have h4:=oF h4
    have h5:=oF h5
    have h6:=oF h6
    unfold Dj
    rw [if_neg h1,if_neg h2,if_neg h3,if_neg h4,if_neg h5,if_neg h6]
  all_goals
    have h:=oT h
    subst h
    rfl
def Ix:List (List UInt8):=[[],[100,111,119,110],[117,112],[100,101,108,105,118,101,114],[108,111,115,101],[116,119,105,99,101],[115,121,110,99]]
theorem yBp {w:List UInt8}:∀k:Nat,1≤k→k<7→Ix.getD k []=w→Dj w=k
  |1,_,_,h=>by subst h;rfl
  |2,_,_,h=>by subst h;rfl
  |3,_,_,h=>by subst h;rfl
  |4,_,_,h=>by subst h;rfl
  |5,_,_,h=>by subst h;rfl
  |6,_,_,h=>by subst h;rfl
  |0,h,_,_=>by omega
  |n+7,_,h,_=>by omega
theorem yBq {w:List UInt8} (h:∀j:Nat,1≤j→j<7→Ix.getD j []≠w):Dj w=0:=by
  unfold Dj
  rw [if_neg (fun e=>h 1 (by omega) (by omega) e.symm),if_neg (fun e=>h 2 (by omega) (by omega) e.symm),if_neg (fun e=>h 3 (by omega) (by omega) e.symm),if_neg (fun e=>h 4 (by omega) (by omega) e.symm),if_neg (fun e=>h 5 (by omega) (by omega) e.symm),if_neg (fun e=>h 6 (by omega) (by omega) e.symm)]
theorem zFK (w:List UInt8):TQ (bs w,())=some (Dj w,()):=by
  have e:TQ (bs w,())=(lp IA Ea (bs w,1,Ix.map bs,())).bind fun r0=>(match r0 with| .inl _=>some (0,())| .inr y1=>some (y1.1,())):=rfl
  rw [e]
  refine Aa.out (Aa.bnd (R:=fun r=>match r with| .inl _=>Dj w=0| .inr y=>y=(Dj w,())) ?_ ?_)
  ·refine Aa.count 7 (fun k s=>s=(bs w,(k:Int),Ix.map bs,())∧1≤k∧∀j:Nat,1≤j→j<k→Ix.getD j []≠w) ?_ (k:=1) (by omega) (Ib (by omega)) ⟨rfl,by omega,fun j h1 h2=>by omega⟩
   rintro k s hk ⟨rfl,h1,hn⟩
   have hlen:Ix.length=7:=rfl
   by_cases hlt:k<7
   ·simp (disch:=omega) only [IA,Ua,Fm (show k<Ix.length by omega),Ta,List.length_map,hlen,Ui,Ma]
    refine Aa.gd (decide_eq_true (by omega)) (Aa.gd (Ia (by omega) (by omega)) (Aa.ite (fun h=>.some ?_) (fun h=>.some ⟨hlt,rfl,by omega,fun j q1 q2=>?_⟩)))
    ·have h:=oT h
     rw [yBp k h1 hlt h]
    ·have h:=oF h
     by_cases e:j<k
     ·exact hn j q1 e
     ·obtain rfl:j=k:=by omega
      exact h
   ·obtain rfl:k=7:=by omega
    simp only [IA,Ta,List.length_map,hlen]
    exact Aa.no (dF (by omega)) (.some (yBq hn))
  ·rintro (r|r) hr
   ·exact .some (by rw [show Dj w=0 from hr])
   ·obtain rfl:=hr
    exact .some rfl
theorem yBr (c:UInt8) (s:List UInt8):Wb c (s++[c])=Wb c s++[[]]:=DN c s []
theorem yBs {c x:UInt8} (hx:x≠c):∀(s:List UInt8) (ps:List (List UInt8)) (q:List UInt8),Wb c s=ps++[q]→Wb c (s++[x])=ps++[q++[x]]:=by
  intro s
  induction s with
  |nil =>
   intro ps q h
   have h:[[]]=ps++[q]:=h
   have e:ps=[]:=by
     cases ps with
     |nil=>rfl
     |cons p ps=>have:=congrArg List.length h;simp at this
   subst e
   simp at h
   subst h
   simp [Wb,hx]
  |cons y r ih =>
   intro ps q h
   rw [List.cons_append,Wb]
   rw [Wb] at h
   by_cases hy:y=c
   ·rw [if_pos hy] at h ⊢
    cases ps with
    |nil =>
     have:=JD c r
     simp at h
     exact absurd h.2 this
    |cons p ps =>
     simp at h
     obtain ⟨rfl,h⟩:=h
     rw [ih ps q h];rfl
   ·rw [if_neg hy] at h ⊢
    cases hr:Wb c r with
    |nil=>exact absurd hr (JD c r)
    |cons h0 t =>
     rw [hr] at h
     dsimp only at h
     cases t with
     |nil =>
      cases ps with
      |nil =>
       simp at h
       subst h
       have:=ih [] h0 (by rw [hr];rfl)
       rw [this];rfl
      |cons p ps=>simp at h
     |cons h1 t =>
      cases ps with
      |nil=>simp at h
      |cons p ps =>
       simp at h
       obtain ⟨rfl,h⟩:=h
       have:=ih (h0::ps) q (by rw [hr,h];rfl)
       rw [this];rfl
theorem lO {t:List UInt8} (c:UInt8) (ht:t.length≤1000000):RI (bs t,(c.toNat:Int),())=some ((Wb c t).map bs,()):=by
  unfold RI
  refine Aa.out (Aa.bnd (R:=fun r=>match r with| .inl x=>∃(f:Nat) (ps:List (List UInt8)),x=(bs t,(f:Int),ps.map bs,())∧f≤t.length∧Wb c t=ps++[t.drop f]| .inr _=>False) ?_ ?_)
  ·refine Aa.count t.length (fun k s=>∃(f:Nat) (ps:List (List UInt8)),s=(bs t,(c.toNat:Int),(f:Int),(k:Int),ps.map bs,())∧f≤k∧Wb c (t.take k)=ps++[(t.take k).drop f]∧ps.length≤k) ?_ (Nat.zero_le _) (Ib (by omega)) ⟨0,[],rfl,Nat.le_refl _,rfl,Nat.le_refl _⟩
   rintro k s hk ⟨f,ps,rfl,hf,hs,hp⟩
   by_cases hlt:k<t.length
   ·obtain ⟨x,hx⟩:∃x,t[k]? =some x:=⟨_,List.getElem?_eq_getElem hlt⟩
    have e1:t.take (k+1)=t.take k++[x]:=by rw [List.take_add_one,hx];rfl
    have e2:(t.drop f).take (k-f)=(t.take k).drop f:=by rw [List.drop_take]
    simp (disch:=omega) only [QI,Ua,Ob,Xp hx,Ta,Ma,ID,List.length_map,List.length_singleton,e2]
    refine Aa.gd (decide_eq_true (by omega)) (Aa.gd (Ia (by omega) (by omega)) (Aa.ite (fun h=>Aa.gd (Uq (by omega) (by omega) (by omega)) (Aa.gd (decide_eq_true (by omega)) (.some ⟨hlt,k+1,ps++[(t.take k).drop f],?_,by omega,?_,by rw [List.length_append,List.length_singleton];omega⟩))) (fun h=>.some ⟨hlt,f,ps,rfl,by omega,?_,by omega⟩)))
    ·rw [List.map_append];rfl
    ·have h:x=c:=by
       have h:=oT h
       exact UInt8.toNat_inj.1 (by omega)
     subst h
     have e3:(t.take k++[x]).drop (k+1)=[]:=List.drop_eq_nil_of_le (by rw [List.length_append,List.length_take,List.length_singleton];omega)
     rw [e1,yBr,hs,e3]
    ·have h:x≠c:=fun e=>by
       have h:=oF h
       subst e
       exact h rfl
     rw [e1,yBs h _ _ _ hs,List.drop_append_of_le_length (by rw [List.length_take,Nat.min_eq_left (by omega)];exact hf)]
   ·obtain rfl:k=t.length:=by omega
    simp only [QI,Ob,Ta]
    rw [List.take_length] at hs
    exact Aa.no (dF (by omega)) (.some ⟨f,ps,rfl,hf,hs⟩)
  ·rintro (r|r) hr
   case inr=>exact hr.elim
   obtain ⟨f,ps,rfl,hf,hs⟩:=hr
   have hl:=LD c t
   rw [hs,List.length_append,List.length_singleton] at hl
   have e2:(t.drop f).take (t.length-f)=t.drop f:=List.take_of_length_le (by simp)
   simp only [Ua,Ob,ID,e2,List.length_map,List.length_singleton]
   refine Aa.gd (Uq (by omega) (by omega) (by omega)) (Aa.gd (decide_eq_true (by omega)) (.some ?_))
   rw [hs,List.map_append];rfl
end
section
open Go.RowKit
section
variable {N K:Nat} {ls:List Lk}
theorem yBt (g:GV N ls) {x y:Nat} {c:Int} (h:lc ls x y=some c):Sf ls x y c:=by
  have o:=TJ g (m:=(x:Int)) (x:=(y:Int)) (by rw [h];rfl)
  rw [I6 g]
  rcases Nat.lt_trichotomy x y with e|e|e
  ·exact .inl ⟨e,by omega,h⟩
  ·omega
  ·exact .inr ⟨e,by omega,by rw [FD];exact h⟩
theorem yBu (g:GV N ls) {f t:Nat} (hne:f≠t) (hd:0≤iz (Ub N ls t) f) {x:Int}:x∈Pd N ls f t↔∃(j:Nat) (c:Int),x=j∧j<N∧lc ls f j=some c∧iz (Ub N ls t) j+c=iz (Ub N ls t) f:=by
  unfold Pd
  rw [if_neg (by rintro (e|e);exact hne e;omega),List.mem_filter,Zi]
  constructor
  ·rintro ⟨⟨j,hj,rfl,hs⟩,hb⟩
   obtain ⟨c,hc⟩:=Option.isSome_iff_exists.1 hs
   unfold Xk at hb
   rw [Ua,hc] at hb
   exact ⟨j,c,rfl,hj,hc,oT hb⟩
  ·rintro ⟨j,c,rfl,hj,hc,hb⟩
   refine ⟨⟨j,hj,rfl,by rw [hc];rfl⟩,?_⟩
   unfold Xk
   rw [Ua,hc]
   exact decide_eq_true hb
theorem yBv (f t:Nat):(Pd N ls f t).Pairwise (·<·):=by
  unfold Pd
  split
  ·exact List.Pairwise.nil
  ·exact (SJ ls f N).filter _
def Jx (ls:List Lk) (d:List Int) (f n:Nat):Bool:=decide (0≤Bc ls f n)&&(decide (0≤iz d n)&&decide (iz d n+(lk ls (Bc ls f n).toNat).c=iz d f))
def Ni (N:Nat) (ls:List Lk) (d:List Int) (f:Nat) (k:Nat):List Int:=((List.range k).filter (Jx ls d f)).map fun n:Nat=>(n:Int)
theorem yBw (d:List Int) (f k:Nat):Ni N ls d f (k+1)=Ni N ls d f k++if Jx ls d f k=true then [(k:Int)] else []:=by
  unfold Ni
  rw [List.range_succ,List.filter_append,List.map_append]
  congr 1
  by_cases h:Jx ls d f k=true<;>simp [h]
theorem yBx (d:List Int) (f k:Nat):(Ni N ls d f k).length≤k:=by
  unfold Ni
  rw [List.length_map]
  exact Nat.le_trans (List.length_filter_le _ _) (by simp)
theorem A7 (g:GV N ls) {f n:Nat} {d:List Int}:Jx ls d f n=true↔∃c,lc ls f n=some c∧1≤c∧0≤iz d n∧iz d n+c=iz d f:=by
  unfold Jx
  simp only [Bool.and_eq_true,decide_eq_true_eq]
  constructor
  ·rintro ⟨h1,h2,h3⟩
   have:(lc ls (f:Int) (n:Int)).isSome=true:=by rw [GD];exact decide_eq_true h1
   obtain ⟨c,hc⟩:=Option.isSome_iff_exists.1 this
   have:=(Bp hc).2.2
   rw [this] at h3
   exact ⟨c,hc,(Ry g hc).1,h2,h3⟩
  ·rintro ⟨c,hc,h1,h2,h3⟩
   refine ⟨(Bp hc).1,h2,?_⟩
   rw [(Bp hc).2.2]
   exact h3
theorem yBy (g:GV N ls) {f t:Nat} (hf:f<N) (ht:t<N):Ni N ls (Ub N ls t) f N=Pd N ls f t:=by
  by_cases h0:f=t∨iz (Ub N ls t) f<0
  ·unfold Pd Ni
   rw [if_pos h0,List.map_eq_nil_iff,List.filter_eq_nil_iff]
   intro n hn hb
   obtain ⟨c,h1,h2,h3,h4⟩:=(A7 g).1 hb
   rcases h0 with rfl|h0
   ·have:=Qy g hf (Wk.nil (ls:=ls) (u:=f))
    omega
   ·omega
  ·have hne:f≠t:=fun e=>h0 (.inl e)
   have hd:0≤iz (Ub N ls t) f:=by
     have:¬iz (Ub N ls t) f<0:=fun e=>h0 (.inr e)
     omega
   have ZM:(Ni N ls (Ub N ls t) f N).Pairwise (·<·):=by
     unfold Ni
     refine List.pairwise_map.2 ?_
     exact (List.pairwise_lt_range.filter _).imp fun h=>by exact_mod_cast h
   refine QR ZM (yBv f t) fun x=>?_
   rw [yBu g hne hd]
   unfold Ni
   rw [List.mem_map]
   constructor
   ·rintro ⟨n,hn,rfl⟩
    obtain ⟨h1,h2⟩:=List.mem_filter.1 hn
    obtain ⟨c,q1,q2,q3,q4⟩:=(A7 g).1 h2
    exact ⟨n,c,rfl,List.mem_range.1 h1,q1,q4⟩
   ·rintro ⟨j,c,rfl,hj,hc,he⟩
    obtain ⟨k,wf⟩:=YM g ht hf hd
    have a:=yBt g hc
    have dj:=Qy g ht (wf.step a)
    exact ⟨j,List.mem_filter.2 ⟨List.mem_range.2 hj,(A7 g).2 ⟨c,hc,(Ry g hc).1,dj.1,he⟩⟩,rfl⟩
end
end
section
open Go.RowKit
section
variable {N:Nat} {ls:List Lk}
theorem yBz (ls:List Lk) (a b:Int):Bc ls a b<ls.length:=by
  rcases Wq ls a b with ⟨h,_⟩|⟨k,h,hk,_⟩<;>omega
theorem lP (g:GV N ls) {f t:Nat} (hf:f<N) (ht:t<N):ZP ((N:Int),ls,(f:Int),(t:Int),())=some (Pd N ls f t,()):=by
  have h8:=g.2.1
  have h14:=g.2.2.1
  have fl:Cb ls:=(show Cb ls by unfold Cb;omega)
  rw [←yBy g hf ht]
  unfold ZP
  rw [RJ g ht]
  dsimp only [Option.bind_some]
  have bd:=fun j=>Dm g t j
  have hdl:=Nl N ls t
  generalize Ub N ls t=d at *
  refine Aa.out (Aa.bnd (R:=fun r=>r=.inl (Ni N ls d f N,())) ?_ ?_)
  ·refine Aa.count N (fun k s=>s=((f:Int),(k:Int),(N:Int),ls,Ni N ls d f k,d,())) ?_ (Nat.zero_le _) (Ib (by omega)) rfl
   rintro k s hk rfl
   have hle:=yBx (N:=N) (ls:=ls) d f k
   by_cases hlt:k<N
   ·have bk:=bd k
    have lf:=yBz ls (f:Int) (k:Int)
    have hs:∀b,Jx ls d f k=b→Ni N ls d f (k+1)=Ni N ls d f k++if b=true then [(k:Int)] else []:=fun b e=>by rw [yBw,e]
    simp (disch:=omega) only [GH,Uc,Ef,Ua,Ma,QJ _ _ _ _ fl,Option.bind_some,List.length_singleton]
    unfold Jx at hs
    refine Aa.gd (decide_eq_true (by omega)) (Aa.ite (fun h1=>?_) (fun h1=>?_))
    ·have h1':=oT h1
     obtain ⟨x,y,_,_,_,_,hc1,hc20⟩:=g.at_ (show (Bc ls f k).toNat<ls.length by omega)
     have bf:=bd f
     refine Aa.gd (Ia (by omega) (by omega)) (Aa.ite (fun h2=>?_) (fun h2=>?_))
     ·refine Aa.gd (Ia (by omega) (by omega)) (Aa.gd (Ia (by omega) (by omega)) (Aa.gd (Ia (by omega) (by omega)) ?_))
      rw [Ma (by omega) (by omega)]
      refine Aa.ite (fun h3=>Aa.gd (decide_eq_true (by omega)) (.some ⟨hlt,?_⟩)) (fun h3=>.some ⟨hlt,?_⟩)
      ·rw [hs true (by rw [h1,h2,h3];rfl)];rfl
      ·rw [hs false (by rw [h1,h2,h3];rfl),if_neg (by simp),List.append_nil];rfl
     ·exact .some ⟨hlt,by rw [hs false (by rw [h1,h2];rfl),if_neg (by simp),List.append_nil];rfl⟩
    ·exact .some ⟨hlt,by rw [hs false (by rw [h1];rfl),if_neg (by simp),List.append_nil];rfl⟩
   ·obtain rfl:k=N:=by omega
    unfold GH
    exact Aa.no (dF (by first|omega|(dsimp only;omega))) (.some rfl)
  ·rintro _ rfl
   exact .some rfl
end
end
section
open Go.RowKit
section
variable {N:Nat} {ls:List Lk}
theorem yBA {t:Nat} (g:GV N ls) (ht:t<N) (k:Nat):∀(f:Nat) (acc:List Int) (m:Nat),f<N→0≤iz (Ub N ls t) f→iz (Ub N ls t) f≤k→k<m→acc.length+k≤30000000→Aa (lp Ip m ((f:Int),(t:Int),(N:Int),ls,acc++[(f:Int)],())) fun r=>match r with| .inl x=>x=(acc++Li N ls t k f,())| .inr _=>False:=by
  induction k with
  |zero =>
   intro f acc m hf hd hk hm hl
   obtain ⟨m,rfl⟩:∃m',m=m'+1:=⟨m-1,by omega⟩
   have hft:f=t:=by
     by_cases e:f=t
     ·exact e
     ·obtain ⟨x,_,_,_,h4,h5,_⟩:=ZR g hf ht e hd
      omega
   refine Gh ?_
   unfold Ip
   exact Aa.no (by simp [hft]) (.some rfl)
  |succ k ih =>
   intro f acc m hf hd hk hm hl
   obtain ⟨m,rfl⟩:∃m',m=m'+1:=⟨m-1,by omega⟩
   refine Gh ?_
   unfold Ip
   by_cases e:f=t
   ·refine Aa.no (by simp [e]) (.some ?_)
    unfold Li
    rw [if_pos e]
   ·obtain ⟨x,h1,h2,h3,h4,h5,_⟩:=ZR g hf ht e hd
    refine Aa.gd (by simp;omega) (Ka (lP g hf ht) ?_)
    have h2':Ba .int (Pd N ls f t) (Int.toNat 0)=(x:Int):=(Uc _ _).trans h2
    dsimp only
    rw [h2',Ta]
    refine Aa.no (dF (by omega)) (Aa.gd (Ia (by omega) (by omega)) (Aa.gd (decide_eq_true (by simp only [List.length_append,List.length_singleton];omega)) (.some ?_)))
    have:=ih x (acc++[(f:Int)]) m h1 h4 (by omega) (by omega) (by simp only [List.length_append,List.length_singleton];omega)
    refine this.mono ?_
    rintro (r|r) hr
    ·dsimp only at hr ⊢
     rw [hr,Li,if_neg e,h2,Ua,List.append_assoc];rfl
    ·exact hr
theorem lQ (g:GV N ls) {f t:Nat} (hf:f<N) (ht:t<N):JH ((N:Int),ls,(f:Int),(t:Int),())=some (Yk N ls f t,()):=by
  have bd:=Dm g t f
  unfold JH Yk
  by_cases hc:iz (Ub N ls t) f<0
  ·rw [if_pos hc]
   have hft:f≠t:=fun e=>by
     subst e
     have:=Qy g hf (Wk.nil (ls:=ls) (u:=f))
     omega
   have h0:Pd N ls f t=[]:=by unfold Pd;rw [if_pos (.inr hc)]
   have e1:lp Ip Ea ((f:Int),(t:Int),(N:Int),ls,[(f:Int)],())=some (.inr ([],())):=by
     have ef:Ea=18446744073709551615+1:=rfl
     rw [ef]
     refine Aa.out (Gh ?_)
     unfold Ip
     refine Aa.gd (by simp;omega) (Ka (lP g hf ht) ?_)
     dsimp only
     rw [h0]
     exact Aa.gd rfl (.some rfl)
   rw [e1];rfl
  ·rw [if_neg hc]
   refine Aa.out (Aa.bnd (yBA g ht (iz (Ub N ls t) f).toNat f [] Ea hf (by omega) (by omega) (Ib (by omega)) (by simp;omega)) ?_)
   rintro (r|r) hr
   case inr=>exact hr.elim
   obtain rfl:=hr
   exact .some rfl
theorem yBB (f t:Nat) (hN:0<N):(iz (Pd N ls f t) 0).toNat<N:=by
  rcases Nat.eq_zero_or_pos (Pd N ls f t).length with h|h
  ·rw [List.length_eq_zero_iff.1 h];exact hN
  ·have hm:=List.mem_of_getElem? (Xg h)
   unfold Pd at hm
   split at hm
   ·simp at hm
   ·obtain ⟨j,hj,e,_⟩:=Zi.1 (List.mem_filter.1 hm).1
    unfold Pd
    rw [if_neg (by assumption)]
    rw [e];exact hj
theorem lR (t:Nat):∀k f,f<N→∀x∈Li N ls t k f,∃j:Nat,x=j∧j<N
  |0,f,hf,x,hx=>by
   simp [Li] at hx
   exact ⟨f,hx,hf⟩
  |k+1,f,hf,x,hx=>by
   unfold Li at hx
   split at hx
   ·simp at hx;exact ⟨f,hx,hf⟩
   ·rcases List.mem_cons.1 hx with rfl|hx
    ·exact ⟨f,rfl,hf⟩
    ·exact lR t k _ (yBB f t (by omega)) x hx
theorem lS {f t:Nat} (hf:f<N):∀x∈Yk N ls f t,∃j:Nat,x=j∧j<N:=fun x hx=>by
  unfold Yk at hx
  split at hx
  ·simp at hx
  ·exact lR t _ f hf x hx
theorem yBC (g:GV N ls) (f t:Nat):(Yk N ls f t).length≤5101:=by
  have bd:=Dm g t f
  unfold Yk
  split
  ·simp
  ·have:=kM N ls t (iz (Ub N ls t) f).toNat f
   omega
end
theorem OK {n:Int} {ls:List Lk} {a b:Int} (h:(gv n ls&&(Db a 0 (n-1)&&Db b 0 (n-1)))=true):∃N f t:Nat,n=N∧a=f∧b=t∧GV N ls∧f<N∧t<N∧Ej (n,ls) a b=Yk N ls f t:=by
  have h0:=h
  simp only [Bool.and_eq_true] at h
  obtain ⟨N,rfl,g⟩:=Zn h.1
  have h1:=De h.2.1
  have h2:=De h.2.2
  obtain ⟨f,rfl⟩:=Int.eq_ofNat_of_zero_le h1.1
  obtain ⟨t,rfl⟩:=Int.eq_ofNat_of_zero_le h2.1
  exact ⟨N,f,t,rfl,rfl,rfl,g,by omega,by omega,by unfold Ej;dsimp only;rw [if_pos h0];rfl⟩
theorem PK {n:Int} {ls:List Lk} {a b:Int} (h:(gv n ls&&(Db a 0 (n-1)&&Db b 0 (n-1)))=false):Ej (n,ls) a b=[]:=by unfold Ej;dsimp only;rw [if_neg (by rw [h];simp)]
theorem lT (n a b:Int) {ls:List Lk} (fl:Cb ls):Ds (n,ls,a,b,())=some (Ej (n,ls) a b,()):=by
  cases h:gv n ls&&(Db a 0 (n-1)&&Db b 0 (n-1)) with
  |true =>
   obtain ⟨N,f,t,rfl,rfl,rfl,g,hf,ht,e⟩:=OK h
   rw [e,zDX g hf ht]
  |false =>
   rw [PK h]
   unfold Ds
   refine Aa.out (Ka (Zw _ _ _ fl) (Aa.ite (fun _=>.some rfl) (fun h1=>?_)))
   have h1:(gv n ls&&Db a 0 (n-1))=true:=by simpa using h1
   refine Ka (Zw _ _ _ fl) (Aa.ite (fun _=>.some rfl) (fun h2=>?_))
   have h2:(gv n ls&&Db b 0 (n-1))=true:=by simpa using h2
   simp only [Bool.and_eq_true] at h1 h2
   rw [h1.1,h1.2,h2.2] at h
   cases h
theorem zGh (n a b:Int) {ls:List Lk} (fl:Cb ls):EQ (n,ls,a,b,())=some (Ej (n,ls) a b,()):=by
  have e2:XP (n,ls,a,b,())=some (gv n ls&&(Db a 0 (n-1)&&Db b 0 (n-1)),()):=by
    unfold XP
    refine Aa.out (Ka (Yw n ls fl) ?_)
    cases hg:gv n ls with
    |false=>exact Aa.no rfl (.some rfl)
    |true =>
     obtain ⟨N,rfl,g⟩:=Zn hg
     have h8:=g.2.1
     refine Aa.gd rfl (Ka (Qp (N:Int) a ls (by omega) (by omega)) ?_)
     cases ha:Db a 0 ((N:Int)-1) with
     |false=>exact Aa.no rfl (.some rfl)
     |true=>exact Aa.gd rfl (Ka (Qp (N:Int) b ls (by omega) (by omega)) (.some rfl))
  unfold EQ
  refine Aa.out (Ka e2 ?_)
  cases h:gv n ls&&(Db a 0 (n-1)&&Db b 0 (n-1)) with
  |false=>rw [PK h];exact Aa.gd rfl (.some rfl)
  |true =>
   obtain ⟨N,f,t,rfl,rfl,rfl,g,hf,ht,e⟩:=OK h
   rw [e]
   exact Aa.no rfl (Ka (lQ g hf ht) (.some rfl))
theorem lU (n a b:Int) (ls:List Lk):(Ej (n,ls) a b).length≤5101:=by
  cases h:gv n ls&&(Db a 0 (n-1)&&Db b 0 (n-1)) with
  |false=>rw [PK h];simp
  |true =>
   obtain ⟨N,f,t,rfl,rfl,rfl,g,hf,ht,e⟩:=OK h
   rw [e];exact yBC g f t
theorem yBD (n a b:Int) (ls:List Lk):∀x∈Ej (n,ls) a b,0≤x∧x<8:=by
  cases h:gv n ls&&(Db a 0 (n-1)&&Db b 0 (n-1)) with
  |false=>rw [PK h];simp
  |true =>
   obtain ⟨N,f,t,rfl,rfl,rfl,g,hf,ht,e⟩:=OK h
   rw [e]
   intro x hx
   have h8:=g.2.1
   obtain ⟨j,rfl,hj⟩:=lS hf x hx
   omega
end
section
open Go.RowKit
def QK (d1 d2:List Int) (l:Lk) (t:Nat):Bool:=if iz d1 t<0 then false else if iz d1 l.a.toNat<0 then false else if iz d1 l.a.toNat+l.c+iz d2 l.b.toNat=iz d1 t then true else decide (iz d1 l.b.toNat+l.c+iz d2 l.a.toNat=iz d1 t)
def RK (N:Nat) (ls:List Lk) (k f t:Nat):Bool:=decide (0≤iz (Ub N ls f) t)&&!QK (Ub N ls f) (Ub N ls t) (lk ls k) t
theorem lV {N:Nat} {ls:List Lk} (g:GV N ls) {k:Nat} (hk:k<ls.length):∃a b:Nat,(lk ls k).a=a∧(lk ls k).b=b∧a<N∧b<N∧1≤(lk ls k).c∧(lk ls k).c≤20:=by
  have h:=(Zm.1 g).2.2.2.1 (lk ls k) (List.mem_of_getElem? (MB hk))
  obtain ⟨h1,h2,h3,h4,h5⟩:=h
  exact ⟨(lk ls k).a.toNat,(lk ls k).b.toNat,by omega,by omega,by omega,by omega,h4,h5⟩
section
variable {N:Nat} {ls:List Lk}
theorem zF0 (g:GV N ls) {f t k:Nat} (hf:f<N) (ht:t<N) (hk:k<ls.length):EH ((N:Int),ls,(f:Int),(t:Int),(k:Int),())=some (QK (Ub N ls f) (Ub N ls t) (lk ls k) t,()):=by
  obtain ⟨a,b,ea,eb,ha,hb,h1,h20⟩:=lV g hk
  have l1:=Nl N ls f
  have l2:=Nl N ls t
  have b1:=Dm g f
  have b2:=Dm g t
  unfold EH RP
  rw [XA g hf,XA g ht]
  simp only [Ef,Ua,ea,eb,Option.bind_some,Uc]
  generalize hd1:Ub N ls f=d1 at *
  generalize hd2:Ub N ls t=d2 at *
  refine Aa.out (Aa.bnd (Aa.gd (Ia (by omega) (by omega)) (.some (Q:=fun r=>r=Sum.inl ((t:Int),d1,d2,(a:Int),(b:Int),(lk ls k).c,())) rfl)) ?_)
  rintro _ rfl
  unfold QK
  rw [ea,eb]
  simp only [Ua]
  have:=b1 a
  have:=b2 b
  have:=b1 t
  have:=b1 b
  have:=b2 a
  simp (disch:=omega) only [Ma]
  refine Aa.gd (Ia (by omega) (by omega)) (Aa.ite (fun h=>?_) (fun h=>?_))
  ·rw [if_pos (oT h)];exact .some rfl
  rw [if_neg (oF h)]
  refine Aa.gd (Ia (by omega) (by omega)) (Aa.ite (fun h=>?_) (fun h=>?_))
  ·rw [if_pos (oT h)];exact .some rfl
  rw [if_neg (oF h)]
  refine Aa.gd (Ia (by omega) (by omega)) (Aa.gd (Ia (by omega) (by omega)) (Aa.gd (Ia (by omega) (by omega)) (Aa.ite (fun h=>?_) (fun h=>?_))))
  ·rw [if_pos (oT h)];exact .some rfl
  rw [if_neg (oF h)]
  exact Aa.gd (Ia (by omega) (by omega)) (Aa.gd (Ia (by omega) (by omega)) (Aa.gd (Ia (by omega) (by omega)) (.some rfl)))
theorem zFs (g:GV N ls) {f t k:Nat} (hf:f<N) (ht:t<N) (hk:k<ls.length):FH ((N:Int),ls,(f:Int),(t:Int),(k:Int),())=some (QK (Ub N ls f) (Ub N ls t) (lk ls k) t,()):=by
  obtain ⟨a,b,ea,eb,ha,hb,h1,h20⟩:=lV g hk
  have l1:=Nl N ls f
  have l2:=Nl N ls t
  have b1:=Dm g f
  have b2:=Dm g t
  unfold FH
  rw [RJ g hf,RJ g ht]
  simp only [Ef,Ua,ea,eb,Option.bind_some,Uc]
  generalize hd1:Ub N ls f=d1 at *
  generalize hd2:Ub N ls t=d2 at *
  refine Aa.out (Aa.gd (Ia (by omega) (by omega)) ?_)
  unfold QK
  rw [ea,eb]
  simp only [Ua]
  have:=b1 a
  have:=b2 b
  have:=b1 t
  have:=b1 b
  have:=b2 a
  simp (disch:=omega) only [Ma]
  refine Aa.gd (Ia (by omega) (by omega)) (Aa.ite (fun h=>?_) (fun h=>?_))
  ·rw [if_pos (oT h)];exact .some rfl
  rw [if_neg (oF h)]
  refine Aa.gd (Ia (by omega) (by omega)) (Aa.ite (fun h=>?_) (fun h=>?_))
  ·rw [if_pos (oT h)];exact .some rfl
  rw [if_neg (oF h)]
  refine Aa.gd (Ia (by omega) (by omega)) (Aa.gd (Ia (by omega) (by omega)) (Aa.gd (Ia (by omega) (by omega)) (Aa.ite (fun h=>?_) (fun h=>?_))))
  ·rw [if_pos (oT h)];exact .some rfl
  rw [if_neg (oF h)]
  exact Aa.gd (Ia (by omega) (by omega)) (Aa.gd (Ia (by omega) (by omega)) (Aa.gd (Ia (by omega) (by omega)) (.some rfl)))
theorem zE9 (g:GV N ls) {f t k:Nat} (hf:f<N) (ht:t<N) (hk:k<ls.length):TP ((N:Int),ls,(f:Int),(k:Int),(t:Int),())=some (RK N ls k f t,()):=by
  have l1:=Nl N ls f
  unfold TP RK
  rw [XA g hf]
  simp only [Option.bind_some,Uc,Ua]
  refine Aa.out (Aa.gd (Ia (by omega) (by omega)) (Aa.ite (fun h=>?_) (fun h=>?_)))
  ·rw [h,zF0 g hf ht hk];exact .some rfl
  ·rw [h];exact .some rfl
theorem zFo (g:GV N ls) {f t k:Nat} (hf:f<N) (ht:t<N) (hk:k<ls.length):DQ ((N:Int),ls,(f:Int),(t:Int),(k:Int),())=some (RK N ls k f t,()):=by
  have l1:=Nl N ls f
  unfold DQ RK
  rw [RJ g hf]
  simp only [Option.bind_some,Uc,Ua]
  refine Aa.out (Aa.gd (Ia (by omega) (by omega)) (Aa.ite (fun h=>?_) (fun h=>?_)))
  ·rw [h,zFs g hf ht hk];exact .some rfl
  ·rw [h];exact .some rfl
theorem yBE (g:GV N ls) (k:Nat):GV N (ls.eraseIdx k):=by
  have h:=Zm.1 g
  have hs:=List.eraseIdx_sublist ls k
  exact Zm.2 ⟨h.1,h.2.1,Nat.le_trans hs.length_le h.2.2.1,fun l hl=>h.2.2.2.1 l (hs.subset hl),h.2.2.2.2.sublist hs⟩
theorem lW (n k:Int) {ls:List Lk} (fl:Cb ls):DH (n,ls,k,())=some (gv n ls&&Db k 0 ((ls.length:Int)-1),()):=by
  unfold DH
  refine Aa.out (Ka (I5 n ls fl) ?_)
  cases hg:gv n ls with
  |false=>exact .some rfl
  |true =>
   dsimp only
   rw [Ta,Ma (by omega) (by unfold Cb at fl;omega)]
   exact Aa.gd rfl (Ka (Bm _ _ _) (.some rfl))
theorem B7 (n k:Int) {ls:List Lk} (fl:Cb ls):QP (n,ls,k,())=some (gv n ls&&Db k 0 ((ls.length:Int)-1),()):=by
  unfold QP
  refine Aa.out (Ka (Yw n ls fl) ?_)
  cases hg:gv n ls with
  |false=>exact .some rfl
  |true =>
   dsimp only
   rw [Ta,Ma (by omega) (by unfold Cb at fl;omega)]
   exact Aa.gd rfl (Ka (Uk _ _ _) (.some rfl))
theorem yBF {k:Nat} (hk:k<ls.length):ls.eraseIdx k=ls.take k++ls.drop (k+1):=List.eraseIdx_eq_take_drop_succ ls k
theorem zFn (g:GV N ls) {k:Nat} (hk:k<ls.length):SP ((N:Int),ls,(k:Int),())=some ((N:Int),ls.eraseIdx k,()):=by
  have h14:=g.2.2.1
  unfold SP
  dsimp only
  rw [Ma (by omega) (by omega)]
  have e1:List.take (Int.toNat (k:Int)-Int.toNat (0:Int)) (List.drop (Int.toNat (0:Int)) ls)=ls.take k:=by simp
  have e2:List.take (Int.toNat (ls.length:Int)-Int.toNat ((k:Int)+1)) (List.drop (Int.toNat ((k:Int)+1)) ls)=ls.drop (k+1):=by
    have:Int.toNat ((k:Int)+1)=k+1:=by omega
    rw [this,Ua]
    exact List.take_of_length_le (by simp)
  rw [e1,e2,List.nil_append,yBF hk]
  refine Aa.out (Aa.gd (by unfold Bf;simp;omega) (Aa.gd (by unfold Bf;simp;omega) (Aa.gd (decide_eq_true (by simp;omega)) (Aa.gd (decide_eq_true (by simp;omega)) (.some rfl)))))
theorem zDT (n k:Int) {ls:List Lk} (fl:Cb ls):WP (n,ls,k,())=some (if (gv n ls&&Db k 0 ((ls.length:Int)-1))=true then (n,true,ls.eraseIdx k.toNat,()) else (0,false,[],())):=by
  unfold WP
  refine Aa.out (Ka (lW n k fl) ?_)
  cases h:gv n ls&&Db k 0 ((ls.length:Int)-1) with
  |false=>rw [if_neg (by simp)];exact .some rfl
  |true =>
   rw [if_pos rfl]
   simp only [Bool.and_eq_true] at h
   have h2:=De h.2
   obtain ⟨k,rfl⟩:=Int.eq_ofNat_of_zero_le h2.1
   have hk:k<ls.length:=by omega
   obtain ⟨N,rfl,g⟩:=Zn h.1
   have h14:=g.2.2.1
   have e1:VP ((N:Int),ls,(k:Int),())=some ((N:Int),ls.eraseIdx k,()):=by
     unfold VP
     refine Aa.out (Aa.bnd (R:=fun r=>match r with| .inl x=>x.2.1=(N:Int)∧x.2.2.2.1=ls.eraseIdx k| .inr _=>False) ?_ ?_)
     ·refine Aa.count ls.length (fun i s=>s=((k:Int),ls,(ls.length:Int),(i:Int),(0:Int),(N:Int),[],(ls.take i).eraseIdx k,())) ?_ (Nat.zero_le _) (Ib fl) (by simp [Ta])
      rintro i s hi rfl
      have hle:((ls.take i).eraseIdx k).length≤14:=Nat.le_trans (List.eraseIdx_sublist _ _).length_le (by rw [List.length_take];omega)
      unfold UP
      simp only [Ef,Ua]
      by_cases hlt:i<ls.length
      ·have e0:∀a b c:Int,PP ((i:Int),a,b,c,(k:Int),())=some (!decide (i=k),()):=fun a b c=>by
         unfold PP
         simp only [Option.some.injEq,Prod.mk.injEq,and_true]
         by_cases e:i=k
         ·simp [e]
         ·have:¬((i:Int)=k):=by omega
          simp [e,this]
       have e3:ls.take (i+1)=ls.take i++[lk ls i]:=by rw [List.take_add_one,MB hlt];rfl
       refine Aa.gd (decide_eq_true (by omega)) (Aa.gd (Ia (by omega) (by omega)) (Ka (e0 _ _ _) (Aa.ite (fun e=>?_) (fun e=>?_))))
       ·have e:i≠k:=by simpa using e
        refine Aa.gd (decide_eq_true (by simp only [List.length_singleton];omega)) (.some ?_)
        dsimp only
        refine ⟨hlt,?_⟩
        rw [Ma (by omega) (by omega),e3]
        have e4:(ls.take i++[lk ls i]).eraseIdx k=(ls.take i).eraseIdx k++[lk ls i]:=by
          by_cases hki:k<i
          ·rw [List.eraseIdx_append_of_lt_length (by rw [List.length_take];omega)]
          ·rw [List.eraseIdx_of_length_le (by simp [List.length_take];omega),List.eraseIdx_of_length_le (by rw [List.length_take];omega)]
        rw [e4];rfl
       ·have e:i=k:=by simpa using e
        refine .some ?_
        dsimp only
        refine ⟨hlt,?_⟩
        rw [Ma (by omega) (by omega),e3]
        have e4:(ls.take i++[lk ls i]).eraseIdx k=(ls.take i).eraseIdx k:=by
          subst e
          have hl:(ls.take i).length=i:=by rw [List.length_take];omega
          rw [List.eraseIdx_append_of_length_le (by omega),hl,Nat.sub_self,List.eraseIdx_of_length_le (l:=ls.take i) (by omega)]
          simp
        rw [e4];rfl
      ·have:i=ls.length:=by omega
       refine Aa.no (dF (by omega)) (.some ⟨rfl,?_⟩)
       dsimp only
       rw [this,List.take_length]
     ·rintro (⟨x,y,z,w,u⟩|r) hr
      ·obtain ⟨rfl,rfl⟩:=hr
       exact .some rfl
      ·exact hr.elim
   exact Aa.no rfl (Ka e1 (.some rfl))
def Xh (n:Int) (ls:List Lk) (a k b:Int):List Int:=if (gv n ls&&Db k 0 ((ls.length:Int)-1))=true then Ej (n,ls.eraseIdx k.toNat) a b else []
theorem zDV (n a k b:Int) {ls:List Lk} (fl:Cb ls):YP (n,ls,a,k,b,())=some (Xh n ls a k b,()):=by
  unfold YP Xh
  refine Aa.out (Ka (zDT n k fl) ?_)
  by_cases h:(gv n ls&&Db k 0 ((ls.length:Int)-1))=true
  ·rw [if_pos h,if_pos h]
   refine Aa.no rfl (Ka (lT _ _ _ (Nat.le_trans (List.eraseIdx_sublist _ _).length_le fl)) (.some rfl))
  ·rw [if_neg h,if_neg h]
   exact Aa.gd rfl (.some rfl)
theorem zGe (n a k b:Int) {ls:List Lk} (fl:Cb ls):FQ (n,ls,a,k,b,())=some (Xh n ls a k b,()):=by
  have e0:Mu (n,ls,a,k,b,())=some ((gv n ls&&Db k 0 ((ls.length:Int)-1))&&(Db a 0 (n-1)&&Db b 0 (n-1)),()):=by
    unfold Mu
    refine Aa.out (Ka (B7 n k fl) ?_)
    cases h:gv n ls&&Db k 0 ((ls.length:Int)-1) with
    |false=>exact .some rfl
    |true =>
     simp only [Bool.and_eq_true] at h
     obtain ⟨N,rfl,g⟩:=Zn h.1
     have h8:=g.2.1
     refine Aa.gd rfl (Ka (Qp _ _ _ (by omega) (by omega)) ?_)
     dsimp only
     cases Db a 0 ((N:Int)-1) with
     |false=>exact .some rfl
     |true=>exact Aa.gd rfl (Ka (Qp _ _ _ (by omega) (by omega)) (.some rfl))
  unfold FQ
  refine Aa.out (Ka e0 ?_)
  dsimp only
  unfold Xh Ej
  cases h:gv n ls&&Db k 0 ((ls.length:Int)-1) with
  |false=>rw [if_neg (by simp)];exact .some rfl
  |true =>
   rw [if_pos rfl]
   have h0:=h
   simp only [Bool.and_eq_true] at h
   have h2:=De h.2
   obtain ⟨k,rfl⟩:=Int.eq_ofNat_of_zero_le h2.1
   obtain ⟨N,rfl,g⟩:=Zn h.1
   have gE:=yBE g k
   have hg:gv (N:Int) (ls.eraseIdx (Int.toNat (k:Int)))=true:=decide_eq_true gE
   rw [hg]
   cases h3:Db a 0 ((N:Int)-1)&&Db b 0 ((N:Int)-1) with
   |false=>exact .some rfl
   |true =>
    simp only [Bool.and_eq_true] at h3
    have ha:=De h3.1
    have hb:=De h3.2
    obtain ⟨f,rfl⟩:=Int.eq_ofNat_of_zero_le ha.1
    obtain ⟨t,rfl⟩:=Int.eq_ofNat_of_zero_le hb.1
    refine Aa.no rfl (Ka (zFn g (by omega)) (Ka (lQ gE (by omega) (by omega)) (.some rfl)))
end
end
end Go.Proofs.YtjffopopheiinaaGreatDoor
