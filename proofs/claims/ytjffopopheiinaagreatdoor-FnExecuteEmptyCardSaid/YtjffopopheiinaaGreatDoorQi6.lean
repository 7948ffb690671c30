/- Part 6 of the proof: Pe1 Pe2 Pz Px Pw1 Pw Pw2 Pw3 Pw4 Pw5 Pg Pw6 Ph Pw8 Pw9 Pe3 Pe4 Pe5 Pe6 Pe7 Pe8 Pe9 PeA PeB SD Pc SU SF Pnh PeF PeG Pu2 Pu3 Pu4 Pu5 Ph2 Ph3 Pu6 Pu7 Pu8 Pu9. -/
import Derived.Lib.ItoaLen
import Derived.Test.YtjffopopheiinaaGreatDoorQi5
set_option linter.unusedSimpArgs false
set_option linter.unusedVariables false
set_option maxRecDepth 100000
namespace Go.Proofs.YtjffopopheiinaaGreatDoor
section
open Go.RowKit
instance:DecidableEq En:=fun a b=>decidable_of_iff (a.n=b.n∧a.c=b.c) ⟨fun ⟨h1,h2⟩=>by cases a;cases b;simp_all,fun h=>by subst h;exact ⟨rfl,rfl⟩⟩
instance:DecidableEq Ls:=fun a b=>decidable_of_iff (a.o=b.o∧a.s=b.s∧a.e=b.e) ⟨fun ⟨h1,h2,h3⟩=>by cases a;cases b;simp_all,fun h=>by subst h;exact ⟨rfl,rfl,rfl⟩⟩
abbrev Sm {α:Type} (l:List α):Prop:=l.length≤16000000
def Ze (db:List Ls):Prop:=Sm db∧∀l∈db,Sm l.e
theorem Ze.fits {db:List Ls} (h:Ze db):Bb db:=by have:=h.1;unfold Bb;unfold Sm at this;omega
theorem Ze.fe {db:List Ls} (h:Ze db):∀l∈db,Bb l.e:=fun l hl=>by have:=h.2 l hl;unfold Bb;unfold Sm at this;omega
theorem Uh {db:List Ls} {k:Nat} (h:k<db.length):Ib db k∈db:=by rw [Ld h];exact List.getElem_mem h
theorem GR {db:List Ls} {k:Nat} (h:k<db.length):db.take k++[⟨(Ib db k).o,(Ib db k).s,(Ib db k).e⟩]=db.take (k+1):=by
  rw [List.take_add_one,List.getElem?_eq_getElem h,Ld h];rfl
theorem HR (o s:Int) (es:List En) (h:Sm es):Ki (o,s,es,())=some (o,s,es,()):=by
  unfold Ki KW
  rw [decide_eq_true (by unfold Sm at h;dsimp only;omega)]
  rfl
theorem BB (o s:Int) (es:List En) (h:Sm es):Aj (o,s,es,())=some (o,s,es,()):=by
  unfold Aj
  rw [decide_eq_true (by unfold Sm at h;simp;omega)]
  rfl
theorem O4 (db:List Ls) (h:Ze db):Gz (db,())=some (db,()):=by
  have h1:=h.1
  unfold Sm at h1
  unfold Gz
  refine Ba.out (Ba.bnd (R:=fun r=>match r with| .inl x=>x=(db,())| .inr _=>False) ?_ ?_)
  ·refine Ba.count db.length (fun k t=>t=(db,(db.length:Int),(k:Int),db.take k,())) ?_ (Nat.zero_le _) (Jb (by omega)) (by simp [Ta])
   rintro k t hk rfl
   by_cases hlt:k<db.length
   ·simp (disch:=omega) only [WF,Tg,Wa,Na,HR _ _ _ (h.2 _ (Uh hlt)),Option.bind_some]
    refine Ba.gd (decide_eq_true (by omega)) (Ba.gd (Ia (by omega) (by omega)) (Ba.gd (decide_eq_true (by simp;omega)) (.some ⟨hlt,?_⟩)))
    rw [GR hlt]
    rfl
   ·obtain rfl:k=db.length:=by omega
    unfold WF
    simp only [dF (show ¬(db.length:Int)<db.length by omega),cond_false,List.take_length]
    exact .some rfl
  ·rintro (r|r) hr
   case inr=>exact hr.elim
   obtain rfl:=hr
   exact .some rfl
theorem VJ (db:List Ls) (h:Ze db):Tl (db,())=some (db,()):=by
  have h1:=h.1
  unfold Sm at h1
  unfold Tl
  refine Ba.out (Ba.bnd (R:=fun r=>match r with| .inl x=>x=(db,())| .inr _=>False) ?_ ?_)
  ·refine Ba.count db.length (fun k t=>t=(db,(k:Int),db.take k,())) ?_ (Nat.zero_le _) (Jb (by omega)) (by simp [Ta])
   rintro k t hk rfl
   by_cases hlt:k<db.length
   ·simp (disch:=omega) only [PF,Tg,Wa,Na,Ta,BB _ _ _ (h.2 _ (Uh hlt)),Option.bind_some]
    refine Ba.gd (decide_eq_true (by omega)) (Ba.gd (Ia (by omega) (by omega)) (Ba.gd (decide_eq_true (by simp;omega)) (.some ⟨hlt,?_⟩)))
    rw [GR hlt]
    rfl
   ·obtain rfl:k=db.length:=by omega
    unfold PF
    simp only [Ta,dF (show ¬(db.length:Int)<db.length by omega),cond_false,List.take_length]
    exact .some rfl
  ·rintro (r|r) hr
   case inr=>exact hr.elim
   obtain rfl:=hr
   exact .some rfl
theorem eqI (a b c d:Int):Re [a,b] [c,d]=decide ((⟨a,b⟩:En)=⟨c,d⟩):=by
  by_cases h1:a=c<;>by_cases h2:b=d<;>simp [Re,h1,h2]
theorem yAk {es fs:List En} (hl:es.length=fs.length) (h:∀i,i<es.length→en es i=en fs i):es=fs:=by
  refine List.ext_getElem hl fun i h1 h2=>?_
  have:=h i h1
  rwa [Rj h1,Rj h2] at this
theorem yAl (e:En):(⟨e.n,e.c⟩:En)=e:=rfl
theorem iJ (a b:Ls) (ha:Bb a.e) (hb:Bb b.e):QF (a.o,a.s,a.e,b.o,b.s,b.e,())=some (decide (a=b),()):=by
  unfold QF
  cases a with|mk o s es =>
  cases b with|mk o' s' fs =>
  dsimp only at *
  by_cases h1:o=o'
  case neg=>simp [h1]
  by_cases h2:s=s'
  case neg=>simp [h2]
  subst h1 h2
  by_cases hl:es.length=fs.length
  case neg =>
    have:es≠fs:=fun e=>hl (by rw [e])
    have hl2:¬(es.length:Int)=fs.length:=by omega
    simp [Ta,hl2,this]
  simp only [Ta,hl,decide_true,Bool.not_true,cond_false]
  refine Ba.out (Ba.bnd (R:=fun r=>match r with| .inl _=>es=fs| .inr y=>y=(false,())∧es≠fs) ?_ ?_)
  ·refine Ba.count es.length (fun k t=>t=((k:Int),o,s,es,o,s,fs,())∧∀i,i<k→en es i=en fs i) ?_ (Nat.zero_le _) (Jb (by omega)) ⟨rfl,fun i hi=>by omega⟩
   rintro k t hk ⟨rfl,hok⟩
   simp (disch:=omega) only [PO,YA,Wa,Na,Ta,eqI,yAl]
   refine Ba.ite (fun h=>?_) (fun h=>?_)
   ·have h:=oT h
    refine Ba.gd (Ia (by omega) (by omega)) (Ba.gd (Ia (by omega) (by omega)) (Ba.ite (fun h2=>?_) (fun h2=>?_)))
    ·have h2:¬en es k=en fs k:=by simpa using h2
     exact .some ⟨rfl,fun e=>h2 (by rw [e])⟩
    ·have h2:en es k=en fs k:=by simpa using h2
     exact .some ⟨by omega,rfl,fun i hi=>by
       by_cases e:i<k
       ·exact hok i e
       ·obtain rfl:i=k:=by omega
        exact h2⟩
   ·have h:=oF h
    exact .some (yAk hl fun i hi=>hok i (by omega))
  ·rintro (r|r) hr
   ·have hr:es=fs:=hr
    exact .some (by rw [decide_eq_true (by rw [hr])])
   ·obtain ⟨rfl,hr⟩:=hr
    exact .some (by rw [dF (by intro e;injection e with _ _ e;exact hr e)])
theorem Ze.put {db:List Ls} (h:Ze db) {l:Ls} (hl:Sm l.e) (hs:db.length≤1000000):Ze (Mc db l)∧(Mc db l).length≤db.length+1:=by
  have hlen:(Uj db l).length≤db.length+1:=by
    unfold Uj
    have h1:∀ds:List Ls,(ds.filter fun x=>decide (x.o<l.o)).length+(ds.filter fun x=>decide (l.o<x.o)).length≤ds.length:=fun ds=>by
      induction ds with
      |nil=>simp
      |cons x r ih =>
       simp only [List.filter_cons]
       by_cases a:x.o<l.o
       ·have b:¬l.o<x.o:=by omega
        simp [a,b];omega
       ·by_cases b:l.o<x.o
        ·simp [a,b];omega
        ·simp [a,b];omega
    have:=h1 db
    simp only [List.length_append,List.length_cons]
    omega
  unfold Mc
  split
  ·refine ⟨⟨by unfold Sm;omega,fun x hx=>?_⟩,hlen⟩
   rcases Vj.1 hx with rfl|⟨hx,_⟩
   ·exact hl
   ·exact h.2 x hx
  ·exact ⟨h,by omega⟩
theorem P4 (db:List Ls) (l:Ls) (hs:Jc db) (h:Ze db) (hl:Sm l.e) (hn:db.length≤1000000):Mp (db,l.o,l.s,l.e,())=some (Je db l,Mc db l,()):=by
  have hsrt:Vk db:=Mi.2 hs
  obtain ⟨i,hi,hp⟩:=hO db l.o hsrt (by omega)
  unfold Mp
  dsimp only
  simp only [O4 db h,Option.bind_some,hp,HR _ _ _ hl]
  have ins:Tj db l.o i=false→Nr ((i:Int),db,[l],())=some (Uj db l,()):=fun hh=>by
    have:=hi.1
    unfold Nr
    simp only [GN]
    rw [decide_eq_true (by omega)]
    simp only [cond_true,Int.toNat_natCast]
    rw [yAh hs hi hh]
  cases hh:Tj db l.o i with
  |false =>
   have hfd:fd db l.o=none:=by
     refine UJ.2 fun x hx e=>?_
     obtain ⟨j,hj,rfl⟩:=List.getElem_of_mem hx
     rw [←Ld hj] at e
     have h1:i≤j:=by
       rcases Nat.lt_or_ge j i with h1|h1
       ·have:=hi.2.1 j h1;omega
       ·exact h1
     have h2:i<db.length:=by omega
     have h3:=hi.2.2 i (Nat.le_refl _) h2
     have h4:(Ib db i).o≤(Ib db j).o:=by
       rcases Nat.eq_or_lt_of_le h1 with h1|h1
       ·subst h1;omega
       ·have:=hsrt i j h1 hj;omega
     have:Tj db l.o i=true:=decide_eq_true ⟨h2,by omega⟩
     rw [hh] at this;cases this
   have hc:Je db l=0:=by unfold Je;rw [hfd]
   simp only [cond_false,ins hh,Option.bind_some]
   unfold Mc
   rw [hc,if_pos rfl]
  |true =>
   obtain ⟨h2,h3⟩:=oT hh
   have hfd:fd db l.o=some (Ib db i):=(Xk hs).2 ⟨Uh h2,h3⟩
   have hin:Ca (i:Int) db.length=true:=Ia (by omega) (by omega)
   simp only [cond_true,hin,Tg,Wa]
   have hpc:Je db l=if (Ib db i).s=l.s then 1 else if l.s<(Ib db i).s then 2 else 0:=by unfold Je;rw [hfd]
   unfold Mc
   rw [hpc]
   by_cases e1:(Ib db i).s=l.s
   ·simp [e1]
   ·by_cases e2:l.s<(Ib db i).s
    ·simp [e1,e2]
    ·have:=yAg hs h2 h3
     simp [e1,e2,←this]
end
section
open Go.RowKit
theorem iK {db:List Ls} {k:Nat} (p:Ls→Bool) (h:k<db.length):(db.take (k+1)).filter p=(db.take k).filter p++if p (Ib db k) then [Ib db k] else []:=by
  rw [List.take_add_one,List.getElem?_eq_getElem h,List.filter_append,Ld h]
  cases hp:p db[k]<;>simp [hp]
theorem yAm {db:List Ls} (p:Ls→Bool) (k:Nat):((db.take k).filter p).length≤db.length:=Nat.le_trans (List.length_filter_le _ _) (by rw [List.length_take];omega)
theorem iL {db:List Ls} (hs:Vk db) {o:Int} {k:Nat} (h1:∀i,i<k→(Ib db i).o<o) (h2:k<db.length→¬(Ib db k).o<o) (hk:k≤db.length):db.take k=db.filter fun x=>decide (x.o<o):=by
  have e1:(db.take k).filter (fun x=>decide (x.o<o))=db.take k:=by
    refine List.filter_eq_self.2 fun x hx=>?_
    obtain ⟨i,hi,rfl⟩:=List.getElem_of_mem hx
    have hi':i<k:=by rw [List.length_take] at hi;omega
    have:=h1 i hi'
    rw [Ld (by omega)] at this
    simpa [List.getElem_take] using this
  have e2:(db.drop k).filter (fun x=>decide (x.o<o))=[]:=by
    refine List.filter_eq_nil_iff.2 fun x hx=>?_
    obtain ⟨i,hi,rfl⟩:=List.getElem_of_mem hx
    have hi':k+i<db.length:=by rw [List.length_drop] at hi;omega
    have h3:=h2 (by omega)
    have h4:(Ib db k).o≤(Ib db (k+i)).o:=by
      rcases Nat.eq_zero_or_pos i with e|e
      ·subst e;exact Int.le_refl _
      ·have:=hs k (k+i) (by omega) hi';omega
    rw [Ld hi'] at h4
    simp only [List.getElem_drop,decide_eq_true_eq]
    omega
  calc db.take k=(db.take k).filter (fun x=>decide (x.o<o))++(db.drop k).filter (fun x=>decide (x.o<o)):=by rw [e1,e2,List.append_nil]
    _=db.filter fun x=>decide (x.o<o):=by rw [←List.filter_append,List.take_append_drop]
theorem yAn (db:List Ls) (l:Ls) (hs:Vk db) (h:Ze db):Ba (lp Ul Ea (db,0,l.o,l.s,l.e,[],())) fun r=>match r with| .inl x=>x=(db,l.o,l.s,l.e,db.filter (fun x=>decide (x.o<l.o)),())| .inr _=>False:=by
  have h1:=h.1
  unfold Sm at h1
  refine Ba.count db.length (fun k t=>t=(db,(k:Int),l.o,l.s,l.e,db.take k,())∧∀i,i<k→(Ib db i).o<l.o) ?_ (Nat.zero_le _) (Jb (by omega)) ⟨by simp,fun i hi=>by omega⟩
  rintro k t hk ⟨rfl,hok⟩
  by_cases hlt:k<db.length
  ·simp (disch:=omega) only [Ul,Tg,Wa,Na,Ta,BB _ _ _ (h.2 _ (Uh hlt)),Option.bind_some]
   refine Ba.gd (decide_eq_true (by omega)) (Ba.gd (Ia (by omega) (by omega)) (Ba.ite (fun hc=>?_) (fun hc=>?_)))
   ·have hc:=oT hc
    refine Ba.gd (Ia (by omega) (by omega)) (Ba.gd (decide_eq_true (by simp;omega)) (.some ⟨hlt,?_,fun i hi=>?_⟩))
    ·rw [GR hlt];rfl
    ·by_cases e:i<k
     ·exact hok i e
     ·obtain rfl:i=k:=by omega
      exact hc
   ·have hc:=oF hc
    exact .some (by rw [iL hs hok (fun _=>hc) hk])
  ·obtain rfl:k=db.length:=by omega
   unfold Ul
   simp only [Ta,dF (show ¬(db.length:Int)<db.length by omega),cond_false]
   exact .some (by rw [iL hs hok (fun h=>by omega) hk])
theorem yAo (db:List Ls) (l:Ls) (out:List Ls) (h:Ze db) (ho:out.length≤17000000):Ba (lp Vl Ea (db,0,l.o,l.s,l.e,out,())) fun r=>match r with| .inl x=>x=(out++db.filter (fun x=>decide (l.o<x.o)),())| .inr _=>False:=by
  have h1:=h.1
  unfold Sm at h1
  refine Ba.count db.length (fun k t=>t=(db,(k:Int),l.o,l.s,l.e,out++(db.take k).filter (fun x=>decide (l.o<x.o)),())) ?_ (Nat.zero_le _) (Jb (by omega)) (by simp)
  rintro k t hk rfl
  by_cases hlt:k<db.length
  ·have hfl:=yAm (db:=db) (fun x=>decide (l.o<x.o)) k
   simp (disch:=omega) only [Vl,Tg,Wa,Na,Ta,BB _ _ _ (h.2 _ (Uh hlt)),Option.bind_some]
   refine Ba.gd (decide_eq_true (by omega)) (Ba.gd (Ia (by omega) (by omega)) (Ba.ite (fun hc=>?_) (fun hc=>?_)))
   ·have hc':=oT hc
    refine Ba.gd (Ia (by omega) (by omega)) (Ba.gd (decide_eq_true (by simp only [List.length_append,List.length_singleton];omega)) (.some ⟨hlt,?_⟩))
    rw [iK _ hlt,if_pos hc,←List.append_assoc]
    rfl
   ·refine .some ⟨hlt,?_⟩
    rw [iK _ hlt,if_neg (by rw [hc];simp),List.append_nil]
    rfl
  ·obtain rfl:k=db.length:=by omega
   unfold Vl
   simp only [Ta,dF (show ¬(db.length:Int)<db.length by omega),cond_false,List.take_length]
   exact .some rfl
theorem Q4 (db:List Ls) (l:Ls) (hs:Jc db) (h:Ze db) (hl:Sm l.e):Hz (db,l.o,l.s,l.e,())=some (Je db l,Mc db l,()):=by
  have hsrt:Vk db:=Mi.2 hs
  have h1:=h.1
  unfold Sm at h1
  have hfin:Ba ((lp Ul Ea (db,0,l.o,l.s,l.e,[],())).bind fun r3=>(match r3 with| .inl x4=>(Aj ((x4.2.1,(x4.2.2.1,(x4.2.2.2.1,()))))).bind fun r5=>(bif decide (((List.length x4.2.2.2.2.1+List.length ([(Ls.mk r5.1 r5.2.1 r5.2.2.1)]))≤(33554432:Nat))) then (lp Vl Ea ((x4.1,((0:Int),(x4.2.1,(x4.2.2.1,(x4.2.2.2.1,((x4.2.2.2.2.1++[(Ls.mk r5.1 r5.2.1 r5.2.2.1)]),())))))))).bind fun r6=>(match r6 with| .inl x7=>some (((0:Int),x7.1,()))| .inr _=>none) else none)| .inr _=>none)) (·=(0,Uj db l,())):=by
    refine Ba.bnd (yAn db l hsrt h) ?_
    rintro (r|r) hr
    case inr=>exact hr.elim
    obtain rfl:=hr
    dsimp only
    rw [BB _ _ _ hl]
    have hfl:(db.filter fun x=>decide (x.o<l.o)).length≤db.length:=List.length_filter_le _ _
    simp only [Option.bind_some]
    refine Ba.gd (decide_eq_true (by simp only [List.length_singleton];omega)) (Ba.bnd (yAo db l _ h (by simp only [List.length_append,List.length_singleton];omega)) ?_)
    rintro (r|r) hr
    case inr=>exact hr.elim
    obtain rfl:=hr
    refine .some ?_
    unfold Uj
    simp
  have hfin:=hfin.out
  unfold Hz
  dsimp only
  rw [F4 db l.o h.fits]
  unfold Mc Je
  cases hfd:fd db l.o with
  |none =>
   simp only [Option.bind_some,cond_false]
   exact hfin
  |some old =>
   simp only [Option.bind_some,cond_true,VJ db h]
   by_cases e1:old.s=l.s
   ·simp only [e1,decide_true,cond_true]
    simp
   ·by_cases e2:l.s<old.s
    ·simp only [e1,e2,decide_true,decide_false,cond_true,cond_false]
     simp
    ·simp only [e1,e2,decide_false,cond_false]
     exact hfin
theorem zF3 (db:List Ls) (hl:Bb db) (he:∀l∈db,Bb l.e):FO (db,())=some (Sh db,()):=by
  unfold FO
  refine Ba.out (Ba.bnd (R:=fun r=>match r with| .inl _=>Sh db=true| .inr y=>y.1=false∧Sh db=false) ?_ ?_)
  ·refine Ba.count db.length (fun k t=>t=(db,(k:Int),())∧∀i,i<k→Gf (Ib db i)∧(0<i→(Ib db (i-1)).o<(Ib db i).o)) ?_ (Nat.zero_le _) (Jb (by omega)) ⟨by simp,fun i hi=>by omega⟩
   rintro k t hk ⟨rfl,hok⟩
   by_cases hlt:k<db.length
   ·have hf:Bb (Ib db k).e:=he _ (by rw [Ld hlt];exact List.getElem_mem hlt)
    simp (disch:=omega) only [ME,Tg,Wa,WA,Na,Ta,hI _ _ _ hf,Option.bind_some]
    repeat' (first
      |refine Ba.some ?_
      |fail
      |(refine Ba.gd (by first|exact Ia (by omega) (by omega)|(simp (disch:=omega) only [Na];exact Ia (by omega) (by omega))) ?_)
      |(refine Ba.ite (fun h=>?_) (fun h=>?_)<;>try simp only [decide_eq_true_eq,decide_eq_false_iff_not,Bool.not_eq_true',Bool.not_eq_false',Hh,Ih,Bool.and_eq_true,Bool.or_eq_true,Bool.and_eq_false_iff,Bool.or_eq_false_iff,El] at h))
    all_goals try dsimp only
    all_goals first
      |(refine ⟨rfl,dF fun g=>?_⟩
        have:=g k hlt
        first|exact oF (by assumption) this.1|omega)
      |(refine ⟨by omega,rfl,fun i hi=>?_⟩
        by_cases e:i<k
        ·exact hok i e
        ·obtain rfl:i=k:=by omega
         exact ⟨oT (by assumption),fun _=>by omega⟩)
      |omega
   ·obtain rfl:k=db.length:=by omega
    unfold ME
    simp only [Ta,dF (show ¬(db.length:Int)<db.length by omega),cond_false]
    exact .some (decide_eq_true hok)
  ·rintro (r|r) hr
   ·have hr:Sh db=true:=hr
    exact .some (by first | rw [hr] | exact Prod.ext hr rfl)
   ·obtain ⟨b,u⟩:=r
    have hr:b=false∧Sh db=false:=hr
    exact .some (by first | rw [hr.1,hr.2] | exact Prod.ext hr.1 (Prod.ext hr.2 rfl))
theorem R4 {a b:List Ls} {k:Nat} (h:k<b.length):Wc a (b.take (k+1))=Mc (Wc a (b.take k)) (Ib b k):=by
  unfold Wc
  rw [List.take_add_one,List.getElem?_eq_getElem h,Ld h,List.foldl_append]
  rfl
theorem S4 {a b:List Ls} (ha:Ze a) (hb:Ze b) (hla:a.length≤500000) (hlb:b.length≤400000):∀k,k≤b.length→Ze (Wc a (b.take k))∧(Wc a (b.take k)).length≤a.length+k
  |0,_=>⟨by simpa [Wc] using ha,by simp [Wc]⟩
  |k+1,hk=>by
   obtain ⟨i1,i2⟩:=S4 ha hb hla hlb k (by omega)
   rw [R4 (by omega)]
   have:=i1.put (hb.2 _ (Uh (show k<b.length by omega))) (by omega)
   exact ⟨this.1,by omega⟩
theorem zFX (a b:List Ls) (hs:Jc a) (ha:Ze a) (hb:Ze b) (hla:a.length≤500000) (hlb:b.length≤400000):Ge (a,b,())=some (Wc a b,()):=by
  unfold Ge
  simp only [O4 a ha,Option.bind_some,Ta]
  refine Ba.out (Ba.bnd (R:=fun r=>match r with| .inl x=>x=(Wc a b,())| .inr _=>False) ?_ ?_)
  ·refine Ba.count b.length (fun k t=>t=(b,(b.length:Int),(k:Int),Wc a (b.take k),())) ?_ (Nat.zero_le _) (Jb (by omega)) (by simp [Wc])
   rintro k t hk rfl
   by_cases hlt:k<b.length
   ·obtain ⟨i1,i2⟩:=S4 ha hb hla hlb k hk
    simp (disch:=omega) only [KG,Tg,Wa,Na,P4 _ _ (ER hs _) i1 (hb.2 _ (Uh hlt)) (show (Wc a (b.take k)).length≤1000000 by omega),Option.bind_some]
    refine Ba.gd (decide_eq_true (by omega)) (Ba.gd (Ia (by omega) (by omega)) (.some ⟨hlt,?_⟩))
    rw [R4 hlt]
    rfl
   ·obtain rfl:k=b.length:=by omega
    unfold KG
    simp only [dF (show ¬(b.length:Int)<b.length by omega),cond_false,List.take_length]
    exact .some rfl
  ·rintro (r|r) hr
   case inr=>exact hr.elim
   obtain rfl:=hr
   exact .some rfl
theorem zFa (a b:List Ls) (hs:Jc a) (ha:Ze a) (hb:Ze b) (hla:a.length≤500000) (hlb:b.length≤400000):BP (a,b,())=some (Wc a b,()):=by
  unfold BP
  simp only [VJ a ha,Option.bind_some,Ta]
  refine Ba.out (Ba.bnd (R:=fun r=>match r with| .inl x=>x=(Wc a b,())| .inr _=>False) ?_ ?_)
  ·refine Ba.count b.length (fun k t=>t=(b,(k:Int),Wc a (b.take k),())) ?_ (Nat.zero_le _) (Jb (by omega)) (by simp [Wc])
   rintro k t hk rfl
   by_cases hlt:k<b.length
   ·obtain ⟨i1,i2⟩:=S4 ha hb hla hlb k hk
    simp (disch:=omega) only [OG,Tg,Wa,Na,Ta,Q4 _ _ (ER hs _) i1 (hb.2 _ (Uh hlt)),Option.bind_some]
    refine Ba.gd (decide_eq_true (by omega)) (Ba.gd (Ia (by omega) (by omega)) (.some ⟨hlt,?_⟩))
    rw [R4 hlt]
    rfl
   ·obtain rfl:k=b.length:=by omega
    unfold OG
    simp only [Ta,dF (show ¬(b.length:Int)<b.length by omega),cond_false,List.take_length]
    exact .some rfl
  ·rintro (r|r) hr
   case inr=>exact hr.elim
   obtain rfl:=hr
   exact .some rfl
end
section
open Go.RowKit
def sy (f:Nat→Int) (e:Nat×Nat):Nat→Int:=fun n=>if n=e.1∨n=e.2 then max (f e.1) (f e.2) else f n
def Jn (ls:List Lk) (u v:Nat):Prop:=∃k s,Wk ls u k v s
theorem Jn.refl (ls:List Lk) (u:Nat):Jn ls u u:=⟨0,0,.nil⟩
theorem Jn.symm {ls:List Lk} {u v:Nat} (h:Jn ls u v):Jn ls v u:=by
  obtain ⟨k,s,w⟩:=h
  exact ⟨k,s,w.symm⟩
theorem Jn.trans {ls:List Lk} {u v x:Nat} (h:Jn ls u v) (h':Jn ls v x):Jn ls u x:=by
  obtain ⟨k,s,w⟩:=h
  obtain ⟨k',s',w'⟩:=h'
  exact ⟨_,_,w.append w'⟩
section
variable {N:Nat} {ls:List Lk}
end
end
section
open Go.RowKit
structure CB (D:Nat→List Ls):Prop where
  srt:∀n,Jc (D n)
  pos:∀n,∀l∈D n,0≤l.s
  agr:∀m n,yAj (D m) (D n)
def DB (D:Nat→List Ls) (e:Nat×Nat):Nat→List Ls:=fun n=>if n=e.1∨n=e.2 then Wc (D e.1) (D e.2) else D n
theorem T4 {D:Nat→List Ls} {e:Nat×Nat} {n:Nat} {x:Ls} (h:x∈DB D e n):∃m,x∈D m:=by
  unfold DB at h
  split at h
  ·rcases iH h with h|h
   ·exact ⟨_,h⟩
   ·exact ⟨_,h⟩
  ·exact ⟨n,h⟩
theorem CB.sy {D:Nat→List Ls} (K:CB D) (e:Nat×Nat):CB (DB D e):=by
  refine ⟨fun n=>?_,fun n l hl=>?_,fun m n x hx y hy=>?_⟩
  ·unfold DB
   split
   ·exact ER (K.srt _) _
   ·exact K.srt n
  ·obtain ⟨m,hm⟩:=T4 hl
   exact K.pos m l hm
  ·obtain ⟨i,hi⟩:=T4 hx
   obtain ⟨j,hj⟩:=T4 hy
   exact K.agr i j x hi y hj
theorem CB.seq {D:Nat→List Ls} (K:CB D) (e:Nat×Nat) (o:Int) (n:Nat):Ub (DB D e n) o=Go.Proofs.YtjffopopheiinaaGreatDoor.sy (fun n=>Ub (D n) o) e n:=by
  unfold DB Go.Proofs.YtjffopopheiinaaGreatDoor.sy
  split
  ·exact N4 (K.srt _) (K.srt _) (K.pos _) (K.pos _) o
  ·rfl
section
variable {N:Nat} {ls:List Lk} {D:Nat→List Ls}
end
end
section
open Go.RowKit
structure Wd where
  n:Int
  ls:List Lk
  up:List Bool
  sq:List Int
  db:List (List Ls)
  net:List Pk
def Qa (db:List (List Ls)) (i:Nat):List Ls:=db.getD i []
def Vh (ls:List Lk) (up:List Bool) (k:Nat):List Lk:=((List.range k).filter fun i=>up.getD i false).map (lk ls)
def Kc (ls:List Lk) (up:List Bool):List Lk:=Vh ls up ls.length
theorem IR (ls:List Lk) (up:List Bool) (k:Nat):Vh ls up (k+1)=if up.getD k false then Vh ls up k++[lk ls k] else Vh ls up k:=by
  unfold Vh
  rw [List.range_succ,List.filter_append,List.map_append,List.filter_cons]
  cases h:up.getD k false with
  |false=>simp
  |true=>rfl
theorem JR {ls:List Lk} {up:List Bool} {l:Lk}:l∈Kc ls up↔∃i,i<ls.length∧up.getD i false=true∧l=lk ls i:=by
  unfold Kc Vh
  rw [List.mem_map]
  constructor
  ·rintro ⟨i,hi,rfl⟩
   obtain ⟨h1,h2⟩:=List.mem_filter.1 hi
   exact ⟨i,List.mem_range.1 h1,h2,rfl⟩
  ·rintro ⟨i,h1,h2,rfl⟩
   exact ⟨i,List.mem_filter.2 ⟨List.mem_range.2 h1,h2⟩,rfl⟩
theorem yAp (ls:List Lk) (up:List Bool):(Kc ls up).length≤ls.length:=by
  unfold Kc Vh
  rw [List.length_map]
  exact Nat.le_trans (List.length_filter_le _ _) (by simp)
theorem Vp {n:Int} {ls:List Lk} (g:GV n ls) (up:List Bool):GV n (Kc ls up):=by
  refine Gn.2 ⟨g.1,g.2.1,Nat.le_trans (yAp ls up) g.2.2.1,fun l hl=>?_,?_⟩
  ·obtain ⟨i,hi,_,rfl⟩:=JR.1 hl
   exact g.ok (Wi hi)
  ·unfold Kc Vh
   rw [List.pairwise_map]
   refine List.Pairwise.imp_of_mem ?_ (List.Pairwise.filter _ (List.pairwise_lt_range (n:=ls.length)))
   intro a b ha hb hab
   have h1:=List.mem_range.1 (List.mem_filter.1 ha).1
   have h2:=List.mem_range.1 (List.mem_filter.1 hb).1
   have:=List.pairwise_iff_getElem.1 g.pw a b h1 h2 hab
   rwa [Ii h1,Ii h2]
def Cj (w:Wd) (A:Int→Prop) (l:Ls):Prop:=Gf l∧l.o<w.n∧l.s≤iz w.sq l.o.toNat∧(∀e∈l.e,lc w.ls l.o e.n=some e.c)∧(l.s<iz w.sq l.o.toNat∨l.e=Oc (Kc w.ls w.up) w.n.toNat l.o∨A l.o)
def Fh (w:Wd) (l:Ls):Prop:=(∃i,i<w.db.length∧l∈Qa w.db i)∨∃p∈w.net,l=p.p
structure WV (w:Wd) (A:Int→Prop):Prop where
  g:GV w.n w.ls
  up:w.up.length=w.ls.length
  sq:(w.sq.length:Int)=w.n
  db:(w.db.length:Int)=w.n
  net:w.net.length≤16
  rng:∀i,i<w.sq.length→1≤iz w.sq i∧iz w.sq i≤99
  ok:∀i,i<w.db.length→Md (Qa w.db i)
  own:∀i,i<w.db.length→∃l∈Qa w.db i,l.o=i∧l.s=iz w.sq i
  poss:∀l,Fh w l→Cj w A l
  agr:∀x y,Fh w x→Fh w y→x.o=y.o→x.s=y.s→x=y
  tgt:∀p∈w.net,0≤p.t∧p.t<w.n
def Wj (l:Ls) (ex:Int) (net:List Pk) (m:Int):List Pk:=if m≠ex∧net.length<16 then net++[⟨m,l⟩] else net
def Nd (l:Ls) (ex:Int) (net:List Pk) (nb:List Int):List Pk:=nb.foldl (Wj l ex) net
theorem WJ {l:Ls} {ex:Int} {p:Pk}:∀{nb:List Int} {net:List Pk},p∈Nd l ex net nb→p∈net∨∃m∈nb,p=⟨m,l⟩
  |[],net,h=>.inl h
  |m::r,net,h=>by
   rcases WJ (nb:=r) (net:=Wj l ex net m) h with h|⟨x,hx,e⟩
   ·unfold Wj at h
    split at h
    ·rcases List.mem_append.1 h with h|h
     ·exact .inl h
     ·exact .inr ⟨m,List.mem_cons_self ..,List.mem_singleton.1 h⟩
    ·exact .inl h
   ·exact .inr ⟨x,List.mem_cons_of_mem _ hx,e⟩
theorem U4 {l:Ls} {ex:Int}:∀{nb:List Int} {net:List Pk},net.length≤16→(Nd l ex net nb).length≤16
  |[],net,h=>h
  |m::r,net,h=>U4 (nb:=r) (by unfold Wj;split;rw [List.length_append,List.length_singleton];omega;exact h)
def Wf (w:Wd) (i:Nat):Ls:=⟨i,iz w.sq i+1,Oc (Kc w.ls w.up) w.n.toNat i⟩
def Xf (w:Wd) (i:Nat):Wd:={ w with sq:=w.sq.set i (iz w.sq i+1),db:=w.db.set i (Mc (Qa w.db i) (Wf w i)),net:=Nd (Wf w i) (-1) w.net (Hc (Kc w.ls w.up) i w.n.toNat) }
theorem Hm {db:List (List Ls)} {i j:Nat} {d:List Ls} (hi:i<db.length):Qa (db.set i d) j=if j=i then d else Qa db j:=by
  unfold Qa
  simp only [List.getD,List.getElem?_set]
  by_cases h:i=j
  ·subst h;simp [hi]
  ·rw [if_neg h,if_neg (fun e=>h e.symm)]
end
section
open Go.RowKit
section
variable {N:Nat} {ls:List Lk} {node:Int} {ends:List En}
theorem iM {l:List Int} {f:Int→En} {i:Nat} (h:i<l.length):en (l.map f) i=f (iz l i):=by simp [en,iz,h]
theorem yAq {l:List Int} (h:l.Pairwise (·<·)) {i j:Nat} (hij:i<j) (hj:j<l.length):iz l i<iz l j:=by
  have:=List.pairwise_iff_getElem.1 h i j (by omega) hj hij
  simpa [iz,hj,show i<l.length by omega] using this
theorem V4 (g:GV N ls) {n:Nat} (hn:n<N):Gf ⟨n,1,Oc ls N n⟩:=by
  have h8:=g.2.1
  refine ⟨by dsimp only;omega,by dsimp only;omega,by dsimp only;omega,by dsimp only;omega,fun i hi=>?_⟩
  dsimp only at hi ⊢
  have hi':i<(Hc ls n N).length:=by unfold Oc at hi;simpa using hi
  have hm:iz (Hc ls n N) i∈Hc ls n N:=List.mem_of_getElem? (Yg hi')
  obtain ⟨j,hj,e,hs⟩:=Bj.1 hm
  obtain ⟨c,hc⟩:=Option.isSome_iff_exists.1 hs
  have hcc:=Sy g hc
  have hne:=(RJ g hs).2.2.2.2
  unfold Sj Oc
  rw [iM hi',e,hc]
  refine ⟨by dsimp only;omega,by dsimp only;omega,by dsimp only;omega,hcc.1,hcc.2,fun h0=>?_⟩
  rw [iM (show i-1<(Hc ls n N).length by omega)]
  have:=yAq (QJ ls n N) (show i-1<i by omega) hi'
  dsimp only
  omega
theorem iN {f g:Nat→Nat→Option Int} {a:Nat}:∀{j:Nat},(∀b,a<b→b≤a+j→(f a b).isSome=true→(g a b).isSome=true)→(Te f a j).length≤(Te g a j).length
  |0,_=>by simp [Te]
  |j+1,h=>by
   rw [GD,GD,List.length_append,List.length_append]
   have h1:=iN (j:=j) fun b h1 h2=>h b h1 (by omega)
   have h2:=h (a+1+j) (by omega) (by omega)
   have:(cell f a (a+1+j)).length≤(cell g a (a+1+j)).length:=by
     unfold cell
     cases e:f a (a+1+j) with
     |none=>simp
     |some c =>
      rw [e] at h2
      obtain ⟨d,hd⟩:=Option.isSome_iff_exists.1 (h2 rfl)
      simp [hd]
   omega
theorem iO {f g:Nat→Nat→Option Int}:∀{k:Nat},(∀a b,a<k→a<b→b<N→(f a b).isSome=true→(g a b).isSome=true)→(Ji f N k).length≤(Ji g N k).length
  |0,_=>by simp [Ji]
  |k+1,h=>by
   rw [HD,HD,List.length_append,List.length_append]
   have h1:=iO (k:=k) fun a b ha=>h a b (by omega)
   have h2:=iN (f:=f) (g:=g) (a:=k) (j:=N-1-k) fun b hb1 hb2=>h k b (by omega) hb1 (by omega)
   omega
end
section
variable {ls:List Lk} {ends:List En}
end
end
section
open Go.RowKit
theorem yAr {n:Int} {ls:List Lk} (g:GV n ls) {up:List Bool} {a b c:Int} (h:lc (Kc ls up) a b=some c):lc ls a b=some c:=by
  have hm:=Cr h
  obtain ⟨i,hi,_,e⟩:=JR.1 hm
  exact (AN g.pw).2 (by rw [e];exact Wi hi)
theorem iP {ls:List Lk} {N:Nat} {o:Int} {e:En} (h:e∈Oc ls N o):lc ls o e.n=some e.c:=by
  unfold Oc at h
  obtain ⟨x,hx,rfl⟩:=List.mem_map.1 h
  obtain ⟨j,_,rfl,hs⟩:=Bj.1 hx
  obtain ⟨c,hc⟩:=Option.isSome_iff_exists.1 hs
  dsimp only
  rw [hc];rfl
theorem XJ {d:List Int} {y j:Nat} {v:Int} (hy:y<d.length):iz (d.set y v) j=if j=y then v else iz d j:=Pj d y j v hy
theorem W4 {w:Wd} {A:Int→Prop} (h:WV w A) {i:Nat} (hi:i<w.db.length) (h99:iz w.sq i<99):Gf (Wf w i):=by
  have hdb:=h.db
  obtain ⟨N,hN⟩:=Int.eq_ofNat_of_zero_le (show 0≤w.n by omega)
  have g:GV (N:Int) (Kc w.ls w.up):=by have:=Vp h.g w.up;rwa [hN] at this
  have hiN:i<N:=by omega
  have h1:=V4 g hiN
  have hr:=h.rng i (by have:=h.sq;omega)
  unfold Wf
  rw [hN,Int.toNat_natCast]
  exact ⟨h1.1,h1.2.1,by dsimp only;omega,by dsimp only;omega,h1.2.2.2.2⟩
theorem X4 {w:Wd} {A:Int→Prop} (h:WV w A) {i:Nat} (hi:i<w.db.length) {l:Ls} (hl:Fh (Xf w i) l):l=Wf w i∨Fh w l:=by
  rcases hl with ⟨j,hj,hl⟩|⟨p,hp,rfl⟩
  ·have hj:j<w.db.length:=by simpa [Xf] using hj
   have hl:l∈Qa (w.db.set i (Mc (Qa w.db i) (Wf w i))) j:=hl
   rw [Hm hi] at hl
   split at hl
   ·unfold Mc at hl
    split at hl
    ·rcases Vj.1 hl with rfl|hl
     ·exact .inl rfl
     ·exact .inr (.inl ⟨i,hi,hl.1⟩)
    ·exact .inr (.inl ⟨i,hi,hl⟩)
   ·exact .inr (.inl ⟨j,hj,hl⟩)
  ·rcases WJ (show p∈Nd (Wf w i) (-1) w.net _ from hp) with h|⟨m,_,rfl⟩
   ·exact .inr (.inr ⟨p,h,rfl⟩)
   ·exact .inl rfl
theorem Z4 {w:Wd} {A:Int→Prop} (h:WV w A) {i:Nat} (hi:i<w.db.length) (h99:iz w.sq i<99):WV (Xf w i) (fun o=>A o∧o≠i):=by
  have hsq:=h.sq
  have hdb:=h.db
  have his:i<w.sq.length:=by omega
  have hnew:=W4 h hi h99
  have hsrt:∀j,j<w.db.length→Jc (Qa w.db j):=fun j hj=>Mi.1 (h.ok j hj).srt
  have hz:∀j,iz (w.sq.set i (iz w.sq i+1)) j=if j=i then iz w.sq i+1 else iz w.sq j:=fun j=>XJ his
  have no:(Wf w i).o=i:=rfl
  have ns:(Wf w i).s=iz w.sq i+1:=rfl
  refine ⟨h.g,h.up,?_,?_,U4 h.net,fun j hj=>?_,fun j hj=>?_,fun j hj=>?_,fun l hl=>?_,fun x y hx hy e1 e2=>?_,fun p hp=>?_⟩
  ·show ((w.sq.set i _).length:Int)=w.n
   rw [List.length_set];exact hsq
  ·show ((w.db.set i _).length:Int)=w.n
   rw [List.length_set];exact hdb
  ·have hj:j<w.sq.length:=by simpa [Xf] using hj
   show 1≤iz (w.sq.set i _) j∧iz (w.sq.set i _) j≤99
   rw [hz]
   have:=h.rng i his
   split
   ·omega
   ·exact h.rng j hj
  ·have hj:j<w.db.length:=by simpa [Xf] using hj
   show Md (Qa (w.db.set i _) j)
   rw [Hm hi]
   split
   ·exact I4 (h.ok i hi) hnew
   ·exact h.ok j hj
  ·have hj:j<w.db.length:=by simpa [Xf] using hj
   show ∃l∈Qa (w.db.set i _) j,l.o=j∧l.s=iz (w.sq.set i _) j
   rw [Hm hi,hz]
   by_cases e:j=i
   ·subst e
    rw [if_pos rfl,if_pos rfl]
    obtain ⟨l,hl,h1,h2⟩:=h.own j hi
    refine ⟨Wf w j,?_,rfl,rfl⟩
    have hc:Je (Qa w.db j) (Wf w j)=0:=by
      refine (M4 (by rw [ns];have:=h.rng j his;omega)).2 ?_
      unfold Ub
      rw [no,(Xk (hsrt j hi)).2 ⟨hl,h1⟩,ns]
      dsimp only
      omega
    unfold Mc
    rw [if_pos hc]
    exact Vj.2 (.inl rfl)
   ·rw [if_neg e,if_neg e]
    exact h.own j hj
  ·show Gf l∧l.o<w.n∧l.s≤iz (w.sq.set i _) l.o.toNat∧(∀e∈l.e,lc w.ls l.o e.n=some e.c)∧(l.s<iz (w.sq.set i _) l.o.toNat∨l.e=Oc (Kc w.ls w.up) w.n.toNat l.o∨A l.o∧l.o≠i)
   rw [hz]
   rcases X4 h hi hl with rfl|hl
   ·rw [no,Int.toNat_natCast,if_pos rfl]
    exact ⟨hnew,by omega,Int.le_of_eq ns,fun e he=>yAr h.g (iP he),.inr (.inl rfl)⟩
   ·obtain ⟨p1,p2,p3,p4,p5⟩:=h.poss l hl
    have ho:=p1.1
    by_cases e:l.o.toNat=i
    ·rw [if_pos e]
     rw [e] at p3
     exact ⟨p1,p2,by omega,p4,.inl (by omega)⟩
    ·rw [if_neg e]
     exact ⟨p1,p2,p3,p4,p5.imp id fun h=>h.imp id fun h=>⟨h,by omega⟩⟩
  ·have old:∀z,Fh w z→z.o=(i:Int)→z.s≤iz w.sq i:=fun z hz e=>by
     have:=(h.poss z hz).2.2.1
     rwa [e,Int.toNat_natCast] at this
   rcases X4 h hi hx with rfl|hx<;>rcases X4 h hi hy with rfl|hy
   ·rfl
   ·have:=old y hy (by rw [←e1];rfl)
    rw [ns] at e2;omega
   ·have:=old x hx (by rw [e1];rfl)
    rw [ns] at e2;omega
   ·exact h.agr x y hx hy e1 e2
  ·rcases WJ (show p∈Nd (Wf w i) (-1) w.net _ from hp) with hp|⟨m,hm,rfl⟩
   ·exact h.tgt p hp
   ·obtain ⟨j,hj,rfl,_⟩:=Bj.1 hm
    show 0≤(j:Int)∧(j:Int)<w.n
    omega
end
section
open Go.RowKit
abbrev Nb:Int→Prop:=fun _=>False
theorem WV.mono {w:Wd} {A B:Int→Prop} (h:WV w A) (k:∀o,A o→B o):WV w B :=
  ⟨h.g,h.up,h.sq,h.db,h.net,h.rng,h.ok,h.own,fun l hl=>by
    obtain ⟨p1,p2,p3,p4,p5⟩:=h.poss l hl
    exact ⟨p1,p2,p3,p4,p5.imp id fun q=>q.imp id (k _)⟩,h.agr,h.tgt⟩
theorem WV.less {w:Wd} {A:Int→Prop} (h:WV w A) {db':List (List Ls)} {net':List Pk} (hd:db'.length=w.db.length) (hn:net'.length≤16) (ok:∀i,i<w.db.length→Md (Qa db' i)) (own:∀i,i<w.db.length→∃l∈Qa db' i,l.o=i∧l.s=iz w.sq i) (said:∀l,Fh { w with db:=db',net:=net' } l→Fh w l) (tgt:∀p∈net',0≤p.t∧p.t<w.n):WV { w with db:=db',net:=net' } A :=
  ⟨h.g,h.up,h.sq,by show (db'.length:Int)=w.n;rw [hd];exact h.db,hn,h.rng,fun i hi=>ok i (by rw [←hd];exact hi),fun i hi=>own i (by rw [←hd];exact hi),fun l hl=>h.poss l (said l hl),fun x y hx hy=>h.agr x y (said x hx) (said y hy),tgt⟩
section
variable {w:Wd}
theorem WV.seq_le {A:Int→Prop} (h:WV w A) {i:Nat} (hi:i<w.db.length) {o:Nat} (ho:o<w.db.length):Ub (Qa w.db i) o≤iz w.sq o:=by
  unfold Ub
  have hr:=h.rng o (by have:=h.sq;have:=h.db;omega)
  cases e:fd (Qa w.db i) o with
  |none=>dsimp only;omega
  |some l =>
   obtain ⟨h1,h2⟩:=(Xk (Mi.1 (h.ok i hi).srt)).1 e
   have:=(h.poss l (.inl ⟨i,hi,h1⟩)).2.2.1
   rw [h2,Int.toNat_natCast] at this
   exact this
theorem WV.seq_own {A:Int→Prop} (h:WV w A) {i:Nat} (hi:i<w.db.length):Ub (Qa w.db i) i=iz w.sq i:=by
  obtain ⟨l,hl,h1,h2⟩:=h.own i hi
  unfold Ub
  rw [(Xk (Mi.1 (h.ok i hi).srt)).2 ⟨hl,h1⟩]
  exact h2
theorem iQ {d:List Ls} (hs:Jc d) {o v:Int} (hv:0≤v) (h:Ub d o=v):∃l∈d,l.o=o∧l.s=v:=by
  unfold Ub at h
  cases e:fd d o with
  |none=>rw [e] at h;dsimp only at h;omega
  |some l =>
   rw [e] at h
   obtain ⟨h1,h2⟩:=(Xk hs).1 e
   exact ⟨l,h1,h2,h⟩
def Do (w:Wd) (a b:Nat):Wd:={ w with db:=(w.db.set a (Wc (Qa w.db a) (Qa w.db b))).set b (Wc (Qa w.db a) (Qa w.db b)) }
theorem KR {a b:Nat} (ha:a<w.db.length) (hb:b<w.db.length) (i:Nat):Qa (Do w a b).db i=if i=a∨i=b then Wc (Qa w.db a) (Qa w.db b) else Qa w.db i:=by
  show Qa ((w.db.set a _).set b _) i=_
  rw [Hm (by rw [List.length_set];exact hb)]
  by_cases h:i=b
  ·rw [if_pos h,if_pos (.inr h)]
  ·rw [if_neg h,Hm ha]
   by_cases h2:i=a
   ·rw [if_pos h2,if_pos (.inl h2)]
   ·rw [if_neg h2,if_neg (by rintro (e|e);exact h2 e;exact h e)]
theorem Md.pos {db:List Ls} (h:Md db):∀l∈db,0≤l.s:=fun l hl=>by
  have:=((Co.1 h).1 l hl).2.2.1
  omega
theorem yAs {A:Int→Prop} (h:WV w A) {a b:Nat} (ha:a<w.db.length) (hb:b<w.db.length):WV (Do w a b) A:=by
  have sa:=Mi.1 (h.ok a ha).srt
  have sb:=Mi.1 (h.ok b hb).srt
  have pa:=(h.ok a ha).pos
  have pb:=(h.ok b hb).pos
  refine h.less (db':=(Do w a b).db) (net':=w.net) (by simp [Do]) h.net (fun i hi=>?_) (fun i hi=>?_) (fun l hl=>?_) h.tgt
  ·rw [KR ha hb]
   split
   ·exact K4 (h.ok a ha) (Co.1 (h.ok b hb)).1
   ·exact h.ok i hi
  ·rw [KR ha hb]
   have hr:=h.rng i (by have:=h.sq;have:=h.db;omega)
   split
   ·rename_i e
    refine iQ (ER sa _) (by omega) ?_
    rw [N4 sa sb pb pa]
    have q1:=h.seq_le ha hi
    have q2:=h.seq_le hb hi
    rcases e with rfl|rfl
    ·have:=h.seq_own hi;omega
    ·have:=h.seq_own hi;omega
   ·exact h.own i hi
  ·rcases hl with ⟨j,hj,hl⟩|hl
   ·have hl:l∈Qa (Do w a b).db j:=hl
    have hj:j<w.db.length:=by simpa [Do] using hj
    rw [KR ha hb] at hl
    split at hl
    ·rcases iH hl with h|h
     ·exact .inl ⟨a,ha,h⟩
     ·exact .inl ⟨b,hb,h⟩
    ·exact .inl ⟨j,hj,hl⟩
   ·exact .inr hl
theorem A5 {A:Int→Prop} (h:WV w A) (k:Nat):WV { w with net:=w.net.eraseIdx k } A:=by
  refine h.less (db':=w.db) rfl (Nat.le_trans (List.length_eraseIdx_le _ _) h.net) h.ok h.own (fun l hl=>?_) (fun p hp=>h.tgt p (List.mem_of_mem_eraseIdx hp))
  rcases hl with hl|⟨p,hp,rfl⟩
  ·exact .inl hl
  ·exact .inr ⟨p,List.mem_of_mem_eraseIdx hp,rfl⟩
theorem yAt {A:Int→Prop} (h:WV w A) {p:Pk} (hp:p∈w.net) (hl:w.net.length<16):WV { w with net:=w.net++[p] } A:=by
  refine h.less (db':=w.db) rfl (by rw [List.length_append,List.length_singleton];omega) h.ok h.own (fun l hl=>?_) (fun q hq=>?_)
  ·rcases hl with hl|⟨q,hq,rfl⟩
   ·exact .inl hl
   ·rcases List.mem_append.1 hq with hq|hq
    ·exact .inr ⟨q,hq,rfl⟩
    ·obtain rfl:=List.mem_singleton.1 hq
     exact .inr ⟨q,hp,rfl⟩
  ·rcases List.mem_append.1 hq with hq|hq
   ·exact h.tgt q hq
   ·obtain rfl:=List.mem_singleton.1 hq
    exact h.tgt q hp
def Xj (w:Wd) (t:Nat) (l:Ls):Wd:=if Je (Qa w.db t) l=0 then { w with db:=w.db.set t (Mc (Qa w.db t) l),net:=Nd l l.o w.net (Hc (Kc w.ls w.up) t w.n.toNat) } else w
theorem yAu {A:Int→Prop} (h:WV w A) {t:Nat} (ht:t<w.db.length) {l:Ls} (hV:Gf l) (hs:l.o<w.n) (hq:l.s≤iz w.sq l.o.toNat) (hP:Cj w A l) (hag:∀y,Fh w y→l.o=y.o→l.s=y.s→l=y):WV (Xj w t l) A:=by
  unfold Xj
  split
  case isFalse=>exact h
  rename_i hc
  have hdb:=h.db
  have st:=Mi.1 (h.ok t ht).srt
  have said:∀x,Fh { w with db:=w.db.set t (Mc (Qa w.db t) l),net:=Nd l l.o w.net (Hc (Kc w.ls w.up) t w.n.toNat) } x→x=l∨Fh w x:=fun x hx=>by
    rcases hx with ⟨j,hj,hx⟩|⟨p,hp,rfl⟩
    ·have hj:j<w.db.length:=by simpa using hj
     have hx:x∈Qa (w.db.set t (Mc (Qa w.db t) l)) j:=hx
     rw [Hm ht] at hx
     split at hx
     ·unfold Mc at hx
      rw [if_pos hc] at hx
      rcases Vj.1 hx with rfl|hx
      ·exact .inl rfl
      ·exact .inr (.inl ⟨t,ht,hx.1⟩)
     ·exact .inr (.inl ⟨j,hj,hx⟩)
    ·rcases WJ (show p∈Nd l l.o w.net _ from hp) with hp|⟨m,_,rfl⟩
     ·exact .inr (.inr ⟨p,hp,rfl⟩)
     ·exact .inl rfl
  refine ⟨h.g,h.up,h.sq,by show ((w.db.set t _).length:Int)=w.n;rw [List.length_set];exact hdb,U4 h.net,h.rng,fun j hj=>?_,fun j hj=>?_,fun x hx=>?_,fun x y hx hy e1 e2=>?_,fun p hp=>?_⟩
  ·have hj:j<w.db.length:=by simpa using hj
   show Md (Qa (w.db.set t _) j)
   rw [Hm ht]
   split
   ·exact I4 (h.ok t ht) hV
   ·exact h.ok j hj
  ·have hj:j<w.db.length:=by simpa using hj
   show ∃x∈Qa (w.db.set t _) j,x.o=j∧x.s=iz w.sq j
   rw [Hm ht]
   split
   ·rename_i e
    subst e
    have hr:=h.rng j (by have:=h.sq;omega)
    refine iQ (TJ st l) (by omega) ?_
    have hp:0≤l.s:=by have:=hV.2.2.1;omega
    rw [L4 st hp]
    have:=h.seq_own ht
    split
    ·rename_i e
     have e2:l.o.toNat=j:=by omega
     rw [e2] at hq
     omega
    ·omega
   ·exact h.own j hj
  ·rcases said x hx with rfl|hx
   ·exact hP
   ·exact h.poss x hx
  ·rcases said x hx with ex|hx1
   ·rcases said y hy with ey|hy1
    ·rw [ex,ey]
    ·rw [ex] at e1 e2 ⊢
     exact hag y hy1 e1 e2
   ·rcases said y hy with ey|hy1
    ·rw [ey] at e1 e2 ⊢
     exact (hag x hx1 e1.symm e2.symm).symm
    ·exact h.agr x y hx1 hy1 e1 e2
  ·rcases WJ (show p∈Nd l l.o w.net _ from hp) with hp|⟨m,hm,rfl⟩
   ·exact h.tgt p hp
   ·obtain ⟨j,hj,rfl,_⟩:=Bj.1 hm
    show 0≤(j:Int)∧(j:Int)<w.n
    omega
end
end
section
open Go.RowKit
theorem yAv {ls ls':List Lk} {m:Int} (h:∀x:Int,lc ls m x=lc ls' m x) (k:Nat):Hc ls m k=Hc ls' m k:=by
  unfold Hc
  congr 1
  refine List.filter_congr fun x _=>?_
  rw [←KD,←KD,h]
theorem yAw {ls ls':List Lk} {m:Int} (h:∀x:Int,lc ls m x=lc ls' m x) (N:Nat):Oc ls N m=Oc ls' N m:=by
  unfold Oc
  rw [yAv h N]
  exact List.map_congr_left fun x _=>by rw [h]
theorem iR {up:List Bool} {k i:Nat} {u:Bool} (h:i≠k):(up.set k u).getD i false=up.getD i false:=by
  simp only [List.getD,List.getElem?_set]
  rw [if_neg (fun e=>h e.symm)]
theorem yAx {n:Int} {ls:List Lk} (g:GV n ls) {up:List Bool} {k:Nat} {u:Bool} {o:Int} (ha:o≠(lk ls k).a) (hb:o≠(lk ls k).b) (x:Int):lc (Kc ls (up.set k u)) o x=lc (Kc ls up) o x:=by
  have key:∀c,(⟨min o x,max o x,c⟩:Lk)∈Kc ls (up.set k u)↔(⟨min o x,max o x,c⟩:Lk)∈Kc ls up:=fun c=>by
    rw [JR,JR]
    have ne:∀i,(⟨min o x,max o x,c⟩:Lk)=lk ls i→i≠k:=fun i e hik=>by
      subst hik
      rw [←e] at ha hb
      dsimp only at ha hb
      omega
    constructor
    ·rintro ⟨i,h1,h2,h3⟩
     exact ⟨i,h1,by rwa [iR (ne i h3)] at h2,h3⟩
    ·rintro ⟨i,h1,h2,h3⟩
     exact ⟨i,h1,by rwa [iR (ne i h3)],h3⟩
  refine Option.ext fun c=>?_
  have h1:=AN (Vp g (up.set k u)).pw (a:=o) (b:=x) (c:=c)
  have h2:=AN (Vp g up).pw (a:=o) (b:=x) (c:=c)
  exact (h1.trans (key c)).trans h2.symm
theorem LR {w:Wd} (h:WV w Nb) {k:Nat} (hk:k<w.ls.length) (u:Bool):WV { w with up:=w.up.set k u } (fun o=>o=(lk w.ls k).a∨o=(lk w.ls k).b) :=
  ⟨h.g,by show (w.up.set k u).length=w.ls.length;rw [List.length_set];exact h.up,h.sq,h.db,h.net,h.rng,h.ok,h.own,fun l hl=>by
    obtain ⟨p1,p2,p3,p4,p5⟩:=h.poss l hl
    refine ⟨p1,p2,p3,p4,?_⟩
    by_cases hA:l.o=(lk w.ls k).a∨l.o=(lk w.ls k).b
    ·exact .inr (.inr hA)
    ·refine p5.imp id fun q=>.inl ?_
     have q:=q.resolve_right id
     show l.e=Oc (Kc w.ls (w.up.set k u)) w.n.toNat l.o
     rw [q]
     exact (yAw (yAx h.g (fun e=>hA (.inl e)) (fun e=>hA (.inr e))) _).symm,h.agr,h.tgt⟩
def Eg (w:Wd) (k:Nat) (u:Bool):Wd:=if w.up.getD k false=u∨99≤iz w.sq (lk w.ls k).a.toNat∨99≤iz w.sq (lk w.ls k).b.toNat then w else Xf (Xf { w with up:=w.up.set k u } (lk w.ls k).a.toNat) (lk w.ls k).b.toNat
theorem yAy {w:Wd} (h:WV w Nb) {k:Nat} (hk:k<w.ls.length) (u:Bool):WV (Eg w k u) Nb:=by
  unfold Eg
  split
  ·exact h
  ·rename_i hn
   have hdb:=h.db
   have hsq:=h.sq
   have ho:=h.g.ok (Wi hk)
   unfold Lg at ho
   have h1:=Z4 (LR h hk u) (i:=(lk w.ls k).a.toNat) (by show _<w.db.length;omega) (by show iz w.sq _<99;omega)
   have h2:=Z4 h1 (i:=(lk w.ls k).b.toNat) (by show _<(w.db.set _ _).length;rw [List.length_set];omega) (by
     show iz (w.sq.set (lk w.ls k).a.toNat _) (lk w.ls k).b.toNat<99
     rw [XJ (by omega),if_neg (by omega)]
     omega)
   refine h2.mono fun o ho'=>?_
   obtain ⟨⟨q,q1⟩,q2⟩:=ho'
   rcases q with e|e
   ·exact q1 (by omega)
   ·exact q2 (by omega)
def Ug (n:Int) (ls:List Lk):Wd:=⟨n,ls,List.replicate ls.length true,List.replicate n.toNat 1,List.replicate n.toNat ((List.range n.toNat).map fun i:Nat=>(⟨i,1,Oc ls n.toNat i⟩:Ls)),[]⟩
theorem yAz (ls:List Lk):Kc ls (List.replicate ls.length true)=ls:=by
  unfold Kc Vh
  have:(List.range ls.length).filter (fun i=>(List.replicate ls.length true).getD i false)=List.range ls.length:=by
    rw [List.filter_eq_self]
    intro i hi
    have:=List.mem_range.1 hi
    simp [List.getD,this]
  rw [this]
  refine List.ext_getElem (by simp) fun i h1 h2=>?_
  rw [List.getElem_map,List.getElem_range,Ii h2]
theorem yAA {N:Nat} {ls:List Lk} (g:GV N ls):WV (Ug N ls) Nb:=by
  have hr:∀i,i<N→iz (List.replicate N (1:Int)) i=1:=fun i hi=>by simp [iz,List.getD,hi]
  have hd:∀i,i<N→Qa (Ug N ls).db i=(List.range N).map fun i:Nat=>(⟨i,1,Oc ls N i⟩:Ls):=fun i hi=>by
    show Qa (List.replicate (N:Int).toNat _) i=_
    rw [Int.toNat_natCast]
    simp [Qa,List.getD,hi]
  have hm:∀i,i<N→∀l,l∈Qa (Ug N ls).db i↔∃j,j<N∧l=⟨j,1,Oc ls N j⟩:=fun i hi l=>by
    rw [hd i hi,List.mem_map]
    constructor
    ·rintro ⟨j,hj,rfl⟩;exact ⟨j,List.mem_range.1 hj,rfl⟩
    ·rintro ⟨j,hj,rfl⟩;exact ⟨j,List.mem_range.2 hj,rfl⟩
  have hlen:(Ug N ls).db.length=N:=by simp [Ug]
  have said:∀l,Fh (Ug N ls) l→∃j,j<N∧l=⟨j,1,Oc ls N j⟩:=fun l hl=>by
    rcases hl with ⟨i,hi,hl⟩|⟨p,hp,_⟩
    ·rw [hlen] at hi
     exact (hm i hi l).1 hl
    ·simp [Ug] at hp
  have h1:=g.1
  refine ⟨g,by simp [Ug],by simp [Ug],by simp [Ug],by simp [Ug],fun i hi=>?_,fun i hi=>?_,fun i hi=>?_,fun l hl=>?_,fun x y hx hy e1 e2=>?_,fun p hp=>by simp [Ug] at hp⟩
  ·have hi:i<N:=by simpa [Ug] using hi
   show 1≤iz (List.replicate (N:Int).toNat 1) i∧iz (List.replicate (N:Int).toNat 1) i≤99
   rw [Int.toNat_natCast,hr i hi]
   omega
  ·rw [hlen] at hi
   rw [hd i hi]
   refine Co.2 ⟨fun l hl=>?_,?_⟩
   ·obtain ⟨j,hj,rfl⟩:=List.mem_map.1 hl
    exact V4 g (List.mem_range.1 hj)
   ·unfold Jc
    rw [List.pairwise_map]
    refine List.Pairwise.imp ?_ (List.pairwise_lt_range (n:=N))
    intro a b hab
    show (a:Int)<b
    omega
  ·rw [hlen] at hi
   refine ⟨⟨i,1,Oc ls N i⟩,(hm i hi _).2 ⟨i,hi,rfl⟩,rfl,?_⟩
   show 1=iz (List.replicate (N:Int).toNat 1) i
   rw [Int.toNat_natCast,hr i hi]
  ·obtain ⟨j,hj,rfl⟩:=said l hl
   have hs:iz (Ug N ls).sq ((j:Nat):Int).toNat=1:=by
     show iz (List.replicate (N:Int).toNat 1) ((j:Nat):Int).toNat=1
     rw [Int.toNat_natCast,Int.toNat_natCast,hr j hj]
   refine ⟨V4 g hj,?_,?_,fun e he=>iP he,.inr (.inl ?_)⟩
   ·show (j:Int)<N;omega
   ·rw [hs];exact Int.le_refl _
   ·show Oc ls N j=Oc (Kc ls (List.replicate ls.length true)) (N:Int).toNat j
    rw [yAz,Int.toNat_natCast]
  ·obtain ⟨i,_,rfl⟩:=said x hx
   obtain ⟨j,_,rfl⟩:=said y hy
   dsimp only at e1
   obtain rfl:i=j:=by omega
   rfl
end
section
open Go.RowKit
def Ob (net:List Pk) (i:Nat):Pk:=net.getD i ⟨0,⟨0,0,[]⟩⟩
theorem Eo {net:List Pk} {i:Nat} (h:i<net.length):Ob net i∈net:=by
  unfold Ob
  rw [List.getD,List.getElem?_eq_getElem h]
  exact List.getElem_mem h
def Fg (w:Wd) (k:Nat):Wd:=if w.up.getD k false then Do w (lk w.ls k).a.toNat (lk w.ls k).b.toNat else w
def Uc (w:Wd) (kind a:Int):Wd :=
  if (kind=1∨kind=2)∧0≤a∧a<w.up.length then Eg w a.toNat (decide (kind=2))
  else if kind=3∧0≤a∧a<w.net.length then Xj { w with net:=w.net.eraseIdx a.toNat } (Ob w.net a.toNat).t.toNat (Ob w.net a.toNat).p
  else if kind=4∧0≤a∧a<w.net.length then { w with net:=w.net.eraseIdx a.toNat }
  else if kind=5∧0≤a∧a<w.net.length then (if w.net.length<16 then { w with net:=w.net++[Ob w.net a.toNat] } else w)
  else if kind=6∧0≤a∧a<w.up.length then Fg w a.toNat
  else w
theorem iS {w:Wd} (h:WV w Nb) {k:Nat} (hk:k<w.ls.length):WV (Fg w k) Nb:=by
  unfold Fg
  split
  ·have ho:=h.g.ok (Wi hk)
   have hdb:=h.db
   unfold Lg at ho
   exact yAs h (by omega) (by omega)
  ·exact h
theorem yAB {w:Wd} (h:WV w Nb) (kind a:Int):WV (Uc w kind a) Nb:=by
  have hup:=h.up
  unfold Uc
  split
  ·exact yAy h (by omega) _
  split
  ·rename_i hp
   have hm:Ob w.net a.toNat∈w.net:=Eo (by omega)
   have hs:Fh w (Ob w.net a.toNat).p:=.inr ⟨_,hm,rfl⟩
   have hP:=h.poss _ hs
   have ht:=h.tgt _ hm
   have hdb:=h.db
   refine yAu (A5 h a.toNat) (by show _<w.db.length;omega) hP.1 hP.2.1 hP.2.2.1 hP fun y hy e1 e2=>?_
   refine h.agr _ y hs ?_ e1 e2
   rcases hy with hy|⟨p,hp,rfl⟩
   ·exact .inl hy
   ·exact .inr ⟨p,List.mem_of_mem_eraseIdx hp,rfl⟩
  split
  ·exact A5 h _
  split
  ·split
   ·exact yAt h (Eo (by omega)) (by assumption)
   ·exact h
  split
  ·exact iS h (by omega)
  ·exact h
def Dj (w:Wd):Nat→Wd
  |0=>w
  |k+1=>Fg (Dj w k) k
def YJ (w:Wd):Wd:=Dj w w.ls.length
def Mg (w:Wd):Nat→Wd
  |0=>w
  |k+1=>YJ (Mg w k)
def Pf (w:Wd):Wd:=Mg { w with net:=[] } w.n.toNat
theorem B5 (w:Wd) (k:Nat):(Fg w k).n=w.n∧(Fg w k).ls=w.ls∧(Fg w k).up=w.up∧(Fg w k).sq=w.sq∧(Fg w k).net=w.net∧(Fg w k).db.length=w.db.length:=by
  unfold Fg
  split
  ·exact ⟨rfl,rfl,rfl,rfl,rfl,by simp [Do]⟩
  ·exact ⟨rfl,rfl,rfl,rfl,rfl,rfl⟩
theorem ZJ (w:Wd) (k:Nat):(Dj w k).n=w.n∧(Dj w k).ls=w.ls∧(Dj w k).up=w.up∧(Dj w k).sq=w.sq∧(Dj w k).net=w.net∧(Dj w k).db.length=w.db.length:=by
  induction k with
  |zero=>exact ⟨rfl,rfl,rfl,rfl,rfl,rfl⟩
  |succ k ih =>
   have h:=B5 (Dj w k) k
   exact ⟨h.1.trans ih.1,h.2.1.trans ih.2.1,h.2.2.1.trans ih.2.2.1,h.2.2.2.1.trans ih.2.2.2.1,h.2.2.2.2.1.trans ih.2.2.2.2.1,h.2.2.2.2.2.trans ih.2.2.2.2.2⟩
theorem C5 (w:Wd) (k:Nat):(Mg w k).n=w.n∧(Mg w k).ls=w.ls∧(Mg w k).up=w.up∧(Mg w k).sq=w.sq∧(Mg w k).net=w.net∧(Mg w k).db.length=w.db.length:=by
  induction k with
  |zero=>exact ⟨rfl,rfl,rfl,rfl,rfl,rfl⟩
  |succ k ih =>
   have h:=ZJ (Mg w k) (Mg w k).ls.length
   exact ⟨h.1.trans ih.1,h.2.1.trans ih.2.1,h.2.2.1.trans ih.2.2.1,h.2.2.2.1.trans ih.2.2.2.1,h.2.2.2.2.1.trans ih.2.2.2.2.1,h.2.2.2.2.2.trans ih.2.2.2.2.2⟩
theorem AK {w:Wd} (h:WV w Nb):∀k,k≤w.ls.length→WV (Dj w k) Nb
  |0,_=>h
  |k+1,hk=>iS (AK h k (by omega)) (by rw [(ZJ w k).2.1];omega)
theorem BK {w:Wd} (h:WV w Nb):∀k,WV (Mg w k) Nb
  |0=>h
  |k+1=>AK (BK h k) _ (Nat.le_refl _)
theorem iT {w:Wd} (h:WV w Nb):WV (Pf w) Nb:=by
  refine BK (h.less (db':=w.db) rfl (by simp) h.ok h.own (fun l hl=>?_) (by simp)) _
  rcases hl with hl|⟨p,hp,_⟩
  ·exact .inl hl
  ·simp at hp
theorem WV.know {w:Wd} (h:WV w Nb):CB fun n=>Qa w.db n:=by
  have out:∀n,w.db.length≤n→Qa w.db n=[]:=fun n hn=>by
    unfold Qa
    rw [List.getD,List.getElem?_eq_none hn];rfl
  refine ⟨fun n=>?_,fun n l hl=>?_,fun m n x hx y hy=>?_⟩
  ·rcases Nat.lt_or_ge n w.db.length with hn|hn
   ·exact Mi.1 (h.ok n hn).srt
   ·show Jc (Qa w.db n)
    rw [out n hn];exact List.Pairwise.nil
  ·rcases Nat.lt_or_ge n w.db.length with hn|hn
   ·exact (h.ok n hn).pos l hl
   ·have hl:l∈Qa w.db n:=hl
    rw [out n hn] at hl;simp at hl
  ·have hx:x∈Qa w.db m:=hx
   have hy:y∈Qa w.db n:=hy
   rcases Nat.lt_or_ge m w.db.length with hm|hm
   ·rcases Nat.lt_or_ge n w.db.length with hn|hn
    ·exact h.agr x y (.inl ⟨m,hm,hx⟩) (.inl ⟨n,hn,hy⟩)
    ·rw [out n hn] at hy;simp at hy
   ·rw [out m hm] at hx;simp at hx
end
section
open Go.RowKit
section
variable {N:Nat} {la lb:List Lk}
theorem yAC {f:Nat→Nat→Option Int} {x y:Nat} {c:Int}:Uf (Cg f N) x y c↔(x<y∧y<N∧f x y=some c)∨(y<x∧x<N∧f y x=some c):=by
  constructor
  ·rintro ⟨l,hl,rfl,h⟩
   obtain ⟨a,b,c,h1,h2,h3,rfl⟩:=ID.1 hl
   dsimp only at h ⊢
   rcases h with ⟨e1,e2⟩|⟨e1,e2⟩
   ·obtain rfl:a=x:=by omega
    obtain rfl:b=y:=by omega
    exact .inl ⟨h1,h2,h3⟩
   ·obtain rfl:a=y:=by omega
    obtain rfl:b=x:=by omega
    exact .inr ⟨h1,h2,h3⟩
  ·rintro (⟨h1,h2,h3⟩|⟨h1,h2,h3⟩)
   ·exact ⟨⟨x,y,c⟩,ID.2 ⟨x,y,c,h1,h2,h3,rfl⟩,rfl,.inl ⟨rfl,rfl⟩⟩
   ·exact ⟨⟨y,x,c⟩,ID.2 ⟨y,x,c,h1,h2,h3,rfl⟩,rfl,.inr ⟨rfl,rfl⟩⟩
theorem D5 (g:GV N la) {x y:Nat} {c:Int}:Uf la x y c↔(x<y∧y<N∧lc la x y=some c)∨(y<x∧x<N∧lc la y x=some c):=by
  have:=yAC (N:=N) (f:=fun a b=>lc la a b) (x:=x) (y:=y) (c:=c)
  rwa [g.grid] at this
end
def Yk (ls:List Lk) (d:List Int) (f:Nat) (m:Int):Bool:=decide (iz d m.toNat+(lc ls f m).getD 0=iz d f)
def Ud (N:Nat) (ls:List Lk) (f t:Nat):List Int:=if f=t∨iz (Tb N ls t) f<0 then [] else (Hc ls f N).filter (Yk ls (Tb N ls t) f)
section
variable {N:Nat} {ls:List Lk}
end
end
section
open Go.RowKit
theorem iU (w:Wd):(Pf w).n=w.n∧(Pf w).ls=w.ls∧(Pf w).up=w.up∧(Pf w).sq=w.sq∧(Pf w).net=[]∧(Pf w).db.length=w.db.length:=C5 { w with net:=[] } w.n.toNat
section
variable {w:Wd} {N:Nat}
theorem iV (h:WV w Nb) (hN:w.n=N) {i a b:Nat} (hi:i<N) (hp:0<Th (Qa w.db i) a b):lc w.ls a b=some (Th (Qa w.db i) a b):=by
  have hdb:=h.db
  unfold Th at hp ⊢
  cases e:fd (Qa w.db i) a with
  |none=>rw [e] at hp;simp at hp
  |some l =>
   rw [e] at hp
   dsimp only at hp ⊢
   obtain ⟨h1,h2⟩:=(Xk (Mi.1 (h.ok i (by omega)).srt)).1 e
   have hP:=(h.poss l (.inl ⟨i,by omega,h1⟩)).2.2.2.1
   unfold ec at hp ⊢
   cases e2:l.e.find? (fun e=>decide (e.n=(b:Int))) with
   |none=>rw [e2] at hp;simp at hp
   |some en =>
    have hm:=List.mem_of_find?_eq_some e2
    have hb:en.n=b:=oT (List.find?_some (p:=fun e:En=>decide (e.n=(b:Int))) e2)
    have:=hP en hm
    rw [h2,hb] at this
    exact this
theorem iW (h:WV w Nb) (hN:w.n=N) {i a b:Nat} {c:Int} (hi:i<N) (e:Id (Qa w.db i) a b=some c):lc w.ls a b=some c:=by
  unfold Id at e
  split at e
  ·rename_i hp
   injection e with e
   have h1:=iV h hN hi hp.1
   have h2:=iV h hN hi hp.2
   rw [JD] at h2
   rw [h1] at h2
   injection h2 with h2
   rw [h1]
   congr 1
   omega
  ·cases e
theorem iX (h:WV w Nb) (hN:w.n=N) {i:Nat} (hi:i<N):GV N (Cg (Id (Qa w.db i)) N):=by
  have g:GV (N:Int) w.ls:=by have:=h.g;rwa [hN] at this
  refine sN (by have:=g.1;omega) (by have:=g.2.1;omega) (fun a b c _ _ e=>Sy g (iW h hN hi e)) ?_
  have hle:=iO (N:=N) (f:=Id (Qa w.db i)) (g:=fun a b=>lc w.ls a b) (k:=N) fun a b _ _ _ hs=>by
    obtain ⟨c,hc⟩:=Option.isSome_iff_exists.1 hs
    rw [iW h hN hi hc];rfl
  have e:(Cg (fun a b=>lc w.ls a b) N).length≤14:=by rw [g.grid];exact g.2.2.1
  exact Nat.le_trans hle e
end
end
section
open Go.RowKit
theorem yAD {N:Nat} {ls:List Lk} (g:GV N ls) {x y:Nat} {c:Int} (h:Uf ls x y c):lc ls y x=some c∧x<N∧y<N:=by
  rcases (D5 g).1 h with ⟨h1,h2,h3⟩|⟨h1,h2,h3⟩
  ·exact ⟨by rw [JD];exact h3,by omega,h2⟩
  ·exact ⟨h3,h2,by omega⟩
theorem MR {N f t:Nat} {ls:List Lk} (g:GV N ls) (hf:f<N) (ht:t<N) (hne:f≠t) (hd:0≤iz (Tb N ls t) f):∃m:Nat,m<N∧iz (Ud N ls f t) 0=m∧0<(Ud N ls f t).length∧0≤iz (Tb N ls t) m∧iz (Tb N ls t) m<iz (Tb N ls t) f∧∃c,Uf ls f m c:=by
  have e:Ud N ls f t=(Hc ls f N).filter (Yk ls (Tb N ls t) f):=if_neg (not_or.2 ⟨hne,by omega⟩)
  have hx:∃x,x∈Ud N ls f t:=by
    obtain ⟨k,q⟩:=VM g ht hf hd
    generalize hD:iz (Tb N ls t) f=D at q
    cases q with
    |nil=>exact absurd rfl hne
    |@step k x _ s c q ha =>
     obtain ⟨h1,h2,h3⟩:=yAD g ha
     obtain ⟨l1,l2⟩:=Ry g ht q
     obtain ⟨k',q'⟩:=VM g ht h2 l1
     obtain ⟨l3,l4⟩:=Ry g ht (q'.step ha)
     refine ⟨(x:Int),?_⟩
     rw [e]
     refine List.mem_filter.2 ⟨Bj.2 ⟨x,h2,rfl,by rw [h1];rfl⟩,?_⟩
     unfold Yk
     rw [Wa,h1]
     simp only [Option.getD_some]
     exact decide_eq_true (by omega)
  have hl:0<(Ud N ls f t).length:=by
    obtain ⟨x,hx⟩:=hx
    exact List.length_pos_of_mem hx
  have h0:iz (Ud N ls f t) 0∈Ud N ls f t:=by
    have:iz (Ud N ls f t) 0=(Ud N ls f t)[0]:=by simp [iz,hl]
    rw [this]
    exact List.getElem_mem _
  generalize iz (Ud N ls f t) 0=y at h0
  rw [e] at h0
  obtain ⟨h1,h2⟩:=List.mem_filter.1 h0
  obtain ⟨m,hm,rfl,hs⟩:=Bj.1 h1
  obtain ⟨c,hc⟩:=Option.isSome_iff_exists.1 hs
  have h2:=oT h2
  rw [Wa,hc] at h2
  simp only [Option.getD_some] at h2
  have cc:=Sy g hc
  have o:=RJ g (m:=f) (x:=m) (by rw [hc];rfl)
  have ha:Uf ls f m c:=by
    rw [D5 g]
    rcases Nat.lt_trichotomy f m with e|e|e
    ·exact .inl ⟨e,hm,hc⟩
    ·omega
    ·exact .inr ⟨e,hf,by rw [JD];exact hc⟩
  have hm0:0≤iz (Tb N ls t) m:=by
    obtain ⟨k,q⟩:=VM g ht hf hd
    exact (Ry g ht (q.step ha)).1
  exact ⟨m,hm,rfl,hl,hm0,by omega,c,ha⟩
def Ni (N:Nat) (ls:List Lk) (t:Nat):Nat→Nat→List Int
  |0,f=>[(f:Int)]
  |k+1,f=>if f=t then [(f:Int)] else (f:Int)::Ni N ls t k (iz (Ud N ls f t) 0).toNat
end
section
open Go.RowKit
theorem Wd.same {a b:Wd} (h1:a.n=b.n) (h2:a.ls=b.ls) (h3:a.up=b.up) (h4:a.sq=b.sq) (h5:a.db=b.db) (h6:a.net=b.net):a=b:=by
  cases a;cases b;dsimp only at h1 h2 h3 h4 h5 h6;subst h1 h2 h3 h4 h5 h6;rfl
section
variable {w:Wd} {N:Nat}
theorem yAE (h:WV w Nb) {k:Nat} (hk:k<w.ls.length) (n:Nat):Qa (Fg w k).db n=if w.up.getD k false=true∧(n=(lk w.ls k).a.toNat∨n=(lk w.ls k).b.toNat) then Wc (Qa w.db (lk w.ls k).a.toNat) (Qa w.db (lk w.ls k).b.toNat) else Qa w.db n:=by
  have hdb:=h.db
  have g:=h.g
  obtain ⟨M,hM⟩:∃M:Nat,w.n=M:=⟨w.n.toNat,by have:=g.1;omega⟩
  rw [hM] at g
  obtain ⟨x,y,q1,q2,q3,q4⟩:=g.ends (lk w.ls k) (Wi hk)
  rw [q1,q2,Int.toNat_natCast,Int.toNat_natCast]
  unfold Fg
  rw [q1,q2,Int.toNat_natCast,Int.toNat_natCast]
  by_cases hu:w.up.getD k false=true
  ·rw [if_pos hu,KR (by omega) (by omega)]
   by_cases hn:n=x∨n=y
   ·rw [if_pos hn,if_pos ⟨hu,hn⟩]
   ·rw [if_neg hn,if_neg (by rintro ⟨_,h⟩;exact hn h)]
  ·rw [if_neg hu,if_neg (by rintro ⟨h,_⟩;exact hu h)]
theorem iY (h:WV w Nb) {k:Nat} (hk:k<w.ls.length) (n:Nat) (o:Int):Ub (Qa w.db n) o≤Ub (Qa (Fg w k).db n) o:=by
  have K:=h.know
  rw [yAE h hk]
  split
  ·rename_i q
   rw [N4 (K.srt _) (K.srt _) (K.pos _) (K.pos _)]
   rcases q.2 with rfl|rfl
   ·show Ub (Qa w.db _) o≤max (Ub (Qa w.db _) o) _
    exact Int.le_max_left _ _
   ·exact Int.le_max_right _ _
  ·exact Int.le_refl _
end
end
section
open Go.RowKit
theorem iZ {db:List Ls} (hs:Jc db) {l:Ls} (hl:0≤l.s) (o:Int):Ub db o≤Ub (Mc db l) o:=by
  rw [L4 hs hl]
  split
  ·exact Int.le_max_left _ _
  ·exact Int.le_refl _
section
variable {w:Wd}
theorem jA {i:Nat} (hi:i<w.db.length) (n:Nat):Qa (Xf w i).db n=if n=i then Mc (Qa w.db i) (Wf w i) else Qa w.db n:=Hm hi
theorem jB {i:Nat} (hi:i<w.db.length) (hs:∀n,Jc (Qa w.db n)) (h0:0≤iz w.sq i+1) (n:Nat) (o:Int):Ub (Qa w.db n) o≤Ub (Qa (Xf w i).db n) o:=by
  rw [jA hi]
  split
  ·rename_i e;subst e;exact iZ (hs n) h0 o
  ·exact Int.le_refl _
theorem yAF {i:Nat} (hi:i<w.db.length) (hs:∀n,Jc (Qa w.db n)) (n:Nat):Jc (Qa (Xf w i).db n):=by
  rw [jA hi]
  split
  ·exact TJ (hs i) _
  ·exact hs n
theorem yAG {t:Nat} (ht:t<w.db.length) {l:Ls} (hs:∀n,Jc (Qa w.db n)) (hl:0≤l.s) (n:Nat) (o:Int):Ub (Qa w.db n) o≤Ub (Qa (Xj w t l).db n) o:=by
  unfold Xj
  split
  ·show _≤Ub (Qa (w.db.set t _) n) o
   rw [Hm ht]
   split
   ·rename_i e;subst e;exact iZ (hs n) hl o
   ·exact Int.le_refl _
  ·exact Int.le_refl _
theorem yAH (h:WV w Nb) {k:Nat} (hk:k<w.ls.length) (u:Bool) (n:Nat) (o:Int):Ub (Qa w.db n) o≤Ub (Qa (Eg w k u).db n) o:=by
  unfold Eg
  split
  ·exact Int.le_refl _
  ·have ho:=h.g.ok (Wi hk)
   have hdb:=h.db
   have hsq:=h.sq
   unfold Lg at ho
   have ha:(lk w.ls k).a.toNat<w.db.length:=by omega
   have hb:(lk w.ls k).b.toNat<w.db.length:=by omega
   generalize (lk w.ls k).a.toNat=a at *
   generalize (lk w.ls k).b.toNat=b at *
   have ra:=h.rng a (by omega)
   have rb:=h.rng b (by omega)
   have K:=h.know.srt
   have s1:=yAF (w:={ w with up:=w.up.set k u }) (i:=a) ha K
   have n1:=jB (w:={ w with up:=w.up.set k u }) (i:=a) ha K (by show 0≤iz w.sq a+1;omega) n o
   have l1:(Xf { w with up:=w.up.set k u } a).db.length=w.db.length:=by simp [Xf]
   have q:0≤iz (Xf { w with up:=w.up.set k u } a).sq b+1:=by
     show 0≤iz (w.sq.set a (iz w.sq a+1)) b+1
     by_cases e:a=b
     ·subst e
      have:iz (w.sq.set a (iz w.sq a+1)) a=iz w.sq a+1:=by simp [iz,show a<w.sq.length by omega]
      omega
     ·have:iz (w.sq.set a (iz w.sq a+1)) b=iz w.sq b:=by simp [iz,List.getElem?_set,e]
      omega
   exact Int.le_trans n1 (jB (by omega) s1 q n o)
theorem yAI (h:WV w Nb) (kind a:Int) (n:Nat) (o:Int):Ub (Qa w.db n) o≤Ub (Qa (Uc w kind a).db n) o:=by
  have hup:=h.up
  have K:=h.know.srt
  unfold Uc
  split
  ·exact yAH h (by omega) _ n o
  split
  ·rename_i hx
   have hp:=Eo (net:=w.net) (i:=a.toNat) (by omega)
   have q:=h.tgt _ hp
   have hdb:=h.db
   exact yAG (w:={ w with net:=w.net.eraseIdx a.toNat }) (by show _<w.db.length;omega) K (by
     have:=(h.poss _ (.inr ⟨_,hp,rfl⟩)).1
     unfold Gf at this
     omega) n o
  split
  ·exact Int.le_refl _
  split
  ·split
   ·exact Int.le_refl _
   ·exact Int.le_refl _
  split
  ·exact iY h (by omega) n o
  ·exact Int.le_refl _
end
end
section
open Go.RowKit
theorem EB (es:List Bool) (i:Nat):Aa .bool es i=es.getD i false:=by
  induction es generalizing i with
  |nil=>rfl
  |cons z r ih=>cases i with
   |zero=>rfl
   |succ i=>exact (ih i).trans (by simp)
theorem Vg (es:List (List Ls)) (i:Nat):Aa .db es i=Qa es i:=by
  induction es generalizing i with
  |nil=>rfl
  |cons z r ih=>cases i with
   |zero=>rfl
   |succ i=>exact (ih i).trans (by simp [Qa])
theorem Wp (es:List Pk) (i:Nat):Aa .pk es i=Ob es i:=by
  induction es generalizing i with
  |nil=>rfl
  |cons z r ih=>cases i with
   |zero=>rfl
   |succ i=>exact (ih i).trans (by simp [Ob])
abbrev Wt:=Int×List Lk×List Bool×List Int×List (List Ls)×List Pk×Unit
def wt (w:Wd):Wt:=(w.n,w.ls,w.up,w.sq,w.db,w.net,())
theorem yAJ {ls:List Lk} {k:Nat} (h:k<ls.length):ls.take k++[lk ls k]=ls.take (k+1):=by
  rw [List.take_add_one,List.getElem?_eq_getElem h,Ii h];rfl
theorem zE5 (n:Int) (ls:List Lk) (hl:ls.length≤1000):VO (n,ls,())=some (n,ls,()):=by
  unfold VO
  refine Ba.out (Ba.bnd (R:=fun r=>match r with| .inl x=>x=(0,n,[],ls,())| .inr _=>False) ?_ ?_)
  ·refine Ba.count ls.length (fun k t=>t=(ls,(ls.length:Int),(k:Int),0,n,[],ls.take k,())) ?_ (Nat.zero_le _) (Jb (by omega)) (by simp [Ta])
   rintro k t hk rfl
   simp (disch:=omega) only [UO,HY,Ff,Wa,Na,Ta,Option.bind_some]
   by_cases hlt:k<ls.length
   ·refine Ba.gd (decide_eq_true (by omega)) (Ba.gd (Ia (by omega) (by omega)) (Ba.ite (fun _=>Ba.gd (decide_eq_true (by simp only [List.length_take,List.length_singleton];omega)) (.some ⟨hlt,?_⟩)) (fun hh=>by cases hh)))
    rw [←yAJ hlt];rfl
   ·obtain rfl:k=ls.length:=by omega
    rw [List.take_length]
    exact Ba.no (dF (by omega)) (.some rfl)
  ·rintro (r|r) hr
   case inr=>exact hr.elim
   obtain rfl:=hr
   exact .some rfl
theorem jC (ls:List Lk) (up:List Bool) (k:Nat):(Vh ls up k).length≤k:=by
  unfold Vh
  rw [List.length_map]
  exact Nat.le_trans (List.length_filter_le _ _) (by simp)
theorem jD (w:Wd) (h:w.up.length=w.ls.length) (hl:w.ls.length≤1000):CG (w.n,w.ls,w.up,w.sq,w.db,w.net,())=some (w.n,Kc w.ls w.up,()):=by
  cases w with|mk n ls up sq db net =>
  dsimp only at h hl
  unfold CG JY
  refine Ba.out (Ba.bnd (R:=fun r=>r=(n,Kc ls up,())) (Ba.bnd (R:=fun r=>match r with| .inl x=>x=(0,n,[],Kc ls up,())| .inr _=>False) ?_ ?_) ?_)
  ·refine Ba.count ls.length (fun k t=>t=(n,ls,up,sq,db,net,ls,(ls.length:Int),(k:Int),0,n,[],Vh ls up k,())) ?_ (Nat.zero_le _) (Jb (by omega)) (by simp [Ta,Vh])
   rintro k t hk rfl
   have hq:=jC ls up k
   simp (disch:=omega) only [WO,IY,Ff,EB,Wa,Na,Ta]
   by_cases hlt:k<ls.length
   ·refine Ba.gd (decide_eq_true (by omega)) (Ba.gd (Ia (by omega) (by omega)) (Ba.bnd (R:=fun r=>r=(up.getD k false,())) (Ba.gd (Ia (by omega) (by omega)) (.some rfl)) ?_))
    rintro _ rfl
    refine Ba.ite (fun hu=>Ba.gd (decide_eq_true (by simp only [List.length_singleton];omega)) (.some ⟨hlt,?_⟩)) (fun hu=>.some ⟨hlt,?_⟩)
    ·have hu:up.getD k false=true:=hu
     rw [IR,if_pos hu];rfl
    ·have hu:up.getD k false=false:=hu
     rw [IR,hu];rfl
   ·obtain rfl:k=ls.length:=by omega
    refine Ba.no (dF (by omega)) (.some rfl)
  ·rintro (r|r) hr
   case inr=>exact hr.elim
   obtain rfl:=hr
   exact .some rfl
  ·rintro _ rfl
   exact .some rfl
theorem E5 (w:Wd) (h:w.up.length=w.ls.length) (hl:w.ls.length≤1000):Fz (w.n,w.ls,w.up,w.sq,w.db,w.net,())=some (w.n,Kc w.ls w.up,()):=by
  cases w with|mk n ls up sq db net =>
  dsimp only at h hl
  unfold Fz
  refine Ba.out (Ba.bnd (R:=fun r=>match r with| .inl x=>x=(0,[],n,Kc ls up,())| .inr _=>False) ?_ ?_)
  ·refine Ba.count ls.length (fun k t=>t=((k:Int),n,ls,up,sq,db,net,0,[],n,Vh ls up k,())) ?_ (Nat.zero_le _) (Jb (by omega)) (by simp [Ta,Vh])
   rintro k t hk rfl
   have hq:=jC ls up k
   simp (disch:=omega) only [QO,Ff,EB,Wa,Na,Ta]
   by_cases hlt:k<ls.length
   ·refine Ba.gd (decide_eq_true (by omega)) (Ba.gd (Ia (by omega) (by omega)) ?_)
    refine Ba.ite (fun hu=>Ba.gd (Ia (by omega) (by omega)) (Ba.gd (decide_eq_true (by simp only [List.length_singleton];omega)) (.some ⟨hlt,?_⟩))) (fun hu=>.some ⟨hlt,?_⟩)
    ·have hu:up.getD k false=true:=hu
     rw [IR,if_pos hu];rfl
    ·have hu:up.getD k false=false:=hu
     rw [IR,hu];rfl
   ·obtain rfl:k=ls.length:=by omega
    refine Ba.no (dF (by omega)) (.some rfl)
  ·rintro (r|r) hr
   case inr=>exact hr.elim
   obtain rfl:=hr
   exact .some rfl
theorem Md.len {db:List Ls} (h:Md db):db.length≤8:=by
  have key:∀i,i<db.length→(i:Int)≤(Ib db i).o:=fun i=>by
    induction i with
    |zero=>intro hi;exact (h 0 hi).1.1
    |succ i ih =>
     intro hi
     have h1:=ih (by omega)
     have h2:=(h (i+1) hi).2 (by omega)
     rw [Nat.add_sub_cancel] at h2
     omega
  rcases Nat.lt_or_ge 8 db.length with h8|h8
  ·have h1:=key 8 h8
   have h2:=(h 8 h8).1.2.1
   omega
  ·exact h8
theorem Gf.len {l:Ls} (h:Gf l):l.e.length≤8:=by
  have key:∀i,i<l.e.length→(i:Int)≤(en l.e i).n:=fun i=>by
    induction i with
    |zero=>intro hi;exact (h.2.2.2.2 0 hi).1
    |succ i ih =>
     intro hi
     have h1:=ih (by omega)
     have h2:=(h.2.2.2.2 (i+1) hi).2.2.2.2.2 (by omega)
     rw [Nat.add_sub_cancel] at h2
     omega
  rcases Nat.lt_or_ge 8 l.e.length with h8|h8
  ·have h1:=key 8 h8
   have h2:=(h.2.2.2.2 8 h8).2.1
   omega
  ·exact h8
theorem Md.sm {db:List Ls} (h:Md db):Ze db:=⟨by have:=h.len;unfold Sm;omega,fun l hl=>by
  have:=((Co.1 h).1 l hl).len
  unfold Sm;omega⟩
theorem Gf.sm {l:Ls} (h:Gf l):Sm l.e:=by have:=h.len;unfold Sm;omega
theorem Md.so {db:List Ls} (h:Md db):Jc db:=Mi.1 h.srt
theorem WV.nn {w:Wd} {A:Int→Prop} (h:WV w A):1≤w.n∧w.n≤8:=⟨h.g.1,h.g.2.1⟩
theorem WV.lsl {w:Wd} {A:Int→Prop} (h:WV w A):w.ls.length≤14:=h.g.2.2.1
theorem yAK {n:Int} {ls:List Lk} (g:GV n ls) (m:Int):Rr (n,ls,m,())=some (Hc ls m n.toNat,()):=by
  have h1:=g.1
  have h3:=g.2.2.1
  obtain ⟨N,rfl⟩:=Int.eq_ofNat_of_zero_le (show 0≤n by omega)
  rw [E4 _ _ _ (by omega),G4 g,Int.toNat_natCast]
theorem nb8 {N:Nat} {ls:List Lk} (g:GV N ls) (m:Int):Hc ls m 8=Hc ls m N:=by
  have h2:=g.2.1
  refine CR (QJ ls m 8) (QJ ls m N) fun x=>?_
  rw [Bj,Bj]
  constructor
  ·rintro ⟨j,_,rfl,h⟩
   have:=RJ g h
   exact ⟨j,by omega,rfl,h⟩
  ·rintro ⟨j,hj,rfl,h⟩
   exact ⟨j,by omega,rfl,h⟩
theorem yAL {n:Int} {ls:List Lk} (g:GV n ls) (m:Int):YD (n,ls,m,())=some (Hc ls m n.toNat,()):=by
  have h1:=g.1
  have h3:=g.2.2.1
  obtain ⟨N,rfl⟩:=Int.eq_ofNat_of_zero_le (show 0≤n by omega)
  rw [zF6 _ _ _ (show Bb ls by unfold Bb;omega),if_pos (show gv (N:Int) ls=true from decide_eq_true g),Int.toNat_natCast,nb8 g m]
theorem CK {l:Ls} {ex:Int} {net:List Pk} {nb:List Int} {k:Nat} (h:k<nb.length):Nd l ex net (nb.take (k+1))=Wj l ex (Nd l ex net (nb.take k)) (iz nb k):=by
  unfold Nd
  rw [List.take_add_one,List.getElem?_eq_getElem h,List.foldl_append]
  congr 1
  simp [iz,List.getD,h]
theorem yAM {l:Ls} {ex:Int} {net:List Pk} {m:Int} (h:16≤net.length):Wj l ex net m=net:=if_neg (by omega)
theorem jE {l:Ls} {ex:Int} {net:List Pk} (h:16≤net.length):∀nb:List Int,Nd l ex net nb=net
  |[]=>rfl
  |m::r=>by
   show Nd l ex (Wj l ex net m) r=net
   rw [yAM h,jE h r]
theorem yAN {l:Ls} {ex:Int} {net:List Pk} {nb:List Int} {k:Nat} (h:16≤(Nd l ex net (nb.take k)).length):Nd l ex net (nb.take k)=Nd l ex net nb:=by
  have:Nd l ex net nb=Nd l ex (Nd l ex net (nb.take k)) (nb.drop k):=by
    conv=>lhs;rw [←List.take_append_drop k nb]
    unfold Nd
    rw [List.foldl_append]
  rw [this,jE h]
theorem jF (w:Wd) (i ex:Int) (l:Ls) (g:GV w.n w.ls) (hu:w.up.length=w.ls.length) (hn:w.net.length≤16) (hl:Sm l.e):Sv (i,l.o,l.s,l.e,ex,w.n,w.ls,w.up,w.sq,w.db,w.net,())=some (w.n,w.ls,w.up,w.sq,w.db,Nd l ex w.net (Hc (Kc w.ls w.up) i w.n.toNat),()):=by
  have h14:=g.2.2.1
  unfold Sv
  dsimp only
  rw [jD w hu (by omega)]
  simp only [Option.bind_some,yAK (Vp g w.up)]
  have h8:=Br (Kc w.ls w.up) i w.n.toNat
  have hn8:=g.2.1
  generalize Hc (Kc w.ls w.up) i w.n.toNat=nb at h8 ⊢
  refine Ba.out (Ba.bnd (R:=fun r=>match r with| .inl x=>x=(w.n,w.ls,w.up,w.sq,w.db,Nd l ex w.net nb,())| .inr _=>False) ?_ ?_)
  ·refine Ba.count nb.length (fun k t=>t=(ex,(nb.length:Int),(k:Int),w.n,w.ls,w.up,w.sq,w.db,l.o,l.s,l.e,nb,Nd l ex w.net (nb.take k),())) ?_ (Nat.zero_le _) (Jb (by omega)) (by simp [Ta,Nd])
   rintro k t hk rfl
   simp (disch:=omega) only [IQ,HQ,Tc,Wa,Na,Ta,HR _ _ _ hl,Option.bind_some]
   by_cases hlt:k<nb.length
   ·refine Ba.gd (decide_eq_true (by omega)) (Ba.gd (Ia (by omega) (by omega)) (Ba.ite (fun he=>Ba.ite (fun hf=>?_) (fun hf=>?_)) (fun he=>?_)))
    ·have he:¬iz nb k=ex:=by simpa using he
     have hf:=oT hf
     refine Ba.bnd (R:=fun r=>r=.inl (ex,(nb.length:Int),(k:Int),w.n,w.ls,w.up,w.sq,w.db,l.o,l.s,l.e,nb,Nd l ex w.net (nb.take k)++[⟨iz nb k,l⟩],())) (Ba.gd (decide_eq_true (by simp only [List.length_singleton];omega)) (.some rfl)) ?_
     rintro _ rfl
     simp (disch:=omega) only [Na]
     refine .some ⟨hlt,?_⟩
     rw [CK hlt,Wj,if_pos ⟨he,by omega⟩]
     rfl
    ·have hf:=oF hf
     refine .some ⟨hlt,?_⟩
     rw [CK hlt,Wj,if_neg (by omega)]
     rfl
    ·have he:iz nb k=ex:=by simpa using he
     refine .some ⟨hlt,?_⟩
     rw [CK hlt,Wj,if_neg (fun hh=>hh.1 he)]
     rfl
   ·obtain rfl:k=nb.length:=by omega
    rw [List.take_length]
    exact Ba.no (dF (by omega)) (.some rfl)
  ·rintro (r|r) hr
   case inr=>exact hr.elim
   obtain rfl:=hr
   exact .some rfl
theorem jG (w:Wd) (i ex:Int) (l:Ls) (g:GV w.n w.ls) (hu:w.up.length=w.ls.length) (hn:w.net.length≤16) (hl:Sm l.e):YH (w.n,i,l.o,l.s,l.e,ex,w.ls,w.up,w.sq,w.db,w.net,())=some (w.n,w.ls,w.up,w.sq,w.db,Nd l ex w.net (Hc (Kc w.ls w.up) i w.n.toNat),()):=by
  have h14:=g.2.2.1
  unfold YH
  dsimp only
  rw [E5 w hu (by omega)]
  simp only [Option.bind_some,yAL (Vp g w.up)]
  have h8:=Br (Kc w.ls w.up) i w.n.toNat
  have hn8:=g.2.1
  generalize Hc (Kc w.ls w.up) i w.n.toNat=nb at h8 ⊢
  refine Ba.out (Ba.bnd (R:=fun r=>match r with| .inl x=>x=(w.ls,w.up,w.sq,w.db,w.n,0,[],[],[],[],[],Nd l ex w.net nb,())| .inr _=>False) ?_ ?_)
  ·refine Ba.count nb.length (fun k t=>t=(ex,(k:Int),w.ls,w.up,w.sq,w.db,w.n,l.o,l.s,l.e,0,[],[],[],[],[],nb,Nd l ex w.net (nb.take k),())) ?_ (Nat.zero_le _) (Jb (by omega)) (by simp [Ta,Nd])
   rintro k t hk rfl
   simp (disch:=omega) only [FQ,Tc,Wa,Na,Ta,BB _ _ _ hl,Option.bind_some]
   by_cases hlt:k<nb.length
   ·refine Ba.gd (decide_eq_true (by omega)) (Ba.ite (fun hf=>?_) (fun hf=>?_))
    ·have hf:=oT hf
     refine Ba.gd (Ia (by omega) (by omega)) (Ba.ite (fun he=>?_) (fun he=>?_))
     ·have he:¬iz nb k=ex:=by simpa using he
      refine Ba.gd (Ia (by omega) (by omega)) (Ba.gd (decide_eq_true (by simp only [List.length_nil];omega)) (Ba.gd (decide_eq_true (by simp only [List.nil_append,List.length_singleton];omega)) (.some ⟨hlt,?_⟩)))
      rw [CK hlt,Wj,if_pos ⟨he,by omega⟩]
      rfl
     ·have he:iz nb k=ex:=by simpa using he
      refine .some ⟨hlt,?_⟩
      rw [CK hlt,Wj,if_neg (fun hh=>hh.1 he)]
      rfl
    ·have hf:=oF hf
     exact .some (by rw [yAN (by omega)])
   ·obtain rfl:k=nb.length:=by omega
    rw [List.take_length]
    exact Ba.no (dF (by omega)) (.some rfl)
  ·rintro (r|r) hr
   case inr=>exact hr.elim
   obtain rfl:=hr
   exact .some rfl
end
section
open Go.RowKit
theorem La {α β:Type} {o:Option α} {f:α→Option β} {r:α} {Q:β→Prop} (h:o=some r) (k:Ba (f r) Q):Ba (o.bind f) Q:=by subst h;exact k
theorem yAO {α:Type} {l:List α} {i:Nat} {d:α} (h:i<l.length):l.set i (l.getD i d)=l:=by
  rw [List.getD,List.getElem?_eq_getElem h]
  exact List.set_getElem_self h
theorem yAP {n:Int} {ls:List Lk} (g:GV n ls) (o s:Int):Dz (n,ls,o,s,())=some (o,s,Oc ls n.toNat o,()):=by
  have h1:=g.1
  obtain ⟨N,rfl⟩:=Int.eq_ofNat_of_zero_le (show 0≤n by omega)
  exact hY g o s
theorem jH {n:Int} {ls:List Lk} (g:GV n ls) (o s:Int):Ms (n,ls,o,s,())=some (o,s,Oc ls n.toNat o,()):=by
  have h1:=g.1
  obtain ⟨N,rfl⟩:=Int.eq_ofNat_of_zero_le (show 0≤n by omega)
  exact iB g o s
section
variable {w:Wd} {A:Int→Prop}
theorem zDX (h:WV w A) {i:Nat} (hi:i<w.db.length) (h99:iz w.sq i<99):Bm ((i:Int),w.n,w.ls,w.up,w.sq,w.db,w.net,())=some (wt (Xf w i)):=by
  have hsq:=h.sq
  have hdb:=h.db
  have his:i<w.sq.length:=by omega
  have hr:=h.rng i his
  have h14:=h.lsl
  have hd:=h.ok i hi
  have hnw:=W4 h hi h99
  have hlen:=hd.len
  have b1:CI ((i:Int),w.n,w.ls,w.up,w.sq.set i (iz w.sq i+1),w.db,w.net,())=some (.inl ((i:Int),w.n,w.ls,w.up,w.sq.set i (iz w.sq i+1),w.db,(i:Int),iz w.sq i+1,w.net,Oc (Kc w.ls w.up) w.n.toNat i,())):=by
    unfold CI
    simp only [Wa,Tc]
    refine Ba.out (Ba.gd (Ia (by omega) (by rw [List.length_set];omega)) (La (jD { w with sq:=w.sq.set i (iz w.sq i+1) } h.up (by show w.ls.length≤1000;omega)) ?_))
    dsimp only
    refine La (yAP (Vp h.g w.up) _ _) (.some ?_)
    dsimp only
    rw [XJ his,if_pos rfl]
  have b2:DI ((i:Int),w.n,w.ls,w.up,w.sq.set i (iz w.sq i+1),w.db,(i:Int),iz w.sq i+1,w.net,Oc (Kc w.ls w.up) w.n.toNat i,())=some (.inl ((i:Int),w.n,w.ls,w.up,w.sq.set i (iz w.sq i+1),w.db.set i (Mc (Qa w.db i) (Wf w i)),(i:Int),iz w.sq i+1,w.net,Oc (Kc w.ls w.up) w.n.toNat i,())):=by
    unfold DI
    simp only [Wa,Vg]
    exact Ba.out (Ba.gd (Ia (by omega) (by omega)) (La (P4 (Qa w.db i) (Wf w i) hd.so hd.sm hnw.sm (by omega)) (Ba.gd (Ia (by omega) (by omega)) (.some rfl))))
  unfold Bm
  simp (disch:=omega) only [Wa,Tc,Na]
  refine Ba.out (Ba.gd (Ia (by omega) (by omega)) (Ba.gd (Ia (by omega) (by omega)) (La b1 ?_)))
  dsimp only
  refine La b2 ?_
  dsimp only
  exact La (jF { w with sq:=w.sq.set i (iz w.sq i+1),db:=w.db.set i (Mc (Qa w.db i) (Wf w i)) } (i:Int) (-1) (Wf w i) h.g h.up h.net hnw.sm) (.some rfl)
theorem zFp (h:WV w A) {i:Nat} (hi:i<w.db.length) (h99:iz w.sq i<99):Tz (w.n,(i:Int),w.ls,w.up,w.sq,w.db,w.net,())=some (wt (Xf w i)):=by
  have hsq:=h.sq
  have hdb:=h.db
  have his:i<w.sq.length:=by omega
  have hr:=h.rng i his
  have h14:=h.lsl
  have hd:=h.ok i hi
  have hnw:=W4 h hi h99
  have b1:ZH ((i:Int),w.ls,w.up,w.sq.set i (iz w.sq i+1),w.db,w.n,0,[],[],[],[],[],w.net,())=some (.inl ((i:Int),w.ls,w.up,w.sq.set i (iz w.sq i+1),w.db,w.n,0,[],[],[],[],[],(i:Int),iz w.sq i+1,w.net,Oc (Kc w.ls w.up) w.n.toNat i,())):=by
    unfold ZH
    simp only [Wa,Tc]
    refine Ba.out (Ba.gd (Ia (by omega) (by rw [List.length_set];omega)) (La (E5 { w with sq:=w.sq.set i (iz w.sq i+1) } h.up (by show w.ls.length≤1000;omega)) ?_))
    dsimp only
    refine La (jH (Vp h.g w.up) _ _) (.some ?_)
    dsimp only
    rw [XJ his,if_pos rfl]
  unfold Tz
  simp (disch:=omega) only [Wa,Tc,Na]
  refine Ba.out (Ba.gd (Ia (by omega) (by omega)) (Ba.gd (Ia (by omega) (by omega)) (La b1 ?_)))
  simp only [Wa,Vg]
  refine Ba.gd (Ia (by omega) (by omega)) (La (Q4 (Qa w.db i) (Wf w i) hd.so hd.sm hnw.sm) (Ba.gd (Ia (by omega) (by omega)) ?_))
  exact La (jG { w with sq:=w.sq.set i (iz w.sq i+1),db:=w.db.set i (Mc (Qa w.db i) (Wf w i)) } (i:Int) (-1) (Wf w i) h.g h.up h.net hnw.sm) (.some rfl)
theorem jI (h:WV w A) {i:Int} (h0:0≤i) (hi:i<w.n) (h99:iz w.sq i.toNat<99):Bm (i,w.n,w.ls,w.up,w.sq,w.db,w.net,())=some (wt (Xf w i.toNat)):=by
  have hdb:=h.db
  obtain ⟨k,rfl⟩:=Int.eq_ofNat_of_zero_le h0
  exact zDX h (by omega) h99
theorem jJ (h:WV w A) {i:Int} (h0:0≤i) (hi:i<w.n) (h99:iz w.sq i.toNat<99):Tz (w.n,i,w.ls,w.up,w.sq,w.db,w.net,())=some (wt (Xf w i.toNat)):=by
  have hdb:=h.db
  obtain ⟨k,rfl⟩:=Int.eq_ofNat_of_zero_le h0
  exact zFp h (by omega) h99
structure FB (w:Wd):Prop where
  ls:w.ls.length≤2000000
  up:w.up.length≤2000000
  sq:w.sq.length≤2000000
  db:w.db.length≤2000000
  net:w.net.length≤2000000
  dbs:∀i,i<w.db.length→Ze (Qa w.db i)
  pks:∀i,i<w.net.length→Sm (Ob w.net i).p.e
theorem WV.sm (h:WV w A):FB w:=by
  have h1:=h.lsl
  have h2:=h.up
  have h3:=h.sq
  have h4:=h.db
  have h5:=h.net
  have h6:=h.nn
  exact ⟨by omega,by omega,by omega,by omega,by omega,fun i hi=>(h.ok i hi).sm,fun i hi=>(h.poss _ (.inr ⟨_,Eo hi,rfl⟩)).1.sm⟩
theorem F5 {db:List (List Ls)} {k:Nat} (h:k<db.length):db.take k++[Qa db k]=db.take (k+1):=by
  rw [List.take_add_one,List.getElem?_eq_getElem h];simp [Qa,List.getD,h]
theorem jK {net:List Pk} {k:Nat} (h:k<net.length):net.take k++[⟨(Ob net k).t,⟨(Ob net k).p.o,(Ob net k).p.s,(Ob net k).p.e⟩⟩]=net.take (k+1):=by
  rw [List.take_add_one,List.getElem?_eq_getElem h]
  have:Ob net k=net[k]:=by simp [Ob,List.getD,h]
  rw [this];rfl
theorem jL (n:Int) (ls:List Lk) (hl:ls.length≤2000000):OF (n,ls,())=some (n,ls,()):=by
  unfold OF
  exact Ba.out (Ba.gd (decide_eq_true (by simp only [List.length_nil];omega)) (.some rfl))
theorem DK (h:FB w):Lp (w.n,w.ls,w.up,w.sq,w.db,w.net,())=some (w.n,w.ls,w.up,w.sq,w.db,w.net,()):=by
  have h1:=h.ls
  have h2:=h.up
  have h3:=h.sq
  have h4:=h.db
  have h5:=h.net
  cases w with|mk n ls up sq db net =>
  dsimp only at h1 h2 h3 h4 h5 ⊢
  have b1:ZF (n,ls,up,sq,db,net,0,[],[],[],[],[],())=some (.inl (n,ls,up,sq,db,net,0,[],[],[],[],[],n,ls,up,sq,[],[],())):=by
    unfold ZF
    exact Ba.out (La (jL n ls h1) (Ba.gd (decide_eq_true (by simp;omega)) (Ba.gd (decide_eq_true (by simp;omega)) (.some (by simp)))))
  unfold Lp
  refine Ba.out (La b1 ?_)
  refine Ba.bnd (R:=fun r=>match r with| .inl x=>x=(n,ls,up,sq,db,net,0,[],[],[],[],[],n,ls,up,sq,db,[],())| .inr _=>False) ?_ ?_
  ·refine Ba.count db.length (fun k t=>t=((k:Int),n,ls,up,sq,db,net,0,[],[],[],[],[],n,ls,up,sq,db.take k,[],())) ?_ (Nat.zero_le _) (Jb (by omega)) (by simp [Ta])
   rintro k t hk rfl
   by_cases hlt:k<db.length
   ·have e1:=VJ _ (h.dbs k hlt)
    simp (disch:=omega) only [AG,Vg,Wa,Na,Ta,e1,Option.bind_some]
    refine Ba.gd (decide_eq_true (by omega)) (Ba.gd (Ia (by omega) (by omega)) (Ba.gd (decide_eq_true (by simp;omega)) (.some ⟨hlt,?_⟩)))
    rw [←F5 hlt];rfl
   ·obtain rfl:k=db.length:=by omega
    unfold AG
    simp only [Ta]
    refine Ba.no (dF (by first|omega|(dsimp only;omega))) (.some ?_)
    rw [List.take_length]
  rintro (r|r) hr
  case inr=>exact hr.elim
  obtain rfl:=hr
  refine Ba.bnd (R:=fun r=>match r with| .inl x=>x=(0,[],[],[],[],[],n,ls,up,sq,db,net,())| .inr _=>False) ?_ ?_
  ·refine Ba.count net.length (fun k t=>t=((k:Int),n,ls,up,sq,db,net,0,[],[],[],[],[],n,ls,up,sq,db,net.take k,())) ?_ (Nat.zero_le _) (Jb (by omega)) (by simp [Ta])
   rintro k t hk rfl
   by_cases hlt:k<net.length
   ·have e1:=BB (Ob net k).p.o (Ob net k).p.s _ (h.pks k hlt)
    simp (disch:=omega) only [BG,Wp,Wa,Na,Ta,e1,Option.bind_some]
    refine Ba.gd (decide_eq_true (by omega)) (Ba.gd (Ia (by omega) (by omega)) (Ba.gd (Ia (by omega) (by omega)) ?_))
    refine Ba.gd (decide_eq_true (by simp;omega)) (.some ⟨hlt,?_⟩)
    rw [←jK hlt];rfl
   ·obtain rfl:k=net.length:=by omega
    unfold BG
    simp only [Ta]
    refine Ba.no (dF (by first|omega|(dsimp only;omega))) (.some ?_)
    rw [List.take_length]
  rintro (r|r) hr
  case inr=>exact hr.elim
  obtain rfl:=hr
  exact .some rfl
end
end
section
open Go.RowKit
section
variable {w:Wd} {A:Int→Prop}
theorem G5 {kind a:Int} (hk:kind=1∨kind=2):Uc w kind a=if 0≤a∧a<w.up.length then Eg w a.toNat (decide (kind=2)) else w:=by
  unfold Uc
  rcases hk with rfl|rfl<;>simp
theorem OR {a:Int}:Uc w 3 a=if 0≤a∧a<w.net.length then Xj { w with net:=w.net.eraseIdx a.toNat } (Ob w.net a.toNat).t.toNat (Ob w.net a.toNat).p else w:=by
  unfold Uc;simp
theorem PR {a:Int}:Uc w 4 a=if 0≤a∧a<w.net.length then { w with net:=w.net.eraseIdx a.toNat } else w:=by
  unfold Uc;simp
theorem QR {a:Int}:Uc w 5 a=if 0≤a∧a<w.net.length then (if w.net.length<16 then { w with net:=w.net++[Ob w.net a.toNat] } else w) else w:=by
  unfold Uc;simp
theorem H5 {a:Int}:Uc w 6 a=if 0≤a∧a<w.up.length then Fg w a.toNat else w:=by
  unfold Uc;simp
theorem jM {kind a:Int} (h1:kind≠1) (h2:kind≠2) (h3:kind≠3) (h4:kind≠4) (h5:kind≠5) (h6:kind≠6):Uc w kind a=w:=by
  unfold Uc;simp [h1,h2,h3,h4,h5,h6]
theorem jN (h:WV w Nb) {k:Nat} (hk:k<w.ls.length) (u:Bool) (ha:iz w.sq (lk w.ls k).a.toNat<99) (hb:iz w.sq (lk w.ls k).b.toNat<99):∃A,WV (Xf { w with up:=w.up.set k u } (lk w.ls k).a.toNat) A∧iz (Xf { w with up:=w.up.set k u } (lk w.ls k).a.toNat).sq (lk w.ls k).b.toNat<99:=by
  have hdb:=h.db
  have hsq:=h.sq
  have ho:=h.g.ok (Wi hk)
  unfold Lg at ho
  refine ⟨_,Z4 (LR h hk u) (i:=(lk w.ls k).a.toNat) (by show _<w.db.length;omega) (by show iz w.sq _<99;omega),?_⟩
  show iz (w.sq.set (lk w.ls k).a.toNat _) (lk w.ls k).b.toNat<99
  rw [XJ (by omega),if_neg (by omega)]
  omega
theorem jO (h:WV w Nb) {k:Nat} (hk:k<w.ls.length) (u:Bool):Xn (w.n,w.ls,w.up,w.sq,w.db,w.net,(k:Int),u,())=some (wt (Eg w k u)):=by
  have hdb:=h.db
  have hsq:=h.sq
  have hup:=h.up
  have ho:=h.g.ok (Wi hk)
  unfold Lg at ho
  have main:w.up.getD k false≠u→iz w.sq (lk w.ls k).a.toNat<99→iz w.sq (lk w.ls k).b.toNat<99→BI (w.n,0,[],[],[],[],[],(lk w.ls k).a,(lk w.ls k).b,(lk w.ls k).c,w.ls,w.up.set k u,w.sq,w.db,w.net,())=some (.inl (wt (Eg w k u))):=fun hu ha hb=>by
    obtain ⟨A,v,hv⟩:=jN h hk u ha hb
    unfold BI
    refine Ba.out (La (jJ (LR h hk u) (i:=(lk w.ls k).a) (by omega) (by show _<w.n;omega) ha) ?_)
    dsimp only [wt]
    refine La (jJ v (i:=(lk w.ls k).b) (by omega) (by show _<w.n;omega) hv) (.some ?_)
    unfold Eg
    rw [if_neg (by rintro (e|e|e);exact hu e;omega;omega)]
    rfl
  unfold Xn
  simp only [Wa,Ff,EB,Tc]
  refine Ba.out (Ba.gd (Ia (by omega) (by omega)) (Ba.gd (Ia (by omega) (by omega)) (Ba.ite (fun hc=>.some ?_) (fun hc=>?_))))
  ·have hc:w.up.getD k false=u:=by simpa using hc
   unfold Eg;rw [if_pos (.inl hc)];rfl
  have hc:w.up.getD k false≠u:=by simpa using hc
  refine Ba.gd (Ia (by omega) (by omega)) (Ba.ite (fun ha=>.some ?_) (fun ha=>?_))
  ·have ha:=oT ha
   unfold Eg;rw [if_pos (.inr (.inl ha))];rfl
  have ha:=oF ha
  refine Ba.gd (Ia (by omega) (by omega)) (Ba.ite (fun hb=>.some ?_) (fun hb=>?_))
  ·have hb:=oT hb
   unfold Eg;rw [if_pos (.inr (.inr hb))];rfl
  have hb:=oF hb
  refine La (DK h.sm) ?_
  dsimp only [wt]
  refine Ba.gd (Ia (by omega) (by omega)) (La (main hc (by omega) (by omega)) (.some rfl))
theorem zFu (h:WV w A) {t:Nat} (ht:t<w.db.length) {l:Ls} (hl:Gf l):GQ (w.n,w.ls,w.up,w.sq,w.db,w.net,(t:Int),l.o,l.s,l.e,())=some (wt (Xj w t l)):=by
  have hd:=h.ok t ht
  unfold GQ
  simp only [Wa,Vg]
  refine Ba.out (Ba.gd (Ia (by omega) (by omega)) (La (Q4 (Qa w.db t) l hd.so hd.sm hl.sm) ?_))
  dsimp only
  unfold Xj
  refine Ba.ite (fun hc=>.some ?_) (fun hc=>?_)
  ·have hc:¬Je (Qa w.db t) l=0:=by simpa using hc
   rw [if_neg hc];rfl
  ·have hc:Je (Qa w.db t) l=0:=by simpa using hc
   rw [if_pos hc]
   refine La (DK h.sm) ?_
   dsimp only
   refine Ba.gd (Ia (by omega) (by omega)) ?_
   exact La (jG { w with db:=w.db.set t (Mc (Qa w.db t) l) } (t:Int) l.o l h.g h.up h.net hl.sm) (.some rfl)
theorem jP (h:WV w A) {k:Nat} (hk:k<w.ls.length):Am (w.n,w.ls,w.up,w.sq,w.db,w.net,(k:Int),())=some (wt (Fg w k)):=by
  have hdb:=h.db
  have hup:=h.up
  have ho:=h.g.ok (Wi hk)
  unfold Lg at ho
  have va:=h.ok (lk w.ls k).a.toNat (by omega)
  have vb:=h.ok (lk w.ls k).b.toNat (by omega)
  have vm:=K4 va (Co.1 vb).1
  have la:=va.len
  have lb:=vb.len
  unfold Am Fg
  simp only [Wa,Vg,Ff,EB]
  refine Ba.out (Ba.gd (Ia (by omega) (by omega)) (Ba.gd (Ia (by omega) (by omega)) (Ba.ite (fun hc=>.some ?_) (fun hc=>?_))))
  ·have hc:¬w.up.getD k false=true:=by simpa using hc
   rw [if_neg hc];rfl
  ·have hc:w.up.getD k false=true:=by simpa using hc
   rw [if_pos hc]
   refine La (DK h.sm) ?_
   dsimp only
   refine Ba.gd (Ia (by omega) (by omega)) (Ba.gd (Ia (by omega) (by omega)) (La (zFa _ _ va.so va.sm vb.sm (by omega) (by omega)) ?_))
   dsimp only
   refine Ba.gd (Ia (by omega) (by omega)) (La (VJ _ vm.sm) ?_)
   refine Ba.gd (Ia (by omega) (by rw [List.length_set];omega)) (.some rfl)
theorem toS (k:Nat):Int.toNat ((k:Int)+1)=k+1:=by omega
theorem tkd {α:Type} (l:List α) (j:Nat):List.take (l.length-j) (List.drop j l)=List.drop j l:=List.take_of_length_le (by simp)
theorem jQ {lo hi:Int} {n:Nat} (h1:0≤lo) (h2:lo≤hi) (h3:hi≤n):Gg lo hi n=true:=by unfold Gg;simp;omega
theorem zFw (h:WV w Nb) {kind:Int} (hk:kind=3∨kind=4∨kind=5) (a:Int):Tv (w.n,w.ls,w.up,w.sq,w.db,w.net,kind,a,())=some (wt (Uc w kind a)):=by
  have hnet:=h.net
  have hdb:=h.db
  unfold Tv
  simp (disch:=omega) only [Uk,Option.bind_some,Ta,Na]
  refine Ba.out (Ba.ite (fun hc=>.some ?_) (fun hc=>?_))
  ·have hc:=Bi (show Db a 0 ((w.net.length:Int)-1)=false by simpa using hc)
   rcases hk with rfl|rfl|rfl
   ·rw [OR,if_neg (by omega)];rfl
   ·rw [PR,if_neg (by omega)];rfl
   ·rw [QR,if_neg (by omega)];rfl
  have hc:0≤a∧a≤(w.net.length:Int)-1:=by simpa [Db] using hc
  obtain ⟨k,rfl⟩:=Int.eq_ofNat_of_zero_le hc.1
  have hkn:k<w.net.length:=by omega
  have hm:Ob w.net k∈w.net:=Eo hkn
  have hP:=h.poss _ (.inr ⟨_,hm,rfl⟩)
  have ht:=h.tgt _ hm
  have hV:=hP.1
  have w1:wrap64 ((k:Int)+1)=((k:Int)+1):=Na (by omega) (by omega)
  simp only [w1,Wa,toS,Wp,Int.toNat_zero,List.drop_zero,Nat.sub_zero,List.nil_append,tkd,←List.eraseIdx_eq_take_drop_succ]
  clear w1
  refine Ba.gd (Ia (by omega) (by omega)) ?_
  by_cases h5:kind=5
  ·subst h5
   rw [QR,if_pos ⟨by omega,by omega⟩,Wa]
   refine Ba.gd rfl (Ba.ite (fun hf=>?_) (fun hf=>?_))
   ·have hf:=oT hf
    rw [if_pos (by omega)]
    have e:AI (w.n,w.ls,w.up,w.sq,w.db,w.net,0,[],[],[],[],[],(Ob w.net k).t,(Ob w.net k).p.o,(Ob w.net k).p.s,(Ob w.net k).p.e,())=some (.inl (w.n,w.ls,w.up,w.sq,w.db,0,[],[],[],[],[],w.net++[Ob w.net k],())):=by
      unfold AI
      refine Ba.out (Ba.gd (decide_eq_true (by simp only [List.length_nil];omega)) (Ba.gd (decide_eq_true (by simp only [List.nil_append,List.length_singleton];omega)) (.some (by simp))))
    exact La e (.some rfl)
   ·have hf:=oF hf
    rw [if_neg (by omega)]
    exact .some rfl
  refine Ba.no (dF h5) (Ba.gd (jQ (by omega) (by omega) (by omega)) (Ba.gd (jQ (by omega) (by omega) (by omega)) ?_))
  refine Ba.gd (decide_eq_true (by simp only [List.length_nil,List.length_take];omega)) (Ba.gd (decide_eq_true (by simp only [List.length_take,List.length_drop];omega)) ?_)
  by_cases h3:kind=3
  ·subst h3
   rw [OR,if_pos ⟨by omega,by omega⟩,Wa]
   refine Ba.gd rfl ?_
   obtain ⟨t,ht'⟩:=Int.eq_ofNat_of_zero_le ht.1
   rw [ht']
   exact La (zFu (A5 h k) (t:=t) (by show t<w.db.length;omega) hV) (.some rfl)
  ·have h4:kind=4:=by omega
   subst h4
   rw [PR,if_pos ⟨by omega,by omega⟩,Wa]
   exact Ba.no rfl (.some rfl)
theorem zFs (h:WV w Nb) (kind a:Int):KQ (w.n,w.ls,w.up,w.sq,w.db,w.net,kind,a,())=some (wt (Uc w kind a)):=by
  have hup:=h.up
  have h14:=h.lsl
  have hnet:∀kind,kind=3∨kind=4∨kind=5→Ba ((Tv (w.n,w.ls,w.up,w.sq,w.db,w.net,kind,a,())).bind fun r0=>some ((r0.1,r0.2.1,r0.2.2.1,r0.2.2.2.1,r0.2.2.2.2.1,r0.2.2.2.2.2.1,()))) (·=wt (Uc w kind a)):=fun kind hk=>La (zFw h hk a) (.some rfl)
  unfold KQ
  dsimp only
  by_cases h3:kind=3
  ·subst h3;exact Ba.out (Ba.gd rfl (Ba.gd rfl (hnet 3 (.inl rfl))))
  by_cases h4:kind=4
  ·subst h4;exact Ba.out (Ba.no rfl (Ba.gd rfl (Ba.gd rfl (hnet 4 (.inr (.inl rfl))))))
  by_cases h5:kind=5
  ·subst h5;exact Ba.out (Ba.no rfl (Ba.no rfl (Ba.gd rfl (hnet 5 (.inr (.inr rfl))))))
  refine Ba.out (Ba.no (dF h3) (Ba.no (dF h4) (Ba.no (dF h5) (La (Uk _ _ _) ?_))))
  simp (disch:=omega) only [Ta,Na]
  have out:¬(0≤a∧a<w.up.length)→Uc w kind a=w:=fun hh=>by
    unfold Uc
    simp only [h3,h4,h5,false_and,if_false]
    rw [if_neg (fun q=>hh q.2),if_neg (fun q=>hh q.2)]
  refine Ba.ite (fun hc=>.some ?_) (fun hc=>?_)
  ·have hc:=Bi (show Db a 0 ((w.up.length:Int)-1)=false by simpa using hc)
   rw [out (by omega)];rfl
  have hc:0≤a∧a≤(w.up.length:Int)-1:=by simpa [Db] using hc
  obtain ⟨k,rfl⟩:=Int.eq_ofNat_of_zero_le hc.1
  by_cases h1:kind=1
  ·subst h1
   rw [G5 (.inl rfl),if_pos ⟨by omega,by omega⟩,Wa]
   exact Ba.gd rfl (Ba.gd rfl (La (jO h (by omega) _) (.some rfl)))
  by_cases h2:kind=2
  ·subst h2
   rw [G5 (.inr rfl),if_pos ⟨by omega,by omega⟩,Wa]
   exact Ba.no rfl (Ba.gd rfl (La (jO h (by omega) _) (.some rfl)))
  refine Ba.no (dF h1) (Ba.no (dF h2) ?_)
  by_cases h6:kind=6
  ·subst h6
   rw [H5,if_pos ⟨by omega,by omega⟩,Wa]
   exact Ba.gd rfl (La (jP h (by omega)) (.some rfl))
  ·refine Ba.no (dF h6) (.some ?_)
   rw [jM h1 h2 h3 h4 h5 h6];rfl
end
end
section
open Go.RowKit
section
variable {w:Wd} {A:Int→Prop}
theorem jR (net:List Pk) (k:Nat) (hk:k<net.length) (hn:net.length≤16):UD ((k:Int),(k:Int)+1,net,())=some (net.eraseIdx k,()):=by
  unfold UD
  rw [List.eraseIdx_eq_take_drop_succ]
  exact Ba.out (Ba.gd (decide_eq_true ⟨by omega,rfl,by show (k:Int)<(net.length:Int);omega,by show net.length≤16777216;omega⟩) (.some rfl))
theorem jS (h:WV w Nb) (kind a:Int):HI (kind,a,w.n,w.ls,w.up,w.sq,w.db,w.net,())=some (wt (Uc w kind a)):=by
  have hup:=h.up
  have h14:=h.lsl
  have hnet:=h.net
  have hdb:=h.db
  have hsq:=h.sq
  unfold HI
  simp (disch:=omega) only [Fm,Option.bind_some,Ta,Na]
  by_cases h12:kind=1∨kind=2
  ·rw [G5 h12]
   cases hin:Db a 0 ((w.up.length:Int)-1) with
   |false =>
    have hc:=Bi hin
    rw [if_neg (by omega)]
    rcases h12 with rfl|rfl
    ·exact Ba.out (Ba.gd rfl (Ba.no rfl (Ba.no rfl (Ba.no rfl (Ba.no rfl (Ba.no rfl (.some rfl)))))))
    ·exact Ba.out (Ba.no rfl (Ba.gd rfl (Ba.no rfl (Ba.no rfl (Ba.no rfl (Ba.no rfl (Ba.no rfl (.some rfl))))))))
   |true =>
    have hc:=He hin
    obtain ⟨k,rfl⟩:=Int.eq_ofNat_of_zero_le hc.1
    have hk:k<w.ls.length:=by omega
    have ho:=h.g.ok (Wi hk)
    unfold Lg at ho
    rw [if_pos ⟨by omega,by omega⟩,Wa]
    have main:∀u:Bool,w.up.getD k false≠u→iz w.sq (lk w.ls k).a.toNat<99→iz w.sq (lk w.ls k).b.toNat<99→Ba ((Bm ((lk w.ls k).a,w.n,w.ls,w.up.set k u,w.sq,w.db,w.net,())).bind fun r2=>(Bm (((lk w.ls k).b,(r2.1,(r2.2.1,(r2.2.2.1,(r2.2.2.2.1,(r2.2.2.2.2.1,(r2.2.2.2.2.2.1,()))))))))).bind fun r3=>some ((r3.1,r3.2.1,r3.2.2.1,r3.2.2.2.1,r3.2.2.2.2.1,r3.2.2.2.2.2.1,()))) (·=wt (Eg w k u)):=fun u hu ha hb=>by
      obtain ⟨A,v,hv⟩:=jN h hk u ha hb
      refine La (jI (LR h hk u) (i:=(lk w.ls k).a) (by omega) (by show _<w.n;omega) ha) ?_
      dsimp only [wt]
      refine La (jI v (i:=(lk w.ls k).b) (by omega) (by show _<w.n;omega) hv) (.some ?_)
      unfold Eg
      rw [if_neg (by rintro (e|e|e);exact hu e;omega;omega)]
      rfl
    have same:∀u:Bool,¬(w.up.getD k false≠u∧iz w.sq (lk w.ls k).a.toNat<99∧iz w.sq (lk w.ls k).b.toNat<99)→(w.n,w.ls,w.up,w.sq,w.db,w.net,())=wt (Eg w k u):=fun u hh=>by
      unfold Eg
      rw [if_pos (by
        by_cases e1:w.up.getD k false=u
        ·exact .inl e1
        ·by_cases e2:iz w.sq (lk w.ls k).a.toNat<99
         ·exact .inr (.inr (by
            by_cases e3:iz w.sq (lk w.ls k).b.toNat<99
            ·exact (hh ⟨e1,e2,e3⟩).elim
            ·omega))
         ·exact .inr (.inl (by omega)))]
      rfl
    simp only [Wa,Ff,EB,Tc]
    rcases h12 with rfl|rfl
    ·refine Ba.out (Ba.gd rfl (Ba.gd rfl (Ba.gd (Ia (by omega) (by omega)) (Ba.gd (Ia (by omega) (by omega)) ?_))))
     refine Ba.ite (fun hu=>?_) (fun hu=>.some (same _ (fun q=>q.1 (by simpa using hu))))
     refine Ba.gd (Ia (by omega) (by omega)) (Ba.ite (fun ha=>?_) (fun ha=>.some (same _ (fun q=>oF ha q.2.1))))
     refine Ba.gd (Ia (by omega) (by omega)) (Ba.ite (fun hb=>?_) (fun hb=>.some (same _ (fun q=>oF hb q.2.2))))
     exact Ba.gd (Ia (by omega) (by omega)) (main _ (by simpa using hu) (oT ha) (oT hb))
    ·refine Ba.out (Ba.no rfl (Ba.gd rfl (Ba.gd rfl (Ba.gd (Ia (by omega) (by omega)) (Ba.gd (Ia (by omega) (by omega)) ?_)))))
     refine Ba.ite (fun hu=>?_) (fun hu=>.some (same _ (fun q=>q.1 (by simpa using hu))))
     refine Ba.gd (Ia (by omega) (by omega)) (Ba.ite (fun ha=>?_) (fun ha=>.some (same _ (fun q=>oF ha q.2.1))))
     refine Ba.gd (Ia (by omega) (by omega)) (Ba.ite (fun hb=>?_) (fun hb=>.some (same _ (fun q=>oF hb q.2.2))))
     exact Ba.gd (Ia (by omega) (by omega)) (main _ (by simpa using hu) (oT ha) (oT hb))
  have h1:kind≠1:=fun e=>h12 (.inl e)
  have h2:kind≠2:=fun e=>h12 (.inr e)
  refine Ba.out (Ba.no (dF h1) (Ba.no (dF h2) ?_))
  by_cases h6:kind=6
  ·subst h6
   rw [H5]
   cases hin:Db a 0 ((w.up.length:Int)-1) with
   |false =>
    have hc:=Bi hin
    rw [if_neg (by omega)]
    exact Ba.no rfl (Ba.no rfl (Ba.no rfl (Ba.gd rfl (Ba.no rfl (.some rfl)))))
   |true =>
    have hc:=He hin
    obtain ⟨k,rfl⟩:=Int.eq_ofNat_of_zero_le hc.1
    have hk:k<w.ls.length:=by omega
    have ho:=h.g.ok (Wi hk)
    unfold Lg at ho
    rw [if_pos ⟨by omega,by omega⟩,Wa]
    have va:=h.ok (lk w.ls k).a.toNat (by omega)
    have vb:=h.ok (lk w.ls k).b.toNat (by omega)
    have vm:=K4 va (Co.1 vb).1
    have la:=va.len
    have lb:=vb.len
    have b25:Ce (w.n,w.ls,w.up,w.sq,w.db,(lk w.ls k).a,(lk w.ls k).b,(lk w.ls k).c,Wc (Qa w.db (lk w.ls k).a.toNat) (Qa w.db (lk w.ls k).b.toNat),w.net,())=some (.inl (wt (Do w (lk w.ls k).a.toNat (lk w.ls k).b.toNat))):=by
      unfold Ce
      dsimp only
      refine Ba.out (La (O4 _ vm.sm) (Ba.gd (Ia (by omega) (by omega)) (Ba.gd (Ia (by omega) (by rw [List.length_set];omega)) (.some rfl))))
    unfold Fg
    simp only [Wa,Ff,EB,Vg]
    refine Ba.no rfl (Ba.no rfl (Ba.no rfl (Ba.gd rfl (Ba.gd rfl (Ba.gd (Ia (by omega) (by omega)) (Ba.gd (Ia (by omega) (by omega)) (Ba.ite (fun hc=>?_) (fun hc=>.some ?_))))))))
    ·rw [if_pos hc]
     refine Ba.gd (Ia (by omega) (by omega)) (Ba.gd (Ia (by omega) (by omega)) (La (zFX _ _ va.so va.sm vb.sm (by omega) (by omega)) ?_))
     exact La b25 (.some rfl)
    ·rw [if_neg (by rw [hc];simp)];rfl
  by_cases h345:kind=3∨kind=4∨kind=5
  case neg =>
    have h3:kind≠3:=fun e=>h345 (.inl e)
    have h4:kind≠4:=fun e=>h345 (.inr (.inl e))
    have h5:kind≠5:=fun e=>h345 (.inr (.inr e))
    refine Ba.no (dF h3) (Ba.no (dF h4) (Ba.no (dF h5) (Ba.no (dF h6) (.some ?_))))
    rw [jM h1 h2 h3 h4 h5 h6];rfl
  cases hin:Db a 0 ((w.net.length:Int)-1) with
  |false =>
   have hc:=Bi hin
   rcases h345 with rfl|rfl|rfl
   ·rw [OR,if_neg (by omega)]
    exact Ba.gd rfl (Ba.no rfl (Ba.no rfl (Ba.no rfl (Ba.no rfl (.some rfl)))))
   ·rw [PR,if_neg (by omega)]
    exact Ba.no rfl (Ba.gd rfl (Ba.no rfl (Ba.no rfl (Ba.no rfl (.some rfl)))))
   ·rw [QR,if_neg (by omega)]
    exact Ba.no rfl (Ba.no rfl (Ba.gd rfl (Ba.no rfl (Ba.no rfl (.some rfl)))))
  |true =>
   have hc:=He hin
   obtain ⟨k,rfl⟩:=Int.eq_ofNat_of_zero_le hc.1
   have hkn:k<w.net.length:=by omega
   have hm:Ob w.net k∈w.net:=Eo hkn
   have hP:=h.poss _ (.inr ⟨_,hm,rfl⟩)
   have ht:=h.tgt _ hm
   have hV:=hP.1
   have w1:wrap64 ((k:Int)+1)=((k:Int)+1):=Na (by omega) (by omega)
   rcases h345 with rfl|rfl|rfl
   ·rw [OR,if_pos ⟨by omega,by omega⟩,Wa]
    obtain ⟨t,ht'⟩:=Int.eq_ofNat_of_zero_le ht.1
    have hd:=h.ok t (by omega)
    have hdl:=hd.len
    have b11:Uv (w.n,w.ls,w.up,w.sq,w.db,3,(k:Int),(t:Int),(Ob w.net k).p.o,(Ob w.net k).p.s,(Ob w.net k).p.e,w.net,())=some (.inl (w.n,w.ls,w.up,w.sq,w.db,(t:Int),(Ob w.net k).p.o,(Ob w.net k).p.s,(Ob w.net k).p.e,w.net.eraseIdx k,())):=by
      unfold Uv
      simp only [w1]
      exact Ba.out (La (jR w.net k hkn hnet) (.some rfl))
    clear w1
    simp only [Wa,Wp]
    refine Ba.gd rfl (Ba.gd rfl (Ba.gd (Ia (by omega) (by omega)) ?_))
    rw [ht',Wa]
    refine La b11 ?_
    simp only [Wa,Vg]
    refine Ba.gd (Ia (by omega) (by omega)) (La (P4 (Qa w.db t) (Ob w.net k).p hd.so hd.sm hV.sm (by omega)) ?_)
    dsimp only
    refine Ba.gd (Ia (by omega) (by omega)) ?_
    unfold Xj
    dsimp only
    refine Ba.ite (fun hp=>?_) (fun hp=>.some ?_)
    ·have hp:=oT hp
     rw [if_pos hp]
     exact La (jF { w with db:=w.db.set t (Mc (Qa w.db t) (Ob w.net k).p),net:=w.net.eraseIdx k } (t:Int) (Ob w.net k).p.o (Ob w.net k).p h.g h.up (by show (w.net.eraseIdx k).length≤16;rw [List.length_eraseIdx];split<;>omega) hV.sm) (.some rfl)
    ·have hp:=oF hp
     rw [if_neg hp]
     have:Mc (Qa w.db t) (Ob w.net k).p=Qa w.db t:=by unfold Mc;rw [if_neg hp]
     rw [this]
     have e:w.db.set t (Qa w.db t)=w.db:=yAO (by omega)
     rw [e];rfl
   ·rw [PR,if_pos ⟨by omega,by omega⟩,Wa]
    have b17:Cm (w.n,w.ls,w.up,w.sq,w.db,4,(k:Int),w.net,())=some (.inl (wt { w with net:=w.net.eraseIdx k })):=by
      unfold Cm
      simp only [w1]
      exact Ba.out (La (jR w.net k hkn hnet) (.some rfl))
    exact Ba.no rfl (Ba.gd rfl (Ba.gd rfl (La b17 (.some rfl))))
   ·rw [QR,if_pos ⟨by omega,by omega⟩,Wa]
    refine Ba.no rfl (Ba.no rfl (Ba.gd rfl (Ba.gd rfl (Ba.ite (fun hf=>?_) (fun hf=>.some ?_)))))
    ·have hf:=oT hf
     rw [if_pos (by omega)]
     have b20:Eh (w.n,w.ls,w.up,w.sq,w.db,5,(k:Int),w.net,())=some (.inl (wt { w with net:=w.net++[Ob w.net k] })):=by
       unfold Eh
       simp only [Wa,Wp,HR _ _ _ hV.sm,Option.bind_some]
       exact Ba.out (Ba.gd (Ia (by omega) (by omega)) (Ba.gd (Ia (by omega) (by omega)) (Ba.gd (decide_eq_true (by simp only [List.length_singleton];omega)) (.some rfl))))
     exact La b20 (.some rfl)
    ·have hf:=oF hf
     rw [if_neg (by omega)];rfl
end
end
section
open Go.RowKit
noncomputable def poss (w:Wd) (l:Ls):Bool:=@decide (Cj w Nb l) (Classical.propDecidable _)
theorem RR {w:Wd} {l:Ls}:poss w l=true↔Cj w Nb l:=by unfold poss;simp
theorem I5 {w:Wd} {l:Ls}:poss w l=false↔¬Cj w Nb l:=by unfold poss;simp
theorem yAQ (ls:List Lk) (a b:Int):Ac ls a b<ls.length:=by
  rcases Zq ls a b with ⟨h,_⟩|⟨k,h,hk,_⟩<;>omega
section
variable {w:Wd}
set_option maxHeartbeats 2000000 in
theorem jT (g:GV w.n w.ls) (hu:w.up.length=w.ls.length) (hsq:(w.sq.length:Int)=w.n) (l:Ls) (hl:Sm l.e):VF (w.n,w.ls,w.up,w.sq,w.db,w.net,l.o,l.s,l.e,())=some (poss w l,()):=by
  have h14:=g.2.2.1
  have fl:Bb l.e:=by unfold Bb;unfold Sm at hl;omega
  have fls:Bb w.ls:=by unfold Bb;omega
  unfold Sm at hl
  have no:¬Cj w Nb l→poss w l=false:=fun h=>I5.2 h
  cases l with|mk o s es =>
  cases w with|mk n ls up sq db net =>
  dsimp only at *
  unfold VF
  dsimp only
  rw [hI o s es fl]
  refine Ba.out (Ba.ite (fun hc=>.some ?_) (fun hc=>?_))
  ·rw [no fun h=>oF (show Li o s es=false by simpa using hc) h.1]
  have hV:Gf ⟨o,s,es⟩:=oT (show Li o s es=true by simpa using hc)
  have h0:0≤o:=hV.1
  refine Ba.ite (fun hc=>.some ?_) (fun hc=>?_)
  ·have hc:=oT hc
   rw [no fun h=>by have:o<n:=h.2.1;omega]
  have hn:=oF hc
  simp only [Tc]
  refine Ba.gd (Ia (by omega) (by omega)) (Ba.ite (fun hc=>.some ?_) (fun hc=>?_))
  ·have hc:iz sq o.toNat<s:=oT hc
   rw [no fun h=>by have:s≤iz sq o.toNat:=h.2.2.1;omega]
  have hs:¬iz sq o.toNat<s:=oF hc
  try simp only [Ta]
  refine Ba.bnd (R:=fun r=>match r with| .inl x=>x=(n,ls,up,sq,db,net,o,s,es,())∧∀e∈es,lc ls o e.n=some e.c| .inr y=>y=(false,())∧¬∀e∈es,lc ls o e.n=some e.c) ?_ ?_
  ·refine Ba.count es.length (fun k t=>t=((k:Int),n,ls,up,sq,db,net,o,s,es,())∧∀i,i<k→lc ls o (en es i).n=some (en es i).c) ?_ (Nat.zero_le _) (Jb (by omega)) ⟨rfl,fun i hi=>by omega⟩
   rintro k t hk ⟨rfl,hok⟩
   by_cases hlt:k<es.length
   ·have hm:en es k∈es:=by rw [Rj hlt];exact List.getElem_mem hlt
    simp (disch:=omega) only [UF,YA,Ff,Wa,Na,Ta,OJ _ _ _ _ fls,Option.bind_some]
    refine Ba.gd (decide_eq_true (by omega)) (Ba.gd (Ia (by omega) (by omega)) (Ba.ite (fun hc=>.some ⟨rfl,?_⟩) (fun hc=>?_)))
    ·have hc:=oT hc
     intro h
     have:=(Gp (h _ hm)).1
     omega
    ·have hc:=oF hc
     have hlo:=yAQ ls o (en es k).n
     repeat refine Ba.gd (Ia (by omega) (by omega)) ?_
     refine Ba.ite (fun hc2=>.some ⟨rfl,?_⟩) (fun hc2=>.some ⟨hlt,rfl,fun i hi=>?_⟩)
     ·have hc2:¬(lk ls (Ac ls o (en es k).n).toNat).c=(en es k).c:=by simpa using hc2
      intro h
      have:=(Gp (h _ hm)).2.2
      rw [this] at hc2
      exact hc2 rfl
     ·have hc2:(lk ls (Ac ls o (en es k).n).toNat).c=(en es k).c:=by simpa using hc2
      by_cases e:i<k
      ·exact hok i e
      ·obtain rfl:i=k:=by omega
       unfold lc
       rw [if_pos (by omega),hc2]
   ·obtain rfl:k=es.length:=by omega
    unfold UF
    simp only [Ta]
    refine Ba.no (dF (by omega)) (.some ⟨rfl,fun e he=>?_⟩)
    obtain ⟨i,hi,rfl⟩:=List.getElem_of_mem he
    rw [←Rj hi]
    exact hok i hi
  rintro (r|r) hr
  case inr =>
    obtain ⟨rfl,hr⟩:=hr
    exact .some (by rw [no fun h=>hr h.2.2.2.1])
  obtain ⟨rfl,hr⟩:=hr
  simp only [Tc]
  refine Ba.gd (Ia (by omega) (by omega)) (Ba.ite (fun hc=>.some ?_) (fun hc=>?_))
  ·have hc:s<iz sq o.toNat:=oT hc
   rw [RR.2 ⟨hV,by show o<n;omega,by show s≤iz sq o.toNat;omega,hr,.inl hc⟩]
  have hlt:¬s<iz sq o.toNat:=oF hc
  refine La (E5 ⟨n,ls,up,sq,db,net⟩ hu (by show ls.length≤1000;omega)) ?_
  dsimp only
  refine La (jH (Vp g up) o s) ?_
  have hel:=iA (N:=n.toNat) (ls:=Kc ls up) o
  have hn8:=g.2.1
  refine La (iJ ⟨o,s,es⟩ ⟨o,s,Oc (Kc ls up) n.toNat o⟩ fl (by unfold Bb;dsimp only;omega)) (.some ?_)
  by_cases he:es=Oc (Kc ls up) n.toNat o
  ·rw [RR.2 ⟨hV,by show o<n;omega,by show s≤iz sq o.toNat;omega,hr,.inr (.inl he)⟩]
   try dsimp only
   rw [decide_eq_true (by rw [←he])]
  ·rw [no fun h=>by
     rcases h.2.2.2.2 with h|h|h
     ·exact hlt h
     ·exact he h
     ·exact h]
   try dsimp only
   rw [dF (by intro e;injection e with _ _ e;exact he e)]
end
end
section
open Go.RowKit
noncomputable def wv (w:Wd):Bool:=@decide (WV w Nb) (Classical.propDecidable _)
theorem Bx {w:Wd}:wv w=true↔WV w Nb:=by unfold wv;simp
theorem yAR {w:Wd}:wv w=false↔¬WV w Nb:=by unfold wv;simp
def Gh (w:Wd):List Ls:=w.db.flatten++w.net.map (·.p)
theorem yAS {db:List (List Ls)} {i:Nat} (h:i<db.length):Qa db i∈db:=by
  unfold Qa;rw [List.getD,List.getElem?_eq_getElem h];exact List.getElem_mem h
theorem EK {w:Wd} {l:Ls}:Fh w l↔l∈Gh w:=by
  unfold Fh Gh
  rw [List.mem_append,List.mem_flatten,List.mem_map]
  constructor
  ·rintro (⟨i,hi,h⟩|⟨p,hp,rfl⟩)
   ·exact .inl ⟨_,yAS hi,h⟩
   ·exact .inr ⟨p,hp,rfl⟩
  ·rintro (⟨d,hd,h⟩|⟨p,hp,rfl⟩)
   ·obtain ⟨i,hi,rfl⟩:=List.getElem_of_mem hd
    refine .inl ⟨i,hi,?_⟩
    unfold Qa;rw [List.getD,List.getElem?_eq_getElem hi];exact h
   ·exact .inr ⟨p,hp,rfl⟩
def Cx (w:Wd) (i:Nat):Prop:=(1≤iz w.sq i∧iz w.sq i≤99)∧Md (Qa w.db i)
def J5 (w:Wd) (i:Nat):Prop:=∃l∈Qa w.db i,l.o=i∧l.s=iz w.sq i
def Xp (xs:List Ls) (i:Nat):Prop:=∀j,j<i→(Ib xs j).o=(Ib xs i).o→(Ib xs j).s=(Ib xs i).s→Ib xs j=Ib xs i
theorem yAT {w:Wd} (g:GV w.n w.ls) (hu:w.up.length=w.ls.length) (hs:(w.sq.length:Int)=w.n) (hd:(w.db.length:Int)=w.n) (hn:w.net.length≤16) (nd:∀i,i<w.db.length→Cx w i) (ow:∀i,i<w.db.length→J5 w i) (tg:∀i,i<w.net.length→0≤(Ob w.net i).t∧(Ob w.net i).t<w.n) (ps:∀i,i<(Gh w).length→Cj w Nb (Ib (Gh w) i)) (ag:∀i,i<(Gh w).length→Xp (Gh w) i):WV w Nb:=by
  have idx:∀l,Fh w l→∃i,i<(Gh w).length∧Ib (Gh w) i=l:=fun l hl=>by
    obtain ⟨i,hi,rfl⟩:=List.getElem_of_mem (EK.1 hl)
    exact ⟨i,hi,Ld hi⟩
  refine ⟨g,hu,hs,hd,hn,fun i hi=>(nd i (by omega)).1,fun i hi=>(nd i hi).2,ow,fun l hl=>?_,fun x y hx hy e1 e2=>?_,fun p hp=>?_⟩
  ·obtain ⟨i,hi,rfl⟩:=idx l hl
   exact ps i hi
  ·obtain ⟨i,hi,rfl⟩:=idx x hx
   obtain ⟨j,hj,rfl⟩:=idx y hy
   rcases Nat.lt_trichotomy i j with h|h|h
   ·exact ag j hj i h e1 e2
   ·rw [h]
   ·exact (ag i hi j h e1.symm e2.symm).symm
  ·obtain ⟨i,hi,rfl⟩:=List.getElem_of_mem hp
   have:=tg i hi
   have e:Ob w.net i=w.net[i]:=by simp [Ob,List.getD,hi]
   rwa [e] at this
section
variable {w:Wd}
theorem WV.nd (h:WV w Nb) {i:Nat} (hi:i<w.db.length):Cx w i:=⟨h.rng i (by have:=h.sq;have:=h.db;omega),h.ok i hi⟩
theorem WV.ag (h:WV w Nb) {i:Nat} (hi:i<(Gh w).length):Xp (Gh w) i:=fun j hj e1 e2=>h.agr _ _ (EK.2 (Uh (by omega))) (EK.2 (Uh hi)) e1 e2
theorem jU {db:List (List Ls)} {k:Nat} (hk:k≤db.length) (h:∀i,i<k→(Qa db i).length≤8):(db.take k).flatten.length≤8*k:=by
  induction k with
  |zero=>simp
  |succ k ih =>
   have:=ih (by omega) fun i hi=>h i (by omega)
   have h2:=h k (by omega)
   rw [←F5 (by omega),List.flatten_append,List.length_append,List.flatten_singleton]
   omega
theorem yAU {db:List (List Ls)} {k:Nat} (hk:k<db.length):(db.take (k+1)).flatten=(db.take k).flatten++Qa db k:=by
  rw [←F5 hk,List.flatten_append,List.flatten_singleton]
theorem yAV {net:List Pk} {k:Nat} (hk:k<net.length):(net.take (k+1)).map (·.p)=(net.take k).map (·.p)++[(Ob net k).p]:=by
  rw [←jK hk,List.map_append];rfl
theorem Cx.sm {i:Nat} (h:Cx w i):(Qa w.db i).length≤8:=h.2.len
end
end
section
open Go.RowKit
section
variable {w:Wd}
structure FK (w:Wd):Prop where
  g:GV w.n w.ls
  up:w.up.length=w.ls.length
  sq:(w.sq.length:Int)=w.n
  db:(w.db.length:Int)=w.n
  net:w.net.length≤16
  nd:∀i,i<w.db.length→Cx w i
theorem zFz (h:FB w):Ba (RO (w.n,w.ls,w.up,w.sq,w.db,w.net,())) fun r=>∃b:Bool,r=(b,())∧(b=true→FK w)∧(b=false→¬WV w Nb):=by
  have h1:=h.ls
  have h2:=h.up
  have h3:=h.sq
  have h4:=h.db
  have h5:=h.net
  have no:¬WV w Nb→∃b:Bool,(false,())=(b,())∧(b=true→FK w)∧(b=false→¬WV w Nb):=fun q=>⟨false,rfl,(fun e=>by cases e),fun _=>q⟩
  unfold RO
  dsimp only
  rw [Yw _ _ (show Bb w.ls by unfold Bb;omega)]
  simp only [Ta]
  refine Ba.ite (fun hc=>.some (no fun q=>?_)) (fun hc=>?_)
  ·have hc:gv w.n w.ls=false:=by simpa using hc
   exact oF hc q.g
  have g:GV w.n w.ls:=oT (show gv w.n w.ls=true by simpa using hc)
  refine Ba.ite (fun hc=>.some (no fun q=>?_)) (fun hc=>?_)
  ·have hc:¬(w.up.length:Int)=w.ls.length:=by simpa using hc
   have:=q.up;omega
  have hu:(w.up.length:Int)=w.ls.length:=by simpa using hc
  refine Ba.ite (fun hc=>.some (no fun q=>?_)) (fun hc=>?_)
  ·have hc:¬(w.sq.length:Int)=w.n:=by simpa using hc
   have:=q.sq;omega
  have hs:(w.sq.length:Int)=w.n:=by simpa using hc
  refine Ba.ite (fun hc=>.some (no fun q=>?_)) (fun hc=>?_)
  ·have hc:¬(w.db.length:Int)=w.n:=by simpa using hc
   have:=q.db;omega
  have hd:(w.db.length:Int)=w.n:=by simpa using hc
  refine Ba.ite (fun hc=>.some (no fun q=>?_)) (fun hc=>?_)
  ·have hc:=oT hc
   have:=q.net;omega
  have hn:=oF hc
  have hn8:=g.2.1
  refine Ba.bnd (R:=fun r=>match r with| .inl x=>∀i,i<w.db.length→Cx w i| .inr y=>y=(false,())∧¬WV w Nb) ?_ ?_
  ·refine Ba.count w.db.length (fun k t=>t=((k:Int),w.n,w.ls,w.up,w.sq,w.db,w.net,())∧∀i,i<k→Cx w i) ?_ (Nat.zero_le _) (Jb (by omega)) ⟨rfl,fun i hi=>by omega⟩
   rintro k t hk ⟨rfl,hok⟩
   by_cases hlt:k<w.db.length
   ·have hsm:=h.dbs k hlt
    simp (disch:=omega) only [RF,Vg,Tc,Wa,Na,Uk,zF3 _ hsm.fits hsm.fe,Option.bind_some]
    refine Ba.gd (decide_eq_true (by omega)) (Ba.gd (Ia (by omega) (by omega)) (Ba.ite (fun hc=>.some ⟨rfl,fun q=>?_⟩) (fun hc=>?_)))
    ·have hc:=Bi (show Db (iz w.sq k) 1 99=false by simpa using hc)
     exact hc (q.rng k (by omega))
    have hr:=He (show Db (iz w.sq k) 1 99=true by simpa using hc)
    refine Ba.gd (Ia (by omega) (by omega)) (Ba.ite (fun hc=>.some ⟨rfl,fun q=>?_⟩) (fun hc=>.some ⟨hlt,rfl,fun j hj=>?_⟩))
    ·have hc:Sh (Qa w.db k)=false:=by simpa using hc
     exact oF hc (q.ok k hlt)
    ·have hv:Md (Qa w.db k):=oT (show Sh (Qa w.db k)=true by simpa using hc)
     by_cases e:j<k
     ·exact hok j e
     ·obtain rfl:j=k:=by omega
      exact ⟨hr,hv⟩
   ·obtain rfl:k=w.db.length:=by omega
    unfold RF
    exact Ba.no (dF (by dsimp only;omega)) (.some hok)
  rintro (r|r) hr
  case inr =>
    obtain ⟨rfl,hr⟩:=hr
    exact .some (no hr)
  exact .some ⟨true,rfl,fun _=>⟨g,by omega,hs,hd,by omega,hr⟩,fun e=>by cases e⟩
theorem FK.fl (h:FK w):w.db.flatten.length≤8*w.db.length:=by
  have:=jU (db:=w.db) (k:=w.db.length) (by omega) fun i hi=>(h.nd i hi).sm
  rwa [List.take_length] at this
theorem zFo (h:FK w):SO (w.n,w.ls,w.up,w.sq,w.db,w.net,())=some (Gh w,()):=by
  have hd:=h.db
  have hn:=h.net
  have h8:=h.g.2.1
  have hfl:=h.fl
  unfold SO
  dsimp only
  refine Ba.out (Ba.bnd (R:=fun r=>match r with| .inl x=>x=(w.n,w.ls,w.up,w.sq,w.db,w.net,w.db.flatten,())| .inr _=>False) ?_ ?_)
  ·refine Ba.count w.db.length (fun k t=>t=((k:Int),w.n,w.ls,w.up,w.sq,w.db,w.net,(w.db.take k).flatten,())) ?_ (Nat.zero_le _) (Jb (by omega)) (by simp)
   rintro k t hk rfl
   by_cases hlt:k<w.db.length
   ·have hl:=(h.nd k hlt).sm
    have hfk:=jU (db:=w.db) (k:=k) (by omega) fun i hi=>(h.nd i (by omega)).sm
    simp (disch:=omega) only [SF,Vg,Wa,Na,Ta]
    refine Ba.gd (decide_eq_true (by omega)) (Ba.gd (Ia (by omega) (by omega)) (Ba.gd (decide_eq_true (by omega)) (.some ⟨hlt,?_⟩)))
    rw [yAU hlt];rfl
   ·obtain rfl:k=w.db.length:=by omega
    unfold SF
    simp only [Ta]
    refine Ba.no (dF (by omega)) (.some ?_)
    rw [List.take_length]
  rintro (r|r) hr
  case inr=>exact hr.elim
  obtain rfl:=hr
  dsimp only
  refine Ba.bnd (R:=fun r=>match r with| .inl x=>x=(Gh w,())| .inr _=>False) ?_ ?_
  ·refine Ba.count w.net.length (fun k t=>t=((k:Int),w.n,w.ls,w.up,w.sq,w.db,w.net,w.db.flatten++(w.net.take k).map (·.p),())) ?_ (Nat.zero_le _) (Jb (by omega)) (by simp)
   rintro k t hk rfl
   by_cases hlt:k<w.net.length
   ·simp (disch:=omega) only [TF,Wp,Wa,Na,Ta]
    refine Ba.gd (decide_eq_true (by omega)) (Ba.gd (Ia (by omega) (by omega)) (Ba.gd (decide_eq_true (by simp only [List.length_append,List.length_map,List.length_take,List.length_singleton];omega)) (.some ⟨hlt,?_⟩)))
    rw [yAV hlt,←List.append_assoc];rfl
   ·obtain rfl:k=w.net.length:=by omega
    unfold TF
    simp only [Ta]
    refine Ba.no (dF (by omega)) (.some ?_)
    rw [List.take_length];rfl
  rintro (r|r) hr
  case inr=>exact hr.elim
  obtain rfl:=hr
  exact .some rfl
theorem zFx (xs:List Ls) (hl:xs.length≤100000) (he:∀x∈xs,Bb x.e):Ba (TO (xs,())) fun r=>∃b:Bool,r=(b,())∧(b=true↔∀i,i<xs.length→Xp xs i):=by
  unfold TO
  refine Ba.bnd (R:=fun r=>match r with| .inl _=>∀i,i<xs.length→Xp xs i| .inr y=>y=(false,())∧¬∀i,i<xs.length→Xp xs i) ?_ ?_
  ·refine Ba.count xs.length (fun k t=>t=(xs,(k:Int),())∧∀i,i<k→Xp xs i) ?_ (Nat.zero_le _) (Jb (by omega)) ⟨rfl,fun i hi=>by omega⟩
   rintro k t hk ⟨rfl,hok⟩
   by_cases hlt:k<xs.length
   ·simp only [YF,Ta]
    refine Ba.gd (decide_eq_true (by omega)) (Ba.bnd (R:=fun r=>match r with| .inl x=>x=(xs,(k:Int),())∧Xp xs k| .inr y=>y=(false,())∧¬Xp xs k) ?_ ?_)
    ·refine Ba.count k (fun j t=>t=(xs,(k:Int),(j:Int),())∧∀i,i<j→(Ib xs i).o=(Ib xs k).o→(Ib xs i).s=(Ib xs k).s→Ib xs i=Ib xs k) ?_ (Nat.zero_le _) (Jb (by omega)) ⟨rfl,fun i hi=>by omega⟩
     rintro j t hj ⟨rfl,hok2⟩
     by_cases hjk:j<k
     ·have fk:=he _ (Uh hlt)
      have fj:=he _ (Uh (show j<xs.length by omega))
      simp (disch:=omega) only [XF,Tg,Wa,Na,iJ _ _ fk fj,Option.bind_some]
      refine Ba.gd (decide_eq_true (by omega)) (Ba.gd (Ia (by omega) (by omega)) (Ba.gd (Ia (by omega) (by omega)) (Ba.ite (fun h1=>?_) (fun h1=>.some ⟨hjk,rfl,fun i hi=>?_⟩))))
      ·have h1:=oT h1
       refine Ba.gd (Ia (by omega) (by omega)) (Ba.gd (Ia (by omega) (by omega)) (Ba.ite (fun h2=>?_) (fun h2=>.some ⟨hjk,rfl,fun i hi=>?_⟩)))
       ·have h2:=oT h2
        refine Ba.gd (Ia (by omega) (by omega)) (Ba.gd (Ia (by omega) (by omega)) (Ba.ite (fun h3=>.some ⟨rfl,fun q=>?_⟩) (fun h3=>.some ⟨hjk,rfl,fun i hi=>?_⟩)))
        ·have h3:¬Ib xs k=Ib xs j:=by simpa using h3
         exact h3 (q j hjk h1.symm h2.symm).symm
        ·have h3:Ib xs k=Ib xs j:=by simpa using h3
         by_cases e:i<j
         ·exact hok2 i e
         ·obtain rfl:i=j:=by omega
          exact fun _ _=>h3.symm
       ·have h2:=oF h2
        by_cases e:i<j
        ·exact hok2 i e
        ·obtain rfl:i=j:=by omega
         exact fun _ e2=>(h2 e2.symm).elim
      ·have h1:=oF h1
       by_cases e:i<j
       ·exact hok2 i e
       ·obtain rfl:i=j:=by omega
        exact fun e1=>(h1 e1.symm).elim
     ·obtain rfl:j=k:=by omega
      unfold XF
      exact Ba.no (dF (by dsimp only;omega)) (.some ⟨rfl,hok2⟩)
    ·rintro (r|r) hr
     ·obtain ⟨rfl,hr⟩:=hr
      simp (disch:=omega) only [Na]
      refine .some ⟨hlt,rfl,fun i hi=>?_⟩
      by_cases e:i<k
      ·exact hok i e
      ·obtain rfl:i=k:=by omega
       exact hr
     ·obtain ⟨rfl,hr⟩:=hr
      exact .some ⟨rfl,fun q=>hr (q k hlt)⟩
   ·obtain rfl:k=xs.length:=by omega
    unfold YF
    simp only [Ta]
    exact Ba.no (dF (by omega)) (.some hok)
  rintro (r|r) hr
  ·exact .some ⟨true,rfl,fun _=>hr,fun _=>rfl⟩
  ·obtain ⟨rfl,hr⟩:=hr
   exact .some ⟨false,rfl,(fun e=>by cases e),fun q=>(hr q).elim⟩
set_option maxHeartbeats 2000000 in
theorem jV (h:FB w):JG (w.n,w.ls,w.up,w.sq,w.db,w.net,())=some (wv w,()):=by
  have no:¬WV w Nb→(false,())=(wv w,()):=fun q=>by rw [yAR.2 q]
  unfold JG
  refine Ba.out (Ba.bnd (zFz h) ?_)
  rintro _ ⟨b,rfl,hb1,hb2⟩
  dsimp only
  refine Ba.ite (fun hc=>.some (no (hb2 (by simpa using hc)))) (fun hc=>?_)
  have hS:=hb1 (by simpa using hc)
  have hd:=hS.db
  have hs:=hS.sq
  have hn:=hS.net
  have h8:=hS.g.2.1
  have hn1:=hS.g.1
  have hfl:=hS.fl
  have hal:(Gh w).length≤1000:=by unfold Gh;rw [List.length_append,List.length_map];omega
  have hfe:∀x∈Gh w,Sm x.e:=fun x hx=>by
    rcases EK.2 hx with ⟨i,hi,hx⟩|⟨p,hp,rfl⟩
    ·exact (h.dbs i hi).2 x hx
    ·obtain ⟨i,hi,rfl⟩:=List.getElem_of_mem hp
     have:=h.pks i hi
     have e:Ob w.net i=w.net[i]:=by simp [Ob,List.getD,hi]
     rwa [e] at this
  have smf:∀l:List En,Sm l→Bb l:=fun l hl=>by unfold Bb;unfold Sm at hl;omega
  refine La (zFo hS) ?_
  try dsimp only
  refine Ba.bnd (zFx (Gh w) (by omega) (fun x hx=>smf _ (hfe x hx))) ?_
  rintro _ ⟨b2,rfl,hb⟩
  dsimp only
  refine Ba.ite (fun hc=>.some (no fun q=>?_)) (fun hc=>?_)
  ·have hc:b2=false:=by simpa using hc
   have:=hb.2 fun i hi=>q.ag hi
   rw [hc] at this;cases this
  have hag:=hb.1 (show b2=true by simpa using hc)
  refine Ba.bnd (R:=fun r=>match r with| .inl x=>x=(w.n,w.ls,w.up,w.sq,w.db,w.net,())∧∀i,i<w.db.length→(∀l∈Qa w.db i,Cj w Nb l)∧J5 w i| .inr y=>y=(false,())∧¬WV w Nb) ?_ ?_
  ·refine Ba.count w.db.length (fun k t=>t=((k:Int),w.n,w.ls,w.up,w.sq,w.db,w.net,())∧∀i,i<k→(∀l∈Qa w.db i,Cj w Nb l)∧J5 w i) ?_ (Nat.zero_le _) (Jb (by omega)) ⟨rfl,fun i hi=>by omega⟩
   rintro k t hk ⟨rfl,hok⟩
   by_cases hlt:k<w.db.length
   ·have hsm:=h.dbs k hlt
    have hv:=(hS.nd k hlt).2
    have hvl:=hv.len
    simp only [HG]
    refine Ba.gd (decide_eq_true (by omega)) (Ba.bnd (R:=fun r=>match r with| .inl x=>x=((k:Int),w.n,w.ls,w.up,w.sq,w.db,w.net,())∧∀l∈Qa w.db k,Cj w Nb l| .inr y=>y=(false,())∧¬WV w Nb) ?_ ?_)
    ·refine Ba.count (Qa w.db k).length (fun j t=>t=((k:Int),(j:Int),w.n,w.ls,w.up,w.sq,w.db,w.net,())∧∀i,i<j→Cj w Nb (Ib (Qa w.db k) i)) ?_ (Nat.zero_le _) (Jb (by omega)) ⟨rfl,fun i hi=>by omega⟩
     rintro j t hj ⟨rfl,hok2⟩
     by_cases hjl:j<(Qa w.db k).length
     ·have hm:Ib (Qa w.db k) j∈Qa w.db k:=Uh hjl
      simp (disch:=omega) only [GG,Vg,Tg,Wa,Na,Ta,jT hS.g hS.up hs _ (hsm.2 _ hm),Option.bind_some]
      refine Ba.gd (Ia (by omega) (by omega)) (Ba.gd (decide_eq_true (by omega)) (Ba.gd (Ia (by omega) (by omega)) (Ba.gd (Ia (by omega) (by omega)) (Ba.ite (fun hc=>.some ⟨rfl,fun q=>?_⟩) (fun hc=>.some ⟨hjl,rfl,fun i hi=>?_⟩)))))
      ·have hc:poss w (Ib (Qa w.db k) j)=false:=by simpa using hc
       exact I5.1 hc (q.poss _ (.inl ⟨k,hlt,hm⟩))
      ·have hp:=RR.1 (show poss w (Ib (Qa w.db k) j)=true by simpa using hc)
       by_cases e:i<j
       ·exact hok2 i e
       ·obtain rfl:i=j:=by omega
        exact hp
     ·obtain rfl:j=(Qa w.db k).length:=by omega
      unfold GG
      simp only [Vg,Wa,Ta]
      refine Ba.gd (Ia (by omega) (by omega)) (Ba.no (dF (by omega)) (.some ⟨rfl,fun l hl=>?_⟩))
      obtain ⟨i,hi,rfl⟩:=List.getElem_of_mem hl
      rw [←Ld hi]
      exact hok2 i hi
    ·rintro (r|r) hr
     case inr =>
       obtain ⟨rfl,hr⟩:=hr
       exact .some ⟨rfl,hr⟩
     obtain ⟨rfl,hr⟩:=hr
     simp (disch:=omega) only [Vg,Tc,Wa,Na,F4 _ (k:Int) hsm.fits,Option.bind_some]
     refine Ba.gd (Ia (by omega) (by omega)) ?_
     cases hfd:fd (Qa w.db k) (k:Int) with
     |none =>
      refine Ba.gd rfl (.some ⟨rfl,fun q=>?_⟩)
      obtain ⟨l,hl,e1,_⟩:=q.own k hlt
      exact UJ.1 hfd l hl e1
     |some l0 =>
      obtain ⟨hm,ho⟩:=(Xk hv.so).1 hfd
      refine Ba.no rfl (Ba.gd (Ia (by omega) (by omega)) (Ba.ite (fun hc=>.some ⟨rfl,fun q=>?_⟩) (fun hc=>.some ⟨hlt,rfl,fun i hi=>?_⟩)))
      ·have hc:¬l0.s=iz w.sq k:=by simpa using hc
       obtain ⟨l,hl,e1,e2⟩:=q.own k hlt
       have:=(Xk hv.so).2 ⟨hl,e1⟩
       rw [hfd] at this
       injection this with this
       rw [this] at hc
       exact hc e2
      ·have hc:l0.s=iz w.sq k:=by simpa using hc
       by_cases e:i<k
       ·exact hok i e
       ·obtain rfl:i=k:=by omega
        exact ⟨hr,l0,hm,ho,hc⟩
   ·obtain rfl:k=w.db.length:=by omega
    unfold HG
    exact Ba.no (dF (by dsimp only;omega)) (.some ⟨rfl,hok⟩)
  rintro (r|r) hr
  case inr =>
    obtain ⟨rfl,hr⟩:=hr
    exact .some (no hr)
  obtain ⟨rfl,hnd⟩:=hr
  dsimp only
  refine Ba.bnd (R:=fun r=>match r with| .inl x=>∀i,i<w.net.length→(0≤(Ob w.net i).t∧(Ob w.net i).t<w.n)∧Cj w Nb (Ob w.net i).p| .inr y=>y=(false,())∧¬WV w Nb) ?_ ?_
  ·refine Ba.count w.net.length (fun k t=>t=((k:Int),w.n,w.ls,w.up,w.sq,w.db,w.net,())∧∀i,i<k→(0≤(Ob w.net i).t∧(Ob w.net i).t<w.n)∧Cj w Nb (Ob w.net i).p) ?_ (Nat.zero_le _) (Jb (by omega)) ⟨rfl,fun i hi=>by omega⟩
   rintro k t hk ⟨rfl,hok⟩
   by_cases hlt:k<w.net.length
   ·simp (disch:=omega) only [IG,Wp,Wa,Na,Ta,Uk,jT hS.g hS.up hs _ (h.pks k hlt),Option.bind_some]
    refine Ba.gd (decide_eq_true (by omega)) (Ba.gd (Ia (by omega) (by omega)) (Ba.ite (fun hc=>.some ⟨rfl,fun q=>?_⟩) (fun hc=>?_)))
    ·have hc:=Bi (show Db (Ob w.net k).t 0 (w.n-1)=false by simpa using hc)
     have:=q.tgt _ (Eo hlt)
     omega
    have ht:=He (show Db (Ob w.net k).t 0 (w.n-1)=true by simpa using hc)
    refine Ba.gd (Ia (by omega) (by omega)) (Ba.ite (fun hc=>.some ⟨rfl,fun q=>?_⟩) (fun hc=>.some ⟨hlt,rfl,fun i hi=>?_⟩))
    ·have hc:poss w (Ob w.net k).p=false:=by simpa using hc
     exact I5.1 hc (q.poss _ (.inr ⟨_,Eo hlt,rfl⟩))
    ·have hp:=RR.1 (show poss w (Ob w.net k).p=true by simpa using hc)
     by_cases e:i<k
     ·exact hok i e
     ·obtain rfl:i=k:=by omega
      exact ⟨by omega,hp⟩
   ·obtain rfl:k=w.net.length:=by omega
    unfold IG
    simp only [Ta]
    exact Ba.no (dF (by omega)) (.some hok)
  rintro (r|r) hr
  case inr =>
    obtain ⟨rfl,hr⟩:=hr
    exact .some (no hr)
  refine .some ?_
  rw [Bx.2 (yAT hS.g hS.up hs hd hn hS.nd (fun i hi=>(hnd i hi).2) (fun i hi=>(hr i hi).1) (fun i hi=>?_) hag)]
  rcases EK.2 (Uh hi) with ⟨j,hj,hx⟩|⟨p,hp,e⟩
  ·exact (hnd j hj).1 _ hx
  ·rw [e]
   obtain ⟨j,hj,rfl⟩:=List.getElem_of_mem hp
   have:=(hr j hj).2
   have e2:Ob w.net j=w.net[j]:=by simp [Ob,List.getD,hj]
   rwa [e2] at this
end
end
section
open Go.RowKit
section
variable {w:Wd}
def zW:Wd:=⟨0,[],[],[],[],[]⟩
def jW (b:Bool) (w:Wd):Int×Bool×List Lk×List Bool×List Int×List (List Ls)×List Pk×Unit:=(w.n,b,w.ls,w.up,w.sq,w.db,w.net,())
theorem yAW {v:Wd} {i:Nat} (hi:i<v.up.length):Uc v 6 i=Fg v i:=by rw [H5,if_pos ⟨by omega,by omega⟩,Wa]
theorem K5 (h:WV w Nb):WV { w with net:=[] } Nb:=h.less (db':=w.db) rfl (by simp) h.ok h.own (fun l hl=>by
  rcases hl with hl|⟨p,hp,_⟩
  ·exact .inl hl
  ·simp at hp) (by simp)
theorem yAX (h:WV w Nb):LQ (w.n,w.ls,w.up,w.sq,w.db,w.net,())=some (wt (Pf w)):=by
  have h8:=h.nn
  have h14:=h.lsl
  have v0:=K5 h
  unfold LQ
  refine Ba.out (Ba.bnd (R:=fun r=>match r with| .inl x=>x=wt (Pf w)| .inr _=>False) ?_ ?_)
  ·refine Ba.count w.n.toNat (fun k t=>t=(w.n,(k:Int),wt (Mg { w with net:=[] } k))) ?_ (Nat.zero_le _) (Jb (by omega)) rfl
   rintro k t hk rfl
   have hs:=C5 { w with net:=[] } k
   have hv:=BK v0 k
   generalize hc:Mg { w with net:=[] } k=c at hs hv ⊢
   by_cases hlt:k<w.n.toNat
   ·unfold JI
    refine Ba.gd (decide_eq_true (by dsimp only;omega)) (Ba.bnd (R:=fun r=>match r with| .inl x=>x=(w.n,(k:Int),wt (YJ c))| .inr _=>False) ?_ ?_)
    ·have hup:=hv.up
     have hl14:=hv.lsl
     refine Ba.count c.ls.length (fun i t=>t=(w.n,(k:Int),(c.ls.length:Int),(i:Int),wt (Dj c i))) ?_ (Nat.zero_le _) (Jb (by omega)) (by dsimp only [wt];rw [Ta,hup];rfl)
     rintro i t hi rfl
     have hs2:=ZJ c i
     by_cases hil:i<c.ls.length
     ·have hv2:=AK hv i (by omega)
      unfold II
      simp (disch:=omega) only [Na]
      refine Ba.gd (decide_eq_true (by first|omega|(dsimp only;omega))) (La (jS hv2 6 (i:Int)) (.some ⟨hil,?_⟩))
      rw [yAW (by rw [hs2.2.2.1,hup];exact hil)]
      rfl
     ·obtain rfl:i=c.ls.length:=by omega
      unfold II
      exact Ba.no (dF (by first|omega|(dsimp only;omega))) (.some rfl)
    ·rintro (r|r) hr
     case inr=>exact hr.elim
     obtain rfl:=hr
     simp (disch:=omega) only [Na]
     refine .some ⟨hlt,?_⟩
     show _=(w.n,((k+1:Nat):Int),wt (YJ (Mg { w with net:=[] } k)))
     rw [hc];rfl
   ·obtain rfl:k=w.n.toNat:=by omega
    unfold JI
    refine Ba.no (dF (by first|omega|(dsimp only;omega))) (.some ?_)
    unfold Pf
    rw [hc]
  ·rintro (r|r) hr
   case inr=>exact hr.elim
   obtain rfl:=hr
   exact .some rfl
noncomputable def SR (w:Wd):Wd:=if wv w=true then Pf w else zW
theorem zGd (h:FB w):JQ (w.n,w.ls,w.up,w.sq,w.db,w.net,())=some (wt (SR w)):=by
  unfold JQ SR
  refine Ba.out (La (jV h) ?_)
  dsimp only
  cases hv:wv w with
  |false=>exact Ba.gd rfl (.some (by rw [if_neg (by simp)];try rfl))
  |true =>
   rw [if_pos rfl]
   have hV:=Bx.1 hv
   have h8:=hV.nn
   have h14:=hV.lsl
   have v0:=K5 hV
   refine Ba.no rfl (La (DK h) ?_)
   dsimp only
   refine Ba.bnd (R:=fun r=>match r with| .inl x=>x=(0,[],[],[],[],[],wt (Pf w))| .inr _=>False) ?_ ?_
   ·refine Ba.count w.n.toNat (fun k t=>t=((k:Int),0,[],[],[],[],[],wt (Mg { w with net:=[] } k))) ?_ (Nat.zero_le _) (Jb (by omega)) rfl
    rintro k t hk rfl
    have hs:=C5 { w with net:=[] } k
    have hv:=BK v0 k
    generalize hc:Mg { w with net:=[] } k=c at hs hv ⊢
    have hn:c.n=w.n:=hs.1
    by_cases hlt:k<w.n.toNat
    ·unfold FI
     refine Ba.gd (decide_eq_true (by dsimp only [wt];omega)) (Ba.bnd (R:=fun r=>match r with| .inl x=>x=((k:Int),0,[],[],[],[],[],wt (YJ c))| .inr _=>False) ?_ ?_)
     ·have hup:=hv.up
      have hl14:=hv.lsl
      refine Ba.count c.ls.length (fun i t=>t=((k:Int),(i:Int),0,[],[],[],[],[],wt (Dj c i))) ?_ (Nat.zero_le _) (Jb (by omega)) rfl
      rintro i t hi rfl
      have hs2:=ZJ c i
      by_cases hil:i<c.ls.length
      ·have hv2:=AK hv i (by omega)
       unfold EI
       simp (disch:=omega) only [Na,Ta]
       refine Ba.gd (decide_eq_true (by dsimp only [wt];rw [hs2.2.2.1,hup];omega)) (La (jP hv2 (by rw [hs2.2.1];exact hil)) (.some ⟨hil,rfl⟩))
      ·obtain rfl:i=c.ls.length:=by omega
       unfold EI
       simp only [Ta]
       exact Ba.no (dF (by dsimp only [wt];rw [hs2.2.2.1,hup];omega)) (.some rfl)
     ·rintro (r|r) hr
      case inr=>exact hr.elim
      obtain rfl:=hr
      simp (disch:=omega) only [Na]
      refine .some ⟨hlt,?_⟩
      show _=(((k+1:Nat):Int),(0:Int),[],[],[],[],[],wt (YJ (Mg { w with net:=[] } k)))
      rw [hc];rfl
    ·obtain rfl:k=w.n.toNat:=by omega
     unfold FI
     refine Ba.no (dF (by dsimp only [wt];omega)) (.some ?_)
     unfold Pf
     rw [hc]
   ·rintro (r|r) hr
    case inr=>exact hr.elim
    obtain rfl:=hr
    dsimp only [wt]
    exact La (DK (iT hV).sm) (.some rfl)
end
end
section
open Go.RowKit
section
def Hf (ls:List Lk) (N k:Nat):List Ls:=(List.range k).map fun i:Nat=>(⟨i,1,Oc ls N i⟩:Ls)
theorem jX (ls:List Lk) (N k:Nat):Hf ls N (k+1)=Hf ls N k++[⟨(k:Nat),1,Oc ls N (k:Nat)⟩]:=by
  unfold Hf
  rw [List.range_succ,List.map_append];rfl
theorem L5 (ls:List Lk) (N k:Nat):(Hf ls N k).length=k:=by simp [Hf]
theorem TR {α:Type} (k:Nat) (a:α):List.replicate (k+1) a=List.replicate k a++[a]:=List.replicate_succ'
noncomputable def GB (n:Int) (ls:List Lk):Wd:=if gv n ls=true then Ug n ls else zW
theorem yAY {n:Int} {ls:List Lk} (g:GV n ls):WV (Ug n ls) Nb:=by
  have h1:=g.1
  obtain ⟨N,rfl⟩:=Int.eq_ofNat_of_zero_le (show 0≤n by omega)
  exact yAA g
theorem zDW (n:Int) (ls:List Lk) (hl:Bb ls):AP (n,ls,())=some (jW (gv n ls) (GB n ls)):=by
  unfold AP GB
  dsimp only
  rw [C4 n ls hl]
  cases hg:gv n ls with
  |false=>exact Ba.out (La rfl (Ba.gd rfl (.some rfl)))
  |true =>
   have g:=Py hg
   have h1:=g.1
   have h8:=g.2.1
   have h14:=g.2.2.1
   obtain ⟨N,rfl⟩:=Int.eq_ofNat_of_zero_le (show 0≤n by omega)
   have b3:LG ((N:Int),ls,0,[],[],[],[],[],())=some (.inl ((N:Int),ls,0,[],[],[],[],[],(N:Int),ls,List.replicate ls.length true,List.replicate N (1:Int),[],[],())):=by
     unfold LG
     refine Ba.out (La (zE5 _ ls (by omega)) ?_)
     refine La (r:=(List.replicate ls.length true,())) ?_ (La (r:=(List.replicate N (1:Int),())) ?_ (.some rfl))
     ·simp only [Ta]
      unfold NW
      exact Ba.out (Ba.gd (decide_eq_true (by dsimp only;omega)) (.some rfl))
     ·unfold SD
      exact Ba.out (Ba.gd (decide_eq_true (by dsimp only;omega)) (.some rfl))
   refine Ba.out (La rfl (Ba.no rfl (La b3 ?_)))
   dsimp only
   rw [if_pos rfl]
   refine Ba.bnd (R:=fun r=>match r with| .inl x=>x=(0,[],[],[],[],[],(N:Int),ls,List.replicate ls.length true,List.replicate N (1:Int),List.replicate N (Hf ls N N),[],())| .inr _=>False) ?_ ?_
   ·refine Ba.count N (fun k t=>t=((N:Int),(k:Int),(N:Int),ls,0,[],[],[],[],[],(N:Int),ls,List.replicate ls.length true,List.replicate N (1:Int),List.replicate k (Hf ls N N),[],())) ?_ (Nat.zero_le _) (Jb (by omega)) rfl
    rintro k t hk rfl
    by_cases hlt:k<N
    ·simp only [NG]
     refine Ba.gd (decide_eq_true (by omega)) (Ba.bnd (R:=fun r=>match r with| .inl x=>x=((N:Int),(k:Int),(N:Int),ls,0,[],[],[],[],[],(N:Int),Hf ls N N,ls,List.replicate ls.length true,List.replicate N (1:Int),List.replicate k (Hf ls N N),[],())| .inr _=>False) ?_ ?_)
     ·refine Ba.count N (fun j t=>t=((N:Int),(k:Int),(N:Int),(j:Int),(N:Int),ls,0,[],[],[],[],[],(N:Int),Hf ls N j,ls,List.replicate ls.length true,List.replicate N (1:Int),List.replicate k (Hf ls N N),[],())) ?_ (Nat.zero_le _) (Jb (by omega)) rfl
      rintro j t hj rfl
      have hrl:=L5 ls N j
      by_cases hjl:j<N
      ·simp (disch:=omega) only [MG,hY g,Option.bind_some,Na]
       refine Ba.gd (decide_eq_true (by omega)) (Ba.gd (decide_eq_true (by simp only [List.length_singleton];omega)) (.some ⟨hjl,?_⟩))
       rw [jX];rfl
      ·obtain rfl:j=N:=by omega
       unfold MG
       exact Ba.no (dF (by first|omega|(dsimp only;omega))) (.some rfl)
     ·rintro (r|r) hr
      case inr=>exact hr.elim
      obtain rfl:=hr
      simp (disch:=omega) only [Na]
      refine Ba.gd (decide_eq_true (by simp only [List.length_singleton,List.length_replicate];omega)) (.some ⟨hlt,?_⟩)
      rw [TR k (Hf ls N N)];rfl
    ·obtain rfl:k=N:=by omega
     unfold NG
     exact Ba.no (dF (by first|omega|(dsimp only;omega))) (.some rfl)
   rintro (r|r) hr
   case inr=>exact hr.elim
   obtain rfl:=hr
   exact .some rfl
theorem yAZ {N k:Nat} (ls:List Lk) (h8:N≤8) (hk:k≤8):Ze (Hf ls N k):=by
  refine ⟨by have:=L5 ls N k;unfold Sm;omega,fun l hl=>?_⟩
  unfold Hf at hl
  obtain ⟨i,hi,rfl⟩:=List.mem_map.1 hl
  have:=iA (ls:=ls) (N:=N) (i:Int)
  unfold Sm;dsimp only;omega
theorem zGe (n:Int) (ls:List Lk) (hl:Bb ls):XO (n,ls,())=some (jW (gv n ls) (GB n ls)):=by
  unfold XO GB
  dsimp only
  rw [Yw n ls hl]
  cases hg:gv n ls with
  |false=>exact Ba.out (La rfl (Ba.gd rfl (.some rfl)))
  |true =>
   have g:=Py hg
   have h1:=g.1
   have h8:=g.2.1
   have h14:=g.2.2.1
   obtain ⟨N,rfl⟩:=Int.eq_ofNat_of_zero_le (show 0≤n by omega)
   refine Ba.out (La rfl (Ba.no rfl (La (jL _ ls (by omega)) ?_)))
   dsimp only
   rw [if_pos rfl]
   refine Ba.bnd (R:=fun r=>match r with| .inl x=>x=((N:Int),ls,0,[],[],[],[],[],Hf ls N N,(N:Int),ls,[],List.replicate N (1:Int),[],[],())| .inr _=>False) ?_ ?_
   ·refine Ba.count N (fun k t=>t=((k:Int),(N:Int),ls,0,[],[],[],[],[],Hf ls N k,(N:Int),ls,[],List.replicate k (1:Int),[],[],())) ?_ (Nat.zero_le _) (Jb (by omega)) rfl
    rintro k t hk rfl
    have hrl:=L5 ls N k
    by_cases hlt:k<N
    ·simp (disch:=omega) only [DG,iB g,Option.bind_some,Na]
     refine Ba.gd (decide_eq_true (by omega)) (Ba.gd (decide_eq_true (by simp only [List.length_singleton];omega)) (Ba.gd (decide_eq_true (by simp only [List.length_singleton,List.length_replicate];omega)) (.some ⟨hlt,?_⟩)))
     rw [jX,TR k (1:Int)];rfl
    ·obtain rfl:k=N:=by omega
     unfold DG
     exact Ba.no (dF (by first|omega|(dsimp only;omega))) (.some rfl)
   rintro (r|r) hr
   case inr=>exact hr.elim
   obtain rfl:=hr
   dsimp only
   refine Ba.bnd (R:=fun r=>match r with| .inl x=>x=((N:Int),ls,0,[],[],[],[],[],(N:Int),ls,[],List.replicate N (1:Int),List.replicate N (Hf ls N N),[],())| .inr _=>False) ?_ ?_
   ·refine Ba.count N (fun k t=>t=((k:Int),(N:Int),ls,0,[],[],[],[],[],Hf ls N N,(N:Int),ls,[],List.replicate N (1:Int),List.replicate k (Hf ls N N),[],())) ?_ (Nat.zero_le _) (Jb (by omega)) rfl
    rintro k t hk rfl
    by_cases hlt:k<N
    ·simp (disch:=omega) only [EG,VJ _ (yAZ ls (show N≤8 by omega) (show N≤8 by omega)),Option.bind_some,Na]
     refine Ba.gd (decide_eq_true (by omega)) (Ba.gd (decide_eq_true (by simp only [List.length_singleton,List.length_replicate];omega)) (.some ⟨hlt,?_⟩))
     rw [TR k (Hf ls N N)];rfl
    ·obtain rfl:k=N:=by omega
     unfold EG
     exact Ba.no (dF (by first|omega|(dsimp only;omega))) (.some rfl)
   rintro (r|r) hr
   case inr=>exact hr.elim
   obtain rfl:=hr
   dsimp only
   refine Ba.bnd (R:=fun r=>match r with| .inl x=>x=(0,[],[],[],[],[],(N:Int),ls,List.replicate ls.length true,List.replicate N (1:Int),List.replicate N (Hf ls N N),[],())| .inr _=>False) ?_ ?_
   ·refine Ba.count ls.length (fun k t=>t=((k:Int),(N:Int),ls,0,[],[],[],[],[],(N:Int),ls,List.replicate k true,List.replicate N (1:Int),List.replicate N (Hf ls N N),[],())) ?_ (Nat.zero_le _) (Jb (by omega)) rfl
    rintro k t hk rfl
    by_cases hlt:k<ls.length
    ·simp (disch:=omega) only [FG,Na,Ta]
     refine Ba.gd (decide_eq_true (by omega)) (Ba.gd (decide_eq_true (by simp only [List.length_singleton,List.length_replicate];omega)) (.some ⟨hlt,?_⟩))
     rw [TR k true];rfl
    ·obtain rfl:k=ls.length:=by omega
     unfold FG
     simp only [Ta]
     exact Ba.no (dF (by first|omega|(dsimp only;omega))) (.some rfl)
   rintro (r|r) hr
   case inr=>exact hr.elim
   obtain rfl:=hr
   exact .some rfl
end
end
section
open Go.RowKit
def UR (s:Y2):Option (List Int×Y3):=(bif decide (2000<nI (List.length s.1)) then (bif Gg (0) (2000) (List.length s.1) then some (List.take (Int.toNat (2000)-Int.toNat (0)) (List.drop (Int.toNat (0)) s.1),0,()) else none) else some (s.1,0,()))
def Zk (s:(Int×List Int×Y3)):Option (Int×List Int×Y3):=(bif decide (s.1<1) then some (0,s.2.1,wrap64 (s.2.2.1+1),()) else (bif decide (nI (List.length s.2.1)=0) then some (0,s.2.1,wrap64 (s.2.2.1+1),()) else (bif decide (wrap64 (wrap64 (s.2.2.1+1)-1)<nI (List.length s.2.1)) then (bif Ca (wrap64 (wrap64 (s.2.2.1+1)-1)) (List.length s.2.1) then (bif (!(decide (s.1=0))) then some (Int.tmod (wrap64 (Aa .u8 s.2.1 (Int.toNat (wrap64 (wrap64 (s.2.2.1+1)-1))))) s.1,s.2.1,wrap64 (s.2.2.1+1),()) else none) else none) else (bif (!(decide (nI (List.length s.2.1)=0))) then (bif Ca (Int.tmod (wrap64 (wrap64 (s.2.2.1+1)-1)) (nI (List.length s.2.1))) (List.length s.2.1) then (bif (!(decide (nI (List.length s.2.1)=0))) then (bif Ca (Int.tmod (wrap64 (wrap64 (wrap64 (wrap64 (s.2.2.1+1)-1)*7)+3)) (nI (List.length s.2.1))) (List.length s.2.1) then (bif (!(decide (nI (List.length s.2.1)=0))) then (bif (!(decide (s.1=0))) then some (Int.tmod (Dq .i64 (wrap64 (wrap64 (wrap64 (wrap64 (wrap64 (Aa .u8 s.2.1 (Int.toNat (Int.tmod (wrap64 (wrap64 (s.2.2.1+1)-1)) (nI (List.length s.2.1)))))*(131:Int))+wrap64 (wrap64 (Aa .u8 s.2.1 (Int.toNat (Int.tmod (wrap64 (wrap64 (wrap64 (wrap64 (s.2.2.1+1)-1)*7)+3)) (nI (List.length s.2.1)))))*(1117:Int)))+wrap64 (wrap64 (wrap64 (s.2.2.1+1)-1)*29))+wrap64 (wrap64 (Int.tdiv (wrap64 (wrap64 (s.2.2.1+1)-1)) (nI (List.length s.2.1)))*53))) (wrap64 (Int.tdiv (wrap64 (wrap64 (wrap64 (wrap64 (wrap64 (Aa .u8 s.2.1 (Int.toNat (Int.tmod (wrap64 (wrap64 (s.2.2.1+1)-1)) (nI (List.length s.2.1)))))*(131:Int))+wrap64 (wrap64 (Aa .u8 s.2.1 (Int.toNat (Int.tmod (wrap64 (wrap64 (wrap64 (wrap64 (s.2.2.1+1)-1)*7)+3)) (nI (List.length s.2.1)))))*(1117:Int)))+wrap64 (wrap64 (wrap64 (s.2.2.1+1)-1)*29))+wrap64 (wrap64 (Int.tdiv (wrap64 (wrap64 (s.2.2.1+1)-1)) (nI (List.length s.2.1)))*53))) (64)))) s.1,s.2.1,wrap64 (s.2.2.1+1),()) else none) else none) else none) else none) else none) else none))))
end
end Go.Proofs.YtjffopopheiinaaGreatDoor
section
namespace Go.Proofs.YtjffopopheiinaaGreatDoor
open Go.RowKit
structure IB (b:List Int):Prop where
  len:b.length≤2000
  rng:∀i,0≤iz b i∧iz b i≤255
theorem jY (zs:List Int) (i:Nat):Aa .u8 zs i=iz zs i:=by
  induction zs generalizing i with
  |nil=>rfl
  |cons z r ih=>cases i with
   |zero=>rfl
   |succ i=>exact (ih i).trans (by simp [iz])
theorem VR {a b:Int} (h:0≤a) (hb:0<b):0≤Int.tmod a b∧Int.tmod a b<b:=⟨Int.tmod_nonneg _ h,Int.tmod_lt_of_pos _ hb⟩
theorem yA0 {x y:Int} (h:0≤x) (h1:x<1099511627776) (k:0≤y) (k1:y<1099511627776):0≤Dq .i64 x y∧Dq .i64 x y<1099511627776:=by
  obtain ⟨a,rfl⟩:=Int.eq_ofNat_of_zero_le h
  obtain ⟨b,rfl⟩:=Int.eq_ofNat_of_zero_le k
  have e:(BitVec.ofInt 64 (a:Int) ^^^ BitVec.ofInt 64 (b:Int)).toNat=a ^^^ b:=by
    rw [BitVec.toNat_xor,BitVec.toNat_ofInt,BitVec.toNat_ofInt]
    have e1:((a:Int) % ((2 ^ 64:Nat):Int)).toNat=a:=by omega
    have e2:((b:Int) % ((2 ^ 64:Nat):Int)).toNat=b:=by omega
    rw [e1,e2]
  have hlt:a ^^^ b<2 ^ 40:=Nat.xor_lt_two_pow (by omega) (by omega)
  unfold Dq
  rw [show IntKind.bits .i64=64 from rfl,e,wI (by omega) (by omega)]
  omega
theorem jZ {b:List Int} {p n:Int} (hB:IB b) (h0:0≤p) (h1:p≤1000000000):∃x,Zk (n,b,p,())=some (x,b,p+1,())∧0≤x∧(1≤n→x<n)∧(n<1→x=0):=by
  have hl:=hB.len
  have e1:wrap64 (p+1)=p+1:=Na (by omega) (by omega)
  have e2:wrap64 (p+1-1)=p:=by rw [Na (by omega) (by omega)];omega
  unfold Zk
  simp only [e1,e2,Ta]
  clear e1 e2
  by_cases hn:n<1
  ·exact ⟨0,by rw [decide_eq_true hn];rfl,Int.le_refl _,fun h=>by omega,fun _=>rfl⟩
  by_cases hb:b.length=0
  ·exact ⟨0,by simp [hn,hb],Int.le_refl _,fun h=>by omega,fun h=>by omega⟩
  have hb':¬((b.length:Nat):Int)=0:=by omega
  have hn0:¬n=0:=by omega
  simp only [dF hn,dF hb',dF hn0,Bool.not_false,cond_true,cond_false]
  by_cases hk:p<b.length
  ·have r:=hB.rng p.toNat
   have ew:wrap64 (Aa .u8 b p.toNat)=iz b p.toNat:=by rw [jY];exact Na (by omega) (by omega)
   have:=VR (a:=iz b p.toNat) (b:=n) r.1 (by omega)
   refine ⟨_,by rw [decide_eq_true hk,Ia h0 hk];rfl,?_⟩
   rw [ew]
   exact ⟨this.1,fun _=>this.2,fun h=>by omega⟩
  ·have t1:=VR (a:=p) (b:=((b.length:Nat):Int)) h0 (by omega)
   have ep:wrap64 (wrap64 (p*7)+3)=p*7+3:=by rw [Na (x:=p*7) (by omega) (by omega)];exact Na (by omega) (by omega)
   have t2:=VR (a:=p*7+3) (b:=((b.length:Nat):Int)) (by omega) (by omega)
   have r1:=hB.rng (Int.tmod p b.length).toNat
   have r2:=hB.rng (Int.tmod (p*7+3) b.length).toNat
   simp only [ep,dF hk,Ia t1.1 t1.2,Ia t2.1 t2.2,cond_true,cond_false,jY]
   generalize iz b (Int.tmod p b.length).toNat=u at *
   generalize iz b (Int.tmod (p*7+3) b.length).toNat=v at *
   have hq:0≤Int.tdiv p b.length∧Int.tdiv p b.length≤1000000000:=by
     rw [Int.tdiv_eq_ediv_of_nonneg h0]
     exact ⟨Int.ediv_nonneg h0 (by omega),Int.le_trans (Int.ediv_le_self _ h0) h1⟩
   generalize Int.tdiv p b.length=q at *
   have ex:wrap64 (wrap64 (wrap64 (wrap64 (wrap64 u*131)+wrap64 (wrap64 v*1117))+wrap64 (p*29))+wrap64 (wrap64 q*53))=u*131+v*1117+p*29+q*53:=by
     rw [Na (x:=u) (by omega) (by omega),Na (x:=v) (by omega) (by omega),Na (x:=q) (by omega) (by omega),Na (x:=u*131) (by omega) (by omega),Na (x:=v*1117) (by omega) (by omega),Na (x:=p*29) (by omega) (by omega),Na (x:=q*53) (by omega) (by omega)]
     rw [Na (x:=u*131+v*1117) (by omega) (by omega),Na (x:=u*131+v*1117+p*29) (by omega) (by omega),Na (by omega) (by omega)]
   simp only [ex]
   clear ex ep
   have hx:0≤u*131+v*1117+p*29+q*53∧u*131+v*1117+p*29+q*53<1099511627776:=by omega
   generalize u*131+v*1117+p*29+q*53=x at *
   have hd:0≤Int.tdiv x 64∧Int.tdiv x 64<1099511627776:=by
     rw [Int.tdiv_eq_ediv_of_nonneg hx.1]
     omega
   have ed:wrap64 (Int.tdiv x 64)=Int.tdiv x 64:=Na (by omega) (by omega)
   have hxr:=yA0 hx.1 hx.2 hd.1 hd.2
   have:=VR (a:=Dq .i64 x (Int.tdiv x 64)) (b:=n) hxr.1 (by omega)
   rw [ed]
   exact ⟨_,rfl,this.1,fun _=>this.2,fun h=>by omega⟩
theorem Ba.pick {β:Type} {b:List Int} {p n:Int} {f:Int×List Int×Int×Unit→Option β} {Q:β→Prop} (hB:IB b) (h0:0≤p) (h1:p≤1000000000) (k:∀x,0≤x→(1≤n→x<n)→(n<1→x=0)→Ba (f (x,b,p+1,())) Q):Ba ((Zk (n,b,p,())).bind f) Q:=by
  obtain ⟨x,e,q1,q2,q3⟩:=jZ (n:=n) hB h0 h1
  rw [e]
  exact k x q1 q2 q3
structure Fo (n a m:Int) (l:List Lk):Prop where
  pw:l.Pairwise Se
  ok:∀x∈l,Lg n x
  lt:∀x∈l,x.a<a∨x.a=a∧x.b<m
  len:l.length≤14
theorem Fo.skip {n a m:Int} {l:List Lk} (h:Fo n a m l):Fo n a (m+1) l:=⟨h.pw,h.ok,fun x hx=>by have:=h.lt x hx;omega,h.len⟩
theorem Fo.app {n a m c:Int} {l:List Lk} (h:Fo n a m l) (h0:0≤a) (h1:a<m) (h2:m<n) (hc:1≤c∧c≤20) (hl:l.length<14):Fo n a (m+1) (l++[⟨a,m,c⟩]):=by
  refine ⟨?_,fun x hx=>?_,fun x hx=>?_,by simp;omega⟩
  ·rw [List.pairwise_append]
   refine ⟨h.pw,by simp,fun x hx y hy=>?_⟩
   obtain rfl:=List.mem_singleton.1 hy
   have:=h.lt x hx
   unfold Se
   exact this
  ·rcases List.mem_append.1 hx with hx|hx
   ·exact h.ok x hx
   ·obtain rfl:=List.mem_singleton.1 hx
    exact ⟨h0,h1,h2,hc.1,hc.2⟩
  ·rcases List.mem_append.1 hx with hx|hx
   ·have:=h.lt x hx
    omega
   ·obtain rfl:=List.mem_singleton.1 hx
    dsimp only
    omega
theorem Fo.row {n a m m':Int} {l:List Lk} (h:Fo n a m l):Fo n (a+1) m' l:=⟨h.pw,h.ok,fun x hx=>by have:=h.lt x hx;omega,h.len⟩
end Go.Proofs.YtjffopopheiinaaGreatDoor
namespace Go.Proofs.YtjffopopheiinaaGreatDoor
open Go.RowKit
end Go.Proofs.YtjffopopheiinaaGreatDoor
namespace Go.Proofs.YtjffopopheiinaaGreatDoor
open Go.RowKit
theorem yA1 {c:List Int} (h:∀z∈c,0≤z∧z<256) (hl:Bb c):∃b,UR (c,())=some (b,0,())∧IB b:=by
  unfold UR
  dsimp only
  have rng:∀l:List Int,(∀z∈l,0≤z∧z<256)→∀i,0≤iz l i∧iz l i≤255:=fun l hl i=>by
    rcases Nat.lt_or_ge i l.length with hi|hi
    ·have:=hl (iz l i) (List.mem_of_getElem? (Yg hi))
     omega
    ·unfold iz
     rw [List.getD,List.getElem?_eq_none hi]
     simp
  by_cases h2:c.length≤2000
  ·refine ⟨c,?_,h2,rng c h⟩
   rw [Ta,dF (show ¬(2000:Int)<c.length by omega)]
   rfl
  ·refine ⟨c.take 2000,?_,by simp;omega,rng _ fun z hz=>h z (List.mem_of_mem_take hz)⟩
   rw [Ta,decide_eq_true (show (2000:Int)<c.length by omega),WM (by omega) (by omega) (by omega)]
   rfl
end Go.Proofs.YtjffopopheiinaaGreatDoor
end
namespace Go.Proofs.YtjffopopheiinaaGreatDoor
section
open Go.RowKit
def WR (s:(ByteArray×Int×Be)):Option ((ByteArray×Int×Be)⊕(Be⊕Unit)):=(bif decide (0<s.2.1) then (bif decide (Int.tmod s.2.1 (2)=1) then (bif decide ((ByteArray.size s.2.2.1+ByteArray.size s.1)≤(9223372036854775807:Nat)) then (bif decide ((ByteArray.size s.1+ByteArray.size s.1)≤(9223372036854775807:Nat)) then some (Sum.inl (Da s.1 s.1,wrap64 (Int.tdiv s.2.1 (2)),Da s.2.2.1 s.1,())) else none) else none) else (bif decide ((ByteArray.size s.1+ByteArray.size s.1)≤(9223372036854775807:Nat)) then some (Sum.inl (Da s.1 s.1,wrap64 (Int.tdiv s.2.1 (2)),s.2.2)) else none)) else some (Sum.inr (Sum.inl s.2.2)))
def XR (s:(ByteArray×Y3)):Option Be:=(lp WR Ea (s.1,s.2.1,(bs ([]:List UInt8)),())).bind fun r0=>(match r0 with| .inl x1=>some x1| .inr _=>none)
def Pc (s:(List ByteArray×List Int×Y3)):Option (ByteArray×List Int×Y3):=(Zk (nI (List.length s.1),s.2)).bind fun r0=>(bif Ca r0.1 (List.length s.1) then some (Aa .str s.1 (Int.toNat r0.1),r0.2) else none)
def JB (s:(List Int×Y3)):Option (ByteArray×List Int×Y3):=(Pc ([(bs [48]),(bs [49]),(bs [50]),(bs [51]),(bs [52]),(bs [53]),(bs [48,50])],s)).bind fun r0=>(Pc ([(bs [48]),(bs [49]),(bs [50]),(bs [51]),(bs [52]),(bs [55])],r0.2)).bind fun r1=>(Zk (14,r1.2)).bind fun r2=>(bif decide (r2.1=0) then (bif decide (r2.1=0) then (bif decide ((ByteArray.size (bs [100,111,119,110,32])+ByteArray.size r0.1)≤(9223372036854775807:Nat)) then some (Da (bs [100,111,119,110,32]) r0.1,r2.2) else none) else (bif decide (r2.1=2) then (bif decide ((ByteArray.size (bs [117,112,32])+ByteArray.size r0.1)≤(9223372036854775807:Nat)) then some (Da (bs [117,112,32]) r0.1,r2.2) else none) else (bif decide (r2.1=3) then (bif decide (r2.1=3) then (Pc ([(bs [48]),(bs [48]),(bs [49]),(bs [50])],r2.2)).bind fun r3=>(bif decide ((ByteArray.size (bs [100,101,108,105,118,101,114,32])+ByteArray.size r3.1)≤(9223372036854775807:Nat)) then some (Da (bs [100,101,108,105,118,101,114,32]) r3.1,r3.2) else none) else (bif decide (r2.1=6) then (Pc ([(bs [108,111,115,101,32]),(bs [116,119,105,99,101,32])],r2.2)).bind fun r4=>(bif decide ((ByteArray.size r4.1+ByteArray.size r0.1)≤(9223372036854775807:Nat)) then some (Da r4.1 r0.1,r4.2) else none) else (bif decide (r2.1=7) then (bif decide ((ByteArray.size (bs [115,121,110,99,32])+ByteArray.size r0.1)≤(9223372036854775807:Nat)) then some (Da (bs [115,121,110,99,32]) r0.1,r2.2) else none) else (bif decide (r2.1=8) then (bif decide ((ByteArray.size (bs [112,97,116,104,32])+ByteArray.size r1.1)≤(9223372036854775807:Nat)) then (bif decide ((ByteArray.size (Da (bs [112,97,116,104,32]) r1.1)+ByteArray.size (bs [32]))≤(9223372036854775807:Nat)) then (bif decide ((ByteArray.size (Da (Da (bs [112,97,116,104,32]) r1.1) (bs [32]))+ByteArray.size r0.1)≤(9223372036854775807:Nat)) then some (Da (Da (Da (bs [112,97,116,104,32]) r1.1) (bs [32])) r0.1,r2.2) else none) else none) else none) else (bif decide (r2.1=9) then (bif decide ((ByteArray.size (bs [115,101,101,110,32])+ByteArray.size r1.1)≤(9223372036854775807:Nat)) then (bif decide ((ByteArray.size (Da (bs [115,101,101,110,32]) r1.1)+ByteArray.size (bs [32]))≤(9223372036854775807:Nat)) then (bif decide ((ByteArray.size (Da (Da (bs [115,101,101,110,32]) r1.1) (bs [32]))+ByteArray.size r0.1)≤(9223372036854775807:Nat)) then some (Da (Da (Da (bs [115,101,101,110,32]) r1.1) (bs [32])) r0.1,r2.2) else none) else none) else none) else (bif decide (r2.1=10) then (bif decide ((ByteArray.size (bs [114,101,112,97,105,114,32])+ByteArray.size r1.1)≤(9223372036854775807:Nat)) then (bif decide ((ByteArray.size (Da (bs [114,101,112,97,105,114,32]) r1.1)+ByteArray.size (bs [32]))≤(9223372036854775807:Nat)) then (bif decide ((ByteArray.size (Da (Da (bs [114,101,112,97,105,114,32]) r1.1) (bs [32]))+ByteArray.size r0.1)≤(9223372036854775807:Nat)) then (bif decide ((ByteArray.size (Da (Da (Da (bs [114,101,112,97,105,114,32]) r1.1) (bs [32])) r0.1)+ByteArray.size (bs [32]))≤(9223372036854775807:Nat)) then (Pc ([(bs [48]),(bs [49]),(bs [50]),(bs [51]),(bs [52])],r2.2)).bind fun r5=>(bif decide ((ByteArray.size (Da (Da (Da (Da (bs [114,101,112,97,105,114,32]) r1.1) (bs [32])) r0.1) (bs [32]))+ByteArray.size r5.1)≤(9223372036854775807:Nat)) then some (Da (Da (Da (Da (Da (bs [114,101,112,97,105,114,32]) r1.1) (bs [32])) r0.1) (bs [32])) r5.1,r5.2) else none) else none) else none) else none) else none) else (bif decide (r2.1=11) then (bif decide ((ByteArray.size (bs [111,114,100,101,114,32])+ByteArray.size r0.1)≤(9223372036854775807:Nat)) then (bif decide ((ByteArray.size (Da (bs [111,114,100,101,114,32]) r0.1)+ByteArray.size (bs [32]))≤(9223372036854775807:Nat)) then (bif decide ((ByteArray.size (Da (Da (bs [111,114,100,101,114,32]) r0.1) (bs [32]))+ByteArray.size r1.1)≤(9223372036854775807:Nat)) then some (Da (Da (Da (bs [111,114,100,101,114,32]) r0.1) (bs [32])) r1.1,r2.2) else none) else none) else none) else (bif decide (r2.1=12) then (Pc ([(bs [110,101,116]),(bs [99,97,108,109])],r2.2)).bind fun r6=>some r6 else (Pc ([(bs ([]:List UInt8)),(bs [119,104,97,116]),(bs [100,111,119,110]),(bs [112,97,116,104,32,48]),(bs [100,101,108,105,118,101,114,32,120]),(bs [110,101,116,32,49])],r2.2)).bind fun r7=>some r7)))))))) else (bif decide (r2.1=4) then (bif decide (r2.1=4) then (Pc ([(bs [48]),(bs [48]),(bs [49]),(bs [50])],r2.2)).bind fun r8=>(bif decide ((ByteArray.size (bs [100,101,108,105,118,101,114,32])+ByteArray.size r8.1)≤(9223372036854775807:Nat)) then some (Da (bs [100,101,108,105,118,101,114,32]) r8.1,r8.2) else none) else (bif decide (r2.1=6) then (Pc ([(bs [108,111,115,101,32]),(bs [116,119,105,99,101,32])],r2.2)).bind fun r9=>(bif decide ((ByteArray.size r9.1+ByteArray.size r0.1)≤(9223372036854775807:Nat)) then some (Da r9.1 r0.1,r9.2) else none) else (bif decide (r2.1=7) then (bif decide ((ByteArray.size (bs [115,121,110,99,32])+ByteArray.size r0.1)≤(9223372036854775807:Nat)) then some (Da (bs [115,121,110,99,32]) r0.1,r2.2) else none) else (bif decide (r2.1=8) then (bif decide ((ByteArray.size (bs [112,97,116,104,32])+ByteArray.size r1.1)≤(9223372036854775807:Nat)) then (bif decide ((ByteArray.size (Da (bs [112,97,116,104,32]) r1.1)+ByteArray.size (bs [32]))≤(9223372036854775807:Nat)) then (bif decide ((ByteArray.size (Da (Da (bs [112,97,116,104,32]) r1.1) (bs [32]))+ByteArray.size r0.1)≤(9223372036854775807:Nat)) then some (Da (Da (Da (bs [112,97,116,104,32]) r1.1) (bs [32])) r0.1,r2.2) else none) else none) else none) else (bif decide (r2.1=9) then (bif decide ((ByteArray.size (bs [115,101,101,110,32])+ByteArray.size r1.1)≤(9223372036854775807:Nat)) then (bif decide ((ByteArray.size (Da (bs [115,101,101,110,32]) r1.1)+ByteArray.size (bs [32]))≤(9223372036854775807:Nat)) then (bif decide ((ByteArray.size (Da (Da (bs [115,101,101,110,32]) r1.1) (bs [32]))+ByteArray.size r0.1)≤(9223372036854775807:Nat)) then some (Da (Da (Da (bs [115,101,101,110,32]) r1.1) (bs [32])) r0.1,r2.2) else none) else none) else none) else (bif decide (r2.1=10) then (bif decide ((ByteArray.size (bs [114,101,112,97,105,114,32])+ByteArray.size r1.1)≤(9223372036854775807:Nat)) then (bif decide ((ByteArray.size (Da (bs [114,101,112,97,105,114,32]) r1.1)+ByteArray.size (bs [32]))≤(9223372036854775807:Nat)) then (bif decide ((ByteArray.size (Da (Da (bs [114,101,112,97,105,114,32]) r1.1) (bs [32]))+ByteArray.size r0.1)≤(9223372036854775807:Nat)) then (bif decide ((ByteArray.size (Da (Da (Da (bs [114,101,112,97,105,114,32]) r1.1) (bs [32])) r0.1)+ByteArray.size (bs [32]))≤(9223372036854775807:Nat)) then (Pc ([(bs [48]),(bs [49]),(bs [50]),(bs [51]),(bs [52])],r2.2)).bind fun r10=>(bif decide ((ByteArray.size (Da (Da (Da (Da (bs [114,101,112,97,105,114,32]) r1.1) (bs [32])) r0.1) (bs [32]))+ByteArray.size r10.1)≤(9223372036854775807:Nat)) then some (Da (Da (Da (Da (Da (bs [114,101,112,97,105,114,32]) r1.1) (bs [32])) r0.1) (bs [32])) r10.1,r10.2) else none) else none) else none) else none) else none) else (bif decide (r2.1=11) then (bif decide ((ByteArray.size (bs [111,114,100,101,114,32])+ByteArray.size r0.1)≤(9223372036854775807:Nat)) then (bif decide ((ByteArray.size (Da (bs [111,114,100,101,114,32]) r0.1)+ByteArray.size (bs [32]))≤(9223372036854775807:Nat)) then (bif decide ((ByteArray.size (Da (Da (bs [111,114,100,101,114,32]) r0.1) (bs [32]))+ByteArray.size r1.1)≤(9223372036854775807:Nat)) then some (Da (Da (Da (bs [111,114,100,101,114,32]) r0.1) (bs [32])) r1.1,r2.2) else none) else none) else none) else (bif decide (r2.1=12) then (Pc ([(bs [110,101,116]),(bs [99,97,108,109])],r2.2)).bind fun r11=>some r11 else (Pc ([(bs ([]:List UInt8)),(bs [119,104,97,116]),(bs [100,111,119,110]),(bs [112,97,116,104,32,48]),(bs [100,101,108,105,118,101,114,32,120]),(bs [110,101,116,32,49])],r2.2)).bind fun r12=>some r12)))))))) else (bif decide (r2.1=5) then (Pc ([(bs [48]),(bs [48]),(bs [49]),(bs [50])],r2.2)).bind fun r13=>(bif decide ((ByteArray.size (bs [100,101,108,105,118,101,114,32])+ByteArray.size r13.1)≤(9223372036854775807:Nat)) then some (Da (bs [100,101,108,105,118,101,114,32]) r13.1,r13.2) else none) else (bif decide (r2.1=6) then (Pc ([(bs [108,111,115,101,32]),(bs [116,119,105,99,101,32])],r2.2)).bind fun r14=>(bif decide ((ByteArray.size r14.1+ByteArray.size r0.1)≤(9223372036854775807:Nat)) then some (Da r14.1 r0.1,r14.2) else none) else (bif decide (r2.1=7) then (bif decide ((ByteArray.size (bs [115,121,110,99,32])+ByteArray.size r0.1)≤(9223372036854775807:Nat)) then some (Da (bs [115,121,110,99,32]) r0.1,r2.2) else none) else (bif decide (r2.1=8) then (bif decide ((ByteArray.size (bs [112,97,116,104,32])+ByteArray.size r1.1)≤(9223372036854775807:Nat)) then (bif decide ((ByteArray.size (Da (bs [112,97,116,104,32]) r1.1)+ByteArray.size (bs [32]))≤(9223372036854775807:Nat)) then (bif decide ((ByteArray.size (Da (Da (bs [112,97,116,104,32]) r1.1) (bs [32]))+ByteArray.size r0.1)≤(9223372036854775807:Nat)) then some (Da (Da (Da (bs [112,97,116,104,32]) r1.1) (bs [32])) r0.1,r2.2) else none) else none) else none) else (bif decide (r2.1=9) then (bif decide ((ByteArray.size (bs [115,101,101,110,32])+ByteArray.size r1.1)≤(9223372036854775807:Nat)) then (bif decide ((ByteArray.size (Da (bs [115,101,101,110,32]) r1.1)+ByteArray.size (bs [32]))≤(9223372036854775807:Nat)) then (bif decide ((ByteArray.size (Da (Da (bs [115,101,101,110,32]) r1.1) (bs [32]))+ByteArray.size r0.1)≤(9223372036854775807:Nat)) then some (Da (Da (Da (bs [115,101,101,110,32]) r1.1) (bs [32])) r0.1,r2.2) else none) else none) else none) else (bif decide (r2.1=10) then (bif decide ((ByteArray.size (bs [114,101,112,97,105,114,32])+ByteArray.size r1.1)≤(9223372036854775807:Nat)) then (bif decide ((ByteArray.size (Da (bs [114,101,112,97,105,114,32]) r1.1)+ByteArray.size (bs [32]))≤(9223372036854775807:Nat)) then (bif decide ((ByteArray.size (Da (Da (bs [114,101,112,97,105,114,32]) r1.1) (bs [32]))+ByteArray.size r0.1)≤(9223372036854775807:Nat)) then (bif decide ((ByteArray.size (Da (Da (Da (bs [114,101,112,97,105,114,32]) r1.1) (bs [32])) r0.1)+ByteArray.size (bs [32]))≤(9223372036854775807:Nat)) then (Pc ([(bs [48]),(bs [49]),(bs [50]),(bs [51]),(bs [52])],r2.2)).bind fun r15=>(bif decide ((ByteArray.size (Da (Da (Da (Da (bs [114,101,112,97,105,114,32]) r1.1) (bs [32])) r0.1) (bs [32]))+ByteArray.size r15.1)≤(9223372036854775807:Nat)) then some (Da (Da (Da (Da (Da (bs [114,101,112,97,105,114,32]) r1.1) (bs [32])) r0.1) (bs [32])) r15.1,r15.2) else none) else none) else none) else none) else none) else (bif decide (r2.1=11) then (bif decide ((ByteArray.size (bs [111,114,100,101,114,32])+ByteArray.size r0.1)≤(9223372036854775807:Nat)) then (bif decide ((ByteArray.size (Da (bs [111,114,100,101,114,32]) r0.1)+ByteArray.size (bs [32]))≤(9223372036854775807:Nat)) then (bif decide ((ByteArray.size (Da (Da (bs [111,114,100,101,114,32]) r0.1) (bs [32]))+ByteArray.size r1.1)≤(9223372036854775807:Nat)) then some (Da (Da (Da (bs [111,114,100,101,114,32]) r0.1) (bs [32])) r1.1,r2.2) else none) else none) else none) else (bif decide (r2.1=12) then (Pc ([(bs [110,101,116]),(bs [99,97,108,109])],r2.2)).bind fun r16=>some r16 else (Pc ([(bs ([]:List UInt8)),(bs [119,104,97,116]),(bs [100,111,119,110]),(bs [112,97,116,104,32,48]),(bs [100,101,108,105,118,101,114,32,120]),(bs [110,101,116,32,49])],r2.2)).bind fun r17=>some r17)))))))))))) else (bif decide (r2.1=1) then (bif decide ((ByteArray.size (bs [100,111,119,110,32])+ByteArray.size r0.1)≤(9223372036854775807:Nat)) then some (Da (bs [100,111,119,110,32]) r0.1,r2.2) else none) else (bif decide (r2.1=2) then (bif decide ((ByteArray.size (bs [117,112,32])+ByteArray.size r0.1)≤(9223372036854775807:Nat)) then some (Da (bs [117,112,32]) r0.1,r2.2) else none) else (bif decide (r2.1=3) then (bif decide (r2.1=3) then (Pc ([(bs [48]),(bs [48]),(bs [49]),(bs [50])],r2.2)).bind fun r18=>(bif decide ((ByteArray.size (bs [100,101,108,105,118,101,114,32])+ByteArray.size r18.1)≤(9223372036854775807:Nat)) then some (Da (bs [100,101,108,105,118,101,114,32]) r18.1,r18.2) else none) else (bif decide (r2.1=6) then (Pc ([(bs [108,111,115,101,32]),(bs [116,119,105,99,101,32])],r2.2)).bind fun r19=>(bif decide ((ByteArray.size r19.1+ByteArray.size r0.1)≤(9223372036854775807:Nat)) then some (Da r19.1 r0.1,r19.2) else none) else (bif decide (r2.1=7) then (bif decide ((ByteArray.size (bs [115,121,110,99,32])+ByteArray.size r0.1)≤(9223372036854775807:Nat)) then some (Da (bs [115,121,110,99,32]) r0.1,r2.2) else none) else (bif decide (r2.1=8) then (bif decide ((ByteArray.size (bs [112,97,116,104,32])+ByteArray.size r1.1)≤(9223372036854775807:Nat)) then (bif decide ((ByteArray.size (Da (bs [112,97,116,104,32]) r1.1)+ByteArray.size (bs [32]))≤(9223372036854775807:Nat)) then (bif decide ((ByteArray.size (Da (Da (bs [112,97,116,104,32]) r1.1) (bs [32]))+ByteArray.size r0.1)≤(9223372036854775807:Nat)) then some (Da (Da (Da (bs [112,97,116,104,32]) r1.1) (bs [32])) r0.1,r2.2) else none) else none) else none) else (bif decide (r2.1=9) then (bif decide ((ByteArray.size (bs [115,101,101,110,32])+ByteArray.size r1.1)≤(9223372036854775807:Nat)) then (bif decide ((ByteArray.size (Da (bs [115,101,101,110,32]) r1.1)+ByteArray.size (bs [32]))≤(9223372036854775807:Nat)) then (bif decide ((ByteArray.size (Da (Da (bs [115,101,101,110,32]) r1.1) (bs [32]))+ByteArray.size r0.1)≤(9223372036854775807:Nat)) then some (Da (Da (Da (bs [115,101,101,110,32]) r1.1) (bs [32])) r0.1,r2.2) else none) else none) else none) else (bif decide (r2.1=10) then (bif decide ((ByteArray.size (bs [114,101,112,97,105,114,32])+ByteArray.size r1.1)≤(9223372036854775807:Nat)) then (bif decide ((ByteArray.size (Da (bs [114,101,112,97,105,114,32]) r1.1)+ByteArray.size (bs [32]))≤(9223372036854775807:Nat)) then (bif decide ((ByteArray.size (Da (Da (bs [114,101,112,97,105,114,32]) r1.1) (bs [32]))+ByteArray.size r0.1)≤(9223372036854775807:Nat)) then (bif decide ((ByteArray.size (Da (Da (Da (bs [114,101,112,97,105,114,32]) r1.1) (bs [32])) r0.1)+ByteArray.size (bs [32]))≤(9223372036854775807:Nat)) then (Pc ([(bs [48]),(bs [49]),(bs [50]),(bs [51]),(bs [52])],r2.2)).bind fun r20=>(bif decide ((ByteArray.size (Da (Da (Da (Da (bs [114,101,112,97,105,114,32]) r1.1) (bs [32])) r0.1) (bs [32]))+ByteArray.size r20.1)≤(9223372036854775807:Nat)) then some (Da (Da (Da (Da (Da (bs [114,101,112,97,105,114,32]) r1.1) (bs [32])) r0.1) (bs [32])) r20.1,r20.2) else none) else none) else none) else none) else none) else (bif decide (r2.1=11) then (bif decide ((ByteArray.size (bs [111,114,100,101,114,32])+ByteArray.size r0.1)≤(9223372036854775807:Nat)) then (bif decide ((ByteArray.size (Da (bs [111,114,100,101,114,32]) r0.1)+ByteArray.size (bs [32]))≤(9223372036854775807:Nat)) then (bif decide ((ByteArray.size (Da (Da (bs [111,114,100,101,114,32]) r0.1) (bs [32]))+ByteArray.size r1.1)≤(9223372036854775807:Nat)) then some (Da (Da (Da (bs [111,114,100,101,114,32]) r0.1) (bs [32])) r1.1,r2.2) else none) else none) else none) else (bif decide (r2.1=12) then (Pc ([(bs [110,101,116]),(bs [99,97,108,109])],r2.2)).bind fun r21=>some r21 else (Pc ([(bs ([]:List UInt8)),(bs [119,104,97,116]),(bs [100,111,119,110]),(bs [112,97,116,104,32,48]),(bs [100,101,108,105,118,101,114,32,120]),(bs [110,101,116,32,49])],r2.2)).bind fun r22=>some r22)))))))) else (bif decide (r2.1=4) then (bif decide (r2.1=4) then (Pc ([(bs [48]),(bs [48]),(bs [49]),(bs [50])],r2.2)).bind fun r23=>(bif decide ((ByteArray.size (bs [100,101,108,105,118,101,114,32])+ByteArray.size r23.1)≤(9223372036854775807:Nat)) then some (Da (bs [100,101,108,105,118,101,114,32]) r23.1,r23.2) else none) else (bif decide (r2.1=6) then (Pc ([(bs [108,111,115,101,32]),(bs [116,119,105,99,101,32])],r2.2)).bind fun r24=>(bif decide ((ByteArray.size r24.1+ByteArray.size r0.1)≤(9223372036854775807:Nat)) then some (Da r24.1 r0.1,r24.2) else none) else (bif decide (r2.1=7) then (bif decide ((ByteArray.size (bs [115,121,110,99,32])+ByteArray.size r0.1)≤(9223372036854775807:Nat)) then some (Da (bs [115,121,110,99,32]) r0.1,r2.2) else none) else (bif decide (r2.1=8) then (bif decide ((ByteArray.size (bs [112,97,116,104,32])+ByteArray.size r1.1)≤(9223372036854775807:Nat)) then (bif decide ((ByteArray.size (Da (bs [112,97,116,104,32]) r1.1)+ByteArray.size (bs [32]))≤(9223372036854775807:Nat)) then (bif decide ((ByteArray.size (Da (Da (bs [112,97,116,104,32]) r1.1) (bs [32]))+ByteArray.size r0.1)≤(9223372036854775807:Nat)) then some (Da (Da (Da (bs [112,97,116,104,32]) r1.1) (bs [32])) r0.1,r2.2) else none) else none) else none) else (bif decide (r2.1=9) then (bif decide ((ByteArray.size (bs [115,101,101,110,32])+ByteArray.size r1.1)≤(9223372036854775807:Nat)) then (bif decide ((ByteArray.size (Da (bs [115,101,101,110,32]) r1.1)+ByteArray.size (bs [32]))≤(9223372036854775807:Nat)) then (bif decide ((ByteArray.size (Da (Da (bs [115,101,101,110,32]) r1.1) (bs [32]))+ByteArray.size r0.1)≤(9223372036854775807:Nat)) then some (Da (Da (Da (bs [115,101,101,110,32]) r1.1) (bs [32])) r0.1,r2.2) else none) else none) else none) else (bif decide (r2.1=10) then (bif decide ((ByteArray.size (bs [114,101,112,97,105,114,32])+ByteArray.size r1.1)≤(9223372036854775807:Nat)) then (bif decide ((ByteArray.size (Da (bs [114,101,112,97,105,114,32]) r1.1)+ByteArray.size (bs [32]))≤(9223372036854775807:Nat)) then (bif decide ((ByteArray.size (Da (Da (bs [114,101,112,97,105,114,32]) r1.1) (bs [32]))+ByteArray.size r0.1)≤(9223372036854775807:Nat)) then (bif decide ((ByteArray.size (Da (Da (Da (bs [114,101,112,97,105,114,32]) r1.1) (bs [32])) r0.1)+ByteArray.size (bs [32]))≤(9223372036854775807:Nat)) then (Pc ([(bs [48]),(bs [49]),(bs [50]),(bs [51]),(bs [52])],r2.2)).bind fun r25=>(bif decide ((ByteArray.size (Da (Da (Da (Da (bs [114,101,112,97,105,114,32]) r1.1) (bs [32])) r0.1) (bs [32]))+ByteArray.size r25.1)≤(9223372036854775807:Nat)) then some (Da (Da (Da (Da (Da (bs [114,101,112,97,105,114,32]) r1.1) (bs [32])) r0.1) (bs [32])) r25.1,r25.2) else none) else none) else none) else none) else none) else (bif decide (r2.1=11) then (bif decide ((ByteArray.size (bs [111,114,100,101,114,32])+ByteArray.size r0.1)≤(9223372036854775807:Nat)) then (bif decide ((ByteArray.size (Da (bs [111,114,100,101,114,32]) r0.1)+ByteArray.size (bs [32]))≤(9223372036854775807:Nat)) then (bif decide ((ByteArray.size (Da (Da (bs [111,114,100,101,114,32]) r0.1) (bs [32]))+ByteArray.size r1.1)≤(9223372036854775807:Nat)) then some (Da (Da (Da (bs [111,114,100,101,114,32]) r0.1) (bs [32])) r1.1,r2.2) else none) else none) else none) else (bif decide (r2.1=12) then (Pc ([(bs [110,101,116]),(bs [99,97,108,109])],r2.2)).bind fun r26=>some r26 else (Pc ([(bs ([]:List UInt8)),(bs [119,104,97,116]),(bs [100,111,119,110]),(bs [112,97,116,104,32,48]),(bs [100,101,108,105,118,101,114,32,120]),(bs [110,101,116,32,49])],r2.2)).bind fun r27=>some r27)))))))) else (bif decide (r2.1=5) then (Pc ([(bs [48]),(bs [48]),(bs [49]),(bs [50])],r2.2)).bind fun r28=>(bif decide ((ByteArray.size (bs [100,101,108,105,118,101,114,32])+ByteArray.size r28.1)≤(9223372036854775807:Nat)) then some (Da (bs [100,101,108,105,118,101,114,32]) r28.1,r28.2) else none) else (bif decide (r2.1=6) then (Pc ([(bs [108,111,115,101,32]),(bs [116,119,105,99,101,32])],r2.2)).bind fun r29=>(bif decide ((ByteArray.size r29.1+ByteArray.size r0.1)≤(9223372036854775807:Nat)) then some (Da r29.1 r0.1,r29.2) else none) else (bif decide (r2.1=7) then (bif decide ((ByteArray.size (bs [115,121,110,99,32])+ByteArray.size r0.1)≤(9223372036854775807:Nat)) then some (Da (bs [115,121,110,99,32]) r0.1,r2.2) else none) else (bif decide (r2.1=8) then (bif decide ((ByteArray.size (bs [112,97,116,104,32])+ByteArray.size r1.1)≤(9223372036854775807:Nat)) then (bif decide ((ByteArray.size (Da (bs [112,97,116,104,32]) r1.1)+ByteArray.size (bs [32]))≤(9223372036854775807:Nat)) then (bif decide ((ByteArray.size (Da (Da (bs [112,97,116,104,32]) r1.1) (bs [32]))+ByteArray.size r0.1)≤(9223372036854775807:Nat)) then some (Da (Da (Da (bs [112,97,116,104,32]) r1.1) (bs [32])) r0.1,r2.2) else none) else none) else none) else (bif decide (r2.1=9) then (bif decide ((ByteArray.size (bs [115,101,101,110,32])+ByteArray.size r1.1)≤(9223372036854775807:Nat)) then (bif decide ((ByteArray.size (Da (bs [115,101,101,110,32]) r1.1)+ByteArray.size (bs [32]))≤(9223372036854775807:Nat)) then (bif decide ((ByteArray.size (Da (Da (bs [115,101,101,110,32]) r1.1) (bs [32]))+ByteArray.size r0.1)≤(9223372036854775807:Nat)) then some (Da (Da (Da (bs [115,101,101,110,32]) r1.1) (bs [32])) r0.1,r2.2) else none) else none) else none) else (bif decide (r2.1=10) then (bif decide ((ByteArray.size (bs [114,101,112,97,105,114,32])+ByteArray.size r1.1)≤(9223372036854775807:Nat)) then (bif decide ((ByteArray.size (Da (bs [114,101,112,97,105,114,32]) r1.1)+ByteArray.size (bs [32]))≤(9223372036854775807:Nat)) then (bif decide ((ByteArray.size (Da (Da (bs [114,101,112,97,105,114,32]) r1.1) (bs [32]))+ByteArray.size r0.1)≤(9223372036854775807:Nat)) then (bif decide ((ByteArray.size (Da (Da (Da (bs [114,101,112,97,105,114,32]) r1.1) (bs [32])) r0.1)+ByteArray.size (bs [32]))≤(9223372036854775807:Nat)) then (Pc ([(bs [48]),(bs [49]),(bs [50]),(bs [51]),(bs [52])],r2.2)).bind fun r30=>(bif decide ((ByteArray.size (Da (Da (Da (Da (bs [114,101,112,97,105,114,32]) r1.1) (bs [32])) r0.1) (bs [32]))+ByteArray.size r30.1)≤(9223372036854775807:Nat)) then some (Da (Da (Da (Da (Da (bs [114,101,112,97,105,114,32]) r1.1) (bs [32])) r0.1) (bs [32])) r30.1,r30.2) else none) else none) else none) else none) else none) else (bif decide (r2.1=11) then (bif decide ((ByteArray.size (bs [111,114,100,101,114,32])+ByteArray.size r0.1)≤(9223372036854775807:Nat)) then (bif decide ((ByteArray.size (Da (bs [111,114,100,101,114,32]) r0.1)+ByteArray.size (bs [32]))≤(9223372036854775807:Nat)) then (bif decide ((ByteArray.size (Da (Da (bs [111,114,100,101,114,32]) r0.1) (bs [32]))+ByteArray.size r1.1)≤(9223372036854775807:Nat)) then some (Da (Da (Da (bs [111,114,100,101,114,32]) r0.1) (bs [32])) r1.1,r2.2) else none) else none) else none) else (bif decide (r2.1=12) then (Pc ([(bs [110,101,116]),(bs [99,97,108,109])],r2.2)).bind fun r31=>some r31 else (Pc ([(bs ([]:List UInt8)),(bs [119,104,97,116]),(bs [100,111,119,110]),(bs [112,97,116,104,32,48]),(bs [100,101,108,105,118,101,114,32,120]),(bs [110,101,116,32,49])],r2.2)).bind fun r32=>some r32)))))))))))))
def GK (s:(ByteArray×Int×Int×List Int×Y3)):Option ((ByteArray×Int×Int×List Int×Y3)⊕((ByteArray×List Int×Y3)⊕Unit)):=(bif decide (s.2.2.1<s.2.1) then (JB s.2.2.2).bind fun r0=>(bif decide ((ByteArray.size s.1+ByteArray.size r0.1)≤(9223372036854775807:Nat)) then (bif decide ((ByteArray.size (Da s.1 r0.1)+ByteArray.size (bs [10]))≤(9223372036854775807:Nat)) then some (Sum.inl (Da (Da s.1 r0.1) (bs [10]),s.2.1,wrap64 (s.2.2.1+1),r0.2)) else none) else none) else some (Sum.inr (Sum.inl (s.1,s.2.2.2))))
def Io (s:Y2):Option Be:=(UR s).bind fun r0=>(Zk (30,r0)).bind fun r1=>(lp GK Ea ((bs ([]:List UInt8)),r1.1,0,r1.2)).bind fun r2=>(match r2 with| .inl x3=>(Zk (24,x3.2)).bind fun r4=>(bif decide (r4.1=0) then (Zk (6,r4.2)).bind fun r5=>(XR ((bs [99,97,108,109,10]),wrap64 (116+r5.1),())).bind fun r6=>(bif decide ((ByteArray.size x3.1+ByteArray.size r6.1)≤(9223372036854775807:Nat)) then (Zk (8,r5.2)).bind fun r7=>(bif decide (r7.1=0) then (JB r7.2).bind fun r8=>(bif decide ((ByteArray.size (Da x3.1 r6.1)+ByteArray.size r8.1)≤(9223372036854775807:Nat)) then some (Da (Da x3.1 r6.1) r8.1,()) else none) else some (Da x3.1 r6.1,())) else none) else (Zk (8,r4.2)).bind fun r9=>(bif decide (r9.1=0) then (JB r9.2).bind fun r10=>(bif decide ((ByteArray.size x3.1+ByteArray.size r10.1)≤(9223372036854775807:Nat)) then some (Da x3.1 r10.1,()) else none) else some (x3.1,())))| .inr _=>none)
end
section
open Go.RowKit
def M5 (s:Y2):Option Y7:=(bif decide (1048576<nI (List.length s.1)) then some (true,()) else (Io s).bind fun r0=>(Ef r0).bind fun r1=>(Dm r0).bind fun r2=>(bif (!(Dc r1.1 r2.1)) then some (Dc r1.1 r2.1,()) else (Ef ((bs ([]:List UInt8)),())).bind fun r3=>some (Dc r3.1 (bs (110::(111::(100::(101::(32::(48::(32::(49::(32::(49::(32::(49::(32::(49::(32::(49::(10::(110::(111::(100::(101::(32::(49::(32::(49::(32::(49::(32::(49::(32::(49::(32::(49::(10::(110::(111::(100::(101::(32::(50::(32::(49::[32,49,32,49,32,49,32,49,10,110,111,100,101,32,51,32,49,32,49,32,49,32,49,32,49,10,110,111,100,101,32,52,32,49,32,49,32,49,32,49,32,49,10]))))))))))))))))))))))))))))))))))))))))))),())))
def N5 (s:Y2):Option Y7:=(bif decide (1048576<nI (List.length s.1)) then some (true,()) else (Io s).bind fun r0=>(Ef r0).bind fun r1=>(Dm r0).bind fun r2=>(bif (!(Dc r1.1 r2.1)) then some (Dc r1.1 r2.1,()) else (Ef ((bs [112,97,116,104,32,48,32,51,10]),())).bind fun r3=>(Ef ((bs ([]:List UInt8)),())).bind fun r4=>(bif decide ((ByteArray.size (bs [112,97,116,104,32,48,32,49,32,50,32,51,10])+ByteArray.size r4.1)≤(9223372036854775807:Nat)) then some (Dc r3.1 (Da (bs [112,97,116,104,32,48,32,49,32,50,32,51,10]) r4.1),()) else none)))
def O5 (s:Y2):Option Y7:=(bif decide (1048576<nI (List.length s.1)) then some (true,()) else (Io s).bind fun r0=>(Ef r0).bind fun r1=>(Dm r0).bind fun r2=>(bif (!(Dc r1.1 r2.1)) then some (Dc r1.1 r2.1,()) else (Ef ((bs [100,111,119,110,32,48,10,99,97,108,109,10]),())).bind fun r3=>some (Dc r3.1 (bs (110::(111::(100::(101::(32::(48::(32::(50::(32::(50::(32::(49::(32::(49::(32::(49::(10::(110::(111::(100::(101::(32::(49::(32::(50::(32::(50::(32::(49::(32::(49::(32::(49::(10::(110::(111::(100::(101::(32::(50::(32::(50::[32,50,32,49,32,49,32,49,10,110,111,100,101,32,51,32,50,32,50,32,49,32,49,32,49,10,110,111,100,101,32,52,32,50,32,50,32,49,32,49,32,49,10]))))))))))))))))))))))))))))))))))))))))))),())))
def P5 (s:Y2):Option Y7:=(bif decide (1048576<nI (List.length s.1)) then some (true,()) else (Io s).bind fun r0=>(Ef r0).bind fun r1=>(Dm r0).bind fun r2=>(bif (!(Dc r1.1 r2.1)) then some (Dc r1.1 r2.1,()) else (Ef ((bs [114,101,112,97,105,114,32,48,32,48,32,49,10]),())).bind fun r3=>(Ef ((bs ([]:List UInt8)),())).bind fun r4=>(bif decide ((ByteArray.size (bs [114,101,112,97,105,114,32,110,52,32,108,51,10])+ByteArray.size r4.1)≤(9223372036854775807:Nat)) then some (Dc r3.1 (Da (bs [114,101,112,97,105,114,32,110,52,32,108,51,10]) r4.1),()) else none)))
def Q5 (s:Y2):Option Y7:=(bif decide (1048576<nI (List.length s.1)) then some (true,()) else (Io s).bind fun r0=>(Ef r0).bind fun r1=>(Dm r0).bind fun r2=>(bif (!(Dc r1.1 r2.1)) then some (Dc r1.1 r2.1,()) else (Ef ((bs [111,114,100,101,114,32,48,32,49,10]),())).bind fun r3=>(Ef ((bs ([]:List UInt8)),())).bind fun r4=>(bif decide ((ByteArray.size (bs [111,114,100,101,114,32,52,32,48,10])+ByteArray.size r4.1)≤(9223372036854775807:Nat)) then some (Dc r3.1 (Da (bs [111,114,100,101,114,32,52,32,48,10]) r4.1),()) else none)))
def R5 (s:Y2):Option Y7:=(bif decide (1048576<nI (List.length s.1)) then some (true,()) else (Io s).bind fun r0=>(Ef r0).bind fun r1=>(Dm r0).bind fun r2=>(bif (!(Dc r1.1 r2.1)) then some (Dc r1.1 r2.1,()) else (Ef ((bs [115,101,101,110,32,50,32,48,10]),())).bind fun r3=>(Ef ((bs ([]:List UInt8)),())).bind fun r4=>(bif decide ((ByteArray.size (bs [115,101,101,110,32,48,32,50,32,52,32,54,32,51,10])+ByteArray.size r4.1)≤(9223372036854775807:Nat)) then some (Dc r3.1 (Da (bs [115,101,101,110,32,48,32,50,32,52,32,54,32,51,10]) r4.1),()) else none)))
end
section
open Go.RowKit
section
variable {N:Nat} {ls:List Lk}
theorem Im {N:Nat} {ls:List Lk} (g:GV N ls) (a:Nat) (j:Nat): -1≤iz (Tb N ls a) j∧iz (Tb N ls a) j≤5100:=UV N ls a N 0 g.cheap g.2.2.1 (by have:=g.2.1;omega) j
theorem zFZ (g:GV N ls) {f t:Nat} (hf:f<N) (ht:t<N):JO ((N:Int),ls,(f:Int),(t:Int),())=some (Ud N ls f t,()):=by
  have h8:=g.2.1
  have h14:=g.2.2.1
  have fl:Bb ls:=(show Bb ls by unfold Bb;omega)
  unfold JO Ud
  rw [XA g ht]
  dsimp only [Option.bind_some]
  have bd:=fun j=>Im g t j
  have hdl:=Rl N ls t
  generalize Tb N ls t=d at *
  refine Ba.out ?_
  refine Ba.ite (fun h=>?_) (fun h=>?_)
  ·have h:=oT h
   rw [if_pos (.inl (by omega))]
   exact .some rfl
  have h:=oF h
  refine Ba.gd (Ia (by omega) (by omega)) (Ba.ite (fun h1=>?_) (fun h1=>?_))
  ·rw [Tc,Wa] at h1
   have h1:=oT h1
   rw [if_pos (.inr h1)]
   exact .some rfl
  rw [Tc,Wa] at h1
  have h1:=oF h1
  rw [if_neg (not_or.2 ⟨by omega,h1⟩)]
  rw [E4 _ _ _ (by omega),G4 g]
  dsimp only [Option.bind_some]
  have hmem:∀x∈Hc ls f N,∃(j:Nat) (c:Int),x=j∧j<N∧lc ls f x=some c∧1≤c∧c≤20:=fun x hx=>by
    obtain ⟨j,hj,rfl,hs⟩:=Bj.1 hx
    obtain ⟨c,hc⟩:=Option.isSome_iff_exists.1 hs
    have:=Sy g hc
    exact ⟨j,c,rfl,hj,hc,this.1,this.2⟩
  have hnl:=Br ls f N
  generalize Hc ls f N=nb at *
  rw [Ta]
  refine Ba.bnd (R:=fun r=>match r with| .inl x=>x.1=nb.filter (Yk ls d f)| .inr _=>False) ?_ ?_
  ·refine Ba.count nb.length (fun k s=>s=((f:Int),(nb.length:Int),(k:Int),(N:Int),ls,(nb.take k).filter (Yk ls d f),d,nb,())) ?_ (Nat.zero_le _) (Jb (by omega)) (by simp)
   rintro k s hk rfl
   have hle:((nb.take k).filter (Yk ls d f)).length≤k:=Nat.le_trans (List.length_filter_le _ _) (List.length_take_le _ _)
   by_cases hlt:k<nb.length
   ·obtain ⟨j,c,hj,hjN,hc,hc1,hc2⟩:=hmem (iz nb k) (List.mem_of_getElem? (Yg hlt))
    obtain ⟨p1,p2,p3⟩:=Gp hc
    have bj:=bd j
    have hB:Yk ls d f (iz nb k)=decide (iz d j+c=iz d f):=by unfold Yk;rw [hc,hj];rfl
    simp (disch:=omega) only [PE,Tc,Ff,Wa,Na,D4 _ _ _ _ fl,Option.bind_some,List.length_singleton]
    refine Ba.gd (decide_eq_true (by omega)) (Ba.gd (Ia (by omega) (by omega)) (Ba.gd (Ia (by omega) (by omega)) (Ba.gd (Ia (by omega) (by omega)) (Ba.gd (Ia p1 p2) ?_))))
    rw [p3,hj,Wa]
    dsimp only
    rw [Na (by omega) (by omega),←hB]
    refine Ba.ite (fun hu=>Ba.gd (decide_eq_true (by omega)) (.some ⟨hlt,?_⟩)) (fun hu=>.some ⟨hlt,?_⟩)
    ·rw [List.take_add_one,Yg hlt,List.filter_append]
     simp [hu,hj]
     rw [←hj];simp [hu]
    ·rw [List.take_add_one,Yg hlt,List.filter_append]
     simp [hu]
   ·obtain rfl:k=nb.length:=by omega
    unfold PE
    simp only [dF (show ¬(nb.length:Int)<nb.length by omega),cond_false,List.take_length]
    exact .some rfl
  ·rintro (r|r) hr
   case inr=>exact hr.elim
   have hr:r.1=nb.filter (Yk ls d f):=hr
   exact .some (by first | rw [hr] | exact Prod.ext hr rfl)
end
end
section
open Go.RowKit
section
variable {w:Wd}
def Dx (w:Wd) (i:Nat):List Lk:=Cg (Id (Qa w.db i)) w.n.toNat
theorem yA2 (h:WV w Nb) {i:Nat} (hi:i<w.db.length):ZO (w.n,w.ls,w.up,w.sq,w.db,w.net,(i:Int),())=some (w.n,Dx w i,()):=by
  have hd:=h.ok i hi
  have hdb:=h.db
  have h8:=h.nn
  obtain ⟨N,hN⟩:=Int.eq_ofNat_of_zero_le (show 0≤w.n by omega)
  have hg:=iX h hN (i:=i) (by omega)
  have hok:DR w.n (Qa w.db i)=true:=by
    unfold DR
    rw [Lx (by omega),show Sh (Qa w.db i)=true from decide_eq_true hd,decide_eq_true (by rw [hN,Int.toNat_natCast];exact hg.2.2.1)]
    rfl
  have hlen:=hd.len
  unfold ZO YO
  simp only [Wa,Vg]
  refine Ba.out (La (Ba.out (Ba.gd (Ia (by omega) (by omega)) (La (zDK w.n (Qa w.db i) (by omega) hd.sm.fe) (.some rfl)))) ?_)
  rw [hok]
  exact .some rfl
theorem kA (N:Nat) (ls:List Lk) (t:Nat):∀k f,(Ni N ls t k f).length≤k+1
  |0,f=>by simp [Ni]
  |k+1,f=>by
   unfold Ni
   split
   ·simp
   ·have:=kA N ls t k (iz (Ud N ls f t) 0).toNat
    rw [List.length_cons];omega
theorem Al {σ τ:Type} {B:σ→Option (σ⊕τ)} {m:Nat} {s:σ} {Q:τ→Prop} (h:Ba (B s) fun r=>match r with| .inl s'=>Ba (lp B m s') Q| .inr x=>Q x):Ba (lp B (m+1) s) Q:=by
  unfold Go.Proofs.YtjffopopheiinaaGreatDoor.lp
  refine Ba.bnd h fun r hr=>?_
  cases r with
  |inl s'=>exact hr
  |inr x=>exact .some hr
theorem yA3 {N t:Nat} {ls:List Lk} (g:GV N ls) (ht:t<N) (k:Nat):∀(f:Nat) (acc:List Int) (m:Nat),f<N→0≤iz (Tb N ls t) f→iz (Tb N ls t) f≤k→k<m→acc.length+k≤30000000→Ba (lp Ez m ((f:Int),(t:Int),(N:Int),ls,acc++[(f:Int)],())) fun r=>match r with| .inl x=>x=(acc++Ni N ls t k f,())| .inr _=>False:=by
  induction k with
  |zero =>
   intro f acc m hf hd hk hm hl
   obtain ⟨m,rfl⟩:∃m',m=m'+1:=⟨m-1,by omega⟩
   have hft:f=t:=by
     by_cases e:f=t
     ·exact e
     ·obtain ⟨x,_,_,_,h4,h5,_⟩:=MR g hf ht e hd
      omega
   refine Al ?_
   unfold Ez
   exact Ba.no (by simp [hft]) (.some rfl)
  |succ k ih =>
   intro f acc m hf hd hk hm hl
   obtain ⟨m,rfl⟩:∃m',m=m'+1:=⟨m-1,by omega⟩
   refine Al ?_
   unfold Ez
   by_cases e:f=t
   ·refine Ba.no (by simp [e]) (.some ?_)
    unfold Ni
    rw [if_pos e]
   ·obtain ⟨x,h1,h2,h3,h4,h5,_⟩:=MR g hf ht e hd
    refine Ba.gd (by simp;omega) (La (zFZ g hf ht) ?_)
    have h2':Aa .int (Ud N ls f t) (Int.toNat 0)=(x:Int):=(Tc _ _).trans h2
    dsimp only
    rw [h2']
    refine Ba.gd (Ia (by omega) (by omega)) (Ba.gd (decide_eq_true (by simp only [List.length_append,List.length_singleton];omega)) (.some ?_))
    have:=ih x (acc++[(f:Int)]) m h1 h4 (by omega) (by omega) (by simp only [List.length_append,List.length_singleton];omega)
    refine this.mono ?_
    rintro (r|r) hr
    ·dsimp only at hr ⊢
     rw [hr,Ni,if_neg e,h2,Wa,List.append_assoc];rfl
    ·exact hr
def Bl (N:Nat) (ls:List Lk) (f t:Nat):List Int:=if iz (Tb N ls t) f<0 then [] else Ni N ls t (iz (Tb N ls t) f).toNat f
theorem zDT {N:Nat} {ls:List Lk} (g:GV N ls) {f t:Nat} (hf:f<N) (ht:t<N):Ns ((N:Int),ls,(f:Int),(t:Int),())=some (Bl N ls f t,()):=by
  have fl:Bb ls:=by have:=g.2.2.1;unfold Bb;omega
  have hg:gv N ls=true:=decide_eq_true g
  have key:KO ((N:Int),ls,(f:Int),(t:Int),())=some (Bl N ls f t,()):=by
    unfold KO Bl
    have bd:=Im g t f
    refine Ba.out (La (XA g ht) ?_)
    have hdl:=Rl N ls t
    simp only [Tc,Wa]
    refine Ba.gd (Ia (by omega) (by omega)) (Ba.ite (fun hc=>?_) (fun hc=>?_))
    ·have hc:iz (Tb N ls t) f<0:=oT hc
     exact .some (by rw [if_pos hc])
    ·have hc:¬iz (Tb N ls t) f<0:=oF hc
     rw [if_neg hc]
     refine Ba.bnd (yA3 g ht (iz (Tb N ls t) f).toNat f [] Ea hf (by omega) (by omega) (Jb (by omega)) (by simp;omega)) ?_
     rintro (r|r) hr
     case inr=>exact hr.elim
     obtain rfl:=hr
     exact .some rfl
  unfold Ns
  refine Ba.out (La (Zw _ _ _ fl) ?_)
  dsimp only
  rw [hg,Lx (by omega)]
  refine Ba.no rfl (La (Zw _ _ _ fl) ?_)
  dsimp only
  rw [hg,Lx (by omega)]
  exact Ba.no rfl (La key (.some rfl))
end
end
section
open Go.RowKit
section
variable {w:Wd}
theorem yA4 (h:WV w Nb) {i:Nat} (hi:i<w.db.length):GV w.n (Dx w i):=by
  have hdb:=h.db
  have h8:=h.nn
  obtain ⟨N,hN⟩:=Int.eq_ofNat_of_zero_le (show 0≤w.n by omega)
  have:=iX h hN (i:=i) (by omega)
  unfold Dx
  rw [hN,Int.toNat_natCast]
  exact this
noncomputable def Yj (w:Wd) (i:Int):Int×List Lk:=if (wv w&&Db i 0 (w.n-1))=true then (w.n,Dx w i.toNat) else (0,[])
theorem kB (w:Wd) (i:Int):(Yj w i=(0,[])∧(wv w&&Db i 0 (w.n-1))=false)∨∃k:Nat,i=k∧WV w Nb∧k<w.db.length∧Yj w i=(w.n,Dx w k):=by
  unfold Yj
  cases hb:(wv w&&Db i 0 (w.n-1)) with
  |false=>exact .inl ⟨rfl,rfl⟩
  |true =>
   simp only [Bool.and_eq_true] at hb
   have v:=Bx.1 hb.1
   have hi:=He hb.2
   have hdb:=v.db
   obtain ⟨k,rfl⟩:=Int.eq_ofNat_of_zero_le hi.1
   exact .inr ⟨k,rfl,v,by omega,rfl⟩
theorem yA5 (w:Wd) (i:Int):Bb (Yj w i).2:=by
  rcases kB w i with ⟨e,_⟩|⟨k,rfl,v,hk,e⟩
  ·rw [e];unfold Bb;simp
  ·rw [e]
   have:=(yA4 v hk).2.2.1
   unfold Bb;dsimp only;omega
theorem zGf (h:FB w) (i:Int):Iz (w.n,w.ls,w.up,w.sq,w.db,w.net,i,())=some ((Yj w i).1,(Yj w i).2,()):=by
  unfold Iz
  refine Ba.out (La (jV h) ?_)
  dsimp only
  cases hv:wv w with
  |false =>
   have e:Yj w i=(0,[]):=by unfold Yj;rw [hv];rfl
   rw [e]
   exact Ba.gd rfl (.some rfl)
  |true =>
   have v:=Bx.1 hv
   have h8:=v.nn
   refine Ba.no rfl (La (Up w.n i w.ls (by omega) (by omega)) ?_)
   dsimp only
   rcases kB w i with ⟨e,hb⟩|⟨k,rfl,v,hk,e⟩
   ·rw [hv,Bool.true_and] at hb
    rw [hb,e]
    exact Ba.gd rfl (.some rfl)
   ·have hdb:=v.db
    have hd:=v.ok k hk
    rw [Lx (by omega),e]
    obtain ⟨N,hN⟩:=Int.eq_ofNat_of_zero_le (show 0≤w.n by omega)
    simp only [Wa,Vg]
    refine Ba.no rfl (Ba.gd (Ia (by omega) (by omega)) ?_)
    unfold Dx
    rw [hN,Int.toNat_natCast]
    exact La (zE9 hd.sm.fits hd.sm.fe (show N≤8 by omega)) (.some rfl)
end
end
section
open Go.RowKit
open Go.Lib (itoa decDigits)
def Yp:List UInt8:=[110,111,100,101]
def Jo:List UInt8:=[112,97,116,104]
def Ko:List UInt8:=[115,101,101,110]
def Ej:List UInt8:=[114,101,112,97,105,114]
def Lo:List UInt8:=[111,114,100,101,114]
def HK:List UInt8:=[110,101,116]
def KB:List UInt8:=[99,97,108,109]
def yA6:List UInt8:=[119,104,97,116,10]
def yA7:List UInt8:=[110,111,32,114,101,112,97,105,114,10]
def yA8:List UInt8:=[116,111,111,32,108,111,110,103,10]
def Fj (w:List UInt8):Int :=
  if w=[100,111,119,110] then 1 else if w=[117,112] then 2 else if w=[100,101,108,105,118,101,114] then 3 else if w=[108,111,115,101] then 4 else if w=[116,119,105,99,101] then 5 else if w=[115,121,110,99] then 6 else 0
def Ng (b:UInt8):Bool:=decide (48≤b.toNat)&&decide (b.toNat≤57)
def Wh (n:Int) (w:List UInt8):Int:=w.foldl (fun n b=>10*n+((b.toNat:Int)-48)) n
def Kb (w:List UInt8):Int:=if 1≤w.length∧w.length≤2∧w.all Ng=true then Wh 0 w else -1
theorem kC {w:List UInt8} (h:w.all Ng=true) {n:Int} (h0:0≤n):0≤Wh n w∧(w.length≤2→n=0→Wh n w≤99):=by
  have dg:∀b:UInt8,Ng b=true→48≤b.toNat∧b.toNat≤57:=fun b hb=>by simpa [Ng] using hb
  have pos:∀(w:List UInt8) (n:Int),w.all Ng=true→0≤n→0≤Wh n w:=by
    intro w
    induction w with
    |nil=>intro n _ h;exact h
    |cons b r ih =>
     intro n h h0
     simp only [List.all_cons,Bool.and_eq_true] at h
     have:=dg b h.1
     exact ih _ h.2 (by dsimp only;omega)
  refine ⟨pos w n h h0,fun hl hn=>?_⟩
  subst hn
  match w,hl,h with
  |[],_,_=>simp [Wh]
  |[a],_,h =>
   have:=dg a (by simpa using h)
   simp only [Wh,List.foldl_cons,List.foldl_nil]
   omega
  |[a,b],_,h =>
   simp only [List.all_cons,List.all_nil,Bool.and_true,Bool.and_eq_true] at h
   have:=dg a h.1
   have:=dg b h.2
   simp only [Wh,List.foldl_cons,List.foldl_nil]
   omega
  |_::_::_::_,hl,_=>simp at hl
theorem YR (u:Nat):decDigits u=if u<10 then [UInt8.ofNat (48+u)] else decDigits (u / 10)++[UInt8.ofNat (48+u % 10)]:=by
  rw [decDigits]
  split<;>rfl
def blk (l:List Int):List UInt8:=l.flatMap fun n=>32::itoa n
theorem kD (a b:List Int):blk (a++b)=blk a++blk b:=by simp [blk]
def Ad (w:List UInt8) (l:List Int):List UInt8:=w++(blk l++[10])
def Zj (l:List UInt8):Prop:=l=[]∨∃a,l=a++[10]
theorem Zj.nil:Zj []:=.inl rfl
theorem Zj.app {a b:List UInt8} (ha:Zj a) (hb:Zj b):Zj (a++b):=by
  rcases hb with rfl|⟨c,rfl⟩
  ·rwa [List.append_nil]
  ·exact .inr ⟨a++c,(List.append_assoc ..).symm⟩
theorem Zj.mk (a:List UInt8):Zj (a++[10]):=.inr ⟨a,rfl⟩
theorem Zj.flat {α:Type} {f:α→List UInt8}:∀{l:List α},(∀x∈l,Zj (f x))→Zj (l.flatMap f)
  |[],_=>.nil
  |x::r,h=>by
   rw [List.flatMap_cons]
   exact (h x (List.mem_cons_self ..)).app (Zj.flat fun y hy=>h y (List.mem_cons_of_mem _ hy))
def Gc (t:List UInt8):List (List UInt8):=(Vb 10 t).dropLast
theorem yA9 {a b:List UInt8} (h:∀x∈b,x≠10):Gc (a++10::b)=Vb 10 a:=by
  unfold Gc
  rw [CN,Ip 10 b h]
  simp
def S5 (t c:List UInt8):Prop:=c.length≤t.length∧((c=[]∧Gc t=[])∨∃a,c=a++[10]∧Gc t=Vb 10 a)
theorem S5.more {t c s:List UInt8} (h:S5 t c) (hs:∀x∈s,x≠10):Gc (c++(s++[10]))=Gc t++[s]:=by
  rcases h.2 with ⟨rfl,e⟩|⟨a,rfl,e⟩
  ·rw [e,List.nil_append,show s++[10]=s++10::[] from rfl,yA9 (by simp),Ip 10 s hs];rfl
  ·rw [e,List.append_assoc]
   show Gc (a++10::(s++[10]))=_
   unfold Gc
   rw [CN,show s++[10]=s++10::[] from rfl,CN,Ip 10 s hs]
   simp [Vb]
end
section
open Go.RowKit
open Go.Lib (itoa decDigits)
def Pe:List Lk:=[⟨0,1,2⟩,⟨0,4,3⟩,⟨1,2,2⟩,⟨1,4,6⟩,⟨2,3,2⟩,⟨3,4,3⟩]
theorem kE:GV 5 Pe:=Py (by decide)
def Wg (l:List Lb):List UInt8:=l.flatMap fun x=>32::(if x.k=1 then 110 else 108)::itoa x.a
def Cd (W:Wd) (a:Int):Int×List Lk:=if Db a 0 (W.n-1)=true then (W.n,Dx W a.toNat) else (0,[])
def Xh (g:Int×List Lk) (a b:Int):List Int:=if (gv g.1 g.2&&(Db a 0 (g.1-1)&&Db b 0 (g.1-1)))=true then Bl g.1.toNat g.2 a.toNat b.toNat else []
def Oi (net:List Pk) (k:Nat):List UInt8:=(List.range k).flatMap fun i:Nat=>Ad (itoa i) [(Ob net i).t,(Ob net i).p.o,(Ob net i).p.s]
def If (db:List (List Ls)) (k:Nat):List UInt8:=(List.range k).flatMap fun n:Nat=>Ad Yp ((n:Int)::(Qa db n).map (·.s))
section
variable (rep:Int→Int→Int→List Lb×Bool) (ord:Int→Int→List Int)
def Ex (a b c:Int):List UInt8:=if (rep a b c).2=true then Ej++(Wg (rep a b c).1++[10]) else yA7
def LB (W:Wd) (ws:List (List UInt8)):List UInt8 :=
  let a:=Kb (ws.getD 1 [])
  let b:=Kb (ws.getD 2 [])
  let c:=Kb (ws.getD 3 [])
  let h:=ws.getD 0 []
  if h=Jo then Ad Jo (Xh (Cd W a) a b) else if h=Ko then Ad Ko (Gm (Cd W a).1 (Cd W a).2 b)
  else if h=Ej then Ex rep a b c else if h=Lo then Ad Lo (ord a b) else if h=HK then Oi W.net W.net.length else yA6
def Dd (W:Wd) (l:List UInt8):Wd×List UInt8 :=
  let ws:=Vb 32 l
  if 0<Fj (ws.getD 0 []) then (Uc W (Fj (ws.getD 0 [])) (Kb (ws.getD 1 [])),[]) else if ws.getD 0 []=KB then (Pf W,[]) else (W,LB rep ord W ws)
def Pb:Wd→List (List UInt8)→Wd×List UInt8
  |W,[]=>(W,[])
  |W,l::r=>((Pb (Dd rep ord W l).1 r).1,(Dd rep ord W l).2++(Pb (Dd rep ord W l).1 r).2)
def W0:Wd:=Ug 5 Pe
def Vd (t:List UInt8):List UInt8:=if 600<t.length then yA8 else (Pb rep ord W0 (Gc t)).2++If (Pb rep ord W0 (Gc t)).1.db (Pb rep ord W0 (Gc t)).1.db.length
theorem kF (W:Wd) (a b:List (List UInt8)):Pb rep ord W (a++b)=((Pb rep ord (Pb rep ord W a).1 b).1,(Pb rep ord W a).2++(Pb rep ord (Pb rep ord W a).1 b).2):=by
  induction a generalizing W with
  |nil=>simp [Pb]
  |cons l r ih=>rw [List.cons_append,Pb,ih,Pb];simp
theorem kG (W:Wd) (l:List UInt8):Pb rep ord W [l]=Dd rep ord W l:=by simp [Pb]
structure Yh (W:Wd):Prop where
  ok:WV W Nb
  n:W.n=5
  ls:W.ls=Pe
  kn:∀n o:Nat,n<5→o<5→1≤Ub (Qa W.db n) o
theorem Jm:Yh W0:=⟨yAY kE,rfl,rfl,by
  have:∀n o:Fin 5,1≤Ub (Qa W0.db n) ((o:Nat):Int):=by decide
  exact fun n o hn ho=>this ⟨n,hn⟩ ⟨o,ho⟩⟩
theorem yBa (w:Wd) (k:Nat) (u:Bool):(Eg w k u).n=w.n∧(Eg w k u).ls=w.ls:=by
  unfold Eg
  split<;>exact ⟨rfl,rfl⟩
theorem yBb (w:Wd) (t:Nat) (l:Ls):(Xj w t l).n=w.n∧(Xj w t l).ls=w.ls:=by
  unfold Xj
  split<;>exact ⟨rfl,rfl⟩
theorem kH (w:Wd) (k a:Int):(Uc w k a).n=w.n∧(Uc w k a).ls=w.ls:=by
  unfold Uc
  split
  ·exact yBa _ _ _
  split
  ·exact yBb _ _ _
  split
  ·exact ⟨rfl,rfl⟩
  split
  ·split<;>exact ⟨rfl,rfl⟩
  split
  ·exact ⟨(B5 w a.toNat).1,(B5 w a.toNat).2.1⟩
  ·exact ⟨rfl,rfl⟩
theorem kI {W:Wd} (F:Yh W) (k a:Int):Yh (Uc W k a):=⟨yAB F.ok k a,(kH W k a).1.trans F.n,(kH W k a).2.trans F.ls,fun n o hn ho=>by
  have:=yAI F.ok k a n (o:Int)
  have:=F.kn n o hn ho
  omega⟩
theorem kJ {w:Wd} (h:WV w Nb) (n:Nat) (o:Int):∀k,k≤w.ls.length→Ub (Qa w.db n) o≤Ub (Qa (Dj w k).db n) o
  |0,_=>Int.le_refl _
  |k+1,hk=>by
   have h1:=kJ h n o k (by omega)
   have h2:=iY (AK h k (by omega)) (k:=k) (by rw [(ZJ w k).2.1];omega) n o
   exact Int.le_trans h1 h2
theorem kK {w:Wd} (h:WV w Nb) (n:Nat) (o:Int):∀k,Ub (Qa w.db n) o≤Ub (Qa (Mg w k).db n) o
  |0=>Int.le_refl _
  |k+1=>Int.le_trans (kK h n o k) (kJ (BK h k) n o _ (Nat.le_refl _))
theorem yBc {W:Wd} (F:Yh W):Yh (Pf W):=⟨iT F.ok,(iU W).1.trans F.n,(iU W).2.1.trans F.ls,fun n o hn ho=>by
  have:=kK (K5 F.ok) n (o:Int) W.n.toNat
  have e:Ub (Qa W.db n) o≤Ub (Qa (Pf W).db n) o:=this
  have:=F.kn n o hn ho
  omega⟩
theorem T5 {W:Wd} (F:Yh W) (l:List UInt8):Yh (Dd rep ord W l).1:=by
  unfold Dd
  dsimp only
  split
  ·exact kI F _ _
  split
  ·exact yBc F
  ·exact F
theorem IK {W:Wd} (F:Yh W) (ls:List (List UInt8)):Yh (Pb rep ord W ls).1:=by
  induction ls generalizing W with
  |nil=>exact F
  |cons l r ih=>exact ih (T5 rep ord F l)
theorem ZR {W:Wd} (F:Yh W):W.db.length=5:=by have:=F.ok.db;have:=F.n;omega
theorem U5 (db:List (List Ls)) (k:Nat):If db (k+1)=If db k++Ad Yp ((k:Int)::(Qa db k).map (·.s)):=by
  unfold If
  rw [List.range_succ,List.flatMap_append]
  simp
theorem kL {t c s:List UInt8} (hC:S5 t c) (hs:∀x∈s,x≠10) (hl:c.length+s.length+1≤600) {W:Wd} {o:List UInt8} (h:Pb rep ord W0 (Gc t)=(W,o)) (F:Yh W):Vd rep ord (c++(s++[10]))=(o++(Dd rep ord W s).2)++If (Dd rep ord W s).1.db 5:=by
  have F2:=T5 rep ord F s
  unfold Vd
  rw [if_neg (by simp only [List.length_append,List.length_singleton];omega),hC.more hs,kF,h,kG,ZR F2]
end
end
section
open Go.RowKit
open Go.Lib (itoa decDigits)
def NR (n:Int):Prop:= -1000000≤n∧n≤1000000
theorem Pi {n:Int} (h:NR n):(itoa n).length≤21:=Go.Lib.itoa_length_le n (by have:=h.1;omega) (by have:=h.2;omega)
theorem BS {n:Int} (h:NR n):Er (n,())=some (bs (itoa n),()):=by
  unfold Er
  have h1:=h.1
  have h2:=h.2
  rw [decide_eq_true (show -9223372036854775808≤(n,()).1∧(n,()).1≤9223372036854775807 by dsimp only;omega)]
  rfl
theorem kM {n:Nat} (h:n<256):Ro [(n:Int)]=bs [UInt8.ofNat n]:=rfl
theorem kN {u k:Nat} (h:u<10 ^ k) (hk:1≤k):(decDigits u).length≤k:=by
  induction k generalizing u with
  |zero=>omega
  |succ k ih =>
   rw [YR]
   split
   ·simp
   ·rcases Nat.eq_zero_or_pos k with e|e
    ·subst e;simp at h;omega
    ·have:=ih (u:=u / 10) (by rw [Nat.pow_succ] at h;omega) e
     rw [List.length_append,List.length_singleton];omega
theorem V5:∀(k u:Nat),u<10 ^ k→u<10 ^ 15→1≤k→Qp k ((u:Int),())=some (bs (decDigits u),())
  |0,u,h,_,h1=>by omega
  |k+1,u,h,hu,_=>by
   show IA (Qp k) ((u:Int),())=_
   unfold IA
   have h15:10 ^ 15=1000000000000000:=by decide
   refine Ba.out (Ba.no (dF (by dsimp only;omega)) (Ba.no (dF (by dsimp only;omega)) ?_))
   by_cases h10:u<10
   ·refine Ba.gd (decide_eq_true (by dsimp only;omega)) (.some ?_)
    have e:Qd .u8 (48+(u:Int))=((48+u:Nat):Int):=by
      show (48+(u:Int)) % 256=_
      omega
    dsimp only
    rw [Na (by omega) (by omega),e,kM (by omega),YR,if_pos h10]
   ·refine Ba.no (dF (by dsimp only;omega)) ?_
    rcases Nat.eq_zero_or_pos k with e|e
    ·subst e;simp at h;omega
    have ih:=V5 k (u / 10) (by rw [Nat.pow_succ] at h;omega) (by omega) e
    have hl:=kN (u:=u / 10) (k:=15) (by omega) (by omega)
    have e1:Int.tdiv (u:Int) 10=((u / 10:Nat):Int):=by rw [Int.tdiv_eq_ediv_of_nonneg (by omega)];omega
    have e2:Int.tmod (u:Int) 10=((u % 10:Nat):Int):=by rw [Int.tmod_eq_emod_of_nonneg (by omega)];omega
    have e3:Qd .u8 (48+((u % 10:Nat):Int))=((48+u % 10:Nat):Int):=by
      show (48+((u % 10:Nat):Int)) % 256=_
      omega
    have b:SI (Qp k) ((u:Int),())=some (.inl (bs (decDigits u),())):=by
      unfold SI
      dsimp only
      simp only [e1,e2]
      simp (disch:=omega) only [Na]
      rw [e3,kM (by omega)]
      refine Ba.out (La ih ?_)
      dsimp only
      simp only [Zc,Yb]
      refine Ba.gd (decide_eq_true (by rw [List.length_singleton];omega)) (.some ?_)
      rw [YR u,if_neg h10]
    exact La b (.some rfl)
theorem Mo {n:Int} (h:NR n):Tk (n,())=some (bs (itoa n),()):=by
  have h1:=h.1
  have h2:=h.2
  have h15:10 ^ 15=1000000000000000:=by decide
  show Qp 25 (n,())=_
  by_cases h0:n<0
  ·obtain ⟨u,rfl⟩:∃u:Nat,n= -(u:Int):=⟨(-n).toNat,by omega⟩
   have ih:=V5 24 u (by omega) (by omega) (by omega)
   have hl:=kN (u:=u) (k:=15) (by omega) (by omega)
   show IA (Qp 24) (-(u:Int),())=_
   unfold IA
   refine Ba.out (Ba.no (dF (by dsimp only;omega)) (Ba.gd (decide_eq_true (by dsimp only;omega)) ?_))
   dsimp only
   rw [Int.neg_neg,Na (by omega) (by omega)]
   refine La ih ?_
   dsimp only
   simp only [Zc,Yb]
   refine Ba.gd (decide_eq_true (by rw [List.length_singleton];omega)) (.some ?_)
   unfold itoa
   rw [if_pos h0]
   simp
  ·obtain ⟨u,rfl⟩:=Int.eq_ofNat_of_zero_le (show 0≤n by omega)
   rw [V5 25 u (by omega) (by omega) (by omega)]
   unfold itoa
   rw [if_neg h0]
   rfl
theorem Cl {l:List Int} (h:∀n∈l,NR n):(blk l).length≤22*l.length:=by
  induction l with
  |nil=>simp [blk]
  |cons a r ih =>
   have h1:=Pi (h a (List.mem_cons_self ..))
   have h2:=ih fun n hn=>h n (List.mem_cons_of_mem _ hn)
   have e:blk (a::r)=(32::itoa a)++blk r:=by simp [blk]
   rw [e,List.length_append,List.length_cons,List.length_cons]
   omega
theorem kO {l:List Int} {k:Nat} (h:k<l.length):blk (l.take (k+1))=blk (l.take k)++(32::itoa (iz l k)):=by
  rw [List.take_add_one,Yg h,kD]
  simp [blk]
theorem kP {l:List Int} (h:∀n∈l,NR n) (k:Nat):∀n∈l.take k,NR n:=fun n hn=>h n (List.mem_of_mem_take hn)
theorem JK {w:List UInt8} {l:List Int} (hw:w.length≤1000000) (hl:l.length≤1000000) (hr:∀n∈l,NR n):Rp (bs w,l,())=some (bs (Ad w l),()):=by
  unfold Rp
  simp only [Ta]
  refine Ba.out (Ba.bnd (R:=fun r=>r=.inl (bs (w++blk l),())) ?_ ?_)
  ·refine Ba.count l.length (fun k s=>s=(bs (w++blk (l.take k)),l,(l.length:Int),(k:Int),())) ?_ (Nat.zero_le _) (Jb (by omega)) (by simp [blk])
   rintro k s hk rfl
   by_cases hlt:k<l.length
   ·have hm:=hr _ (List.mem_of_getElem? (Yg hlt))
    have h1:=Pi hm
    have h2:=Cl (kP hr k)
    have h3:(l.take k).length≤k:=List.length_take_le _ _
    simp (disch:=omega) only [BJ,Tc,Wa,Na]
    refine Ba.gd (decide_eq_true (by omega)) (Ba.gd (Ia (by omega) (by omega)) (La (BS hm) ?_))
    simp only [Zc,Yb,List.length_append,List.length_singleton]
    refine Ba.gd (decide_eq_true (by omega)) (Ba.gd (decide_eq_true (by omega)) (.some ⟨hlt,?_⟩))
    rw [kO hlt,List.append_assoc];rfl
   ·obtain rfl:k=l.length:=by omega
    unfold BJ
    rw [List.take_length]
    exact Ba.no (dF (by first|omega|(dsimp only;omega))) (.some rfl)
  ·rintro _ rfl
   have h2:=Cl hr
   dsimp only
   simp only [Zc,Yb,List.length_append,List.length_singleton]
   refine Ba.gd (decide_eq_true (by omega)) (.some ?_)
   unfold Ad
   rw [List.append_assoc]
theorem W5 {l:List Int} (hl:l.length≤1000000) (hr:∀n∈l,NR n):KA (l,())=some (bs (blk l),()):=by
  unfold KA
  refine Ba.out (Ba.bnd (R:=fun r=>r=.inl (bs (blk l),())) ?_ ?_)
  ·refine Ba.count l.length (fun k s=>s=(l,bs (blk (l.take k)),(k:Int),())) ?_ (Nat.zero_le _) (Jb (by omega)) (by simp [blk])
   rintro k s hk rfl
   by_cases hlt:k<l.length
   ·have hm:=hr _ (List.mem_of_getElem? (Yg hlt))
    have h1:=Pi hm
    have h2:=Cl (kP hr k)
    have h3:(l.take k).length≤k:=List.length_take_le _ _
    simp (disch:=omega) only [XI,Tc,Wa,Na,Ta,Zc,Yb,List.length_append,List.length_singleton]
    refine Ba.gd (decide_eq_true (by omega)) (Ba.gd (decide_eq_true (by omega)) (Ba.gd (Ia (by omega) (by omega)) (La (Mo hm) ?_)))
    simp only [Zc,Yb,List.length_append,List.length_singleton]
    refine Ba.gd (decide_eq_true (by omega)) (.some ⟨hlt,?_⟩)
    rw [kO hlt,List.append_assoc];rfl
   ·obtain rfl:k=l.length:=by omega
    simp only [XI,Ta]
    rw [List.take_length]
    exact Ba.no (dF (by omega)) (.some rfl)
  ·rintro _ rfl
   exact .some rfl
end
section
open Go.RowKit
open Go.Lib (itoa decDigits)
theorem kQ {x:Int} (h0:0≤x) (h1:x<256):Qd .u8 x=x:=by
  show x % 256=x
  omega
theorem X5 {w:List UInt8} {k:Nat} {x:UInt8} (h:w[k]? =some x):(bs w).get! k=x:=by
  rw [sQ,List.getD,h];rfl
theorem Km {ws:List (List UInt8)} {k:Nat} (h:k<ws.length):Aa .str (ws.map bs) k=bs (ws.getD k []):=by
  have h1:=Qx .str (ws.map bs) k (by rw [List.length_map];exact h)
  rw [List.getElem?_map,List.getElem?_eq_getElem h] at h1
  have h2:ws.getD k []=ws[k]:=by simp [List.getD,h]
  rw [h2]
  exact (Option.some.inj h1).symm
theorem CS {w:List UInt8} {k:Nat} {x:UInt8} (h:w[k]? =some x) (hx:x.toNat<48∨57<x.toNat):w.all Ng=false:=by
  refine Bool.eq_false_iff.2 fun e=>?_
  have:=List.all_eq_true.1 e x (List.mem_of_getElem? h)
  simp [Ng] at this
  omega
theorem kR {w:List UInt8} {k:Nat} {x:UInt8} (h:w[k]? =some x) (hx:48≤x.toNat∧x.toNat≤57) (hd:(w.take k).all Ng=true):(w.take (k+1)).all Ng=true:=by
  rw [List.take_add_one,h,List.all_append,hd]
  simp [Ng,hx]
theorem kS {w:List UInt8} {k:Nat} {x:UInt8} (h:w[k]? =some x):Wh 0 (w.take (k+1))=10*Wh 0 (w.take k)+((x.toNat:Int)-48):=by
  rw [List.take_add_one,h]
  simp [Wh,List.foldl_append]
theorem kT {w:List UInt8} (h:1≤w.length∧w.length≤2) (hd:w.all Ng=true):Kb w=Wh 0 w:=by unfold Kb;rw [if_pos ⟨h.1,h.2,hd⟩]
theorem kU {w:List UInt8} (h:w.all Ng=false):Kb w= -1:=by unfold Kb;rw [if_neg (by rw [h];simp)]
theorem kV {w:List UInt8} (h:¬(1≤w.length∧w.length≤2)):Kb w= -1:=by unfold Kb;rw [if_neg (fun e=>h ⟨e.1,e.2.1⟩)]
theorem Z5 {w:List UInt8} (hw:w.length≤1000000):HA (bs w,())=some (Kb w,()):=by
  unfold HA
  simp only [Yb,Ta]
  refine Ba.out (La (Fm _ _ _) ?_)
  dsimp only
  cases hb:Db (w.length:Int) 1 2 with
  |false=>exact Ba.gd rfl (.some (by rw [kV];have:=Bi hb;omega))
  |true =>
   have h2:=He hb
   refine Ba.no rfl (Ba.bnd (R:=fun r=>match r with| .inl x=>x=(Wh 0 w,())∧w.all Ng=true| .inr y=>y=(-1,())∧w.all Ng=false) ?_ ?_)
   ·refine Ba.count w.length (fun k s=>s=(bs w,Wh 0 (w.take k),(w.length:Int),(k:Int),())∧(w.take k).all Ng=true) ?_ (Nat.zero_le _) (Jb (by omega)) ⟨rfl,rfl⟩
    rintro k s hk ⟨rfl,hd⟩
    by_cases hlt:k<w.length
    ·obtain ⟨x,hx⟩:∃x,w[k]? =some x:=⟨_,List.getElem?_eq_getElem hlt⟩
     have h256:=x.toNat_lt
     have hv:=kC hd (Int.le_refl 0)
     have hv2:=hv.2 (by rw [List.length_take];omega) rfl
     simp (disch:=omega) only [QI,Wa,Yb,X5 hx]
     refine Ba.gd (decide_eq_true (by omega)) (Ba.gd (Ia (by omega) (by omega)) (Ba.ite (fun h=>.some ⟨rfl,?_⟩) (fun h=>Ba.gd (Ia (by omega) (by omega)) (Ba.ite (fun h'=>.some ⟨rfl,?_⟩) (fun h'=>Ba.gd (Ia (by omega) (by omega)) ?_)))))
     ·have h:=oT h
      exact CS hx (by omega)
     ·have h':=oT h'
      exact CS hx (by omega)
     ·have h:=oF h
      have h':=oF h'
      simp (disch:=omega) only [kQ,Na]
      exact .some ⟨hlt,by rw [kS hx];rfl,kR hx (by omega) hd⟩
    ·obtain rfl:k=w.length:=by omega
     unfold QI
     rw [List.take_length] at hd ⊢
     exact Ba.no (dF (by first|omega|(dsimp only;omega))) (.some ⟨rfl,hd⟩)
   ·rintro (r|r) ⟨rfl,hr⟩
    ·exact .some (by rw [kT (by omega) hr])
    ·exact .some (by rw [kU hr])
theorem DS {ws:List (List UInt8)} (k0:Nat) (hws:ws.length≤1000000) (hw:∀w∈ws,w.length≤1000000):Dw (ws.map bs,(k0:Int),())=some (Kb (ws.getD k0 []),()):=by
  unfold Dw
  simp only [List.length_map,Ta]
  refine Ba.out (Ba.ite (fun h=>.some ?_) (fun h=>?_))
  ·have h:=oT h
   have e:ws.getD k0 []=[]:=by
     rw [List.getD,List.getElem?_eq_none (by omega)];rfl
   rw [e];rfl
  have h:=oF h
  have hk0:k0<ws.length:=by omega
  have hm:ws.getD k0 []∈ws:=by rw [List.getD,List.getElem?_eq_getElem hk0];exact List.getElem_mem hk0
  have hwl:=hw _ hm
  refine Ba.gd (Ia (by omega) (by omega)) ?_
  simp only [Wa,Km hk0,Yb]
  have hat:∀{τ:Nat},Aa .str (ws.map bs) k0=bs (ws.getD k0 []):=Km hk0
  generalize hW:ws.getD k0 []=w at *
  refine La (Uk _ _ _) ?_
  dsimp only
  cases hb:Db (w.length:Int) 1 2 with
  |false=>exact Ba.gd rfl (.some (by rw [kV];have:=Bi hb;omega))
  |true =>
   have h2:=He hb
   refine Ba.no rfl (Ba.bnd (R:=fun r=>match r with| .inl x=>x=(Wh 0 w,())∧w.all Ng=true| .inr y=>y=(-1,())∧w.all Ng=false) ?_ ?_)
   ·refine Ba.count w.length (fun k s=>s=(ws.map bs,(k0:Int),Wh 0 (w.take k),(k:Int),())∧(w.take k).all Ng=true) ?_ (Nat.zero_le _) (Jb (by omega)) ⟨rfl,rfl⟩
    rintro k s hk ⟨rfl,hd⟩
    by_cases hlt:k<w.length
    ·obtain ⟨x,hx⟩:∃x,w[k]? =some x:=⟨_,List.getElem?_eq_getElem hlt⟩
     have h256:=x.toNat_lt
     have hv:=kC hd (Int.le_refl 0)
     have hv2:=hv.2 (by rw [List.length_take];omega) rfl
     simp (disch:=omega) only [WI,Wa,Km hk0,hW,Yb,X5 hx,Ta,List.length_map]
     refine Ba.gd (Ia (by omega) (by omega)) (Ba.gd (decide_eq_true (by omega)) (Ba.gd (Ia (by omega) (by omega)) (Ba.gd (Ia (by omega) (by omega)) (Ba.ite (fun h=>.some ⟨rfl,?_⟩) (fun h=>Ba.gd (Ia (by omega) (by omega)) (Ba.gd (Ia (by omega) (by omega)) (Ba.ite (fun h'=>.some ⟨rfl,?_⟩) (fun h'=>Ba.gd (Ia (by omega) (by omega)) (Ba.gd (Ia (by omega) (by omega)) ?_)))))))))
     ·have h:=oT h
      exact CS hx (by omega)
     ·have h':=oT h'
      exact CS hx (by omega)
     ·have h:=oF h
      have h':=oF h'
      simp (disch:=omega) only [kQ,Na]
      exact .some ⟨hlt,by rw [kS hx];rfl,kR hx (by omega) hd⟩
    ·obtain rfl:k=w.length:=by omega
     rw [List.take_length] at hd ⊢
     simp (disch:=omega) only [WI,Wa,Km hk0,hW,Yb,Ta,List.length_map]
     exact Ba.gd (Ia (by omega) (by omega)) (Ba.no (dF (by first|omega|(dsimp only;omega))) (.some ⟨rfl,hd⟩))
   ·rintro (r|r) ⟨rfl,hr⟩
    ·exact .some (by rw [kT (by omega) hr])
    ·exact .some (by rw [kU hr])
theorem zHz (w:List UInt8):MQ (bs w,())=some (Fj w,()):=by
  unfold MQ
  simp only [Nh]
  refine Ba.out ?_
  refine Ba.ite (fun h=>.some ?_) (fun h1=>Ba.ite (fun h=>.some ?_) (fun h2=>Ba.ite (fun h=>.some ?_) (fun h3=>Ba.ite (fun h=>.some ?_) (fun h4=>Ba.ite (fun h=>.some ?_) (fun h5=>Ba.ite (fun h=>.some ?_) (fun h6=>.some ?_))))))
  case refine_7 =>
    have h1:=oF h1
    have h2:=oF h2
    have h3:=oF h3
    have h4:=oF h4
    have h5:=oF h5
    have h6:=oF h6
    unfold Fj
    rw [if_neg h1,if_neg h2,if_neg h3,if_neg h4,if_neg h5,if_neg h6]
  all_goals
    have h:=oT h
    subst h
    rfl
def Fx:List (List UInt8):=[[],[100,111,119,110],[117,112],[100,101,108,105,118,101,114],[108,111,115,101],[116,119,105,99,101],[115,121,110,99]]
theorem yBd {w:List UInt8}:∀k:Nat,1≤k→k<7→Fx.getD k []=w→Fj w=k
  |1,_,_,h=>by subst h;rfl
  |2,_,_,h=>by subst h;rfl
  |3,_,_,h=>by subst h;rfl
  |4,_,_,h=>by subst h;rfl
  |5,_,_,h=>by subst h;rfl
  |6,_,_,h=>by subst h;rfl
  |0,h,_,_=>by omega
  |n+7,_,h,_=>by omega
theorem yBe {w:List UInt8} (h:∀j:Nat,1≤j→j<7→Fx.getD j []≠w):Fj w=0:=by
  unfold Fj
  rw [if_neg (fun e=>h 1 (by omega) (by omega) e.symm),if_neg (fun e=>h 2 (by omega) (by omega) e.symm),if_neg (fun e=>h 3 (by omega) (by omega) e.symm),if_neg (fun e=>h 4 (by omega) (by omega) e.symm),if_neg (fun e=>h 5 (by omega) (by omega) e.symm),if_neg (fun e=>h 6 (by omega) (by omega) e.symm)]
theorem zFF (w:List UInt8):NQ (bs w,())=some (Fj w,()):=by
  have e:NQ (bs w,())=(lp JA Ea (bs w,1,Fx.map bs,())).bind fun r0=>(match r0 with| .inl _=>some (0,())| .inr y1=>some (y1.1,())):=rfl
  rw [e]
  refine Ba.out (Ba.bnd (R:=fun r=>match r with| .inl _=>Fj w=0| .inr y=>y=(Fj w,())) ?_ ?_)
  ·refine Ba.count 7 (fun k s=>s=(bs w,(k:Int),Fx.map bs,())∧1≤k∧∀j:Nat,1≤j→j<k→Fx.getD j []≠w) ?_ (k:=1) (by omega) (Jb (by omega)) ⟨rfl,by omega,fun j h1 h2=>by omega⟩
   rintro k s hk ⟨rfl,h1,hn⟩
   have hlen:Fx.length=7:=rfl
   by_cases hlt:k<7
   ·simp (disch:=omega) only [JA,Wa,Km (show k<Fx.length by omega),Ta,List.length_map,hlen,Nh,Na]
    refine Ba.gd (decide_eq_true (by omega)) (Ba.gd (Ia (by omega) (by omega)) (Ba.ite (fun h=>.some ?_) (fun h=>.some ⟨hlt,rfl,by omega,fun j q1 q2=>?_⟩)))
    ·have h:=oT h
     rw [yBd k h1 hlt h]
    ·have h:=oF h
     by_cases e:j<k
     ·exact hn j q1 e
     ·obtain rfl:j=k:=by omega
      exact h
   ·obtain rfl:k=7:=by omega
    simp only [JA,Ta,List.length_map,hlen]
    exact Ba.no (dF (by omega)) (.some (yBe hn))
  ·rintro (r|r) hr
   ·exact .some (by rw [show Fj w=0 from hr])
   ·obtain rfl:=hr
    exact .some rfl
theorem yBf (c:UInt8) (s:List UInt8):Vb c (s++[c])=Vb c s++[[]]:=CN c s []
theorem yBg {c x:UInt8} (hx:x≠c):∀(s:List UInt8) (ps:List (List UInt8)) (q:List UInt8),Vb c s=ps++[q]→Vb c (s++[x])=ps++[q++[x]]:=by
  intro s
  induction s with
  |nil =>
   intro ps q h
   have h:[[]]=ps++[q]:=h
   have e:ps=[]:=by
     cases ps with
     |nil=>rfl
     |cons p ps=>have:=congrArg List.length h;simp at this
   subst e
   simp at h
   subst h
   simp [Vb,hx]
  |cons y r ih =>
   intro ps q h
   rw [List.cons_append,Vb]
   rw [Vb] at h
   by_cases hy:y=c
   ·rw [if_pos hy] at h ⊢
    cases ps with
    |nil =>
     have:=MD c r
     simp at h
     exact absurd h.2 this
    |cons p ps =>
     simp at h
     obtain ⟨rfl,h⟩:=h
     rw [ih ps q h];rfl
   ·rw [if_neg hy] at h ⊢
    cases hr:Vb c r with
    |nil=>exact absurd hr (MD c r)
    |cons h0 t =>
     rw [hr] at h
     dsimp only at h
     cases t with
     |nil =>
      cases ps with
      |nil =>
       simp at h
       subst h
       have:=ih [] h0 (by rw [hr];rfl)
       rw [this];rfl
      |cons p ps=>simp at h
     |cons h1 t =>
      cases ps with
      |nil=>simp at h
      |cons p ps =>
       simp at h
       obtain ⟨rfl,h⟩:=h
       have:=ih (h0::ps) q (by rw [hr,h];rfl)
       rw [this];rfl
theorem kW {t:List UInt8} (c:UInt8) (ht:t.length≤1000000):VI (bs t,(c.toNat:Int),())=some ((Vb c t).map bs,()):=by
  unfold VI
  refine Ba.out (Ba.bnd (R:=fun r=>match r with| .inl x=>∃(f:Nat) (ps:List (List UInt8)),x=(bs t,(f:Int),ps.map bs,())∧f≤t.length∧Vb c t=ps++[t.drop f]| .inr _=>False) ?_ ?_)
  ·refine Ba.count t.length (fun k s=>∃(f:Nat) (ps:List (List UInt8)),s=(bs t,(c.toNat:Int),(f:Int),(k:Int),ps.map bs,())∧f≤k∧Vb c (t.take k)=ps++[(t.take k).drop f]∧ps.length≤k) ?_ (Nat.zero_le _) (Jb (by omega)) ⟨0,[],rfl,Nat.le_refl _,rfl,Nat.le_refl _⟩
   rintro k s hk ⟨f,ps,rfl,hf,hs,hp⟩
   by_cases hlt:k<t.length
   ·obtain ⟨x,hx⟩:∃x,t[k]? =some x:=⟨_,List.getElem?_eq_getElem hlt⟩
    have e1:t.take (k+1)=t.take k++[x]:=by rw [List.take_add_one,hx];rfl
    have e2:(t.drop f).take (k-f)=(t.take k).drop f:=by rw [List.drop_take]
    simp (disch:=omega) only [UI,Wa,Yb,X5 hx,Ta,Na,dA,List.length_map,List.length_singleton,e2]
    refine Ba.gd (decide_eq_true (by omega)) (Ba.gd (Ia (by omega) (by omega)) (Ba.ite (fun h=>Ba.gd (WM (by omega) (by omega) (by omega)) (Ba.gd (decide_eq_true (by omega)) (.some ⟨hlt,k+1,ps++[(t.take k).drop f],?_,by omega,?_,by rw [List.length_append,List.length_singleton];omega⟩))) (fun h=>.some ⟨hlt,f,ps,rfl,by omega,?_,by omega⟩)))
    ·rw [List.map_append];rfl
    ·have h:x=c:=by
       have h:=oT h
       exact UInt8.toNat_inj.1 (by omega)
     subst h
     have e3:(t.take k++[x]).drop (k+1)=[]:=List.drop_eq_nil_of_le (by rw [List.length_append,List.length_take,List.length_singleton];omega)
     rw [e1,yBf,hs,e3]
    ·have h:x≠c:=fun e=>by
       have h:=oF h
       subst e
       exact h rfl
     rw [e1,yBg h _ _ _ hs,List.drop_append_of_le_length (by rw [List.length_take,Nat.min_eq_left (by omega)];exact hf)]
   ·obtain rfl:k=t.length:=by omega
    simp only [UI,Yb,Ta]
    rw [List.take_length] at hs
    exact Ba.no (dF (by omega)) (.some ⟨f,ps,rfl,hf,hs⟩)
  ·rintro (r|r) hr
   case inr=>exact hr.elim
   obtain ⟨f,ps,rfl,hf,hs⟩:=hr
   have hl:=OD c t
   rw [hs,List.length_append,List.length_singleton] at hl
   have e2:(t.drop f).take (t.length-f)=t.drop f:=List.take_of_length_le (by simp)
   simp only [Wa,Yb,dA,e2,List.length_map,List.length_singleton]
   refine Ba.gd (WM (by omega) (by omega) (by omega)) (Ba.gd (decide_eq_true (by omega)) (.some ?_))
   rw [hs,List.map_append];rfl
end
section
open Go.RowKit
section
variable {N K:Nat} {ls:List Lk}
theorem yBh (g:GV N ls) {x y:Nat} {c:Int} (h:lc ls x y=some c):Uf ls x y c:=by
  have o:=RJ g (m:=(x:Int)) (x:=(y:Int)) (by rw [h];rfl)
  rw [D5 g]
  rcases Nat.lt_trichotomy x y with e|e|e
  ·exact .inl ⟨e,by omega,h⟩
  ·omega
  ·exact .inr ⟨e,by omega,by rw [JD];exact h⟩
theorem yBi (g:GV N ls) {f t:Nat} (hne:f≠t) (hd:0≤iz (Tb N ls t) f) {x:Int}:x∈Ud N ls f t↔∃(j:Nat) (c:Int),x=j∧j<N∧lc ls f j=some c∧iz (Tb N ls t) j+c=iz (Tb N ls t) f:=by
  unfold Ud
  rw [if_neg (by rintro (e|e);exact hne e;omega),List.mem_filter,Bj]
  constructor
  ·rintro ⟨⟨j,hj,rfl,hs⟩,hb⟩
   obtain ⟨c,hc⟩:=Option.isSome_iff_exists.1 hs
   unfold Yk at hb
   rw [Wa,hc] at hb
   exact ⟨j,c,rfl,hj,hc,oT hb⟩
  ·rintro ⟨j,c,rfl,hj,hc,hb⟩
   refine ⟨⟨j,hj,rfl,by rw [hc];rfl⟩,?_⟩
   unfold Yk
   rw [Wa,hc]
   exact decide_eq_true hb
theorem yBj (f t:Nat):(Ud N ls f t).Pairwise (·<·):=by
  unfold Ud
  split
  ·exact List.Pairwise.nil
  ·exact (QJ ls f N).filter _
def Gx (ls:List Lk) (d:List Int) (f n:Nat):Bool:=decide (0≤Ac ls f n)&&(decide (0≤iz d n)&&decide (iz d n+(lk ls (Ac ls f n).toNat).c=iz d f))
def Qi (N:Nat) (ls:List Lk) (d:List Int) (f:Nat) (k:Nat):List Int:=((List.range k).filter (Gx ls d f)).map fun n:Nat=>(n:Int)
theorem yBk (d:List Int) (f k:Nat):Qi N ls d f (k+1)=Qi N ls d f k++if Gx ls d f k=true then [(k:Int)] else []:=by
  unfold Qi
  rw [List.range_succ,List.filter_append,List.map_append]
  congr 1
  by_cases h:Gx ls d f k=true<;>simp [h]
theorem yBl (d:List Int) (f k:Nat):(Qi N ls d f k).length≤k:=by
  unfold Qi
  rw [List.length_map]
  exact Nat.le_trans (List.length_filter_le _ _) (by simp)
theorem A6 (g:GV N ls) {f n:Nat} {d:List Int}:Gx ls d f n=true↔∃c,lc ls f n=some c∧1≤c∧0≤iz d n∧iz d n+c=iz d f:=by
  unfold Gx
  simp only [Bool.and_eq_true,decide_eq_true_eq]
  constructor
  ·rintro ⟨h1,h2,h3⟩
   have:(lc ls (f:Int) (n:Int)).isSome=true:=by rw [KD];exact decide_eq_true h1
   obtain ⟨c,hc⟩:=Option.isSome_iff_exists.1 this
   have:=(Gp hc).2.2
   rw [this] at h3
   exact ⟨c,hc,(Sy g hc).1,h2,h3⟩
  ·rintro ⟨c,hc,h1,h2,h3⟩
   refine ⟨(Gp hc).1,h2,?_⟩
   rw [(Gp hc).2.2]
   exact h3
theorem yBm (g:GV N ls) {f t:Nat} (hf:f<N) (ht:t<N):Qi N ls (Tb N ls t) f N=Ud N ls f t:=by
  by_cases h0:f=t∨iz (Tb N ls t) f<0
  ·unfold Ud Qi
   rw [if_pos h0,List.map_eq_nil_iff,List.filter_eq_nil_iff]
   intro n hn hb
   obtain ⟨c,h1,h2,h3,h4⟩:=(A6 g).1 hb
   rcases h0 with rfl|h0
   ·have:=Ry g hf (Wk.nil (ls:=ls) (u:=f))
    omega
   ·omega
  ·have hne:f≠t:=fun e=>h0 (.inl e)
   have hd:0≤iz (Tb N ls t) f:=by
     have:¬iz (Tb N ls t) f<0:=fun e=>h0 (.inr e)
     omega
   have XM:(Qi N ls (Tb N ls t) f N).Pairwise (·<·):=by
     unfold Qi
     refine List.pairwise_map.2 ?_
     exact (List.pairwise_lt_range.filter _).imp fun h=>by exact_mod_cast h
   refine CR XM (yBj f t) fun x=>?_
   rw [yBi g hne hd]
   unfold Qi
   rw [List.mem_map]
   constructor
   ·rintro ⟨n,hn,rfl⟩
    obtain ⟨h1,h2⟩:=List.mem_filter.1 hn
    obtain ⟨c,q1,q2,q3,q4⟩:=(A6 g).1 h2
    exact ⟨n,c,rfl,List.mem_range.1 h1,q1,q4⟩
   ·rintro ⟨j,c,rfl,hj,hc,he⟩
    obtain ⟨k,wf⟩:=VM g ht hf hd
    have a:=yBh g hc
    have dj:=Ry g ht (wf.step a)
    exact ⟨j,List.mem_filter.2 ⟨List.mem_range.2 hj,(A6 g).2 ⟨c,hc,(Sy g hc).1,dj.1,he⟩⟩,rfl⟩
end
end
section
open Go.RowKit
section
variable {N:Nat} {ls:List Lk}
theorem yBn (ls:List Lk) (a b:Int):Ac ls a b<ls.length:=by
  rcases Zq ls a b with ⟨h,_⟩|⟨k,h,hk,_⟩<;>omega
theorem kX (g:GV N ls) {f t:Nat} (hf:f<N) (ht:t<N):TP ((N:Int),ls,(f:Int),(t:Int),())=some (Ud N ls f t,()):=by
  have h8:=g.2.1
  have h14:=g.2.2.1
  have fl:Bb ls:=(show Bb ls by unfold Bb;omega)
  rw [←yBm g hf ht]
  unfold TP
  rw [PJ g ht]
  dsimp only [Option.bind_some]
  have bd:=fun j=>Im g t j
  have hdl:=Rl N ls t
  generalize Tb N ls t=d at *
  refine Ba.out (Ba.bnd (R:=fun r=>r=.inl (Qi N ls d f N,())) ?_ ?_)
  ·refine Ba.count N (fun k s=>s=((f:Int),(k:Int),(N:Int),ls,Qi N ls d f k,d,())) ?_ (Nat.zero_le _) (Jb (by omega)) rfl
   rintro k s hk rfl
   have hle:=yBl (N:=N) (ls:=ls) d f k
   by_cases hlt:k<N
   ·have bk:=bd k
    have lf:=yBn ls (f:Int) (k:Int)
    have hs:∀b,Gx ls d f k=b→Qi N ls d f (k+1)=Qi N ls d f k++if b=true then [(k:Int)] else []:=fun b e=>by rw [yBk,e]
    simp (disch:=omega) only [KH,Tc,Ff,Wa,Na,OJ _ _ _ _ fl,Option.bind_some,List.length_singleton]
    unfold Gx at hs
    refine Ba.gd (decide_eq_true (by omega)) (Ba.ite (fun h1=>?_) (fun h1=>?_))
    ·have h1':=oT h1
     obtain ⟨x,y,_,_,_,_,hc1,hc20⟩:=g.at_ (show (Ac ls f k).toNat<ls.length by omega)
     have bf:=bd f
     refine Ba.gd (Ia (by omega) (by omega)) (Ba.ite (fun h2=>?_) (fun h2=>?_))
     ·refine Ba.gd (Ia (by omega) (by omega)) (Ba.gd (Ia (by omega) (by omega)) (Ba.gd (Ia (by omega) (by omega)) ?_))
      rw [Na (by omega) (by omega)]
      refine Ba.ite (fun h3=>Ba.gd (decide_eq_true (by omega)) (.some ⟨hlt,?_⟩)) (fun h3=>.some ⟨hlt,?_⟩)
      ·rw [hs true (by rw [h1,h2,h3];rfl)];rfl
      ·rw [hs false (by rw [h1,h2,h3];rfl),if_neg (by simp),List.append_nil];rfl
     ·exact .some ⟨hlt,by rw [hs false (by rw [h1,h2];rfl),if_neg (by simp),List.append_nil];rfl⟩
    ·exact .some ⟨hlt,by rw [hs false (by rw [h1];rfl),if_neg (by simp),List.append_nil];rfl⟩
   ·obtain rfl:k=N:=by omega
    unfold KH
    exact Ba.no (dF (by first|omega|(dsimp only;omega))) (.some rfl)
  ·rintro _ rfl
   exact .some rfl
end
end
section
open Go.RowKit
section
variable {N:Nat} {ls:List Lk}
theorem yBo {t:Nat} (g:GV N ls) (ht:t<N) (k:Nat):∀(f:Nat) (acc:List Int) (m:Nat),f<N→0≤iz (Tb N ls t) f→iz (Tb N ls t) f≤k→k<m→acc.length+k≤30000000→Ba (lp Np m ((f:Int),(t:Int),(N:Int),ls,acc++[(f:Int)],())) fun r=>match r with| .inl x=>x=(acc++Ni N ls t k f,())| .inr _=>False:=by
  induction k with
  |zero =>
   intro f acc m hf hd hk hm hl
   obtain ⟨m,rfl⟩:∃m',m=m'+1:=⟨m-1,by omega⟩
   have hft:f=t:=by
     by_cases e:f=t
     ·exact e
     ·obtain ⟨x,_,_,_,h4,h5,_⟩:=MR g hf ht e hd
      omega
   refine Al ?_
   unfold Np
   exact Ba.no (by simp [hft]) (.some rfl)
  |succ k ih =>
   intro f acc m hf hd hk hm hl
   obtain ⟨m,rfl⟩:∃m',m=m'+1:=⟨m-1,by omega⟩
   refine Al ?_
   unfold Np
   by_cases e:f=t
   ·refine Ba.no (by simp [e]) (.some ?_)
    unfold Ni
    rw [if_pos e]
   ·obtain ⟨x,h1,h2,h3,h4,h5,_⟩:=MR g hf ht e hd
    refine Ba.gd (by simp;omega) (La (kX g hf ht) ?_)
    have h2':Aa .int (Ud N ls f t) (Int.toNat 0)=(x:Int):=(Tc _ _).trans h2
    dsimp only
    rw [h2',Ta]
    refine Ba.no (dF (by omega)) (Ba.gd (Ia (by omega) (by omega)) (Ba.gd (decide_eq_true (by simp only [List.length_append,List.length_singleton];omega)) (.some ?_)))
    have:=ih x (acc++[(f:Int)]) m h1 h4 (by omega) (by omega) (by simp only [List.length_append,List.length_singleton];omega)
    refine this.mono ?_
    rintro (r|r) hr
    ·dsimp only at hr ⊢
     rw [hr,Ni,if_neg e,h2,Wa,List.append_assoc];rfl
    ·exact hr
theorem kY (g:GV N ls) {f t:Nat} (hf:f<N) (ht:t<N):MH ((N:Int),ls,(f:Int),(t:Int),())=some (Bl N ls f t,()):=by
  have bd:=Im g t f
  unfold MH Bl
  by_cases hc:iz (Tb N ls t) f<0
  ·rw [if_pos hc]
   have hft:f≠t:=fun e=>by
     subst e
     have:=Ry g hf (Wk.nil (ls:=ls) (u:=f))
     omega
   have h0:Ud N ls f t=[]:=by unfold Ud;rw [if_pos (.inr hc)]
   have e1:lp Np Ea ((f:Int),(t:Int),(N:Int),ls,[(f:Int)],())=some (.inr ([],())):=by
     have ef:Ea=18446744073709551615+1:=rfl
     rw [ef]
     refine Ba.out (Al ?_)
     unfold Np
     refine Ba.gd (by simp;omega) (La (kX g hf ht) ?_)
     dsimp only
     rw [h0]
     exact Ba.gd rfl (.some rfl)
   rw [e1];rfl
  ·rw [if_neg hc]
   refine Ba.out (Ba.bnd (yBo g ht (iz (Tb N ls t) f).toNat f [] Ea hf (by omega) (by omega) (Jb (by omega)) (by simp;omega)) ?_)
   rintro (r|r) hr
   case inr=>exact hr.elim
   obtain rfl:=hr
   exact .some rfl
theorem yBp (f t:Nat) (hN:0<N):(iz (Ud N ls f t) 0).toNat<N:=by
  rcases Nat.eq_zero_or_pos (Ud N ls f t).length with h|h
  ·rw [List.length_eq_zero_iff.1 h];exact hN
  ·have hm:=List.mem_of_getElem? (Yg h)
   unfold Ud at hm
   split at hm
   ·simp at hm
   ·obtain ⟨j,hj,e,_⟩:=Bj.1 (List.mem_filter.1 hm).1
    unfold Ud
    rw [if_neg (by assumption)]
    rw [e];exact hj
theorem kZ (t:Nat):∀k f,f<N→∀x∈Ni N ls t k f,∃j:Nat,x=j∧j<N
  |0,f,hf,x,hx=>by
   simp [Ni] at hx
   exact ⟨f,hx,hf⟩
  |k+1,f,hf,x,hx=>by
   unfold Ni at hx
   split at hx
   ·simp at hx;exact ⟨f,hx,hf⟩
   ·rcases List.mem_cons.1 hx with rfl|hx
    ·exact ⟨f,rfl,hf⟩
    ·exact kZ t k _ (yBp f t (by omega)) x hx
theorem lA {f t:Nat} (hf:f<N):∀x∈Bl N ls f t,∃j:Nat,x=j∧j<N:=fun x hx=>by
  unfold Bl at hx
  split at hx
  ·simp at hx
  ·exact kZ t _ f hf x hx
theorem yBq (g:GV N ls) (f t:Nat):(Bl N ls f t).length≤5101:=by
  have bd:=Im g t f
  unfold Bl
  split
  ·simp
  ·have:=kA N ls t (iz (Tb N ls t) f).toNat f
   omega
end
theorem LK {n:Int} {ls:List Lk} {a b:Int} (h:(gv n ls&&(Db a 0 (n-1)&&Db b 0 (n-1)))=true):∃N f t:Nat,n=N∧a=f∧b=t∧GV N ls∧f<N∧t<N∧Xh (n,ls) a b=Bl N ls f t:=by
  have h0:=h
  simp only [Bool.and_eq_true] at h
  obtain ⟨N,rfl,g⟩:=Bo h.1
  have h1:=He h.2.1
  have h2:=He h.2.2
  obtain ⟨f,rfl⟩:=Int.eq_ofNat_of_zero_le h1.1
  obtain ⟨t,rfl⟩:=Int.eq_ofNat_of_zero_le h2.1
  exact ⟨N,f,t,rfl,rfl,rfl,g,by omega,by omega,by unfold Xh;dsimp only;rw [if_pos h0];rfl⟩
theorem MK {n:Int} {ls:List Lk} {a b:Int} (h:(gv n ls&&(Db a 0 (n-1)&&Db b 0 (n-1)))=false):Xh (n,ls) a b=[]:=by unfold Xh;dsimp only;rw [if_neg (by rw [h];simp)]
theorem lB (n a b:Int) {ls:List Lk} (fl:Bb ls):Ns (n,ls,a,b,())=some (Xh (n,ls) a b,()):=by
  cases h:gv n ls&&(Db a 0 (n-1)&&Db b 0 (n-1)) with
  |true =>
   obtain ⟨N,f,t,rfl,rfl,rfl,g,hf,ht,e⟩:=LK h
   rw [e,zDT g hf ht]
  |false =>
   rw [MK h]
   unfold Ns
   refine Ba.out (La (Zw _ _ _ fl) (Ba.ite (fun _=>.some rfl) (fun h1=>?_)))
   have h1:(gv n ls&&Db a 0 (n-1))=true:=by simpa using h1
   refine La (Zw _ _ _ fl) (Ba.ite (fun _=>.some rfl) (fun h2=>?_))
   have h2:(gv n ls&&Db b 0 (n-1))=true:=by simpa using h2
   simp only [Bool.and_eq_true] at h1 h2
   rw [h1.1,h1.2,h2.2] at h
   cases h
theorem zGc (n a b:Int) {ls:List Lk} (fl:Bb ls):XP (n,ls,a,b,())=some (Xh (n,ls) a b,()):=by
  have e2:RP (n,ls,a,b,())=some (gv n ls&&(Db a 0 (n-1)&&Db b 0 (n-1)),()):=by
    unfold RP
    refine Ba.out (La (Yw n ls fl) ?_)
    cases hg:gv n ls with
    |false=>exact Ba.no rfl (.some rfl)
    |true =>
     obtain ⟨N,rfl,g⟩:=Bo hg
     have h8:=g.2.1
     refine Ba.gd rfl (La (Up (N:Int) a ls (by omega) (by omega)) ?_)
     cases ha:Db a 0 ((N:Int)-1) with
     |false=>exact Ba.no rfl (.some rfl)
     |true=>exact Ba.gd rfl (La (Up (N:Int) b ls (by omega) (by omega)) (.some rfl))
  unfold XP
  refine Ba.out (La e2 ?_)
  cases h:gv n ls&&(Db a 0 (n-1)&&Db b 0 (n-1)) with
  |false=>rw [MK h];exact Ba.gd rfl (.some rfl)
  |true =>
   obtain ⟨N,f,t,rfl,rfl,rfl,g,hf,ht,e⟩:=LK h
   rw [e]
   exact Ba.no rfl (La (kY g hf ht) (.some rfl))
theorem lC (n a b:Int) (ls:List Lk):(Xh (n,ls) a b).length≤5101:=by
  cases h:gv n ls&&(Db a 0 (n-1)&&Db b 0 (n-1)) with
  |false=>rw [MK h];simp
  |true =>
   obtain ⟨N,f,t,rfl,rfl,rfl,g,hf,ht,e⟩:=LK h
   rw [e];exact yBq g f t
theorem yBr (n a b:Int) (ls:List Lk):∀x∈Xh (n,ls) a b,0≤x∧x<8:=by
  cases h:gv n ls&&(Db a 0 (n-1)&&Db b 0 (n-1)) with
  |false=>rw [MK h];simp
  |true =>
   obtain ⟨N,f,t,rfl,rfl,rfl,g,hf,ht,e⟩:=LK h
   rw [e]
   intro x hx
   have h8:=g.2.1
   obtain ⟨j,rfl,hj⟩:=lA hf x hx
   omega
end
section
open Go.RowKit
def NK (d1 d2:List Int) (l:Lk) (t:Nat):Bool:=if iz d1 t<0 then false else if iz d1 l.a.toNat<0 then false else if iz d1 l.a.toNat+l.c+iz d2 l.b.toNat=iz d1 t then true else decide (iz d1 l.b.toNat+l.c+iz d2 l.a.toNat=iz d1 t)
def OK (N:Nat) (ls:List Lk) (k f t:Nat):Bool:=decide (0≤iz (Tb N ls f) t)&&!NK (Tb N ls f) (Tb N ls t) (lk ls k) t
theorem lD {N:Nat} {ls:List Lk} (g:GV N ls) {k:Nat} (hk:k<ls.length):∃a b:Nat,(lk ls k).a=a∧(lk ls k).b=b∧a<N∧b<N∧1≤(lk ls k).c∧(lk ls k).c≤20:=by
  have h:=(Gn.1 g).2.2.2.1 (lk ls k) (List.mem_of_getElem? (QB hk))
  obtain ⟨h1,h2,h3,h4,h5⟩:=h
  exact ⟨(lk ls k).a.toNat,(lk ls k).b.toNat,by omega,by omega,by omega,by omega,h4,h5⟩
section
variable {N:Nat} {ls:List Lk}
theorem zFV (g:GV N ls) {f t k:Nat} (hf:f<N) (ht:t<N) (hk:k<ls.length):HH ((N:Int),ls,(f:Int),(t:Int),(k:Int),())=some (NK (Tb N ls f) (Tb N ls t) (lk ls k) t,()):=by
  obtain ⟨a,b,ea,eb,ha,hb,h1,h20⟩:=lD g hk
  have l1:=Rl N ls f
  have l2:=Rl N ls t
  have b1:=Im g f
  have b2:=Im g t
  unfold HH LP
  rw [XA g hf,XA g ht]
  simp only [Ff,Wa,ea,eb,Option.bind_some,Tc]
  generalize hd1:Tb N ls f=d1 at *
  generalize hd2:Tb N ls t=d2 at *
  refine Ba.out (Ba.bnd (Ba.gd (Ia (by omega) (by omega)) (.some (Q:=fun r=>r=Sum.inl ((t:Int),d1,d2,(a:Int),(b:Int),(lk ls k).c,())) rfl)) ?_)
  rintro _ rfl
  unfold NK
  rw [ea,eb]
  simp only [Wa]
  have:=b1 a
  have:=b2 b
  have:=b1 t
  have:=b1 b
  have:=b2 a
  simp (disch:=omega) only [Na]
  refine Ba.gd (Ia (by omega) (by omega)) (Ba.ite (fun h=>?_) (fun h=>?_))
  ·rw [if_pos (oT h)];exact .some rfl
  rw [if_neg (oF h)]
  refine Ba.gd (Ia (by omega) (by omega)) (Ba.ite (fun h=>?_) (fun h=>?_))
  ·rw [if_pos (oT h)];exact .some rfl
  rw [if_neg (oF h)]
  refine Ba.gd (Ia (by omega) (by omega)) (Ba.gd (Ia (by omega) (by omega)) (Ba.gd (Ia (by omega) (by omega)) (Ba.ite (fun h=>?_) (fun h=>?_))))
  ·rw [if_pos (oT h)];exact .some rfl
  rw [if_neg (oF h)]
  exact Ba.gd (Ia (by omega) (by omega)) (Ba.gd (Ia (by omega) (by omega)) (Ba.gd (Ia (by omega) (by omega)) (.some rfl)))
theorem zFn (g:GV N ls) {f t k:Nat} (hf:f<N) (ht:t<N) (hk:k<ls.length):JH ((N:Int),ls,(f:Int),(t:Int),(k:Int),())=some (NK (Tb N ls f) (Tb N ls t) (lk ls k) t,()):=by
  obtain ⟨a,b,ea,eb,ha,hb,h1,h20⟩:=lD g hk
  have l1:=Rl N ls f
  have l2:=Rl N ls t
  have b1:=Im g f
  have b2:=Im g t
  unfold JH
  rw [PJ g hf,PJ g ht]
  simp only [Ff,Wa,ea,eb,Option.bind_some,Tc]
  generalize hd1:Tb N ls f=d1 at *
  generalize hd2:Tb N ls t=d2 at *
  refine Ba.out (Ba.gd (Ia (by omega) (by omega)) ?_)
  unfold NK
  rw [ea,eb]
  simp only [Wa]
  have:=b1 a
  have:=b2 b
  have:=b1 t
  have:=b1 b
  have:=b2 a
  simp (disch:=omega) only [Na]
  refine Ba.gd (Ia (by omega) (by omega)) (Ba.ite (fun h=>?_) (fun h=>?_))
  ·rw [if_pos (oT h)];exact .some rfl
  rw [if_neg (oF h)]
  refine Ba.gd (Ia (by omega) (by omega)) (Ba.ite (fun h=>?_) (fun h=>?_))
  ·rw [if_pos (oT h)];exact .some rfl
  rw [if_neg (oF h)]
  refine Ba.gd (Ia (by omega) (by omega)) (Ba.gd (Ia (by omega) (by omega)) (Ba.gd (Ia (by omega) (by omega)) (Ba.ite (fun h=>?_) (fun h=>?_))))
  ·rw [if_pos (oT h)];exact .some rfl
  rw [if_neg (oF h)]
  exact Ba.gd (Ia (by omega) (by omega)) (Ba.gd (Ia (by omega) (by omega)) (Ba.gd (Ia (by omega) (by omega)) (.some rfl)))
theorem zE4 (g:GV N ls) {f t k:Nat} (hf:f<N) (ht:t<N) (hk:k<ls.length):NP ((N:Int),ls,(f:Int),(k:Int),(t:Int),())=some (OK N ls k f t,()):=by
  have l1:=Rl N ls f
  unfold NP OK
  rw [XA g hf]
  simp only [Option.bind_some,Tc,Wa]
  refine Ba.out (Ba.gd (Ia (by omega) (by omega)) (Ba.ite (fun h=>?_) (fun h=>?_)))
  ·rw [h,zFV g hf ht hk];exact .some rfl
  ·rw [h];exact .some rfl
theorem zFj (g:GV N ls) {f t k:Nat} (hf:f<N) (ht:t<N) (hk:k<ls.length):WP ((N:Int),ls,(f:Int),(t:Int),(k:Int),())=some (OK N ls k f t,()):=by
  have l1:=Rl N ls f
  unfold WP OK
  rw [PJ g hf]
  simp only [Option.bind_some,Tc,Wa]
  refine Ba.out (Ba.gd (Ia (by omega) (by omega)) (Ba.ite (fun h=>?_) (fun h=>?_)))
  ·rw [h,zFn g hf ht hk];exact .some rfl
  ·rw [h];exact .some rfl
theorem yBs (g:GV N ls) (k:Nat):GV N (ls.eraseIdx k):=by
  have h:=Gn.1 g
  have hs:=List.eraseIdx_sublist ls k
  exact Gn.2 ⟨h.1,h.2.1,Nat.le_trans hs.length_le h.2.2.1,fun l hl=>h.2.2.2.1 l (hs.subset hl),h.2.2.2.2.sublist hs⟩
theorem lE (n k:Int) {ls:List Lk} (fl:Bb ls):GH (n,ls,k,())=some (gv n ls&&Db k 0 ((ls.length:Int)-1),()):=by
  unfold GH
  refine Ba.out (La (C4 n ls fl) ?_)
  cases hg:gv n ls with
  |false=>exact .some rfl
  |true =>
   dsimp only
   rw [Ta,Na (by omega) (by unfold Bb at fl;omega)]
   exact Ba.gd rfl (La (Fm _ _ _) (.some rfl))
theorem B6 (n k:Int) {ls:List Lk} (fl:Bb ls):KP (n,ls,k,())=some (gv n ls&&Db k 0 ((ls.length:Int)-1),()):=by
  unfold KP
  refine Ba.out (La (Yw n ls fl) ?_)
  cases hg:gv n ls with
  |false=>exact .some rfl
  |true =>
   dsimp only
   rw [Ta,Na (by omega) (by unfold Bb at fl;omega)]
   exact Ba.gd rfl (La (Uk _ _ _) (.some rfl))
theorem yBt {k:Nat} (hk:k<ls.length):ls.eraseIdx k=ls.take k++ls.drop (k+1):=List.eraseIdx_eq_take_drop_succ ls k
theorem zFi (g:GV N ls) {k:Nat} (hk:k<ls.length):MP ((N:Int),ls,(k:Int),())=some ((N:Int),ls.eraseIdx k,()):=by
  have h14:=g.2.2.1
  unfold MP
  dsimp only
  rw [Na (by omega) (by omega)]
  have e1:List.take (Int.toNat (k:Int)-Int.toNat (0:Int)) (List.drop (Int.toNat (0:Int)) ls)=ls.take k:=by simp
  have e2:List.take (Int.toNat (ls.length:Int)-Int.toNat ((k:Int)+1)) (List.drop (Int.toNat ((k:Int)+1)) ls)=ls.drop (k+1):=by
    have:Int.toNat ((k:Int)+1)=k+1:=by omega
    rw [this,Wa]
    exact List.take_of_length_le (by simp)
  rw [e1,e2,List.nil_append,yBt hk]
  refine Ba.out (Ba.gd (by unfold Gg;simp;omega) (Ba.gd (by unfold Gg;simp;omega) (Ba.gd (decide_eq_true (by simp;omega)) (Ba.gd (decide_eq_true (by simp;omega)) (.some rfl)))))
theorem zDP (n k:Int) {ls:List Lk} (fl:Bb ls):QP (n,ls,k,())=some (if (gv n ls&&Db k 0 ((ls.length:Int)-1))=true then (n,true,ls.eraseIdx k.toNat,()) else (0,false,[],())):=by
  unfold QP
  refine Ba.out (La (lE n k fl) ?_)
  cases h:gv n ls&&Db k 0 ((ls.length:Int)-1) with
  |false=>rw [if_neg (by simp)];exact .some rfl
  |true =>
   rw [if_pos rfl]
   simp only [Bool.and_eq_true] at h
   have h2:=He h.2
   obtain ⟨k,rfl⟩:=Int.eq_ofNat_of_zero_le h2.1
   have hk:k<ls.length:=by omega
   obtain ⟨N,rfl,g⟩:=Bo h.1
   have h14:=g.2.2.1
   have e1:PP ((N:Int),ls,(k:Int),())=some ((N:Int),ls.eraseIdx k,()):=by
     unfold PP
     refine Ba.out (Ba.bnd (R:=fun r=>match r with| .inl x=>x.2.1=(N:Int)∧x.2.2.2.1=ls.eraseIdx k| .inr _=>False) ?_ ?_)
     ·refine Ba.count ls.length (fun i s=>s=((k:Int),ls,(ls.length:Int),(i:Int),(0:Int),(N:Int),[],(ls.take i).eraseIdx k,())) ?_ (Nat.zero_le _) (Jb fl) (by simp [Ta])
      rintro i s hi rfl
      have hle:((ls.take i).eraseIdx k).length≤14:=Nat.le_trans (List.eraseIdx_sublist _ _).length_le (by rw [List.length_take];omega)
      unfold OP
      simp only [Ff,Wa]
      by_cases hlt:i<ls.length
      ·have e0:∀a b c:Int,JP ((i:Int),a,b,c,(k:Int),())=some (!decide (i=k),()):=fun a b c=>by
         unfold JP
         simp only [Option.some.injEq,Prod.mk.injEq,and_true]
         by_cases e:i=k
         ·simp [e]
         ·have:¬((i:Int)=k):=by omega
          simp [e,this]
       have e3:ls.take (i+1)=ls.take i++[lk ls i]:=by rw [List.take_add_one,QB hlt];rfl
       refine Ba.gd (decide_eq_true (by omega)) (Ba.gd (Ia (by omega) (by omega)) (La (e0 _ _ _) (Ba.ite (fun e=>?_) (fun e=>?_))))
       ·have e:i≠k:=by simpa using e
        refine Ba.gd (decide_eq_true (by simp only [List.length_singleton];omega)) (.some ?_)
        dsimp only
        refine ⟨hlt,?_⟩
        rw [Na (by omega) (by omega),e3]
        have e4:(ls.take i++[lk ls i]).eraseIdx k=(ls.take i).eraseIdx k++[lk ls i]:=by
          by_cases hki:k<i
          ·rw [List.eraseIdx_append_of_lt_length (by rw [List.length_take];omega)]
          ·rw [List.eraseIdx_of_length_le (by simp [List.length_take];omega),List.eraseIdx_of_length_le (by rw [List.length_take];omega)]
        rw [e4];rfl
       ·have e:i=k:=by simpa using e
        refine .some ?_
        dsimp only
        refine ⟨hlt,?_⟩
        rw [Na (by omega) (by omega),e3]
        have e4:(ls.take i++[lk ls i]).eraseIdx k=(ls.take i).eraseIdx k:=by
          subst e
          have hl:(ls.take i).length=i:=by rw [List.length_take];omega
          rw [List.eraseIdx_append_of_length_le (by omega),hl,Nat.sub_self,List.eraseIdx_of_length_le (l:=ls.take i) (by omega)]
          simp
        rw [e4];rfl
      ·have:i=ls.length:=by omega
       refine Ba.no (dF (by omega)) (.some ⟨rfl,?_⟩)
       dsimp only
       rw [this,List.take_length]
     ·rintro (⟨x,y,z,w,u⟩|r) hr
      ·obtain ⟨rfl,rfl⟩:=hr
       exact .some rfl
      ·exact hr.elim
   exact Ba.no rfl (La e1 (.some rfl))
def Zh (n:Int) (ls:List Lk) (a k b:Int):List Int:=if (gv n ls&&Db k 0 ((ls.length:Int)-1))=true then Xh (n,ls.eraseIdx k.toNat) a b else []
theorem zDR (n a k b:Int) {ls:List Lk} (fl:Bb ls):SP (n,ls,a,k,b,())=some (Zh n ls a k b,()):=by
  unfold SP Zh
  refine Ba.out (La (zDP n k fl) ?_)
  by_cases h:(gv n ls&&Db k 0 ((ls.length:Int)-1))=true
  ·rw [if_pos h,if_pos h]
   refine Ba.no rfl (La (lB _ _ _ (Nat.le_trans (List.eraseIdx_sublist _ _).length_le fl)) (.some rfl))
  ·rw [if_neg h,if_neg h]
   exact Ba.gd rfl (.some rfl)
theorem zF9 (n a k b:Int) {ls:List Lk} (fl:Bb ls):YP (n,ls,a,k,b,())=some (Zh n ls a k b,()):=by
  have e0:Uu (n,ls,a,k,b,())=some ((gv n ls&&Db k 0 ((ls.length:Int)-1))&&(Db a 0 (n-1)&&Db b 0 (n-1)),()):=by
    unfold Uu
    refine Ba.out (La (B6 n k fl) ?_)
    cases h:gv n ls&&Db k 0 ((ls.length:Int)-1) with
    |false=>exact .some rfl
    |true =>
     simp only [Bool.and_eq_true] at h
     obtain ⟨N,rfl,g⟩:=Bo h.1
     have h8:=g.2.1
     refine Ba.gd rfl (La (Up _ _ _ (by omega) (by omega)) ?_)
     dsimp only
     cases Db a 0 ((N:Int)-1) with
     |false=>exact .some rfl
     |true=>exact Ba.gd rfl (La (Up _ _ _ (by omega) (by omega)) (.some rfl))
  unfold YP
  refine Ba.out (La e0 ?_)
  dsimp only
  unfold Zh Xh
  cases h:gv n ls&&Db k 0 ((ls.length:Int)-1) with
  |false=>rw [if_neg (by simp)];exact .some rfl
  |true =>
   rw [if_pos rfl]
   have h0:=h
   simp only [Bool.and_eq_true] at h
   have h2:=He h.2
   obtain ⟨k,rfl⟩:=Int.eq_ofNat_of_zero_le h2.1
   obtain ⟨N,rfl,g⟩:=Bo h.1
   have gE:=yBs g k
   have hg:gv (N:Int) (ls.eraseIdx (Int.toNat (k:Int)))=true:=decide_eq_true gE
   rw [hg]
   cases h3:Db a 0 ((N:Int)-1)&&Db b 0 ((N:Int)-1) with
   |false=>exact .some rfl
   |true =>
    simp only [Bool.and_eq_true] at h3
    have ha:=He h3.1
    have hb:=He h3.2
    obtain ⟨f,rfl⟩:=Int.eq_ofNat_of_zero_le ha.1
    obtain ⟨t,rfl⟩:=Int.eq_ofNat_of_zero_le hb.1
    refine Ba.no rfl (La (zFi g (by omega)) (La (kY gE (by omega) (by omega)) (.some rfl)))
end
end
section
open Go.RowKit
def Ai (N:Nat) (ls:List Lk) (k:Nat) (p:List Int) (a:Nat):Nat→Nat
  |0=>0
  |j+1=>if a<j+1∧OK N ls k (iz p a).toNat (iz p (j+1)).toNat=false then Ai N ls k p a j else j+1
theorem ES (N:Nat) (ls:List Lk) (k:Nat) (p:List Int) (a:Nat):∀j,Ai N ls k p a j≤j
  |0=>Nat.le_refl _
  |j+1=>by
   unfold Ai
   split
   ·exact Nat.le_succ_of_le (ES N ls k p a j)
   ·exact Nat.le_refl _
def Dl (N:Nat) (ls:List Lk) (k:Nat) (p:List Int):Nat→Nat→List Lb→List Lb
  |0,_,acc=>acc
  |m+1,a,acc=>if a<p.length-1 then (if a<Ai N ls k p a (p.length-1) then Dl N ls k p m (Ai N ls k p a (p.length-1)) (acc++[⟨1,iz p (Ai N ls k p a (p.length-1))⟩]) else Dl N ls k p m (a+1) (acc++[⟨2,Ac ls (iz p a) (iz p (a+1))⟩])) else acc
def Ak (n:Int) (ls:List Lk) (a k b:Int):List Lb×Bool:=if Zh n ls a k b=[] then ([],false) else (Dl n.toNat ls k.toNat (Zh n ls a k b) (Zh n ls a k b).length 0 [],true)
theorem C6 (n:Int) (ls:List Lk) (a k b:Int):Zh n ls a k b=[]∨∃N k':Nat,n=N∧k=k'∧GV N ls∧k'<ls.length∧(Zh n ls a k b).length≤5101∧∀x∈Zh n ls a k b,∃j:Nat,x=j∧j<N:=by
  unfold Zh
  by_cases h:(gv n ls&&Db k 0 ((ls.length:Int)-1))=true
  ·rw [if_pos h]
   simp only [Bool.and_eq_true] at h
   have h2:=He h.2
   obtain ⟨k',rfl⟩:=Int.eq_ofNat_of_zero_le h2.1
   obtain ⟨N,rfl,g⟩:=Bo h.1
   refine .inr ⟨N,k',rfl,rfl,g,by omega,lC _ _ _ _,?_⟩
   intro x hx
   cases h3:gv (N:Int) (ls.eraseIdx (Int.toNat (k':Int)))&&(Db a 0 ((N:Int)-1)&&Db b 0 ((N:Int)-1)) with
   |false=>rw [MK h3] at hx;simp at hx
   |true =>
    obtain ⟨N',f,t,e,rfl,rfl,_,hf,ht,e2⟩:=LK h3
    have:N=N':=by omega
    subst this
    rw [e2] at hx
    exact lA hf x hx
  ·rw [if_neg h];exact .inl rfl
section
variable {N:Nat} {ls:List Lk} {k:Nat} {p:List Int}
theorem yBu (g:GV N ls) (hk:k<ls.length) (hp:∀x∈p,∃j:Nat,x=j∧j<N) (hl:p.length≤5101) {a:Nat} (ha:a<p.length) (acc:List Lb) (la:Int):∀j m,j<p.length→a≤j→j<m→Ba (lp Vu m ((k:Int),la,(a:Int),(j:Int),(N:Int),ls,p,acc,())) fun r=>match r with| .inl x=>x=((k:Int),la,(a:Int),((Ai N ls k p a j:Nat):Int),(N:Int),ls,p,acc,())| .inr _=>False:=by
  obtain ⟨f,ef,hf⟩:=hp _ (List.mem_of_getElem? (Yg ha))
  intro j
  induction j with
  |zero =>
   intro m _ h0 hm
   obtain ⟨m,rfl⟩:∃m',m=m'+1:=⟨m-1,by omega⟩
   refine Al ?_
   unfold Vu
   exact Ba.no (dF (by dsimp only;omega)) (.some rfl)
  |succ j ih =>
   intro m hj hal hm
   obtain ⟨m,rfl⟩:∃m',m=m'+1:=⟨m-1,by omega⟩
   refine Al ?_
   have ih:=ih m
   generalize lp Vu m=F at ih ⊢
   unfold Vu Ai
   obtain ⟨t,et,ht⟩:=hp _ (List.mem_of_getElem? (Yg hj))
   by_cases e:a<j+1
   ·simp only [Tc,Wa,ef,et]
    refine Ba.gd (decide_eq_true (by omega)) (Ba.gd (Ia (by omega) (by omega)) (Ba.gd (Ia (by omega) (by omega)) (La (zE4 g hf ht hk) (Ba.ite (fun h=>?_) (fun h=>?_)))))
    ·rw [if_pos ⟨e,by simpa using h⟩]
     refine .some ?_
     dsimp only
     rw [Na (by omega) (by omega)]
     have e1:((j+1:Nat):Int)-1=(j:Nat):=by omega
     rw [e1]
     exact ih (by omega) (by omega) (by omega)
    ·rw [if_neg (by rintro ⟨_,h2⟩;rw [h2] at h;cases h)]
     exact .some rfl
   ·rw [if_neg (by omega)]
    exact Ba.no (dF (by dsimp only;omega)) (.some rfl)
theorem yBv (g:GV N ls) (hk:k<ls.length) (hp:∀x∈p,∃j:Nat,x=j∧j<N) (hl:p.length≤5101) {a:Nat} (ha:a<p.length) (acc:List Lb):∀j m,j<p.length→a≤j→j<m→Ba (lp Wu m ((k:Int),(a:Int),(j:Int),(N:Int),ls,acc,p,())) fun r=>match r with| .inl x=>x=((k:Int),(a:Int),((Ai N ls k p a j:Nat):Int),(N:Int),ls,acc,p,())| .inr _=>False:=by
  obtain ⟨f,ef,hf⟩:=hp _ (List.mem_of_getElem? (Yg ha))
  intro j
  induction j with
  |zero =>
   intro m _ h0 hm
   obtain ⟨m,rfl⟩:∃m',m=m'+1:=⟨m-1,by omega⟩
   refine Al ?_
   unfold Wu
   exact Ba.no (dF (by dsimp only;omega)) (.some rfl)
  |succ j ih =>
   intro m hj hal hm
   obtain ⟨m,rfl⟩:∃m',m=m'+1:=⟨m-1,by omega⟩
   refine Al ?_
   have ih:=ih m
   generalize lp Wu m=F at ih ⊢
   unfold Wu Ai
   obtain ⟨t,et,ht⟩:=hp _ (List.mem_of_getElem? (Yg hj))
   by_cases e:a<j+1
   ·simp only [Tc,Wa,ef,et]
    refine Ba.gd (decide_eq_true (by omega)) (Ba.gd (Ia (by omega) (by omega)) (Ba.gd (Ia (by omega) (by omega)) (La (zFj g hf ht hk) (Ba.ite (fun h=>?_) (fun h=>?_)))))
    ·rw [if_pos ⟨e,by simpa using h⟩]
     refine .some ?_
     dsimp only
     rw [Na (by omega) (by omega)]
     have e1:((j+1:Nat):Int)-1=(j:Nat):=by omega
     rw [e1]
     exact ih (by omega) (by omega) (by omega)
    ·rw [if_neg (by rintro ⟨_,h2⟩;rw [h2] at h;cases h)]
     exact .some rfl
   ·rw [if_neg (by omega)]
    exact Ba.no (dF (by dsimp only;omega)) (.some rfl)
theorem yBw (hp:∀x∈p,∃j:Nat,x=j∧j<N) (hl:p.length≤5101) (fl:Bb ls) {a:Nat} {acc:List Lb} (ha:a+1<p.length) (hc:acc.length≤a) (la:Int):LH ((k:Int),la,(a:Int),(N:Int),ls,p,acc,())=some (Sum.inl ((k:Int),la,((a+1:Nat):Int),(N:Int),ls,p,acc++[⟨2,Ac ls (iz p a) (iz p (a+1))⟩],())):=by
  have e3:wrap64 ((a:Int)+1)=((a+1:Nat):Int):=by rw [Na (by omega) (by omega)];rfl
  unfold LH
  simp only [Tc,Wa,e3,D4 _ _ _ _ fl,Option.bind_some]
  exact Ba.out (Ba.gd (Ia (by omega) (by omega)) (Ba.gd (Ia (by omega) (by omega)) (Ba.gd (decide_eq_true (by simp only [List.length_singleton];omega)) (.some rfl))))
theorem yBx (g:GV N ls) (hk:k<ls.length) (hp:∀x∈p,∃j:Nat,x=j∧j<N) (hl:p.length≤5101) (h0:0<p.length):∀m a acc M,a<p.length→acc.length≤a→p.length-1-a<m→m≤M→Ba (lp Nz M ((k:Int),((p.length-1:Nat):Int),(a:Int),(N:Int),ls,p,acc,())) fun r=>match r with| .inl x=>x=(Dl N ls k p m a acc,())| .inr _=>False:=by
  have fl:Bb ls:=(by have:=g.2.2.1;unfold Bb;omega)
  intro m
  induction m with
  |zero=>intro a acc M _ _ h;omega
  |succ m ih =>
   intro a acc M ha hc hm hM
   obtain ⟨M,rfl⟩:∃M',M=M'+1:=⟨M-1,by omega⟩
   refine Al ?_
   have ih:=fun a acc=>ih a acc M
   generalize lp Nz M=F at ih ⊢
   unfold Nz Dl
   by_cases e:a<p.length-1
   ·rw [if_pos e]
    refine Ba.gd (decide_eq_true (by dsimp only;omega)) (Ba.bnd (yBu g hk hp hl ha acc _ (p.length-1) Ea (by omega) (by omega) (Jb (by omega))) ?_)
    rintro (x|x) hx
    case inr=>exact hx.elim
    dsimp only at hx
    subst hx
    have hfl:=ES N ls k p a (p.length-1)
    generalize Ai N ls k p a (p.length-1)=j at *
    dsimp only
    by_cases e2:a<j
    ·rw [if_pos e2]
     simp only [Tc,Wa]
     refine Ba.gd (decide_eq_true (by omega)) (Ba.gd (Ia (by omega) (by omega)) (Ba.gd (decide_eq_true (by simp only [List.length_singleton];omega)) (.some ?_)))
     exact ih j _ (by omega) (by simp only [List.length_append,List.length_singleton];omega) (by omega) (by omega)
    ·rw [if_neg e2]
     refine Ba.no (dF (by omega)) ?_
     refine La (yBw hp hl fl (by omega) (by omega) _) ?_
     refine .some ?_
     exact ih (a+1) _ (by omega) (by simp only [List.length_append,List.length_singleton];omega) (by omega) (by omega)
   ·rw [if_neg e]
    exact Ba.no (dF (by dsimp only;omega)) (.some rfl)
theorem yBy (g:GV N ls) (hk:k<ls.length) (hp:∀x∈p,∃j:Nat,x=j∧j<N) (hl:p.length≤5101) (h0:0<p.length):∀m a acc M,a<p.length→acc.length≤a→p.length-1-a<m→m≤M→Ba (lp Oz M ((k:Int),(a:Int),(N:Int),ls,acc,p,())) fun r=>match r with| .inl x=>x=(Dl N ls k p m a acc,())| .inr _=>False:=by
  have fl:Bb ls:=(by have:=g.2.2.1;unfold Bb;omega)
  intro m
  induction m with
  |zero=>intro a acc M _ _ h;omega
  |succ m ih =>
   intro a acc M ha hc hm hM
   obtain ⟨M,rfl⟩:∃M',M=M'+1:=⟨M-1,by omega⟩
   refine Al ?_
   have e3:wrap64 ((a:Int)+1)=((a+1:Nat):Int):=by rw [Na (by omega) (by omega)];rfl
   have e4:wrap64 ((p.length:Int)-1)=((p.length-1:Nat):Int):=by rw [Na (by omega) (by omega)];omega
   have ih:=fun a acc=>ih a acc M
   generalize lp Oz M=F at ih ⊢
   unfold Oz Dl
   simp only [Ta,e3,e4]
   by_cases e:a<p.length-1
   ·rw [if_pos e]
    refine Ba.gd (decide_eq_true (by omega)) (Ba.bnd (yBv g hk hp hl ha acc (p.length-1) Ea (by omega) (by omega) (Jb (by omega))) ?_)
    rintro (x|x) hx
    case inr=>exact hx.elim
    dsimp only at hx
    subst hx
    have hfl:=ES N ls k p a (p.length-1)
    generalize Ai N ls k p a (p.length-1)=j at *
    dsimp only
    by_cases e2:a<j
    ·rw [if_pos e2]
     simp only [Tc,Wa]
     refine Ba.gd (decide_eq_true (by omega)) (Ba.gd (Ia (by omega) (by omega)) (Ba.gd (decide_eq_true (by simp only [List.length_singleton];omega)) (.some ?_)))
     exact ih j _ (by omega) (by simp only [List.length_append,List.length_singleton];omega) (by omega) (by omega)
    ·rw [if_neg e2]
     simp only [Tc,Wa,e3]
     refine Ba.no (dF (by omega)) (Ba.gd (Ia (by omega) (by omega)) (Ba.gd (Ia (by omega) (by omega)) (La (OJ _ _ _ _ fl) (Ba.gd (decide_eq_true (by simp only [List.length_singleton];omega)) (.some ?_)))))
     exact ih (a+1) _ (by omega) (by simp only [List.length_append,List.length_singleton];omega) (by omega) (by omega)
   ·rw [if_neg e]
    exact Ba.no (dF (by omega)) (.some rfl)
end
theorem zDS (n a k b:Int) {ls:List Lk} (fl:Bb ls):UP (n,ls,a,k,b,())=some ((Ak n ls a k b).2,(Ak n ls a k b).1,()):=by
  unfold UP Ak
  refine Ba.out (La (zDR n a k b fl) ?_)
  rcases C6 n ls a k b with h|⟨N,k',rfl,rfl,g,hk,hl,hp⟩
  ·rw [h,if_pos rfl]
   exact Ba.gd rfl (.some rfl)
  ·generalize Zh (N:Int) ls a (k':Int) b=p at *
   by_cases h0:p=[]
   ·subst h0
    rw [if_pos rfl]
    exact Ba.gd rfl (.some rfl)
   rw [if_neg h0]
   have h1:0<p.length:=List.length_pos_iff.2 h0
   have e4:wrap64 ((p.length:Int)-1)=((p.length-1:Nat):Int):=by rw [Na (by omega) (by omega)];omega
   simp only [Ta,e4,Wa]
   refine Ba.no (dF (by omega)) (Ba.bnd (yBx g hk hp hl h1 p.length 0 [] Ea h1 (Nat.zero_le _) (by omega) (Nat.le_of_lt (Jb (by omega)))) ?_)
   rintro (x|x) hx
   case inr=>exact hx.elim
   dsimp only at hx
   subst hx
   exact .some rfl
theorem zGa (n a k b:Int) {ls:List Lk} (fl:Bb ls):ZP (n,ls,a,k,b,())=some ((Ak n ls a k b).2,(Ak n ls a k b).1,()):=by
  unfold ZP Ak
  refine Ba.out (La (zF9 n a k b fl) ?_)
  rcases C6 n ls a k b with h|⟨N,k',rfl,rfl,g,hk,hl,hp⟩
  ·rw [h,if_pos rfl]
   exact Ba.gd rfl (.some rfl)
  ·generalize Zh (N:Int) ls a (k':Int) b=p at *
   by_cases h0:p=[]
   ·subst h0
    rw [if_pos rfl]
    exact Ba.gd rfl (.some rfl)
   rw [if_neg h0]
   have h1:0<p.length:=List.length_pos_iff.2 h0
   simp only [Ta,Wa]
   refine Ba.no (dF (by omega)) (Ba.bnd (yBy g hk hp hl h1 p.length 0 [] Ea h1 (Nat.zero_le _) (by omega) (Nat.le_of_lt (Jb (by omega)))) ?_)
   rintro (x|x) hx
   case inr=>exact hx.elim
   dsimp only at hx
   subst hx
   exact .some rfl
theorem D6 (N:Nat) (ls:List Lk) (k:Nat) (p:List Int):∀m a acc,(Dl N ls k p m a acc).length≤acc.length+m
  |0,_,_=>Nat.le_refl _
  |m+1,a,acc=>by
   unfold Dl
   split
   ·split
    ·have:=D6 N ls k p m (Ai N ls k p a (p.length-1)) (acc++[⟨1,iz p (Ai N ls k p a (p.length-1))⟩])
     simp only [List.length_append,List.length_singleton] at this
     omega
    ·have:=D6 N ls k p m (a+1) (acc++[⟨2,Ac ls (iz p a) (iz p (a+1))⟩])
     simp only [List.length_append,List.length_singleton] at this
     omega
   ·omega
theorem E6 {N:Nat} {ls:List Lk} {k:Nat} {p:List Int} (hp:∀x∈p,0≤x∧x<8) (hl:ls.length≤14):∀m a acc,(∀x∈acc,-1≤x.a∧x.a<14)→∀x∈Dl N ls k p m a acc,-1≤x.a∧x.a<14
  |0,_,_,h=>h
  |m+1,a,acc,h=>by
   unfold Dl
   split
   ·split
    ·refine E6 hp hl m _ _ fun x hx=>?_
     rcases List.mem_append.1 hx with hx|hx
     ·exact h x hx
     ·rw [List.mem_singleton.1 hx]
      dsimp only
      have:=hp _ (List.mem_of_getElem? (Yg (zs:=p) (i:=Ai N ls k p a (p.length-1)) (by have:=ES N ls k p a (p.length-1);omega)))
      omega
    ·refine E6 hp hl m _ _ fun x hx=>?_
     rcases List.mem_append.1 hx with hx|hx
     ·exact h x hx
     ·rw [List.mem_singleton.1 hx]
      dsimp only
      rcases Zq ls (iz p a) (iz p (a+1)) with h|⟨j,h,h2,_⟩<;>omega
   ·exact h
theorem lF {n:Int} {ls:List Lk} {a k b:Int}:(Ak n ls a k b).1.length≤5101∧∀x∈(Ak n ls a k b).1,-1≤x.a∧x.a<14:=by
  unfold Ak
  rcases C6 n ls a k b with h|⟨N,k',rfl,rfl,g,hk,hl,hp⟩
  ·rw [if_pos h];simp
  split
  ·simp
  ·refine ⟨?_,E6 (fun x hx=>?_) g.2.2.1 _ _ _ (by simp)⟩
   ·have:=D6 N ls k' (Zh (N:Int) ls a (k':Int) b) (Zh (N:Int) ls a (k':Int) b).length 0 []
    simp only [List.length_nil,Wa] at this ⊢
    omega
   ·obtain ⟨j,rfl,hj⟩:=hp x hx
    have:=g.2.1
    omega
end
section
open Go.RowKit
open Go.Lib (itoa decDigits)
theorem lG {t:List UInt8} (c:UInt8) (ht:t.length≤1000000):PD (bs t,bs [c],())=some ((Vb c t).map bs,()):=by
  unfold PD DN
  dsimp only
  rw [Hp,Hp,Yb]
  exact Ba.out (Ba.gd (decide_eq_true ht) (.some rfl))
theorem zF4 (n t:Int) {ls:List Lk} (fl:Bb ls):VP (n,ls,t,())=some (Gm n ls t,()):=by
  unfold VP Gm
  refine Ba.out (La (Yw n ls fl) ?_)
  cases h:gv n ls with
  |false=>exact .some rfl
  |true =>
   obtain ⟨N,rfl,g⟩:=Bo h
   have h8:=g.2.1
   refine Ba.no rfl (La (Up _ _ _ (by omega) (by omega)) ?_)
   cases ht:Db t 0 ((N:Int)-1) with
   |false=>exact .some rfl
   |true =>
    have ht:=He ht
    obtain ⟨T,rfl⟩:=Int.eq_ofNat_of_zero_le ht.1
    exact Ba.no rfl (La (PJ g (by omega)) (.some rfl))
theorem PK (n t:Int) (ls:List Lk):(Gm n ls t).length≤8∧∀x∈Gm n ls t,NR x:=by
  unfold Gm
  cases h:gv n ls&&Db t 0 (n-1) with
  |false=>simp
  |true =>
   simp only [Bool.and_eq_true] at h
   obtain ⟨N,rfl,g⟩:=Bo h.1
   have h8:=g.2.1
   have hl:=Rl N ls t.toNat
   rw [if_pos rfl]
   refine ⟨by simp only [Wa];omega,fun x hx=>?_⟩
   obtain ⟨i,hi,rfl⟩:=List.mem_iff_getElem.1 hx
   have:=Im g t.toNat i
   have e:=lY (List.getElem?_eq_getElem hi)
   simp only [Wa] at e this ⊢
   rw [e] at this
   unfold NR
   omega
section
variable {w:Wd}
theorem lH (h:WV w Nb) (a:Int):RI (w.n,w.ls,w.up,w.sq,w.db,w.net,a,())=some ((Cd w a).1,(Cd w a).2,()):=by
  have h8:=h.nn
  have hdb:=h.db
  unfold RI Cd
  dsimp only
  rw [Na (by omega) (by omega)]
  refine Ba.out (La (Fm _ _ _) ?_)
  cases hb:Db a 0 (w.n-1) with
  |false=>exact .some rfl
  |true =>
   have hb:=He hb
   obtain ⟨k,rfl⟩:=Int.eq_ofNat_of_zero_le hb.1
   exact Ba.no rfl (La (yA2 h (by omega)) (.some rfl))
theorem lI (h:WV w Nb) (a:Int):Iz (w.n,w.ls,w.up,w.sq,w.db,w.net,a,())=some ((Cd w a).1,(Cd w a).2,()):=by
  rw [zGf h.sm a]
  have e:Yj w a=Cd w a:=by unfold Yj Cd;rw [Bx.2 h,Bool.true_and]
  rw [e]
theorem z7 (h:WV w Nb) (a:Int):Bb (Cd w a).2:=by
  have e:Yj w a=Cd w a:=by unfold Yj Cd;rw [Bx.2 h,Bool.true_and]
  rw [←e];exact yA5 w a
end
def MB (l:List Lb) (i:Nat):Lb:=l.getD i ⟨0,0⟩
theorem lJ (es:List Lb) (i:Nat):Aa .lb es i=MB es i:=by
  induction es generalizing i with
  |nil=>rfl
  |cons z r ih=>cases i with
   |zero=>rfl
   |succ i=>exact (ih i).trans (by simp [MB])
theorem F6 {l:List Lb} {i:Nat} (h:i<l.length):l[i]? =some (MB l i):=by simp [MB,List.getD,h]
theorem GS {l:List Lb} {k:Nat} (h:k<l.length):Wg (l.take (k+1))=Wg (l.take k)++(32::(if (MB l k).k=1 then 110 else 108)::itoa (MB l k).a):=by
  rw [List.take_add_one,F6 h]
  simp [Wg]
theorem QK {l:List Lb} (h:∀x∈l,NR x.a):(Wg l).length≤23*l.length:=by
  induction l with
  |nil=>simp [Wg]
  |cons a r ih =>
   have h1:=Pi (h a (List.mem_cons_self ..))
   have h2:=ih fun n hn=>h n (List.mem_cons_of_mem _ hn)
   have e:Wg (a::r)=(32::(if a.k=1 then 110 else 108)::itoa a.a)++Wg r:=by simp [Wg]
   rw [e,List.length_append,List.length_cons,List.length_cons,List.length_cons]
   omega
theorem zHw {l:List Lb} (hl:l.length≤10000) (hr:∀x∈l,NR x.a) (w:Wd):Ba (lp NA Ea (bs Ej,(l.length:Int),(0:Int),w.n,w.ls,w.up,w.sq,w.db,l,w.net,())) fun r=>match r with| .inl x=>x=(bs (Ej++Wg l),w.n,w.ls,w.up,w.sq,w.db,w.net,())| .inr _=>False:=by
  refine Ba.count l.length (fun k s=>s=(bs (Ej++Wg (l.take k)),(l.length:Int),(k:Int),w.n,w.ls,w.up,w.sq,w.db,l,w.net,())) ?_ (Nat.zero_le _) (Jb (by omega)) (by simp [Wg])
  rintro k s hk rfl
  have h6:Ej.length=6:=rfl
  by_cases hlt:k<l.length
  ·have hm:=hr _ (List.mem_of_getElem? (F6 hlt))
   have h1:=Pi hm
   have h2:=QK (l:=l.take k) fun x hx=>hr x (List.mem_of_mem_take hx)
   have h3:(l.take k).length≤k:=List.length_take_le _ _
   simp (disch:=omega) only [NA,lJ,Wa,Na]
   refine Ba.gd (decide_eq_true (by omega)) (Ba.gd (Ia (by omega) (by omega)) (Ba.ite (fun h=>?_) (fun h=>?_)))
   ·have h:=oT h
    refine La (BS hm) ?_
    simp only [Zc,Yb,List.length_append,List.length_cons,List.length_nil]
    refine Ba.gd (decide_eq_true (by omega)) (Ba.gd (decide_eq_true (by omega)) (.some ⟨hlt,?_⟩))
    rw [GS hlt,if_pos h];simp
   ·have h:=oF h
    refine La (BS hm) ?_
    simp only [Zc,Yb,List.length_append,List.length_cons,List.length_nil]
    refine Ba.gd (decide_eq_true (by omega)) (Ba.gd (decide_eq_true (by omega)) (.some ⟨hlt,?_⟩))
    rw [GS hlt,if_neg h];simp
  ·obtain rfl:k=l.length:=by omega
   simp only [NA]
   rw [List.take_length]
   exact Ba.no (dF (by omega)) (.some rfl)
theorem zFK {l:List Lb} (hl:l.length≤10000) (hr:∀x∈l,NR x.a):OQ (l,())=some (bs (Wg l),()):=by
  unfold OQ
  refine Ba.out (Ba.bnd (R:=fun r=>r=.inl (bs (Wg l),())) ?_ ?_)
  ·refine Ba.count l.length (fun k s=>s=(l,bs (Wg (l.take k)),(k:Int),())) ?_ (Nat.zero_le _) (Jb (by omega)) (by simp [Wg])
   rintro k s hk rfl
   by_cases hlt:k<l.length
   ·have hm:=hr _ (List.mem_of_getElem? (F6 hlt))
    have h1:=Pi hm
    have h2:=QK (l:=l.take k) fun x hx=>hr x (List.mem_of_mem_take hx)
    have h3:(l.take k).length≤k:=List.length_take_le _ _
    simp (disch:=omega) only [YI,lJ,Wa,Na,Ta,Zc,Yb,List.length_append,List.length_cons,List.length_nil]
    refine Ba.gd (decide_eq_true (by omega)) (Ba.gd (Ia (by omega) (by omega)) (Ba.ite (fun h=>?_) (fun h=>?_)))
    ·have h:=oT h
     refine Ba.gd (decide_eq_true (by omega)) (Ba.gd (Ia (by omega) (by omega)) (La (Mo hm) ?_))
     simp only [Zc,Yb,List.length_append,List.length_cons,List.length_nil]
     refine Ba.gd (decide_eq_true (by omega)) (.some ⟨hlt,?_⟩)
     rw [GS hlt,if_pos h];simp
    ·have h:=oF h
     refine Ba.gd (decide_eq_true (by omega)) (Ba.gd (Ia (by omega) (by omega)) (La (Mo hm) ?_))
     simp only [Zc,Yb,List.length_append,List.length_cons,List.length_nil]
     refine Ba.gd (decide_eq_true (by omega)) (.some ⟨hlt,?_⟩)
     rw [GS hlt,if_neg h];simp
   ·obtain rfl:k=l.length:=by omega
    simp only [YI,Ta]
    rw [List.take_length]
    exact Ba.no (dF (by omega)) (.some rfl)
  ·rintro _ rfl
   exact .some rfl
theorem G6 (net:List Pk) (k:Nat):Oi net (k+1)=Oi net k++Ad (itoa k) [(Ob net k).t,(Ob net k).p.o,(Ob net k).p.s]:=by
  unfold Oi
  rw [List.range_succ,List.flatMap_append]
  simp
theorem lK {x a b c:Int} (hx:NR x) (ha:NR a) (hb:NR b) (hc:NR c):(Ad (itoa x) [a,b,c]).length≤88:=by
  have h0:=Pi hx
  have h1:=Cl (l:=[a,b,c]) (by simp [ha,hb,hc])
  unfold Ad
  simp only [List.length_append,List.length_cons,List.length_nil] at h1 ⊢
  omega
theorem HS {net:List Pk} (hr:∀i,i<net.length→NR (Ob net i).t∧NR (Ob net i).p.o∧NR (Ob net i).p.s) (hl:net.length≤1000):∀k,k≤net.length→(Oi net k).length≤88*k
  |0,_=>by simp [Oi]
  |k+1,hk=>by
   have h1:=HS hr hl k (by omega)
   obtain ⟨a,b,c⟩:=hr k (by omega)
   have h2:=lK (x:=(k:Int)) (by unfold NR;omega) a b c
   rw [G6,List.length_append]
   omega
theorem H6 {w:Wd} (h:WV w Nb):∀i,i<w.net.length→NR (Ob w.net i).t∧NR (Ob w.net i).p.o∧NR (Ob w.net i).p.s:=fun i hi=>by
  have hm:=Eo hi
  have h1:=h.tgt _ hm
  have h8:=h.nn
  have hp:=h.poss _ (.inr ⟨_,hm,rfl⟩)
  have hv:=hp.1
  have hlt:=hp.2.1
  have hs:=hp.2.2.1
  have h0:=hv.1
  have hsq:=h.sq
  have:=h.rng (Ob w.net i).p.o.toNat (by omega)
  have:=hv.2.2.1
  unfold NR
  refine ⟨by omega,by omega,by omega⟩
theorem yBz {w:Wd} (h:WV w Nb):Ba (lp OA Ea (bs [],(w.net.length:Int),(0:Int),w.n,w.ls,w.up,w.sq,w.db,w.net,())) fun r=>match r with| .inl x=>x=(bs (Oi w.net w.net.length),w.n,w.ls,w.up,w.sq,w.db,w.net,())| .inr _=>False:=by
  have hl:=h.net
  have hr:=H6 h
  refine Ba.count w.net.length (fun k s=>s=(bs (Oi w.net k),(w.net.length:Int),(k:Int),w.n,w.ls,w.up,w.sq,w.db,w.net,())) ?_ (Nat.zero_le _) (Jb (by omega)) (by simp [Oi])
  rintro k s hk rfl
  by_cases hlt:k<w.net.length
  ·obtain ⟨a,b,c⟩:=hr k hlt
   have hkr:NR (k:Int):=by unfold NR;omega
   have h2:=lK hkr a b c
   have h3:=HS hr (by omega) k (by omega)
   have h4:=Pi hkr
   simp (disch:=omega) only [OA,UQ,Wp,Wa,Na]
   refine Ba.gd (decide_eq_true (by omega)) (Ba.gd (Ia (by omega) (by omega)) (Ba.bnd (R:=fun r=>r=.inl (bs (Oi w.net (k+1)),(w.net.length:Int),(k:Int),w.n,w.ls,w.up,w.sq,w.db,w.net,())) (La (BS hkr) (La (JK (by omega) (by simp) (by simp [a,b,c])) ?_)) ?_))
   ·simp only [Zc,Yb]
    refine Ba.gd (decide_eq_true (by omega)) (.some ?_)
    rw [G6]
   ·rintro _ rfl
    refine .some ⟨hlt,?_⟩
    dsimp only
    rw [Na (by omega) (by omega)];rfl
  ·obtain rfl:k=w.net.length:=by omega
   simp only [OA]
   exact Ba.no (dF (by omega)) (.some rfl)
theorem zFI {w:Wd} (h:WV w Nb):PQ (w.n,w.ls,w.up,w.sq,w.db,w.net,())=some (bs (Oi w.net w.net.length),()):=by
  have hl:=h.net
  have hr:=H6 h
  unfold PQ
  refine Ba.out (Ba.bnd (R:=fun r=>r=.inl (bs (Oi w.net w.net.length),())) ?_ ?_)
  ·refine Ba.count w.net.length (fun k s=>s=(bs (Oi w.net k),(k:Int),w.n,w.ls,w.up,w.sq,w.db,w.net,())) ?_ (Nat.zero_le _) (Jb (by omega)) (by simp [Oi])
   rintro k s hk rfl
   by_cases hlt:k<w.net.length
   ·obtain ⟨a,b,c⟩:=hr k hlt
    have hkr:NR (k:Int):=by unfold NR;omega
    have h3:=HS hr (by omega) k (by omega)
    have h4:=Pi hkr
    have h5:=Pi a
    have h6:=Pi b
    have h7:=Pi c
    simp (disch:=omega) only [ZI,Wp,Wa,Na,Ta]
    refine Ba.gd (decide_eq_true (by omega)) (Ba.gd (Ia (by omega) (by omega)) (Ba.gd (Ia (by omega) (by omega)) (Ba.gd (Ia (by omega) (by omega)) (La (Mo hkr) ?_))))
    simp only [Zc,Yb,List.length_append,List.length_cons,List.length_nil]
    refine Ba.gd (decide_eq_true (by omega)) (Ba.gd (decide_eq_true (by omega)) (La (Mo a) ?_))
    simp only [Zc,Yb,List.length_append,List.length_cons,List.length_nil]
    refine Ba.gd (decide_eq_true (by omega)) (Ba.gd (decide_eq_true (by omega)) (La (Mo b) ?_))
    simp only [Zc,Yb,List.length_append,List.length_cons,List.length_nil]
    refine Ba.gd (decide_eq_true (by omega)) (Ba.gd (decide_eq_true (by omega)) (La (Mo c) ?_))
    simp only [Zc,Yb,List.length_append,List.length_cons,List.length_nil]
    refine Ba.gd (decide_eq_true (by omega)) (Ba.gd (decide_eq_true (by omega)) (.some ⟨hlt,?_⟩))
    rw [G6];simp [Ad,blk]
   ·obtain rfl:k=w.net.length:=by omega
    simp only [ZI,Ta]
    exact Ba.no (dF (by omega)) (.some rfl)
  ·rintro _ rfl
   exact .some rfl
end
end Go.Proofs.YtjffopopheiinaaGreatDoor
