/- Part 7 of the proof: Pu8 Pu9 PuA PuB PuC PuD PuE PuF PuG. -/
import Derived.KernelRfl
import Derived.Test.YtjffopopheiinaaGreatDoorQj6
set_option linter.unusedSimpArgs false
set_option linter.unusedVariables false
set_option maxRecDepth 100000
namespace Go.Proofs.YtjffopopheiinaaGreatDoor
section
open Go.RowKit
def Yh (N:Nat) (ls:List Lk) (k:Nat) (p:List Int) (a:Nat):Nat→Nat
  |0=>0
  |j+1=>if a<j+1∧RK N ls k (iz p a).toNat (iz p (j+1)).toNat=false then Yh N ls k p a j else j+1
theorem OS (N:Nat) (ls:List Lk) (k:Nat) (p:List Int) (a:Nat):∀j,Yh N ls k p a j≤j
  |0=>Nat.le_refl _
  |j+1=>by
   unfold Yh
   split
   ·exact Nat.le_succ_of_le (OS N ls k p a j)
   ·exact Nat.le_refl _
def Al (N:Nat) (ls:List Lk) (k:Nat) (p:List Int):Nat→Nat→List Lb→List Lb
  |0,_,acc=>acc
  |m+1,a,acc=>if a<p.length-1 then (if a<Yh N ls k p a (p.length-1) then Al N ls k p m (Yh N ls k p a (p.length-1)) (acc++[⟨1,iz p (Yh N ls k p a (p.length-1))⟩]) else Al N ls k p m (a+1) (acc++[⟨2,Bc ls (iz p a) (iz p (a+1))⟩])) else acc
def Zj (n:Int) (ls:List Lk) (a k b:Int):List Lb×Bool:=if Xh n ls a k b=[] then ([],false) else (Al n.toNat ls k.toNat (Xh n ls a k b) (Xh n ls a k b).length 0 [],true)
theorem C7 (n:Int) (ls:List Lk) (a k b:Int):Xh n ls a k b=[]∨∃N k':Nat,n=N∧k=k'∧GV N ls∧k'<ls.length∧(Xh n ls a k b).length≤5101∧∀x∈Xh n ls a k b,∃j:Nat,x=j∧j<N:=by
  unfold Xh
  by_cases h:(gv n ls&&Db k 0 ((ls.length:Int)-1))=true
  ·rw [if_pos h]
   simp only [Bool.and_eq_true] at h
   have h2:=De h.2
   obtain ⟨k',rfl⟩:=Int.eq_ofNat_of_zero_le h2.1
   obtain ⟨N,rfl,g⟩:=Zn h.1
   refine .inr ⟨N,k',rfl,rfl,g,by omega,lU _ _ _ _,?_⟩
   intro x hx
   cases h3:gv (N:Int) (ls.eraseIdx (Int.toNat (k':Int)))&&(Db a 0 ((N:Int)-1)&&Db b 0 ((N:Int)-1)) with
   |false=>rw [PK h3] at hx;simp at hx
   |true =>
    obtain ⟨N',f,t,e,rfl,rfl,_,hf,ht,e2⟩:=OK h3
    have:N=N':=by omega
    subst this
    rw [e2] at hx
    exact lS hf x hx
  ·rw [if_neg h];exact .inl rfl
section
variable {N:Nat} {ls:List Lk} {k:Nat} {p:List Int}
theorem yBG (g:GV N ls) (hk:k<ls.length) (hp:∀x∈p,∃j:Nat,x=j∧j<N) (hl:p.length≤5101) {a:Nat} (ha:a<p.length) (acc:List Lb) (la:Int):∀j m,j<p.length→a≤j→j<m→Aa (lp Nu m ((k:Int),la,(a:Int),(j:Int),(N:Int),ls,p,acc,())) fun r=>match r with| .inl x=>x=((k:Int),la,(a:Int),((Yh N ls k p a j:Nat):Int),(N:Int),ls,p,acc,())| .inr _=>False:=by
  obtain ⟨f,ef,hf⟩:=hp _ (List.mem_of_getElem? (Xg ha))
  intro j
  induction j with
  |zero =>
   intro m _ h0 hm
   obtain ⟨m,rfl⟩:∃m',m=m'+1:=⟨m-1,by omega⟩
   refine Gh ?_
   unfold Nu
   exact Aa.no (dF (by dsimp only;omega)) (.some rfl)
  |succ j ih =>
   intro m hj hal hm
   obtain ⟨m,rfl⟩:∃m',m=m'+1:=⟨m-1,by omega⟩
   refine Gh ?_
   have ih:=ih m
   generalize lp Nu m=F at ih ⊢
   unfold Nu Yh
   obtain ⟨t,et,ht⟩:=hp _ (List.mem_of_getElem? (Xg hj))
   by_cases e:a<j+1
   ·simp only [Uc,Ua,ef,et]
    refine Aa.gd (decide_eq_true (by omega)) (Aa.gd (Ia (by omega) (by omega)) (Aa.gd (Ia (by omega) (by omega)) (Ka (zE9 g hf ht hk) (Aa.ite (fun h=>?_) (fun h=>?_)))))
    ·rw [if_pos ⟨e,by simpa using h⟩]
     refine .some ?_
     try dsimp only
     rw [Ma (by omega) (by omega)]
     have e1:((j+1:Nat):Int)-1=(j:Nat):=by omega
     rw [e1]
     exact ih (by omega) (by omega) (by omega)
    ·rw [if_neg (by rintro ⟨_,h2⟩;rw [h2] at h;cases h)]
     exact .some rfl
   ·rw [if_neg (by omega)]
    exact Aa.no (dF (by dsimp only;omega)) (.some rfl)
theorem yBH (g:GV N ls) (hk:k<ls.length) (hp:∀x∈p,∃j:Nat,x=j∧j<N) (hl:p.length≤5101) {a:Nat} (ha:a<p.length) (acc:List Lb):∀j m,j<p.length→a≤j→j<m→Aa (lp Ou m ((k:Int),(a:Int),(j:Int),(N:Int),ls,acc,p,())) fun r=>match r with| .inl x=>x=((k:Int),(a:Int),((Yh N ls k p a j:Nat):Int),(N:Int),ls,acc,p,())| .inr _=>False:=by
  obtain ⟨f,ef,hf⟩:=hp _ (List.mem_of_getElem? (Xg ha))
  intro j
  induction j with
  |zero =>
   intro m _ h0 hm
   obtain ⟨m,rfl⟩:∃m',m=m'+1:=⟨m-1,by omega⟩
   refine Gh ?_
   unfold Ou
   exact Aa.no (dF (by dsimp only;omega)) (.some rfl)
  |succ j ih =>
   intro m hj hal hm
   obtain ⟨m,rfl⟩:∃m',m=m'+1:=⟨m-1,by omega⟩
   refine Gh ?_
   have ih:=ih m
   generalize lp Ou m=F at ih ⊢
   unfold Ou Yh
   obtain ⟨t,et,ht⟩:=hp _ (List.mem_of_getElem? (Xg hj))
   by_cases e:a<j+1
   ·simp only [Uc,Ua,ef,et]
    refine Aa.gd (decide_eq_true (by omega)) (Aa.gd (Ia (by omega) (by omega)) (Aa.gd (Ia (by omega) (by omega)) (Ka (zFo g hf ht hk) (Aa.ite (fun h=>?_) (fun h=>?_)))))
    ·rw [if_pos ⟨e,by simpa using h⟩]
     refine .some ?_
     try dsimp only
     rw [Ma (by omega) (by omega)]
     have e1:((j+1:Nat):Int)-1=(j:Nat):=by omega
     rw [e1]
     exact ih (by omega) (by omega) (by omega)
    ·rw [if_neg (by rintro ⟨_,h2⟩;rw [h2] at h;cases h)]
     exact .some rfl
   ·rw [if_neg (by omega)]
    exact Aa.no (dF (by dsimp only;omega)) (.some rfl)
theorem yBI (hp:∀x∈p,∃j:Nat,x=j∧j<N) (hl:p.length≤5101) (fl:Cb ls) {a:Nat} {acc:List Lb} (ha:a+1<p.length) (hc:acc.length≤a) (la:Int):HH ((k:Int),la,(a:Int),(N:Int),ls,p,acc,())=some (Sum.inl ((k:Int),la,((a+1:Nat):Int),(N:Int),ls,p,acc++[⟨2,Bc ls (iz p a) (iz p (a+1))⟩],())):=by
  have e3:wrap64 ((a:Int)+1)=((a+1:Nat):Int):=by rw [Ma (by omega) (by omega)];rfl
  unfold HH
  simp only [Uc,Ua,e3,J5 _ _ _ _ fl,Option.bind_some]
  exact Aa.out (Aa.gd (Ia (by omega) (by omega)) (Aa.gd (Ia (by omega) (by omega)) (Aa.gd (decide_eq_true (by simp only [List.length_singleton];omega)) (.some rfl))))
theorem yBJ (g:GV N ls) (hk:k<ls.length) (hp:∀x∈p,∃j:Nat,x=j∧j<N) (hl:p.length≤5101) (h0:0<p.length):∀m a acc M,a<p.length→acc.length≤a→p.length-1-a<m→m≤M→Aa (lp Mz M ((k:Int),((p.length-1:Nat):Int),(a:Int),(N:Int),ls,p,acc,())) fun r=>match r with| .inl x=>x=(Al N ls k p m a acc,())| .inr _=>False:=by
  have fl:Cb ls:=(by have:=g.2.2.1;unfold Cb;omega)
  intro m
  induction m with
  |zero=>intro a acc M _ _ h;omega
  |succ m ih =>
   intro a acc M ha hc hm hM
   obtain ⟨M,rfl⟩:∃M',M=M'+1:=⟨M-1,by omega⟩
   refine Gh ?_
   have ih:=fun a acc=>ih a acc M
   generalize lp Mz M=F at ih ⊢
   unfold Mz Al
   by_cases e:a<p.length-1
   ·rw [if_pos e]
    refine Aa.gd (decide_eq_true (by dsimp only;omega)) (Aa.bnd (yBG g hk hp hl ha acc _ (p.length-1) Ea (by omega) (by omega) (Ib (by omega))) ?_)
    rintro (x|x) hx
    case inr=>exact hx.elim
    dsimp only at hx
    subst hx
    have hfl:=OS N ls k p a (p.length-1)
    generalize Yh N ls k p a (p.length-1)=j at *
    try dsimp only
    by_cases e2:a<j
    ·rw [if_pos e2]
     simp only [Uc,Ua]
     refine Aa.gd (decide_eq_true (by omega)) (Aa.gd (Ia (by omega) (by omega)) (Aa.gd (decide_eq_true (by simp only [List.length_singleton];omega)) (.some ?_)))
     exact ih j _ (by omega) (by simp only [List.length_append,List.length_singleton];omega) (by omega) (by omega)
    ·rw [if_neg e2]
     refine Aa.no (dF (by omega)) ?_
     refine Ka (yBI hp hl fl (by omega) (by omega) _) ?_
     refine .some ?_
     exact ih (a+1) _ (by omega) (by simp only [List.length_append,List.length_singleton];omega) (by omega) (by omega)
   ·rw [if_neg e]
    exact Aa.no (dF (by dsimp only;omega)) (.some rfl)
theorem yBK (g:GV N ls) (hk:k<ls.length) (hp:∀x∈p,∃j:Nat,x=j∧j<N) (hl:p.length≤5101) (h0:0<p.length):∀m a acc M,a<p.length→acc.length≤a→p.length-1-a<m→m≤M→Aa (lp Nz M ((k:Int),(a:Int),(N:Int),ls,acc,p,())) fun r=>match r with| .inl x=>x=(Al N ls k p m a acc,())| .inr _=>False:=by
  have fl:Cb ls:=(by have:=g.2.2.1;unfold Cb;omega)
  intro m
  induction m with
  |zero=>intro a acc M _ _ h;omega
  |succ m ih =>
   intro a acc M ha hc hm hM
   obtain ⟨M,rfl⟩:∃M',M=M'+1:=⟨M-1,by omega⟩
   refine Gh ?_
   have e3:wrap64 ((a:Int)+1)=((a+1:Nat):Int):=by rw [Ma (by omega) (by omega)];rfl
   have e4:wrap64 ((p.length:Int)-1)=((p.length-1:Nat):Int):=by rw [Ma (by omega) (by omega)];omega
   have ih:=fun a acc=>ih a acc M
   generalize lp Nz M=F at ih ⊢
   unfold Nz Al
   simp only [Ta,e3,e4]
   by_cases e:a<p.length-1
   ·rw [if_pos e]
    refine Aa.gd (decide_eq_true (by omega)) (Aa.bnd (yBH g hk hp hl ha acc (p.length-1) Ea (by omega) (by omega) (Ib (by omega))) ?_)
    rintro (x|x) hx
    case inr=>exact hx.elim
    dsimp only at hx
    subst hx
    have hfl:=OS N ls k p a (p.length-1)
    generalize Yh N ls k p a (p.length-1)=j at *
    try dsimp only
    by_cases e2:a<j
    ·rw [if_pos e2]
     simp only [Uc,Ua]
     refine Aa.gd (decide_eq_true (by omega)) (Aa.gd (Ia (by omega) (by omega)) (Aa.gd (decide_eq_true (by simp only [List.length_singleton];omega)) (.some ?_)))
     exact ih j _ (by omega) (by simp only [List.length_append,List.length_singleton];omega) (by omega) (by omega)
    ·rw [if_neg e2]
     simp only [Uc,Ua,e3]
     refine Aa.no (dF (by omega)) (Aa.gd (Ia (by omega) (by omega)) (Aa.gd (Ia (by omega) (by omega)) (Ka (QJ _ _ _ _ fl) (Aa.gd (decide_eq_true (by simp only [List.length_singleton];omega)) (.some ?_)))))
     exact ih (a+1) _ (by omega) (by simp only [List.length_append,List.length_singleton];omega) (by omega) (by omega)
   ·rw [if_neg e]
    exact Aa.no (dF (by omega)) (.some rfl)
end
theorem zDW (n a k b:Int) {ls:List Lk} (fl:Cb ls):BQ (n,ls,a,k,b,())=some ((Zj n ls a k b).2,(Zj n ls a k b).1,()):=by
  unfold BQ Zj
  refine Aa.out (Ka (zDV n a k b fl) ?_)
  rcases C7 n ls a k b with h|⟨N,k',rfl,rfl,g,hk,hl,hp⟩
  ·rw [h,if_pos rfl]
   exact Aa.gd rfl (.some rfl)
  ·generalize Xh (N:Int) ls a (k':Int) b=p at *
   by_cases h0:p=[]
   ·subst h0
    rw [if_pos rfl]
    exact Aa.gd rfl (.some rfl)
   rw [if_neg h0]
   have h1:0<p.length:=List.length_pos_iff.2 h0
   have e4:wrap64 ((p.length:Int)-1)=((p.length-1:Nat):Int):=by rw [Ma (by omega) (by omega)];omega
   simp only [Ta,e4,Ua]
   refine Aa.no (dF (by omega)) (Aa.bnd (yBJ g hk hp hl h1 p.length 0 [] Ea h1 (Nat.zero_le _) (by omega) (Nat.le_of_lt (Ib (by omega)))) ?_)
   rintro (x|x) hx
   case inr=>exact hx.elim
   dsimp only at hx
   subst hx
   exact .some rfl
theorem zGf (n a k b:Int) {ls:List Lk} (fl:Cb ls):GQ (n,ls,a,k,b,())=some ((Zj n ls a k b).2,(Zj n ls a k b).1,()):=by
  unfold GQ Zj
  refine Aa.out (Ka (zGe n a k b fl) ?_)
  rcases C7 n ls a k b with h|⟨N,k',rfl,rfl,g,hk,hl,hp⟩
  ·rw [h,if_pos rfl]
   exact Aa.gd rfl (.some rfl)
  ·generalize Xh (N:Int) ls a (k':Int) b=p at *
   by_cases h0:p=[]
   ·subst h0
    rw [if_pos rfl]
    exact Aa.gd rfl (.some rfl)
   rw [if_neg h0]
   have h1:0<p.length:=List.length_pos_iff.2 h0
   simp only [Ta,Ua]
   refine Aa.no (dF (by omega)) (Aa.bnd (yBK g hk hp hl h1 p.length 0 [] Ea h1 (Nat.zero_le _) (by omega) (Nat.le_of_lt (Ib (by omega)))) ?_)
   rintro (x|x) hx
   case inr=>exact hx.elim
   dsimp only at hx
   subst hx
   exact .some rfl
theorem D7 (N:Nat) (ls:List Lk) (k:Nat) (p:List Int):∀m a acc,(Al N ls k p m a acc).length≤acc.length+m
  |0,_,_=>Nat.le_refl _
  |m+1,a,acc=>by
   unfold Al
   split
   ·split
    ·have:=D7 N ls k p m (Yh N ls k p a (p.length-1)) (acc++[⟨1,iz p (Yh N ls k p a (p.length-1))⟩])
     simp only [List.length_append,List.length_singleton] at this
     omega
    ·have:=D7 N ls k p m (a+1) (acc++[⟨2,Bc ls (iz p a) (iz p (a+1))⟩])
     simp only [List.length_append,List.length_singleton] at this
     omega
   ·omega
theorem E7 {N:Nat} {ls:List Lk} {k:Nat} {p:List Int} (hp:∀x∈p,0≤x∧x<8) (hl:ls.length≤14):∀m a acc,(∀x∈acc,-1≤x.a∧x.a<14)→∀x∈Al N ls k p m a acc,-1≤x.a∧x.a<14
  |0,_,_,h=>h
  |m+1,a,acc,h=>by
   unfold Al
   split
   ·split
    ·refine E7 hp hl m _ _ fun x hx=>?_
     rcases List.mem_append.1 hx with hx|hx
     ·exact h x hx
     ·rw [List.mem_singleton.1 hx]
      try dsimp only
      have:=hp _ (List.mem_of_getElem? (Xg (zs:=p) (i:=Yh N ls k p a (p.length-1)) (by have:=OS N ls k p a (p.length-1);omega)))
      omega
    ·refine E7 hp hl m _ _ fun x hx=>?_
     rcases List.mem_append.1 hx with hx|hx
     ·exact h x hx
     ·rw [List.mem_singleton.1 hx]
      try dsimp only
      rcases Wq ls (iz p a) (iz p (a+1)) with h|⟨j,h,h2,_⟩<;>omega
   ·exact h
theorem lX {n:Int} {ls:List Lk} {a k b:Int}:(Zj n ls a k b).1.length≤5101∧∀x∈(Zj n ls a k b).1,-1≤x.a∧x.a<14:=by
  unfold Zj
  rcases C7 n ls a k b with h|⟨N,k',rfl,rfl,g,hk,hl,hp⟩
  ·rw [if_pos h];simp
  split
  ·simp
  ·refine ⟨?_,E7 (fun x hx=>?_) g.2.2.1 _ _ _ (by simp)⟩
   ·have:=D7 N ls k' (Xh (N:Int) ls a (k':Int) b) (Xh (N:Int) ls a (k':Int) b).length 0 []
    simp only [List.length_nil,Ua] at this ⊢
    omega
   ·obtain ⟨j,rfl,hj⟩:=hp x hx
    have:=g.2.1
    omega
end
section
open Go.RowKit
open Go.Lib (itoa decDigits)
theorem lY {t:List UInt8} (c:UInt8) (ht:t.length≤1000000):MD (bs t,bs [c],())=some ((Wb c t).map bs,()):=by
  unfold MD EN
  try dsimp only
  rw [Cp,Cp,Ob]
  exact Aa.out (Aa.gd (decide_eq_true ht) (.some rfl))
theorem zF9 (n t:Int) {ls:List Lk} (fl:Cb ls):CQ (n,ls,t,())=some (Rp n ls t,()):=by
  unfold CQ Rp
  refine Aa.out (Ka (Yw n ls fl) ?_)
  cases h:gv n ls with
  |false=>exact .some rfl
  |true =>
   obtain ⟨N,rfl,g⟩:=Zn h
   have h8:=g.2.1
   refine Aa.no rfl (Ka (Qp _ _ _ (by omega) (by omega)) ?_)
   cases ht:Db t 0 ((N:Int)-1) with
   |false=>exact .some rfl
   |true =>
    have ht:=De ht
    obtain ⟨T,rfl⟩:=Int.eq_ofNat_of_zero_le ht.1
    exact Aa.no rfl (Ka (RJ g (by omega)) (.some rfl))
theorem SK (n t:Int) (ls:List Lk):(Rp n ls t).length≤8∧∀x∈Rp n ls t,NR x:=by
  unfold Rp
  cases h:gv n ls&&Db t 0 (n-1) with
  |false=>simp
  |true =>
   simp only [Bool.and_eq_true] at h
   obtain ⟨N,rfl,g⟩:=Zn h.1
   have h8:=g.2.1
   have hl:=Nl N ls t.toNat
   rw [if_pos rfl]
   refine ⟨by simp only [Ua];omega,fun x hx=>?_⟩
   obtain ⟨i,hi,rfl⟩:=List.mem_iff_getElem.1 hx
   have:=Dm g t.toNat i
   have e:=mM (List.getElem?_eq_getElem hi)
   simp only [Ua] at e this ⊢
   rw [e] at this
   unfold NR
   omega
section
variable {w:Wd}
theorem lZ (h:WV w Pb) (a:Int):OI (w.n,w.ls,w.up,w.sq,w.db,w.net,a,())=some ((Ge w a).1,(Ge w a).2,()):=by
  have h8:=h.nn
  have hdb:=h.db
  unfold OI Ge
  try dsimp only
  rw [Ma (by omega) (by omega)]
  refine Aa.out (Ka (Bm _ _ _) ?_)
  cases hb:Db a 0 (w.n-1) with
  |false=>exact .some rfl
  |true =>
   have hb:=De hb
   obtain ⟨k,rfl⟩:=Int.eq_ofNat_of_zero_le hb.1
   exact Aa.no rfl (Ka (yA2 h (by omega)) (.some rfl))
theorem mA (h:WV w Pb) (a:Int):Hz (w.n,w.ls,w.up,w.sq,w.db,w.net,a,())=some ((Ge w a).1,(Ge w a).2,()):=by
  rw [zGk h.sm a]
  have e:Yj w a=Ge w a:=by unfold Yj Ge;rw [Bx.2 h,Bool.true_and]
  rw [e]
theorem PS (h:WV w Pb) (a:Int):Cb (Ge w a).2:=by
  have e:Yj w a=Ge w a:=by unfold Yj Ge;rw [Bx.2 h,Bool.true_and]
  rw [←e];exact yA5 w a
end
def KB (l:List Lb) (i:Nat):Lb:=l.getD i ⟨0,0⟩
theorem mB (es:List Lb) (i:Nat):Ba .lb es i=KB es i:=by
  induction es generalizing i with
  |nil=>rfl
  |cons z r ih=>cases i with
   |zero=>rfl
   |succ i=>exact (ih i).trans (by simp [KB])
theorem F7 {l:List Lb} {i:Nat} (h:i<l.length):l[i]? =some (KB l i):=by simp [KB,List.getD,h]
theorem QS {l:List Lb} {k:Nat} (h:k<l.length):Hh (l.take (k+1))=Hh (l.take k)++(32::(if (KB l k).k=1 then 110 else 108)::itoa (KB l k).a):=by
  rw [List.take_add_one,F7 h]
  simp [Hh]
theorem TK {l:List Lb} (h:∀x∈l,NR x.a):(Hh l).length≤23*l.length:=by
  induction l with
  |nil=>simp [Hh]
  |cons a r ih =>
   have h1:=Mi (h a (List.mem_cons_self ..))
   have h2:=ih fun n hn=>h n (List.mem_cons_of_mem _ hn)
   have e:Hh (a::r)=(32::(if a.k=1 then 110 else 108)::itoa a.a)++Hh r:=by simp [Hh]
   rw [e,List.length_append,List.length_cons,List.length_cons,List.length_cons]
   omega
theorem zHB {l:List Lb} (hl:l.length≤10000) (hr:∀x∈l,NR x.a) (w:Wd):Aa (lp MA Ea (bs Cj,(l.length:Int),(0:Int),w.n,w.ls,w.up,w.sq,w.db,l,w.net,())) fun r=>match r with| .inl x=>x=(bs (Cj++Hh l),w.n,w.ls,w.up,w.sq,w.db,w.net,())| .inr _=>False:=by
  refine Aa.count l.length (fun k s=>s=(bs (Cj++Hh (l.take k)),(l.length:Int),(k:Int),w.n,w.ls,w.up,w.sq,w.db,l,w.net,())) ?_ (Nat.zero_le _) (Ib (by omega)) (by simp [Hh])
  rintro k s hk rfl
  have h6:Cj.length=6:=rfl
  by_cases hlt:k<l.length
  ·have hm:=hr _ (List.mem_of_getElem? (F7 hlt))
   have h1:=Mi hm
   have h2:=TK (l:=l.take k) fun x hx=>hr x (List.mem_of_mem_take hx)
   have h3:(l.take k).length≤k:=List.length_take_le _ _
   simp (disch:=omega) only [MA,mB,Ua,Ma]
   refine Aa.gd (decide_eq_true (by omega)) (Aa.gd (Ia (by omega) (by omega)) (Aa.ite (fun h=>?_) (fun h=>?_)))
   ·have h:=oT h
    refine Ka (LS hm) ?_
    simp only [Tc,Ob,List.length_append,List.length_cons,List.length_nil]
    refine Aa.gd (decide_eq_true (by omega)) (Aa.gd (decide_eq_true (by omega)) (.some ⟨hlt,?_⟩))
    rw [QS hlt,if_pos h];simp
   ·have h:=oF h
    refine Ka (LS hm) ?_
    simp only [Tc,Ob,List.length_append,List.length_cons,List.length_nil]
    refine Aa.gd (decide_eq_true (by omega)) (Aa.gd (decide_eq_true (by omega)) (.some ⟨hlt,?_⟩))
    rw [QS hlt,if_neg h];simp
  ·obtain rfl:k=l.length:=by omega
   simp only [MA]
   rw [List.take_length]
   exact Aa.no (dF (by omega)) (.some rfl)
theorem zFP {l:List Lb} (hl:l.length≤10000) (hr:∀x∈l,NR x.a):UQ (l,())=some (bs (Hh l),()):=by
  unfold UQ
  refine Aa.out (Aa.bnd (R:=fun r=>r=.inl (bs (Hh l),())) ?_ ?_)
  ·refine Aa.count l.length (fun k s=>s=(l,bs (Hh (l.take k)),(k:Int),())) ?_ (Nat.zero_le _) (Ib (by omega)) (by simp [Hh])
   rintro k s hk rfl
   by_cases hlt:k<l.length
   ·have hm:=hr _ (List.mem_of_getElem? (F7 hlt))
    have h1:=Mi hm
    have h2:=TK (l:=l.take k) fun x hx=>hr x (List.mem_of_mem_take hx)
    have h3:(l.take k).length≤k:=List.length_take_le _ _
    simp (disch:=omega) only [VI,mB,Ua,Ma,Ta,Tc,Ob,List.length_append,List.length_cons,List.length_nil]
    refine Aa.gd (decide_eq_true (by omega)) (Aa.gd (Ia (by omega) (by omega)) (Aa.ite (fun h=>?_) (fun h=>?_)))
    ·have h:=oT h
     refine Aa.gd (decide_eq_true (by omega)) (Aa.gd (Ia (by omega) (by omega)) (Ka (Fo hm) ?_))
     simp only [Tc,Ob,List.length_append,List.length_cons,List.length_nil]
     refine Aa.gd (decide_eq_true (by omega)) (.some ⟨hlt,?_⟩)
     rw [QS hlt,if_pos h];simp
    ·have h:=oF h
     refine Aa.gd (decide_eq_true (by omega)) (Aa.gd (Ia (by omega) (by omega)) (Ka (Fo hm) ?_))
     simp only [Tc,Ob,List.length_append,List.length_cons,List.length_nil]
     refine Aa.gd (decide_eq_true (by omega)) (.some ⟨hlt,?_⟩)
     rw [QS hlt,if_neg h];simp
   ·obtain rfl:k=l.length:=by omega
    simp only [VI,Ta]
    rw [List.take_length]
    exact Aa.no (dF (by omega)) (.some rfl)
  ·rintro _ rfl
   exact .some rfl
theorem G7 (net:List Pk) (k:Nat):Wh net (k+1)=Wh net k++listT (itoa k) [(Qb net k).t,(Qb net k).p.o,(Qb net k).p.s]:=by
  unfold Wh
  rw [List.range_succ,List.flatMap_append]
  simp
theorem mC {x a b c:Int} (hx:NR x) (ha:NR a) (hb:NR b) (hc:NR c):(listT (itoa x) [a,b,c]).length≤88:=by
  have h0:=Mi hx
  have h1:=Zk (l:=[a,b,c]) (by simp [ha,hb,hc])
  unfold listT
  simp only [List.length_append,List.length_cons,List.length_nil] at h1 ⊢
  omega
theorem SS {net:List Pk} (hr:∀i,i<net.length→NR (Qb net i).t∧NR (Qb net i).p.o∧NR (Qb net i).p.s) (hl:net.length≤1000):∀k,k≤net.length→(Wh net k).length≤88*k
  |0,_=>by simp [Wh]
  |k+1,hk=>by
   have h1:=SS hr hl k (by omega)
   obtain ⟨a,b,c⟩:=hr k (by omega)
   have h2:=mC (x:=(k:Int)) (by unfold NR;omega) a b c
   rw [G7,List.length_append]
   omega
theorem H7 {w:Wd} (h:WV w Pb):∀i,i<w.net.length→NR (Qb w.net i).t∧NR (Qb w.net i).p.o∧NR (Qb w.net i).p.s:=fun i hi=>by
  have hm:=Co hi
  have h1:=h.tgt _ hm
  have h8:=h.nn
  have hp:=h.poss _ (.inr ⟨_,hm,rfl⟩)
  have hv:=hp.1
  have hlt:=hp.2.1
  have hs:=hp.2.2.1
  have h0:=hv.1
  have hsq:=h.sq
  have:=h.rng (Qb w.net i).p.o.toNat (by omega)
  have:=hv.2.2.1
  unfold NR
  refine ⟨by omega,by omega,by omega⟩
theorem yBL {w:Wd} (h:WV w Pb):Aa (lp NA Ea (bs [],(w.net.length:Int),(0:Int),w.n,w.ls,w.up,w.sq,w.db,w.net,())) fun r=>match r with| .inl x=>x=(bs (Wh w.net w.net.length),w.n,w.ls,w.up,w.sq,w.db,w.net,())| .inr _=>False:=by
  have hl:=h.net
  have hr:=H7 h
  refine Aa.count w.net.length (fun k s=>s=(bs (Wh w.net k),(w.net.length:Int),(k:Int),w.n,w.ls,w.up,w.sq,w.db,w.net,())) ?_ (Nat.zero_le _) (Ib (by omega)) (by simp [Wh])
  rintro k s hk rfl
  by_cases hlt:k<w.net.length
  ·obtain ⟨a,b,c⟩:=hr k hlt
   have hkr:NR (k:Int):=by unfold NR;omega
   have h2:=mC hkr a b c
   have h3:=SS hr (by omega) k (by omega)
   have h4:=Mi hkr
   simp (disch:=omega) only [NA,AR,Tp,Ua,Ma]
   refine Aa.gd (decide_eq_true (by omega)) (Aa.gd (Ia (by omega) (by omega)) (Aa.bnd (R:=fun r=>r=.inl (bs (Wh w.net (k+1)),(w.net.length:Int),(k:Int),w.n,w.ls,w.up,w.sq,w.db,w.net,())) (Ka (LS hkr) (Ka (NK (by omega) (by simp) (by simp [a,b,c])) ?_)) ?_))
   ·simp only [Tc,Ob]
    refine Aa.gd (decide_eq_true (by omega)) (.some ?_)
    rw [G7]
   ·rintro _ rfl
    refine .some ⟨hlt,?_⟩
    try dsimp only
    rw [Ma (by omega) (by omega)];rfl
  ·obtain rfl:k=w.net.length:=by omega
   simp only [NA]
   exact Aa.no (dF (by omega)) (.some rfl)
theorem zFN {w:Wd} (h:WV w Pb):VQ (w.n,w.ls,w.up,w.sq,w.db,w.net,())=some (bs (Wh w.net w.net.length),()):=by
  have hl:=h.net
  have hr:=H7 h
  unfold VQ
  refine Aa.out (Aa.bnd (R:=fun r=>r=.inl (bs (Wh w.net w.net.length),())) ?_ ?_)
  ·refine Aa.count w.net.length (fun k s=>s=(bs (Wh w.net k),(k:Int),w.n,w.ls,w.up,w.sq,w.db,w.net,())) ?_ (Nat.zero_le _) (Ib (by omega)) (by simp [Wh])
   rintro k s hk rfl
   by_cases hlt:k<w.net.length
   ·obtain ⟨a,b,c⟩:=hr k hlt
    have hkr:NR (k:Int):=by unfold NR;omega
    have h3:=SS hr (by omega) k (by omega)
    have h4:=Mi hkr
    have h5:=Mi a
    have h6:=Mi b
    have h7:=Mi c
    simp (disch:=omega) only [WI,Tp,Ua,Ma,Ta]
    refine Aa.gd (decide_eq_true (by omega)) (Aa.gd (Ia (by omega) (by omega)) (Aa.gd (Ia (by omega) (by omega)) (Aa.gd (Ia (by omega) (by omega)) (Ka (Fo hkr) ?_))))
    simp only [Tc,Ob,List.length_append,List.length_cons,List.length_nil]
    refine Aa.gd (decide_eq_true (by omega)) (Aa.gd (decide_eq_true (by omega)) (Ka (Fo a) ?_))
    simp only [Tc,Ob,List.length_append,List.length_cons,List.length_nil]
    refine Aa.gd (decide_eq_true (by omega)) (Aa.gd (decide_eq_true (by omega)) (Ka (Fo b) ?_))
    simp only [Tc,Ob,List.length_append,List.length_cons,List.length_nil]
    refine Aa.gd (decide_eq_true (by omega)) (Aa.gd (decide_eq_true (by omega)) (Ka (Fo c) ?_))
    simp only [Tc,Ob,List.length_append,List.length_cons,List.length_nil]
    refine Aa.gd (decide_eq_true (by omega)) (Aa.gd (decide_eq_true (by omega)) (.some ⟨hlt,?_⟩))
    rw [G7];simp [listT,blk]
   ·obtain rfl:k=w.net.length:=by omega
    simp only [WI,Ta]
    exact Aa.no (dF (by omega)) (.some rfl)
  ·rintro _ rfl
   exact .some rfl
end
section
open Go.RowKit
open Go.Lib (itoa decDigits)
theorem mD {db:List Ls} {j:Nat} (h:j<db.length):(db.take (j+1)).map (·.s)=(db.take j).map (·.s)++[(Jb db j).s]:=by
  rw [←TR h,List.map_append]
  rfl
theorem TS {db:List Ls} (h:Jd db):∀x∈db.map (·.s),NR x:=fun x hx=>by
  obtain ⟨l,hl,rfl⟩:=List.mem_map.1 hx
  have:=(Ao.1 h).1 l hl
  have:=this.2.2
  unfold NR
  omega
theorem I7 {db:List Ls} (h:Jd db) {k:Nat} (hk:k<1000):(listT Em ((k:Int)::db.map (·.s))).length≤300:=by
  have h1:=Zk (l:=(k:Int)::db.map (·.s)) (by
    intro x hx
    rcases List.mem_cons.1 hx with rfl|hx
    ·unfold NR;omega
    ·exact TS h x hx)
  have h2:=h.len
  have h4:Em.length=4:=rfl
  rw [List.length_cons,List.length_map] at h1
  unfold listT
  rw [List.length_append,List.length_append,List.length_singleton]
  omega
theorem US {db:List (List Ls)} (h:∀i,i<db.length→Jd (Qa db i)) (hl:db.length≤8):∀k,k≤db.length→(He db k).length≤300*k
  |0,_=>by simp [He]
  |k+1,hk=>by
   have h1:=US h hl k (by omega)
   have h2:=I7 (h k (by omega)) (k:=k) (by omega)
   rw [MK,List.length_append]
   omega
theorem yBM {out:ByteArray} {db:List (List Ls)} {d:List Ls} (hd:d.length≤8) (k dl:Int):Aa (lp PA Ea (out,dl,k,d,(d.length:Int),(0:Int),[k],db,())) fun r=>match r with| .inl x=>x=(out,dl,k,k::d.map (·.s),db,())| .inr _=>False:=by
  refine Aa.count d.length (fun j s=>s=(out,dl,k,d,(d.length:Int),(j:Int),k::(d.take j).map (·.s),db,())) ?_ (Nat.zero_le _) (Ib (by omega)) (by simp)
  rintro j s hj rfl
  by_cases hlt:j<d.length
  ·have h3:(d.take j).length≤j:=List.length_take_le _ _
   simp (disch:=omega) only [PA,Sg,Ua,Ma,List.length_cons,List.length_map,List.length_nil]
   refine Aa.gd (decide_eq_true (by omega)) (Aa.gd (Ia (by omega) (by omega)) (Aa.gd (decide_eq_true (by omega)) (.some ⟨hlt,?_⟩)))
   rw [mD hlt];rfl
  ·obtain rfl:j=d.length:=by omega
   simp only [PA]
   rw [List.take_length]
   exact Aa.no (dF (by omega)) (.some rfl)
theorem yBN {db:List (List Ls)} (h:∀i,i<db.length→Jd (Qa db i)) (hl:db.length≤8) {o:List UInt8} (ho:o.length≤4000000000000000000):Aa (lp QA Ea (bs o,(db.length:Int),(0:Int),db,())) fun r=>match r with| .inl x=>x=(bs (o++He db db.length),())| .inr _=>False:=by
  refine Aa.count db.length (fun k s=>s=(bs (o++He db k),(db.length:Int),(k:Int),db,())) ?_ (Nat.zero_le _) (Ib (by omega)) (by simp [He])
  rintro k s hk rfl
  by_cases hlt:k<db.length
  ·have hd:=h k hlt
   have h8:=hd.len
   have h2:=I7 hd (k:=k) (by omega)
   have h3:=US h hl k (by omega)
   have h4:Em.length=4:=rfl
   simp (disch:=omega) only [QA,Vg,Ua,Ma,Ta]
   refine Aa.gd (decide_eq_true (by omega)) (Aa.gd (Ia (by omega) (by omega)) (Aa.bnd (yBM (db:=db) h8 (k:Int) (db.length:Int)) ?_))
   rintro (x|x) hx
   case inr=>exact hx.elim
   dsimp only at hx
   subst hx
   try dsimp only
   refine Ka (NK (w:=Em) (by omega) (by rw [List.length_cons,List.length_map];omega) ?_) ?_
   ·intro x hx
    rcases List.mem_cons.1 hx with rfl|hx
    ·unfold NR;omega
    ·exact TS hd x hx
   ·try dsimp only
    simp only [Tc,Ob,List.length_append]
    refine Aa.gd (decide_eq_true (by omega)) (.some ⟨hlt,?_⟩)
    rw [MK,Ma (by omega) (by omega),List.append_assoc];rfl
  ·obtain rfl:k=db.length:=by omega
   simp only [QA]
   exact Aa.no (dF (by omega)) (.some rfl)
theorem yBO {w:Wd} {o:List UInt8} (ho:o.length≤4000000000000000000) {k:Nat} (hk:k<w.db.length) (hd:Jd (Qa w.db k)):Aa (lp KA Ea (bs o,(k:Int),(0:Int),w.n,w.ls,w.up,w.sq,w.db,w.net,())) fun r=>match r with| .inl x=>x=(bs (o++blk ((Qa w.db k).map (·.s))),(k:Int),w.n,w.ls,w.up,w.sq,w.db,w.net,())| .inr _=>False:=by
  have h8:=hd.len
  have hr:=TS hd
  refine Aa.count (Qa w.db k).length (fun j s=>s=(bs (o++blk (((Qa w.db k).take j).map (·.s))),(k:Int),(j:Int),w.n,w.ls,w.up,w.sq,w.db,w.net,())) ?_ (Nat.zero_le _) (Ib (by omega)) (by simp [blk])
  rintro j s hj rfl
  by_cases hlt:j<(Qa w.db k).length
  ·have h3:((Qa w.db k).take j).length≤j:=List.length_take_le _ _
   have hm:NR (Jb (Qa w.db k) j).s:=hr _ (List.mem_map.2 ⟨_,Th hlt,rfl⟩)
   have h1:=Mi hm
   have h2:=Zk (l:=((Qa w.db k).take j).map (·.s)) fun x hx=>by
     obtain ⟨l,hl,rfl⟩:=List.mem_map.1 hx
     exact hr _ (List.mem_map.2 ⟨l,List.mem_of_mem_take hl,rfl⟩)
   rw [List.length_map] at h2
   simp (disch:=omega) only [KA,Vg,Sg,Ua,Ma,Ta,Tc,Ob,List.length_append,List.length_cons,List.length_nil]
   refine Aa.gd (Ia (by omega) (by omega)) (Aa.gd (decide_eq_true (by omega)) (Aa.gd (decide_eq_true (by omega)) (Aa.gd (Ia (by omega) (by omega)) (Aa.gd (Ia (by omega) (by omega)) (Ka (Fo hm) ?_)))))
   simp only [Tc,Ob,List.length_append,List.length_cons,List.length_nil]
   refine Aa.gd (decide_eq_true (by omega)) (.some ⟨hlt,?_⟩)
   rw [mD hlt,kS]
   simp [blk]
  ·obtain rfl:j=(Qa w.db k).length:=by omega
   simp only [KA,Vg,Ua,Ta]
   rw [List.take_length]
   exact Aa.gd (Ia (by omega) (by omega)) (Aa.no (dF (by omega)) (.some rfl))
theorem zFQ {w:Wd} (h:WV w Pb):WQ (w.n,w.ls,w.up,w.sq,w.db,w.net,())=some (bs (He w.db w.db.length),()):=by
  have h8:=h.nn
  have hdb:=h.db
  unfold WQ
  refine Aa.out (Aa.bnd (R:=fun r=>r=.inl (bs (He w.db w.db.length),())) ?_ ?_)
  ·refine Aa.count w.db.length (fun k s=>s=(bs (He w.db k),(k:Int),w.n,w.ls,w.up,w.sq,w.db,w.net,())) ?_ (Nat.zero_le _) (Ib (by omega)) (by simp [He])
   rintro k s hk rfl
   by_cases hlt:k<w.db.length
   ·have hd:=h.ok k hlt
    have hd8:=hd.len
    have h2:=I7 hd (k:=k) (by omega)
    have h3:=US h.ok (by omega) k (by omega)
    have hkr:NR (k:Int):=by unfold NR;omega
    have h4:=Mi hkr
    have h5:=Zk (TS hd)
    rw [List.length_map] at h5
    simp (disch:=omega) only [XI,Ua,Ma,Ta]
    refine Aa.gd (decide_eq_true (by omega)) ?_
    simp only [Tc,Ob,List.length_append,List.length_cons,List.length_nil]
    refine Aa.gd (decide_eq_true (by omega)) (Ka (Fo hkr) ?_)
    simp only [Tc,Ob,List.length_append,List.length_cons,List.length_nil]
    refine Aa.gd (decide_eq_true (by omega)) (Aa.bnd (yBO (w:=w) (by simp only [List.length_append,List.length_cons,List.length_nil];omega) hlt hd) ?_)
    rintro (x|x) hx
    case inr=>exact hx.elim
    dsimp only at hx
    subst hx
    try dsimp only
    simp only [Tc,Ob,List.length_append,List.length_cons,List.length_nil]
    refine Aa.gd (decide_eq_true (by omega)) (.some ⟨hlt,?_⟩)
    rw [MK,Ma (by omega) (by omega)]
    simp [listT,blk,Em]
   ·obtain rfl:k=w.db.length:=by omega
    simp only [XI,Ta]
    exact Aa.no (dF (by omega)) (.some rfl)
  ·rintro _ rfl
   exact .some rfl
def Za (a b:Int):List Int:=match Pn (5,Oe,a,b,()) with
  |some x=>x.1
  |none=>[]
def J7 (a b:Int):Bool:=match Pn (5,Oe,a,b,()),On (5,Oe,a,b,()) with
  |some x,some y=>decide (x.1=y.1)&&(decide (x.1.length≤8)&&x.1.all fun z=>decide (0≤z)&&decide (z≤8))
  |_,_=>false
theorem yBP:((List.range 6).all fun a=>(List.range 5).all fun b=>J7 (a:Int) (b:Int))=true:=by kernel_rfl
theorem mE:gv 5 Oe=true:=decide_eq_true kW
theorem yBQ (a b:Int):J7 a b=true∨(Pn (5,Oe,a,b,())=some ([],())∧On (5,Oe,a,b,())=some ([],())):=by
  have fl:Cb Oe:=by unfold Cb;decide
  by_cases ha:Db a 0 5=true
  ·by_cases hb:Db b 0 4=true
   ·left
    have ha:=De ha
    have hb:=De hb
    obtain ⟨x,rfl⟩:=Int.eq_ofNat_of_zero_le ha.1
    obtain ⟨y,rfl⟩:=Int.eq_ofNat_of_zero_le hb.1
    have h:=List.all_eq_true.1 yBP x (List.mem_range.2 (by omega))
    exact List.all_eq_true.1 h y (List.mem_range.2 (by omega))
   ·right
    have hb:Db b 0 ((5:Int)-1)=false:=by simpa using hb
    constructor
    ·unfold Pn Mu
     refine Aa.out (Aa.bnd (R:=fun r=>r=(false,())) (Ka (B7 5 a fl) ?_) ?_)
     ·rw [mE]
      refine Aa.ite (fun _=>?_) (fun _=>.some rfl)
      refine Ka (Qp 5 0 _ (by decide) (by decide)) (Aa.gd rfl (Ka (Qp 5 b _ (by decide) (by decide)) (.some ?_)))
      rw [hb]
     ·rintro _ rfl
      exact Aa.gd rfl (.some rfl)
    ·unfold On
     refine Aa.out (Ka (Zw _ _ _ fl) ?_)
     try dsimp only
     rw [hb,Bool.and_false]
     exact Aa.gd rfl (.some rfl)
  ·right
   have ha:Db a 0 ((Oe.length:Int)-1)=false:=Bool.eq_false_iff.2 ha
   constructor
   ·unfold Pn Mu
    refine Aa.out (Aa.bnd (R:=fun r=>r=(false,())) (Ka (B7 5 a fl) ?_) ?_)
    ·rw [ha,Bool.and_false]
     exact .some rfl
    ·rintro _ rfl
     exact Aa.gd rfl (.some rfl)
   ·unfold On
    refine Aa.out (Ka (Zw _ _ _ fl) (Aa.ite (fun _=>.some rfl) (fun _=>?_)))
    refine Ka (lW _ _ fl) ?_
    try dsimp only
    rw [ha,Bool.and_false]
    exact Aa.gd rfl (.some rfl)
theorem K7 (a b:Int):Pn (5,Oe,a,b,())=some (Za a b,())∧On (5,Oe,a,b,())=some (Za a b,())∧(Za a b).length≤8∧∀x∈Za a b,NR x:=by
  unfold Za
  rcases yBQ a b with h|⟨h1,h2⟩
  ·unfold J7 at h
   cases e1:Pn (5,Oe,a,b,()) with
   |none=>rw [e1] at h;cases h
   |some x =>
    cases e2:On (5,Oe,a,b,()) with
    |none=>rw [e1,e2] at h;cases h
    |some y =>
     rw [e1,e2] at h
     simp only [Bool.and_eq_true,decide_eq_true_eq,List.all_eq_true] at h
     obtain ⟨h1,h2,h3⟩:=h
     refine ⟨rfl,?_,h2,fun z hz=>by have:=h3 z hz;unfold NR;omega⟩
     show some y=some (x.1,())
     rw [h1]
  ·rw [h1,h2]
   exact ⟨rfl,rfl,by simp,by simp⟩
end
section
open Go.RowKit
open Go.Lib (itoa decDigits)
def Ab (a b c:Int):List Lb×Bool:=Zj 5 Oe a b c
theorem L7 (a b c:Int):(Ab a b c).1.length≤5101∧∀x∈(Ab a b c).1,NR x.a:=⟨lX.1,fun x hx=>by have:=lX.2 x hx;unfold NR;omega⟩
theorem VS:Cb Oe:=by unfold Cb;decide
theorem UK (g:Int×List Lk) (a b:Int):(Ej g a b).length≤5101∧∀x∈Ej g a b,NR x:=⟨lU g.1 a b g.2,fun x hx=>by have:=yBD g.1 a b g.2 x hx;unfold NR;omega⟩
theorem M7 {w:List UInt8} {l:List Int} (hw:w.length≤10) (hl:l.length≤6000) (hr:∀x∈l,NR x):(listT w l).length≤140000:=by
  have:=Zk hr
  unfold listT
  simp only [List.length_append,List.length_singleton]
  omega
theorem yBR {w:Wd} (h:WV w Pb) (ws:List (List UInt8)):(Wp Ab Za w ws).length≤140000:=by
  unfold Wp
  try dsimp only
  split
  ·exact M7 (by decide) (by have:=(UK (Ge w (Kb (ws.getD 1 []))) (Kb (ws.getD 1 [])) (Kb (ws.getD 2 []))).1;omega) (UK _ _ _).2
  split
  ·exact M7 (by decide) (by have:=(SK (Ge w (Kb (ws.getD 1 []))).1 (Kb (ws.getD 2 [])) (Ge w (Kb (ws.getD 1 []))).2).1;omega) (SK _ _ _).2
  split
  ·unfold LK
   split
   ·have h1:=L7 (Kb (ws.getD 1 [])) (Kb (ws.getD 2 [])) (Kb (ws.getD 3 []))
    have h2:=TK h1.2
    have h6:Cj.length=6:=rfl
    simp only [List.length_append,List.length_singleton]
    omega
   ·decide
  split
  ·have:=K7 (Kb (ws.getD 1 [])) (Kb (ws.getD 2 []))
   exact M7 (by decide) (by have:=this.2.2.1;omega) this.2.2.2
  split
  ·have hl:=h.net
   have:=SS (H7 h) (by omega) w.net.length (Nat.le_refl _)
   omega
  ·decide
theorem N7 {w:Wd} (h:WV w Pb) (l:List UInt8):(Vc Ab Za w l).2.length≤140000:=by
  unfold Vc
  try dsimp only
  split
  ·simp
  split
  ·simp
  ·exact yBR h _
theorem yBS {ws:List (List UInt8)} (k:Nat):(ws++[[],[],[]]).getD k []=ws.getD k []:=by
  simp only [List.getD]
  by_cases h:k<ws.length
  ·rw [List.getElem?_append_left h]
  ·rw [List.getElem?_append_right (by omega),List.getElem?_eq_none (l:=ws) (by omega)]
   match k-ws.length with
   |0=>rfl
   |1=>rfl
   |2=>rfl
   |n+3=>rfl
def wl (r:Wd×List UInt8):ByteArray×Int×List Lk×List Bool×List Int×List (List Ls)×List Pk×Unit:=(bs r.2,r.1.n,r.1.ls,r.1.up,r.1.sq,r.1.db,r.1.net,())
theorem zEe {w:Wd} (F:Nf w) {l:List UInt8} (hl:l.length≤600):BR (bs l,w.n,w.ls,w.up,w.sq,w.db,w.net,())=some (wl (Vc Ab Za w l)):=by
  have h:=F.ok
  unfold BR
  refine Aa.out (Ka (lY 32 (by omega)) ?_)
  have hlen:=LD 32 l
  have hmem:=PW 32 l
  have hne:=JD 32 l
  unfold Vc
  try dsimp only
  generalize Wb 32 l=ws at *
  have e0:ws.map bs++[bs [],bs [],bs []]=(ws++[[],[],[]]).map bs:=by simp
  have h1:1≤ws.length:=List.length_pos_iff.2 hne
  have hw:∀k,(ws.getD k []).length≤1000000:=fun k=>by
    by_cases hk:k<ws.length
    ·have:=(hmem _ (List.mem_of_getElem? (show ws[k]? =some (ws.getD k []) by simp [List.getD,hk]))).1
     omega
    ·simp [List.getD,List.getElem?_eq_none (l:=ws) (i:=k) (by omega)]
  have at0:∀k,k<4→Ba .str ((ws++[[],[],[]]).map bs) k=bs (ws.getD k []):=fun k hk=>by
    rw [Fm (by simp;omega),yBS]
  have t1:Int.toNat (1:Int)=1:=rfl
  have t2:Int.toNat (2:Int)=2:=rfl
  have t3:Int.toNat (3:Int)=3:=rfl
  have t0:Int.toNat (0:Int)=0:=rfl
  simp only [e0,t0,t1,t2,t3,at0 0 (by decide),at0 1 (by decide),at0 2 (by decide),at0 3 (by decide),List.length_map,List.length_append,List.length_cons,List.length_nil]
  refine Aa.gd (decide_eq_true (by omega)) (Aa.gd (Ia (by omega) (by omega)) (Aa.gd (Ia (by omega) (by omega)) (Aa.gd (Ia (by omega) (by omega)) (Ka (Z6 (hw 1)) (Ka (Z6 (hw 2)) (Ka (Z6 (hw 3)) (Aa.gd (Ia (by omega) (by omega)) (Ka (zHE _) ?_))))))))
  try dsimp only
  by_cases c0:0<Dj (ws.getD 0 [])
  ·rw [if_pos c0]
   exact Aa.gd (decide_eq_true c0) (Ka (kE h _ _) (.some rfl))
  rw [if_neg c0]
  refine Aa.no (dF c0) (Aa.gd (Ia (by omega) (by omega)) ?_)
  simp only [Ui]
  have eCalm:([99,97,108,109]:List UInt8)=IS:=rfl
  have ePath:([112,97,116,104]:List UInt8)=Ex:=rfl
  have eSeen:([115,101,101,110]:List UInt8)=Fx:=rfl
  have eRepair:([114,101,112,97,105,114]:List UInt8)=Cj:=rfl
  have eOrder:([111,114,100,101,114]:List UInt8)=Gx:=rfl
  have eNet:([110,101,116]:List UInt8)=IK:=rfl
  simp only [eCalm,ePath,eSeen,eRepair,eOrder,eNet]
  by_cases c1:ws.getD 0 []=IS
  ·rw [if_pos c1]
   exact Aa.gd (decide_eq_true c1) (Ka (yAX h) (.some rfl))
  rw [if_neg c1]
  refine Aa.no (dF c1) ?_
  unfold Wp
  try dsimp only
  by_cases c2:ws.getD 0 []=Ex
  ·rw [if_pos c2]
   refine Aa.gd (decide_eq_true c2) (Ka (lZ h _) (Ka (lT _ _ _ (PS h _)) (Ka (NK (by decide) ?_ ?_) (.some rfl))))
   ·have:=(UK (Ge w (Kb (ws.getD 1 []))) (Kb (ws.getD 1 [])) (Kb (ws.getD 2 []))).1
    exact Nat.le_trans this (by decide)
   ·exact (UK (Ge w (Kb (ws.getD 1 []))) (Kb (ws.getD 1 [])) (Kb (ws.getD 2 []))).2
  rw [if_neg c2]
  refine Aa.no (dF c2) ?_
  by_cases c3:ws.getD 0 []=Fx
  ·rw [if_pos c3]
   refine Aa.gd (decide_eq_true c3) (Ka (lZ h _) (Ka (zDQ _ _ _ (PS h _)) (Ka (NK (by decide) ?_ ?_) (.some rfl))))
   ·have:=(SK (Ge w (Kb (ws.getD 1 []))).1 (Kb (ws.getD 2 [])) (Ge w (Kb (ws.getD 1 []))).2).1
    exact Nat.le_trans this (by decide)
   ·exact (SK (Ge w (Kb (ws.getD 1 []))).1 (Kb (ws.getD 2 [])) (Ge w (Kb (ws.getD 1 []))).2).2
  rw [if_neg c3]
  refine Aa.no (dF c3) ?_
  by_cases c4:ws.getD 0 []=Cj
  ·rw [if_pos c4]
   refine Aa.gd (decide_eq_true c4) ?_
   have eR:=zDW w.n (Kb (ws.getD 1 [])) (Kb (ws.getD 2 [])) (Kb (ws.getD 3 [])) (ls:=w.ls) (by rw [F.ls];exact VS)
   rw [show Zj w.n w.ls (Kb (ws.getD 1 [])) (Kb (ws.getD 2 [])) (Kb (ws.getD 3 []))=Ab (Kb (ws.getD 1 [])) (Kb (ws.getD 2 [])) (Kb (ws.getD 3 [])) by rw [F.n,F.ls];rfl] at eR
   refine Ka eR ?_
   have hb:=L7 (Kb (ws.getD 1 [])) (Kb (ws.getD 2 [])) (Kb (ws.getD 3 []))
   unfold LK
   generalize Ab (Kb (ws.getD 1 [])) (Kb (ws.getD 2 [])) (Kb (ws.getD 3 []))=q at *
   try dsimp only
   cases hq:q.2 with
   |false=>rw [if_neg (by simp)];exact Aa.gd rfl (.some rfl)
   |true =>
    rw [if_pos rfl]
    simp only [Ta]
    refine Aa.no rfl (Aa.bnd (zHB (by omega) hb.2 w) ?_)
    rintro (x|x) hx
    case inr=>exact hx.elim
    dsimp only at hx
    subst hx
    try dsimp only
    have h2:=TK hb.2
    have h6:Cj.length=6:=rfl
    simp only [Tc,Ob,List.length_append,List.length_cons,List.length_nil]
    refine Aa.gd (decide_eq_true (by omega)) (.some ?_)
    unfold wl
    rw [List.append_assoc]
  rw [if_neg c4]
  refine Aa.no (dF c4) ?_
  by_cases c5:ws.getD 0 []=Gx
  ·rw [if_pos c5]
   obtain ⟨_,o1,o2,o3⟩:=K7 (Kb (ws.getD 1 [])) (Kb (ws.getD 2 []))
   rw [←F.ls] at o1
   have o1:On (w.n,w.ls,Kb (ws.getD 1 []),Kb (ws.getD 2 []),())=some (Za (Kb (ws.getD 1 [])) (Kb (ws.getD 2 [])),()):=by rw [F.n];exact o1
   exact Aa.gd (decide_eq_true c5) (Ka o1 (Ka (NK (by decide) (Nat.le_trans o2 (by decide)) o3) (.some rfl)))
  rw [if_neg c5]
  refine Aa.no (dF c5) ?_
  by_cases c6:ws.getD 0 []=IK
  ·rw [if_pos c6]
   simp only [Ta]
   refine Aa.gd (decide_eq_true c6) (Aa.bnd (yBL h) ?_)
   rintro (x|x) hx
   case inr=>exact hx.elim
   dsimp only at hx
   subst hx
   exact .some rfl
  rw [if_neg c6]
  exact Aa.no (dF c6) (.some rfl)
theorem zFI {w:Wd} (F:Nf w) {ws:List (List UInt8)} (hne:ws≠[]) (hl:ws.length≤1000000) (hm:∀x∈ws,x.length≤1000000):XQ (w.n,w.ls,w.up,w.sq,w.db,w.net,ws.map bs,())=some (bs (Wp Ab Za w ws),()):=by
  have h:=F.ok
  have h1:1≤ws.length:=List.length_pos_iff.2 hne
  unfold XQ
  have t0:Int.toNat (0:Int)=0:=rfl
  have n1:=NS 1 hl hm
  have n2:=NS 2 hl hm
  have n3:=NS 3 hl hm
  refine Aa.out (Ka n1 (Ka n2 ?_))
  simp only [t0,Fm (show 0<ws.length by omega),List.length_map,Ui]
  refine Aa.gd (Ia (by omega) (by omega)) ?_
  have ePath:([112,97,116,104]:List UInt8)=Ex:=rfl
  have eSeen:([115,101,101,110]:List UInt8)=Fx:=rfl
  have eRepair:([114,101,112,97,105,114]:List UInt8)=Cj:=rfl
  have eOrder:([111,114,100,101,114]:List UInt8)=Gx:=rfl
  have eNet:([110,101,116]:List UInt8)=IK:=rfl
  simp only [ePath,eSeen,eRepair,eOrder,eNet]
  unfold Wp
  try dsimp only
  by_cases c2:ws.getD 0 []=Ex
  ·rw [if_pos c2]
   have hp:=UK ((Ge w (Kb (ws.getD 1 []))).1,(Ge w (Kb (ws.getD 1 []))).2) (Kb (ws.getD 1 [])) (Kb (ws.getD 2 []))
   refine Aa.gd (decide_eq_true c2) (Ka (mA h _) (Ka (zGh _ _ _ (PS h _)) (Ka (X6 (Nat.le_trans hp.1 (by decide)) hp.2) ?_)))
   have hb:=Zk hp.2
   have h4:Ex.length=4:=rfl
   simp only [Tc,Ob,List.length_append,List.length_cons,List.length_nil]
   refine Aa.gd (decide_eq_true (by omega)) (Aa.gd (decide_eq_true (by omega)) (.some ?_))
   unfold listT
   rw [List.append_assoc]
  rw [if_neg c2]
  refine Aa.no (dF c2) ?_
  by_cases c3:ws.getD 0 []=Fx
  ·rw [if_pos c3]
   have hp:=SK (Ge w (Kb (ws.getD 1 []))).1 (Kb (ws.getD 2 [])) (Ge w (Kb (ws.getD 1 []))).2
   refine Aa.gd (decide_eq_true c3) (Ka (mA h _) (Ka (zF9 _ _ (PS h _)) (Ka (X6 (Nat.le_trans hp.1 (by decide)) hp.2) ?_)))
   have hb:=Zk hp.2
   have h4:Fx.length=4:=rfl
   simp only [Tc,Ob,List.length_append,List.length_cons,List.length_nil]
   refine Aa.gd (decide_eq_true (by omega)) (Aa.gd (decide_eq_true (by omega)) (.some ?_))
   unfold listT
   rw [List.append_assoc]
  rw [if_neg c3]
  refine Aa.no (dF c3) ?_
  by_cases c4:ws.getD 0 []=Cj
  ·rw [if_pos c4]
   refine Aa.gd (decide_eq_true c4) (Ka (show Wv ()=some (5,Oe,()) from rfl) (Ka n3 ?_))
   have eR:=zGf 5 (Kb (ws.getD 1 [])) (Kb (ws.getD 2 [])) (Kb (ws.getD 3 [])) VS
   rw [show Zj 5 Oe (Kb (ws.getD 1 [])) (Kb (ws.getD 2 [])) (Kb (ws.getD 3 []))=Ab (Kb (ws.getD 1 [])) (Kb (ws.getD 2 [])) (Kb (ws.getD 3 [])) from rfl] at eR
   refine Ka eR ?_
   have hb:=L7 (Kb (ws.getD 1 [])) (Kb (ws.getD 2 [])) (Kb (ws.getD 3 []))
   unfold LK
   generalize Ab (Kb (ws.getD 1 [])) (Kb (ws.getD 2 [])) (Kb (ws.getD 3 []))=q at *
   try dsimp only
   cases hq:q.2 with
   |false=>rw [if_neg (by simp)];exact Aa.gd rfl (.some rfl)
   |true =>
    rw [if_pos rfl]
    refine Aa.no rfl (Ka (zFP (by omega) hb.2) ?_)
    have h2:=TK hb.2
    have h6:Cj.length=6:=rfl
    simp only [Tc,Ob,List.length_append,List.length_cons,List.length_nil]
    refine Aa.gd (decide_eq_true (by omega)) (Aa.gd (decide_eq_true (by omega)) (.some ?_))
    rw [List.append_assoc]
  rw [if_neg c4]
  refine Aa.no (dF c4) ?_
  by_cases c5:ws.getD 0 []=Gx
  ·rw [if_pos c5]
   obtain ⟨o1,_,o2,o3⟩:=K7 (Kb (ws.getD 1 [])) (Kb (ws.getD 2 []))
   refine Aa.gd (decide_eq_true c5) (Ka (show Wv ()=some (5,Oe,()) from rfl) (Ka o1 (Ka (X6 (Nat.le_trans o2 (by decide)) o3) ?_)))
   have hb:=Zk o3
   have h4:Gx.length=5:=rfl
   simp only [Tc,Ob,List.length_append,List.length_cons,List.length_nil]
   refine Aa.gd (decide_eq_true (by omega)) (Aa.gd (decide_eq_true (by omega)) (.some ?_))
   unfold listT
   rw [List.append_assoc]
  rw [if_neg c5]
  refine Aa.no (dF c5) ?_
  by_cases c6:ws.getD 0 []=IK
  ·rw [if_pos c6]
   exact Aa.gd (decide_eq_true c6) (Ka (zFN h) (.some rfl))
  rw [if_neg c6]
  exact Aa.no (dF c6) (.some rfl)
def wlr (r:Wd×List UInt8):Int×List Lk×List Bool×List Int×List (List Ls)×List Pk×ByteArray×Unit:=(r.1.n,r.1.ls,r.1.up,r.1.sq,r.1.db,r.1.net,bs r.2,())
theorem yBT {w:Wd} (h:WV w Pb):z7 w=Ug w:=by unfold z7;rw [Bx.2 h];rfl
theorem zFL {w:Wd} (F:Nf w) {l:List UInt8} (hl:l.length≤600):YQ (w.n,w.ls,w.up,w.sq,w.db,w.net,bs l,())=some (wlr (Vc Ab Za w l)):=by
  have h:=F.ok
  unfold YQ
  refine Aa.out (Ka (lO 32 (by omega)) ?_)
  have hlen:=LD 32 l
  have hmem:=PW 32 l
  have hne:=JD 32 l
  unfold Vc
  try dsimp only
  generalize Wb 32 l=ws at *
  have h1:1≤ws.length:=List.length_pos_iff.2 hne
  have hw:∀x∈ws,x.length≤1000000:=fun x hx=>by have:=(hmem x hx).1;omega
  have t0:Int.toNat (0:Int)=0:=rfl
  simp only [t0,Fm (show 0<ws.length by omega),List.length_map,Ui]
  refine Aa.gd (Ia (by omega) (by omega)) (Ka (zFK _) (Ka (NS 1 (by omega) hw) ?_))
  try dsimp only
  by_cases c0:0<Dj (ws.getD 0 [])
  ·rw [if_pos c0]
   exact Aa.gd (decide_eq_true c0) (Ka (zFx h _ _) (.some rfl))
  rw [if_neg c0]
  refine Aa.no (dF c0) (Aa.gd (Ia (by omega) (by omega)) ?_)
  by_cases c1:ws.getD 0 []=IS
  ·rw [if_pos c1]
   refine Aa.gd (decide_eq_true c1) (Ka (zGi h.sm) (.some ?_))
   rw [yBT h];rfl
  rw [if_neg c1]
  refine Aa.no (dF c1) (Ka (zFI F hne (by omega) hw) (.some rfl))
end
section
open Go.RowKit
open Go.Lib (itoa decDigits)
theorem O7 {W:Wd} (F:Nf W) (ls:List (List UInt8)):(Mb Ab Za W ls).2.length≤140000*ls.length:=by
  induction ls generalizing W with
  |nil=>simp [Mb]
  |cons l r ih =>
   have h1:=N7 F.ok l
   have h2:=ih (S6 Ab Za F l)
   show ((Vc Ab Za W l).2++(Mb Ab Za (Vc Ab Za W l).1 r).2).length≤_
   rw [List.length_append,List.length_cons]
   omega
theorem mF {ls:List (List UInt8)} {k:Nat} (h:k<ls.length):Mb Ab Za W0 (ls.take (k+1))=((Vc Ab Za (Mb Ab Za W0 (ls.take k)).1 (ls.getD k [])).1,(Mb Ab Za W0 (ls.take k)).2++(Vc Ab Za (Mb Ab Za W0 (ls.take k)).1 (ls.getD k [])).2):=by
  have e:ls.take (k+1)=ls.take k++[ls.getD k []]:=by rw [List.take_add_one];simp [List.getD,h]
  show Mb Ab Za W0 (ls.take (k+1))=_
  rw [e,kX,kY]
theorem P7 {t:List UInt8} (ht:t.length≤600):(Wb 10 t).length≤601∧(Zb t).length+1=(Wb 10 t).length∧(∀k,((Zb t).getD k []).length≤600)∧∀k,k<(Zb t).length→(Wb 10 t).getD k []=(Zb t).getD k []:=by
  have h1:=LD 10 t
  have h2:=JD 10 t
  have h3:=PW 10 t
  have h4:1≤(Wb 10 t).length:=List.length_pos_iff.2 h2
  have h5:(Zb t).length=(Wb 10 t).length-1:=by unfold Zb;rw [List.length_dropLast]
  refine ⟨by omega,by omega,fun k=>?_,fun k hk=>?_⟩
  ·by_cases hk:k<(Zb t).length
   ·have hm:(Zb t).getD k []∈Zb t:=List.mem_of_getElem? (show (Zb t)[k]? =some ((Zb t).getD k []) by simp [List.getD,hk])
    have:=(h3 _ ((List.dropLast_sublist (Wb 10 t)).subset (show _∈(Wb 10 t).dropLast from hm))).1
    omega
   ·simp [List.getD,List.getElem?_eq_none (l:=Zb t) (i:=k) (by omega)]
  ·unfold Zb at hk ⊢
   simp only [List.getD]
   rw [List.getElem?_dropLast,if_pos (by rw [List.length_dropLast] at hk;omega)]
theorem mG:GB 5 Oe=W0:=by unfold GB W0;rw [mE];rfl
theorem yBU {ls:List (List UInt8)} (hl:ls.length≤600) (hm:∀k,(ls.getD k []).length≤600):Aa (lp OA Ea (bs [],ls.map bs,(ls.length:Int),(0:Int),W0.n,W0.ls,W0.up,W0.sq,W0.db,W0.net,())) fun r=>match r with| .inl x=>x=wl (Mb Ab Za W0 ls)| .inr _=>False:=by
  refine Aa.count ls.length (fun k s=>s=(bs (Mb Ab Za W0 (ls.take k)).2,ls.map bs,(ls.length:Int),(k:Int),(Mb Ab Za W0 (ls.take k)).1.n,(Mb Ab Za W0 (ls.take k)).1.ls,(Mb Ab Za W0 (ls.take k)).1.up,(Mb Ab Za W0 (ls.take k)).1.sq,(Mb Ab Za W0 (ls.take k)).1.db,(Mb Ab Za W0 (ls.take k)).1.net,())) ?_ (Nat.zero_le _) (Ib (by omega)) rfl
  rintro k s hk rfl
  have F:=JB Ab Za Eo (ls.take k)
  by_cases hlt:k<ls.length
  ·have h1:=O7 Eo (ls.take k)
   have h2:(ls.take k).length≤k:=List.length_take_le _ _
   have h3:=N7 F.ok (ls.getD k [])
   unfold OA
   simp only [Ua,Fm hlt,List.length_map]
   refine Aa.gd (decide_eq_true (by omega)) (Aa.gd (Ia (by omega) (by omega)) (Ka (zEe F (hm k)) ?_))
   unfold wl
   simp only [Tc,Ob]
   refine Aa.gd (decide_eq_true (by show (Mb Ab Za W0 (ls.take k)).2.length+_≤_;have h1:(Mb Ab Za W0 (ls.take k)).2.length≤140000*(ls.take k).length:=h1;omega)) (.some ⟨hlt,?_⟩)
   rw [mF hlt,Ma (by omega) (by omega)];rfl
  ·obtain rfl:k=ls.length:=by omega
   unfold OA
   try dsimp only
   rw [List.take_length]
   exact Aa.no (dF (by omega)) (.some rfl)
theorem yBV {ws ls:List (List UInt8)} (hw:ls.length+1=ws.length) (he:∀k,k<ls.length→ws.getD k []=ls.getD k []) (hl:ls.length≤600) (hm:∀k,(ls.getD k []).length≤600):Aa (lp LA Ea (bs [],(0:Int),W0.n,W0.ls,W0.up,W0.sq,W0.db,W0.net,ws.map bs,())) fun r=>match r with| .inl x=>x=wl (Mb Ab Za W0 ls)| .inr _=>False:=by
  refine Aa.count ls.length (fun k s=>s=(bs (Mb Ab Za W0 (ls.take k)).2,(k:Int),(Mb Ab Za W0 (ls.take k)).1.n,(Mb Ab Za W0 (ls.take k)).1.ls,(Mb Ab Za W0 (ls.take k)).1.up,(Mb Ab Za W0 (ls.take k)).1.sq,(Mb Ab Za W0 (ls.take k)).1.db,(Mb Ab Za W0 (ls.take k)).1.net,ws.map bs,())) ?_ (Nat.zero_le _) (Ib (by omega)) rfl
  rintro k s hk rfl
  have F:=JB Ab Za Eo (ls.take k)
  by_cases hlt:k<ls.length
  ·have h1:=O7 Eo (ls.take k)
   have h2:(ls.take k).length≤k:=List.length_take_le _ _
   have h3:=N7 F.ok (ls.getD k [])
   have hkw:k<ws.length:=by omega
   unfold LA ZQ
   simp only [Ua,Fm hkw,List.length_map,Ta,he k hlt]
   rw [Ma (by omega) (by omega)]
   refine Aa.gd (decide_eq_true (by omega)) ?_
   have eL:=zFL F (hm k)
   refine Aa.bnd (R:=fun r=>r=.inl (bs (Mb Ab Za W0 (ls.take k)).2,(k:Int),bs (Vc Ab Za (Mb Ab Za W0 (ls.take k)).1 (ls.getD k [])).2,(Mb Ab Za W0 (ls.take k)).1.n,(Mb Ab Za W0 (ls.take k)).1.ls,(Mb Ab Za W0 (ls.take k)).1.up,(Mb Ab Za W0 (ls.take k)).1.sq,(Mb Ab Za W0 (ls.take k)).1.db,(Mb Ab Za W0 (ls.take k)).1.net,ws.map bs,(Vc Ab Za (Mb Ab Za W0 (ls.take k)).1 (ls.getD k [])).1.n,(Vc Ab Za (Mb Ab Za W0 (ls.take k)).1 (ls.getD k [])).1.ls,(Vc Ab Za (Mb Ab Za W0 (ls.take k)).1 (ls.getD k [])).1.up,(Vc Ab Za (Mb Ab Za W0 (ls.take k)).1 (ls.getD k [])).1.sq,(Vc Ab Za (Mb Ab Za W0 (ls.take k)).1 (ls.getD k [])).1.db,(Vc Ab Za (Mb Ab Za W0 (ls.take k)).1 (ls.getD k [])).1.net,())) (Aa.gd (Ia (by omega) (by omega)) (Ka eL (.some rfl))) ?_
   rintro _ rfl
   try dsimp only
   simp only [Tc,Ob]
   refine Aa.gd (decide_eq_true (by show (Mb Ab Za W0 (ls.take k)).2.length+_≤_;have h1:(Mb Ab Za W0 (ls.take k)).2.length≤140000*(ls.take k).length:=h1;omega)) (.some ⟨hlt,?_⟩)
   rw [mF hlt,Ma (by omega) (by omega)];rfl
  ·obtain rfl:k=ls.length:=by omega
   unfold LA
   simp only [List.length_map,Ta]
   rw [Ma (by omega) (by omega),List.take_length]
   exact Aa.no (dF (by omega)) (.some rfl)
theorem Q7 {t:List UInt8} (ht:t.length≤600):(Mb Ab Za W0 (Zb t)).2.length≤84000000∧(He (Mb Ab Za W0 (Zb t)).1.db (Mb Ab Za W0 (Zb t)).1.db.length).length≤1500:=by
  obtain ⟨b1,b2,b3,b4⟩:=P7 ht
  have F:=JB Ab Za Eo (Zb t)
  have h1:=O7 Eo (Zb t)
  have h5:=Hx F
  have h2:=US F.ok.ok (by omega) _ (Nat.le_refl _)
  constructor
  ·have h1:(Mb Ab Za W0 (Zb t)).2.length≤140000*(Zb t).length:=h1
   show (Mb Ab Za W0 (Zb t)).2.length≤_
   omega
  ·have h2:(He (Mb Ab Za W0 (Zb t)).1.db (Mb Ab Za W0 (Zb t)).1.db.length).length≤300*(Mb Ab Za W0 (Zb t)).1.db.length:=h2
   show (He (Mb Ab Za W0 (Zb t)).1.db (Mb Ab Za W0 (Zb t)).1.db.length).length≤_
   omega
theorem Io (t:List UInt8) (ht:t.length≤4000000000000000000):Rg (bs t,())=some (bs (Mf Ab Za t),()):=by
  unfold Rg
  simp only [Ob,Ta]
  refine Aa.out (Aa.ite (fun h=>?_) (fun h=>?_))
  ·have h:=oT h
   refine .some ?_
   show _=(bs (Mf Ab Za t),())
   unfold Mf
   rw [if_pos (by omega)];rfl
  ·have h:=oF h
   have h6:t.length≤600:=by omega
   obtain ⟨b1,b2,b3,b4⟩:=P7 h6
   have F:=JB Ab Za Eo (Zb t)
   have hN:=zD0 5 Oe VS
   rw [mG] at hN
   refine Ka (show P3 ()=some (5,Oe,()) from rfl) (Ka hN (Ka (lY 10 (by omega)) ?_))
   try dsimp only
   have e1:List.take (Int.toNat (wrap64 (((List.map bs (Wb 10 t)).length:Int)-1))-Int.toNat (0:Int)) (List.drop (Int.toNat (0:Int)) (List.map bs (Wb 10 t)))=(Zb t).map bs:=by
     rw [List.length_map,Ma (by omega) (by omega)]
     have:Int.toNat (((Wb 10 t).length:Int)-1)-Int.toNat (0:Int)=(Wb 10 t).length-1:=by omega
     rw [this]
     show List.take ((Wb 10 t).length-1) (List.map bs (Wb 10 t))=_
     rw [←List.map_take,←List.dropLast_eq_take];rfl
   rw [e1,List.length_map,List.length_map]
   refine Aa.gd (Uq (by omega) (by rw [Ma (by omega) (by omega)];omega) (by rw [Ma (by omega) (by omega)];omega)) (Aa.bnd (yBU (by omega) b3) ?_)
   rintro (x|x) hx
   case inr=>exact hx.elim
   dsimp only at hx
   subst hx
   unfold wl
   try dsimp only
   have hf:=Q7 h6
   have h5:(Mb Ab Za W0 (Zb t)).1.db.length=5:=Hx F
   refine Aa.bnd (yBN F.ok.ok (by have:=Hx F;omega) (o:=(Mb Ab Za W0 (Zb t)).2) (by omega)) ?_
   rintro (x|x) hx
   case inr=>exact hx.elim
   dsimp only at hx
   subst hx
   refine .some ?_
   show _=(bs (Mf Ab Za t),())
   unfold Mf
   rw [if_neg (by omega)]
theorem WS (t:List UInt8) (ht:t.length≤4000000000000000000):Xv (bs t,())=some (bs (Mf Ab Za t),()):=by
  unfold Xv
  simp only [Ob,Ta]
  refine Aa.out (Aa.ite (fun h=>?_) (fun h=>?_))
  ·have h:=oT h
   refine .some ?_
   show _=(bs (Mf Ab Za t),())
   unfold Mf
   rw [if_pos (by omega)];rfl
  ·have h:=oF h
   have h6:t.length≤600:=by omega
   obtain ⟨b1,b2,b3,b4⟩:=P7 h6
   have F:=JB Ab Za Eo (Zb t)
   have hN:=zGj 5 Oe VS
   rw [mG] at hN
   refine Ka (show Wv ()=some (5,Oe,()) from rfl) (Ka hN (Ka (lO 10 (by omega)) ?_))
   try dsimp only
   refine Aa.bnd (yBV b2 b4 (by omega) b3) ?_
   rintro (x|x) hx
   case inr=>exact hx.elim
   dsimp only at hx
   subst hx
   unfold wl
   try dsimp only
   have hf:=Q7 h6
   refine Ka (zFQ F.ok) ?_
   simp only [Tc,Ob]
   refine Aa.gd (decide_eq_true (by have h1:=hf.1;have h2:=hf.2;omega)) (.some ?_)
   show _=(bs (Mf Ab Za t),())
   unfold Mf
   rw [if_neg (by omega)]
end
section
open Go.RowKit
theorem Fj (a b:ByteArray):(Da a b).size=a.size+b.size:=by
  obtain ⟨x,rfl⟩:=OW a
  obtain ⟨y,rfl⟩:=OW b
  rw [Tc,Ob,Ob,Ob,List.length_append]
theorem Aa.of {β:Type} {b:List Int} {p:Int} {zs:List ByteArray} {f:ByteArray×List Int×Int×Unit→Option β} {Q:β→Prop} (hB:IB b) (h0:0≤p) (h1:p≤1000000000) (hn:1≤zs.length∧zs.length≤100) (hz:∀z∈zs,z.size≤10) (k:∀z:ByteArray,z.size≤10→Aa (f (z,b,p+1,())) Q):Aa ((Oc (zs,b,p,())).bind f) Q:=by
  obtain ⟨x,e,q1,q2,q3⟩:=kL (n:=(zs.length:Int)) hB h0 h1
  have q2:=q2 (by omega)
  obtain ⟨i,rfl⟩:=Int.eq_ofNat_of_zero_le q1
  have hi:i<zs.length:=by omega
  have h2:=Px .str zs i hi
  refine Ka (r:=(Ba .str zs i,b,p+1,())) ?_ (k _ (hz _ (List.mem_of_getElem? h2)))
  unfold Oc
  simp only [Ta]
  refine Aa.out (Ka e ?_)
  exact Aa.gd (Ia (by omega) (by omega)) (.some rfl)
set_option maxHeartbeats 4000000 in
theorem R7 {b:List Int} (hB:IB b) {p:Int} (h0:0≤p) (h1:p≤10000000):Aa (VA (b,p,())) fun r=>∃(z:ByteArray) (p':Int),r=(z,b,p',())∧z.size≤60∧p≤p'∧p'≤p+8:=by
  unfold VA
  try dsimp only
  refine Aa.of hB (by omega) (by omega) (by decide) (by decide) (fun z0 hz0=>?_)
  try dsimp only
  refine Aa.of hB (by omega) (by omega) (by decide) (by decide) (fun z1 hz1=>?_)
  try dsimp only
  refine Aa.pick hB (by omega) (by omega) (fun x _ _ _=>?_)
  try dsimp only
  repeat' (first
    |(exfalso;omega)
    |refine Aa.some ?_
    |(refine Aa.of hB (by omega) (by omega) (by decide) (by decide) (fun z hz=>?_);try dsimp only)
    |(refine Aa.gd (decide_eq_true (by simp only [Fj,Ob,List.length_cons,List.length_nil];omega)) ?_)
    |(refine Aa.ite (fun h=>?_) (fun h=>?_)<;>simp only [decide_eq_true_eq,decide_eq_false_iff_not] at h))
  all_goals try dsimp only
  all_goals exact ⟨_,_,rfl,by (try simp only [Fj,Ob,List.length_cons,List.length_nil]);omega,by omega,by omega⟩
theorem yBW {z:ByteArray} {k:Int} (hz:z.size≤10) (h0:0≤k) (h1:k≤127):Aa (KR (z,k,())) fun r=>∃o:ByteArray,r=(o,())∧o.size≤1270:=by
  unfold KR
  refine Aa.bnd (R:=fun r=>match r with| .inl x=>∃o:ByteArray,x=(o,())∧o.size≤1270| .inr _=>False) ?_ ?_
  ·refine Aa.loop (fun s=>∃(z:ByteArray) (k:Nat) (o:ByteArray),s=(z,(k:Int),o,())∧k≤127∧o.size+z.size*k≤1270) (fun s=>s.2.1.toNat) ?_ Ea _ ?_ ?_
   ·rintro s ⟨z,k,o,rfl,hk,hb⟩
    unfold JR
    try dsimp only
    have e1:Int.tdiv (k:Int) 2=((k / 2:Nat):Int):=by rw [Int.tdiv_eq_ediv_of_nonneg (by omega)];omega
    have e2:Int.tmod (k:Int) 2=((k % 2:Nat):Int):=by rw [Int.tmod_eq_emod_of_nonneg (by omega)];omega
    refine Aa.ite (fun h=>?_) (fun h=>?_)
    ·have h:=oT h
     have hz:z.size≤z.size*k:=Nat.le_mul_of_pos_right _ (by omega)
     rw [e1,e2,Ma (by omega) (by omega)]
     have hd:=Nat.div_add_mod k 2
     have key:z.size*k=(z.size+z.size)*(k / 2)+z.size*(k % 2):=by
       rw [←Nat.two_mul,Nat.mul_comm 2 z.size,Nat.mul_assoc,←Nat.mul_add,hd]
     refine Aa.ite (fun h2=>?_) (fun h2=>?_)
     ·have h2:=oT h2
      have h3:k % 2=1:=by omega
      rw [h3,Nat.mul_one] at key
      refine Aa.gd (decide_eq_true (by omega)) (Aa.gd (decide_eq_true (by omega)) (.some ⟨⟨_,_,_,rfl,by omega,?_⟩,?_⟩))
      ·rw [Fj,Fj];omega
      ·dsimp only;omega
     ·have h2:=oF h2
      have h3:k % 2=0:=by omega
      rw [h3,Nat.mul_zero] at key
      refine Aa.gd (decide_eq_true (by omega)) (.some ⟨⟨_,_,_,rfl,by omega,?_⟩,?_⟩)
      ·rw [Fj];omega
      ·dsimp only;omega
    ·exact .some ⟨_,rfl,by omega⟩
   ·show Int.toNat k<Ea
    have:=Ib (n:=k.toNat) (by omega)
    exact this
   ·refine ⟨z,k.toNat,_,by rw [show ((k.toNat:Nat):Int)=k by omega],by omega,?_⟩
    have h3:z.size*k.toNat≤10*127:=Nat.mul_le_mul hz (by omega)
    rw [Ob,List.length_nil]
    omega
  ·rintro (x|x) hx
   case inr=>exact hx.elim
   obtain ⟨o,rfl,ho⟩:=hx
   exact .some ⟨o,rfl,ho⟩
theorem yBX {b:List Int} (hB:IB b) {n:Int} (hn:0≤n) (hn1:n<30) {p:Int} (h0:0≤p) (h1:p≤1000000):Aa (lp LJ Ea (bs [],n,0,b,p,())) fun r=>match r with| .inl x=>∃(z:ByteArray) (p':Int),x=(z,b,p',())∧z.size≤3000∧p≤p'∧p'≤p+1000| .inr _=>False:=by
  refine Aa.count n.toNat (fun k s=>∃(z:ByteArray) (p':Int),s=(z,n,(k:Int),b,p',())∧z.size≤61*k∧p≤p'∧p'≤p+8*k) ?_ (Nat.zero_le _) (Ib (by omega)) ⟨_,p,rfl,by rw [Ob];simp,by omega,by omega⟩
  rintro k s hk ⟨z,p',rfl,hz,q1,q2⟩
  unfold LJ
  try dsimp only
  refine Aa.ite (fun h=>?_) (fun h=>?_)
  ·have h:=oT h
   refine Aa.bnd (R7 hB (by omega) (by omega)) ?_
   rintro _ ⟨y,p2,rfl,hy,r1,r2⟩
   try dsimp only
   rw [Fj,Ob]
   refine Aa.gd (decide_eq_true (by omega)) (Aa.gd (decide_eq_true (by simp only [List.length_cons,List.length_nil];omega)) (.some ⟨by omega,_,_,by rw [Ma (by omega) (by omega)];rfl,?_,by omega,by omega⟩))
   rw [Fj,Fj,Ob]
   simp only [List.length_cons,List.length_nil]
   omega
  ·exact .some ⟨z,p',rfl,by omega,by omega,by omega⟩
theorem XS {c:List Int} (hz:∀z∈c,0≤z∧z<256) (hl:Cb c):Aa (Rw (c,())) fun r=>∃t:List UInt8,r=(bs t,())∧t.length≤6000:=by
  obtain ⟨b,e,hB⟩:=yA1 hz hl
  have Dd:∀{z:ByteArray},z.size≤6000→∃t:List UInt8,(z,())=(bs t,())∧t.length≤6000:=fun {z} h=>by
    obtain ⟨t,rfl⟩:=OW z
    exact ⟨t,rfl,by rwa [Ob] at h⟩
  unfold Rw
  refine Ka e ?_
  try dsimp only
  refine Aa.pick hB (by omega) (by omega) (fun n n0 n1 _=>?_)
  have n1:=n1 (by omega)
  try dsimp only
  refine Aa.bnd (yBX hB n0 n1 (by omega) (by omega)) ?_
  rintro (x|x) hx
  case inr=>exact hx.elim
  obtain ⟨z,p',rfl,hz,q1,q2⟩:=hx
  try dsimp only
  refine Aa.pick hB (by omega) (by omega) (fun x4 _ _ _=>?_)
  try dsimp only
  refine Aa.ite (fun _=>?_) (fun _=>?_)
  ·refine Aa.pick hB (by omega) (by omega) (fun x5 y5 z5 _=>?_)
   have z5:=z5 (by omega)
   try dsimp only
   rw [Ma (by omega) (by omega)]
   refine Aa.bnd (yBW (by rw [Ob];decide) (by omega) (by omega)) ?_
   rintro _ ⟨o,rfl,ho⟩
   try dsimp only
   refine Aa.gd (decide_eq_true (by omega)) (Aa.pick hB (by omega) (by omega) (fun x7 _ _ _=>?_))
   try dsimp only
   refine Aa.ite (fun _=>?_) (fun _=>?_)
   ·refine Aa.bnd (R7 hB (by omega) (by omega)) ?_
    rintro _ ⟨y,p2,rfl,hy,_,_⟩
    try dsimp only
    rw [Fj]
    exact Aa.gd (decide_eq_true (by omega)) (.some (Dd (by rw [Fj,Fj];omega)))
   ·exact .some (Dd (by rw [Fj];omega))
  ·refine Aa.pick hB (by omega) (by omega) (fun x9 _ _ _=>?_)
   try dsimp only
   refine Aa.ite (fun _=>?_) (fun _=>?_)
   ·refine Aa.bnd (R7 hB (by omega) (by omega)) ?_
    rintro _ ⟨y,p2,rfl,hy,_,_⟩
    try dsimp only
    exact Aa.gd (decide_eq_true (by omega)) (.some (Dd (by rw [Fj];omega)))
   ·exact .some (Dd (by omega))
end
section
open Go.RowKit
open Go.Lib (itoa decDigits)
theorem yBY {o s:List UInt8} (hL:U6 o s) (hb:o.length+s.length≤1000000000):∀j m,j≤s.length→j+1<m→Aa (lp Pp m (bs (o++s),(((s.drop j).count 10:Nat):Int),((o.length+j:Nat):Int)-1,())) fun r=>match r with| .inl x=>x=(bs s,())| .inr y=>y=(bs s,()):=by
  intro j
  induction j with
  |zero =>
   intro m _ hm
   obtain ⟨m,rfl⟩:∃m',m=m'+1:=⟨m-1,by omega⟩
   refine Gh ?_
   generalize lp Pp m=F
   unfold Pp
   try dsimp only
   rw [List.drop_zero,hL.2.1]
   rcases hL.1 with rfl|⟨a,rfl⟩
   ·exact Aa.no (dF (by simp)) (.some rfl)
   ·rw [List.length_append,List.length_singleton] at hb ⊢
    have e1:Int.toNat (((a.length+1+0:Nat):Int)-1)=a.length:=by omega
    have hx:(a++[10]++s)[a.length]? =some 10:=by simp
    simp only [Ob,e1,Xp hx,List.length_append,List.length_singleton]
    refine Aa.gd (decide_eq_true (by omega)) (Aa.gd (Ia (by omega) (by omega)) (Aa.gd rfl ?_))
    refine Aa.gd (decide_eq_true (by rw [Ma (by omega) (by omega)];rfl)) (Aa.gd (Uq (by rw [Ma (by omega) (by omega)];omega) (by rw [Ma (by omega) (by omega)];omega) (by omega)) (.some ?_))
    rw [Ma (by omega) (by omega)]
    have e2:Int.toNat (((a.length+1+0:Nat):Int)-1+1)=(a++[10]).length:=by rw [List.length_append,List.length_singleton];omega
    rw [e2,ID,List.drop_left,List.take_of_length_le (by rw [List.length_append,List.length_singleton];omega)]
  |succ j ih =>
   intro m hj hm
   obtain ⟨m,rfl⟩:∃m',m=m'+1:=⟨m-1,by omega⟩
   refine Gh ?_
   have ih:=ih m
   generalize lp Pp m=F at ih ⊢
   obtain ⟨x,hx⟩:∃x,s[j]? =some x:=⟨_,List.getElem?_eq_getElem (show j<s.length by omega)⟩
   have hx2:(o++s)[o.length+j]? =some x:=by rw [List.getElem?_append_right (by omega),Nat.add_sub_cancel_left];exact hx
   have e1:Int.toNat (((o.length+(j+1):Nat):Int)-1)=o.length+j:=by omega
   have hd:s.drop j=x::s.drop (j+1):=by
     rw [List.getElem?_eq_getElem (show j<s.length by omega)] at hx
     injection hx with hx
     rw [←hx,List.drop_eq_getElem_cons]
   have hc:(s.drop j).count 10≤5:=by rw [←hL.2.1];exact (List.drop_sublist j s).count_le 10
   rw [hd,List.count_cons] at ih hc
   generalize (s.drop (j+1)).count 10=n at *
   unfold Pp
   simp only [Ob,e1,Xp hx2,List.length_append]
   have e3:wrap64 (((o.length+(j+1):Nat):Int)-1-1)=((o.length+j:Nat):Int)-1:=by rw [Ma (by omega) (by omega)];omega
   refine Aa.gd (decide_eq_true (by omega)) (Aa.gd (Ia (by omega) (by omega)) (Aa.ite (fun h=>?_) (fun h=>?_)))
   ·have h:x=10:=by
      have h:=oT h
      exact UInt8.toNat_inj.1 (by have:(10:UInt8).toNat=10:=rfl;omega)
    subst h
    rw [if_pos (by decide)] at ih hc
    refine Aa.no (dF (by rw [Ma (by omega) (by omega)];omega)) (.some ?_)
    rw [e3,Ma (by omega) (by omega)]
    exact ih (by omega) (by omega)
   ·have h:x≠10:=fun e=>by
      have h:=oF h
      subst e
      exact h rfl
    rw [if_neg (by simpa using h)] at ih hc
    refine Aa.no (dF (by omega)) (.some ?_)
    rw [e3]
    exact ih (by omega) (by omega)
theorem YS {o s:List UInt8} (hL:U6 o s) (hb:o.length+s.length≤1000000000):Pj (bs (o++s),())=some (bs s,()):=by
  unfold Pj
  have h:=yBY hL hb s.length Ea (Nat.le_refl _) (by have:=Ib (n:=s.length+1) (by omega);exact this)
  rw [List.drop_length] at h
  simp only [Ob,Ta,List.length_append]
  rw [Ma (by omega) (by omega)]
  refine Aa.out (Aa.bnd h ?_)
  rintro (x|x) hx
  ·dsimp only at hx;subst hx;exact .some rfl
  ·dsimp only at hx;subst hx;exact .some rfl
theorem S7 {t:List UInt8} (ht:t.length≤1000000):Aa (Qw (bs t,())) fun r=>∃c,r=(bs c,())∧Vp t c:=by
  have scan:∀(a b:List UInt8),(∀x∈b,x≠10)→a.length+b.length≤1000000→∀k m,k≤b.length→∀Q:Unit⊕(ByteArray×Unit)→Prop,(∀m',m'+k=m→Aa (lp Am m' (bs (a++b),(a.length:Int),())) Q)→k≤m→Aa (lp Am m (bs (a++b),((a.length+k:Nat):Int),())) Q:=by
    intro a b hb hl k
    induction k with
    |zero=>intro m _ Q h _;exact h m rfl
    |succ k ih =>
     intro m hk Q h hm
     obtain ⟨m,rfl⟩:∃m',m=m'+1:=⟨m-1,by omega⟩
     refine Gh ?_
     have ih:=ih m (by omega) Q (fun m' e=>h m' (by omega)) (by omega)
     generalize lp Am m=F at ih ⊢
     obtain ⟨x,hx⟩:∃x,b[k]? =some x:=⟨_,List.getElem?_eq_getElem (show k<b.length by omega)⟩
     have hx2:(a++b)[a.length+k]? =some x:=by rw [List.getElem?_append_right (by omega),Nat.add_sub_cancel_left];exact hx
     have hne:=hb x (List.mem_of_getElem? hx)
     have e3:wrap64 (((a.length+(k+1):Nat):Int)-1)=((a.length+k:Nat):Int):=by rw [Ma (by omega) (by omega)];omega
     unfold Am
     simp only [Ob,e3,Ua,Xp hx2,List.length_append]
     refine Aa.gd (decide_eq_true (by omega)) (Aa.gd (Ia (by omega) (by omega)) (Aa.no (dF fun e=>hne (UInt8.toNat_inj.1 (by have:(10:UInt8).toNat=10:=rfl;omega))) (.some ih)))
  unfold Qw
  simp only [Ob,Ta]
  rcases kT t with h|⟨a,b,rfl,h⟩
  ·refine Aa.bnd (R:=fun r=>r=.inl ()) ?_ ?_
   ·have:=scan [] t h (by simp;omega) t.length Ea (Nat.le_refl _) (fun r=>r=.inl ()) ?_ (Nat.le_of_lt (Ib (by omega)))
    ·simpa using this
    ·intro m' hm
     have hf:=Ib (n:=t.length) (by omega)
     obtain ⟨m',rfl⟩:∃q,m'=q+1:=⟨m'-1,by omega⟩
     refine Gh ?_
     unfold Am
     exact Aa.no (dF (by simp)) (.some rfl)
   ·rintro _ rfl
    exact .some ⟨[],rfl,by simp,.inl ⟨rfl,kU h⟩⟩
  ·rw [List.length_append,List.length_cons] at ht
   refine Aa.bnd (R:=fun r=>r=.inr (bs (a++[10]),())) ?_ ?_
   ·have e0:a++10::b=(a++[10])++b:=by simp
    have:=scan (a++[10]) b h (by rw [List.length_append,List.length_singleton];omega) b.length Ea (Nat.le_refl _) (fun r=>r=.inr (bs (a++[10]),())) ?_ (Nat.le_of_lt (Ib (by omega)))
    ·rw [e0,List.length_append];exact this
    ·intro m' hm
     have hf:=Ib (n:=b.length) (by omega)
     obtain ⟨m',rfl⟩:∃q,m'=q+1:=⟨m'-1,by omega⟩
     refine Gh ?_
     generalize lp Am m'=F
     have hx2:(a++[10]++b)[a.length]? =some 10:=by simp
     have e3:wrap64 (((a.length+1:Nat):Int)-1)=(a.length:Int):=by rw [Ma (by omega) (by omega)];omega
     unfold Am
     simp only [Ob,List.length_append,List.length_singleton,e3,Ua,Xp hx2]
     refine Aa.gd (decide_eq_true (by omega)) (Aa.gd (Ia (by omega) (by omega)) (Aa.gd rfl (Aa.gd (Uq (by omega) (by omega) (by omega)) (.some ?_))))
     rw [show Int.toNat (0:Int)=0 from rfl,ID,List.drop_zero,Nat.sub_zero,List.take_append_of_le_length (by simp),List.take_of_length_le (by simp)]
   ·rintro _ rfl
    refine .some ⟨a++[10],rfl,by simp only [List.length_append,List.length_cons,List.length_nil];omega,.inr ⟨a,rfl,R6 h⟩⟩
end
section
open Go.RowKit
open Go.Lib (itoa decDigits)
theorem ZS (t:List UInt8):(Mf Ab Za t).length≤84002000:=by
  by_cases h:600<t.length
  ·unfold Mf
   rw [if_pos h];decide
  ·have:=Q7 (t:=t) (by omega)
   unfold Mf
   rw [if_neg h,List.length_append]
   omega
end
section
open Go.RowKit
open Go.Lib (itoa decDigits)
theorem yBZ {c:List Int} (hz:∀z∈c,0≤z∧z<256):A5 (c,())=some (true,()):=by
  unfold A5
  refine Aa.out (Aa.ite (fun _=>.some rfl) (fun h=>?_))
  have h:=oF h
  dsimp only at h
  rw [Ta] at h
  have hf:Cb c:=by unfold Cb;omega
  refine Aa.bnd (XS hz hf) ?_
  rintro _ ⟨t,rfl,ht⟩
  refine Ka (Io t (by omega)) (Ka (WS t (by omega)) ?_)
  try dsimp only
  rw [Ui,decide_eq_true rfl]
  refine Aa.no rfl ?_
  simp only [Ob,Ta]
  refine Aa.ite (fun h6=>?_) (fun h6=>?_)
  ·have h6:=oT h6
   refine .some ?_
   have e:Mf Ab Za t=kP:=by unfold Mf;rw [if_pos (by omega)]
   rw [e,Ui];rfl
  ·have h6:=oF h6
   obtain ⟨W,o,hr,F,ho,e⟩:=KS Ab Za (t:=t) (by omega)
   have hx:=ZS t
   have hL:=JS F ho
   have h85:=T6 F 5 (Nat.le_refl _)
   rw [e] at hx ⊢
   obtain ⟨a,ea⟩:=hL.2.2
   rw [List.length_append] at hx
   generalize He W.db 5=s at *
   have hg:(o++s)[o.length+s.length-1]? =some 10:=by
     rw [ea,←List.append_assoc,List.length_append,List.length_singleton,List.getElem?_append_right (by rw [List.length_append];omega),List.length_append]
     have:o.length+(a.length+1)-1-(o.length+a.length)=0:=by omega
     rw [this];rfl
   have e1:Int.toNat (wrap64 (((o++s).length:Int)-1))=o.length+s.length-1:=by rw [List.length_append,Ma (by omega) (by omega)];omega
   simp only [e1,Xp hg]
   refine Aa.gd (Ia (by rw [List.length_append,Ma (by omega) (by omega)];omega) (by rw [List.length_append,Ma (by omega) (by omega)];omega)) (Aa.gd rfl (Ka (YS hL (by omega)) (.some ?_)))
   simp only [Ob]
   rw [decide_eq_true (by omega)]
theorem yB0 {c:List Int} (hz:∀z∈c,0≤z∧z<256):B5 (c,())=some (true,()):=by
  unfold B5
  refine Aa.out (Aa.ite (fun _=>.some rfl) (fun h=>?_))
  have h:=oF h
  dsimp only at h
  rw [Ta] at h
  have hf:Cb c:=by unfold Cb;omega
  refine Aa.bnd (XS hz hf) ?_
  rintro _ ⟨t,rfl,ht⟩
  refine Ka (Io t (by omega)) (Ka (WS t (by omega)) ?_)
  try dsimp only
  rw [Ui,decide_eq_true rfl]
  refine Aa.no rfl ?_
  simp only [Ob,Ta]
  refine Aa.ite (fun h6=>?_) (fun h6=>?_)
  ·exact .some rfl
  ·have h6:=oF h6
   obtain ⟨W,o,hr,F,ho,e⟩:=KS Ab Za (t:=t) (by omega)
   refine Aa.bnd (S7 (by omega)) ?_
   rintro _ ⟨d,rfl,hC⟩
   have hd:=hC.1
   refine Ka (Io d (by omega)) (.some ?_)
   rw [V6 Ab Za hC (by omega) hr F,←e,Ui,decide_eq_true rfl]
theorem yB1 (W:Wd):Vc Ab Za W [117,110,107,110,111,119,110]=(W,kO):=by rfl
theorem yB2 {c:List Int} (hz:∀z∈c,0≤z∧z<256):C5 (c,())=some (true,()):=by
  unfold C5
  refine Aa.out (Aa.ite (fun _=>.some rfl) (fun h=>?_))
  have h:=oF h
  dsimp only at h
  rw [Ta] at h
  have hf:Cb c:=by unfold Cb;omega
  refine Aa.bnd (XS hz hf) ?_
  rintro _ ⟨t,rfl,ht⟩
  refine Ka (Io t (by omega)) (Ka (WS t (by omega)) ?_)
  try dsimp only
  rw [Ui,decide_eq_true rfl]
  refine Aa.no rfl ?_
  simp only [Ob,Ta]
  refine Aa.ite (fun h6=>?_) (fun h6=>?_)
  ·exact .some rfl
  ·have h6:=oF h6
   rw [Ma (by omega) (by omega)] at h6
   obtain ⟨W,o,hr,F,ho,e⟩:=KS Ab Za (t:=t) (by omega)
   obtain ⟨_,e9,d,rfl,hC⟩:=S7 (t:=t) (by omega)
   have hd:=hC.1
   have x1:=V6 Ab Za hC (by omega) hr F
   have x2:=lD Ab Za hC (s:=[117,110,107,110,111,119,110]) (by decide) (by simp;omega) hr F
   rw [yB1] at x2
   have hx:=ZS d
   have hL:=JS F ho
   have e2:=Io d (by omega)
   have e3:=Io (d++([117,110,107,110,111,119,110]++[10])) (by simp;omega)
   rw [x1] at hx e2
   rw [x2] at e3
   rw [List.length_append] at hx
   generalize He W.db 5=s at *
   refine Ka e9 ?_
   try dsimp only
   simp only [Ob,Tc]
   refine Aa.gd (decide_eq_true (by simp only [List.length_cons,List.length_nil];omega)) (Ka e3 (Ka e9 (Ka e2 (Ka (YS hL (by omega)) ?_))))
   simp only [Ob,Ta,List.length_append]
   have e5:wrap64 (((o.length+s.length:Nat):Int)-(s.length:Int))=(o.length:Int):=by rw [Ma (by omega) (by omega)];omega
   rw [e5,Ua,show Int.toNat (0:Int)=0 from rfl,ID,List.drop_zero,Nat.sub_zero,List.take_left]
   simp only [Ob,Tc,List.length_append,List.length_cons,List.length_nil]
   refine Aa.gd (Uq (by omega) (by omega) (by omega)) (Aa.gd (decide_eq_true (by omega)) (Aa.gd (decide_eq_true (by omega)) (.some ?_)))
   rw [Ui]
   exact congrArg (fun b=>(b,())) (decide_eq_true rfl)
theorem VK {W:Wd} {o d t q:List UInt8} (hC:Vp t d) (hd:d.length≤600) (hr:Mb Ab Za W0 (Zb t)=(W,o)) (F:Nf W) (ho:Me o) (hq:∀x∈q,x≠10) (hl:d.length+q.length+1≤600) (hn:(Vc Ab Za W q).1=W) :     ∃y,Rg (Da (bs d) (bs (q++[10])),())=some (y,())∧Pj (y,())=some (bs (He W.db 5),()):=by
  have x2:=lD Ab Za hC hq hl hr F
  have hx:=ZS (d++(q++[10]))
  rw [x2,hn] at hx
  rw [List.length_append,List.length_append] at hx
  have hL:=JS F (ho.app (kZ Ab Za W q))
  refine ⟨_,?_,YS hL (by rw [List.length_append];omega)⟩
  rw [Tc,Io _ (by simp;omega),x2,hn]
theorem yB3 (W:Wd):(Vc Ab Za W [110,101,116]).1=W:=by rfl
theorem yB4 (W:Wd):(Vc Ab Za W [112,97,116,104,32,48,32,51]).1=W:=by rfl
theorem yB5 (W:Wd):(Vc Ab Za W [115,101,101,110,32,49,32,50]).1=W:=by rfl
theorem yB6 (W:Wd):(Vc Ab Za W [114,101,112,97,105,114,32,48,32,48,32,49]).1=W:=by rfl
theorem yB7 (W:Wd):(Vc Ab Za W [111,114,100,101,114,32,48,32,49]).1=W:=by rfl
theorem yB8 {c:List Int} (hz:∀z∈c,0≤z∧z<256):D5 (c,())=some (true,()):=by
  unfold D5
  refine Aa.out (Aa.ite (fun _=>.some rfl) (fun h=>?_))
  have h:=oF h
  dsimp only at h
  rw [Ta] at h
  have hf:Cb c:=by unfold Cb;omega
  refine Aa.bnd (XS hz hf) ?_
  rintro _ ⟨t,rfl,ht⟩
  refine Ka (Io t (by omega)) (Ka (WS t (by omega)) ?_)
  try dsimp only
  rw [Ui,decide_eq_true rfl]
  refine Aa.no rfl ?_
  simp only [Ob,Ta]
  refine Aa.ite (fun h6=>?_) (fun h6=>?_)
  ·exact .some rfl
  ·have h6:=oF h6
   rw [Ma (by omega) (by omega)] at h6
   obtain ⟨W,o,hr,F,ho,e⟩:=KS Ab Za (t:=t) (by omega)
   obtain ⟨_,e9,d,rfl,hC⟩:=S7 (t:=t) (by omega)
   have hd:=hC.1
   have x1:=V6 Ab Za hC (by omega) hr F
   have hx:=ZS d
   have hL:=JS F ho
   have e2:=Io d (by omega)
   rw [x1] at hx e2
   rw [List.length_append] at hx
   obtain ⟨y1,a1,b1⟩:=VK (q:=[110,101,116]) hC (by omega) hr F ho (by decide) (by simp;omega) (yB3 W)
   obtain ⟨y2,a2,b2⟩:=VK (q:=[112,97,116,104,32,48,32,51]) hC (by omega) hr F ho (by decide) (by simp;omega) (yB4 W)
   obtain ⟨y3,a3,b3⟩:=VK (q:=[115,101,101,110,32,49,32,50]) hC (by omega) hr F ho (by decide) (by simp;omega) (yB5 W)
   obtain ⟨y4,a4,b4⟩:=VK (q:=[114,101,112,97,105,114,32,48,32,48,32,49]) hC (by omega) hr F ho (by decide) (by simp;omega) (yB6 W)
   obtain ⟨y5,a5,b5⟩:=VK (q:=[111,114,100,101,114,32,48,32,49]) hC (by omega) hr F ho (by decide) (by simp;omega) (yB7 W)
   have eq1:∀s:List UInt8,Ec (bs s) (bs s)=true:=fun s=>by rw [Ui,decide_eq_true rfl]
   refine Ka e9 (Ka e2 (Ka (YS hL (by omega)) ?_))
   refine Aa.gd (decide_eq_true (by (try dsimp only);(try simp only [Ob]);simp only [List.length_cons,List.length_nil];omega)) (Ka a1 (Ka b1 (Aa.gd (eq1 _) ?_)))
   refine Aa.gd (decide_eq_true (by (try dsimp only);(try simp only [Ob]);simp only [List.length_cons,List.length_nil];omega)) (Ka a2 (Ka b2 (Aa.gd (eq1 _) ?_)))
   refine Aa.gd (decide_eq_true (by (try dsimp only);(try simp only [Ob]);simp only [List.length_cons,List.length_nil];omega)) (Ka a3 (Ka b3 (Aa.gd (eq1 _) ?_)))
   refine Aa.gd (decide_eq_true (by (try dsimp only);(try simp only [Ob]);simp only [List.length_cons,List.length_nil];omega)) (Ka a4 (Ka b4 (Aa.gd (eq1 _) ?_)))
   refine Aa.gd (decide_eq_true (by (try dsimp only);(try simp only [Ob]);simp only [List.length_cons,List.length_nil];omega)) (Ka a5 (Ka b5 (.some ?_)))
   try dsimp only
   rw [eq1]
end
end Go.Proofs.YtjffopopheiinaaGreatDoor
