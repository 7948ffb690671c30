/- Part 5 of the proof: Pk1 UD Pr Ps Py SW Pe1 Pe2 Pz Px Pw1 Pw Pw2 Pw3 Pw4 Pw5 Pw8 SV Pe3 Pe4 Pe5 Pe6 Pe7 Pe8 Pe9 Pk5 KX UE. -/
import Derived.Test.YtknkhdjhongklaaGreatQz4
set_option linter.unusedSimpArgs false
set_option linter.unusedVariables false
set_option maxRecDepth 100000
namespace Go.Proofs.YtknkhdjhongklaaGreat
section
open Go.RowKit
theorem sv {α β:Type} {o:Option α} {f:α→Option β} {r:α} {Q:β→Prop} (h:o=some r) (k:Aa (f r) Q):Aa (o.bind f) Q:=by subst h;exact k
theorem Jt (τ:Ty) (xs:List (El τ)) (i:Nat) (v:El τ) (h:i<xs.length):Ba τ (xs.set i v) i=v:=by
  have h1:=Ao τ (xs.set i v) i (by rw [List.length_set];exact h)
  rw [List.getElem?_set_self h] at h1
  exact (Option.some.inj h1).symm
theorem kG {α:Type} (xs:List α) (d:α) {x:α} {k:Nat} (hx:xs[k]? =some x):(xs.take k++List.replicate (xs.length-k) d).set k x=xs.take (k+1)++List.replicate (xs.length-(k+1)) d:=by
  have hk:=(List.getElem?_eq_some_iff.1 hx).1
  rw [List.set_append_right _ _ (by rw [List.length_take];omega),List.length_take,Nat.min_eq_left (by omega),Nat.sub_self,show xs.length-k=(xs.length-(k+1))+1 by omega,List.replicate_succ,List.set_cons_zero,List.take_add_one,hx]
  simp
theorem kH (ls:List Lk) (i:Nat) (v:Lk) (h:i<ls.length):lk (ls.set i v) i=v:=by rw [←Mg];exact Jt .lk ls i v h
theorem kI (ls:List En) (i:Nat) (v:En) (h:i<ls.length):en (ls.set i v) i=v:=by rw [←D3];exact Jt .en ls i v h
theorem kJ (ls:List Int) (i:Nat) (v:Int) (h:i<ls.length):iz (ls.set i v) i=v:=by rw [←Gj];exact Jt .int ls i v h
theorem G3 {α:Type} {B:(List α×Int×List α×Unit)→Option ((List α×Int×List α×Unit)⊕((List α×Unit)⊕Unit))} (xs:List α) (d:α) (hx:xs.length≤16777216)
    (hB:∀(k:Nat) (x:α) (out:List α),xs[k]? =some x→out.length=xs.length→B (xs,(k:Int),out,())=some (.inl (xs,((k+1:Nat):Int),out.set k x,())))
    (hE:∀out:List α,B (xs,(xs.length:Int),out,())=some (.inr (.inl (out,())))):lp B Fa (xs,(0:Int),List.replicate xs.length d,())=some (.inl (xs,())):=by
  refine Aa.out (Aa.count xs.length (fun k t=>t=(xs,(k:Int),xs.take k++List.replicate (xs.length-k) d,())) ?_ (Nat.zero_le _) (Rc (by omega)) (by simp))
  rintro k t hk rfl
  by_cases hlt:k<xs.length
  ·have hx:=List.getElem?_eq_getElem hlt
   rw [hB k _ _ hx (by simp;omega)]
   exact .some ⟨hlt,by rw [kG xs d hx]⟩
  ·obtain rfl:k=xs.length:=by omega
   rw [hE]
   exact .some (by simp)
theorem Hn {α:Type} {B:(List α×List α×Int×Unit)→Option ((List α×List α×Int×Unit)⊕(Unit⊕(Bool×Unit)))} (xs:List α) (hx:Fb xs)
    (hB:∀(k:Nat) (x:α),xs[k]? =some x→B (xs,xs,(k:Int),())=some (.inl (xs,xs,((k+1:Nat):Int),())))
    (hE:B (xs,xs,(xs.length:Int),())=some (.inr (.inl ()))):lp B Fa (xs,xs,(0:Int),())=some (.inl ()):=by
  refine Aa.out (Aa.count xs.length (fun k t=>t=(xs,xs,(k:Int),())) ?_ (Nat.zero_le _) (Rc hx) rfl)
  rintro k t hk rfl
  by_cases hlt:k<xs.length
  ·rw [hB k _ (List.getElem?_eq_getElem hlt)]
   exact .some ⟨hlt,rfl⟩
  ·obtain rfl:k=xs.length:=by omega
   rw [hE]
   exact .some rfl
def Sc {α:Type} (c:Nat) (f:Int→α) (k:Int) (n:Nat):List α:=(List.range n).map fun i:Nat=>f (k+c*i)
theorem Kh {α:Type} (c:Nat) (f:Int→α) (k:Int) (n:Nat):(Sc c f k n).length=n:=by simp [Sc]
theorem kK {α:Type} (c:Nat) (f:Int→α) (k:Int) (n:Nat):Sc c f k (n+1)=Sc c f k n++[f (k+c*n)]:=by simp [Sc,List.range_succ]
theorem BO {α:Type} (c:Nat) (f:Int→α) (k:Int) (n i:Nat) (h:i<n):(Sc c f k n)[i]? =some (f (k+c*i)):=by simp [Sc,h]
theorem Xx {α:Type} {B:(Int×Int×List α×Unit)→Option ((Int×Int×List α×Unit)⊕((Int×List α×Unit)⊕Unit))} (c:Nat) (f:Int→α) (xs:List α) (k:Int) (h0:0≤k) (hx:xs.length≤4000000000) (hk:k+c*xs.length≤1000000000000)
    (hB:∀(i:Nat) (q:Int) (l:List α),i<l.length→l.length≤4000000000→0≤q→q≤1000000000000→B (q,(i:Int),l,())=some (.inl (q+c,((i+1:Nat):Int),l.set i (f q),())))
    (hE:∀(q:Int) (l:List α),B (q,(l.length:Int),l,())=some (.inr (.inl (q,l,())))):lp B Fa (k,(0:Int),xs,())=some (.inl (k+c*xs.length,Sc c f k xs.length,())):=by
  refine Aa.out (Aa.count xs.length (fun i t=>t=(k+c*i,(i:Int),Sc c f k i++xs.drop i,())) ?_ (Nat.zero_le _) (Rc (by omega)) (by simp [Sc]))
  rintro i t hi rfl
  have hl:(Sc c f k i++xs.drop i).length=xs.length:=by rw [List.length_append,Kh,List.length_drop];omega
  have hci:(c:Int)*i≤c*xs.length:=Int.mul_le_mul_of_nonneg_left (by omega) (by omega)
  have hc0:0≤(c:Int)*i:=Int.mul_nonneg (by omega) (by omega)
  by_cases hlt:i<xs.length
  ·rw [hB i _ _ (by omega) (by omega) (by omega) (by omega)]
   refine .some ⟨hlt,?_⟩
   have e:(Sc c f k i++xs.drop i).set i (f (k+c*i))=Sc c f k (i+1)++xs.drop (i+1):=by
     rw [List.set_append_right _ _ (by rw [Kh];exact Nat.le_refl _),Kh,Nat.sub_self,kK,List.drop_eq_getElem_cons hlt,List.set_cons_zero,List.append_assoc]
     rfl
   rw [e,show k+(c:Int)*i+c=k+c*((i+1:Nat):Int) by rw [Int.natCast_add,Int.mul_add];simp;omega]
  ·obtain rfl:i=xs.length:=by omega
   have:=hE (k+c*xs.length) (Sc c f k xs.length++xs.drop xs.length)
   rw [hl] at this
   rw [this]
   exact .some (by simp)
theorem GG {α:Type} {B:(List α×Int×Int×Unit)→Option ((List α×Int×Int×Unit)⊕((Int×Unit)⊕(Int×Unit)))} (c:Nat) (f:Int→α) (n:Nat) (k:Int) (h0:0≤k) (hx:n≤4000000000) (hk:k+c*n≤1000000000000)
    (hB:∀(i:Nat) (q:Int) (l:List α),l[i]? =some (f q)→l.length≤4000000000→0≤q→q≤1000000000000→B (l,q,(i:Int),())=some (.inl (l,q+c,((i+1:Nat):Int),())))
    (hE:∀(q:Int) (l:List α),B (l,q,(l.length:Int),())=some (.inr (.inl (q,())))):lp B Fa (Sc c f k n,k,(0:Int),())=some (.inl (k+c*n,())):=by
  refine Aa.out (Aa.count n (fun i t=>t=(Sc c f k n,k+c*i,(i:Int),())) ?_ (Nat.zero_le _) (Rc (by omega)) (by simp))
  rintro i t hi rfl
  have hci:(c:Int)*i≤c*n:=Int.mul_le_mul_of_nonneg_left (by omega) (by omega)
  have hc0:0≤(c:Int)*i:=Int.mul_nonneg (by omega) (by omega)
  by_cases hlt:i<n
  ·rw [hB i _ _ (BO c f k n i hlt) (by rw [Kh];omega) (by omega) (by omega)]
   refine .some ⟨hlt,?_⟩
   rw [show k+(c:Int)*i+c=k+c*((i+1:Nat):Int) by rw [Int.natCast_add,Int.mul_add];simp;omega]
  ·obtain rfl:i=n:=by omega
   have:=hE (k+c*i) (Sc c f k i)
   rw [Kh] at this
   rw [this]
   exact .some rfl
theorem Eg {τ:Ty} {xs:List (El τ)} {i:Nat} {x:El τ} (h:xs[i]? =some x):Ba τ xs i=x:=by
  have:=Ao τ xs i (List.getElem?_eq_some_iff.1 h).1
  rw [h] at this
  exact (Option.some.inj this).symm
theorem Nf {α:Type} {xs:List α} {i:Nat} {x:α} (h:xs[i]? =some x):i<xs.length:=(List.getElem?_eq_some_iff.1 h).1
def Ji (q:Int):Lk:=⟨q,q+1,q+2⟩
def Tl (q:Int):En:=⟨q,q+1⟩
theorem kL (xs:List Lk) (h:xs.length≤16777216):OF (xs,())=some (xs,()):=by
  unfold OF
  simp only [Oa,Xa]
  refine Aa.out (Aa.gd (by simp;omega) (sv (G3 xs _ h (fun k x out hx ho=>?_) (fun out=>?_)) (.some rfl)))
  ·have hk:=Nf hx
   simp (disch:=omega) only [Yw,Eg (τ:=.lk) hx,Xa,Ya,Oa,Option.bind_some,KN]
   exact Aa.out (Aa.gd (decide_eq_true (by omega)) (Aa.gd (Ka (by omega) (by omega)) (Aa.gd (Ka (by omega) (by omega)) (.some rfl))))
  ·simp only [Yw,Oa]
   exact Aa.out (Aa.no (dF (by omega)) (.some rfl))
theorem kM (xs:List Lk) (h:Fb xs):QF (xs,xs,())=some (true,()):=by
  unfold QF
  unfold Fb at h
  simp only [Oa]
  refine Aa.out (Aa.no (by simp) (sv (Hn xs h (fun k x hx=>?_) ?_) (.some rfl)))
  ·have hk:=Nf hx
   simp (disch:=omega) only [Bx,Eg (τ:=.lk) hx,Xa,Ya,Oa,Option.bind_some,decide_true,Bool.not_true,cond_false,LN]
   exact Aa.out (Aa.gd (decide_eq_true (by omega)) (Aa.gd (Ka (by omega) (by omega)) (Aa.gd (Ka (by omega) (by omega)) (.some rfl))))
  ·simp only [Bx,Oa]
   exact Aa.out (Aa.no (dF (by omega)) (.some rfl))
theorem kN (xs:List Int) (h:Fb xs):PF (xs,xs,())=some (true,()):=by
  unfold PF
  unfold Fb at h
  simp only [Oa]
  refine Aa.out (Aa.no (by simp) (sv (Hn xs h (fun k x hx=>?_) ?_) (.some rfl)))
  ·have hk:=Nf hx
   simp (disch:=omega) only [Zw,Eg (τ:=.int) hx,Xa,Ya,Oa,Option.bind_some,decide_true,Bool.not_true,cond_false]
   exact Aa.out (Aa.gd (decide_eq_true (by omega)) (Aa.gd (Ka (by omega) (by omega)) (Aa.gd (Ka (by omega) (by omega)) (.some rfl))))
  ·simp only [Zw,Oa]
   exact Aa.out (Aa.no (dF (by omega)) (.some rfl))
theorem kO (xs:List En) (h:Fb xs):SF (xs,xs,())=some (true,()):=by
  unfold SF
  unfold Fb at h
  simp only [Oa]
  refine Aa.out (Aa.no (by simp) (sv (Hn xs h (fun k x hx=>?_) ?_) (.some rfl)))
  ·have hk:=Nf hx
   simp (disch:=omega) only [Cx,Eg (τ:=.en) hx,Xa,Ya,Oa,Option.bind_some,decide_true,Bool.not_true,cond_false,NN]
   exact Aa.out (Aa.gd (decide_eq_true (by omega)) (Aa.gd (Ka (by omega) (by omega)) (Aa.gd (Ka (by omega) (by omega)) (.some rfl))))
  ·simp only [Cx,Oa]
   exact Aa.out (Aa.no (dF (by omega)) (.some rfl))
theorem kP (k:Int) (xs:List Lk) (h0:0≤k) (hx:xs.length≤4000000000) (hk:k+3*xs.length≤1000000000000):YF (k,xs,())=some (k+3*xs.length,Sc 3 Ji k xs.length,()):=by
  unfold YF
  refine Aa.out (sv (Xx 3 Ji xs k h0 hx hk (fun i q l hi hl hq0 hq1=>?_) (fun q l=>?_)) (.some rfl))
  ·simp (disch:=first|omega|assumption|(simp only [List.length_set];omega)) only [Jx,Xa,Ya,Oa,Mg,kH,List.set_set,Int.add_assoc,Int.reduceAdd]
   refine Aa.out (Aa.gd (decide_eq_true (by omega)) (Aa.gd (Ka (by omega) (by (try simp only [List.length_set]);omega)) (Aa.gd (Ka (by omega) (by (try simp only [List.length_set]);omega)) (Aa.gd (Ka (by omega) (by (try simp only [List.length_set]);omega)) (.some ?_)))))
   first|rfl|(simp [Ji];done)|(unfold Ji;congr 2;omega)
  ·simp only [Jx,Oa]
   exact Aa.out (Aa.no (dF (by omega)) (.some rfl))
theorem kQ (k:Int) (n:Nat) (h0:0≤k) (hx:n≤4000000000) (hk:k+3*n≤1000000000000):ZF (Sc 3 Ji k n,k,())=some (k+3*n,()):=by
  unfold ZF
  refine Aa.out (sv (GG 3 Ji n k h0 hx hk (fun i q l hi hl hq0 hq1=>?_) (fun q l=>?_)) (.some rfl))
  ·have hlt:=Nf hi
   simp (disch:=omega) only [Lx,Xa,Ya,Oa,Eg (τ:=.lk) hi,Int.add_assoc,Int.reduceAdd]
   refine Aa.out (Aa.gd (decide_eq_true (by omega)) (Aa.gd (Ka (by omega) (by omega)) (Aa.no (by simp [Ji]) (Aa.gd (Ka (by omega) (by omega)) (Aa.no (by simp [Ji]) (Aa.gd (Ka (by omega) (by omega)) (Aa.no (by simp [Ji]) (.some ?_))))))))
   first|rfl|(simp;omega)
  ·simp only [Lx,Oa]
   exact Aa.out (Aa.no (dF (by omega)) (.some rfl))
theorem kR (k:Int) (xs:List Int) (h0:0≤k) (hx:xs.length≤4000000000) (hk:k+1*xs.length≤1000000000000):TN (k,xs,())=some (k+1*xs.length,Sc 1 id k xs.length,()):=by
  unfold TN
  refine Aa.out (sv (Xx 1 id xs k h0 hx hk (fun i q l hi hl hq0 hq1=>?_) (fun q l=>?_)) (.some rfl))
  ·simp (disch:=first|omega|assumption|(simp only [List.length_set];omega)) only [Kx,Xa,Ya,Oa,Gj,kJ,List.set_set,Int.add_assoc,Int.reduceAdd]
   refine Aa.out (Aa.gd (decide_eq_true (by omega)) (Aa.gd (Ka (by omega) (by (try simp only [List.length_set]);omega)) (.some ?_)))
   first|rfl|(simp [id];done)|(unfold id;congr 2;omega)
  ·simp only [Kx,Oa]
   exact Aa.out (Aa.no (dF (by omega)) (.some rfl))
theorem kS (k:Int) (n:Nat) (h0:0≤k) (hx:n≤4000000000) (hk:k+1*n≤1000000000000):AG (Sc 1 id k n,k,())=some (k+1*n,()):=by
  unfold AG
  refine Aa.out (sv (GG 1 id n k h0 hx hk (fun i q l hi hl hq0 hq1=>?_) (fun q l=>?_)) (.some rfl))
  ·have hlt:=Nf hi
   simp (disch:=omega) only [Nx,Xa,Ya,Oa,Eg (τ:=.int) hi,Int.add_assoc,Int.reduceAdd]
   refine Aa.out (Aa.gd (decide_eq_true (by omega)) (Aa.gd (Ka (by omega) (by omega)) (Aa.no (by simp [id]) (.some ?_))))
   first|rfl|(simp;omega)
  ·simp only [Nx,Oa]
   exact Aa.out (Aa.no (dF (by omega)) (.some rfl))
theorem kT (k:Int) (xs:List En) (h0:0≤k) (hx:xs.length≤4000000000) (hk:k+2*xs.length≤1000000000000):VN (k,xs,())=some (k+2*xs.length,Sc 2 Tl k xs.length,()):=by
  unfold VN
  refine Aa.out (sv (Xx 2 Tl xs k h0 hx hk (fun i q l hi hl hq0 hq1=>?_) (fun q l=>?_)) (.some rfl))
  ·simp (disch:=first|omega|assumption|(simp only [List.length_set];omega)) only [Ox,Xa,Ya,Oa,D3,kI,List.set_set,Int.add_assoc,Int.reduceAdd]
   refine Aa.out (Aa.gd (decide_eq_true (by omega)) (Aa.gd (Ka (by omega) (by (try simp only [List.length_set]);omega)) (Aa.gd (Ka (by omega) (by (try simp only [List.length_set]);omega)) (.some ?_))))
   first|rfl|(simp [Tl];done)|(unfold Tl;congr 2;omega)
  ·simp only [Ox,Oa]
   exact Aa.out (Aa.no (dF (by omega)) (.some rfl))
theorem I3 (k:Int) (n:Nat) (h0:0≤k) (hx:n≤4000000000) (hk:k+2*n≤1000000000000):Qx (Sc 2 Tl k n,k,())=some (k+2*n,()):=by
  unfold Qx
  refine Aa.out (sv (GG 2 Tl n k h0 hx hk (fun i q l hi hl hq0 hq1=>?_) (fun q l=>?_)) (.some rfl))
  ·have hlt:=Nf hi
   simp (disch:=omega) only [Px,Xa,Ya,Oa,Eg (τ:=.en) hi,Int.add_assoc,Int.reduceAdd]
   refine Aa.out (Aa.gd (decide_eq_true (by omega)) (Aa.gd (Ka (by omega) (by omega)) (Aa.no (by simp [Tl]) (Aa.gd (Ka (by omega) (by omega)) (Aa.no (by simp [Tl]) (.some ?_))))))
   first|rfl|(simp;omega)
  ·simp only [Px,Oa]
   exact Aa.out (Aa.no (dF (by omega)) (.some rfl))
theorem kU (n:Int) (ls:List Lk) (h:ls.length≤16777216):MN (n,ls,())=some (n,ls,()):=by
  unfold MN
  rw [kL ls h];rfl
theorem J3 (n:Int) (ls:List Lk) (h:Fb ls):RF (n,ls,n,ls,())=some (true,()):=by
  unfold RF
  refine Aa.out (Aa.no (by simp) (sv (kM ls h) (Aa.no rfl (.some rfl))))
theorem kV (n k:Int) (ls:List Lk) (h0:0≤k) (h1:k≤100000000000) (h:ls.length≤16777216):XN (n,k,ls,())=some (k+3*ls.length,Sc 3 Ji k ls.length,()):=by
  unfold XN
  rw [kP k ls h0 (by omega) (by omega)];rfl
theorem kW (n k:Int) (m:Nat) (h0:0≤k) (h1:k≤100000000000) (h:m≤16777216):BG (n,Sc 3 Ji k m,k,())=some (k+3*m,()):=by
  unfold BG
  refine Aa.out (sv (kQ k m h0 (by omega) (by omega)) (Aa.no (dF (by dsimp only;omega)) (.some rfl)))
abbrev Og {α:Type} (l:List α):Prop:=l.length≤9223372036854775807
theorem kX (s:List Lk×Int×Unit) (h:Og s.1) (h1: -1≤s.2.1∧s.2.1≤2000000):MF s=some (if s.2.1-s.1.length<0 then -1 else s.2.1-s.1.length,()):=by
  unfold Og at h
  unfold MF
  simp (disch:=omega) only [Oa,Ya]
  by_cases e:s.2.1-(s.1.length:Int)<0
  ·rw [if_pos e,decide_eq_true e];rfl
  ·rw [if_neg e,dF e];rfl
theorem kY (n:Int) (ls:List Lk) (left:Int) (h:Og ls) (h1: -1≤left∧left≤2000000):NF (n,ls,left,())=some (if left-ls.length<0 then -1 else left-ls.length,()):=by
  unfold NF
  rw [kX _ h h1]
  dsimp only [Option.bind_some]
  by_cases e:left-(ls.length:Int)<0
  ·rw [if_pos e];rfl
  ·rw [if_neg e]
   exact Aa.out (Aa.no (dF e) (.some rfl))
end
section
open Go.RowKit
theorem kZ {α:Type} (c:Nat) (f:Int→α) (k:Int) (n:Nat):Sc c f k (n+1)=f k::Sc c f (k+c) n:=by
  refine List.ext_getElem? fun i=>?_
  rcases Nat.lt_or_ge i (n+1) with h|h
  ·rw [BO c f k (n+1) i h]
   cases i with
   |zero=>simp
   |succ i =>
    rw [List.getElem?_cons_succ,BO c f (k+c) n i (by omega),show k+(c:Int)+(c:Int)*(i:Int)=k+(c:Int)*((i+1:Nat):Int) by rw [Int.natCast_add,Int.mul_add];simp;omega]
  ·rw [List.getElem?_eq_none (by rw [Kh];omega),List.getElem?_eq_none (by rw [List.length_cons,Kh];omega)]
theorem HG:∀(k:Int) (xs:List En),Ug k xs=Sc 2 Tl k xs.length
  |_,[]=>rfl
  |k,x::r=>by
   rw [List.length_cons,kZ,Ug,HG (k+2) r];rfl
def Yx (k:Int) (l:Ls):Ls:=⟨k,k+1,Ug (k+2) l.e⟩
def In (l:Ls):Nat:=2+2*l.e.length
theorem CO:∀xs:List Ls,Ub xs=Bc In xs
  |[]=>rfl
  |l::r=>by rw [Ub,Bc,CO r];rfl
theorem K3:∀(k:Int) (xs:List Ls),Ee k xs=Bf Yx In k xs
  |_,[]=>rfl
  |k,l::r=>by
   rw [Ee,Bf,K3 _ r,show k+2+2*(l.e.length:Int)=k+(In l:Int) by unfold In;omega];rfl
theorem L3 {α:Type} {m:Int→α→α} {c:α→Nat}:∀(xs:List α) (k:Int) (i:Nat) (x:α),xs[i]? =some x→(Bf m c k xs)[i]? =some (m (k+Bc c (xs.take i)) x)
  |[],_,_,_,h=>by simp at h
  |y::r,k,0,x,h=>by simp at h;subst h;simp [Bf,Bc]
  |y::r,k,i+1,x,h=>by
   rw [List.getElem?_cons_succ] at h
   rw [Bf,List.getElem?_cons_succ,L3 r (k+c y) i x h,List.take_succ_cons,Bc,show k+(c y:Int)+(Bc c (r.take i):Int)=k+((c y+Bc c (r.take i):Nat):Int) by omega]
theorem DO {α:Type} {B:(List α×Int×Int×Unit)→Option ((List α×Int×Int×Unit)⊕((Int×Unit)⊕(Int×Unit)))} (m:Int→α→α) (c:α→Nat) (xs:List α) (k:Int) (h0:0≤k) (hx:xs.length≤4000000000) (hk:k+Bc c xs≤4000000000)
    (hB:∀(i:Nat) (q:Int) (l:List α) (x:α),l[i]? =some (m q x)→x∈xs→l.length≤4000000000→0≤q→q+c x≤4000000000→B (l,q,(i:Int),())=some (.inl (l,q+c x,((i+1:Nat):Int),())))
    (hE:∀(q:Int) (l:List α),B (l,q,(l.length:Int),())=some (.inr (.inl (q,())))):lp B Fa (Bf m c k xs,k,(0:Int),())=some (.inl (k+Bc c xs,())):=by
  refine Aa.out (Aa.count xs.length (fun i t=>t=(Bf m c k xs,k+Bc c (xs.take i),(i:Int),())) ?_ (Nat.zero_le _) (Rc (by omega)) (by simp [Bc]))
  rintro i t hi rfl
  by_cases hlt:i<xs.length
  ·have hxi:=List.getElem?_eq_getElem hlt
   have h1:=Gw (c:=c) xs i _ hxi
   rw [hB i _ _ _ (L3 xs k i _ hxi) (List.getElem_mem hlt) (by rw [Nl];exact hx) (by omega) (by omega)]
   exact .some ⟨hlt,by rw [h1.2];congr 2;omega⟩
  ·obtain rfl:i=xs.length:=by omega
   have:=hE (k+Bc c (xs.take xs.length)) (Bf m c k xs)
   rw [Nl] at this
   rw [this]
   exact .some (by simp)
def Kn (q:Int):Bool:=decide (Int.tmod q 3=0)
theorem lA (ls:List Bool) (i:Nat) (v:Bool) (h:i<ls.length):Ba .bool (ls.set i v) i=v:=Jt .bool ls i v h
theorem lB (ls:List Bool) (i:Nat) (v:Bool) (h:i<ls.length):Ba .bool (ls.set i v) i=v:=Jt .bool ls i v h
theorem lC (k:Int) (xs:List Bool) (h0:0≤k) (hx:xs.length≤4000000000) (hk:k+1*xs.length≤1000000000000):WN (k,xs,())=some (k+1*xs.length,Sc 1 Kn k xs.length,()):=by
  unfold WN
  refine Aa.out (sv (Xx 1 Kn xs k h0 hx hk (fun i q l hi hl hq0 hq1=>?_) (fun q l=>?_)) (.some rfl))
  ·simp (disch:=first|omega|assumption|(simp only [List.length_set];omega)) only [Rx,Xa,Ya,Oa,lB,lA,List.set_set,Int.add_assoc,Int.reduceAdd]
   refine Aa.out (Aa.gd (decide_eq_true (by omega)) (Aa.gd (Ka (by omega) (by (try simp only [List.length_set]);omega)) (.some ?_)))
   first|rfl|(simp [Kn];done)|(unfold Kn;congr 2;omega)
  ·simp only [Rx,Oa]
   exact Aa.out (Aa.no (dF (by omega)) (.some rfl))
theorem lD (k:Int) (n:Nat) (h0:0≤k) (hx:n≤4000000000) (hk:k+1*n≤1000000000000):CG (Sc 1 Kn k n,k,())=some (k+1*n,()):=by
  unfold CG
  refine Aa.out (sv (GG 1 Kn n k h0 hx hk (fun i q l hi hl hq0 hq1=>?_) (fun q l=>?_)) (.some rfl))
  ·have hlt:=Nf hi
   simp (disch:=omega) only [Sx,Xa,Ya,Oa,Eg (τ:=.bool) hi,Int.add_assoc,Int.reduceAdd]
   refine Aa.out (Aa.gd (decide_eq_true (by omega)) (Aa.gd (Ka (by omega) (by omega)) (Aa.no (by simp [Kn]) (.some ?_))))
   first|rfl|(simp;omega)
  ·simp only [Sx,Oa]
   exact Aa.out (Aa.no (dF (by omega)) (.some rfl))
theorem lE (k:Int) (xs:List Ls) (h0:0≤k) (hx:xs.length≤4000000000) (hk:k+Ub xs≤4000000000) (he:∀l∈xs,l.e.length≤4000000000):DG (Ee k xs,k,())=some (k+Ub xs,()):=by
  rw [CO] at hk ⊢
  rw [K3]
  unfold DG
  refine Aa.out (sv (DO Yx In xs k h0 hx hk (fun i q l x hi hm hl hq0 hq1=>?_) (fun q l=>?_)) (.some rfl))
  ·have hlt:=Nf hi
   have hxe:=he x hm
   unfold In at hq1 ⊢
   have e1:=I3 (q+2) x.e.length (by omega) hxe (by omega)
   simp (disch:=omega) only [Ux,Xa,Ya,Oa,Eg (τ:=.ls) hi,Int.add_assoc,Int.reduceAdd]
   refine Aa.out (Aa.gd (decide_eq_true (by omega)) (Aa.gd (Ka (by omega) (by omega)) (Aa.no (by simp [Yx]) (Aa.gd (Ka (by omega) (by omega)) (Aa.no (by simp [Yx]) (Aa.gd (Ka (by omega) (by omega)) (sv (by dsimp only [Yx];rw [HG];exact e1) (Aa.no (dF (by dsimp only;omega)) (.some ?_)))))))))
   congr 3;dsimp only;omega
  ·simp only [Ux,Oa]
   exact Aa.out (Aa.no (dF (by omega)) (.some rfl))
theorem lF (k:Int) (xs:List (List Ls)) (h0:0≤k) (hx:xs.length≤4000000000) (hk:k+Kg xs≤4000000000) (he:∀d∈xs,List.length (α:=Ls) d≤4000000000∧∀l∈(d:List Ls),l.e.length≤4000000000):FG (Uo k xs,k,())=some (k+Kg xs,()):=by
  unfold FG
  refine Aa.out (sv (DO Ee Ub xs k h0 hx hk (fun i q l x hi hm hl hq0 hq1=>?_) (fun q l=>?_)) (.some rfl))
  ·have hlt:=Nf hi
   have hxe:=he x hm
   have e1:=lE q x hq0 hxe.1 hq1 hxe.2
   simp (disch:=omega) only [Wx,Xa,Ya,Oa,Eg (τ:=.db) hi,Int.add_assoc,Int.reduceAdd]
   exact Aa.out (Aa.gd (decide_eq_true (by omega)) (Aa.gd (Ka (by omega) (by omega)) (sv e1 (Aa.no (dF (by dsimp only;omega)) (.some rfl)))))
  ·simp only [Wx,Oa]
   exact Aa.out (Aa.no (dF (by omega)) (.some rfl))
theorem lG (k:Int) (xs:List Pk) (h0:0≤k) (hx:xs.length≤4000000000) (hk:k+Wh xs≤4000000000) (he:∀p∈xs,p.p.e.length≤4000000000):EG (At k xs,k,())=some (k+Wh xs,()):=by
  unfold EG
  refine Aa.out (sv (DO Ii Gh xs k h0 hx hk (fun i q l x hi hm hl hq0 hq1=>?_) (fun q l=>?_)) (.some rfl))
  ·have hlt:=Nf hi
   have hxe:=he x hm
   unfold Gh at hq1 ⊢
   have e1:=I3 (q+3) x.p.e.length (by omega) hxe (by omega)
   simp (disch:=omega) only [Vx,Xa,Ya,Oa,Eg (τ:=.pk) hi,Int.add_assoc,Int.reduceAdd]
   refine Aa.out (Aa.gd (decide_eq_true (by omega)) (Aa.gd (Ka (by omega) (by omega)) (Aa.no (by simp [Ii]) (Aa.gd (Ka (by omega) (by omega)) (Aa.no (by simp [Ii]) (Aa.gd (Ka (by omega) (by omega)) (Aa.no (by simp [Ii]) (Aa.gd (Ka (by omega) (by omega)) (sv (by dsimp only [Ii];rw [HG];exact e1) (Aa.no (dF (by dsimp only;omega)) (.some ?_)))))))))))
   congr 3;dsimp only;omega
  ·simp only [Vx,Oa]
   exact Aa.out (Aa.no (dF (by omega)) (.some rfl))
abbrev Bk (k:Int) (xs:List Lk):List Lk:=Sc 3 Ji k xs.length
abbrev Ul (k:Int) (xs:List Bool):List Bool:=Sc 1 Kn k xs.length
abbrev Vl (k:Int) (xs:List Int):List Int:=Sc 1 id k xs.length
structure FV (W:Wl):Prop where
  ls:W.2.1.length≤16777216
  up:W.2.2.1.length≤16777216
  sq:W.2.2.2.1.length≤16777216
  db:W.2.2.2.2.1.length≤16777216
  net:W.2.2.2.2.2.length≤16777216
  dbs:∀d∈W.2.2.2.2.1,List.length (α:=Ls) d≤16777216∧∀l∈(d:List Ls),l.e.length≤16777216
  pks:∀p∈W.2.2.2.2.2,p.p.e.length≤16777216
  cnt:Vg W≤3999999999
theorem lH (W:Wl) (h:FV W):ZN ((Ol Bk Ul Vl 1 W).1,(Ol Bk Ul Vl 1 W).2.1,(Ol Bk Ul Vl 1 W).2.2.1,(Ol Bk Ul Vl 1 W).2.2.2.1,(Ol Bk Ul Vl 1 W).2.2.2.2.1,(Ol Bk Ul Vl 1 W).2.2.2.2.2,1,())=some (1+(Vg W:Int),()):=by
  obtain ⟨n,ls,up,sq,db,net⟩:=W
  obtain ⟨h1,h2,h3,h4,h5,h6,h7,h8⟩:=h
  unfold Vg at h8 ⊢
  dsimp only [Ol] at *
  unfold ZN
  dsimp only
  have e1:=kW n 1 ls.length (by omega) (by omega) h1
  have e2:=lD (1+3*ls.length) up.length (by omega) (by omega) (by omega)
  have e3:=kS (1+3*ls.length+up.length) sq.length (by omega) (by omega) (by omega)
  have e4:=lF (1+3*ls.length+up.length+sq.length) db (by omega) (by omega) (by omega) (fun d hd=>⟨by have:=(h6 d hd).1;omega,fun l hl=>by have:=(h6 d hd).2 l hl;omega⟩)
  have e5:=lG (1+3*ls.length+up.length+sq.length+Kg db) net (by omega) (by omega) (by omega) (fun p hp=>by have:=h7 p hp;omega)
  simp only [Int.one_mul] at e2 e3
  refine Aa.out (sv e1 (Aa.no (dF (by dsimp only;omega)) (sv e2 (Aa.no (dF (by dsimp only;omega)) (sv e3 (Aa.no (dF (by dsimp only;omega)) (sv e4 (Aa.no (dF (by dsimp only;omega)) (sv e5 (Aa.no (dF (by dsimp only;omega)) (.some ?_)))))))))))
  congr 1;(try dsimp only);omega
end
section
open Go.RowKit
theorem lI {i j:Nat} (h:i+j≤4611686018427387904):wrap64 (Kj .u64 (Ff .u64 (wrap64 ((i:Int)+(j:Int)))) 1)=(((i+j) / 2:Nat):Int):=by
  rw [Ya (x:=(i:Int)+j) (by omega) (by omega)]
  have e:Ff .u64 ((i:Int)+j)=(i:Int)+j:=by
    simp [Ff,IntKind.wrap,IntKind.signed,IntKind.bits]
    omega
  rw [e]
  unfold Kj
  rw [show (1:Int).toNat=1 from rfl,show min 1 (IntKind.bits .u64)=1 from rfl]
  rw [Int.fdiv_eq_ediv_of_nonneg _ (by decide)]
  rw [Ya (by omega) (by omega)]
  omega
def Kt (db:List Ls) (o:Int) (i:Nat):Prop:=i≤db.length∧(∀x,x<i→(Mb db x).o<o)∧∀x,i≤x→x<db.length→o≤(Mb db x).o
def Hj (db:List Ls) (o:Int) (i:Nat):Bool:=decide (i<db.length∧(Mb db i).o=o)
def Ln (db:List Ls):Prop:=∀i j,i<j→j<db.length→(Mb db i).o<(Mb db j).o
theorem Je.srt {db:List Ls} (h:Je db):Ln db:=by
  have step:∀d i,i+d+1<db.length→(Mb db i).o<(Mb db (i+d+1)).o:=fun d=>by
    induction d with
    |zero=>intro i hi;exact (h (i+1) hi).2 (by omega)
    |succ d ih =>
     intro i hi
     have h1:=ih i (by omega)
     have h2:=(h (i+(d+1)+1) hi).2 (by omega)
     rw [Nat.add_sub_cancel] at h2
     rw [show i+(d+1)=i+d+1 by omega] at h2 ⊢
     omega
  intro i j hij hj
  have:=step (j-i-1) i (by omega)
  rwa [show i+(j-i-1)+1=j by omega] at this
theorem N3 (a b:Int):GF (a,b,())=some (if a<b then -1 else if b<a then 1 else 0,()):=by
  have e:∀x:Int,Uw (x,())=some (false,()):=fun x=>by simp [Uw]
  unfold GF
  simp only [e,Option.bind_some,cond_false]
  by_cases h1:a<b
  ·simp [h1]
  ·by_cases h2:b<a<;>simp [h1,h2]
theorem lJ (db:List Ls) (o:Int) (hs:Ln db) (hl:db.length≤2000000000):∃i:Nat,Kt db o i∧Ww (db,o,())=some ((i:Int),Hj db o i,()):=by
  have hmono:∀i j,i≤j→j<db.length→(Mb db i).o≤(Mb db j).o:=fun i j hij hj=>by
    rcases Nat.eq_or_lt_of_le hij with e|e
    ·subst e;exact Int.le_refl _
    ·have:=hs i j e hj;omega
  have key:Aa (Ww (db,o,())) fun r=>∃i:Nat,Kt db o i∧r=((i:Int),Hj db o i,()):=by
    unfold Ww JN
    refine Aa.bnd (R:=fun r=>∃i:Nat,Kt db o i∧r=((i:Int),Hj db o i,())) (Aa.bnd (R:=fun r=>match r with| .inl x=>∃i:Nat,Kt db o i∧x=(db,o,(db.length:Int),(i:Int),())| .inr _=>False) ?_ ?_) ?_
    ·refine Aa.loop (fun s=>∃i j:Nat,s=(db,o,(db.length:Int),(i:Int),(j:Int),())∧i≤j∧j≤db.length∧(∀x,x<i→(Mb db x).o<o)∧∀x,j≤x→x<db.length→o≤(Mb db x).o) (fun s=>(s.2.2.2.2.1-s.2.2.2.1).toNat) ?_ Fa _ ?_ ?_
     ·rintro _ ⟨i,j,rfl,hij,hj,h1,h2⟩
      simp only [KF,lI (show i+j≤4611686018427387904 by omega),Ak,Xa,Vw,N3,Option.bind_some]
      refine Aa.ite (fun hlt=>?_) (fun hlt=>?_)
      ·have hlt:=oT hlt
       have hm:(i+j) / 2<j∧i≤(i+j) / 2:=by omega
       generalize (i+j) / 2=m at *
       refine Aa.gd (Ka (by omega) (by omega)) (Aa.ite (fun hc=>?_) (fun hc=>?_))
       ·have hc:=oT hc
        have hc:(Mb db m).o<o:=by
          by_cases h:(Mb db m).o<o
          ·exact h
          ·rw [if_neg h] at hc
           split at hc<;>omega
        rw [Ya (by omega) (by omega)]
        refine .some ⟨⟨m+1,j,rfl,by omega,hj,fun x hx=>?_,h2⟩,by dsimp only;omega⟩
        have:=hmono x m (by omega) (by omega)
        omega
       ·have hc:=oF hc
        have hc:o≤(Mb db m).o:=by
          by_cases h:(Mb db m).o<o
          ·rw [if_pos h] at hc;omega
          ·omega
        refine .some ⟨⟨i,m,rfl,by omega,by omega,h1,fun x hx hxl=>?_⟩,by dsimp only;omega⟩
        have:=hmono m x hx hxl
        omega
      ·have hlt:=oF hlt
       obtain rfl:i=j:=by omega
       exact .some ⟨i,⟨hj,h1,h2⟩,rfl⟩
     ·rw [Oa];dsimp only;unfold Fa;omega
     ·exact ⟨0,db.length,by rw [Oa];rfl,by omega,by omega,fun x hx=>by omega,fun x hx hxl=>by omega⟩
    ·rintro (r|r) hr
     case inr=>exact hr.elim
     obtain ⟨i,hi,rfl⟩:=hr
     simp only [Ak,Xa,Vw,N3,Option.bind_some]
     refine Aa.ite (fun hlt=>?_) (fun hlt=>?_)
     ·have hlt:=oT hlt
      refine Aa.gd (Ka (by omega) (by omega)) (.some ⟨i,hi,?_⟩)
      have hge:=hi.2.2 i (Nat.le_refl _) (by omega)
      unfold Hj
      by_cases h:(Mb db i).o=o
      ·rw [decide_eq_true (show i<db.length∧(Mb db i).o=o from ⟨by omega,h⟩),h,if_neg (by omega),if_neg (by omega)];rfl
      ·rw [dF (show ¬(i<db.length∧(Mb db i).o=o) from fun g=>h g.2),if_neg (by omega),if_pos (by omega)];rfl
     ·have hlt:=oF hlt
      refine .some ⟨i,hi,?_⟩
      unfold Hj
      rw [dF (show ¬(i<db.length∧(Mb db i).o=o) from fun g=>by omega)]
    ·rintro _ ⟨i,hi,rfl⟩
     exact .some ⟨i,hi,rfl⟩
  obtain ⟨r,h1,i,h2,h3⟩:=key
  exact ⟨i,h2,by rw [h1,h3]⟩
theorem lK {db:List Ls} {o:Int} {i:Nat} (hs:Ln db) (h:Kt db o i):fd db o=if Hj db o i then some (Mb db i) else none:=by
  unfold Hj
  by_cases hc:i<db.length∧(Mb db i).o=o
  ·rw [decide_eq_true hc,if_pos rfl]
   unfold fd
   rw [Yd hc.1]
   exact E3 hc.1 (decide_eq_true (by rw [←Yd hc.1];exact hc.2)) fun x hx hxi=>dF (by rw [←Yd hx];have:=h.2.1 x hxi;omega)
  ·rw [dF hc]
   unfold fd
   refine F3 (p:=fun l:Ls=>decide (l.o=o)) (l:=db) fun x hx=>dF ?_
   rw [←Yd hx]
   rcases Nat.lt_or_ge x i with h1|h1
   ·have:=h.2.1 x h1;omega
   ·intro e
    have h2:=h.2.2 x h1 hx
    have h3:=h.2.2 i (Nat.le_refl _) (by omega)
    rcases Nat.eq_or_lt_of_le h1 with e2|e2
    ·subst e2;exact hc ⟨hx,e⟩
    ·have:=hs i x e2 hx;omega
end
section
open Go.RowKit
theorem EO:∀{l l':List Int},l.Pairwise (·<·)→l'.Pairwise (·<·)→(∀x,x∈l↔x∈l')→l=l'
  |[],[],_,_,_=>rfl
  |[],y::s,_,_,h=>by have:=(h y).2 (List.mem_cons_self ..);simp at this
  |x::r,[],_,_,h=>by have:=(h x).1 (List.mem_cons_self ..);simp at this
  |x::r,y::s,h1,h2,h=>by
   have h1:=List.pairwise_cons.1 h1
   have h2:=List.pairwise_cons.1 h2
   have e:x=y:=by
     rcases List.mem_cons.1 ((h x).1 (List.mem_cons_self ..)) with e|hx
     ·exact e
     ·rcases List.mem_cons.1 ((h y).2 (List.mem_cons_self ..)) with e|hy
      ·exact e.symm
      ·have q1:=h1.1 y hy
       have q2:=h2.1 x hx
       omega
   subst e
   have:r=s:=EO h1.2 h2.2 fun z=>by
     constructor
     ·intro hz
      rcases List.mem_cons.1 ((h z).1 (List.mem_cons_of_mem _ hz)) with e|hz'
      ·subst e;have:=h1.1 z hz;omega
      ·exact hz'
     ·intro hz
      rcases List.mem_cons.1 ((h z).2 (List.mem_cons_of_mem _ hz)) with e|hz'
      ·subst e;have:=h2.1 z hz;omega
      ·exact hz'
   rw [this]
theorem lL {x:Int} {l:List Int}:x∈Wf l↔x∈l:=List.mem_mergeSort
theorem lM {l:List Int} (h:l.Pairwise (·≠·)):(Wf l).Pairwise (·<·):=by
  have h1:(Wf l).Pairwise (fun a b=>decide (a≤b)=true):=List.pairwise_mergeSort (fun a b c h1 h2=>decide_eq_true (by have:=oT h1;have:=oT h2;omega)) (fun a b=>by simp;omega) l
  have h2:(Wf l).Nodup:=(List.mergeSort_perm l _).nodup_iff.2 h
  refine List.Pairwise.imp ?_ (List.Pairwise.and h1 h2)
  rintro a b ⟨q1,q2⟩
  have:=oT q1
  omega
theorem IG (ls:List Lk) (m:Int) (k:Nat):(Ic ls m k).Pairwise (·<·):=by
  unfold Ic
  rw [List.pairwise_map]
  refine List.Pairwise.imp ?_ (List.Pairwise.filter _ (List.pairwise_lt_range (n:=k)))
  intro a b h
  omega
theorem Mn {ls:List Lk} {m x:Int} {k:Nat}:x∈Ic ls m k↔∃j:Nat,j<k∧x=j∧(lc ls m j).isSome=true:=by
  unfold Ic
  rw [List.mem_map]
  constructor
  ·rintro ⟨j,hj,rfl⟩
   obtain ⟨h1,h2⟩:=List.mem_filter.1 hj
   exact ⟨j,List.mem_range.1 h1,rfl,by rw [PE];exact h2⟩
  ·rintro ⟨j,h1,rfl,h2⟩
   rw [PE] at h2
   exact ⟨j,List.mem_filter.2 ⟨List.mem_range.2 h1,h2⟩,rfl⟩
section
variable {N:Nat} {ls:List Lk}
theorem lN (g:GV N ls) {m:Int} {x:Int}:x∈Dg ls m ls.length↔(lc ls m x).isSome=true:=by
  unfold Dg
  rw [List.mem_map,List.take_of_length_le (Nat.le_refl _)]
  constructor
  ·rintro ⟨l,hl,rfl⟩
   obtain ⟨h1,h2⟩:=List.mem_filter.1 hl
   have ho:=g.ok h1
   unfold Lg at ho
   have h2:m=l.a∨m=l.b:=oT h2
   unfold Xo
   by_cases e:m=l.a
   ·rw [if_pos e,e,N1 g.pw h1 (by omega)];rfl
   ·have e2:=h2.resolve_left e
    rw [if_neg e,if_pos e2,e2,jA,N1 g.pw h1 (by omega)];rfl
  ·intro h
   obtain ⟨c,hc⟩:=Option.isSome_iff_exists.1 h
   have hm:=Dt hc
   have ho:=g.ok hm
   unfold Lg at ho
   dsimp only at ho
   refine ⟨_,List.mem_filter.2 ⟨hm,decide_eq_true (by dsimp only;omega)⟩,?_⟩
   unfold Xo
   dsimp only
   split
   ·omega
   ·rw [if_pos (by omega)];omega
theorem lO (g:GV N ls) (m:Int):(Dg ls m ls.length).Pairwise (·≠·):=by
  unfold Dg
  rw [List.take_of_length_le (Nat.le_refl _),List.pairwise_map]
  refine List.Pairwise.imp_of_mem ?_ (List.Pairwise.filter _ g.pw)
  intro a b ha hb hab
  obtain ⟨ha,ea⟩:=List.mem_filter.1 ha
  obtain ⟨hb,eb⟩:=List.mem_filter.1 hb
  have oa:=g.ok ha
  have ob:=g.ok hb
  have ea:m=a.a∨m=a.b:=oT ea
  have eb:m=b.a∨m=b.b:=oT eb
  unfold Lg at oa ob
  unfold Re at hab
  unfold Xo
  split<;>split<;>(try split)<;>(try split)<;>omega
theorem FO (g:GV N ls) {m x:Int} (h:(lc ls m x).isSome=true):0≤x∧x<N∧0≤m∧m<N∧x≠m:=by
  obtain ⟨c,hc⟩:=Option.isSome_iff_exists.1 h
  have ho:=g.ok (Dt hc)
  unfold Lg at ho
  dsimp only at ho
  omega
theorem P3 (g:GV N ls) (m:Int):Wf (Dg ls m ls.length)=Ic ls m N:=by
  refine EO (lM (lO g m)) (IG ls m N) fun x=>?_
  rw [lL,lN g,Mn]
  constructor
  ·intro h
   have:=FO g h
   exact ⟨x.toNat,by omega,by omega,by rw [show ((x.toNat:Nat):Int)=x by omega];exact h⟩
  ·rintro ⟨j,_,rfl,h⟩;exact h
def Wc (ls:List Lk) (N:Nat) (o:Int):List En:=(Ic ls o N).map fun n=>⟨n,(lc ls o n).getD 0⟩
theorem Q3 (g:GV N ls) (o s:Int):Ht ((N:Int),ls,o,s,())=some (o,s,Wc ls N o,()):=by
  have h8:=g.2.1
  have fl:Fb ls:=(show Fb ls by have:=g.2.2.1;unfold Fb;omega)
  unfold Ht
  simp only [Z2 (N:Int) ls o (by have:=g.2.2.1;omega),P3 g o,Option.bind_some,Oa]
  have hlen:=Ct ls o N
  have hmem:∀x∈Ic ls o N,∃c,lc ls o x=some c:=fun x hx=>by
    obtain ⟨j,_,rfl,h⟩:=Mn.1 hx
    exact Option.isSome_iff_exists.1 h
  unfold Wc
  generalize Ic ls o N=nb at *
  refine Aa.out (Aa.bnd (R:=fun r=>match r with| .inl x=>x=(0,0,o,s,[],nb.map fun n=>⟨n,(lc ls o n).getD 0⟩,())| .inr _=>False) ?_ ?_)
  ·refine Aa.count nb.length (fun k t=>t=(o,(nb.length:Int),(k:Int),(N:Int),ls,0,0,o,s,nb,[],(nb.take k).map (fun n=>(⟨n,(lc ls o n).getD 0⟩:En)),())) ?_ (Nat.zero_le _) (Rc (by omega)) (by simp)
   rintro k t hk rfl
   by_cases hlt:k<nb.length
   ·obtain ⟨c,hc⟩:=hmem (iz nb k) (List.mem_of_getElem? (YH hlt))
    obtain ⟨h1,h2,h3⟩:=P1 hc
    simp (disch:=omega) only [Xw,Gj,Mg,Xa,Ya,kC _ _ _ _ fl,Option.bind_some,List.length_singleton,List.length_map]
    refine Aa.gd (decide_eq_true (by omega)) (Aa.gd (Ka (by omega) (by omega)) (Aa.gd (Ka h1 h2) (Aa.gd (decide_eq_true (by simp;omega)) (.some ⟨hlt,?_⟩))))
    rw [h3,List.take_add_one,YH hlt]
    simp [hc]
   ·obtain rfl:k=nb.length:=by omega
    unfold Xw
    simp only [dF (show ¬(nb.length:Int)<nb.length by omega),cond_false,List.take_length]
    exact .some rfl
  ·rintro (r|r) hr
   case inr=>exact hr.elim
   obtain rfl:=hr
   exact .some rfl
theorem lP (o:Int):(Wc ls N o).length≤N:=by unfold Wc;rw [List.length_map];exact Ct ls o N
theorem T3 (g:GV N ls) (o s:Int):Gt ((N:Int),ls,o,s,())=some (o,s,Wc ls N o,()):=by
  have h8:=g.2.1
  have fl:Fb ls:=(show Fb ls by have:=g.2.2.1;unfold Fb;omega)
  unfold Gt
  refine Aa.out (Aa.bnd (R:=fun r=>match r with| .inl x=>x=(0,0,[],o,s,Wc ls N o,())| .inr _=>False) ?_ ?_)
  ·refine Aa.count N (fun k t=>t=(o,(k:Int),(N:Int),ls,0,0,[],o,s,(Ic ls o k).map (fun n=>(⟨n,(lc ls o n).getD 0⟩:En)),())) ?_ (Nat.zero_le _) (Rc (by omega)) (by simp [Ic])
   rintro k t hk rfl
   have hlen:=Ct ls o k
   simp (disch:=omega) only [JF,Mg,Xa,Ya,V2 _ _ _ _ fl,Option.bind_some,List.length_singleton,List.length_map]
   refine Aa.ite (fun hlt=>?_) (fun hlt=>?_)
   ·have hlt:=oT hlt
    cases hc:lc ls o k with
    |none =>
     refine Aa.no (by rw [U1 hc];rfl) (.some ⟨by omega,?_⟩)
     rw [MM,if_neg (by rw [U1 hc];omega)]
     rfl
    |some c =>
     obtain ⟨h1,h2,h3⟩:=P1 hc
     refine Aa.gd (decide_eq_true h1) (Aa.gd (Ka h1 h2) (Aa.gd (decide_eq_true (by omega)) (.some ⟨by omega,?_⟩)))
     rw [MM,if_pos h1,h3]
     simp [hc]
   ·have hlt:=oF hlt
    obtain rfl:k=N:=by omega
    exact .some rfl
  ·rintro (r|r) hr
   case inr=>exact hr.elim
   obtain rfl:=hr
   exact .some rfl
end
end
section
open Go.RowKit
abbrev Tc (db:List Ls):Prop:=db.Pairwise fun x y=>x.o<y.o
theorem Ki {db:List Ls}:Ln db↔Tc db:=by
  unfold Tc
  rw [List.pairwise_iff_getElem]
  constructor
  ·intro h i j hi hj hij
   have:=h i j hij hj
   rwa [Yd hi,Yd hj] at this
  ·intro h i j hij hj
   rw [Yd (show i<db.length by omega),Yd hj]
   exact h i j (by omega) hj hij
theorem Nn {db:List Ls}:Je db↔(∀l∈db,Ng l)∧Tc db:=by
  constructor
  ·intro h
   refine ⟨fun l hl=>?_,Ki.1 h.srt⟩
   obtain ⟨i,hi,rfl⟩:=List.getElem_of_mem hl
   have:=(h i hi).1
   rwa [Yd hi] at this
  ·rintro ⟨h1,h2⟩ i hi
   refine ⟨?_,fun h0=>Ki.2 h2 (i-1) i (by omega) hi⟩
   rw [Yd hi]
   exact h1 _ (List.getElem_mem hi)
def Li (db:List Ls) (l:Ls):List Ls:=db.filter (fun x=>decide (x.o<l.o))++l::db.filter (fun x=>decide (l.o<x.o))
def Zd (db:List Ls) (l:Ls):Int:=match fd db l.o with|some old=>if old.s=l.s then 1 else if l.s<old.s then 2 else 0|none=>0
def Uc (db:List Ls) (l:Ls):List Ls:=if Zd db l=0 then Li db l else db
theorem Mi {db:List Ls} {l x:Ls}:x∈Li db l↔x=l∨x∈db∧x.o≠l.o:=by
  unfold Li
  rw [List.mem_append,List.mem_cons,List.mem_filter,List.mem_filter]
  simp only [decide_eq_true_eq]
  constructor
  ·rintro (⟨h1,h2⟩|rfl|⟨h1,h2⟩)
   ·exact .inr ⟨h1,by omega⟩
   ·exact .inl rfl
   ·exact .inr ⟨h1,by omega⟩
  ·rintro (rfl|⟨h1,h2⟩)
   ·exact .inr (.inl rfl)
   ·rcases Int.lt_or_gt_of_ne h2 with h|h
    ·exact .inl ⟨h1,h⟩
    ·exact .inr (.inr ⟨h1,h⟩)
theorem Zx {db:List Ls} (h:Tc db) (l:Ls):Tc (Li db l):=by
  unfold Li Tc
  rw [List.pairwise_append,List.pairwise_cons]
  refine ⟨List.Pairwise.filter _ h,⟨fun x hx=>?_,List.Pairwise.filter _ h⟩,fun x hx y hy=>?_⟩
  ·exact oT (List.mem_filter.1 hx).2
  ·have h1:x.o<l.o:=oT (List.mem_filter.1 hx).2
   rcases List.mem_cons.1 hy with rfl|hy
   ·exact h1
   ·have h2:l.o<y.o:=oT (List.mem_filter.1 hy).2
    omega
theorem JG {db:List Ls} (h:Tc db) (l:Ls):Tc (Uc db l):=by
  unfold Uc
  split
  ·exact Zx h l
  ·exact h
theorem HO {db:List Ls} (h:Je db) {l:Ls} (hl:Ng l):Je (Uc db l):=by
  have:=Nn.1 h
  refine Nn.2 ⟨fun x hx=>?_,JG this.2 l⟩
  unfold Uc at hx
  split at hx
  ·rcases Mi.1 hx with rfl|hx
   ·exact hl
   ·exact this.1 x hx.1
  ·exact this.1 x hx
theorem lQ {db:List Ls} (h:Tc db) {x y:Ls} (hx:x∈db) (hy:y∈db) (e:x.o=y.o):x=y:=by
  obtain ⟨i,hi,rfl⟩:=List.getElem_of_mem hx
  obtain ⟨j,hj,rfl⟩:=List.getElem_of_mem hy
  rcases Nat.lt_trichotomy i j with h1|h1|h1
  ·have:=List.pairwise_iff_getElem.1 h i j hi hj h1;omega
  ·subst h1;rfl
  ·have:=List.pairwise_iff_getElem.1 h j i hj hi h1;omega
theorem On {db:List Ls} (h:Tc db) {o:Int} {x:Ls}:fd db o=some x↔x∈db∧x.o=o:=by
  unfold fd
  constructor
  ·intro e
   exact ⟨List.mem_of_find?_eq_some e,oT (List.find?_some (p:=fun l:Ls=>decide (l.o=o)) e)⟩
  ·rintro ⟨hx,rfl⟩
   cases e:db.find? (fun l=>decide (l.o=x.o)) with
   |none =>
    have:=List.find?_eq_none.1 e x hx
    simp at this
   |some y =>
    have h1:=List.mem_of_find?_eq_some e
    have h2:y.o=x.o:=oT (List.find?_some (p:=fun l:Ls=>decide (l.o=x.o)) e)
    rw [lQ h h1 hx h2]
theorem KG {db:List Ls} {o:Int}:fd db o=none↔∀x∈db,x.o≠o:=by
  unfold fd
  rw [List.find?_eq_none]
  constructor
  ·intro h x hx e;exact h x hx (decide_eq_true e)
  ·intro h x hx e;exact h x hx (oT e)
theorem U3 {db:List Ls} (h:Tc db) (l:Ls) (o:Int):fd (Uc db l) o=if o=l.o∧Zd db l=0 then some l else fd db o:=by
  unfold Uc
  by_cases hc:Zd db l=0
  ·rw [if_pos hc]
   by_cases ho:o=l.o
   ·rw [if_pos ⟨ho,hc⟩]
    exact (On (Zx h l)).2 ⟨Mi.2 (.inl rfl),ho.symm⟩
   ·rw [if_neg fun g=>ho g.1]
    cases e:fd db o with
    |none =>
     rw [KG] at e ⊢
     intro x hx
     rcases Mi.1 hx with rfl|⟨hx,_⟩
     ·exact fun g=>ho g.symm
     ·exact e x hx
    |some y =>
     obtain ⟨h1,h2⟩:=(On h).1 e
     exact (On (Zx h l)).2 ⟨Mi.2 (.inr ⟨h1,by omega⟩),h2⟩
  ·rw [if_neg hc,if_neg fun g=>hc g.2]
theorem zA:∀{a b:List Ls},Tc a→Tc b→(∀x,x∈a↔x∈b)→a=b
  |[],[],_,_,_=>rfl
  |[],y::s,_,_,h=>by have:=(h y).2 (List.mem_cons_self ..);simp at this
  |x::r,[],_,_,h=>by have:=(h x).1 (List.mem_cons_self ..);simp at this
  |x::r,y::s,h1,h2,h=>by
   have h1:=List.pairwise_cons.1 h1
   have h2:=List.pairwise_cons.1 h2
   have e:x=y:=by
     rcases List.mem_cons.1 ((h x).1 (List.mem_cons_self ..)) with e|hx
     ·exact e
     ·rcases List.mem_cons.1 ((h y).2 (List.mem_cons_self ..)) with e|hy
      ·exact e.symm
      ·have q1:=h1.1 y hy
       have q2:=h2.1 x hx
       omega
   subst e
   have:r=s:=zA h1.2 h2.2 fun z=>by
     constructor
     ·intro hz
      rcases List.mem_cons.1 ((h z).1 (List.mem_cons_of_mem _ hz)) with e|hz'
      ·subst e;have:=h1.1 z hz;omega
      ·exact hz'
     ·intro hz
      rcases List.mem_cons.1 ((h z).2 (List.mem_cons_of_mem _ hz)) with e|hz'
      ·subst e;have:=h2.1 z hz;omega
      ·exact hz'
   rw [this]
theorem lR {db:List Ls} (h:Tc db) {l:Ls} {i:Nat} (hi:i<db.length) (ho:(Mb db i).o=l.o):db.set i l=Li db l:=by
  have hs:Tc (db.set i l):=by
    unfold Tc
    rw [List.pairwise_iff_getElem]
    intro a b ha hb hab
    rw [List.length_set] at ha hb
    have hp:=fun x y (hx:x<db.length) (hy:y<db.length) (hxy:x<y)=>List.pairwise_iff_getElem.1 h x y hx hy hxy
    rw [Yd hi] at ho
    rw [List.getElem_set,List.getElem_set]
    split<;>split
    ·omega
    ·rename_i e1 e2;subst e1;have:=hp i b hi hb hab;omega
    ·rename_i e1 e2;subst e2;have:=hp a i ha hi hab;omega
    ·exact hp a b ha hb hab
  refine zA hs (Zx h l) fun x=>?_
  rw [Mi]
  rw [Yd hi] at ho
  constructor
  ·intro hx
   obtain ⟨j,hj,rfl⟩:=List.getElem_of_mem hx
   rw [List.length_set] at hj
   rw [List.getElem_set]
   split
   ·exact .inl rfl
   ·rename_i e
    refine .inr ⟨List.getElem_mem hj,fun g=>?_⟩
    rcases Nat.lt_or_gt_of_ne e with h1|h1
    ·have:=List.pairwise_iff_getElem.1 h i j hi hj h1;omega
    ·have:=List.pairwise_iff_getElem.1 h j i hj hi h1;omega
  ·rintro (rfl|⟨hx,hne⟩)
   ·exact List.mem_set hi x
   ·obtain ⟨j,hj,rfl⟩:=List.getElem_of_mem hx
    have e:i≠j:=by rintro rfl;exact hne ho
    have:(db.set i l)[j]'(by rw [List.length_set];exact hj)=db[j]:=by rw [List.getElem_set,if_neg e]
    rw [←this]
    exact List.getElem_mem _
theorem lS {db:List Ls} (h:Tc db) {l:Ls} {i:Nat} (hp:Kt db l.o i) (hn:Hj db l.o i=false):db.take i++l::db.drop i=Li db l:=by
  have hno:∀x∈db,x.o≠l.o:=KG.1 (by rw [lK (Ki.2 h) hp,hn];rfl)
  have e1:∀x∈db.take i,x.o<l.o:=fun x hx=>by
    obtain ⟨j,hj,rfl⟩:=List.getElem_of_mem hx
    rw [List.length_take] at hj
    rw [List.getElem_take,←Yd (show j<db.length by omega)]
    exact hp.2.1 j (by omega)
  have e2:∀x∈db.drop i,l.o<x.o:=fun x hx=>by
    have hm:=hno x (List.mem_of_mem_drop hx)
    obtain ⟨j,hj,rfl⟩:=List.getElem_of_mem hx
    rw [List.length_drop] at hj
    rw [List.getElem_drop] at hm ⊢
    have:=hp.2.2 (i+j) (by omega) (by omega)
    rw [Yd (show i+j<db.length by omega)] at this
    omega
  have hs:Tc (db.take i++l::db.drop i):=by
    unfold Tc
    rw [List.pairwise_append,List.pairwise_cons]
    refine ⟨List.Pairwise.sublist (List.take_sublist _ _) h,⟨e2,List.Pairwise.sublist (List.drop_sublist _ _) h⟩,fun x hx y hy=>?_⟩
    have:=e1 x hx
    rcases List.mem_cons.1 hy with rfl|hy
    ·exact this
    ·have:=e2 y hy;omega
  refine zA hs (Zx h l) fun x=>?_
  rw [Mi,List.mem_append,List.mem_cons]
  constructor
  ·rintro (hx|rfl|hx)
   ·exact .inr ⟨List.mem_of_mem_take hx,hno x (List.mem_of_mem_take hx)⟩
   ·exact .inl rfl
   ·exact .inr ⟨List.mem_of_mem_drop hx,hno x (List.mem_of_mem_drop hx)⟩
  ·rintro (rfl|⟨hx,_⟩)
   ·exact .inr (.inl rfl)
   ·rw [←List.take_append_drop i db,List.mem_append] at hx
    exact hx.imp id .inr
def Zc (db other:List Ls):List Ls:=other.foldl Uc db
def Nc (db:List Ls) (o:Int):Int:=match fd db o with|some l=>l.s|none=> -1
theorem LG {db:List Ls} (h:Tc db) (other:List Ls):Tc (Zc db other):=by
  unfold Zc
  induction other generalizing db with
  |nil=>exact h
  |cons l r ih=>exact ih (JG h l)
theorem JO {db other:List Ls} (h:Je db) (h':∀l∈other,Ng l):Je (Zc db other):=by
  unfold Zc
  induction other generalizing db with
  |nil=>exact h
  |cons l r ih=>exact ih (HO h (h' l (List.mem_cons_self ..))) fun x hx=>h' x (List.mem_cons_of_mem _ hx)
theorem V3 {db:List Ls} (h:Tc db) {l:Ls} (hl:0≤l.s) (o:Int):Nc (Uc db l) o=if o=l.o then max (Nc db o) l.s else Nc db o:=by
  unfold Nc
  rw [U3 h l o]
  by_cases ho:o=l.o
  ·subst ho
   rw [if_pos rfl]
   cases e:fd db l.o with
   |none =>
    have hc:Zd db l=0:=by unfold Zd;rw [e]
    rw [hc,if_pos ⟨rfl,rfl⟩]
    dsimp only
    omega
   |some old =>
    by_cases h1:old.s=l.s
    ·have hc:Zd db l=1:=by unfold Zd;rw [e];exact if_pos h1
     rw [hc,if_neg (fun g=>by have:=g.2;omega)]
     dsimp only
     omega
    ·by_cases h2:l.s<old.s
     ·have hc:Zd db l=2:=by unfold Zd;rw [e];dsimp only;rw [if_neg h1,if_pos h2]
      rw [hc,if_neg (fun g=>by have:=g.2;omega)]
      dsimp only
      omega
     ·have hc:Zd db l=0:=by unfold Zd;rw [e];dsimp only;rw [if_neg h1,if_neg h2]
      rw [hc,if_pos ⟨rfl,rfl⟩]
      dsimp only
      omega
  ·rw [if_neg fun g=>ho g.1,if_neg ho]
theorem KO {db:List Ls} {l:Ls} (hl:0≤l.s):Zd db l=0↔Nc db l.o<l.s:=by
  unfold Zd Nc
  cases fd db l.o with
  |none=>simp;omega
  |some old =>
   dsimp only
   by_cases h1:old.s=l.s
   ·rw [if_pos h1];omega
   ·rw [if_neg h1]
    by_cases h2:l.s<old.s
    ·rw [if_pos h2];omega
    ·rw [if_neg h2];omega
theorem W3 (l:Ls) (r:List Ls) (o:Int):fd (l::r) o=if l.o=o then some l else fd r o:=by
  unfold fd
  rw [List.find?_cons]
  by_cases h:l.o=o
  ·rw [if_pos h,decide_eq_true h]
  ·rw [if_neg h,dF h]
theorem X3 {db:List Ls} (h:∀l∈db,0≤l.s) (o:Int): -1≤Nc db o:=by
  unfold Nc
  cases e:fd db o with
  |none=>simp
  |some l=>have:=h l (List.mem_of_find?_eq_some e);dsimp only;omega
theorem lT {a b:List Ls} (ha:Tc a) (hb:Tc b) (hs:∀l∈b,0≤l.s) (hsa:∀l∈a,0≤l.s) (o:Int):fd (Zc a b) o=if Nc a o<Nc b o then fd b o else fd a o:=by
  unfold Zc
  induction b generalizing a with
  |nil =>
   have:Nc [] o= -1:=rfl
   rw [if_neg (by have:=X3 hsa o;omega)]
   rfl
  |cons l r ih =>
   have hb':=List.pairwise_cons.1 hb
   have hl:=hs l (List.mem_cons_self ..)
   have hsa':∀x∈Uc a l,0≤x.s:=fun x hx=>by
     unfold Uc at hx
     split at hx
     ·rcases Mi.1 hx with rfl|hx
      ·exact hl
      ·exact hsa x hx.1
     ·exact hsa x hx
   have ih:=ih (JG ha l) hb'.2 (fun x hx=>hs x (List.mem_cons_of_mem _ hx)) hsa'
   rw [List.foldl_cons,ih,V3 ha hl,U3 ha,W3]
   have hq:Nc (l::r) o=if l.o=o then l.s else Nc r o:=by
     unfold Nc
     rw [W3]
     by_cases e:l.o=o
     ·rw [if_pos e,if_pos e]
     ·rw [if_neg e,if_neg e]
   rw [hq]
   by_cases ho:o=l.o
   ·subst ho
    have hr:Nc r l.o= -1:=by
      unfold Nc
      rw [KG.2 fun x hx e=>by have:=hb'.1 x hx;omega]
    have hla:=X3 hsa l.o
    rw [if_pos rfl,if_pos rfl,if_pos rfl,hr,if_neg (by omega)]
    by_cases hc:Zd a l=0
    ·rw [if_pos ⟨rfl,hc⟩,if_pos ((KO hl).1 hc)]
    ·rw [if_neg fun g=>hc g.2,if_neg fun g=>hc ((KO hl).2 g)]
   ·have h1:¬l.o=o:=fun g=>ho g.symm
    have h2:¬(o=l.o∧Zd a l=0):=fun g=>ho g.1
    simp only [if_neg ho,if_neg h1,if_neg h2]
theorem Z3 {a b:List Ls} (ha:Tc a) (hb:Tc b) (hs:∀l∈b,0≤l.s) (hsa:∀l∈a,0≤l.s) (o:Int):Nc (Zc a b) o=max (Nc a o) (Nc b o):=by
  have h:=lT ha hb hs hsa o
  by_cases hc:Nc a o<Nc b o
  ·rw [if_pos hc] at h
   have:Nc (Zc a b) o=Nc b o:=by unfold Nc;rw [h]
   omega
  ·rw [if_neg hc] at h
   have:Nc (Zc a b) o=Nc a o:=by unfold Nc;rw [h]
   omega
def lU (a b:List Ls):Prop:=∀x∈a,∀y∈b,x.o=y.o→x.s=y.s→x=y
theorem A4 {a b:List Ls} {x:Ls} (hx:x∈Zc a b):x∈a∨x∈b:=by
  unfold Zc at hx
  induction b generalizing a with
  |nil=>exact .inl hx
  |cons l r ih =>
   rcases ih hx with h|h
   ·unfold Uc at h
    split at h
    ·rcases Mi.1 h with rfl|h
     ·exact .inr (List.mem_cons_self ..)
     ·exact .inl h.1
    ·exact .inl h
   ·exact .inr (List.mem_cons_of_mem _ h)
end
section
open Go.RowKit
def Ay (s:Y3):Option Y3:=(bif decide ((List.length ([]:List Lk)+List.length s.2.1)≤(33554432:Nat)) then some (s.1,(([]:List Lk)++s.2.1),()) else none)
def Xh (s:Y4):Option Y4:=(bif decide ((List.length ([]:List En)+List.length s.2.2.1)≤(33554432:Nat)) then some (s.1,s.2.1,(([]:List En)++s.2.2.1),()) else none)
def NG (s:(Int×Int×List Lk×List Bool×List Int×List (List Ls)×List Pk×Int×List Lk×Y3)):Option ((Int×Int×List Lk×List Bool×List Int×List (List Ls)×List Pk×Int×List Lk×Y3)⊕((Int×List Lk×Y3)⊕Unit)):=(bif decide (s.1<nI (List.length s.2.2.2.1)) then (bif Ea s.1 (List.length s.2.2.2.1) then (bif Ba .bool s.2.2.2.1 (Int.toNat s.1) then (bif Ea s.1 (List.length s.2.2.1) then (bif decide ((List.length s.2.2.2.2.2.2.2.2.2.2.1+List.length [(Lk.mk ((Ba .lk s.2.2.1 (Int.toNat s.1)).a) ((Ba .lk s.2.2.1 (Int.toNat s.1)).b) ((Ba .lk s.2.2.1 (Int.toNat s.1)).c))])≤(33554432:Nat)) then some (Sum.inl (wrap64 (s.1+1),s.2.1,s.2.2.1,s.2.2.2.1,s.2.2.2.2.1,s.2.2.2.2.2.1,s.2.2.2.2.2.2.1,s.2.2.2.2.2.2.2.1,s.2.2.2.2.2.2.2.2.1,s.2.2.2.2.2.2.2.2.2.1,(s.2.2.2.2.2.2.2.2.2.2.1++[(Lk.mk ((Ba .lk s.2.2.1 (Int.toNat s.1)).a) ((Ba .lk s.2.2.1 (Int.toNat s.1)).b) ((Ba .lk s.2.2.1 (Int.toNat s.1)).c))]),())) else none) else none) else some (Sum.inl (wrap64 (s.1+1),s.2))) else none) else some (Sum.inr (Sum.inl s.2.2.2.2.2.2.2)))
def By (s:(Int×Y0)):Option Y3:=(lp NG Fa (0,s.1,s.2.1,s.2.2.1,s.2.2.2.1,s.2.2.2.2.1,s.2.2.2.2.2.1,0,([]:List Lk),s.1,([]:List Lk),())).bind fun r0=>(match r0 with| .inl x1=>some x1.2.2| .inr _=>none)
def Cy (s:(List Ls×Int×Y8)):Option ((List Ls×Int×Y8)⊕(Y8⊕Unit)):=(bif decide (s.2.1<nI (List.length s.1)) then (bif Ea s.2.1 (List.length s.1) then (Xh ((Ba .ls s.1 (Int.toNat s.2.1)).o,(Ba .ls s.1 (Int.toNat s.2.1)).s,(Ba .ls s.1 (Int.toNat s.2.1)).e,())).bind fun r0=>(bif decide ((List.length s.2.2.1+List.length [(Ls.mk r0.1 r0.2.1 r0.2.2.1)])≤(33554432:Nat)) then some (Sum.inl (s.1,wrap64 (s.2.1+1),(s.2.2.1++[(Ls.mk r0.1 r0.2.1 r0.2.2.1)]),())) else none) else none) else some (Sum.inr (Sum.inl s.2.2)))
def Ck (s:Y8):Option Y8:=(lp Cy Fa (s.1,0,([]:List Ls),())).bind fun r0=>(match r0 with| .inl x1=>some x1| .inr _=>none)
def Lh (s:Y4):Option Y4:=(XM s.2.2).bind fun r0=>some (s.1,s.2.1,r0.1,())
def Dy (s:(List Ls×Int×Int×Y8)):Option ((List Ls×Int×Int×Y8)⊕(Y8⊕Unit)):=(bif decide (s.2.2.1<s.2.1) then (bif Ea s.2.2.1 (List.length s.1) then (Lh ((Ba .ls s.1 (Int.toNat s.2.2.1)).o,(Ba .ls s.1 (Int.toNat s.2.2.1)).s,(Ba .ls s.1 (Int.toNat s.2.2.1)).e,())).bind fun r0=>(bif decide ((List.length s.2.2.2.1+List.length [(Ls.mk r0.1 r0.2.1 r0.2.2.1)])≤(33554432:Nat)) then some (Sum.inl (s.1,s.2.1,wrap64 (s.2.2.1+1),(s.2.2.2.1++[(Ls.mk r0.1 r0.2.1 r0.2.2.1)]),())) else none) else none) else some (Sum.inr (Sum.inl s.2.2.2)))
def Lt (s:Y8):Option Y8:=(lp Dy Fa (s.1,nI (List.length s.1),0,([]:List Ls),())).bind fun r0=>(match r0 with| .inl x1=>some x1| .inr _=>none)
def LO (_:(Int×Int×Dc)):Option Y9:=some (true,())
def B4 (_:(Int×Int×Dc)):Option Y9:=some (true,())
def Ey (s:Y1):Option (Y7⊕Unit):=(Ay (s.1,s.2.1,())).bind fun r0=>(bif decide (List.length s.2.2.1≤(33554432:Nat)) then (bif decide (List.length s.2.2.2.1≤(33554432:Nat)) then some (Sum.inl (s.1,s.2.1,s.2.2.1,s.2.2.2.1,s.2.2.2.2.1,s.2.2.2.2.2.1,s.2.2.2.2.2.2.1,s.2.2.2.2.2.2.2.1,s.2.2.2.2.2.2.2.2.1,s.2.2.2.2.2.2.2.2.2.1,s.2.2.2.2.2.2.2.2.2.2.1,s.2.2.2.2.2.2.2.2.2.2.2.1,r0.1,r0.2.1,s.2.2.1,s.2.2.2.1,([]:List (List Ls)),([]:List Pk),())) else none) else none)
def Fy (s:(Int×Y7)):Option ((Int×Y7)⊕(Y7⊕Unit)):=(bif decide (s.1<nI (List.length s.2.2.2.2.2.1)) then (bif Ea s.1 (List.length s.2.2.2.2.2.1) then (Ck (Ba .db s.2.2.2.2.2.1 (Int.toNat s.1),())).bind fun r0=>(bif decide ((List.length s.2.2.2.2.2.2.2.2.2.2.2.2.2.2.2.2.2.1+List.length [r0.1])≤(33554432:Nat)) then some (Sum.inl (wrap64 (s.1+1),s.2.1,s.2.2.1,s.2.2.2.1,s.2.2.2.2.1,s.2.2.2.2.2.1,s.2.2.2.2.2.2.1,s.2.2.2.2.2.2.2.1,s.2.2.2.2.2.2.2.2.1,s.2.2.2.2.2.2.2.2.2.1,s.2.2.2.2.2.2.2.2.2.2.1,s.2.2.2.2.2.2.2.2.2.2.2.1,s.2.2.2.2.2.2.2.2.2.2.2.2.1,s.2.2.2.2.2.2.2.2.2.2.2.2.2.1,s.2.2.2.2.2.2.2.2.2.2.2.2.2.2.1,s.2.2.2.2.2.2.2.2.2.2.2.2.2.2.2.1,s.2.2.2.2.2.2.2.2.2.2.2.2.2.2.2.2.1,(s.2.2.2.2.2.2.2.2.2.2.2.2.2.2.2.2.2.1++[r0.1]),s.2.2.2.2.2.2.2.2.2.2.2.2.2.2.2.2.2.2)) else none) else none) else some (Sum.inr (Sum.inl s.2)))
def Gy (s:(Int×Y7)):Option ((Int×Y7)⊕(Y1⊕Unit)):=(bif decide (s.1<nI (List.length s.2.2.2.2.2.2.1)) then (bif Ea s.1 (List.length s.2.2.2.2.2.2.1) then (bif Ea s.1 (List.length s.2.2.2.2.2.2.1) then (Xh (((Ba .pk s.2.2.2.2.2.2.1 (Int.toNat s.1)).p).o,((Ba .pk s.2.2.2.2.2.2.1 (Int.toNat s.1)).p).s,((Ba .pk s.2.2.2.2.2.2.1 (Int.toNat s.1)).p).e,())).bind fun r0=>(bif decide ((List.length s.2.2.2.2.2.2.2.2.2.2.2.2.2.2.2.2.2.2.1+List.length [(Pk.mk ((Ba .pk s.2.2.2.2.2.2.1 (Int.toNat s.1)).t) (Ls.mk r0.1 r0.2.1 r0.2.2.1))])≤(33554432:Nat)) then some (Sum.inl (wrap64 (s.1+1),s.2.1,s.2.2.1,s.2.2.2.1,s.2.2.2.2.1,s.2.2.2.2.2.1,s.2.2.2.2.2.2.1,s.2.2.2.2.2.2.2.1,s.2.2.2.2.2.2.2.2.1,s.2.2.2.2.2.2.2.2.2.1,s.2.2.2.2.2.2.2.2.2.2.1,s.2.2.2.2.2.2.2.2.2.2.2.1,s.2.2.2.2.2.2.2.2.2.2.2.2.1,s.2.2.2.2.2.2.2.2.2.2.2.2.2.1,s.2.2.2.2.2.2.2.2.2.2.2.2.2.2.1,s.2.2.2.2.2.2.2.2.2.2.2.2.2.2.2.1,s.2.2.2.2.2.2.2.2.2.2.2.2.2.2.2.2.1,s.2.2.2.2.2.2.2.2.2.2.2.2.2.2.2.2.2.1,(s.2.2.2.2.2.2.2.2.2.2.2.2.2.2.2.2.2.2.1++[(Pk.mk ((Ba .pk s.2.2.2.2.2.2.1 (Int.toNat s.1)).t) (Ls.mk r0.1 r0.2.1 r0.2.2.1))]),())) else none) else none) else none) else some (Sum.inr (Sum.inl s.2.2.2.2.2.2.2)))
def Bp (s:(Int×Y0)):Option (Int×Y0):=(Ey (s.1,s.2.1,s.2.2.1,s.2.2.2.1,s.2.2.2.2.1,s.2.2.2.2.2.1,0,([]:List Lk),([]:List Bool),([]:List Int),([]:List (List Ls)),([]:List Pk),())).bind fun r0=>(match r0 with| .inl x1=>(lp Fy Fa (0,x1)).bind fun r2=>(match r2 with| .inl x3=>(lp Gy Fa (0,x3)).bind fun r4=>(match r4 with| .inl x5=>some x5.2.2.2.2.2.2| .inr _=>none)| .inr _=>none)| .inr _=>none)
def OG (s:Et):Option (Et⊕((Int×Int×List Lk×List Lk×Unit)⊕Unit)):=(bif decide (s.2.2.1<s.2.1) then (bif Ea s.2.2.1 (List.length s.1) then (LO (s.2.2.1,(Ba .lk s.1 (Int.toNat s.2.2.1)).a,(Ba .lk s.1 (Int.toNat s.2.2.1)).b,(Ba .lk s.1 (Int.toNat s.2.2.1)).c,())).bind fun r0=>(bif r0.1 then (bif decide ((List.length s.2.2.2.2.2.2.1+List.length [(Lk.mk ((Ba .lk s.1 (Int.toNat s.2.2.1)).a) ((Ba .lk s.1 (Int.toNat s.2.2.1)).b) ((Ba .lk s.1 (Int.toNat s.2.2.1)).c))])≤(33554432:Nat)) then some (Sum.inl (s.1,s.2.1,wrap64 (s.2.2.1+1),s.2.2.2.1,s.2.2.2.2.1,s.2.2.2.2.2.1,(s.2.2.2.2.2.2.1++[(Lk.mk ((Ba .lk s.1 (Int.toNat s.2.2.1)).a) ((Ba .lk s.1 (Int.toNat s.2.2.1)).b) ((Ba .lk s.1 (Int.toNat s.2.2.1)).c))]),())) else none) else some (Sum.inl (s.1,s.2.1,wrap64 (s.2.2.1+1),s.2.2.2))) else none) else some (Sum.inr (Sum.inl s.2.2.2)))
def PG (s:Y3):Option Y3:=(lp OG Fa (s.2.1,nI (List.length s.2.1),0,0,s.1,([]:List Lk),([]:List Lk),())).bind fun r0=>(match r0 with| .inl x1=>some (x1.2.1,x1.2.2.2)| .inr _=>none)
def MO (s:(Int×Int×Int×Int×Int×Y0)):Option Y9:=(bif Ea s.1 (List.length s.2.2.2.2.2.2.1) then some (Ba .bool s.2.2.2.2.2.2.1 (Int.toNat s.1),()) else none)
def NO (s:Et):Option (Et⊕((Int×Int×List Lk×List Lk×Unit)⊕Unit)):=(bif decide (s.2.2.1<s.2.1) then (bif Ea s.2.2.1 (List.length s.1) then (B4 (s.2.2.1,(Ba .lk s.1 (Int.toNat s.2.2.1)).a,(Ba .lk s.1 (Int.toNat s.2.2.1)).b,(Ba .lk s.1 (Int.toNat s.2.2.1)).c,())).bind fun r0=>(bif r0.1 then (bif decide ((List.length s.2.2.2.2.2.2.1+List.length [(Lk.mk ((Ba .lk s.1 (Int.toNat s.2.2.1)).a) ((Ba .lk s.1 (Int.toNat s.2.2.1)).b) ((Ba .lk s.1 (Int.toNat s.2.2.1)).c))])≤(33554432:Nat)) then some (Sum.inl (s.1,s.2.1,wrap64 (s.2.2.1+1),s.2.2.2.1,s.2.2.2.2.1,s.2.2.2.2.2.1,(s.2.2.2.2.2.2.1++[(Lk.mk ((Ba .lk s.1 (Int.toNat s.2.2.1)).a) ((Ba .lk s.1 (Int.toNat s.2.2.1)).b) ((Ba .lk s.1 (Int.toNat s.2.2.1)).c))]),())) else none) else some (Sum.inl (s.1,s.2.1,wrap64 (s.2.2.1+1),s.2.2.2))) else none) else some (Sum.inr (Sum.inl s.2.2.2)))
def lV (s:Y3):Option Y3:=(lp NO Fa (s.2.1,nI (List.length s.2.1),0,0,s.1,([]:List Lk),([]:List Lk),())).bind fun r0=>(match r0 with| .inl x1=>some (x1.2.1,x1.2.2.2)| .inr _=>none)
def QG (s:(Int×List Lk×List Bool×List Int×List (List Ls)×List Pk×Et)):Option ((Int×List Lk×List Bool×List Int×List (List Ls)×List Pk×Et)⊕((Int×Int×List Lk×List Lk×Unit)⊕Unit)):=(bif decide (s.2.2.2.2.2.2.2.2.1<s.2.2.2.2.2.2.2.1) then (bif Ea s.2.2.2.2.2.2.2.2.1 (List.length s.2.2.2.2.2.2.1) then (MO (s.2.2.2.2.2.2.2.2.1,(Ba .lk s.2.2.2.2.2.2.1 (Int.toNat s.2.2.2.2.2.2.2.2.1)).a,(Ba .lk s.2.2.2.2.2.2.1 (Int.toNat s.2.2.2.2.2.2.2.2.1)).b,(Ba .lk s.2.2.2.2.2.2.1 (Int.toNat s.2.2.2.2.2.2.2.2.1)).c,s.1,s.2.1,s.2.2.1,s.2.2.2.1,s.2.2.2.2.1,s.2.2.2.2.2.1,())).bind fun r0=>(bif r0.1 then (bif decide ((List.length s.2.2.2.2.2.2.2.2.2.2.2.2.1+List.length [(Lk.mk ((Ba .lk s.2.2.2.2.2.2.1 (Int.toNat s.2.2.2.2.2.2.2.2.1)).a) ((Ba .lk s.2.2.2.2.2.2.1 (Int.toNat s.2.2.2.2.2.2.2.2.1)).b) ((Ba .lk s.2.2.2.2.2.2.1 (Int.toNat s.2.2.2.2.2.2.2.2.1)).c))])≤(33554432:Nat)) then some (Sum.inl (s.1,s.2.1,s.2.2.1,s.2.2.2.1,s.2.2.2.2.1,s.2.2.2.2.2.1,s.2.2.2.2.2.2.1,s.2.2.2.2.2.2.2.1,wrap64 (s.2.2.2.2.2.2.2.2.1+1),s.2.2.2.2.2.2.2.2.2.1,s.2.2.2.2.2.2.2.2.2.2.1,s.2.2.2.2.2.2.2.2.2.2.2.1,(s.2.2.2.2.2.2.2.2.2.2.2.2.1++[(Lk.mk ((Ba .lk s.2.2.2.2.2.2.1 (Int.toNat s.2.2.2.2.2.2.2.2.1)).a) ((Ba .lk s.2.2.2.2.2.2.1 (Int.toNat s.2.2.2.2.2.2.2.2.1)).b) ((Ba .lk s.2.2.2.2.2.2.1 (Int.toNat s.2.2.2.2.2.2.2.2.1)).c))]),())) else none) else some (Sum.inl (s.1,s.2.1,s.2.2.1,s.2.2.2.1,s.2.2.2.2.1,s.2.2.2.2.2.1,s.2.2.2.2.2.2.1,s.2.2.2.2.2.2.2.1,wrap64 (s.2.2.2.2.2.2.2.2.1+1),s.2.2.2.2.2.2.2.2.2))) else none) else some (Sum.inr (Sum.inl s.2.2.2.2.2.2.2.2.2)))
def OO (s:(Int×List Lk×Int×Y0)):Option Y3:=(lp QG Fa (s.2.2.1,s.2.2.2.1,s.2.2.2.2.1,s.2.2.2.2.2.1,s.2.2.2.2.2.2.1,s.2.2.2.2.2.2.2.1,s.2.1,nI (List.length s.2.1),0,0,s.1,([]:List Lk),([]:List Lk),())).bind fun r0=>(match r0 with| .inl x1=>some (x1.2.1,x1.2.2.2)| .inr _=>none)
def Hy (s:(Int×Y0)):Option Y3:=(OO (s.1,s.2.1,s)).bind fun r0=>some r0
def Iy (s:(Int×List Lk×Int×Y0)):Option ((Int×List Lk×Y1)⊕Unit):=(PG (s.1,s.2.1,())).bind fun r0=>(AN ([true],nI (List.length s.2.1),())).bind fun r1=>(SM ([1],s.1,())).bind fun r2=>some (Sum.inl (s.1,s.2.1,s.2.2.1,s.2.2.2.1,s.2.2.2.2.1,s.2.2.2.2.2.1,s.2.2.2.2.2.2.1,s.2.2.2.2.2.2.2.1,r0.1,r0.2.1,r1.1,r2.1,([]:List (List Ls)),([]:List Pk),()))
def Jy (s:(Int×Int×EN)):Option ((Int×Int×EN)⊕(EN⊕Unit)):=(bif decide (s.2.2.2.1<s.2.2.1) then (Ht (s.2.2.2.2.1,s.2.2.2.2.2.1,s.2.2.2.1,1,())).bind fun r0=>(bif decide ((List.length s.2.2.2.2.2.2.2.2.2.2.2.2.2.1+List.length [(Ls.mk r0.1 r0.2.1 r0.2.2.1)])≤(33554432:Nat)) then some (Sum.inl (s.1,s.2.1,s.2.2.1,wrap64 (s.2.2.2.1+1),s.2.2.2.2.1,s.2.2.2.2.2.1,s.2.2.2.2.2.2.1,s.2.2.2.2.2.2.2.1,s.2.2.2.2.2.2.2.2.1,s.2.2.2.2.2.2.2.2.2.1,s.2.2.2.2.2.2.2.2.2.2.1,s.2.2.2.2.2.2.2.2.2.2.2.1,s.2.2.2.2.2.2.2.2.2.2.2.2.1,(s.2.2.2.2.2.2.2.2.2.2.2.2.2.1++[(Ls.mk r0.1 r0.2.1 r0.2.2.1)]),s.2.2.2.2.2.2.2.2.2.2.2.2.2.2)) else none) else some (Sum.inr (Sum.inl (s.1,s.2.1,s.2.2.2.2))))
def Ky (s:(Int×Int×Int×List Lk×Y1)):Option ((Int×Int×Int×List Lk×Y1)⊕(Y1⊕Unit)):=(bif decide (s.2.1<s.1) then (lp Jy Fa (s.1,s.2.1,s.2.2.1,0,s.2.2.1,s.2.2.2.1,s.2.2.2.2.1,s.2.2.2.2.2.1,s.2.2.2.2.2.2.1,s.2.2.2.2.2.2.2.1,s.2.2.2.2.2.2.2.2.1,s.2.2.2.2.2.2.2.2.2.1,s.2.2.2.2.2.2.2.2.2.2.1,([]:List Ls),s.2.2.2.2.2.2.2.2.2.2.2)).bind fun r0=>(match r0 with| .inl x1=>(bif decide ((List.length x1.2.2.2.2.2.2.2.2.2.2.2.2.2.2.2.1+List.length [x1.2.2.2.2.2.2.2.2.2.2.2.1])≤(33554432:Nat)) then some (Sum.inl (x1.1,wrap64 (x1.2.1+1),x1.2.2.1,x1.2.2.2.1,x1.2.2.2.2.1,x1.2.2.2.2.2.1,x1.2.2.2.2.2.2.1,x1.2.2.2.2.2.2.2.1,x1.2.2.2.2.2.2.2.2.1,x1.2.2.2.2.2.2.2.2.2.1,x1.2.2.2.2.2.2.2.2.2.2.1,x1.2.2.2.2.2.2.2.2.2.2.2.2.1,x1.2.2.2.2.2.2.2.2.2.2.2.2.2.1,x1.2.2.2.2.2.2.2.2.2.2.2.2.2.2.1,(x1.2.2.2.2.2.2.2.2.2.2.2.2.2.2.2.1++[x1.2.2.2.2.2.2.2.2.2.2.2.1]),x1.2.2.2.2.2.2.2.2.2.2.2.2.2.2.2.2)) else none)| .inr _=>none) else some (Sum.inr (Sum.inl s.2.2.2.2)))
def SG (s:Y3):Option (Int×Bool×Y0):=(ZE s).bind fun r0=>(bif (!r0.1) then some (0,false,([]:List Lk),([]:List Bool),([]:List Int),([]:List (List Ls)),([]:List Pk),()) else (Iy (s.1,s.2.1,0,([]:List Lk),([]:List Bool),([]:List Int),([]:List (List Ls)),([]:List Pk),())).bind fun r1=>(match r1 with| .inl x2=>(lp Ky Fa (x2.1,0,x2)).bind fun r3=>(match r3 with| .inl x4=>some (x4.2.2.2.2.2.2.1,true,x4.2.2.2.2.2.2.2)| .inr _=>none)| .inr _=>none))
def Pn (s:(List Ls×Y4)):Option (Int×Y8):=(Lt (s.1,())).bind fun r0=>(Ww (r0.1,s.2.1,())).bind fun r1=>(bif r1.2.1 then (bif Ea r1.1 (List.length r0.1) then (bif decide ((Ba .ls r0.1 (Int.toNat r1.1)).s=s.2.2.1) then some (1,r0) else (bif r1.2.1 then (bif Ea r1.1 (List.length r0.1) then (bif decide (s.2.2.1<(Ba .ls r0.1 (Int.toNat r1.1)).s) then some (2,r0) else (bif r1.2.1 then (Lh s.2).bind fun r2=>(bif Ea r1.1 (List.length r0.1) then some (0,List.set r0.1 (Int.toNat r1.1) (Ls.mk r2.1 r2.2.1 r2.2.2.1),()) else none) else (Lh s.2).bind fun r3=>(Zo (r1.1,r0.1,[(Ls.mk r3.1 r3.2.1 r3.2.2.1)],())).bind fun r4=>some (0,r4.1,()))) else none) else (bif r1.2.1 then (Lh s.2).bind fun r5=>(bif Ea r1.1 (List.length r0.1) then some (0,List.set r0.1 (Int.toNat r1.1) (Ls.mk r5.1 r5.2.1 r5.2.2.1),()) else none) else (Lh s.2).bind fun r6=>(Zo (r1.1,r0.1,[(Ls.mk r6.1 r6.2.1 r6.2.2.1)],())).bind fun r7=>some (0,r7.1,())))) else none) else (bif r1.2.1 then (bif Ea r1.1 (List.length r0.1) then (bif decide (s.2.2.1<(Ba .ls r0.1 (Int.toNat r1.1)).s) then some (2,r0) else (bif r1.2.1 then (Lh s.2).bind fun r8=>(bif Ea r1.1 (List.length r0.1) then some (0,List.set r0.1 (Int.toNat r1.1) (Ls.mk r8.1 r8.2.1 r8.2.2.1),()) else none) else (Lh s.2).bind fun r9=>(Zo (r1.1,r0.1,[(Ls.mk r9.1 r9.2.1 r9.2.2.1)],())).bind fun r10=>some (0,r10.1,()))) else none) else (bif r1.2.1 then (Lh s.2).bind fun r11=>(bif Ea r1.1 (List.length r0.1) then some (0,List.set r0.1 (Int.toNat r1.1) (Ls.mk r11.1 r11.2.1 r11.2.2.1),()) else none) else (Lh s.2).bind fun r12=>(Zo (r1.1,r0.1,[(Ls.mk r12.1 r12.2.1 r12.2.2.1)],())).bind fun r13=>some (0,r13.1,()))))
def Dk (s:(List Ls×Int×Int×Int×List En×Y8)):Option ((List Ls×Int×Int×Int×List En×Y8)⊕((List Ls×Int×Int×List En×Y8)⊕Unit)):=(bif decide (s.2.1<nI (List.length s.1)) then (bif Ea s.2.1 (List.length s.1) then (bif decide ((Ba .ls s.1 (Int.toNat s.2.1)).o<s.2.2.1) then (bif Ea s.2.1 (List.length s.1) then (Xh ((Ba .ls s.1 (Int.toNat s.2.1)).o,(Ba .ls s.1 (Int.toNat s.2.1)).s,(Ba .ls s.1 (Int.toNat s.2.1)).e,())).bind fun r0=>(bif decide ((List.length s.2.2.2.2.2.1+List.length [(Ls.mk r0.1 r0.2.1 r0.2.2.1)])≤(33554432:Nat)) then some (Sum.inl (s.1,wrap64 (s.2.1+1),s.2.2.1,s.2.2.2.1,s.2.2.2.2.1,(s.2.2.2.2.2.1++[(Ls.mk r0.1 r0.2.1 r0.2.2.1)]),())) else none) else none) else some (Sum.inr (Sum.inl (s.1,s.2.2)))) else none) else some (Sum.inr (Sum.inl (s.1,s.2.2))))
def Ek (s:(List Ls×Int×Int×Int×List En×Y8)):Option ((List Ls×Int×Int×Int×List En×Y8)⊕(Y8⊕Unit)):=(bif decide (s.2.1<nI (List.length s.1)) then (bif Ea s.2.1 (List.length s.1) then (bif decide (s.2.2.1<(Ba .ls s.1 (Int.toNat s.2.1)).o) then (bif Ea s.2.1 (List.length s.1) then (Xh ((Ba .ls s.1 (Int.toNat s.2.1)).o,(Ba .ls s.1 (Int.toNat s.2.1)).s,(Ba .ls s.1 (Int.toNat s.2.1)).e,())).bind fun r0=>(bif decide ((List.length s.2.2.2.2.2.1+List.length [(Ls.mk r0.1 r0.2.1 r0.2.2.1)])≤(33554432:Nat)) then some (Sum.inl (s.1,wrap64 (s.2.1+1),s.2.2.1,s.2.2.2.1,s.2.2.2.2.1,(s.2.2.2.2.2.1++[(Ls.mk r0.1 r0.2.1 r0.2.2.1)]),())) else none) else none) else some (Sum.inl (s.1,wrap64 (s.2.1+1),s.2.2))) else none) else some (Sum.inr (Sum.inl s.2.2.2.2.2)))
def Mt (s:(List Ls×Y4)):Option (Int×Y8):=(IF (s.1,s.2.1,())).bind fun r0=>(bif r0.2.2.2.1 then (bif decide (r0.2.1=s.2.2.1) then (Ck (s.1,())).bind fun r1=>some (1,r1) else (bif r0.2.2.2.1 then (bif decide (s.2.2.1<r0.2.1) then (Ck (s.1,())).bind fun r2=>some (2,r2) else (lp Dk Fa (s.1,0,s.2.1,s.2.2.1,s.2.2.2.1,([]:List Ls),())).bind fun r3=>(match r3 with| .inl x4=>(Xh (x4.2.1,x4.2.2.1,x4.2.2.2.1,())).bind fun r5=>(bif decide ((List.length x4.2.2.2.2.1+List.length [(Ls.mk r5.1 r5.2.1 r5.2.2.1)])≤(33554432:Nat)) then (lp Ek Fa (x4.1,0,x4.2.1,x4.2.2.1,x4.2.2.2.1,(x4.2.2.2.2.1++[(Ls.mk r5.1 r5.2.1 r5.2.2.1)]),())).bind fun r6=>(match r6 with| .inl x7=>some (0,x7)| .inr _=>none) else none)| .inr _=>none)) else (lp Dk Fa (s.1,0,s.2.1,s.2.2.1,s.2.2.2.1,([]:List Ls),())).bind fun r8=>(match r8 with| .inl x9=>(Xh (x9.2.1,x9.2.2.1,x9.2.2.2.1,())).bind fun r10=>(bif decide ((List.length x9.2.2.2.2.1+List.length [(Ls.mk r10.1 r10.2.1 r10.2.2.1)])≤(33554432:Nat)) then (lp Ek Fa (x9.1,0,x9.2.1,x9.2.2.1,x9.2.2.2.1,(x9.2.2.2.2.1++[(Ls.mk r10.1 r10.2.1 r10.2.2.1)]),())).bind fun r11=>(match r11 with| .inl x12=>some (0,x12)| .inr _=>none) else none)| .inr _=>none))) else (bif r0.2.2.2.1 then (bif decide (s.2.2.1<r0.2.1) then (Ck (s.1,())).bind fun r13=>some (2,r13) else (lp Dk Fa (s.1,0,s.2.1,s.2.2.1,s.2.2.2.1,([]:List Ls),())).bind fun r14=>(match r14 with| .inl x15=>(Xh (x15.2.1,x15.2.2.1,x15.2.2.2.1,())).bind fun r16=>(bif decide ((List.length x15.2.2.2.2.1+List.length [(Ls.mk r16.1 r16.2.1 r16.2.2.1)])≤(33554432:Nat)) then (lp Ek Fa (x15.1,0,x15.2.1,x15.2.2.1,x15.2.2.2.1,(x15.2.2.2.2.1++[(Ls.mk r16.1 r16.2.1 r16.2.2.1)]),())).bind fun r17=>(match r17 with| .inl x18=>some (0,x18)| .inr _=>none) else none)| .inr _=>none)) else (lp Dk Fa (s.1,0,s.2.1,s.2.2.1,s.2.2.2.1,([]:List Ls),())).bind fun r19=>(match r19 with| .inl x20=>(Xh (x20.2.1,x20.2.2.1,x20.2.2.2.1,())).bind fun r21=>(bif decide ((List.length x20.2.2.2.2.1+List.length [(Ls.mk r21.1 r21.2.1 r21.2.2.1)])≤(33554432:Nat)) then (lp Ek Fa (x20.1,0,x20.2.1,x20.2.2.1,x20.2.2.2.1,(x20.2.2.2.2.1++[(Ls.mk r21.1 r21.2.1 r21.2.2.1)]),())).bind fun r22=>(match r22 with| .inl x23=>some (0,x23)| .inr _=>none) else none)| .inr _=>none)))
def Ly (s:(Int×Y5)):Option ((Int×Y5)⊕(Y5⊕Unit)):=(bif decide (s.1<s.2.1) then (Gt (s.2.1,s.2.2.1,s.1,1,())).bind fun r0=>(bif decide ((List.length s.2.2.2.2.2.2.2.2.2.1+List.length [(Ls.mk r0.1 r0.2.1 r0.2.2.1)])≤(33554432:Nat)) then (bif decide ((List.length s.2.2.2.2.2.2.2.2.2.2.2.2.2.1+List.length [1])≤(33554432:Nat)) then some (Sum.inl (wrap64 (s.1+1),s.2.1,s.2.2.1,s.2.2.2.1,s.2.2.2.2.1,s.2.2.2.2.2.1,s.2.2.2.2.2.2.1,s.2.2.2.2.2.2.2.1,s.2.2.2.2.2.2.2.2.1,(s.2.2.2.2.2.2.2.2.2.1++[(Ls.mk r0.1 r0.2.1 r0.2.2.1)]),s.2.2.2.2.2.2.2.2.2.2.1,s.2.2.2.2.2.2.2.2.2.2.2.1,s.2.2.2.2.2.2.2.2.2.2.2.2.1,(s.2.2.2.2.2.2.2.2.2.2.2.2.2.1++[1]),s.2.2.2.2.2.2.2.2.2.2.2.2.2.2)) else none) else none) else some (Sum.inr (Sum.inl s.2)))
def My (s:(Int×Y5)):Option ((Int×Y5)⊕((Int×List Lk×Y1)⊕Unit)):=(bif decide (s.1<s.2.1) then (Ck (s.2.2.2.2.2.2.2.2.2.1,())).bind fun r0=>(bif decide ((List.length s.2.2.2.2.2.2.2.2.2.2.2.2.2.2.1+List.length [r0.1])≤(33554432:Nat)) then some (Sum.inl (wrap64 (s.1+1),s.2.1,s.2.2.1,s.2.2.2.1,s.2.2.2.2.1,s.2.2.2.2.2.1,s.2.2.2.2.2.2.1,s.2.2.2.2.2.2.2.1,s.2.2.2.2.2.2.2.2.1,s.2.2.2.2.2.2.2.2.2.1,s.2.2.2.2.2.2.2.2.2.2.1,s.2.2.2.2.2.2.2.2.2.2.2.1,s.2.2.2.2.2.2.2.2.2.2.2.2.1,s.2.2.2.2.2.2.2.2.2.2.2.2.2.1,(s.2.2.2.2.2.2.2.2.2.2.2.2.2.2.1++[r0.1]),s.2.2.2.2.2.2.2.2.2.2.2.2.2.2.2)) else none) else some (Sum.inr (Sum.inl (s.2.1,s.2.2.1,s.2.2.2.1,s.2.2.2.2.1,s.2.2.2.2.2.1,s.2.2.2.2.2.2.1,s.2.2.2.2.2.2.2.1,s.2.2.2.2.2.2.2.2.1,s.2.2.2.2.2.2.2.2.2.2))))
def Ny (s:(Int×Int×List Lk×Y1)):Option ((Int×Int×List Lk×Y1)⊕(Y1⊕Unit)):=(bif decide (s.1<nI (List.length s.2.2.1)) then (bif decide ((List.length s.2.2.2.2.2.2.2.2.2.2.2.1+List.length [true])≤(33554432:Nat)) then some (Sum.inl (wrap64 (s.1+1),s.2.1,s.2.2.1,s.2.2.2.1,s.2.2.2.2.1,s.2.2.2.2.2.1,s.2.2.2.2.2.2.1,s.2.2.2.2.2.2.2.1,s.2.2.2.2.2.2.2.2.1,s.2.2.2.2.2.2.2.2.2.1,s.2.2.2.2.2.2.2.2.2.2.1,(s.2.2.2.2.2.2.2.2.2.2.2.1++[true]),s.2.2.2.2.2.2.2.2.2.2.2.2)) else none) else some (Sum.inr (Sum.inl s.2.2.2)))
def TG (s:Y3):Option (Int×Bool×Y0):=(Qw s).bind fun r0=>(bif (!r0.1) then some (0,false,([]:List Lk),([]:List Bool),([]:List Int),([]:List (List Ls)),([]:List Pk),()) else (Ay s).bind fun r1=>(lp Ly Fa (0,s.1,s.2.1,0,([]:List Lk),([]:List Bool),([]:List Int),([]:List (List Ls)),([]:List Pk),([]:List Ls),r1.1,r1.2.1,([]:List Bool),([]:List Int),([]:List (List Ls)),([]:List Pk),())).bind fun r2=>(match r2 with| .inl x3=>(lp My Fa (0,x3)).bind fun r4=>(match r4 with| .inl x5=>(lp Ny Fa (0,x5)).bind fun r6=>(match r6 with| .inl x7=>some (x7.2.2.2.2.2.2.1,true,x7.2.2.2.2.2.2.2)| .inr _=>none)| .inr _=>none)| .inr _=>none))
def Oy (s:(List Ls×Int×Int×Y8)):Option ((List Ls×Int×Int×Y8)⊕(Y8⊕Unit)):=(bif decide (s.2.2.1<s.2.1) then (bif Ea s.2.2.1 (List.length s.1) then (Pn (s.2.2.2.1,(Ba .ls s.1 (Int.toNat s.2.2.1)).o,(Ba .ls s.1 (Int.toNat s.2.2.1)).s,(Ba .ls s.1 (Int.toNat s.2.2.1)).e,())).bind fun r0=>some (Sum.inl (s.1,s.2.1,wrap64 (s.2.2.1+1),r0.2)) else none) else some (Sum.inr (Sum.inl s.2.2.2)))
def Vd (s:(List Ls×Y8)):Option Y8:=(Lt (s.1,())).bind fun r0=>(lp Oy Fa (s.2.1,nI (List.length s.2.1),0,r0)).bind fun r1=>(match r1 with| .inl x2=>some x2| .inr _=>none)
def Py (s:(List Ls×Int×Y8)):Option ((List Ls×Int×Y8)⊕(Y8⊕Unit)):=(bif decide (s.2.1<nI (List.length s.1)) then (bif Ea s.2.1 (List.length s.1) then (Mt (s.2.2.1,(Ba .ls s.1 (Int.toNat s.2.1)).o,(Ba .ls s.1 (Int.toNat s.2.1)).s,(Ba .ls s.1 (Int.toNat s.2.1)).e,())).bind fun r0=>some (Sum.inl (s.1,wrap64 (s.2.1+1),r0.2)) else none) else some (Sum.inr (Sum.inl s.2.2)))
def UG (s:(List Ls×Y8)):Option Y8:=(Ck (s.1,())).bind fun r0=>(lp Py Fa (s.2.1,0,r0)).bind fun r1=>(match r1 with| .inl x2=>some x2| .inr _=>none)
end
section
open Go.RowKit
instance:DecidableEq En:=fun a b=>decidable_of_iff (a.n=b.n∧a.c=b.c) ⟨fun ⟨h1,h2⟩=>by cases a;cases b;simp_all,fun h=>by subst h;exact ⟨rfl,rfl⟩⟩
instance:DecidableEq Ls:=fun a b=>decidable_of_iff (a.o=b.o∧a.s=b.s∧a.e=b.e) ⟨fun ⟨h1,h2,h3⟩=>by cases a;cases b;simp_all,fun h=>by subst h;exact ⟨rfl,rfl,rfl⟩⟩
abbrev Sm {α:Type} (l:List α):Prop:=l.length≤16000000
def Df (db:List Ls):Prop:=Sm db∧∀l∈db,Sm l.e
theorem Df.fits {db:List Ls} (h:Df db):Fb db:=by have:=h.1;unfold Fb;unfold Sm at this;omega
theorem Fk {db:List Ls} {k:Nat} (h:k<db.length):Mb db k∈db:=by rw [Yd h];exact List.getElem_mem h
theorem PO {db:List Ls} {k:Nat} (h:k<db.length):db.take k++[⟨(Mb db k).o,(Mb db k).s,(Mb db k).e⟩]=db.take (k+1):=by
  rw [List.take_add_one,List.getElem?_eq_getElem h,Yd h];rfl
theorem VG (o s:Int) (es:List En) (h:Sm es):Lh (o,s,es,())=some (o,s,es,()):=by
  unfold Lh XM
  rw [decide_eq_true (by unfold Sm at h;dsimp only;omega)]
  rfl
theorem Nt (o s:Int) (es:List En) (h:Sm es):Xh (o,s,es,())=some (o,s,es,()):=by
  unfold Xh
  rw [decide_eq_true (by unfold Sm at h;simp;omega)]
  rfl
theorem QO (db:List Ls) (h:Df db):Lt (db,())=some (db,()):=by
  have h1:=h.1
  unfold Sm at h1
  unfold Lt
  refine Aa.out (Aa.bnd (R:=fun r=>match r with| .inl x=>x=(db,())| .inr _=>False) ?_ ?_)
  ·refine Aa.count db.length (fun k t=>t=(db,(db.length:Int),(k:Int),db.take k,())) ?_ (Nat.zero_le _) (Rc (by omega)) (by simp [Oa])
   rintro k t hk rfl
   by_cases hlt:k<db.length
   ·simp (disch:=omega) only [Dy,Ak,Xa,Ya,VG _ _ _ (h.2 _ (Fk hlt)),Option.bind_some]
    refine Aa.gd (decide_eq_true (by omega)) (Aa.gd (Ka (by omega) (by omega)) (Aa.gd (decide_eq_true (by simp;omega)) (.some ⟨hlt,?_⟩)))
    rw [PO hlt]
    rfl
   ·obtain rfl:k=db.length:=by omega
    unfold Dy
    simp only [dF (show ¬(db.length:Int)<db.length by omega),cond_false,List.take_length]
    exact .some rfl
  ·rintro (r|r) hr
   case inr=>exact hr.elim
   obtain rfl:=hr
   exact .some rfl
theorem Qy (db:List Ls) (h:Df db):Ck (db,())=some (db,()):=by
  have h1:=h.1
  unfold Sm at h1
  unfold Ck
  refine Aa.out (Aa.bnd (R:=fun r=>match r with| .inl x=>x=(db,())| .inr _=>False) ?_ ?_)
  ·refine Aa.count db.length (fun k t=>t=(db,(k:Int),db.take k,())) ?_ (Nat.zero_le _) (Rc (by omega)) (by simp [Oa])
   rintro k t hk rfl
   by_cases hlt:k<db.length
   ·simp (disch:=omega) only [Cy,Ak,Xa,Ya,Oa,Nt _ _ _ (h.2 _ (Fk hlt)),Option.bind_some]
    refine Aa.gd (decide_eq_true (by omega)) (Aa.gd (Ka (by omega) (by omega)) (Aa.gd (decide_eq_true (by simp;omega)) (.some ⟨hlt,?_⟩)))
    rw [PO hlt]
    rfl
   ·obtain rfl:k=db.length:=by omega
    unfold Cy
    simp only [Oa,dF (show ¬(db.length:Int)<db.length by omega),cond_false,List.take_length]
    exact .some rfl
  ·rintro (r|r) hr
   case inr=>exact hr.elim
   obtain rfl:=hr
   exact .some rfl
theorem Df.put {db:List Ls} (h:Df db) {l:Ls} (hl:Sm l.e) (hs:db.length≤1000000):Df (Uc db l)∧(Uc db l).length≤db.length+1:=by
  have hlen:(Li db l).length≤db.length+1:=by
    unfold Li
    have h1:∀ds:List Ls,(ds.filter fun x=>decide (x.o<l.o)).length+(ds.filter fun x=>decide (l.o<x.o)).length≤ds.length:=fun ds=>by
      induction ds with
      |nil=>simp
      |cons x r ih =>
       simp only [List.filter_cons]
       by_cases a:x.o<l.o
       ·have b:¬l.o<x.o:=by omega
        simp [a,b];omega
       ·by_cases b:l.o<x.o
        ·simp [a,b];omega
        ·simp [a,b];omega
    have:=h1 db
    simp only [List.length_append,List.length_cons]
    omega
  unfold Uc
  split
  ·refine ⟨⟨by unfold Sm;omega,fun x hx=>?_⟩,hlen⟩
   rcases Mi.1 hx with rfl|⟨hx,_⟩
   ·exact hl
   ·exact h.2 x hx
  ·exact ⟨h,by omega⟩
theorem RO (db:List Ls) (l:Ls) (hs:Tc db) (h:Df db) (hl:Sm l.e) (hn:db.length≤1000000):Pn (db,l.o,l.s,l.e,())=some (Zd db l,Uc db l,()):=by
  have hsrt:Ln db:=Ki.2 hs
  obtain ⟨i,hi,hp⟩:=lJ db l.o hsrt (by omega)
  unfold Pn
  dsimp only
  simp only [QO db h,Option.bind_some,hp,VG _ _ _ hl]
  have ins:Hj db l.o i=false→Zo ((i:Int),db,[l],())=some (Li db l,()):=fun hh=>by
    have:=hi.1
    unfold Zo
    simp only [UE]
    rw [decide_eq_true (by omega)]
    simp only [cond_true,Int.toNat_natCast]
    rw [lS hs hi hh]
  cases hh:Hj db l.o i with
  |false =>
   have hfd:fd db l.o=none:=by
     refine KG.2 fun x hx e=>?_
     obtain ⟨j,hj,rfl⟩:=List.getElem_of_mem hx
     rw [←Yd hj] at e
     have h1:i≤j:=by
       rcases Nat.lt_or_ge j i with h1|h1
       ·have:=hi.2.1 j h1;omega
       ·exact h1
     have h2:i<db.length:=by omega
     have h3:=hi.2.2 i (Nat.le_refl _) h2
     have h4:(Mb db i).o≤(Mb db j).o:=by
       rcases Nat.eq_or_lt_of_le h1 with h1|h1
       ·subst h1;omega
       ·have:=hsrt i j h1 hj;omega
     have:Hj db l.o i=true:=decide_eq_true ⟨h2,by omega⟩
     rw [hh] at this;cases this
   have hc:Zd db l=0:=by unfold Zd;rw [hfd]
   simp only [cond_false,ins hh,Option.bind_some]
   unfold Uc
   rw [hc,if_pos rfl]
  |true =>
   obtain ⟨h2,h3⟩:=oT hh
   have hfd:fd db l.o=some (Mb db i):=(On hs).2 ⟨Fk h2,h3⟩
   have hin:Ea (i:Int) db.length=true:=Ka (by omega) (by omega)
   simp only [cond_true,hin,Ak,Xa]
   have hpc:Zd db l=if (Mb db i).s=l.s then 1 else if l.s<(Mb db i).s then 2 else 0:=by unfold Zd;rw [hfd]
   unfold Uc
   rw [hpc]
   by_cases e1:(Mb db i).s=l.s
   ·simp [e1]
   ·by_cases e2:l.s<(Mb db i).s
    ·simp [e1,e2]
    ·have:=lR hs h2 h3
     simp [e1,e2,←this]
end
section
open Go.RowKit
theorem D4 {db:List Ls} {k:Nat} (p:Ls→Bool) (h:k<db.length):(db.take (k+1)).filter p=(db.take k).filter p++if p (Mb db k) then [Mb db k] else []:=by
  rw [List.take_add_one,List.getElem?_eq_getElem h,List.filter_append,Yd h]
  cases hp:p db[k]<;>simp [hp]
theorem lW {db:List Ls} (p:Ls→Bool) (k:Nat):((db.take k).filter p).length≤db.length:=Nat.le_trans (List.length_filter_le _ _) (by rw [List.length_take];omega)
theorem E4 {db:List Ls} (hs:Ln db) {o:Int} {k:Nat} (h1:∀i,i<k→(Mb db i).o<o) (h2:k<db.length→¬(Mb db k).o<o) (hk:k≤db.length):db.take k=db.filter fun x=>decide (x.o<o):=by
  have e1:(db.take k).filter (fun x=>decide (x.o<o))=db.take k:=by
    refine List.filter_eq_self.2 fun x hx=>?_
    obtain ⟨i,hi,rfl⟩:=List.getElem_of_mem hx
    have hi':i<k:=by rw [List.length_take] at hi;omega
    have:=h1 i hi'
    rw [Yd (by omega)] at this
    simpa [List.getElem_take] using this
  have e2:(db.drop k).filter (fun x=>decide (x.o<o))=[]:=by
    refine List.filter_eq_nil_iff.2 fun x hx=>?_
    obtain ⟨i,hi,rfl⟩:=List.getElem_of_mem hx
    have hi':k+i<db.length:=by rw [List.length_drop] at hi;omega
    have h3:=h2 (by omega)
    have h4:(Mb db k).o≤(Mb db (k+i)).o:=by
      rcases Nat.eq_zero_or_pos i with e|e
      ·subst e;exact Int.le_refl _
      ·have:=hs k (k+i) (by omega) hi';omega
    rw [Yd hi'] at h4
    simp only [List.getElem_drop,decide_eq_true_eq]
    omega
  calc db.take k=(db.take k).filter (fun x=>decide (x.o<o))++(db.drop k).filter (fun x=>decide (x.o<o)):=by rw [e1,e2,List.append_nil]
    _=db.filter fun x=>decide (x.o<o):=by rw [←List.filter_append,List.take_append_drop]
theorem lX (db:List Ls) (l:Ls) (hs:Ln db) (h:Df db):Aa (lp Dk Fa (db,0,l.o,l.s,l.e,[],())) fun r=>match r with| .inl x=>x=(db,l.o,l.s,l.e,db.filter (fun x=>decide (x.o<l.o)),())| .inr _=>False:=by
  have h1:=h.1
  unfold Sm at h1
  refine Aa.count db.length (fun k t=>t=(db,(k:Int),l.o,l.s,l.e,db.take k,())∧∀i,i<k→(Mb db i).o<l.o) ?_ (Nat.zero_le _) (Rc (by omega)) ⟨by simp,fun i hi=>by omega⟩
  rintro k t hk ⟨rfl,hok⟩
  by_cases hlt:k<db.length
  ·simp (disch:=omega) only [Dk,Ak,Xa,Ya,Oa,Nt _ _ _ (h.2 _ (Fk hlt)),Option.bind_some]
   refine Aa.gd (decide_eq_true (by omega)) (Aa.gd (Ka (by omega) (by omega)) (Aa.ite (fun hc=>?_) (fun hc=>?_)))
   ·have hc:=oT hc
    refine Aa.gd (Ka (by omega) (by omega)) (Aa.gd (decide_eq_true (by simp;omega)) (.some ⟨hlt,?_,fun i hi=>?_⟩))
    ·rw [PO hlt];rfl
    ·by_cases e:i<k
     ·exact hok i e
     ·obtain rfl:i=k:=by omega
      exact hc
   ·have hc:=oF hc
    exact .some (by rw [E4 hs hok (fun _=>hc) hk])
  ·obtain rfl:k=db.length:=by omega
   unfold Dk
   simp only [Oa,dF (show ¬(db.length:Int)<db.length by omega),cond_false]
   exact .some (by rw [E4 hs hok (fun h=>by omega) hk])
theorem lY (db:List Ls) (l:Ls) (out:List Ls) (h:Df db) (ho:out.length≤17000000):Aa (lp Ek Fa (db,0,l.o,l.s,l.e,out,())) fun r=>match r with| .inl x=>x=(out++db.filter (fun x=>decide (l.o<x.o)),())| .inr _=>False:=by
  have h1:=h.1
  unfold Sm at h1
  refine Aa.count db.length (fun k t=>t=(db,(k:Int),l.o,l.s,l.e,out++(db.take k).filter (fun x=>decide (l.o<x.o)),())) ?_ (Nat.zero_le _) (Rc (by omega)) (by simp)
  rintro k t hk rfl
  by_cases hlt:k<db.length
  ·have hfl:=lW (db:=db) (fun x=>decide (l.o<x.o)) k
   simp (disch:=omega) only [Ek,Ak,Xa,Ya,Oa,Nt _ _ _ (h.2 _ (Fk hlt)),Option.bind_some]
   refine Aa.gd (decide_eq_true (by omega)) (Aa.gd (Ka (by omega) (by omega)) (Aa.ite (fun hc=>?_) (fun hc=>?_)))
   ·have hc':=oT hc
    refine Aa.gd (Ka (by omega) (by omega)) (Aa.gd (decide_eq_true (by simp only [List.length_append,List.length_singleton];omega)) (.some ⟨hlt,?_⟩))
    rw [D4 _ hlt,if_pos hc,←List.append_assoc]
    rfl
   ·refine .some ⟨hlt,?_⟩
    rw [D4 _ hlt,if_neg (by rw [hc];simp),List.append_nil]
    rfl
  ·obtain rfl:k=db.length:=by omega
   unfold Ek
   simp only [Oa,dF (show ¬(db.length:Int)<db.length by omega),cond_false,List.take_length]
   exact .some rfl
theorem SO (db:List Ls) (l:Ls) (hs:Tc db) (h:Df db) (hl:Sm l.e):Mt (db,l.o,l.s,l.e,())=some (Zd db l,Uc db l,()):=by
  have hsrt:Ln db:=Ki.2 hs
  have h1:=h.1
  unfold Sm at h1
  have hfin:Aa ((lp Dk Fa (db,0,l.o,l.s,l.e,[],())).bind fun r3=>(match r3 with| .inl x4=>(Xh ((x4.2.1,(x4.2.2.1,(x4.2.2.2.1,()))))).bind fun r5=>(bif decide (((List.length x4.2.2.2.2.1+List.length ([(Ls.mk r5.1 r5.2.1 r5.2.2.1)]))≤(33554432:Nat))) then (lp Ek Fa ((x4.1,((0:Int),(x4.2.1,(x4.2.2.1,(x4.2.2.2.1,((x4.2.2.2.2.1++[(Ls.mk r5.1 r5.2.1 r5.2.2.1)]),())))))))).bind fun r6=>(match r6 with| .inl x7=>some (((0:Int),x7.1,()))| .inr _=>none) else none)| .inr _=>none)) (·=(0,Li db l,())):=by
    refine Aa.bnd (lX db l hsrt h) ?_
    rintro (r|r) hr
    case inr=>exact hr.elim
    obtain rfl:=hr
    dsimp only
    rw [Nt _ _ _ hl]
    have hfl:(db.filter fun x=>decide (x.o<l.o)).length≤db.length:=List.length_filter_le _ _
    simp only [Option.bind_some]
    refine Aa.gd (decide_eq_true (by simp only [List.length_singleton];omega)) (Aa.bnd (lY db l _ h (by simp only [List.length_append,List.length_singleton];omega)) ?_)
    rintro (r|r) hr
    case inr=>exact hr.elim
    obtain rfl:=hr
    refine .some ?_
    unfold Li
    simp
  have hfin:=hfin.out
  unfold Mt
  dsimp only
  rw [kF db l.o h.fits]
  unfold Uc Zd
  cases hfd:fd db l.o with
  |none =>
   simp only [Option.bind_some,cond_false]
   exact hfin
  |some old =>
   simp only [Option.bind_some,cond_true,Qy db h]
   by_cases e1:old.s=l.s
   ·simp only [e1,decide_true,cond_true]
    simp
   ·by_cases e2:l.s<old.s
    ·simp only [e1,e2,decide_true,decide_false,cond_true,cond_false]
     simp
    ·simp only [e1,e2,decide_false,cond_false]
     exact hfin
theorem TO {a b:List Ls} {k:Nat} (h:k<b.length):Zc a (b.take (k+1))=Uc (Zc a (b.take k)) (Mb b k):=by
  unfold Zc
  rw [List.take_add_one,List.getElem?_eq_getElem h,Yd h,List.foldl_append]
  rfl
theorem UO {a b:List Ls} (ha:Df a) (hb:Df b) (hla:a.length≤500000) (hlb:b.length≤400000):∀k,k≤b.length→Df (Zc a (b.take k))∧(Zc a (b.take k)).length≤a.length+k
  |0,_=>⟨by simpa [Zc] using ha,by simp [Zc]⟩
  |k+1,hk=>by
   obtain ⟨i1,i2⟩:=UO ha hb hla hlb k (by omega)
   rw [TO (by omega)]
   have:=i1.put (hb.2 _ (Fk (show k<b.length by omega))) (by omega)
   exact ⟨this.1,by omega⟩
theorem lZ (a b:List Ls) (hs:Tc a) (ha:Df a) (hb:Df b) (hla:a.length≤500000) (hlb:b.length≤400000):Vd (a,b,())=some (Zc a b,()):=by
  unfold Vd
  simp only [QO a ha,Option.bind_some,Oa]
  refine Aa.out (Aa.bnd (R:=fun r=>match r with| .inl x=>x=(Zc a b,())| .inr _=>False) ?_ ?_)
  ·refine Aa.count b.length (fun k t=>t=(b,(b.length:Int),(k:Int),Zc a (b.take k),())) ?_ (Nat.zero_le _) (Rc (by omega)) (by simp [Zc])
   rintro k t hk rfl
   by_cases hlt:k<b.length
   ·obtain ⟨i1,i2⟩:=UO ha hb hla hlb k hk
    simp (disch:=omega) only [Oy,Ak,Xa,Ya,RO _ _ (LG hs _) i1 (hb.2 _ (Fk hlt)) (show (Zc a (b.take k)).length≤1000000 by omega),Option.bind_some]
    refine Aa.gd (decide_eq_true (by omega)) (Aa.gd (Ka (by omega) (by omega)) (.some ⟨hlt,?_⟩))
    rw [TO hlt]
    rfl
   ·obtain rfl:k=b.length:=by omega
    unfold Oy
    simp only [dF (show ¬(b.length:Int)<b.length by omega),cond_false,List.take_length]
    exact .some rfl
  ·rintro (r|r) hr
   case inr=>exact hr.elim
   obtain rfl:=hr
   exact .some rfl
theorem mA (a b:List Ls) (hs:Tc a) (ha:Df a) (hb:Df b) (hla:a.length≤500000) (hlb:b.length≤400000):UG (a,b,())=some (Zc a b,()):=by
  unfold UG
  simp only [Qy a ha,Option.bind_some,Oa]
  refine Aa.out (Aa.bnd (R:=fun r=>match r with| .inl x=>x=(Zc a b,())| .inr _=>False) ?_ ?_)
  ·refine Aa.count b.length (fun k t=>t=(b,(k:Int),Zc a (b.take k),())) ?_ (Nat.zero_le _) (Rc (by omega)) (by simp [Zc])
   rintro k t hk rfl
   by_cases hlt:k<b.length
   ·obtain ⟨i1,i2⟩:=UO ha hb hla hlb k hk
    simp (disch:=omega) only [Py,Ak,Xa,Ya,Oa,SO _ _ (LG hs _) i1 (hb.2 _ (Fk hlt)),Option.bind_some]
    refine Aa.gd (decide_eq_true (by omega)) (Aa.gd (Ka (by omega) (by omega)) (.some ⟨hlt,?_⟩))
    rw [TO hlt]
    rfl
   ·obtain rfl:k=b.length:=by omega
    unfold Py
    simp only [Oa,dF (show ¬(b.length:Int)<b.length by omega),cond_false,List.take_length]
    exact .some rfl
  ·rintro (r|r) hr
   case inr=>exact hr.elim
   obtain rfl:=hr
   exact .some rfl
end
section
open Go.RowKit
def sy (f:Nat→Int) (e:Nat×Nat):Nat→Int:=fun n=>if n=e.1∨n=e.2 then max (f e.1) (f e.2) else f n
def Jn (ls:List Lk) (u v:Nat):Prop:=∃k s,Wk ls u k v s
theorem Jn.refl (ls:List Lk) (u:Nat):Jn ls u u:=⟨0,0,.nil⟩
theorem Jn.symm {ls:List Lk} {u v:Nat} (h:Jn ls u v):Jn ls v u:=by
  obtain ⟨k,s,w⟩:=h
  exact ⟨k,s,w.symm⟩
theorem Jn.trans {ls:List Lk} {u v x:Nat} (h:Jn ls u v) (h':Jn ls v x):Jn ls u x:=by
  obtain ⟨k,s,w⟩:=h
  obtain ⟨k',s',w'⟩:=h'
  exact ⟨_,_,w.append w'⟩
section
variable {N:Nat} {ls:List Lk}
end
end
section
open Go.RowKit
structure Ry (D:Nat→List Ls):Prop where
  srt:∀n,Tc (D n)
  pos:∀n,∀l∈D n,0≤l.s
  agr:∀m n,lU (D m) (D n)
def Ot (D:Nat→List Ls) (e:Nat×Nat):Nat→List Ls:=fun n=>if n=e.1∨n=e.2 then Zc (D e.1) (D e.2) else D n
theorem VO {D:Nat→List Ls} {e:Nat×Nat} {n:Nat} {x:Ls} (h:x∈Ot D e n):∃m,x∈D m:=by
  unfold Ot at h
  split at h
  ·rcases A4 h with h|h
   ·exact ⟨_,h⟩
   ·exact ⟨_,h⟩
  ·exact ⟨n,h⟩
theorem Ry.sy {D:Nat→List Ls} (K:Ry D) (e:Nat×Nat):Ry (Ot D e):=by
  refine ⟨fun n=>?_,fun n l hl=>?_,fun m n x hx y hy=>?_⟩
  ·unfold Ot
   split
   ·exact LG (K.srt _) _
   ·exact K.srt n
  ·obtain ⟨m,hm⟩:=VO hl
   exact K.pos m l hm
  ·obtain ⟨i,hi⟩:=VO hx
   obtain ⟨j,hj⟩:=VO hy
   exact K.agr i j x hi y hj
theorem Ry.seq {D:Nat→List Ls} (K:Ry D) (e:Nat×Nat) (o:Int) (n:Nat):Nc (Ot D e n) o=Go.Proofs.YtknkhdjhongklaaGreat.sy (fun n=>Nc (D n) o) e n:=by
  unfold Ot Go.Proofs.YtknkhdjhongklaaGreat.sy
  split
  ·exact Z3 (K.srt _) (K.srt _) (K.pos _) (K.pos _) o
  ·rfl
section
variable {N:Nat} {ls:List Lk} {D:Nat→List Ls}
end
end
section
open Go.RowKit
structure Wd where
  n:Int
  ls:List Lk
  up:List Bool
  sq:List Int
  db:List (List Ls)
  net:List Pk
def Eb (db:List (List Ls)) (i:Nat):List Ls:=db.getD i []
def Yg (ls:List Lk) (up:List Bool) (k:Nat):List Lk:=((List.range k).filter fun i=>up.getD i false).map (lk ls)
def Mc (ls:List Lk) (up:List Bool):List Lk:=Yg ls up ls.length
theorem WG (ls:List Lk) (up:List Bool) (k:Nat):Yg ls up (k+1)=if up.getD k false then Yg ls up k++[lk ls k] else Yg ls up k:=by
  unfold Yg
  rw [List.range_succ,List.filter_append,List.map_append,List.filter_cons]
  cases h:up.getD k false with
  |false=>simp
  |true=>rfl
theorem XG {ls:List Lk} {up:List Bool} {l:Lk}:l∈Mc ls up↔∃i,i<ls.length∧up.getD i false=true∧l=lk ls i:=by
  unfold Mc Yg
  rw [List.mem_map]
  constructor
  ·rintro ⟨i,hi,rfl⟩
   obtain ⟨h1,h2⟩:=List.mem_filter.1 hi
   exact ⟨i,List.mem_range.1 h1,h2,rfl⟩
  ·rintro ⟨i,h1,h2,rfl⟩
   exact ⟨i,List.mem_filter.2 ⟨List.mem_range.2 h1,h2⟩,rfl⟩
theorem mB (ls:List Lk) (up:List Bool):(Mc ls up).length≤ls.length:=by
  unfold Mc Yg
  rw [List.length_map]
  exact Nat.le_trans (List.length_filter_le _ _) (by simp)
theorem Cp {n:Int} {ls:List Lk} (g:GV n ls) (up:List Bool):GV n (Mc ls up):=by
  refine Mw.2 ⟨g.1,g.2.1,Nat.le_trans (mB ls up) g.2.2.1,fun l hl=>?_,?_⟩
  ·obtain ⟨i,hi,_,rfl⟩:=XG.1 hl
   exact g.ok (Ej hi)
  ·unfold Mc Yg
   rw [List.pairwise_map]
   refine List.Pairwise.imp_of_mem ?_ (List.Pairwise.filter _ (List.pairwise_lt_range (n:=ls.length)))
   intro a b ha hb hab
   have h1:=List.mem_range.1 (List.mem_filter.1 ha).1
   have h2:=List.mem_range.1 (List.mem_filter.1 hb).1
   have:=List.pairwise_iff_getElem.1 g.pw a b h1 h2 hab
   rwa [Jh h1,Jh h2]
def WO (w:Wd) (A:Int→Prop) (l:Ls):Prop:=Ng l∧l.o<w.n∧l.s≤iz w.sq l.o.toNat∧(∀e∈l.e,lc w.ls l.o e.n=some e.c)∧(l.s<iz w.sq l.o.toNat∨l.e=Wc (Mc w.ls w.up) w.n.toNat l.o∨A l.o)
def Zg (w:Wd) (l:Ls):Prop:=(∃i,i<w.db.length∧l∈Eb w.db i)∨∃p∈w.net,l=p.p
structure WV (w:Wd) (A:Int→Prop):Prop where
  g:GV w.n w.ls
  up:w.up.length=w.ls.length
  sq:(w.sq.length:Int)=w.n
  db:(w.db.length:Int)=w.n
  net:w.net.length≤16
  rng:∀i,i<w.sq.length→1≤iz w.sq i∧iz w.sq i≤99
  ok:∀i,i<w.db.length→Je (Eb w.db i)
  own:∀i,i<w.db.length→∃l∈Eb w.db i,l.o=i∧l.s=iz w.sq i
  poss:∀l,Zg w l→WO w A l
  agr:∀x y,Zg w x→Zg w y→x.o=y.o→x.s=y.s→x=y
  tgt:∀p∈w.net,0≤p.t∧p.t<w.n
def Ni (l:Ls) (ex:Int) (net:List Pk) (m:Int):List Pk:=if m≠ex∧net.length<16 then net++[⟨m,l⟩] else net
def Id (l:Ls) (ex:Int) (net:List Pk) (nb:List Int):List Pk:=nb.foldl (Ni l ex) net
theorem Sy {l:Ls} {ex:Int} {p:Pk}:∀{nb:List Int} {net:List Pk},p∈Id l ex net nb→p∈net∨∃m∈nb,p=⟨m,l⟩
  |[],net,h=>.inl h
  |m::r,net,h=>by
   rcases Sy (nb:=r) (net:=Ni l ex net m) h with h|⟨x,hx,e⟩
   ·unfold Ni at h
    split at h
    ·rcases List.mem_append.1 h with h|h
     ·exact .inl h
     ·exact .inr ⟨m,List.mem_cons_self ..,List.mem_singleton.1 h⟩
    ·exact .inl h
   ·exact .inr ⟨x,List.mem_cons_of_mem _ hx,e⟩
theorem XO {l:Ls} {ex:Int}:∀{nb:List Int} {net:List Pk},net.length≤16→(Id l ex net nb).length≤16
  |[],net,h=>h
  |m::r,net,h=>XO (nb:=r) (by unfold Ni;split;rw [List.length_append,List.length_singleton];omega;exact h)
def Of (w:Wd) (i:Nat):Ls:=⟨i,iz w.sq i+1,Wc (Mc w.ls w.up) w.n.toNat i⟩
def Mh (w:Wd) (i:Nat):Wd:={ w with sq:=w.sq.set i (iz w.sq i+1),db:=w.db.set i (Uc (Eb w.db i) (Of w i)),net:=Id (Of w i) (-1) w.net (Ic (Mc w.ls w.up) i w.n.toNat) }
theorem Qn {db:List (List Ls)} {i j:Nat} {d:List Ls} (hi:i<db.length):Eb (db.set i d) j=if j=i then d else Eb db j:=by
  unfold Eb
  simp only [List.getD,List.getElem?_set]
  by_cases h:i=j
  ·subst h;simp [hi]
  ·rw [if_neg h,if_neg (fun e=>h e.symm)]
end
section
open Go.RowKit
section
variable {N:Nat} {ls:List Lk} {node:Int} {ends:List En}
theorem F4 {l:List Int} {f:Int→En} {i:Nat} (h:i<l.length):en (l.map f) i=f (iz l i):=by simp [en,iz,h]
theorem mC {l:List Int} (h:l.Pairwise (·<·)) {i j:Nat} (hij:i<j) (hj:j<l.length):iz l i<iz l j:=by
  have:=List.pairwise_iff_getElem.1 h i j (by omega) hj hij
  simpa [iz,hj,show i<l.length by omega] using this
theorem YO (g:GV N ls) {n:Nat} (hn:n<N):Ng ⟨n,1,Wc ls N n⟩:=by
  have h8:=g.2.1
  refine ⟨by dsimp only;omega,by dsimp only;omega,by dsimp only;omega,by dsimp only;omega,fun i hi=>?_⟩
  dsimp only at hi ⊢
  have hi':i<(Ic ls n N).length:=by unfold Wc at hi;simpa using hi
  have hm:iz (Ic ls n N) i∈Ic ls n N:=List.mem_of_getElem? (YH hi')
  obtain ⟨j,hj,e,hs⟩:=Mn.1 hm
  obtain ⟨c,hc⟩:=Option.isSome_iff_exists.1 hs
  have hcc:=jB g hc
  have hne:=(FO g hs).2.2.2.2
  unfold LF Wc
  rw [F4 hi',e,hc]
  refine ⟨by dsimp only;omega,by dsimp only;omega,by dsimp only;omega,hcc.1,hcc.2,fun h0=>?_⟩
  rw [F4 (show i-1<(Ic ls n N).length by omega)]
  have:=mC (IG ls n N) (show i-1<i by omega) hi'
  dsimp only
  omega
end
section
variable {ls:List Lk} {ends:List En}
end
end
section
open Go.RowKit
theorem mD {n:Int} {ls:List Lk} (g:GV n ls) {up:List Bool} {a b c:Int} (h:lc (Mc ls up) a b=some c):lc ls a b=some c:=by
  have hm:=Dt h
  obtain ⟨i,hi,_,e⟩:=XG.1 hm
  exact (OE g.pw).2 (by rw [e];exact Ej hi)
theorem G4 {ls:List Lk} {N:Nat} {o:Int} {e:En} (h:e∈Wc ls N o):lc ls o e.n=some e.c:=by
  unfold Wc at h
  obtain ⟨x,hx,rfl⟩:=List.mem_map.1 h
  obtain ⟨j,_,rfl,hs⟩:=Mn.1 hx
  obtain ⟨c,hc⟩:=Option.isSome_iff_exists.1 hs
  dsimp only
  rw [hc];rfl
theorem Uy {d:List Int} {y j:Nat} {v:Int} (hy:y<d.length):iz (d.set y v) j=if j=y then v else iz d j:=iU d y j v hy
theorem ZO {w:Wd} {A:Int→Prop} (h:WV w A) {i:Nat} (hi:i<w.db.length) (h99:iz w.sq i<99):Ng (Of w i):=by
  have hdb:=h.db
  obtain ⟨N,hN⟩:=Int.eq_ofNat_of_zero_le (show 0≤w.n by omega)
  have g:GV (N:Int) (Mc w.ls w.up):=by have:=Cp h.g w.up;rwa [hN] at this
  have hiN:i<N:=by omega
  have h1:=YO g hiN
  have hr:=h.rng i (by have:=h.sq;omega)
  unfold Of
  rw [hN,Int.toNat_natCast]
  exact ⟨h1.1,h1.2.1,by dsimp only;omega,by dsimp only;omega,h1.2.2.2.2⟩
theorem AP {w:Wd} {A:Int→Prop} (h:WV w A) {i:Nat} (hi:i<w.db.length) {l:Ls} (hl:Zg (Mh w i) l):l=Of w i∨Zg w l:=by
  rcases hl with ⟨j,hj,hl⟩|⟨p,hp,rfl⟩
  ·have hj:j<w.db.length:=by simpa [Mh] using hj
   have hl:l∈Eb (w.db.set i (Uc (Eb w.db i) (Of w i))) j:=hl
   rw [Qn hi] at hl
   split at hl
   ·unfold Uc at hl
    split at hl
    ·rcases Mi.1 hl with rfl|hl
     ·exact .inl rfl
     ·exact .inr (.inl ⟨i,hi,hl.1⟩)
    ·exact .inr (.inl ⟨i,hi,hl⟩)
   ·exact .inr (.inl ⟨j,hj,hl⟩)
  ·rcases Sy (show p∈Id (Of w i) (-1) w.net _ from hp) with h|⟨m,_,rfl⟩
   ·exact .inr (.inr ⟨p,h,rfl⟩)
   ·exact .inl rfl
theorem BP {w:Wd} {A:Int→Prop} (h:WV w A) {i:Nat} (hi:i<w.db.length) (h99:iz w.sq i<99):WV (Mh w i) (fun o=>A o∧o≠i):=by
  have hsq:=h.sq
  have hdb:=h.db
  have his:i<w.sq.length:=by omega
  have hnew:=ZO h hi h99
  have hsrt:∀j,j<w.db.length→Tc (Eb w.db j):=fun j hj=>Ki.1 (h.ok j hj).srt
  have hz:∀j,iz (w.sq.set i (iz w.sq i+1)) j=if j=i then iz w.sq i+1 else iz w.sq j:=fun j=>Uy his
  have no:(Of w i).o=i:=rfl
  have ns:(Of w i).s=iz w.sq i+1:=rfl
  refine ⟨h.g,h.up,?_,?_,XO h.net,fun j hj=>?_,fun j hj=>?_,fun j hj=>?_,fun l hl=>?_,fun x y hx hy e1 e2=>?_,fun p hp=>?_⟩
  ·show ((w.sq.set i _).length:Int)=w.n
   rw [List.length_set];exact hsq
  ·show ((w.db.set i _).length:Int)=w.n
   rw [List.length_set];exact hdb
  ·have hj:j<w.sq.length:=by simpa [Mh] using hj
   show 1≤iz (w.sq.set i _) j∧iz (w.sq.set i _) j≤99
   rw [hz]
   have:=h.rng i his
   split
   ·omega
   ·exact h.rng j hj
  ·have hj:j<w.db.length:=by simpa [Mh] using hj
   show Je (Eb (w.db.set i _) j)
   rw [Qn hi]
   split
   ·exact HO (h.ok i hi) hnew
   ·exact h.ok j hj
  ·have hj:j<w.db.length:=by simpa [Mh] using hj
   show ∃l∈Eb (w.db.set i _) j,l.o=j∧l.s=iz (w.sq.set i _) j
   rw [Qn hi,hz]
   by_cases e:j=i
   ·subst e
    rw [if_pos rfl,if_pos rfl]
    obtain ⟨l,hl,h1,h2⟩:=h.own j hi
    refine ⟨Of w j,?_,rfl,rfl⟩
    have hc:Zd (Eb w.db j) (Of w j)=0:=by
      refine (KO (by rw [ns];have:=h.rng j his;omega)).2 ?_
      unfold Nc
      rw [no,(On (hsrt j hi)).2 ⟨hl,h1⟩,ns]
      dsimp only
      omega
    unfold Uc
    rw [if_pos hc]
    exact Mi.2 (.inl rfl)
   ·rw [if_neg e,if_neg e]
    exact h.own j hj
  ·show Ng l∧l.o<w.n∧l.s≤iz (w.sq.set i _) l.o.toNat∧(∀e∈l.e,lc w.ls l.o e.n=some e.c)∧(l.s<iz (w.sq.set i _) l.o.toNat∨l.e=Wc (Mc w.ls w.up) w.n.toNat l.o∨A l.o∧l.o≠i)
   rw [hz]
   rcases AP h hi hl with rfl|hl
   ·rw [no,Int.toNat_natCast,if_pos rfl]
    exact ⟨hnew,by omega,Int.le_of_eq ns,fun e he=>mD h.g (G4 he),.inr (.inl rfl)⟩
   ·obtain ⟨p1,p2,p3,p4,p5⟩:=h.poss l hl
    have ho:=p1.1
    by_cases e:l.o.toNat=i
    ·rw [if_pos e]
     rw [e] at p3
     exact ⟨p1,p2,by omega,p4,.inl (by omega)⟩
    ·rw [if_neg e]
     exact ⟨p1,p2,p3,p4,p5.imp id fun h=>h.imp id fun h=>⟨h,by omega⟩⟩
  ·have old:∀z,Zg w z→z.o=(i:Int)→z.s≤iz w.sq i:=fun z hz e=>by
     have:=(h.poss z hz).2.2.1
     rwa [e,Int.toNat_natCast] at this
   rcases AP h hi hx with rfl|hx<;>rcases AP h hi hy with rfl|hy
   ·rfl
   ·have:=old y hy (by rw [←e1];rfl)
    rw [ns] at e2;omega
   ·have:=old x hx (by rw [e1];rfl)
    rw [ns] at e2;omega
   ·exact h.agr x y hx hy e1 e2
  ·rcases Sy (show p∈Id (Of w i) (-1) w.net _ from hp) with hp|⟨m,hm,rfl⟩
   ·exact h.tgt p hp
   ·obtain ⟨j,hj,rfl,_⟩:=Mn.1 hm
    show 0≤(j:Int)∧(j:Int)<w.n
    omega
end
section
open Go.RowKit
abbrev Pf:Int→Prop:=fun _=>False
theorem WV.mono {w:Wd} {A B:Int→Prop} (h:WV w A) (k:∀o,A o→B o):WV w B :=
  ⟨h.g,h.up,h.sq,h.db,h.net,h.rng,h.ok,h.own,fun l hl=>by
    obtain ⟨p1,p2,p3,p4,p5⟩:=h.poss l hl
    exact ⟨p1,p2,p3,p4,p5.imp id fun q=>q.imp id (k _)⟩,h.agr,h.tgt⟩
theorem WV.less {w:Wd} {A:Int→Prop} (h:WV w A) {db':List (List Ls)} {net':List Pk} (hd:db'.length=w.db.length) (hn:net'.length≤16) (ok:∀i,i<w.db.length→Je (Eb db' i)) (own:∀i,i<w.db.length→∃l∈Eb db' i,l.o=i∧l.s=iz w.sq i) (said:∀l,Zg { w with db:=db',net:=net' } l→Zg w l) (tgt:∀p∈net',0≤p.t∧p.t<w.n):WV { w with db:=db',net:=net' } A :=
  ⟨h.g,h.up,h.sq,by show (db'.length:Int)=w.n;rw [hd];exact h.db,hn,h.rng,fun i hi=>ok i (by rw [←hd];exact hi),fun i hi=>own i (by rw [←hd];exact hi),fun l hl=>h.poss l (said l hl),fun x y hx hy=>h.agr x y (said x hx) (said y hy),tgt⟩
section
variable {w:Wd}
theorem WV.seq_le {A:Int→Prop} (h:WV w A) {i:Nat} (hi:i<w.db.length) {o:Nat} (ho:o<w.db.length):Nc (Eb w.db i) o≤iz w.sq o:=by
  unfold Nc
  have hr:=h.rng o (by have:=h.sq;have:=h.db;omega)
  cases e:fd (Eb w.db i) o with
  |none=>dsimp only;omega
  |some l =>
   obtain ⟨h1,h2⟩:=(On (Ki.1 (h.ok i hi).srt)).1 e
   have:=(h.poss l (.inl ⟨i,hi,h1⟩)).2.2.1
   rw [h2,Int.toNat_natCast] at this
   exact this
theorem WV.seq_own {A:Int→Prop} (h:WV w A) {i:Nat} (hi:i<w.db.length):Nc (Eb w.db i) i=iz w.sq i:=by
  obtain ⟨l,hl,h1,h2⟩:=h.own i hi
  unfold Nc
  rw [(On (Ki.1 (h.ok i hi).srt)).2 ⟨hl,h1⟩]
  exact h2
theorem I4 {d:List Ls} (hs:Tc d) {o v:Int} (hv:0≤v) (h:Nc d o=v):∃l∈d,l.o=o∧l.s=v:=by
  unfold Nc at h
  cases e:fd d o with
  |none=>rw [e] at h;dsimp only at h;omega
  |some l =>
   rw [e] at h
   obtain ⟨h1,h2⟩:=(On hs).1 e
   exact ⟨l,h1,h2,h⟩
def Rn (w:Wd) (a b:Nat):Wd:={ w with db:=(w.db.set a (Zc (Eb w.db a) (Eb w.db b))).set b (Zc (Eb w.db a) (Eb w.db b)) }
theorem CP {a b:Nat} (ha:a<w.db.length) (hb:b<w.db.length) (i:Nat):Eb (Rn w a b).db i=if i=a∨i=b then Zc (Eb w.db a) (Eb w.db b) else Eb w.db i:=by
  show Eb ((w.db.set a _).set b _) i=_
  rw [Qn (by rw [List.length_set];exact hb)]
  by_cases h:i=b
  ·rw [if_pos h,if_pos (.inr h)]
  ·rw [if_neg h,Qn ha]
   by_cases h2:i=a
   ·rw [if_pos h2,if_pos (.inl h2)]
   ·rw [if_neg h2,if_neg (by rintro (e|e);exact h2 e;exact h e)]
theorem Je.pos {db:List Ls} (h:Je db):∀l∈db,0≤l.s:=fun l hl=>by
  have:=((Nn.1 h).1 l hl).2.2.1
  omega
theorem mE {A:Int→Prop} (h:WV w A) {a b:Nat} (ha:a<w.db.length) (hb:b<w.db.length):WV (Rn w a b) A:=by
  have sa:=Ki.1 (h.ok a ha).srt
  have sb:=Ki.1 (h.ok b hb).srt
  have pa:=(h.ok a ha).pos
  have pb:=(h.ok b hb).pos
  refine h.less (db':=(Rn w a b).db) (net':=w.net) (by simp [Rn]) h.net (fun i hi=>?_) (fun i hi=>?_) (fun l hl=>?_) h.tgt
  ·rw [CP ha hb]
   split
   ·exact JO (h.ok a ha) (Nn.1 (h.ok b hb)).1
   ·exact h.ok i hi
  ·rw [CP ha hb]
   have hr:=h.rng i (by have:=h.sq;have:=h.db;omega)
   split
   ·rename_i e
    refine I4 (LG sa _) (by omega) ?_
    rw [Z3 sa sb pb pa]
    have q1:=h.seq_le ha hi
    have q2:=h.seq_le hb hi
    rcases e with rfl|rfl
    ·have:=h.seq_own hi;omega
    ·have:=h.seq_own hi;omega
   ·exact h.own i hi
  ·rcases hl with ⟨j,hj,hl⟩|hl
   ·have hl:l∈Eb (Rn w a b).db j:=hl
    have hj:j<w.db.length:=by simpa [Rn] using hj
    rw [CP ha hb] at hl
    split at hl
    ·rcases A4 hl with h|h
     ·exact .inl ⟨a,ha,h⟩
     ·exact .inl ⟨b,hb,h⟩
    ·exact .inl ⟨j,hj,hl⟩
   ·exact .inr hl
theorem DP {A:Int→Prop} (h:WV w A) (k:Nat):WV { w with net:=w.net.eraseIdx k } A:=by
  refine h.less (db':=w.db) rfl (Nat.le_trans (List.length_eraseIdx_le _ _) h.net) h.ok h.own (fun l hl=>?_) (fun p hp=>h.tgt p (List.mem_of_mem_eraseIdx hp))
  rcases hl with hl|⟨p,hp,rfl⟩
  ·exact .inl hl
  ·exact .inr ⟨p,List.mem_of_mem_eraseIdx hp,rfl⟩
theorem mF {A:Int→Prop} (h:WV w A) {p:Pk} (hp:p∈w.net) (hl:w.net.length<16):WV { w with net:=w.net++[p] } A:=by
  refine h.less (db':=w.db) rfl (by rw [List.length_append,List.length_singleton];omega) h.ok h.own (fun l hl=>?_) (fun q hq=>?_)
  ·rcases hl with hl|⟨q,hq,rfl⟩
   ·exact .inl hl
   ·rcases List.mem_append.1 hq with hq|hq
    ·exact .inr ⟨q,hq,rfl⟩
    ·obtain rfl:=List.mem_singleton.1 hq
     exact .inr ⟨q,hp,rfl⟩
  ·rcases List.mem_append.1 hq with hq|hq
   ·exact h.tgt q hq
   ·obtain rfl:=List.mem_singleton.1 hq
    exact h.tgt q hp
def Ep (w:Wd) (t:Nat) (l:Ls):Wd:=if Zd (Eb w.db t) l=0 then { w with db:=w.db.set t (Uc (Eb w.db t) l),net:=Id l l.o w.net (Ic (Mc w.ls w.up) t w.n.toNat) } else w
theorem mG {A:Int→Prop} (h:WV w A) {t:Nat} (ht:t<w.db.length) {l:Ls} (hV:Ng l) (hs:l.o<w.n) (hq:l.s≤iz w.sq l.o.toNat) (hP:WO w A l) (hag:∀y,Zg w y→l.o=y.o→l.s=y.s→l=y):WV (Ep w t l) A:=by
  unfold Ep
  split
  case isFalse=>exact h
  rename_i hc
  have hdb:=h.db
  have st:=Ki.1 (h.ok t ht).srt
  have said:∀x,Zg { w with db:=w.db.set t (Uc (Eb w.db t) l),net:=Id l l.o w.net (Ic (Mc w.ls w.up) t w.n.toNat) } x→x=l∨Zg w x:=fun x hx=>by
    rcases hx with ⟨j,hj,hx⟩|⟨p,hp,rfl⟩
    ·have hj:j<w.db.length:=by simpa using hj
     have hx:x∈Eb (w.db.set t (Uc (Eb w.db t) l)) j:=hx
     rw [Qn ht] at hx
     split at hx
     ·unfold Uc at hx
      rw [if_pos hc] at hx
      rcases Mi.1 hx with rfl|hx
      ·exact .inl rfl
      ·exact .inr (.inl ⟨t,ht,hx.1⟩)
     ·exact .inr (.inl ⟨j,hj,hx⟩)
    ·rcases Sy (show p∈Id l l.o w.net _ from hp) with hp|⟨m,_,rfl⟩
     ·exact .inr (.inr ⟨p,hp,rfl⟩)
     ·exact .inl rfl
  refine ⟨h.g,h.up,h.sq,by show ((w.db.set t _).length:Int)=w.n;rw [List.length_set];exact hdb,XO h.net,h.rng,fun j hj=>?_,fun j hj=>?_,fun x hx=>?_,fun x y hx hy e1 e2=>?_,fun p hp=>?_⟩
  ·have hj:j<w.db.length:=by simpa using hj
   show Je (Eb (w.db.set t _) j)
   rw [Qn ht]
   split
   ·exact HO (h.ok t ht) hV
   ·exact h.ok j hj
  ·have hj:j<w.db.length:=by simpa using hj
   show ∃x∈Eb (w.db.set t _) j,x.o=j∧x.s=iz w.sq j
   rw [Qn ht]
   split
   ·rename_i e
    subst e
    have hr:=h.rng j (by have:=h.sq;omega)
    refine I4 (JG st l) (by omega) ?_
    have hp:0≤l.s:=by have:=hV.2.2.1;omega
    rw [V3 st hp]
    have:=h.seq_own ht
    split
    ·rename_i e
     have e2:l.o.toNat=j:=by omega
     rw [e2] at hq
     omega
    ·omega
   ·exact h.own j hj
  ·rcases said x hx with rfl|hx
   ·exact hP
   ·exact h.poss x hx
  ·rcases said x hx with ex|hx1
   ·rcases said y hy with ey|hy1
    ·rw [ex,ey]
    ·rw [ex] at e1 e2 ⊢
     exact hag y hy1 e1 e2
   ·rcases said y hy with ey|hy1
    ·rw [ey] at e1 e2 ⊢
     exact (hag x hx1 e1.symm e2.symm).symm
    ·exact h.agr x y hx1 hy1 e1 e2
  ·rcases Sy (show p∈Id l l.o w.net _ from hp) with hp|⟨m,hm,rfl⟩
   ·exact h.tgt p hp
   ·obtain ⟨j,hj,rfl,_⟩:=Mn.1 hm
    show 0≤(j:Int)∧(j:Int)<w.n
    omega
end
end
section
open Go.RowKit
theorem mH {ls ls':List Lk} {m:Int} (h:∀x:Int,lc ls m x=lc ls' m x) (k:Nat):Ic ls m k=Ic ls' m k:=by
  unfold Ic
  congr 1
  refine List.filter_congr fun x _=>?_
  rw [←PE,←PE,h]
theorem mI {ls ls':List Lk} {m:Int} (h:∀x:Int,lc ls m x=lc ls' m x) (N:Nat):Wc ls N m=Wc ls' N m:=by
  unfold Wc
  rw [mH h N]
  exact List.map_congr_left fun x _=>by rw [h]
theorem J4 {up:List Bool} {k i:Nat} {u:Bool} (h:i≠k):(up.set k u).getD i false=up.getD i false:=by
  simp only [List.getD,List.getElem?_set]
  rw [if_neg (fun e=>h e.symm)]
theorem mJ {n:Int} {ls:List Lk} (g:GV n ls) {up:List Bool} {k:Nat} {u:Bool} {o:Int} (ha:o≠(lk ls k).a) (hb:o≠(lk ls k).b) (x:Int):lc (Mc ls (up.set k u)) o x=lc (Mc ls up) o x:=by
  have key:∀c,(⟨min o x,max o x,c⟩:Lk)∈Mc ls (up.set k u)↔(⟨min o x,max o x,c⟩:Lk)∈Mc ls up:=fun c=>by
    rw [XG,XG]
    have ne:∀i,(⟨min o x,max o x,c⟩:Lk)=lk ls i→i≠k:=fun i e hik=>by
      subst hik
      rw [←e] at ha hb
      dsimp only at ha hb
      omega
    constructor
    ·rintro ⟨i,h1,h2,h3⟩
     exact ⟨i,h1,by rwa [J4 (ne i h3)] at h2,h3⟩
    ·rintro ⟨i,h1,h2,h3⟩
     exact ⟨i,h1,by rwa [J4 (ne i h3)],h3⟩
  refine Option.ext fun c=>?_
  have h1:=OE (Cp g (up.set k u)).pw (a:=o) (b:=x) (c:=c)
  have h2:=OE (Cp g up).pw (a:=o) (b:=x) (c:=c)
  exact (h1.trans (key c)).trans h2.symm
theorem YG {w:Wd} (h:WV w Pf) {k:Nat} (hk:k<w.ls.length) (u:Bool):WV { w with up:=w.up.set k u } (fun o=>o=(lk w.ls k).a∨o=(lk w.ls k).b) :=
  ⟨h.g,by show (w.up.set k u).length=w.ls.length;rw [List.length_set];exact h.up,h.sq,h.db,h.net,h.rng,h.ok,h.own,fun l hl=>by
    obtain ⟨p1,p2,p3,p4,p5⟩:=h.poss l hl
    refine ⟨p1,p2,p3,p4,?_⟩
    by_cases hA:l.o=(lk w.ls k).a∨l.o=(lk w.ls k).b
    ·exact .inr (.inr hA)
    ·refine p5.imp id fun q=>.inl ?_
     have q:=q.resolve_right id
     show l.e=Wc (Mc w.ls (w.up.set k u)) w.n.toNat l.o
     rw [q]
     exact (mI (mJ h.g (fun e=>hA (.inl e)) (fun e=>hA (.inr e))) _).symm,h.agr,h.tgt⟩
def Nh (w:Wd) (k:Nat) (u:Bool):Wd:=if w.up.getD k false=u∨99≤iz w.sq (lk w.ls k).a.toNat∨99≤iz w.sq (lk w.ls k).b.toNat then w else Mh (Mh { w with up:=w.up.set k u } (lk w.ls k).a.toNat) (lk w.ls k).b.toNat
theorem mK {w:Wd} (h:WV w Pf) {k:Nat} (hk:k<w.ls.length) (u:Bool):WV (Nh w k u) Pf:=by
  unfold Nh
  split
  ·exact h
  ·rename_i hn
   have hdb:=h.db
   have hsq:=h.sq
   have ho:=h.g.ok (Ej hk)
   unfold Lg at ho
   have h1:=BP (YG h hk u) (i:=(lk w.ls k).a.toNat) (by show _<w.db.length;omega) (by show iz w.sq _<99;omega)
   have h2:=BP h1 (i:=(lk w.ls k).b.toNat) (by show _<(w.db.set _ _).length;rw [List.length_set];omega) (by
     show iz (w.sq.set (lk w.ls k).a.toNat _) (lk w.ls k).b.toNat<99
     rw [Uy (by omega),if_neg (by omega)]
     omega)
   refine h2.mono fun o ho'=>?_
   obtain ⟨⟨q,q1⟩,q2⟩:=ho'
   rcases q with e|e
   ·exact q1 (by omega)
   ·exact q2 (by omega)
def Se (n:Int) (ls:List Lk):Wd:=⟨n,ls,List.replicate ls.length true,List.replicate n.toNat 1,List.replicate n.toNat ((List.range n.toNat).map fun i:Nat=>(⟨i,1,Wc ls n.toNat i⟩:Ls)),[]⟩
theorem mL (ls:List Lk):Mc ls (List.replicate ls.length true)=ls:=by
  unfold Mc Yg
  have:(List.range ls.length).filter (fun i=>(List.replicate ls.length true).getD i false)=List.range ls.length:=by
    rw [List.filter_eq_self]
    intro i hi
    have:=List.mem_range.1 hi
    simp [List.getD,this]
  rw [this]
  refine List.ext_getElem (by simp) fun i h1 h2=>?_
  rw [List.getElem_map,List.getElem_range,Jh h2]
theorem mM {N:Nat} {ls:List Lk} (g:GV N ls):WV (Se N ls) Pf:=by
  have hr:∀i,i<N→iz (List.replicate N (1:Int)) i=1:=fun i hi=>by simp [iz,List.getD,hi]
  have hd:∀i,i<N→Eb (Se N ls).db i=(List.range N).map fun i:Nat=>(⟨i,1,Wc ls N i⟩:Ls):=fun i hi=>by
    show Eb (List.replicate (N:Int).toNat _) i=_
    rw [Int.toNat_natCast]
    simp [Eb,List.getD,hi]
  have hm:∀i,i<N→∀l,l∈Eb (Se N ls).db i↔∃j,j<N∧l=⟨j,1,Wc ls N j⟩:=fun i hi l=>by
    rw [hd i hi,List.mem_map]
    constructor
    ·rintro ⟨j,hj,rfl⟩;exact ⟨j,List.mem_range.1 hj,rfl⟩
    ·rintro ⟨j,hj,rfl⟩;exact ⟨j,List.mem_range.2 hj,rfl⟩
  have hlen:(Se N ls).db.length=N:=by simp [Se]
  have said:∀l,Zg (Se N ls) l→∃j,j<N∧l=⟨j,1,Wc ls N j⟩:=fun l hl=>by
    rcases hl with ⟨i,hi,hl⟩|⟨p,hp,_⟩
    ·rw [hlen] at hi
     exact (hm i hi l).1 hl
    ·simp [Se] at hp
  have h1:=g.1
  refine ⟨g,by simp [Se],by simp [Se],by simp [Se],by simp [Se],fun i hi=>?_,fun i hi=>?_,fun i hi=>?_,fun l hl=>?_,fun x y hx hy e1 e2=>?_,fun p hp=>by simp [Se] at hp⟩
  ·have hi:i<N:=by simpa [Se] using hi
   show 1≤iz (List.replicate (N:Int).toNat 1) i∧iz (List.replicate (N:Int).toNat 1) i≤99
   rw [Int.toNat_natCast,hr i hi]
   omega
  ·rw [hlen] at hi
   rw [hd i hi]
   refine Nn.2 ⟨fun l hl=>?_,?_⟩
   ·obtain ⟨j,hj,rfl⟩:=List.mem_map.1 hl
    exact YO g (List.mem_range.1 hj)
   ·unfold Tc
    rw [List.pairwise_map]
    refine List.Pairwise.imp ?_ (List.pairwise_lt_range (n:=N))
    intro a b hab
    show (a:Int)<b
    omega
  ·rw [hlen] at hi
   refine ⟨⟨i,1,Wc ls N i⟩,(hm i hi _).2 ⟨i,hi,rfl⟩,rfl,?_⟩
   show 1=iz (List.replicate (N:Int).toNat 1) i
   rw [Int.toNat_natCast,hr i hi]
  ·obtain ⟨j,hj,rfl⟩:=said l hl
   have hs:iz (Se N ls).sq ((j:Nat):Int).toNat=1:=by
     show iz (List.replicate (N:Int).toNat 1) ((j:Nat):Int).toNat=1
     rw [Int.toNat_natCast,Int.toNat_natCast,hr j hj]
   refine ⟨YO g hj,?_,?_,fun e he=>G4 he,.inr (.inl ?_)⟩
   ·show (j:Int)<N;omega
   ·rw [hs];exact Int.le_refl _
   ·show Wc ls N j=Wc (Mc ls (List.replicate ls.length true)) (N:Int).toNat j
    rw [mL,Int.toNat_natCast]
  ·obtain ⟨i,_,rfl⟩:=said x hx
   obtain ⟨j,_,rfl⟩:=said y hy
   dsimp only at e1
   obtain rfl:i=j:=by omega
   rfl
end
section
open Go.RowKit
def Ec (net:List Pk) (i:Nat):Pk:=net.getD i ⟨0,⟨0,0,[]⟩⟩
theorem Pt {net:List Pk} {i:Nat} (h:i<net.length):Ec net i∈net:=by
  unfold Ec
  rw [List.getD,List.getElem?_eq_getElem h]
  exact List.getElem_mem h
def Fp (w:Wd) (k:Nat):Wd:=if w.up.getD k false then Rn w (lk w.ls k).a.toNat (lk w.ls k).b.toNat else w
def Te (w:Wd) (kind a:Int):Wd :=
  if (kind=1∨kind=2)∧0≤a∧a<w.up.length then Nh w a.toNat (decide (kind=2))
  else if kind=3∧0≤a∧a<w.net.length then Ep { w with net:=w.net.eraseIdx a.toNat } (Ec w.net a.toNat).t.toNat (Ec w.net a.toNat).p
  else if kind=4∧0≤a∧a<w.net.length then { w with net:=w.net.eraseIdx a.toNat }
  else if kind=5∧0≤a∧a<w.net.length then (if w.net.length<16 then { w with net:=w.net++[Ec w.net a.toNat] } else w)
  else if kind=6∧0≤a∧a<w.up.length then Fp w a.toNat
  else w
theorem mN {w:Wd} (h:WV w Pf) {k:Nat} (hk:k<w.ls.length):WV (Fp w k) Pf:=by
  unfold Fp
  split
  ·have ho:=h.g.ok (Ej hk)
   have hdb:=h.db
   unfold Lg at ho
   exact mE h (by omega) (by omega)
  ·exact h
theorem mO {w:Wd} (h:WV w Pf) (kind a:Int):WV (Te w kind a) Pf:=by
  have hup:=h.up
  unfold Te
  split
  ·exact mK h (by omega) _
  split
  ·rename_i hp
   have hm:Ec w.net a.toNat∈w.net:=Pt (by omega)
   have hs:Zg w (Ec w.net a.toNat).p:=.inr ⟨_,hm,rfl⟩
   have hP:=h.poss _ hs
   have ht:=h.tgt _ hm
   have hdb:=h.db
   refine mG (DP h a.toNat) (by show _<w.db.length;omega) hP.1 hP.2.1 hP.2.2.1 hP fun y hy e1 e2=>?_
   refine h.agr _ y hs ?_ e1 e2
   rcases hy with hy|⟨p,hp,rfl⟩
   ·exact .inl hy
   ·exact .inr ⟨p,List.mem_of_mem_eraseIdx hp,rfl⟩
  split
  ·exact DP h _
  split
  ·split
   ·exact mF h (Pt (by omega)) (by assumption)
   ·exact h
  split
  ·exact mN h (by omega)
  ·exact h
end
section
open Go.RowKit
theorem Wd.same {a b:Wd} (h1:a.n=b.n) (h2:a.ls=b.ls) (h3:a.up=b.up) (h4:a.sq=b.sq) (h5:a.db=b.db) (h6:a.net=b.net):a=b:=by
  cases a;cases b;dsimp only at h1 h2 h3 h4 h5 h6;subst h1 h2 h3 h4 h5 h6;rfl
section
variable {w:Wd} {N:Nat}
end
end
section
open Go.RowKit
def ZG (s:(Int×Int×List Lk×List Bool×List Int×List (List Ls)×Int×Int×Int×List En×Int×List Lk×List Bool×List Int×List (List Ls)×List Pk×List Int×List Pk×Unit)):Option ((Int×Int×List Lk×List Bool×List Int×List (List Ls)×Int×Int×Int×List En×Int×List Lk×List Bool×List Int×List (List Ls)×List Pk×List Int×List Pk×Unit)⊕((List Lk×List Bool×List Int×List (List Ls)×Int×Int×List Lk×List Bool×List Int×List (List Ls)×List Pk×List Pk×Unit)⊕Unit)):=(bif decide (s.2.1<nI (List.length s.2.2.2.2.2.2.2.2.2.2.2.2.2.2.2.2.1)) then (bif decide (nI (List.length s.2.2.2.2.2.2.2.2.2.2.2.2.2.2.2.2.2.1)<16) then (bif Ea s.2.1 (List.length s.2.2.2.2.2.2.2.2.2.2.2.2.2.2.2.2.1) then (bif (!(decide (Ba .int s.2.2.2.2.2.2.2.2.2.2.2.2.2.2.2.2.1 (Int.toNat s.2.1)=s.1))) then (bif Ea s.2.1 (List.length s.2.2.2.2.2.2.2.2.2.2.2.2.2.2.2.2.1) then (bif decide ((List.length ([]:List Pk)+List.length s.2.2.2.2.2.2.2.2.2.2.2.2.2.2.2.2.2.1)≤(33554432:Nat)) then (Xh (s.2.2.2.2.2.2.2.1,s.2.2.2.2.2.2.2.2.1,s.2.2.2.2.2.2.2.2.2.1,())).bind fun r0=>(bif decide ((List.length (([]:List Pk)++s.2.2.2.2.2.2.2.2.2.2.2.2.2.2.2.2.2.1)+List.length [(Pk.mk (Ba .int s.2.2.2.2.2.2.2.2.2.2.2.2.2.2.2.2.1 (Int.toNat s.2.1)) (Ls.mk r0.1 r0.2.1 r0.2.2.1))])≤(33554432:Nat)) then some (Sum.inl (s.1,wrap64 (s.2.1+1),s.2.2.1,s.2.2.2.1,s.2.2.2.2.1,s.2.2.2.2.2.1,s.2.2.2.2.2.2.1,s.2.2.2.2.2.2.2.1,s.2.2.2.2.2.2.2.2.1,s.2.2.2.2.2.2.2.2.2.1,s.2.2.2.2.2.2.2.2.2.2.1,s.2.2.2.2.2.2.2.2.2.2.2.1,s.2.2.2.2.2.2.2.2.2.2.2.2.1,s.2.2.2.2.2.2.2.2.2.2.2.2.2.1,s.2.2.2.2.2.2.2.2.2.2.2.2.2.2.1,s.2.2.2.2.2.2.2.2.2.2.2.2.2.2.2.1,s.2.2.2.2.2.2.2.2.2.2.2.2.2.2.2.2.1,((([]:List Pk)++s.2.2.2.2.2.2.2.2.2.2.2.2.2.2.2.2.2.1)++[(Pk.mk (Ba .int s.2.2.2.2.2.2.2.2.2.2.2.2.2.2.2.2.1 (Int.toNat s.2.1)) (Ls.mk r0.1 r0.2.1 r0.2.2.1))]),())) else none) else none) else none) else some (Sum.inl (s.1,wrap64 (s.2.1+1),s.2.2))) else none) else some (Sum.inr (Sum.inl (s.2.2.1,s.2.2.2.1,s.2.2.2.2.1,s.2.2.2.2.2.1,s.2.2.2.2.2.2.1,s.2.2.2.2.2.2.2.2.2.2.1,s.2.2.2.2.2.2.2.2.2.2.2.1,s.2.2.2.2.2.2.2.2.2.2.2.2.1,s.2.2.2.2.2.2.2.2.2.2.2.2.2.1,s.2.2.2.2.2.2.2.2.2.2.2.2.2.2.1,s.2.2.2.2.2.2.2.2.2.2.2.2.2.2.2.1,s.2.2.2.2.2.2.2.2.2.2.2.2.2.2.2.2.2)))) else some (Sum.inr (Sum.inl (s.2.2.1,s.2.2.2.1,s.2.2.2.2.1,s.2.2.2.2.2.1,s.2.2.2.2.2.2.1,s.2.2.2.2.2.2.2.2.2.2.1,s.2.2.2.2.2.2.2.2.2.2.2.1,s.2.2.2.2.2.2.2.2.2.2.2.2.1,s.2.2.2.2.2.2.2.2.2.2.2.2.2.1,s.2.2.2.2.2.2.2.2.2.2.2.2.2.2.1,s.2.2.2.2.2.2.2.2.2.2.2.2.2.2.2.1,s.2.2.2.2.2.2.2.2.2.2.2.2.2.2.2.2.2))))
def Vy (s:(Int×Int×Int×Int×List En×Int×Y0)):Option (Int×Y0):=(By (s.1,s.2.2.2.2.2.2)).bind fun r0=>(Tw (r0.1,r0.2.1,s.2.1,())).bind fun r1=>(lp ZG Fa (s.2.2.2.2.2.1,0,s.2.2.2.2.2.2.1,s.2.2.2.2.2.2.2.1,s.2.2.2.2.2.2.2.2.1,s.2.2.2.2.2.2.2.2.2.1,s.1,s.2.2.1,s.2.2.2.1,s.2.2.2.2.1,0,([]:List Lk),([]:List Bool),([]:List Int),([]:List (List Ls)),([]:List Pk),r1.1,s.2.2.2.2.2.2.2.2.2.2)).bind fun r2=>(match r2 with| .inl x3=>some (x3.2.2.2.2.1,x3.1,x3.2.1,x3.2.2.1,x3.2.2.2.1,x3.2.2.2.2.2.2.2.2.2.2.2)| .inr _=>none)
def AH (s:(Int×List Lk×List Bool×List Int×List (List Ls)×List Pk×Int×Y4)):Option (Int×Y0):=(bif Ea s.2.2.2.2.2.2.1 (List.length s.2.2.2.2.1) then (Mt (Ba .db s.2.2.2.2.1 (Int.toNat s.2.2.2.2.2.2.1),s.2.2.2.2.2.2.2)).bind fun r0=>(bif (!(decide (r0.1=0))) then some (s.1,s.2.1,s.2.2.1,s.2.2.2.1,s.2.2.2.2.1,s.2.2.2.2.2.1,()) else (Bp (s.1,s.2.1,s.2.2.1,s.2.2.2.1,s.2.2.2.2.1,s.2.2.2.2.2.1,())).bind fun r1=>(bif Ea s.2.2.2.2.2.2.1 (List.length r1.2.2.2.2.1) then (Vy (r1.1,s.2.2.2.2.2.2.1,s.2.2.2.2.2.2.2.1,s.2.2.2.2.2.2.2.2.1,s.2.2.2.2.2.2.2.2.2.1,s.2.2.2.2.2.2.2.1,r1.2.1,r1.2.2.1,r1.2.2.2.1,List.set r1.2.2.2.2.1 (Int.toNat s.2.2.2.2.2.2.1) r0.2.1,r1.2.2.2.2.2)).bind fun r2=>some r2 else none)) else none)
def Xl (s:(Int×List Lk×List Bool×List Int×List (List Ls)×List Pk×Y2)):Option (Int×Y0):=(bif Ea s.2.2.2.2.2.2.1 (List.length s.2.1) then (bif Ea s.2.2.2.2.2.2.1 (List.length s.2.2.1) then (bif (!(Ba .bool s.2.2.1 (Int.toNat s.2.2.2.2.2.2.1))) then some (s.1,s.2.1,s.2.2.1,s.2.2.2.1,s.2.2.2.2.1,s.2.2.2.2.2.1,()) else (Bp (s.1,s.2.1,s.2.2.1,s.2.2.2.1,s.2.2.2.2.1,s.2.2.2.2.2.1,())).bind fun r0=>(bif Ea ((Ba .lk s.2.1 (Int.toNat s.2.2.2.2.2.2.1)).a) (List.length r0.2.2.2.2.1) then (bif Ea ((Ba .lk s.2.1 (Int.toNat s.2.2.2.2.2.2.1)).b) (List.length r0.2.2.2.2.1) then (UG (Ba .db r0.2.2.2.2.1 (Int.toNat ((Ba .lk s.2.1 (Int.toNat s.2.2.2.2.2.2.1)).a)),Ba .db r0.2.2.2.2.1 (Int.toNat ((Ba .lk s.2.1 (Int.toNat s.2.2.2.2.2.2.1)).b)),())).bind fun r1=>(bif Ea ((Ba .lk s.2.1 (Int.toNat s.2.2.2.2.2.2.1)).a) (List.length r0.2.2.2.2.1) then (Ck r1).bind fun r2=>(bif Ea ((Ba .lk s.2.1 (Int.toNat s.2.2.2.2.2.2.1)).b) (List.length (List.set r0.2.2.2.2.1 (Int.toNat ((Ba .lk s.2.1 (Int.toNat s.2.2.2.2.2.2.1)).a)) r1.1)) then some (r0.1,r0.2.1,r0.2.2.1,r0.2.2.2.1,List.set (List.set r0.2.2.2.2.1 (Int.toNat ((Ba .lk s.2.1 (Int.toNat s.2.2.2.2.2.2.1)).a)) r1.1) (Int.toNat ((Ba .lk s.2.1 (Int.toNat s.2.2.2.2.2.2.1)).b)) r2.1,r0.2.2.2.2.2) else none) else none) else none) else none)) else none) else none)
def BH (s:(Int×Y6)):Option (Y6⊕Unit):=(Lh (s.2.2.2.2.2.2.2.2.2.1,s.2.2.2.2.2.2.2.2.2.2.1,s.2.2.2.2.2.2.2.2.2.2.2.1,())).bind fun r0=>(bif decide ((List.length s.2.2.2.2.2.2.2.2.2.2.2.2.2.1+List.length [(Pk.mk s.2.1 (Ls.mk r0.1 r0.2.1 r0.2.2.1))])≤(33554432:Nat)) then some (Sum.inl (s.1,s.2.2.1,s.2.2.2.1,s.2.2.2.2.1,s.2.2.2.2.2.1,s.2.2.2.2.2.2.1,s.2.2.2.2.2.2.2.1,s.2.2.2.2.2.2.2.2.1,s.2.2.2.2.2.2.2.2.2.1,s.2.2.2.2.2.2.2.2.2.2.1,s.2.2.2.2.2.2.2.2.2.2.2.1,s.2.2.2.2.2.2.2.2.2.2.2.2.1,(s.2.2.2.2.2.2.2.2.2.2.2.2.2.1++[(Pk.mk s.2.1 (Ls.mk r0.1 r0.2.1 r0.2.2.1))]),())) else none)
def CH (s:Y6):Option (Y6⊕((Int×Y0)⊕Unit)):=(bif decide (s.2.2.1<s.2.1) then (bif Ea s.2.2.1 (List.length s.2.2.2.2.2.2.2.2.2.2.2.1) then (bif (!(decide (Ba .int s.2.2.2.2.2.2.2.2.2.2.2.1 (Int.toNat s.2.2.1)=s.1))) then (bif decide (nI (List.length s.2.2.2.2.2.2.2.2.2.2.2.2.1)<16) then (BH (s.1,Ba .int s.2.2.2.2.2.2.2.2.2.2.2.1 (Int.toNat s.2.2.1),s.2)).bind fun r0=>(match r0 with| .inl x1=>some (Sum.inl (x1.1,x1.2.1,wrap64 (x1.2.2.1+1),x1.2.2.2))| .inr _=>none) else some (Sum.inl (s.1,s.2.1,wrap64 (s.2.2.1+1),s.2.2.2))) else some (Sum.inl (s.1,s.2.1,wrap64 (s.2.2.1+1),s.2.2.2))) else none) else some (Sum.inr (Sum.inl (s.2.2.2.1,s.2.2.2.2.1,s.2.2.2.2.2.1,s.2.2.2.2.2.2.1,s.2.2.2.2.2.2.2.1,s.2.2.2.2.2.2.2.2.2.2.2.2))))
def Gp (s:(Int×Int×Int×List En×Int×Int×Y0)):Option (Int×Y0):=(Hy s.2.2.2.2.2).bind fun r0=>(Ft (r0.1,r0.2.1,s.1,())).bind fun r1=>(lp CH Fa (s.2.2.2.2.1,nI (List.length r1.1),0,s.2.2.2.2.2.1,s.2.2.2.2.2.2.1,s.2.2.2.2.2.2.2.1,s.2.2.2.2.2.2.2.2.1,s.2.2.2.2.2.2.2.2.2.1,s.2.1,s.2.2.1,s.2.2.2.1,r1.1,s.2.2.2.2.2.2.2.2.2.2)).bind fun r2=>(match r2 with| .inl x3=>some x3| .inr _=>none)
def Wy (s:(Int×List Lk×List Bool×List Int×List (List Ls)×Int×Int×List Lk×List Bool×List Int×List (List Ls)×List Pk×List Pk×Unit)):Option ((Int×List Lk×List Bool×List Int×List (List Ls)×Int×Int×List Lk×List Bool×List Int×List (List Ls)×List Pk×Int×Int×List Pk×List En×Unit)⊕Unit):=(bif Ea s.1 (List.length s.2.2.2.1) then (By (s.2.2.2.2.2.1,s.2.1,s.2.2.1,s.2.2.2.1,s.2.2.2.2.1,s.2.2.2.2.2.2.2.2.2.2.2.2)).bind fun r0=>(Gt (r0.1,r0.2.1,s.1,Ba .int s.2.2.2.1 (Int.toNat s.1),())).bind fun r1=>some (Sum.inl (s.1,s.2.1,s.2.2.1,s.2.2.2.1,s.2.2.2.2.1,s.2.2.2.2.2.1,s.2.2.2.2.2.2.1,s.2.2.2.2.2.2.2.1,s.2.2.2.2.2.2.2.2.1,s.2.2.2.2.2.2.2.2.2.1,s.2.2.2.2.2.2.2.2.2.2.1,s.2.2.2.2.2.2.2.2.2.2.2.1,r1.1,r1.2.1,s.2.2.2.2.2.2.2.2.2.2.2.2.1,r1.2.2)) else none)
def Qt (s:(Int×Int×Y0)):Option (Int×Y0):=(bif Ea s.2.1 (List.length s.2.2.2.2.1) then (bif Ea s.2.1 (List.length s.2.2.2.2.1) then (Wy (s.2.1,s.2.2.1,s.2.2.2.1,List.set s.2.2.2.2.1 (Int.toNat s.2.1) (wrap64 (Ba .int s.2.2.2.2.1 (Int.toNat s.2.1)+(1:Int))),s.2.2.2.2.2.1,s.1,0,([]:List Lk),([]:List Bool),([]:List Int),([]:List (List Ls)),([]:List Pk),s.2.2.2.2.2.2)).bind fun r0=>(match r0 with| .inl x1=>(bif Ea x1.1 (List.length x1.2.2.2.2.1) then (Mt (Ba .db x1.2.2.2.2.1 (Int.toNat x1.1),x1.2.2.2.2.2.2.2.2.2.2.2.2.1,x1.2.2.2.2.2.2.2.2.2.2.2.2.2.1,x1.2.2.2.2.2.2.2.2.2.2.2.2.2.2.2)).bind fun r2=>(bif Ea x1.1 (List.length x1.2.2.2.2.1) then (Vy (x1.2.2.2.2.2.1,x1.1,x1.2.2.2.2.2.2.2.2.2.2.2.2.1,x1.2.2.2.2.2.2.2.2.2.2.2.2.2.1,x1.2.2.2.2.2.2.2.2.2.2.2.2.2.2.2.1,(-(1)),x1.2.1,x1.2.2.1,x1.2.2.2.1,List.set x1.2.2.2.2.1 (Int.toNat x1.1) r2.2.1,x1.2.2.2.2.2.2.2.2.2.2.2.2.2.2.1,())).bind fun r3=>some r3 else none) else none)| .inr _=>none) else none) else none)
def Xy (s:(Int×List Lk×List Bool×List Int×List (List Ls)×List Pk×Int×List Lk×List Bool×List Int×List (List Ls)×List Pk×Int×Y4)):Option ((Int×List Lk×List Bool×List Int×List (List Ls)×Int×List Lk×List Bool×List Int×List (List Ls)×List Pk×List Pk×Unit)⊕Unit):=(bif decide ((List.length ([]:List Pk)+List.length s.2.2.2.2.2.1)≤(33554432:Nat)) then (bif decide ((List.length (([]:List Pk)++s.2.2.2.2.2.1)+List.length [(Pk.mk s.2.2.2.2.2.2.2.2.2.2.2.2.1 (Ls.mk s.2.2.2.2.2.2.2.2.2.2.2.2.2.1 s.2.2.2.2.2.2.2.2.2.2.2.2.2.2.1 s.2.2.2.2.2.2.2.2.2.2.2.2.2.2.2.1))])≤(33554432:Nat)) then some (Sum.inl (s.1,s.2.1,s.2.2.1,s.2.2.2.1,s.2.2.2.2.1,s.2.2.2.2.2.2.1,s.2.2.2.2.2.2.2.1,s.2.2.2.2.2.2.2.2.1,s.2.2.2.2.2.2.2.2.2.1,s.2.2.2.2.2.2.2.2.2.2.1,s.2.2.2.2.2.2.2.2.2.2.2.1,((([]:List Pk)++s.2.2.2.2.2.1)++[(Pk.mk s.2.2.2.2.2.2.2.2.2.2.2.2.1 (Ls.mk s.2.2.2.2.2.2.2.2.2.2.2.2.2.1 s.2.2.2.2.2.2.2.2.2.2.2.2.2.2.1 s.2.2.2.2.2.2.2.2.2.2.2.2.2.2.2.1))]),())) else none) else none)
def Hp (s:(Int×List Lk×List Bool×List Int×List (List Ls)×List Pk×Dc)):Option (Int×Y0):=(Fj (s.2.2.2.2.2.2.2.1,0,wrap64 (nI (List.length s.2.2.2.2.2.1)-1),())).bind fun r0=>(bif (!r0.1) then some (s.1,s.2.1,s.2.2.1,s.2.2.2.1,s.2.2.2.2.1,s.2.2.2.2.2.1,()) else (bif Ea s.2.2.2.2.2.2.2.1 (List.length s.2.2.2.2.2.1) then (bif decide (s.2.2.2.2.2.2.1=5) then (bif decide (nI (List.length s.2.2.2.2.2.1)<16) then (Xy (s.1,s.2.1,s.2.2.1,s.2.2.2.1,s.2.2.2.2.1,s.2.2.2.2.2.1,0,([]:List Lk),([]:List Bool),([]:List Int),([]:List (List Ls)),([]:List Pk),(Ba .pk s.2.2.2.2.2.1 (Int.toNat s.2.2.2.2.2.2.2.1)).t,((Ba .pk s.2.2.2.2.2.1 (Int.toNat s.2.2.2.2.2.2.2.1)).p).o,((Ba .pk s.2.2.2.2.2.1 (Int.toNat s.2.2.2.2.2.2.2.1)).p).s,((Ba .pk s.2.2.2.2.2.1 (Int.toNat s.2.2.2.2.2.2.2.1)).p).e,())).bind fun r1=>(match r1 with| .inl x2=>some (x2.1,x2.2.1,x2.2.2.1,x2.2.2.2.1,x2.2.2.2.2.1,x2.2.2.2.2.2.2.2.2.2.2.2)| .inr _=>none) else some (s.1,s.2.1,s.2.2.1,s.2.2.2.1,s.2.2.2.2.1,s.2.2.2.2.2.1,())) else (bif Km (0) s.2.2.2.2.2.2.2.1 (List.length s.2.2.2.2.2.1) then (bif Km (wrap64 (s.2.2.2.2.2.2.2.1+1)) (((List.length s.2.2.2.2.2.1):Nat):Int) (List.length s.2.2.2.2.2.1) then (bif decide ((List.length ([]:List Pk)+List.length (List.take (Int.toNat s.2.2.2.2.2.2.2.1-Int.toNat (0)) (List.drop (Int.toNat (0)) s.2.2.2.2.2.1)))≤(33554432:Nat)) then (bif decide ((List.length (([]:List Pk)++List.take (Int.toNat s.2.2.2.2.2.2.2.1-Int.toNat (0)) (List.drop (Int.toNat (0)) s.2.2.2.2.2.1))+List.length (List.take (Int.toNat (((List.length s.2.2.2.2.2.1):Nat):Int)-Int.toNat (wrap64 (s.2.2.2.2.2.2.2.1+1))) (List.drop (Int.toNat (wrap64 (s.2.2.2.2.2.2.2.1+1))) s.2.2.2.2.2.1)))≤(33554432:Nat)) then (bif decide (s.2.2.2.2.2.2.1=3) then (AH (s.1,s.2.1,s.2.2.1,s.2.2.2.1,s.2.2.2.2.1,((([]:List Pk)++List.take (Int.toNat s.2.2.2.2.2.2.2.1-Int.toNat (0)) (List.drop (Int.toNat (0)) s.2.2.2.2.2.1))++List.take (Int.toNat (((List.length s.2.2.2.2.2.1):Nat):Int)-Int.toNat (wrap64 (s.2.2.2.2.2.2.2.1+1))) (List.drop (Int.toNat (wrap64 (s.2.2.2.2.2.2.2.1+1))) s.2.2.2.2.2.1)),(Ba .pk s.2.2.2.2.2.1 (Int.toNat s.2.2.2.2.2.2.2.1)).t,((Ba .pk s.2.2.2.2.2.1 (Int.toNat s.2.2.2.2.2.2.2.1)).p).o,((Ba .pk s.2.2.2.2.2.1 (Int.toNat s.2.2.2.2.2.2.2.1)).p).s,((Ba .pk s.2.2.2.2.2.1 (Int.toNat s.2.2.2.2.2.2.2.1)).p).e,())).bind fun r3=>some r3 else some (s.1,s.2.1,s.2.2.1,s.2.2.2.1,s.2.2.2.2.1,((([]:List Pk)++List.take (Int.toNat s.2.2.2.2.2.2.2.1-Int.toNat (0)) (List.drop (Int.toNat (0)) s.2.2.2.2.2.1))++List.take (Int.toNat (((List.length s.2.2.2.2.2.1):Nat):Int)-Int.toNat (wrap64 (s.2.2.2.2.2.2.2.1+1))) (List.drop (Int.toNat (wrap64 (s.2.2.2.2.2.2.2.1+1))) s.2.2.2.2.2.1)),())) else none) else none) else none) else none)) else none))
def Yy (s:(Int×Int×List Lk×List Bool×List Int×List (List Ls)×List Pk×Int×Int×Int×Y0)):Option ((Int×Y0)⊕Unit):=(Qt (s.1,s.2.2.2.2.2.2.2.1,s.2.2.2.2.2.2.2.2.2.2)).bind fun r0=>(Qt (r0.1,s.2.2.2.2.2.2.2.2.1,r0.2)).bind fun r1=>some (Sum.inl r1)
def Yl (s:(Int×List Lk×List Bool×List Int×List (List Ls)×List Pk×Int×Y9)):Option (Int×Y0):=(bif Ea s.2.2.2.2.2.2.1 (List.length s.2.1) then (bif Ea s.2.2.2.2.2.2.1 (List.length s.2.2.1) then (bif (Ba .bool s.2.2.1 (Int.toNat s.2.2.2.2.2.2.1)==s.2.2.2.2.2.2.2.1) then some (s.1,s.2.1,s.2.2.1,s.2.2.2.1,s.2.2.2.2.1,s.2.2.2.2.2.1,()) else (bif Ea ((Ba .lk s.2.1 (Int.toNat s.2.2.2.2.2.2.1)).a) (List.length s.2.2.2.1) then (bif decide ((99:Int)≤Ba .int s.2.2.2.1 (Int.toNat ((Ba .lk s.2.1 (Int.toNat s.2.2.2.2.2.2.1)).a))) then some (s.1,s.2.1,s.2.2.1,s.2.2.2.1,s.2.2.2.2.1,s.2.2.2.2.2.1,()) else (bif Ea ((Ba .lk s.2.1 (Int.toNat s.2.2.2.2.2.2.1)).b) (List.length s.2.2.2.1) then (bif decide ((99:Int)≤Ba .int s.2.2.2.1 (Int.toNat ((Ba .lk s.2.1 (Int.toNat s.2.2.2.2.2.2.1)).b))) then some (s.1,s.2.1,s.2.2.1,s.2.2.2.1,s.2.2.2.2.1,s.2.2.2.2.2.1,()) else (Bp (s.1,s.2.1,s.2.2.1,s.2.2.2.1,s.2.2.2.2.1,s.2.2.2.2.2.1,())).bind fun r0=>(bif Ea s.2.2.2.2.2.2.1 (List.length r0.2.2.1) then (Yy (r0.1,0,([]:List Lk),([]:List Bool),([]:List Int),([]:List (List Ls)),([]:List Pk),(Ba .lk s.2.1 (Int.toNat s.2.2.2.2.2.2.1)).a,(Ba .lk s.2.1 (Int.toNat s.2.2.2.2.2.2.1)).b,(Ba .lk s.2.1 (Int.toNat s.2.2.2.2.2.2.1)).c,r0.2.1,List.set r0.2.2.1 (Int.toNat s.2.2.2.2.2.2.1) s.2.2.2.2.2.2.2.1,r0.2.2.2)).bind fun r1=>(match r1 with| .inl x2=>some x2| .inr _=>none) else none)) else none)) else none)) else none) else none)
def Zy (s:(Int×Int×Y0)):Option (FN⊕Unit):=(bif Ea s.1 (List.length s.2.2.2.2.1) then (Hy s.2).bind fun r0=>(Ht (r0.1,r0.2.1,s.1,Ba .int s.2.2.2.2.1 (Int.toNat s.1),())).bind fun r1=>some (Sum.inl (s.1,s.2.1,s.2.2.1,s.2.2.2.1,s.2.2.2.2.1,s.2.2.2.2.2.1,r1.1,r1.2.1,s.2.2.2.2.2.2.1,r1.2.2)) else none)
def Az (s:FN):Option (FN⊕Unit):=(bif Ea s.1 (List.length s.2.2.2.2.2.1) then (Pn (Ba .db s.2.2.2.2.2.1 (Int.toNat s.1),s.2.2.2.2.2.2.1,s.2.2.2.2.2.2.2.1,s.2.2.2.2.2.2.2.2.2)).bind fun r0=>(bif Ea s.1 (List.length s.2.2.2.2.2.1) then some (Sum.inl (s.1,s.2.1,s.2.2.1,s.2.2.2.1,s.2.2.2.2.1,List.set s.2.2.2.2.2.1 (Int.toNat s.1) r0.2.1,s.2.2.2.2.2.2)) else none) else none)
def Gk (s:(Int×Int×Y0)):Option (Int×Y0):=(bif Ea s.1 (List.length s.2.2.2.2.1) then (bif Ea s.1 (List.length s.2.2.2.2.1) then (Zy (s.1,s.2.1,s.2.2.1,s.2.2.2.1,List.set s.2.2.2.2.1 (Int.toNat s.1) (wrap64 (Ba .int s.2.2.2.2.1 (Int.toNat s.1)+(1:Int))),s.2.2.2.2.2)).bind fun r0=>(match r0 with| .inl x1=>(Az x1).bind fun r2=>(match r2 with| .inl x3=>(Gp (x3.1,x3.2.2.2.2.2.2.1,x3.2.2.2.2.2.2.2.1,x3.2.2.2.2.2.2.2.2.2.1,(-(1)),x3.2.1,x3.2.2.1,x3.2.2.2.1,x3.2.2.2.2.1,x3.2.2.2.2.2.1,x3.2.2.2.2.2.2.2.2.1,())).bind fun r4=>some r4| .inr _=>none)| .inr _=>none) else none) else none)
def DH (s:(Int×List Lk×List Bool×List Int×List (List Ls)×List Pk×Dc)):Option (Int×Y0):=(bif decide (s.2.2.2.2.2.2.1=3) then (bif decide (s.2.2.2.2.2.2.1=3) then (Hp s).bind fun r0=>some r0 else (Fj (s.2.2.2.2.2.2.2.1,0,wrap64 (nI (List.length s.2.2.1)-1),())).bind fun r1=>(bif (!r1.1) then some (s.1,s.2.1,s.2.2.1,s.2.2.2.1,s.2.2.2.2.1,s.2.2.2.2.2.1,()) else (bif decide (s.2.2.2.2.2.2.1=1) then (bif decide (s.2.2.2.2.2.2.1=1) then (Yl (s.1,s.2.1,s.2.2.1,s.2.2.2.1,s.2.2.2.2.1,s.2.2.2.2.2.1,s.2.2.2.2.2.2.2.1,decide (s.2.2.2.2.2.2.1=2),())).bind fun r2=>some r2 else (bif decide (s.2.2.2.2.2.2.1=6) then (Xl (s.1,s.2.1,s.2.2.1,s.2.2.2.1,s.2.2.2.2.1,s.2.2.2.2.2.1,s.2.2.2.2.2.2.2)).bind fun r3=>some r3 else some (s.1,s.2.1,s.2.2.1,s.2.2.2.1,s.2.2.2.2.1,s.2.2.2.2.2.1,()))) else (bif decide (s.2.2.2.2.2.2.1=2) then (Yl (s.1,s.2.1,s.2.2.1,s.2.2.2.1,s.2.2.2.2.1,s.2.2.2.2.2.1,s.2.2.2.2.2.2.2.1,decide (s.2.2.2.2.2.2.1=2),())).bind fun r4=>some r4 else (bif decide (s.2.2.2.2.2.2.1=6) then (Xl (s.1,s.2.1,s.2.2.1,s.2.2.2.1,s.2.2.2.2.1,s.2.2.2.2.2.1,s.2.2.2.2.2.2.2)).bind fun r5=>some r5 else some (s.1,s.2.1,s.2.2.1,s.2.2.2.1,s.2.2.2.2.1,s.2.2.2.2.2.1,())))))) else (bif decide (s.2.2.2.2.2.2.1=4) then (bif decide (s.2.2.2.2.2.2.1=4) then (Hp s).bind fun r6=>some r6 else (Fj (s.2.2.2.2.2.2.2.1,0,wrap64 (nI (List.length s.2.2.1)-1),())).bind fun r7=>(bif (!r7.1) then some (s.1,s.2.1,s.2.2.1,s.2.2.2.1,s.2.2.2.2.1,s.2.2.2.2.2.1,()) else (bif decide (s.2.2.2.2.2.2.1=1) then (bif decide (s.2.2.2.2.2.2.1=1) then (Yl (s.1,s.2.1,s.2.2.1,s.2.2.2.1,s.2.2.2.2.1,s.2.2.2.2.2.1,s.2.2.2.2.2.2.2.1,decide (s.2.2.2.2.2.2.1=2),())).bind fun r8=>some r8 else (bif decide (s.2.2.2.2.2.2.1=6) then (Xl (s.1,s.2.1,s.2.2.1,s.2.2.2.1,s.2.2.2.2.1,s.2.2.2.2.2.1,s.2.2.2.2.2.2.2)).bind fun r9=>some r9 else some (s.1,s.2.1,s.2.2.1,s.2.2.2.1,s.2.2.2.2.1,s.2.2.2.2.2.1,()))) else (bif decide (s.2.2.2.2.2.2.1=2) then (Yl (s.1,s.2.1,s.2.2.1,s.2.2.2.1,s.2.2.2.2.1,s.2.2.2.2.2.1,s.2.2.2.2.2.2.2.1,decide (s.2.2.2.2.2.2.1=2),())).bind fun r10=>some r10 else (bif decide (s.2.2.2.2.2.2.1=6) then (Xl (s.1,s.2.1,s.2.2.1,s.2.2.2.1,s.2.2.2.2.1,s.2.2.2.2.2.1,s.2.2.2.2.2.2.2)).bind fun r11=>some r11 else some (s.1,s.2.1,s.2.2.1,s.2.2.2.1,s.2.2.2.2.1,s.2.2.2.2.2.1,())))))) else (bif decide (s.2.2.2.2.2.2.1=5) then (Hp s).bind fun r12=>some r12 else (Fj (s.2.2.2.2.2.2.2.1,0,wrap64 (nI (List.length s.2.2.1)-1),())).bind fun r13=>(bif (!r13.1) then some (s.1,s.2.1,s.2.2.1,s.2.2.2.1,s.2.2.2.2.1,s.2.2.2.2.2.1,()) else (bif decide (s.2.2.2.2.2.2.1=1) then (bif decide (s.2.2.2.2.2.2.1=1) then (Yl (s.1,s.2.1,s.2.2.1,s.2.2.2.1,s.2.2.2.2.1,s.2.2.2.2.2.1,s.2.2.2.2.2.2.2.1,decide (s.2.2.2.2.2.2.1=2),())).bind fun r14=>some r14 else (bif decide (s.2.2.2.2.2.2.1=6) then (Xl (s.1,s.2.1,s.2.2.1,s.2.2.2.1,s.2.2.2.2.1,s.2.2.2.2.2.1,s.2.2.2.2.2.2.2)).bind fun r15=>some r15 else some (s.1,s.2.1,s.2.2.1,s.2.2.2.1,s.2.2.2.2.1,s.2.2.2.2.2.1,()))) else (bif decide (s.2.2.2.2.2.2.1=2) then (Yl (s.1,s.2.1,s.2.2.1,s.2.2.2.1,s.2.2.2.2.1,s.2.2.2.2.2.1,s.2.2.2.2.2.2.2.1,decide (s.2.2.2.2.2.2.1=2),())).bind fun r16=>some r16 else (bif decide (s.2.2.2.2.2.2.1=6) then (Xl (s.1,s.2.1,s.2.2.1,s.2.2.2.1,s.2.2.2.2.1,s.2.2.2.2.2.1,s.2.2.2.2.2.2.2)).bind fun r17=>some r17 else some (s.1,s.2.1,s.2.2.1,s.2.2.2.1,s.2.2.2.2.1,s.2.2.2.2.2.1,()))))))))
def Bz (s:(List Ev×Int×Y1)):Option ((List Ev×Int×Y1)⊕(Y1⊕Unit)):=(bif decide (s.2.1<nI (List.length s.1)) then (bif Ea s.2.1 (List.length s.1) then (DH (s.2.2.2.2.2.2.2.2.1,s.2.2.2.2.2.2.2.2.2.1,s.2.2.2.2.2.2.2.2.2.2.1,s.2.2.2.2.2.2.2.2.2.2.2.1,s.2.2.2.2.2.2.2.2.2.2.2.2.1,s.2.2.2.2.2.2.2.2.2.2.2.2.2.1,(Ba .ev s.1 (Int.toNat s.2.1)).k,(Ba .ev s.1 (Int.toNat s.2.1)).a,())).bind fun r0=>some (Sum.inl (s.1,wrap64 (s.2.1+1),s.2.2.1,s.2.2.2.1,s.2.2.2.2.1,s.2.2.2.2.2.1,s.2.2.2.2.2.2.1,s.2.2.2.2.2.2.2.1,r0)) else none) else some (Sum.inr (Sum.inl s.2.2)))
def EP (s:(Int×List Lk×List Ev×Unit)):Option (Int×Bool×Y0):=(TG (s.1,s.2.1,())).bind fun r0=>(bif (!r0.2.1) then some (0,false,([]:List Lk),([]:List Bool),([]:List Int),([]:List (List Ls)),([]:List Pk),()) else (bif decide (60<nI (List.length s.2.2.1)) then some (0,false,([]:List Lk),([]:List Bool),([]:List Int),([]:List (List Ls)),([]:List Pk),()) else (lp Bz Fa (s.2.2.1,0,0,([]:List Lk),([]:List Bool),([]:List Int),([]:List (List Ls)),([]:List Pk),r0.1,r0.2.2)).bind fun r1=>(match r1 with| .inl x2=>(Bp x2.2.2.2.2.2.2).bind fun r3=>some (r3.1,true,r3.2)| .inr _=>none)))
def Ip (s:(Int×List Lk×List Bool×List Int×List (List Ls)×Int×Int×Int×Int×Int×List En×List Pk×Unit)):Option ((Int×List Lk×List Bool×List Int×List (List Ls)×Int×Int×Int×List En×List Pk×Unit)⊕Unit):=(Ow (s.2.2.2.2.2.2.1,wrap64 (s.2.2.2.2.2.2.1+1),s.2.2.2.2.2.2.2.2.2.2.2)).bind fun r0=>some (Sum.inl (s.1,s.2.1,s.2.2.1,s.2.2.2.1,s.2.2.2.2.1,s.2.2.2.2.2.2.2.1,s.2.2.2.2.2.2.2.2.1,s.2.2.2.2.2.2.2.2.2.1,s.2.2.2.2.2.2.2.2.2.2.1,r0.1,()))
def Ik (s:(Int×List Lk×List Bool×List Int×List (List Ls)×Int×Int×List Pk×Unit)):Option ((Int×Y0)⊕Unit):=(Ow (s.2.2.2.2.2.2.1,wrap64 (s.2.2.2.2.2.2.1+1),s.2.2.2.2.2.2.2)).bind fun r0=>some (Sum.inl (s.1,s.2.1,s.2.2.1,s.2.2.2.1,s.2.2.2.2.1,r0.1,()))
def Pg (s:(Int×List Lk×List Bool×List Int×List (List Ls)×Int×Int×List Pk×Unit)):Option ((Int×Y0)⊕Unit):=(bif Ea s.2.2.2.2.2.2.1 (List.length s.2.2.2.2.2.2.2.1) then (bif Ea s.2.2.2.2.2.2.1 (List.length s.2.2.2.2.2.2.2.1) then (Lh (((Ba .pk s.2.2.2.2.2.2.2.1 (Int.toNat s.2.2.2.2.2.2.1)).p).o,((Ba .pk s.2.2.2.2.2.2.2.1 (Int.toNat s.2.2.2.2.2.2.1)).p).s,((Ba .pk s.2.2.2.2.2.2.2.1 (Int.toNat s.2.2.2.2.2.2.1)).p).e,())).bind fun r0=>(bif decide ((List.length s.2.2.2.2.2.2.2.1+List.length [(Pk.mk ((Ba .pk s.2.2.2.2.2.2.2.1 (Int.toNat s.2.2.2.2.2.2.1)).t) (Ls.mk r0.1 r0.2.1 r0.2.2.1))])≤(33554432:Nat)) then some (Sum.inl (s.1,s.2.1,s.2.2.1,s.2.2.2.1,s.2.2.2.2.1,(s.2.2.2.2.2.2.2.1++[(Pk.mk ((Ba .pk s.2.2.2.2.2.2.2.1 (Int.toNat s.2.2.2.2.2.2.1)).t) (Ls.mk r0.1 r0.2.1 r0.2.2.1))]),())) else none) else none) else none)
def Td (s:(Int×List Lk×List Bool×List Int×List (List Ls)×Int×Int×Int×List Ls×List Pk×Unit)):Option ((Int×Y0)⊕Unit):=(Lt (s.2.2.2.2.2.2.2.2.1,())).bind fun r0=>(bif Ea s.2.2.2.2.2.1 (List.length s.2.2.2.2.1) then (bif Ea s.2.2.2.2.2.2.1 (List.length (List.set s.2.2.2.2.1 (Int.toNat s.2.2.2.2.2.1) s.2.2.2.2.2.2.2.2.1)) then some (Sum.inl (s.1,s.2.1,s.2.2.1,s.2.2.2.1,List.set (List.set s.2.2.2.2.1 (Int.toNat s.2.2.2.2.2.1) s.2.2.2.2.2.2.2.2.1) (Int.toNat s.2.2.2.2.2.2.1) r0.1,s.2.2.2.2.2.2.2.2.2)) else none) else none)
def EH (s:(Int×Int×Int×Y0)):Option (Int×Y0):=(Ap (s.2.1,0,wrap64 (nI (List.length s.2.2.2.2.1)-1),())).bind fun r0=>(Ap (s.2.1,0,wrap64 (nI (List.length s.2.2.2.2.2.2.2.1)-1),())).bind fun r1=>(bif decide (s.1=1) then (bif r0.1 then (bif Ea s.2.1 (List.length s.2.2.2.1) then (bif Ea s.2.1 (List.length s.2.2.2.2.1) then (bif (!(Ba .bool s.2.2.2.2.1 (Int.toNat s.2.1)==decide (s.1=2))) then (bif Ea ((Ba .lk s.2.2.2.1 (Int.toNat s.2.1)).a) (List.length s.2.2.2.2.2.1) then (bif decide (Ba .int s.2.2.2.2.2.1 (Int.toNat ((Ba .lk s.2.2.2.1 (Int.toNat s.2.1)).a))<(99:Int)) then (bif Ea ((Ba .lk s.2.2.2.1 (Int.toNat s.2.1)).b) (List.length s.2.2.2.2.2.1) then (bif decide (Ba .int s.2.2.2.2.2.1 (Int.toNat ((Ba .lk s.2.2.2.1 (Int.toNat s.2.1)).b))<(99:Int)) then (bif Ea s.2.1 (List.length s.2.2.2.2.1) then (Gk ((Ba .lk s.2.2.2.1 (Int.toNat s.2.1)).a,s.2.2.1,s.2.2.2.1,List.set s.2.2.2.2.1 (Int.toNat s.2.1) (decide (s.1=2)),s.2.2.2.2.2)).bind fun r2=>(Gk ((Ba .lk s.2.2.2.1 (Int.toNat s.2.1)).b,r2)).bind fun r3=>some r3 else none) else some s.2.2) else none) else some s.2.2) else none) else some s.2.2) else none) else none) else (bif decide (s.1=3) then (bif r1.1 then (bif Ea s.2.1 (List.length s.2.2.2.2.2.2.2.1) then (Ip (s.2.2.1,s.2.2.2.1,s.2.2.2.2.1,s.2.2.2.2.2.1,s.2.2.2.2.2.2.1,s.1,s.2.1,(Ba .pk s.2.2.2.2.2.2.2.1 (Int.toNat s.2.1)).t,((Ba .pk s.2.2.2.2.2.2.2.1 (Int.toNat s.2.1)).p).o,((Ba .pk s.2.2.2.2.2.2.2.1 (Int.toNat s.2.1)).p).s,((Ba .pk s.2.2.2.2.2.2.2.1 (Int.toNat s.2.1)).p).e,s.2.2.2.2.2.2.2)).bind fun r4=>(match r4 with| .inl x5=>(bif Ea x5.2.2.2.2.2.1 (List.length x5.2.2.2.2.1) then (Pn (Ba .db x5.2.2.2.2.1 (Int.toNat x5.2.2.2.2.2.1),x5.2.2.2.2.2.2.1,x5.2.2.2.2.2.2.2.1,x5.2.2.2.2.2.2.2.2.1,())).bind fun r6=>(bif Ea x5.2.2.2.2.2.1 (List.length x5.2.2.2.2.1) then (bif decide (r6.1=0) then (Gp (x5.2.2.2.2.2.1,x5.2.2.2.2.2.2.1,x5.2.2.2.2.2.2.2.1,x5.2.2.2.2.2.2.2.2.1,x5.2.2.2.2.2.2.1,x5.1,x5.2.1,x5.2.2.1,x5.2.2.2.1,List.set x5.2.2.2.2.1 (Int.toNat x5.2.2.2.2.2.1) r6.2.1,x5.2.2.2.2.2.2.2.2.2)).bind fun r7=>some r7 else some (x5.1,x5.2.1,x5.2.2.1,x5.2.2.2.1,List.set x5.2.2.2.2.1 (Int.toNat x5.2.2.2.2.2.1) r6.2.1,x5.2.2.2.2.2.2.2.2.2)) else none) else none)| .inr _=>none) else none) else (bif decide (s.1=4) then (bif r1.1 then (Ik (s.2.2.1,s.2.2.2.1,s.2.2.2.2.1,s.2.2.2.2.2.1,s.2.2.2.2.2.2.1,s.1,s.2.1,s.2.2.2.2.2.2.2)).bind fun r8=>(match r8 with| .inl x9=>some x9| .inr _=>none) else (bif decide (s.1=5) then (bif r1.1 then (bif decide (nI (List.length s.2.2.2.2.2.2.2.1)<16) then (Pg (s.2.2.1,s.2.2.2.1,s.2.2.2.2.1,s.2.2.2.2.2.1,s.2.2.2.2.2.2.1,s.1,s.2.1,s.2.2.2.2.2.2.2)).bind fun r10=>(match r10 with| .inl x11=>some x11| .inr _=>none) else some s.2.2) else (bif decide (s.1=6) then (bif r0.1 then (bif Ea s.2.1 (List.length s.2.2.2.1) then (bif Ea s.2.1 (List.length s.2.2.2.2.1) then (bif Ba .bool s.2.2.2.2.1 (Int.toNat s.2.1) then (bif Ea ((Ba .lk s.2.2.2.1 (Int.toNat s.2.1)).a) (List.length s.2.2.2.2.2.2.1) then (bif Ea ((Ba .lk s.2.2.2.1 (Int.toNat s.2.1)).b) (List.length s.2.2.2.2.2.2.1) then (Vd (Ba .db s.2.2.2.2.2.2.1 (Int.toNat ((Ba .lk s.2.2.2.1 (Int.toNat s.2.1)).a)),Ba .db s.2.2.2.2.2.2.1 (Int.toNat ((Ba .lk s.2.2.2.1 (Int.toNat s.2.1)).b)),())).bind fun r12=>(Td (s.2.2.1,s.2.2.2.1,s.2.2.2.2.1,s.2.2.2.2.2.1,s.2.2.2.2.2.2.1,(Ba .lk s.2.2.2.1 (Int.toNat s.2.1)).a,(Ba .lk s.2.2.2.1 (Int.toNat s.2.1)).b,(Ba .lk s.2.2.2.1 (Int.toNat s.2.1)).c,r12.1,s.2.2.2.2.2.2.2)).bind fun r13=>(match r13 with| .inl x14=>some x14| .inr _=>none) else none) else none) else some s.2.2) else none) else none) else some s.2.2) else some s.2.2)) else (bif decide (s.1=6) then (bif r0.1 then (bif Ea s.2.1 (List.length s.2.2.2.1) then (bif Ea s.2.1 (List.length s.2.2.2.2.1) then (bif Ba .bool s.2.2.2.2.1 (Int.toNat s.2.1) then (bif Ea ((Ba .lk s.2.2.2.1 (Int.toNat s.2.1)).a) (List.length s.2.2.2.2.2.2.1) then (bif Ea ((Ba .lk s.2.2.2.1 (Int.toNat s.2.1)).b) (List.length s.2.2.2.2.2.2.1) then (Vd (Ba .db s.2.2.2.2.2.2.1 (Int.toNat ((Ba .lk s.2.2.2.1 (Int.toNat s.2.1)).a)),Ba .db s.2.2.2.2.2.2.1 (Int.toNat ((Ba .lk s.2.2.2.1 (Int.toNat s.2.1)).b)),())).bind fun r15=>(Td (s.2.2.1,s.2.2.2.1,s.2.2.2.2.1,s.2.2.2.2.2.1,s.2.2.2.2.2.2.1,(Ba .lk s.2.2.2.1 (Int.toNat s.2.1)).a,(Ba .lk s.2.2.2.1 (Int.toNat s.2.1)).b,(Ba .lk s.2.2.2.1 (Int.toNat s.2.1)).c,r15.1,s.2.2.2.2.2.2.2)).bind fun r16=>(match r16 with| .inl x17=>some x17| .inr _=>none) else none) else none) else some s.2.2) else none) else none) else some s.2.2) else some s.2.2))) else (bif decide (s.1=5) then (bif r1.1 then (bif decide (nI (List.length s.2.2.2.2.2.2.2.1)<16) then (Pg (s.2.2.1,s.2.2.2.1,s.2.2.2.2.1,s.2.2.2.2.2.1,s.2.2.2.2.2.2.1,s.1,s.2.1,s.2.2.2.2.2.2.2)).bind fun r18=>(match r18 with| .inl x19=>some x19| .inr _=>none) else some s.2.2) else (bif decide (s.1=6) then (bif r0.1 then (bif Ea s.2.1 (List.length s.2.2.2.1) then (bif Ea s.2.1 (List.length s.2.2.2.2.1) then (bif Ba .bool s.2.2.2.2.1 (Int.toNat s.2.1) then (bif Ea ((Ba .lk s.2.2.2.1 (Int.toNat s.2.1)).a) (List.length s.2.2.2.2.2.2.1) then (bif Ea ((Ba .lk s.2.2.2.1 (Int.toNat s.2.1)).b) (List.length s.2.2.2.2.2.2.1) then (Vd (Ba .db s.2.2.2.2.2.2.1 (Int.toNat ((Ba .lk s.2.2.2.1 (Int.toNat s.2.1)).a)),Ba .db s.2.2.2.2.2.2.1 (Int.toNat ((Ba .lk s.2.2.2.1 (Int.toNat s.2.1)).b)),())).bind fun r20=>(Td (s.2.2.1,s.2.2.2.1,s.2.2.2.2.1,s.2.2.2.2.2.1,s.2.2.2.2.2.2.1,(Ba .lk s.2.2.2.1 (Int.toNat s.2.1)).a,(Ba .lk s.2.2.2.1 (Int.toNat s.2.1)).b,(Ba .lk s.2.2.2.1 (Int.toNat s.2.1)).c,r20.1,s.2.2.2.2.2.2.2)).bind fun r21=>(match r21 with| .inl x22=>some x22| .inr _=>none) else none) else none) else some s.2.2) else none) else none) else some s.2.2) else some s.2.2)) else (bif decide (s.1=6) then (bif r0.1 then (bif Ea s.2.1 (List.length s.2.2.2.1) then (bif Ea s.2.1 (List.length s.2.2.2.2.1) then (bif Ba .bool s.2.2.2.2.1 (Int.toNat s.2.1) then (bif Ea ((Ba .lk s.2.2.2.1 (Int.toNat s.2.1)).a) (List.length s.2.2.2.2.2.2.1) then (bif Ea ((Ba .lk s.2.2.2.1 (Int.toNat s.2.1)).b) (List.length s.2.2.2.2.2.2.1) then (Vd (Ba .db s.2.2.2.2.2.2.1 (Int.toNat ((Ba .lk s.2.2.2.1 (Int.toNat s.2.1)).a)),Ba .db s.2.2.2.2.2.2.1 (Int.toNat ((Ba .lk s.2.2.2.1 (Int.toNat s.2.1)).b)),())).bind fun r23=>(Td (s.2.2.1,s.2.2.2.1,s.2.2.2.2.1,s.2.2.2.2.2.1,s.2.2.2.2.2.2.1,(Ba .lk s.2.2.2.1 (Int.toNat s.2.1)).a,(Ba .lk s.2.2.2.1 (Int.toNat s.2.1)).b,(Ba .lk s.2.2.2.1 (Int.toNat s.2.1)).c,r23.1,s.2.2.2.2.2.2.2)).bind fun r24=>(match r24 with| .inl x25=>some x25| .inr _=>none) else none) else none) else some s.2.2) else none) else none) else some s.2.2) else some s.2.2)))) else (bif decide (s.1=4) then (bif r1.1 then (Ik (s.2.2.1,s.2.2.2.1,s.2.2.2.2.1,s.2.2.2.2.2.1,s.2.2.2.2.2.2.1,s.1,s.2.1,s.2.2.2.2.2.2.2)).bind fun r26=>(match r26 with| .inl x27=>some x27| .inr _=>none) else (bif decide (s.1=5) then (bif r1.1 then (bif decide (nI (List.length s.2.2.2.2.2.2.2.1)<16) then (Pg (s.2.2.1,s.2.2.2.1,s.2.2.2.2.1,s.2.2.2.2.2.1,s.2.2.2.2.2.2.1,s.1,s.2.1,s.2.2.2.2.2.2.2)).bind fun r28=>(match r28 with| .inl x29=>some x29| .inr _=>none) else some s.2.2) else (bif decide (s.1=6) then (bif r0.1 then (bif Ea s.2.1 (List.length s.2.2.2.1) then (bif Ea s.2.1 (List.length s.2.2.2.2.1) then (bif Ba .bool s.2.2.2.2.1 (Int.toNat s.2.1) then (bif Ea ((Ba .lk s.2.2.2.1 (Int.toNat s.2.1)).a) (List.length s.2.2.2.2.2.2.1) then (bif Ea ((Ba .lk s.2.2.2.1 (Int.toNat s.2.1)).b) (List.length s.2.2.2.2.2.2.1) then (Vd (Ba .db s.2.2.2.2.2.2.1 (Int.toNat ((Ba .lk s.2.2.2.1 (Int.toNat s.2.1)).a)),Ba .db s.2.2.2.2.2.2.1 (Int.toNat ((Ba .lk s.2.2.2.1 (Int.toNat s.2.1)).b)),())).bind fun r30=>(Td (s.2.2.1,s.2.2.2.1,s.2.2.2.2.1,s.2.2.2.2.2.1,s.2.2.2.2.2.2.1,(Ba .lk s.2.2.2.1 (Int.toNat s.2.1)).a,(Ba .lk s.2.2.2.1 (Int.toNat s.2.1)).b,(Ba .lk s.2.2.2.1 (Int.toNat s.2.1)).c,r30.1,s.2.2.2.2.2.2.2)).bind fun r31=>(match r31 with| .inl x32=>some x32| .inr _=>none) else none) else none) else some s.2.2) else none) else none) else some s.2.2) else some s.2.2)) else (bif decide (s.1=6) then (bif r0.1 then (bif Ea s.2.1 (List.length s.2.2.2.1) then (bif Ea s.2.1 (List.length s.2.2.2.2.1) then (bif Ba .bool s.2.2.2.2.1 (Int.toNat s.2.1) then (bif Ea ((Ba .lk s.2.2.2.1 (Int.toNat s.2.1)).a) (List.length s.2.2.2.2.2.2.1) then (bif Ea ((Ba .lk s.2.2.2.1 (Int.toNat s.2.1)).b) (List.length s.2.2.2.2.2.2.1) then (Vd (Ba .db s.2.2.2.2.2.2.1 (Int.toNat ((Ba .lk s.2.2.2.1 (Int.toNat s.2.1)).a)),Ba .db s.2.2.2.2.2.2.1 (Int.toNat ((Ba .lk s.2.2.2.1 (Int.toNat s.2.1)).b)),())).bind fun r33=>(Td (s.2.2.1,s.2.2.2.1,s.2.2.2.2.1,s.2.2.2.2.2.1,s.2.2.2.2.2.2.1,(Ba .lk s.2.2.2.1 (Int.toNat s.2.1)).a,(Ba .lk s.2.2.2.1 (Int.toNat s.2.1)).b,(Ba .lk s.2.2.2.1 (Int.toNat s.2.1)).c,r33.1,s.2.2.2.2.2.2.2)).bind fun r34=>(match r34 with| .inl x35=>some x35| .inr _=>none) else none) else none) else some s.2.2) else none) else none) else some s.2.2) else some s.2.2))) else (bif decide (s.1=5) then (bif r1.1 then (bif decide (nI (List.length s.2.2.2.2.2.2.2.1)<16) then (Pg (s.2.2.1,s.2.2.2.1,s.2.2.2.2.1,s.2.2.2.2.2.1,s.2.2.2.2.2.2.1,s.1,s.2.1,s.2.2.2.2.2.2.2)).bind fun r36=>(match r36 with| .inl x37=>some x37| .inr _=>none) else some s.2.2) else (bif decide (s.1=6) then (bif r0.1 then (bif Ea s.2.1 (List.length s.2.2.2.1) then (bif Ea s.2.1 (List.length s.2.2.2.2.1) then (bif Ba .bool s.2.2.2.2.1 (Int.toNat s.2.1) then (bif Ea ((Ba .lk s.2.2.2.1 (Int.toNat s.2.1)).a) (List.length s.2.2.2.2.2.2.1) then (bif Ea ((Ba .lk s.2.2.2.1 (Int.toNat s.2.1)).b) (List.length s.2.2.2.2.2.2.1) then (Vd (Ba .db s.2.2.2.2.2.2.1 (Int.toNat ((Ba .lk s.2.2.2.1 (Int.toNat s.2.1)).a)),Ba .db s.2.2.2.2.2.2.1 (Int.toNat ((Ba .lk s.2.2.2.1 (Int.toNat s.2.1)).b)),())).bind fun r38=>(Td (s.2.2.1,s.2.2.2.1,s.2.2.2.2.1,s.2.2.2.2.2.1,s.2.2.2.2.2.2.1,(Ba .lk s.2.2.2.1 (Int.toNat s.2.1)).a,(Ba .lk s.2.2.2.1 (Int.toNat s.2.1)).b,(Ba .lk s.2.2.2.1 (Int.toNat s.2.1)).c,r38.1,s.2.2.2.2.2.2.2)).bind fun r39=>(match r39 with| .inl x40=>some x40| .inr _=>none) else none) else none) else some s.2.2) else none) else none) else some s.2.2) else some s.2.2)) else (bif decide (s.1=6) then (bif r0.1 then (bif Ea s.2.1 (List.length s.2.2.2.1) then (bif Ea s.2.1 (List.length s.2.2.2.2.1) then (bif Ba .bool s.2.2.2.2.1 (Int.toNat s.2.1) then (bif Ea ((Ba .lk s.2.2.2.1 (Int.toNat s.2.1)).a) (List.length s.2.2.2.2.2.2.1) then (bif Ea ((Ba .lk s.2.2.2.1 (Int.toNat s.2.1)).b) (List.length s.2.2.2.2.2.2.1) then (Vd (Ba .db s.2.2.2.2.2.2.1 (Int.toNat ((Ba .lk s.2.2.2.1 (Int.toNat s.2.1)).a)),Ba .db s.2.2.2.2.2.2.1 (Int.toNat ((Ba .lk s.2.2.2.1 (Int.toNat s.2.1)).b)),())).bind fun r41=>(Td (s.2.2.1,s.2.2.2.1,s.2.2.2.2.1,s.2.2.2.2.2.1,s.2.2.2.2.2.2.1,(Ba .lk s.2.2.2.1 (Int.toNat s.2.1)).a,(Ba .lk s.2.2.2.1 (Int.toNat s.2.1)).b,(Ba .lk s.2.2.2.1 (Int.toNat s.2.1)).c,r41.1,s.2.2.2.2.2.2.2)).bind fun r42=>(match r42 with| .inl x43=>some x43| .inr _=>none) else none) else none) else some s.2.2) else none) else none) else some s.2.2) else some s.2.2))))) else (bif decide (s.1=2) then (bif r0.1 then (bif Ea s.2.1 (List.length s.2.2.2.1) then (bif Ea s.2.1 (List.length s.2.2.2.2.1) then (bif (!(Ba .bool s.2.2.2.2.1 (Int.toNat s.2.1)==decide (s.1=2))) then (bif Ea ((Ba .lk s.2.2.2.1 (Int.toNat s.2.1)).a) (List.length s.2.2.2.2.2.1) then (bif decide (Ba .int s.2.2.2.2.2.1 (Int.toNat ((Ba .lk s.2.2.2.1 (Int.toNat s.2.1)).a))<(99:Int)) then (bif Ea ((Ba .lk s.2.2.2.1 (Int.toNat s.2.1)).b) (List.length s.2.2.2.2.2.1) then (bif decide (Ba .int s.2.2.2.2.2.1 (Int.toNat ((Ba .lk s.2.2.2.1 (Int.toNat s.2.1)).b))<(99:Int)) then (bif Ea s.2.1 (List.length s.2.2.2.2.1) then (Gk ((Ba .lk s.2.2.2.1 (Int.toNat s.2.1)).a,s.2.2.1,s.2.2.2.1,List.set s.2.2.2.2.1 (Int.toNat s.2.1) (decide (s.1=2)),s.2.2.2.2.2)).bind fun r44=>(Gk ((Ba .lk s.2.2.2.1 (Int.toNat s.2.1)).b,r44)).bind fun r45=>some r45 else none) else some s.2.2) else none) else some s.2.2) else none) else some s.2.2) else none) else none) else (bif decide (s.1=3) then (bif r1.1 then (bif Ea s.2.1 (List.length s.2.2.2.2.2.2.2.1) then (Ip (s.2.2.1,s.2.2.2.1,s.2.2.2.2.1,s.2.2.2.2.2.1,s.2.2.2.2.2.2.1,s.1,s.2.1,(Ba .pk s.2.2.2.2.2.2.2.1 (Int.toNat s.2.1)).t,((Ba .pk s.2.2.2.2.2.2.2.1 (Int.toNat s.2.1)).p).o,((Ba .pk s.2.2.2.2.2.2.2.1 (Int.toNat s.2.1)).p).s,((Ba .pk s.2.2.2.2.2.2.2.1 (Int.toNat s.2.1)).p).e,s.2.2.2.2.2.2.2)).bind fun r46=>(match r46 with| .inl x47=>(bif Ea x47.2.2.2.2.2.1 (List.length x47.2.2.2.2.1) then (Pn (Ba .db x47.2.2.2.2.1 (Int.toNat x47.2.2.2.2.2.1),x47.2.2.2.2.2.2.1,x47.2.2.2.2.2.2.2.1,x47.2.2.2.2.2.2.2.2.1,())).bind fun r48=>(bif Ea x47.2.2.2.2.2.1 (List.length x47.2.2.2.2.1) then (bif decide (r48.1=0) then (Gp (x47.2.2.2.2.2.1,x47.2.2.2.2.2.2.1,x47.2.2.2.2.2.2.2.1,x47.2.2.2.2.2.2.2.2.1,x47.2.2.2.2.2.2.1,x47.1,x47.2.1,x47.2.2.1,x47.2.2.2.1,List.set x47.2.2.2.2.1 (Int.toNat x47.2.2.2.2.2.1) r48.2.1,x47.2.2.2.2.2.2.2.2.2)).bind fun r49=>some r49 else some (x47.1,x47.2.1,x47.2.2.1,x47.2.2.2.1,List.set x47.2.2.2.2.1 (Int.toNat x47.2.2.2.2.2.1) r48.2.1,x47.2.2.2.2.2.2.2.2.2)) else none) else none)| .inr _=>none) else none) else (bif decide (s.1=4) then (bif r1.1 then (Ik (s.2.2.1,s.2.2.2.1,s.2.2.2.2.1,s.2.2.2.2.2.1,s.2.2.2.2.2.2.1,s.1,s.2.1,s.2.2.2.2.2.2.2)).bind fun r50=>(match r50 with| .inl x51=>some x51| .inr _=>none) else (bif decide (s.1=5) then (bif r1.1 then (bif decide (nI (List.length s.2.2.2.2.2.2.2.1)<16) then (Pg (s.2.2.1,s.2.2.2.1,s.2.2.2.2.1,s.2.2.2.2.2.1,s.2.2.2.2.2.2.1,s.1,s.2.1,s.2.2.2.2.2.2.2)).bind fun r52=>(match r52 with| .inl x53=>some x53| .inr _=>none) else some s.2.2) else (bif decide (s.1=6) then (bif r0.1 then (bif Ea s.2.1 (List.length s.2.2.2.1) then (bif Ea s.2.1 (List.length s.2.2.2.2.1) then (bif Ba .bool s.2.2.2.2.1 (Int.toNat s.2.1) then (bif Ea ((Ba .lk s.2.2.2.1 (Int.toNat s.2.1)).a) (List.length s.2.2.2.2.2.2.1) then (bif Ea ((Ba .lk s.2.2.2.1 (Int.toNat s.2.1)).b) (List.length s.2.2.2.2.2.2.1) then (Vd (Ba .db s.2.2.2.2.2.2.1 (Int.toNat ((Ba .lk s.2.2.2.1 (Int.toNat s.2.1)).a)),Ba .db s.2.2.2.2.2.2.1 (Int.toNat ((Ba .lk s.2.2.2.1 (Int.toNat s.2.1)).b)),())).bind fun r54=>(Td (s.2.2.1,s.2.2.2.1,s.2.2.2.2.1,s.2.2.2.2.2.1,s.2.2.2.2.2.2.1,(Ba .lk s.2.2.2.1 (Int.toNat s.2.1)).a,(Ba .lk s.2.2.2.1 (Int.toNat s.2.1)).b,(Ba .lk s.2.2.2.1 (Int.toNat s.2.1)).c,r54.1,s.2.2.2.2.2.2.2)).bind fun r55=>(match r55 with| .inl x56=>some x56| .inr _=>none) else none) else none) else some s.2.2) else none) else none) else some s.2.2) else some s.2.2)) else (bif decide (s.1=6) then (bif r0.1 then (bif Ea s.2.1 (List.length s.2.2.2.1) then (bif Ea s.2.1 (List.length s.2.2.2.2.1) then (bif Ba .bool s.2.2.2.2.1 (Int.toNat s.2.1) then (bif Ea ((Ba .lk s.2.2.2.1 (Int.toNat s.2.1)).a) (List.length s.2.2.2.2.2.2.1) then (bif Ea ((Ba .lk s.2.2.2.1 (Int.toNat s.2.1)).b) (List.length s.2.2.2.2.2.2.1) then (Vd (Ba .db s.2.2.2.2.2.2.1 (Int.toNat ((Ba .lk s.2.2.2.1 (Int.toNat s.2.1)).a)),Ba .db s.2.2.2.2.2.2.1 (Int.toNat ((Ba .lk s.2.2.2.1 (Int.toNat s.2.1)).b)),())).bind fun r57=>(Td (s.2.2.1,s.2.2.2.1,s.2.2.2.2.1,s.2.2.2.2.2.1,s.2.2.2.2.2.2.1,(Ba .lk s.2.2.2.1 (Int.toNat s.2.1)).a,(Ba .lk s.2.2.2.1 (Int.toNat s.2.1)).b,(Ba .lk s.2.2.2.1 (Int.toNat s.2.1)).c,r57.1,s.2.2.2.2.2.2.2)).bind fun r58=>(match r58 with| .inl x59=>some x59| .inr _=>none) else none) else none) else some s.2.2) else none) else none) else some s.2.2) else some s.2.2))) else (bif decide (s.1=5) then (bif r1.1 then (bif decide (nI (List.length s.2.2.2.2.2.2.2.1)<16) then (Pg (s.2.2.1,s.2.2.2.1,s.2.2.2.2.1,s.2.2.2.2.2.1,s.2.2.2.2.2.2.1,s.1,s.2.1,s.2.2.2.2.2.2.2)).bind fun r60=>(match r60 with| .inl x61=>some x61| .inr _=>none) else some s.2.2) else (bif decide (s.1=6) then (bif r0.1 then (bif Ea s.2.1 (List.length s.2.2.2.1) then (bif Ea s.2.1 (List.length s.2.2.2.2.1) then (bif Ba .bool s.2.2.2.2.1 (Int.toNat s.2.1) then (bif Ea ((Ba .lk s.2.2.2.1 (Int.toNat s.2.1)).a) (List.length s.2.2.2.2.2.2.1) then (bif Ea ((Ba .lk s.2.2.2.1 (Int.toNat s.2.1)).b) (List.length s.2.2.2.2.2.2.1) then (Vd (Ba .db s.2.2.2.2.2.2.1 (Int.toNat ((Ba .lk s.2.2.2.1 (Int.toNat s.2.1)).a)),Ba .db s.2.2.2.2.2.2.1 (Int.toNat ((Ba .lk s.2.2.2.1 (Int.toNat s.2.1)).b)),())).bind fun r62=>(Td (s.2.2.1,s.2.2.2.1,s.2.2.2.2.1,s.2.2.2.2.2.1,s.2.2.2.2.2.2.1,(Ba .lk s.2.2.2.1 (Int.toNat s.2.1)).a,(Ba .lk s.2.2.2.1 (Int.toNat s.2.1)).b,(Ba .lk s.2.2.2.1 (Int.toNat s.2.1)).c,r62.1,s.2.2.2.2.2.2.2)).bind fun r63=>(match r63 with| .inl x64=>some x64| .inr _=>none) else none) else none) else some s.2.2) else none) else none) else some s.2.2) else some s.2.2)) else (bif decide (s.1=6) then (bif r0.1 then (bif Ea s.2.1 (List.length s.2.2.2.1) then (bif Ea s.2.1 (List.length s.2.2.2.2.1) then (bif Ba .bool s.2.2.2.2.1 (Int.toNat s.2.1) then (bif Ea ((Ba .lk s.2.2.2.1 (Int.toNat s.2.1)).a) (List.length s.2.2.2.2.2.2.1) then (bif Ea ((Ba .lk s.2.2.2.1 (Int.toNat s.2.1)).b) (List.length s.2.2.2.2.2.2.1) then (Vd (Ba .db s.2.2.2.2.2.2.1 (Int.toNat ((Ba .lk s.2.2.2.1 (Int.toNat s.2.1)).a)),Ba .db s.2.2.2.2.2.2.1 (Int.toNat ((Ba .lk s.2.2.2.1 (Int.toNat s.2.1)).b)),())).bind fun r65=>(Td (s.2.2.1,s.2.2.2.1,s.2.2.2.2.1,s.2.2.2.2.2.1,s.2.2.2.2.2.2.1,(Ba .lk s.2.2.2.1 (Int.toNat s.2.1)).a,(Ba .lk s.2.2.2.1 (Int.toNat s.2.1)).b,(Ba .lk s.2.2.2.1 (Int.toNat s.2.1)).c,r65.1,s.2.2.2.2.2.2.2)).bind fun r66=>(match r66 with| .inl x67=>some x67| .inr _=>none) else none) else none) else some s.2.2) else none) else none) else some s.2.2) else some s.2.2)))) else (bif decide (s.1=4) then (bif r1.1 then (Ik (s.2.2.1,s.2.2.2.1,s.2.2.2.2.1,s.2.2.2.2.2.1,s.2.2.2.2.2.2.1,s.1,s.2.1,s.2.2.2.2.2.2.2)).bind fun r68=>(match r68 with| .inl x69=>some x69| .inr _=>none) else (bif decide (s.1=5) then (bif r1.1 then (bif decide (nI (List.length s.2.2.2.2.2.2.2.1)<16) then (Pg (s.2.2.1,s.2.2.2.1,s.2.2.2.2.1,s.2.2.2.2.2.1,s.2.2.2.2.2.2.1,s.1,s.2.1,s.2.2.2.2.2.2.2)).bind fun r70=>(match r70 with| .inl x71=>some x71| .inr _=>none) else some s.2.2) else (bif decide (s.1=6) then (bif r0.1 then (bif Ea s.2.1 (List.length s.2.2.2.1) then (bif Ea s.2.1 (List.length s.2.2.2.2.1) then (bif Ba .bool s.2.2.2.2.1 (Int.toNat s.2.1) then (bif Ea ((Ba .lk s.2.2.2.1 (Int.toNat s.2.1)).a) (List.length s.2.2.2.2.2.2.1) then (bif Ea ((Ba .lk s.2.2.2.1 (Int.toNat s.2.1)).b) (List.length s.2.2.2.2.2.2.1) then (Vd (Ba .db s.2.2.2.2.2.2.1 (Int.toNat ((Ba .lk s.2.2.2.1 (Int.toNat s.2.1)).a)),Ba .db s.2.2.2.2.2.2.1 (Int.toNat ((Ba .lk s.2.2.2.1 (Int.toNat s.2.1)).b)),())).bind fun r72=>(Td (s.2.2.1,s.2.2.2.1,s.2.2.2.2.1,s.2.2.2.2.2.1,s.2.2.2.2.2.2.1,(Ba .lk s.2.2.2.1 (Int.toNat s.2.1)).a,(Ba .lk s.2.2.2.1 (Int.toNat s.2.1)).b,(Ba .lk s.2.2.2.1 (Int.toNat s.2.1)).c,r72.1,s.2.2.2.2.2.2.2)).bind fun r73=>(match r73 with| .inl x74=>some x74| .inr _=>none) else none) else none) else some s.2.2) else none) else none) else some s.2.2) else some s.2.2)) else (bif decide (s.1=6) then (bif r0.1 then (bif Ea s.2.1 (List.length s.2.2.2.1) then (bif Ea s.2.1 (List.length s.2.2.2.2.1) then (bif Ba .bool s.2.2.2.2.1 (Int.toNat s.2.1) then (bif Ea ((Ba .lk s.2.2.2.1 (Int.toNat s.2.1)).a) (List.length s.2.2.2.2.2.2.1) then (bif Ea ((Ba .lk s.2.2.2.1 (Int.toNat s.2.1)).b) (List.length s.2.2.2.2.2.2.1) then (Vd (Ba .db s.2.2.2.2.2.2.1 (Int.toNat ((Ba .lk s.2.2.2.1 (Int.toNat s.2.1)).a)),Ba .db s.2.2.2.2.2.2.1 (Int.toNat ((Ba .lk s.2.2.2.1 (Int.toNat s.2.1)).b)),())).bind fun r75=>(Td (s.2.2.1,s.2.2.2.1,s.2.2.2.2.1,s.2.2.2.2.2.1,s.2.2.2.2.2.2.1,(Ba .lk s.2.2.2.1 (Int.toNat s.2.1)).a,(Ba .lk s.2.2.2.1 (Int.toNat s.2.1)).b,(Ba .lk s.2.2.2.1 (Int.toNat s.2.1)).c,r75.1,s.2.2.2.2.2.2.2)).bind fun r76=>(match r76 with| .inl x77=>some x77| .inr _=>none) else none) else none) else some s.2.2) else none) else none) else some s.2.2) else some s.2.2))) else (bif decide (s.1=5) then (bif r1.1 then (bif decide (nI (List.length s.2.2.2.2.2.2.2.1)<16) then (Pg (s.2.2.1,s.2.2.2.1,s.2.2.2.2.1,s.2.2.2.2.2.1,s.2.2.2.2.2.2.1,s.1,s.2.1,s.2.2.2.2.2.2.2)).bind fun r78=>(match r78 with| .inl x79=>some x79| .inr _=>none) else some s.2.2) else (bif decide (s.1=6) then (bif r0.1 then (bif Ea s.2.1 (List.length s.2.2.2.1) then (bif Ea s.2.1 (List.length s.2.2.2.2.1) then (bif Ba .bool s.2.2.2.2.1 (Int.toNat s.2.1) then (bif Ea ((Ba .lk s.2.2.2.1 (Int.toNat s.2.1)).a) (List.length s.2.2.2.2.2.2.1) then (bif Ea ((Ba .lk s.2.2.2.1 (Int.toNat s.2.1)).b) (List.length s.2.2.2.2.2.2.1) then (Vd (Ba .db s.2.2.2.2.2.2.1 (Int.toNat ((Ba .lk s.2.2.2.1 (Int.toNat s.2.1)).a)),Ba .db s.2.2.2.2.2.2.1 (Int.toNat ((Ba .lk s.2.2.2.1 (Int.toNat s.2.1)).b)),())).bind fun r80=>(Td (s.2.2.1,s.2.2.2.1,s.2.2.2.2.1,s.2.2.2.2.2.1,s.2.2.2.2.2.2.1,(Ba .lk s.2.2.2.1 (Int.toNat s.2.1)).a,(Ba .lk s.2.2.2.1 (Int.toNat s.2.1)).b,(Ba .lk s.2.2.2.1 (Int.toNat s.2.1)).c,r80.1,s.2.2.2.2.2.2.2)).bind fun r81=>(match r81 with| .inl x82=>some x82| .inr _=>none) else none) else none) else some s.2.2) else none) else none) else some s.2.2) else some s.2.2)) else (bif decide (s.1=6) then (bif r0.1 then (bif Ea s.2.1 (List.length s.2.2.2.1) then (bif Ea s.2.1 (List.length s.2.2.2.2.1) then (bif Ba .bool s.2.2.2.2.1 (Int.toNat s.2.1) then (bif Ea ((Ba .lk s.2.2.2.1 (Int.toNat s.2.1)).a) (List.length s.2.2.2.2.2.2.1) then (bif Ea ((Ba .lk s.2.2.2.1 (Int.toNat s.2.1)).b) (List.length s.2.2.2.2.2.2.1) then (Vd (Ba .db s.2.2.2.2.2.2.1 (Int.toNat ((Ba .lk s.2.2.2.1 (Int.toNat s.2.1)).a)),Ba .db s.2.2.2.2.2.2.1 (Int.toNat ((Ba .lk s.2.2.2.1 (Int.toNat s.2.1)).b)),())).bind fun r83=>(Td (s.2.2.1,s.2.2.2.1,s.2.2.2.2.1,s.2.2.2.2.2.1,s.2.2.2.2.2.2.1,(Ba .lk s.2.2.2.1 (Int.toNat s.2.1)).a,(Ba .lk s.2.2.2.1 (Int.toNat s.2.1)).b,(Ba .lk s.2.2.2.1 (Int.toNat s.2.1)).c,r83.1,s.2.2.2.2.2.2.2)).bind fun r84=>(match r84 with| .inl x85=>some x85| .inr _=>none) else none) else none) else some s.2.2) else none) else none) else some s.2.2) else some s.2.2))))) else (bif decide (s.1=3) then (bif r1.1 then (bif Ea s.2.1 (List.length s.2.2.2.2.2.2.2.1) then (Ip (s.2.2.1,s.2.2.2.1,s.2.2.2.2.1,s.2.2.2.2.2.1,s.2.2.2.2.2.2.1,s.1,s.2.1,(Ba .pk s.2.2.2.2.2.2.2.1 (Int.toNat s.2.1)).t,((Ba .pk s.2.2.2.2.2.2.2.1 (Int.toNat s.2.1)).p).o,((Ba .pk s.2.2.2.2.2.2.2.1 (Int.toNat s.2.1)).p).s,((Ba .pk s.2.2.2.2.2.2.2.1 (Int.toNat s.2.1)).p).e,s.2.2.2.2.2.2.2)).bind fun r86=>(match r86 with| .inl x87=>(bif Ea x87.2.2.2.2.2.1 (List.length x87.2.2.2.2.1) then (Pn (Ba .db x87.2.2.2.2.1 (Int.toNat x87.2.2.2.2.2.1),x87.2.2.2.2.2.2.1,x87.2.2.2.2.2.2.2.1,x87.2.2.2.2.2.2.2.2.1,())).bind fun r88=>(bif Ea x87.2.2.2.2.2.1 (List.length x87.2.2.2.2.1) then (bif decide (r88.1=0) then (Gp (x87.2.2.2.2.2.1,x87.2.2.2.2.2.2.1,x87.2.2.2.2.2.2.2.1,x87.2.2.2.2.2.2.2.2.1,x87.2.2.2.2.2.2.1,x87.1,x87.2.1,x87.2.2.1,x87.2.2.2.1,List.set x87.2.2.2.2.1 (Int.toNat x87.2.2.2.2.2.1) r88.2.1,x87.2.2.2.2.2.2.2.2.2)).bind fun r89=>some r89 else some (x87.1,x87.2.1,x87.2.2.1,x87.2.2.2.1,List.set x87.2.2.2.2.1 (Int.toNat x87.2.2.2.2.2.1) r88.2.1,x87.2.2.2.2.2.2.2.2.2)) else none) else none)| .inr _=>none) else none) else (bif decide (s.1=4) then (bif r1.1 then (Ik (s.2.2.1,s.2.2.2.1,s.2.2.2.2.1,s.2.2.2.2.2.1,s.2.2.2.2.2.2.1,s.1,s.2.1,s.2.2.2.2.2.2.2)).bind fun r90=>(match r90 with| .inl x91=>some x91| .inr _=>none) else (bif decide (s.1=5) then (bif r1.1 then (bif decide (nI (List.length s.2.2.2.2.2.2.2.1)<16) then (Pg (s.2.2.1,s.2.2.2.1,s.2.2.2.2.1,s.2.2.2.2.2.1,s.2.2.2.2.2.2.1,s.1,s.2.1,s.2.2.2.2.2.2.2)).bind fun r92=>(match r92 with| .inl x93=>some x93| .inr _=>none) else some s.2.2) else (bif decide (s.1=6) then (bif r0.1 then (bif Ea s.2.1 (List.length s.2.2.2.1) then (bif Ea s.2.1 (List.length s.2.2.2.2.1) then (bif Ba .bool s.2.2.2.2.1 (Int.toNat s.2.1) then (bif Ea ((Ba .lk s.2.2.2.1 (Int.toNat s.2.1)).a) (List.length s.2.2.2.2.2.2.1) then (bif Ea ((Ba .lk s.2.2.2.1 (Int.toNat s.2.1)).b) (List.length s.2.2.2.2.2.2.1) then (Vd (Ba .db s.2.2.2.2.2.2.1 (Int.toNat ((Ba .lk s.2.2.2.1 (Int.toNat s.2.1)).a)),Ba .db s.2.2.2.2.2.2.1 (Int.toNat ((Ba .lk s.2.2.2.1 (Int.toNat s.2.1)).b)),())).bind fun r94=>(Td (s.2.2.1,s.2.2.2.1,s.2.2.2.2.1,s.2.2.2.2.2.1,s.2.2.2.2.2.2.1,(Ba .lk s.2.2.2.1 (Int.toNat s.2.1)).a,(Ba .lk s.2.2.2.1 (Int.toNat s.2.1)).b,(Ba .lk s.2.2.2.1 (Int.toNat s.2.1)).c,r94.1,s.2.2.2.2.2.2.2)).bind fun r95=>(match r95 with| .inl x96=>some x96| .inr _=>none) else none) else none) else some s.2.2) else none) else none) else some s.2.2) else some s.2.2)) else (bif decide (s.1=6) then (bif r0.1 then (bif Ea s.2.1 (List.length s.2.2.2.1) then (bif Ea s.2.1 (List.length s.2.2.2.2.1) then (bif Ba .bool s.2.2.2.2.1 (Int.toNat s.2.1) then (bif Ea ((Ba .lk s.2.2.2.1 (Int.toNat s.2.1)).a) (List.length s.2.2.2.2.2.2.1) then (bif Ea ((Ba .lk s.2.2.2.1 (Int.toNat s.2.1)).b) (List.length s.2.2.2.2.2.2.1) then (Vd (Ba .db s.2.2.2.2.2.2.1 (Int.toNat ((Ba .lk s.2.2.2.1 (Int.toNat s.2.1)).a)),Ba .db s.2.2.2.2.2.2.1 (Int.toNat ((Ba .lk s.2.2.2.1 (Int.toNat s.2.1)).b)),())).bind fun r97=>(Td (s.2.2.1,s.2.2.2.1,s.2.2.2.2.1,s.2.2.2.2.2.1,s.2.2.2.2.2.2.1,(Ba .lk s.2.2.2.1 (Int.toNat s.2.1)).a,(Ba .lk s.2.2.2.1 (Int.toNat s.2.1)).b,(Ba .lk s.2.2.2.1 (Int.toNat s.2.1)).c,r97.1,s.2.2.2.2.2.2.2)).bind fun r98=>(match r98 with| .inl x99=>some x99| .inr _=>none) else none) else none) else some s.2.2) else none) else none) else some s.2.2) else some s.2.2))) else (bif decide (s.1=5) then (bif r1.1 then (bif decide (nI (List.length s.2.2.2.2.2.2.2.1)<16) then (Pg (s.2.2.1,s.2.2.2.1,s.2.2.2.2.1,s.2.2.2.2.2.1,s.2.2.2.2.2.2.1,s.1,s.2.1,s.2.2.2.2.2.2.2)).bind fun r100=>(match r100 with| .inl x101=>some x101| .inr _=>none) else some s.2.2) else (bif decide (s.1=6) then (bif r0.1 then (bif Ea s.2.1 (List.length s.2.2.2.1) then (bif Ea s.2.1 (List.length s.2.2.2.2.1) then (bif Ba .bool s.2.2.2.2.1 (Int.toNat s.2.1) then (bif Ea ((Ba .lk s.2.2.2.1 (Int.toNat s.2.1)).a) (List.length s.2.2.2.2.2.2.1) then (bif Ea ((Ba .lk s.2.2.2.1 (Int.toNat s.2.1)).b) (List.length s.2.2.2.2.2.2.1) then (Vd (Ba .db s.2.2.2.2.2.2.1 (Int.toNat ((Ba .lk s.2.2.2.1 (Int.toNat s.2.1)).a)),Ba .db s.2.2.2.2.2.2.1 (Int.toNat ((Ba .lk s.2.2.2.1 (Int.toNat s.2.1)).b)),())).bind fun r102=>(Td (s.2.2.1,s.2.2.2.1,s.2.2.2.2.1,s.2.2.2.2.2.1,s.2.2.2.2.2.2.1,(Ba .lk s.2.2.2.1 (Int.toNat s.2.1)).a,(Ba .lk s.2.2.2.1 (Int.toNat s.2.1)).b,(Ba .lk s.2.2.2.1 (Int.toNat s.2.1)).c,r102.1,s.2.2.2.2.2.2.2)).bind fun r103=>(match r103 with| .inl x104=>some x104| .inr _=>none) else none) else none) else some s.2.2) else none) else none) else some s.2.2) else some s.2.2)) else (bif decide (s.1=6) then (bif r0.1 then (bif Ea s.2.1 (List.length s.2.2.2.1) then (bif Ea s.2.1 (List.length s.2.2.2.2.1) then (bif Ba .bool s.2.2.2.2.1 (Int.toNat s.2.1) then (bif Ea ((Ba .lk s.2.2.2.1 (Int.toNat s.2.1)).a) (List.length s.2.2.2.2.2.2.1) then (bif Ea ((Ba .lk s.2.2.2.1 (Int.toNat s.2.1)).b) (List.length s.2.2.2.2.2.2.1) then (Vd (Ba .db s.2.2.2.2.2.2.1 (Int.toNat ((Ba .lk s.2.2.2.1 (Int.toNat s.2.1)).a)),Ba .db s.2.2.2.2.2.2.1 (Int.toNat ((Ba .lk s.2.2.2.1 (Int.toNat s.2.1)).b)),())).bind fun r105=>(Td (s.2.2.1,s.2.2.2.1,s.2.2.2.2.1,s.2.2.2.2.2.1,s.2.2.2.2.2.2.1,(Ba .lk s.2.2.2.1 (Int.toNat s.2.1)).a,(Ba .lk s.2.2.2.1 (Int.toNat s.2.1)).b,(Ba .lk s.2.2.2.1 (Int.toNat s.2.1)).c,r105.1,s.2.2.2.2.2.2.2)).bind fun r106=>(match r106 with| .inl x107=>some x107| .inr _=>none) else none) else none) else some s.2.2) else none) else none) else some s.2.2) else some s.2.2)))) else (bif decide (s.1=4) then (bif r1.1 then (Ik (s.2.2.1,s.2.2.2.1,s.2.2.2.2.1,s.2.2.2.2.2.1,s.2.2.2.2.2.2.1,s.1,s.2.1,s.2.2.2.2.2.2.2)).bind fun r108=>(match r108 with| .inl x109=>some x109| .inr _=>none) else (bif decide (s.1=5) then (bif r1.1 then (bif decide (nI (List.length s.2.2.2.2.2.2.2.1)<16) then (Pg (s.2.2.1,s.2.2.2.1,s.2.2.2.2.1,s.2.2.2.2.2.1,s.2.2.2.2.2.2.1,s.1,s.2.1,s.2.2.2.2.2.2.2)).bind fun r110=>(match r110 with| .inl x111=>some x111| .inr _=>none) else some s.2.2) else (bif decide (s.1=6) then (bif r0.1 then (bif Ea s.2.1 (List.length s.2.2.2.1) then (bif Ea s.2.1 (List.length s.2.2.2.2.1) then (bif Ba .bool s.2.2.2.2.1 (Int.toNat s.2.1) then (bif Ea ((Ba .lk s.2.2.2.1 (Int.toNat s.2.1)).a) (List.length s.2.2.2.2.2.2.1) then (bif Ea ((Ba .lk s.2.2.2.1 (Int.toNat s.2.1)).b) (List.length s.2.2.2.2.2.2.1) then (Vd (Ba .db s.2.2.2.2.2.2.1 (Int.toNat ((Ba .lk s.2.2.2.1 (Int.toNat s.2.1)).a)),Ba .db s.2.2.2.2.2.2.1 (Int.toNat ((Ba .lk s.2.2.2.1 (Int.toNat s.2.1)).b)),())).bind fun r112=>(Td (s.2.2.1,s.2.2.2.1,s.2.2.2.2.1,s.2.2.2.2.2.1,s.2.2.2.2.2.2.1,(Ba .lk s.2.2.2.1 (Int.toNat s.2.1)).a,(Ba .lk s.2.2.2.1 (Int.toNat s.2.1)).b,(Ba .lk s.2.2.2.1 (Int.toNat s.2.1)).c,r112.1,s.2.2.2.2.2.2.2)).bind fun r113=>(match r113 with| .inl x114=>some x114| .inr _=>none) else none) else none) else some s.2.2) else none) else none) else some s.2.2) else some s.2.2)) else (bif decide (s.1=6) then (bif r0.1 then (bif Ea s.2.1 (List.length s.2.2.2.1) then (bif Ea s.2.1 (List.length s.2.2.2.2.1) then (bif Ba .bool s.2.2.2.2.1 (Int.toNat s.2.1) then (bif Ea ((Ba .lk s.2.2.2.1 (Int.toNat s.2.1)).a) (List.length s.2.2.2.2.2.2.1) then (bif Ea ((Ba .lk s.2.2.2.1 (Int.toNat s.2.1)).b) (List.length s.2.2.2.2.2.2.1) then (Vd (Ba .db s.2.2.2.2.2.2.1 (Int.toNat ((Ba .lk s.2.2.2.1 (Int.toNat s.2.1)).a)),Ba .db s.2.2.2.2.2.2.1 (Int.toNat ((Ba .lk s.2.2.2.1 (Int.toNat s.2.1)).b)),())).bind fun r115=>(Td (s.2.2.1,s.2.2.2.1,s.2.2.2.2.1,s.2.2.2.2.2.1,s.2.2.2.2.2.2.1,(Ba .lk s.2.2.2.1 (Int.toNat s.2.1)).a,(Ba .lk s.2.2.2.1 (Int.toNat s.2.1)).b,(Ba .lk s.2.2.2.1 (Int.toNat s.2.1)).c,r115.1,s.2.2.2.2.2.2.2)).bind fun r116=>(match r116 with| .inl x117=>some x117| .inr _=>none) else none) else none) else some s.2.2) else none) else none) else some s.2.2) else some s.2.2))) else (bif decide (s.1=5) then (bif r1.1 then (bif decide (nI (List.length s.2.2.2.2.2.2.2.1)<16) then (Pg (s.2.2.1,s.2.2.2.1,s.2.2.2.2.1,s.2.2.2.2.2.1,s.2.2.2.2.2.2.1,s.1,s.2.1,s.2.2.2.2.2.2.2)).bind fun r118=>(match r118 with| .inl x119=>some x119| .inr _=>none) else some s.2.2) else (bif decide (s.1=6) then (bif r0.1 then (bif Ea s.2.1 (List.length s.2.2.2.1) then (bif Ea s.2.1 (List.length s.2.2.2.2.1) then (bif Ba .bool s.2.2.2.2.1 (Int.toNat s.2.1) then (bif Ea ((Ba .lk s.2.2.2.1 (Int.toNat s.2.1)).a) (List.length s.2.2.2.2.2.2.1) then (bif Ea ((Ba .lk s.2.2.2.1 (Int.toNat s.2.1)).b) (List.length s.2.2.2.2.2.2.1) then (Vd (Ba .db s.2.2.2.2.2.2.1 (Int.toNat ((Ba .lk s.2.2.2.1 (Int.toNat s.2.1)).a)),Ba .db s.2.2.2.2.2.2.1 (Int.toNat ((Ba .lk s.2.2.2.1 (Int.toNat s.2.1)).b)),())).bind fun r120=>(Td (s.2.2.1,s.2.2.2.1,s.2.2.2.2.1,s.2.2.2.2.2.1,s.2.2.2.2.2.2.1,(Ba .lk s.2.2.2.1 (Int.toNat s.2.1)).a,(Ba .lk s.2.2.2.1 (Int.toNat s.2.1)).b,(Ba .lk s.2.2.2.1 (Int.toNat s.2.1)).c,r120.1,s.2.2.2.2.2.2.2)).bind fun r121=>(match r121 with| .inl x122=>some x122| .inr _=>none) else none) else none) else some s.2.2) else none) else none) else some s.2.2) else some s.2.2)) else (bif decide (s.1=6) then (bif r0.1 then (bif Ea s.2.1 (List.length s.2.2.2.1) then (bif Ea s.2.1 (List.length s.2.2.2.2.1) then (bif Ba .bool s.2.2.2.2.1 (Int.toNat s.2.1) then (bif Ea ((Ba .lk s.2.2.2.1 (Int.toNat s.2.1)).a) (List.length s.2.2.2.2.2.2.1) then (bif Ea ((Ba .lk s.2.2.2.1 (Int.toNat s.2.1)).b) (List.length s.2.2.2.2.2.2.1) then (Vd (Ba .db s.2.2.2.2.2.2.1 (Int.toNat ((Ba .lk s.2.2.2.1 (Int.toNat s.2.1)).a)),Ba .db s.2.2.2.2.2.2.1 (Int.toNat ((Ba .lk s.2.2.2.1 (Int.toNat s.2.1)).b)),())).bind fun r123=>(Td (s.2.2.1,s.2.2.2.1,s.2.2.2.2.1,s.2.2.2.2.2.1,s.2.2.2.2.2.2.1,(Ba .lk s.2.2.2.1 (Int.toNat s.2.1)).a,(Ba .lk s.2.2.2.1 (Int.toNat s.2.1)).b,(Ba .lk s.2.2.2.1 (Int.toNat s.2.1)).c,r123.1,s.2.2.2.2.2.2.2)).bind fun r124=>(match r124 with| .inl x125=>some x125| .inr _=>none) else none) else none) else some s.2.2) else none) else none) else some s.2.2) else some s.2.2))))))
def Cz (s:(List Ev×Int×Int×Y1)):Option ((List Ev×Int×Int×Y1)⊕(Y1⊕Unit)):=(bif decide (s.2.2.1<s.2.1) then (bif Ea s.2.2.1 (List.length s.1) then (EH ((Ba .ev s.1 (Int.toNat s.2.2.1)).k,(Ba .ev s.1 (Int.toNat s.2.2.1)).a,s.2.2.2.2.2.2.2.2.2)).bind fun r0=>some (Sum.inl (s.1,s.2.1,wrap64 (s.2.2.1+1),s.2.2.2.1,s.2.2.2.2.1,s.2.2.2.2.2.1,s.2.2.2.2.2.2.1,s.2.2.2.2.2.2.2.1,s.2.2.2.2.2.2.2.2.1,r0)) else none) else some (Sum.inr (Sum.inl s.2.2.2)))
def FP (s:(Int×List Lk×List Ev×Unit)):Option (Int×Bool×Y0):=(SG (s.1,s.2.1,())).bind fun r0=>(bif (!r0.2.1) then some (0,false,([]:List Lk),([]:List Bool),([]:List Int),([]:List (List Ls)),([]:List Pk),()) else (bif decide (60<nI (List.length s.2.2.1)) then some (0,false,([]:List Lk),([]:List Bool),([]:List Int),([]:List (List Ls)),([]:List Pk),()) else (lp Cz Fa (s.2.2.1,nI (List.length s.2.2.1),0,0,([]:List Lk),([]:List Bool),([]:List Int),([]:List (List Ls)),([]:List Pk),r0.1,r0.2.2)).bind fun r1=>(match r1 with| .inl x2=>some (x2.2.2.2.2.2.2.1,true,x2.2.2.2.2.2.2.2)| .inr _=>none)))
end
section
open Go.RowKit
theorem Rt (es:List Bool) (i:Nat):Ba .bool es i=es.getD i false:=by
  induction es generalizing i with
  |nil=>rfl
  |cons z r ih=>cases i with
   |zero=>rfl
   |succ i=>exact (ih i).trans (by simp)
theorem Jp (es:List (List Ls)) (i:Nat):Ba .db es i=Eb es i:=by
  induction es generalizing i with
  |nil=>rfl
  |cons z r ih=>cases i with
   |zero=>rfl
   |succ i=>exact (ih i).trans (by simp [Eb])
theorem FH (es:List Pk) (i:Nat):Ba .pk es i=Ec es i:=by
  induction es generalizing i with
  |nil=>rfl
  |cons z r ih=>cases i with
   |zero=>rfl
   |succ i=>exact (ih i).trans (by simp [Ec])
abbrev Wt:=Int×List Lk×List Bool×List Int×List (List Ls)×List Pk×Unit
def wt (w:Wd):Wt:=(w.n,w.ls,w.up,w.sq,w.db,w.net,())
theorem mP {ls:List Lk} {k:Nat} (h:k<ls.length):ls.take k++[lk ls k]=ls.take (k+1):=by
  rw [List.take_add_one,List.getElem?_eq_getElem h,Jh h];rfl
theorem mQ (n:Int) (ls:List Lk) (hl:ls.length≤2000000):PG (n,ls,())=some (n,ls,()):=by
  unfold PG
  refine Aa.out (Aa.bnd (R:=fun r=>match r with| .inl x=>x=(0,n,[],ls,())| .inr _=>False) ?_ ?_)
  ·refine Aa.count ls.length (fun k t=>t=(ls,(ls.length:Int),(k:Int),0,n,[],ls.take k,())) ?_ (Nat.zero_le _) (Rc (by omega)) (by simp [Oa])
   rintro k t hk rfl
   simp (disch:=omega) only [OG,LO,Mg,Xa,Ya,Oa,Option.bind_some]
   by_cases hlt:k<ls.length
   ·refine Aa.gd (decide_eq_true (by omega)) (Aa.gd (Ka (by omega) (by omega)) (Aa.ite (fun _=>Aa.gd (decide_eq_true (by simp only [List.length_take,List.length_singleton];omega)) (.some ⟨hlt,?_⟩)) (fun hh=>by cases hh)))
    rw [←mP hlt];rfl
   ·obtain rfl:k=ls.length:=by omega
    rw [List.take_length]
    exact Aa.no (dF (by omega)) (.some rfl)
  ·rintro (r|r) hr
   case inr=>exact hr.elim
   obtain rfl:=hr
   exact .some rfl
theorem K4 (ls:List Lk) (up:List Bool) (k:Nat):(Yg ls up k).length≤k:=by
  unfold Yg
  rw [List.length_map]
  exact Nat.le_trans (List.length_filter_le _ _) (by simp)
theorem L4 (w:Wd) (h:w.up.length=w.ls.length) (hl:w.ls.length≤1000):Hy (w.n,w.ls,w.up,w.sq,w.db,w.net,())=some (w.n,Mc w.ls w.up,()):=by
  cases w with|mk n ls up sq db net =>
  dsimp only at h hl
  unfold Hy OO
  refine Aa.out (Aa.bnd (R:=fun r=>r=(n,Mc ls up,())) (Aa.bnd (R:=fun r=>match r with| .inl x=>x=(0,n,[],Mc ls up,())| .inr _=>False) ?_ ?_) ?_)
  ·refine Aa.count ls.length (fun k t=>t=(n,ls,up,sq,db,net,ls,(ls.length:Int),(k:Int),0,n,[],Yg ls up k,())) ?_ (Nat.zero_le _) (Rc (by omega)) (by simp [Oa,Yg])
   rintro k t hk rfl
   have hq:=K4 ls up k
   simp (disch:=omega) only [QG,MO,Mg,Rt,Xa,Ya,Oa]
   by_cases hlt:k<ls.length
   ·refine Aa.gd (decide_eq_true (by omega)) (Aa.gd (Ka (by omega) (by omega)) (Aa.bnd (R:=fun r=>r=(up.getD k false,())) (Aa.gd (Ka (by omega) (by omega)) (.some rfl)) ?_))
    rintro _ rfl
    refine Aa.ite (fun hu=>Aa.gd (decide_eq_true (by simp only [List.length_singleton];omega)) (.some ⟨hlt,?_⟩)) (fun hu=>.some ⟨hlt,?_⟩)
    ·have hu:up.getD k false=true:=hu
     rw [WG,if_pos hu];rfl
    ·have hu:up.getD k false=false:=hu
     rw [WG,hu];rfl
   ·obtain rfl:k=ls.length:=by omega
    refine Aa.no (dF (by omega)) (.some rfl)
  ·rintro (r|r) hr
   case inr=>exact hr.elim
   obtain rfl:=hr
   exact .some rfl
  ·rintro _ rfl
   exact .some rfl
theorem M4 (w:Wd) (h:w.up.length=w.ls.length) (hl:w.ls.length≤1000):By (w.n,w.ls,w.up,w.sq,w.db,w.net,())=some (w.n,Mc w.ls w.up,()):=by
  cases w with|mk n ls up sq db net =>
  dsimp only at h hl
  unfold By
  refine Aa.out (Aa.bnd (R:=fun r=>match r with| .inl x=>x=(0,[],n,Mc ls up,())| .inr _=>False) ?_ ?_)
  ·refine Aa.count ls.length (fun k t=>t=((k:Int),n,ls,up,sq,db,net,0,[],n,Yg ls up k,())) ?_ (Nat.zero_le _) (Rc (by omega)) (by simp [Oa,Yg])
   rintro k t hk rfl
   have hq:=K4 ls up k
   simp (disch:=omega) only [NG,Mg,Rt,Xa,Ya,Oa]
   by_cases hlt:k<ls.length
   ·refine Aa.gd (decide_eq_true (by omega)) (Aa.gd (Ka (by omega) (by omega)) ?_)
    refine Aa.ite (fun hu=>Aa.gd (Ka (by omega) (by omega)) (Aa.gd (decide_eq_true (by simp only [List.length_singleton];omega)) (.some ⟨hlt,?_⟩))) (fun hu=>.some ⟨hlt,?_⟩)
    ·have hu:up.getD k false=true:=hu
     rw [WG,if_pos hu];rfl
    ·have hu:up.getD k false=false:=hu
     rw [WG,hu];rfl
   ·obtain rfl:k=ls.length:=by omega
    refine Aa.no (dF (by omega)) (.some rfl)
  ·rintro (r|r) hr
   case inr=>exact hr.elim
   obtain rfl:=hr
   exact .some rfl
theorem Je.len {db:List Ls} (h:Je db):db.length≤8:=by
  have key:∀i,i<db.length→(i:Int)≤(Mb db i).o:=fun i=>by
    induction i with
    |zero=>intro hi;exact (h 0 hi).1.1
    |succ i ih =>
     intro hi
     have h1:=ih (by omega)
     have h2:=(h (i+1) hi).2 (by omega)
     rw [Nat.add_sub_cancel] at h2
     omega
  rcases Nat.lt_or_ge 8 db.length with h8|h8
  ·have h1:=key 8 h8
   have h2:=(h 8 h8).1.2.1
   omega
  ·exact h8
theorem Ng.len {l:Ls} (h:Ng l):l.e.length≤8:=by
  have key:∀i,i<l.e.length→(i:Int)≤(en l.e i).n:=fun i=>by
    induction i with
    |zero=>intro hi;exact (h.2.2.2.2 0 hi).1
    |succ i ih =>
     intro hi
     have h1:=ih (by omega)
     have h2:=(h.2.2.2.2 (i+1) hi).2.2.2.2.2 (by omega)
     rw [Nat.add_sub_cancel] at h2
     omega
  rcases Nat.lt_or_ge 8 l.e.length with h8|h8
  ·have h1:=key 8 h8
   have h2:=(h.2.2.2.2 8 h8).2.1
   omega
  ·exact h8
theorem Je.sm {db:List Ls} (h:Je db):Df db:=⟨by have:=h.len;unfold Sm;omega,fun l hl=>by
  have:=((Nn.1 h).1 l hl).len
  unfold Sm;omega⟩
theorem Ng.sm {l:Ls} (h:Ng l):Sm l.e:=by have:=h.len;unfold Sm;omega
theorem Je.so {db:List Ls} (h:Je db):Tc db:=Ki.1 h.srt
theorem WV.nn {w:Wd} {A:Int→Prop} (h:WV w A):1≤w.n∧w.n≤8:=⟨h.g.1,h.g.2.1⟩
theorem WV.lsl {w:Wd} {A:Int→Prop} (h:WV w A):w.ls.length≤14:=h.g.2.2.1
theorem mR {n:Int} {ls:List Lk} (g:GV n ls) (m:Int):Ft (n,ls,m,())=some (Ic ls m n.toNat,()):=by
  have h1:=g.1
  have h3:=g.2.2.1
  obtain ⟨N,rfl⟩:=Int.eq_ofNat_of_zero_le (show 0≤n by omega)
  rw [Z2 _ _ _ (by omega),P3 g,Int.toNat_natCast]
theorem mS {N:Nat} {ls:List Lk} (g:GV N ls) (m:Int):Ic ls m 8=Ic ls m N:=by
  have h2:=g.2.1
  refine EO (IG ls m 8) (IG ls m N) fun x=>?_
  rw [Mn,Mn]
  constructor
  ·rintro ⟨j,_,rfl,h⟩
   have:=FO g h
   exact ⟨j,by omega,rfl,h⟩
  ·rintro ⟨j,hj,rfl,h⟩
   exact ⟨j,by omega,rfl,h⟩
theorem mT {n:Int} {ls:List Lk} (g:GV n ls) (m:Int):Tw (n,ls,m,())=some (Ic ls m n.toNat,()):=by
  have h1:=g.1
  have h3:=g.2.2.1
  obtain ⟨N,rfl⟩:=Int.eq_ofNat_of_zero_le (show 0≤n by omega)
  rw [kE _ _ _ (show Fb ls by unfold Fb;omega),if_pos (show gv (N:Int) ls=true from decide_eq_true g),Int.toNat_natCast,mS g m]
theorem Dz {l:Ls} {ex:Int} {net:List Pk} {nb:List Int} {k:Nat} (h:k<nb.length):Id l ex net (nb.take (k+1))=Ni l ex (Id l ex net (nb.take k)) (iz nb k):=by
  unfold Id
  rw [List.take_add_one,List.getElem?_eq_getElem h,List.foldl_append]
  congr 1
  simp [iz,List.getD,h]
theorem mU {l:Ls} {ex:Int} {net:List Pk} {m:Int} (h:16≤net.length):Ni l ex net m=net:=if_neg (by omega)
theorem N4 {l:Ls} {ex:Int} {net:List Pk} (h:16≤net.length):∀nb:List Int,Id l ex net nb=net
  |[]=>rfl
  |m::r=>by
   show Id l ex (Ni l ex net m) r=net
   rw [mU h,N4 h r]
theorem mV {l:Ls} {ex:Int} {net:List Pk} {nb:List Int} {k:Nat} (h:16≤(Id l ex net (nb.take k)).length):Id l ex net (nb.take k)=Id l ex net nb:=by
  have:Id l ex net nb=Id l ex (Id l ex net (nb.take k)) (nb.drop k):=by
    conv=>lhs;rw [←List.take_append_drop k nb]
    unfold Id
    rw [List.foldl_append]
  rw [this,N4 h]
theorem O4 (w:Wd) (i ex:Int) (l:Ls) (g:GV w.n w.ls) (hu:w.up.length=w.ls.length) (hn:w.net.length≤16) (hl:Sm l.e):Gp (i,l.o,l.s,l.e,ex,w.n,w.ls,w.up,w.sq,w.db,w.net,())=some (w.n,w.ls,w.up,w.sq,w.db,Id l ex w.net (Ic (Mc w.ls w.up) i w.n.toNat),()):=by
  have h14:=g.2.2.1
  unfold Gp
  dsimp only
  rw [L4 w hu (by omega)]
  simp only [Option.bind_some,mR (Cp g w.up)]
  have h8:=Ct (Mc w.ls w.up) i w.n.toNat
  have hn8:=g.2.1
  generalize Ic (Mc w.ls w.up) i w.n.toNat=nb at h8 ⊢
  refine Aa.out (Aa.bnd (R:=fun r=>match r with| .inl x=>x=(w.n,w.ls,w.up,w.sq,w.db,Id l ex w.net nb,())| .inr _=>False) ?_ ?_)
  ·refine Aa.count nb.length (fun k t=>t=(ex,(nb.length:Int),(k:Int),w.n,w.ls,w.up,w.sq,w.db,l.o,l.s,l.e,nb,Id l ex w.net (nb.take k),())) ?_ (Nat.zero_le _) (Rc (by omega)) (by simp [Oa,Id])
   rintro k t hk rfl
   simp (disch:=omega) only [CH,BH,Gj,Xa,Ya,Oa,VG _ _ _ hl,Option.bind_some]
   by_cases hlt:k<nb.length
   ·refine Aa.gd (decide_eq_true (by omega)) (Aa.gd (Ka (by omega) (by omega)) (Aa.ite (fun he=>Aa.ite (fun hf=>?_) (fun hf=>?_)) (fun he=>?_)))
    ·have he:¬iz nb k=ex:=by simpa using he
     have hf:=oT hf
     refine Aa.bnd (R:=fun r=>r=.inl (ex,(nb.length:Int),(k:Int),w.n,w.ls,w.up,w.sq,w.db,l.o,l.s,l.e,nb,Id l ex w.net (nb.take k)++[⟨iz nb k,l⟩],())) (Aa.gd (decide_eq_true (by simp only [List.length_singleton];omega)) (.some rfl)) ?_
     rintro _ rfl
     simp (disch:=omega) only [Ya]
     refine .some ⟨hlt,?_⟩
     rw [Dz hlt,Ni,if_pos ⟨he,by omega⟩]
     rfl
    ·have hf:=oF hf
     refine .some ⟨hlt,?_⟩
     rw [Dz hlt,Ni,if_neg (by omega)]
     rfl
    ·have he:iz nb k=ex:=by simpa using he
     refine .some ⟨hlt,?_⟩
     rw [Dz hlt,Ni,if_neg (fun hh=>hh.1 he)]
     rfl
   ·obtain rfl:k=nb.length:=by omega
    rw [List.take_length]
    exact Aa.no (dF (by omega)) (.some rfl)
  ·rintro (r|r) hr
   case inr=>exact hr.elim
   obtain rfl:=hr
   exact .some rfl
theorem P4 (w:Wd) (i ex:Int) (l:Ls) (g:GV w.n w.ls) (hu:w.up.length=w.ls.length) (hn:w.net.length≤16) (hl:Sm l.e):Vy (w.n,i,l.o,l.s,l.e,ex,w.ls,w.up,w.sq,w.db,w.net,())=some (w.n,w.ls,w.up,w.sq,w.db,Id l ex w.net (Ic (Mc w.ls w.up) i w.n.toNat),()):=by
  have h14:=g.2.2.1
  unfold Vy
  dsimp only
  rw [M4 w hu (by omega)]
  simp only [Option.bind_some,mT (Cp g w.up)]
  have h8:=Ct (Mc w.ls w.up) i w.n.toNat
  have hn8:=g.2.1
  generalize Ic (Mc w.ls w.up) i w.n.toNat=nb at h8 ⊢
  refine Aa.out (Aa.bnd (R:=fun r=>match r with| .inl x=>x=(w.ls,w.up,w.sq,w.db,w.n,0,[],[],[],[],[],Id l ex w.net nb,())| .inr _=>False) ?_ ?_)
  ·refine Aa.count nb.length (fun k t=>t=(ex,(k:Int),w.ls,w.up,w.sq,w.db,w.n,l.o,l.s,l.e,0,[],[],[],[],[],nb,Id l ex w.net (nb.take k),())) ?_ (Nat.zero_le _) (Rc (by omega)) (by simp [Oa,Id])
   rintro k t hk rfl
   simp (disch:=omega) only [ZG,Gj,Xa,Ya,Oa,Nt _ _ _ hl,Option.bind_some]
   by_cases hlt:k<nb.length
   ·refine Aa.gd (decide_eq_true (by omega)) (Aa.ite (fun hf=>?_) (fun hf=>?_))
    ·have hf:=oT hf
     refine Aa.gd (Ka (by omega) (by omega)) (Aa.ite (fun he=>?_) (fun he=>?_))
     ·have he:¬iz nb k=ex:=by simpa using he
      refine Aa.gd (Ka (by omega) (by omega)) (Aa.gd (decide_eq_true (by simp only [List.length_nil];omega)) (Aa.gd (decide_eq_true (by simp only [List.nil_append,List.length_singleton];omega)) (.some ⟨hlt,?_⟩)))
      rw [Dz hlt,Ni,if_pos ⟨he,by omega⟩]
      rfl
     ·have he:iz nb k=ex:=by simpa using he
      refine .some ⟨hlt,?_⟩
      rw [Dz hlt,Ni,if_neg (fun hh=>hh.1 he)]
      rfl
    ·have hf:=oF hf
     exact .some (by rw [mV (by omega)])
   ·obtain rfl:k=nb.length:=by omega
    rw [List.take_length]
    exact Aa.no (dF (by omega)) (.some rfl)
  ·rintro (r|r) hr
   case inr=>exact hr.elim
   obtain rfl:=hr
   exact .some rfl
end
section
open Go.RowKit
theorem Pb {α β:Type} {o:Option α} {f:α→Option β} {r:α} {Q:β→Prop} (h:o=some r) (k:Aa (f r) Q):Aa (o.bind f) Q:=by subst h;exact k
theorem mW {α:Type} {l:List α} {i:Nat} {d:α} (h:i<l.length):l.set i (l.getD i d)=l:=by
  rw [List.getD,List.getElem?_eq_getElem h]
  exact List.set_getElem_self h
theorem mX {n:Int} {ls:List Lk} (g:GV n ls) (o s:Int):Ht (n,ls,o,s,())=some (o,s,Wc ls n.toNat o,()):=by
  have h1:=g.1
  obtain ⟨N,rfl⟩:=Int.eq_ofNat_of_zero_le (show 0≤n by omega)
  exact Q3 g o s
theorem mY {n:Int} {ls:List Lk} (g:GV n ls) (o s:Int):Gt (n,ls,o,s,())=some (o,s,Wc ls n.toNat o,()):=by
  have h1:=g.1
  obtain ⟨N,rfl⟩:=Int.eq_ofNat_of_zero_le (show 0≤n by omega)
  exact T3 g o s
section
variable {w:Wd} {A:Int→Prop}
theorem mZ (h:WV w A) {i:Nat} (hi:i<w.db.length) (h99:iz w.sq i<99):Gk ((i:Int),w.n,w.ls,w.up,w.sq,w.db,w.net,())=some (wt (Mh w i)):=by
  have hsq:=h.sq
  have hdb:=h.db
  have his:i<w.sq.length:=by omega
  have hr:=h.rng i his
  have h14:=h.lsl
  have hd:=h.ok i hi
  have hnw:=ZO h hi h99
  have hlen:=hd.len
  have b1:Zy ((i:Int),w.n,w.ls,w.up,w.sq.set i (iz w.sq i+1),w.db,w.net,())=some (.inl ((i:Int),w.n,w.ls,w.up,w.sq.set i (iz w.sq i+1),w.db,(i:Int),iz w.sq i+1,w.net,Wc (Mc w.ls w.up) w.n.toNat i,())):=by
    unfold Zy
    simp only [Xa,Gj]
    refine Aa.out (Aa.gd (Ka (by omega) (by rw [List.length_set];omega)) (Pb (L4 { w with sq:=w.sq.set i (iz w.sq i+1) } h.up (by show w.ls.length≤1000;omega)) ?_))
    dsimp only
    refine Pb (mX (Cp h.g w.up) _ _) (.some ?_)
    dsimp only
    rw [Uy his,if_pos rfl]
  have b2:Az ((i:Int),w.n,w.ls,w.up,w.sq.set i (iz w.sq i+1),w.db,(i:Int),iz w.sq i+1,w.net,Wc (Mc w.ls w.up) w.n.toNat i,())=some (.inl ((i:Int),w.n,w.ls,w.up,w.sq.set i (iz w.sq i+1),w.db.set i (Uc (Eb w.db i) (Of w i)),(i:Int),iz w.sq i+1,w.net,Wc (Mc w.ls w.up) w.n.toNat i,())):=by
    unfold Az
    simp only [Xa,Jp]
    exact Aa.out (Aa.gd (Ka (by omega) (by omega)) (Pb (RO (Eb w.db i) (Of w i) hd.so hd.sm hnw.sm (by omega)) (Aa.gd (Ka (by omega) (by omega)) (.some rfl))))
  unfold Gk
  simp (disch:=omega) only [Xa,Gj,Ya]
  refine Aa.out (Aa.gd (Ka (by omega) (by omega)) (Aa.gd (Ka (by omega) (by omega)) (Pb b1 ?_)))
  dsimp only
  refine Pb b2 ?_
  dsimp only
  exact Pb (O4 { w with sq:=w.sq.set i (iz w.sq i+1),db:=w.db.set i (Uc (Eb w.db i) (Of w i)) } (i:Int) (-1) (Of w i) h.g h.up h.net hnw.sm) (.some rfl)
theorem nA (h:WV w A) {i:Nat} (hi:i<w.db.length) (h99:iz w.sq i<99):Qt (w.n,(i:Int),w.ls,w.up,w.sq,w.db,w.net,())=some (wt (Mh w i)):=by
  have hsq:=h.sq
  have hdb:=h.db
  have his:i<w.sq.length:=by omega
  have hr:=h.rng i his
  have h14:=h.lsl
  have hd:=h.ok i hi
  have hnw:=ZO h hi h99
  have b1:Wy ((i:Int),w.ls,w.up,w.sq.set i (iz w.sq i+1),w.db,w.n,0,[],[],[],[],[],w.net,())=some (.inl ((i:Int),w.ls,w.up,w.sq.set i (iz w.sq i+1),w.db,w.n,0,[],[],[],[],[],(i:Int),iz w.sq i+1,w.net,Wc (Mc w.ls w.up) w.n.toNat i,())):=by
    unfold Wy
    simp only [Xa,Gj]
    refine Aa.out (Aa.gd (Ka (by omega) (by rw [List.length_set];omega)) (Pb (M4 { w with sq:=w.sq.set i (iz w.sq i+1) } h.up (by show w.ls.length≤1000;omega)) ?_))
    dsimp only
    refine Pb (mY (Cp h.g w.up) _ _) (.some ?_)
    dsimp only
    rw [Uy his,if_pos rfl]
  unfold Qt
  simp (disch:=omega) only [Xa,Gj,Ya]
  refine Aa.out (Aa.gd (Ka (by omega) (by omega)) (Aa.gd (Ka (by omega) (by omega)) (Pb b1 ?_)))
  simp only [Xa,Jp]
  refine Aa.gd (Ka (by omega) (by omega)) (Pb (SO (Eb w.db i) (Of w i) hd.so hd.sm hnw.sm) (Aa.gd (Ka (by omega) (by omega)) ?_))
  exact Pb (P4 { w with sq:=w.sq.set i (iz w.sq i+1),db:=w.db.set i (Uc (Eb w.db i) (Of w i)) } (i:Int) (-1) (Of w i) h.g h.up h.net hnw.sm) (.some rfl)
theorem Q4 (h:WV w A) {i:Int} (h0:0≤i) (hi:i<w.n) (h99:iz w.sq i.toNat<99):Gk (i,w.n,w.ls,w.up,w.sq,w.db,w.net,())=some (wt (Mh w i.toNat)):=by
  have hdb:=h.db
  obtain ⟨k,rfl⟩:=Int.eq_ofNat_of_zero_le h0
  exact mZ h (by omega) h99
theorem R4 (h:WV w A) {i:Int} (h0:0≤i) (hi:i<w.n) (h99:iz w.sq i.toNat<99):Qt (w.n,i,w.ls,w.up,w.sq,w.db,w.net,())=some (wt (Mh w i.toNat)):=by
  have hdb:=h.db
  obtain ⟨k,rfl⟩:=Int.eq_ofNat_of_zero_le h0
  exact nA h (by omega) h99
structure GP (w:Wd):Prop where
  ls:w.ls.length≤2000000
  up:w.up.length≤2000000
  sq:w.sq.length≤2000000
  db:w.db.length≤2000000
  net:w.net.length≤2000000
  dbs:∀i,i<w.db.length→Df (Eb w.db i)
  pks:∀i,i<w.net.length→Sm (Ec w.net i).p.e
theorem WV.sm (h:WV w A):GP w:=by
  have h1:=h.lsl
  have h2:=h.up
  have h3:=h.sq
  have h4:=h.db
  have h5:=h.net
  have h6:=h.nn
  exact ⟨by omega,by omega,by omega,by omega,by omega,fun i hi=>(h.ok i hi).sm,fun i hi=>(h.poss _ (.inr ⟨_,Pt hi,rfl⟩)).1.sm⟩
theorem nB {db:List (List Ls)} {k:Nat} (h:k<db.length):db.take k++[Eb db k]=db.take (k+1):=by
  rw [List.take_add_one,List.getElem?_eq_getElem h];simp [Eb,List.getD,h]
theorem nC {net:List Pk} {k:Nat} (h:k<net.length):net.take k++[⟨(Ec net k).t,⟨(Ec net k).p.o,(Ec net k).p.s,(Ec net k).p.e⟩⟩]=net.take (k+1):=by
  rw [List.take_add_one,List.getElem?_eq_getElem h]
  have:Ec net k=net[k]:=by simp [Ec,List.getD,h]
  rw [this];rfl
theorem S4 (n:Int) (ls:List Lk) (hl:ls.length≤2000000):Ay (n,ls,())=some (n,ls,()):=by
  unfold Ay
  exact Aa.out (Aa.gd (decide_eq_true (by simp only [List.length_nil];omega)) (.some rfl))
theorem GH (h:GP w):Bp (w.n,w.ls,w.up,w.sq,w.db,w.net,())=some (w.n,w.ls,w.up,w.sq,w.db,w.net,()):=by
  have h1:=h.ls
  have h2:=h.up
  have h3:=h.sq
  have h4:=h.db
  have h5:=h.net
  cases w with|mk n ls up sq db net =>
  dsimp only at h1 h2 h3 h4 h5 ⊢
  have b1:Ey (n,ls,up,sq,db,net,0,[],[],[],[],[],())=some (.inl (n,ls,up,sq,db,net,0,[],[],[],[],[],n,ls,up,sq,[],[],())):=by
    unfold Ey
    exact Aa.out (Pb (S4 n ls h1) (Aa.gd (decide_eq_true (by simp;omega)) (Aa.gd (decide_eq_true (by simp;omega)) (.some (by simp)))))
  unfold Bp
  refine Aa.out (Pb b1 ?_)
  refine Aa.bnd (R:=fun r=>match r with| .inl x=>x=(n,ls,up,sq,db,net,0,[],[],[],[],[],n,ls,up,sq,db,[],())| .inr _=>False) ?_ ?_
  ·refine Aa.count db.length (fun k t=>t=((k:Int),n,ls,up,sq,db,net,0,[],[],[],[],[],n,ls,up,sq,db.take k,[],())) ?_ (Nat.zero_le _) (Rc (by omega)) (by simp [Oa])
   rintro k t hk rfl
   by_cases hlt:k<db.length
   ·have e1:=Qy _ (h.dbs k hlt)
    simp (disch:=omega) only [Fy,Jp,Xa,Ya,Oa,e1,Option.bind_some]
    refine Aa.gd (decide_eq_true (by omega)) (Aa.gd (Ka (by omega) (by omega)) (Aa.gd (decide_eq_true (by simp;omega)) (.some ⟨hlt,?_⟩)))
    rw [←nB hlt];rfl
   ·obtain rfl:k=db.length:=by omega
    unfold Fy
    simp only [Oa]
    refine Aa.no (dF (by first|omega|(dsimp only;omega))) (.some ?_)
    rw [List.take_length]
  rintro (r|r) hr
  case inr=>exact hr.elim
  obtain rfl:=hr
  refine Aa.bnd (R:=fun r=>match r with| .inl x=>x=(0,[],[],[],[],[],n,ls,up,sq,db,net,())| .inr _=>False) ?_ ?_
  ·refine Aa.count net.length (fun k t=>t=((k:Int),n,ls,up,sq,db,net,0,[],[],[],[],[],n,ls,up,sq,db,net.take k,())) ?_ (Nat.zero_le _) (Rc (by omega)) (by simp [Oa])
   rintro k t hk rfl
   by_cases hlt:k<net.length
   ·have e1:=Nt (Ec net k).p.o (Ec net k).p.s _ (h.pks k hlt)
    simp (disch:=omega) only [Gy,FH,Xa,Ya,Oa,e1,Option.bind_some]
    refine Aa.gd (decide_eq_true (by omega)) (Aa.gd (Ka (by omega) (by omega)) (Aa.gd (Ka (by omega) (by omega)) ?_))
    refine Aa.gd (decide_eq_true (by simp;omega)) (.some ⟨hlt,?_⟩)
    rw [←nC hlt];rfl
   ·obtain rfl:k=net.length:=by omega
    unfold Gy
    simp only [Oa]
    refine Aa.no (dF (by first|omega|(dsimp only;omega))) (.some ?_)
    rw [List.take_length]
  rintro (r|r) hr
  case inr=>exact hr.elim
  obtain rfl:=hr
  exact .some rfl
end
end
section
open Go.RowKit
section
variable {w:Wd} {A:Int→Prop}
theorem HP {kind a:Int} (hk:kind=1∨kind=2):Te w kind a=if 0≤a∧a<w.up.length then Nh w a.toNat (decide (kind=2)) else w:=by
  unfold Te
  rcases hk with rfl|rfl<;>simp
theorem JH {a:Int}:Te w 3 a=if 0≤a∧a<w.net.length then Ep { w with net:=w.net.eraseIdx a.toNat } (Ec w.net a.toNat).t.toNat (Ec w.net a.toNat).p else w:=by
  unfold Te;simp
theorem KH {a:Int}:Te w 4 a=if 0≤a∧a<w.net.length then { w with net:=w.net.eraseIdx a.toNat } else w:=by
  unfold Te;simp
theorem LH {a:Int}:Te w 5 a=if 0≤a∧a<w.net.length then (if w.net.length<16 then { w with net:=w.net++[Ec w.net a.toNat] } else w) else w:=by
  unfold Te;simp
theorem T4 {a:Int}:Te w 6 a=if 0≤a∧a<w.up.length then Fp w a.toNat else w:=by
  unfold Te;simp
theorem U4 {kind a:Int} (h1:kind≠1) (h2:kind≠2) (h3:kind≠3) (h4:kind≠4) (h5:kind≠5) (h6:kind≠6):Te w kind a=w:=by
  unfold Te;simp [h1,h2,h3,h4,h5,h6]
theorem V4 (h:WV w Pf) {k:Nat} (hk:k<w.ls.length) (u:Bool) (ha:iz w.sq (lk w.ls k).a.toNat<99) (hb:iz w.sq (lk w.ls k).b.toNat<99):∃A,WV (Mh { w with up:=w.up.set k u } (lk w.ls k).a.toNat) A∧iz (Mh { w with up:=w.up.set k u } (lk w.ls k).a.toNat).sq (lk w.ls k).b.toNat<99:=by
  have hdb:=h.db
  have hsq:=h.sq
  have ho:=h.g.ok (Ej hk)
  unfold Lg at ho
  refine ⟨_,BP (YG h hk u) (i:=(lk w.ls k).a.toNat) (by show _<w.db.length;omega) (by show iz w.sq _<99;omega),?_⟩
  show iz (w.sq.set (lk w.ls k).a.toNat _) (lk w.ls k).b.toNat<99
  rw [Uy (by omega),if_neg (by omega)]
  omega
theorem W4 (h:WV w Pf) {k:Nat} (hk:k<w.ls.length) (u:Bool):Yl (w.n,w.ls,w.up,w.sq,w.db,w.net,(k:Int),u,())=some (wt (Nh w k u)):=by
  have hdb:=h.db
  have hsq:=h.sq
  have hup:=h.up
  have ho:=h.g.ok (Ej hk)
  unfold Lg at ho
  have main:w.up.getD k false≠u→iz w.sq (lk w.ls k).a.toNat<99→iz w.sq (lk w.ls k).b.toNat<99→Yy (w.n,0,[],[],[],[],[],(lk w.ls k).a,(lk w.ls k).b,(lk w.ls k).c,w.ls,w.up.set k u,w.sq,w.db,w.net,())=some (.inl (wt (Nh w k u))):=fun hu ha hb=>by
    obtain ⟨A,v,hv⟩:=V4 h hk u ha hb
    unfold Yy
    refine Aa.out (Pb (R4 (YG h hk u) (i:=(lk w.ls k).a) (by omega) (by show _<w.n;omega) ha) ?_)
    dsimp only [wt]
    refine Pb (R4 v (i:=(lk w.ls k).b) (by omega) (by show _<w.n;omega) hv) (.some ?_)
    unfold Nh
    rw [if_neg (by rintro (e|e|e);exact hu e;omega;omega)]
    rfl
  unfold Yl
  simp only [Xa,Mg,Rt,Gj]
  refine Aa.out (Aa.gd (Ka (by omega) (by omega)) (Aa.gd (Ka (by omega) (by omega)) (Aa.ite (fun hc=>.some ?_) (fun hc=>?_))))
  ·have hc:w.up.getD k false=u:=by simpa using hc
   unfold Nh;rw [if_pos (.inl hc)];rfl
  have hc:w.up.getD k false≠u:=by simpa using hc
  refine Aa.gd (Ka (by omega) (by omega)) (Aa.ite (fun ha=>.some ?_) (fun ha=>?_))
  ·have ha:=oT ha
   unfold Nh;rw [if_pos (.inr (.inl ha))];rfl
  have ha:=oF ha
  refine Aa.gd (Ka (by omega) (by omega)) (Aa.ite (fun hb=>.some ?_) (fun hb=>?_))
  ·have hb:=oT hb
   unfold Nh;rw [if_pos (.inr (.inr hb))];rfl
  have hb:=oF hb
  refine Pb (GH h.sm) ?_
  dsimp only [wt]
  refine Aa.gd (Ka (by omega) (by omega)) (Pb (main hc (by omega) (by omega)) (.some rfl))
theorem nD (h:WV w A) {t:Nat} (ht:t<w.db.length) {l:Ls} (hl:Ng l):AH (w.n,w.ls,w.up,w.sq,w.db,w.net,(t:Int),l.o,l.s,l.e,())=some (wt (Ep w t l)):=by
  have hd:=h.ok t ht
  unfold AH
  simp only [Xa,Jp]
  refine Aa.out (Aa.gd (Ka (by omega) (by omega)) (Pb (SO (Eb w.db t) l hd.so hd.sm hl.sm) ?_))
  dsimp only
  unfold Ep
  refine Aa.ite (fun hc=>.some ?_) (fun hc=>?_)
  ·have hc:¬Zd (Eb w.db t) l=0:=by simpa using hc
   rw [if_neg hc];rfl
  ·have hc:Zd (Eb w.db t) l=0:=by simpa using hc
   rw [if_pos hc]
   refine Pb (GH h.sm) ?_
   dsimp only
   refine Aa.gd (Ka (by omega) (by omega)) ?_
   exact Pb (P4 { w with db:=w.db.set t (Uc (Eb w.db t) l) } (t:Int) l.o l h.g h.up h.net hl.sm) (.some rfl)
theorem nE (h:WV w A) {k:Nat} (hk:k<w.ls.length):Xl (w.n,w.ls,w.up,w.sq,w.db,w.net,(k:Int),())=some (wt (Fp w k)):=by
  have hdb:=h.db
  have hup:=h.up
  have ho:=h.g.ok (Ej hk)
  unfold Lg at ho
  have va:=h.ok (lk w.ls k).a.toNat (by omega)
  have vb:=h.ok (lk w.ls k).b.toNat (by omega)
  have vm:=JO va (Nn.1 vb).1
  have la:=va.len
  have lb:=vb.len
  unfold Xl Fp
  simp only [Xa,Jp,Mg,Rt]
  refine Aa.out (Aa.gd (Ka (by omega) (by omega)) (Aa.gd (Ka (by omega) (by omega)) (Aa.ite (fun hc=>.some ?_) (fun hc=>?_))))
  ·have hc:¬w.up.getD k false=true:=by simpa using hc
   rw [if_neg hc];rfl
  ·have hc:w.up.getD k false=true:=by simpa using hc
   rw [if_pos hc]
   refine Pb (GH h.sm) ?_
   dsimp only
   refine Aa.gd (Ka (by omega) (by omega)) (Aa.gd (Ka (by omega) (by omega)) (Pb (mA _ _ va.so va.sm vb.sm (by omega) (by omega)) ?_))
   dsimp only
   refine Aa.gd (Ka (by omega) (by omega)) (Pb (Qy _ vm.sm) ?_)
   refine Aa.gd (Ka (by omega) (by rw [List.length_set];omega)) (.some rfl)
theorem nF (k:Nat):Int.toNat ((k:Int)+1)=k+1:=by omega
theorem nG {α:Type} (l:List α) (j:Nat):List.take (l.length-j) (List.drop j l)=List.drop j l:=List.take_of_length_le (by simp)
theorem X4 {lo hi:Int} {n:Nat} (h1:0≤lo) (h2:lo≤hi) (h3:hi≤n):Km lo hi n=true:=by unfold Km;simp;omega
theorem nH (h:WV w Pf) {kind:Int} (hk:kind=3∨kind=4∨kind=5) (a:Int):Hp (w.n,w.ls,w.up,w.sq,w.db,w.net,kind,a,())=some (wt (Te w kind a)):=by
  have hnet:=h.net
  have hdb:=h.db
  unfold Hp
  simp (disch:=omega) only [FF,Option.bind_some,Oa,Ya]
  refine Aa.out (Aa.ite (fun hc=>.some ?_) (fun hc=>?_))
  ·have hc:=Wr (show Ad a 0 ((w.net.length:Int)-1)=false by simpa using hc)
   rcases hk with rfl|rfl|rfl
   ·rw [JH,if_neg (by omega)];rfl
   ·rw [KH,if_neg (by omega)];rfl
   ·rw [LH,if_neg (by omega)];rfl
  have hc:0≤a∧a≤(w.net.length:Int)-1:=by simpa [Ad] using hc
  obtain ⟨k,rfl⟩:=Int.eq_ofNat_of_zero_le hc.1
  have hkn:k<w.net.length:=by omega
  have hm:Ec w.net k∈w.net:=Pt hkn
  have hP:=h.poss _ (.inr ⟨_,hm,rfl⟩)
  have ht:=h.tgt _ hm
  have hV:=hP.1
  have w1:wrap64 ((k:Int)+1)=((k:Int)+1):=Ya (by omega) (by omega)
  simp only [w1,Xa,nF,FH,Int.toNat_zero,List.drop_zero,Nat.sub_zero,List.nil_append,nG,←List.eraseIdx_eq_take_drop_succ]
  clear w1
  refine Aa.gd (Ka (by omega) (by omega)) ?_
  by_cases h5:kind=5
  ·subst h5
   rw [LH,if_pos ⟨by omega,by omega⟩,Xa]
   refine Aa.gd rfl (Aa.ite (fun hf=>?_) (fun hf=>?_))
   ·have hf:=oT hf
    rw [if_pos (by omega)]
    have e:Xy (w.n,w.ls,w.up,w.sq,w.db,w.net,0,[],[],[],[],[],(Ec w.net k).t,(Ec w.net k).p.o,(Ec w.net k).p.s,(Ec w.net k).p.e,())=some (.inl (w.n,w.ls,w.up,w.sq,w.db,0,[],[],[],[],[],w.net++[Ec w.net k],())):=by
      unfold Xy
      refine Aa.out (Aa.gd (decide_eq_true (by simp only [List.length_nil];omega)) (Aa.gd (decide_eq_true (by simp only [List.nil_append,List.length_singleton];omega)) (.some (by simp))))
    exact Pb e (.some rfl)
   ·have hf:=oF hf
    rw [if_neg (by omega)]
    exact .some rfl
  refine Aa.no (dF h5) (Aa.gd (X4 (by omega) (by omega) (by omega)) (Aa.gd (X4 (by omega) (by omega) (by omega)) ?_))
  refine Aa.gd (decide_eq_true (by simp only [List.length_nil,List.length_take];omega)) (Aa.gd (decide_eq_true (by simp only [List.length_take,List.length_drop];omega)) ?_)
  by_cases h3:kind=3
  ·subst h3
   rw [JH,if_pos ⟨by omega,by omega⟩,Xa]
   refine Aa.gd rfl ?_
   obtain ⟨t,ht'⟩:=Int.eq_ofNat_of_zero_le ht.1
   rw [ht']
   exact Pb (nD (DP h k) (t:=t) (by show t<w.db.length;omega) hV) (.some rfl)
  ·have h4:kind=4:=by omega
   subst h4
   rw [KH,if_pos ⟨by omega,by omega⟩,Xa]
   exact Aa.no rfl (.some rfl)
theorem nJ (h:WV w Pf) (kind a:Int):DH (w.n,w.ls,w.up,w.sq,w.db,w.net,kind,a,())=some (wt (Te w kind a)):=by
  have hup:=h.up
  have h14:=h.lsl
  have hnet:∀kind,kind=3∨kind=4∨kind=5→Aa ((Hp (w.n,w.ls,w.up,w.sq,w.db,w.net,kind,a,())).bind fun r0=>some ((r0.1,r0.2.1,r0.2.2.1,r0.2.2.2.1,r0.2.2.2.2.1,r0.2.2.2.2.2.1,()))) (·=wt (Te w kind a)):=fun kind hk=>Pb (nH h hk a) (.some rfl)
  unfold DH
  dsimp only
  by_cases h3:kind=3
  ·subst h3;exact Aa.out (Aa.gd rfl (Aa.gd rfl (hnet 3 (.inl rfl))))
  by_cases h4:kind=4
  ·subst h4;exact Aa.out (Aa.no rfl (Aa.gd rfl (Aa.gd rfl (hnet 4 (.inr (.inl rfl))))))
  by_cases h5:kind=5
  ·subst h5;exact Aa.out (Aa.no rfl (Aa.no rfl (Aa.gd rfl (hnet 5 (.inr (.inr rfl))))))
  refine Aa.out (Aa.no (dF h3) (Aa.no (dF h4) (Aa.no (dF h5) (Pb (FF _ _ _) ?_))))
  simp (disch:=omega) only [Oa,Ya]
  have out:¬(0≤a∧a<w.up.length)→Te w kind a=w:=fun hh=>by
    unfold Te
    simp only [h3,h4,h5,false_and,if_false]
    rw [if_neg (fun q=>hh q.2),if_neg (fun q=>hh q.2)]
  refine Aa.ite (fun hc=>.some ?_) (fun hc=>?_)
  ·have hc:=Wr (show Ad a 0 ((w.up.length:Int)-1)=false by simpa using hc)
   rw [out (by omega)];rfl
  have hc:0≤a∧a≤(w.up.length:Int)-1:=by simpa [Ad] using hc
  obtain ⟨k,rfl⟩:=Int.eq_ofNat_of_zero_le hc.1
  by_cases h1:kind=1
  ·subst h1
   rw [HP (.inl rfl),if_pos ⟨by omega,by omega⟩,Xa]
   exact Aa.gd rfl (Aa.gd rfl (Pb (W4 h (by omega) _) (.some rfl)))
  by_cases h2:kind=2
  ·subst h2
   rw [HP (.inr rfl),if_pos ⟨by omega,by omega⟩,Xa]
   exact Aa.no rfl (Aa.gd rfl (Pb (W4 h (by omega) _) (.some rfl)))
  refine Aa.no (dF h1) (Aa.no (dF h2) ?_)
  by_cases h6:kind=6
  ·subst h6
   rw [T4,if_pos ⟨by omega,by omega⟩,Xa]
   exact Aa.gd rfl (Pb (nE h (by omega)) (.some rfl))
  ·refine Aa.no (dF h6) (.some ?_)
   rw [U4 h1 h2 h3 h4 h5 h6];rfl
end
end
section
open Go.RowKit
section
variable {w:Wd} {A:Int→Prop}
theorem Z4 (net:List Pk) (k:Nat) (hk:k<net.length) (hn:net.length≤16):Ow ((k:Int),(k:Int)+1,net,())=some (net.eraseIdx k,()):=by
  unfold Ow
  rw [List.eraseIdx_eq_take_drop_succ]
  exact Aa.out (Aa.gd (decide_eq_true ⟨by omega,rfl,by show (k:Int)<(net.length:Int);omega,by show net.length≤16777216;omega⟩) (.some rfl))
theorem nK (h:WV w Pf) (kind a:Int):EH (kind,a,w.n,w.ls,w.up,w.sq,w.db,w.net,())=some (wt (Te w kind a)):=by
  have hup:=h.up
  have h14:=h.lsl
  have hnet:=h.net
  have hdb:=h.db
  have hsq:=h.sq
  unfold EH
  simp (disch:=omega) only [HN,Option.bind_some,Oa,Ya]
  by_cases h12:kind=1∨kind=2
  ·rw [HP h12]
   cases hin:Ad a 0 ((w.up.length:Int)-1) with
   |false =>
    have hc:=Wr hin
    rw [if_neg (by omega)]
    rcases h12 with rfl|rfl
    ·exact Aa.out (Aa.gd rfl (Aa.no rfl (Aa.no rfl (Aa.no rfl (Aa.no rfl (Aa.no rfl (.some rfl)))))))
    ·exact Aa.out (Aa.no rfl (Aa.gd rfl (Aa.no rfl (Aa.no rfl (Aa.no rfl (Aa.no rfl (Aa.no rfl (.some rfl))))))))
   |true =>
    have hc:=WB hin
    obtain ⟨k,rfl⟩:=Int.eq_ofNat_of_zero_le hc.1
    have hk:k<w.ls.length:=by omega
    have ho:=h.g.ok (Ej hk)
    unfold Lg at ho
    rw [if_pos ⟨by omega,by omega⟩,Xa]
    have main:∀u:Bool,w.up.getD k false≠u→iz w.sq (lk w.ls k).a.toNat<99→iz w.sq (lk w.ls k).b.toNat<99→Aa ((Gk ((lk w.ls k).a,w.n,w.ls,w.up.set k u,w.sq,w.db,w.net,())).bind fun r2=>(Gk (((lk w.ls k).b,(r2.1,(r2.2.1,(r2.2.2.1,(r2.2.2.2.1,(r2.2.2.2.2.1,(r2.2.2.2.2.2.1,()))))))))).bind fun r3=>some ((r3.1,r3.2.1,r3.2.2.1,r3.2.2.2.1,r3.2.2.2.2.1,r3.2.2.2.2.2.1,()))) (·=wt (Nh w k u)):=fun u hu ha hb=>by
      obtain ⟨A,v,hv⟩:=V4 h hk u ha hb
      refine Pb (Q4 (YG h hk u) (i:=(lk w.ls k).a) (by omega) (by show _<w.n;omega) ha) ?_
      dsimp only [wt]
      refine Pb (Q4 v (i:=(lk w.ls k).b) (by omega) (by show _<w.n;omega) hv) (.some ?_)
      unfold Nh
      rw [if_neg (by rintro (e|e|e);exact hu e;omega;omega)]
      rfl
    have same:∀u:Bool,¬(w.up.getD k false≠u∧iz w.sq (lk w.ls k).a.toNat<99∧iz w.sq (lk w.ls k).b.toNat<99)→(w.n,w.ls,w.up,w.sq,w.db,w.net,())=wt (Nh w k u):=fun u hh=>by
      unfold Nh
      rw [if_pos (by
        by_cases e1:w.up.getD k false=u
        ·exact .inl e1
        ·by_cases e2:iz w.sq (lk w.ls k).a.toNat<99
         ·exact .inr (.inr (by
            by_cases e3:iz w.sq (lk w.ls k).b.toNat<99
            ·exact (hh ⟨e1,e2,e3⟩).elim
            ·omega))
         ·exact .inr (.inl (by omega)))]
      rfl
    simp only [Xa,Mg,Rt,Gj]
    rcases h12 with rfl|rfl
    ·refine Aa.out (Aa.gd rfl (Aa.gd rfl (Aa.gd (Ka (by omega) (by omega)) (Aa.gd (Ka (by omega) (by omega)) ?_))))
     refine Aa.ite (fun hu=>?_) (fun hu=>.some (same _ (fun q=>q.1 (by simpa using hu))))
     refine Aa.gd (Ka (by omega) (by omega)) (Aa.ite (fun ha=>?_) (fun ha=>.some (same _ (fun q=>oF ha q.2.1))))
     refine Aa.gd (Ka (by omega) (by omega)) (Aa.ite (fun hb=>?_) (fun hb=>.some (same _ (fun q=>oF hb q.2.2))))
     exact Aa.gd (Ka (by omega) (by omega)) (main _ (by simpa using hu) (oT ha) (oT hb))
    ·refine Aa.out (Aa.no rfl (Aa.gd rfl (Aa.gd rfl (Aa.gd (Ka (by omega) (by omega)) (Aa.gd (Ka (by omega) (by omega)) ?_)))))
     refine Aa.ite (fun hu=>?_) (fun hu=>.some (same _ (fun q=>q.1 (by simpa using hu))))
     refine Aa.gd (Ka (by omega) (by omega)) (Aa.ite (fun ha=>?_) (fun ha=>.some (same _ (fun q=>oF ha q.2.1))))
     refine Aa.gd (Ka (by omega) (by omega)) (Aa.ite (fun hb=>?_) (fun hb=>.some (same _ (fun q=>oF hb q.2.2))))
     exact Aa.gd (Ka (by omega) (by omega)) (main _ (by simpa using hu) (oT ha) (oT hb))
  have h1:kind≠1:=fun e=>h12 (.inl e)
  have h2:kind≠2:=fun e=>h12 (.inr e)
  refine Aa.out (Aa.no (dF h1) (Aa.no (dF h2) ?_))
  by_cases h6:kind=6
  ·subst h6
   rw [T4]
   cases hin:Ad a 0 ((w.up.length:Int)-1) with
   |false =>
    have hc:=Wr hin
    rw [if_neg (by omega)]
    exact Aa.no rfl (Aa.no rfl (Aa.no rfl (Aa.gd rfl (Aa.no rfl (.some rfl)))))
   |true =>
    have hc:=WB hin
    obtain ⟨k,rfl⟩:=Int.eq_ofNat_of_zero_le hc.1
    have hk:k<w.ls.length:=by omega
    have ho:=h.g.ok (Ej hk)
    unfold Lg at ho
    rw [if_pos ⟨by omega,by omega⟩,Xa]
    have va:=h.ok (lk w.ls k).a.toNat (by omega)
    have vb:=h.ok (lk w.ls k).b.toNat (by omega)
    have vm:=JO va (Nn.1 vb).1
    have la:=va.len
    have lb:=vb.len
    have b25:Td (w.n,w.ls,w.up,w.sq,w.db,(lk w.ls k).a,(lk w.ls k).b,(lk w.ls k).c,Zc (Eb w.db (lk w.ls k).a.toNat) (Eb w.db (lk w.ls k).b.toNat),w.net,())=some (.inl (wt (Rn w (lk w.ls k).a.toNat (lk w.ls k).b.toNat))):=by
      unfold Td
      dsimp only
      refine Aa.out (Pb (QO _ vm.sm) (Aa.gd (Ka (by omega) (by omega)) (Aa.gd (Ka (by omega) (by rw [List.length_set];omega)) (.some rfl))))
    unfold Fp
    simp only [Xa,Mg,Rt,Jp]
    refine Aa.no rfl (Aa.no rfl (Aa.no rfl (Aa.gd rfl (Aa.gd rfl (Aa.gd (Ka (by omega) (by omega)) (Aa.gd (Ka (by omega) (by omega)) (Aa.ite (fun hc=>?_) (fun hc=>.some ?_))))))))
    ·rw [if_pos hc]
     refine Aa.gd (Ka (by omega) (by omega)) (Aa.gd (Ka (by omega) (by omega)) (Pb (lZ _ _ va.so va.sm vb.sm (by omega) (by omega)) ?_))
     exact Pb b25 (.some rfl)
    ·rw [if_neg (by rw [hc];simp)];rfl
  by_cases h345:kind=3∨kind=4∨kind=5
  case neg =>
    have h3:kind≠3:=fun e=>h345 (.inl e)
    have h4:kind≠4:=fun e=>h345 (.inr (.inl e))
    have h5:kind≠5:=fun e=>h345 (.inr (.inr e))
    refine Aa.no (dF h3) (Aa.no (dF h4) (Aa.no (dF h5) (Aa.no (dF h6) (.some ?_))))
    rw [U4 h1 h2 h3 h4 h5 h6];rfl
  cases hin:Ad a 0 ((w.net.length:Int)-1) with
  |false =>
   have hc:=Wr hin
   rcases h345 with rfl|rfl|rfl
   ·rw [JH,if_neg (by omega)]
    exact Aa.gd rfl (Aa.no rfl (Aa.no rfl (Aa.no rfl (Aa.no rfl (.some rfl)))))
   ·rw [KH,if_neg (by omega)]
    exact Aa.no rfl (Aa.gd rfl (Aa.no rfl (Aa.no rfl (Aa.no rfl (.some rfl)))))
   ·rw [LH,if_neg (by omega)]
    exact Aa.no rfl (Aa.no rfl (Aa.gd rfl (Aa.no rfl (Aa.no rfl (.some rfl)))))
  |true =>
   have hc:=WB hin
   obtain ⟨k,rfl⟩:=Int.eq_ofNat_of_zero_le hc.1
   have hkn:k<w.net.length:=by omega
   have hm:Ec w.net k∈w.net:=Pt hkn
   have hP:=h.poss _ (.inr ⟨_,hm,rfl⟩)
   have ht:=h.tgt _ hm
   have hV:=hP.1
   have w1:wrap64 ((k:Int)+1)=((k:Int)+1):=Ya (by omega) (by omega)
   rcases h345 with rfl|rfl|rfl
   ·rw [JH,if_pos ⟨by omega,by omega⟩,Xa]
    obtain ⟨t,ht'⟩:=Int.eq_ofNat_of_zero_le ht.1
    have hd:=h.ok t (by omega)
    have hdl:=hd.len
    have b11:Ip (w.n,w.ls,w.up,w.sq,w.db,3,(k:Int),(t:Int),(Ec w.net k).p.o,(Ec w.net k).p.s,(Ec w.net k).p.e,w.net,())=some (.inl (w.n,w.ls,w.up,w.sq,w.db,(t:Int),(Ec w.net k).p.o,(Ec w.net k).p.s,(Ec w.net k).p.e,w.net.eraseIdx k,())):=by
      unfold Ip
      simp only [w1]
      exact Aa.out (Pb (Z4 w.net k hkn hnet) (.some rfl))
    clear w1
    simp only [Xa,FH]
    refine Aa.gd rfl (Aa.gd rfl (Aa.gd (Ka (by omega) (by omega)) ?_))
    rw [ht',Xa]
    refine Pb b11 ?_
    simp only [Xa,Jp]
    refine Aa.gd (Ka (by omega) (by omega)) (Pb (RO (Eb w.db t) (Ec w.net k).p hd.so hd.sm hV.sm (by omega)) ?_)
    dsimp only
    refine Aa.gd (Ka (by omega) (by omega)) ?_
    unfold Ep
    dsimp only
    refine Aa.ite (fun hp=>?_) (fun hp=>.some ?_)
    ·have hp:=oT hp
     rw [if_pos hp]
     exact Pb (O4 { w with db:=w.db.set t (Uc (Eb w.db t) (Ec w.net k).p),net:=w.net.eraseIdx k } (t:Int) (Ec w.net k).p.o (Ec w.net k).p h.g h.up (by show (w.net.eraseIdx k).length≤16;rw [List.length_eraseIdx];split<;>omega) hV.sm) (.some rfl)
    ·have hp:=oF hp
     rw [if_neg hp]
     have:Uc (Eb w.db t) (Ec w.net k).p=Eb w.db t:=by unfold Uc;rw [if_neg hp]
     rw [this]
     have e:w.db.set t (Eb w.db t)=w.db:=mW (by omega)
     rw [e];rfl
   ·rw [KH,if_pos ⟨by omega,by omega⟩,Xa]
    have b17:Ik (w.n,w.ls,w.up,w.sq,w.db,4,(k:Int),w.net,())=some (.inl (wt { w with net:=w.net.eraseIdx k })):=by
      unfold Ik
      simp only [w1]
      exact Aa.out (Pb (Z4 w.net k hkn hnet) (.some rfl))
    exact Aa.no rfl (Aa.gd rfl (Aa.gd rfl (Pb b17 (.some rfl))))
   ·rw [LH,if_pos ⟨by omega,by omega⟩,Xa]
    refine Aa.no rfl (Aa.no rfl (Aa.gd rfl (Aa.gd rfl (Aa.ite (fun hf=>?_) (fun hf=>.some ?_)))))
    ·have hf:=oT hf
     rw [if_pos (by omega)]
     have b20:Pg (w.n,w.ls,w.up,w.sq,w.db,5,(k:Int),w.net,())=some (.inl (wt { w with net:=w.net++[Ec w.net k] })):=by
       unfold Pg
       simp only [Xa,FH,VG _ _ _ hV.sm,Option.bind_some]
       exact Aa.out (Aa.gd (Ka (by omega) (by omega)) (Aa.gd (Ka (by omega) (by omega)) (Aa.gd (decide_eq_true (by simp only [List.length_singleton];omega)) (.some rfl))))
     exact Pb b20 (.some rfl)
    ·have hf:=oF hf
     rw [if_neg (by omega)];rfl
end
end
section
open Go.RowKit
noncomputable def poss (w:Wd) (l:Ls):Bool:=@decide (WO w Pf l) (Classical.propDecidable _)
section
variable {w:Wd}
end
end
section
open Go.RowKit
def MH (w:Wd):List Ls:=w.db.flatten++w.net.map (·.p)
theorem nL {db:List (List Ls)} {i:Nat} (h:i<db.length):Eb db i∈db:=by
  unfold Eb;rw [List.getD,List.getElem?_eq_getElem h];exact List.getElem_mem h
theorem A5 {w:Wd} {l:Ls}:Zg w l↔l∈MH w:=by
  unfold Zg MH
  rw [List.mem_append,List.mem_flatten,List.mem_map]
  constructor
  ·rintro (⟨i,hi,h⟩|⟨p,hp,rfl⟩)
   ·exact .inl ⟨_,nL hi,h⟩
   ·exact .inr ⟨p,hp,rfl⟩
  ·rintro (⟨d,hd,h⟩|⟨p,hp,rfl⟩)
   ·obtain ⟨i,hi,rfl⟩:=List.getElem_of_mem hd
    refine .inl ⟨i,hi,?_⟩
    unfold Eb;rw [List.getD,List.getElem?_eq_getElem hi];exact h
   ·exact .inr ⟨p,hp,rfl⟩
def IP (w:Wd) (i:Nat):Prop:=(1≤iz w.sq i∧iz w.sq i≤99)∧Je (Eb w.db i)
def nM (xs:List Ls) (i:Nat):Prop:=∀j,j<i→(Mb xs j).o=(Mb xs i).o→(Mb xs j).s=(Mb xs i).s→Mb xs j=Mb xs i
section
variable {w:Wd}
theorem WV.ag (h:WV w Pf) {i:Nat} (hi:i<(MH w).length):nM (MH w) i:=fun j hj e1 e2=>h.agr _ _ (A5.2 (Fk (by omega))) (A5.2 (Fk hi)) e1 e2
theorem IP.sm {i:Nat} (h:IP w i):(Eb w.db i).length≤8:=h.2.len
end
end
section
open Go.RowKit
section
variable {w:Wd}
structure wC (w:Wd):Prop where
  g:GV w.n w.ls
  up:w.up.length=w.ls.length
  sq:(w.sq.length:Int)=w.n
  db:(w.db.length:Int)=w.n
  net:w.net.length≤16
  nd:∀i,i<w.db.length→IP w i
end
end
section
open Go.RowKit
def FD (db:List Ls):Prop:=Fb db∧∀l∈db,Fb l.e
theorem nN (xs:List Bool) (h:Fb xs):TF (xs,xs,())=some (true,()):=by
  unfold TF
  unfold Fb at h
  simp only [Oa]
  refine Aa.out (Aa.no (by simp) (sv (Hn xs h (fun k x hx=>?_) ?_) (.some rfl)))
  ·have hk:=Nf hx
   simp (disch:=omega) only [Dx,Eg (τ:=.bool) hx,Xa,Ya,Oa,Option.bind_some,decide_true,Bool.not_true,cond_false,beq_self_eq_true]
   exact Aa.out (Aa.gd (decide_eq_true (by omega)) (Aa.gd (Ka (by omega) (by omega)) (Aa.gd (Ka (by omega) (by omega)) (.some rfl))))
  ·simp only [Dx,Oa]
   exact Aa.out (Aa.no (dF (by omega)) (.some rfl))
theorem B5 (o s:Int) (es:List En) (h:Fb es):Ex (o,s,es,o,s,es,())=some (true,()):=by
  unfold Ex
  exact Aa.out (Aa.no (by simp) (Aa.no (by simp) (sv (kO es h) (Aa.no rfl (.some rfl)))))
theorem nO (t o s:Int) (es:List En) (h:Fb es):UF (t,o,s,es,t,o,s,es,())=some (true,()):=by
  unfold UF
  exact Aa.out (Aa.no (by simp) (sv (B5 o s es h) (Aa.no rfl (.some rfl))))
theorem nP (xs:List Ls) (h:FD xs):VF (xs,xs,())=some (true,()):=by
  unfold VF
  have h1:=h.1
  unfold Fb at h1
  simp only [Oa]
  refine Aa.out (Aa.no (by simp) (sv (Hn xs h.1 (fun k x hx=>?_) ?_) (.some rfl)))
  ·have hk:=Nf hx
   simp (disch:=omega) only [Fx,Eg (τ:=.ls) hx,Xa,Ya,Oa]
   exact Aa.out (Aa.gd (decide_eq_true (by omega)) (Aa.gd (Ka (by omega) (by omega)) (Aa.gd (Ka (by omega) (by omega)) (sv (B5 _ _ _ (h.2 x (List.mem_of_getElem? hx))) (Aa.no rfl (.some rfl))))))
  ·simp only [Fx,Oa]
   exact Aa.out (Aa.no (dF (by omega)) (.some rfl))
theorem nQ (xs:List (List Ls)) (h:Fb xs) (he:∀d∈xs,FD d):XF (xs,xs,())=some (true,()):=by
  unfold XF
  have h1:=h
  unfold Fb at h1
  simp only [Oa]
  refine Aa.out (Aa.no (by simp) (sv (Hn xs h (fun k x hx=>?_) ?_) (.some rfl)))
  ·have hk:=Nf hx
   simp (disch:=omega) only [Ix,Eg (τ:=.db) hx,Xa,Ya,Oa]
   exact Aa.out (Aa.gd (decide_eq_true (by omega)) (Aa.gd (Ka (by omega) (by omega)) (Aa.gd (Ka (by omega) (by omega)) (sv (nP x (he x (List.mem_of_getElem? hx))) (Aa.no rfl (.some rfl))))))
  ·simp only [Ix,Oa]
   exact Aa.out (Aa.no (dF (by omega)) (.some rfl))
theorem nR (xs:List Pk) (h:Fb xs) (he:∀p∈xs,Fb p.p.e):WF (xs,xs,())=some (true,()):=by
  unfold WF
  have h1:=h
  unfold Fb at h1
  simp only [Oa]
  refine Aa.out (Aa.no (by simp) (sv (Hn xs h (fun k x hx=>?_) ?_) (.some rfl)))
  ·have hk:=Nf hx
   simp (disch:=omega) only [Hx,Eg (τ:=.pk) hx,Xa,Ya,Oa]
   exact Aa.out (Aa.gd (decide_eq_true (by omega)) (Aa.gd (Ka (by omega) (by omega)) (Aa.gd (Ka (by omega) (by omega)) (sv (nO _ _ _ _ (he x (List.mem_of_getElem? hx))) (Aa.no rfl (.some rfl))))))
  ·simp only [Hx,Oa]
   exact Aa.out (Aa.no (dF (by omega)) (.some rfl))
def MD (db:List Ls):Prop:=Og db∧∀l∈db,Og l.e
def D5 (left:Int) (tot:Nat) (P:Prop) (r:Int×Unit):Prop:=r=(-1,())∨∃z,r=(z,())∧0≤z∧z+tot≤left∧P
theorem nS (n:Int) (xs:List Lk) (left:Int) (h:Og xs) (h1:0≤left∧left≤2000000):Aa (NF (n,xs,left,())) (D5 left xs.length (xs.length≤2000000)):=by
  rw [kY n xs left h (by omega)]
  by_cases e:left-(xs.length:Int)<0
  ·rw [if_pos e];exact .some (.inl rfl)
  ·rw [if_neg e];exact .some (.inr ⟨_,rfl,by omega,by omega,by omega⟩)
structure wD (w:Wd):Prop where
  ls:Og w.ls
  up:Og w.up
  sq:Og w.sq
  db:Og w.db
  net:Og w.net
  dbs:∀d∈w.db,MD d
  pks:∀p∈w.net,Og p.p.e
structure JP (w:Wd):Prop where
  ls:Fb w.ls
  up:Fb w.up
  sq:Fb w.sq
  db:Fb w.db
  net:Fb w.net
  dbs:∀d∈w.db,FD d
  pks:∀p∈w.net,Fb p.p.e
structure Ez (w:Wd):Prop where
  ls:w.ls.length≤2000000
  up:w.up.length≤2000000
  sq:w.sq.length≤2000000
  db:w.db.length≤2000000
  net:w.net.length≤2000000
  dbs:∀d∈w.db,d.length≤2000000∧∀l∈d,l.e.length≤2000000
  pks:∀p∈w.net,p.p.e.length≤2000000
theorem Ez.sm {w:Wd} (h:Ez w):GP w:=⟨h.ls,h.up,h.sq,h.db,h.net,fun i hi=>by
    have e:Eb w.db i=w.db[i]:=by simp [Eb,List.getD,hi]
    have:=h.dbs (Eb w.db i) (by rw [e];exact List.getElem_mem hi)
    exact ⟨by unfold Sm;omega,fun l hl=>by have:=this.2 l hl;unfold Sm;omega⟩,fun i hi=>by
    have:=h.pks _ (Pt hi)
    unfold Sm;omega⟩
theorem Ez.fit {w:Wd} (h:Ez w):JP w:=⟨by have:=h.ls;unfold Fb;omega,by have:=h.up;unfold Fb;omega,by have:=h.sq;unfold Fb;omega,by have:=h.db;unfold Fb;omega,by have:=h.net;unfold Fb;omega,fun d hd=>⟨by have:=(h.dbs d hd).1;unfold Fb;omega,fun l hl=>by have:=(h.dbs d hd).2 l hl;unfold Fb;omega⟩,fun p hp=>by have:=h.pks p hp;unfold Fb;omega⟩
theorem nT (w:Wd) (h:JP w):SN (w.n,w.ls,w.up,w.sq,w.db,w.net,w.n,w.ls,w.up,w.sq,w.db,w.net,())=some (true,()):=by
  unfold SN
  exact Aa.out (sv (J3 _ _ h.ls) (Aa.no rfl (sv (nN _ h.up) (Aa.no rfl (sv (kN _ h.sq) (Aa.no rfl (sv (nQ _ h.db h.dbs) (Aa.no rfl (sv (nR _ h.net h.pks) (Aa.no rfl (.some rfl)))))))))))
end
section
open Go.RowKit
abbrev tk (n:Nat):List (Nat×Bool):=(List.range n).map fun i=>(i,true)
abbrev zx:Od:=⟨[999999],⟨[.c (.one (.own 0))],[]⟩,[]⟩
abbrev zc:Tm:=.c (.one (.b (.int .i64)))
abbrev zi:T1:=.b (.int .i64)
def KP:Pa:=⟨⟨[.c (.one (.b (.sl false .lk))),zc],[]⟩,[.ls .lk,.int],⟨[zc],[]⟩,[.int],MF⟩
def LP:La:=Ta tab [] 12 0 [] []
theorem nU:Na Tryz.prog LP.Γ:=Sa (l:=[]) trivial
theorem nV:GC Tryz.prog 60 KP:=Ua (G:=LP) (c:=Tryz.f60.body.getD .skip) Ga Ja nU mixed Tryz.func60 (by kernel_rfl) Tryz.ntmps60 (Ia (G:=LP) (n:=0) (by kernel_rfl) (by kernel_rfl) trivial (by kernel_rfl)) (fun s=>by kernel_rfl)
def nW:Pa:=⟨⟨[.c (.agg [zi,(.b (.sl false .lk))]),zc],[]⟩,[.int,.ls .lk,.int],⟨[zc],[]⟩,[.int],NF⟩
def MP:La:=Ta tab [(60,[],KP)] 12 0 [] []
theorem nX:Na Tryz.prog MP.Γ:=Sa (l:=[(60,[],KP)]) ⟨⟨nV,Tryz.call60⟩,trivial⟩
theorem nY:GC Tryz.prog 19 nW:=Ua (G:=MP) (c:=Tryz.f19.body.getD .skip) Ga Ja nX mixed Tryz.func19 (by kernel_rfl) Tryz.ntmps19 (Ia (G:=MP) (n:=0) (by kernel_rfl) (by kernel_rfl) trivial (by kernel_rfl)) (fun s=>by kernel_rfl)
def NP:Pa:=⟨⟨[.c (.agg [zi,zi,zi])],[]⟩,[.int,.int,.int],⟨[.c (.agg [zi,zi,zi])],[]⟩,[.int,.int,.int],KN⟩
def OP:La:=Ta tab [] 14 0 [] []
theorem nZ:Na Tryz.prog OP.Γ:=Sa (l:=[]) trivial
theorem oA:GC Tryz.prog 108 NP:=Ua (G:=OP) (c:=Tryz.f108.body.getD .skip) Ga Ja nZ mixed Tryz.func108 (by kernel_rfl) Tryz.ntmps108 (Ia (G:=OP) (n:=0) (by kernel_rfl) (by kernel_rfl) trivial (by kernel_rfl)) (fun s=>by kernel_rfl)
def PP:Pa:=⟨⟨[.c (.agg [zi,zi,zi]),.c (.agg [zi,zi,zi])],[]⟩,[.int,.int,.int,.int,.int,.int],⟨[.c (.one (.b .bool))],[]⟩,[.bool],LN⟩
def QP:La:=Ta tab [] 20 0 [] []
theorem oB:Na Tryz.prog QP.Γ:=Sa (l:=[]) trivial
theorem oC:GC Tryz.prog 94 PP:=Ua (G:=QP) (c:=Tryz.f94.body.getD .skip) Ga Ja oB mixed Tryz.func94 (by kernel_rfl) Tryz.ntmps94 (Ia (G:=QP) (n:=0) (by kernel_rfl) (by kernel_rfl) trivial (by kernel_rfl)) (fun s=>by kernel_rfl)
def Kp:Cb:=⟨⟨[0,3,4],⟨[.c (.one (.b (.sl false .lk))),.c (.one (.own 0)),zc],[.row 114 .lk]⟩,[.ls .lk,.int,.ls .lk]⟩,0,⟨[3],⟨[.c (.one (.own 0))],[.row 114 .lk]⟩,[.ls .lk]⟩,zx,lp Yw Fa⟩
def RP:Pa:=⟨⟨[.c (.one (.b (.sl false .lk)))],[]⟩,[.ls .lk],⟨[.c (.one (.own 0))],[.row 114 .lk]⟩,[.ls .lk],OF⟩
def Fz:La:=Ta tab [(108,[],NP)] 23 0 [] [(3,Kp)]
theorem E5:Na Tryz.prog Fz.Γ:=Sa (l:=[(108,[],NP)]) ⟨⟨oA,Tryz.call108⟩,trivial⟩
theorem oD:Kb Tryz.prog 0 23 (Gb (Tryz.f64.body.getD .skip) 0) Kp:=Qb (G:=Fz) (F:=Kp.F) (eid:=Kp.eid) (FX:=Kp.FX) (FR:=Kp.FR) (B:=Yw) (n:=Fa) Ga Ja E5 mixed (Ia (G:=Fz) (n:=0) (by kernel_rfl) (by kernel_rfl) trivial (by kernel_rfl)) (fun s=>by kernel_rfl)
theorem oE:GC Tryz.prog 64 RP:=Ua (G:=Fz) (c:=Tryz.f64.body.getD .skip) Ga Ja E5 mixed Tryz.func64 (by kernel_rfl) Tryz.ntmps64 (Ia (G:=Fz) (n:=1) (by kernel_rfl) (by kernel_rfl) ⟨trivial,Rb (id:=3) (L0:=Kp) (by kernel_rfl) (by kernel_rfl) oD⟩ (by kernel_rfl)) (fun s=>by kernel_rfl)
def Lp:Cb:=⟨⟨[0,1,5],⟨[.c (.one (.b (.sl false .int))),.c (.one (.b (.sl false .int))),zc],[]⟩,[.ls .int,.ls .int,.int]⟩,0,⟨[],⟨[],[]⟩,[]⟩,⟨[4],⟨[.c (.one (.b .bool))],[]⟩,[.bool]⟩,lp Zw Fa⟩
def SP:Pa:=⟨⟨[.c (.one (.b (.sl false .int))),.c (.one (.b (.sl false .int)))],[]⟩,[.ls .int,.ls .int],⟨[.c (.one (.b .bool))],[]⟩,[.bool],PF⟩
def Gz:La:=Ta tab [] 26 0 [(6,8,tk 8,[])] [(4,Lp)]
theorem F5:Na Tryz.prog Gz.Γ:=Sa (l:=[]) trivial
theorem oG:Kb Tryz.prog 0 26 (Gb (Tryz.f47.body.getD .skip) 0) Lp:=Qb (G:=Gz) (F:=Lp.F) (eid:=Lp.eid) (FX:=Lp.FX) (FR:=Lp.FR) (B:=Zw) (n:=Fa) Ga Ja F5 mixed (Ia (G:=Gz) (n:=0) (by kernel_rfl) (by kernel_rfl) trivial (by kernel_rfl)) (fun s=>by kernel_rfl)
theorem oH:GC Tryz.prog 47 SP:=Ua (G:=Gz) (c:=Tryz.f47.body.getD .skip) Ga Ja F5 mixed Tryz.func47 (by kernel_rfl) Tryz.ntmps47 (Ia (G:=Gz) (n:=1) (by kernel_rfl) (by kernel_rfl) ⟨trivial,Rb (id:=4) (L0:=Lp) (by kernel_rfl) (by kernel_rfl) oG⟩ (by kernel_rfl)) (fun s=>by kernel_rfl)
def oI:Pa:=⟨⟨[.c (.agg [zi,(.b (.sl false .lk))])],[]⟩,[.int,.ls .lk],⟨[.c (.agg [zi,(.own 0)])],[.row 114 .lk]⟩,[.int,.ls .lk],MN⟩
def TP:La:=Ta tab [(64,[],RP)] 12 0 [] []
theorem oJ:Na Tryz.prog TP.Γ:=Sa (l:=[(64,[],RP)]) ⟨⟨oE,Tryz.call64⟩,trivial⟩
theorem oK:GC Tryz.prog 22 oI:=Ua (G:=TP) (c:=Tryz.f22.body.getD .skip) Ga Ja oJ mixed Tryz.func22 (by kernel_rfl) Tryz.ntmps22 (Ia (G:=TP) (n:=0) (by kernel_rfl) (by kernel_rfl) trivial (by kernel_rfl)) (fun s=>by kernel_rfl)
def Mp:Cb:=⟨⟨[0,1,5],⟨[.c (.one (.b (.sl false .lk))),.c (.one (.b (.sl false .lk))),zc],[]⟩,[.ls .lk,.ls .lk,.int]⟩,0,⟨[],⟨[],[]⟩,[]⟩,⟨[4],⟨[.c (.one (.b .bool))],[]⟩,[.bool]⟩,lp Bx Fa⟩
def UP:Pa:=⟨⟨[.c (.one (.b (.sl false .lk))),.c (.one (.b (.sl false .lk)))],[]⟩,[.ls .lk,.ls .lk],⟨[.c (.one (.b .bool))],[]⟩,[.bool],QF⟩
def Hz:La:=Ta tab [(94,[],PP)] 27 0 [(6,8,tk 8,[])] [(4,Mp)]
theorem G5:Na Tryz.prog Hz.Γ:=Sa (l:=[(94,[],PP)]) ⟨⟨oC,Tryz.call94⟩,trivial⟩
theorem oL:Kb Tryz.prog 0 27 (Gb (Tryz.f45.body.getD .skip) 0) Mp:=Qb (G:=Hz) (F:=Mp.F) (eid:=Mp.eid) (FX:=Mp.FX) (FR:=Mp.FR) (B:=Bx) (n:=Fa) Ga Ja G5 mixed (Ia (G:=Hz) (n:=0) (by kernel_rfl) (by kernel_rfl) trivial (by kernel_rfl)) (fun s=>by kernel_rfl)
theorem oM:GC Tryz.prog 45 UP:=Ua (G:=Hz) (c:=Tryz.f45.body.getD .skip) Ga Ja G5 mixed Tryz.func45 (by kernel_rfl) Tryz.ntmps45 (Ia (G:=Hz) (n:=1) (by kernel_rfl) (by kernel_rfl) ⟨trivial,Rb (id:=4) (L0:=Mp) (by kernel_rfl) (by kernel_rfl) oL⟩ (by kernel_rfl)) (fun s=>by kernel_rfl)
def VP:Pa:=⟨⟨[.c (.agg [zi,zi]),.c (.agg [zi,zi])],[]⟩,[.int,.int,.int,.int],⟨[.c (.one (.b .bool))],[]⟩,[.bool],NN⟩
def WP:La:=Ta tab [] 15 0 [] []
theorem oN:Na Tryz.prog WP.Γ:=Sa (l:=[]) trivial
theorem oO:GC Tryz.prog 162 VP:=Ua (G:=WP) (c:=Tryz.f162.body.getD .skip) Ga Ja oN mixed Tryz.func162 (by kernel_rfl) Tryz.ntmps162 (Ia (G:=WP) (n:=0) (by kernel_rfl) (by kernel_rfl) trivial (by kernel_rfl)) (fun s=>by kernel_rfl)
def XP:Pa:=⟨⟨[.c (.agg [zi,(.b (.sl false .lk))]),.c (.agg [zi,(.b (.sl false .lk))])],[]⟩,[.int,.ls .lk,.int,.ls .lk],⟨[.c (.one (.b .bool))],[]⟩,[.bool],RF⟩
def YP:La:=Ta tab [(45,[],UP)] 16 0 [] []
theorem oP:Na Tryz.prog YP.Γ:=Sa (l:=[(45,[],UP)]) ⟨⟨oM,Tryz.call45⟩,trivial⟩
theorem I5:GC Tryz.prog 12 XP:=Ua (G:=YP) (c:=Tryz.f12.body.getD .skip) Ga Ja oP mixed Tryz.func12 (by kernel_rfl) Tryz.ntmps12 (Ia (G:=YP) (n:=0) (by kernel_rfl) (by kernel_rfl) trivial (by kernel_rfl)) (fun s=>by kernel_rfl)
def Np:Cb:=⟨⟨[0,1,5],⟨[.c (.one (.b (.sl false .en))),.c (.one (.b (.sl false .en))),zc],[]⟩,[.ls .en,.ls .en,.int]⟩,0,⟨[],⟨[],[]⟩,[]⟩,⟨[4],⟨[.c (.one (.b .bool))],[]⟩,[.bool]⟩,lp Cx Fa⟩
def ZP:Pa:=⟨⟨[.c (.one (.b (.sl false .en))),.c (.one (.b (.sl false .en)))],[]⟩,[.ls .en,.ls .en],⟨[.c (.one (.b .bool))],[]⟩,[.bool],SF⟩
def Iz:La:=Ta tab [(162,[],VP)] 27 0 [(6,8,tk 8,[])] [(4,Np)]
theorem J5:Na Tryz.prog Iz.Γ:=Sa (l:=[(162,[],VP)]) ⟨⟨oO,Tryz.call162⟩,trivial⟩
theorem oQ:Kb Tryz.prog 0 27 (Gb (Tryz.f153.body.getD .skip) 0) Np:=Qb (G:=Iz) (F:=Np.F) (eid:=Np.eid) (FX:=Np.FX) (FR:=Np.FR) (B:=Cx) (n:=Fa) Ga Ja J5 mixed (Ia (G:=Iz) (n:=0) (by kernel_rfl) (by kernel_rfl) trivial (by kernel_rfl)) (fun s=>by kernel_rfl)
theorem oR:GC Tryz.prog 153 ZP:=Ua (G:=Iz) (c:=Tryz.f153.body.getD .skip) Ga Ja J5 mixed Tryz.func153 (by kernel_rfl) Tryz.ntmps153 (Ia (G:=Iz) (n:=1) (by kernel_rfl) (by kernel_rfl) ⟨trivial,Rb (id:=4) (L0:=Np) (by kernel_rfl) (by kernel_rfl) oQ⟩ (by kernel_rfl)) (fun s=>by kernel_rfl)
def Pp:Cb:=⟨⟨[0,1,5],⟨[.c (.one (.b (.sl false .bool))),.c (.one (.b (.sl false .bool))),zc],[]⟩,[.ls .bool,.ls .bool,.int]⟩,0,⟨[],⟨[],[]⟩,[]⟩,⟨[4],⟨[.c (.one (.b .bool))],[]⟩,[.bool]⟩,lp Dx Fa⟩
def BQ:Pa:=⟨⟨[.c (.one (.b (.sl false .bool))),.c (.one (.b (.sl false .bool)))],[]⟩,[.ls .bool,.ls .bool],⟨[.c (.one (.b .bool))],[]⟩,[.bool],TF⟩
def Jz:La:=Ta tab [] 26 0 [(6,8,tk 8,[])] [(4,Pp)]
theorem K5:Na Tryz.prog Jz.Γ:=Sa (l:=[]) trivial
theorem oS:Kb Tryz.prog 0 26 (Gb (Tryz.f46.body.getD .skip) 0) Pp:=Qb (G:=Jz) (F:=Pp.F) (eid:=Pp.eid) (FX:=Pp.FX) (FR:=Pp.FR) (B:=Dx) (n:=Fa) Ga Ja K5 mixed (Ia (G:=Jz) (n:=0) (by kernel_rfl) (by kernel_rfl) trivial (by kernel_rfl)) (fun s=>by kernel_rfl)
theorem oU:GC Tryz.prog 46 BQ:=Ua (G:=Jz) (c:=Tryz.f46.body.getD .skip) Ga Ja K5 mixed Tryz.func46 (by kernel_rfl) Tryz.ntmps46 (Ia (G:=Jz) (n:=1) (by kernel_rfl) (by kernel_rfl) ⟨trivial,Rb (id:=4) (L0:=Pp) (by kernel_rfl) (by kernel_rfl) oS⟩ (by kernel_rfl)) (fun s=>by kernel_rfl)
def CQ:Pa:=⟨⟨[.c (.agg [zi,zi])],[]⟩,[.int,.int],⟨[.c (.agg [zi,zi])],[]⟩,[.int,.int],ON⟩
def DQ:La:=Ta tab [] 11 0 [] []
theorem oV:Na Tryz.prog DQ.Γ:=Sa (l:=[]) trivial
theorem oW:GC Tryz.prog 31 CQ:=Ua (G:=DQ) (c:=Tryz.f31.body.getD .skip) Ga Ja oV mixed Tryz.func31 (by kernel_rfl) Tryz.ntmps31 (Ia (G:=DQ) (n:=0) (by kernel_rfl) (by kernel_rfl) trivial (by kernel_rfl)) (fun s=>by kernel_rfl)
def Kz:Pa:=⟨⟨[.c (.agg [zi,zi,(.b (.sl false .en))]),.c (.agg [zi,zi,(.b (.sl false .en))])],[]⟩,[.int,.int,.ls .en,.int,.int,.ls .en],⟨[.c (.one (.b .bool))],[]⟩,[.bool],Ex⟩
def EQ:La:=Ta tab [(153,[],ZP)] 21 0 [] []
theorem oX:Na Tryz.prog EQ.Γ:=Sa (l:=[(153,[],ZP)]) ⟨⟨oR,Tryz.call153⟩,trivial⟩
theorem L5:GC Tryz.prog 139 Kz:=Ua (G:=EQ) (c:=Tryz.f139.body.getD .skip) Ga Ja oX mixed Tryz.func139 (by kernel_rfl) Tryz.ntmps139 (Ia (G:=EQ) (n:=0) (by kernel_rfl) (by kernel_rfl) trivial (by kernel_rfl)) (fun s=>by kernel_rfl)
def FQ:Pa:=⟨⟨[.c (.agg [zi,zi,zi,(.b (.sl false .en))]),.c (.agg [zi,zi,zi,(.b (.sl false .en))])],[]⟩,[.int,.int,.int,.ls .en,.int,.int,.int,.ls .en],⟨[.c (.one (.b .bool))],[]⟩,[.bool],UF⟩
def GQ:La:=Ta tab [(139,[],Kz)] 16 0 [] []
theorem oY:Na Tryz.prog GQ.Γ:=Sa (l:=[(139,[],Kz)]) ⟨⟨L5,Tryz.call139⟩,trivial⟩
theorem oZ:GC Tryz.prog 96 FQ:=Ua (G:=GQ) (c:=Tryz.f96.body.getD .skip) Ga Ja oY mixed Tryz.func96 (by kernel_rfl) Tryz.ntmps96 (Ia (G:=GQ) (n:=0) (by kernel_rfl) (by kernel_rfl) trivial (by kernel_rfl)) (fun s=>by kernel_rfl)
def Qp:Cb:=⟨⟨[0,1,5],⟨[.c (.one (.b (.sl false .ls))),.c (.one (.b (.sl false .ls))),zc],[]⟩,[.ls .ls,.ls .ls,.int]⟩,0,⟨[],⟨[],[]⟩,[]⟩,⟨[4],⟨[.c (.one (.b .bool))],[]⟩,[.bool]⟩,lp Fx Fa⟩
def HQ:Pa:=⟨⟨[.c (.one (.b (.sl false .ls))),.c (.one (.b (.sl false .ls)))],[]⟩,[.ls .ls,.ls .ls],⟨[.c (.one (.b .bool))],[]⟩,[.bool],VF⟩
def Lz:La:=Ta tab [(139,[],Kz)] 27 0 [(6,8,tk 8,[])] [(4,Qp)]
theorem M5:Na Tryz.prog Lz.Γ:=Sa (l:=[(139,[],Kz)]) ⟨⟨L5,Tryz.call139⟩,trivial⟩
theorem pA:Kb Tryz.prog 0 27 (Gb (Tryz.f95.body.getD .skip) 0) Qp:=Qb (G:=Lz) (F:=Qp.F) (eid:=Qp.eid) (FX:=Qp.FX) (FR:=Qp.FR) (B:=Fx) (n:=Fa) Ga Ja M5 mixed (Ia (G:=Lz) (n:=0) (by kernel_rfl) (by kernel_rfl) trivial (by kernel_rfl)) (fun s=>by kernel_rfl)
theorem pB:GC Tryz.prog 95 HQ:=Ua (G:=Lz) (c:=Tryz.f95.body.getD .skip) Ga Ja M5 mixed Tryz.func95 (by kernel_rfl) Tryz.ntmps95 (Ia (G:=Lz) (n:=1) (by kernel_rfl) (by kernel_rfl) ⟨trivial,Rb (id:=4) (L0:=Qp) (by kernel_rfl) (by kernel_rfl) pA⟩ (by kernel_rfl)) (fun s=>by kernel_rfl)
def pC:Pa:=⟨⟨[.c (.one (.b (.sl false .ev))),zc],[]⟩,[.ls .ev,.int],⟨[zc],[]⟩,[.int],PN⟩
def IQ:La:=Ta tab [] 12 0 [] []
theorem pD:Na Tryz.prog IQ.Γ:=Sa (l:=[]) trivial
theorem pE:GC Tryz.prog 20 pC:=Ua (G:=IQ) (c:=Tryz.f20.body.getD .skip) Ga Ja pD mixed Tryz.func20 (by kernel_rfl) Tryz.ntmps20 (Ia (G:=IQ) (n:=0) (by kernel_rfl) (by kernel_rfl) trivial (by kernel_rfl)) (fun s=>by kernel_rfl)
def Rp:Cb:=⟨⟨[0,3,4],⟨[.c (.one (.b (.sl false .ev))),.c (.one (.own 0)),zc],[.row 63 .ev]⟩,[.ls .ev,.int,.ls .ev]⟩,0,⟨[3],⟨[.c (.one (.own 0))],[.row 63 .ev]⟩,[.ls .ev]⟩,zx,lp Gx Fa⟩
def pF:Pa:=⟨⟨[.c (.one (.b (.sl false .ev)))],[]⟩,[.ls .ev],⟨[.c (.one (.own 0))],[.row 63 .ev]⟩,[.ls .ev],QN⟩
def Mz:La:=Ta tab [(31,[],CQ)] 23 0 [] [(3,Rp)]
theorem N5:Na Tryz.prog Mz.Γ:=Sa (l:=[(31,[],CQ)]) ⟨⟨oW,Tryz.call31⟩,trivial⟩
theorem pG:Kb Tryz.prog 0 23 (Gb (Tryz.f23.body.getD .skip) 0) Rp:=Qb (G:=Mz) (F:=Rp.F) (eid:=Rp.eid) (FX:=Rp.FX) (FR:=Rp.FR) (B:=Gx) (n:=Fa) Ga Ja N5 mixed (Ia (G:=Mz) (n:=0) (by kernel_rfl) (by kernel_rfl) trivial (by kernel_rfl)) (fun s=>by kernel_rfl)
theorem pH:GC Tryz.prog 23 pF:=Ua (G:=Mz) (c:=Tryz.f23.body.getD .skip) Ga Ja N5 mixed Tryz.func23 (by kernel_rfl) Tryz.ntmps23 (Ia (G:=Mz) (n:=1) (by kernel_rfl) (by kernel_rfl) ⟨trivial,Rb (id:=3) (L0:=Rp) (by kernel_rfl) (by kernel_rfl) pG⟩ (by kernel_rfl)) (fun s=>by kernel_rfl)
def Sp:Cb:=⟨⟨[0,1,5],⟨[.c (.one (.b (.sl false .pk))),.c (.one (.b (.sl false .pk))),zc],[]⟩,[.ls .pk,.ls .pk,.int]⟩,0,⟨[],⟨[],[]⟩,[]⟩,⟨[4],⟨[.c (.one (.b .bool))],[]⟩,[.bool]⟩,lp Hx Fa⟩
def JQ:Pa:=⟨⟨[.c (.one (.b (.sl false .pk))),.c (.one (.b (.sl false .pk)))],[]⟩,[.ls .pk,.ls .pk],⟨[.c (.one (.b .bool))],[]⟩,[.bool],WF⟩
def Nz:La:=Ta tab [(96,[],FQ)] 27 0 [(6,8,tk 8,[])] [(4,Sp)]
theorem O5:Na Tryz.prog Nz.Γ:=Sa (l:=[(96,[],FQ)]) ⟨⟨oZ,Tryz.call96⟩,trivial⟩
theorem pI:Kb Tryz.prog 0 27 (Gb (Tryz.f49.body.getD .skip) 0) Sp:=Qb (G:=Nz) (F:=Sp.F) (eid:=Sp.eid) (FX:=Sp.FX) (FR:=Sp.FR) (B:=Hx) (n:=Fa) Ga Ja O5 mixed (Ia (G:=Nz) (n:=0) (by kernel_rfl) (by kernel_rfl) trivial (by kernel_rfl)) (fun s=>by kernel_rfl)
theorem pJ:GC Tryz.prog 49 JQ:=Ua (G:=Nz) (c:=Tryz.f49.body.getD .skip) Ga Ja O5 mixed Tryz.func49 (by kernel_rfl) Tryz.ntmps49 (Ia (G:=Nz) (n:=1) (by kernel_rfl) (by kernel_rfl) ⟨trivial,Rb (id:=4) (L0:=Sp) (by kernel_rfl) (by kernel_rfl) pI⟩ (by kernel_rfl)) (fun s=>by kernel_rfl)
def Tp:Cb:=⟨⟨[0,1,5],⟨[.c (.one (.b (.sl false .db))),.c (.one (.b (.sl false .db))),zc],[]⟩,[.ls .db,.ls .db,.int]⟩,0,⟨[],⟨[],[]⟩,[]⟩,⟨[4],⟨[.c (.one (.b .bool))],[]⟩,[.bool]⟩,lp Ix Fa⟩
def KQ:Pa:=⟨⟨[.c (.one (.b (.sl false .db))),.c (.one (.b (.sl false .db)))],[]⟩,[.ls .db,.ls .db],⟨[.c (.one (.b .bool))],[]⟩,[.bool],XF⟩
def Oz:La:=Ta tab [(95,[],HQ)] 27 0 [(6,8,tk 8,[])] [(4,Tp)]
theorem P5:Na Tryz.prog Oz.Γ:=Sa (l:=[(95,[],HQ)]) ⟨⟨pB,Tryz.call95⟩,trivial⟩
theorem pK:Kb Tryz.prog 0 27 (Gb (Tryz.f48.body.getD .skip) 0) Tp:=Qb (G:=Oz) (F:=Tp.F) (eid:=Tp.eid) (FX:=Tp.FX) (FR:=Tp.FR) (B:=Ix) (n:=Fa) Ga Ja P5 mixed (Ia (G:=Oz) (n:=0) (by kernel_rfl) (by kernel_rfl) trivial (by kernel_rfl)) (fun s=>by kernel_rfl)
theorem pL:GC Tryz.prog 48 KQ:=Ua (G:=Oz) (c:=Tryz.f48.body.getD .skip) Ga Ja P5 mixed Tryz.func48 (by kernel_rfl) Tryz.ntmps48 (Ia (G:=Oz) (n:=1) (by kernel_rfl) (by kernel_rfl) ⟨trivial,Rb (id:=4) (L0:=Tp) (by kernel_rfl) (by kernel_rfl) pK⟩ (by kernel_rfl)) (fun s=>by kernel_rfl)
def LQ:Pa:=⟨⟨[.c (.agg [zi,zi]),.c (.agg [zi,zi])],[]⟩,[.int,.int,.int,.int],⟨[.c (.one (.b .bool))],[]⟩,[.bool],RN⟩
def MQ:La:=Ta tab [] 15 0 [] []
theorem pM:Na Tryz.prog MQ.Γ:=Sa (l:=[]) trivial
theorem pN:GC Tryz.prog 67 LQ:=Ua (G:=MQ) (c:=Tryz.f67.body.getD .skip) Ga Ja pM mixed Tryz.func67 (by kernel_rfl) Tryz.ntmps67 (Ia (G:=MQ) (n:=0) (by kernel_rfl) (by kernel_rfl) trivial (by kernel_rfl)) (fun s=>by kernel_rfl)
def pO:Pa:=⟨⟨[.c (.agg [zi,(.b (.sl false .lk)),(.b (.sl false .bool)),(.b (.sl false .int)),(.b (.sl false .db)),(.b (.sl false .pk))]),.c (.agg [zi,(.b (.sl false .lk)),(.b (.sl false .bool)),(.b (.sl false .int)),(.b (.sl false .db)),(.b (.sl false .pk))])],[]⟩,[.int,.ls .lk,.ls .bool,.ls .int,.ls .db,.ls .pk,.int,.ls .lk,.ls .bool,.ls .int,.ls .db,.ls .pk],⟨[.c (.one (.b .bool))],[]⟩,[.bool],SN⟩
def NQ:La:=Ta tab [(47,[],SP),(12,[],XP),(46,[],BQ),(49,[],JQ),(48,[],KQ)] 35 0 [] []
theorem pP:Na Tryz.prog NQ.Γ:=Sa (l:=[(47,[],SP),(12,[],XP),(46,[],BQ),(49,[],JQ),(48,[],KQ)]) ⟨⟨oH,Tryz.call47⟩,⟨⟨I5,Tryz.call12⟩,⟨⟨oU,Tryz.call46⟩,⟨⟨pJ,Tryz.call49⟩,⟨⟨pL,Tryz.call48⟩,trivial⟩⟩⟩⟩⟩
theorem pQ:GC Tryz.prog 13 pO:=Ua (G:=NQ) (c:=Tryz.f13.body.getD .skip) Ga Ja pP mixed Tryz.func13 (by kernel_rfl) Tryz.ntmps13 (Ia (G:=NQ) (n:=0) (by kernel_rfl) (by kernel_rfl) trivial (by kernel_rfl)) (fun s=>by kernel_rfl)
def Up:Cb:=⟨⟨[0,1,5],⟨[.c (.one (.own 0)),zc,zc],[.row 114 .lk]⟩,[.int,.int,.ls .lk]⟩,0,⟨[1],⟨[zc],[.row 114 .lk]⟩,[.int,.ls .lk]⟩,zx,lp Jx Fa⟩
def OQ:Pa:=⟨⟨[.c (.one (.own 0)),zc],[.row 114 .lk]⟩,[.int,.ls .lk],⟨[zc],[.row 114 .lk]⟩,[.int,.ls .lk],YF⟩
def Pz:La:=Ta tab [] 34 1 [] [(2,Up)]
theorem Q5:Na Tryz.prog Pz.Γ:=Sa (l:=[]) trivial
theorem pR:Kb Tryz.prog 1 34 (Gb (Tryz.f54.body.getD .skip) 0) Up:=Qb (G:=Pz) (F:=Up.F) (eid:=Up.eid) (FX:=Up.FX) (FR:=Up.FR) (B:=Jx) (n:=Fa) Ga Ja Q5 mixed (Ia (G:=Pz) (n:=0) (by kernel_rfl) (by kernel_rfl) trivial (by kernel_rfl)) (fun s=>by kernel_rfl)
theorem pS:GC Tryz.prog 54 OQ:=Ua (G:=Pz) (c:=Tryz.f54.body.getD .skip) Ga Ja Q5 mixed Tryz.func54 (by kernel_rfl) Tryz.ntmps54 (Ia (G:=Pz) (n:=1) (by kernel_rfl) (by kernel_rfl) ⟨trivial,Rb (id:=2) (L0:=Up) (by kernel_rfl) (by kernel_rfl) pR⟩ (by kernel_rfl)) (fun s=>by kernel_rfl)
def Vp:Cb:=⟨⟨[0,1,5],⟨[.c (.one (.own 0)),zc,zc],[.row 3 .int]⟩,[.int,.int,.ls .int]⟩,0,⟨[1],⟨[zc],[.row 3 .int]⟩,[.int,.ls .int]⟩,zx,lp Kx Fa⟩
def pT:Pa:=⟨⟨[.c (.one (.own 0)),zc],[.row 3 .int]⟩,[.int,.ls .int],⟨[zc],[.row 3 .int]⟩,[.int,.ls .int],TN⟩
def Qz:La:=Ta tab [] 19 1 [] [(2,Vp)]
theorem R5:Na Tryz.prog Qz.Γ:=Sa (l:=[]) trivial
theorem pU:Kb Tryz.prog 1 19 (Gb (Tryz.f51.body.getD .skip) 0) Vp:=Qb (G:=Qz) (F:=Vp.F) (eid:=Vp.eid) (FX:=Vp.FX) (FR:=Vp.FR) (B:=Kx) (n:=Fa) Ga Ja R5 mixed (Ia (G:=Qz) (n:=0) (by kernel_rfl) (by kernel_rfl) trivial (by kernel_rfl)) (fun s=>by kernel_rfl)
theorem pV:GC Tryz.prog 51 pT:=Ua (G:=Qz) (c:=Tryz.f51.body.getD .skip) Ga Ja R5 mixed Tryz.func51 (by kernel_rfl) Tryz.ntmps51 (Ia (G:=Qz) (n:=1) (by kernel_rfl) (by kernel_rfl) ⟨trivial,Rb (id:=2) (L0:=Vp) (by kernel_rfl) (by kernel_rfl) pU⟩ (by kernel_rfl)) (fun s=>by kernel_rfl)
def Wp:Cb:=⟨⟨[0,1,5],⟨[.c (.one (.b (.sl false .lk))),zc,zc],[]⟩,[.ls .lk,.int,.int]⟩,0,⟨[1],⟨[zc],[]⟩,[.int]⟩,⟨[4],⟨[zc],[]⟩,[.int]⟩,lp Lx Fa⟩
def PQ:Pa:=⟨⟨[.c (.one (.b (.sl false .lk))),zc],[]⟩,[.ls .lk,.int],⟨[zc],[]⟩,[.int],ZF⟩
def Rz:La:=Ta tab [] 40 0 [] [(2,Wp)]
theorem S5:Na Tryz.prog Rz.Γ:=Sa (l:=[]) trivial
theorem pW:Kb Tryz.prog 0 40 (Gb (Tryz.f55.body.getD .skip) 0) Wp:=Qb (G:=Rz) (F:=Wp.F) (eid:=Wp.eid) (FX:=Wp.FX) (FR:=Wp.FR) (B:=Lx) (n:=Fa) Ga Ja S5 mixed (Ia (G:=Rz) (n:=0) (by kernel_rfl) (by kernel_rfl) trivial (by kernel_rfl)) (fun s=>by kernel_rfl)
theorem pX:GC Tryz.prog 55 PQ:=Ua (G:=Rz) (c:=Tryz.f55.body.getD .skip) Ga Ja S5 mixed Tryz.func55 (by kernel_rfl) Tryz.ntmps55 (Ia (G:=Rz) (n:=1) (by kernel_rfl) (by kernel_rfl) ⟨trivial,Rb (id:=2) (L0:=Wp) (by kernel_rfl) (by kernel_rfl) pW⟩ (by kernel_rfl)) (fun s=>by kernel_rfl)
def Xp:Cb:=⟨⟨[0,1,5],⟨[.c (.one (.b (.sl false .ev))),.c (.one (.b (.sl false .ev))),zc],[]⟩,[.ls .ev,.ls .ev,.int]⟩,0,⟨[],⟨[],[]⟩,[]⟩,⟨[4],⟨[.c (.one (.b .bool))],[]⟩,[.bool]⟩,lp Mx Fa⟩
def pY:Pa:=⟨⟨[.c (.one (.b (.sl false .ev))),.c (.one (.b (.sl false .ev)))],[]⟩,[.ls .ev,.ls .ev],⟨[.c (.one (.b .bool))],[]⟩,[.bool],UN⟩
def Sz:La:=Ta tab [(67,[],LQ)] 27 0 [(6,8,tk 8,[])] [(4,Xp)]
theorem T5:Na Tryz.prog Sz.Γ:=Sa (l:=[(67,[],LQ)]) ⟨⟨pN,Tryz.call67⟩,trivial⟩
theorem pZ:Kb Tryz.prog 0 27 (Gb (Tryz.f25.body.getD .skip) 0) Xp:=Qb (G:=Sz) (F:=Xp.F) (eid:=Xp.eid) (FX:=Xp.FX) (FR:=Xp.FR) (B:=Mx) (n:=Fa) Ga Ja T5 mixed (Ia (G:=Sz) (n:=0) (by kernel_rfl) (by kernel_rfl) trivial (by kernel_rfl)) (fun s=>by kernel_rfl)
theorem qA:GC Tryz.prog 25 pY:=Ua (G:=Sz) (c:=Tryz.f25.body.getD .skip) Ga Ja T5 mixed Tryz.func25 (by kernel_rfl) Tryz.ntmps25 (Ia (G:=Sz) (n:=1) (by kernel_rfl) (by kernel_rfl) ⟨trivial,Rb (id:=4) (L0:=Xp) (by kernel_rfl) (by kernel_rfl) pZ⟩ (by kernel_rfl)) (fun s=>by kernel_rfl)
def Yp:Cb:=⟨⟨[0,1,5],⟨[.c (.one (.b (.sl false .int))),zc,zc],[]⟩,[.ls .int,.int,.int]⟩,0,⟨[1],⟨[zc],[]⟩,[.int]⟩,⟨[4],⟨[zc],[]⟩,[.int]⟩,lp Nx Fa⟩
def QQ:Pa:=⟨⟨[.c (.one (.b (.sl false .int))),zc],[]⟩,[.ls .int,.int],⟨[zc],[]⟩,[.int],AG⟩
def Tz:La:=Ta tab [] 21 0 [] [(2,Yp)]
theorem U5:Na Tryz.prog Tz.Γ:=Sa (l:=[]) trivial
theorem qB:Kb Tryz.prog 0 21 (Gb (Tryz.f69.body.getD .skip) 0) Yp:=Qb (G:=Tz) (F:=Yp.F) (eid:=Yp.eid) (FX:=Yp.FX) (FR:=Yp.FR) (B:=Nx) (n:=Fa) Ga Ja U5 mixed (Ia (G:=Tz) (n:=0) (by kernel_rfl) (by kernel_rfl) trivial (by kernel_rfl)) (fun s=>by kernel_rfl)
theorem qC:GC Tryz.prog 69 QQ:=Ua (G:=Tz) (c:=Tryz.f69.body.getD .skip) Ga Ja U5 mixed Tryz.func69 (by kernel_rfl) Tryz.ntmps69 (Ia (G:=Tz) (n:=1) (by kernel_rfl) (by kernel_rfl) ⟨trivial,Rb (id:=2) (L0:=Yp) (by kernel_rfl) (by kernel_rfl) qB⟩ (by kernel_rfl)) (fun s=>by kernel_rfl)
def Zp:Cb:=⟨⟨[0,1,5],⟨[.c (.one (.own 0)),zc,zc],[.row 153 .en]⟩,[.int,.int,.ls .en]⟩,0,⟨[1],⟨[zc],[.row 153 .en]⟩,[.int,.ls .en]⟩,zx,lp Ox Fa⟩
def qD:Pa:=⟨⟨[.c (.one (.own 0)),zc],[.row 153 .en]⟩,[.int,.ls .en],⟨[zc],[.row 153 .en]⟩,[.int,.ls .en],VN⟩
def Uz:La:=Ta tab [] 27 1 [] [(2,Zp)]
theorem V5:Na Tryz.prog Uz.Γ:=Sa (l:=[]) trivial
theorem qE:Kb Tryz.prog 1 27 (Gb (Tryz.f98.body.getD .skip) 0) Zp:=Qb (G:=Uz) (F:=Zp.F) (eid:=Zp.eid) (FX:=Zp.FX) (FR:=Zp.FR) (B:=Ox) (n:=Fa) Ga Ja V5 mixed (Ia (G:=Uz) (n:=0) (by kernel_rfl) (by kernel_rfl) trivial (by kernel_rfl)) (fun s=>by kernel_rfl)
theorem qF:GC Tryz.prog 98 qD:=Ua (G:=Uz) (c:=Tryz.f98.body.getD .skip) Ga Ja V5 mixed Tryz.func98 (by kernel_rfl) Tryz.ntmps98 (Ia (G:=Uz) (n:=1) (by kernel_rfl) (by kernel_rfl) ⟨trivial,Rb (id:=2) (L0:=Zp) (by kernel_rfl) (by kernel_rfl) qE⟩ (by kernel_rfl)) (fun s=>by kernel_rfl)
def Aq:Cb:=⟨⟨[0,1,5],⟨[.c (.one (.b (.sl false .en))),zc,zc],[]⟩,[.ls .en,.int,.int]⟩,0,⟨[1],⟨[zc],[]⟩,[.int]⟩,⟨[4],⟨[zc],[]⟩,[.int]⟩,lp Px Fa⟩
def Vz:Pa:=⟨⟨[.c (.one (.b (.sl false .en))),zc],[]⟩,[.ls .en,.int],⟨[zc],[]⟩,[.int],Qx⟩
def Wz:La:=Ta tab [] 31 0 [] [(2,Aq)]
theorem W5:Na Tryz.prog Wz.Γ:=Sa (l:=[]) trivial
theorem qG:Kb Tryz.prog 0 31 (Gb (Tryz.f121.body.getD .skip) 0) Aq:=Qb (G:=Wz) (F:=Aq.F) (eid:=Aq.eid) (FX:=Aq.FX) (FR:=Aq.FR) (B:=Px) (n:=Fa) Ga Ja W5 mixed (Ia (G:=Wz) (n:=0) (by kernel_rfl) (by kernel_rfl) trivial (by kernel_rfl)) (fun s=>by kernel_rfl)
theorem X5:GC Tryz.prog 121 Vz:=Ua (G:=Wz) (c:=Tryz.f121.body.getD .skip) Ga Ja W5 mixed Tryz.func121 (by kernel_rfl) Tryz.ntmps121 (Ia (G:=Wz) (n:=1) (by kernel_rfl) (by kernel_rfl) ⟨trivial,Rb (id:=2) (L0:=Aq) (by kernel_rfl) (by kernel_rfl) qG⟩ (by kernel_rfl)) (fun s=>by kernel_rfl)
def Bq:Cb:=⟨⟨[0,1,5],⟨[.c (.one (.own 0)),zc,zc],[.row 4 .bool]⟩,[.int,.int,.ls .bool]⟩,0,⟨[1],⟨[zc],[.row 4 .bool]⟩,[.int,.ls .bool]⟩,zx,lp Rx Fa⟩
def qH:Pa:=⟨⟨[.c (.one (.own 0)),zc],[.row 4 .bool]⟩,[.int,.ls .bool],⟨[zc],[.row 4 .bool]⟩,[.int,.ls .bool],WN⟩
def Xz:La:=Ta tab [] 21 1 [] [(2,Bq)]
theorem Z5:Na Tryz.prog Xz.Γ:=Sa (l:=[]) trivial
theorem qI:Kb Tryz.prog 1 21 (Gb (Tryz.f50.body.getD .skip) 0) Bq:=Qb (G:=Xz) (F:=Bq.F) (eid:=Bq.eid) (FX:=Bq.FX) (FR:=Bq.FR) (B:=Rx) (n:=Fa) Ga Ja Z5 mixed (Ia (G:=Xz) (n:=0) (by kernel_rfl) (by kernel_rfl) trivial (by kernel_rfl)) (fun s=>by kernel_rfl)
theorem qJ:GC Tryz.prog 50 qH:=Ua (G:=Xz) (c:=Tryz.f50.body.getD .skip) Ga Ja Z5 mixed Tryz.func50 (by kernel_rfl) Tryz.ntmps50 (Ia (G:=Xz) (n:=1) (by kernel_rfl) (by kernel_rfl) ⟨trivial,Rb (id:=2) (L0:=Bq) (by kernel_rfl) (by kernel_rfl) qI⟩ (by kernel_rfl)) (fun s=>by kernel_rfl)
def qK:Pa:=⟨⟨[.c (.agg [zi,(.own 0)]),zc],[.row 114 .lk]⟩,[.int,.int,.ls .lk],⟨[zc],[.row 114 .lk]⟩,[.int,.ls .lk],XN⟩
def RQ:La:=Ta tab [(54,[],OQ)] 10 1 [] []
theorem qL:Na Tryz.prog RQ.Γ:=Sa (l:=[(54,[],OQ)]) ⟨⟨pS,Tryz.call54⟩,trivial⟩
theorem qM:GC Tryz.prog 15 qK:=Ua (G:=RQ) (c:=Tryz.f15.body.getD .skip) Ga Ja qL mixed Tryz.func15 (by kernel_rfl) Tryz.ntmps15 (Ia (G:=RQ) (n:=0) (by kernel_rfl) (by kernel_rfl) trivial (by kernel_rfl)) (fun s=>by kernel_rfl)
def SQ:Pa:=⟨⟨[.c (.agg [zi,(.b (.sl false .lk))]),zc],[]⟩,[.int,.ls .lk,.int],⟨[zc],[]⟩,[.int],BG⟩
def TQ:La:=Ta tab [(55,[],PQ)] 12 0 [] []
theorem qN:Na Tryz.prog TQ.Γ:=Sa (l:=[(55,[],PQ)]) ⟨⟨pX,Tryz.call55⟩,trivial⟩
theorem qO:GC Tryz.prog 16 SQ:=Ua (G:=TQ) (c:=Tryz.f16.body.getD .skip) Ga Ja qN mixed Tryz.func16 (by kernel_rfl) Tryz.ntmps16 (Ia (G:=TQ) (n:=0) (by kernel_rfl) (by kernel_rfl) trivial (by kernel_rfl)) (fun s=>by kernel_rfl)
def Cq:Cb:=⟨⟨[0,1,5],⟨[.c (.one (.b (.sl false .bool))),zc,zc],[]⟩,[.ls .bool,.int,.int]⟩,0,⟨[1],⟨[zc],[]⟩,[.int]⟩,⟨[4],⟨[zc],[]⟩,[.int]⟩,lp Sx Fa⟩
def UQ:Pa:=⟨⟨[.c (.one (.b (.sl false .bool))),zc],[]⟩,[.ls .bool,.int],⟨[zc],[]⟩,[.int],CG⟩
def Yz:La:=Ta tab [] 23 0 [] [(2,Cq)]
theorem A6:Na Tryz.prog Yz.Γ:=Sa (l:=[]) trivial
theorem qP:Kb Tryz.prog 0 23 (Gb (Tryz.f68.body.getD .skip) 0) Cq:=Qb (G:=Yz) (F:=Cq.F) (eid:=Cq.eid) (FX:=Cq.FX) (FR:=Cq.FR) (B:=Sx) (n:=Fa) Ga Ja A6 mixed (Ia (G:=Yz) (n:=0) (by kernel_rfl) (by kernel_rfl) trivial (by kernel_rfl)) (fun s=>by kernel_rfl)
theorem qQ:GC Tryz.prog 68 UQ:=Ua (G:=Yz) (c:=Tryz.f68.body.getD .skip) Ga Ja A6 mixed Tryz.func68 (by kernel_rfl) Tryz.ntmps68 (Ia (G:=Yz) (n:=1) (by kernel_rfl) (by kernel_rfl) ⟨trivial,Rb (id:=2) (L0:=Cq) (by kernel_rfl) (by kernel_rfl) qP⟩ (by kernel_rfl)) (fun s=>by kernel_rfl)
def Dq:Cb:=⟨⟨[0,1,5],⟨[.c (.one (.own 0)),zc,zc],[.row 63 .ev]⟩,[.int,.int,.ls .ev]⟩,0,⟨[1],⟨[zc],[.row 63 .ev]⟩,[.int,.ls .ev]⟩,zx,lp Tx Fa⟩
def qR:Pa:=⟨⟨[.c (.one (.own 0)),zc],[.row 63 .ev]⟩,[.int,.ls .ev],⟨[zc],[.row 63 .ev]⟩,[.int,.ls .ev],YN⟩
def Zz:La:=Ta tab [] 27 1 [] [(2,Dq)]
theorem B6:Na Tryz.prog Zz.Γ:=Sa (l:=[]) trivial
theorem qS:Kb Tryz.prog 1 27 (Gb (Tryz.f26.body.getD .skip) 0) Dq:=Qb (G:=Zz) (F:=Dq.F) (eid:=Dq.eid) (FX:=Dq.FX) (FR:=Dq.FR) (B:=Tx) (n:=Fa) Ga Ja B6 mixed (Ia (G:=Zz) (n:=0) (by kernel_rfl) (by kernel_rfl) trivial (by kernel_rfl)) (fun s=>by kernel_rfl)
theorem qT:GC Tryz.prog 26 qR:=Ua (G:=Zz) (c:=Tryz.f26.body.getD .skip) Ga Ja B6 mixed Tryz.func26 (by kernel_rfl) Tryz.ntmps26 (Ia (G:=Zz) (n:=1) (by kernel_rfl) (by kernel_rfl) ⟨trivial,Rb (id:=2) (L0:=Dq) (by kernel_rfl) (by kernel_rfl) qS⟩ (by kernel_rfl)) (fun s=>by kernel_rfl)
def Fq:Cb:=⟨⟨[0,1,5],⟨[.c (.one (.b (.sl false .ls))),zc,zc],[]⟩,[.ls .ls,.int,.int]⟩,0,⟨[1],⟨[zc],[]⟩,[.int]⟩,⟨[4],⟨[zc],[]⟩,[.int]⟩,lp Ux Fa⟩
def VQ:Pa:=⟨⟨[.c (.one (.b (.sl false .ls))),zc],[]⟩,[.ls .ls,.int],⟨[zc],[]⟩,[.int],DG⟩
def AA:La:=Ta tab [(121,[],Vz)] 40 0 [] [(2,Fq)]
theorem C6:Na Tryz.prog AA.Γ:=Sa (l:=[(121,[],Vz)]) ⟨⟨X5,Tryz.call121⟩,trivial⟩
theorem qU:Kb Tryz.prog 0 40 (Gb (Tryz.f120.body.getD .skip) 0) Fq:=Qb (G:=AA) (F:=Fq.F) (eid:=Fq.eid) (FX:=Fq.FX) (FR:=Fq.FR) (B:=Ux) (n:=Fa) Ga Ja C6 mixed (Ia (G:=AA) (n:=0) (by kernel_rfl) (by kernel_rfl) trivial (by kernel_rfl)) (fun s=>by kernel_rfl)
theorem qV:GC Tryz.prog 120 VQ:=Ua (G:=AA) (c:=Tryz.f120.body.getD .skip) Ga Ja C6 mixed Tryz.func120 (by kernel_rfl) Tryz.ntmps120 (Ia (G:=AA) (n:=1) (by kernel_rfl) (by kernel_rfl) ⟨trivial,Rb (id:=2) (L0:=Fq) (by kernel_rfl) (by kernel_rfl) qU⟩ (by kernel_rfl)) (fun s=>by kernel_rfl)
def Gq:Cb:=⟨⟨[0,1,5],⟨[.c (.one (.b (.sl false .pk))),zc,zc],[]⟩,[.ls .pk,.int,.int]⟩,0,⟨[1],⟨[zc],[]⟩,[.int]⟩,⟨[4],⟨[zc],[]⟩,[.int]⟩,lp Vx Fa⟩
def WQ:Pa:=⟨⟨[.c (.one (.b (.sl false .pk))),zc],[]⟩,[.ls .pk,.int],⟨[zc],[]⟩,[.int],EG⟩
def BA:La:=Ta tab [(121,[],Vz)] 52 0 [] [(2,Gq)]
theorem D6:Na Tryz.prog BA.Γ:=Sa (l:=[(121,[],Vz)]) ⟨⟨X5,Tryz.call121⟩,trivial⟩
theorem qW:Kb Tryz.prog 0 52 (Gb (Tryz.f71.body.getD .skip) 0) Gq:=Qb (G:=BA) (F:=Gq.F) (eid:=Gq.eid) (FX:=Gq.FX) (FR:=Gq.FR) (B:=Vx) (n:=Fa) Ga Ja D6 mixed (Ia (G:=BA) (n:=0) (by kernel_rfl) (by kernel_rfl) trivial (by kernel_rfl)) (fun s=>by kernel_rfl)
theorem qX:GC Tryz.prog 71 WQ:=Ua (G:=BA) (c:=Tryz.f71.body.getD .skip) Ga Ja D6 mixed Tryz.func71 (by kernel_rfl) Tryz.ntmps71 (Ia (G:=BA) (n:=1) (by kernel_rfl) (by kernel_rfl) ⟨trivial,Rb (id:=2) (L0:=Gq) (by kernel_rfl) (by kernel_rfl) qW⟩ (by kernel_rfl)) (fun s=>by kernel_rfl)
def Hq:Cb:=⟨⟨[0,1,5],⟨[.c (.one (.b (.sl false .db))),zc,zc],[]⟩,[.ls .db,.int,.int]⟩,0,⟨[1],⟨[zc],[]⟩,[.int]⟩,⟨[4],⟨[zc],[]⟩,[.int]⟩,lp Wx Fa⟩
def XQ:Pa:=⟨⟨[.c (.one (.b (.sl false .db))),zc],[]⟩,[.ls .db,.int],⟨[zc],[]⟩,[.int],FG⟩
def DA:La:=Ta tab [(120,[],VQ)] 21 0 [] [(2,Hq)]
theorem E6:Na Tryz.prog DA.Γ:=Sa (l:=[(120,[],VQ)]) ⟨⟨qV,Tryz.call120⟩,trivial⟩
theorem qY:Kb Tryz.prog 0 21 (Gb (Tryz.f70.body.getD .skip) 0) Hq:=Qb (G:=DA) (F:=Hq.F) (eid:=Hq.eid) (FX:=Hq.FX) (FR:=Hq.FR) (B:=Wx) (n:=Fa) Ga Ja E6 mixed (Ia (G:=DA) (n:=0) (by kernel_rfl) (by kernel_rfl) trivial (by kernel_rfl)) (fun s=>by kernel_rfl)
theorem qZ:GC Tryz.prog 70 XQ:=Ua (G:=DA) (c:=Tryz.f70.body.getD .skip) Ga Ja E6 mixed Tryz.func70 (by kernel_rfl) Tryz.ntmps70 (Ia (G:=DA) (n:=1) (by kernel_rfl) (by kernel_rfl) ⟨trivial,Rb (id:=2) (L0:=Hq) (by kernel_rfl) (by kernel_rfl) qY⟩ (by kernel_rfl)) (fun s=>by kernel_rfl)
def rA:Pa:=⟨⟨[.c (.agg [zi,(.b (.sl false .lk)),(.b (.sl false .bool)),(.b (.sl false .int)),(.b (.sl false .db)),(.b (.sl false .pk))]),zc],[]⟩,[.int,.ls .lk,.ls .bool,.ls .int,.ls .db,.ls .pk,.int],⟨[zc],[]⟩,[.int],ZN⟩
def YQ:La:=Ta tab [(69,[],QQ),(16,[],SQ),(68,[],UQ),(71,[],WQ),(70,[],XQ)] 36 0 [] []
theorem rB:Na Tryz.prog YQ.Γ:=Sa (l:=[(69,[],QQ),(16,[],SQ),(68,[],UQ),(71,[],WQ),(70,[],XQ)]) ⟨⟨qC,Tryz.call69⟩,⟨⟨qO,Tryz.call16⟩,⟨⟨qQ,Tryz.call68⟩,⟨⟨qX,Tryz.call71⟩,⟨⟨qZ,Tryz.call70⟩,trivial⟩⟩⟩⟩⟩
theorem rC:GC Tryz.prog 27 rA:=Ua (G:=YQ) (c:=Tryz.f27.body.getD .skip) Ga Ja rB mixed Tryz.func27 (by kernel_rfl) Tryz.ntmps27 (Ia (G:=YQ) (n:=0) (by kernel_rfl) (by kernel_rfl) trivial (by kernel_rfl)) (fun s=>by kernel_rfl)
end
section
open Go.RowKit
def wd (W:Wl):Wd:=⟨W.1,W.2.1,W.2.2.1,W.2.2.2.1,W.2.2.2.2.1,W.2.2.2.2.2⟩
def lw (w:Wd):Wl:=(w.n,w.ls,w.up,w.sq,w.db,w.net)
def FW (W:Wl):Prop:=Ez (wd W)∧Vg W≤3999999999
theorem FW.fv {W:Wl} (h:FW W):FV W:=by
  obtain ⟨⟨h1,h2,h3,h4,h5,h6,h7⟩,h8⟩:=h
  dsimp only [wd] at *
  exact ⟨by omega,by omega,by omega,by omega,by omega,fun d hd=>⟨by have:=(h6 d hd).1;omega,fun l hl=>by have:=(h6 d hd).2 l hl;omega⟩,fun p hp=>by have:=h7 p hp;omega,h8⟩
theorem FV.fit {W:Wl} (h:FV W):JP (wd W):=by
  obtain ⟨h1,h2,h3,h4,h5,h6,h7,h8⟩:=h
  exact ⟨by dsimp only [wd];unfold Fb;omega,by dsimp only [wd];unfold Fb;omega,by dsimp only [wd];unfold Fb;omega,by dsimp only [wd];unfold Fb;omega,by dsimp only [wd];unfold Fb;omega,fun d hd=>⟨by have:=(h6 d hd).1;unfold Fb;omega,fun l hl=>by have:=(h6 d hd).2 l hl;unfold Fb;omega⟩,fun p hp=>by have:=h7 p hp;unfold Fb;omega⟩
theorem Ah (w:World) (h:List Ca) (β:List (Nat×Nat)):Ph w h β:=fun g cs hg=>by
  unfold ST at hg
  cases hg
theorem rD:Ml Tryz.prog 98:=fun w E ys b c u k h0 h1 hc H =>
  (Hw qF (s:=(k,ys,())) (r:=(k+2*ys.length,Ug k ys,())) (by rw [HG];exact kT k ys h0 (by omega) (by omega)) (d:=.own 0) rfl rfl rfl (LZ _ _) (fun h β=>Ah w h β) H (Iw H)).mono fun e w' h=>⟨h.1,h.2.1,h.2.2.mono fun _ _ h=>h.2⟩
theorem rE:Vo Tryz.prog 50 4 .bool Ul List.length (fun _=>True):=fun w E xs b c u k h0 h1 h2 _ H =>
  (Hw qJ (s:=(k,xs,())) (r:=(k+xs.length,Ul k xs,())) (by have h:=lC k xs h0 (by omega) (by omega);simp only [Int.one_mul] at h;exact h) (d:=.own 0) rfl rfl rfl (Kh _ _ _ _) (fun h β=>Ah w h β) H (Iw H)).mono fun e w' h=>⟨h.1,IE rfl h.2.1 h.2.2⟩
theorem rF:Vo Tryz.prog 51 3 .int Vl List.length (fun _=>True):=fun w E xs b c u k h0 h1 h2 _ H =>
  (Hw pV (s:=(k,xs,())) (r:=(k+xs.length,Vl k xs,())) (by have h:=kR k xs h0 (by omega) (by omega);simp only [Int.one_mul] at h;exact h) (d:=.own 0) rfl rfl rfl (Kh _ _ _ _) (fun h β=>Ah w h β) H (Iw H)).mono fun e w' h=>⟨h.1,IE rfl h.2.1 h.2.2⟩
theorem F6:XL Tryz.prog 15 Bk:=fun w E n xs b c u k h0 h1 h2 H =>
  (Hw qM (s:=(n,k,xs,())) (r:=(k+3*xs.length,Bk k xs,())) (kV n k xs h0 (by omega) h2) (d:=.agg [.im (iI n),.own 0]) rfl rfl rfl (Kh _ _ _ _) (fun h β=>Ah w h β) H ⟨[.int .i64 n,u],rfl,F2.cons (Ri.s _) (F2.cons (Iw H) F2.nil)⟩).mono fun e w' h=>⟨h.1,IE rfl h.2.1 h.2.2⟩
abbrev Zl (W:Wl):Wl:=Ol Bk Ul Vl 1 W
theorem rG:ZL Tryz.prog 14 FV Zl:=fun w lo hi A a hf H =>
  gZ F6 rE rF rD (fun _ _=>Kh _ _ _ _) (fun _ _=>Kh _ _ _ _) (fun _ _=>Kh _ _ _ _) w lo hi A a 1 (by omega) (by have:=hf.cnt;omega) ⟨hf.ls,hf.up,hf.sq,hf.db,hf.net,fun d hd=>(hf.dbs d hd).1⟩ H
theorem rH:AM Tryz.prog 27 FV Zl:=fun w lo hi A a hf H =>
  (Zj rC (s:=((Zl A).1,(Zl A).2.1,(Zl A).2.2.1,(Zl A).2.2.2.1,(Zl A).2.2.2.2.1,(Zl A).2.2.2.2.2,1,())) (r:=(1+(Vg A:Int),())) (lH A hf) (ds:=[Cw (Zl A),.im (iI 1)]) rfl (d:=.im (iI (1+Vg A))) (h':=[]) rfl (args:=[a,.int .i64 1]) (F2.cons H.arg (F2.cons (Ri.s _) F2.nil)) (Ah _ _ _)).mono fun ex w' ⟨u,β',h1,h2,h3,h4⟩=>by
    have h4:Ri w' _ _ (iI (1+Vg A)) u:=h4
    cases h4
    exact ⟨h1,h2.below⟩
theorem rI:YL Tryz.prog 13 FV:=fun w lo hi lo' hi' A a b hf ha hb =>
  (Zj pQ (s:=(A.1,A.2.1,A.2.2.1,A.2.2.2.1,A.2.2.2.2.1,A.2.2.2.2.2,A.1,A.2.1,A.2.2.1,A.2.2.2.1,A.2.2.2.2.1,A.2.2.2.2.2,())) (r:=(true,())) (nT (wd A) hf.fit) (ds:=[Cw A,Cw A]) rfl (d:=.im (.s (.bool true))) (h':=[]) rfl (args:=[a,b]) (F2.cons ha.arg (F2.cons hb.arg F2.nil)) (Ah _ _ _)).mono fun ex w' ⟨u,β',h1,h2,h3,h4⟩=>by
    have h4:Ri w' _ _ (.s (.bool true)) u:=h4
    cases h4
    exact ⟨h1,h2.below⟩
end
end Go.Proofs.YtknkhdjhongklaaGreat
