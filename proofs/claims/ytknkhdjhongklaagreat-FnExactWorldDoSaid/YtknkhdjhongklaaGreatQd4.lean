/- Part 4 of the proof: U6 U7 U8 U9 UA UB UC UF UP Mx3 UM UV UY Pa Shelf Mso Ml Mlc Mde Min Mlb SA Pb. -/
import Derived.Deep.LoopGhost
import Derived.Lib.Walk
import Derived.Shelf.Small.Wraps
import Derived.Shelf.Sort.Plain
import Derived.Shelf.Bits.Mul64
import Derived.Shelf.Slices.In.SortNone
import Derived.Test.YtknkhdjhongklaaGreatProg
import Derived.Sort.OwnSortedInts
import Derived.Deep.AppendSrc
import Derived.Laws.CopyRow
import Derived.Lib.SliceRun
import Derived.Lib.Hide
import Derived.Lib.SlicesDelete
import Derived.Deep.RegionLaw
import Derived.Shelf.RegionOpenPlain
import Derived.Lib.Overlaps
import Derived.Laws.Externs
import Derived.Lib.AppendZerosOnto
import Derived.Laws.CopyOwn
import Derived.Test.YtknkhdjhongklaaGreatQd3
set_option linter.unusedSimpArgs false
set_option linter.unusedVariables false
set_option maxRecDepth 100000
namespace Go.Proofs.YtknkhdjhongklaaGreat
section
open Go.RowKit
set_option maxRecDepth 100000 in
set_option maxHeartbeats 1000000 in
theorem Z7 (A:Option Addr) (c:Nat) (k:Int) (w:World):Calls Tryz.prog 98 #[.slice A 0 c,.int .i64 k] w fun e w'=>e=.returned (.int .i64 k)∧Fc w w' (fun _=>False):=by
  go_enter Tryz.func98,Tryz.ntmps98
  go_wp2_with fail
  go_loopw [1,5] (fun kv i wr=>kv=.int .i64 k∧i=.int .i64 0∧Fc w wr (fun _=>False)) (fun _ i _=>0)
  case atStart=>exact ⟨rfl,rfl,Fc.refl _ _⟩
  case round =>
    obtain ⟨rfl,rfl,hC⟩:=hrel
    go_wp2_with fail
    go_ret
    exact ⟨rfl,hC⟩
theorem NI (τ:Ty) (zs:List (El τ)) (q r:Nat) (hr:r<sz τ):(Sa τ zs)[q*sz τ+r]? =(zs[q]?).bind fun z=>(cells τ z)[r]? :=by
  cases hq:zs[q]? with
  |none =>
   have:zs.length≤q:=List.getElem?_eq_none_iff.1 hq
   rw [List.getElem?_eq_none]
   ·rfl
   ·rw [Gb]
    have:=Nat.mul_le_mul_right (sz τ) this
    omega
  |some z =>
   have h1:=Ep τ zs q z hq
   have h2:(((Sa τ zs).drop (q*sz τ)).take (sz τ))[r]? =(cells τ z)[r]? :=by rw [h1]
   rw [List.getElem?_take,if_pos hr,List.getElem?_drop] at h2
   exact h2
theorem A8 (τ:Ty) {xs:List (El τ)} {i r:Nat} {x y:El τ} {v:IV} (hx:xs[i]? =some x) (hr:r<sz τ) (hy:cells τ y=(cells τ x).set r v):Sa τ (xs.set i y)=(Sa τ xs).set (i*sz τ+r) v:=by
  have hz:=Of τ
  have hi:=(List.getElem?_eq_some_iff.1 hx).1
  refine List.ext_getElem? fun j=>?_
  have hj:j=j / sz τ*sz τ+j % sz τ:=by rw [Nat.mul_comm];exact (Nat.div_add_mod j (sz τ)).symm
  have hm:=Nat.mod_lt j hz
  rw [List.getElem?_set]
  rw [hj,NI _ _ _ _ hm,List.getElem?_set]
  have hl:i*sz τ+r<(Sa τ xs).length:=by
    rw [Gb]
    have:(i+1)*sz τ≤xs.length*sz τ:=Nat.mul_le_mul_right _ hi
    rw [Nat.succ_mul] at this
    omega
  by_cases e:i=j / sz τ
  ·rw [←e,if_pos rfl,if_pos hi,Option.bind_some,hy,List.getElem?_set]
   by_cases e2:r=j % sz τ
   ·rw [←e2,if_pos rfl,if_pos (by rw [Yi];exact hr),if_pos rfl,if_pos hl]
   ·rw [if_neg e2,if_neg (by omega),NI _ _ _ _ hm,hx];rfl
  ·rw [if_neg e,if_neg,NI _ _ _ _ hm]
   intro e2
   apply e
   have h3:(i*sz τ+r) / sz τ=(j / sz τ*sz τ+j % sz τ) / sz τ:=by rw [e2]
   rw [Nat.mul_comm i,Nat.mul_comm (j / sz τ),Nat.mul_add_div hz,Nat.mul_add_div hz,Nat.div_eq_of_lt hr,Nat.div_eq_of_lt hm] at h3
   omega
def Kh:Int→List En→List En
  |_,[]=>[]
  |k,_::r=>⟨k,k+1⟩::Kh (k+2) r
def Bc:List Ls→Nat
  |[]=>0
  |l::r=>2+2*l.e.length+Bc r
def Se:Int→List Ls→List Ls
  |_,[]=>[]
  |k,l::r=>⟨k,k+1,Kh (k+2) l.e⟩::Se (k+2+2*l.e.length) r
theorem B8:∀(k:Int) (xs:List En),(Kh k xs).length=xs.length
  |_,[]=>rfl
  |k,_::r=>by simp [Kh,B8 _ r]
theorem Ry:∀(k:Int) (xs:List Ls),(Se k xs).length=xs.length
  |_,[]=>rfl
  |k,_::r=>by simp [Se,Ry _ r]
def Mi (k:Int) (xs:List Ls) (i:Nat):List Ls:=Se k (xs.take i)++xs.drop i
theorem oM (xs:List Ls) (l:Ls):Bc (xs++[l])=Bc xs+(2+2*l.e.length):=by
  induction xs with
  |nil=>simp [Bc]
  |cons x r ih=>simp only [List.cons_append,Bc,ih];omega
theorem oN (xs:List Ls) (l:Ls):∀k:Int,Se k (xs++[l])=Se k xs++[⟨k+Bc xs,k+Bc xs+1,Kh (k+Bc xs+2) l.e⟩]:=by
  induction xs with
  |nil=>intro k;simp [Se,Bc]
  |cons x r ih =>
   intro k
   simp only [List.cons_append,Se,ih,Bc]
   have e:k+2+2*(x.e.length:Int)+(Bc r:Int)=k+((2+2*x.e.length+Bc r:Nat):Int):=by omega
   rw [e]
theorem oO (k:Int) (xs:List Ls):Mi k xs 0=xs:=by simp [Mi,Se]
theorem oP (k:Int) (xs:List Ls):Mi k xs xs.length=Se k xs:=by simp [Mi]
theorem oQ (k:Int) (xs:List Ls) (i:Nat) (l:Ls) (hl:xs[i]? =some l):(Mi k xs i)[i]? =some l:=by
  have hi:=(List.getElem?_eq_some_iff.1 hl).1
  unfold Mi
  rw [List.getElem?_append_right (by rw [Ry,List.length_take];omega),Ry,List.length_take,Nat.min_eq_left (by omega),Nat.sub_self,List.getElem?_drop]
  simpa using hl
theorem oR (k:Int) (xs:List Ls) (i:Nat) (l:Ls) (hl:xs[i]? =some l):Mi k xs (i+1)=(Mi k xs i).set i ⟨k+Bc (xs.take i),k+Bc (xs.take i)+1,Kh (k+Bc (xs.take i)+2) l.e⟩:=by
  have hi:=(List.getElem?_eq_some_iff.1 hl).1
  unfold Mi
  rw [List.take_add_one,hl]
  show Se k (xs.take i++[l])++_=_
  rw [oN,List.set_append_right _ _ (by rw [Ry,List.length_take];omega),Ry,List.length_take,Nat.min_eq_left (by omega),Nat.sub_self,List.append_assoc]
  congr 1
  rw [show xs.drop i=l::xs.drop (i+1) by rw [List.drop_eq_getElem_cons hi];congr 1;exact (List.getElem?_eq_some_iff.1 hl).2]
  rfl
end
section
open Go.RowKit
def Cd (w w':World) (E:Nat→Prop) (t:TypeId) (τ:Ty) (xs xs':List (El τ)) (b c:Nat) (u:Value):Prop:=UR w' E t τ xs' b c u∧Fc w w' (MI w t τ xs b c)∧∀k p σ v,Va w' [.row t τ xs'] [(b,c)] k p σ v→Va w [.row t τ xs] [(b,c)] k p σ v
theorem Cd.refl {w:World} {E:Nat→Prop} {t:TypeId} {τ:Ty} {xs:List (El τ)} {b c:Nat} {u:Value} (H:UR w E t τ xs b c u):Cd w w E t τ xs xs b c u:=⟨H,Fc.refl _ _,fun _ _ _ _ h=>h⟩
def Im (P:Program) (f:FuncId):Prop:=∀(w:World) (E:Nat→Prop) (ys:List En) (b c:Nat) (u:Value) (k:Int),0≤k→k+2*ys.length≤4000000000→0<c→UR w E (Cg .en) .en ys b c u→Calls P f #[u,.int .i64 k] w fun e w'=>e=.returned (.int .i64 (k+2*ys.length))∧UR w' E (Cg .en) .en (Kh k ys) b c u∧Fc w w' (·=b)
theorem Cd.row {w w':World} {E:Nat→Prop} {t:TypeId} {τ:Ty} {xs xs':List (El τ)} {b c:Nat} {u:Value} (M:Cd w w' E t τ xs xs' b c u) (k:Nat) (p:Nat×Nat) (n:Nat) (h:Mb w' [.row t τ xs'] [(b,c)] k p n):Mb w [.row t τ xs] [(b,c)] k p n:=by
  obtain ⟨σ,v,h1,h2⟩:=h
  exact ⟨σ,v,M.2.2 k p σ v h1,h2⟩
theorem Cd.trans {w w' w'':World} {E:Nat→Prop} {t:TypeId} {τ:Ty} {xs xs' xs'':List (El τ)} {b c:Nat} {u:Value} (M:Cd w w' E t τ xs xs' b c u) (M':Cd w' w'' E t τ xs' xs'' b c u):Cd w w'' E t τ xs xs'' b c u :=
  ⟨M'.1,M.2.1.trans (M'.2.1.mono fun n _ h=>h.imp id fun ⟨p,h⟩=>⟨p,M.row 0 p n h⟩),fun k p σ v h=>M.2.2 k p σ v (M'.2.2 k p σ v h)⟩
theorem Sy {w:World} {E:Nat→Prop} {t:TypeId} {τ:Ty} {xs:List (El τ)} {b c:Nat} {u:Value} (H:UR w E t τ xs b c u) (hc:0<c) (hτ:τ≠.udb) {i r:Nat} {x y:El τ} {z:Int} (hx:xs[i]? =some x) (hr:r<sz τ) (hm:r≠Zb τ) (hy:cells τ y=(cells τ x).set r (iI z)):Cd w (w.setCell ⟨b,i*sz τ+r,none⟩ (.int .i64 z)) E t τ xs (xs.set i y) b c u:=by
  have hi:=(List.getElem?_eq_some_iff.1 hx).1
  have hl:i*sz τ+r<(Sa τ xs).length:=by
    rw [Gb]
    have:(i+1)*sz τ≤xs.length*sz τ:=Nat.mul_le_mul_right _ hi
    rw [Nat.succ_mul] at this
    omega
  obtain ⟨h1,h2,h3⟩:=oE (z:=z) (xs':=xs.set i y) H hτ hl (fun _=>by rw [Nat.mul_comm,Nat.mul_add_mod,Nat.mod_eq_of_lt hr];exact hm) (A8 τ hx hr hy) List.length_set
  exact ⟨h1,h2.mono fun n _ e=>.inl ⟨hc,e⟩,h3⟩
theorem No {w:World} {E:Nat→Prop} {t:TypeId} {τ:Ty} {xs:List (El τ)} {b c:Nat} {u:Value} (H:UR w E t τ xs b c u) (hc:0<c) {i r:Nat} {x:El τ} {y:IV} (hx:xs[i]? =some x) (hr:(cells τ x)[r]? =some y):(∃v,w.cell? ⟨b,i*sz τ+r,none⟩=some v∧Ri w E (fun _=>False) y v∧(τ.u=true→r=Zb τ→Va w [.row t τ xs] [(b,c)] 0 (i*sz τ+r,0) (Fi τ) v))∧w.frozen? ⟨b,i*sz τ+r,none⟩=false:=by
  obtain ⟨h1,h2,h3,_⟩:=H.cells
  obtain ⟨us,junk,q1,q2,q3,q4⟩:=h3 hc
  have hr':r<sz τ:=by rw [←Yi τ x];exact (List.getElem?_eq_some_iff.1 hr).1
  have hf:(Sa τ xs)[i*sz τ+r]? =some y:=by rw [NI _ _ _ _ hr',hx];exact hr
  obtain ⟨v,hv,hR⟩:=q2.get hf
  refine ⟨⟨v,Og q1 hv,hR,fun hu e=>⟨t,τ,xs,b,c,us,junk,rfl,rfl,hc,q1,by rw [q2.1,Gb],.inl ⟨hu,rfl,hv,rfl,by rw [Nat.mul_comm,Nat.mul_add_mod,Nat.mod_eq_of_lt hr'];exact e⟩⟩⟩,by simp [World.frozen?,q1]⟩
theorem C8 {f:FuncId} {P:Program} (hE:Im P f) (h0:∀(A:Option Addr) (c:Nat) (k:Int) (w:World),Calls P f #[.slice A 0 c,.int .i64 k] w fun e w'=>e=.returned (.int .i64 k)∧Fc w w' (fun _=>False)) {w:World} {E:Nat→Prop} {t:TypeId} {τ:Ty} {xs:List (El τ)} {b c:Nat} {u:Value} (H:UR w E t τ xs b c u) (hc:0<c) (hu:τ.u=true) (hτ:τ≠.udb) {i:Nat} {x y:El τ} {v:Value} {ys:List En} {k:Int} (hx:xs[i]? =some x) (hR:Ri w E (fun _=>False) (.sl true .en ys) v) (ho:Va w [.row t τ xs] [(b,c)] 0 (i*sz τ+Zb τ,0) (Fi τ) v) (hcx:(cells τ x)[Zb τ]? =some (.sl true .en ys)) (hy:∀zs,zs=Kh k ys→cells τ y=(cells τ x).set (Zb τ) (.sl true .en zs)) (hn:Zb τ<sz τ) (hk0:0≤k) (hk1:k+2*ys.length≤4000000000):Calls P f #[v,.int .i64 k] w fun e w'=>e=.returned (.int .i64 (k+2*ys.length))∧Cd w w' E t τ xs (xs.set i y) b c u:=by
  have hsub:Fi τ=.en:=by cases τ<;>first|rfl|(exact absurd rfl hτ)
  rcases Nat.eq_zero_or_pos ys.length with e|e
  ·obtain rfl:ys=[]:=List.length_eq_zero_iff.1 e
   obtain ⟨A,c1,rfl,_⟩:=P7 hR
   have hxy:xs.set i y=xs:=by
     have h1:cells τ y=cells τ x:=by
       rw [hy [] rfl]
       refine List.ext_getElem? fun j=>?_
       rw [List.getElem?_set]
       by_cases e:Zb τ=j
       ·subst e;rw [if_pos rfl,if_pos (by rw [Yi];exact hn),hcx]
       ·rw [if_neg e]
     have h2:y=x:=by
       cases τ<;>simp [Ty.u] at hu<;>simp only [cells,List.cons.injEq,IV.s.injEq,iI,Value.int.injEq,true_and,and_true,IV.sl.injEq] at h1
       ·obtain ⟨g1,g2,g3⟩:=h1;cases x;cases y;simp at g1 g2 g3;subst g1 g2 g3;rfl
       ·exact absurd rfl hτ
       ·obtain ⟨g1,g2,g3,g4⟩:=h1;cases x with|mk _ p=>cases p;cases y with|mk _ q=>cases q;simp at g1 g2 g3 g4;subst g1 g2 g3 g4;rfl
     rw [h2]
     refine List.ext_getElem? fun j=>?_
     rw [List.getElem?_set]
     by_cases e:i=j
     ·subst e;rw [if_pos rfl,if_pos (List.getElem?_eq_some_iff.1 hx).1,hx]
     ·rw [if_neg e]
   refine (h0 A c1 k w).mono ?_
   rintro e' w' ⟨rfl,hC⟩
   have hE2:=H.liv hc
   have hall:∀n,n<w.heap.size→w'.heap[n]? =w.heap[n]? :=fun n hn=>hC.block n hn id
   refine ⟨by simp,?_⟩
   rw [hxy]
   have hk2:=H.heap.keepE (w':=w') hC.size (fun n hl=>hall n (Da.lt H.heap hl)) (fun n hn _=>hall n hn)
   refine ⟨⟨hk2,?_⟩,hC.mono fun _ _ h=>h.elim,fun k p σ v' h=>?_⟩
   ·obtain ⟨g1,g2,g3,g4⟩:=H.val
    exact ⟨g1,g2,g3,fun t' τ' ws e=>g4 t' τ' ws e⟩
   ·have h':=h
    obtain ⟨t1,τ1,ws,b1,c2,us,junk,z1,z2,z3,_⟩:=h'
    exact Nu H.heap z1 z1 (fun _ h=>h) (fun b' c' g1 g2 g3=>hall b' (Da.lt H.heap ⟨k,_,c',z1,g3,g1⟩)) (fun n hn _=>hall n hn) h
  ·obtain ⟨n,hs⟩:=Q7 hR e
   rw [hsub] at ho
   have hp:=H.heap.pl 0 _ .en v n ho hs
   obtain ⟨c1,hc1,H1⟩:=oA hR hp hs
   refine (hE w _ ys n c1 v k hk0 hk1 hc1 H1).mono ?_
   rintro e' w' ⟨rfl,H2,hC⟩
   obtain ⟨g1,g2⟩:=oC (ys:=ys) (xs':=xs.set i y) H hu hτ ho hs hC H2 hc1 (by rw [A8 τ hx hn (hy _ rfl)]) List.length_set
   exact ⟨rfl,g1,hC.mono fun m _ e=>.inr ⟨_,.en,v,ho,e▸hs⟩,g2⟩
set_option maxRecDepth 100000 in
set_option maxHeartbeats 4000000 in
theorem oS (hE:Im Tryz.prog 98) (w:World) (E:Nat→Prop) (t:TypeId) (xs:List Ls) (b c:Nat) (k:Int) (h0:0≤k) (hk:k+Bc xs≤4000000000) (hc:0<c) (hlen:xs.length≤16777216) (H:UR w E t .uls xs b c (.slice (some ⟨b,0,none⟩) xs.length c)):Calls Tryz.prog 97 #[.slice (some ⟨b,0,none⟩) xs.length c,.int .i64 k] w fun e w'=>e=.returned (.int .i64 (k+Bc xs))∧Cd w w' E t .uls xs (Se k xs) b c (.slice (some ⟨b,0,none⟩) xs.length c):=by
  have H0:=Lib.hid H;clear H
  have Hk:=Lib.hid hk;clear hk
  go_enter Tryz.func97,Tryz.ntmps97
  go_wp2_with fail
  go_loopw [1,5] (fun kv iv wr=>∃(i:Nat) (K:Int),i≤xs.length∧iv=.int .i64 i∧kv=.int .i64 K∧Hid (K=k+Bc (xs.take i))∧Hid (Cd w wr E t .uls xs (Mi k xs i) b c (.slice (some ⟨b,0,none⟩) xs.length c))) (fun _ i _=>xs.length-(intOf i).toNat)
  case atStart=>exact ⟨0,k,Nat.zero_le _,rfl,rfl,by simp [Hid,Bc],by rw [oO];exact Cd.refl H0.out⟩
  case round =>
    obtain ⟨i,K,hi,rfl,rfl,HK,HM⟩:=hrel
    by_cases hlt:i<xs.length
    ·obtain ⟨l,HL⟩:∃l,Hid (xs[i]? =some l):=⟨_,List.getElem?_eq_getElem hlt⟩
     have hKb:0≤K∧K+2+2*l.e.length≤4000000000:=by
       have e1:=HK.out
       have e2:=Hk.out
       have e3:Bc (xs.take i)+(2+2*l.e.length)≤Bc xs:=by
         have h1:xs=xs.take i++l::xs.drop (i+1):=by
           have:=(List.take_append_drop i xs).symm
           rw [show xs.drop i=l::xs.drop (i+1) by rw [List.drop_eq_getElem_cons hlt];congr 1;exact (List.getElem?_eq_some_iff.1 HL.out).2] at this
           exact this
         have h2:∀(a b:List Ls),Bc (a++b)=Bc a+Bc b:=fun a b=>by
           induction a with
           |nil=>simp [Bc]
           |cons x r ih=>simp only [List.cons_append,Bc,ih];omega
         have h3:=congrArg Bc h1
         rw [h2] at h3
         simp only [Bc] at h3
         omega
       omega
     have hK0:=hKb.1
     have hK1:=hKb.2
     clear hKb
     obtain ⟨ys,HY⟩:∃ys,Hid (ys=Mi k xs i):=⟨_,rfl⟩
     have HA:Hid (ys[i]? =some l):=by show ys[i]? =some l;rw [HY.out];exact oQ k xs i l HL.out
     have M0:Cd w wr E t .uls xs ys b c (.slice (some ⟨b,0,none⟩) xs.length c):=by rw [HY.out];exact HM.out
     obtain ⟨⟨v0,c0,_,_⟩,f0⟩:=No M0.1 hc (r:=0) HA.out rfl
     have M1:=M0.trans (Sy (z:=K) (y:=(⟨K,l.s,l.e⟩:Ls)) M0.1 hc (by intro h;cases h) HA.out (r:=0) (by decide) (by decide) rfl)
     have A1:(ys.set i (⟨K,l.s,l.e⟩:Ls))[i]? =some ⟨K,l.s,l.e⟩:=by rw [List.getElem?_set,if_pos rfl,if_pos (List.getElem?_eq_some_iff.1 HA.out).1]
     obtain ⟨⟨v1,c1,_,_⟩,f1⟩:=No M1.1 hc (r:=1) A1 rfl
     have M2:=M1.trans (Sy (z:=K+1) (y:=(⟨K,K+1,l.e⟩:Ls)) M1.1 hc (by intro h;cases h) A1 (r:=1) (by decide) (by decide) rfl)
     have A2:((ys.set i (⟨K,l.s,l.e⟩:Ls)).set i (⟨K,K+1,l.e⟩:Ls))[i]? =some ⟨K,K+1,l.e⟩:=by rw [List.getElem?_set,if_pos rfl,if_pos (List.getElem?_eq_some_iff.1 A1).1]
     obtain ⟨⟨v2,c2,R2,O2⟩,_⟩:=No M2.1 hc (r:=2) A2 rfl
     have hcall:=(C8 hE Z7 M2.1 hc rfl (by intro h;cases h) (k:=K+1+1) (y:=(⟨K,K+1,Kh (K+1+1) l.e⟩:Ls)) A2 R2 (O2 rfl rfl) rfl (fun zs e=>by subst e;rfl) (by decide) (by omega) (by show K+1+1+2*(l.e.length:Int)≤_;omega)).mono (R':=fun e w'=>e=.returned (.int .i64 (K+1+1+2*l.e.length))∧Hid (Cd w w' E t .uls xs (Mi k xs (i+1)) b c (.slice (some ⟨b,0,none⟩) xs.length c))) (fun e w' ⟨h1,h2⟩=>⟨h1,by
       have h3:=M2.trans h2
       rw [List.set_set,List.set_set,HY.out] at h3
       have h4:=oR k xs i l HL.out
       rw [←HK.out] at h4
       show Cd w w' E t .uls xs (Mi k xs (i+1)) b c _
       rw [h4,show K+2=K+1+1 by omega]
       exact h3⟩)
     simp only [sz,Nat.add_zero] at c0 f0 c1 f1 c2 hcall
     have HC:=Lib.hid hcall
     clear hcall M0 M1 M2 A1 A2 R2 O2
     go_wp2_with (first|(go_at_call 98;refine HC.out.mono ?_;rintro e w' ⟨rfl,HM2⟩))
     go_roundw
     case rel =>
       refine ⟨i+1,K+1+1+2*l.e.length,by omega,by go_num,rfl,?_,HM2⟩
       show _=_
       rw [List.take_add_one,HL.out]
       show _=k+↑(Bc (xs.take i++[l]))
       rw [oM,HK.out]
       omega
     case measure=>simp [intOf];omega
    ·obtain rfl:i=xs.length:=by omega
     go_wp2_with fail
     go_ret
     refine ⟨by have:=HK.out;rw [List.take_length] at this;rw [←this];rfl,?_⟩
     have:=HM.out
     rw [oP] at this
     exact this
end
section
open Go.RowKit
section
variable {α:Type} (m:Int→α→α) (c:α→Nat)
def Ac:List α→Nat
  |[]=>0
  |l::r=>c l+Ac r
def Kf:Int→List α→List α
  |_,[]=>[]
  |k,l::r=>m k l::Kf (k+c l) r
def Tg (k:Int) (xs:List α) (i:Nat):List α:=Kf m c k (xs.take i)++xs.drop i
variable {m c}
theorem Jm:∀(k:Int) (xs:List α),(Kf m c k xs).length=xs.length
  |_,[]=>rfl
  |k,_::r=>by simp [Kf,Jm _ r]
theorem D8 (xs ys:List α):Ac c (xs++ys)=Ac c xs+Ac c ys:=by
  induction xs with
  |nil=>simp [Ac]
  |cons x r ih=>simp only [List.cons_append,Ac,ih];omega
theorem oU (xs:List α) (l:α):∀k:Int,Kf m c k (xs++[l])=Kf m c k xs++[m (k+Ac c xs) l]:=by
  induction xs with
  |nil=>intro k;simp [Kf,Ac]
  |cons x r ih =>
   intro k
   simp only [List.cons_append,Kf,ih,Ac]
   rw [show k+(c x:Int)+(Ac c r:Int)=k+((c x+Ac c r:Nat):Int) by omega]
theorem E8 (k:Int) (xs:List α):Tg m c k xs 0=xs:=by simp [Tg,Kf]
theorem F8 (k:Int) (xs:List α):Tg m c k xs xs.length=Kf m c k xs:=by simp [Tg]
theorem G8 (k:Int) (xs:List α) (i:Nat) (l:α) (hl:xs[i]? =some l):(Tg m c k xs i)[i]? =some l:=by
  have hi:=(List.getElem?_eq_some_iff.1 hl).1
  unfold Tg
  rw [List.getElem?_append_right (by rw [Jm,List.length_take];omega),Jm,List.length_take,Nat.min_eq_left (by omega),Nat.sub_self,List.getElem?_drop]
  simpa using hl
theorem I8 (k:Int) (xs:List α) (i:Nat) (l:α) (hl:xs[i]? =some l):Tg m c k xs (i+1)=(Tg m c k xs i).set i (m (k+Ac c (xs.take i)) l):=by
  have hi:=(List.getElem?_eq_some_iff.1 hl).1
  unfold Tg
  rw [List.take_add_one,hl]
  show Kf m c k (xs.take i++[l])++_=_
  rw [oU,List.set_append_right _ _ (by rw [Jm,List.length_take];omega),Jm,List.length_take,Nat.min_eq_left (by omega),Nat.sub_self,List.append_assoc]
  congr 1
  rw [show xs.drop i=l::xs.drop (i+1) by rw [List.drop_eq_getElem_cons hi];congr 1;exact (List.getElem?_eq_some_iff.1 hl).2]
  rfl
theorem Ov (xs:List α) (i:Nat) (l:α) (hl:xs[i]? =some l):Ac c (xs.take i)+c l≤Ac c xs∧Ac c (xs.take (i+1))=Ac c (xs.take i)+c l:=by
  have hi:=(List.getElem?_eq_some_iff.1 hl).1
  have h1:xs.drop i=l::xs.drop (i+1):=by rw [List.drop_eq_getElem_cons hi];congr 1;exact (List.getElem?_eq_some_iff.1 hl).2
  constructor
  ·have h2:=congrArg (Ac c) (List.take_append_drop i xs)
   rw [D8,h1] at h2
   simp only [Ac] at h2
   omega
  ·rw [List.take_add_one,hl]
   show Ac c (xs.take i++[l])=_
   rw [D8]
   simp [Ac]
end
def Xp:Int→List (List Ls)→List (List Ls):=Kf Se Bc
def Xf:List (List Ls)→Nat:=Ac Bc
def Hj (k:Int) (p:Pk):Pk:=⟨k,⟨k+1,k+2,Kh (k+3) p.p.e⟩⟩
def Lh (p:Pk):Nat:=3+2*p.p.e.length
def Pv:Int→List Pk→List Pk:=Kf Hj Lh
def Zg:List Pk→Nat:=Ac Lh
set_option maxRecDepth 100000 in
set_option maxHeartbeats 1000000 in
theorem oV (A:Option Addr) (c:Nat) (k:Int) (w:World):Calls Tryz.prog 97 #[.slice A 0 c,.int .i64 k] w fun e w'=>e=.returned (.int .i64 k)∧Fc w w' (fun _=>False):=by
  go_enter Tryz.func97,Tryz.ntmps97
  go_wp2_with fail
  go_loopw [1,5] (fun kv i wr=>kv=.int .i64 k∧i=.int .i64 0∧Fc w wr (fun _=>False)) (fun _ i _=>0)
  case atStart=>exact ⟨rfl,rfl,Fc.refl _ _⟩
  case round =>
    obtain ⟨rfl,rfl,hC⟩:=hrel
    go_wp2_with fail
    go_ret
    exact ⟨rfl,hC⟩
theorem CR {w w':World} {E:Nat→Prop} {t:TypeId} {τ:Ty} {xs:List (El τ)} {b c:Nat} {u:Value} (H:UR w E t τ xs b c u) (hC:Fc w w' (fun _=>False)):Cd w w' E t τ xs xs b c u:=by
  have hall:∀n,n<w.heap.size→w'.heap[n]? =w.heap[n]? :=fun n hn=>hC.block n hn id
  have hk2:=H.heap.keepE (w':=w') hC.size (fun n hl=>hall n (Da.lt H.heap hl)) (fun n hn _=>hall n hn)
  refine ⟨⟨hk2,?_⟩,hC.mono fun _ _ h=>h.elim,fun k p σ v' h=>?_⟩
  ·obtain ⟨g1,g2,g3,g4⟩:=H.val
   exact ⟨g1,g2,g3,fun t' τ' ws e=>g4 t' τ' ws e⟩
  ·have h':=h
   obtain ⟨t1,τ1,ws,b1,c2,us,junk,z1,z2,z3,_⟩:=h'
   exact Nu H.heap z1 z1 (fun _ h=>h) (fun b' c' g1 g2 g3=>hall b' (Da.lt H.heap ⟨k,_,c',z1,g3,g1⟩)) (fun n hn _=>hall n hn) h
theorem oW (hE:Im Tryz.prog 98) {w:World} {E:Nat→Prop} {t:TypeId} {xs:List (List Ls)} {b c:Nat} {u:Value} (H:UR w E t .udb xs b c u) {i:Nat} {ys:List Ls} {v:Value} {k:Int} (hx:xs[i]? =some ys) (hR:Ri w E (fun _=>False) (.sl true .ls ys) v) (ho:Va w [.row t .udb xs] [(b,c)] 0 (i,0) .uls v) (hk0:0≤k) (hk1:k+Bc ys≤4000000000) (hl:ys.length≤16777216):Calls Tryz.prog 97 #[v,.int .i64 k] w fun e w'=>e=.returned (.int .i64 (k+Bc ys))∧Cd w w' E t .udb xs (xs.set i (Se k ys)) b c u:=by
  rcases Nat.eq_zero_or_pos ys.length with e|e
  ·obtain rfl:ys=[]:=List.length_eq_zero_iff.1 e
   obtain ⟨A,c1,rfl,_⟩:=P7 (τ:=.ls) hR
   have hxy:xs.set i (Se k [])=xs:=by
     refine List.ext_getElem? fun j=>?_
     rw [List.getElem?_set]
     by_cases e:i=j
     ·subst e;rw [if_pos rfl,if_pos (List.getElem?_eq_some_iff.1 hx).1,hx];rfl
     ·rw [if_neg e]
   refine (oV A c1 k w).mono ?_
   rintro e' w' ⟨rfl,hC⟩
   rw [hxy]
   exact ⟨by simp [Bc],CR H hC⟩
  ·obtain ⟨n,hs⟩:=Q7 (τ:=.ls) hR e
   obtain ⟨c1,hc1,H1,O1⟩:=oG H ho hs hx
   obtain ⟨_,_,_,A,hv,hA⟩:=H1.cells
   have hv':v=.slice (some ⟨n,0,none⟩) ys.length c1:=by rw [hv,hA hc1]
   subst hv'
   refine (oS hE w _ _ ys n c1 k hk0 hk1 hc1 hl H1).mono ?_
   rintro e' w' ⟨rfl,H2,hC,hO⟩
   have hset:∀m,MI w (Cg .uls) .uls ys n c1 m→m=n∨∃j,Mb w [.row t .udb xs] [(b,c)] 0 (i,j+1) m:=fun m h=>by
     rcases h with ⟨_,e⟩|⟨p,σ,v',h1,h2⟩
     ·exact .inl e
     ·exact .inr ⟨p.1,σ,v',(O1 p σ v' h1).2,h2⟩
   obtain ⟨g1,g2⟩:=oH H ho hs (hC.mono fun m _ h=>hset m h) H2 hc1 (fun p σ v' h=>(O1 p σ v' (hO 0 p σ v' h)).2)
   refine ⟨rfl,g1,hC.mono fun m _ h=>?_,g2⟩
   rcases hset m h with e|⟨j,h⟩
   ·exact .inr ⟨(i,0),.uls,_,ho,e▸hs⟩
   ·exact .inr ⟨_,h⟩
set_option maxRecDepth 100000 in
set_option maxHeartbeats 4000000 in
theorem oX (hE:Im Tryz.prog 98) (w:World) (E:Nat→Prop) (t:TypeId) (xs:List (List Ls)) (b c:Nat) (k:Int) (h0:0≤k) (hk:k+Xf xs≤4000000000) (hc:0<c) (hlen:xs.length≤16777216) (hls:∀ys∈xs,ys.length≤16777216) (H:UR w E t .udb xs b c (.slice (some ⟨b,0,none⟩) xs.length c)):Calls Tryz.prog 52 #[.slice (some ⟨b,0,none⟩) xs.length c,.int .i64 k] w fun e w'=>e=.returned (.int .i64 (k+Xf xs))∧Cd w w' E t .udb xs (Xp k xs) b c (.slice (some ⟨b,0,none⟩) xs.length c):=by
  have H0:=Lib.hid H;clear H
  have Hk:=Lib.hid hk;clear hk
  have HLS:=Lib.hid hls;clear hls
  go_enter Tryz.func52,Tryz.ntmps52
  go_wp2_with fail
  go_loopw [1,5] (fun kv iv wr=>∃(i:Nat) (K:Int),i≤xs.length∧iv=.int .i64 i∧kv=.int .i64 K∧Hid (K=k+Xf (xs.take i))∧Hid (Cd w wr E t .udb xs (Tg Se Bc k xs i) b c (.slice (some ⟨b,0,none⟩) xs.length c))) (fun _ i _=>xs.length-(intOf i).toNat)
  case atStart=>exact ⟨0,k,Nat.zero_le _,rfl,rfl,by simp [Hid,Xf,Ac],by rw [E8];exact Cd.refl H0.out⟩
  case round =>
    obtain ⟨i,K,hi,rfl,rfl,HK,HM⟩:=hrel
    by_cases hlt:i<xs.length
    ·obtain ⟨l,HL⟩:∃l,Hid (xs[i]? =some l):=⟨_,List.getElem?_eq_getElem hlt⟩
     have hKb:0≤K∧K+Bc l≤4000000000:=by
       have e1:=HK.out
       have e2:=Hk.out
       have e3:=(Ov (c:=Bc) xs i l HL.out).1
       unfold Xf at e1 e2
       omega
     have hK0:=hKb.1
     have hK1:=hKb.2
     clear hKb
     obtain ⟨ys,HY⟩:∃ys,Hid (ys=Tg Se Bc k xs i):=⟨_,rfl⟩
     have HA:Hid (ys[i]? =some l):=by show ys[i]? =some l;rw [HY.out];exact G8 k xs i l HL.out
     have M0:Cd w wr E t .udb xs ys b c (.slice (some ⟨b,0,none⟩) xs.length c):=by rw [HY.out];exact HM.out
     obtain ⟨⟨v2,c2,R2,O2⟩,_⟩:=No (τ:=.udb) M0.1 hc (r:=0) HA.out rfl
     have hz:i*sz .udb+0=i:=by simp [sz]
     rw [hz] at c2 O2
     have hcall:=(oW hE M0.1 HA.out R2 (O2 rfl rfl) hK0 hK1 (HLS.out l (List.mem_of_getElem? HL.out))).mono (R':=fun e w'=>e=.returned (.int .i64 (K+Bc l))∧Hid (Cd w w' E t .udb xs (Tg Se Bc k xs (i+1)) b c (.slice (some ⟨b,0,none⟩) xs.length c))) (fun e w' ⟨h1,h2⟩=>⟨h1,by
       have h3:=M0.trans h2
       rw [HY.out] at h3
       have h4:=I8 (m:=Se) (c:=Bc) k xs i l HL.out
       have h5:=HK.out
       unfold Xf at h5
       rw [←h5] at h4
       show Cd w w' E t .udb xs (Tg Se Bc k xs (i+1)) b c _
       rw [h4]
       exact h3⟩)
     have HC:=Lib.hid hcall
     clear hcall M0 R2 O2 hz
     go_wp2_with (first|(go_at_call 97;refine HC.out.mono ?_;rintro e w' ⟨rfl,HM2⟩))
     go_roundw
     case rel =>
       refine ⟨i+1,K+Bc l,by omega,by go_num,rfl,?_,HM2⟩
       show _=_
       have e1:=HK.out
       have e3:=(Ov (c:=Bc) xs i l HL.out).2
       unfold Xf at e1 ⊢
       rw [e3,e1]
       omega
     case measure=>simp [intOf];omega
    ·obtain rfl:i=xs.length:=by omega
     go_wp2_with fail
     go_ret
     refine ⟨by have:=HK.out;rw [List.take_length] at this;rw [←this];rfl,?_⟩
     have:=HM.out
     rw [F8] at this
     exact this
end
section
open Go.RowKit
set_option maxRecDepth 100000 in
set_option maxHeartbeats 1000000 in
theorem oY (A:Option Addr) (c:Nat) (k:Int) (w:World):Calls Tryz.prog 52 #[.slice A 0 c,.int .i64 k] w fun e w'=>e=.returned (.int .i64 k)∧Fc w w' (fun _=>False):=by
  go_enter Tryz.func52,Tryz.ntmps52
  go_wp2_with fail
  go_loopw [1,5] (fun kv i wr=>kv=.int .i64 k∧i=.int .i64 0∧Fc w wr (fun _=>False)) (fun _ i _=>0)
  case atStart=>exact ⟨rfl,rfl,Fc.refl _ _⟩
  case round =>
    obtain ⟨rfl,rfl,hC⟩:=hrel
    go_wp2_with fail
    go_ret
    exact ⟨rfl,hC⟩
set_option maxRecDepth 100000 in
set_option maxHeartbeats 1000000 in
theorem oZ (A:Option Addr) (c:Nat) (k:Int) (w:World):Calls Tryz.prog 53 #[.slice A 0 c,.int .i64 k] w fun e w'=>e=.returned (.int .i64 k)∧Fc w w' (fun _=>False):=by
  go_enter Tryz.func53,Tryz.ntmps53
  go_wp2_with fail
  go_loopw [1,5] (fun kv i wr=>kv=.int .i64 k∧i=.int .i64 0∧Fc w wr (fun _=>False)) (fun _ i _=>0)
  case atStart=>exact ⟨rfl,rfl,Fc.refl _ _⟩
  case round =>
    obtain ⟨rfl,rfl,hC⟩:=hrel
    go_wp2_with fail
    go_ret
    exact ⟨rfl,hC⟩
theorem DR {α:Type} {ys:List α} {i:Nat} {x y:α} (h:ys[i]? =some x):(ys.set i y)[i]? =some y:=by rw [List.getElem?_set,if_pos rfl,if_pos (List.getElem?_eq_some_iff.1 h).1]
set_option maxRecDepth 100000 in
set_option maxHeartbeats 4000000 in
theorem pA (hE:Im Tryz.prog 98) (w:World) (E:Nat→Prop) (t:TypeId) (xs:List Pk) (b c:Nat) (k:Int) (h0:0≤k) (hk:k+Zg xs≤4000000000) (hc:0<c) (hlen:xs.length≤16777216) (H:UR w E t .upk xs b c (.slice (some ⟨b,0,none⟩) xs.length c)):Calls Tryz.prog 53 #[.slice (some ⟨b,0,none⟩) xs.length c,.int .i64 k] w fun e w'=>e=.returned (.int .i64 (k+Zg xs))∧Cd w w' E t .upk xs (Pv k xs) b c (.slice (some ⟨b,0,none⟩) xs.length c):=by
  have H0:=Lib.hid H;clear H
  have Hk:=Lib.hid hk;clear hk
  go_enter Tryz.func53,Tryz.ntmps53
  go_wp2_with fail
  go_loopw [1,5] (fun kv iv wr=>∃(i:Nat) (K:Int),i≤xs.length∧iv=.int .i64 i∧kv=.int .i64 K∧Hid (K=k+Zg (xs.take i))∧Hid (Cd w wr E t .upk xs (Tg Hj Lh k xs i) b c (.slice (some ⟨b,0,none⟩) xs.length c))) (fun _ i _=>xs.length-(intOf i).toNat)
  case atStart=>exact ⟨0,k,Nat.zero_le _,rfl,rfl,by simp [Hid,Zg,Ac],by rw [E8];exact Cd.refl H0.out⟩
  case round =>
    obtain ⟨i,K,hi,rfl,rfl,HK,HM⟩:=hrel
    by_cases hlt:i<xs.length
    ·obtain ⟨l,HL⟩:∃l,Hid (xs[i]? =some l):=⟨_,List.getElem?_eq_getElem hlt⟩
     have hKb:0≤K∧K+3+2*l.p.e.length≤4000000000:=by
       have e1:=HK.out
       have e2:=Hk.out
       have e3:=(Ov (c:=Lh) xs i l HL.out).1
       unfold Zg at e1 e2
       have e4:Lh l=3+2*l.p.e.length:=rfl
       omega
     have hK0:=hKb.1
     have hK1:=hKb.2
     clear hKb
     obtain ⟨ys,HY⟩:∃ys,Hid (ys=Tg Hj Lh k xs i):=⟨_,rfl⟩
     have HA:Hid (ys[i]? =some l):=by show ys[i]? =some l;rw [HY.out];exact G8 k xs i l HL.out
     have M0:Cd w wr E t .upk xs ys b c (.slice (some ⟨b,0,none⟩) xs.length c):=by rw [HY.out];exact HM.out
     obtain ⟨⟨v0,c0,_,_⟩,f0⟩:=No M0.1 hc (r:=0) HA.out rfl
     have M1:=M0.trans (Sy (z:=K) (y:=(⟨K,⟨l.p.o,l.p.s,l.p.e⟩⟩:Pk)) M0.1 hc (by intro h;cases h) HA.out (r:=0) (by decide) (by decide) rfl)
     have A1:=DR (y:=(⟨K,⟨l.p.o,l.p.s,l.p.e⟩⟩:Pk)) HA.out
     obtain ⟨⟨v1,c1,_,_⟩,f1⟩:=No M1.1 hc (r:=1) A1 rfl
     have M2:=M1.trans (Sy (z:=K+1) (y:=(⟨K,⟨K+1,l.p.s,l.p.e⟩⟩:Pk)) M1.1 hc (by intro h;cases h) A1 (r:=1) (by decide) (by decide) rfl)
     have A2:=DR (y:=(⟨K,⟨K+1,l.p.s,l.p.e⟩⟩:Pk)) A1
     obtain ⟨⟨v2,c2,_,_⟩,f2⟩:=No M2.1 hc (r:=2) A2 rfl
     have M3:=M2.trans (Sy (z:=K+1+1) (y:=(⟨K,⟨K+1,K+1+1,l.p.e⟩⟩:Pk)) M2.1 hc (by intro h;cases h) A2 (r:=2) (by decide) (by decide) rfl)
     have A3:=DR (y:=(⟨K,⟨K+1,K+1+1,l.p.e⟩⟩:Pk)) A2
     obtain ⟨⟨v3,c3,R3,O3⟩,_⟩:=No M3.1 hc (r:=3) A3 rfl
     have hcall:=(C8 hE Z7 M3.1 hc rfl (by intro h;cases h) (k:=K+1+1+1) (y:=(⟨K,⟨K+1,K+1+1,Kh (K+1+1+1) l.p.e⟩⟩:Pk)) A3 R3 (O3 rfl rfl) rfl (fun zs e=>by subst e;rfl) (by decide) (by omega) (by show K+1+1+1+2*(l.p.e.length:Int)≤_;omega)).mono (R':=fun e w'=>e=.returned (.int .i64 (K+1+1+1+2*l.p.e.length))∧Hid (Cd w w' E t .upk xs (Tg Hj Lh k xs (i+1)) b c (.slice (some ⟨b,0,none⟩) xs.length c))) (fun e w' ⟨h1,h2⟩=>⟨h1,by
       have h3:=M3.trans h2
       rw [List.set_set,List.set_set,List.set_set,HY.out] at h3
       have h4:=I8 (m:=Hj) (c:=Lh) k xs i l HL.out
       have h5:=HK.out
       unfold Zg at h5
       rw [←h5] at h4
       show Cd w w' E t .upk xs (Tg Hj Lh k xs (i+1)) b c _
       rw [h4]
       unfold Hj
       rw [show K+2=K+1+1 by omega,show K+3=K+1+1+1 by omega]
       exact h3⟩)
     simp only [sz,Nat.add_zero] at c0 f0 c1 f1 c2 f2 c3 hcall
     have HC:=Lib.hid hcall
     clear hcall M0 M1 M2 M3 A1 A2 A3 R3 O3
     go_wp2_with (first|(go_at_call 98;refine HC.out.mono ?_;rintro e w' ⟨rfl,HM2⟩))
     go_roundw
     case rel =>
       refine ⟨i+1,K+1+1+1+2*l.p.e.length,by omega,by go_num,rfl,?_,HM2⟩
       show _=_
       have e1:=HK.out
       have e3:=(Ov (c:=Lh) xs i l HL.out).2
       unfold Zg at e1 ⊢
       have e4:Lh l=3+2*l.p.e.length:=rfl
       rw [e3,e1,e4]
       omega
     case measure=>simp [intOf];omega
    ·obtain rfl:i=xs.length:=by omega
     go_wp2_with fail
     go_ret
     refine ⟨by have:=HK.out;rw [List.take_length] at this;rw [←this];rfl,?_⟩
     have:=HM.out
     rw [F8] at this
     exact this
def Yp (P:Program) (f:FuncId) (t:TypeId) (τ:Ty) (mk:Int→List (El τ)→List (El τ)) (cnt:List (El τ)→Nat) (ok:List (El τ)→Prop):Prop:=∀(w:World) (E:Nat→Prop) (xs:List (El τ)) (b c:Nat) (u:Value) (k:Int),0≤k→k+cnt xs≤4000000000→xs.length≤16777216→ok xs→UR w E t τ xs b c u→Calls P f #[u,.int .i64 k] w fun e w'=>e=.returned (.int .i64 (k+cnt xs))∧Cd w w' E t τ xs (mk k xs) b c u
theorem pB (hE:Im Tryz.prog 98) (t:TypeId):Yp Tryz.prog 52 t .udb Xp Xf (fun xs=>∀ys∈xs,List.length (α:=Ls) ys≤16777216):=fun w E xs b c u k h0 hk hl hok H=>by
  obtain ⟨h1,h2,h3,A,rfl,h4⟩:=H.cells
  rcases Nat.eq_zero_or_pos c with hc|hc
  ·obtain rfl:=h1 hc
   refine (oY A c k w).mono ?_
   rintro e w' ⟨rfl,hC⟩
   exact ⟨by simp [Xf,Ac],CR H hC⟩
  ·obtain rfl:=h4 hc
   exact oX hE w E t xs b c k h0 hk hc hl hok H
theorem pC (hE:Im Tryz.prog 98) (t:TypeId):Yp Tryz.prog 53 t .upk Pv Zg (fun _=>True):=fun w E xs b c u k h0 hk hl _ H=>by
  obtain ⟨h1,h2,h3,A,rfl,h4⟩:=H.cells
  rcases Nat.eq_zero_or_pos c with hc|hc
  ·obtain rfl:=h1 hc
   refine (oZ A c k w).mono ?_
   rintro e w' ⟨rfl,hC⟩
   exact ⟨by simp [Zg,Ac],CR H hC⟩
  ·obtain rfl:=h4 hc
   exact pA hE w E t xs b c k h0 hk hc hl H
end
section
open Go.RowKit
def ER (P:Program) (f:FuncId) (mk:Int→List Lk→List Lk):Prop:=∀(w:World) (E:Nat→Prop) (n:Int) (xs:List Lk) (b c:Nat) (u:Value) (k:Int),0≤k→k+3*xs.length≤4000000000→xs.length≤16777216→UR w E 114 .lk xs b c u→Calls P f #[.agg #[.int .i64 n,u],.int .i64 k] w fun e w'=>e=.returned (.int .i64 (k+3*xs.length))∧Cd w w' E 114 .lk xs (mk k xs) b c u
def J8 (v:Value) (n:Int) (u0 u1 u2 u3 u4:Value):Prop:=v=.agg #[.int .i64 n,u0,u1,u2,u3,u4]
theorem WM.vals {w:World} {lo hi:Nat} {W:Wl} {v:Value} (h:WM w lo hi W v):∃u0 u1 u2 u3 u4,J8 v W.1 u0 u1 u2 u3 u4:=by
  obtain ⟨_,β,_,_,us,rfl,h3⟩:=h
  obtain ⟨x0,r,rfl,g0,h3⟩:=h3.cons_inv
  obtain ⟨u1,r,rfl,g1,h3⟩:=h3.cons_inv
  obtain ⟨u2,r,rfl,g2,h3⟩:=h3.cons_inv
  obtain ⟨u3,r,rfl,g3,h3⟩:=h3.cons_inv
  obtain ⟨u4,r,rfl,g4,h3⟩:=h3.cons_inv
  obtain ⟨u5,r,rfl,g5,h3⟩:=h3.cons_inv
  obtain rfl:=h3.nil_inv
  have g0:Ri w _ _ (iI W.1) x0:=g0
  cases g0
  exact ⟨u1,u2,u3,u4,u5,rfl⟩
theorem WM.row {w:World} {lo hi:Nat} {W W':Wl} {v:Value} {n:Int} {us:List Value} (h:WM w lo hi W v) (hv:v=.agg (Value.int .i64 n::us).toArray) {k:Nat} {t:TypeId} {τ:Ty} {xs xs':List (El τ)} {u:Value} (hk:(Xc W)[k]? =some (.row t τ xs)) (hu:us[k]? =some u) (hW:Xc W'=(Xc W).set k (.row t τ xs')) (hn:W'.1=W.1) (hlen:xs'.length=xs.length):∃E b c,UR w E t τ xs b c u∧∀w',Cd w w' E t τ xs xs' b c u→WM w' lo hi W' v∧Fc w w' (fun m=>lo≤m∧m<hi):=by
  obtain ⟨h0,β,h1,h2,vs,hvs,h3⟩:=h
  have hvs:(Value.int .i64 n::us).toArray=vs.toArray:=by rw [hv] at hvs;injection hvs
  have hvs:Value.int .i64 n::us=vs:=by simpa using congrArg Array.toList hvs
  subst hvs
  have hkl:k<5:=by
    have:=(List.getElem?_eq_some_iff.1 hk).1
    simpa [Xc] using this
  have hc:C1 w (fun b=>Da (Xc W) β b∨(b<lo∨hi≤b)) (fun _=>False) (Xc W) β (.own k) u:=by
    have hd:[PV.im (iI W.1),.own 0,.own 1,.own 2,.own 3,.own 4][k+1]? =some (.own k):=by
      match k,hkl with
      |0,_=>rfl
      |1,_=>rfl
      |2,_=>rfl
      |3,_=>rfl
      |4,_=>rfl
    exact h3.2 (k+1) _ u hd hu
  have hp:∀o∈Xc W,Jo o=true:=fun o ho=>by
    simp only [Xc,List.mem_cons,List.not_mem_nil,or_false] at ho
    rcases ho with rfl|rfl|rfl|rfl|rfl<;>rfl
  obtain ⟨b,c,hβ,H⟩:=oJ h1 hk (hp _ (List.mem_of_getElem? hk)) hc
  refine ⟨_,b,c,H,fun w' M=>?_⟩
  have hin:∀m,m<w.heap.size→MI w t τ xs b c m→lo≤m∧m<hi:=fun m _ hm=>by
    rcases hm with ⟨hc,rfl⟩|⟨p,σ,v',z1,z2⟩
    ·exact h2 m ⟨k,_,c,hk,hc,hβ⟩
    ·have:=(Je h1.ok (Vp hk hβ z1).2 z2).2
     omega
  have hC:=M.2.1.mono hin
  have hH:=oK h1 hp hk hβ M.1 M.2.1 (fun p σ v' h=>M.2.2 0 p σ v' h)
  have hlv:∀b',Da (Xc W') β b'→Da (Xc W) β b':=fun b' ⟨j,o,c',z1,z2,z3⟩=>by
    rw [hW,List.getElem?_set] at z1
    by_cases e:k=j
    ·subst e
     rw [if_pos rfl,if_pos (List.getElem?_eq_some_iff.1 hk).1] at z1
     injection z1 with z1
     subst z1
     exact ⟨k,_,c',hk,z2,z3⟩
    ·rw [if_neg e] at z1
     exact ⟨j,o,c',z1,z2,z3⟩
  have hlv':∀b',Da (Xc W) β b'→Da (Xc W') β b':=fun b' ⟨j,o,c',z1,z2,z3⟩=>by
    by_cases e:k=j
    ·subst e
     rw [hk] at z1
     injection z1 with z1
     subst z1
     exact ⟨k,.row t τ xs',c',by rw [hW,List.getElem?_set,if_pos rfl,if_pos (List.getElem?_eq_some_iff.1 hk).1],z2,z3⟩
    ·exact ⟨j,o,c',by rw [hW,List.getElem?_set,if_neg e];exact z1,z2,z3⟩
  have hEE:(fun b=>Da (Xc W) β b∨(b<lo∨hi≤b))=(fun b=>Da (Xc W') β b∨(b<lo∨hi≤b)):=by
    funext b'
    exact propext ⟨fun h=>h.imp (hlv' b') id,fun h=>h.imp (hlv b') id⟩
  rw [hEE,←hW] at hH
  refine ⟨⟨Nat.le_trans h0 hC.size,β,hH,fun b' h=>h2 b' (hlv b' h),_,hv,⟨h3.1,fun i x u' hx hu'=>?_⟩⟩,hC⟩
  have hkeep:Ec (Xc W) (Xc W'):=⟨by rw [hW,List.length_set];exact Nat.le_refl _,fun j t' τ' ws hj e=>by
    rw [hW,List.getElem?_set] at e
    by_cases e2:k=j
    ·subst e2
     rw [if_pos rfl,if_pos (List.getElem?_eq_some_iff.1 hk).1] at e
     injection e with e
     injection e with e3 e4 e5
     subst e3 e4
     have e5:=eq_of_heq e5
     subst e5
     exact .inl ⟨xs,hk,hlen.symm⟩
    ·rw [if_neg e2] at e
     exact .inl ⟨ws,e,rfl⟩,fun j hj e=>by
    unfold Wb at *
    rw [hW,List.getElem?_set] at e
    by_cases e2:k=j
    ·rw [if_pos e2,if_pos (List.getElem?_eq_some_iff.1 hk).1] at e;cases e
    ·rw [if_neg e2] at e;exact e⟩
  rw [hn] at hx
  have hc1:=h3.2 i x u' hx hu'
  rw [hEE] at hc1
  have hm:=List.mem_of_getElem? hx
  simp only [List.mem_cons,List.not_mem_nil,or_false] at hm
  rcases hm with rfl|rfl|rfl|rfl|rfl|rfl
  ·have hc1:Ri w _ _ (iI W.1) u':=hc1
   cases hc1
   exact Ri.s _
  all_goals exact C1.keep (w:=w) (w':=w) (fun _ _ _=>rfl) (Nat.le_refl _) (fun _ _ h=>h) (fun _ _ _ h=>h) hkeep (fun _ _ h=>h) hc1
def Ah (W:Wl):Nat:=3*W.2.1.length+W.2.2.1.length+W.2.2.2.1.length+Xf W.2.2.2.2.1+Zg W.2.2.2.2.2
def Km (mkg:Int→List Lk→List Lk) (mkb:Int→List Bool→List Bool) (mki:Int→List Int→List Int) (k:Int) (W:Wl):Wl :=
  (W.1,mkg k W.2.1,mkb (k+3*W.2.1.length) W.2.2.1,mki (k+3*W.2.1.length+W.2.2.1.length) W.2.2.2.1,Xp (k+3*W.2.1.length+W.2.2.1.length+W.2.2.2.1.length) W.2.2.2.2.1,Pv (k+3*W.2.1.length+W.2.2.1.length+W.2.2.2.1.length+Xf W.2.2.2.2.1) W.2.2.2.2.2)
theorem pD (k:Int) (xs:List (List Ls)):(Xp k xs).length=xs.length:=Jm _ _
theorem pE (k:Int) (xs:List Pk):(Pv k xs).length=xs.length:=Jm _ _
theorem OI {P:Program} {f:FuncId} {t:TypeId} {τ:Ty} {mk:Int→List (El τ)→List (El τ)} {cnt:List (El τ)→Nat} {ok:List (El τ)→Prop} (hM:Yp P f t τ mk cnt ok) (hml:∀k xs,(mk k xs).length=xs.length) {w wa:World} {lo hi B:Nat} {W W':Wl} {v:Value} {n:Int} {us cs:List Value} {k:Nat} {xs:List (El τ)} {u:Value} {K:Int} (hC:Hid (Fc w wa (fun m=>lo≤m∧m<hi))) (H:Hid (WM wa lo hi W v)) (hv:v=.agg (Value.int .i64 n::us).toArray) (hk:(Xc W)[k]? =some (.row t τ xs)) (hu:us[k]? =some u) (hW:Xc W'=(Xc W).set k (.row t τ (mk K xs))) (hn:W'.1=W.1) (hB:hi≤B) (hb:∀(j:Nat) x,cs[j]? =some x→wa.cell? ⟨B,j,none⟩=some x) (h0:0≤K) (hK:K+cnt xs≤4000000000) (hl:xs.length≤16777216) (hok:ok xs):Calls P f #[u,.int .i64 K] wa fun e w'=>e=.returned (.int .i64 (K+cnt xs))∧Hid (WM w' lo hi W' v)∧Hid (Fc w w' (fun m=>lo≤m∧m<hi))∧∀(j:Nat) x,cs[j]? =some x→w'.cell? ⟨B,j,none⟩=some x:=by
  obtain ⟨E,b,c,H1,H2⟩:=H.out.row hv hk hu hW hn (hml K xs)
  refine (hM wa E xs b c u K h0 hK hl hok H1).mono ?_
  rintro e w' ⟨rfl,M⟩
  obtain ⟨H3,C3⟩:=H2 w' M
  refine ⟨rfl,H3,hC.out.trans C3,fun j x hx=>?_⟩
  have:=hb j x hx
  exact (World.cell?_of_block (a:=⟨B,j,none⟩) (C3.block B (CG this) (by omega))).trans this
theorem pF {P:Program} {f:FuncId} {mk:Int→List Lk→List Lk} (hM:ER P f mk) (hml:∀k xs,(mk k xs).length=xs.length) {w wa:World} {lo hi B:Nat} {W:Wl} {v:Value} {n:Int} {us cs:List Value} {u:Value} {K:Int} (hC:Hid (Fc w wa (fun m=>lo≤m∧m<hi))) (H:Hid (WM wa lo hi W v)) (hv:v=.agg (Value.int .i64 n::us).toArray) (hu:us[0]? =some u) (hB:hi≤B) (hb:∀(j:Nat) x,cs[j]? =some x→wa.cell? ⟨B,j,none⟩=some x) (h0:0≤K) (hK:K+3*W.2.1.length≤4000000000) (hl:W.2.1.length≤16777216):Calls P f #[.agg #[.int .i64 n,u],.int .i64 K] wa fun e w'=>e=.returned (.int .i64 (K+3*W.2.1.length))∧Hid (WM w' lo hi (W.1,mk K W.2.1,W.2.2) v)∧Hid (Fc w w' (fun m=>lo≤m∧m<hi))∧∀(j:Nat) x,cs[j]? =some x→w'.cell? ⟨B,j,none⟩=some x:=by
  obtain ⟨E,b,c,H1,H2⟩:=H.out.row (W':=(W.1,mk K W.2.1,W.2.2)) (k:=0) hv rfl hu rfl rfl (hml K W.2.1)
  refine (hM wa E n W.2.1 b c u K h0 hK hl H1).mono ?_
  rintro e w' ⟨rfl,M⟩
  obtain ⟨H3,C3⟩:=H2 w' M
  refine ⟨rfl,H3,hC.out.trans C3,fun j x hx=>?_⟩
  have:=hb j x hx
  exact (World.cell?_of_block (a:=⟨B,j,none⟩) (C3.block B (CG this) (by omega))).trans this
theorem K8 (w:World) (cs:List Value) (t:TypeId):∀(j:Nat) x,cs[j]? =some x→(w.alloc (.cells cs.toArray t)).cell? ⟨w.heap.size,j,none⟩=some x:=fun j x hx=>by
  rw [cell_of_row _ _ _ _ _ _ (heap_alloc_new w (.cells cs.toArray t)),List.getElem?_toArray];exact hx
set_option maxRecDepth 100000 in
set_option maxHeartbeats 4000000 in
theorem pG {mkg:Int→List Lk→List Lk} {mkb:Int→List Bool→List Bool} {mki:Int→List Int→List Int} (hG:ER Tryz.prog 15 mkg) (hB:Yp Tryz.prog 50 4 .bool mkb List.length (fun _=>True)) (hI:Yp Tryz.prog 51 3 .int mki List.length (fun _=>True)) (hE:Im Tryz.prog 98)
    (lg:∀k xs,(mkg k xs).length=xs.length) (lb:∀k xs,(mkb k xs).length=xs.length) (li:∀k xs,(mki k xs).length=xs.length) (w:World) (lo hi:Nat) (W:Wl) (v:Value) (k:Int) (h0:0≤k) (hk:k+Ah W≤4000000000) (hl:W.2.1.length≤16777216∧W.2.2.1.length≤16777216∧W.2.2.2.1.length≤16777216∧W.2.2.2.2.1.length≤16777216∧W.2.2.2.2.2.length≤16777216∧∀ys∈W.2.2.2.2.1,List.length (α:=Ls) ys≤16777216) (H:WM w lo hi W v):Calls Tryz.prog 14 #[v,.int .i64 k] w fun e w'=>e=.returned (.int .i64 (k+Ah W))∧WM w' lo hi (Km mkg mkb mki k W) v∧Fc w w' (fun m=>lo≤m∧m<hi):=by
  obtain ⟨u0,u1,u2,u3,u4,hv⟩:=H.vals
  unfold J8 at hv
  obtain ⟨n,ls,up,sq,db,net⟩:=W
  dsimp only at hv hl
  obtain ⟨l0,l1,l2,l3,l4,l5⟩:=hl
  unfold Ah at hk ⊢
  dsimp only at hk ⊢
  have HH:=Lib.hid H
  have hhi:=H.1
  clear H
  subst hv
  have hv0:Value.agg #[.int .i64 n,u0,u1,u2,u3,u4]=.agg (Value.int .i64 n::[u0,u1,u2,u3,u4]).toArray:=rfl
  have hba:∀(j:Nat) x,[Value.int .i64 n,u0,u1,u2,u3,u4][j]? =some x→(w.alloc (.cells #[.int .i64 n,u0,u1,u2,u3,u4] 39)).cell? ⟨w.heap.size,j,none⟩=some x:=K8 w _ _
  have hbl:Below w.heap.size w (w.alloc (.cells #[.int .i64 n,u0,u1,u2,u3,u4] 39)):=(Below.refl _ _).alloc (Nat.le_refl _) _
  have HA:Hid (WM (w.alloc (.cells #[.int .i64 n,u0,u1,u2,u3,u4] 39)) lo hi (n,ls,up,sq,db,net) (.agg #[.int .i64 n,u0,u1,u2,u3,u4])):=HH.out.keep hbl.size (fun b h1 h2=>hbl.block b (by omega))
  have CA:Hid (Fc w (w.alloc (.cells #[.int .i64 n,u0,u1,u2,u3,u4] 39)) (fun m=>lo≤m∧m<hi)):=⟨hbl.os,hbl.tape,hbl.output,hbl.size,fun m hm _=>hbl.block m hm⟩
  have c1:=Lib.hid (pF hG lg CA HA hv0 rfl hhi hba h0 (by dsimp only;omega) l0)
  have Hb:=Lib.hid hB;have Hi:=Lib.hid hI;have He:=Lib.hid hE
  have H5:=Lib.hid l5
  clear hba hbl HA CA hG hB hI hE l5 HH
  go_enter Tryz.func14,Tryz.ntmps14
  go_wp2_with fail
  refine Calls.mono c1.out ?_
  rintro e w1 ⟨rfl,H1,C1,b1⟩
  clear c1
  try dsimp only at H1
  have f1:=b1 2 u1 rfl
  have c2:=Lib.hid (OI (W':=(n,mkg k ls,mkb (k+3*ls.length) up,sq,db,net)) Hb.out lb C1 H1 (us:=[u0,u1,u2,u3,u4]) rfl (k:=1) (xs:=up) rfl rfl rfl rfl hhi b1 (by omega) (by omega) l1 trivial)
  clear H1 C1 b1
  try dsimp only
  go_wp2_with fail
  refine Calls.mono c2.out ?_
  rintro e w2 ⟨rfl,H2,C2,b2⟩
  clear c2 f1
  have f2:=b2 3 u2 rfl
  have c3:=Lib.hid (OI (W':=(n,mkg k ls,mkb (k+3*ls.length) up,mki (k+3*ls.length+up.length) sq,db,net)) Hi.out li C2 H2 (us:=[u0,u1,u2,u3,u4]) rfl (k:=2) (xs:=sq) rfl rfl rfl rfl hhi b2 (by omega) (by omega) l2 trivial)
  clear H2 C2 b2
  try dsimp only
  go_wp2_with fail
  refine Calls.mono c3.out ?_
  rintro e w3 ⟨rfl,H3,C3,b3⟩
  clear c3 f2
  have f3:=b3 4 u3 rfl
  have c4:=Lib.hid (OI (W':=(n,mkg k ls,mkb (k+3*ls.length) up,mki (k+3*ls.length+up.length) sq,Xp (k+3*ls.length+up.length+sq.length) db,net)) (pB He.out _) pD C3 H3 (us:=[u0,u1,u2,u3,u4]) rfl (k:=3) (xs:=db) rfl rfl rfl rfl hhi b3 (by omega) (by omega) l3 H5.out)
  clear H3 C3 b3
  try dsimp only
  go_wp2_with fail
  refine Calls.mono c4.out ?_
  rintro e w4 ⟨rfl,H4,C4,b4⟩
  clear c4 f3
  have f4:=b4 5 u4 rfl
  have c5:=Lib.hid (OI (W':=(n,mkg k ls,mkb (k+3*ls.length) up,mki (k+3*ls.length+up.length) sq,Xp (k+3*ls.length+up.length+sq.length) db,Pv (k+3*ls.length+up.length+sq.length+Xf db) net)) (pC He.out _) pE C4 H4 (us:=[u0,u1,u2,u3,u4]) rfl (k:=4) (xs:=net) rfl rfl rfl rfl hhi b4 (by omega) (by omega) l4 trivial)
  clear H4 C4 b4
  try dsimp only
  go_wp2_with fail
  refine Calls.mono c5.out ?_
  rintro e w5 ⟨rfl,H5',C5,_⟩
  clear c5 f4
  try dsimp only
  go_wp2_with fail
  go_ret
  refine ⟨fP (by omega),H5'.out,C5.out⟩
end
section
open Go.RowKit
theorem PI {P:Program} {f:FuncId} {e:Ma} (hg:GC P f e) {w:World} {E:Nat→Prop} {t:TypeId} {τ:Ty} {xs xs':List (El τ)} {b c:Nat} {u:Value} {k k':Int} {d:PV} {v:Value} {s:HL e.ah} {r:HL e.rh} (hs:e.sh s=some r) (hf:e.AS.fill (up e.ah s)=some ([d,.im (iI k)],[.row t τ xs])) (hr:e.RS.fill (up e.rh r)=some ([.im (iI k')],[.row t τ xs'])) (hfl:τ.flat=true) (hlen:xs'.length=xs.length) (hG:∀h β,Sh w h β) (H:UR w E t τ xs b c u) (hd:Cv w (Da [.row t τ xs] [(b,c)]) (fun _=>False) [.row t τ xs] [(b,c)] d v):Calls P f #[v,.int .i64 k] w fun ex w'=>ex=.returned (.int .i64 k')∧UR w' E t τ xs' b c u∧Fc w w' (fun m=>0<c∧m=b):=by
  have hu:τ.u=false:=by cases τ<;>first|rfl|cases hfl
  have h0:=H.heap.down (E':=Da [.row t τ xs] [(b,c)]) (fun n hn=>H.heap.sub n hn) (fun _ h=>h)
  refine (hg s r hs _ _ hf _ _ hr w (fun _=>False) [(b,c)] [v,.int .i64 k] (fun _ h=>h.elim) h0 (F2.cons hd (F2.cons (Ri.s _) F2.nil)) (hG _ _)).mono ?_
  rintro ex w' ⟨u',β',rfl,hst,hh,hc⟩
  have hβ0:=hst.beta 0 (b,c) rfl
  have hβ:β'=[(b,c)]:=by
    have hl:=hh.len
    match β',hl,hβ0 with
    |[p],_,h=>simp at h;rw [h]
  subst hβ
  have hu':u'=.int .i64 k':=by
    have hc:Ri w' _ _ (iI k') u':=hc
    cases hc;rfl
  have noocc:∀{w2:World} {ys:List (El τ)} {β2:List (Nat×Nat)} {j:Nat} {p:Nat×Nat} {σ:Ty} {x:Value},¬Va w2 [.row t τ ys] β2 j p σ x:=fun {w2 ys β2 j p σ x} ⟨t1,τ1,zs,b1,c1,us1,junk,z1,_,_,_,_,z6⟩=>by
    obtain ⟨_,e⟩:=Vc z1
    have e:=e.symm
    injection e with e1 e2 e3
    subst e1 e2
    rcases z6 with ⟨z,_⟩|⟨rfl,_⟩
    ·rw [hu] at z;cases z
    ·cases hu
  refine ⟨by rw [hu'],⟨hh.up (fun o ho=>?_) (fun n hn=>H.heap.sub n (LI hn)) (fun j p n ⟨σ,x,z,_⟩=>(noocc z).elim),?_⟩,hst.os,hst.tape,hst.output,hst.size,fun n hn hs=>hst.block n hn fun ⟨j,o,c1,z1,z2,z3⟩=>?_⟩
  ·simp only [List.mem_cons,List.not_mem_nil,or_false] at ho
   subst ho
   simp [Jo,hfl]
  ·obtain ⟨g1,g2,g3,g4⟩:=H.val
   refine ⟨by simp,by simp [Wb],g3,fun t2 τ2 ws e=>?_⟩
   obtain ⟨_,e2⟩:=Vc e
   have e2:=e2.symm
   injection e2 with e3 e4 e5
   subst e3 e4
   have e5:=eq_of_heq e5
   subst e5
   obtain ⟨b1,c1,A,q1,q2,q3,q4⟩:=g4 t τ xs rfl
   exact ⟨b1,c1,A,q1,by rw [hlen];exact q2,q3,fun _=>trivial⟩
  ·obtain ⟨rfl,rfl⟩:=Vc z1
   simp at z3
   obtain ⟨rfl,rfl⟩:=z3
   exact hs ⟨z2,rfl⟩
theorem GR {w w':World} {E:Nat→Prop} {t:TypeId} {τ:Ty} {xs xs':List (El τ)} {b c:Nat} {u:Value} (hfl:τ.flat=true) (H:UR w' E t τ xs' b c u) (hC:Fc w w' (fun m=>0<c∧m=b)):Cd w w' E t τ xs xs' b c u:=by
  have hu:τ.u=false:=by cases τ<;>first|rfl|cases hfl
  refine ⟨H,hC.mono fun _ _ h=>.inl h,fun j p σ x ⟨t1,τ1,zs,b1,c1,us1,junk,z1,_,_,_,_,z6⟩=>?_⟩
  obtain ⟨_,e⟩:=Vc z1
  have e:=e.symm
  injection e with e1 e2 e3
  subst e1 e2
  rcases z6 with ⟨z,_⟩|⟨rfl,_⟩
  ·rw [hu] at z;cases z
  ·cases hu
theorem QI {w:World} {E:Nat→Prop} {t:TypeId} {τ:Ty} {xs:List (El τ)} {b c:Nat} {u:Value} (H:UR w E t τ xs b c u):C1 w (Da [.row t τ xs] [(b,c)]) (fun _=>False) [.row t τ xs] [(b,c)] (.own 0) u:=by
  obtain ⟨g1,g2,g3,g4⟩:=H.val
  exact ⟨g1,g2,g3,fun t' τ' ws e=>g4 t' τ' ws e⟩
end
section
open Go.RowKit
structure It where
  lo:Nat
  hi:Nat
  Q:World→Prop
def It.kept (i:It):Prop:=∀w w':World,w.heap.size≤w'.heap.size→i.hi≤w.heap.size→(∀b,i.lo≤b→b<i.hi→w'.heap[b]? =w.heap[b]?)→i.Q w→i.Q w'
def It.ok (i:It) (w:World):Prop:=i.kept∧i.hi≤w.heap.size∧i.Q w
def LS (w0 w:World) (L:List It):Prop:=Below w0.heap.size w0 w∧∀i∈L,i.ok w
def Dl (w:World) (B:Nat) (v:Value):Prop:=∀cs:List Value,v=.agg cs.toArray→∀(j:Nat) x,cs[j]? =some x→w.cell? ⟨B,j,none⟩=some x
def Db (B:Nat) (v:Value):It:=⟨B,B+1,fun w=>Dl w B v⟩
def Vd (lo hi:Nat) (W:Wl) (v:Value):It:=⟨lo,hi,fun w=>Rw w lo hi W v⟩
def Xd (lo hi:Nat) (W:Wl) (v:Value):It:=⟨lo,hi,fun w=>WM w lo hi W v⟩
theorem HR (B:Nat) (v:Value):(Db B v).kept:=fun w w' hs _ hk h cs hv j x hx=>(World.cell?_of_block (a:=⟨B,j,none⟩) (hk B (Nat.le_refl _) (Nat.lt_succ_self _))).trans (h cs hv j x hx)
theorem pH (lo hi:Nat) (W:Wl) (v:Value):(Vd lo hi W v).kept:=fun _ _ hs _ hk h=>Rw.keep h hs fun b h1 h2 _=>hk b h1 h2
theorem pI (lo hi:Nat) (W:Wl) (v:Value):(Xd lo hi W v).kept:=fun _ _ hs _ hk h=>WM.keep h hs fun b h1 h2=>hk b h1 h2
section
variable {w0 w w':World} {L:List It}
theorem LS.below (h:LS w0 w L) (hb:Below w.heap.size w w'):LS w0 w' L:=⟨h.1.trans (hb.mono h.1.size),fun i hi=>by
  obtain ⟨h1,h2,h3⟩:=h.2 i hi
  exact ⟨h1,Nat.le_trans h2 hb.size,h1 w w' hb.size h2 (fun b _ h=>hb.block b (by omega)) h3⟩⟩
theorem LS.nil (w:World):LS w w []:=⟨Below.refl _ _,fun _ h=>by cases h⟩
theorem LS.cons {i:It} (h:i.ok w) (hl:LS w0 w L):LS w0 w (i::L):=⟨hl.1,fun j hj=>by
  rcases List.mem_cons.1 hj with rfl|h'
  ·exact h
  ·exact hl.2 j h'⟩
theorem LS.sub {L':List It} (h:LS w0 w L) (hs:∀i∈L',i∈L):LS w0 w L':=⟨h.1,fun i hi=>h.2 i (hs i hi)⟩
theorem LS.chg {lo hi:Nat} (h:LS w0 w L) (hC:Fc w w' (fun m=>lo≤m∧m<hi)) (h0:w0.heap.size≤lo) (hd:∀i∈L,i.hi≤lo∨hi≤i.lo):LS w0 w' L:=⟨⟨hC.os.trans h.1.os,hC.tape.trans h.1.tape,hC.output.trans h.1.output,Nat.le_trans h.1.size hC.size,fun b hb=>(hC.block b (Nat.lt_of_lt_of_le hb h.1.size) (by omega)).trans (h.1.block b hb)⟩,fun i hi'=>by
  obtain ⟨h1,h2,h3⟩:=h.2 i hi'
  have:=hd i hi'
  exact ⟨h1,Nat.le_trans h2 hC.size,h1 w w' hC.size h2 (fun b q1 q2=>hC.block b (by omega) (by omega)) h3⟩⟩
theorem LS.box {B:Nat} {v:Value} (h:LS w0 w L) (hi:Db B v∈L):Dl w B v:=(h.2 _ hi).2.2
theorem LS.rd {lo hi:Nat} {W:Wl} {v:Value} (h:LS w0 w L) (hi':Vd lo hi W v∈L):Rw w lo hi W v:=(h.2 _ hi').2.2
theorem LS.own {lo hi:Nat} {W:Wl} {v:Value} (h:LS w0 w L) (hi':Xd lo hi W v∈L):WM w lo hi W v:=(h.2 _ hi').2.2
theorem LS.newR {lo hi:Nat} {W:Wl} {v:Value} (h:LS w0 w L) (hh:hi≤w.heap.size) (hr:Rw w lo hi W v):LS w0 w (Vd lo hi W v::L):=h.cons ⟨pH _ _ _ _,hh,hr⟩
theorem LS.newM {lo hi:Nat} {W:Wl} {v:Value} (h:LS w0 w L) (hr:WM w lo hi W v):LS w0 w (Xd lo hi W v::L):=h.cons ⟨pI _ _ _ _,hr.1,hr⟩
theorem IR (o:Obj):Below w.heap.size w (w.alloc o):=(Below.refl _ _).alloc (Nat.le_refl _) _
theorem RI (w:World):Below w.heap.size w w.drew:=(Below.refl _ _).drew
theorem LS.put (h:LS w0 w L) (cs:List Value) (t:TypeId):LS w0 (w.alloc (.cells cs.toArray t)) (Db w.heap.size (.agg cs.toArray)::L) :=
  (h.below (IR _)).cons ⟨HR _ _,Nat.le_of_eq (World.size_alloc _ _).symm,fun cs' hv j x hx=>by
    have hv:cs.toArray=cs'.toArray:=by injection hv
    have hv:cs=cs':=by simpa using congrArg Array.toList hv
    subst hv
    exact K8 w cs t j x hx⟩
end
theorem Ig {w:World} {B:Nat} {a0 a1 a2 a3 a4 a5:Value} (h:Dl w B (.agg #[a0,a1,a2,a3,a4,a5])):w.cell? ⟨B,0,none⟩=some a0∧w.cell? ⟨B,1,none⟩=some a1∧w.cell? ⟨B,2,none⟩=some a2∧w.cell? ⟨B,3,none⟩=some a3∧w.cell? ⟨B,4,none⟩=some a4∧w.cell? ⟨B,5,none⟩=some a5 :=
  have k:=h [a0,a1,a2,a3,a4,a5] rfl
  ⟨k 0 _ rfl,k 1 _ rfl,k 2 _ rfl,k 3 _ rfl,k 4 _ rfl,k 5 _ rfl⟩
def VW (v:Value):Prop:=∃n p1 l1 c1 p2 l2 c2 p3 l3 c3 p4 l4 c4 p5 l5 c5,v=.agg #[.int .i64 n,.slice p1 l1 c1,.slice p2 l2 c2,.slice p3 l3 c3,.slice p4 l4 c4,.slice p5 l5 c5]
theorem Qv {w:World} {E X:Nat→Prop} {g:Bool} {τ:Ty} {xs:List (El τ)} {u:Value} (h:Ri w E X (.sl g τ xs) u):∃p l c,u=.slice p l c:=by
  cases h<;>exact ⟨_,_,_,rfl⟩
theorem Rw.vw {w:World} {lo hi:Nat} {W:Wl} {v:Value} (h:Rw w lo hi W v):VW v:=by
  obtain ⟨us,rfl,h3⟩:=h
  obtain ⟨x0,r,rfl,g0,h3⟩:=h3.cons_inv
  obtain ⟨x1,r,rfl,g1,h3⟩:=h3.cons_inv
  obtain ⟨x2,r,rfl,g2,h3⟩:=h3.cons_inv
  obtain ⟨x3,r,rfl,g3,h3⟩:=h3.cons_inv
  obtain ⟨x4,r,rfl,g4,h3⟩:=h3.cons_inv
  obtain ⟨x5,r,rfl,g5,h3⟩:=h3.cons_inv
  obtain rfl:=h3.nil_inv
  have g0:Ri w _ _ (iI W.1) x0:=g0
  cases g0
  obtain ⟨p1,l1,c1,rfl⟩:=Qv (g:=false) (τ:=.lk) (xs:=W.2.1) g1
  obtain ⟨p2,l2,c2,rfl⟩:=Qv (g:=false) (τ:=.bool) (xs:=W.2.2.1) g2
  obtain ⟨p3,l3,c3,rfl⟩:=Qv (g:=false) (τ:=.int) (xs:=W.2.2.2.1) g3
  obtain ⟨p4,l4,c4,rfl⟩:=Qv (g:=false) (τ:=.db) (xs:=W.2.2.2.2.1) g4
  obtain ⟨p5,l5,c5,rfl⟩:=Qv (g:=false) (τ:=.pk) (xs:=W.2.2.2.2.2) g5
  exact ⟨_,_,_,_,_,_,_,_,_,_,_,_,_,_,_,_,rfl⟩
theorem WM.vw {w:World} {lo hi:Nat} {W:Wl} {v:Value} (h:WM w lo hi W v):VW v:=h.rw.vw
abbrev L8 (P:Program) (f:FuncId) (FW:Wl→Prop) (A:Wl):Prop:=∀(w:World) (lo hi:Nat) (a:Value),Rw w lo hi A a→Calls P f #[a,.int .i64 1048576] w fun e w'=>∃z,e=.returned (.int .i64 z)∧(0≤z→FW A)∧Below w.heap.size w w'
abbrev JR (P:Program) (f:FuncId) (FW:Wl→Prop):Prop:=∀(w:World) (lo hi:Nat) (A:Wl) (a:Value),FW A→Rw w lo hi A a→Calls P f #[a] w fun e w'=>∃u,e=.returned u∧WM w' w.heap.size w'.heap.size A u∧Below w.heap.size w w'
abbrev KR (P:Program) (f:FuncId) (FV:Wl→Prop):Prop:=∀(w:World) (lo hi lo' hi':Nat) (A:Wl) (a b:Value),FV A→Rw w lo hi A a→Rw w lo' hi' A b→Calls P f #[a,b] w fun e w'=>e=.returned (.bool true)∧Below w.heap.size w w'
abbrev LR (P:Program) (f:FuncId) (FV:Wl→Prop) (M:Wl→Wl):Prop:=∀(w:World) (lo hi:Nat) (A:Wl) (a:Value),FV A→WM w lo hi A a→Calls P f #[a,.int .i64 1] w fun e w'=>e=.returned (.int .i64 (1+Ah A))∧WM w' lo hi (M A) a∧Fc w w' (fun m=>lo≤m∧m<hi)
abbrev NR (P:Program) (f:FuncId) (FV:Wl→Prop) (M:Wl→Wl):Prop:=∀(w:World) (lo hi:Nat) (A:Wl) (a:Value),FV A→Rw w lo hi (M A) a→Calls P f #[a,.int .i64 1] w fun e w'=>e=.returned (.int .i64 (1+Ah A))∧Below w.heap.size w w'
theorem M8 (L:List It) (k:Nat) {i:It} (h:i∈L.eraseIdx k):i∈L:=List.mem_of_mem_eraseIdx h
theorem pJ {P:Program} {f:FuncId} {FW:Wl→Prop} {w0 w:World} {L:List It} {lo hi:Nat} {A:Wl} {a:Value} (hc:L8 P f FW A) {s:Nat} (e:w.heap.size=s) (H:Hid (LS w0 w L)) (m:Vd lo hi A a∈L):Calls P f #[a,.int .i64 1048576] w fun e w'=>∃z,e=.returned (.int .i64 z)∧Hid (0≤z→FW A)∧Hid (LS w0 w' L)∧Hid (s≤w'.heap.size):=by
  subst e
  refine (hc w lo hi a (H.out.rd m)).mono ?_
  rintro e' w' ⟨z,rfl,h1,h2⟩
  exact ⟨z,rfl,h1,H.out.below h2,h2.size⟩
theorem Rv {P:Program} {f:FuncId} {FW:Wl→Prop} {w0 w:World} {L:List It} {lo hi:Nat} {A:Wl} {a:Value} (hc:JR P f FW) {s:Nat} (e:w.heap.size=s) (H:Hid (LS w0 w L)) (m:Vd lo hi A a∈L) (hf:FW A):Calls P f #[a] w fun e w'=>∃n p1 l1 c1 p2 l2 c2 p3 l3 c3 p4 l4 c4 p5 l5 c5,e=.returned (.agg #[.int .i64 n,.slice p1 l1 c1,.slice p2 l2 c2,.slice p3 l3 c3,.slice p4 l4 c4,.slice p5 l5 c5])∧Hid (LS w0 w' (Xd s w'.heap.size A (.agg #[.int .i64 n,.slice p1 l1 c1,.slice p2 l2 c2,.slice p3 l3 c3,.slice p4 l4 c4,.slice p5 l5 c5])::L))∧Hid (s≤w'.heap.size):=by
  subst e
  refine (hc w lo hi A a hf (H.out.rd m)).mono ?_
  rintro e' w' ⟨u,rfl,h1,h2⟩
  obtain ⟨n,p1,l1,c1,p2,l2,c2,p3,l3,c3,p4,l4,c4,p5,l5,c5,rfl⟩:=h1.vw
  exact ⟨n,p1,l1,c1,p2,l2,c2,p3,l3,c3,p4,l4,c4,p5,l5,c5,rfl,(H.out.below h2).newM h1,h2.size⟩
theorem SI {P:Program} {f:FuncId} {FV:Wl→Prop} {w0 w:World} {L:List It} {lo hi lo' hi':Nat} {A:Wl} {a b:Value} (hc:KR P f FV) {s:Nat} (e:w.heap.size=s) (H:Hid (LS w0 w L)) (ma:Rw w lo hi A a) (mb:Rw w lo' hi' A b) (hf:FV A):Calls P f #[a,b] w fun e w'=>e=.returned (.bool true)∧Hid (LS w0 w' L)∧Hid (s≤w'.heap.size):=by
  subst e
  refine (hc w lo hi lo' hi' A a b hf ma mb).mono ?_
  rintro e' w' ⟨rfl,h2⟩
  exact ⟨rfl,H.out.below h2,h2.size⟩
theorem N8 {P:Program} {f:FuncId} {FV:Wl→Prop} {M:Wl→Wl} {w0 w:World} {L L':List It} {lo hi:Nat} {A:Wl} {a:Value} (hc:LR P f FV M) {s:Nat} (e:w.heap.size=s) (H:Hid (LS w0 w L)) (m:Xd lo hi A a∈L) (hf:FV A) (hs:∀i∈L',i∈L) (h0:w0.heap.size≤lo) (hd:∀i∈L',i.hi≤lo∨hi≤i.lo):Calls P f #[a,.int .i64 1] w fun e w'=>e=.returned (.int .i64 (1+Ah A))∧Hid (LS w0 w' (Xd lo hi (M A) a::L'))∧Hid (s≤w'.heap.size):=by
  subst e
  refine (hc w lo hi A a hf (H.out.own m)).mono ?_
  rintro e' w' ⟨rfl,h1,h2⟩
  exact ⟨rfl,((H.out.sub hs).chg h2 h0 hd).newM h1,h2.size⟩
theorem O8 {P:Program} {f:FuncId} {FV:Wl→Prop} {M:Wl→Wl} {w0 w:World} {L:List It} {lo hi:Nat} {A:Wl} {a:Value} (hc:NR P f FV M) {s:Nat} (e:w.heap.size=s) (H:Hid (LS w0 w L)) (m:Xd lo hi (M A) a∈L) (hf:FV A):Calls P f #[a,.int .i64 1] w fun e w'=>e=.returned (.int .i64 (1+Ah A))∧Hid (LS w0 w' L)∧Hid (s≤w'.heap.size):=by
  subst e
  refine (hc w lo hi A a hf (H.out.own m).rw).mono ?_
  rintro e' w' ⟨rfl,h2⟩
  exact ⟨rfl,H.out.below h2,h2.size⟩
end
section
open Go.RowKit
section
variable {w w':World} {lo hi:Nat} {t:TypeId} {τ:Ty} {xs xs':List (El τ)} {u v:Value} {n:Int} {ls:List Lk}
def MR (w:World) (lo hi:Nat) (t:TypeId) (τ:Ty) (xs:List (El τ)) (u:Value):Prop:=hi≤w.heap.size∧∃b c,UR w (fun m=>Da [.row t τ xs] [(b,c)] m∨(m<lo∨hi≤m)) t τ xs b c u∧∀m,Da [.row t τ xs] [(b,c)] m→lo≤m∧m<hi
def RR (w:World) (lo hi:Nat) (τ:Ty) (xs:List (El τ)) (u:Value):Prop:=Ri w (fun m=>m<lo∨hi≤m) (fun _=>False) (.sl false τ xs) u
theorem RR.keep (h:RR w lo hi τ xs u) (hs:w.heap.size≤w'.heap.size) (hk:∀b,lo≤b→b<hi→w'.heap[b]? =w.heap[b]?):RR w' lo hi τ xs u :=
  Ri.keep (fun b _ hn=>hk b (by omega) (by omega)) hs (fun _ _ h=>h) (fun _ _ _ h=>h) h
theorem MR.keep (h:MR w lo hi t τ xs u) (hs:w.heap.size≤w'.heap.size) (hk:∀b,lo≤b→b<hi→w'.heap[b]? =w.heap[b]?):MR w' lo hi t τ xs u:=by
  obtain ⟨h0,b,c,h1,h2⟩:=h
  have hh:∀m,¬(Da [.row t τ xs] [(b,c)] m∨(m<lo∨hi≤m))→w'.heap[m]? =w.heap[m]? :=fun m hn=>hk m (by omega) (by omega)
  exact ⟨by omega,b,c,⟨h1.heap.keepE hs (fun m hl=>hk m (h2 m hl).1 (h2 m hl).2) (fun m _ hn=>hh m hn),C1.keep (fun m _ hn=>hh m hn) hs (fun _ _ h=>h) (fun _ _ _ h=>h) (Ec.refl _) (fun _ _ h=>h) h1.val⟩,h2⟩
theorem RR.slice (h:RR w lo hi τ xs u):∃p l c,u=.slice p l c:=Qv h
def MG (w:World) (lo hi:Nat) (g:Int×List Lk) (v:Value):Prop:=∃u,v=.agg #[.int .i64 g.1,u]∧MR w lo hi 114 .lk g.2 u
def RG (w:World) (lo hi:Nat) (g:Int×List Lk) (v:Value):Prop:=∃u,v=.agg #[.int .i64 g.1,u]∧RR w lo hi .lk g.2 u
def pK (g:Int×List Lk):PV:=.agg [.im (iI g.1),.im (.sl false .lk g.2)]
variable {g:Int×List Lk}
theorem RR.none (h:RR w lo hi τ xs u):Ri w (Da [] []) (fun _=>False) (.sl false τ xs) u :=
  Ri.keep (w':=w) (fun _ _ _=>rfl) (Nat.le_refl _) (fun _ _ _ h=>Mo h) (fun _ _ _ h=>h) h
theorem RG.arg (h:RG w lo hi g v):Cv w (Da [] []) (fun _=>False) [] [] (pK g) v:=by
  obtain ⟨u,rfl,h⟩:=h
  exact ⟨[.int .i64 g.1,u],rfl,F2.cons (Ri.s _) (F2.cons h.none F2.nil)⟩
theorem RG.keep (h:RG w lo hi g v) (hs:w.heap.size≤w'.heap.size) (hk:∀b,lo≤b→b<hi→w'.heap[b]? =w.heap[b]?):RG w' lo hi g v:=by
  obtain ⟨u,rfl,h⟩:=h
  exact ⟨u,rfl,h.keep hs hk⟩
theorem MG.keep (h:MG w lo hi g v) (hs:w.heap.size≤w'.heap.size) (hk:∀b,lo≤b→b<hi→w'.heap[b]? =w.heap[b]?):MG w' lo hi g v:=by
  obtain ⟨u,rfl,h⟩:=h
  exact ⟨u,rfl,h.keep hs hk⟩
def P8 (lo hi:Nat) (g:Int×List Lk) (v:Value):It:=⟨lo,hi,fun w=>RG w lo hi g v⟩
def Q8 (lo hi:Nat) (g:Int×List Lk) (v:Value):It:=⟨lo,hi,fun w=>MG w lo hi g v⟩
variable {w0:World} {L:List It}
theorem OR {w:World} {B:Nat} {a0 a1:Value} (h:Dl w B (.agg #[a0,a1])):w.cell? ⟨B,0,none⟩=some a0∧w.cell? ⟨B,1,none⟩=some a1 :=
  have k:=h [a0,a1] rfl
  ⟨k 0 _ rfl,k 1 _ rfl⟩
theorem RG.vw (h:RG w lo hi g v):∃p l c,v=.agg #[.int .i64 g.1,.slice p l c]:=by
  obtain ⟨u,rfl,h⟩:=h
  obtain ⟨p,l,c,rfl⟩:=h.slice
  exact ⟨p,l,c,rfl⟩
end
section
variable {P:Program} {f:FuncId} {FW:Wl→Prop} {FL:List Lk→Prop} {F:Wl→Int×List Lk} {M:List Lk→List Lk} {w0 w:World} {L L':List It} {s lo hi lo' hi':Nat} {A:Wl} {g:Int×List Lk} {a b:Value} {us:List Value}
end
end
section
open Go.RowKit
section
variable {w0 w:World} {L L':List It} {lo hi s:Nat} {t:TypeId} {τ:Ty} {xs:List (El τ)} {v:Value} {g:Int×List Lk} {W:Wl} {P:Program} {f:FuncId} {args:Array Value} {b:Bool} {z:Int}
theorem pL (hc:Calls P f args w fun e w'=>∃u,e=.returned u∧Rw w' 0 w'.heap.size W u∧Below w.heap.size w w') (e:w.heap.size=s) (H:Hid (LS w0 w L)):Calls P f args w fun e w'=>∃n p1 l1 c1 p2 l2 c2 p3 l3 c3 p4 l4 c4 p5 l5 c5,e=.returned (.agg #[.int .i64 n,.slice p1 l1 c1,.slice p2 l2 c2,.slice p3 l3 c3,.slice p4 l4 c4,.slice p5 l5 c5])∧Hid (LS w0 w' (Vd 0 w'.heap.size W (.agg #[.int .i64 n,.slice p1 l1 c1,.slice p2 l2 c2,.slice p3 l3 c3,.slice p4 l4 c4,.slice p5 l5 c5])::L))∧Hid (s≤w'.heap.size):=by
  subst e
  refine hc.mono ?_
  rintro e w' ⟨u,rfl,h1,h2⟩
  obtain ⟨n,p1,l1,c1,p2,l2,c2,p3,l3,c3,p4,l4,c4,p5,l5,c5,rfl⟩:=h1.vw
  exact ⟨n,p1,l1,c1,p2,l2,c2,p3,l3,c3,p4,l4,c4,p5,l5,c5,rfl,(H.out.below h2).newR (Nat.le_refl _) h1,h2.size⟩
theorem Zp (hc:Calls P f args w fun e w'=>∃u,e=.returned u∧WM w' w.heap.size w'.heap.size W u∧Below w.heap.size w w') (e:w.heap.size=s) (H:Hid (LS w0 w L)):Calls P f args w fun e w'=>∃n p1 l1 c1 p2 l2 c2 p3 l3 c3 p4 l4 c4 p5 l5 c5,e=.returned (.agg #[.int .i64 n,.slice p1 l1 c1,.slice p2 l2 c2,.slice p3 l3 c3,.slice p4 l4 c4,.slice p5 l5 c5])∧Hid (LS w0 w' (Xd s w'.heap.size W (.agg #[.int .i64 n,.slice p1 l1 c1,.slice p2 l2 c2,.slice p3 l3 c3,.slice p4 l4 c4,.slice p5 l5 c5])::L))∧Hid (s≤w'.heap.size):=by
  subst e
  refine hc.mono ?_
  rintro e w' ⟨u,rfl,h1,h2⟩
  obtain ⟨n,p1,l1,c1,p2,l2,c2,p3,l3,c3,p4,l4,c4,p5,l5,c5,rfl⟩:=h1.vw
  exact ⟨n,p1,l1,c1,p2,l2,c2,p3,l3,c3,p4,l4,c4,p5,l5,c5,rfl,(H.out.below h2).newM h1,h2.size⟩
theorem Oo {x:Value} (hc:Calls P f args w fun e w'=>e=.returned x∧Below w.heap.size w w') (e:w.heap.size=s) (H:Hid (LS w0 w L)):Calls P f args w fun e w'=>e=.returned x∧Hid (LS w0 w' L)∧Hid (s≤w'.heap.size):=by
  subst e
  refine hc.mono ?_
  rintro e w' ⟨rfl,h2⟩
  exact ⟨rfl,H.out.below h2,h2.size⟩
end
section
variable (P:Program) (f:FuncId)
abbrev Ni (k a:Int):Value:=.agg #[.int .i64 k,.int .i64 a]
abbrev R8:Prop:=∀(w:World) (k a:Int),Calls P f #[Ni k a] w fun e w'=>e=.returned (Ni k a)∧Below w.heap.size w w'
abbrev S8 (FW:Wl→Prop) (F:Int→Int→Wl→Wl):Prop:=∀(w:World) (lo hi:Nat) (A:Wl) (v:Value) (k a:Int),FW A→Rw w lo hi A v→Calls P f #[v,Ni k a] w fun e w'=>∃u,e=.returned u∧Rw w' 0 w'.heap.size (F k a A) u∧Below w.heap.size w w'
abbrev T8 (FW:Wl→Prop) (F:Int→Int→Wl→Wl):Prop:=∀(w:World) (lo hi:Nat) (A:Wl) (v:Value) (k a:Int),FW A→Rw w lo hi A v→Calls P f #[v,Ni k a] w fun e w'=>∃u,e=.returned u∧WM w' w.heap.size w'.heap.size (F k a A) u∧Below w.heap.size w w'
end
end
section
open Go.ChangeShapes Go.WideShapes Go.ChangeAt Go.RowKit Go.Deep Go.Joins
section
variable {H:Type} {enc:TypeId×Value→H} {W:World} {v:Value} {d:DataW H} {p:List MemPlace}
theorem pM {r:Reach} {b0:Nat} (hv:Value.okWide Tryz.prog W r b0 61 v) (h:DataW.Trod enc Tryz.prog W 0 (fun _=>true) true 61 v d p):∃k a:Int,Nv W v (.agg [.im (iI k),.im (iI a)]):=by
  obtain ⟨v0,v1,y0,y1,n,rfl,_,_,h0,h1⟩:=open_agg2 Tryz.underlying61 (by kernel_rfl) (by kernel_rfl) hv h
  obtain ⟨z0,e0,_⟩:=DataW.trod_int Tryz.underlying3 h0
  obtain ⟨z1,e1,_⟩:=DataW.trod_int Tryz.underlying3 h1
  simp at e0 e1
  subst e0 e1
  exact ⟨z0,z1,_,rfl,F2.cons (Ri.s _) (F2.cons (Ri.s _) F2.nil)⟩
theorem pN {k a:Int} (h:Nv W v (.agg [.im (iI k),.im (iI a)])):v=Ni k a:=by
  obtain ⟨us,rfl,h3⟩:=h
  obtain ⟨x0,r,rfl,g0,h3⟩:=h3.cons_inv
  obtain ⟨x1,r,rfl,g1,h3⟩:=h3.cons_inv
  obtain rfl:=h3.nil_inv
  have g0:Ri W _ _ (iI k) x0:=g0
  have g1:Ri W _ _ (iI a) x1:=g1
  cases g0
  cases g1
  rfl
end
end
section
open Go.RowKit
theorem pO {W:World} {A:Wl} {v:Value} (h:Nv W v (Cl A)):Rw W 0 W.heap.size A v:=Cv.keep (w':=W) (h':=[]) (β':=[]) (fun _ _ _=>rfl) (Nat.le_refl _) (fun b hb _ h=>by omega) (fun _ _ _ h=>h) (Ec.refl _) (fun _ _ h=>h) h
end
section
open Go.RowKit
section
variable {w0 w w' w4:World} {L L':List It} {B:Nat} {t:TypeId} {cs:List Value} {v:Value} {W:Wl}
def PR (B:Nat) (cs:List Value) (t:TypeId):It:=⟨B,B+1,fun w=>Dc w B t cs.toArray⟩
theorem pP (B:Nat) (cs:List Value) (t:TypeId):(PR B cs t).kept:=fun _ _ _ _ hk h=>(hk B (Nat.le_refl _) (Nat.lt_succ_self _)).trans h
theorem LS.rebase (h:LS w0 w L):LS w w L:=⟨Below.refl _ _,h.2⟩
theorem LS.back (h:LS w0 w L) (h':LS w w' L'):LS w0 w' L':=⟨h.1.trans (h'.1.mono h.1.size),h'.2⟩
theorem LS.putO (h:LS w0 w L) (cs:List Value) (t:TypeId):LS w0 (w.alloc (.cells cs.toArray t)) (PR w.heap.size cs t::L) :=
  (h.below (IR _)).cons ⟨pP _ _ _,Nat.le_of_eq (World.size_alloc _ _).symm,Dc.new _ _ _⟩
theorem LS.blk (h:LS w0 w L) (hi:PR B cs t∈L):Dc w B t cs.toArray:=(h.2 _ hi).2.2
def Fl (w:World) (B:Nat) (W:Wl) (v:Value):Prop:=Cv w (fun b=>b=B∨w.heap.size≤b) (fun _=>False) [] [] (Cl W) v
theorem Fl.rw (h:Fl w B W v) (hs:w.heap.size≤w'.heap.size) (hk:∀b,b<w.heap.size→b≠B→w'.heap[b]? =w.heap[b]?):Rw w' 0 w'.heap.size W v :=
  Cv.keep (fun b hb hn=>hk b hb fun e=>hn (.inl e)) hs (fun b hb _ h=>by omega) (fun _ _ _ h=>h) (Ec.refl _) (fun _ _ h=>h) h
theorem Fl.vw (h:Fl w B W v):VW v:=(h.rw (w':=w) (Nat.le_refl _) fun _ _ _=>rfl).vw
abbrev U8 (P:Program) (f:FuncId) (FW:Wl→Prop) (F:Int→Int→Wl→Wl):Prop:=∀(w:World) (lo hi:Nat) (A:Wl) (v:Value) (k a:Int) (B:Nat),FW A→Rw w lo hi A v→(B<lo∨hi≤B)→B<w.heap.size→Calls P f #[v,Ni k a] w fun e w'=>∃u,e=.returned u∧Fl w' B (F k a A) u∧Below w.heap.size w w'
theorem QR {P:Program} {f:FuncId} {args:Array Value} {s:Nat} (hc:Calls P f args w fun e w'=>∃u,e=.returned u∧Fl w' B W u∧Below w.heap.size w w') (e:w.heap.size=s) (H:Hid (LS w0 w L)):Calls P f args w fun e w'=>∃n p1 l1 c1 p2 l2 c2 p3 l3 c3 p4 l4 c4 p5 l5 c5,e=.returned (.agg #[.int .i64 n,.slice p1 l1 c1,.slice p2 l2 c2,.slice p3 l3 c3,.slice p4 l4 c4,.slice p5 l5 c5])∧Hid (Fl w' B W (.agg #[.int .i64 n,.slice p1 l1 c1,.slice p2 l2 c2,.slice p3 l3 c3,.slice p4 l4 c4,.slice p5 l5 c5]))∧Hid (LS w0 w' L)∧Hid (s≤w'.heap.size):=by
  subst e
  refine hc.mono ?_
  rintro e w' ⟨u,rfl,h1,h2⟩
  obtain ⟨n,p1,l1,c1,p2,l2,c2,p3,l3,c3,p4,l4,c4,p5,l5,c5,rfl⟩:=h1.vw
  exact ⟨n,p1,l1,c1,p2,l2,c2,p3,l3,c3,p4,l4,c4,p5,l5,c5,rfl,h1,H.out.below h2,h2.size⟩
theorem Rw.rx (h:Rw w 0 w.heap.size W v) (hB:w.heap.size≤B):Fl w B W v :=
  Cv.keep (w':=w) (fun _ _ _=>rfl) (Nat.le_refl _) (fun b hb _ h=>by omega) (fun _ _ _ h=>h) (Ec.refl _) (fun _ _ h=>h) h
theorem UI {w3:World} {L1:List It} (H0:LS w0 w L) (H:LS w w3 L1) (hs:∀i∈L,i∈L1) (hC:Fc w3 w4 (fun m=>B≤m∧m<B+1)) (hB:w.heap.size≤B) (hlt:B<w4.heap.size) (hbox:Dl w4 B v) (hr:Fl w3 B W v):Hid (LS w0 w4 (Db B v::Vd 0 w4.heap.size W v::L))∧Hid (w.heap.size≤w4.heap.size∧w.heap.size≤B∧B<w4.heap.size):=by
  have h1:LS w w4 L:=(H.sub hs).chg hC hB fun i hi=>.inl (Nat.le_trans (H0.2 i hi).2.1 hB)
  have h2:Rw w4 0 w4.heap.size W v:=hr.rw hC.size fun b hb hne=>hC.block b hb (by omega)
  exact ⟨H0.back ((h1.newR (Nat.le_refl _) h2).cons ⟨HR _ _,hlt,hbox⟩),h1.1.size,hB,hlt⟩
theorem Aq {w3:World} {L1:List It} {lo hi:Nat} (H0:LS w0 w L) (H:LS w w3 L1) (hs:∀i∈L,i∈L1) (hC:Fc w3 w4 (fun m=>B≤m∧m<B+1)) (hB:w.heap.size≤B) (hlt:B<w4.heap.size) (hbox:Dl w4 B v) (hm:WM w3 lo hi W v) (hlo:w.heap.size≤lo) (hd:B<lo∨hi≤B):Hid (LS w0 w4 (Db B v::Xd lo hi W v::L))∧Hid (w.heap.size≤w4.heap.size∧w.heap.size≤B∧B<w4.heap.size∧w.heap.size≤lo∧hi≤w4.heap.size∧(B<lo∨hi≤B)):=by
  have h1:LS w w4 L:=(H.sub hs).chg hC hB fun i hi=>.inl (Nat.le_trans (H0.2 i hi).2.1 hB)
  have h0:=hm.1
  have h2:WM w4 lo hi W v:=hm.keep hC.size fun b q1 q2=>hC.block b (by omega) (by omega)
  exact ⟨H0.back ((h1.newM h2).cons ⟨HR _ _,hlt,hbox⟩),h1.1.size,hB,hlt,hlo,Nat.le_trans h0 hC.size,hd⟩
theorem pQ (w:World) (o:Obj) (S:Nat→Prop):Fc w (w.alloc o) S:=⟨rfl,rfl,rfl,Nat.le_of_lt (by rw [World.size_alloc];exact Nat.lt_succ_self _),fun b hb _=>(IR o).block b hb⟩
theorem Sv (w:World) (B j:Nat) (v:Value):Fc w (w.setCell ⟨B,j,none⟩ v) (fun m=>B≤m∧m<B+1):=⟨rfl,rfl,rfl,by simp [World.setCell],fun n _ h=>Below.heap_setCell w ⟨B,j,none⟩ v n fun e=>h (by have e:n=B:=e;omega)⟩
theorem Dc.bxv (h:Dc w B t cs.toArray):Dl w B (.agg cs.toArray):=fun cs' hv j x hx=>by
  have hv:cs.toArray=cs'.toArray:=by injection hv
  have hv:cs=cs':=by simpa using congrArg Array.toList hv
  subst hv
  exact (h.cell j).trans (by simpa using hx)
theorem pR {z0 z1 z2 z3 z4 z5:Value} (h:Dc w B t #[z0,z1,z2,z3,z4,z5]) (v0 v1 v2 v3 v4 v5:Value):Dl ((((((w.setCell ⟨B,0,none⟩ v0).setCell ⟨B,1,none⟩ v1).setCell ⟨B,2,none⟩ v2).setCell ⟨B,3,none⟩ v3).setCell ⟨B,4,none⟩ v4).setCell ⟨B,5,none⟩ v5) B (.agg #[v0,v1,v2,v3,v4,v5])∧Fc w ((((((w.setCell ⟨B,0,none⟩ v0).setCell ⟨B,1,none⟩ v1).setCell ⟨B,2,none⟩ v2).setCell ⟨B,3,none⟩ v3).setCell ⟨B,4,none⟩ v4).setCell ⟨B,5,none⟩ v5) (fun m=>B≤m∧m<B+1)∧B<((((((w.setCell ⟨B,0,none⟩ v0).setCell ⟨B,1,none⟩ v1).setCell ⟨B,2,none⟩ v2).setCell ⟨B,3,none⟩ v3).setCell ⟨B,4,none⟩ v4).setCell ⟨B,5,none⟩ v5).heap.size:=by
  have h6:=(((((h.set_ 0 v0).set_ 1 v1).set_ 2 v2).set_ 3 v3).set_ 4 v4).set_ 5 v5
  exact ⟨Dc.bxv (cs:=[v0,v1,v2,v3,v4,v5]) h6,(((((Sv _ _ _ _).trans (Sv _ _ _ _)).trans (Sv _ _ _ _)).trans (Sv _ _ _ _)).trans (Sv _ _ _ _)).trans (Sv _ _ _ _),h6.lt⟩
theorem Po {z0 z1 z2 z3 z4 z5:Value} (h:Dc w B t #[z0,z1,z2,z3,z4,z5]) (v0 v1 v2 v3 v4 v5:Value):∃wz,((((((w.setCell ⟨B,0,none⟩ v0).setCell ⟨B,1,none⟩ v1).setCell ⟨B,2,none⟩ v2).setCell ⟨B,3,none⟩ v3).setCell ⟨B,4,none⟩ v4).setCell ⟨B,5,none⟩ v5)=wz∧Hid (Dl wz B (.agg #[v0,v1,v2,v3,v4,v5])∧Fc w wz (fun m=>B≤m∧m<B+1)∧B<wz.heap.size):=⟨_,rfl,pR h v0 v1 v2 v3 v4 v5⟩
theorem SR (w:World) (t:TypeId) (v0 v1 v2 v3 v4 v5:Value):∃wz,w.alloc (.cells #[v0,v1,v2,v3,v4,v5] t)=wz∧Hid (Dl wz w.heap.size (.agg #[v0,v1,v2,v3,v4,v5])∧Fc w wz (fun m=>w.heap.size≤m∧m<w.heap.size+1)∧w.heap.size<wz.heap.size) :=
  ⟨_,rfl,Dc.bxv (cs:=[v0,v1,v2,v3,v4,v5]) (Dc.new _ _ _),pQ _ _ _,(Dc.new _ _ _).lt⟩
theorem LS.bel (h:LS w w' L) (hC:Fc w' w4 (fun m=>B≤m∧m<B+1)) (hB:w.heap.size≤B):Below w.heap.size w w4:=((h.sub (L':=[]) fun _ h=>by cases h).chg hC hB fun _ h=>by cases h).1
theorem pS (w:World) (X:Nat→Prop):Pb w (Da [] []) X [] []:=⟨rfl,fun b h=>h,fun b h=>(Mo h).elim,fun k o h=>by simp at h,fun j k o o' b c c' h=>by simp at h,fun k p k' p' n h=>(Qy h).elim,fun k p σ u n h hs=>(Qy ⟨σ,u,h,hs⟩).elim⟩
theorem pT {P:Program} {f:FuncId} {e:Ma} (hg:GC P f e) {s:HL e.ah} {r:HL e.rh} (hs:e.sh s=some r) {ds:List PV} (hf:e.AS.fill (up e.ah s)=some (ds,[])) {d:PV} {h':List Ca} (hr:e.RS.fill (up e.rh r)=some ([d],h')) {X:Nat→Prop} (hX:∀b,X b→b<w.heap.size) {args:List Value} (ha:F2 (Cv w (Da [] []) X [] []) ds args) (hG:Sh w [] []):Calls P f args.toArray w fun ex w'=>∃u β',ex=.returned u∧Eb w [] [] w' h' β'∧Pb w' (Da h' β') X h' β'∧Cv w' (Da h' β') X h' β' d u:=hg s r hs ds [] hf d h' hr w X [] args hX (pS w X) ha hG
theorem pU {h:List Ca} {β:List (Nat×Nat)} {E E' X:Nat→Prop} {k:Nat} {t:TypeId} {τ:Ty} {xs:List (El τ)} (hh:Pb w E X h β) (hk:h[k]? =some (.row t τ xs)) (hE:∀b,¬E b→¬X b→¬E' b) (hkE:∀b c,β[k]? =some (b,c)→0<c→¬E' b) {u:Value} (hc:C1 w E X h β (.own k) u):Ri w E' (fun _=>False) (.sl false τ xs) u:=by
  obtain ⟨_,_,_,h2⟩:=hc
  obtain ⟨b,c,A,h3,rfl,h4,h5⟩:=h2 t τ xs hk
  obtain ⟨b',c',h6,h7,h8,h9⟩:=hh.ok k _ hk
  rw [h3] at h6
  injection h6 with h6;injection h6 with e1 e2
  subst e1 e2
  rcases Nat.eq_zero_or_pos c with hc|hc
  ·have hx:=h7 hc
   subst hx hc
   exact Xl (A:=A) τ
  ·obtain ⟨us,junk,q1,q2,q3,q4⟩:=h9 hc
   have hlen:xs.length≤c:=by
     have:xs.length*sz τ≤c*sz τ:=by rw [←q4,←Gb,←q2.1];simp
     exact Nat.le_of_mul_le_mul_right this (Of τ)
   refine .sl false τ xs A c b 0 us (fun _=>⟨h4 hc,(Array.getElem?_eq_some_iff.1 q1).1,hkE b c h3 hc,fun h=>by cases h⟩) ⟨hlen,h8⟩ q2.1 (fun j u hu=>by rw [Nat.zero_add];exact Og q1 hu) (fun j x u hx hu=>?_)
   exact T4 (fun b h1 h2=>⟨hE b h1 h2,id⟩) (Zn τ xs (fun h=>by cases h) x (List.mem_of_getElem? hx)) (q2.2 j x u hx hu)
theorem pV {E E' X:Nat→Prop} {τ:Ty} {xs:List (El τ)} {u:Value} (hX:∀b,b<w.heap.size→¬E b→¬X b) (hE:∀b,b<w.heap.size→¬E b→¬E' b) (h:Ri w E (fun _=>False) (.sl false τ xs) u):Ri w E' X (.sl true τ xs) u:=by
  cases h with
  |sl g τ xs A cap b o us hA hcap hl hc hr=>exact .sl true τ xs A cap b o us (fun h=>⟨(hA h).1,(hA h).2.1,hE b (hA h).2.1 (hA h).2.2.1,fun _=>hX b (hA h).2.1 (hA h).2.2.1⟩) hcap hl hc fun j x u hx hu=>(hr j x u hx hu).keep (fun _ _ _=>rfl) (Nat.le_refl _) hE (fun b hb h1 _=>hX b hb h1)
end
end
section
open Go.RowKit
set_option maxRecDepth 100000 in
set_option maxHeartbeats 6000000 in
theorem pW {FW FV:Wl→Prop} {M:Wl→Wl} {F:Int→Int→Wl→Wl} (k0 a0:Int) (A:Wl) (hsz:L8 Tryz.prog 8 FW A) (hto:JR Tryz.prog 10 FW) (htv:R8 Tryz.prog 31) (hsp:S8 Tryz.prog 30 FW F) (hspX:U8 Tryz.prog 30 FW F) (him:T8 Tryz.prog 32 FW F) (heq:KR Tryz.prog 13 FV) (hmk:LR Tryz.prog 14 FV M) (hhd:NR Tryz.prog 27 FV M) (hFV:∀A,FW A→FV A∧FV (F k0 a0 A)) (w:World) (a:Value) (H:Rw w 0 w.heap.size A a):Calls Tryz.prog 7 #[a,Ni k0 a0] w fun e w'=>e=.returned (.bool true)∧Below w.heap.size w w':=by
  obtain ⟨na,p1a,l1a,c1a,p2a,l2a,c2a,p3a,l3a,c3a,p4a,l4a,c4a,p5a,l5a,c5a,rfl⟩:=H.vw
  have H0:=Lib.hid ((LS.nil w).newR (Nat.le_refl _) H)
  replace hsz:=Lib.hid hsz;replace hto:=Lib.hid hto;replace htv:=Lib.hid htv;replace hsp:=Lib.hid hsp;replace hspX:=Lib.hid hspX;replace him:=Lib.hid him;replace heq:=Lib.hid heq;replace hmk:=Lib.hid hmk;replace hhd:=Lib.hid hhd;replace hFV:=Lib.hid hFV
  clear H
  have H1:=Lib.hid (H0.out.put [.int .i64 na,.slice p1a l1a c1a,.slice p2a l2a c2a,.slice p3a l3a c3a,.slice p4a l4a c4a,.slice p5a l5a c5a] 30)
  clear H0
  have H2:=Lib.hid (H1.out.put [.int .i64 k0,.int .i64 a0] 61)
  clear H1
  rw [World.size_alloc] at H2
  have c3:=Lib.hid (pJ hsz.out (show _=w.heap.size+1+1 by simp only [World.size_alloc]) H2 (.tail _ (.tail _ (.head _))))
  clear H2
  go_enter Tryz.func7,Tryz.ntmps7
  try dsimp only
  go_wp2_with fail
  refine Calls.mono c3.out ?_
  rintro e w3 ⟨z,rfl,hz,H3,s3⟩
  clear c3
  have ⟨fa0,fa1,fa2,fa3,fa4,fa5⟩:=Ig (H3.out.box (B:=w.heap.size) (v:=.agg #[.int .i64 na,.slice p1a l1a c1a,.slice p2a l2a c2a,.slice p3a l3a c3a,.slice p4a l4a c4a,.slice p5a l5a c5a]) (.tail _ (.head _)))
  go_wp2_with fail
  ·go_ret
   exact ⟨rfl,H3.out.1⟩
  have hA:=Lib.hid (hz.out (by assumption))
  clear hz
  have hV:=Lib.hid (hFV.out A hA.out)
  clear hFV
  clear fa0 fa1 fa2 fa3 fa4 fa5
  go_wp2_with fail
  go_cut [6] (fun v w'=>∃Bw:Nat,∃nw p1w l1w c1w p2w l2w c2w p3w l3w c3w p4w l4w c4w p5w l5w c5w,v=.pointer (some ⟨Bw,0,none⟩)∧Hid (LS w w' (Db Bw (.agg #[.int .i64 nw,.slice p1w l1w c1w,.slice p2w l2w c2w,.slice p3w l3w c3w,.slice p4w l4w c4w,.slice p5w l5w c5w])::Vd 0 w'.heap.size (F k0 a0 A) (.agg #[.int .i64 nw,.slice p1w l1w c1w,.slice p2w l2w c2w,.slice p3w l3w c3w,.slice p4w l4w c4w,.slice p5w l5w c5w])::[Db (w.heap.size+1) (.agg #[.int .i64 k0,.int .i64 a0]),Db (w.heap.size) (.agg #[.int .i64 na,.slice p1a l1a c1a,.slice p2a l2a c2a,.slice p3a l3a c3a,.slice p4a l4a c4a,.slice p5a l5a c5a]),Vd 0 w.heap.size A (.agg #[.int .i64 na,.slice p1a l1a c1a,.slice p2a l2a c2a,.slice p3a l3a c3a,.slice p4a l4a c4a,.slice p5a l5a c5a])]))∧Hid (w3.heap.size≤w'.heap.size∧w3.heap.size≤Bw∧Bw<w'.heap.size))
  case first =>
    have ⟨fa0,fa1,fa2,fa3,fa4,fa5⟩:=Ig (H3.out.box (B:=w.heap.size) (v:=.agg #[.int .i64 na,.slice p1a l1a c1a,.slice p2a l2a c2a,.slice p3a l3a c3a,.slice p4a l4a c4a,.slice p5a l5a c5a]) (.tail _ (.head _)))
    have la:=Lib.hid ((H3.out.2 _ (.tail _ (.head _))).2.1)
    have ⟨fv0,fv1⟩:=OR (H3.out.box (B:=w.heap.size+1) (v:=.agg #[.int .i64 k0,.int .i64 a0]) (.head _))
    have lv:=Lib.hid ((H3.out.2 _ (.head _)).2.1)
    have HD:=Lib.hid (H3.out.rebase.below (RI w3))
    refine ON 7 (Tr.val 0 (Tr.val 2 (Tr.two 1 (Tr.two 3 (Tr.two 4 (Tr.one 5 (Tr.one 6 Tr.done)) 5 (Tr.one 4 (Tr.one 6 Tr.done))) 5 (Tr.one 3 (Tr.one 4 (Tr.one 6 Tr.done)))) 5 (Tr.one 1 (Tr.one 3 (Tr.one 4 (Tr.one 6 Tr.done))))))) (by kernel_rfl) (by kernel_rfl) fun hx9=>?_
    have ga0:∀x:Yd w3,x.now.cell? ⟨w.heap.size,0,none⟩=some _:=fun x=>(hx9 x _ 0 (by have:=la.out;dsimp only [Db] at this;omega)).trans fa0
    have ga1:∀x:Yd w3,x.now.cell? ⟨w.heap.size,1,none⟩=some _:=fun x=>(hx9 x _ 1 (by have:=la.out;dsimp only [Db] at this;omega)).trans fa1
    have ga2:∀x:Yd w3,x.now.cell? ⟨w.heap.size,2,none⟩=some _:=fun x=>(hx9 x _ 2 (by have:=la.out;dsimp only [Db] at this;omega)).trans fa2
    have ga3:∀x:Yd w3,x.now.cell? ⟨w.heap.size,3,none⟩=some _:=fun x=>(hx9 x _ 3 (by have:=la.out;dsimp only [Db] at this;omega)).trans fa3
    have ga4:∀x:Yd w3,x.now.cell? ⟨w.heap.size,4,none⟩=some _:=fun x=>(hx9 x _ 4 (by have:=la.out;dsimp only [Db] at this;omega)).trans fa4
    have ga5:∀x:Yd w3,x.now.cell? ⟨w.heap.size,5,none⟩=some _:=fun x=>(hx9 x _ 5 (by have:=la.out;dsimp only [Db] at this;omega)).trans fa5
    have gv0:∀x:Yd w3,x.now.cell? ⟨w.heap.size+1,0,none⟩=some _:=fun x=>(hx9 x _ 0 (by have:=lv.out;dsimp only [Db] at this;omega)).trans fv0
    have gv1:∀x:Yd w3,x.now.cell? ⟨w.heap.size+1,1,none⟩=some _:=fun x=>(hx9 x _ 1 (by have:=lv.out;dsimp only [Db] at this;omega)).trans fv1
    clear hx9
    simp only [Fh,List.getElem?_cons_zero,List.getElem?_cons_succ,List.drop_succ_cons,List.drop_zero]
    repeat (first|refine Sb rfl ?_|refine Tb rfl ?_|(refine Ub rfl (fun K hK=>?_);go_big_quiet_op;refine hK _ ?_;clear hK K))
    try refine Rb ?_
    refine Nn ?_ ?_
    ·skip
     repeat (first|refine Sb rfl ?_|refine Tb rfl ?_|(refine Ub rfl (fun K hK=>?_);go_big_quiet_op;refine hK _ ?_;clear hK K))
     try refine Rb ?_
     refine Jc rfl (fun K hK=>?_);unfold Oper.wp;go_simp
     refine Calls.mono (Rv hto.out (show _=w3.heap.size from rfl) HD (.tail _ (.tail _ (.head _))) hA.out) ?_
     rintro e wq0 ⟨nqw,p1qw,l1qw,c1qw,p2qw,l2qw,c2qw,p3qw,l3qw,c3qw,p4qw,l4qw,c4qw,p5qw,l5qw,c5qw,rfl,HA0,sq0⟩
     refine hK _ _ ⟨⟨_,HA0.out.1⟩,rfl⟩ ?_
     clear hK K
     refine Nn ?_ ?_
     ·skip
      repeat (first|refine Sb rfl ?_|refine Tb rfl ?_|(refine Ub rfl (fun K hK=>?_);go_big_quiet_op;refine hK _ ?_;clear hK K))
      try refine Rb ?_
      refine Jc rfl (fun K hK=>?_);unfold Oper.wp;go_simp
      refine Calls.mono (Oo (htv.out _ k0 a0) (show _=wq0.heap.size from rfl) HA0) ?_
      rintro e wq1 ⟨rfl,HA1,sq1⟩
      refine hK _ _ ⟨⟨_,HA1.out.1⟩,rfl⟩ ?_
      clear hK K
      refine Nn ?_ ?_
      ·skip
       repeat (first|refine Sb rfl ?_|refine Tb rfl ?_|(refine Ub rfl (fun K hK=>?_);go_big_quiet_op;refine hK _ ?_;clear hK K))
       try refine Rb ?_
       refine Jc rfl (fun K hK=>?_);unfold Oper.wp;go_simp
       refine Calls.mono (pL (hsp.out _ _ _ _ _ k0 a0 hA.out (HA1.out.own (.head _)).rw) (show _=wq1.heap.size from rfl) HA1) ?_
       rintro e wq2 ⟨nw,p1w,l1w,c1w,p2w,l2w,c2w,p3w,l3w,c3w,p4w,l4w,c4w,p5w,l5w,c5w,rfl,HA2,sq2⟩
       have hX:=Lib.hid ((HA2.out.rd (.head _)).rx (B:=wq2.heap.size) (Nat.le_refl _))
       refine hK _ _ ⟨⟨_,HA2.out.1⟩,rfl⟩ ?_
       clear hK K
       repeat (first|refine Sb rfl ?_|refine Tb rfl ?_|(refine Ub rfl (fun K hK=>?_);go_big_quiet_op;refine hK _ ?_;clear hK K))
       try refine Rb ?_
       refine Jc rfl (fun K hK=>?_);unfold Oper.wp;go_simp
       have HA3:=Lib.hid (HA2.out.putO [.int .i64 0,.slice none 0 0,.slice none 0 0,.slice none 0 0,.slice none 0 0,.slice none 0 0] 39)
       refine hK _ _ ⟨⟨_,HA3.out.1⟩,rfl⟩ ?_
       clear hK K
       repeat (first|refine Sb rfl ?_|refine Tb rfl ?_|(refine Ub rfl (fun K hK=>?_);go_big_quiet_op;refine hK _ ?_;clear hK K))
       try refine Rb ?_
       refine Jc rfl (fun K hK=>?_);unfold Oper.wp;go_simp
       obtain ⟨wz,hz,hS⟩:=SR wq2 39 (.int .i64 nw) (.slice p1w l1w c1w) (.slice p2w l2w c2w) (.slice p3w l3w c3w) (.slice p4w l4w c4w) (.slice p5w l5w c5w)
       rw [hz]
       clear hz
       have hB:w3.heap.size≤wq2.heap.size:=by (have:=sq0.out;have:=sq1.out;have:=sq2.out;omega)
       refine hK _ _ ⟨⟨_,HA2.out.bel hS.out.2.1 hB⟩,rfl⟩ ?_
       clear hK K
       repeat (first|refine Sb rfl ?_|refine Tb rfl ?_|(refine Ub rfl (fun K hK=>?_);go_big_quiet_op;refine hK _ ?_;clear hK K))
       try refine Rb ?_
       go_wp2_with fail
       go_meet
       have hE:=UI H3.out HA2.out (fun _ h=>.tail _ (.tail _ (h))) hS.out.2.1 hB hS.out.2.2 hS.out.1 hX.out
       exact ⟨_,nw,p1w,l1w,c1w,p2w,l2w,c2w,p3w,l3w,c3w,p4w,l4w,c4w,p5w,l5w,c5w,rfl,hE.1,hE.2⟩
      ·skip
       repeat (first|refine Sb rfl ?_|refine Tb rfl ?_|(refine Ub rfl (fun K hK=>?_);go_big_quiet_op;refine hK _ ?_;clear hK K))
       try refine Rb ?_
       refine Jc rfl (fun K hK=>?_);unfold Oper.wp;go_simp
       have HA2:=Lib.hid (HA1.out.putO [.int .i64 0,.slice none 0 0,.slice none 0 0,.slice none 0 0,.slice none 0 0,.slice none 0 0] 39)
       refine hK _ _ ⟨⟨_,HA2.out.1⟩,rfl⟩ ?_
       clear hK K
       repeat (first|refine Sb rfl ?_|refine Tb rfl ?_|(refine Ub rfl (fun K hK=>?_);go_big_quiet_op;refine hK _ ?_;clear hK K))
       try refine Rb ?_
       refine Jc rfl (fun K hK=>?_);unfold Oper.wp;go_simp
       refine Calls.mono (QR (hspX.out _ _ _ _ _ k0 a0 (wq1.heap.size) hA.out (HA2.out.own (.tail _ (.head _))).rw (by have:=sq0.out;have:=sq1.out;omega) (by have:=sq0.out;have:=sq1.out;first|omega|(simp only [World.size_alloc];omega))) (show _=(wq1.heap.size+1) from World.size_alloc _ _) HA2) ?_
       rintro e wq3 ⟨nw,p1w,l1w,c1w,p2w,l2w,c2w,p3w,l3w,c3w,p4w,l4w,c4w,p5w,l5w,c5w,rfl,hX,HA3,sq3⟩
       refine hK _ _ ⟨⟨_,HA3.out.1⟩,rfl⟩ ?_
       clear hK K
       have hb:Dc wq3 (wq1.heap.size) 39 #[.int .i64 0,.slice none 0 0,.slice none 0 0,.slice none 0 0,.slice none 0 0,.slice none 0 0]:=HA3.out.blk (.head _)
       have o0:=hb.cell 0;have o1:=hb.cell 1;have o2:=hb.cell 2;have o3:=hb.cell 3;have o4:=hb.cell 4;have o5:=hb.cell 5;have of:=hb.frozen;have ol:=hb.lt
       repeat (first|refine Sb rfl ?_|refine Tb rfl ?_|(refine Ub rfl (fun K hK=>?_);go_big_quiet_op;refine hK _ ?_;clear hK K))
       try refine Rb ?_
       refine Jc rfl (fun K hK=>?_);unfold Oper.wp;go_simp
       obtain ⟨wz,hz,hS⟩:=Po hb (.int .i64 nw) (.slice p1w l1w c1w) (.slice p2w l2w c2w) (.slice p3w l3w c3w) (.slice p4w l4w c4w) (.slice p5w l5w c5w)
       rw [hz]
       clear hz
       have hB:w3.heap.size≤wq1.heap.size:=by (have:=sq0.out;have:=sq1.out;have:=sq3.out;omega)
       refine hK _ _ ⟨⟨_,HA3.out.bel hS.out.2.1 hB⟩,rfl⟩ ?_
       clear hK K
       clear o0 o1 o2 o3 o4 o5 of ol hb
       repeat (first|refine Sb rfl ?_|refine Tb rfl ?_|(refine Ub rfl (fun K hK=>?_);go_big_quiet_op;refine hK _ ?_;clear hK K))
       try refine Rb ?_
       go_wp2_with fail
       go_meet
       have hE:=UI H3.out HA3.out (fun _ h=>.tail _ (.tail _ (h))) hS.out.2.1 hB hS.out.2.2 hS.out.1 hX.out
       exact ⟨_,nw,p1w,l1w,c1w,p2w,l2w,c2w,p3w,l3w,c3w,p4w,l4w,c4w,p5w,l5w,c5w,rfl,hE.1,hE.2⟩
     ·skip
      repeat (first|refine Sb rfl ?_|refine Tb rfl ?_|(refine Ub rfl (fun K hK=>?_);go_big_quiet_op;refine hK _ ?_;clear hK K))
      try refine Rb ?_
      refine Jc rfl (fun K hK=>?_);unfold Oper.wp;go_simp
      have HA1:=Lib.hid (HA0.out.putO [.int .i64 0,.slice none 0 0,.slice none 0 0,.slice none 0 0,.slice none 0 0,.slice none 0 0] 39)
      refine hK _ _ ⟨⟨_,HA1.out.1⟩,rfl⟩ ?_
      clear hK K
      repeat (first|refine Sb rfl ?_|refine Tb rfl ?_|(refine Ub rfl (fun K hK=>?_);go_big_quiet_op;refine hK _ ?_;clear hK K))
      try refine Rb ?_
      refine Jc rfl (fun K hK=>?_);unfold Oper.wp;go_simp
      refine Calls.mono (Oo (htv.out _ k0 a0) (show _=(wq0.heap.size+1) from World.size_alloc _ _) HA1) ?_
      rintro e wq2 ⟨rfl,HA2,sq2⟩
      refine hK _ _ ⟨⟨_,HA2.out.1⟩,rfl⟩ ?_
      clear hK K
      repeat (first|refine Sb rfl ?_|refine Tb rfl ?_|(refine Ub rfl (fun K hK=>?_);go_big_quiet_op;refine hK _ ?_;clear hK K))
      try refine Rb ?_
      refine Jc rfl (fun K hK=>?_);unfold Oper.wp;go_simp
      refine Calls.mono (QR (hspX.out _ _ _ _ _ k0 a0 (wq0.heap.size) hA.out (HA2.out.own (.tail _ (.head _))).rw (by have:=sq0.out;have:=sq2.out;omega) (by have:=sq0.out;have:=sq2.out;first|omega|(simp only [World.size_alloc];omega))) (show _=wq2.heap.size from rfl) HA2) ?_
      rintro e wq3 ⟨nw,p1w,l1w,c1w,p2w,l2w,c2w,p3w,l3w,c3w,p4w,l4w,c4w,p5w,l5w,c5w,rfl,hX,HA3,sq3⟩
      refine hK _ _ ⟨⟨_,HA3.out.1⟩,rfl⟩ ?_
      clear hK K
      have hb:Dc wq3 (wq0.heap.size) 39 #[.int .i64 0,.slice none 0 0,.slice none 0 0,.slice none 0 0,.slice none 0 0,.slice none 0 0]:=HA3.out.blk (.head _)
      have o0:=hb.cell 0;have o1:=hb.cell 1;have o2:=hb.cell 2;have o3:=hb.cell 3;have o4:=hb.cell 4;have o5:=hb.cell 5;have of:=hb.frozen;have ol:=hb.lt
      repeat (first|refine Sb rfl ?_|refine Tb rfl ?_|(refine Ub rfl (fun K hK=>?_);go_big_quiet_op;refine hK _ ?_;clear hK K))
      try refine Rb ?_
      refine Jc rfl (fun K hK=>?_);unfold Oper.wp;go_simp
      obtain ⟨wz,hz,hS⟩:=Po hb (.int .i64 nw) (.slice p1w l1w c1w) (.slice p2w l2w c2w) (.slice p3w l3w c3w) (.slice p4w l4w c4w) (.slice p5w l5w c5w)
      rw [hz]
      clear hz
      have hB:w3.heap.size≤wq0.heap.size:=by (have:=sq0.out;have:=sq2.out;have:=sq3.out;omega)
      refine hK _ _ ⟨⟨_,HA3.out.bel hS.out.2.1 hB⟩,rfl⟩ ?_
      clear hK K
      clear o0 o1 o2 o3 o4 o5 of ol hb
      repeat (first|refine Sb rfl ?_|refine Tb rfl ?_|(refine Ub rfl (fun K hK=>?_);go_big_quiet_op;refine hK _ ?_;clear hK K))
      try refine Rb ?_
      go_wp2_with fail
      go_meet
      have hE:=UI H3.out HA3.out (fun _ h=>.tail _ (.tail _ (h))) hS.out.2.1 hB hS.out.2.2 hS.out.1 hX.out
      exact ⟨_,nw,p1w,l1w,c1w,p2w,l2w,c2w,p3w,l3w,c3w,p4w,l4w,c4w,p5w,l5w,c5w,rfl,hE.1,hE.2⟩
    ·skip
     repeat (first|refine Sb rfl ?_|refine Tb rfl ?_|(refine Ub rfl (fun K hK=>?_);go_big_quiet_op;refine hK _ ?_;clear hK K))
     try refine Rb ?_
     refine Jc rfl (fun K hK=>?_);unfold Oper.wp;go_simp
     have HA0:=Lib.hid (HD.out.putO [.int .i64 0,.slice none 0 0,.slice none 0 0,.slice none 0 0,.slice none 0 0,.slice none 0 0] 39)
     refine hK _ _ ⟨⟨_,HA0.out.1⟩,rfl⟩ ?_
     clear hK K
     repeat (first|refine Sb rfl ?_|refine Tb rfl ?_|(refine Ub rfl (fun K hK=>?_);go_big_quiet_op;refine hK _ ?_;clear hK K))
     try refine Rb ?_
     refine Jc rfl (fun K hK=>?_);unfold Oper.wp;go_simp
     refine Calls.mono (Rv hto.out (show _=(w3.heap.size+1) from World.size_alloc _ _) HA0 (.tail _ (.tail _ (.tail _ (.head _)))) hA.out) ?_
     rintro e wq1 ⟨nqw,p1qw,l1qw,c1qw,p2qw,l2qw,c2qw,p3qw,l3qw,c3qw,p4qw,l4qw,c4qw,p5qw,l5qw,c5qw,rfl,HA1,sq1⟩
     refine hK _ _ ⟨⟨_,HA1.out.1⟩,rfl⟩ ?_
     clear hK K
     repeat (first|refine Sb rfl ?_|refine Tb rfl ?_|(refine Ub rfl (fun K hK=>?_);go_big_quiet_op;refine hK _ ?_;clear hK K))
     try refine Rb ?_
     refine Jc rfl (fun K hK=>?_);unfold Oper.wp;go_simp
     refine Calls.mono (Oo (htv.out _ k0 a0) (show _=wq1.heap.size from rfl) HA1) ?_
     rintro e wq2 ⟨rfl,HA2,sq2⟩
     refine hK _ _ ⟨⟨_,HA2.out.1⟩,rfl⟩ ?_
     clear hK K
     repeat (first|refine Sb rfl ?_|refine Tb rfl ?_|(refine Ub rfl (fun K hK=>?_);go_big_quiet_op;refine hK _ ?_;clear hK K))
     try refine Rb ?_
     refine Jc rfl (fun K hK=>?_);unfold Oper.wp;go_simp
     refine Calls.mono (QR (hspX.out _ _ _ _ _ k0 a0 (w3.heap.size) hA.out (HA2.out.own (.head _)).rw (by have:=sq1.out;have:=sq2.out;omega) (by have:=sq1.out;have:=sq2.out;first|omega|(simp only [World.size_alloc];omega))) (show _=wq2.heap.size from rfl) HA2) ?_
     rintro e wq3 ⟨nw,p1w,l1w,c1w,p2w,l2w,c2w,p3w,l3w,c3w,p4w,l4w,c4w,p5w,l5w,c5w,rfl,hX,HA3,sq3⟩
     refine hK _ _ ⟨⟨_,HA3.out.1⟩,rfl⟩ ?_
     clear hK K
     have hb:Dc wq3 (w3.heap.size) 39 #[.int .i64 0,.slice none 0 0,.slice none 0 0,.slice none 0 0,.slice none 0 0,.slice none 0 0]:=HA3.out.blk (.tail _ (.head _))
     have o0:=hb.cell 0;have o1:=hb.cell 1;have o2:=hb.cell 2;have o3:=hb.cell 3;have o4:=hb.cell 4;have o5:=hb.cell 5;have of:=hb.frozen;have ol:=hb.lt
     repeat (first|refine Sb rfl ?_|refine Tb rfl ?_|(refine Ub rfl (fun K hK=>?_);go_big_quiet_op;refine hK _ ?_;clear hK K))
     try refine Rb ?_
     refine Jc rfl (fun K hK=>?_);unfold Oper.wp;go_simp
     obtain ⟨wz,hz,hS⟩:=Po hb (.int .i64 nw) (.slice p1w l1w c1w) (.slice p2w l2w c2w) (.slice p3w l3w c3w) (.slice p4w l4w c4w) (.slice p5w l5w c5w)
     rw [hz]
     clear hz
     have hB:w3.heap.size≤w3.heap.size:=by (have:=sq1.out;have:=sq2.out;have:=sq3.out;omega)
     refine hK _ _ ⟨⟨_,HA3.out.bel hS.out.2.1 hB⟩,rfl⟩ ?_
     clear hK K
     clear o0 o1 o2 o3 o4 o5 of ol hb
     repeat (first|refine Sb rfl ?_|refine Tb rfl ?_|(refine Ub rfl (fun K hK=>?_);go_big_quiet_op;refine hK _ ?_;clear hK K))
     try refine Rb ?_
     go_wp2_with fail
     go_meet
     have hE:=UI H3.out HA3.out (fun _ h=>.tail _ (.tail _ (h))) hS.out.2.1 hB hS.out.2.2 hS.out.1 hX.out
     exact ⟨_,nw,p1w,l1w,c1w,p2w,l2w,c2w,p3w,l3w,c3w,p4w,l4w,c4w,p5w,l5w,c5w,rfl,hE.1,hE.2⟩
  case rest =>
    obtain ⟨Bw,nw,p1w,l1w,c1w,p2w,l2w,c2w,p3w,l3w,c3w,p4w,l4w,c4w,p5w,l5w,c5w,rfl,H4,s4⟩:=hcut
    rename World=>w4
    clear H3
    have ⟨fa0,fa1,fa2,fa3,fa4,fa5⟩:=Ig (H4.out.box (B:=w.heap.size) (v:=.agg #[.int .i64 na,.slice p1a l1a c1a,.slice p2a l2a c2a,.slice p3a l3a c3a,.slice p4a l4a c4a,.slice p5a l5a c5a]) (.tail _ (.tail _ (.tail _ (.head _)))))
    have c5:=Lib.hid (Rv hto.out rfl H4 (.tail _ (.tail _ (.tail _ (.tail _ (.head _))))) hA.out)
    clear H4
    try dsimp only
    go_wp2_with fail
    refine Calls.mono c5.out ?_
    rintro e w5 ⟨nx,p1x,l1x,c1x,p2x,l2x,c2x,p3x,l3x,c3x,p4x,l4x,c4x,p5x,l5x,c5x,rfl,H5,s5⟩
    clear c5
    clear fa0 fa1 fa2 fa3 fa4 fa5
    have H6:=Lib.hid (H5.out.put [.int .i64 nx,.slice p1x l1x c1x,.slice p2x l2x c2x,.slice p3x l3x c3x,.slice p4x l4x c4x,.slice p5x l5x c5x] 39)
    clear H5
    go_wp2_with fail
    have zg:Hid ((w5.alloc (.cells #[.int .i64 nx,.slice p1x l1x c1x,.slice p2x l2x c2x,.slice p3x l3x c3x,.slice p4x l4x c4x,.slice p5x l5x c5x] 39)).heap.size=(w5.heap.size+1)):=World.size_alloc _ _
    go_cut [8] (fun v w'=>∃Bg:Nat,∃log hig:Nat,∃ng p1g l1g c1g p2g l2g c2g p3g l3g c3g p4g l4g c4g p5g l5g c5g,v=.pointer (some ⟨Bg,0,none⟩)∧Hid (LS w w' (Db Bg (.agg #[.int .i64 ng,.slice p1g l1g c1g,.slice p2g l2g c2g,.slice p3g l3g c3g,.slice p4g l4g c4g,.slice p5g l5g c5g])::Xd log hig (F k0 a0 A) (.agg #[.int .i64 ng,.slice p1g l1g c1g,.slice p2g l2g c2g,.slice p3g l3g c3g,.slice p4g l4g c4g,.slice p5g l5g c5g])::[Db (w5.heap.size) (.agg #[.int .i64 nx,.slice p1x l1x c1x,.slice p2x l2x c2x,.slice p3x l3x c3x,.slice p4x l4x c4x,.slice p5x l5x c5x]),Xd w4.heap.size w5.heap.size A (.agg #[.int .i64 nx,.slice p1x l1x c1x,.slice p2x l2x c2x,.slice p3x l3x c3x,.slice p4x l4x c4x,.slice p5x l5x c5x]),Db (Bw) (.agg #[.int .i64 nw,.slice p1w l1w c1w,.slice p2w l2w c2w,.slice p3w l3w c3w,.slice p4w l4w c4w,.slice p5w l5w c5w]),Vd 0 w4.heap.size (F k0 a0 A) (.agg #[.int .i64 nw,.slice p1w l1w c1w,.slice p2w l2w c2w,.slice p3w l3w c3w,.slice p4w l4w c4w,.slice p5w l5w c5w]),Db (w.heap.size+1) (.agg #[.int .i64 k0,.int .i64 a0]),Db (w.heap.size) (.agg #[.int .i64 na,.slice p1a l1a c1a,.slice p2a l2a c2a,.slice p3a l3a c3a,.slice p4a l4a c4a,.slice p5a l5a c5a]),Vd 0 w.heap.size A (.agg #[.int .i64 na,.slice p1a l1a c1a,.slice p2a l2a c2a,.slice p3a l3a c3a,.slice p4a l4a c4a,.slice p5a l5a c5a])]))∧Hid ((w5.alloc (.cells #[.int .i64 nx,.slice p1x l1x c1x,.slice p2x l2x c2x,.slice p3x l3x c3x,.slice p4x l4x c4x,.slice p5x l5x c5x] 39)).heap.size≤w'.heap.size∧(w5.alloc (.cells #[.int .i64 nx,.slice p1x l1x c1x,.slice p2x l2x c2x,.slice p3x l3x c3x,.slice p4x l4x c4x,.slice p5x l5x c5x] 39)).heap.size≤Bg∧Bg<w'.heap.size∧(w5.alloc (.cells #[.int .i64 nx,.slice p1x l1x c1x,.slice p2x l2x c2x,.slice p3x l3x c3x,.slice p4x l4x c4x,.slice p5x l5x c5x] 39)).heap.size≤log∧hig≤w'.heap.size∧(Bg<log∨hig≤Bg)))
    case first =>
      have ⟨fx0,fx1,fx2,fx3,fx4,fx5⟩:=Ig (H6.out.box (B:=w5.heap.size) (v:=.agg #[.int .i64 nx,.slice p1x l1x c1x,.slice p2x l2x c2x,.slice p3x l3x c3x,.slice p4x l4x c4x,.slice p5x l5x c5x]) (.head _))
      have lx:=Lib.hid ((H6.out.2 _ (.head _)).2.1)
      have ⟨fv0,fv1⟩:=OR (H6.out.box (B:=w.heap.size+1) (v:=.agg #[.int .i64 k0,.int .i64 a0]) (.tail _ (.tail _ (.tail _ (.tail _ (.head _))))))
      have lv:=Lib.hid ((H6.out.2 _ (.tail _ (.tail _ (.tail _ (.tail _ (.head _)))))).2.1)
      have HD:=Lib.hid (H6.out.rebase.below (RI (w5.alloc (.cells #[.int .i64 nx,.slice p1x l1x c1x,.slice p2x l2x c2x,.slice p3x l3x c3x,.slice p4x l4x c4x,.slice p5x l5x c5x] 39))))
      refine ON 6 (Tr.val 0 (Tr.val 1 (Tr.two 2 (Tr.two 3 (Tr.one 4 (Tr.one 5 Tr.done)) 4 (Tr.one 3 (Tr.one 5 Tr.done))) 4 (Tr.one 2 (Tr.one 3 (Tr.one 5 Tr.done)))))) (by kernel_rfl) (by kernel_rfl) fun hx9=>?_
      have gx0:∀x:Yd (w5.alloc (.cells #[.int .i64 nx,.slice p1x l1x c1x,.slice p2x l2x c2x,.slice p3x l3x c3x,.slice p4x l4x c4x,.slice p5x l5x c5x] 39)),x.now.cell? ⟨w5.heap.size,0,none⟩=some _:=fun x=>(hx9 x _ 0 (by have:=lx.out;dsimp only [Db] at this;omega)).trans fx0
      have gx1:∀x:Yd (w5.alloc (.cells #[.int .i64 nx,.slice p1x l1x c1x,.slice p2x l2x c2x,.slice p3x l3x c3x,.slice p4x l4x c4x,.slice p5x l5x c5x] 39)),x.now.cell? ⟨w5.heap.size,1,none⟩=some _:=fun x=>(hx9 x _ 1 (by have:=lx.out;dsimp only [Db] at this;omega)).trans fx1
      have gx2:∀x:Yd (w5.alloc (.cells #[.int .i64 nx,.slice p1x l1x c1x,.slice p2x l2x c2x,.slice p3x l3x c3x,.slice p4x l4x c4x,.slice p5x l5x c5x] 39)),x.now.cell? ⟨w5.heap.size,2,none⟩=some _:=fun x=>(hx9 x _ 2 (by have:=lx.out;dsimp only [Db] at this;omega)).trans fx2
      have gx3:∀x:Yd (w5.alloc (.cells #[.int .i64 nx,.slice p1x l1x c1x,.slice p2x l2x c2x,.slice p3x l3x c3x,.slice p4x l4x c4x,.slice p5x l5x c5x] 39)),x.now.cell? ⟨w5.heap.size,3,none⟩=some _:=fun x=>(hx9 x _ 3 (by have:=lx.out;dsimp only [Db] at this;omega)).trans fx3
      have gx4:∀x:Yd (w5.alloc (.cells #[.int .i64 nx,.slice p1x l1x c1x,.slice p2x l2x c2x,.slice p3x l3x c3x,.slice p4x l4x c4x,.slice p5x l5x c5x] 39)),x.now.cell? ⟨w5.heap.size,4,none⟩=some _:=fun x=>(hx9 x _ 4 (by have:=lx.out;dsimp only [Db] at this;omega)).trans fx4
      have gx5:∀x:Yd (w5.alloc (.cells #[.int .i64 nx,.slice p1x l1x c1x,.slice p2x l2x c2x,.slice p3x l3x c3x,.slice p4x l4x c4x,.slice p5x l5x c5x] 39)),x.now.cell? ⟨w5.heap.size,5,none⟩=some _:=fun x=>(hx9 x _ 5 (by have:=lx.out;dsimp only [Db] at this;omega)).trans fx5
      have gv0:∀x:Yd (w5.alloc (.cells #[.int .i64 nx,.slice p1x l1x c1x,.slice p2x l2x c2x,.slice p3x l3x c3x,.slice p4x l4x c4x,.slice p5x l5x c5x] 39)),x.now.cell? ⟨w.heap.size+1,0,none⟩=some _:=fun x=>(hx9 x _ 0 (by have:=lv.out;dsimp only [Db] at this;omega)).trans fv0
      have gv1:∀x:Yd (w5.alloc (.cells #[.int .i64 nx,.slice p1x l1x c1x,.slice p2x l2x c2x,.slice p3x l3x c3x,.slice p4x l4x c4x,.slice p5x l5x c5x] 39)),x.now.cell? ⟨w.heap.size+1,1,none⟩=some _:=fun x=>(hx9 x _ 1 (by have:=lv.out;dsimp only [Db] at this;omega)).trans fv1
      clear hx9
      simp only [Fh,List.getElem?_cons_zero,List.getElem?_cons_succ,List.drop_succ_cons,List.drop_zero]
      repeat (first|refine Sb rfl ?_|refine Tb rfl ?_|(refine Ub rfl (fun K hK=>?_);go_big_quiet_op;refine hK _ ?_;clear hK K))
      try refine Rb ?_
      refine Nn ?_ ?_
      ·skip
       repeat (first|refine Sb rfl ?_|refine Tb rfl ?_|(refine Ub rfl (fun K hK=>?_);go_big_quiet_op;refine hK _ ?_;clear hK K))
       try refine Rb ?_
       refine Jc rfl (fun K hK=>?_);unfold Oper.wp;go_simp
       refine Calls.mono (Oo (htv.out _ k0 a0) (show _=(w5.heap.size+1) by simp only [World.size_alloc,World.size_drew]) HD) ?_
       rintro e wq0 ⟨rfl,HA0,sq0⟩
       refine hK _ _ ⟨⟨_,HA0.out.1⟩,rfl⟩ ?_
       clear hK K
       refine Nn ?_ ?_
       ·skip
        repeat (first|refine Sb rfl ?_|refine Tb rfl ?_|(refine Ub rfl (fun K hK=>?_);go_big_quiet_op;refine hK _ ?_;clear hK K))
        try refine Rb ?_
        refine Jc rfl (fun K hK=>?_);unfold Oper.wp;go_simp
        refine Calls.mono (Zp (him.out _ _ _ _ _ k0 a0 hA.out (HA0.out.own (.tail _ (.head _))).rw) (show _=wq0.heap.size from rfl) HA0) ?_
        rintro e wq1 ⟨ng,p1g,l1g,c1g,p2g,l2g,c2g,p3g,l3g,c3g,p4g,l4g,c4g,p5g,l5g,c5g,rfl,HA1,sq1⟩
        refine hK _ _ ⟨⟨_,HA1.out.1⟩,rfl⟩ ?_
        clear hK K
        repeat (first|refine Sb rfl ?_|refine Tb rfl ?_|(refine Ub rfl (fun K hK=>?_);go_big_quiet_op;refine hK _ ?_;clear hK K))
        try refine Rb ?_
        refine Jc rfl (fun K hK=>?_);unfold Oper.wp;go_simp
        have HA2:=Lib.hid (HA1.out.putO [.int .i64 0,.slice none 0 0,.slice none 0 0,.slice none 0 0,.slice none 0 0,.slice none 0 0] 39)
        refine hK _ _ ⟨⟨_,HA2.out.1⟩,rfl⟩ ?_
        clear hK K
        repeat (first|refine Sb rfl ?_|refine Tb rfl ?_|(refine Ub rfl (fun K hK=>?_);go_big_quiet_op;refine hK _ ?_;clear hK K))
        try refine Rb ?_
        refine Jc rfl (fun K hK=>?_);unfold Oper.wp;go_simp
        obtain ⟨wz,hz,hS⟩:=SR wq1 39 (.int .i64 ng) (.slice p1g l1g c1g) (.slice p2g l2g c2g) (.slice p3g l3g c3g) (.slice p4g l4g c4g) (.slice p5g l5g c5g)
        rw [hz]
        clear hz
        have hB:(w5.alloc (.cells #[.int .i64 nx,.slice p1x l1x c1x,.slice p2x l2x c2x,.slice p3x l3x c3x,.slice p4x l4x c4x,.slice p5x l5x c5x] 39)).heap.size≤wq1.heap.size:=by (have:=zg.out;have:=sq0.out;have:=sq1.out;omega)
        refine hK _ _ ⟨⟨_,HA1.out.bel hS.out.2.1 hB⟩,rfl⟩ ?_
        clear hK K
        repeat (first|refine Sb rfl ?_|refine Tb rfl ?_|(refine Ub rfl (fun K hK=>?_);go_big_quiet_op;refine hK _ ?_;clear hK K))
        try refine Rb ?_
        go_wp2_with fail
        go_meet
        have hE:=Aq H6.out HA1.out (fun _ h=>.tail _ (h)) hS.out.2.1 hB hS.out.2.2 hS.out.1 (HA1.out.own (.head _)) (by have:=zg.out;have:=sq0.out;have:=sq1.out;omega) (by have:=zg.out;have:=sq0.out;have:=sq1.out;omega)
        exact ⟨_,_,_,ng,p1g,l1g,c1g,p2g,l2g,c2g,p3g,l3g,c3g,p4g,l4g,c4g,p5g,l5g,c5g,rfl,hE.1,hE.2⟩
       ·skip
        repeat (first|refine Sb rfl ?_|refine Tb rfl ?_|(refine Ub rfl (fun K hK=>?_);go_big_quiet_op;refine hK _ ?_;clear hK K))
        try refine Rb ?_
        refine Jc rfl (fun K hK=>?_);unfold Oper.wp;go_simp
        have HA1:=Lib.hid (HA0.out.putO [.int .i64 0,.slice none 0 0,.slice none 0 0,.slice none 0 0,.slice none 0 0,.slice none 0 0] 39)
        refine hK _ _ ⟨⟨_,HA1.out.1⟩,rfl⟩ ?_
        clear hK K
        repeat (first|refine Sb rfl ?_|refine Tb rfl ?_|(refine Ub rfl (fun K hK=>?_);go_big_quiet_op;refine hK _ ?_;clear hK K))
        try refine Rb ?_
        refine Jc rfl (fun K hK=>?_);unfold Oper.wp;go_simp
        refine Calls.mono (Zp (him.out _ _ _ _ _ k0 a0 hA.out (HA1.out.own (.tail _ (.tail _ (.head _)))).rw) (show _=(wq0.heap.size+1) from World.size_alloc _ _) HA1) ?_
        rintro e wq2 ⟨ng,p1g,l1g,c1g,p2g,l2g,c2g,p3g,l3g,c3g,p4g,l4g,c4g,p5g,l5g,c5g,rfl,HA2,sq2⟩
        refine hK _ _ ⟨⟨_,HA2.out.1⟩,rfl⟩ ?_
        clear hK K
        have hb:Dc wq2 (wq0.heap.size) 39 #[.int .i64 0,.slice none 0 0,.slice none 0 0,.slice none 0 0,.slice none 0 0,.slice none 0 0]:=HA2.out.blk (.tail _ (.head _))
        have o0:=hb.cell 0;have o1:=hb.cell 1;have o2:=hb.cell 2;have o3:=hb.cell 3;have o4:=hb.cell 4;have o5:=hb.cell 5;have of:=hb.frozen;have ol:=hb.lt
        repeat (first|refine Sb rfl ?_|refine Tb rfl ?_|(refine Ub rfl (fun K hK=>?_);go_big_quiet_op;refine hK _ ?_;clear hK K))
        try refine Rb ?_
        refine Jc rfl (fun K hK=>?_);unfold Oper.wp;go_simp
        obtain ⟨wz,hz,hS⟩:=Po hb (.int .i64 ng) (.slice p1g l1g c1g) (.slice p2g l2g c2g) (.slice p3g l3g c3g) (.slice p4g l4g c4g) (.slice p5g l5g c5g)
        rw [hz]
        clear hz
        have hB:(w5.alloc (.cells #[.int .i64 nx,.slice p1x l1x c1x,.slice p2x l2x c2x,.slice p3x l3x c3x,.slice p4x l4x c4x,.slice p5x l5x c5x] 39)).heap.size≤wq0.heap.size:=by (have:=zg.out;have:=sq0.out;have:=sq2.out;omega)
        refine hK _ _ ⟨⟨_,HA2.out.bel hS.out.2.1 hB⟩,rfl⟩ ?_
        clear hK K
        clear o0 o1 o2 o3 o4 o5 of ol hb
        repeat (first|refine Sb rfl ?_|refine Tb rfl ?_|(refine Ub rfl (fun K hK=>?_);go_big_quiet_op;refine hK _ ?_;clear hK K))
        try refine Rb ?_
        go_wp2_with fail
        go_meet
        have hE:=Aq H6.out HA2.out (fun _ h=>.tail _ (.tail _ (h))) hS.out.2.1 hB hS.out.2.2 hS.out.1 (HA2.out.own (.head _)) (by have:=zg.out;have:=sq0.out;have:=sq2.out;omega) (by have:=zg.out;have:=sq0.out;have:=sq2.out;omega)
        exact ⟨_,_,_,ng,p1g,l1g,c1g,p2g,l2g,c2g,p3g,l3g,c3g,p4g,l4g,c4g,p5g,l5g,c5g,rfl,hE.1,hE.2⟩
      ·skip
       repeat (first|refine Sb rfl ?_|refine Tb rfl ?_|(refine Ub rfl (fun K hK=>?_);go_big_quiet_op;refine hK _ ?_;clear hK K))
       try refine Rb ?_
       refine Jc rfl (fun K hK=>?_);unfold Oper.wp;go_simp
       have HA0:=Lib.hid (HD.out.putO [.int .i64 0,.slice none 0 0,.slice none 0 0,.slice none 0 0,.slice none 0 0,.slice none 0 0] 39)
       refine hK _ _ ⟨⟨_,HA0.out.1⟩,rfl⟩ ?_
       clear hK K
       repeat (first|refine Sb rfl ?_|refine Tb rfl ?_|(refine Ub rfl (fun K hK=>?_);go_big_quiet_op;refine hK _ ?_;clear hK K))
       try refine Rb ?_
       refine Jc rfl (fun K hK=>?_);unfold Oper.wp;go_simp
       refine Calls.mono (Oo (htv.out _ k0 a0) (show _=((w5.heap.size+1)+1) by simp only [World.size_alloc,World.size_drew]) HA0) ?_
       rintro e wq1 ⟨rfl,HA1,sq1⟩
       refine hK _ _ ⟨⟨_,HA1.out.1⟩,rfl⟩ ?_
       clear hK K
       repeat (first|refine Sb rfl ?_|refine Tb rfl ?_|(refine Ub rfl (fun K hK=>?_);go_big_quiet_op;refine hK _ ?_;clear hK K))
       try refine Rb ?_
       refine Jc rfl (fun K hK=>?_);unfold Oper.wp;go_simp
       refine Calls.mono (Zp (him.out _ _ _ _ _ k0 a0 hA.out (HA1.out.own (.tail _ (.tail _ (.head _)))).rw) (show _=wq1.heap.size from rfl) HA1) ?_
       rintro e wq2 ⟨ng,p1g,l1g,c1g,p2g,l2g,c2g,p3g,l3g,c3g,p4g,l4g,c4g,p5g,l5g,c5g,rfl,HA2,sq2⟩
       refine hK _ _ ⟨⟨_,HA2.out.1⟩,rfl⟩ ?_
       clear hK K
       have hb:Dc wq2 (w5.heap.size+1) 39 #[.int .i64 0,.slice none 0 0,.slice none 0 0,.slice none 0 0,.slice none 0 0,.slice none 0 0]:=by rw [←zg.out];exact HA2.out.blk (.tail _ (.head _))
       have o0:=hb.cell 0;have o1:=hb.cell 1;have o2:=hb.cell 2;have o3:=hb.cell 3;have o4:=hb.cell 4;have o5:=hb.cell 5;have of:=hb.frozen;have ol:=hb.lt
       repeat (first|refine Sb rfl ?_|refine Tb rfl ?_|(refine Ub rfl (fun K hK=>?_);go_big_quiet_op;refine hK _ ?_;clear hK K))
       try refine Rb ?_
       refine Jc rfl (fun K hK=>?_);unfold Oper.wp;go_simp
       obtain ⟨wz,hz,hS⟩:=Po hb (.int .i64 ng) (.slice p1g l1g c1g) (.slice p2g l2g c2g) (.slice p3g l3g c3g) (.slice p4g l4g c4g) (.slice p5g l5g c5g)
       rw [hz]
       clear hz
       have hB:(w5.alloc (.cells #[.int .i64 nx,.slice p1x l1x c1x,.slice p2x l2x c2x,.slice p3x l3x c3x,.slice p4x l4x c4x,.slice p5x l5x c5x] 39)).heap.size≤(w5.heap.size+1):=by (have:=zg.out;have:=sq1.out;have:=sq2.out;omega)
       refine hK _ _ ⟨⟨_,HA2.out.bel hS.out.2.1 hB⟩,rfl⟩ ?_
       clear hK K
       clear o0 o1 o2 o3 o4 o5 of ol hb
       repeat (first|refine Sb rfl ?_|refine Tb rfl ?_|(refine Ub rfl (fun K hK=>?_);go_big_quiet_op;refine hK _ ?_;clear hK K))
       try refine Rb ?_
       go_wp2_with fail
       go_meet
       have hE:=Aq H6.out HA2.out (fun _ h=>.tail _ (.tail _ (h))) hS.out.2.1 hB hS.out.2.2 hS.out.1 (HA2.out.own (.head _)) (by have:=zg.out;have:=sq1.out;have:=sq2.out;omega) (by have:=zg.out;have:=sq1.out;have:=sq2.out;omega)
       exact ⟨_,_,_,ng,p1g,l1g,c1g,p2g,l2g,c2g,p3g,l3g,c3g,p4g,l4g,c4g,p5g,l5g,c5g,rfl,hE.1,hE.2⟩
    case rest =>
      obtain ⟨Bg,log,hig,ng,p1g,l1g,c1g,p2g,l2g,c2g,p3g,l3g,c3g,p4g,l4g,c4g,p5g,l5g,c5g,rfl,H7,s7⟩:=hcut
      rename World=>w7
      clear H6
      have ⟨fg0,fg1,fg2,fg3,fg4,fg5⟩:=Ig (H7.out.box (B:=Bg) (v:=.agg #[.int .i64 ng,.slice p1g l1g c1g,.slice p2g l2g c2g,.slice p3g l3g c3g,.slice p4g l4g c4g,.slice p5g l5g c5g]) (.head _))
      have ⟨fw0,fw1,fw2,fw3,fw4,fw5⟩:=Ig (H7.out.box (B:=Bw) (v:=.agg #[.int .i64 nw,.slice p1w l1w c1w,.slice p2w l2w c2w,.slice p3w l3w c3w,.slice p4w l4w c4w,.slice p5w l5w c5w]) (.tail _ (.tail _ (.tail _ (.tail _ (.head _))))))
      have c8:=Lib.hid (SI heq.out rfl H7 (H7.out.own (.tail _ (.head _))).rw (H7.out.rd (.tail _ (.tail _ (.tail _ (.tail _ (.tail _ (.head _))))))) hV.out.2)
      clear H7
      try dsimp only
      go_wp2_with fail
      refine Calls.mono c8.out ?_
      rintro e w8 ⟨rfl,H8,s8⟩
      clear c8
      clear fg0 fg1 fg2 fg3 fg4 fg5
      clear fw0 fw1 fw2 fw3 fw4 fw5
      go_wp2_with fail
      go_cut [37] (fun v w'=>v=.bool false∧Hid (LS w w' [Db (Bg) (.agg #[.int .i64 ng,.slice p1g l1g c1g,.slice p2g l2g c2g,.slice p3g l3g c3g,.slice p4g l4g c4g,.slice p5g l5g c5g]),Xd log hig (F k0 a0 A) (.agg #[.int .i64 ng,.slice p1g l1g c1g,.slice p2g l2g c2g,.slice p3g l3g c3g,.slice p4g l4g c4g,.slice p5g l5g c5g]),Db (w5.heap.size) (.agg #[.int .i64 nx,.slice p1x l1x c1x,.slice p2x l2x c2x,.slice p3x l3x c3x,.slice p4x l4x c4x,.slice p5x l5x c5x]),Xd w4.heap.size w5.heap.size A (.agg #[.int .i64 nx,.slice p1x l1x c1x,.slice p2x l2x c2x,.slice p3x l3x c3x,.slice p4x l4x c4x,.slice p5x l5x c5x]),Db (Bw) (.agg #[.int .i64 nw,.slice p1w l1w c1w,.slice p2w l2w c2w,.slice p3w l3w c3w,.slice p4w l4w c4w,.slice p5w l5w c5w]),Vd 0 w4.heap.size (F k0 a0 A) (.agg #[.int .i64 nw,.slice p1w l1w c1w,.slice p2w l2w c2w,.slice p3w l3w c3w,.slice p4w l4w c4w,.slice p5w l5w c5w]),Db (w.heap.size+1) (.agg #[.int .i64 k0,.int .i64 a0]),Db (w.heap.size) (.agg #[.int .i64 na,.slice p1a l1a c1a,.slice p2a l2a c2a,.slice p3a l3a c3a,.slice p4a l4a c4a,.slice p5a l5a c5a]),Vd 0 w.heap.size A (.agg #[.int .i64 na,.slice p1a l1a c1a,.slice p2a l2a c2a,.slice p3a l3a c3a,.slice p4a l4a c4a,.slice p5a l5a c5a])])∧Hid (w8.heap.size≤w'.heap.size))
      case first =>
        have ⟨fx0,fx1,fx2,fx3,fx4,fx5⟩:=Ig (H8.out.box (B:=w5.heap.size) (v:=.agg #[.int .i64 nx,.slice p1x l1x c1x,.slice p2x l2x c2x,.slice p3x l3x c3x,.slice p4x l4x c4x,.slice p5x l5x c5x]) (.tail _ (.tail _ (.head _))))
        have ⟨fa0,fa1,fa2,fa3,fa4,fa5⟩:=Ig (H8.out.box (B:=w.heap.size) (v:=.agg #[.int .i64 na,.slice p1a l1a c1a,.slice p2a l2a c2a,.slice p3a l3a c3a,.slice p4a l4a c4a,.slice p5a l5a c5a]) (.tail _ (.tail _ (.tail _ (.tail _ (.tail _ (.tail _ (.tail _ (.head _)))))))))
        have cT:=Lib.hid (Rv hto.out (w:=w8.drew) rfl (L:=[Db (Bg) (.agg #[.int .i64 ng,.slice p1g l1g c1g,.slice p2g l2g c2g,.slice p3g l3g c3g,.slice p4g l4g c4g,.slice p5g l5g c5g]),Xd log hig (F k0 a0 A) (.agg #[.int .i64 ng,.slice p1g l1g c1g,.slice p2g l2g c2g,.slice p3g l3g c3g,.slice p4g l4g c4g,.slice p5g l5g c5g]),Db (w5.heap.size) (.agg #[.int .i64 nx,.slice p1x l1x c1x,.slice p2x l2x c2x,.slice p3x l3x c3x,.slice p4x l4x c4x,.slice p5x l5x c5x]),Xd w4.heap.size w5.heap.size A (.agg #[.int .i64 nx,.slice p1x l1x c1x,.slice p2x l2x c2x,.slice p3x l3x c3x,.slice p4x l4x c4x,.slice p5x l5x c5x]),Db (Bw) (.agg #[.int .i64 nw,.slice p1w l1w c1w,.slice p2w l2w c2w,.slice p3w l3w c3w,.slice p4w l4w c4w,.slice p5w l5w c5w]),Vd 0 w4.heap.size (F k0 a0 A) (.agg #[.int .i64 nw,.slice p1w l1w c1w,.slice p2w l2w c2w,.slice p3w l3w c3w,.slice p4w l4w c4w,.slice p5w l5w c5w]),Db (w.heap.size+1) (.agg #[.int .i64 k0,.int .i64 a0]),Db (w.heap.size) (.agg #[.int .i64 na,.slice p1a l1a c1a,.slice p2a l2a c2a,.slice p3a l3a c3a,.slice p4a l4a c4a,.slice p5a l5a c5a]),Vd 0 w.heap.size A (.agg #[.int .i64 na,.slice p1a l1a c1a,.slice p2a l2a c2a,.slice p3a l3a c3a,.slice p4a l4a c4a,.slice p5a l5a c5a])]) (Lib.hid (H8.out.below (RI _))) (.tail _ (.tail _ (.tail _ (.tail _ (.tail _ (.tail _ (.tail _ (.tail _ (.head _))))))))) hA.out)
        go_region_with (first
          |(go_at_call 10;refine Calls.mono cT.out ?_;rintro e wT ⟨nt,p1t,l1t,c1t,p2t,l2t,c2t,p3t,l3t,c3t,p4t,l4t,c4t,p5t,l5t,c5t,rfl,HT,sT⟩;have ⟨fx0,fx1,fx2,fx3,fx4,fx5⟩:=Ig (HT.out.box (B:=w5.heap.size) (v:=.agg #[.int .i64 nx,.slice p1x l1x c1x,.slice p2x l2x c2x,.slice p3x l3x c3x,.slice p4x l4x c4x,.slice p5x l5x c5x]) (.tail _ (.tail _ (.tail _ (.head _))))))
          |(go_at_call 13;refine (SI heq.out rfl (L:=[Xd w8.drew.heap.size wT.heap.size A (.agg #[.int .i64 nt,.slice p1t l1t c1t,.slice p2t l2t c2t,.slice p3t l3t c3t,.slice p4t l4t c4t,.slice p5t l5t c5t]),Db (Bg) (.agg #[.int .i64 ng,.slice p1g l1g c1g,.slice p2g l2g c2g,.slice p3g l3g c3g,.slice p4g l4g c4g,.slice p5g l5g c5g]),Xd log hig (F k0 a0 A) (.agg #[.int .i64 ng,.slice p1g l1g c1g,.slice p2g l2g c2g,.slice p3g l3g c3g,.slice p4g l4g c4g,.slice p5g l5g c5g]),Db (w5.heap.size) (.agg #[.int .i64 nx,.slice p1x l1x c1x,.slice p2x l2x c2x,.slice p3x l3x c3x,.slice p4x l4x c4x,.slice p5x l5x c5x]),Xd w4.heap.size w5.heap.size A (.agg #[.int .i64 nx,.slice p1x l1x c1x,.slice p2x l2x c2x,.slice p3x l3x c3x,.slice p4x l4x c4x,.slice p5x l5x c5x]),Db (Bw) (.agg #[.int .i64 nw,.slice p1w l1w c1w,.slice p2w l2w c2w,.slice p3w l3w c3w,.slice p4w l4w c4w,.slice p5w l5w c5w]),Vd 0 w4.heap.size (F k0 a0 A) (.agg #[.int .i64 nw,.slice p1w l1w c1w,.slice p2w l2w c2w,.slice p3w l3w c3w,.slice p4w l4w c4w,.slice p5w l5w c5w]),Db (w.heap.size+1) (.agg #[.int .i64 k0,.int .i64 a0]),Db (w.heap.size) (.agg #[.int .i64 na,.slice p1a l1a c1a,.slice p2a l2a c2a,.slice p3a l3a c3a,.slice p4a l4a c4a,.slice p5a l5a c5a]),Vd 0 w.heap.size A (.agg #[.int .i64 na,.slice p1a l1a c1a,.slice p2a l2a c2a,.slice p3a l3a c3a,.slice p4a l4a c4a,.slice p5a l5a c5a])]) HT (HT.out.own (.tail _ (.tail _ (.tail _ (.tail _ (.head _)))))).rw (HT.out.own (.head _)).rw hV.out.1).mono ?_;rintro e wU ⟨rfl,HU,sU⟩))
        all_goals (go_wp2_with fail)
        all_goals go_meet
        all_goals exact ⟨rfl,HU.out.sub fun _ h=>.tail _ h,Nat.le_trans sT.out sU.out⟩
      case rest =>
        obtain ⟨rfl,H9,s9⟩:=hcut
        rename World=>w9
        clear H8
        have ⟨fx0,fx1,fx2,fx3,fx4,fx5⟩:=Ig (H9.out.box (B:=w5.heap.size) (v:=.agg #[.int .i64 nx,.slice p1x l1x c1x,.slice p2x l2x c2x,.slice p3x l3x c3x,.slice p4x l4x c4x,.slice p5x l5x c5x]) (.tail _ (.tail _ (.head _))))
        have c10:=Lib.hid (N8 (L':=[Db (Bg) (.agg #[.int .i64 ng,.slice p1g l1g c1g,.slice p2g l2g c2g,.slice p3g l3g c3g,.slice p4g l4g c4g,.slice p5g l5g c5g]),Xd log hig (F k0 a0 A) (.agg #[.int .i64 ng,.slice p1g l1g c1g,.slice p2g l2g c2g,.slice p3g l3g c3g,.slice p4g l4g c4g,.slice p5g l5g c5g]),Db (w5.heap.size) (.agg #[.int .i64 nx,.slice p1x l1x c1x,.slice p2x l2x c2x,.slice p3x l3x c3x,.slice p4x l4x c4x,.slice p5x l5x c5x]),Db (Bw) (.agg #[.int .i64 nw,.slice p1w l1w c1w,.slice p2w l2w c2w,.slice p3w l3w c3w,.slice p4w l4w c4w,.slice p5w l5w c5w]),Vd 0 w4.heap.size (F k0 a0 A) (.agg #[.int .i64 nw,.slice p1w l1w c1w,.slice p2w l2w c2w,.slice p3w l3w c3w,.slice p4w l4w c4w,.slice p5w l5w c5w]),Db (w.heap.size+1) (.agg #[.int .i64 k0,.int .i64 a0]),Db (w.heap.size) (.agg #[.int .i64 na,.slice p1a l1a c1a,.slice p2a l2a c2a,.slice p3a l3a c3a,.slice p4a l4a c4a,.slice p5a l5a c5a]),Vd 0 w.heap.size A (.agg #[.int .i64 na,.slice p1a l1a c1a,.slice p2a l2a c2a,.slice p3a l3a c3a,.slice p4a l4a c4a,.slice p5a l5a c5a])]) hmk.out rfl H9 (.tail _ (.tail _ (.tail _ (.head _)))) hV.out.1 (fun i h=>M8 [Db (Bg) (.agg #[.int .i64 ng,.slice p1g l1g c1g,.slice p2g l2g c2g,.slice p3g l3g c3g,.slice p4g l4g c4g,.slice p5g l5g c5g]),Xd log hig (F k0 a0 A) (.agg #[.int .i64 ng,.slice p1g l1g c1g,.slice p2g l2g c2g,.slice p3g l3g c3g,.slice p4g l4g c4g,.slice p5g l5g c5g]),Db (w5.heap.size) (.agg #[.int .i64 nx,.slice p1x l1x c1x,.slice p2x l2x c2x,.slice p3x l3x c3x,.slice p4x l4x c4x,.slice p5x l5x c5x]),Xd w4.heap.size w5.heap.size A (.agg #[.int .i64 nx,.slice p1x l1x c1x,.slice p2x l2x c2x,.slice p3x l3x c3x,.slice p4x l4x c4x,.slice p5x l5x c5x]),Db (Bw) (.agg #[.int .i64 nw,.slice p1w l1w c1w,.slice p2w l2w c2w,.slice p3w l3w c3w,.slice p4w l4w c4w,.slice p5w l5w c5w]),Vd 0 w4.heap.size (F k0 a0 A) (.agg #[.int .i64 nw,.slice p1w l1w c1w,.slice p2w l2w c2w,.slice p3w l3w c3w,.slice p4w l4w c4w,.slice p5w l5w c5w]),Db (w.heap.size+1) (.agg #[.int .i64 k0,.int .i64 a0]),Db (w.heap.size) (.agg #[.int .i64 na,.slice p1a l1a c1a,.slice p2a l2a c2a,.slice p3a l3a c3a,.slice p4a l4a c4a,.slice p5a l5a c5a]),Vd 0 w.heap.size A (.agg #[.int .i64 na,.slice p1a l1a c1a,.slice p2a l2a c2a,.slice p3a l3a c3a,.slice p4a l4a c4a,.slice p5a l5a c5a])] 3 h) (by have:=s3.out;have:=s4.out;have:=s5.out;have:=zg.out;have:=s7.out;have:=s8.out;have:=s9.out;omega) (fun i h=>by
          have:=s3.out;have:=s4.out;have:=s5.out;have:=zg.out;have:=s7.out;have:=s8.out;have:=s9.out
          simp only [List.mem_cons,List.not_mem_nil,or_false] at h
          rcases h with rfl|rfl|rfl|rfl|rfl|rfl|rfl|rfl<;>dsimp only [Db,Vd,Xd,P8,Q8]<;>omega))
        clear H9
        try dsimp only
        go_wp2_with fail
        refine Calls.mono c10.out ?_
        rintro e w10 ⟨rfl,H10,s10⟩
        clear c10
        clear fx0 fx1 fx2 fx3 fx4 fx5
        have ⟨fg0,fg1,fg2,fg3,fg4,fg5⟩:=Ig (H10.out.box (B:=Bg) (v:=.agg #[.int .i64 ng,.slice p1g l1g c1g,.slice p2g l2g c2g,.slice p3g l3g c3g,.slice p4g l4g c4g,.slice p5g l5g c5g]) (.tail _ (.head _)))
        have ⟨fw0,fw1,fw2,fw3,fw4,fw5⟩:=Ig (H10.out.box (B:=Bw) (v:=.agg #[.int .i64 nw,.slice p1w l1w c1w,.slice p2w l2w c2w,.slice p3w l3w c3w,.slice p4w l4w c4w,.slice p5w l5w c5w]) (.tail _ (.tail _ (.tail _ (.tail _ (.head _))))))
        have c11:=Lib.hid (SI heq.out rfl H10 (H10.out.own (.tail _ (.tail _ (.head _)))).rw (H10.out.rd (.tail _ (.tail _ (.tail _ (.tail _ (.tail _ (.head _))))))) hV.out.2)
        clear H10
        try dsimp only
        go_wp2_with fail
        refine Calls.mono c11.out ?_
        rintro e w11 ⟨rfl,H11,s11⟩
        clear c11
        clear fg0 fg1 fg2 fg3 fg4 fg5
        clear fw0 fw1 fw2 fw3 fw4 fw5
        have ⟨fg0,fg1,fg2,fg3,fg4,fg5⟩:=Ig (H11.out.box (B:=Bg) (v:=.agg #[.int .i64 ng,.slice p1g l1g c1g,.slice p2g l2g c2g,.slice p3g l3g c3g,.slice p4g l4g c4g,.slice p5g l5g c5g]) (.tail _ (.head _)))
        have c12:=Lib.hid (N8 (L':=[Xd w4.heap.size w5.heap.size (M A) (.agg #[.int .i64 nx,.slice p1x l1x c1x,.slice p2x l2x c2x,.slice p3x l3x c3x,.slice p4x l4x c4x,.slice p5x l5x c5x]),Db (Bg) (.agg #[.int .i64 ng,.slice p1g l1g c1g,.slice p2g l2g c2g,.slice p3g l3g c3g,.slice p4g l4g c4g,.slice p5g l5g c5g]),Db (w5.heap.size) (.agg #[.int .i64 nx,.slice p1x l1x c1x,.slice p2x l2x c2x,.slice p3x l3x c3x,.slice p4x l4x c4x,.slice p5x l5x c5x]),Db (Bw) (.agg #[.int .i64 nw,.slice p1w l1w c1w,.slice p2w l2w c2w,.slice p3w l3w c3w,.slice p4w l4w c4w,.slice p5w l5w c5w]),Vd 0 w4.heap.size (F k0 a0 A) (.agg #[.int .i64 nw,.slice p1w l1w c1w,.slice p2w l2w c2w,.slice p3w l3w c3w,.slice p4w l4w c4w,.slice p5w l5w c5w]),Db (w.heap.size+1) (.agg #[.int .i64 k0,.int .i64 a0]),Db (w.heap.size) (.agg #[.int .i64 na,.slice p1a l1a c1a,.slice p2a l2a c2a,.slice p3a l3a c3a,.slice p4a l4a c4a,.slice p5a l5a c5a]),Vd 0 w.heap.size A (.agg #[.int .i64 na,.slice p1a l1a c1a,.slice p2a l2a c2a,.slice p3a l3a c3a,.slice p4a l4a c4a,.slice p5a l5a c5a])]) hmk.out rfl H11 (.tail _ (.tail _ (.head _))) hV.out.2 (fun i h=>M8 [Xd w4.heap.size w5.heap.size (M A) (.agg #[.int .i64 nx,.slice p1x l1x c1x,.slice p2x l2x c2x,.slice p3x l3x c3x,.slice p4x l4x c4x,.slice p5x l5x c5x]),Db (Bg) (.agg #[.int .i64 ng,.slice p1g l1g c1g,.slice p2g l2g c2g,.slice p3g l3g c3g,.slice p4g l4g c4g,.slice p5g l5g c5g]),Xd log hig (F k0 a0 A) (.agg #[.int .i64 ng,.slice p1g l1g c1g,.slice p2g l2g c2g,.slice p3g l3g c3g,.slice p4g l4g c4g,.slice p5g l5g c5g]),Db (w5.heap.size) (.agg #[.int .i64 nx,.slice p1x l1x c1x,.slice p2x l2x c2x,.slice p3x l3x c3x,.slice p4x l4x c4x,.slice p5x l5x c5x]),Db (Bw) (.agg #[.int .i64 nw,.slice p1w l1w c1w,.slice p2w l2w c2w,.slice p3w l3w c3w,.slice p4w l4w c4w,.slice p5w l5w c5w]),Vd 0 w4.heap.size (F k0 a0 A) (.agg #[.int .i64 nw,.slice p1w l1w c1w,.slice p2w l2w c2w,.slice p3w l3w c3w,.slice p4w l4w c4w,.slice p5w l5w c5w]),Db (w.heap.size+1) (.agg #[.int .i64 k0,.int .i64 a0]),Db (w.heap.size) (.agg #[.int .i64 na,.slice p1a l1a c1a,.slice p2a l2a c2a,.slice p3a l3a c3a,.slice p4a l4a c4a,.slice p5a l5a c5a]),Vd 0 w.heap.size A (.agg #[.int .i64 na,.slice p1a l1a c1a,.slice p2a l2a c2a,.slice p3a l3a c3a,.slice p4a l4a c4a,.slice p5a l5a c5a])] 2 h) (by have:=s3.out;have:=s4.out;have:=s5.out;have:=zg.out;have:=s7.out;have:=s8.out;have:=s9.out;have:=s10.out;have:=s11.out;omega) (fun i h=>by
          have:=s3.out;have:=s4.out;have:=s5.out;have:=zg.out;have:=s7.out;have:=s8.out;have:=s9.out;have:=s10.out;have:=s11.out
          simp only [List.mem_cons,List.not_mem_nil,or_false] at h
          rcases h with rfl|rfl|rfl|rfl|rfl|rfl|rfl|rfl<;>dsimp only [Db,Vd,Xd,P8,Q8]<;>omega))
        clear H11
        try dsimp only
        go_wp2_with fail
        refine Calls.mono c12.out ?_
        rintro e w12 ⟨rfl,H12,s12⟩
        clear c12
        clear fg0 fg1 fg2 fg3 fg4 fg5
        have ⟨fg0,fg1,fg2,fg3,fg4,fg5⟩:=Ig (H12.out.box (B:=Bg) (v:=.agg #[.int .i64 ng,.slice p1g l1g c1g,.slice p2g l2g c2g,.slice p3g l3g c3g,.slice p4g l4g c4g,.slice p5g l5g c5g]) (.tail _ (.tail _ (.head _))))
        have c13:=Lib.hid (O8 hhd.out rfl H12 (.head _) hV.out.2)
        clear H12
        try dsimp only
        go_wp2_with fail
        refine Calls.mono c13.out ?_
        rintro e w13 ⟨rfl,H13,s13⟩
        clear c13
        clear fg0 fg1 fg2 fg3 fg4 fg5
        go_wp2_with fail
        go_cut [12] (fun v w'=>∃Bh:Nat,∃loh hih:Nat,∃nh p1h l1h c1h p2h l2h c2h p3h l3h c3h p4h l4h c4h p5h l5h c5h,v=.pointer (some ⟨Bh,0,none⟩)∧Hid (LS w w' (Db Bh (.agg #[.int .i64 nh,.slice p1h l1h c1h,.slice p2h l2h c2h,.slice p3h l3h c3h,.slice p4h l4h c4h,.slice p5h l5h c5h])::Xd loh hih (F k0 a0 A) (.agg #[.int .i64 nh,.slice p1h l1h c1h,.slice p2h l2h c2h,.slice p3h l3h c3h,.slice p4h l4h c4h,.slice p5h l5h c5h])::[Xd log hig (M (F k0 a0 A)) (.agg #[.int .i64 ng,.slice p1g l1g c1g,.slice p2g l2g c2g,.slice p3g l3g c3g,.slice p4g l4g c4g,.slice p5g l5g c5g]),Xd w4.heap.size w5.heap.size (M A) (.agg #[.int .i64 nx,.slice p1x l1x c1x,.slice p2x l2x c2x,.slice p3x l3x c3x,.slice p4x l4x c4x,.slice p5x l5x c5x]),Db (Bg) (.agg #[.int .i64 ng,.slice p1g l1g c1g,.slice p2g l2g c2g,.slice p3g l3g c3g,.slice p4g l4g c4g,.slice p5g l5g c5g]),Db (w5.heap.size) (.agg #[.int .i64 nx,.slice p1x l1x c1x,.slice p2x l2x c2x,.slice p3x l3x c3x,.slice p4x l4x c4x,.slice p5x l5x c5x]),Db (Bw) (.agg #[.int .i64 nw,.slice p1w l1w c1w,.slice p2w l2w c2w,.slice p3w l3w c3w,.slice p4w l4w c4w,.slice p5w l5w c5w]),Vd 0 w4.heap.size (F k0 a0 A) (.agg #[.int .i64 nw,.slice p1w l1w c1w,.slice p2w l2w c2w,.slice p3w l3w c3w,.slice p4w l4w c4w,.slice p5w l5w c5w]),Db (w.heap.size+1) (.agg #[.int .i64 k0,.int .i64 a0]),Db (w.heap.size) (.agg #[.int .i64 na,.slice p1a l1a c1a,.slice p2a l2a c2a,.slice p3a l3a c3a,.slice p4a l4a c4a,.slice p5a l5a c5a]),Vd 0 w.heap.size A (.agg #[.int .i64 na,.slice p1a l1a c1a,.slice p2a l2a c2a,.slice p3a l3a c3a,.slice p4a l4a c4a,.slice p5a l5a c5a])]))∧Hid (w13.heap.size≤w'.heap.size∧w13.heap.size≤Bh∧Bh<w'.heap.size∧w13.heap.size≤loh∧hih≤w'.heap.size∧(Bh<loh∨hih≤Bh)))
        case first =>
          have ⟨fa0,fa1,fa2,fa3,fa4,fa5⟩:=Ig (H13.out.box (B:=w.heap.size) (v:=.agg #[.int .i64 na,.slice p1a l1a c1a,.slice p2a l2a c2a,.slice p3a l3a c3a,.slice p4a l4a c4a,.slice p5a l5a c5a]) (.tail _ (.tail _ (.tail _ (.tail _ (.tail _ (.tail _ (.tail _ (.head _)))))))))
          have la:=Lib.hid ((H13.out.2 _ (.tail _ (.tail _ (.tail _ (.tail _ (.tail _ (.tail _ (.tail _ (.head _))))))))).2.1)
          have ⟨fv0,fv1⟩:=OR (H13.out.box (B:=w.heap.size+1) (v:=.agg #[.int .i64 k0,.int .i64 a0]) (.tail _ (.tail _ (.tail _ (.tail _ (.tail _ (.tail _ (.head _))))))))
          have lv:=Lib.hid ((H13.out.2 _ (.tail _ (.tail _ (.tail _ (.tail _ (.tail _ (.tail _ (.head _)))))))).2.1)
          have HD:=Lib.hid (H13.out.rebase.below (RI w13))
          refine ON 7 (Tr.val 0 (Tr.val 2 (Tr.two 1 (Tr.two 3 (Tr.two 4 (Tr.one 5 (Tr.one 6 Tr.done)) 5 (Tr.one 4 (Tr.one 6 Tr.done))) 5 (Tr.one 3 (Tr.one 4 (Tr.one 6 Tr.done)))) 5 (Tr.one 1 (Tr.one 3 (Tr.one 4 (Tr.one 6 Tr.done))))))) (by kernel_rfl) (by kernel_rfl) fun hx9=>?_
          have ga0:∀x:Yd w13,x.now.cell? ⟨w.heap.size,0,none⟩=some _:=fun x=>(hx9 x _ 0 (by have:=la.out;dsimp only [Db] at this;omega)).trans fa0
          have ga1:∀x:Yd w13,x.now.cell? ⟨w.heap.size,1,none⟩=some _:=fun x=>(hx9 x _ 1 (by have:=la.out;dsimp only [Db] at this;omega)).trans fa1
          have ga2:∀x:Yd w13,x.now.cell? ⟨w.heap.size,2,none⟩=some _:=fun x=>(hx9 x _ 2 (by have:=la.out;dsimp only [Db] at this;omega)).trans fa2
          have ga3:∀x:Yd w13,x.now.cell? ⟨w.heap.size,3,none⟩=some _:=fun x=>(hx9 x _ 3 (by have:=la.out;dsimp only [Db] at this;omega)).trans fa3
          have ga4:∀x:Yd w13,x.now.cell? ⟨w.heap.size,4,none⟩=some _:=fun x=>(hx9 x _ 4 (by have:=la.out;dsimp only [Db] at this;omega)).trans fa4
          have ga5:∀x:Yd w13,x.now.cell? ⟨w.heap.size,5,none⟩=some _:=fun x=>(hx9 x _ 5 (by have:=la.out;dsimp only [Db] at this;omega)).trans fa5
          have gv0:∀x:Yd w13,x.now.cell? ⟨w.heap.size+1,0,none⟩=some _:=fun x=>(hx9 x _ 0 (by have:=lv.out;dsimp only [Db] at this;omega)).trans fv0
          have gv1:∀x:Yd w13,x.now.cell? ⟨w.heap.size+1,1,none⟩=some _:=fun x=>(hx9 x _ 1 (by have:=lv.out;dsimp only [Db] at this;omega)).trans fv1
          clear hx9
          simp only [Fh,List.getElem?_cons_zero,List.getElem?_cons_succ,List.drop_succ_cons,List.drop_zero]
          repeat (first|refine Sb rfl ?_|refine Tb rfl ?_|(refine Ub rfl (fun K hK=>?_);go_big_quiet_op;refine hK _ ?_;clear hK K))
          try refine Rb ?_
          refine Nn ?_ ?_
          ·skip
           repeat (first|refine Sb rfl ?_|refine Tb rfl ?_|(refine Ub rfl (fun K hK=>?_);go_big_quiet_op;refine hK _ ?_;clear hK K))
           try refine Rb ?_
           refine Jc rfl (fun K hK=>?_);unfold Oper.wp;go_simp
           refine Calls.mono (Rv hto.out (show _=w13.heap.size from rfl) HD (.tail _ (.tail _ (.tail _ (.tail _ (.tail _ (.tail _ (.tail _ (.tail _ (.head _))))))))) hA.out) ?_
           rintro e wq0 ⟨nqh,p1qh,l1qh,c1qh,p2qh,l2qh,c2qh,p3qh,l3qh,c3qh,p4qh,l4qh,c4qh,p5qh,l5qh,c5qh,rfl,HA0,sq0⟩
           refine hK _ _ ⟨⟨_,HA0.out.1⟩,rfl⟩ ?_
           clear hK K
           refine Nn ?_ ?_
           ·skip
            repeat (first|refine Sb rfl ?_|refine Tb rfl ?_|(refine Ub rfl (fun K hK=>?_);go_big_quiet_op;refine hK _ ?_;clear hK K))
            try refine Rb ?_
            refine Jc rfl (fun K hK=>?_);unfold Oper.wp;go_simp
            refine Calls.mono (Oo (htv.out _ k0 a0) (show _=wq0.heap.size from rfl) HA0) ?_
            rintro e wq1 ⟨rfl,HA1,sq1⟩
            refine hK _ _ ⟨⟨_,HA1.out.1⟩,rfl⟩ ?_
            clear hK K
            refine Nn ?_ ?_
            ·skip
             repeat (first|refine Sb rfl ?_|refine Tb rfl ?_|(refine Ub rfl (fun K hK=>?_);go_big_quiet_op;refine hK _ ?_;clear hK K))
             try refine Rb ?_
             refine Jc rfl (fun K hK=>?_);unfold Oper.wp;go_simp
             refine Calls.mono (Zp (him.out _ _ _ _ _ k0 a0 hA.out (HA1.out.own (.head _)).rw) (show _=wq1.heap.size from rfl) HA1) ?_
             rintro e wq2 ⟨nh,p1h,l1h,c1h,p2h,l2h,c2h,p3h,l3h,c3h,p4h,l4h,c4h,p5h,l5h,c5h,rfl,HA2,sq2⟩
             refine hK _ _ ⟨⟨_,HA2.out.1⟩,rfl⟩ ?_
             clear hK K
             repeat (first|refine Sb rfl ?_|refine Tb rfl ?_|(refine Ub rfl (fun K hK=>?_);go_big_quiet_op;refine hK _ ?_;clear hK K))
             try refine Rb ?_
             refine Jc rfl (fun K hK=>?_);unfold Oper.wp;go_simp
             have HA3:=Lib.hid (HA2.out.putO [.int .i64 0,.slice none 0 0,.slice none 0 0,.slice none 0 0,.slice none 0 0,.slice none 0 0] 39)
             refine hK _ _ ⟨⟨_,HA3.out.1⟩,rfl⟩ ?_
             clear hK K
             repeat (first|refine Sb rfl ?_|refine Tb rfl ?_|(refine Ub rfl (fun K hK=>?_);go_big_quiet_op;refine hK _ ?_;clear hK K))
             try refine Rb ?_
             refine Jc rfl (fun K hK=>?_);unfold Oper.wp;go_simp
             obtain ⟨wz,hz,hS⟩:=SR wq2 39 (.int .i64 nh) (.slice p1h l1h c1h) (.slice p2h l2h c2h) (.slice p3h l3h c3h) (.slice p4h l4h c4h) (.slice p5h l5h c5h)
             rw [hz]
             clear hz
             have hB:w13.heap.size≤wq2.heap.size:=by (have:=sq0.out;have:=sq1.out;have:=sq2.out;omega)
             refine hK _ _ ⟨⟨_,HA2.out.bel hS.out.2.1 hB⟩,rfl⟩ ?_
             clear hK K
             repeat (first|refine Sb rfl ?_|refine Tb rfl ?_|(refine Ub rfl (fun K hK=>?_);go_big_quiet_op;refine hK _ ?_;clear hK K))
             try refine Rb ?_
             go_wp2_with fail
             go_meet
             have hE:=Aq H13.out HA2.out (fun _ h=>.tail _ (.tail _ (h))) hS.out.2.1 hB hS.out.2.2 hS.out.1 (HA2.out.own (.head _)) (by have:=sq0.out;have:=sq1.out;have:=sq2.out;omega) (by have:=sq0.out;have:=sq1.out;have:=sq2.out;omega)
             exact ⟨_,_,_,nh,p1h,l1h,c1h,p2h,l2h,c2h,p3h,l3h,c3h,p4h,l4h,c4h,p5h,l5h,c5h,rfl,hE.1,hE.2⟩
            ·skip
             repeat (first|refine Sb rfl ?_|refine Tb rfl ?_|(refine Ub rfl (fun K hK=>?_);go_big_quiet_op;refine hK _ ?_;clear hK K))
             try refine Rb ?_
             refine Jc rfl (fun K hK=>?_);unfold Oper.wp;go_simp
             have HA2:=Lib.hid (HA1.out.putO [.int .i64 0,.slice none 0 0,.slice none 0 0,.slice none 0 0,.slice none 0 0,.slice none 0 0] 39)
             refine hK _ _ ⟨⟨_,HA2.out.1⟩,rfl⟩ ?_
             clear hK K
             repeat (first|refine Sb rfl ?_|refine Tb rfl ?_|(refine Ub rfl (fun K hK=>?_);go_big_quiet_op;refine hK _ ?_;clear hK K))
             try refine Rb ?_
             refine Jc rfl (fun K hK=>?_);unfold Oper.wp;go_simp
             refine Calls.mono (Zp (him.out _ _ _ _ _ k0 a0 hA.out (HA2.out.own (.tail _ (.head _))).rw) (show _=(wq1.heap.size+1) from World.size_alloc _ _) HA2) ?_
             rintro e wq3 ⟨nh,p1h,l1h,c1h,p2h,l2h,c2h,p3h,l3h,c3h,p4h,l4h,c4h,p5h,l5h,c5h,rfl,HA3,sq3⟩
             refine hK _ _ ⟨⟨_,HA3.out.1⟩,rfl⟩ ?_
             clear hK K
             have hb:Dc wq3 (wq1.heap.size) 39 #[.int .i64 0,.slice none 0 0,.slice none 0 0,.slice none 0 0,.slice none 0 0,.slice none 0 0]:=HA3.out.blk (.tail _ (.head _))
             have o0:=hb.cell 0;have o1:=hb.cell 1;have o2:=hb.cell 2;have o3:=hb.cell 3;have o4:=hb.cell 4;have o5:=hb.cell 5;have of:=hb.frozen;have ol:=hb.lt
             repeat (first|refine Sb rfl ?_|refine Tb rfl ?_|(refine Ub rfl (fun K hK=>?_);go_big_quiet_op;refine hK _ ?_;clear hK K))
             try refine Rb ?_
             refine Jc rfl (fun K hK=>?_);unfold Oper.wp;go_simp
             obtain ⟨wz,hz,hS⟩:=Po hb (.int .i64 nh) (.slice p1h l1h c1h) (.slice p2h l2h c2h) (.slice p3h l3h c3h) (.slice p4h l4h c4h) (.slice p5h l5h c5h)
             rw [hz]
             clear hz
             have hB:w13.heap.size≤wq1.heap.size:=by (have:=sq0.out;have:=sq1.out;have:=sq3.out;omega)
             refine hK _ _ ⟨⟨_,HA3.out.bel hS.out.2.1 hB⟩,rfl⟩ ?_
             clear hK K
             clear o0 o1 o2 o3 o4 o5 of ol hb
             repeat (first|refine Sb rfl ?_|refine Tb rfl ?_|(refine Ub rfl (fun K hK=>?_);go_big_quiet_op;refine hK _ ?_;clear hK K))
             try refine Rb ?_
             go_wp2_with fail
             go_meet
             have hE:=Aq H13.out HA3.out (fun _ h=>.tail _ (.tail _ (.tail _ (h)))) hS.out.2.1 hB hS.out.2.2 hS.out.1 (HA3.out.own (.head _)) (by have:=sq0.out;have:=sq1.out;have:=sq3.out;omega) (by have:=sq0.out;have:=sq1.out;have:=sq3.out;omega)
             exact ⟨_,_,_,nh,p1h,l1h,c1h,p2h,l2h,c2h,p3h,l3h,c3h,p4h,l4h,c4h,p5h,l5h,c5h,rfl,hE.1,hE.2⟩
           ·skip
            repeat (first|refine Sb rfl ?_|refine Tb rfl ?_|(refine Ub rfl (fun K hK=>?_);go_big_quiet_op;refine hK _ ?_;clear hK K))
            try refine Rb ?_
            refine Jc rfl (fun K hK=>?_);unfold Oper.wp;go_simp
            have HA1:=Lib.hid (HA0.out.putO [.int .i64 0,.slice none 0 0,.slice none 0 0,.slice none 0 0,.slice none 0 0,.slice none 0 0] 39)
            refine hK _ _ ⟨⟨_,HA1.out.1⟩,rfl⟩ ?_
            clear hK K
            repeat (first|refine Sb rfl ?_|refine Tb rfl ?_|(refine Ub rfl (fun K hK=>?_);go_big_quiet_op;refine hK _ ?_;clear hK K))
            try refine Rb ?_
            refine Jc rfl (fun K hK=>?_);unfold Oper.wp;go_simp
            refine Calls.mono (Oo (htv.out _ k0 a0) (show _=(wq0.heap.size+1) from World.size_alloc _ _) HA1) ?_
            rintro e wq2 ⟨rfl,HA2,sq2⟩
            refine hK _ _ ⟨⟨_,HA2.out.1⟩,rfl⟩ ?_
            clear hK K
            repeat (first|refine Sb rfl ?_|refine Tb rfl ?_|(refine Ub rfl (fun K hK=>?_);go_big_quiet_op;refine hK _ ?_;clear hK K))
            try refine Rb ?_
            refine Jc rfl (fun K hK=>?_);unfold Oper.wp;go_simp
            refine Calls.mono (Zp (him.out _ _ _ _ _ k0 a0 hA.out (HA2.out.own (.tail _ (.head _))).rw) (show _=wq2.heap.size from rfl) HA2) ?_
            rintro e wq3 ⟨nh,p1h,l1h,c1h,p2h,l2h,c2h,p3h,l3h,c3h,p4h,l4h,c4h,p5h,l5h,c5h,rfl,HA3,sq3⟩
            refine hK _ _ ⟨⟨_,HA3.out.1⟩,rfl⟩ ?_
            clear hK K
            have hb:Dc wq3 (wq0.heap.size) 39 #[.int .i64 0,.slice none 0 0,.slice none 0 0,.slice none 0 0,.slice none 0 0,.slice none 0 0]:=HA3.out.blk (.tail _ (.head _))
            have o0:=hb.cell 0;have o1:=hb.cell 1;have o2:=hb.cell 2;have o3:=hb.cell 3;have o4:=hb.cell 4;have o5:=hb.cell 5;have of:=hb.frozen;have ol:=hb.lt
            repeat (first|refine Sb rfl ?_|refine Tb rfl ?_|(refine Ub rfl (fun K hK=>?_);go_big_quiet_op;refine hK _ ?_;clear hK K))
            try refine Rb ?_
            refine Jc rfl (fun K hK=>?_);unfold Oper.wp;go_simp
            obtain ⟨wz,hz,hS⟩:=Po hb (.int .i64 nh) (.slice p1h l1h c1h) (.slice p2h l2h c2h) (.slice p3h l3h c3h) (.slice p4h l4h c4h) (.slice p5h l5h c5h)
            rw [hz]
            clear hz
            have hB:w13.heap.size≤wq0.heap.size:=by (have:=sq0.out;have:=sq2.out;have:=sq3.out;omega)
            refine hK _ _ ⟨⟨_,HA3.out.bel hS.out.2.1 hB⟩,rfl⟩ ?_
            clear hK K
            clear o0 o1 o2 o3 o4 o5 of ol hb
            repeat (first|refine Sb rfl ?_|refine Tb rfl ?_|(refine Ub rfl (fun K hK=>?_);go_big_quiet_op;refine hK _ ?_;clear hK K))
            try refine Rb ?_
            go_wp2_with fail
            go_meet
            have hE:=Aq H13.out HA3.out (fun _ h=>.tail _ (.tail _ (.tail _ (h)))) hS.out.2.1 hB hS.out.2.2 hS.out.1 (HA3.out.own (.head _)) (by have:=sq0.out;have:=sq2.out;have:=sq3.out;omega) (by have:=sq0.out;have:=sq2.out;have:=sq3.out;omega)
            exact ⟨_,_,_,nh,p1h,l1h,c1h,p2h,l2h,c2h,p3h,l3h,c3h,p4h,l4h,c4h,p5h,l5h,c5h,rfl,hE.1,hE.2⟩
          ·skip
           repeat (first|refine Sb rfl ?_|refine Tb rfl ?_|(refine Ub rfl (fun K hK=>?_);go_big_quiet_op;refine hK _ ?_;clear hK K))
           try refine Rb ?_
           refine Jc rfl (fun K hK=>?_);unfold Oper.wp;go_simp
           have HA0:=Lib.hid (HD.out.putO [.int .i64 0,.slice none 0 0,.slice none 0 0,.slice none 0 0,.slice none 0 0,.slice none 0 0] 39)
           refine hK _ _ ⟨⟨_,HA0.out.1⟩,rfl⟩ ?_
           clear hK K
           repeat (first|refine Sb rfl ?_|refine Tb rfl ?_|(refine Ub rfl (fun K hK=>?_);go_big_quiet_op;refine hK _ ?_;clear hK K))
           try refine Rb ?_
           refine Jc rfl (fun K hK=>?_);unfold Oper.wp;go_simp
           refine Calls.mono (Rv hto.out (show _=(w13.heap.size+1) from World.size_alloc _ _) HA0 (.tail _ (.tail _ (.tail _ (.tail _ (.tail _ (.tail _ (.tail _ (.tail _ (.tail _ (.head _)))))))))) hA.out) ?_
           rintro e wq1 ⟨nqh,p1qh,l1qh,c1qh,p2qh,l2qh,c2qh,p3qh,l3qh,c3qh,p4qh,l4qh,c4qh,p5qh,l5qh,c5qh,rfl,HA1,sq1⟩
           refine hK _ _ ⟨⟨_,HA1.out.1⟩,rfl⟩ ?_
           clear hK K
           repeat (first|refine Sb rfl ?_|refine Tb rfl ?_|(refine Ub rfl (fun K hK=>?_);go_big_quiet_op;refine hK _ ?_;clear hK K))
           try refine Rb ?_
           refine Jc rfl (fun K hK=>?_);unfold Oper.wp;go_simp
           refine Calls.mono (Oo (htv.out _ k0 a0) (show _=wq1.heap.size from rfl) HA1) ?_
           rintro e wq2 ⟨rfl,HA2,sq2⟩
           refine hK _ _ ⟨⟨_,HA2.out.1⟩,rfl⟩ ?_
           clear hK K
           repeat (first|refine Sb rfl ?_|refine Tb rfl ?_|(refine Ub rfl (fun K hK=>?_);go_big_quiet_op;refine hK _ ?_;clear hK K))
           try refine Rb ?_
           refine Jc rfl (fun K hK=>?_);unfold Oper.wp;go_simp
           refine Calls.mono (Zp (him.out _ _ _ _ _ k0 a0 hA.out (HA2.out.own (.head _)).rw) (show _=wq2.heap.size from rfl) HA2) ?_
           rintro e wq3 ⟨nh,p1h,l1h,c1h,p2h,l2h,c2h,p3h,l3h,c3h,p4h,l4h,c4h,p5h,l5h,c5h,rfl,HA3,sq3⟩
           refine hK _ _ ⟨⟨_,HA3.out.1⟩,rfl⟩ ?_
           clear hK K
           have hb:Dc wq3 (w13.heap.size) 39 #[.int .i64 0,.slice none 0 0,.slice none 0 0,.slice none 0 0,.slice none 0 0,.slice none 0 0]:=HA3.out.blk (.tail _ (.tail _ (.head _)))
           have o0:=hb.cell 0;have o1:=hb.cell 1;have o2:=hb.cell 2;have o3:=hb.cell 3;have o4:=hb.cell 4;have o5:=hb.cell 5;have of:=hb.frozen;have ol:=hb.lt
           repeat (first|refine Sb rfl ?_|refine Tb rfl ?_|(refine Ub rfl (fun K hK=>?_);go_big_quiet_op;refine hK _ ?_;clear hK K))
           try refine Rb ?_
           refine Jc rfl (fun K hK=>?_);unfold Oper.wp;go_simp
           obtain ⟨wz,hz,hS⟩:=Po hb (.int .i64 nh) (.slice p1h l1h c1h) (.slice p2h l2h c2h) (.slice p3h l3h c3h) (.slice p4h l4h c4h) (.slice p5h l5h c5h)
           rw [hz]
           clear hz
           have hB:w13.heap.size≤w13.heap.size:=by (have:=sq1.out;have:=sq2.out;have:=sq3.out;omega)
           refine hK _ _ ⟨⟨_,HA3.out.bel hS.out.2.1 hB⟩,rfl⟩ ?_
           clear hK K
           clear o0 o1 o2 o3 o4 o5 of ol hb
           repeat (first|refine Sb rfl ?_|refine Tb rfl ?_|(refine Ub rfl (fun K hK=>?_);go_big_quiet_op;refine hK _ ?_;clear hK K))
           try refine Rb ?_
           go_wp2_with fail
           go_meet
           have hE:=Aq H13.out HA3.out (fun _ h=>.tail _ (.tail _ (.tail _ (h)))) hS.out.2.1 hB hS.out.2.2 hS.out.1 (HA3.out.own (.head _)) (by have:=sq1.out;have:=sq2.out;have:=sq3.out;omega) (by have:=sq1.out;have:=sq2.out;have:=sq3.out;omega)
           exact ⟨_,_,_,nh,p1h,l1h,c1h,p2h,l2h,c2h,p3h,l3h,c3h,p4h,l4h,c4h,p5h,l5h,c5h,rfl,hE.1,hE.2⟩
        case rest =>
          obtain ⟨Bh,loh,hih,nh,p1h,l1h,c1h,p2h,l2h,c2h,p3h,l3h,c3h,p4h,l4h,c4h,p5h,l5h,c5h,rfl,H14,s14⟩:=hcut
          rename World=>w14
          clear H13
          have ⟨fh0,fh1,fh2,fh3,fh4,fh5⟩:=Ig (H14.out.box (B:=Bh) (v:=.agg #[.int .i64 nh,.slice p1h l1h c1h,.slice p2h l2h c2h,.slice p3h l3h c3h,.slice p4h l4h c4h,.slice p5h l5h c5h]) (.head _))
          have ⟨fw0,fw1,fw2,fw3,fw4,fw5⟩:=Ig (H14.out.box (B:=Bw) (v:=.agg #[.int .i64 nw,.slice p1w l1w c1w,.slice p2w l2w c2w,.slice p3w l3w c3w,.slice p4w l4w c4w,.slice p5w l5w c5w]) (.tail _ (.tail _ (.tail _ (.tail _ (.tail _ (.tail _ (.head _))))))))
          have c15:=Lib.hid (SI heq.out rfl H14 (H14.out.own (.tail _ (.head _))).rw (H14.out.rd (.tail _ (.tail _ (.tail _ (.tail _ (.tail _ (.tail _ (.tail _ (.head _))))))))) hV.out.2)
          clear H14
          try dsimp only
          go_wp2_with fail
          refine Calls.mono c15.out ?_
          rintro e w15 ⟨rfl,H15,s15⟩
          clear c15
          clear fh0 fh1 fh2 fh3 fh4 fh5
          clear fw0 fw1 fw2 fw3 fw4 fw5
          have ⟨fg0,fg1,fg2,fg3,fg4,fg5⟩:=Ig (H15.out.box (B:=Bg) (v:=.agg #[.int .i64 ng,.slice p1g l1g c1g,.slice p2g l2g c2g,.slice p3g l3g c3g,.slice p4g l4g c4g,.slice p5g l5g c5g]) (.tail _ (.tail _ (.tail _ (.tail _ (.head _))))))
          have c16:=Lib.hid (O8 hhd.out rfl H15 (.tail _ (.tail _ (.head _))) hV.out.2)
          clear H15
          try dsimp only
          go_wp2_with fail
          refine Calls.mono c16.out ?_
          rintro e w16 ⟨rfl,H16,s16⟩
          clear c16
          clear fg0 fg1 fg2 fg3 fg4 fg5
          try dsimp only
          go_wp2_with fail
          go_ret
          exact ⟨rfl,H16.out.1⟩
end
end Go.Proofs.YtknkhdjhongklaaGreat
section
namespace Go.Proofs.YtknkhdjhongklaaGreat
open Go.RowKit
def Mh (n:Int) (ls:List Lk) (i:Nat):Prop :=
  0≤(lk ls i).a∧(lk ls i).a<(lk ls i).b∧(lk ls i).b<n∧1≤(lk ls i).c∧(lk ls i).c≤20 ∧
   (0<i→(lk ls (i-1)).a<(lk ls i).a∨(lk ls (i-1)).a=(lk ls i).a∧(lk ls (i-1)).b<(lk ls i).b)
instance (n:Int) (ls:List Lk) (i:Nat):Decidable (Mh n ls i):=by unfold Mh;infer_instance
def GV (n:Int) (ls:List Lk):Prop:=1≤n∧n≤8∧ls.length≤14∧∀i,i<ls.length→Mh n ls i
instance (n:Int) (ls:List Lk):Decidable (GV n ls):=by unfold GV;infer_instance
def gv (n:Int) (ls:List Lk):Bool:=decide (GV n ls)
theorem TR {n:Int} {ls:List Lk} (h:¬GV n ls):gv n ls=false:=dF h
theorem V8 {n:Int} {ls:List Lk} {k:Nat} (hk:k<ls.length) (h:1≤n→n≤8→¬Mh n ls k):gv n ls=false :=
  TR fun g=>h g.1 g.2.1 (g.2.2.2 k hk)
theorem pX {n:Int} {ls:List Lk} {k:Nat} (hl:ls.length=k) (h:1≤n→n≤8→∀i,i<k→Mh n ls i):gv n ls=(Mc n 1 8&&decide ((k:Int)≤14)):=by
  subst hl
  unfold gv GV Mc
  by_cases h1:1≤n∧n≤8
  ·by_cases h2:ls.length≤14
   ·have h3:=h h1.1 h1.2
    have:((ls.length:Nat):Int)≤14:=by omega
    simp [h1,h2,this]
    exact fun i hi=>h3 i hi
   ·have:¬((ls.length:Nat):Int)≤14:=by omega
    simp [h1,h2,this]
  ·have:¬(1≤n∧n≤8∧ls.length≤14∧∀i,i<ls.length→Mh n ls i):=fun g=>h1 ⟨g.1,g.2.1⟩
   simp [this,h1]
end Go.Proofs.YtknkhdjhongklaaGreat
namespace Go.Proofs.YtknkhdjhongklaaGreat
open Go.RowKit
def pY (d:List Int) (x y:Nat) (c:Int):Bool:=decide (0≤iz d x)&&(decide (iz d y<0)||decide (iz d x+c<iz d y))
def W8 (d:List Int) (x y:Nat) (c:Int):List Int:=if pY d x y c then d.set y (iz d x+c) else d
def X8 (d:List Int) (l:Lk):List Int:=W8 (W8 d l.a.toNat l.b.toNat l.c) l.b.toNat l.a.toNat l.c
def pZ (ls:List Lk) (d:List Int):List Int:=ls.foldl X8 d
def Z8 (n f:Nat):List Int:=(List.replicate n (-1)).set f 0
def VR (ls:List Lk) (d:List Int):Nat→List Int
  |0=>d
  |k+1=>pZ ls (VR ls d k)
def dst (n:Nat) (ls:List Lk) (f r i:Nat):List Int:=(ls.take i).foldl X8 (VR ls (Z8 n f) r)
def WR (n:Nat) (ls:List Lk) (f:Nat):List Int:=VR ls (Z8 n f) n
theorem qA (d:List Int) (y j:Nat) (v:Int) (hy:y<d.length):iz (d.set y v) j=if j=y then v else iz d j:=by
  unfold iz
  simp only [List.getD,List.getElem?_set]
  by_cases h:y=j
  ·subst h;simp [hy]
  ·have h':¬j=y:=fun e=>h e.symm
   simp [h,h']
theorem GV.at_ {n:Int} {ls:List Lk} (h:GV n ls) {i:Nat} (hi:i<ls.length):∃x y:Nat,(lk ls i).a=x∧(lk ls i).b=y∧x<y∧(y:Int)<n∧1≤(lk ls i).c∧(lk ls i).c≤20:=by
  have:=h.2.2.2 i hi
  unfold Mh at this
  exact ⟨(lk ls i).a.toNat,(lk ls i).b.toNat,by omega,by omega,by omega,by omega,by omega,by omega⟩
end Go.Proofs.YtknkhdjhongklaaGreat
namespace Go.Proofs.YtknkhdjhongklaaGreat
open Go.RowKit
structure Src (d:List Int) (f:Nat):Prop where
  zero:iz d f=0
  low:∀j,-1≤iz d j
  only:∀j,j<d.length→iz d j=0→j=f
end Go.Proofs.YtknkhdjhongklaaGreat
namespace Go.Proofs.YtknkhdjhongklaaGreat
open Go.RowKit
def Lm (ls:List Lk) (x y:Nat) (c:Int):Prop:=∃l,l∈ls∧l.c=c∧(l.a=x∧l.b=y∨l.a=y∧l.b=x)
theorem Lm.symm {ls:List Lk} {x y:Nat} {c:Int} (h:Lm ls x y c):Lm ls y x c:=by
  obtain ⟨l,h1,h2,h3⟩:=h
  exact ⟨l,h1,h2,h3.symm⟩
inductive Wk (ls:List Lk) (u:Nat):Nat→Nat→Int→Prop
  |nil:Wk ls u 0 u 0
  |step {k x y:Nat} {s c:Int}:Wk ls u k x s→Lm ls x y c→Wk ls u (k+1) y (s+c)
theorem Wk.append {ls:List Lk} {u v:Nat} {k:Nat} {s:Int} (h:Wk ls u k v s) {m w:Nat} {t:Int} (h':Wk ls v m w t):Wk ls u (k+m) w (s+t):=by
  induction h' with
  |nil=>simpa using h
  |step _ ha ih=>rw [←Int.add_assoc];exact ih.step ha
theorem Wk.one {ls:List Lk} {x y:Nat} {c:Int} (h:Lm ls x y c):Wk ls x 1 y c:=by simpa using Wk.nil.step h
theorem Wk.symm {ls:List Lk} {u v k:Nat} {s:Int} (h:Wk ls u k v s):Wk ls v k u s:=by
  induction h with
  |nil=>exact .nil
  |step _ ha ih =>
   have:=(Wk.one ha.symm).append ih
   rwa [Nat.add_comm,Int.add_comm] at this
theorem Wk.mono {ls ls':List Lk} (hs:∀x y c,Lm ls x y c→Lm ls' x y c) {u v k:Nat} {s:Int} (h:Wk ls u k v s):Wk ls' u k v s:=by
  induction h with
  |nil=>exact .nil
  |step _ ha ih=>exact ih.step (hs _ _ _ ha)
def qB (n:Nat) (ls:List Lk):Prop:=∀l∈ls,∃x y:Nat,l.a=x∧l.b=y∧x<n∧y<n
theorem Lm.lt {n:Nat} {ls:List Lk} (he:qB n ls) {x y:Nat} {c:Int} (h:Lm ls x y c):x<n∧y<n:=by
  obtain ⟨l,h1,_,h3⟩:=h
  obtain ⟨a,b,ha,hb,ha',hb'⟩:=he l h1
  rcases h3 with ⟨e1,e2⟩|⟨e1,e2⟩<;>omega
def Le (d' d:List Int):Prop:=∀v,0≤iz d v→0≤iz d' v∧iz d' v≤iz d v
theorem Le.refl (d:List Int):Le d d:=fun _ h=>⟨h,Int.le_refl _⟩
theorem Le.trans {a b c:List Int} (h:Le a b) (k:Le b c):Le a c:=fun v hv=>by
  have h1:=k v hv
  have h2:=h v h1.1
  exact ⟨h2.1,by omega⟩
end Go.Proofs.YtknkhdjhongklaaGreat
namespace Go.Proofs.YtknkhdjhongklaaGreat
open Go.RowKit
def Aa {α:Type} (o:Option α) (Q:α→Prop):Prop:=∃r,o=some r∧Q r
theorem Aa.some {α:Type} {x:α} {Q:α→Prop} (h:Q x):Aa (some x) Q:=⟨x,rfl,h⟩
theorem Aa.mono {α:Type} {o:Option α} {Q R:α→Prop} (h:Aa o Q) (k:∀x,Q x→R x):Aa o R:=by
  obtain ⟨r,h1,h2⟩:=h;exact ⟨r,h1,k r h2⟩
theorem Aa.bind {α β:Type} {o:Option α} {f:α→Option β} {Q:β→Prop} (h:Aa o fun x=>Aa (f x) Q):Aa (o.bind f) Q:=by
  obtain ⟨x,rfl,y,h1,h2⟩:=h;exact ⟨y,h1,h2⟩
theorem Aa.bnd {α β:Type} {o:Option α} {R:α→Prop} {f:α→Option β} {Q:β→Prop} (h:Aa o R) (k:∀x,R x→Aa (f x) Q):Aa (o.bind f) Q:=Aa.bind (h.mono k)
theorem Aa.ite {α:Type} {c:Bool} {a b:Option α} {Q:α→Prop} (h:c=true→Aa a Q) (k:c=false→Aa b Q):Aa (bif c then a else b) Q:=by
  cases c with
  |true=>exact h rfl
  |false=>exact k rfl
theorem Aa.gd {α:Type} {c:Bool} {a b:Option α} {Q:α→Prop} (hc:c=true) (h:Aa a Q):Aa (bif c then a else b) Q:=by subst hc;exact h
theorem Aa.no {α:Type} {c:Bool} {a b:Option α} {Q:α→Prop} (hc:c=false) (h:Aa b Q):Aa (bif c then a else b) Q:=by subst hc;exact h
theorem Aa.out {α:Type} {o:Option α} {x:α} (h:Aa o (·=x)):o=Option.some x:=by obtain ⟨r,h1,h2⟩:=h;rw [h1,h2]
theorem Aa.loop {σ τ:Type} {B:σ→Option (σ⊕τ)} (I:σ→Prop) (μ:σ→Nat) {Q:τ→Prop} (hB:∀s,I s→Aa (B s) fun r=>match r with| .inl s'=>I s'∧μ s'<μ s| .inr x=>Q x):∀(n:Nat) (s:σ),μ s<n→I s→Aa (lp B n s) Q
  |0,_,h,_=>by omega
  |n+1,s,h,hi=>by
   unfold Go.Proofs.YtknkhdjhongklaaGreat.lp
   refine Aa.bnd (hB s hi) fun r hr=>?_
   cases r with
   |inl s'=>exact Aa.loop I μ hB n s' (by have:=hr.2;omega) hr.1
   |inr x=>exact .some hr
theorem Aa.count {σ τ:Type} {B:σ→Option (σ⊕τ)} (n:Nat) (I:Nat→σ→Prop) {Q:τ→Prop} (hB:∀k s,k≤n→I k s→Aa (B s) fun r=>match r with| .inl s'=>k<n∧I (k+1) s'| .inr x=>Q x) {m:Nat} {s:σ} {k:Nat} (hk:k≤n) (hm:n-k<m) (h:I k s):Aa (lp B m s) Q:=by
  induction m generalizing s k with
  |zero=>omega
  |succ m ih =>
   unfold Go.Proofs.YtknkhdjhongklaaGreat.lp
   refine Aa.bnd (hB k s hk h) fun r hr=>?_
   cases r with
   |inl s'=>exact ih (k:=k+1) (by have:=hr.1;omega) (by omega) hr.2
   |inr x=>exact .some hr
theorem Ua {x:Int} (h1: -9223372036854775808≤x) (h2:x≤9223372036854775807):wrap64 x=x:=IntWalk.wrap64_in x (by omega)
theorem Ia {z:Int} {n:Nat} (h1:0≤z) (h2:z<n):Ea z n=true:=by simp [Ea,h1,h2]
end Go.Proofs.YtknkhdjhongklaaGreat
namespace Go.Proofs.YtknkhdjhongklaaGreat
open Go.RowKit
def Bq (zs:List Int) (n:Int):Prop:=∀i,i<zs.length→0≤iz zs i∧iz zs i<n∧(0<i→iz zs (i-1)<iz zs i)
instance (zs:List Int) (n:Int):Decidable (Bq zs n):=by unfold Bq;infer_instance
def A9 (zs:List Int) (n:Int):Bool:=decide (Bq zs n)
theorem Bq.le {zs:List Int} {n:Int} (h:Bq zs n) {i:Nat} (j:Nat) (hj:i+j<zs.length):iz zs i≤iz zs (i+j):=by
  induction j with
  |zero=>exact Int.le_refl _
  |succ j ih =>
   have h1:=(h (i+(j+1)) hj).2.2 (by omega)
   have h2:=ih (by omega)
   rw [show i+(j+1)-1=i+j by omega] at h1
   omega
def bv (n:Int) (ls:List Lk) (bs:List Int):Bool:=gv n ls&&decide (0<bs.length)&&A9 bs n
def XR (d bs:List Int) (k:Nat):List Int:=(bs.take k).map fun b=>iz d b.toNat
def B9 (n:Int) (ls:List Lk) (bs:List Int) (t:Int):List Int :=
  if bv n ls bs&&Mc t 0 (n-1) then XR (WR n.toNat ls t.toNat) bs bs.length else []
def C9 (na:Int) (la:List Lk) (nb:Int) (lb:List Lk) (bs:List Int) (f t:Int):Bool:=(bv na la bs&&Mc f 0 (na-1))&&(bv nb lb bs&&Mc t 0 (nb-1))
structure D9 (na nb f t:Nat) (la lb:List Lk) (bs:List Int):Prop where
  va:gv na la=true
  vb:gv nb lb=true
  ga:GV na la
  gb:GV nb lb
  aa:Bq bs na
  ab:Bq bs nb
  pos:0<bs.length
  hf:f<na
  ht:t<nb
  one:B9 na la bs f=XR (WR na la f) bs bs.length
  two:B9 nb lb bs t=XR (WR nb lb t) bs bs.length
theorem D9.ok {na nb f t:Nat} {la lb:List Lk} {bs:List Int} (h:D9 na nb f t la lb bs):C9 na la nb lb bs f t=true:=by
  have i1:Mc (f:Int) 0 ((na:Int)-1)=true:=G0 (by have:=h.hf;omega)
  have i2:Mc (t:Int) 0 ((nb:Int)-1)=true:=G0 (by have:=h.ht;omega)
  simp [C9,bv,h.va,h.vb,i1,i2,h.pos,A9,h.aa,h.ab]
def Lf (x y:Int) (l:Lk):Bool:=decide (l.a=x)&&decide (l.b=y)
def Kc (ls:List Lk) (a b:Int):Int:=if ls.findIdx (Lf (min a b) (max a b))<ls.length then ls.findIdx (Lf (min a b) (max a b)) else -1
theorem Oi {ls:List Lk} {i:Nat} (h:i<ls.length):lk ls i=ls[i]:=by simp [lk,List.getD,List.getElem?_eq_getElem h]
theorem E9 {ls:List Lk} {a b:Int} {k:Nat} (hk:k<ls.length) (h1:Lf (min a b) (max a b) (lk ls k)=true) (h:∀i,i<k→Lf (min a b) (max a b) (lk ls i)=false):Kc ls a b=k:=by
  have e:ls.findIdx (Lf (min a b) (max a b))=k:=(List.findIdx_eq hk).2 ⟨by rw [←Oi hk];exact h1,fun j hj=>by rw [←Oi (by omega)];exact h j hj⟩
  unfold Kc
  rw [e,if_pos hk]
theorem F9 {ls:List Lk} {a b:Int} (h:∀i,i<ls.length→Lf (min a b) (max a b) (lk ls i)=false):Kc ls a b= -1:=by
  have e:ls.findIdx (Lf (min a b) (max a b))=ls.length:=List.findIdx_eq_length_of_false fun x hx=>by
    obtain ⟨i,hi,rfl⟩:=List.mem_iff_getElem.1 hx
    rw [←Oi hi];exact h i hi
  unfold Kc
  rw [e,if_neg (by omega)]
theorem qC {x y:Int} {l:Lk} (h:Lf x y l=true):l.a=x∧l.b=y:=by simpa [Lf] using h
theorem Uy (ls:List Lk) (a b:Int):(Kc ls a b= -1∧∀i,i<ls.length→Lf (min a b) (max a b) (lk ls i)=false)∨∃k:Nat,Kc ls a b=k∧k<ls.length∧(lk ls k).a=min a b∧(lk ls k).b=max a b:=by
  by_cases h:ls.findIdx (Lf (min a b) (max a b))<ls.length
  ·right
   refine ⟨ls.findIdx (Lf (min a b) (max a b)),by unfold Kc;rw [if_pos h],h,?_⟩
   have:=(List.findIdx_getElem (w:=h))
   rw [←Oi h] at this
   exact qC this
  ·left
   refine ⟨by unfold Kc;rw [if_neg h],fun i hi=>?_⟩
   have hle:=List.findIdx_le_length (p:=Lf (min a b) (max a b)) (xs:=ls)
   have:=List.not_of_lt_findIdx (p:=Lf (min a b) (max a b)) (xs:=ls) (i:=i) (by omega)
   rw [Oi hi]
   simpa using this
theorem G9 {x y:Int} {l:Lk} (h:¬(l.a=x∧l.b=y)):Lf x y l=false:=by
  unfold Lf
  rw [Bool.and_eq_false_iff]
  by_cases h1:l.a=x
  ·right;exact dF fun e=>h ⟨h1,e⟩
  ·left;exact dF h1
theorem YR {x y:Int} {l:Lk} (h1:l.a=x) (h2:l.b=y):Lf x y l=true:=by simp [Lf,h1,h2]
def Cq (l:Lk) (n:Int):Int:=if n=l.a then l.b else if n=l.b then l.a else 0
def Vy (l:Lk) (n:Int):Bool:=decide (n=l.a∨n=l.b)
def Ug (ls:List Lk) (n:Int) (k:Nat):List Int:=((ls.take k).filter (fun l=>Vy l n)).map (fun l=>Cq l n)
theorem qD (ls:List Lk) (n:Int) (k:Nat) (h:k<ls.length):Ug ls n (k+1)=if Vy (lk ls k) n then Ug ls n k++[Cq (lk ls k) n] else Ug ls n k:=by
  have e:ls[k]? =some (lk ls k):=I0 h
  unfold Ug
  rw [List.take_add_one,e]
  cases hq:Vy (lk ls k) n<;>simp [hq]
theorem I9 (ls:List Lk) (n:Int) (k:Nat):(Ug ls n k).length≤k:=by
  unfold Ug
  rw [List.length_map]
  exact Nat.le_trans (List.length_filter_le _ _) (List.length_take_le _ _)
def Rc (ls:List Lk) (m:Int) (k:Nat):List Int:=((List.range k).filter (fun x:Nat=>decide (0≤Kc ls m (x:Int)))).map fun x:Nat=>(x:Int)
theorem ZR (ls:List Lk) (m:Int) (k:Nat):Rc ls m (k+1)=if 0≤Kc ls m k then Rc ls m k++[(k:Int)] else Rc ls m k:=by
  unfold Rc
  rw [List.range_succ,List.filter_append,List.map_append]
  by_cases h:0≤Kc ls m k<;>simp [h]
theorem Tv (ls:List Lk) (m:Int) (k:Nat):(Rc ls m k).length≤k:=by
  unfold Rc
  rw [List.length_map]
  exact Nat.le_trans (List.length_filter_le _ _) (by simp)
def pk (la lb:List Lk) (n m:Int):List Lk :=
  if 0≤Kc la n m∧(Kc lb n m<0∨(lk la (Kc la n m).toNat).c≤(lk lb (Kc lb n m).toNat).c) then [⟨n,m,(lk la (Kc la n m).toNat).c⟩]
  else if 0≤Kc lb n m then [⟨n,m,(lk lb (Kc lb n m).toNat).c⟩] else []
end Go.Proofs.YtknkhdjhongklaaGreat
namespace Go.Proofs.YtknkhdjhongklaaGreat
open Go.RowKit
def Nh (n:Int) (l:Lk):Prop:=0≤l.a∧l.a<l.b∧l.b<n∧1≤l.c∧l.c≤20
def Sf (l m:Lk):Prop:=l.a<m.a∨l.a=m.a∧l.b<m.b
theorem Sf.trans {a b c:Lk} (h:Sf a b) (k:Sf b c):Sf a c:=by unfold Sf at *;omega
theorem Gk {ls:List Lk} {i:Nat} (h:i<ls.length):lk ls i∈ls:=List.mem_of_getElem? (I0 h)
theorem J9 {ls:List Lk} {l:Lk} (h:l∈ls):∃i,i<ls.length∧lk ls i=l:=by
  obtain ⟨i,hi,rfl⟩:=List.getElem_of_mem h
  exact ⟨i,hi,Oi hi⟩
theorem K9 {n:Int} {ls:List Lk} (h:∀i,i<ls.length→Mh n ls i):∀(d i:Nat),i+d+1<ls.length→Sf (lk ls i) (lk ls (i+d+1))
  |0,i,hi=>by
   have:=(h (i+1) hi).2.2.2.2.2 (by omega)
   simpa [Sf] using this
  |d+1,i,hi=>by
   have h1:=K9 h d i (by omega)
   have h2:=(h (i+(d+1)+1) hi).2.2.2.2.2 (by omega)
   rw [Nat.add_sub_cancel] at h2
   exact h1.trans h2
theorem Wy {n:Int} {ls:List Lk}:GV n ls↔1≤n∧n≤8∧ls.length≤14∧(∀l∈ls,Nh n l)∧ls.Pairwise Sf:=by
  constructor
  ·rintro ⟨h1,h2,h3,h⟩
   refine ⟨h1,h2,h3,fun l hl=>?_,List.pairwise_iff_getElem.2 fun i j hi hj hij=>?_⟩
   ·obtain ⟨i,hi,rfl⟩:=J9 hl
    have:=h i hi
    unfold Mh at this
    unfold Nh
    omega
   ·have:=K9 h (j-i-1) i (by omega)
    rw [show i+(j-i-1)+1=j by omega,Oi hi,Oi hj] at this
    exact this
  ·rintro ⟨h1,h2,h3,h,hp⟩
   refine ⟨h1,h2,h3,fun i hi=>?_⟩
   have h4:=h _ (Gk hi)
   unfold Nh at h4
   refine ⟨h4.1,h4.2.1,h4.2.2.1,h4.2.2.2.1,h4.2.2.2.2,fun h0=>?_⟩
   have:=List.pairwise_iff_getElem.1 hp (i-1) i (by omega) hi (by omega)
   rw [←Oi,←Oi] at this
   exact this
theorem GV.ok {n:Int} {ls:List Lk} (h:GV n ls) {l:Lk} (hl:l∈ls):Nh n l:=(Wy.1 h).2.2.2.1 l hl
theorem L9:∀{l l':List Lk},l.Pairwise Sf→l'.Pairwise Sf→(∀x,x∈l↔x∈l')→l=l'
  |[],[],_,_,_=>rfl
  |[],y::s,_,_,h=>by have:=(h y).2 (List.mem_cons_self ..);simp at this
  |x::r,[],_,_,h=>by have:=(h x).1 (List.mem_cons_self ..);simp at this
  |x::r,y::s,h1,h2,h=>by
   have h1:=List.pairwise_cons.1 h1
   have h2:=List.pairwise_cons.1 h2
   have e:x=y:=by
     rcases List.mem_cons.1 ((h x).1 (List.mem_cons_self ..)) with e|hx
     ·exact e
     ·rcases List.mem_cons.1 ((h y).2 (List.mem_cons_self ..)) with e|hy
      ·exact e.symm
      ·have q1:=h1.1 y hy
       have q2:=h2.1 x hx
       unfold Sf at q1 q2
       omega
   subst e
   have:r=s:=L9 h1.2 h2.2 fun z=>by
     constructor
     ·intro hz
      rcases List.mem_cons.1 ((h z).1 (List.mem_cons_of_mem _ hz)) with e|hz'
      ·subst e
       have:=h1.1 z hz
       unfold Sf at this
       omega
      ·exact hz'
     ·intro hz
      rcases List.mem_cons.1 ((h z).2 (List.mem_cons_of_mem _ hz)) with e|hz'
      ·subst e
       have:=h2.1 z hz
       unfold Sf at this
       omega
      ·exact hz'
   rw [this]
theorem GV.ext {n m:Int} {l l':List Lk} (h:GV n l) (h':GV m l') (e:∀x,x∈l↔x∈l'):l=l':=L9 (Wy.1 h).2.2.2.2 (Wy.1 h').2.2.2.2 e
def cell (f:Nat→Nat→Option Int) (a b:Nat):List Lk:=match f a b with|some c=>[⟨a,b,c⟩]|none=>[]
def lc (ls:List Lk) (a b:Int):Option Int:=if 0≤Kc ls a b then some (lk ls (Kc ls a b).toNat).c else none
theorem Uv {ls:List Lk} {a b c:Int} (h:lc ls a b=some c):(⟨min a b,max a b,c⟩:Lk)∈ls:=by
  unfold lc at h
  rcases Uy ls a b with ⟨e,_⟩|⟨k,e,hk,h1,h2⟩
  ·rw [e] at h;simp at h
  ·rw [e] at h
   rw [if_pos (by omega)] at h
   injection h with h
   rw [Int.toNat_natCast] at h
   have:(⟨min a b,max a b,c⟩:Lk)=lk ls k:=by rw [←h1,←h2,←h]
   rw [this]
   exact Gk hk
theorem qE {ls:List Lk} {a b:Int} (h:lc ls a b=none):∀c,(⟨min a b,max a b,c⟩:Lk)∉ls:=by
  intro c hm
  unfold lc at h
  rcases Uy ls a b with ⟨e,hn⟩|⟨k,e,hk,h1,h2⟩
  ·obtain ⟨i,hi,e2⟩:=J9 hm
   have:=hn i hi
   rw [e2,show Lf (min a b) (max a b) ⟨min a b,max a b,c⟩=true from YR rfl rfl] at this
   cases this
  ·rw [e,if_pos (by omega)] at h
   cases h
theorem qF {ls:List Lk} (h:ls.Pairwise Sf) {x y:Lk} (hx:x∈ls) (hy:y∈ls) (ha:x.a=y.a) (hb:x.b=y.b):x=y:=by
  obtain ⟨i,hi,rfl⟩:=List.getElem_of_mem hx
  obtain ⟨j,hj,rfl⟩:=List.getElem_of_mem hy
  rcases Nat.lt_trichotomy i j with h1|h1|h1
  ·have:=List.pairwise_iff_getElem.1 h i j hi hj h1
   unfold Sf at this
   omega
  ·subst h1;rfl
  ·have:=List.pairwise_iff_getElem.1 h j i hj hi h1
   unfold Sf at this
   omega
theorem GV.pw {n:Int} {ls:List Lk} (h:GV n ls):ls.Pairwise Sf:=(Wy.1 h).2.2.2.2
theorem VI {ls:List Lk} (h:ls.Pairwise Sf) {a b c:Int}:lc ls a b=some c↔(⟨min a b,max a b,c⟩:Lk)∈ls:=by
  constructor
  ·exact Uv
  ·intro hm
   cases e:lc ls a b with
   |none=>exact absurd hm (qE e c)
   |some c' =>
    have:=qF h (Uv e) hm rfl rfl
    injection this with _ _ e3
    rw [e3]
theorem qG (ls:List Lk) (a b:Int):lc ls a b=lc ls b a:=by
  have:Kc ls a b=Kc ls b a:=by unfold Kc;rw [show min a b=min b a by omega,show max a b=max b a by omega]
  unfold lc
  rw [this]
theorem M9 {ls:List Lk} (h:ls.Pairwise Sf) {l:Lk} (hl:l∈ls) (hab:l.a≤l.b):lc ls l.a l.b=some l.c:=(VI h).2 (by rw [show min l.a l.b=l.a by omega,show max l.a l.b=l.b by omega];exact hl)
theorem qH {n:Int} {ls:List Lk} (h:GV n ls) {a b c:Int} (e:lc ls a b=some c):1≤c∧c≤20:=by
  have:=h.ok (Uv e)
  exact ⟨this.2.2.2.1,this.2.2.2.2⟩
theorem WI {ls:List Lk} {a b:Int}:(lc ls a b).isSome=decide (0≤Kc ls a b):=by
  unfold lc
  by_cases h:0≤Kc ls a b<;>simp [h]
theorem Vv {ls:List Lk} {a b c:Int} (e:lc ls a b=some c):0≤Kc ls a b∧Kc ls a b<ls.length∧lk ls (Kc ls a b).toNat=⟨min a b,max a b,c⟩:=by
  unfold lc at e
  rcases Uy ls a b with ⟨e1,hn⟩|⟨k,e1,hk,h1,h2⟩
  ·rw [e1] at e;simp at e
  ·rw [e1,if_pos (by omega),Int.toNat_natCast] at e
   injection e with e
   rw [e1,Int.toNat_natCast]
   exact ⟨by omega,by omega,by rw [←h1,←h2,←e]⟩
theorem N9 {ls:List Lk} {a b:Int} (e:lc ls a b=none):Kc ls a b= -1:=by
  unfold lc at e
  rcases Uy ls a b with ⟨e1,hn⟩|⟨k,e1,hk,h1,h2⟩
  ·exact e1
  ·rw [e1,if_pos (by omega)] at e;cases e
end Go.Proofs.YtknkhdjhongklaaGreat
end
section
namespace Go.Proofs
open Go.Shelf
def Tryz.lays189_ren:Go.Shelf.Ren:=⟨fun|189=>158|125=>165|257=>164|128=>176|129=>177|294=>167|295=>168|296=>169|297=>170|298=>171|299=>172|216=>173|300=>174|301=>175|328=>179|329=>180|330=>181|331=>182|332=>183|215=>150|343=>184|n=>n,fun|28=>26|3=>3|46=>161|0=>0|51=>173|53=>176|4=>4|183=>190|182=>189|131=>118|5=>5|9=>9|218=>199|222=>203|228=>205|229=>206|n=>n,fun|n=>n⟩
theorem Tryz.lays189:Go.Proofs.Lays.n189 Tryz.prog Tryz.lays189_ren:={
  mixed:=by kernel_rfl
  f125:=Tryz.func165.trans (congrArg some (by kernel_rfl))
  f128:=Tryz.func176.trans (congrArg some (by kernel_rfl))
  f129:=Tryz.func177.trans (congrArg some (by kernel_rfl))
  f189:=Tryz.func158.trans (congrArg some (by kernel_rfl))
  f215:=Tryz.func150.trans (congrArg some (by kernel_rfl))
  f216:=Tryz.func173.trans (congrArg some (by kernel_rfl))
  f257:=Tryz.func164.trans (congrArg some (by kernel_rfl))
  f294:=Tryz.func167.trans (congrArg some (by kernel_rfl))
  f295:=Tryz.func168.trans (congrArg some (by kernel_rfl))
  f296:=Tryz.func169.trans (congrArg some (by kernel_rfl))
  f297:=Tryz.func170.trans (congrArg some (by kernel_rfl))
  f298:=Tryz.func171.trans (congrArg some (by kernel_rfl))
  f299:=Tryz.func172.trans (congrArg some (by kernel_rfl))
  f300:=Tryz.func174.trans (congrArg some (by kernel_rfl))
  f301:=Tryz.func175.trans (congrArg some (by kernel_rfl))
  f328:=Tryz.func179.trans (congrArg some (by kernel_rfl))
  f329:=Tryz.func180.trans (congrArg some (by kernel_rfl))
  f330:=Tryz.func181.trans (congrArg some (by kernel_rfl))
  f331:=Tryz.func182.trans (congrArg some (by kernel_rfl))
  f332:=Tryz.func183.trans (congrArg some (by kernel_rfl))
  f343:=Tryz.func184.trans (congrArg some (by kernel_rfl))
  t0:=Tryz.underlying0
  a0:=Tryz.isAgg0
  z0:=Tryz.sizeOf0
  v0:=Tryz.zeroValue0
  t3:=Tryz.underlying3
  a3:=Tryz.isAgg3
  z3:=Tryz.sizeOf3
  v3:=Tryz.zeroValue3
  t4:=Tryz.underlying4
  a4:=Tryz.isAgg4
  z4:=Tryz.sizeOf4
  v4:=Tryz.zeroValue4
  t5:=Tryz.underlying5
  a5:=Tryz.isAgg5
  z5:=Tryz.sizeOf5
  v5:=Tryz.zeroValue5
  t9:=Tryz.underlying9
  a9:=Tryz.isAgg9
  z9:=Tryz.sizeOf9
  v9:=Tryz.zeroValue9
  t28:=Tryz.underlying26
  a28:=Tryz.isAgg26
  z28:=Tryz.sizeOf26
  v28:=Tryz.zeroValue26
  t46:=Tryz.underlying161
  a46:=Tryz.isAgg161
  z46:=Tryz.sizeOf161
  v46:=Tryz.zeroValue161
  t51:=Tryz.underlying173
  a51:=Tryz.isAgg173
  z51:=Tryz.sizeOf173
  v51:=Tryz.zeroValue173
  t53:=Tryz.underlying176
  a53:=Tryz.isAgg176
  z53:=Tryz.sizeOf176
  v53:=Tryz.zeroValue176
  t131:=Tryz.underlying118
  a131:=Tryz.isAgg118
  z131:=Tryz.sizeOf118
  v131:=Tryz.zeroValue118
  t182:=Tryz.underlying189
  a182:=Tryz.isAgg189
  z182:=Tryz.sizeOf189
  v182:=Tryz.zeroValue189
  t183:=Tryz.underlying190
  a183:=Tryz.isAgg190
  z183:=Tryz.sizeOf190
  v183:=Tryz.zeroValue190
  t218:=Tryz.underlying199
  a218:=Tryz.isAgg199
  z218:=Tryz.sizeOf199
  v218:=Tryz.zeroValue199
  t222:=Tryz.underlying203
  a222:=Tryz.isAgg203
  z222:=Tryz.sizeOf203
  v222:=Tryz.zeroValue203
  t228:=Tryz.underlying205
  a228:=Tryz.isAgg205
  z228:=Tryz.sizeOf205
  v228:=Tryz.zeroValue205
  t229:=Tryz.underlying206
  a229:=Tryz.isAgg206
  z229:=Tryz.sizeOf206
  v229:=Tryz.zeroValue206 }
open Go.Sort Go.RowKit in
theorem Tryz.slices_Sort_int (blk off cap:Nat) (zs:List Int) (w:World) (hH:Holds (Value.int .i64) w blk off zs.toArray) (hblk:blk<w.heap.size) (hsz:zs.length<4611686018427387904) :
    Calls Tryz.prog 158 #[.slice (some ⟨blk,off,none⟩) zs.length cap] w fun e w' =>
      e=.returned (.tuple #[])∧∃n os,w'=grow (putRow (Value.int .i64) (Sort.ahead w n) blk off (zs.mergeSort fun x y=>decide (x≤y)).toArray) os:=Any.slices_Sort_int Tryz.lays189 blk off cap zs w hH hblk hsz
open Go.RowKit Go.Sort in
theorem Tryz.slices_Sort_int_none (p:Option Addr) (cap:Nat) (w:World) :
    Calls Tryz.prog 158 #[.slice p 0 cap] w fun e w'=>e=.returned (.tuple #[])∧w'=w:=Any.slices_Sort_int_none Tryz.lays189 p cap w
end Go.Proofs
end
namespace Go.Proofs.YtknkhdjhongklaaGreat
section
open Go.RowKit
def Jg (zs:List Int):List Int:=zs.mergeSort fun x y=>decide (x≤y)
theorem O9 (zs:List Int):(Jg zs).length=zs.length:=List.length_mergeSort zs
theorem P9 (zs:List Int):Sa .int zs=zs.map iI:=by
  induction zs with
  |nil=>rfl
  |cons z r ih=>rw [On,ih];rfl
theorem qI {w:World} {E X:Nat→Prop} {zs:List Int} {us:List Value} (h:F2 (Ri w E X) (Sa .int zs) us):us=zs.map (Value.int .i64):=by
  rw [P9] at h
  refine List.ext_getElem? fun i=>?_
  have hlen:=h.1
  simp only [List.length_map] at hlen
  rcases Nat.lt_or_ge i us.length with hi|hi
  ·have hu:us[i]? =some us[i]:=List.getElem?_eq_getElem hi
   have hz:zs[i]? =some zs[i]:=List.getElem?_eq_getElem (by omega)
   have h1:Ri w E X (iI zs[i]) us[i]:=h.2 i (iI zs[i]) us[i] (by rw [List.getElem?_map,hz];rfl) hu
   rw [hu]
   generalize us[i]=q at *
   cases h1
   simp [hz]
  ·rw [List.getElem?_eq_none hi,List.getElem?_eq_none (by simp;omega)]
def XI (s:List Int×Unit):Option (List Int×Unit):=bif decide (s.1.length≤16777216) then some (Jg s.1,()) else none
def BS:Ma:=⟨⟨[.c (.one (.own 0))],[.row 3 .int]⟩,[.ls .int],⟨[.tup []],[.row 3 .int]⟩,[.ls .int],XI⟩
theorem qJ:GC Tryz.prog 158 BS:=by
  intro s r hs ds os hf d h' hr w X β args hX hH hargs _
  obtain ⟨xs,_⟩:=s
  have hs:(bif decide (xs.length≤16777216) then some (Jg xs,()) else none)=some r:=hs
  cases hd:decide (xs.length≤16777216) with
  |false=>rw [hd] at hs;cases hs
  |true =>
  rw [hd] at hs
  injection hs with hs
  subst hs
  have hn:=oT hd
  have hf:some ([PV.own 0],[Ca.row 3 .int xs])=some (ds,os):=hf
  injection hf with hf
  injection hf with hf1 hf2
  subst hf1 hf2
  have hr:some ([PV.tup []],[Ca.row 3 .int (Jg xs)])=some ([d],h'):=hr
  injection hr with hr
  injection hr with hr1 hr2
  injection hr1 with hr1
  subst hr1 hr2
  obtain ⟨u,_,rfl,hu,hnil⟩:=hargs.cons_inv
  obtain rfl:=hnil.nil_inv
  obtain ⟨h0,hv,⟨_,_,_,rfl⟩,h2⟩:=hu
  obtain ⟨b,c,A,hb,hue,hA,hE⟩:=h2 3 .int xs rfl
  obtain ⟨b',c',hb',hc0,hcm,hrow⟩:=hH.ok 0 _ rfl
  rw [hb] at hb'
  injection hb' with hb'
  injection hb' with e1 e2
  subst e1 e2
  rw [hue]
  rcases Nat.eq_zero_or_pos c with hc|hc
  ·obtain rfl:xs=[]:=hc0 hc
   refine (Tryz.slices_Sort_int_none A c w).mono ?_
   rintro ex w' ⟨rfl,rfl⟩
   have e:Jg []=[]:=by simp [Jg]
   rw [e]
   exact ⟨_,β,rfl,Eb.refl _ _ _,hH,[],rfl,F2.nil⟩
  ·obtain ⟨us,junk,hblk,hF,hone,hlen⟩:=hrow hc
   have hus:=qI hF
   subst hus
   have hA:=hA hc
   subst hA
   have hbl:b<w.heap.size:=(Array.getElem?_eq_some_iff.1 hblk).1
   have hlen':xs.length+junk.length=c:=by
     have:((xs.map (Value.int .i64))++junk).length=c*1:=hlen
     simpa using this
   have hold:Go.Sort.Holds (Value.int .i64) w b 0 xs.toArray:=holds_of_blockI (e:=3) hblk (by simp)
   refine (Tryz.slices_Sort_int b 0 c xs w hold hbl (by omega)).mono ?_
   rintro ex w' ⟨rfl,m,os,rfl⟩
   have how:=ownsRow_sortedI (w:=w) (base:=0) (g:=b) (cap:=c) (n:=m) (os:=os) (ss:=xs) (ts:=Jg xs) (e:=3) (O9 xs) (Nat.zero_le _) hblk (by omega) hcm (by simp;omega)
   have hgr:=grownBy_sortedI (w:=w) (g:=b) (n:=m) (os:=os) (Jg xs).toArray
   obtain ⟨g2,c2,junk2,hv2,hh2,hl2,hm2,_⟩:=AH how (by intro h;cases h)
   injection hv2 with q1 q2 q3
   injection q1 with q1
   injection q1 with q1
   subst q1 q3
   generalize hw':Go.Sort.grow (Go.Sort.putRow (Value.int .i64) (Go.Sort.ahead w m) b 0 (xs.mergeSort fun x y=>decide (x≤y)).toArray) os=w' at *
   rw [show (xs.mergeSort fun x y=>decide (x≤y))=Jg xs from rfl] at hw'
   rw [hw'] at hh2 hgr how
   have live1:∀b',Da [Ca.row 3 .int (Jg xs)] β b'→Da [Ca.row 3 .int xs] β b':=fun b' ⟨k,o,c',h1,h2,h3⟩=>by
     match k,h1 with
     |0,h1 =>
      simp at h1
      subst h1
      exact ⟨0,_,c',rfl,h2,h3⟩
     |k+1,h1=>simp at h1
   have liveB:Da [Ca.row 3 .int xs] β b:=⟨0,_,c,rfl,hc,hb⟩
   have onlyB:∀b',Da [Ca.row 3 .int xs] β b'→b'=b:=fun b' ⟨k,o,c',h1,h2,h3⟩=>by
     match k,h1 with
     |0,h1=>rw [hb] at h3;injection h3 with h3;injection h3 with h3;exact h3.symm
     |k+1,h1=>simp at h1
   have noocc:∀{w2:World} {β2:List (Nat×Nat)} {k:Nat} {p:Nat×Nat} {σ:Ty} {u:Value},Va w2 [Ca.row 3 .int (Jg xs)] β2 k p σ u→False:=fun {w2 β2 k p σ u} ⟨t,τ,ys,b,c,us,junk,z1,_,_,_,_,z6⟩=>by
     have hτ:Ty.int=τ:=by
       cases k with
       |zero=>simp at z1;exact z1.2.1
       |succ k=>simp at z1
     subst hτ
     rcases z6 with ⟨z,_⟩|⟨z,_⟩<;>cases z
   refine ⟨_,β,rfl,⟨hgr.os,hgr.tape,hgr.output,hgr.size,fun i hi hne=>hgr.block i hi (fun e=>hne (by injection e with e;subst e;exact liveB)),fun i _ h=>live1 i h,fun _ _ h=>h,⟨Nat.le_refl _,fun k t τ ys hk e=>?_,fun k hk e=>?_⟩,fun _ _ _ _ ⟨_,_,z,_⟩=>(noocc z).elim⟩,⟨hH.len,fun i h=>h,fun i h=>hH.nx i (live1 i h),fun k o hk=>?_,fun j k o o' b1 c1 c2 hj hk _ _ _ _=>?_,fun _ _ _ _ _ ⟨_,_,z,_⟩=>(noocc z).elim,fun _ _ _ _ _ z=>(noocc z).elim⟩,[],rfl,F2.nil⟩
   ·cases k with
    |zero =>
     simp at e
     obtain ⟨rfl,e⟩:=e
     obtain ⟨rfl,e⟩:=e
     obtain rfl:=eq_of_heq e
     exact .inl ⟨xs,rfl,(O9 xs).symm⟩
    |succ k=>simp at e
   ·match k,e with
    |0,e=>simp [Wb] at e
    |k+1,e=>simp at hk
   ·match k,hk with
    |0,hk =>
     simp at hk
     subst hk
     refine ⟨b,c,hb,fun h=>by omega,hcm,fun _=>⟨(Jg xs).map (Value.int .i64),junk2,hh2,?_,fun u hu=>?_,by simpa [sz] using hl2⟩⟩
     ·rw [P9]
      refine ⟨by simp,fun i x u hx hu=>?_⟩
      simp only [List.getElem?_map] at hx hu
      obtain ⟨z,hz,rfl⟩:=Option.map_eq_some_iff.1 hx
      rw [hz] at hu
      injection hu with hu
      subst hu
      exact Ri.s _
     ·obtain ⟨z,_,rfl⟩:=List.mem_map.1 hu;rfl
    |k+1,hk=>simp at hk
   ·match j,k,hj,hk with
    |0,0,_,_=>rfl
    |0,k+1,_,hk=>simp at hk
    |j+1,_,hj,_=>simp at hj
end
section
open Go.RowKit
theorem qK {w:World} {base e size n:Nat} {v:Value} {us:List Value} (h:w.ownsRow base e size v n us) (hv:v≠.slice none 0 0):∃g c junk,v=.slice (some ⟨g,0,none⟩) n c∧base≤g∧w.heap[g]? =some (.cells (us++junk).toArray e (0,0))∧(us++junk).length=c*size∧c≤maxLen∧n≤c:=by
  rcases h.2 with ⟨h1,_⟩|⟨g,c,cur,h1,h2,h3,h4,h5,h6,h7⟩
  ·exact absurd h1 hv
  ·have e:us++cur.toList.drop (n*size)=cur.toList:=by rw [←h7,List.take_append_drop]
   exact ⟨g,c,cur.toList.drop (n*size),h1,h2,by rw [e];simpa using h3,by rw [e];simpa using h6,h5,h4⟩
theorem Xy {h:List Ca} {β:List (Nat×Nat)} {w w':World} {X:Nat→Prop} {τ:Ty} {e:TypeId} {ys:List (El τ)} {g c:Nat} {A:Option Addr} (hH:Pb w (Da h β) X h β) (hX:∀b,X b→b<w.heap.size) (hos:w'.os=w.os) (hta:w'.tape=w.tape) (hou:w'.output=w.output) (hsz:w.heap.size≤w'.heap.size)
    (hblk:∀b,b<w.heap.size→¬Da h β b→w'.heap[b]? =w.heap[b]?) (hg:Da h β g∨w.heap.size≤g) (hc:c=0→ys=[]) (hcm:c≤maxLen)
    (hrow:0<c→∃us junk,w'.heap[g]? =some (.cells (us++junk).toArray e (0,0))∧F2 (Ri w (Da h β) X) (Sa τ ys) us∧(us++junk).length=c*sz τ) (hA:0<c→A=some ⟨g,0,none⟩)
    (ψ:Nat→Nat×Nat) (hψ:∀(us' junk':List Value),0<c→w'.heap[g]? =some (.cells (us'++junk').toArray e (0,0))→us'.length=ys.length*sz τ→∀q σ u n,PN w' τ us' q σ u→Oc u n→q.2=0∧Va w h β (ψ q.1).1 ((ψ q.1).2,0) σ u) (hψi:∀q q',q<ys.length*sz τ→q'<ys.length*sz τ→ψ q=ψ q'→q=q') :
    Eb w h β w' (h.map (fun _=>Ca.dead)++[.row e τ ys]) (β++[(g,c)])∧Pb w' (Da (h.map (fun _=>Ca.dead)++[.row e τ ys]) (β++[(g,c)])) X (h.map (fun _=>Ca.dead)++[.row e τ ys]) (β++[(g,c)])∧Cv w' (Da (h.map (fun _=>Ca.dead)++[.row e τ ys]) (β++[(g,c)])) X (h.map (fun _=>Ca.dead)++[.row e τ ys]) (β++[(g,c)]) (.own h.length) (.slice A ys.length c):=by
  have hlen:=hH.len
  have hat:∀k,k<h.length→(h.map (fun _=>Ca.dead)++[Ca.row e τ ys])[k]? =some .dead:=fun k hk=>by
    rw [List.getElem?_append_left (by simpa using hk),List.getElem?_map,List.getElem?_eq_getElem hk];rfl
  have hlast:(h.map (fun _=>Ca.dead)++[Ca.row e τ ys])[h.length]? =some (.row e τ ys):=by
    rw [List.getElem?_append_right (by simp)];simp
  have hβl:(β++[(g,c)])[h.length]? =some (g,c):=by
    rw [List.getElem?_append_right (by omega),hlen,Nat.sub_self];rfl
  have hbe:∀k,h.length<k→(h.map (fun _=>Ca.dead)++[Ca.row e τ ys])[k]? =none:=fun k hk=>by
    rw [List.getElem?_eq_none];simp;omega
  have only:∀k o,(h.map (fun _=>Ca.dead)++[Ca.row e τ ys])[k]? =some o→(k<h.length∧o=.dead)∨(k=h.length∧o=.row e τ ys):=fun k o hk=>by
    rcases Nat.lt_trichotomy k h.length with h1|h1|h1
    ·rw [hat k h1] at hk;injection hk with hk;exact .inl ⟨h1,hk.symm⟩
    ·subst h1;rw [hlast] at hk;injection hk with hk;exact .inr ⟨rfl,hk.symm⟩
    ·rw [hbe k h1] at hk;cases hk
  have liv:∀b,Da (h.map (fun _=>Ca.dead)++[Ca.row e τ ys]) (β++[(g,c)]) b→b=g:=fun b ⟨k,o,c',h1,h2,h3⟩=>by
    rcases only k o h1 with ⟨_,rfl⟩|⟨rfl,rfl⟩
    ·exact h2.elim
    ·rw [hβl] at h3;injection h3 with h3;injection h3 with h3;exact h3.symm
  have keepβ:∀(k:Nat) p,β[k]? =some p→(β++[(g,c)])[k]? =some p:=fun k p hk=>by
    rw [List.getElem?_append_left (List.getElem?_eq_some_iff.1 hk).1];exact hk
  have new:∀b,b<w.heap.size→Da (h.map (fun _=>Ca.dead)++[Ca.row e τ ys]) (β++[(g,c)]) b→Da h β b:=fun b hb hl=>by
    have:=liv b hl
    subst this
    exact hg.resolve_right (by omega)
  have occ:∀{k:Nat} {q:Nat×Nat} {σ:Ty} {u:Value} {n:Nat},Va w' (h.map (fun _=>Ca.dead)++[.row e τ ys]) (β++[(g,c)]) k q σ u→Oc u n→k=h.length∧q.2=0∧q.1<ys.length*sz τ∧Va w h β (ψ q.1).1 ((ψ q.1).2,0) σ u:=fun {k q σ u n} ⟨t,τ',xs',b1,c1,us,junk,z1,z2,z3,z4,z5,z6⟩ hs=>by
    rcases only k _ z1 with ⟨_,z⟩|⟨rfl,z⟩
    ·cases z
    ·injection z with e1 e2 e3
     subst e1 e2
     have e3:=eq_of_heq e3
     subst e3
     rw [hβl] at z2
     injection z2 with z2;injection z2 with e1 e2
     subst e1 e2
     obtain ⟨y1,y2⟩:=hψ us junk z3 z4 z5 q σ u n z6 hs
     refine ⟨rfl,y1,?_,y2⟩
     rw [←z5]
     rcases z6 with ⟨_,_,z,_⟩|⟨_,_,_,_,_,_,_,z,_⟩<;>exact (List.getElem?_eq_some_iff.1 z).1
  refine ⟨⟨hos,hta,hou,hsz,hblk,new,keepβ,⟨by simp,fun k t τ' xs' hk e'=>?_,fun k hk e'=>?_⟩,fun k q n _ ⟨σ,u,z1,z2⟩=>.inl ⟨_,_,σ,u,(occ z1 z2).2.2.2,z2⟩⟩,⟨by simp [hlen],fun b hb=>hb,fun b hl hx=>?_,fun k o hk=>?_,fun j k o o' b c1 c2 hj hk l1 l2 b1 b2=>?_,fun k p k' p' n ⟨σ,u,z1,z2⟩ ⟨σ',u',y1,y2⟩=>by
    obtain ⟨z3,z4,z5,z6⟩:=occ z1 z2
    obtain ⟨y3,y4,y5,y6⟩:=occ y1 y2
    obtain ⟨e1,e2⟩:=hH.uq _ _ _ _ n ⟨σ,u,z6,z2⟩ ⟨σ',u',y6,y2⟩
    exact ⟨z3.trans y3.symm,Prod.ext (hψi _ _ z5 y5 (Prod.ext e1 (Prod.mk.inj e2).1)) (z4.trans y4.symm)⟩,fun k p σ u n z1 z2=>by
    obtain ⟨z3,z4,z5,z6⟩:=occ z1 z2
    have z7:=Je hH.ok z6 z2
    exact (hH.pl _ _ σ u n z6 z2).keep z2 (hblk n z7.1 z7.2)⟩,⟨by simp,?_,⟨_,_,_,rfl⟩,fun t τ' xs' e'=>?_⟩⟩
  ·rw [hat k hk] at e';cases e'
  ·simp [Wb,hat k hk] at e'
  ·have:=liv b hl
   subst this
   rcases hg with hg|hg
   ·exact hH.nx _ hg hx
   ·have:=hX _ hx;omega
  ·rcases only k o hk with ⟨_,rfl⟩|⟨rfl,rfl⟩
   ·trivial
   ·refine ⟨g,c,hβl,hc,hcm,fun h0=>?_⟩
    obtain ⟨us,junk,q1,q2,q3⟩:=hrow h0
    exact ⟨us,junk,q1,q2.mono fun x u hx=>hx.keep hblk hsz (fun b hb hn hl=>hn (new b hb hl)) (fun _ _ _ hx=>hx),Ii q2,q3⟩
  ·rcases only j o hj with ⟨_,rfl⟩|⟨rfl,rfl⟩
   ·exact l1.elim
   ·rcases only k o' hk with ⟨_,rfl⟩|⟨rfl,rfl⟩
    ·exact l2.elim
    ·rfl
  ·simp [Wb,hlast]
  ·rw [hlast] at e'
   injection e' with e'
   cases e'
   exact ⟨g,c,A,hβl,rfl,hA,fun _=>trivial⟩
theorem Q9 {h:List Ca} {β:List (Nat×Nat)} {w w':World} {X:Nat→Prop} {τ:Ty} {e:TypeId} {ys:List (El τ)} {g c:Nat} {A:Option Addr} (hH:Pb w (Da h β) X h β) (hX:∀b,X b→b<w.heap.size) (hos:w'.os=w.os) (hta:w'.tape=w.tape) (hou:w'.output=w.output) (hsz:w.heap.size≤w'.heap.size)
    (hblk:∀b,b<w.heap.size→¬Da h β b→w'.heap[b]? =w.heap[b]?) (hg:Da h β g∨w.heap.size≤g) (hc:c=0→ys=[]) (hcm:c≤maxLen)
    (hrow:0<c→∃us junk,w'.heap[g]? =some (.cells (us++junk).toArray e (0,0))∧F2 (Ri w (Da h β) X) (Sa τ ys) us∧(us++junk).length=c*sz τ) (hA:0<c→A=some ⟨g,0,none⟩) (hN:τ.u=false) :
    Eb w h β w' (h.map (fun _=>Ca.dead)++[.row e τ ys]) (β++[(g,c)])∧Pb w' (Da (h.map (fun _=>Ca.dead)++[.row e τ ys]) (β++[(g,c)])) X (h.map (fun _=>Ca.dead)++[.row e τ ys]) (β++[(g,c)])∧Cv w' (Da (h.map (fun _=>Ca.dead)++[.row e τ ys]) (β++[(g,c)])) X (h.map (fun _=>Ca.dead)++[.row e τ ys]) (β++[(g,c)]) (.own h.length) (.slice A ys.length c):=by
  exact Xy hH hX hos hta hou hsz hblk hg hc hcm hrow hA (fun q=>(0,q)) (fun us' junk' _ _ _ q σ u n hz _=>by
    rcases hz with ⟨z,_⟩|⟨rfl,_⟩
    ·rw [hN] at z;cases z
    ·cases hN) (fun q q' _ _ h=>(Prod.mk.inj h).2)
def qL (τ:Ty) (s:List (El τ)×Unit):Option (List (El τ)×Unit):=bif decide (s.1.length≤16777216) then some s else none
theorem CS {P:Program} {f:FuncId} {τ:Ty} {e:TypeId} (hNu:τ.u=false) (hN:∀n c w,Calls P f #[.slice none n c] w fun e w'=>e=.returned (.slice none 0 0)∧w'=w)
    (hC:∀(A:Addr) (n c:Nat) (news:List Value) (w:World),news.length=n*sz τ→n≤16777216→(∀j u,news[j]? =some u→w.cell? (A.add j)=some u)→(∀u∈news,u.oneCell'=true) →
      Calls P f #[.slice (some A) n c] w fun ex w'=>∃v',ex=.returned v'∧w'.ownsRow w.heap.size e (sz τ) v' n news∧v'≠.slice none 0 0∧Below w.heap.size w w') :
    GC P f ⟨⟨[.c (.one (.b (.sl false τ)))],[]⟩,[.ls τ],⟨[.c (.one (.own 0))],[.row e τ]⟩,[.ls τ],qL τ⟩:=by
  intro s r hs ds os hf d h' hr w X β args hX hH hargs _
  obtain ⟨xs,_⟩:=s
  change List (El τ) at xs
  have hs:(bif decide (xs.length≤16777216) then some ((xs,()):List (El τ)×Unit) else none)=some r:=hs
  cases hd:decide (xs.length≤16777216) with
  |false=>rw [hd] at hs;cases hs
  |true =>
  rw [hd] at hs
  injection hs with hs
  subst hs
  have hn:=oT hd
  have hf:some ([PV.im (.sl false τ xs)],([]:List Ca))=some (ds,os):=by rw [←hf];cases τ<;>rfl
  injection hf with hf
  injection hf with hf1 hf2
  subst hf1 hf2
  have hr:some ([PV.own 0],[Ca.row e τ xs])=some ([d],h'):=by rw [←hr];cases τ<;>rfl
  injection hr with hr
  injection hr with hr1 hr2
  injection hr1 with hr1
  subst hr1 hr2
  obtain ⟨u,_,rfl,hu,hnil⟩:=hargs.cons_inv
  obtain rfl:=hnil.nil_inv
  have hu:Ri w (Da [] β) X (.sl false τ xs) u:=hu
  have Dg:∀{v':Value} {w':World} {news:List Value},F2 (Ri w (Da [] β) X) (Sa τ xs) news→w'.ownsRow w.heap.size e (sz τ) v' xs.length news→v'≠.slice none 0 0→Below w.heap.size w w'→∃u β',Ending.returned v'=.returned u∧Eb w [] β w' [.row e τ xs] β'∧Pb w' (Da [.row e τ xs] β') X [.row e τ xs] β'∧Cv w' (Da [.row e τ xs] β') X [.row e τ xs] β' (.own 0) u:=fun {v' w' news} hF hown hne hb=>by
    obtain ⟨g,c,junk,rfl,hg,hh,hl,hm,hle⟩:=qK hown hne
    obtain ⟨q1,q2,q3⟩:=Q9 (h:=[]) (e:=e) (τ:=τ) (ys:=xs) (g:=g) (c:=c) (A:=some ⟨g,0,none⟩) hH hX hb.os hb.tape hb.output hb.size (fun i hi _=>hb.block i hi) (.inr hg) (fun h=>List.length_eq_zero_iff.1 (by omega)) hm (fun _=>⟨news,junk,hh,hF,hl⟩) (fun _=>rfl) hNu
    exact ⟨_,_,rfl,q1,q2,q3⟩
  cases hu with
  |sl g τ xs A cap b o us hA hcap hl hc hr =>
  cases A with
  |none =>
   refine (hN _ _ w).mono ?_
   rintro ex w' ⟨rfl,rfl⟩
   obtain rfl:xs=[]:=by
     rcases Nat.eq_zero_or_pos xs.length with h0|h0
     ·exact List.length_eq_zero_iff.1 h0
     ·have:=(hA h0).1;cases this
   obtain ⟨q1,q2,q3⟩:=Q9 (h:=[]) (e:=e) (τ:=τ) (ys:=[]) (g:=w'.heap.size) (c:=0) (A:=none) hH hX rfl rfl rfl (Nat.le_refl _) (fun i hi _=>rfl) (.inr (Nat.le_refl _)) (fun _=>rfl) (Nat.zero_le _) (fun h=>by omega) (fun h=>by omega) hNu
   exact ⟨_,_,rfl,q1,q2,q3⟩
  |some A =>
   rcases Nat.eq_zero_or_pos xs.length with h0|h0
   ·obtain rfl:xs=[]:=List.length_eq_zero_iff.1 h0
    refine (hC A 0 cap [] w (by simp) (Nat.zero_le _) (fun j u hj=>by simp at hj) (fun u hu=>by simp at hu)).mono ?_
    rintro ex w' ⟨v',rfl,h1,h2,h3⟩
    exact Dg F2.nil h1 h2 h3
   ·obtain ⟨e1,_,_⟩:=hA h0
    injection e1 with e1
    subst e1
    have hF:F2 (Ri w (Da [] β) X) (Sa τ xs) us:=⟨hl,hr⟩
    refine (hC ⟨b,o,none⟩ xs.length cap us w (by rw [hl,Gb]) hn (fun j u hj=>by rw [Mk];exact hc j u hj) (Ii hF)).mono ?_
    rintro ex w' ⟨v',rfl,h1,h2,h3⟩
    exact Dg hF h1 h2 h3
theorem R9 {g:Nat} {t:TypeId}:∀(vs:List Value) (o:Nat) (cur:Array Value) (w:World),w.heap[g]? =some (.cells cur t (0,0))→o+vs.length≤cur.size→w.setCells g o vs=w.setRow g (cur.toList.take o++vs++cur.toList.drop (o+vs.length)).toArray
  |[],o,cur,w,hg,_=>by
   simp only [World.setCells,List.append_nil,List.length_nil,Nat.add_zero,List.take_append_drop,Array.toArray_toList]
   rw [setRow_self w g cur t (0,0) hg]
  |v::r,o,cur,w,hg,hl=>by
   have hi:o<cur.size:=by simp at hl;omega
   have h1:w.setCell ⟨g,o,none⟩ v=w.setRow g (cur.setIfInBounds o v):=setCell_eq_setRow w g o cur t (0,0) v hg
   simp only [World.setCells]
   rw [h1,R9 r (o+1) (cur.setIfInBounds o v) (w.setRow g (cur.setIfInBounds o v)) (setRow_heap w g cur _ t _ hg) (by simp at hl ⊢;omega),setRow_setRow]
   congr 2
   have e:=list_seg_step cur.toList o v r (by simp at hl ⊢;omega)
   simpa [Array.toList_setIfInBounds,Nat.add_assoc] using e
theorem YI {P:Program} (w:World) (dT sT ty elem:TypeId) (g o dLen dCap:Nat) (a:Addr) (sLen sCap size:Nat) (cur:Array Value) (t:TypeId) (cs:List Value)
    (hu:P.underlying dT=some (.slice elem)) (hs:∀w,(sizeOf elem).run P w=.ok size w) (hg:w.heap[g]? =some (.cells cur t (0,0))) (hn:cs.length=Nat.min sLen dLen*size)
    (hsrc:∀j v,cs[j]? =some v→w.cell? (a.add j)=some v) (hfit:o+cs.length≤cur.size) (h1:∀v∈cs,v.oneCell'=true) :
    (Builtin.copy_ #[dT,sT] ty #[.slice (some ⟨g,o,none⟩) dLen dCap,.slice (some a) sLen sCap]).run P w =
      .ok (goInt (Nat.min sLen dLen)) (w.setRow g (cur.toList.take o++cs++cur.toList.drop (o+cs.length)).toArray):=by
  have hl:=run_firstCells_some (P:=P) w size (Nat.min sLen dLen) a sLen sCap cs hn hsrc
  have hst:=run_storeCells_at P g o t cs 0 cur w hg (by simpa using hfit) h1
  simp only [Nat.add_zero] at hst
  simp [Builtin.copy_,run_underlying hu,Builtin.lenOf,hs,hl,hst]
theorem DS (cs:Array Value) (n:Nat):(Builtin.zeroCells cs n).toList.length=n*cs.size:=by
  simp [Builtin.zeroCells]
theorem qM {P:Program} (w:World) (t e ty:TypeId) (z:Value) (ht:P.underlying t=some (.slice e)) (hv:∀w,(zeroValue e).run P w=.ok z w) (h1:∀v∈z.cells.toList,v.oneCell'=true) (b o n c:Nat) (hn:0<n) (cur:Array Value) (t':TypeId)
    (hg:w.heap[b]? =some (.cells cur t' (0,0))) (hfit:o+n*z.cells.size≤cur.size) :
    ∃zs:List Value,zs.length=n*z.cells.size∧(Builtin.clear_ #[t] ty #[.slice (some ⟨b,o,none⟩) n c]).run P w=.ok (.tuple #[]) (w.setRow b (cur.toList.take o++zs++cur.toList.drop (o+zs.length)).toArray):=by
  have hzl:=DS z.cells n
  have hst:=run_storeCells_at P b o t' (Builtin.zeroCells z.cells n).toList 0 cur w hg (by rw [Nat.add_zero,hzl];exact hfit) (fun v hv'=>by
    simp only [Builtin.zeroCells,Array.toList_map,List.mem_map] at hv'
    obtain ⟨j,hj,rfl⟩:=hv'
    have hj:j<n*z.cells.size:=by simpa using hj
    have hp:0<z.cells.size:=by
      rcases Nat.eq_zero_or_pos z.cells.size with h|h
      ·rw [h] at hj;omega
      ·exact h
    have hm:=Nat.mod_lt j hp
    refine h1 _ ?_
    rw [getElem!_pos z.cells (j % z.cells.size) hm]
    exact Array.getElem_mem_toList ..)
  simp only [Nat.add_zero] at hst
  obtain ⟨m,rfl⟩:∃m,n=m+1:=⟨n-1,by omega⟩
  exact ⟨_,hzl,by simp [Builtin.clear_,run_underlying ht,hv,hst]⟩
theorem qN {P:Program} {t e ty:TypeId} {i:TI} (T:Nb P t i) {τ:Ty} {bytes:Nat} (he:i.elem=some (e,τ,bytes)) {h:List Ca} {β:List (Nat×Nat)} {X:Nat→Prop} {w:World} {A:Option Addr} {b c:Nat} {xs ys:List (El τ)} {u:Value} (hc0:c=0→xs=[]) (hA:0<c→A=some ⟨b,0,none⟩) (hcm:c≤maxLen)
    (hrow:0<c→∃us junk,w.heap[b]? =some (.cells (us++junk).toArray e (0,0))∧F2 (Ri w (Da h β) X) (Sa τ xs) us∧(us++junk).length=c*sz τ) (hx:Un w (Da h β) X τ ys u) (hp:0<ys.length) (hb:xs.length+ys.length≤33554432) :
    ∃g c2 us junk w',(Builtin.append_ #[t,t] ty #[.slice A xs.length c,u]).run P w=.ok (.slice (some ⟨g,0,none⟩) (xs++ys).length c2) w'∧(0<c∧g=b∨w.heap.size≤g)∧0<c2∧c2≤maxLen∧w'.heap[g]? =some (.cells (us++junk).toArray e (0,0))∧F2 (Ri w (Da h β) X) (Sa τ (xs++ys)) us∧(us++junk).length=c2*sz τ∧(∀j,j<w.heap.size→(0<c→j≠b)→w'.heap[j]? =w.heap[j]?)∧w'.os=w.os∧w'.tape=w.tape∧w'.output=w.output∧w.heap.size≤w'.heap.size∧∃us0 news,us=us0++news∧us0.length=xs.length*sz τ∧(us0=[]∨∃junk0,0<c∧w.heap[b]? =some (.cells (us0++junk0).toArray e (0,0)))∧news.length=ys.length*sz τ∧∀bx px n c',u=.slice (some ⟨bx,px,none⟩) n c'→∀(i:Nat) v,news[i]? =some v→w.cell? ⟨bx,px+i,none⟩=some v:=by
  obtain ⟨hund,⟨inf,z,g2,g3,g4,g5,g6⟩,hsm⟩:=T.el e τ bytes he
  rcases Nat.eq_zero_or_pos c with hc|hc
  ·subst hc
   obtain rfl:=hc0 rfl
   obtain ⟨g,c2,junk,news,w',hrun,hg,hcp,hcm2,hh,hF,hl,hbw,hnc⟩:=YO (C:=⟨w,h,β,0,X⟩) (st:=⟨[],h⟩) T he rfl (A0:=A) (ty:=ty) hx hp (by simpa using hb)
   exact ⟨g,c2,news,junk,w',hrun,.inr hg,hcp,hcm2,hh,hF,hl,fun j hj _=>hbw.block j hj,hbw.os,hbw.tape,hbw.output,hbw.size,[],news,rfl,by simp,.inl rfl,by rw [hF.1,Gb],hnc⟩
  ·obtain ⟨us,junk,q1,q2,q4⟩:=hrow hc
   obtain ⟨Ax,cx,rfl,hx⟩:=hx
   obtain ⟨bx,px,news,rfl,hcx,hrx⟩:=hx hp
   have h1x:=Ii hrx
   have hbytes:(xs.length+ys.length)*bytes≤140737488355328:=by
     have:=Nat.mul_le_mul hb hsm
     omega
   obtain rfl:=hA hc
   have hlen:xs.length≤c:=by
     have:xs.length*sz τ≤c*sz τ:=by rw [←q4,←Gb,←q2.1];simp
     exact Nat.le_of_mul_le_mul_right this (Of τ)
   have hown:w.ownsRow 0 e (sz τ) (.slice (some ⟨b,0,none⟩) xs.length c) xs.length us:=⟨by rw [q2.1,Gb],.inr ⟨b,c,(us++junk).toArray,rfl,Nat.zero_le _,q1,hlen,hcm,by simpa using q4,by rw [←Gb,←q2.1];simp⟩⟩
   obtain ⟨v',w',hrun,hown',hgr,hnil,hor⟩:=run_append_own_at (P:=P) (w:=w) 0 t ty e inf z (sz τ) bytes hund g2 g3 g4 g5 g6 (Of τ) _ xs.length us hown ⟨bx,px,none⟩ ys.length cx news (by rw [hrx.1,Gb]) (fun j u hu=>by rw [Mk];exact hcx j u hu) h1x (by unfold maxLen;omega) hbytes (Nat.zero_le _)
   obtain ⟨g,c2,junk2,rfl,hh,hl,hmx,hle2⟩:=AH hown' (fun e=>by have:=(hnil.1 e).1;cases this)
   have hg:g=b∨w.heap.size≤g:=by
     rcases hor with e|e
     ·simp [Value.ownBlock] at e;exact .inl e
     ·simp [Value.ownBlock] at e;exact .inr (by omega)
   have hlen2:(xs++ys).length=xs.length+ys.length:=List.length_append
   refine ⟨g,c2,us++news,junk2,w',by rw [hlen2];exact hrun,hg.imp (fun h=>⟨hc,h⟩) id,by omega,hmx,hh,by rw [Cp];exact q2.app hrx,hl,fun j hj hne=>hgr.block j hj (by simpa [Value.ownBlock] using hne hc),hgr.os,hgr.tape,hgr.output,hgr.size,us,news,rfl,by rw [q2.1,Gb],.inr ⟨junk,hc,q1⟩,by rw [hrx.1,Gb],fun bx' px' n' c'' e' i v hv=>by
     injection e' with e'
     injection e' with e'
     injection e' with e1 e2
     subst e1 e2
     exact hcx i v hv⟩
end
section
open Go.RowKit
set_option maxRecDepth 100000 in
set_option maxHeartbeats 1000000 in
theorem qO (n c:Nat) (w:World):Calls Tryz.prog 124 #[.slice none n c] w fun e w'=>e=.returned (.slice none 0 0)∧w'=w:=by
  have q22:∀(w:World) (a:Option Addr) (n c n' c':Nat),(binOp .eql 25 (.slice a n c) (.slice none n' c')).run Tryz.prog w=.ok (.bool a.isNone) w:=fun w a n c n' c'=>Go.Lib.run_eql_slice_nil w _ _ a n c n' c' Tryz.underlying25
  go_enter Tryz.func124,Tryz.ntmps124
  go_wp2
  go_ret
  exact ⟨rfl,rfl⟩
set_option maxRecDepth 100000 in
set_option maxHeartbeats 1000000 in
theorem qP (A:Addr) (n c:Nat) (news:List Value) (w:World) (hl:news.length=n*1) (hn:n≤16777216) (hc:∀j u,news[j]? =some u→w.cell? (A.add j)=some u) (h1:∀u∈news,u.oneCell'=true) :
    Calls Tryz.prog 124 #[.slice (some A) n c] w fun ex w'=>∃v',ex=.returned v'∧w'.ownsRow w.heap.size 4 1 v' n news∧v'≠.slice none 0 0∧Below w.heap.size w w':=by
  have q22:∀(w:World) (a:Option Addr) (n c n' c':Nat),(binOp .eql 25 (.slice a n c) (.slice none n' c')).run Tryz.prog w=.ok (.bool a.isNone) w:=fun w a n c n' c'=>Go.Lib.run_eql_slice_nil w _ _ a n c n' c' Tryz.underlying25
  have A0:Hid (∀j u,news[j]? =some u→w.cell? (A.add j)=some u):=Lib.hid hc
  clear hc
  obtain ⟨i0,hi,hz0,hz1,hz2⟩:=Fd VQ
  obtain ⟨AB,AO,AS⟩:=A
  go_enter Tryz.func124,Tryz.ntmps124
  go_wp2_with (at_builtin;refine wpList_append_own _ rfl _ _ 25 rfl w.heap.size 4 i0 _ 1 1 Tryz.underlying25 hi hz0 hz1 hz2 rfl (by decide) _ _ _ rfl (World.ownsRow_made w #[] 0 (Nat.le_refl _) (Nat.zero_le _) (by simp)) ⟨AB,AO,AS⟩ n c news rfl ?qc1 ?qc2 ?qc3 ?qc4 ?qc5 ?qc6 ?_)
  case qc1=>exact hl
  case qc2=>exact fun j u hj=>Go.Lib.cell?_alloc_some _ (A0.out j u hj)
  case qc3=>exact h1
  case qc4=>unfold maxLen;omega
  case qc5=>omega
  case qc6=>simp
  intro v' w1 hown hgrow hnil
  go_wp2
  go_ret
  refine ⟨v',rfl,by simpa using hown,hnil,?_⟩
  exact ((Below.refl _ w).alloc (Nat.le_refl _) _).grown hgrow (by simp) (by intro k hk;simp [Value.ownBlock] at hk;omega)
set_option maxRecDepth 100000 in
set_option maxHeartbeats 1000000 in
theorem qQ (n c:Nat) (w:World):Calls Tryz.prog 125 #[.slice none n c] w fun e w'=>e=.returned (.slice none 0 0)∧w'=w:=by
  have q22:∀(w:World) (a:Option Addr) (n c n' c':Nat),(binOp .eql 26 (.slice a n c) (.slice none n' c')).run Tryz.prog w=.ok (.bool a.isNone) w:=fun w a n c n' c'=>Go.Lib.run_eql_slice_nil w _ _ a n c n' c' Tryz.underlying26
  go_enter Tryz.func125,Tryz.ntmps125
  go_wp2
  go_ret
  exact ⟨rfl,rfl⟩
set_option maxRecDepth 100000 in
set_option maxHeartbeats 1000000 in
theorem qR (A:Addr) (n c:Nat) (news:List Value) (w:World) (hl:news.length=n*1) (hn:n≤16777216) (hc:∀j u,news[j]? =some u→w.cell? (A.add j)=some u) (h1:∀u∈news,u.oneCell'=true) :
    Calls Tryz.prog 125 #[.slice (some A) n c] w fun ex w'=>∃v',ex=.returned v'∧w'.ownsRow w.heap.size 3 1 v' n news∧v'≠.slice none 0 0∧Below w.heap.size w w':=by
  have q22:∀(w:World) (a:Option Addr) (n c n' c':Nat),(binOp .eql 26 (.slice a n c) (.slice none n' c')).run Tryz.prog w=.ok (.bool a.isNone) w:=fun w a n c n' c'=>Go.Lib.run_eql_slice_nil w _ _ a n c n' c' Tryz.underlying26
  have A0:Hid (∀j u,news[j]? =some u→w.cell? (A.add j)=some u):=Lib.hid hc
  clear hc
  obtain ⟨i0,hi,hz0,hz1,hz2⟩:=Fd WQ
  obtain ⟨AB,AO,AS⟩:=A
  go_enter Tryz.func125,Tryz.ntmps125
  go_wp2_with (at_builtin;refine wpList_append_own _ rfl _ _ 26 rfl w.heap.size 3 i0 _ 1 8 Tryz.underlying26 hi hz0 hz1 hz2 rfl (by decide) _ _ _ rfl (World.ownsRow_made w #[] 0 (Nat.le_refl _) (Nat.zero_le _) (by simp)) ⟨AB,AO,AS⟩ n c news rfl ?qc1 ?qc2 ?qc3 ?qc4 ?qc5 ?qc6 ?_)
  case qc1=>exact hl
  case qc2=>exact fun j u hj=>Go.Lib.cell?_alloc_some _ (A0.out j u hj)
  case qc3=>exact h1
  case qc4=>unfold maxLen;omega
  case qc5=>omega
  case qc6=>simp
  intro v' w1 hown hgrow hnil
  go_wp2
  go_ret
  refine ⟨v',rfl,by simpa using hown,hnil,?_⟩
  exact ((Below.refl _ w).alloc (Nat.le_refl _) _).grown hgrow (by simp) (by intro k hk;simp [Value.ownBlock] at hk;omega)
set_option maxRecDepth 100000 in
set_option maxHeartbeats 1000000 in
theorem qS (n c:Nat) (w:World):Calls Tryz.prog 146 #[.slice none n c] w fun e w'=>e=.returned (.slice none 0 0)∧w'=w:=by
  have q22:∀(w:World) (a:Option Addr) (n c n' c':Nat),(binOp .eql 106 (.slice a n c) (.slice none n' c')).run Tryz.prog w=.ok (.bool a.isNone) w:=fun w a n c n' c'=>Go.Lib.run_eql_slice_nil w _ _ a n c n' c' Tryz.underlying106
  go_enter Tryz.func146,Tryz.ntmps146
  go_wp2
  go_ret
  exact ⟨rfl,rfl⟩
set_option maxRecDepth 100000 in
set_option maxHeartbeats 1000000 in
theorem qT (A:Addr) (n c:Nat) (news:List Value) (w:World) (hl:news.length=n*2) (hn:n≤16777216) (hc:∀j u,news[j]? =some u→w.cell? (A.add j)=some u) (h1:∀u∈news,u.oneCell'=true) :
    Calls Tryz.prog 146 #[.slice (some A) n c] w fun ex w'=>∃v',ex=.returned v'∧w'.ownsRow w.heap.size 153 2 v' n news∧v'≠.slice none 0 0∧Below w.heap.size w w':=by
  have q22:∀(w:World) (a:Option Addr) (n c n' c':Nat),(binOp .eql 106 (.slice a n c) (.slice none n' c')).run Tryz.prog w=.ok (.bool a.isNone) w:=fun w a n c n' c'=>Go.Lib.run_eql_slice_nil w _ _ a n c n' c' Tryz.underlying106
  have A0:Hid (∀j u,news[j]? =some u→w.cell? (A.add j)=some u):=Lib.hid hc
  clear hc
  obtain ⟨i0,hi,hz0,hz1,hz2⟩:=Fd ZQ
  obtain ⟨AB,AO,AS⟩:=A
  go_enter Tryz.func146,Tryz.ntmps146
  go_wp2_with (at_builtin;refine wpList_append_own _ rfl _ _ 106 rfl w.heap.size 153 i0 _ 2 16 Tryz.underlying106 hi hz0 hz1 hz2 rfl (by decide) _ _ _ rfl (World.ownsRow_made w #[] 0 (Nat.le_refl _) (Nat.zero_le _) (by simp)) ⟨AB,AO,AS⟩ n c news rfl ?qc1 ?qc2 ?qc3 ?qc4 ?qc5 ?qc6 ?_)
  case qc1=>exact hl
  case qc2=>exact fun j u hj=>Go.Lib.cell?_alloc_some _ (A0.out j u hj)
  case qc3=>exact h1
  case qc4=>unfold maxLen;omega
  case qc5=>omega
  case qc6=>simp
  intro v' w1 hown hgrow hnil
  go_wp2
  go_ret
  refine ⟨v',rfl,by simpa using hown,hnil,?_⟩
  exact ((Below.refl _ w).alloc (Nat.le_refl _) _).grown hgrow (by simp) (by intro k hk;simp [Value.ownBlock] at hk;omega)
end
section
open Go.RowKit
theorem ES {w:World} {b j:Nat} {cur:Array Value} {t:TypeId} (h:w.heap[b]? =some (.cells cur t (0,0))):w.frozen? ⟨b,j,none⟩=false:=by simp [World.frozen?,h]
theorem qU {w:World} {b j:Nat} {cur:Array Value} {t:TypeId} (h:w.heap[b]? =some (.cells cur t (0,0))) (hj:j<cur.size):(w.cell? ⟨b,j,none⟩).isSome=true:=by simp [World.cell?,h,hj]
theorem Dq {w:World} {b j:Nat} {l:List Value} {t:TypeId} {u:Value} (h:w.heap[b]? =some (.cells l.toArray t (0,0))) (hj:l[j]? =some u):w.cell? ⟨b,j,none⟩=some u:=by
  have:=(List.getElem?_eq_some_iff.1 hj).1
  simp [World.cell?,h,hj]
set_option maxRecDepth 100000 in
set_option maxHeartbeats 4000000 in
theorem qV (b c n i:Nat) (us junk:List Value) (w:World) (hblk:w.heap[b]? =some (.cells (us++junk).toArray 112 (0,0))) (hul:us.length=n*4) (hcl:(us++junk).length=c*4) (hi:i<n) (hn:n≤c) (hm:c≤9223372036854775807) (h1:∀u∈us,u.oneCell'=true):Calls Tryz.prog 114 #[.slice (some ⟨b,0,none⟩) n c,.int .i64 (i:Int),.int .i64 ((i:Int)+1)] w fun e w'=>e=.returned (.slice (some ⟨b,0,none⟩) (n-1) c)∧∃q X,X.length=(us++junk).length-(n-1)*4∧w'=(w.drewN q).setRow b (us.take (i*4)++us.drop ((i+1)*4)++X).toArray:=by
  have hj:((i:Int)+1)=((i+1:Nat):Int):=by omega
  rw [hj]
  obtain ⟨news,hnews⟩:∃news,news=us.drop ((i+1)*4):=⟨_,rfl⟩
  have hlen:news.length=(n-(i+1))*4:=by rw [hnews,List.length_drop,hul,Nat.sub_mul]
  obtain ⟨A,hA,hsrc⟩:∃A:Addr,(if c=i+1 then some (⟨b,0,none⟩:Addr) else some ⟨b,(i+1)*4,none⟩)=some A∧Hid (∀t u,news[t]? =some u→w.drew.cell? (A.add t)=some u):=by
    by_cases h:c=i+1
    ·refine ⟨⟨b,0,none⟩,by simp [h],fun t u hu=>?_⟩
     have h0:news.length=0:=by rw [hlen];omega
     rw [List.length_eq_zero_iff.1 h0] at hu
     simp at hu
    ·refine ⟨⟨b,(i+1)*4,none⟩,by simp [h],fun t u hu=>?_⟩
     rw [hnews,List.getElem?_drop] at hu
     rw [Addr.add_lit]
     have hlt:=(List.getElem?_eq_some_iff.1 hu).1
     exact Dq (w:=w) (l:=us++junk) hblk (by rw [List.getElem?_append_left hlt];exact hu)
  have s1:Hid (news.length=(n-(i+1))*4):=hlen
  have s2:Hid (∀u∈news,u.oneCell'=true):=fun u hu=>h1 u (List.mem_of_mem_drop (by rw [←hnews];exact hu))
  have s3:Hid (∀t,t<news.length→(w.drew.cell? ⟨b,0+i*4+t,none⟩).isSome=true∧w.drew.frozen? ⟨b,0+i*4+t,none⟩=false):=fun t ht=>by
    rw [hlen] at ht
    refine ⟨qU (w:=w.drew) (t:=112) (cur:=(us++junk).toArray) hblk ?_,ES (w:=w.drew) (t:=112) (cur:=(us++junk).toArray) hblk⟩
    have:(us++junk).toArray.size=c*4:=by simpa using hcl
    rw [this];omega
  obtain ⟨W1,hW1⟩:∃W1,W1=w.drew.setCells b (0+i*4) news:=⟨_,rfl⟩
  have hW1':W1=w.drew.setRow b ((us++junk).take (i*4)++news++(us++junk).drop (i*4+news.length)).toArray:=by
    rw [hW1,R9 news (0+i*4) (us++junk).toArray w.drew hblk (by simp only [List.size_toArray];rw [hcl,hlen];omega)]
    simp
  have hrow1:W1.heap[b]? =some (.cells ((us++junk).take (i*4)++news++(us++junk).drop (i*4+news.length)).toArray 112 (0,0)):=by rw [hW1'];exact setRow_heap w.drew b _ _ _ _ hblk
  have hsz1:((us++junk).take (i*4)++news++(us++junk).drop (i*4+news.length)).length=c*4:=by
    simp only [List.length_append,List.length_take,List.length_drop] at hcl ⊢
    rw [hlen];omega
  obtain ⟨zs,hzl,hcl0⟩:∃zs:List Value,zs.length=1*4∧∀ty,(Builtin.clear_ #[37] ty #[.slice (some ⟨b,(i+(n-(i+1)))*4,none⟩) (n-(i+(n-(i+1)))) (c-(i+(n-(i+1))))]).run Tryz.prog W1=.ok (.tuple #[]) (W1.setRow b (((us++junk).take (i*4)++news++(us++junk).drop (i*4+news.length)).take ((n-1)*4)++zs++((us++junk).take (i*4)++news++(us++junk).drop (i*4+news.length)).drop ((n-1)*4+zs.length)).toArray):=by
    rw [show i+(n-(i+1))=n-1 by omega,show n-(n-1)=1 by omega]
    obtain ⟨zs,h2,h3⟩:=qM (P:=Tryz.prog) W1 37 112 0 _ Tryz.underlying37 Tryz.zeroValue112 (by simp [Value.cells,Value.oneCell']) b ((n-1)*4) 1 (c-(n-1)) (by omega) _ 112 hrow1 (by simp only [List.size_toArray];rw [hsz1];simp [Value.cells];omega)
    refine ⟨zs,by simpa [Value.cells] using h2,fun ty=>?_⟩
    have:=h3
    simpa [Builtin.clear_] using h3
  have X:Hid (W1=w.drew.setRow b ((us++junk).take (i*4)++news++(us++junk).drop (i*4+news.length)).toArray):=hW1'
  have hW:Hid (W1=w.drew.setCells b (0+i*4) news):=hW1
  have N0:Hid (news=us.drop ((i+1)*4)):=hnews
  have Hr:Hid (W1.heap[b]? =some (.cells ((us++junk).take (i*4)++news++(us++junk).drop (i*4+news.length)).toArray 112 (0,0))):=hrow1
  have Hs:Hid (((us++junk).take (i*4)++news++(us++junk).drop (i*4+news.length)).length=c*4):=hsz1
  have hic:i≤c:=by omega
  have hjc:i+1≤c:=by omega
  have hne:¬(i=i+1):=by omega
  have mixed0:=mixed
  have hp0:(0:Int)≤(i:Int)+1:=by omega
  have hp1:(i:Int)+1≤(n:Int):=by omega
  obtain ⟨i0,hi0,hz0,hz1,hz2⟩:=Fd XQ
  clear hW1 hW1' hrow1 hsz1 hnews hlen hj hblk
  go_enter Tryz.func114,Tryz.ntmps114
  go_wp2_with fail
  go_region_law_o (refine step_append_room rfl (.tmp 22) (.tmp 25) 37 rfl 112 i0 4 Tryz.underlying37 hi0 hz1 b 0 i c (by simp [Act.eval,Act.put]) A (n-(i+1)) (c-(i+1)) news (by simp [Act.eval,Act.put]) s1.out hsrc.out s2.out (by omega) s3.out ?_;rw [←hW.out])
  go_wp2
  go_ret
  refine ⟨by rw [show n-1=i+(n-(i+1)) by omega];rfl,1,zs++((us++junk).take (i*4)++news++(us++junk).drop (i*4+news.length)).drop ((n-1)*4+zs.length),?_,?_⟩
  ·rw [List.length_append,List.length_drop,Hs.out,hzl,hcl];omega
  ·rw [X.out,setRow_setRow]
   have hnl:=s1.out
   have e1:((us++junk).take (i*4)++news++(us++junk).drop (i*4+news.length)).take ((n-1)*4)=us.take (i*4)++us.drop ((i+1)*4):=by
     have h0:(us++junk).take (i*4)=us.take (i*4):=List.take_append_of_le_length (by omega)
     have h2:((n-1)*4)=(us.take (i*4)++news).length:=by rw [List.length_append,List.length_take,hnl,hul];omega
     rw [h0,h2,List.take_left,N0.out]
   simp only [List.append_assoc] at e1 ⊢
   rw [e1]
   have hz4:zs.length=4:=by omega
   simp only [List.append_assoc,hz4]
   rfl
end
section
open Go.RowKit
theorem S9 {P:Program} (w:World) {o:Oper} {a:Act} {K:Act→World→Prop} {Q:Exit→Act→World→Prop} (d s:Operand) (t t':TypeId)
    (ho:o.op=.call { callee:=.builtin .copy,args:= #[d,s],argTypes:= #[t,t'] }) (v u:Value) (hd:a.eval d=v) (hs:a.eval s=u) {v':Value} {w':World}
    (hr:(Builtin.copy_ #[t,t'] o.type #[v,u]).run P w=.ok v' w') (h:K (a.put o.dst v') w'):o.wp P a w K Q:=by
  unfold Oper.wp execOp
  simp only [ho,resolve,invoke,builtin,Sem.run_bind,Sem.run_pure,Result.andThen_ok,List.map_toArray,List.map_cons,List.map_nil,hd,hs,hr]
  exact h
theorem T9 {P:Program} (w:World) {ops:Array Oper} {rest:List Oper} {o:Oper} {a:Act} {Q:Exit→Act→World→Prop} (hgd:o.guard=none) (d s:Operand) (t t':TypeId)
    (ho:o.op=.call { callee:=.builtin .copy,args:= #[d,s],argTypes:= #[t,t'] }) (v u:Value) (hd:a.eval d=v) (hs:a.eval s=u) {v':Value} {w':World}
    (hr:(Builtin.copy_ #[t,t'] o.type #[v,u]).run P w=.ok v' w') (h:wpList P ops Q rest (a.put o.dst v') w'):wpList P ops Q (o::rest) a w :=
  wpList_plain hgd fun _ hK=>S9 w d s t t' ho v u hd hs hr (hK _ _ h)
theorem U9 {P:Program} {ops:Array Oper} {o:Oper} {a:Act} {w:World} {K:Act→World→Prop} {Q:Exit→Act→World→Prop} {E:Prop}
    (hg:o.guard=none) (d x:Operand) (dT sT:TypeId) (hop:o.op=Op.call { callee:=Callee.builtin Builtin.copy,args:= #[d,x],argTypes:= #[dT,sT] })
    (v u:Value) (hd:a.eval d=v) (hx:a.eval x=u) {v':Value} {w':World} (hr:(Builtin.copy_ #[dT,sT] o.type #[v,u]).run P w=.ok v' w') (hK:K (a.put o.dst v') w') :
    if Region.wanted o (yielded ops a.tmps)=true then Oper.wp P o a w K Q else E:=by
  rw [if_pos (by simp [Region.wanted,hg])]
  exact S9 w d x dT sT hop v u hd hx hr hK
theorem V9 {w:World} {b:Nat} {cur:Array Value} {t:TypeId} (h:w.heap[b]? =some (.cells cur t (0,0))):w.shape? b=some (t,cur.size):=by simp [World.shape?,h]
set_option maxRecDepth 100000 in
set_option maxHeartbeats 4000000 in
theorem qW (A:Option Addr) (n c:Nat) (vb vc:Nat) (w w1:World) (v1:Value) (hrun:∀ty,(Builtin.append_ #[86,86] ty #[.slice A n c,.slice (some ⟨vb,0,none⟩) 1 vc]).run Tryz.prog w=.ok v1 w1) (hnc:n≤c) (hc:c≤9223372036854775807):Calls Tryz.prog 145 #[.slice A n c,.int .i64 (n:Int),.slice (some ⟨vb,0,none⟩) 1 vc] w fun e w'=>e=.returned v1∧w'=w1:=by
  go_enter Tryz.func145,Tryz.ntmps145
  cases A with
  |none =>
   go_wp2_with (at_builtin;refine Lib.wpList_append_run _ rfl _ _ _ _ rfl _ _ rfl rfl _ _ (hrun _) ?_)
   go_ret
   exact ⟨rfl,rfl⟩
  |some a =>
   obtain ⟨ab,ao,asp⟩:=a
   go_wp2_with (at_builtin;refine Lib.wpList_append_run _ rfl _ _ _ _ rfl _ _ rfl rfl _ _ (hrun _) ?_)
   all_goals (go_ret;exact ⟨rfl,rfl⟩)
set_option maxRecDepth 100000 in
set_option maxHeartbeats 4000000 in
theorem qX (b c n i vb vc:Nat) (us junk vs junkv:List Value) (tv:TypeId) (w:World) (hblk:w.heap[b]? =some (.cells (us++junk).toArray 108 (0,0))) (hul:us.length=n*3) (hcl:(us++junk).length=c*3) (hi:i<n) (hn:n+1≤c) (hm:c≤9223372036854775807) (h1:∀u∈us,u.oneCell'=true) (hvblk:w.heap[vb]? =some (.cells (vs++junkv).toArray tv (0,0))) (hvl:vs.length=3) (hv1:∀u∈vs,u.oneCell'=true) (hne:vb≠b):Calls Tryz.prog 145 #[.slice (some ⟨b,0,none⟩) n c,.int .i64 (i:Int),.slice (some ⟨vb,0,none⟩) 1 vc] w fun e w'=>e=.returned (.slice (some ⟨b,0,none⟩) (n+1) c)∧∃q X,X.length=c*3-(n+1)*3∧w'=(w.drewN q).setRow b (us.take (i*3)++vs++us.drop (i*3)++X).toArray:=by
  obtain ⟨ds,hds⟩:∃ds,ds=us.drop (i*3):=⟨_,rfl⟩
  have hdl:ds.length=(n-i)*3:=by rw [hds,List.length_drop,hul,Nat.sub_mul]
  have hov:∀lb cb,(callFunc 159 #[.slice (some ⟨vb,0,none⟩) 1 vc,.slice (some ⟨b,(i+1)*3,none⟩) lb cb]).run Tryz.prog w=.ok (.value (.bool false)) w:=fun lb cb=>by
    rw [run_callFunc_extern Tryz.func159 (by kernel_rfl) (by kernel_rfl) (by kernel_rfl) (e:=Extern.SlicesOverlaps.overlaps #[86,86] #[4]) (by kernel_rfl),
      Lib.run_overlaps_apart w 86 4 108 Tryz.underlying86 3 Tryz.sizeOf108 ⟨vb,0,none⟩ ⟨b,(i+1)*3,none⟩ 1 vc lb cb hne tv 108 _ _ (V9 hvblk) (V9 hblk) (by simp only [List.size_toArray];omega) (ES hvblk) (ES hvblk)]
    rfl
  obtain ⟨R1,hR1⟩:∃R1:List Value,R1=(us++junk).take ((i+1)*3)++ds++(us++junk).drop ((i+1)*3+ds.length):=⟨_,rfl⟩
  have hR1l:R1.length=c*3:=by
    rw [hR1]
    simp only [List.length_append,List.length_take,List.length_drop] at hcl ⊢
    rw [hdl];omega
  have hcp1:∀ty dc sc,(Builtin.copy_ #[86,86] ty #[.slice (some ⟨b,(i+1)*3,none⟩) (n-i) dc,.slice (some ⟨b,i*3,none⟩) (n+1-i) sc]).run Tryz.prog w.drew=.ok (goInt (Nat.min (n+1-i) (n-i))) (w.drew.setRow b R1.toArray):=fun ty dc sc=>by
    have:=YI (P:=Tryz.prog) w.drew 86 86 ty 108 b ((i+1)*3) (n-i) dc ⟨b,i*3,none⟩ (n+1-i) sc 3 (us++junk).toArray 108 ds Tryz.underlying86 Tryz.sizeOf108 hblk (by rw [hdl,show Nat.min (n+1-i) (n-i)=n-i by simp only [Nat.min_def];split<;>omega])
      (fun j v hj=>by
        rw [hds,List.getElem?_drop] at hj
        rw [Addr.add_lit]
        have hlt:=(List.getElem?_eq_some_iff.1 hj).1
        exact Dq (w:=w) (l:=us++junk) hblk (by rw [List.getElem?_append_left hlt];exact hj))
      (by simp only [List.size_toArray];rw [hcl,hdl];omega) (fun u hu=>h1 u (List.mem_of_mem_drop (by rw [←hds];exact hu)))
    rw [this,hR1]
  have hrow1:(w.drew.setRow b R1.toArray).heap[b]? =some (.cells R1.toArray 108 (0,0)):=setRow_heap w.drew b _ _ _ _ hblk
  obtain ⟨R2,hR2⟩:∃R2:List Value,R2=R1.take (i*3)++vs++R1.drop (i*3+vs.length):=⟨_,rfl⟩
  have hcp2:∀ty dc,(Builtin.copy_ #[86,86] ty #[.slice (some ⟨b,i*3,none⟩) (n+1-i) dc,.slice (some ⟨vb,0,none⟩) 1 vc]).run Tryz.prog (w.drew.setRow b R1.toArray)=.ok (goInt (Nat.min 1 (n+1-i))) ((w.drew.setRow b R1.toArray).setRow b R2.toArray):=fun ty dc=>by
    have:=YI (P:=Tryz.prog) (w.drew.setRow b R1.toArray) 86 86 ty 108 b (i*3) (n+1-i) dc ⟨vb,0,none⟩ 1 vc 3 R1.toArray 108 vs Tryz.underlying86 Tryz.sizeOf108 hrow1 (by rw [hvl,show Nat.min 1 (n+1-i)=1 by simp only [Nat.min_def];split<;>omega])
      (fun j v hj=>by
        rw [Addr.add_lit,Nat.zero_add]
        have hlt:=(List.getElem?_eq_some_iff.1 hj).1
        have hv:=Dq (w:=w) (l:=vs++junkv) hvblk (j:=j) (u:=v) (by rw [List.getElem?_append_left hlt];exact hj)
        have hoth:(w.drew.setRow b R1.toArray).heap[vb]? =w.heap[vb]? :=setRow_other w.drew b vb _ hne
        rw [World.cell?_of_block (a:=⟨vb,j,none⟩) hoth]
        exact hv)
      (by simp only [List.size_toArray];rw [hR1l,hvl];omega) hv1
    rw [this,hR2]
  have hmin1:∀x:Nat,goInt x=.int .i64 (x:Int):=fun x=>rfl
  have H1:Hid (R1=(us++junk).take ((i+1)*3)++ds++(us++junk).drop ((i+1)*3+ds.length)):=hR1
  have H2:Hid (R2=R1.take (i*3)++vs++R1.drop (i*3+vs.length)):=hR2
  have H3:Hid (ds=us.drop (i*3)):=hds
  have H4:Hid (R1.length=c*3):=hR1l
  have mixed0:=mixed
  have hz1:¬((i:Int)=(n:Int)):=by omega
  have hz3:¬((c:Int)<(n:Int)+1):=by omega
  have hw1:IntKind.i64.wrap ((i:Int)+1)=(i:Int)+1:=by rw [IntKind.wrap_i64];omega
  have hw2:IntKind.i64.wrap ((n:Int)+1)=(n:Int)+1:=by rw [IntKind.wrap_i64];omega
  have hb1:(0:Int)≤(i:Int)+1:=by omega
  have hb0:(0:Int)≤(n:Int)+1:=by omega
  have hin:i≤n:=by omega
  have hb2:¬(c=i+1):=by omega
  have hb3:(i:Int)≤(n:Int)+1:=by omega
  have hb5:(i:Int)+1≤(n:Int)+1:=by omega
  have hb6:(n:Int)+1≤(c:Int):=by omega
  have hb4:¬(c=i):=by omega
  clear hR1 hR2 hds hR1l hrow1 hblk hvblk
  go_enter Tryz.func145,Tryz.ntmps145
  go_wp2_with (simp only [hov])
  go_region_law_o (refine U9 rfl _ _ 86 86 rfl _ _ (by simp [Act.eval,Act.put]) (by simp [Act.eval,Act.put]) (hcp1 _ _ _) ?_)
  go_wp2_with (at_builtin;refine T9 _ rfl _ _ 86 86 rfl _ _ rfl rfl (hcp2 _ _) ?_)
  go_ret
  have hdl':=hdl
  refine ⟨rfl,1,(us++junk).drop ((i+1)*3+ds.length),?_,?_⟩
  ·rw [List.length_drop,hcl,hdl];omega
  ·rw [setRow_setRow]
   have e1:R1.take (i*3)=us.take (i*3):=by
     rw [H1.out,List.append_assoc,List.take_append_of_le_length (by rw [List.length_take,hcl];omega),List.take_take,Nat.min_eq_left (by omega),List.take_append_of_le_length (by omega)]
   have e2:R1.drop (i*3+vs.length)=ds++(us++junk).drop ((i+1)*3+ds.length):=by
     rw [H1.out,hvl,List.append_assoc,show i*3+3=((us++junk).take ((i+1)*3)).length by rw [List.length_take,hcl];omega,List.drop_left]
   rw [H2.out,e1,e2,←List.append_assoc,H3.out]
   rfl
set_option maxRecDepth 100000 in
set_option maxHeartbeats 4000000 in
theorem qY (b n i vb vc:Nat) (us junk vs junkv:List Value) (tv:TypeId) (w:World) (hblk:w.heap[b]? =some (.cells (us++junk).toArray 108 (0,0))) (hul:us.length=n*3) (hi:i<n) (hm:n≤1048576) (h1:∀u∈us,u.oneCell'=true) (hvblk:w.heap[vb]? =some (.cells (vs++junkv).toArray tv (0,0))) (hvl:vs.length=3) (hv1:∀u∈vs,u.oneCell'=true):Calls Tryz.prog 145 #[.slice (some ⟨b,0,none⟩) n n,.int .i64 (i:Int),.slice (some ⟨vb,0,none⟩) 1 vc] w fun e w'=>∃G X,e=.returned (.slice (some ⟨w.heap.size,0,none⟩) (n+1) G)∧G≤maxLen∧n+1≤G∧X.length=G*3-(n+1)*3∧Below w.heap.size w w'∧w'.heap[w.heap.size]? =some (.cells (us.take (i*3)++vs++us.drop (i*3)++X).toArray 108 (0,0)):=by
  obtain ⟨i0,hi0,hz0,hzs,hzb⟩:=Fd YQ
  obtain ⟨ds,hds⟩:∃ds,ds=us.drop (i*3):=⟨_,rfl⟩
  have hdl:ds.length=(n-i)*3:=by rw [hds,List.length_drop,hul,Nat.sub_mul]
  have hbw:b<w.heap.size:=(Array.getElem?_eq_some_iff.1 hblk).1
  have hvw:vb<w.heap.size:=(Array.getElem?_eq_some_iff.1 hvblk).1
  have hkk:(n:Int)+1-(i:Int)=((n+1-i:Nat):Int):=by omega
  have hik:i+(n+1-i)=n+1:=by omega
  have hold:(Builtin.firstCells i0.size i (.slice (some ⟨b,0,none⟩) i n)).run Tryz.prog w.drew=.ok (us.take (i*3)).toArray w.drew:=by
    rw [hzs]
    exact run_firstCells_some w.drew 3 i ⟨b,0,none⟩ i n (us.take (i*3)) (by rw [List.length_take];omega) (fun j v hj=>by
      rw [Addr.add_lit,Nat.zero_add]
      rw [List.getElem?_take] at hj
      split at hj
      ·have hlt:=(List.getElem?_eq_some_iff.1 hj).1
       exact Dq (w:=w) (l:=us++junk) hblk (by rw [List.getElem?_append_left hlt];exact hj)
      ·cases hj)
  obtain ⟨G,hG⟩:∃G,G=grownCap w (n+1) n 108:=⟨_,rfl⟩
  have hGn:n+1≤G:=by rw [hG];exact grownCap_ge w _ _ _
  have hG63:G≤maxLen:=by rw [hG];exact grownCap_le_maxLen w (n+1) n 108 (by unfold maxLen;omega)
  obtain ⟨ROW,hROW,hRl,hrz⟩:∃ROW:List Value,ROW.take (i*3)=us.take (i*3)∧ROW.length=G*3∧∀ty,(Builtin.append_ #[86,3] ty #[.slice (some ⟨b,0,none⟩) i n,.int .i64 ((n:Int)+1-(i:Int))]).run Tryz.prog w=.ok (.slice (some ⟨w.heap.size,0,none⟩) (n+1) G) (w.drew.alloc (.cells ROW.toArray 108)):=by
    refine ⟨us.take (i*3)++(Builtin.zeroCells (Value.agg #[.int .i64 0,.int .i64 0,.slice none 0 0]).cells (n+1-i)).toList++(Builtin.zeroCells (Value.agg #[.int .i64 0,.int .i64 0,.slice none 0 0]).cells (G-(n+1))).toList,?_,?_,fun ty=>?_⟩
    ·have hl:(us.take (i*3)).length=i*3:=by rw [List.length_take];omega
     rw [List.append_assoc,List.take_append_of_le_length (by rw [hl];exact Nat.le_refl _),List.take_take,Nat.min_self]
    ·rw [List.length_append,List.length_append,List.length_take,DS,DS]
     simp only [Value.cells,List.size_toArray,List.length_cons,List.length_nil]
     omega
    ·have h:=Lib.run_append_grow_zeros w 86 3 ty 108 i0 _ .i64 .i64 Tryz.underlying86 Tryz.underlying3 hi0 hz0 (some ⟨b,0,none⟩) i n (us.take (i*3)) hold (n+1-i) (by omega) (by omega) (by omega) (by omega) (by rw [hzb];omega) (by rw [hzb,hik];exact growslice_fits (by omega) (by omega))
     rw [hik] at h
     rw [hkk,h,hG]
     congr 3
     apply Array.ext'
     simp
  obtain ⟨W1,hW1⟩:∃W1,W1=w.drew.alloc (.cells ROW.toArray 108):=⟨_,rfl⟩
  rw [←hW1] at hrz
  have hrow:W1.heap[w.heap.size]? =some (.cells ROW.toArray 108 (0,0)):=by rw [hW1];exact heap_alloc_new w.drew _
  have hb1:Below w.heap.size w W1:=by rw [hW1];exact ((Below.refl _ w).drew).alloc (Nat.le_refl _) _
  have hcell:∀(W:World),Below w.heap.size w W→∀(x:Nat) j,x<w.heap.size→W.cell? ⟨x,j,none⟩=w.cell? ⟨x,j,none⟩:=fun W hb x j hx=>World.cell?_of_block (a:=⟨x,j,none⟩) (hb.block x hx)
  obtain ⟨R1,hR1⟩:∃R1:List Value,R1=ROW.take (i*3)++vs++ROW.drop (i*3+vs.length):=⟨_,rfl⟩
  have hR1l:R1.length=G*3:=by
    rw [hR1]
    simp only [List.length_append,List.length_take,List.length_drop,hRl,hvl]
    omega
  have hcp1:∀ty dc,(Builtin.copy_ #[86,86] ty #[.slice (some ⟨w.heap.size,i*3,none⟩) (n+1-i) dc,.slice (some ⟨vb,0,none⟩) 1 vc]).run Tryz.prog W1=.ok (goInt (Nat.min 1 (n+1-i))) (W1.setRow w.heap.size R1.toArray):=fun ty dc=>by
    have:=YI (P:=Tryz.prog) W1 86 86 ty 108 w.heap.size (i*3) (n+1-i) dc ⟨vb,0,none⟩ 1 vc 3 ROW.toArray 108 vs Tryz.underlying86 Tryz.sizeOf108 hrow (by rw [hvl,show Nat.min 1 (n+1-i)=1 by simp only [Nat.min_def];split<;>omega])
      (fun j v hj=>by
        rw [Addr.add_lit,Nat.zero_add,hcell W1 hb1 vb j hvw]
        have hlt:=(List.getElem?_eq_some_iff.1 hj).1
        exact Dq (w:=w) (l:=vs++junkv) hvblk (by rw [List.getElem?_append_left hlt];exact hj))
      (by simp only [List.size_toArray];rw [hRl,hvl];omega) hv1
    rw [this,hR1]
  obtain ⟨W2,hW2⟩:∃W2,W2=W1.setRow w.heap.size R1.toArray:=⟨_,rfl⟩
  have hrow2:W2.drew.heap[w.heap.size]? =some (.cells R1.toArray 108 (0,0)):=by rw [hW2];exact setRow_heap W1 w.heap.size _ _ _ _ hrow
  have hb2:Below w.heap.size w W2.drew:=by rw [hW2];exact (below_setRow hb1 (Nat.le_refl _) _).drew
  rw [←hW2] at hcp1
  obtain ⟨R2,hR2⟩:∃R2:List Value,R2=R1.take ((i+1)*3)++ds++R1.drop ((i+1)*3+ds.length):=⟨_,rfl⟩
  have hcp2:∀ty dc sc,(Builtin.copy_ #[86,86] ty #[.slice (some ⟨w.heap.size,(i+1)*3,none⟩) (n-i) dc,.slice (some ⟨b,i*3,none⟩) (n-i) sc]).run Tryz.prog W2.drew=.ok (goInt (Nat.min (n-i) (n-i))) (W2.drew.setRow w.heap.size R2.toArray):=fun ty dc sc=>by
    have:=YI (P:=Tryz.prog) W2.drew 86 86 ty 108 w.heap.size ((i+1)*3) (n-i) dc ⟨b,i*3,none⟩ (n-i) sc 3 R1.toArray 108 ds Tryz.underlying86 Tryz.sizeOf108 hrow2 (by rw [hdl,show Nat.min (n-i) (n-i)=n-i from Nat.min_self _])
      (fun j v hj=>by
        rw [hds,List.getElem?_drop] at hj
        rw [Addr.add_lit,hcell W2.drew hb2 b _ hbw]
        have hlt:=(List.getElem?_eq_some_iff.1 hj).1
        exact Dq (w:=w) (l:=us++junk) hblk (by rw [List.getElem?_append_left hlt];exact hj))
      (by simp only [List.size_toArray];rw [hR1l,hdl];omega) (fun u hu=>h1 u (List.mem_of_mem_drop (by rw [←hds];exact hu)))
    rw [this,hR2]
  have hb3:Below w.heap.size w (W2.drew.setRow w.heap.size R2.toArray):=below_setRow hb2 (Nat.le_refl _) _
  have hrow3:(W2.drew.setRow w.heap.size R2.toArray).heap[w.heap.size]? =some (.cells R2.toArray 108 (0,0)):=setRow_heap W2.drew w.heap.size _ _ _ _ hrow2
  have e1:R1.take ((i+1)*3)=us.take (i*3)++vs:=by
    rw [hR1,show (i+1)*3=(ROW.take (i*3)++vs).length by rw [List.length_append,List.length_take,hRl,hvl];omega,List.take_left,hROW]
  have hres:Hid (∃X:List Value,X.length=G*3-(n+1)*3∧R2=us.take (i*3)++vs++us.drop (i*3)++X):=by
    refine ⟨R1.drop ((i+1)*3+ds.length),by rw [List.length_drop,hR1l,hdl];omega,?_⟩
    rw [hR2,e1,hds]
  have B3:Hid (Below w.heap.size w (W2.drew.setRow w.heap.size R2.toArray)):=hb3
  have R3:Hid ((W2.drew.setRow w.heap.size R2.toArray).heap[w.heap.size]? =some (.cells R2.toArray 108 (0,0))):=hrow3
  have mixed0:=mixed
  have hz1:¬((i:Int)=(n:Int)):=by omega
  have hz3:(n:Int)<(n:Int)+1:=by omega
  have hw1:IntKind.i64.wrap ((i:Int)+1)=(i:Int)+1:=by rw [IntKind.wrap_i64];omega
  have hw2:IntKind.i64.wrap ((n:Int)+1)=(n:Int)+1:=by rw [IntKind.wrap_i64];omega
  have hw3:IntKind.i64.wrap ((n:Int)+1-(i:Int))=(n:Int)+1-(i:Int):=by rw [IntKind.wrap_i64];omega
  have hq1:(0:Int)≤(i:Int)+1:=by omega
  have hin:i≤n:=by omega
  have hq3:(i:Int)≤(n:Int):=by omega
  have hq4:(i:Int)≤(n:Int)+1:=by omega
  have hq5:(i:Int)+1≤(n:Int)+1:=by omega
  have hGi:¬(G=i):=by omega
  have hGim:¬(G=i+1):=by omega
  have hci:¬(n=i):=by omega
  have GL:Hid (G≤maxLen):=hG63
  have hG64:G≤9223372036854775807:=by unfold maxLen at hG63;omega
  have hq6:i≤G:=by omega
  have hq7:i+1≤G:=by omega
  clear hR1 hR2 hds hR1l hrow hrow2 hrow3 hb1 hb2 hb3 hblk hvblk hcell hold hROW hRl e1 hG hkk hik hW1 hG63 hW2
  go_enter Tryz.func145,Tryz.ntmps145
  go_wp2_with (first
    |(at_builtin;refine Lib.wpList_append_run _ rfl _ _ _ _ rfl _ _ rfl rfl _ _ (hrz _) ?_)
    |(at_builtin;refine T9 _ rfl _ _ 86 86 rfl _ _ rfl rfl (hcp1 _ _) ?_))
  go_region_law_o (refine U9 rfl _ _ 86 86 rfl _ _ (by simp [Act.eval,Act.put]) (by simp [Act.eval,Act.put]) (hcp2 _ _ _) ?_)
  go_wp2
  go_ret
  obtain ⟨X,hX1,hX2⟩:=hres.out
  exact ⟨G,X,rfl,GL.out,hGn,hX1,B3.out,by rw [←hX2];exact R3.out⟩
end
section
open Go.RowKit
def j1 (s:List Bool×Unit):Option (List Bool×Unit):=bif decide (s.1.length≤16777216) then some s else none
def GS:Ma:=⟨⟨[.c (.one (.b (.sl false .bool)))],[]⟩,[.ls .bool],⟨[.c (.one (.own 0))],[.row 4 .bool]⟩,[.ls .bool],j1⟩
def HS (s:List Int×Unit):Option (List Int×Unit):=bif decide (s.1.length≤16777216) then some s else none
def IS:Ma:=⟨⟨[.c (.one (.b (.sl false .int)))],[]⟩,[.ls .int],⟨[.c (.one (.own 0))],[.row 3 .int]⟩,[.ls .int],HS⟩
def JS (s:List En×Unit):Option (List En×Unit):=bif decide (s.1.length≤16777216) then some s else none
def KS:Ma:=⟨⟨[.c (.one (.b (.sl false .en)))],[]⟩,[.ls .en],⟨[.c (.one (.own 0))],[.row 153 .en]⟩,[.ls .en],JS⟩
theorem qZ:GC Tryz.prog 124 GS:=CS (τ:=.bool) rfl qO qP
theorem rA:GC Tryz.prog 125 IS:=CS (τ:=.int) rfl qQ qR
theorem rB:GC Tryz.prog 146 KS:=CS (τ:=.en) rfl qS qT
def Yy (s:Int×Int×List Pk×Unit):Option (List Pk×Unit):=bif decide (0≤s.1∧s.2.1=s.1+1∧s.1<(s.2.2.1.length:Int)∧s.2.2.1.length≤16777216) then some (s.2.2.1.take s.1.toNat++s.2.2.1.drop (s.1.toNat+1),()) else none
def MS:Ma:=⟨⟨[.c (.one (.own 0)),.c (.one (.b (.int .i64))),.c (.one (.b (.int .i64)))],[.row 112 .upk]⟩,[.int,.int,.ls .upk],⟨[.c (.one (.own 1))],[.dead,.row 112 .upk]⟩,[.ls .upk],Yy⟩
theorem rC:GC Tryz.prog 114 MS:=by
  intro s r hs ds os hf d h' hr w X β args hX hH hargs _
  obtain ⟨i,j,xs,_⟩:=s
  change Int at i
  change Int at j
  change List Pk at xs
  have hs:(bif decide (0≤i∧j=i+1∧i<(xs.length:Int)∧xs.length≤16777216) then some ((xs.take i.toNat++xs.drop (i.toNat+1),()):List Pk×Unit) else none)=some r:=hs
  cases hd:decide (0≤i∧j=i+1∧i<(xs.length:Int)∧xs.length≤16777216) with
  |false=>rw [hd] at hs;cases hs
  |true =>
  rw [hd] at hs
  injection hs with hs
  subst hs
  obtain ⟨hi0,hj,hil,hln⟩:=oT hd
  subst hj
  obtain ⟨k,rfl⟩:∃k:Nat,i=(k:Int):=⟨i.toNat,by omega⟩
  have hk:k<xs.length:=by omega
  have hf:some ([PV.own 0,PV.im (iI (k:Int)),PV.im (iI ((k:Int)+1))],[Ca.row 112 .upk xs])=some (ds,os):=hf
  injection hf with hf
  injection hf with hf1 hf2
  subst hf1 hf2
  have hr:some ([PV.own 1],[Ca.dead,Ca.row 112 .upk (xs.take (k:Int).toNat++xs.drop ((k:Int).toNat+1))])=some ([d],h'):=hr
  rw [Int.toNat_natCast] at hr
  injection hr with hr
  injection hr with hr1 hr2
  injection hr1 with hr1
  subst hr1 hr2
  obtain ⟨u,_,rfl,hu,hr⟩:=hargs.cons_inv
  obtain ⟨u2,_,rfl,hu2,hr⟩:=hr.cons_inv
  obtain ⟨u3,_,rfl,hu3,hnil⟩:=hr.cons_inv
  obtain rfl:=hnil.nil_inv
  obtain rfl:u2=.int .i64 (k:Int):=Th hu2
  obtain rfl:u3=.int .i64 ((k:Int)+1):=Th hu3
  obtain ⟨h0,hv,⟨_,_,_,rfl⟩,h2⟩:=hu
  obtain ⟨b,c,A,hb,hue,hA,hE⟩:=h2 112 .upk xs rfl
  obtain ⟨b',c',hb',hc0,hcm,hrow⟩:=hH.ok 0 _ rfl
  rw [hb] at hb'
  injection hb' with hb'
  injection hb' with e1 e2
  subst e1 e2
  rw [hue]
  have hc:0<c:=by
    rcases Nat.eq_zero_or_pos c with h|h
    ·have:=hc0 h;subst this;simp at hk
    ·exact h
  obtain ⟨us,junk,hblk,hF,hone,hlen⟩:=hrow hc
  obtain rfl:=hA hc
  have hul:us.length=xs.length*4:=by rw [hF.1,Gb];rfl
  have hlen:(us++junk).length=c*4:=hlen
  have hnc:xs.length≤c:=by rw [List.length_append] at hlen;omega
  have hbl:b<w.heap.size:=(Array.getElem?_eq_some_iff.1 hblk).1
  have hlb:Da [Ca.row 112 .upk xs] β b:=⟨0,_,c,rfl,hc,hb⟩
  refine (qV b c xs.length k us junk w hblk hul hlen hk hnc (by unfold maxLen at hcm;omega) hone).mono ?_
  rintro ex w' ⟨rfl,qd,Z,hZ,rfl⟩
  have Ye:(xs.take k++xs.drop (k+1)).length=xs.length-1:=by rw [List.length_append,List.length_take,List.length_drop];omega
  have hFy:F2 (Ri w (Da [Ca.row 112 .upk xs] β) X) (Sa .upk (xs.take k++xs.drop (k+1))) (us.take (k*4)++us.drop ((k+1)*4)):=by
    rw [Cp]
    have e1:Sa .upk (xs.take k)=(Sa .upk xs).take (k*4):=by
      have:=Lx .upk xs 0 k (by omega)
      simpa [sz] using this.symm
    have e2:Sa .upk (xs.drop (k+1))=(Sa .upk xs).drop ((k+1)*4):=by
      have:=Lx .upk xs (k+1) (xs.length-(k+1)) (by omega)
      rw [List.take_of_length_le (by rw [List.length_drop,Gb];simp only [sz];omega),List.take_of_length_le (by rw [List.length_drop];exact Nat.le_refl _)] at this
      simpa [sz] using this.symm
    rw [e1,e2]
    have p1:=hF.part 0 (k*4)
    simp only [List.drop_zero] at p1
    have p2:=hF.part ((k+1)*4) (us.length)
    rw [List.take_of_length_le (by rw [List.length_drop,←hF.1];omega),List.take_of_length_le (by rw [List.length_drop];omega)] at p2
    exact p1.app p2
  obtain ⟨q1,q2,q3⟩:=Xy (h:=[Ca.row 112 .upk xs]) (e:=112) (τ:=.upk) (ys:=xs.take k++xs.drop (k+1)) (g:=b) (c:=c) (A:=some ⟨b,0,none⟩) (w':=(w.drewN qd).setRow b (us.take (k*4)++us.drop ((k+1)*4)++Z).toArray) hH hX rfl rfl rfl (by simp [World.setRow,World.drewN]) (fun j hj hn=>setRow_other (w.drewN qd) b j _ (by rintro rfl;exact hn hlb)) (.inl hlb) (fun h=>by omega) hcm (fun _=>⟨_,Z,setRow_heap (w.drewN qd) b _ _ _ _ hblk,hFy,by
    rw [List.length_append,hZ,hlen,hFy.1,Gb,Ye]
    have:(xs.length-1)*sz .upk=(xs.length-1)*4:=rfl
    rw [this]
    have:c*sz .upk=c*4:=rfl
    rw [this]
    omega⟩) (fun _=>rfl) (fun q=>if q<k*4 then (0,q) else (0,q+4)) (fun us' junk' _ hcell hl' q σ u m hz hs=>by
    rw [setRow_heap (w.drewN qd) b _ _ _ _ hblk] at hcell
    injection hcell with hcell;injection hcell with e1
    have e1:=congrArg Array.toList e1
    simp only [List.toList_toArray] at e1
    obtain rfl:=Uf e1 (by rw [hl',hFy.1,Gb])
    rcases hz with ⟨_,z1,z2,z3,z4⟩|⟨z,_⟩
    ·refine ⟨z1,?_⟩
     rw [z3]
     have hmod:q.1 % 4=3:=z4
     have ht:(us.take (k*4)).length=k*4:=by rw [List.length_take];omega
     rw [List.getElem?_append,ht] at z2
     split at z2
     ·rename_i hlt
      rw [if_pos hlt]
      rw [List.getElem?_take,if_pos hlt] at z2
      exact ⟨_,.upk,xs,b,c,us,junk,rfl,hb,hc,hblk,hul,.inl ⟨rfl,rfl,z2,rfl,hmod⟩⟩
     ·rename_i hlt
      rw [if_neg hlt]
      rw [List.getElem?_drop,show (k+1)*4+(q.1-k*4)=q.1+4 by omega] at z2
      exact ⟨_,.upk,xs,b,c,us,junk,rfl,hb,hc,hblk,hul,.inl ⟨rfl,rfl,z2,rfl,by show (q.1+4) % 4=3;omega⟩⟩
    ·cases z) (fun q q' _ _ h=>by
    try dsimp only at h
    split at h<;>split at h<;>(have:=(Prod.mk.inj h).2;omega))
  rw [Ye] at q3
  exact ⟨_,_,rfl,q1,q2,q3⟩
def ZI:List Ls→Option Ls
  |[v]=>some v
  |_=>none
def Fq (s:Int×List Ls×List Ls×Unit):Option (List Ls×Unit):=match ZI s.2.2.1 with
  |some v=>bif decide (0≤s.1∧s.1≤(s.2.1.length:Int)∧s.2.1.length≤1048576) then some (s.2.1.take s.1.toNat++v::s.2.1.drop s.1.toNat,()) else none
  |none=>none
def NS:Ma:=⟨⟨[.c (.one (.own 0)),.c (.one (.b (.int .i64))),.c (.one (.own 1))],[.row 108 .uls,.row 108 .uls]⟩,[.int,.ls .uls,.ls .uls],⟨[.c (.one (.own 2))],[.dead,.dead,.row 108 .uls]⟩,[.ls .uls],Fq⟩
theorem rD:GC Tryz.prog 145 NS:=by
  intro s r hs ds os hf d h' hr w X β args hX hH hargs _
  obtain ⟨i,xs,vs,_⟩:=s
  change Int at i
  change List Ls at xs
  change List Ls at vs
  have hs:(match ZI vs with|some v=>(bif decide (0≤i∧i≤(xs.length:Int)∧xs.length≤1048576) then some ((xs.take i.toNat++v::xs.drop i.toNat,()):List Ls×Unit) else none)|none=>none)=some r:=hs
  split at hs
  case h_2=>cases hs
  rename_i v hv
  obtain rfl:vs=[v]:=by
    unfold ZI at hv
    split at hv
    ·injection hv with hv;subst hv;rfl
    ·cases hv
  have hs:(bif decide (0≤i∧i≤(xs.length:Int)∧xs.length≤1048576) then some ((xs.take i.toNat++v::xs.drop i.toNat,()):List Ls×Unit) else none)=some r:=hs
  cases hd:decide (0≤i∧i≤(xs.length:Int)∧xs.length≤1048576) with
  |false=>rw [hd] at hs;cases hs
  |true =>
  rw [hd] at hs
  injection hs with hs
  subst hs
  obtain ⟨hi0,hil,hln⟩:=oT hd
  obtain ⟨k,rfl⟩:∃k:Nat,i=(k:Int):=⟨i.toNat,by omega⟩
  have hk:k≤xs.length:=by omega
  have hf:some ([PV.own 0,PV.im (iI (k:Int)),PV.own 1],[Ca.row 108 .uls xs,Ca.row 108 .uls [v]])=some (ds,os):=hf
  injection hf with hf
  injection hf with hf1 hf2
  subst hf1 hf2
  have hr:some ([PV.own 2],[Ca.dead,Ca.dead,Ca.row 108 .uls (xs.take (k:Int).toNat++v::xs.drop (k:Int).toNat)])=some ([d],h'):=hr
  rw [Int.toNat_natCast] at hr
  injection hr with hr
  injection hr with hr1 hr2
  injection hr1 with hr1
  subst hr1 hr2
  obtain ⟨u,_,rfl,hu,hr⟩:=hargs.cons_inv
  obtain ⟨u2,_,rfl,hu2,hr⟩:=hr.cons_inv
  obtain ⟨u3,_,rfl,hu3,hnil⟩:=hr.cons_inv
  obtain rfl:=hnil.nil_inv
  obtain rfl:u2=.int .i64 (k:Int):=Th hu2
  obtain ⟨h0,hvv,⟨_,_,_,rfl⟩,h2⟩:=hu
  obtain ⟨b,c,A,hb,hue,hA,hE⟩:=h2 108 .uls xs rfl
  obtain ⟨b',c',hb',hc0,hcm,hrow⟩:=hH.ok 0 _ rfl
  rw [hb] at hb'
  injection hb' with hb'
  injection hb' with e1 e2
  subst e1 e2
  obtain ⟨g0,gvv,⟨_,_,_,rfl⟩,g2⟩:=hu3
  obtain ⟨vb,vc,A3,gb,gue,gA,gE⟩:=g2 108 .uls [v] rfl
  obtain ⟨vb',vc',gb',gc0,gcm,grow⟩:=hH.ok 1 _ rfl
  rw [gb] at gb'
  injection gb' with gb'
  injection gb' with e1 e2
  subst e1 e2
  rw [hue,gue]
  have gc:0<vc:=by
    rcases Nat.eq_zero_or_pos vc with h|h
    ·have:=gc0 h;cases this
    ·exact h
  obtain ⟨us,junkv,vblk,vF,vone,vlen⟩:=grow gc
  obtain rfl:=gA gc
  have hvl:us.length=3:=by rw [vF.1,Gb];rfl
  have hlv:Da [Ca.row 108 .uls xs,Ca.row 108 .uls [v]] β vb:=⟨1,_,vc,rfl,gc,gb⟩
  have hlb:0<c→Da [Ca.row 108 .uls xs,Ca.row 108 .uls [v]] β b:=fun hc=>⟨0,_,c,rfl,hc,hb⟩
  have Ye:(xs.take k++v::xs.drop k).length=xs.length+1:=by simp;omega
  have flt1:Sa .uls (xs.take k++v::xs.drop k)=(Sa .uls xs).take (k*3)++Sa .uls [v]++(Sa .uls xs).drop (k*3):=by
    have e1:Sa .uls (xs.take k)=(Sa .uls xs).take (k*3):=by
      have:=Lx .uls xs 0 k (by omega)
      simpa [sz] using this.symm
    have e2:Sa .uls (xs.drop k)=(Sa .uls xs).drop (k*3):=by
      have:=Lx .uls xs k (xs.length-k) (by omega)
      rw [List.take_of_length_le (by rw [List.length_drop,Gb];simp only [sz];omega),List.take_of_length_le (by rw [List.length_drop];exact Nat.le_refl _)] at this
      simpa [sz] using this.symm
    rw [Cp,show v::xs.drop k=[v]++xs.drop k from rfl,Cp,e1,e2,List.append_assoc]
  rcases Nat.lt_or_ge k xs.length with hkl|hkl
  ·have hc:0<c:=by
     rcases Nat.eq_zero_or_pos c with h|h
     ·have:=hc0 h;subst this;simp at hkl
     ·exact h
   obtain ⟨ws,junk,hblk,hF,hone,hlen⟩:=hrow hc
   obtain rfl:=hA hc
   have hul:ws.length=xs.length*3:=by rw [hF.1,Gb];rfl
   have hlen:(ws++junk).length=c*3:=hlen
   have hnc:xs.length≤c:=by rw [List.length_append] at hlen;omega
   have hne:vb≠b:=by
     rintro rfl
     have:=hH.inj 0 1 _ _ vb c vc rfl rfl hc gc hb gb
     cases this
   have hFy:F2 (Ri w (Da [Ca.row 108 .uls xs,Ca.row 108 .uls [v]] β) X) (Sa .uls (xs.take k++v::xs.drop k)) (ws.take (k*3)++us++ws.drop (k*3)):=by
     rw [flt1]
     have p1:=hF.part 0 (k*3)
     simp only [List.drop_zero] at p1
     have p2:=hF.part (k*3) ws.length
     rw [List.take_of_length_le (by rw [List.length_drop,←hF.1];omega),List.take_of_length_le (by rw [List.length_drop];omega)] at p2
     exact (p1.app vF).app p2
   have hyl:(ws.take (k*3)++us++ws.drop (k*3)).length=(xs.length+1)*3:=by
     rw [hFy.1,Gb,Ye];rfl
   have from2:∀{w2:World} {q:Nat×Nat} {σ:Ty} {u:Value},PN w2 .uls (ws.take (k*3)++us++ws.drop (k*3)) q σ u→q.2=0∧Va w [Ca.row 108 .uls xs,Ca.row 108 .uls [v]] β (if q.1<k*3 then (0,q.1) else if q.1<k*3+3 then (1,q.1-k*3) else (0,q.1-3)).1 ((if q.1<k*3 then (0,q.1) else if q.1<k*3+3 then (1,q.1-k*3) else (0,q.1-3)).2,0) σ u:=fun {w2 q σ u} hz=>by
     rcases hz with ⟨_,z1,z2,z3,z4⟩|⟨z,_⟩
     ·refine ⟨z1,?_⟩
      rw [z3]
      have hmod:q.1 % 3=2:=z4
      have ht:(ws.take (k*3)).length=k*3:=by rw [List.length_take];omega
      rw [List.append_assoc,List.getElem?_append,ht] at z2
      split at z2
      ·rename_i hlt
       rw [if_pos hlt]
       rw [List.getElem?_take,if_pos hlt] at z2
       exact ⟨_,.uls,xs,b,c,ws,junk,rfl,hb,hc,hblk,hul,.inl ⟨rfl,rfl,z2,rfl,hmod⟩⟩
      ·rename_i hlt
       rw [if_neg hlt]
       rw [List.getElem?_append,hvl] at z2
       split at z2
       ·rename_i hlt2
        rw [if_pos (by omega)]
        exact ⟨_,.uls,[v],vb,vc,us,junkv,rfl,gb,gc,vblk,hvl,.inl ⟨rfl,rfl,z2,rfl,by show (q.1-k*3) % 3=2;omega⟩⟩
       ·rename_i hlt2
        rw [if_neg (by omega)]
        rw [List.getElem?_drop,show k*3+(q.1-k*3-3)=q.1-3 by omega] at z2
        exact ⟨_,.uls,xs,b,c,ws,junk,rfl,hb,hc,hblk,hul,.inl ⟨rfl,rfl,z2,rfl,by show (q.1-3) % 3=2;omega⟩⟩
     ·cases z
   rcases Nat.lt_or_ge xs.length c with hroom|hroom
   ·refine (qX b c xs.length k vb vc ws junk us junkv 108 w hblk hul hlen hkl hroom (by unfold maxLen at hcm;omega) hone vblk hvl vone hne).mono ?_
    rintro ex w' ⟨rfl,qd,Z,hZ,rfl⟩
    obtain ⟨q1,q2,q3⟩:=Xy (h:=[Ca.row 108 .uls xs,Ca.row 108 .uls [v]]) (e:=108) (τ:=.uls) (ys:=xs.take k++v::xs.drop k) (g:=b) (c:=c) (A:=some ⟨b,0,none⟩) (w':=(w.drewN qd).setRow b (ws.take (k*3)++us++ws.drop (k*3)++Z).toArray) hH hX rfl rfl rfl (by simp [World.setRow,World.drewN]) (fun j hj hn=>setRow_other (w.drewN qd) b j _ (by rintro rfl;exact hn (hlb hc))) (.inl (hlb hc)) (fun h=>by omega) hcm (fun _=>⟨_,Z,setRow_heap (w.drewN qd) b _ _ _ _ hblk,hFy,by
      rw [List.length_append,hZ,hyl]
      have:c*sz .uls=c*3:=rfl
      rw [this]
      omega⟩) (fun _=>rfl) (fun q=>if q<k*3 then (0,q) else if q<k*3+3 then (1,q-k*3) else (0,q-3)) (fun us' junk' _ hcell hl' q σ u m hz hs=>by
      rw [setRow_heap (w.drewN qd) b _ _ _ _ hblk] at hcell
      injection hcell with hcell;injection hcell with e1
      have e1:=congrArg Array.toList e1
      simp only [List.toList_toArray] at e1
      obtain rfl:=Uf e1 (by rw [hl',hFy.1,Gb])
      exact from2 hz) (fun q q' _ _ h=>by
      try dsimp only at h
      split at h<;>split at h<;>(try split at h)<;>(try split at h)<;>(have h1:=(Prod.mk.inj h).1;have h2:=(Prod.mk.inj h).2;omega))
    rw [Ye] at q3
    exact ⟨_,_,rfl,q1,q2,q3⟩
   ·obtain rfl:c=xs.length:=by omega
    refine (qY b xs.length k vb vc ws junk us junkv 108 w hblk hul hkl hln hone vblk hvl vone).mono ?_
    rintro ex w' ⟨G,Z,rfl,hG,hGn,hZ,hbl,hh⟩
    obtain ⟨q1,q2,q3⟩:=Xy (h:=[Ca.row 108 .uls xs,Ca.row 108 .uls [v]]) (e:=108) (τ:=.uls) (ys:=xs.take k++v::xs.drop k) (g:=w.heap.size) (c:=G) (A:=some ⟨w.heap.size,0,none⟩) (w':=w') hH hX hbl.os hbl.tape hbl.output hbl.size (fun j hj _=>hbl.block j hj) (.inr (Nat.le_refl _)) (fun h=>by omega) hG (fun _=>⟨_,Z,hh,hFy,by
      rw [List.length_append,hZ,hyl]
      have:G*sz .uls=G*3:=rfl
      rw [this]
      omega⟩) (fun _=>rfl) (fun q=>if q<k*3 then (0,q) else if q<k*3+3 then (1,q-k*3) else (0,q-3)) (fun us' junk' _ hcell hl' q σ u m hz hs=>by
      rw [hh] at hcell
      injection hcell with hcell;injection hcell with e1
      have e1:=congrArg Array.toList e1
      simp only [List.toList_toArray] at e1
      obtain rfl:=Uf e1 (by rw [hl',hFy.1,Gb])
      exact from2 hz) (fun q q' _ _ h=>by
      try dsimp only at h
      split at h<;>split at h<;>(try split at h)<;>(try split at h)<;>(have h1:=(Prod.mk.inj h).1;have h2:=(Prod.mk.inj h).2;omega))
    rw [Ye] at q3
    exact ⟨_,_,rfl,q1,q2,q3⟩
  ·obtain rfl:k=xs.length:=by omega
   have hxc:xs.length≤c:=by
     rcases Nat.eq_zero_or_pos c with h|h
     ·have:=hc0 h;subst this;exact Nat.zero_le _
     ·obtain ⟨ws,junk,hblk,hF,hone,hlen⟩:=hrow h
      have hul:ws.length=xs.length*3:=by rw [hF.1,Gb];rfl
      have hlen:(ws++junk).length=c*3:=hlen
      rw [List.length_append] at hlen;omega
   have e0:xs.take xs.length++v::xs.drop xs.length=xs++[v]:=by simp
   rw [e0] at Ye ⊢
   have hsrc:Un w (Da [Ca.row 108 .uls xs,Ca.row 108 .uls [v]] β) X .uls [v] (.slice (some ⟨vb,0,none⟩) [v].length vc):=⟨_,_,rfl,fun _=>⟨vb,0,us,rfl,fun j u hj=>by
     rw [Nat.zero_add]
     have hlt:=(List.getElem?_eq_some_iff.1 hj).1
     exact Dq (w:=w) (l:=us++junkv) vblk (by rw [List.getElem?_append_left hlt];exact hj),vF⟩⟩
   have happ:=fun ty=>qN (ty:=ty) (Ld 86 _ rfl) (τ:=.uls) rfl (h:=[Ca.row 108 .uls xs,Ca.row 108 .uls [v]]) (β:=β) (X:=X) (w:=w) (A:=A) (b:=b) (c:=c) (xs:=xs) (ys:=[v]) hc0 hA hcm (fun h=>by
     obtain ⟨ws,junk,q1,q2,q3,q4⟩:=hrow h
     exact ⟨ws,junk,q1,q2,q4⟩) hsrc (by simp) (by simp;omega)
   obtain ⟨g,c2,_,junk,w',hrun,hg,hcp,hcm2,hh,hFy,hl,hoth,o1,o2,o3,o4,us0,news,rfl,u2,u3,u4,u5⟩:=happ 0
   have hrun':∀ty,(Builtin.append_ #[86,86] ty #[.slice A xs.length c,.slice (some ⟨vb,0,none⟩) 1 vc]).run Tryz.prog w=.ok (.slice (some ⟨g,0,none⟩) (xs++[v]).length c2) w':=fun ty=>hrun
   refine (qW A xs.length c vb vc w w' _ hrun' hxc (by unfold maxLen at hcm;omega)).mono ?_
   rintro ex w2 ⟨rfl,rfl⟩
   obtain ⟨q1,q2,q3⟩:=Xy (h:=[Ca.row 108 .uls xs,Ca.row 108 .uls [v]]) (e:=108) (τ:=.uls) (ys:=xs++[v]) (g:=g) (c:=c2) (A:=some ⟨g,0,none⟩) (w':=w2) hH hX o1 o2 o3 o4 (fun j hj hn=>hoth j hj (fun hc=>by rintro rfl;exact hn (hlb hc))) (hg.imp (fun h=>by rw [h.2];exact hlb h.1) id) (fun h=>by omega) hcm2 (fun _=>⟨us0++news,junk,hh,hFy,hl⟩) (fun _=>rfl) (fun q=>if q<xs.length*3 then (0,q) else (1,q-xs.length*3)) (fun us' junk' _ hcell hl' q σ u m hz hs=>by
     rw [hh] at hcell
     injection hcell with hcell;injection hcell with e1
     have e1:=congrArg Array.toList e1
     simp only [List.toList_toArray] at e1
     have u2:us0.length=xs.length*3:=u2
     have u4:news.length=3:=u4
     obtain rfl:=Uf e1 (by rw [hl',hFy.1,Gb])
     rcases hz with ⟨_,z1,z2,z3,z4⟩|⟨z,_⟩
     ·refine ⟨z1,?_⟩
      rw [z3]
      have hmod:q.1 % 3=2:=z4
      rw [List.getElem?_append,u2] at z2
      split at z2
      ·rename_i hlt
       rw [if_pos hlt]
       rcases u3 with rfl|⟨junk0,u6,u7⟩
       ·simp at z2
       ·exact ⟨_,.uls,xs,b,c,us0,junk0,rfl,hb,u6,u7,u2,.inl ⟨rfl,rfl,z2,rfl,hmod⟩⟩
      ·rename_i hlt
       rw [if_neg hlt]
       have hq:=(List.getElem?_eq_some_iff.1 z2).1
       have h1:=u5 vb 0 _ _ rfl _ _ z2
       rw [Nat.zero_add] at h1
       have h2:=Og vblk (List.getElem?_eq_getElem (show q.1-xs.length*3<us.length by omega))
       rw [h2] at h1
       exact ⟨_,.uls,[v],vb,vc,us,junkv,rfl,gb,gc,vblk,hvl,.inl ⟨rfl,rfl,by rw [List.getElem?_eq_getElem (show q.1-xs.length*3<us.length by omega)];exact h1,rfl,by show (q.1-xs.length*3) % 3=2;omega⟩⟩
     ·cases z) (fun q q' _ _ h=>by
     try dsimp only at h
     split at h<;>split at h<;>(have h1:=(Prod.mk.inj h).1;have h2:=(Prod.mk.inj h).2;omega))
   exact ⟨_,_,rfl,q1,q2,q3⟩
end
section
open Go.RowKit
abbrev Y0:=Int×List Lk×List Bool×List Int×List (List Ls)×List Pk×Unit
abbrev Y1:=Int×List Lk×List Bool×List Int×List (List Ls)×List Pk×Int×List Lk×List Bool×List Int×List (List Ls)×List Pk×Y0
abbrev Y2:=Int×Unit
abbrev Y3:=Int×Int×List En×Unit
abbrev Y4:=Int×List Lk×List Bool×List Int×List (List Ls)×List Pk×List Ls×Unit
abbrev Y5:=Int×List Lk×Unit
abbrev Y6:=Bool×Unit
abbrev Y7:=Int×List Lk×List Bool×List Int×List (List Ls)×List Pk×Y3
abbrev Y8:=List Ls×Unit
abbrev Y9:=Int×List Lk×List Bool×List Int×List (List Ls)×List Pk×Y0
abbrev AJ:=Int×Int×Int×Int×List Lk×List Bool×List Int×List (List Ls)×Int×Int×List En×List Int×List Pk×Unit
abbrev Yb:=Int×Y2
abbrev Wv:=List Lk×Int×Int×Int×Int×List Lk×List Lk×Unit
abbrev Yf:=List Int×Unit
abbrev BJ:=Int×List Lk×List Bool×List Int×List (List Ls)×List Pk×Yb
abbrev OS:=Int×Int×List Lk×List Bool×List Int×List (List Ls)×Int×Int×List Pk×List En×Unit
def CJ (s:(Int×Int×Yb)):Option (Int×Y6):=(bif decide (s.2.2.2.1=s.1) then some (s.2.1,true,()) else (bif decide (s.2.2.2.1=s.2.1) then some (s.1,true,()) else some (0,false,())))
def Pi (s:(Int×Yb)):Option Y6:=(bif decide (s.2.1≤s.1) then some (decide (s.1≤s.2.2.1),()) else some (false,()))
def Vg (s:(Int×Yb)):Option Y6:=(bif decide (s.2.1≤s.1) then some (decide (s.1≤s.2.2.1),()) else some (false,()))
def DJ (s:(Int×Int×Int×Y5)):Option ((Int×Int×Int×Y5)⊕((Unit)⊕Y2)):=(bif decide (s.2.2.1<nI (List.length s.2.2.2.2.1)) then (bif Ea s.2.2.1 (List.length s.2.2.2.2.1) then (bif decide ((Ba .lk s.2.2.2.2.1 (Int.toNat s.2.2.1)).a=min s.1 s.2.1) then (bif Ea s.2.2.1 (List.length s.2.2.2.2.1) then (bif decide ((Ba .lk s.2.2.2.2.1 (Int.toNat s.2.2.1)).b=max s.1 s.2.1) then some (Sum.inr (Sum.inr (s.2.2.1,()))) else some (Sum.inl (s.1,s.2.1,wrap64 (s.2.2.1+1),s.2.2.2))) else none) else some (Sum.inl (s.1,s.2.1,wrap64 (s.2.2.1+1),s.2.2.2))) else none) else some (Sum.inr (Sum.inl ())))
def Xv (s:(Int×List Lk×Yb)):Option Y2:=(lp DJ Fa (s.2.2.1,s.2.2.2.1,0,s.1,s.2.1,())).bind fun r0=>(match r0 with| .inl _=>some ((-(1)),())| .inr y1=>some (y1.1,()))
def EJ (s:(Int×Y5)):Option ((Int×Y5)⊕(Y5⊕Y6)):=(bif decide (s.1<nI (List.length s.2.2.1)) then (bif Ea s.1 (List.length s.2.2.1) then (Vg ((Ba .lk s.2.2.1 (Int.toNat s.1)).a,0,wrap64 (s.2.1-1),())).bind fun r0=>(bif (!r0.1) then some (Sum.inr (Sum.inr (false,()))) else (Vg ((Ba .lk s.2.2.1 (Int.toNat s.1)).b,wrap64 ((Ba .lk s.2.2.1 (Int.toNat s.1)).a+(1:Int)),wrap64 (s.2.1-1),())).bind fun r1=>(bif (!r1.1) then some (Sum.inr (Sum.inr (false,()))) else (Vg ((Ba .lk s.2.2.1 (Int.toNat s.1)).c,1,20,())).bind fun r2=>(bif (!r2.1) then some (Sum.inr (Sum.inr (false,()))) else (bif decide (0<s.1) then (bif Ea (wrap64 (s.1-1)) (List.length s.2.2.1) then (bif decide ((Ba .lk s.2.2.1 (Int.toNat s.1)).a<(Ba .lk s.2.2.1 (Int.toNat (wrap64 (s.1-1)))).a) then some (Sum.inr (Sum.inr (false,()))) else (bif Ea (wrap64 (s.1-1)) (List.length s.2.2.1) then (bif decide ((Ba .lk s.2.2.1 (Int.toNat (wrap64 (s.1-1)))).a=(Ba .lk s.2.2.1 (Int.toNat s.1)).a) then (bif Ea (wrap64 (s.1-1)) (List.length s.2.2.1) then (bif decide ((Ba .lk s.2.2.1 (Int.toNat s.1)).b≤(Ba .lk s.2.2.1 (Int.toNat (wrap64 (s.1-1)))).b) then some (Sum.inr (Sum.inr (false,()))) else some (Sum.inl (wrap64 (s.1+1),s.2))) else none) else some (Sum.inl (wrap64 (s.1+1),s.2))) else none)) else none) else some (Sum.inl (wrap64 (s.1+1),s.2)))))) else none) else some (Sum.inr (Sum.inl s.2)))
def Zy (s:Y5):Option Y6:=(lp EJ Fa (0,s)).bind fun r0=>(match r0 with| .inl x1=>(Vg (x1.1,1,8,())).bind fun r2=>(bif r2.1 then some (decide (nI (List.length x1.2.1)≤14),()) else some (false,()))| .inr y1=>some (y1.1,()))
def FJ (s:(List Lk×Int×Int×Y5)):Option ((List Lk×Int×Int×Y5)⊕((Unit)⊕Y6)):=(bif decide (s.2.2.1<s.2.1) then (bif Ea s.2.2.1 (List.length s.1) then (bif decide ((Ba .lk s.1 (Int.toNat s.2.2.1)).a<(0:Int)) then some (Sum.inr (Sum.inr (false,()))) else (bif decide ((Ba .lk s.1 (Int.toNat s.2.2.1)).b≤(Ba .lk s.1 (Int.toNat s.2.2.1)).a) then some (Sum.inr (Sum.inr (false,()))) else (bif decide (s.2.2.2.1≤(Ba .lk s.1 (Int.toNat s.2.2.1)).b) then some (Sum.inr (Sum.inr (false,()))) else (Pi ((Ba .lk s.1 (Int.toNat s.2.2.1)).c,1,20,())).bind fun r0=>(bif (!r0.1) then some (Sum.inr (Sum.inr (false,()))) else (bif decide (0<s.2.2.1) then (bif Ea (wrap64 (s.2.2.1-1)) (List.length s.2.2.2.2.1) then (bif decide ((Ba .lk s.1 (Int.toNat s.2.2.1)).a<(Ba .lk s.2.2.2.2.1 (Int.toNat (wrap64 (s.2.2.1-1)))).a) then some (Sum.inr (Sum.inr (false,()))) else (bif Ea (wrap64 (s.2.2.1-1)) (List.length s.2.2.2.2.1) then (bif decide ((Ba .lk s.2.2.2.2.1 (Int.toNat (wrap64 (s.2.2.1-1)))).a=(Ba .lk s.1 (Int.toNat s.2.2.1)).a) then (bif Ea (wrap64 (s.2.2.1-1)) (List.length s.2.2.2.2.1) then (bif decide ((Ba .lk s.1 (Int.toNat s.2.2.1)).b≤(Ba .lk s.2.2.2.2.1 (Int.toNat (wrap64 (s.2.2.1-1)))).b) then some (Sum.inr (Sum.inr (false,()))) else some (Sum.inl (s.1,s.2.1,wrap64 (s.2.2.1+1),s.2.2.2))) else none) else some (Sum.inl (s.1,s.2.1,wrap64 (s.2.2.1+1),s.2.2.2))) else none)) else none) else some (Sum.inl (s.1,s.2.1,wrap64 (s.2.2.1+1),s.2.2.2))))))) else none) else some (Sum.inr (Sum.inl ())))
def GJ (s:Y5):Option Y6:=(Pi (s.1,1,8,())).bind fun r0=>(bif (!r0.1) then some (false,()) else (bif decide (14<nI (List.length s.2.1)) then some (false,()) else (lp FJ Fa (s.2.1,nI (List.length s.2.1),0,s)).bind fun r1=>(match r1 with| .inl _=>some (true,())| .inr y2=>some (y2.1,()))))
def HJ (s:(Int×List Lk×Int×Int×Yf)):Option ((Int×List Lk×Int×Int×Yf)⊕(Yf⊕Unit)):=(bif decide (s.2.2.2.1<s.2.2.1) then (bif Ea s.2.2.2.1 (List.length s.2.1) then (CJ ((Ba .lk s.2.1 (Int.toNat s.2.2.2.1)).a,(Ba .lk s.2.1 (Int.toNat s.2.2.2.1)).b,(Ba .lk s.2.1 (Int.toNat s.2.2.2.1)).c,s.1,())).bind fun r0=>(bif r0.2.1 then (bif decide ((List.length s.2.2.2.2.1+List.length [r0.1])≤(33554432:Nat)) then some (Sum.inl (s.1,s.2.1,s.2.2.1,wrap64 (s.2.2.2.1+1),(s.2.2.2.2.1++[r0.1]),())) else none) else some (Sum.inl (s.1,s.2.1,s.2.2.1,wrap64 (s.2.2.2.1+1),s.2.2.2.2))) else none) else some (Sum.inr (Sum.inl s.2.2.2.2)))
def Yv (s:(Int×List Lk×Y2)):Option Yf:=(lp HJ Fa (s.2.2.1,s.2.1,nI (List.length s.2.1),0,([]:List Int),())).bind fun r0=>(match r0 with| .inl x1=>(XI x1).bind fun r2=>some (r2.1,())| .inr _=>none)
def Az (s:(Int×Int×Int×List Lk×Yf)):Option ((Int×Int×Int×List Lk×Yf)⊕(Yf⊕Unit)):=(bif decide (s.2.1<8) then (Zy (s.2.2.1,s.2.2.2.1,())).bind fun r0=>(bif r0.1 then (Xv (s.2.2.1,s.2.2.2.1,s.1,s.2.1,())).bind fun r1=>(bif decide (0≤r1.1) then (bif decide ((List.length s.2.2.2.2.1+List.length [s.2.1])≤(33554432:Nat)) then some (Sum.inl (s.1,wrap64 (s.2.1+1),s.2.2.1,s.2.2.2.1,(s.2.2.2.2.1++[s.2.1]),())) else none) else some (Sum.inl (s.1,wrap64 (s.2.1+1),s.2.2))) else some (Sum.inr (Sum.inl s.2.2.2.2))) else some (Sum.inr (Sum.inl s.2.2.2.2)))
def Bz (s:(Int×List Lk×Y2)):Option Yf:=(lp Az Fa (s.2.2.1,0,s.1,s.2.1,([]:List Int),())).bind fun r0=>(match r0 with| .inl x1=>some x1| .inr _=>none)
def IJ (s:(Int×Int×Int×Yb)):Option Y6:=(bif decide (s.1=min s.2.2.2.1 s.2.2.2.2.1) then some (decide (s.2.1=max s.2.2.2.1 s.2.2.2.2.1),()) else some (false,()))
def JJ (s:(List Lk×Int×Int×Yb)):Option ((List Lk×Int×Int×Yb)⊕((Unit)⊕Y2)):=(bif decide (s.2.2.2.2.1<s.2.2.2.1) then (bif Ea s.2.2.2.2.1 (List.length s.1) then (IJ ((Ba .lk s.1 (Int.toNat s.2.2.2.2.1)).a,(Ba .lk s.1 (Int.toNat s.2.2.2.2.1)).b,(Ba .lk s.1 (Int.toNat s.2.2.2.2.1)).c,s.2.1,s.2.2.1,())).bind fun r0=>(bif r0.1 then some (Sum.inr (Sum.inr s.2.2.2.2)) else some (Sum.inl (s.1,s.2.1,s.2.2.1,s.2.2.2.1,wrap64 (s.2.2.2.2.1+1),()))) else none) else some (Sum.inr (Sum.inl ())))
def PS (s:(List Lk×Yb)):Option Y2:=(lp JJ Fa (s.1,s.2.1,s.2.2.1,nI (List.length s.1),0,())).bind fun r0=>(match r0 with| .inl _=>some ((-(1)),())| .inr y1=>some (y1.1,()))
def Cz (s:(Int×List Lk×Yb)):Option Y2:=(PS s.2).bind fun r0=>some r0
end
end Go.Proofs.YtknkhdjhongklaaGreat
section
namespace Go.Proofs.YtknkhdjhongklaaGreat
open Go.RowKit
theorem Kg (zs:List Int) (i:Nat):Ba .int zs i=iz zs i:=by
  induction zs generalizing i with
  |nil=>rfl
  |cons z r ih=>cases i with
   |zero=>rfl
   |succ i=>exact (ih i).trans (by simp [iz])
theorem Lg (ls:List Lk) (i:Nat):Ba .lk ls i=lk ls i:=by
  induction ls generalizing i with
  |nil=>rfl
  |cons z r ih=>cases i with
   |zero=>rfl
   |succ i=>exact (ih i).trans (by simp [lk])
abbrev Wa {α:Type} (l:List α):Prop:=l.length≤4611686018427387904
theorem Gq (a b c:Int):Pi (a,b,c,())=some (Mc a b c,()):=by
  unfold Pi Mc
  by_cases h:b≤a<;>simp [h]
theorem Qo (a b c:Int):Vg (a,b,c,())=some (Mc a b c,()):=by
  unfold Vg Mc
  by_cases h:b≤a<;>simp [h]
theorem Cc {n:Nat} (h:n≤4611686018427387904):n<Fa:=by unfold Fa;omega
theorem Ta (k:Nat):Int.toNat (k:Int)=k:=rfl
theorem Zv (k:Nat):Int.toNat ((k:Int)-1)=k-1:=by omega
theorem rE (n:Int) (ls:List Lk) (hl:Wa ls):GJ (n,ls,())=some (gv n ls,()):=by
  unfold GJ
  simp only [Gq,Option.bind_some,La]
  cases h1:Mc n 1 8 with
  |false=>simp;rw [TR fun g=>Rh h1 ⟨g.1,g.2.1⟩]
  |true =>
  have h1:=Ui h1
  by_cases h2:ls.length≤14
  case neg => 
    have:(14:Int)<ls.length:=by omega
    simp [this];rw [TR fun g=>h2 g.2.2.1]
  have h2':¬(14:Int)<ls.length:=by omega
  simp only [h2',decide_false,cond_false,Bool.not_true]
  refine Aa.out (Aa.bnd (R:=fun r=>match r with| .inl _=>gv n ls=true| .inr y=>y.1=gv n ls) ?_ ?_)
  ·refine Aa.count ls.length (fun k s=>s=(ls,(ls.length:Int),(k:Int),n,ls,())∧∀i,i<k→Mh n ls i) ?_ (Nat.zero_le _) (Cc (by omega)) ⟨rfl,fun i hi=>by omega⟩
   rintro k s hk ⟨rfl,hok⟩
   simp (disch:=omega) only [FJ,Lg,Ta,Zv,Ua,Gq,Option.bind_some]
   repeat' (first
     |refine Aa.some ?_
     |fail
     |(refine Aa.gd (by first|exact Ia (by omega) (by omega)|(simp (disch:=omega) only [Ua];exact Ia (by omega) (by omega))) ?_)
     |(refine Aa.ite (fun h=>?_) (fun h=>?_)<;>try simp only [decide_eq_true_eq,decide_eq_false_iff_not,Bool.not_eq_true',Bool.not_eq_false',Vi,Wi,Bool.and_eq_true,Bool.or_eq_true,Bool.and_eq_false_iff,Bool.or_eq_false_iff,El] at h))
   all_goals dsimp only
   all_goals first
     |exact (V8 (k:=k) (by omega) fun _ _ g=>by unfold Mh at g;omega).symm
     |(refine ⟨by omega,rfl,fun i hi=>?_⟩
       by_cases e:i<k
       ·exact hok i e
       ·obtain rfl:i=k:=by omega
        unfold Mh
        omega)
     |(obtain rfl:k=ls.length:=by omega
       exact decide_eq_true ⟨h1.1,h1.2,h2,hok⟩)
  ·rintro (r|r) hr
   ·exact .some (by simp [hr])
   ·obtain ⟨b,u⟩:=r
    have hr:b=gv n ls:=hr
    exact .some (by first | rw [hr] | exact Prod.ext hr rfl)
theorem QS (n:Int) (ls:List Lk) (hl:Wa ls):Zy (n,ls,())=some (gv n ls,()):=by
  unfold Zy
  refine Aa.out (Aa.bnd (R:=fun r=>match r with| .inl x=>x=(n,ls,())∧gv n ls=(Mc n 1 8&&decide ((ls.length:Int)≤14))| .inr y=>y.1=false∧gv n ls=false) ?_ ?_)
  ·refine Aa.count ls.length (fun k s=>s=((k:Int),n,ls,())∧(1≤n→n≤8→∀i,i<k→Mh n ls i)) ?_ (Nat.zero_le _) (Cc (by omega)) ⟨rfl,fun _ _ i hi=>by omega⟩
   rintro k s hk ⟨rfl,hok⟩
   simp (disch:=omega) only [EJ,Lg,Ta,Zv,Ua,La,Qo,Option.bind_some]
   repeat' (first
     |refine Aa.some ?_
     |fail
     |(refine Aa.gd (by first|exact Ia (by omega) (by omega)|(simp (disch:=omega) only [Ua];exact Ia (by omega) (by omega))) ?_)
     |(refine Aa.ite (fun h=>?_) (fun h=>?_)<;>try simp only [decide_eq_true_eq,decide_eq_false_iff_not,Bool.not_eq_true',Bool.not_eq_false',Vi,Wi,Bool.and_eq_true,Bool.or_eq_true,Bool.and_eq_false_iff,Bool.or_eq_false_iff,El] at h))
   all_goals dsimp only
   all_goals first
     |(refine ⟨rfl,V8 (k:=k) (by omega) fun h1 h2 g=>?_⟩
       unfold Mh at g
       have e1:wrap64 (n-1)=n-1:=Ua (by omega) (by omega)
       have e2:wrap64 ((lk ls k).a+1)=(lk ls k).a+1:=Ua (by omega) (by omega)
       simp only [e1,e2] at *
       omega)
     |(refine ⟨by omega,rfl,fun h1 h2 i hi=>?_⟩
       by_cases e:i<k
       ·exact hok h1 h2 i e
       ·obtain rfl:i=k:=by omega
        have e1:wrap64 (n-1)=n-1:=Ua (by omega) (by omega)
        simp only [e1] at *
        have e2:wrap64 ((lk ls i).a+1)=(lk ls i).a+1:=Ua (by omega) (by omega)
        simp only [e2] at *
        unfold Mh
        omega)
     |exact ⟨rfl,pX (show ls.length=k by omega) hok▸(by rw [show ls.length=k by omega])⟩
  ·rintro (r|r) hr
   ·have hr:r=(n,ls,())∧gv n ls=(Mc n 1 8&&decide ((ls.length:Int)≤14)):=hr
    obtain ⟨rfl,hr⟩:=hr
    simp only [Qo,Option.bind_some,La,hr]
    cases Mc n 1 8<;>exact .some rfl
   ·obtain ⟨b,u⟩:=r
    have hr:b=false∧gv n ls=false:=hr
    exact .some (by first | rw [hr.1,hr.2] | exact Prod.ext hr.1 (Prod.ext hr.2 rfl))
end Go.Proofs.YtknkhdjhongklaaGreat
namespace Go.Proofs.YtknkhdjhongklaaGreat
open Go.RowKit
theorem SS (n:Int) (ls:List Lk) (a b:Int) (hl:Wa ls):Xv (n,ls,a,b,())=some (Kc ls a b,()):=by
  unfold Xv
  refine Aa.out (Aa.bnd (R:=fun r=>match r with| .inl _=>Kc ls a b= -1| .inr y=>y.1=Kc ls a b) ?_ ?_)
  ·refine Aa.count ls.length (fun k s=>s=(a,b,(k:Int),n,ls,())∧∀i,i<k→Lf (min a b) (max a b) (lk ls i)=false) ?_ (Nat.zero_le _) (Cc (by omega)) ⟨rfl,fun i hi=>by omega⟩
   rintro k s hk ⟨rfl,hok⟩
   simp (disch:=omega) only [DJ,Lg,Ta,Ua,La]
   repeat' (first
     |refine Aa.some ?_
     |fail
     |(refine Aa.gd (by first|exact Ia (by omega) (by omega)|(simp (disch:=omega) only [Ua];exact Ia (by omega) (by omega))) ?_)
     |(refine Aa.ite (fun h=>?_) (fun h=>?_)<;>try simp only [decide_eq_true_eq,decide_eq_false_iff_not,Bool.not_eq_true',Bool.not_eq_false',Vi,Wi,Bool.and_eq_true,Bool.or_eq_true,Bool.and_eq_false_iff,Bool.or_eq_false_iff,El] at h))
   all_goals try dsimp only
   all_goals first
     |(exact (E9 (by omega) (YR (by assumption) (by assumption)) hok).symm)
     |(refine ⟨by omega,rfl,fun i hi=>?_⟩
       by_cases e:i<k
       ·exact hok i e
       ·obtain rfl:i=k:=by omega
        exact G9 (by omega))
     |exact F9 fun i hi=>hok i (by omega)
  ·rintro (r|r) hr
   ·have hr:Kc ls a b= -1:=hr
    exact .some (by first | rw [hr] | exact Prod.ext hr rfl)
   ·obtain ⟨z,u⟩:=r
    have hr:z=Kc ls a b:=hr
    exact .some (by first | rw [hr] | exact Prod.ext hr rfl)
theorem W9 (n:Int) (ls:List Lk) (a b:Int) (hl:Wa ls):Cz (n,ls,a,b,())=some (Kc ls a b,()):=by
  unfold Cz PS
  refine Aa.out (Aa.bnd (R:=fun r=>r.1=Kc ls a b) (Aa.bnd (R:=fun r=>match r with| .inl _=>Kc ls a b= -1| .inr y=>y.1=Kc ls a b) ?_ ?_) ?_)
  ·refine Aa.count ls.length (fun k s=>s=(ls,a,b,(ls.length:Int),(k:Int),())∧∀i,i<k→Lf (min a b) (max a b) (lk ls i)=false) ?_ (Nat.zero_le _) (Cc (by omega)) ⟨by simp [La],fun i hi=>by omega⟩
   rintro k s hk ⟨rfl,hok⟩
   have e1:∀x y z p q:Int,IJ (x,y,z,p,q,())=some (decide (x=min p q)&&decide (y=max p q),()):=fun x y z p q=>by
     unfold IJ
     by_cases h:x=min p q<;>simp [h]
   simp (disch:=omega) only [JJ,Lg,Ta,Ua,La,e1,Option.bind_some]
   repeat' (first
     |refine Aa.some ?_
     |fail
     |(refine Aa.gd (by first|exact Ia (by omega) (by omega)|(simp (disch:=omega) only [Ua];exact Ia (by omega) (by omega))) ?_)
     |(refine Aa.ite (fun h=>?_) (fun h=>?_)<;>try simp only [decide_eq_true_eq,decide_eq_false_iff_not,Bool.not_eq_true',Bool.not_eq_false',Vi,Wi,Bool.and_eq_true,Bool.or_eq_true,Bool.and_eq_false_iff,Bool.or_eq_false_iff,El] at h))
   all_goals try dsimp only
   all_goals first
     |(exact (E9 (by omega) (YR (by omega) (by omega)) hok).symm)
     |(refine ⟨by omega,rfl,fun i hi=>?_⟩
       by_cases e:i<k
       ·exact hok i e
       ·obtain rfl:i=k:=by omega
        exact G9 (by omega))
     |exact F9 fun i hi=>hok i (by omega)
  ·rintro (r|r) hr
   ·have hr:Kc ls a b= -1:=hr
    exact .some (by first | rw [hr] | exact Prod.ext hr rfl)
   ·exact .some hr
  ·rintro ⟨z,u⟩ hr
   have hr:z=Kc ls a b:=hr
   exact .some (by first | rw [hr] | exact Prod.ext hr rfl)
theorem rF (a b c n:Int):CJ (a,b,c,n,())=some (Cq ⟨a,b,c⟩ n,Vy ⟨a,b,c⟩ n,()):=by
  unfold CJ Cq Vy
  by_cases h:n=a
  ·simp [h]
  ·by_cases h':n=b
   ·subst h';simp [h]
   ·simp [h,h']
theorem X9 (n:Int) (ls:List Lk) (m:Int) (hl:ls.length≤16777216):Yv (n,ls,m,())=some (Jg (Ug ls m ls.length),()):=by
  unfold Yv
  refine Aa.out (Aa.bnd (R:=fun r=>match r with| .inl x=>x.1=Ug ls m ls.length| .inr _=>False) ?_ ?_)
  ·refine Aa.count ls.length (fun k s=>s=(m,ls,(ls.length:Int),(k:Int),Ug ls m k,())) ?_ (Nat.zero_le _) (Cc (by omega)) (by simp [La,Ug])
   rintro k s hk rfl
   have hlen:=I9 ls m k
   simp (disch:=omega) only [HJ,Lg,Ta,Ua,La,rF,Option.bind_some,List.length_singleton]
   repeat' (first
     |refine Aa.some ?_
     |(refine Aa.gd (decide_eq_true (by omega)) ?_)
     |(refine Aa.gd (by first|exact Ia (by omega) (by omega)|(simp (disch:=omega) only [Ua];exact Ia (by omega) (by omega))) ?_)
     |(refine Aa.ite (fun h=>?_) (fun h=>?_)<;>try simp only [decide_eq_true_eq,decide_eq_false_iff_not,Bool.not_eq_true',Bool.not_eq_false',Vi,Wi,Bool.and_eq_true,Bool.or_eq_true,Bool.and_eq_false_iff,Bool.or_eq_false_iff,El] at h))
   all_goals try dsimp only
   all_goals first
     |(refine ⟨by omega,?_⟩
       rw [qD ls m k (by omega)]
       simp [*])
     |(obtain rfl:k=ls.length:=by omega
       rfl)
  ·rintro (r|r) hr
   ·have hr:r.1=Ug ls m ls.length:=hr
    show Aa ((XI (r.1,())).bind _) _
    rw [hr]
    have hlen:=I9 ls m ls.length
    unfold XI
    rw [decide_eq_true (show (Ug ls m ls.length).length≤16777216 by omega)]
    exact .some rfl
   ·exact hr.elim
theorem rG (n:Int) (ls:List Lk) (m:Int) (hl:Wa ls):Bz (n,ls,m,())=some (if gv n ls then Rc ls m 8 else [],()):=by
  unfold Bz
  refine Aa.out (Aa.bnd (R:=fun r=>match r with| .inl x=>x.1=if gv n ls then Rc ls m 8 else []| .inr _=>False) ?_ ?_)
  ·cases hg:gv n ls with
   |false =>
    refine Aa.count 0 (fun k s=>s=(m,(0:Int),n,ls,([]:List Int),())) ?_ (Nat.zero_le _) (Cc (by omega)) rfl
    rintro k s hk rfl
    simp only [Az,QS n ls hl,Option.bind_some,hg]
    exact .some (by simp)
   |true =>
    refine Aa.count 8 (fun k s=>s=(m,(k:Int),n,ls,Rc ls m k,())) ?_ (Nat.zero_le _) (Cc (by omega)) rfl
    rintro k s hk rfl
    have hlen:=Tv ls m k
    simp (disch:=omega) only [Az,QS n ls hl,SS _ _ _ _ hl,Option.bind_some,hg,Ua,List.length_singleton,cond_true]
    repeat' (first
      |refine Aa.some ?_
      |(refine Aa.gd (decide_eq_true (by omega)) ?_)
      |(refine Aa.gd (by first|exact Ia (by omega) (by omega)|(simp (disch:=omega) only [Ua];exact Ia (by omega) (by omega))) ?_)
      |(refine Aa.ite (fun h=>?_) (fun h=>?_)<;>try simp only [decide_eq_true_eq,decide_eq_false_iff_not,Bool.not_eq_true',Bool.not_eq_false',Vi,Wi,Bool.and_eq_true,Bool.or_eq_true,Bool.and_eq_false_iff,Bool.or_eq_false_iff,El] at h))
    all_goals try dsimp only
    all_goals first
      |(refine ⟨by omega,?_⟩
        rw [ZR]
        simp [*])
      |(obtain rfl:k=8:=by omega
        rfl)
  ·rintro (r|r) hr
   ·have hr:r.1=if gv n ls then Rc ls m 8 else []:=hr
    exact .some (by first | rw [hr] | exact Prod.ext hr rfl)
   ·exact hr.elim
def rx {β:Type} (d:List Int) (x y:Nat) (c:Int) (K:List Int→Option β):Option β:=(bif decide (0≤iz d x) then (bif decide (iz d y<0) then K (d.set y (wrap64 (iz d x+c))) else (bif decide (wrap64 (iz d x+c)<iz d y) then K (d.set y (wrap64 (iz d x+c))) else K d)) else K d)
end Go.Proofs.YtknkhdjhongklaaGreat
namespace Go.Proofs.YtknkhdjhongklaaGreat
open Go.RowKit
section
variable {n:Nat} {ls:List Lk}
end
end Go.Proofs.YtknkhdjhongklaaGreat
namespace Go.Proofs.YtknkhdjhongklaaGreat
open Go.RowKit
section
variable {n:Nat} {ls:List Lk}
end
end Go.Proofs.YtknkhdjhongklaaGreat
namespace Go.Proofs.YtknkhdjhongklaaGreat
open Go.RowKit
section
variable {N:Nat} {la lb:List Lk} {bs:List Int}
end
end Go.Proofs.YtknkhdjhongklaaGreat
namespace Go.Proofs.YtknkhdjhongklaaGreat
open Go.RowKit
section
variable {N:Nat} {la lb:List Lk} {bs:List Int}
end
end Go.Proofs.YtknkhdjhongklaaGreat
namespace Go.Proofs.YtknkhdjhongklaaGreat
open Go.RowKit
section
variable {N:Nat} {la lb:List Lk} {bs:List Int}
end
end Go.Proofs.YtknkhdjhongklaaGreat
end
