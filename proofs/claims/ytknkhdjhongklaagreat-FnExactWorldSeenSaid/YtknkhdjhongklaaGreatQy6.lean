/- Part 6 of the proof: Pe8 Pe9 Pk5 KX UE KA KC KW KV PeA UG UI Pc PeF PeG UO. -/
import Derived.Test.YtknkhdjhongklaaGreatQy5
set_option linter.unusedSimpArgs false
set_option linter.unusedVariables false
set_option maxRecDepth 100000
namespace Go.Proofs.YtknkhdjhongklaaGreat
section
open Go.RowKit
noncomputable def wv (w:Wd):Bool:=@decide (WV w Tb) (Classical.propDecidable _)
theorem Ci {w:Wd}:wv w=true↔WV w Tb:=by unfold wv;simp
theorem dE {w:Wd}:wv w=false↔¬WV w Tb:=by unfold wv;simp
def Tc (w:Wd):List Ls:=w.db.flatten++w.net.map (·.p)
theorem wE {db:List (List Ls)} {i:Nat} (h:i<db.length):Cb db i∈db:=by
  unfold Cb;rw [List.getD,List.getElem?_eq_getElem h];exact List.getElem_mem h
theorem Lq {w:Wd} {l:Ls}:Kk w l↔l∈Tc w:=by
  unfold Kk Tc
  rw [List.mem_append,List.mem_flatten,List.mem_map]
  constructor
  ·rintro (⟨i,hi,h⟩|⟨p,hp,rfl⟩)
   ·exact .inl ⟨_,wE hi,h⟩
   ·exact .inr ⟨p,hp,rfl⟩
  ·rintro (⟨d,hd,h⟩|⟨p,hp,rfl⟩)
   ·obtain ⟨i,hi,rfl⟩:=List.getElem_of_mem hd
    refine .inl ⟨i,hi,?_⟩
    unfold Cb;rw [List.getD,List.getElem?_eq_getElem hi];exact h
   ·exact .inr ⟨p,hp,rfl⟩
def Xm (w:Wd) (i:Nat):Prop:=(1≤iz w.sq i∧iz w.sq i≤99)∧Fe (Cb w.db i)
def AD (w:Wd) (i:Nat):Prop:=∃l∈Cb w.db i,l.o=i∧l.s=iz w.sq i
def Qj (xs:List Ls) (i:Nat):Prop:=∀j,j<i→(Ya xs j).o=(Ya xs i).o→(Ya xs j).s=(Ya xs i).s→Ya xs j=Ya xs i
theorem dG {w:Wd} (g:GV w.n w.ls) (hu:w.up.length=w.ls.length) (hs:(w.sq.length:Int)=w.n) (hd:(w.db.length:Int)=w.n) (hn:w.net.length≤16) (nd:∀i,i<w.db.length→Xm w i) (ow:∀i,i<w.db.length→AD w i) (tg:∀i,i<w.net.length→0≤(Rb w.net i).t∧(Rb w.net i).t<w.n) (ps:∀i,i<(Tc w).length→Vg w Tb (Ya (Tc w) i)) (ag:∀i,i<(Tc w).length→Qj (Tc w) i):WV w Tb:=by
  have idx:∀l,Kk w l→∃i,i<(Tc w).length∧Ya (Tc w) i=l:=fun l hl=>by
    obtain ⟨i,hi,rfl⟩:=List.getElem_of_mem (Lq.1 hl)
    exact ⟨i,hi,Ad hi⟩
  refine ⟨g,hu,hs,hd,hn,fun i hi=>(nd i (by omega)).1,fun i hi=>(nd i hi).2,ow,fun l hl=>?_,fun x y hx hy e1 e2=>?_,fun p hp=>?_⟩
  ·obtain ⟨i,hi,rfl⟩:=idx l hl
   exact ps i hi
  ·obtain ⟨i,hi,rfl⟩:=idx x hx
   obtain ⟨j,hj,rfl⟩:=idx y hy
   rcases Nat.lt_trichotomy i j with h|h|h
   ·exact ag j hj i h e1 e2
   ·rw [h]
   ·exact (ag i hi j h e1.symm e2.symm).symm
  ·obtain ⟨i,hi,rfl⟩:=List.getElem_of_mem hp
   have:=tg i hi
   have e:Rb w.net i=w.net[i]:=by simp [Rb,List.getD,hi]
   rwa [e] at this
section
variable {w:Wd}
theorem WV.nd (h:WV w Tb) {i:Nat} (hi:i<w.db.length):Xm w i:=⟨h.rng i (by have:=h.sq;have:=h.db;omega),h.ok i hi⟩
theorem WV.ps (h:WV w Tb) {i:Nat} (hi:i<(Tc w).length):Vg w Tb (Ya (Tc w) i):=h.poss _ (Lq.2 (Fg hi))
theorem WV.ag (h:WV w Tb) {i:Nat} (hi:i<(Tc w).length):Qj (Tc w) i:=fun j hj e1 e2=>h.agr _ _ (Lq.2 (Fg (by omega))) (Lq.2 (Fg hi)) e1 e2
theorem XN {db:List (List Ls)} {k:Nat} (hk:k≤db.length) (h:∀i,i<k→(Cb db i).length≤8):(db.take k).flatten.length≤8*k:=by
  induction k with
  |zero=>simp
  |succ k ih =>
   have:=ih (by omega) fun i hi=>h i (by omega)
   have h2:=h k (by omega)
   rw [←WN (by omega),List.flatten_append,List.length_append,List.flatten_singleton]
   omega
theorem dH {db:List (List Ls)} {k:Nat} (hk:k<db.length):(db.take (k+1)).flatten=(db.take k).flatten++Cb db k:=by
  rw [←WN hk,List.flatten_append,List.flatten_singleton]
theorem dI {net:List Pk} {k:Nat} (hk:k<net.length):(net.take (k+1)).map (·.p)=(net.take k).map (·.p)++[(Rb net k).p]:=by
  rw [←LV hk,List.map_append];rfl
theorem Xm.sm {i:Nat} (h:Xm w i):(Cb w.db i).length≤8:=h.2.len
theorem wF (x l:Ls) (hx:Ta x.e) (hl:Ta l.e):YM (x.o,x.s,x.e,l.o,l.s,l.e,())=some (decide (x.o=l.o∧x.s=l.s∧x≠l),()):=by
  unfold YM
  by_cases h1:x.o=l.o
  ·by_cases h2:x.s=l.s
   ·simp only [decide_eq_true h1,decide_eq_true h2,cond_true]
    refine Aa.out (Ub (bZ x l hx hl) (.some ?_))
    by_cases h3:x=l
    ·simp [h3]
    ·simp [h1,h2,h3]
   ·simp [h1,h2]
  ·simp [h1]
theorem wG (xs:List Ls) (l:Ls) (h:xs.length≤100000) (he:∀x∈xs,Ta x.e) (hl:Ta l.e):Aa (BN (xs,l.o,l.s,l.e,())) fun r=>∃b:Bool,r=(b,())∧(b=true↔∃x∈xs,x.o=l.o∧x.s=l.s∧x≠l):=by
  unfold BN RU
  refine Aa.bnd (R:=fun r=>∃z:Int,r=(z,())∧(0≤z↔∃x∈xs,x.o=l.o∧x.s=l.s∧x≠l)) (Aa.bnd (R:=fun r=>match r with| .inl _=>¬∃x∈xs,x.o=l.o∧x.s=l.s∧x≠l| .inr y=>∃k:Nat,y=((k:Int),())∧∃x∈xs,x.o=l.o∧x.s=l.s∧x≠l) ?_ ?_) ?_
  ·refine Aa.count xs.length (fun k t=>t=(xs,l.o,l.s,l.e,(xs.length:Int),(k:Int),())∧∀i,i<k→¬((Ya xs i).o=l.o∧(Ya xs i).s=l.s∧Ya xs i≠l)) ?_ (Nat.zero_le _) (Sb (by omega)) ⟨by simp [La],fun i hi=>by omega⟩
   rintro k t hk ⟨rfl,hok⟩
   by_cases hlt:k<xs.length
   ·simp (disch:=omega) only [WB,Eg,Wa,Sa,wF _ l (he _ (Fg hlt)) hl,Option.bind_some]
    refine Aa.gd (decide_eq_true (by omega)) (Aa.gd (Ja (by omega) (by omega)) (Aa.ite (fun hc=>.some ?_) (fun hc=>.some ⟨hlt,rfl,fun i hi=>?_⟩)))
    ·exact ⟨k,rfl,_,Fg hlt,oT hc⟩
    ·by_cases e:i<k
     ·exact hok i e
     ·obtain rfl:i=k:=by omega
      exact oF hc
   ·obtain rfl:k=xs.length:=by omega
    unfold WB
    refine Aa.no (dF (by first|omega|(dsimp only;omega))) (.some ?_)
    rintro ⟨x,hx,hh⟩
    obtain ⟨i,hi,rfl⟩:=List.getElem_of_mem hx
    rw [←Ad hi] at hh
    exact hok i hi hh
  ·rintro (r|r) hr
   ·exact .some ⟨-1,rfl,fun h=>by omega,fun h=>(hr h).elim⟩
   ·obtain ⟨k,rfl,hx⟩:=hr
    exact .some ⟨k,rfl,fun _=>hx,fun _=>by omega⟩
  ·rintro _ ⟨z,rfl,hz⟩
   exact .some ⟨decide (0≤z),rfl,by rw [decide_eq_true_eq];exact hz⟩
theorem wH {xs:List Ls} {k:Nat} (hk:k<xs.length):(∃x∈xs.take k,x.o=(Ya xs k).o∧x.s=(Ya xs k).s∧x≠Ya xs k)↔¬Qj xs k:=by
  constructor
  ·rintro ⟨x,hx,h1,h2,h3⟩ h
   obtain ⟨j,hj,rfl⟩:=List.getElem_of_mem hx
   rw [List.length_take] at hj
   rw [List.getElem_take,←Ad (by omega)] at h1 h2 h3
   exact h3 (h j (by omega) h1 h2)
  ·intro h
   unfold Qj at h
   simp only [Classical.not_forall] at h
   obtain ⟨j,hj,h1,h2,h3⟩:=h
   refine ⟨Ya xs j,?_,h1,h2,h3⟩
   rw [Ad (by omega)]
   exact List.mem_iff_getElem.2 ⟨j,by rw [List.length_take];omega,List.getElem_take⟩
set_option maxHeartbeats 2000000 in
theorem BD (h:Vi w):Nw (w.n,w.ls,w.up,w.sq,w.db,w.net,())=some (wv w,()):=by
  have h1:=h.ls
  have h2:=h.up
  have h3:=h.sq
  have h4:=h.db
  have h5:=h.net
  have no:¬WV w Tb→(false,())=(wv w,()):=fun q=>by rw [dE.2 q]
  unfold Nw
  dsimp only
  rw [sQ _ _ (show Ta w.ls by unfold Ta;omega)]
  simp only [La]
  refine Aa.out (Aa.ite (fun hc=>.some (no fun q=>?_)) (fun hc=>?_))
  ·have hc:gv w.n w.ls=false:=by simpa using hc
   exact oF hc q.g
  have g:GV w.n w.ls:=oT (show gv w.n w.ls=true by simpa using hc)
  refine Aa.ite (fun hc=>.some (no fun q=>?_)) (fun hc=>?_)
  ·have hc:¬(w.up.length:Int)=w.ls.length:=by simpa using hc
   have:=q.up;omega
  have hu:(w.up.length:Int)=w.ls.length:=by simpa using hc
  refine Aa.ite (fun hc=>.some (no fun q=>?_)) (fun hc=>?_)
  ·have hc:¬(w.sq.length:Int)=w.n:=by simpa using hc
   have:=q.sq;omega
  have hs:(w.sq.length:Int)=w.n:=by simpa using hc
  refine Aa.ite (fun hc=>.some (no fun q=>?_)) (fun hc=>?_)
  ·have hc:¬(w.db.length:Int)=w.n:=by simpa using hc
   have:=q.db;omega
  have hd:(w.db.length:Int)=w.n:=by simpa using hc
  refine Aa.ite (fun hc=>.some (no fun q=>?_)) (fun hc=>?_)
  ·have hc:=oT hc
   have:=q.net;omega
  have hn:=oF hc
  have hn8:=g.2.1
  refine Aa.bnd (R:=fun r=>match r with| .inl x=>x=(w.n,w.n,w.ls,w.up,w.sq,w.db,w.net,w.db.flatten,())∧∀i,i<w.db.length→Xm w i∧AD w i| .inr y=>y=(false,())∧¬WV w Tb) ?_ ?_
  ·refine Aa.count w.db.length (fun k t=>t=(w.n,w.db,(w.db.length:Int),(k:Int),w.n,w.ls,w.up,w.sq,w.db,w.net,(w.db.take k).flatten,())∧∀i,i<k→Xm w i∧AD w i) ?_ (Nat.zero_le _) (Sb (by omega)) ⟨by simp,fun i hi=>by omega⟩
   rintro k t hk ⟨rfl,hok⟩
   by_cases hlt:k<w.db.length
   ·have hsm:=h.dbs k hlt
    simp (disch:=omega) only [IC,Bi,Wh,Eg,Wa,Sa,Il,bB _ hsm.fits hsm.fe,Option.bind_some]
    refine Aa.gd (decide_eq_true (by omega)) (Aa.gd (Ja (by omega) (by omega)) (Aa.gd (Ja (by omega) (by omega)) (Aa.ite (fun hc=>.some ⟨rfl,fun q=>?_⟩) (fun hc=>?_))))
    ·have hc:=Xi (show Dc (iz w.sq k) 1 99=false by simpa using hc)
     exact hc (q.rng k (by omega))
    have hr:=Mh (show Dc (iz w.sq k) 1 99=true by simpa using hc)
    refine Aa.ite (fun hc=>.some ⟨rfl,fun q=>?_⟩) (fun hc=>?_)
    ·have hc:Og (Cb w.db k)=false:=by simpa using hc
     exact oF hc (q.ok k hlt)
    have hv:Fe (Cb w.db k):=oT (show Og (Cb w.db k)=true by simpa using hc)
    have h8:=hv.len
    obtain ⟨i,hi,hp⟩:=IU (Cb w.db k) (k:Int) hv.srt (by omega)
    have hfd:=JU hv.srt hi
    refine Ub hp ?_
    dsimp only
    simp only [Wa]
    cases hh:Ti (Cb w.db k) (k:Int) i with
    |false =>
     rw [hh,if_neg (by simp)] at hfd
     refine Aa.gd rfl (.some ⟨rfl,fun q=>?_⟩)
     obtain ⟨l,hl,e1,_⟩:=q.own k hlt
     exact Kw.1 hfd l hl e1
    |true =>
     rw [hh,if_pos rfl] at hfd
     obtain ⟨hm,ho⟩:=(Ui hv.so).1 hfd
     obtain ⟨hil,_⟩:=oT hh
     refine Aa.no rfl (Aa.gd (Ja (by omega) (by omega)) (Aa.gd (Ja (by omega) (by omega)) (Aa.ite (fun hc=>.some ⟨rfl,fun q=>?_⟩) (fun hc=>?_))))
     ·have hc:¬(Ya (Cb w.db k) i).s=iz w.sq k:=by simpa using hc
      obtain ⟨l,hl,e1,e2⟩:=q.own k hlt
      have:=(Ui hv.so).2 ⟨hl,e1⟩
      rw [hfd] at this
      injection this with this
      rw [this] at hc
      exact hc e2
     ·have hc:(Ya (Cb w.db k) i).s=iz w.sq k:=by simpa using hc
      have hfl:=XN (db:=w.db) (k:=k) (by omega) fun i hi=>(hok i hi).1.sm
      refine Aa.gd (decide_eq_true (by omega)) (.some ⟨hlt,?_,fun j hj=>?_⟩)
      ·rw [dH hlt];rfl
      ·by_cases e:j<k
       ·exact hok j e
       ·obtain rfl:j=k:=by omega
        exact ⟨⟨hr,hv⟩,_,hm,ho,hc⟩
   ·obtain rfl:k=w.db.length:=by omega
    unfold IC
    refine Aa.no (dF (by first|omega|(dsimp only;omega))) (.some ⟨?_,hok⟩)
    rw [List.take_length]
  rintro (r|r) hr
  case inr =>
    obtain ⟨rfl,hr⟩:=hr
    exact .some (no hr)
  obtain ⟨rfl,hnd⟩:=hr
  have hfl:w.db.flatten.length≤8*w.db.length:=by
    have:=XN (db:=w.db) (k:=w.db.length) (by omega) fun i hi=>(hnd i hi).1.sm
    rwa [List.take_length] at this
  dsimp only
  refine Aa.bnd (R:=fun r=>match r with| .inl x=>x=(w.n,w.ls,w.up,w.sq,w.db,w.net,Tc w,())∧∀i,i<w.net.length→0≤(Rb w.net i).t∧(Rb w.net i).t<w.n| .inr y=>y=(false,())∧¬WV w Tb) ?_ ?_
  ·refine Aa.count w.net.length (fun k t=>t=(w.n,w.net,(w.net.length:Int),(k:Int),w.n,w.ls,w.up,w.sq,w.db,w.net,w.db.flatten++(w.net.take k).map (·.p),())∧∀i,i<k→0≤(Rb w.net i).t∧(Rb w.net i).t<w.n) ?_ (Nat.zero_le _) (Sb (by omega)) ⟨by simp,fun i hi=>by omega⟩
   rintro k t hk ⟨rfl,hok⟩
   have hn1:=g.1
   by_cases hlt:k<w.net.length
   ·simp (disch:=omega) only [JC,Jq,Wa,Sa,Il,Option.bind_some]
    refine Aa.gd (decide_eq_true (by omega)) (Aa.gd (Ja (by omega) (by omega)) (Aa.ite (fun hc=>.some ⟨rfl,fun q=>?_⟩) (fun hc=>?_)))
    ·have hc:=Xi (show Dc (Rb w.net k).t 0 (w.n-1)=false by simpa using hc)
     have:=q.tgt _ (Qw hlt)
     omega
    ·have hc:=Mh (show Dc (Rb w.net k).t 0 (w.n-1)=true by simpa using hc)
     refine Aa.gd (decide_eq_true (by simp only [List.length_append,List.length_map,List.length_take,List.length_singleton];omega)) (.some ⟨hlt,?_,fun j hj=>?_⟩)
     ·rw [dI hlt,←List.append_assoc];rfl
     ·by_cases e:j<k
      ·exact hok j e
      ·obtain rfl:j=k:=by omega
       omega
   ·obtain rfl:k=w.net.length:=by omega
    unfold JC
    refine Aa.no (dF (by first|omega|(dsimp only;omega))) (.some ⟨?_,hok⟩)
    rw [List.take_length];rfl
  rintro (r|r) hr
  case inr =>
    obtain ⟨rfl,hr⟩:=hr
    exact .some (no hr)
  obtain ⟨rfl,htg⟩:=hr
  have hal:(Tc w).length≤1000:=by unfold Tc;rw [List.length_append,List.length_map];omega
  have hfe:∀x∈Tc w,Sm x.e:=fun x hx=>by
    rcases Lq.2 hx with ⟨i,hi,hx⟩|⟨p,hp,rfl⟩
    ·exact (h.dbs i hi).2 x hx
    ·obtain ⟨i,hi,rfl⟩:=List.getElem_of_mem hp
     have:=h.pks i hi
     have e:Rb w.net i=w.net[i]:=by simp [Rb,List.getD,hi]
     rwa [e] at this
  have smf:∀l:List En,Sm l→Ta l:=fun l hl=>by unfold Ta;unfold Sm at hl;omega
  dsimp only
  refine Aa.bnd (R:=fun r=>match r with| .inl x=>∀i,i<(Tc w).length→Vg w Tb (Ya (Tc w) i)∧Qj (Tc w) i| .inr y=>y=(false,())∧¬WV w Tb) ?_ ?_
  ·refine Aa.count (Tc w).length (fun k t=>t=(Tc w,Tc w,((Tc w).length:Int),(k:Int),w.n,w.ls,w.up,w.sq,w.db,w.net,())∧∀i,i<k→Vg w Tb (Ya (Tc w) i)∧Qj (Tc w) i) ?_ (Nat.zero_le _) (Sb (by omega)) ⟨by simp,fun i hi=>by omega⟩
   rintro k t hk ⟨rfl,hok⟩
   by_cases hlt:k<(Tc w).length
   ·have hle:=hfe _ (Fg hlt)
    simp (disch:=omega) only [KC,Eg,Wa,Sa,wD g (show w.up.length=w.ls.length by omega) hs _ hle,Option.bind_some,Int.toNat_zero,List.drop_zero,Nat.sub_zero]
    refine Aa.gd (decide_eq_true (by omega)) (Aa.gd (Ja (by omega) (by omega)) (Aa.ite (fun hc=>.some ⟨rfl,fun q=>?_⟩) (fun hc=>?_)))
    ·have hc:poss w (Ya (Tc w) k)=false:=by simpa using hc
     exact ZC.1 hc (q.ps hlt)
    have hp:=Kq.1 (show poss w (Ya (Tc w) k)=true by simpa using hc)
    refine Aa.gd (wB (by omega) (by omega) (by omega)) (Aa.bnd (wG ((Tc w).take k) (Ya (Tc w) k) (by rw [List.length_take];omega) (fun x hx=>smf _ (hfe x (List.mem_of_mem_take hx))) (smf _ hle)) ?_)
    rintro _ ⟨b,rfl,hb⟩
    rw [wH hlt] at hb
    refine Aa.ite (fun hc3=>.some ⟨rfl,fun q=>hb.1 hc3 (q.ag hlt)⟩) (fun hc3=>.some ⟨hlt,rfl,fun j hj=>?_⟩)
    by_cases e:j<k
    ·exact hok j e
    ·obtain rfl:j=k:=by omega
     exact ⟨hp,Classical.not_not.1 fun q=>by
       have:=hb.2 q
       have hc3:b=false:=hc3
       rw [hc3] at this;cases this⟩
   ·obtain rfl:k=(Tc w).length:=by omega
    unfold KC
    exact Aa.no (dF (by first|omega|(dsimp only;omega))) (.some hok)
  rintro (r|r) hr
  case inr =>
    obtain ⟨rfl,hr⟩:=hr
    exact .some (no hr)
  exact .some (by rw [Ci.2 (dG g (by omega) hs hd (by omega) (fun i hi=>(hnd i hi).1) (fun i hi=>(hnd i hi).2) htg (fun i hi=>(hr i hi).1) (fun i hi=>(hr i hi).2))])
end
end
section
open Go.RowKit
section
variable {w:Wd}
structure CD (w:Wd):Prop where
  g:GV w.n w.ls
  up:w.up.length=w.ls.length
  sq:(w.sq.length:Int)=w.n
  db:(w.db.length:Int)=w.n
  net:w.net.length≤16
  nd:∀i,i<w.db.length→Xm w i
theorem wI (h:Vi w):Aa (TM (w.n,w.ls,w.up,w.sq,w.db,w.net,())) fun r=>∃b:Bool,r=(b,())∧(b=true→CD w)∧(b=false→¬WV w Tb):=by
  have h1:=h.ls
  have h2:=h.up
  have h3:=h.sq
  have h4:=h.db
  have h5:=h.net
  have no:¬WV w Tb→∃b:Bool,(false,())=(b,())∧(b=true→CD w)∧(b=false→¬WV w Tb):=fun q=>⟨false,rfl,(fun e=>by cases e),fun _=>q⟩
  unfold TM
  dsimp only
  rw [sR _ _ (show Ta w.ls by unfold Ta;omega)]
  simp only [La]
  refine Aa.ite (fun hc=>.some (no fun q=>?_)) (fun hc=>?_)
  ·have hc:gv w.n w.ls=false:=by simpa using hc
   exact oF hc q.g
  have g:GV w.n w.ls:=oT (show gv w.n w.ls=true by simpa using hc)
  refine Aa.ite (fun hc=>.some (no fun q=>?_)) (fun hc=>?_)
  ·have hc:¬(w.up.length:Int)=w.ls.length:=by simpa using hc
   have:=q.up;omega
  have hu:(w.up.length:Int)=w.ls.length:=by simpa using hc
  refine Aa.ite (fun hc=>.some (no fun q=>?_)) (fun hc=>?_)
  ·have hc:¬(w.sq.length:Int)=w.n:=by simpa using hc
   have:=q.sq;omega
  have hs:(w.sq.length:Int)=w.n:=by simpa using hc
  refine Aa.ite (fun hc=>.some (no fun q=>?_)) (fun hc=>?_)
  ·have hc:¬(w.db.length:Int)=w.n:=by simpa using hc
   have:=q.db;omega
  have hd:(w.db.length:Int)=w.n:=by simpa using hc
  refine Aa.ite (fun hc=>.some (no fun q=>?_)) (fun hc=>?_)
  ·have hc:=oT hc
   have:=q.net;omega
  have hn:=oF hc
  have hn8:=g.2.1
  refine Aa.bnd (R:=fun r=>match r with| .inl x=>∀i,i<w.db.length→Xm w i| .inr y=>y=(false,())∧¬WV w Tb) ?_ ?_
  ·refine Aa.count w.db.length (fun k t=>t=((k:Int),w.n,w.ls,w.up,w.sq,w.db,w.net,())∧∀i,i<k→Xm w i) ?_ (Nat.zero_le _) (Sb (by omega)) ⟨rfl,fun i hi=>by omega⟩
   rintro k t hk ⟨rfl,hok⟩
   by_cases hlt:k<w.db.length
   ·have hsm:=h.dbs k hlt
    simp (disch:=omega) only [MB,Bi,Wh,Wa,Sa,Xp,uZ _ hsm.fits hsm.fe,Option.bind_some]
    refine Aa.gd (decide_eq_true (by omega)) (Aa.gd (Ja (by omega) (by omega)) (Aa.ite (fun hc=>.some ⟨rfl,fun q=>?_⟩) (fun hc=>?_)))
    ·have hc:=Xi (show Dc (iz w.sq k) 1 99=false by simpa using hc)
     exact hc (q.rng k (by omega))
    have hr:=Mh (show Dc (iz w.sq k) 1 99=true by simpa using hc)
    refine Aa.gd (Ja (by omega) (by omega)) (Aa.ite (fun hc=>.some ⟨rfl,fun q=>?_⟩) (fun hc=>.some ⟨hlt,rfl,fun j hj=>?_⟩))
    ·have hc:Og (Cb w.db k)=false:=by simpa using hc
     exact oF hc (q.ok k hlt)
    ·have hv:Fe (Cb w.db k):=oT (show Og (Cb w.db k)=true by simpa using hc)
     by_cases e:j<k
     ·exact hok j e
     ·obtain rfl:j=k:=by omega
      exact ⟨hr,hv⟩
   ·obtain rfl:k=w.db.length:=by omega
    unfold MB
    exact Aa.no (dF (by dsimp only;omega)) (.some hok)
  rintro (r|r) hr
  case inr =>
    obtain ⟨rfl,hr⟩:=hr
    exact .some (no hr)
  exact .some ⟨true,rfl,fun _=>⟨g,by omega,hs,hd,by omega,hr⟩,fun e=>by cases e⟩
theorem CD.fl (h:CD w):w.db.flatten.length≤8*w.db.length:=by
  have:=XN (db:=w.db) (k:=w.db.length) (by omega) fun i hi=>(h.nd i hi).sm
  rwa [List.take_length] at this
theorem wJ (h:CD w):SM (w.n,w.ls,w.up,w.sq,w.db,w.net,())=some (Tc w,()):=by
  have hd:=h.db
  have hn:=h.net
  have h8:=h.g.2.1
  have hfl:=h.fl
  unfold SM
  dsimp only
  refine Aa.out (Aa.bnd (R:=fun r=>match r with| .inl x=>x=(w.n,w.ls,w.up,w.sq,w.db,w.net,w.db.flatten,())| .inr _=>False) ?_ ?_)
  ·refine Aa.count w.db.length (fun k t=>t=((k:Int),w.n,w.ls,w.up,w.sq,w.db,w.net,(w.db.take k).flatten,())) ?_ (Nat.zero_le _) (Sb (by omega)) (by simp)
   rintro k t hk rfl
   by_cases hlt:k<w.db.length
   ·have hl:=(h.nd k hlt).sm
    have hfk:=XN (db:=w.db) (k:=k) (by omega) fun i hi=>(h.nd i (by omega)).sm
    simp (disch:=omega) only [KB,Bi,Wa,Sa,La]
    refine Aa.gd (decide_eq_true (by omega)) (Aa.gd (Ja (by omega) (by omega)) (Aa.gd (decide_eq_true (by omega)) (.some ⟨hlt,?_⟩)))
    rw [dH hlt];rfl
   ·obtain rfl:k=w.db.length:=by omega
    unfold KB
    simp only [La]
    refine Aa.no (dF (by omega)) (.some ?_)
    rw [List.take_length]
  rintro (r|r) hr
  case inr=>exact hr.elim
  obtain rfl:=hr
  dsimp only
  refine Aa.bnd (R:=fun r=>match r with| .inl x=>x=(Tc w,())| .inr _=>False) ?_ ?_
  ·refine Aa.count w.net.length (fun k t=>t=((k:Int),w.n,w.ls,w.up,w.sq,w.db,w.net,w.db.flatten++(w.net.take k).map (·.p),())) ?_ (Nat.zero_le _) (Sb (by omega)) (by simp)
   rintro k t hk rfl
   by_cases hlt:k<w.net.length
   ·simp (disch:=omega) only [LB,Jq,Wa,Sa,La]
    refine Aa.gd (decide_eq_true (by omega)) (Aa.gd (Ja (by omega) (by omega)) (Aa.gd (decide_eq_true (by simp only [List.length_append,List.length_map,List.length_take,List.length_singleton];omega)) (.some ⟨hlt,?_⟩)))
    rw [dI hlt,←List.append_assoc];rfl
   ·obtain rfl:k=w.net.length:=by omega
    unfold LB
    simp only [La]
    refine Aa.no (dF (by omega)) (.some ?_)
    rw [List.take_length];rfl
  rintro (r|r) hr
  case inr=>exact hr.elim
  obtain rfl:=hr
  exact .some rfl
theorem wK (xs:List Ls) (hl:xs.length≤100000) (he:∀x∈xs,Ta x.e):Aa (UM (xs,())) fun r=>∃b:Bool,r=(b,())∧(b=true↔∀i,i<xs.length→Qj xs i):=by
  unfold UM
  refine Aa.bnd (R:=fun r=>match r with| .inl _=>∀i,i<xs.length→Qj xs i| .inr y=>y=(false,())∧¬∀i,i<xs.length→Qj xs i) ?_ ?_
  ·refine Aa.count xs.length (fun k t=>t=(xs,(k:Int),())∧∀i,i<k→Qj xs i) ?_ (Nat.zero_le _) (Sb (by omega)) ⟨rfl,fun i hi=>by omega⟩
   rintro k t hk ⟨rfl,hok⟩
   by_cases hlt:k<xs.length
   ·simp only [RB,La]
    refine Aa.gd (decide_eq_true (by omega)) (Aa.bnd (R:=fun r=>match r with| .inl x=>x=(xs,(k:Int),())∧Qj xs k| .inr y=>y=(false,())∧¬Qj xs k) ?_ ?_)
    ·refine Aa.count k (fun j t=>t=(xs,(k:Int),(j:Int),())∧∀i,i<j→(Ya xs i).o=(Ya xs k).o→(Ya xs i).s=(Ya xs k).s→Ya xs i=Ya xs k) ?_ (Nat.zero_le _) (Sb (by omega)) ⟨rfl,fun i hi=>by omega⟩
     rintro j t hj ⟨rfl,hok2⟩
     by_cases hjk:j<k
     ·have fk:=he _ (Fg hlt)
      have fj:=he _ (Fg (show j<xs.length by omega))
      simp (disch:=omega) only [QB,Eg,Wa,Sa,cA _ _ fk fj,Option.bind_some]
      refine Aa.gd (decide_eq_true (by omega)) (Aa.gd (Ja (by omega) (by omega)) (Aa.gd (Ja (by omega) (by omega)) (Aa.ite (fun h1=>?_) (fun h1=>.some ⟨hjk,rfl,fun i hi=>?_⟩))))
      ·have h1:=oT h1
       refine Aa.gd (Ja (by omega) (by omega)) (Aa.gd (Ja (by omega) (by omega)) (Aa.ite (fun h2=>?_) (fun h2=>.some ⟨hjk,rfl,fun i hi=>?_⟩)))
       ·have h2:=oT h2
        refine Aa.gd (Ja (by omega) (by omega)) (Aa.gd (Ja (by omega) (by omega)) (Aa.ite (fun h3=>.some ⟨rfl,fun q=>?_⟩) (fun h3=>.some ⟨hjk,rfl,fun i hi=>?_⟩)))
        ·have h3:¬Ya xs k=Ya xs j:=by simpa using h3
         exact h3 (q j hjk h1.symm h2.symm).symm
        ·have h3:Ya xs k=Ya xs j:=by simpa using h3
         by_cases e:i<j
         ·exact hok2 i e
         ·obtain rfl:i=j:=by omega
          exact fun _ _=>h3.symm
       ·have h2:=oF h2
        by_cases e:i<j
        ·exact hok2 i e
        ·obtain rfl:i=j:=by omega
         exact fun _ e2=>(h2 e2.symm).elim
      ·have h1:=oF h1
       by_cases e:i<j
       ·exact hok2 i e
       ·obtain rfl:i=j:=by omega
        exact fun e1=>(h1 e1.symm).elim
     ·obtain rfl:j=k:=by omega
      unfold QB
      exact Aa.no (dF (by dsimp only;omega)) (.some ⟨rfl,hok2⟩)
    ·rintro (r|r) hr
     ·obtain ⟨rfl,hr⟩:=hr
      simp (disch:=omega) only [Sa]
      refine .some ⟨hlt,rfl,fun i hi=>?_⟩
      by_cases e:i<k
      ·exact hok i e
      ·obtain rfl:i=k:=by omega
       exact hr
     ·obtain ⟨rfl,hr⟩:=hr
      exact .some ⟨rfl,fun q=>hr (q k hlt)⟩
   ·obtain rfl:k=xs.length:=by omega
    unfold RB
    simp only [La]
    exact Aa.no (dF (by omega)) (.some hok)
  rintro (r|r) hr
  ·exact .some ⟨true,rfl,fun _=>hr,fun _=>rfl⟩
  ·obtain ⟨rfl,hr⟩:=hr
   exact .some ⟨false,rfl,(fun e=>by cases e),fun q=>(hr q).elim⟩
set_option maxHeartbeats 2000000 in
theorem NV (h:Vi w):Mw (w.n,w.ls,w.up,w.sq,w.db,w.net,())=some (wv w,()):=by
  have no:¬WV w Tb→(false,())=(wv w,()):=fun q=>by rw [dE.2 q]
  unfold Mw
  refine Aa.out (Aa.bnd (wI h) ?_)
  rintro _ ⟨b,rfl,hb1,hb2⟩
  dsimp only
  refine Aa.ite (fun hc=>.some (no (hb2 (by simpa using hc)))) (fun hc=>?_)
  have hS:=hb1 (by simpa using hc)
  have hd:=hS.db
  have hs:=hS.sq
  have hn:=hS.net
  have h8:=hS.g.2.1
  have hn1:=hS.g.1
  have hfl:=hS.fl
  have hal:(Tc w).length≤1000:=by unfold Tc;rw [List.length_append,List.length_map];omega
  have hfe:∀x∈Tc w,Sm x.e:=fun x hx=>by
    rcases Lq.2 hx with ⟨i,hi,hx⟩|⟨p,hp,rfl⟩
    ·exact (h.dbs i hi).2 x hx
    ·obtain ⟨i,hi,rfl⟩:=List.getElem_of_mem hp
     have:=h.pks i hi
     have e:Rb w.net i=w.net[i]:=by simp [Rb,List.getD,hi]
     rwa [e] at this
  have smf:∀l:List En,Sm l→Ta l:=fun l hl=>by unfold Ta;unfold Sm at hl;omega
  refine Ub (wJ hS) ?_
  try dsimp only
  refine Aa.bnd (wK (Tc w) (by omega) (fun x hx=>smf _ (hfe x hx))) ?_
  rintro _ ⟨b2,rfl,hb⟩
  dsimp only
  refine Aa.ite (fun hc=>.some (no fun q=>?_)) (fun hc=>?_)
  ·have hc:b2=false:=by simpa using hc
   have:=hb.2 fun i hi=>q.ag hi
   rw [hc] at this;cases this
  have hag:=hb.1 (show b2=true by simpa using hc)
  refine Aa.bnd (R:=fun r=>match r with| .inl x=>x=(w.n,w.ls,w.up,w.sq,w.db,w.net,())∧∀i,i<w.db.length→(∀l∈Cb w.db i,Vg w Tb l)∧AD w i| .inr y=>y=(false,())∧¬WV w Tb) ?_ ?_
  ·refine Aa.count w.db.length (fun k t=>t=((k:Int),w.n,w.ls,w.up,w.sq,w.db,w.net,())∧∀i,i<k→(∀l∈Cb w.db i,Vg w Tb l)∧AD w i) ?_ (Nat.zero_le _) (Sb (by omega)) ⟨rfl,fun i hi=>by omega⟩
   rintro k t hk ⟨rfl,hok⟩
   by_cases hlt:k<w.db.length
   ·have hsm:=h.dbs k hlt
    have hv:=(hS.nd k hlt).2
    have hvl:=hv.len
    simp only [YB]
    refine Aa.gd (decide_eq_true (by omega)) (Aa.bnd (R:=fun r=>match r with| .inl x=>x=((k:Int),w.n,w.ls,w.up,w.sq,w.db,w.net,())∧∀l∈Cb w.db k,Vg w Tb l| .inr y=>y=(false,())∧¬WV w Tb) ?_ ?_)
    ·refine Aa.count (Cb w.db k).length (fun j t=>t=((k:Int),(j:Int),w.n,w.ls,w.up,w.sq,w.db,w.net,())∧∀i,i<j→Vg w Tb (Ya (Cb w.db k) i)) ?_ (Nat.zero_le _) (Sb (by omega)) ⟨rfl,fun i hi=>by omega⟩
     rintro j t hj ⟨rfl,hok2⟩
     by_cases hjl:j<(Cb w.db k).length
     ·have hm:Ya (Cb w.db k) j∈Cb w.db k:=Fg hjl
      simp (disch:=omega) only [XB,Bi,Eg,Wa,Sa,La,dD hS.g hS.up hs _ (hsm.2 _ hm),Option.bind_some]
      refine Aa.gd (Ja (by omega) (by omega)) (Aa.gd (decide_eq_true (by omega)) (Aa.gd (Ja (by omega) (by omega)) (Aa.gd (Ja (by omega) (by omega)) (Aa.ite (fun hc=>.some ⟨rfl,fun q=>?_⟩) (fun hc=>.some ⟨hjl,rfl,fun i hi=>?_⟩)))))
      ·have hc:poss w (Ya (Cb w.db k) j)=false:=by simpa using hc
       exact ZC.1 hc (q.poss _ (.inl ⟨k,hlt,hm⟩))
      ·have hp:=Kq.1 (show poss w (Ya (Cb w.db k) j)=true by simpa using hc)
       by_cases e:i<j
       ·exact hok2 i e
       ·obtain rfl:i=j:=by omega
        exact hp
     ·obtain rfl:j=(Cb w.db k).length:=by omega
      unfold XB
      simp only [Bi,Wa,La]
      refine Aa.gd (Ja (by omega) (by omega)) (Aa.no (dF (by omega)) (.some ⟨rfl,fun l hl=>?_⟩))
      obtain ⟨i,hi,rfl⟩:=List.getElem_of_mem hl
      rw [←Ad hi]
      exact hok2 i hi
    ·rintro (r|r) hr
     case inr =>
       obtain ⟨rfl,hr⟩:=hr
       exact .some ⟨rfl,hr⟩
     obtain ⟨rfl,hr⟩:=hr
     simp (disch:=omega) only [Bi,Wh,Wa,Sa,RT _ (k:Int) hsm.fits,Option.bind_some]
     refine Aa.gd (Ja (by omega) (by omega)) ?_
     cases hfd:fd (Cb w.db k) (k:Int) with
     |none =>
      refine Aa.gd rfl (.some ⟨rfl,fun q=>?_⟩)
      obtain ⟨l,hl,e1,_⟩:=q.own k hlt
      exact Kw.1 hfd l hl e1
     |some l0 =>
      obtain ⟨hm,ho⟩:=(Ui hv.so).1 hfd
      refine Aa.no rfl (Aa.gd (Ja (by omega) (by omega)) (Aa.ite (fun hc=>.some ⟨rfl,fun q=>?_⟩) (fun hc=>.some ⟨hlt,rfl,fun i hi=>?_⟩)))
      ·have hc:¬l0.s=iz w.sq k:=by simpa using hc
       obtain ⟨l,hl,e1,e2⟩:=q.own k hlt
       have:=(Ui hv.so).2 ⟨hl,e1⟩
       rw [hfd] at this
       injection this with this
       rw [this] at hc
       exact hc e2
      ·have hc:l0.s=iz w.sq k:=by simpa using hc
       by_cases e:i<k
       ·exact hok i e
       ·obtain rfl:i=k:=by omega
        exact ⟨hr,l0,hm,ho,hc⟩
   ·obtain rfl:k=w.db.length:=by omega
    unfold YB
    exact Aa.no (dF (by dsimp only;omega)) (.some ⟨rfl,hok⟩)
  rintro (r|r) hr
  case inr =>
    obtain ⟨rfl,hr⟩:=hr
    exact .some (no hr)
  obtain ⟨rfl,hnd⟩:=hr
  dsimp only
  refine Aa.bnd (R:=fun r=>match r with| .inl x=>∀i,i<w.net.length→(0≤(Rb w.net i).t∧(Rb w.net i).t<w.n)∧Vg w Tb (Rb w.net i).p| .inr y=>y=(false,())∧¬WV w Tb) ?_ ?_
  ·refine Aa.count w.net.length (fun k t=>t=((k:Int),w.n,w.ls,w.up,w.sq,w.db,w.net,())∧∀i,i<k→(0≤(Rb w.net i).t∧(Rb w.net i).t<w.n)∧Vg w Tb (Rb w.net i).p) ?_ (Nat.zero_le _) (Sb (by omega)) ⟨rfl,fun i hi=>by omega⟩
   rintro k t hk ⟨rfl,hok⟩
   by_cases hlt:k<w.net.length
   ·simp (disch:=omega) only [ZB,Jq,Wa,Sa,La,Xp,dD hS.g hS.up hs _ (h.pks k hlt),Option.bind_some]
    refine Aa.gd (decide_eq_true (by omega)) (Aa.gd (Ja (by omega) (by omega)) (Aa.ite (fun hc=>.some ⟨rfl,fun q=>?_⟩) (fun hc=>?_)))
    ·have hc:=Xi (show Dc (Rb w.net k).t 0 (w.n-1)=false by simpa using hc)
     have:=q.tgt _ (Qw hlt)
     omega
    have ht:=Mh (show Dc (Rb w.net k).t 0 (w.n-1)=true by simpa using hc)
    refine Aa.gd (Ja (by omega) (by omega)) (Aa.ite (fun hc=>.some ⟨rfl,fun q=>?_⟩) (fun hc=>.some ⟨hlt,rfl,fun i hi=>?_⟩))
    ·have hc:poss w (Rb w.net k).p=false:=by simpa using hc
     exact ZC.1 hc (q.poss _ (.inr ⟨_,Qw hlt,rfl⟩))
    ·have hp:=Kq.1 (show poss w (Rb w.net k).p=true by simpa using hc)
     by_cases e:i<k
     ·exact hok i e
     ·obtain rfl:i=k:=by omega
      exact ⟨by omega,hp⟩
   ·obtain rfl:k=w.net.length:=by omega
    unfold ZB
    simp only [La]
    exact Aa.no (dF (by omega)) (.some hok)
  rintro (r|r) hr
  case inr =>
    obtain ⟨rfl,hr⟩:=hr
    exact .some (no hr)
  refine .some ?_
  rw [Ci.2 (dG hS.g hS.up hs hd hn hS.nd (fun i hi=>(hnd i hi).2) (fun i hi=>(hr i hi).1) (fun i hi=>?_) hag)]
  rcases Lq.2 (Fg hi) with ⟨j,hj,hx⟩|⟨p,hp,e⟩
  ·exact (hnd j hj).1 _ hx
  ·rw [e]
   obtain ⟨j,hj,rfl⟩:=List.getElem_of_mem hp
   have:=(hr j hj).2
   have e2:Rb w.net j=w.net[j]:=by simp [Rb,List.getD,hj]
   rwa [e2] at this
end
end
section
open Go.RowKit
theorem OV {α:Type} {B:(List α×Int×Int×Unit)→Option ((List α×Int×Int×Unit)⊕((Int×Unit)⊕(Int×Unit)))} (P:α→Prop) (gw:α→Nat) (xs:List α) (q0:Int) (h0:0≤q0) (h1:q0≤2000000) (hx:Ta xs)
    (hB:∀(k:Nat) (x:α) (q:Int),xs[k]? =some x→0≤q→q≤2000000→Aa (B (xs,q,(k:Int),())) fun r=>r=.inr (.inr (-1,()))∨∃q',r=.inl (xs,q',((k+1:Nat):Int),())∧0≤q'∧q'+gw x≤q∧P x)
    (hE:∀q:Int,B (xs,q,(xs.length:Int),())=some (.inr (.inl (q,())))):Aa (lp B Fa (xs,q0,(0:Int),())) fun r=>match r with| .inl x=>∃q,x=(q,())∧0≤q∧q+Zb gw xs≤q0∧∀x∈xs,P x| .inr y=>y=(-1,()):=by
  refine Aa.count xs.length (fun k t=>∃q,t=(xs,q,(k:Int),())∧0≤q∧q+Zb gw (xs.take k)≤q0∧∀x∈xs.take k,P x) ?_ (Nat.zero_le _) (Sb hx) ⟨q0,rfl,h0,by simp [Zb],by simp⟩
  rintro k t hk ⟨q,rfl,g0,g1,hp⟩
  by_cases hlt:k<xs.length
  ·have hxk:=List.getElem?_eq_getElem hlt
   refine (hB k _ q hxk g0 (by omega)).mono fun r hr=>?_
   rcases hr with rfl|⟨q',rfl,e0,e1,e2⟩
   ·rfl
   ·refine ⟨hlt,q',rfl,e0,by have:=(Uv (c:=gw) xs k _ hxk).2;omega,fun x hx=>?_⟩
    rw [List.take_add_one,hxk] at hx
    rcases List.mem_append.1 hx with hx|hx
    ·exact hp x hx
    ·simp at hx
     rw [hx];exact e2
  ·obtain rfl:k=xs.length:=by omega
   rw [hE]
   rw [List.take_length] at hp g1
   exact .some ⟨q,rfl,g0,g1,hp⟩
def FD (db:List Ls):Prop:=Ta db∧∀l∈db,Ta l.e
def Mq (xs:List Ls):Nat:=xs.length+Zb (fun l:Ls=>l.e.length) xs
def DD (xs:List (List Ls)):Nat:=xs.length+Zb Mq xs
def ED (xs:List Pk):Nat:=xs.length+Zb (fun p:Pk=>p.p.e.length) xs
theorem wL (xs:List Bool) (h:xs.length≤16777216):CL (xs,())=some (xs,()):=by
  unfold CL
  simp only [La,Wa]
  refine Aa.out (Aa.gd (by simp;omega) (sv (Zp xs _ h (fun k x out hx ho=>?_) (fun out=>?_)) (.some rfl)))
  ·have hk:=Ge hx
   simp (disch:=omega) only [Xz,Re (τ:=.bool) hx,Wa,Sa,La,Option.bind_some]
   exact Aa.out (Aa.gd (decide_eq_true (by omega)) (Aa.gd (Ja (by omega) (by omega)) (Aa.gd (Ja (by omega) (by omega)) (.some rfl))))
  ·simp only [Xz,La]
   exact Aa.out (Aa.no (dF (by omega)) (.some rfl))
theorem wM (xs:List Bool) (h:Ta xs):KL (xs,xs,())=some (true,()):=by
  unfold KL
  unfold Ta at h
  simp only [La]
  refine Aa.out (Aa.no (by simp) (sv (Aq xs h (fun k x hx=>?_) ?_) (.some rfl)))
  ·have hk:=Ge hx
   simp (disch:=omega) only [DA,Re (τ:=.bool) hx,Wa,Sa,La,Option.bind_some,decide_true,Bool.not_true,cond_false,beq_self_eq_true]
   exact Aa.out (Aa.gd (decide_eq_true (by omega)) (Aa.gd (Ja (by omega) (by omega)) (Aa.gd (Ja (by omega) (by omega)) (.some rfl))))
  ·simp only [DA,La]
   exact Aa.out (Aa.no (dF (by omega)) (.some rfl))
theorem dJ (o s:Int) (es:List En) (h:es.length≤16777216):Zz (o,s,es,())=some (o,s,es,()):=by
  unfold Zz
  rw [tE es h];rfl
theorem dK (o s:Int) (es:List En) (h:Ta es):EA (o,s,es,o,s,es,())=some (true,()):=by
  unfold EA
  exact Aa.out (Aa.no (by simp) (Aa.no (by simp) (sv (tH es h) (Aa.no rfl (.some rfl)))))
theorem wN (t o s:Int) (es:List En) (h:es.length≤16777216):LL (t,o,s,es,())=some (t,o,s,es,()):=by
  unfold LL
  rw [dJ o s es h];rfl
theorem wO (t o s:Int) (es:List En) (h:Ta es):SL (t,o,s,es,t,o,s,es,())=some (true,()):=by
  unfold SL
  exact Aa.out (Aa.no (by simp) (sv (dK o s es h) (Aa.no rfl (.some rfl))))
theorem wP (xs:List Ls) (h:xs.length≤16777216) (he:∀l∈xs,l.e.length≤16777216):PL (xs,())=some (xs,()):=by
  unfold PL
  simp only [La,Wa]
  refine Aa.out (Aa.gd (by simp;omega) (sv (Zp xs _ h (fun k x out hx ho=>?_) (fun out=>?_)) (.some rfl)))
  ·have hk:=Ge hx
   simp (disch:=omega) only [FA,Re (τ:=.ls) hx,Wa,Sa,La]
   exact Aa.out (Aa.gd (decide_eq_true (by omega)) (Aa.gd (Ja (by omega) (by omega)) (sv (dJ _ _ _ (he x (List.mem_of_getElem? hx))) (Aa.gd (Ja (by omega) (by omega)) (.some rfl)))))
  ·simp only [FA,La]
   exact Aa.out (Aa.no (dF (by omega)) (.some rfl))
theorem wQ (xs:List Ls) (h:FD xs):TL (xs,xs,())=some (true,()):=by
  unfold TL
  have h1:=h.1
  unfold Ta at h1
  simp only [La]
  refine Aa.out (Aa.no (by simp) (sv (Aq xs h.1 (fun k x hx=>?_) ?_) (.some rfl)))
  ·have hk:=Ge hx
   simp (disch:=omega) only [JA,Re (τ:=.ls) hx,Wa,Sa,La]
   exact Aa.out (Aa.gd (decide_eq_true (by omega)) (Aa.gd (Ja (by omega) (by omega)) (Aa.gd (Ja (by omega) (by omega)) (sv (dK _ _ _ (h.2 x (List.mem_of_getElem? hx))) (Aa.no rfl (.some rfl))))))
  ·simp only [JA,La]
   exact Aa.out (Aa.no (dF (by omega)) (.some rfl))
theorem wR (xs:List (List Ls)) (h:xs.length≤16777216) (he:∀d∈xs,d.length≤16777216∧∀l∈d,l.e.length≤16777216):VL (xs,())=some (xs,()):=by
  unfold VL
  simp only [La,Wa]
  refine Aa.out (Aa.gd (by simp;omega) (sv (Zp xs _ h (fun k x out hx ho=>?_) (fun out=>?_)) (.some rfl)))
  ·have hk:=Ge hx
   have hm:=he x (List.mem_of_getElem? hx)
   simp (disch:=omega) only [LA,Re (τ:=.db) hx,Wa,Sa,La]
   exact Aa.out (Aa.gd (decide_eq_true (by omega)) (Aa.gd (Ja (by omega) (by omega)) (sv (wP x hm.1 hm.2) (Aa.gd (Ja (by omega) (by omega)) (.some rfl)))))
  ·simp only [LA,La]
   exact Aa.out (Aa.no (dF (by omega)) (.some rfl))
theorem wS (xs:List (List Ls)) (h:Ta xs) (he:∀d∈xs,FD d):YL (xs,xs,())=some (true,()):=by
  unfold YL
  have h1:=h
  unfold Ta at h1
  simp only [La]
  refine Aa.out (Aa.no (by simp) (sv (Aq xs h (fun k x hx=>?_) ?_) (.some rfl)))
  ·have hk:=Ge hx
   simp (disch:=omega) only [OA,Re (τ:=.db) hx,Wa,Sa,La]
   exact Aa.out (Aa.gd (decide_eq_true (by omega)) (Aa.gd (Ja (by omega) (by omega)) (Aa.gd (Ja (by omega) (by omega)) (sv (wQ x (he x (List.mem_of_getElem? hx))) (Aa.no rfl (.some rfl))))))
  ·simp only [OA,La]
   exact Aa.out (Aa.no (dF (by omega)) (.some rfl))
theorem wV (xs:List Pk) (h:xs.length≤16777216) (he:∀p∈xs,p.p.e.length≤16777216):RL (xs,())=some (xs,()):=by
  unfold RL
  simp only [La,Wa]
  refine Aa.out (Aa.gd (by simp;omega) (sv (Zp xs _ h (fun k x out hx ho=>?_) (fun out=>?_)) (.some rfl)))
  ·have hk:=Ge hx
   simp (disch:=omega) only [IA,Re (τ:=.pk) hx,Wa,Sa,La]
   exact Aa.out (Aa.gd (decide_eq_true (by omega)) (Aa.gd (Ja (by omega) (by omega)) (sv (wN _ _ _ _ (he x (List.mem_of_getElem? hx))) (Aa.gd (Ja (by omega) (by omega)) (.some rfl)))))
  ·simp only [IA,La]
   exact Aa.out (Aa.no (dF (by omega)) (.some rfl))
theorem wW (xs:List Pk) (h:Ta xs) (he:∀p∈xs,Ta p.p.e):XL (xs,xs,())=some (true,()):=by
  unfold XL
  have h1:=h
  unfold Ta at h1
  simp only [La]
  refine Aa.out (Aa.no (by simp) (sv (Aq xs h (fun k x hx=>?_) ?_) (.some rfl)))
  ·have hk:=Ge hx
   simp (disch:=omega) only [NA,Re (τ:=.pk) hx,Wa,Sa,La]
   exact Aa.out (Aa.gd (decide_eq_true (by omega)) (Aa.gd (Ja (by omega) (by omega)) (Aa.gd (Ja (by omega) (by omega)) (sv (wO _ _ _ _ (he x (List.mem_of_getElem? hx))) (Aa.no rfl (.some rfl))))))
  ·simp only [NA,La]
   exact Aa.out (Aa.no (dF (by omega)) (.some rfl))
def MD (db:List Ls):Prop:=Ie db∧∀l∈db,Ie l.e
def Ko (left:Int) (tot:Nat) (P:Prop) (r:Int×Unit):Prop:=r=(-1,())∨∃z,r=(z,())∧0≤z∧z+tot≤left∧P
theorem wX (xs:List Bool) (left:Int) (h:Ie xs) (h1:0≤left∧left≤2000000):Aa (EL (xs,left,())) (Ko left xs.length (xs.length≤2000000)):=by
  unfold Ie at h
  unfold EL
  simp (disch:=omega) only [La,Sa]
  refine Aa.ite (fun _=>.some (.inl rfl)) (fun h=>.some (.inr ⟨_,rfl,?_,?_,?_⟩))
  all_goals have h:=oF h
  all_goals omega
theorem wY (xs:List Int) (left:Int) (h:Ie xs) (h1:0≤left∧left≤2000000):Aa (IL (xs,left,())) (Ko left xs.length (xs.length≤2000000)):=by
  unfold Ie at h
  unfold IL
  simp (disch:=omega) only [La,Sa]
  refine Aa.ite (fun _=>.some (.inl rfl)) (fun h=>.some (.inr ⟨_,rfl,?_,?_,?_⟩))
  all_goals have h:=oF h
  all_goals omega
theorem wZ (n:Int) (xs:List Lk) (left:Int) (h:Ie xs) (h1:0≤left∧left≤2000000):Aa (Sz (n,xs,left,())) (Ko left xs.length (xs.length≤2000000)):=by
  rw [tQ n xs left h (by omega)]
  by_cases e:left-(xs.length:Int)<0
  ·rw [if_pos e];exact .some (.inl rfl)
  ·rw [if_neg e];exact .some (.inr ⟨_,rfl,by omega,by omega,by omega⟩)
theorem dL (o s:Int) (es:List En) (left:Int) (h:Ie es) (h1:0≤left∧left≤2000000):Aa (BA (o,s,es,left,())) (Ko left es.length (es.length≤2000000)):=by
  unfold BA
  refine sv (tR (es,left,()) h (by dsimp only;omega)) ?_
  dsimp only
  by_cases e:left-(es.length:Int)<0
  ·rw [if_pos e];exact Aa.gd rfl (.some (.inl rfl))
  ·rw [if_neg e];exact Aa.no (dF e) (.some (.inr ⟨_,rfl,by omega,by omega,by omega⟩))
theorem xA (t o s:Int) (es:List En) (left:Int) (h:Ie es) (h1:0≤left∧left≤2000000):Aa (OL (t,o,s,es,left,())) (Ko left es.length (es.length≤2000000)):=by
  unfold OL
  refine Aa.bnd (dL o s es left h h1) ?_
  rintro _ (rfl|⟨z,rfl,g0,g1,g2⟩)
  ·exact Aa.gd rfl (.some (.inl rfl))
  ·exact Aa.no (dF (by dsimp only;omega)) (.some (.inr ⟨z,rfl,g0,g1,g2⟩))
theorem xB (xs:List Ls) (left:Int) (h:MD xs) (h1:0≤left∧left≤2000000):Aa (QL (xs,left,())) (Ko left (Mq xs) (xs.length≤2000000∧∀l∈xs,l.e.length≤2000000)):=by
  have hf:=h.1
  unfold Ie at hf
  unfold QL
  simp (disch:=omega) only [La,Sa]
  refine Aa.ite (fun _=>.some (.inl rfl)) (fun h0=>?_)
  have h0:=oF h0
  refine Aa.bnd (OV (fun l:Ls=>l.e.length≤2000000) (fun l:Ls=>l.e.length) xs (left-xs.length) (by omega) (by omega) (by unfold Ta;omega) (fun k x q hx g0 g1=>?_) (fun q=>?_)) ?_
  ·have hk:=Ge hx
   simp (disch:=omega) only [GA,Re (τ:=.ls) hx,Wa,Sa,La]
   refine Aa.gd (decide_eq_true (by omega)) (Aa.gd (Ja (by omega) (by omega)) (Aa.bnd (dL _ _ _ q (h.2 x (List.mem_of_getElem? hx)) ⟨g0,g1⟩) ?_))
   rintro _ (rfl|⟨z,rfl,e0,e1,e2⟩)
   ·exact Aa.gd rfl (.some (.inl rfl))
   ·exact Aa.no (dF (by dsimp only;omega)) (.some (.inr ⟨z,rfl,e0,e1,e2⟩))
  ·simp only [GA,La]
   exact Aa.out (Aa.no (dF (by omega)) (.some rfl))
  ·rintro (r|r) hr
   ·obtain ⟨q,rfl,e0,e1,e2⟩:=hr
    exact .some (.inr ⟨q,rfl,e0,by unfold Mq;omega,by omega,e2⟩)
   ·obtain rfl:=hr
    exact .some (.inl rfl)
theorem xC (xs:List (List Ls)) (left:Int) (hf:Ie xs) (h:∀d∈xs,MD d) (h1:0≤left∧left≤2000000):Aa (WL (xs,left,())) (Ko left (DD xs) (xs.length≤2000000∧∀d∈xs,d.length≤2000000∧∀l∈d,l.e.length≤2000000)):=by
  have hf0:=hf
  unfold Ie at hf0
  unfold WL
  simp (disch:=omega) only [La,Sa]
  refine Aa.ite (fun _=>.some (.inl rfl)) (fun h0=>?_)
  have h0:=oF h0
  refine Aa.bnd (OV (fun d:List Ls=>d.length≤2000000∧∀l∈d,l.e.length≤2000000) Mq xs (left-xs.length) (by omega) (by omega) (by unfold Ta;omega) (fun k x q hx g0 g1=>?_) (fun q=>?_)) ?_
  ·have hk:=Ge hx
   simp (disch:=omega) only [MA,Re (τ:=.db) hx,Wa,Sa,La]
   refine Aa.gd (decide_eq_true (by omega)) (Aa.gd (Ja (by omega) (by omega)) (Aa.bnd (xB x q (h x (List.mem_of_getElem? hx)) ⟨g0,g1⟩) ?_))
   rintro _ (rfl|⟨z,rfl,e0,e1,e2⟩)
   ·exact Aa.gd rfl (.some (.inl rfl))
   ·exact Aa.no (dF (by dsimp only;omega)) (.some (.inr ⟨z,rfl,e0,e1,e2⟩))
  ·simp only [MA,La]
   exact Aa.out (Aa.no (dF (by omega)) (.some rfl))
  ·rintro (r|r) hr
   ·obtain ⟨q,rfl,e0,e1,e2⟩:=hr
    exact .some (.inr ⟨q,rfl,e0,by unfold DD;omega,by omega,e2⟩)
   ·obtain rfl:=hr
    exact .some (.inl rfl)
theorem xD (xs:List Pk) (left:Int) (hf:Ie xs) (h:∀p∈xs,Ie p.p.e) (h1:0≤left∧left≤2000000):Aa (UL (xs,left,())) (Ko left (ED xs) (xs.length≤2000000∧∀p∈xs,p.p.e.length≤2000000)):=by
  have hf0:=hf
  unfold Ie at hf0
  unfold UL
  simp (disch:=omega) only [La,Sa]
  refine Aa.ite (fun _=>.some (.inl rfl)) (fun h0=>?_)
  have h0:=oF h0
  refine Aa.bnd (OV (fun p:Pk=>p.p.e.length≤2000000) (fun p:Pk=>p.p.e.length) xs (left-xs.length) (by omega) (by omega) (by unfold Ta;omega) (fun k x q hx g0 g1=>?_) (fun q=>?_)) ?_
  ·have hk:=Ge hx
   simp (disch:=omega) only [KA,Re (τ:=.pk) hx,Wa,Sa,La]
   refine Aa.gd (decide_eq_true (by omega)) (Aa.gd (Ja (by omega) (by omega)) (Aa.bnd (xA _ _ _ _ q (h x (List.mem_of_getElem? hx)) ⟨g0,g1⟩) ?_))
   rintro _ (rfl|⟨z,rfl,e0,e1,e2⟩)
   ·exact Aa.gd rfl (.some (.inl rfl))
   ·exact Aa.no (dF (by dsimp only;omega)) (.some (.inr ⟨z,rfl,e0,e1,e2⟩))
  ·simp only [KA,La]
   exact Aa.out (Aa.no (dF (by omega)) (.some rfl))
  ·rintro (r|r) hr
   ·obtain ⟨q,rfl,e0,e1,e2⟩:=hr
    exact .some (.inr ⟨q,rfl,e0,by unfold ED;omega,by omega,e2⟩)
   ·obtain rfl:=hr
    exact .some (.inl rfl)
structure dM (w:Wd):Prop where
  ls:Ie w.ls
  up:Ie w.up
  sq:Ie w.sq
  db:Ie w.db
  net:Ie w.net
  dbs:∀d∈w.db,MD d
  pks:∀p∈w.net,Ie p.p.e
structure QV (w:Wd):Prop where
  ls:Ta w.ls
  up:Ta w.up
  sq:Ta w.sq
  db:Ta w.db
  net:Ta w.net
  dbs:∀d∈w.db,FD d
  pks:∀p∈w.net,Ta p.p.e
structure Nq (w:Wd):Prop where
  ls:w.ls.length≤2000000
  up:w.up.length≤2000000
  sq:w.sq.length≤2000000
  db:w.db.length≤2000000
  net:w.net.length≤2000000
  dbs:∀d∈w.db,d.length≤2000000∧∀l∈d,l.e.length≤2000000
  pks:∀p∈w.net,p.p.e.length≤2000000
theorem xE (w:Wd) (h:dM w):Aa (XT (w.n,w.ls,w.up,w.sq,w.db,w.net,1048576,())) fun r=>r=(-1,())∨∃z,r=(z,())∧0≤z∧Nq w∧(w.ls.length+w.up.length+w.sq.length+DD w.db+ED w.net:Int)≤1048576:=by
  unfold XT
  refine Aa.bnd (wZ w.n w.ls 1048576 h.ls (by omega)) ?_
  rintro _ (rfl|⟨z1,rfl,a0,a1,a2⟩)
  ·exact Aa.gd rfl (.some (.inl rfl))
  refine Aa.no (dF (by dsimp only;omega)) (Aa.bnd (wX w.up z1 h.up (by omega)) ?_)
  rintro _ (rfl|⟨z2,rfl,b0,b1,b2⟩)
  ·exact Aa.gd rfl (.some (.inl rfl))
  refine Aa.no (dF (by dsimp only;omega)) (Aa.bnd (wY w.sq z2 h.sq (by omega)) ?_)
  rintro _ (rfl|⟨z3,rfl,c0,c1,c2⟩)
  ·exact Aa.gd rfl (.some (.inl rfl))
  refine Aa.no (dF (by dsimp only;omega)) (Aa.bnd (xC w.db z3 h.db h.dbs (by omega)) ?_)
  rintro _ (rfl|⟨z4,rfl,d0,d1,d2,d3⟩)
  ·exact Aa.gd rfl (.some (.inl rfl))
  refine Aa.no (dF (by dsimp only;omega)) (Aa.bnd (xD w.net z4 h.net h.pks (by omega)) ?_)
  rintro _ (rfl|⟨z5,rfl,e0,e1,e2,e3⟩)
  ·exact Aa.gd rfl (.some (.inl rfl))
  exact Aa.no (dF (by dsimp only;omega)) (.some (.inr ⟨z5,rfl,e0,⟨a2,b2,c2,d2,e2,d3,e3⟩,by omega⟩))
theorem Nq.sm {w:Wd} (h:Nq w):Vi w:=⟨h.ls,h.up,h.sq,h.db,h.net,fun i hi=>by
    have e:Cb w.db i=w.db[i]:=by simp [Cb,List.getD,hi]
    have:=h.dbs (Cb w.db i) (by rw [e];exact List.getElem_mem hi)
    exact ⟨by unfold Sm;omega,fun l hl=>by have:=this.2 l hl;unfold Sm;omega⟩,fun i hi=>by
    have:=h.pks _ (Qw hi)
    unfold Sm;omega⟩
theorem Nq.fit {w:Wd} (h:Nq w):QV w:=⟨by have:=h.ls;unfold Ta;omega,by have:=h.up;unfold Ta;omega,by have:=h.sq;unfold Ta;omega,by have:=h.db;unfold Ta;omega,by have:=h.net;unfold Ta;omega,fun d hd=>⟨by have:=(h.dbs d hd).1;unfold Ta;omega,fun l hl=>by have:=(h.dbs d hd).2 l hl;unfold Ta;omega⟩,fun p hp=>by have:=h.pks p hp;unfold Ta;omega⟩
theorem xF (w:Wd) (h:Nq w):WT (w.n,w.ls,w.up,w.sq,w.db,w.net,())=some (w.n,w.ls,w.up,w.sq,w.db,w.net,()):=by
  have h1:=h.ls
  have h2:=h.up
  have h3:=h.sq
  have h4:=h.db
  have h5:=h.net
  unfold WT
  exact Aa.out (sv (tN w.n w.ls (by omega)) (sv (wL w.up (by omega)) (sv (tD w.sq (by omega)) (sv (wR w.db (by omega) fun d hd=>⟨by have:=(h.dbs d hd).1;omega,fun l hl=>by have:=(h.dbs d hd).2 l hl;omega⟩) (sv (wV w.net (by omega) fun p hp=>by have:=h.pks p hp;omega) (.some rfl))))))
theorem xG (w:Wd) (h:QV w):YT (w.n,w.ls,w.up,w.sq,w.db,w.net,w.n,w.ls,w.up,w.sq,w.db,w.net,())=some (true,()):=by
  unfold YT
  exact Aa.out (sv (bD _ _ h.ls) (Aa.no rfl (sv (wM _ h.up) (Aa.no rfl (sv (tG _ h.sq) (Aa.no rfl (sv (wS _ h.db h.dbs) (Aa.no rfl (sv (wW _ h.net h.pks) (Aa.no rfl (.some rfl)))))))))))
theorem xH (xs:List Ls):Ac xs=2*Mq xs:=by
  unfold Mq
  induction xs with
  |nil=>rfl
  |cons l r ih=>simp only [Ac,List.length_cons,Zb,ih];omega
theorem xI (xs:List (List Ls)):Uf xs≤2*DD xs:=by
  have h:Uf xs=2*Zb Mq xs:=by
    unfold Uf
    induction xs with
    |nil=>rfl
    |cons d r ih=>simp only [Zb,ih,xH];omega
  unfold DD
  omega
theorem xJ (xs:List Pk):Sg xs≤3*ED xs:=by
  have h:Sg xs=3*xs.length+2*Zb (fun p:Pk=>p.p.e.length) xs:=by
    unfold Sg
    induction xs with
    |nil=>rfl
    |cons d r ih=>simp only [Zb,ih,Fh,List.length_cons];omega
  unfold ED
  omega
end
section
open Go.RowKit
abbrev tk (n:Nat):List (Nat×Bool):=(List.range n).map fun i=>(i,true)
abbrev zx:Td:=⟨[999999],⟨[.c (.one (.own 0))],[]⟩,[]⟩
abbrev zc:Tm:=.c (.one (.b (.int .i64)))
abbrev zi:T1:=.b (.int .i64)
def RV:Na:=⟨⟨[.c (.one (.b (.sl false .lk))),zc],[]⟩,[.ls .lk,.int],⟨[zc],[]⟩,[.int],UK⟩
def SV:Ka:=Qa tab [] 12 0 [] []
theorem xK:Ma Tryz.prog SV.Γ:=Pa (l:=[]) trivial
theorem xL:GC Tryz.prog 60 RV:=Ra (G:=SV) (c:=Tryz.f60.body.getD .skip) Ga Ia xK mixed Tryz.func60 (by kernel_rfl) Tryz.ntmps60 (Ha (G:=SV) (n:=0) (by kernel_rfl) (by kernel_rfl) trivial (by kernel_rfl)) (fun s=>by kernel_rfl)
def TV:Na:=⟨⟨[.c (.agg [zi,(.b (.sl false .lk))]),zc],[]⟩,[.int,.ls .lk,.int],⟨[zc],[]⟩,[.int],Sz⟩
def UV:Ka:=Qa tab [(60,[],RV)] 12 0 [] []
theorem xM:Ma Tryz.prog UV.Γ:=Pa (l:=[(60,[],RV)]) ⟨⟨xL,Tryz.call60⟩,trivial⟩
theorem xN:GC Tryz.prog 19 TV:=Ra (G:=UV) (c:=Tryz.f19.body.getD .skip) Ga Ia xM mixed Tryz.func19 (by kernel_rfl) Tryz.ntmps19 (Ha (G:=UV) (n:=0) (by kernel_rfl) (by kernel_rfl) trivial (by kernel_rfl)) (fun s=>by kernel_rfl)
def VV:Na:=⟨⟨[.c (.agg [zi,zi,zi])],[]⟩,[.int,.int,.int],⟨[.c (.agg [zi,zi,zi])],[]⟩,[.int,.int,.int],ST⟩
def XV:Ka:=Qa tab [] 14 0 [] []
theorem xO:Ma Tryz.prog XV.Γ:=Pa (l:=[]) trivial
theorem xP:GC Tryz.prog 108 VV:=Ra (G:=XV) (c:=Tryz.f108.body.getD .skip) Ga Ia xO mixed Tryz.func108 (by kernel_rfl) Tryz.ntmps108 (Ha (G:=XV) (n:=0) (by kernel_rfl) (by kernel_rfl) trivial (by kernel_rfl)) (fun s=>by kernel_rfl)
def YV:Na:=⟨⟨[.c (.agg [zi,zi,zi]),.c (.agg [zi,zi,zi])],[]⟩,[.int,.int,.int,.int,.int,.int],⟨[.c (.one (.b .bool))],[]⟩,[.bool],TT⟩
def ZV:Ka:=Qa tab [] 20 0 [] []
theorem xQ:Ma Tryz.prog ZV.Γ:=Pa (l:=[]) trivial
theorem xR:GC Tryz.prog 94 YV:=Ra (G:=ZV) (c:=Tryz.f94.body.getD .skip) Ga Ia xQ mixed Tryz.func94 (by kernel_rfl) Tryz.ntmps94 (Ha (G:=ZV) (n:=0) (by kernel_rfl) (by kernel_rfl) trivial (by kernel_rfl)) (fun s=>by kernel_rfl)
def Oq:Xa:=⟨⟨[0,3,4],⟨[.c (.one (.b (.sl false .int))),.c (.one (.own 0)),zc],[.row 3 .int]⟩,[.ls .int,.int,.ls .int]⟩,0,⟨[3],⟨[.c (.one (.own 0))],[.row 3 .int]⟩,[.ls .int]⟩,zx,lp Tz Fa⟩
def AW:Na:=⟨⟨[.c (.one (.b (.sl false .int)))],[]⟩,[.ls .int],⟨[.c (.one (.own 0))],[.row 3 .int]⟩,[.ls .int],VK⟩
def GD:Ka:=Qa tab [] 22 0 [] [(3,Oq)]
theorem dN:Ma Tryz.prog GD.Γ:=Pa (l:=[]) trivial
theorem xS:Db Tryz.prog 0 22 (Ab (Tryz.f40.body.getD .skip) 0) Oq:=Eb (G:=GD) (F:=Oq.F) (eid:=Oq.eid) (FX:=Oq.FX) (FR:=Oq.FR) (B:=Tz) (n:=Fa) Ga Ia dN mixed (Ha (G:=GD) (n:=0) (by kernel_rfl) (by kernel_rfl) trivial (by kernel_rfl)) (fun s=>by kernel_rfl)
theorem xT:GC Tryz.prog 40 AW:=Ra (G:=GD) (c:=Tryz.f40.body.getD .skip) Ga Ia dN mixed Tryz.func40 (by kernel_rfl) Tryz.ntmps40 (Ha (G:=GD) (n:=1) (by kernel_rfl) (by kernel_rfl) ⟨trivial,Fb (id:=3) (L0:=Oq) (by kernel_rfl) (by kernel_rfl) xS⟩ (by kernel_rfl)) (fun s=>by kernel_rfl)
def Pq:Xa:=⟨⟨[0,3,4],⟨[.c (.one (.b (.sl false .lk))),.c (.one (.own 0)),zc],[.row 114 .lk]⟩,[.ls .lk,.int,.ls .lk]⟩,0,⟨[3],⟨[.c (.one (.own 0))],[.row 114 .lk]⟩,[.ls .lk]⟩,zx,lp Uz Fa⟩
def BW:Na:=⟨⟨[.c (.one (.b (.sl false .lk)))],[]⟩,[.ls .lk],⟨[.c (.one (.own 0))],[.row 114 .lk]⟩,[.ls .lk],WK⟩
def HD:Ka:=Qa tab [(108,[],VV)] 23 0 [] [(3,Pq)]
theorem dO:Ma Tryz.prog HD.Γ:=Pa (l:=[(108,[],VV)]) ⟨⟨xP,Tryz.call108⟩,trivial⟩
theorem xU:Db Tryz.prog 0 23 (Ab (Tryz.f64.body.getD .skip) 0) Pq:=Eb (G:=HD) (F:=Pq.F) (eid:=Pq.eid) (FX:=Pq.FX) (FR:=Pq.FR) (B:=Uz) (n:=Fa) Ga Ia dO mixed (Ha (G:=HD) (n:=0) (by kernel_rfl) (by kernel_rfl) trivial (by kernel_rfl)) (fun s=>by kernel_rfl)
theorem xV:GC Tryz.prog 64 BW:=Ra (G:=HD) (c:=Tryz.f64.body.getD .skip) Ga Ia dO mixed Tryz.func64 (by kernel_rfl) Tryz.ntmps64 (Ha (G:=HD) (n:=1) (by kernel_rfl) (by kernel_rfl) ⟨trivial,Fb (id:=3) (L0:=Pq) (by kernel_rfl) (by kernel_rfl) xU⟩ (by kernel_rfl)) (fun s=>by kernel_rfl)
def Qq:Xa:=⟨⟨[0,1,5],⟨[.c (.one (.b (.sl false .int))),.c (.one (.b (.sl false .int))),zc],[]⟩,[.ls .int,.ls .int,.int]⟩,0,⟨[],⟨[],[]⟩,[]⟩,⟨[4],⟨[.c (.one (.b .bool))],[]⟩,[.bool]⟩,lp Vz Fa⟩
def CW:Na:=⟨⟨[.c (.one (.b (.sl false .int))),.c (.one (.b (.sl false .int)))],[]⟩,[.ls .int,.ls .int],⟨[.c (.one (.b .bool))],[]⟩,[.bool],XK⟩
def ID:Ka:=Qa tab [] 26 0 [(6,8,tk 8,[])] [(4,Qq)]
theorem dP:Ma Tryz.prog ID.Γ:=Pa (l:=[]) trivial
theorem xW:Db Tryz.prog 0 26 (Ab (Tryz.f47.body.getD .skip) 0) Qq:=Eb (G:=ID) (F:=Qq.F) (eid:=Qq.eid) (FX:=Qq.FX) (FR:=Qq.FR) (B:=Vz) (n:=Fa) Ga Ia dP mixed (Ha (G:=ID) (n:=0) (by kernel_rfl) (by kernel_rfl) trivial (by kernel_rfl)) (fun s=>by kernel_rfl)
theorem xX:GC Tryz.prog 47 CW:=Ra (G:=ID) (c:=Tryz.f47.body.getD .skip) Ga Ia dP mixed Tryz.func47 (by kernel_rfl) Tryz.ntmps47 (Ha (G:=ID) (n:=1) (by kernel_rfl) (by kernel_rfl) ⟨trivial,Fb (id:=4) (L0:=Qq) (by kernel_rfl) (by kernel_rfl) xW⟩ (by kernel_rfl)) (fun s=>by kernel_rfl)
def DW:Na:=⟨⟨[.c (.one (.b (.sl false .en))),zc],[]⟩,[.ls .en,.int],⟨[zc],[]⟩,[.int],YK⟩
def EW:Ka:=Qa tab [] 12 0 [] []
theorem xY:Ma Tryz.prog EW.Γ:=Pa (l:=[]) trivial
theorem xZ:GC Tryz.prog 148 DW:=Ra (G:=EW) (c:=Tryz.f148.body.getD .skip) Ga Ia xY mixed Tryz.func148 (by kernel_rfl) Tryz.ntmps148 (Ha (G:=EW) (n:=0) (by kernel_rfl) (by kernel_rfl) trivial (by kernel_rfl)) (fun s=>by kernel_rfl)
def GW:Na:=⟨⟨[.c (.agg [zi,(.b (.sl false .lk))])],[]⟩,[.int,.ls .lk],⟨[.c (.agg [zi,(.own 0)])],[.row 114 .lk]⟩,[.int,.ls .lk],ZK⟩
def HW:Ka:=Qa tab [(64,[],BW)] 12 0 [] []
theorem yA:Ma Tryz.prog HW.Γ:=Pa (l:=[(64,[],BW)]) ⟨⟨xV,Tryz.call64⟩,trivial⟩
theorem yB:GC Tryz.prog 22 GW:=Ra (G:=HW) (c:=Tryz.f22.body.getD .skip) Ga Ia yA mixed Tryz.func22 (by kernel_rfl) Tryz.ntmps22 (Ha (G:=HW) (n:=0) (by kernel_rfl) (by kernel_rfl) trivial (by kernel_rfl)) (fun s=>by kernel_rfl)
def Rq:Xa:=⟨⟨[0,1,5],⟨[.c (.one (.b (.sl false .lk))),.c (.one (.b (.sl false .lk))),zc],[]⟩,[.ls .lk,.ls .lk,.int]⟩,0,⟨[],⟨[],[]⟩,[]⟩,⟨[4],⟨[.c (.one (.b .bool))],[]⟩,[.bool]⟩,lp Wz Fa⟩
def IW:Na:=⟨⟨[.c (.one (.b (.sl false .lk))),.c (.one (.b (.sl false .lk)))],[]⟩,[.ls .lk,.ls .lk],⟨[.c (.one (.b .bool))],[]⟩,[.bool],AL⟩
def JD:Ka:=Qa tab [(94,[],YV)] 27 0 [(6,8,tk 8,[])] [(4,Rq)]
theorem dQ:Ma Tryz.prog JD.Γ:=Pa (l:=[(94,[],YV)]) ⟨⟨xR,Tryz.call94⟩,trivial⟩
theorem yC:Db Tryz.prog 0 27 (Ab (Tryz.f45.body.getD .skip) 0) Rq:=Eb (G:=JD) (F:=Rq.F) (eid:=Rq.eid) (FX:=Rq.FX) (FR:=Rq.FR) (B:=Wz) (n:=Fa) Ga Ia dQ mixed (Ha (G:=JD) (n:=0) (by kernel_rfl) (by kernel_rfl) trivial (by kernel_rfl)) (fun s=>by kernel_rfl)
theorem yD:GC Tryz.prog 45 IW:=Ra (G:=JD) (c:=Tryz.f45.body.getD .skip) Ga Ia dQ mixed Tryz.func45 (by kernel_rfl) Tryz.ntmps45 (Ha (G:=JD) (n:=1) (by kernel_rfl) (by kernel_rfl) ⟨trivial,Fb (id:=4) (L0:=Rq) (by kernel_rfl) (by kernel_rfl) yC⟩ (by kernel_rfl)) (fun s=>by kernel_rfl)
def JW:Na:=⟨⟨[.c (.agg [zi,zi])],[]⟩,[.int,.int],⟨[.c (.agg [zi,zi])],[]⟩,[.int,.int],UT⟩
def KW:Ka:=Qa tab [] 11 0 [] []
theorem yE:Ma Tryz.prog KW.Γ:=Pa (l:=[]) trivial
theorem yF:GC Tryz.prog 161 JW:=Ra (G:=KW) (c:=Tryz.f161.body.getD .skip) Ga Ia yE mixed Tryz.func161 (by kernel_rfl) Tryz.ntmps161 (Ha (G:=KW) (n:=0) (by kernel_rfl) (by kernel_rfl) trivial (by kernel_rfl)) (fun s=>by kernel_rfl)
def LW:Na:=⟨⟨[.c (.agg [zi,zi]),.c (.agg [zi,zi])],[]⟩,[.int,.int,.int,.int],⟨[.c (.one (.b .bool))],[]⟩,[.bool],VT⟩
def MW:Ka:=Qa tab [] 15 0 [] []
theorem yG:Ma Tryz.prog MW.Γ:=Pa (l:=[]) trivial
theorem yH:GC Tryz.prog 162 LW:=Ra (G:=MW) (c:=Tryz.f162.body.getD .skip) Ga Ia yG mixed Tryz.func162 (by kernel_rfl) Tryz.ntmps162 (Ha (G:=MW) (n:=0) (by kernel_rfl) (by kernel_rfl) trivial (by kernel_rfl)) (fun s=>by kernel_rfl)
def NW:Na:=⟨⟨[.c (.agg [zi,(.b (.sl false .lk))]),.c (.agg [zi,(.b (.sl false .lk))])],[]⟩,[.int,.ls .lk,.int,.ls .lk],⟨[.c (.one (.b .bool))],[]⟩,[.bool],BL⟩
def OW:Ka:=Qa tab [(45,[],IW)] 16 0 [] []
theorem yI:Ma Tryz.prog OW.Γ:=Pa (l:=[(45,[],IW)]) ⟨⟨yD,Tryz.call45⟩,trivial⟩
theorem dR:GC Tryz.prog 12 NW:=Ra (G:=OW) (c:=Tryz.f12.body.getD .skip) Ga Ia yI mixed Tryz.func12 (by kernel_rfl) Tryz.ntmps12 (Ha (G:=OW) (n:=0) (by kernel_rfl) (by kernel_rfl) trivial (by kernel_rfl)) (fun s=>by kernel_rfl)
def Sq:Xa:=⟨⟨[0,3,4],⟨[.c (.one (.b (.sl false .bool))),.c (.one (.own 0)),zc],[.row 4 .bool]⟩,[.ls .bool,.int,.ls .bool]⟩,0,⟨[3],⟨[.c (.one (.own 0))],[.row 4 .bool]⟩,[.ls .bool]⟩,zx,lp Xz Fa⟩
def PW:Na:=⟨⟨[.c (.one (.b (.sl false .bool)))],[]⟩,[.ls .bool],⟨[.c (.one (.own 0))],[.row 4 .bool]⟩,[.ls .bool],CL⟩
def KD:Ka:=Qa tab [] 22 0 [] [(3,Sq)]
theorem dS:Ma Tryz.prog KD.Γ:=Pa (l:=[]) trivial
theorem yJ:Db Tryz.prog 0 22 (Ab (Tryz.f39.body.getD .skip) 0) Sq:=Eb (G:=KD) (F:=Sq.F) (eid:=Sq.eid) (FX:=Sq.FX) (FR:=Sq.FR) (B:=Xz) (n:=Fa) Ga Ia dS mixed (Ha (G:=KD) (n:=0) (by kernel_rfl) (by kernel_rfl) trivial (by kernel_rfl)) (fun s=>by kernel_rfl)
theorem yK:GC Tryz.prog 39 PW:=Ra (G:=KD) (c:=Tryz.f39.body.getD .skip) Ga Ia dS mixed Tryz.func39 (by kernel_rfl) Tryz.ntmps39 (Ha (G:=KD) (n:=1) (by kernel_rfl) (by kernel_rfl) ⟨trivial,Fb (id:=3) (L0:=Sq) (by kernel_rfl) (by kernel_rfl) yJ⟩ (by kernel_rfl)) (fun s=>by kernel_rfl)
def Tq:Xa:=⟨⟨[0,3,4],⟨[.c (.one (.b (.sl false .en))),.c (.one (.own 0)),zc],[.row 153 .en]⟩,[.ls .en,.int,.ls .en]⟩,0,⟨[3],⟨[.c (.one (.own 0))],[.row 153 .en]⟩,[.ls .en]⟩,zx,lp Yz Fa⟩
def QW:Na:=⟨⟨[.c (.one (.b (.sl false .en)))],[]⟩,[.ls .en],⟨[.c (.one (.own 0))],[.row 153 .en]⟩,[.ls .en],DL⟩
def LD:Ka:=Qa tab [(161,[],JW)] 23 0 [] [(3,Tq)]
theorem dU:Ma Tryz.prog LD.Γ:=Pa (l:=[(161,[],JW)]) ⟨⟨yF,Tryz.call161⟩,trivial⟩
theorem yL:Db Tryz.prog 0 23 (Ab (Tryz.f149.body.getD .skip) 0) Tq:=Eb (G:=LD) (F:=Tq.F) (eid:=Tq.eid) (FX:=Tq.FX) (FR:=Tq.FR) (B:=Yz) (n:=Fa) Ga Ia dU mixed (Ha (G:=LD) (n:=0) (by kernel_rfl) (by kernel_rfl) trivial (by kernel_rfl)) (fun s=>by kernel_rfl)
theorem yM:GC Tryz.prog 149 QW:=Ra (G:=LD) (c:=Tryz.f149.body.getD .skip) Ga Ia dU mixed Tryz.func149 (by kernel_rfl) Tryz.ntmps149 (Ha (G:=LD) (n:=1) (by kernel_rfl) (by kernel_rfl) ⟨trivial,Fb (id:=3) (L0:=Tq) (by kernel_rfl) (by kernel_rfl) yL⟩ (by kernel_rfl)) (fun s=>by kernel_rfl)
def RW:Na:=⟨⟨[.c (.one (.b (.sl false .bool))),zc],[]⟩,[.ls .bool,.int],⟨[zc],[]⟩,[.int],EL⟩
def SW:Ka:=Qa tab [] 12 0 [] []
theorem yN:Ma Tryz.prog SW.Γ:=Pa (l:=[]) trivial
theorem yO:GC Tryz.prog 33 RW:=Ra (G:=SW) (c:=Tryz.f33.body.getD .skip) Ga Ia yN mixed Tryz.func33 (by kernel_rfl) Tryz.ntmps33 (Ha (G:=SW) (n:=0) (by kernel_rfl) (by kernel_rfl) trivial (by kernel_rfl)) (fun s=>by kernel_rfl)
def TW:Na:=⟨⟨[.c (.one (.b (.sl false .int))),zc],[]⟩,[.ls .int,.int],⟨[zc],[]⟩,[.int],IL⟩
def UW:Ka:=Qa tab [] 12 0 [] []
theorem yP:Ma Tryz.prog UW.Γ:=Pa (l:=[]) trivial
theorem yQ:GC Tryz.prog 34 TW:=Ra (G:=UW) (c:=Tryz.f34.body.getD .skip) Ga Ia yP mixed Tryz.func34 (by kernel_rfl) Tryz.ntmps34 (Ha (G:=UW) (n:=0) (by kernel_rfl) (by kernel_rfl) trivial (by kernel_rfl)) (fun s=>by kernel_rfl)
def ND:Na:=⟨⟨[.c (.agg [zi,zi,(.b (.sl false .en))])],[]⟩,[.int,.int,.ls .en],⟨[.c (.agg [zi,zi,(.own 0)])],[.row 153 .en]⟩,[.int,.int,.ls .en],Zz⟩
def WW:Ka:=Qa Ag [(149,[],QW)] 15 0 [] []
theorem yR:Ma Tryz.prog WW.Γ:=Pa (l:=[(149,[],QW)]) ⟨⟨yM,Tryz.call149⟩,trivial⟩
theorem dV:GC Tryz.prog 131 ND:=Ra (G:=WW) (c:=Tryz.f131.body.getD .skip) Ga Xc yR mixed Tryz.func131 (by kernel_rfl) Tryz.ntmps131 (Ha (G:=WW) (n:=0) (by kernel_rfl) (by kernel_rfl) trivial (by kernel_rfl)) (fun s=>by kernel_rfl)
def Uq:Xa:=⟨⟨[0,1,5],⟨[.c (.one (.b (.sl false .en))),.c (.one (.b (.sl false .en))),zc],[]⟩,[.ls .en,.ls .en,.int]⟩,0,⟨[],⟨[],[]⟩,[]⟩,⟨[4],⟨[.c (.one (.b .bool))],[]⟩,[.bool]⟩,lp AA Fa⟩
def XW:Na:=⟨⟨[.c (.one (.b (.sl false .en))),.c (.one (.b (.sl false .en)))],[]⟩,[.ls .en,.ls .en],⟨[.c (.one (.b .bool))],[]⟩,[.bool],JL⟩
def OD:Ka:=Qa tab [(162,[],LW)] 27 0 [(6,8,tk 8,[])] [(4,Uq)]
theorem dW:Ma Tryz.prog OD.Γ:=Pa (l:=[(162,[],LW)]) ⟨⟨yH,Tryz.call162⟩,trivial⟩
theorem yS:Db Tryz.prog 0 27 (Ab (Tryz.f153.body.getD .skip) 0) Uq:=Eb (G:=OD) (F:=Uq.F) (eid:=Uq.eid) (FX:=Uq.FX) (FR:=Uq.FR) (B:=AA) (n:=Fa) Ga Ia dW mixed (Ha (G:=OD) (n:=0) (by kernel_rfl) (by kernel_rfl) trivial (by kernel_rfl)) (fun s=>by kernel_rfl)
theorem yT:GC Tryz.prog 153 XW:=Ra (G:=OD) (c:=Tryz.f153.body.getD .skip) Ga Ia dW mixed Tryz.func153 (by kernel_rfl) Tryz.ntmps153 (Ha (G:=OD) (n:=1) (by kernel_rfl) (by kernel_rfl) ⟨trivial,Fb (id:=4) (L0:=Uq) (by kernel_rfl) (by kernel_rfl) yS⟩ (by kernel_rfl)) (fun s=>by kernel_rfl)
def PD:Na:=⟨⟨[.c (.agg [zi,zi,(.b (.sl false .en))]),zc],[]⟩,[.int,.int,.ls .en,.int],⟨[zc],[]⟩,[.int],BA⟩
def YW:Ka:=Qa tab [(148,[],DW)] 12 0 [] []
theorem yU:Ma Tryz.prog YW.Γ:=Pa (l:=[(148,[],DW)]) ⟨⟨xZ,Tryz.call148⟩,trivial⟩
theorem dX:GC Tryz.prog 126 PD:=Ra (G:=YW) (c:=Tryz.f126.body.getD .skip) Ga Ia yU mixed Tryz.func126 (by kernel_rfl) Tryz.ntmps126 (Ha (G:=YW) (n:=0) (by kernel_rfl) (by kernel_rfl) trivial (by kernel_rfl)) (fun s=>by kernel_rfl)
def Vq:Xa:=⟨⟨[0,1,5],⟨[.c (.one (.b (.sl false .bool))),.c (.one (.b (.sl false .bool))),zc],[]⟩,[.ls .bool,.ls .bool,.int]⟩,0,⟨[],⟨[],[]⟩,[]⟩,⟨[4],⟨[.c (.one (.b .bool))],[]⟩,[.bool]⟩,lp DA Fa⟩
def ZW:Na:=⟨⟨[.c (.one (.b (.sl false .bool))),.c (.one (.b (.sl false .bool)))],[]⟩,[.ls .bool,.ls .bool],⟨[.c (.one (.b .bool))],[]⟩,[.bool],KL⟩
def QD:Ka:=Qa tab [] 26 0 [(6,8,tk 8,[])] [(4,Vq)]
theorem dY:Ma Tryz.prog QD.Γ:=Pa (l:=[]) trivial
theorem yV:Db Tryz.prog 0 26 (Ab (Tryz.f46.body.getD .skip) 0) Vq:=Eb (G:=QD) (F:=Vq.F) (eid:=Vq.eid) (FX:=Vq.FX) (FR:=Vq.FR) (B:=DA) (n:=Fa) Ga Ia dY mixed (Ha (G:=QD) (n:=0) (by kernel_rfl) (by kernel_rfl) trivial (by kernel_rfl)) (fun s=>by kernel_rfl)
theorem yW:GC Tryz.prog 46 ZW:=Ra (G:=QD) (c:=Tryz.f46.body.getD .skip) Ga Ia dY mixed Tryz.func46 (by kernel_rfl) Tryz.ntmps46 (Ha (G:=QD) (n:=1) (by kernel_rfl) (by kernel_rfl) ⟨trivial,Fb (id:=4) (L0:=Vq) (by kernel_rfl) (by kernel_rfl) yV⟩ (by kernel_rfl)) (fun s=>by kernel_rfl)
def AX:Na:=⟨⟨[.c (.agg [zi,zi,zi,(.b (.sl false .en))])],[]⟩,[.int,.int,.int,.ls .en],⟨[.c (.agg [zi,zi,zi,(.own 0)])],[.row 153 .en]⟩,[.int,.int,.int,.ls .en],LL⟩
def BX:Ka:=Qa Ag [(131,[],ND)] 12 0 [] []
theorem yX:Ma Tryz.prog BX.Γ:=Pa (l:=[(131,[],ND)]) ⟨⟨dV,Tryz.call131⟩,trivial⟩
theorem yY:GC Tryz.prog 84 AX:=Ra (G:=BX) (c:=Tryz.f84.body.getD .skip) Ga Xc yX mixed Tryz.func84 (by kernel_rfl) Tryz.ntmps84 (Ha (G:=BX) (n:=0) (by kernel_rfl) (by kernel_rfl) trivial (by kernel_rfl)) (fun s=>by kernel_rfl)
def CX:Na:=⟨⟨[.c (.agg [zi,zi,zi,(.b (.sl false .en))]),zc],[]⟩,[.int,.int,.int,.ls .en,.int],⟨[zc],[]⟩,[.int],OL⟩
def DX:Ka:=Qa tab [(126,[],PD)] 12 0 [] []
theorem yZ:Ma Tryz.prog DX.Γ:=Pa (l:=[(126,[],PD)]) ⟨⟨dX,Tryz.call126⟩,trivial⟩
theorem zA:GC Tryz.prog 76 CX:=Ra (G:=DX) (c:=Tryz.f76.body.getD .skip) Ga Ia yZ mixed Tryz.func76 (by kernel_rfl) Tryz.ntmps76 (Ha (G:=DX) (n:=0) (by kernel_rfl) (by kernel_rfl) trivial (by kernel_rfl)) (fun s=>by kernel_rfl)
def RD:Na:=⟨⟨[.c (.agg [zi,zi,(.b (.sl false .en))]),.c (.agg [zi,zi,(.b (.sl false .en))])],[]⟩,[.int,.int,.ls .en,.int,.int,.ls .en],⟨[.c (.one (.b .bool))],[]⟩,[.bool],EA⟩
def EX:Ka:=Qa tab [(153,[],XW)] 21 0 [] []
theorem zB:Ma Tryz.prog EX.Γ:=Pa (l:=[(153,[],XW)]) ⟨⟨yT,Tryz.call153⟩,trivial⟩
theorem dZ:GC Tryz.prog 139 RD:=Ra (G:=EX) (c:=Tryz.f139.body.getD .skip) Ga Ia zB mixed Tryz.func139 (by kernel_rfl) Tryz.ntmps139 (Ha (G:=EX) (n:=0) (by kernel_rfl) (by kernel_rfl) trivial (by kernel_rfl)) (fun s=>by kernel_rfl)
def Wq:Xa:=⟨⟨[0,3,4],⟨[.c (.one (.b (.sl false .ls))),.c (.one (.own 0)),zc],[.row 108 .uls]⟩,[.ls .ls,.int,.ls .uls]⟩,0,⟨[3],⟨[.c (.one (.own 0))],[.row 108 .uls]⟩,[.ls .uls]⟩,zx,lp FA Fa⟩
def GX:Na:=⟨⟨[.c (.one (.b (.sl false .ls)))],[]⟩,[.ls .ls],⟨[.c (.one (.own 0))],[.row 108 .uls]⟩,[.ls .uls],PL⟩
def SD:Ka:=Qa Ag [(131,[],ND)] 23 0 [] [(3,Wq)]
theorem eB:Ma Tryz.prog SD.Γ:=Pa (l:=[(131,[],ND)]) ⟨⟨dV,Tryz.call131⟩,trivial⟩
theorem zC:Db Tryz.prog 0 23 (Ab (Tryz.f83.body.getD .skip) 0) Wq:=Eb (G:=SD) (F:=Wq.F) (eid:=Wq.eid) (FX:=Wq.FX) (FR:=Wq.FR) (B:=FA) (n:=Fa) Ga Xc eB mixed (Ha (G:=SD) (n:=0) (by kernel_rfl) (by kernel_rfl) trivial (by kernel_rfl)) (fun s=>by kernel_rfl)
theorem zD:GC Tryz.prog 83 GX:=Ra (G:=SD) (c:=Tryz.f83.body.getD .skip) Ga Xc eB mixed Tryz.func83 (by kernel_rfl) Tryz.ntmps83 (Ha (G:=SD) (n:=1) (by kernel_rfl) (by kernel_rfl) ⟨trivial,Fb (id:=3) (L0:=Wq) (by kernel_rfl) (by kernel_rfl) zC⟩ (by kernel_rfl)) (fun s=>by kernel_rfl)
def Xq:Xa:=⟨⟨[0,1,5],⟨[.c (.one (.b (.sl false .ls))),zc,zc],[]⟩,[.ls .ls,.int,.int]⟩,0,⟨[1],⟨[zc],[]⟩,[.int]⟩,⟨[4],⟨[zc],[]⟩,[.int]⟩,lp GA Fa⟩
def HX:Na:=⟨⟨[.c (.one (.b (.sl false .ls))),zc],[]⟩,[.ls .ls,.int],⟨[zc],[]⟩,[.int],QL⟩
def TD:Ka:=Qa tab [(126,[],PD)] 27 0 [] [(5,Xq)]
theorem eC:Ma Tryz.prog TD.Γ:=Pa (l:=[(126,[],PD)]) ⟨⟨dX,Tryz.call126⟩,trivial⟩
theorem zE:Db Tryz.prog 0 27 (Ab (Tryz.f75.body.getD .skip) 0) Xq:=Eb (G:=TD) (F:=Xq.F) (eid:=Xq.eid) (FX:=Xq.FX) (FR:=Xq.FR) (B:=GA) (n:=Fa) Ga Ia eC mixed (Ha (G:=TD) (n:=0) (by kernel_rfl) (by kernel_rfl) trivial (by kernel_rfl)) (fun s=>by kernel_rfl)
theorem zF:GC Tryz.prog 75 HX:=Ra (G:=TD) (c:=Tryz.f75.body.getD .skip) Ga Ia eC mixed Tryz.func75 (by kernel_rfl) Tryz.ntmps75 (Ha (G:=TD) (n:=1) (by kernel_rfl) (by kernel_rfl) ⟨trivial,Fb (id:=5) (L0:=Xq) (by kernel_rfl) (by kernel_rfl) zE⟩ (by kernel_rfl)) (fun s=>by kernel_rfl)
def Yq:Xa:=⟨⟨[0,3,4],⟨[.c (.one (.b (.sl false .pk))),.c (.one (.own 0)),zc],[.row 112 .upk]⟩,[.ls .pk,.int,.ls .upk]⟩,0,⟨[3],⟨[.c (.one (.own 0))],[.row 112 .upk]⟩,[.ls .upk]⟩,zx,lp IA Fa⟩
def IX:Na:=⟨⟨[.c (.one (.b (.sl false .pk)))],[]⟩,[.ls .pk],⟨[.c (.one (.own 0))],[.row 112 .upk]⟩,[.ls .upk],RL⟩
def UD:Ka:=Qa Ag [(84,[],AX)] 23 0 [] [(3,Yq)]
theorem eD:Ma Tryz.prog UD.Γ:=Pa (l:=[(84,[],AX)]) ⟨⟨yY,Tryz.call84⟩,trivial⟩
theorem zG:Db Tryz.prog 0 23 (Ab (Tryz.f42.body.getD .skip) 0) Yq:=Eb (G:=UD) (F:=Yq.F) (eid:=Yq.eid) (FX:=Yq.FX) (FR:=Yq.FR) (B:=IA) (n:=Fa) Ga Xc eD mixed (Ha (G:=UD) (n:=0) (by kernel_rfl) (by kernel_rfl) trivial (by kernel_rfl)) (fun s=>by kernel_rfl)
theorem zH:GC Tryz.prog 42 IX:=Ra (G:=UD) (c:=Tryz.f42.body.getD .skip) Ga Xc eD mixed Tryz.func42 (by kernel_rfl) Tryz.ntmps42 (Ha (G:=UD) (n:=1) (by kernel_rfl) (by kernel_rfl) ⟨trivial,Fb (id:=3) (L0:=Yq) (by kernel_rfl) (by kernel_rfl) zG⟩ (by kernel_rfl)) (fun s=>by kernel_rfl)
def JX:Na:=⟨⟨[.c (.agg [zi,zi,zi,(.b (.sl false .en))]),.c (.agg [zi,zi,zi,(.b (.sl false .en))])],[]⟩,[.int,.int,.int,.ls .en,.int,.int,.int,.ls .en],⟨[.c (.one (.b .bool))],[]⟩,[.bool],SL⟩
def KX:Ka:=Qa tab [(139,[],RD)] 16 0 [] []
theorem zI:Ma Tryz.prog KX.Γ:=Pa (l:=[(139,[],RD)]) ⟨⟨dZ,Tryz.call139⟩,trivial⟩
theorem zJ:GC Tryz.prog 96 JX:=Ra (G:=KX) (c:=Tryz.f96.body.getD .skip) Ga Ia zI mixed Tryz.func96 (by kernel_rfl) Tryz.ntmps96 (Ha (G:=KX) (n:=0) (by kernel_rfl) (by kernel_rfl) trivial (by kernel_rfl)) (fun s=>by kernel_rfl)
def Zq:Xa:=⟨⟨[0,1,5],⟨[.c (.one (.b (.sl false .ls))),.c (.one (.b (.sl false .ls))),zc],[]⟩,[.ls .ls,.ls .ls,.int]⟩,0,⟨[],⟨[],[]⟩,[]⟩,⟨[4],⟨[.c (.one (.b .bool))],[]⟩,[.bool]⟩,lp JA Fa⟩
def LX:Na:=⟨⟨[.c (.one (.b (.sl false .ls))),.c (.one (.b (.sl false .ls)))],[]⟩,[.ls .ls,.ls .ls],⟨[.c (.one (.b .bool))],[]⟩,[.bool],TL⟩
def VD:Ka:=Qa tab [(139,[],RD)] 27 0 [(6,8,tk 8,[])] [(4,Zq)]
theorem eE:Ma Tryz.prog VD.Γ:=Pa (l:=[(139,[],RD)]) ⟨⟨dZ,Tryz.call139⟩,trivial⟩
theorem zK:Db Tryz.prog 0 27 (Ab (Tryz.f95.body.getD .skip) 0) Zq:=Eb (G:=VD) (F:=Zq.F) (eid:=Zq.eid) (FX:=Zq.FX) (FR:=Zq.FR) (B:=JA) (n:=Fa) Ga Ia eE mixed (Ha (G:=VD) (n:=0) (by kernel_rfl) (by kernel_rfl) trivial (by kernel_rfl)) (fun s=>by kernel_rfl)
theorem zL:GC Tryz.prog 95 LX:=Ra (G:=VD) (c:=Tryz.f95.body.getD .skip) Ga Ia eE mixed Tryz.func95 (by kernel_rfl) Tryz.ntmps95 (Ha (G:=VD) (n:=1) (by kernel_rfl) (by kernel_rfl) ⟨trivial,Fb (id:=4) (L0:=Zq) (by kernel_rfl) (by kernel_rfl) zK⟩ (by kernel_rfl)) (fun s=>by kernel_rfl)
def Ar:Xa:=⟨⟨[0,1,5],⟨[.c (.one (.b (.sl false .pk))),zc,zc],[]⟩,[.ls .pk,.int,.int]⟩,0,⟨[1],⟨[zc],[]⟩,[.int]⟩,⟨[4],⟨[zc],[]⟩,[.int]⟩,lp KA Fa⟩
def MX:Na:=⟨⟨[.c (.one (.b (.sl false .pk))),zc],[]⟩,[.ls .pk,.int],⟨[zc],[]⟩,[.int],UL⟩
def WD:Ka:=Qa tab [(76,[],CX)] 27 0 [] [(5,Ar)]
theorem eF:Ma Tryz.prog WD.Γ:=Pa (l:=[(76,[],CX)]) ⟨⟨zA,Tryz.call76⟩,trivial⟩
theorem zM:Db Tryz.prog 0 27 (Ab (Tryz.f36.body.getD .skip) 0) Ar:=Eb (G:=WD) (F:=Ar.F) (eid:=Ar.eid) (FX:=Ar.FX) (FR:=Ar.FR) (B:=KA) (n:=Fa) Ga Ia eF mixed (Ha (G:=WD) (n:=0) (by kernel_rfl) (by kernel_rfl) trivial (by kernel_rfl)) (fun s=>by kernel_rfl)
theorem zN:GC Tryz.prog 36 MX:=Ra (G:=WD) (c:=Tryz.f36.body.getD .skip) Ga Ia eF mixed Tryz.func36 (by kernel_rfl) Tryz.ntmps36 (Ha (G:=WD) (n:=1) (by kernel_rfl) (by kernel_rfl) ⟨trivial,Fb (id:=5) (L0:=Ar) (by kernel_rfl) (by kernel_rfl) zM⟩ (by kernel_rfl)) (fun s=>by kernel_rfl)
def Br:Xa:=⟨⟨[0,3,4],⟨[.c (.one (.b (.sl false .db))),.c (.one (.own 0)),zc],[.row 86 .udb]⟩,[.ls .db,.int,.ls .udb]⟩,0,⟨[3],⟨[.c (.one (.own 0))],[.row 86 .udb]⟩,[.ls .udb]⟩,zx,lp LA Fa⟩
def NX:Na:=⟨⟨[.c (.one (.b (.sl false .db)))],[]⟩,[.ls .db],⟨[.c (.one (.own 0))],[.row 86 .udb]⟩,[.ls .udb],VL⟩
def XD:Ka:=Qa Ag [(83,[],GX)] 23 0 [] [(3,Br)]
theorem eG:Ma Tryz.prog XD.Γ:=Pa (l:=[(83,[],GX)]) ⟨⟨zD,Tryz.call83⟩,trivial⟩
theorem zO:Db Tryz.prog 0 23 (Ab (Tryz.f41.body.getD .skip) 0) Br:=Eb (G:=XD) (F:=Br.F) (eid:=Br.eid) (FX:=Br.FX) (FR:=Br.FR) (B:=LA) (n:=Fa) Ga Xc eG mixed (Ha (G:=XD) (n:=0) (by kernel_rfl) (by kernel_rfl) trivial (by kernel_rfl)) (fun s=>by kernel_rfl)
theorem zP:GC Tryz.prog 41 NX:=Ra (G:=XD) (c:=Tryz.f41.body.getD .skip) Ga Xc eG mixed Tryz.func41 (by kernel_rfl) Tryz.ntmps41 (Ha (G:=XD) (n:=1) (by kernel_rfl) (by kernel_rfl) ⟨trivial,Fb (id:=3) (L0:=Br) (by kernel_rfl) (by kernel_rfl) zO⟩ (by kernel_rfl)) (fun s=>by kernel_rfl)
def zQ:Na:=⟨⟨[.c (.agg [zi,(.b (.sl false .lk)),(.b (.sl false .bool)),(.b (.sl false .int)),(.b (.sl false .db)),(.b (.sl false .pk))])],[]⟩,[.int,.ls .lk,.ls .bool,.ls .int,.ls .db,.ls .pk],⟨[.c (.agg [zi,(.own 0),(.own 1),(.own 2),(.own 3),(.own 4)])],[.row 114 .lk,.row 4 .bool,.row 3 .int,.row 86 .udb,.row 112 .upk]⟩,[.int,.ls .lk,.ls .bool,.ls .int,.ls .udb,.ls .upk],WT⟩
def OX:Ka:=Qa Ag [(40,[],AW),(22,[],GW),(39,[],PW),(42,[],IX),(41,[],NX)] 25 0 [] []
theorem zR:Ma Tryz.prog OX.Γ:=Pa (l:=[(40,[],AW),(22,[],GW),(39,[],PW),(42,[],IX),(41,[],NX)]) ⟨⟨xT,Tryz.call40⟩,⟨⟨yB,Tryz.call22⟩,⟨⟨yK,Tryz.call39⟩,⟨⟨zH,Tryz.call42⟩,⟨⟨zP,Tryz.call41⟩,trivial⟩⟩⟩⟩⟩
theorem zS:GC Tryz.prog 10 zQ:=Ra (G:=OX) (c:=Tryz.f10.body.getD .skip) Ga Xc zR mixed Tryz.func10 (by kernel_rfl) Tryz.ntmps10 (Ha (G:=OX) (n:=0) (by kernel_rfl) (by kernel_rfl) trivial (by kernel_rfl)) (fun s=>by kernel_rfl)
def Cr:Xa:=⟨⟨[0,1,5],⟨[.c (.one (.b (.sl false .db))),zc,zc],[]⟩,[.ls .db,.int,.int]⟩,0,⟨[1],⟨[zc],[]⟩,[.int]⟩,⟨[4],⟨[zc],[]⟩,[.int]⟩,lp MA Fa⟩
def PX:Na:=⟨⟨[.c (.one (.b (.sl false .db))),zc],[]⟩,[.ls .db,.int],⟨[zc],[]⟩,[.int],WL⟩
def YD:Ka:=Qa tab [(75,[],HX)] 27 0 [] [(5,Cr)]
theorem eH:Ma Tryz.prog YD.Γ:=Pa (l:=[(75,[],HX)]) ⟨⟨zF,Tryz.call75⟩,trivial⟩
theorem zT:Db Tryz.prog 0 27 (Ab (Tryz.f35.body.getD .skip) 0) Cr:=Eb (G:=YD) (F:=Cr.F) (eid:=Cr.eid) (FX:=Cr.FX) (FR:=Cr.FR) (B:=MA) (n:=Fa) Ga Ia eH mixed (Ha (G:=YD) (n:=0) (by kernel_rfl) (by kernel_rfl) trivial (by kernel_rfl)) (fun s=>by kernel_rfl)
theorem zU:GC Tryz.prog 35 PX:=Ra (G:=YD) (c:=Tryz.f35.body.getD .skip) Ga Ia eH mixed Tryz.func35 (by kernel_rfl) Tryz.ntmps35 (Ha (G:=YD) (n:=1) (by kernel_rfl) (by kernel_rfl) ⟨trivial,Fb (id:=5) (L0:=Cr) (by kernel_rfl) (by kernel_rfl) zT⟩ (by kernel_rfl)) (fun s=>by kernel_rfl)
def zV:Na:=⟨⟨[.c (.agg [zi,(.b (.sl false .lk)),(.b (.sl false .bool)),(.b (.sl false .int)),(.b (.sl false .db)),(.b (.sl false .pk))]),zc],[]⟩,[.int,.ls .lk,.ls .bool,.ls .int,.ls .db,.ls .pk,.int],⟨[zc],[]⟩,[.int],XT⟩
def QX:Ka:=Qa tab [(19,[],TV),(33,[],RW),(34,[],TW),(36,[],MX),(35,[],PX)] 36 0 [] []
theorem zX:Ma Tryz.prog QX.Γ:=Pa (l:=[(19,[],TV),(33,[],RW),(34,[],TW),(36,[],MX),(35,[],PX)]) ⟨⟨xN,Tryz.call19⟩,⟨⟨yO,Tryz.call33⟩,⟨⟨yQ,Tryz.call34⟩,⟨⟨zN,Tryz.call36⟩,⟨⟨zU,Tryz.call35⟩,trivial⟩⟩⟩⟩⟩
theorem zY:GC Tryz.prog 8 zV:=Ra (G:=QX) (c:=Tryz.f8.body.getD .skip) Ga Ia zX mixed Tryz.func8 (by kernel_rfl) Tryz.ntmps8 (Ha (G:=QX) (n:=0) (by kernel_rfl) (by kernel_rfl) trivial (by kernel_rfl)) (fun s=>by kernel_rfl)
def Dr:Xa:=⟨⟨[0,1,5],⟨[.c (.one (.b (.sl false .pk))),.c (.one (.b (.sl false .pk))),zc],[]⟩,[.ls .pk,.ls .pk,.int]⟩,0,⟨[],⟨[],[]⟩,[]⟩,⟨[4],⟨[.c (.one (.b .bool))],[]⟩,[.bool]⟩,lp NA Fa⟩
def RX:Na:=⟨⟨[.c (.one (.b (.sl false .pk))),.c (.one (.b (.sl false .pk)))],[]⟩,[.ls .pk,.ls .pk],⟨[.c (.one (.b .bool))],[]⟩,[.bool],XL⟩
def ZD:Ka:=Qa tab [(96,[],JX)] 27 0 [(6,8,tk 8,[])] [(4,Dr)]
theorem eI:Ma Tryz.prog ZD.Γ:=Pa (l:=[(96,[],JX)]) ⟨⟨zJ,Tryz.call96⟩,trivial⟩
theorem zZ:Db Tryz.prog 0 27 (Ab (Tryz.f49.body.getD .skip) 0) Dr:=Eb (G:=ZD) (F:=Dr.F) (eid:=Dr.eid) (FX:=Dr.FX) (FR:=Dr.FR) (B:=NA) (n:=Fa) Ga Ia eI mixed (Ha (G:=ZD) (n:=0) (by kernel_rfl) (by kernel_rfl) trivial (by kernel_rfl)) (fun s=>by kernel_rfl)
theorem zK1:GC Tryz.prog 49 RX:=Ra (G:=ZD) (c:=Tryz.f49.body.getD .skip) Ga Ia eI mixed Tryz.func49 (by kernel_rfl) Tryz.ntmps49 (Ha (G:=ZD) (n:=1) (by kernel_rfl) (by kernel_rfl) ⟨trivial,Fb (id:=4) (L0:=Dr) (by kernel_rfl) (by kernel_rfl) zZ⟩ (by kernel_rfl)) (fun s=>by kernel_rfl)
def Er:Xa:=⟨⟨[0,1,5],⟨[.c (.one (.b (.sl false .db))),.c (.one (.b (.sl false .db))),zc],[]⟩,[.ls .db,.ls .db,.int]⟩,0,⟨[],⟨[],[]⟩,[]⟩,⟨[4],⟨[.c (.one (.b .bool))],[]⟩,[.bool]⟩,lp OA Fa⟩
def SX:Na:=⟨⟨[.c (.one (.b (.sl false .db))),.c (.one (.b (.sl false .db)))],[]⟩,[.ls .db,.ls .db],⟨[.c (.one (.b .bool))],[]⟩,[.bool],YL⟩
def AE:Ka:=Qa tab [(95,[],LX)] 27 0 [(6,8,tk 8,[])] [(4,Er)]
theorem eJ:Ma Tryz.prog AE.Γ:=Pa (l:=[(95,[],LX)]) ⟨⟨zL,Tryz.call95⟩,trivial⟩
theorem zJi:Db Tryz.prog 0 27 (Ab (Tryz.f48.body.getD .skip) 0) Er:=Eb (G:=AE) (F:=Er.F) (eid:=Er.eid) (FX:=Er.FX) (FR:=Er.FR) (B:=OA) (n:=Fa) Ga Ia eJ mixed (Ha (G:=AE) (n:=0) (by kernel_rfl) (by kernel_rfl) trivial (by kernel_rfl)) (fun s=>by kernel_rfl)
theorem zKZ:GC Tryz.prog 48 SX:=Ra (G:=AE) (c:=Tryz.f48.body.getD .skip) Ga Ia eJ mixed Tryz.func48 (by kernel_rfl) Tryz.ntmps48 (Ha (G:=AE) (n:=1) (by kernel_rfl) (by kernel_rfl) ⟨trivial,Fb (id:=4) (L0:=Er) (by kernel_rfl) (by kernel_rfl) zJi⟩ (by kernel_rfl)) (fun s=>by kernel_rfl)
def zEZ:Na:=⟨⟨[.c (.agg [zi,(.b (.sl false .lk)),(.b (.sl false .bool)),(.b (.sl false .int)),(.b (.sl false .db)),(.b (.sl false .pk))]),.c (.agg [zi,(.b (.sl false .lk)),(.b (.sl false .bool)),(.b (.sl false .int)),(.b (.sl false .db)),(.b (.sl false .pk))])],[]⟩,[.int,.ls .lk,.ls .bool,.ls .int,.ls .db,.ls .pk,.int,.ls .lk,.ls .bool,.ls .int,.ls .db,.ls .pk],⟨[.c (.one (.b .bool))],[]⟩,[.bool],YT⟩
def TX:Ka:=Qa tab [(47,[],CW),(12,[],NW),(46,[],ZW),(49,[],RX),(48,[],SX)] 35 0 [] []
theorem zPa:Ma Tryz.prog TX.Γ:=Pa (l:=[(47,[],CW),(12,[],NW),(46,[],ZW),(49,[],RX),(48,[],SX)]) ⟨⟨xX,Tryz.call47⟩,⟨⟨dR,Tryz.call12⟩,⟨⟨yW,Tryz.call46⟩,⟨⟨zK1,Tryz.call49⟩,⟨⟨zKZ,Tryz.call48⟩,trivial⟩⟩⟩⟩⟩
theorem zK2:GC Tryz.prog 13 zEZ:=Ra (G:=TX) (c:=Tryz.f13.body.getD .skip) Ga Ia zPa mixed Tryz.func13 (by kernel_rfl) Tryz.ntmps13 (Ha (G:=TX) (n:=0) (by kernel_rfl) (by kernel_rfl) trivial (by kernel_rfl)) (fun s=>by kernel_rfl)
def Fr:Xa:=⟨⟨[0,1,5],⟨[.c (.one (.own 0)),zc,zc],[.row 114 .lk]⟩,[.int,.int,.ls .lk]⟩,0,⟨[1],⟨[zc],[.row 114 .lk]⟩,[.int,.ls .lk]⟩,zx,lp PA Fa⟩
def UX:Na:=⟨⟨[.c (.one (.own 0)),zc],[.row 114 .lk]⟩,[.int,.ls .lk],⟨[zc],[.row 114 .lk]⟩,[.int,.ls .lk],ZL⟩
def BE:Ka:=Qa tab [] 34 1 [] [(2,Fr)]
theorem eK:Ma Tryz.prog BE.Γ:=Pa (l:=[]) trivial
theorem zJv:Db Tryz.prog 1 34 (Ab (Tryz.f54.body.getD .skip) 0) Fr:=Eb (G:=BE) (F:=Fr.F) (eid:=Fr.eid) (FX:=Fr.FX) (FR:=Fr.FR) (B:=PA) (n:=Fa) Ga Ia eK mixed (Ha (G:=BE) (n:=0) (by kernel_rfl) (by kernel_rfl) trivial (by kernel_rfl)) (fun s=>by kernel_rfl)
theorem zLg:GC Tryz.prog 54 UX:=Ra (G:=BE) (c:=Tryz.f54.body.getD .skip) Ga Ia eK mixed Tryz.func54 (by kernel_rfl) Tryz.ntmps54 (Ha (G:=BE) (n:=1) (by kernel_rfl) (by kernel_rfl) ⟨trivial,Fb (id:=2) (L0:=Fr) (by kernel_rfl) (by kernel_rfl) zJv⟩ (by kernel_rfl)) (fun s=>by kernel_rfl)
def Ir:Xa:=⟨⟨[0,1,5],⟨[.c (.one (.own 0)),zc,zc],[.row 3 .int]⟩,[.int,.int,.ls .int]⟩,0,⟨[1],⟨[zc],[.row 3 .int]⟩,[.int,.ls .int]⟩,zx,lp QA Fa⟩
def zFc:Na:=⟨⟨[.c (.one (.own 0)),zc],[.row 3 .int]⟩,[.int,.ls .int],⟨[zc],[.row 3 .int]⟩,[.int,.ls .int],ZT⟩
def CE:Ka:=Qa tab [] 19 1 [] [(2,Ir)]
theorem eL:Ma Tryz.prog CE.Γ:=Pa (l:=[]) trivial
theorem zJu:Db Tryz.prog 1 19 (Ab (Tryz.f51.body.getD .skip) 0) Ir:=Eb (G:=CE) (F:=Ir.F) (eid:=Ir.eid) (FX:=Ir.FX) (FR:=Ir.FR) (B:=QA) (n:=Fa) Ga Ia eL mixed (Ha (G:=CE) (n:=0) (by kernel_rfl) (by kernel_rfl) trivial (by kernel_rfl)) (fun s=>by kernel_rfl)
theorem zLf:GC Tryz.prog 51 zFc:=Ra (G:=CE) (c:=Tryz.f51.body.getD .skip) Ga Ia eL mixed Tryz.func51 (by kernel_rfl) Tryz.ntmps51 (Ha (G:=CE) (n:=1) (by kernel_rfl) (by kernel_rfl) ⟨trivial,Fb (id:=2) (L0:=Ir) (by kernel_rfl) (by kernel_rfl) zJu⟩ (by kernel_rfl)) (fun s=>by kernel_rfl)
def Jr:Xa:=⟨⟨[0,1,5],⟨[.c (.one (.b (.sl false .lk))),zc,zc],[]⟩,[.ls .lk,.int,.int]⟩,0,⟨[1],⟨[zc],[]⟩,[.int]⟩,⟨[4],⟨[zc],[]⟩,[.int]⟩,lp RA Fa⟩
def VX:Na:=⟨⟨[.c (.one (.b (.sl false .lk))),zc],[]⟩,[.ls .lk,.int],⟨[zc],[]⟩,[.int],AM⟩
def DE:Ka:=Qa tab [] 40 0 [] [(2,Jr)]
theorem eM:Ma Tryz.prog DE.Γ:=Pa (l:=[]) trivial
theorem zJo:Db Tryz.prog 0 40 (Ab (Tryz.f55.body.getD .skip) 0) Jr:=Eb (G:=DE) (F:=Jr.F) (eid:=Jr.eid) (FX:=Jr.FX) (FR:=Jr.FR) (B:=RA) (n:=Fa) Ga Ia eM mixed (Ha (G:=DE) (n:=0) (by kernel_rfl) (by kernel_rfl) trivial (by kernel_rfl)) (fun s=>by kernel_rfl)
theorem zK7:GC Tryz.prog 55 VX:=Ra (G:=DE) (c:=Tryz.f55.body.getD .skip) Ga Ia eM mixed Tryz.func55 (by kernel_rfl) Tryz.ntmps55 (Ha (G:=DE) (n:=1) (by kernel_rfl) (by kernel_rfl) ⟨trivial,Fb (id:=2) (L0:=Jr) (by kernel_rfl) (by kernel_rfl) zJo⟩ (by kernel_rfl)) (fun s=>by kernel_rfl)
def Kr:Xa:=⟨⟨[0,1,5],⟨[.c (.one (.b (.sl false .int))),zc,zc],[]⟩,[.ls .int,.int,.int]⟩,0,⟨[1],⟨[zc],[]⟩,[.int]⟩,⟨[4],⟨[zc],[]⟩,[.int]⟩,lp SA Fa⟩
def WX:Na:=⟨⟨[.c (.one (.b (.sl false .int))),zc],[]⟩,[.ls .int,.int],⟨[zc],[]⟩,[.int],BM⟩
def EE:Ka:=Qa tab [] 21 0 [] [(2,Kr)]
theorem eN:Ma Tryz.prog EE.Γ:=Pa (l:=[]) trivial
theorem zJn:Db Tryz.prog 0 21 (Ab (Tryz.f69.body.getD .skip) 0) Kr:=Eb (G:=EE) (F:=Kr.F) (eid:=Kr.eid) (FX:=Kr.FX) (FR:=Kr.FR) (B:=SA) (n:=Fa) Ga Ia eN mixed (Ha (G:=EE) (n:=0) (by kernel_rfl) (by kernel_rfl) trivial (by kernel_rfl)) (fun s=>by kernel_rfl)
theorem zK6:GC Tryz.prog 69 WX:=Ra (G:=EE) (c:=Tryz.f69.body.getD .skip) Ga Ia eN mixed Tryz.func69 (by kernel_rfl) Tryz.ntmps69 (Ha (G:=EE) (n:=1) (by kernel_rfl) (by kernel_rfl) ⟨trivial,Fb (id:=2) (L0:=Kr) (by kernel_rfl) (by kernel_rfl) zJn⟩ (by kernel_rfl)) (fun s=>by kernel_rfl)
def Lr:Xa:=⟨⟨[0,1,5],⟨[.c (.one (.own 0)),zc,zc],[.row 153 .en]⟩,[.int,.int,.ls .en]⟩,0,⟨[1],⟨[zc],[.row 153 .en]⟩,[.int,.ls .en]⟩,zx,lp TA Fa⟩
def zFa:Na:=⟨⟨[.c (.one (.own 0)),zc],[.row 153 .en]⟩,[.int,.ls .en],⟨[zc],[.row 153 .en]⟩,[.int,.ls .en],AU⟩
def FE:Ka:=Qa tab [] 27 1 [] [(2,Lr)]
theorem eO:Ma Tryz.prog FE.Γ:=Pa (l:=[]) trivial
theorem zJt:Db Tryz.prog 1 27 (Ab (Tryz.f98.body.getD .skip) 0) Lr:=Eb (G:=FE) (F:=Lr.F) (eid:=Lr.eid) (FX:=Lr.FX) (FR:=Lr.FR) (B:=TA) (n:=Fa) Ga Ia eO mixed (Ha (G:=FE) (n:=0) (by kernel_rfl) (by kernel_rfl) trivial (by kernel_rfl)) (fun s=>by kernel_rfl)
theorem zLd:GC Tryz.prog 98 zFa:=Ra (G:=FE) (c:=Tryz.f98.body.getD .skip) Ga Ia eO mixed Tryz.func98 (by kernel_rfl) Tryz.ntmps98 (Ha (G:=FE) (n:=1) (by kernel_rfl) (by kernel_rfl) ⟨trivial,Fb (id:=2) (L0:=Lr) (by kernel_rfl) (by kernel_rfl) zJt⟩ (by kernel_rfl)) (fun s=>by kernel_rfl)
def Mr:Xa:=⟨⟨[0,1,5],⟨[.c (.one (.b (.sl false .en))),zc,zc],[]⟩,[.ls .en,.int,.int]⟩,0,⟨[1],⟨[zc],[]⟩,[.int]⟩,⟨[4],⟨[zc],[]⟩,[.int]⟩,lp UA Fa⟩
def GE:Na:=⟨⟨[.c (.one (.b (.sl false .en))),zc],[]⟩,[.ls .en,.int],⟨[zc],[]⟩,[.int],VA⟩
def HE:Ka:=Qa tab [] 31 0 [] [(2,Mr)]
theorem eP:Ma Tryz.prog HE.Γ:=Pa (l:=[]) trivial
theorem zJm:Db Tryz.prog 0 31 (Ab (Tryz.f121.body.getD .skip) 0) Mr:=Eb (G:=HE) (F:=Mr.F) (eid:=Mr.eid) (FX:=Mr.FX) (FR:=Mr.FR) (B:=UA) (n:=Fa) Ga Ia eP mixed (Ha (G:=HE) (n:=0) (by kernel_rfl) (by kernel_rfl) trivial (by kernel_rfl)) (fun s=>by kernel_rfl)
theorem eQ:GC Tryz.prog 121 GE:=Ra (G:=HE) (c:=Tryz.f121.body.getD .skip) Ga Ia eP mixed Tryz.func121 (by kernel_rfl) Tryz.ntmps121 (Ha (G:=HE) (n:=1) (by kernel_rfl) (by kernel_rfl) ⟨trivial,Fb (id:=2) (L0:=Mr) (by kernel_rfl) (by kernel_rfl) zJm⟩ (by kernel_rfl)) (fun s=>by kernel_rfl)
def Nr:Xa:=⟨⟨[0,1,5],⟨[.c (.one (.own 0)),zc,zc],[.row 4 .bool]⟩,[.int,.int,.ls .bool]⟩,0,⟨[1],⟨[zc],[.row 4 .bool]⟩,[.int,.ls .bool]⟩,zx,lp WA Fa⟩
def zE9:Na:=⟨⟨[.c (.one (.own 0)),zc],[.row 4 .bool]⟩,[.int,.ls .bool],⟨[zc],[.row 4 .bool]⟩,[.int,.ls .bool],BU⟩
def IE:Ka:=Qa tab [] 21 1 [] [(2,Nr)]
theorem eR:Ma Tryz.prog IE.Γ:=Pa (l:=[]) trivial
theorem zJs:Db Tryz.prog 1 21 (Ab (Tryz.f50.body.getD .skip) 0) Nr:=Eb (G:=IE) (F:=Nr.F) (eid:=Nr.eid) (FX:=Nr.FX) (FR:=Nr.FR) (B:=WA) (n:=Fa) Ga Ia eR mixed (Ha (G:=IE) (n:=0) (by kernel_rfl) (by kernel_rfl) trivial (by kernel_rfl)) (fun s=>by kernel_rfl)
theorem zLc:GC Tryz.prog 50 zE9:=Ra (G:=IE) (c:=Tryz.f50.body.getD .skip) Ga Ia eR mixed Tryz.func50 (by kernel_rfl) Tryz.ntmps50 (Ha (G:=IE) (n:=1) (by kernel_rfl) (by kernel_rfl) ⟨trivial,Fb (id:=2) (L0:=Nr) (by kernel_rfl) (by kernel_rfl) zJs⟩ (by kernel_rfl)) (fun s=>by kernel_rfl)
def zFb:Na:=⟨⟨[.c (.agg [zi,(.own 0)]),zc],[.row 114 .lk]⟩,[.int,.int,.ls .lk],⟨[zc],[.row 114 .lk]⟩,[.int,.ls .lk],CU⟩
def XX:Ka:=Qa tab [(54,[],UX)] 10 1 [] []
theorem zPm:Ma Tryz.prog XX.Γ:=Pa (l:=[(54,[],UX)]) ⟨⟨zLg,Tryz.call54⟩,trivial⟩
theorem zLe:GC Tryz.prog 15 zFb:=Ra (G:=XX) (c:=Tryz.f15.body.getD .skip) Ga Ia zPm mixed Tryz.func15 (by kernel_rfl) Tryz.ntmps15 (Ha (G:=XX) (n:=0) (by kernel_rfl) (by kernel_rfl) trivial (by kernel_rfl)) (fun s=>by kernel_rfl)
def YX:Na:=⟨⟨[.c (.agg [zi,(.b (.sl false .lk))]),zc],[]⟩,[.int,.ls .lk,.int],⟨[zc],[]⟩,[.int],CM⟩
def ZX:Ka:=Qa tab [(55,[],VX)] 12 0 [] []
theorem zPd:Ma Tryz.prog ZX.Γ:=Pa (l:=[(55,[],VX)]) ⟨⟨zK7,Tryz.call55⟩,trivial⟩
theorem eS:GC Tryz.prog 16 YX:=Ra (G:=ZX) (c:=Tryz.f16.body.getD .skip) Ga Ia zPd mixed Tryz.func16 (by kernel_rfl) Tryz.ntmps16 (Ha (G:=ZX) (n:=0) (by kernel_rfl) (by kernel_rfl) trivial (by kernel_rfl)) (fun s=>by kernel_rfl)
def Pr:Xa:=⟨⟨[0,1,5],⟨[.c (.one (.b (.sl false .bool))),zc,zc],[]⟩,[.ls .bool,.int,.int]⟩,0,⟨[1],⟨[zc],[]⟩,[.int]⟩,⟨[4],⟨[zc],[]⟩,[.int]⟩,lp XA Fa⟩
def AY:Na:=⟨⟨[.c (.one (.b (.sl false .bool))),zc],[]⟩,[.ls .bool,.int],⟨[zc],[]⟩,[.int],DM⟩
def JE:Ka:=Qa tab [] 23 0 [] [(2,Pr)]
theorem eT:Ma Tryz.prog JE.Γ:=Pa (l:=[]) trivial
theorem zJl:Db Tryz.prog 0 23 (Ab (Tryz.f68.body.getD .skip) 0) Pr:=Eb (G:=JE) (F:=Pr.F) (eid:=Pr.eid) (FX:=Pr.FX) (FR:=Pr.FR) (B:=XA) (n:=Fa) Ga Ia eT mixed (Ha (G:=JE) (n:=0) (by kernel_rfl) (by kernel_rfl) trivial (by kernel_rfl)) (fun s=>by kernel_rfl)
theorem zK3:GC Tryz.prog 68 AY:=Ra (G:=JE) (c:=Tryz.f68.body.getD .skip) Ga Ia eT mixed Tryz.func68 (by kernel_rfl) Tryz.ntmps68 (Ha (G:=JE) (n:=1) (by kernel_rfl) (by kernel_rfl) ⟨trivial,Fb (id:=2) (L0:=Pr) (by kernel_rfl) (by kernel_rfl) zJl⟩ (by kernel_rfl)) (fun s=>by kernel_rfl)
def Qr:Xa:=⟨⟨[0,1,5],⟨[.c (.one (.b (.sl false .ls))),zc,zc],[]⟩,[.ls .ls,.int,.int]⟩,0,⟨[1],⟨[zc],[]⟩,[.int]⟩,⟨[4],⟨[zc],[]⟩,[.int]⟩,lp YA Fa⟩
def BY:Na:=⟨⟨[.c (.one (.b (.sl false .ls))),zc],[]⟩,[.ls .ls,.int],⟨[zc],[]⟩,[.int],EM⟩
def KE:Ka:=Qa tab [(121,[],GE)] 40 0 [] [(2,Qr)]
theorem eU:Ma Tryz.prog KE.Γ:=Pa (l:=[(121,[],GE)]) ⟨⟨eQ,Tryz.call121⟩,trivial⟩
theorem zJq:Db Tryz.prog 0 40 (Ab (Tryz.f120.body.getD .skip) 0) Qr:=Eb (G:=KE) (F:=Qr.F) (eid:=Qr.eid) (FX:=Qr.FX) (FR:=Qr.FR) (B:=YA) (n:=Fa) Ga Ia eU mixed (Ha (G:=KE) (n:=0) (by kernel_rfl) (by kernel_rfl) trivial (by kernel_rfl)) (fun s=>by kernel_rfl)
theorem zK8:GC Tryz.prog 120 BY:=Ra (G:=KE) (c:=Tryz.f120.body.getD .skip) Ga Ia eU mixed Tryz.func120 (by kernel_rfl) Tryz.ntmps120 (Ha (G:=KE) (n:=1) (by kernel_rfl) (by kernel_rfl) ⟨trivial,Fb (id:=2) (L0:=Qr) (by kernel_rfl) (by kernel_rfl) zJq⟩ (by kernel_rfl)) (fun s=>by kernel_rfl)
def Rr:Xa:=⟨⟨[0,1,5],⟨[.c (.one (.b (.sl false .pk))),zc,zc],[]⟩,[.ls .pk,.int,.int]⟩,0,⟨[1],⟨[zc],[]⟩,[.int]⟩,⟨[4],⟨[zc],[]⟩,[.int]⟩,lp ZA Fa⟩
def CY:Na:=⟨⟨[.c (.one (.b (.sl false .pk))),zc],[]⟩,[.ls .pk,.int],⟨[zc],[]⟩,[.int],IM⟩
def LE:Ka:=Qa tab [(121,[],GE)] 52 0 [] [(2,Rr)]
theorem eV:Ma Tryz.prog LE.Γ:=Pa (l:=[(121,[],GE)]) ⟨⟨eQ,Tryz.call121⟩,trivial⟩
theorem zJr:Db Tryz.prog 0 52 (Ab (Tryz.f71.body.getD .skip) 0) Rr:=Eb (G:=LE) (F:=Rr.F) (eid:=Rr.eid) (FX:=Rr.FX) (FR:=Rr.FR) (B:=ZA) (n:=Fa) Ga Ia eV mixed (Ha (G:=LE) (n:=0) (by kernel_rfl) (by kernel_rfl) trivial (by kernel_rfl)) (fun s=>by kernel_rfl)
theorem zLa:GC Tryz.prog 71 CY:=Ra (G:=LE) (c:=Tryz.f71.body.getD .skip) Ga Ia eV mixed Tryz.func71 (by kernel_rfl) Tryz.ntmps71 (Ha (G:=LE) (n:=1) (by kernel_rfl) (by kernel_rfl) ⟨trivial,Fb (id:=2) (L0:=Rr) (by kernel_rfl) (by kernel_rfl) zJr⟩ (by kernel_rfl)) (fun s=>by kernel_rfl)
def Sr:Xa:=⟨⟨[0,1,5],⟨[.c (.one (.b (.sl false .db))),zc,zc],[]⟩,[.ls .db,.int,.int]⟩,0,⟨[1],⟨[zc],[]⟩,[.int]⟩,⟨[4],⟨[zc],[]⟩,[.int]⟩,lp BB Fa⟩
def DY:Na:=⟨⟨[.c (.one (.b (.sl false .db))),zc],[]⟩,[.ls .db,.int],⟨[zc],[]⟩,[.int],JM⟩
def ME:Ka:=Qa tab [(120,[],BY)] 21 0 [] [(2,Sr)]
theorem eW:Ma Tryz.prog ME.Γ:=Pa (l:=[(120,[],BY)]) ⟨⟨zK8,Tryz.call120⟩,trivial⟩
theorem zJp:Db Tryz.prog 0 21 (Ab (Tryz.f70.body.getD .skip) 0) Sr:=Eb (G:=ME) (F:=Sr.F) (eid:=Sr.eid) (FX:=Sr.FX) (FR:=Sr.FR) (B:=BB) (n:=Fa) Ga Ia eW mixed (Ha (G:=ME) (n:=0) (by kernel_rfl) (by kernel_rfl) trivial (by kernel_rfl)) (fun s=>by kernel_rfl)
theorem zK9:GC Tryz.prog 70 DY:=Ra (G:=ME) (c:=Tryz.f70.body.getD .skip) Ga Ia eW mixed Tryz.func70 (by kernel_rfl) Tryz.ntmps70 (Ha (G:=ME) (n:=1) (by kernel_rfl) (by kernel_rfl) ⟨trivial,Fb (id:=2) (L0:=Sr) (by kernel_rfl) (by kernel_rfl) zJp⟩ (by kernel_rfl)) (fun s=>by kernel_rfl)
def zE8:Na:=⟨⟨[.c (.agg [zi,(.b (.sl false .lk)),(.b (.sl false .bool)),(.b (.sl false .int)),(.b (.sl false .db)),(.b (.sl false .pk))]),zc],[]⟩,[.int,.ls .lk,.ls .bool,.ls .int,.ls .db,.ls .pk,.int],⟨[zc],[]⟩,[.int],DU⟩
def EY:Ka:=Qa tab [(69,[],WX),(16,[],YX),(68,[],AY),(71,[],CY),(70,[],DY)] 36 0 [] []
theorem zPj:Ma Tryz.prog EY.Γ:=Pa (l:=[(69,[],WX),(16,[],YX),(68,[],AY),(71,[],CY),(70,[],DY)]) ⟨⟨zK6,Tryz.call69⟩,⟨⟨eS,Tryz.call16⟩,⟨⟨zK3,Tryz.call68⟩,⟨⟨zLa,Tryz.call71⟩,⟨⟨zK9,Tryz.call70⟩,trivial⟩⟩⟩⟩⟩
theorem zLb:GC Tryz.prog 27 zE8:=Ra (G:=EY) (c:=Tryz.f27.body.getD .skip) Ga Ia zPj mixed Tryz.func27 (by kernel_rfl) Tryz.ntmps27 (Ha (G:=EY) (n:=0) (by kernel_rfl) (by kernel_rfl) trivial (by kernel_rfl)) (fun s=>by kernel_rfl)
end
section
open Go.RowKit
def wd (W:Wl):Wd:=⟨W.1,W.2.1,W.2.2.1,W.2.2.2.1,W.2.2.2.2.1,W.2.2.2.2.2⟩
def lw (w:Wd):Wl:=(w.n,w.ls,w.up,w.sq,w.db,w.net)
def FW (W:Wl):Prop:=Nq (wd W)∧Tg W≤3999999999
def FM (W:Wl):Prop:=dM (wd W)
theorem FW.fv {W:Wl} (h:FW W):FV W:=by
  obtain ⟨⟨h1,h2,h3,h4,h5,h6,h7⟩,h8⟩:=h
  dsimp only [wd] at *
  exact ⟨by omega,by omega,by omega,by omega,by omega,fun d hd=>⟨by have:=(h6 d hd).1;omega,fun l hl=>by have:=(h6 d hd).2 l hl;omega⟩,fun p hp=>by have:=h7 p hp;omega,h8⟩
theorem FV.fit {W:Wl} (h:FV W):QV (wd W):=by
  obtain ⟨h1,h2,h3,h4,h5,h6,h7,h8⟩:=h
  exact ⟨by dsimp only [wd];unfold Ta;omega,by dsimp only [wd];unfold Ta;omega,by dsimp only [wd];unfold Ta;omega,by dsimp only [wd];unfold Ta;omega,by dsimp only [wd];unfold Ta;omega,fun d hd=>⟨by have:=(h6 d hd).1;unfold Ta;omega,fun l hl=>by have:=(h6 d hd).2 l hl;unfold Ta;omega⟩,fun p hp=>by have:=h7 p hp;unfold Ta;omega⟩
theorem Zg (w:World) (h:List Ca) (β:List (Nat×Nat)):Gi w h β:=fun g cs hg=>by
  unfold V2 at hg
  cases hg
theorem yAa:Km Tryz.prog 98:=fun w E ys b c u k h0 h1 hc H =>
  (AJ zLd (s:=(k,ys,())) (r:=(k+2*ys.length,Eh k ys,())) (by rw [MM];exact tM k ys h0 (by omega) (by omega)) (d:=.own 0) rfl rfl rfl (D9 _ _) (fun h β=>Zg w h β) H (BJ H)).mono fun e w' h=>⟨h.1,h.2.1,h.2.2.mono fun _ _ h=>h.2⟩
theorem yAb:Rp Tryz.prog 50 4 .bool Rm List.length (fun _=>True):=fun w E xs b c u k h0 h1 h2 _ H =>
  (AJ zLc (s:=(k,xs,())) (r:=(k+xs.length,Rm k xs,())) (by have h:=tV k xs h0 (by omega) (by omega);simp only [Int.one_mul] at h;exact h) (d:=.own 0) rfl rfl rfl (Qi _ _ _ _) (fun h β=>Zg w h β) H (BJ H)).mono fun e w' h=>⟨h.1,JS rfl h.2.1 h.2.2⟩
theorem yAc:Rp Tryz.prog 51 3 .int Um List.length (fun _=>True):=fun w E xs b c u k h0 h1 h2 _ H =>
  (AJ zLf (s:=(k,xs,())) (r:=(k+xs.length,Um k xs,())) (by have h:=tK k xs h0 (by omega) (by omega);simp only [Int.one_mul] at h;exact h) (d:=.own 0) rfl rfl rfl (Qi _ _ _ _) (fun h β=>Zg w h β) H (BJ H)).mono fun e w' h=>⟨h.1,JS rfl h.2.1 h.2.2⟩
theorem eX:IS Tryz.prog 15 Si:=fun w E n xs b c u k h0 h1 h2 H =>
  (AJ zLe (s:=(n,k,xs,())) (r:=(k+3*xs.length,Si k xs,())) (tO n k xs h0 (by omega) h2) (d:=.agg [.im (iI n),.own 0]) rfl rfl rfl (Qi _ _ _ _) (fun h β=>Zg w h β) H ⟨[.int .i64 n,u],rfl,F2.cons (Ri.s _) (F2.cons (BJ H) F2.nil)⟩).mono fun e w' h=>⟨h.1,JS rfl h.2.1 h.2.2⟩
abbrev Ym (W:Wl):Wl:=Mm Si Rm Um 1 W
theorem FY:Uy Tryz.prog 14 FV Ym:=fun w lo hi A a hf H =>
  qY eX yAb yAc yAa (fun _ _=>Qi _ _ _ _) (fun _ _=>Qi _ _ _ _) (fun _ _=>Qi _ _ _ _) w lo hi A a 1 (by omega) (by have:=hf.cnt;omega) ⟨hf.ls,hf.up,hf.sq,hf.db,hf.net,fun d hd=>(hf.dbs d hd).1⟩ H
theorem yAd:OS Tryz.prog 27 FV Ym:=fun w lo hi A a hf H =>
  (Gj zLb (s:=((Ym A).1,(Ym A).2.1,(Ym A).2.2.1,(Ym A).2.2.2.1,(Ym A).2.2.2.2.1,(Ym A).2.2.2.2.2,1,())) (r:=(1+(Tg A:Int),())) (uA A hf) (ds:=[Ni (Ym A),.im (iI 1)]) rfl (d:=.im (iI (1+Tg A))) (h':=[]) rfl (args:=[a,.int .i64 1]) (F2.cons H.arg (F2.cons (Ri.s _) F2.nil)) (Zg _ _ _)).mono fun ex w' ⟨u,β',h1,h2,h3,h4⟩=>by
    have h4:Ri w' _ _ (iI (1+Tg A)) u:=h4
    cases h4
    exact ⟨h1,h2.below⟩
theorem GY:Sy Tryz.prog 13 FV:=fun w lo hi lo' hi' A a b hf ha hb =>
  (Gj zK2 (s:=(A.1,A.2.1,A.2.2.1,A.2.2.2.1,A.2.2.2.2.1,A.2.2.2.2.2,A.1,A.2.1,A.2.2.1,A.2.2.2.1,A.2.2.2.2.1,A.2.2.2.2.2,())) (r:=(true,())) (xG (wd A) hf.fit) (ds:=[Ni A,Ni A]) rfl (d:=.im (.s (.bool true))) (h':=[]) rfl (args:=[a,b]) (F2.cons ha.arg (F2.cons hb.arg F2.nil)) (Zg _ _ _)).mono fun ex w' ⟨u,β',h1,h2,h3,h4⟩=>by
    have h4:Ri w' _ _ (.s (.bool true)) u:=h4
    cases h4
    exact ⟨h1,h2.below⟩
theorem IY:Ry Tryz.prog 10 FW:=fun w lo hi A a hf ha =>
  (Gj zS (s:=(A.1,A.2.1,A.2.2.1,A.2.2.2.1,A.2.2.2.2.1,A.2.2.2.2.2,())) (r:=(A.1,A.2.1,A.2.2.1,A.2.2.2.1,A.2.2.2.2.1,A.2.2.2.2.2,())) (xF (wd A) hf.1) (ds:=[Ni A]) rfl (d:=Tv A.1) (h':=Uc A) rfl (args:=[a]) (F2.cons ha.arg F2.nil) (Zg _ _ _)).mono fun ex w' ⟨u,β',h1,h2,h3,h4⟩=>⟨u,h1,A9 h2 h3 h4,h2.below⟩
theorem JY (A:Wl) (hm:FM A) (w:World) (lo hi:Nat) (a:Value) (ha:Rw w lo hi A a):Calls Tryz.prog 8 #[a,.int .i64 1048576] w fun e w'=>∃z,e=.returned (.int .i64 z)∧(0≤z→FW A)∧Below w.heap.size w w':=by
  obtain ⟨⟨z,_⟩,h1,h2⟩:=xE (wd A) hm
  refine (Gj zY (s:=(A.1,A.2.1,A.2.2.1,A.2.2.2.1,A.2.2.2.2.1,A.2.2.2.2.2,1048576,())) (r:=(z,())) h1 (ds:=[Ni A,.im (iI 1048576)]) rfl (d:=.im (iI z)) (h':=[]) rfl (args:=[a,.int .i64 1048576]) (F2.cons ha.arg (F2.cons (Ri.s _) F2.nil)) (Zg _ _ _)).mono fun ex w' ⟨u,β',h1,h3,h4,h5⟩=>?_
  have h5:Ri w' _ _ (iI z) u:=h5
  cases h5
  refine ⟨z,h1,fun h0=>?_,h3.below⟩
  rcases h2 with h2|⟨z',h2,h6,h7,h8⟩
  ·injection h2 with h2
   omega
  ·refine ⟨h7,?_⟩
   have h9:=xI A.2.2.2.2.1
   have h10:=xJ A.2.2.2.2.2
   unfold Tg
   dsimp only [wd] at h8
   omega
end
section
open Go.RowKit
def KY:Na:=⟨⟨[.c (.agg [zi,zi,zi]),zc],[]⟩,[.int,.int,.int,.int],⟨[.tup [(.one zi),(.one (.b .bool))]],[]⟩,[.int,.bool],UJ⟩
def LY:Ka:=Qa tab [] 19 0 [] []
theorem zOx:Ma Tryz.prog LY.Γ:=Pa (l:=[]) trivial
theorem zKp:GC Tryz.prog 157 KY:=Ra (G:=LY) (c:=Tryz.f157.body.getD .skip) Ga Ia zOx mixed Tryz.func157 (by kernel_rfl) Tryz.ntmps157 (Ha (G:=LY) (n:=0) (by kernel_rfl) (by kernel_rfl) trivial (by kernel_rfl)) (fun s=>by kernel_rfl)
def Wi:Na:=⟨⟨[zc,zc,zc],[]⟩,[.int,.int,.int],⟨[.c (.one (.b .bool))],[]⟩,[.bool],Ih⟩
def MY:Ka:=Qa tab [] 15 0 [] []
theorem zOX:Ma Tryz.prog MY.Γ:=Pa (l:=[]) trivial
theorem Sw:GC Tryz.prog 58 Wi:=Ra (G:=MY) (c:=Tryz.f58.body.getD .skip) Ga Ia zOX mixed Tryz.func58 (by kernel_rfl) Tryz.ntmps58 (Ha (G:=MY) (n:=0) (by kernel_rfl) (by kernel_rfl) trivial (by kernel_rfl)) (fun s=>by kernel_rfl)
def Mk:Na:=⟨⟨[zc,zc,zc],[]⟩,[.int,.int,.int],⟨[.c (.one (.b .bool))],[]⟩,[.bool],Vh⟩
def NY:Ka:=Qa tab [] 15 0 [] []
theorem zQi:Ma Tryz.prog NY.Γ:=Pa (l:=[]) trivial
theorem NE:GC Tryz.prog 82 Mk:=Ra (G:=NY) (c:=Tryz.f82.body.getD .skip) Ga Ia zQi mixed Tryz.func82 (by kernel_rfl) Tryz.ntmps82 (Ha (G:=NY) (n:=0) (by kernel_rfl) (by kernel_rfl) trivial (by kernel_rfl)) (fun s=>by kernel_rfl)
def Ur:Xa:=⟨⟨[1,2,3,7],⟨[zc,zc,.c (.one (.ptr 0 0)),zc],[.box 34 [zi,(.b (.sl false .lk))]]⟩,[.int,.int,.int,.int,.ls .lk]⟩,0,⟨[],⟨[],[]⟩,[]⟩,⟨[6],⟨[zc],[]⟩,[.int]⟩,lp VJ Fa⟩
def OE:Na:=⟨⟨[.c (.agg [zi,(.b (.sl false .lk))]),zc,zc],[]⟩,[.int,.ls .lk,.int,.int],⟨[zc],[]⟩,[.int],Cz⟩
def PE:Ka:=Qa tab [] 38 0 [] [(2,Ur)]
theorem eY:Ma Tryz.prog PE.Γ:=Pa (l:=[]) trivial
theorem zJ1:Db Tryz.prog 0 38 (Ab (Tryz.f130.body.getD .skip) 0) Ur:=Eb (G:=PE) (F:=Ur.F) (eid:=Ur.eid) (FX:=Ur.FX) (FR:=Ur.FR) (B:=VJ) (n:=Fa) Ga Ia eY mixed (Ha (G:=PE) (n:=0) (by kernel_rfl) (by kernel_rfl) trivial (by kernel_rfl)) (fun s=>by kernel_rfl)
theorem eZ:GC Tryz.prog 130 OE:=Ra (G:=PE) (c:=Tryz.f130.body.getD .skip) Ga Ia eY mixed Tryz.func130 (by kernel_rfl) Tryz.ntmps130 (Ha (G:=PE) (n:=1) (by kernel_rfl) (by kernel_rfl) ⟨trivial,Fb (id:=2) (L0:=Ur) (by kernel_rfl) (by kernel_rfl) zJ1⟩ (by kernel_rfl)) (fun s=>by kernel_rfl)
def Vr:Xa:=⟨⟨[1,3],⟨[.c (.one (.ptr 0 0)),zc],[.box 34 [zi,(.b (.sl false .lk))]]⟩,[.int,.int,.ls .lk]⟩,0,⟨[1],⟨[.c (.one (.ptr 0 0))],[.box 34 [zi,(.b (.sl false .lk))]]⟩,[.int,.ls .lk]⟩,⟨[2],⟨[.c (.one (.b .bool))],[]⟩,[.bool]⟩,lp WJ Fa⟩
def OY:Na:=⟨⟨[.c (.agg [zi,(.b (.sl false .lk))])],[]⟩,[.int,.ls .lk],⟨[.c (.one (.b .bool))],[]⟩,[.bool],XJ⟩
def QE:Ka:=Qa tab [(82,[],Mk)] 89 0 [(7,34,tk 34,[])] [(2,Vr)]
theorem fA:Ma Tryz.prog QE.Γ:=Pa (l:=[(82,[],Mk)]) ⟨⟨NE,Tryz.call82⟩,trivial⟩
theorem zJL:Db Tryz.prog 0 89 (Ab (Tryz.f101.body.getD .skip) 0) Vr:=Eb (G:=QE) (F:=Vr.F) (eid:=Vr.eid) (FX:=Vr.FX) (FR:=Vr.FR) (B:=WJ) (n:=Fa) Ga Ia fA mixed (Ha (G:=QE) (n:=0) (by kernel_rfl) (by kernel_rfl) trivial (by kernel_rfl)) (fun s=>by kernel_rfl)
theorem zLR:GC Tryz.prog 101 OY:=Ra (G:=QE) (c:=Tryz.f101.body.getD .skip) Ga Ia fA mixed Tryz.func101 (by kernel_rfl) Tryz.ntmps101 (Ha (G:=QE) (n:=1) (by kernel_rfl) (by kernel_rfl) ⟨trivial,Fb (id:=2) (L0:=Vr) (by kernel_rfl) (by kernel_rfl) zJL⟩ (by kernel_rfl)) (fun s=>by kernel_rfl)
def Wr:Xa:=⟨⟨[1,16,17,18],⟨[.c (.one (.ptr 0 0)),.c (.one (.b (.sl false .lk))),zc,zc],[.box 34 [zi,(.b (.sl false .lk))]]⟩,[.ls .lk,.int,.int,.int,.ls .lk]⟩,0,⟨[],⟨[],[]⟩,[]⟩,⟨[2],⟨[.c (.one (.b .bool))],[]⟩,[.bool]⟩,lp YJ Fa⟩
def PY:Na:=⟨⟨[.c (.agg [zi,(.b (.sl false .lk))])],[]⟩,[.int,.ls .lk],⟨[.c (.one (.b .bool))],[]⟩,[.bool],ZJ⟩
def RE:Ka:=Qa tab [(58,[],Wi)] 85 0 [(8,34,tk 34,[])] [(4,Wr)]
theorem fB:Ma Tryz.prog RE.Γ:=Pa (l:=[(58,[],Wi)]) ⟨⟨Sw,Tryz.call58⟩,trivial⟩
theorem zIM:Db Tryz.prog 0 85 (Ab (Tryz.f85.body.getD .skip) 0) Wr:=Eb (G:=RE) (F:=Wr.F) (eid:=Wr.eid) (FX:=Wr.FX) (FR:=Wr.FR) (B:=YJ) (n:=Fa) Ga Ia fB mixed (Ha (G:=RE) (n:=0) (by kernel_rfl) (by kernel_rfl) trivial (by kernel_rfl)) (fun s=>by kernel_rfl)
theorem zKh:GC Tryz.prog 85 PY:=Ra (G:=RE) (c:=Tryz.f85.body.getD .skip) Ga Ia fB mixed Tryz.func85 (by kernel_rfl) Tryz.ntmps85 (Ha (G:=RE) (n:=1) (by kernel_rfl) (by kernel_rfl) ⟨trivial,Fb (id:=4) (L0:=Wr) (by kernel_rfl) (by kernel_rfl) zIM⟩ (by kernel_rfl)) (fun s=>by kernel_rfl)
def Xr:Xa:=⟨⟨[1,5,12,13,14],⟨[zc,.c (.one (.own 0)),.c (.one (.b (.sl false .lk))),zc,zc],[.row 3 .int]⟩,[.int,.ls .lk,.int,.int,.ls .int]⟩,0,⟨[5],⟨[.c (.one (.own 0))],[.row 3 .int]⟩,[.ls .int]⟩,zx,lp AK Fa⟩
def SE:Na:=⟨⟨[.c (.agg [zi,(.b (.sl false .lk))]),zc],[]⟩,[.int,.ls .lk,.int],⟨[.c (.one (.own 0))],[.row 3 .int]⟩,[.ls .int],Fw⟩
def TE:Ka:=Qa tab [(158,[],AT),(157,[],KY)] 33 0 [] [(3,Xr)]
theorem fC:Ma Tryz.prog TE.Γ:=Pa (l:=[(158,[],AT),(157,[],KY)]) ⟨⟨rV,Tryz.call158⟩,⟨⟨zKp,Tryz.call157⟩,trivial⟩⟩
theorem zIR:Db Tryz.prog 0 33 (Ab (Tryz.f144.body.getD .skip) 0) Xr:=Eb (G:=TE) (F:=Xr.F) (eid:=Xr.eid) (FX:=Xr.FX) (FR:=Xr.FR) (B:=AK) (n:=Fa) Ga Ia fC mixed (Ha (G:=TE) (n:=0) (by kernel_rfl) (by kernel_rfl) trivial (by kernel_rfl)) (fun s=>by kernel_rfl)
theorem fD:GC Tryz.prog 144 SE:=Ra (G:=TE) (c:=Tryz.f144.body.getD .skip) Ga Ia fC mixed Tryz.func144 (by kernel_rfl) Tryz.ntmps144 (Ha (G:=TE) (n:=1) (by kernel_rfl) (by kernel_rfl) ⟨trivial,Fb (id:=3) (L0:=Xr) (by kernel_rfl) (by kernel_rfl) zIR⟩ (by kernel_rfl)) (fun s=>by kernel_rfl)
def UE:Na:=⟨⟨[.c (.agg [zi,zi,zi]),.c (.one (.at_ [(.int .i64)] 0)),.c (.one (.at_ [(.int .i64)] 0))],[]⟩,[.int,.int,.int,.int,.int],⟨[.c (.one (.b .bool))],[]⟩,[.bool],BK⟩
def QY:Ka:=Qa tab [] 19 0 [] []
theorem zOu:Ma Tryz.prog QY.Γ:=Pa (l:=[]) trivial
theorem fE:GC Tryz.prog 152 UE:=Ra (G:=QY) (c:=Tryz.f152.body.getD .skip) Ga Ia zOu mixed Tryz.func152 (by kernel_rfl) Tryz.ntmps152 (Ha (G:=QY) (n:=0) (by kernel_rfl) (by kernel_rfl) trivial (by kernel_rfl)) (fun s=>by kernel_rfl)
def Yr:Xa:=⟨⟨[0,1,7,8],⟨[.c (.one (.b (.sl false .lk))),.c (.fn 152 [(.at_ [(.int .i64)] 0),(.at_ [(.int .i64)] 0)]),zc,zc],[]⟩,[.ls .lk,.int,.int,.int,.int]⟩,0,⟨[],⟨[],[]⟩,[]⟩,⟨[4],⟨[zc],[]⟩,[.int]⟩,lp CK Fa⟩
def RY:Na:=⟨⟨[.c (.one (.b (.sl false .lk))),.c (.fn 152 [(.at_ [(.int .i64)] 0),(.at_ [(.int .i64)] 0)])],[]⟩,[.ls .lk,.int,.int],⟨[zc],[]⟩,[.int],PT⟩
def VE:Ka:=Qa tab [(152,[],UE)] 19 0 [] [(2,Yr)]
theorem fF:Ma Tryz.prog VE.Γ:=Pa (l:=[(152,[],UE)]) ⟨⟨fE,Tryz.call152⟩,trivial⟩
theorem zJI:Db Tryz.prog 0 19 (Ab (Tryz.f151.body.getD .skip) 0) Yr:=Eb (G:=VE) (F:=Yr.F) (eid:=Yr.eid) (FX:=Yr.FX) (FR:=Yr.FR) (B:=CK) (n:=Fa) Ga Ia fF mixed (Ha (G:=VE) (n:=0) (by kernel_rfl) (by kernel_rfl) trivial (by kernel_rfl)) (fun s=>by kernel_rfl)
theorem zLM:GC Tryz.prog 151 RY:=Ra (G:=VE) (c:=Tryz.f151.body.getD .skip) Ga Ia fF mixed Tryz.func151 (by kernel_rfl) Tryz.ntmps151 (Ha (G:=VE) (n:=1) (by kernel_rfl) (by kernel_rfl) ⟨trivial,Fb (id:=2) (L0:=Yr) (by kernel_rfl) (by kernel_rfl) zJI⟩ (by kernel_rfl)) (fun s=>by kernel_rfl)
def WE:Na:=⟨⟨[.c (.agg [zi,(.b (.sl false .lk))]),zc,zc],[]⟩,[.int,.ls .lk,.int,.int],⟨[zc],[]⟩,[.int],Dz⟩
def SY:Ka:=Qa tab [(152,[],UE),(151,[152],RY)] 11 0 [] []
theorem zOt:Ma Tryz.prog SY.Γ:=Pa (l:=[(152,[],UE),(151,[152],RY)]) ⟨⟨fE,Tryz.call152⟩,⟨⟨zLM,Tryz.call151⟩,trivial⟩⟩
theorem fG:GC Tryz.prog 136 WE:=Ra (G:=SY) (c:=Tryz.f136.body.getD .skip) Ga Ia zOt mixed Tryz.func136 (by kernel_rfl) Tryz.ntmps136 (Ha (G:=SY) (n:=0) (by kernel_rfl) (by kernel_rfl) trivial (by kernel_rfl)) (fun s=>by kernel_rfl)
def TY:Na:=⟨⟨[.c (.agg [zi,(.b (.sl false .lk))]),zc],[]⟩,[.int,.ls .lk,.int],⟨[.c (.one (.b .bool))],[]⟩,[.bool],DK⟩
def UY:Ka:=Qa tab [(82,[],Mk)] 10 0 [] []
theorem zP9:Ma Tryz.prog UY.Γ:=Pa (l:=[(82,[],Mk)]) ⟨⟨NE,Tryz.call82⟩,trivial⟩
theorem zL7:GC Tryz.prog 56 TY:=Ra (G:=UY) (c:=Tryz.f56.body.getD .skip) Ga Ia zP9 mixed Tryz.func56 (by kernel_rfl) Tryz.ntmps56 (Ha (G:=UY) (n:=0) (by kernel_rfl) (by kernel_rfl) trivial (by kernel_rfl)) (fun s=>by kernel_rfl)
end
section
open Go.RowKit
def VY:Na:=⟨⟨[zc],[]⟩,[.int],⟨[.c (.one (.b .bool))],[]⟩,[.bool],Ez⟩
def WY:Ka:=Qa tab [] 6 0 [] []
theorem zOm:Ma Tryz.prog WY.Γ:=Pa (l:=[]) trivial
theorem zKe:GC Tryz.prog 150 VY:=Ra (G:=WY) (c:=Tryz.f150.body.getD .skip) Ga Ia zOm mixed Tryz.func150 (by kernel_rfl) Tryz.ntmps150 (Ha (G:=WY) (n:=0) (by kernel_rfl) (by kernel_rfl) trivial (by kernel_rfl)) (fun s=>by kernel_rfl)
def XY:Na:=⟨⟨[zc,zc],[]⟩,[.int,.int],⟨[zc],[]⟩,[.int],EK⟩
def YY:Ka:=Qa tab [(150,[],VY)] 20 0 [] []
theorem zOl:Ma Tryz.prog YY.Γ:=Pa (l:=[(150,[],VY)]) ⟨⟨zKe,Tryz.call150⟩,trivial⟩
theorem zKd:GC Tryz.prog 135 XY:=Ra (G:=YY) (c:=Tryz.f135.body.getD .skip) Ga Ia zOl mixed Tryz.func135 (by kernel_rfl) Tryz.ntmps135 (Ha (G:=YY) (n:=0) (by kernel_rfl) (by kernel_rfl) trivial (by kernel_rfl)) (fun s=>by kernel_rfl)
def Zr:Xa:=⟨⟨[0,1,4,6],⟨[.c (.one (.b (.sl false .ls))),zc,.c (.one (.ptr 0 0)),zc],[.box 108 [zi,zi,(.b (.sl true .en))]]⟩,[.ls .ls,.int,.int,.int,.int,.ls .en]⟩,0,⟨[4],⟨[.c (.one (.ptr 0 0))],[.box 108 [zi,zi,(.b (.sl true .en))]]⟩,[.int,.int,.ls .en]⟩,⟨[4,5],⟨[.c (.one (.ptr 0 0)),.c (.one (.b .bool))],[.box 108 [zi,zi,(.b (.sl true .en))]]⟩,[.bool,.int,.int,.ls .en]⟩,lp FK Fa⟩
def As:Na:=⟨⟨[.c (.one (.b (.sl false .ls))),zc],[]⟩,[.ls .ls,.int],⟨[.tup [(.agg [zi,zi,(.b (.sl true .en))]),(.one (.b .bool))]],[]⟩,[.int,.int,.ls .en,.bool],Hw⟩
def XE:Ka:=Qa tab [] 25 0 [] [(2,Zr)]
theorem fH:Ma Tryz.prog XE.Γ:=Pa (l:=[]) trivial
theorem zJU:Db Tryz.prog 0 25 (Ab (Tryz.f81.body.getD .skip) 0) Zr:=Eb (G:=XE) (F:=Zr.F) (eid:=Zr.eid) (FX:=Zr.FX) (FR:=Zr.FR) (B:=FK) (n:=Fa) Ga Ia fH mixed (Ha (G:=XE) (n:=0) (by kernel_rfl) (by kernel_rfl) trivial (by kernel_rfl)) (fun s=>by kernel_rfl)
theorem ZY:GC Tryz.prog 81 As:=Ra (G:=XE) (c:=Tryz.f81.body.getD .skip) Ga Ia fH mixed Tryz.func81 (by kernel_rfl) Tryz.ntmps81 (Ha (G:=XE) (n:=1) (by kernel_rfl) (by kernel_rfl) ⟨trivial,Fb (id:=2) (L0:=Zr) (by kernel_rfl) (by kernel_rfl) zJU⟩ (by kernel_rfl)) (fun s=>by kernel_rfl)
def Bs:Xa:=⟨⟨[1,16,17,18],⟨[.c (.one (.ptr 0 0)),.c (.one (.b (.sl false .en))),zc,zc],[.box 108 [zi,zi,(.b (.sl false .en))]]⟩,[.ls .en,.int,.int,.int,.int,.ls .en]⟩,0,⟨[],⟨[],[]⟩,[]⟩,⟨[2],⟨[.c (.one (.b .bool))],[]⟩,[.bool]⟩,lp GK Fa⟩
def YE:Na:=⟨⟨[.c (.agg [zi,zi,(.b (.sl false .en))])],[]⟩,[.int,.int,.ls .en],⟨[.c (.one (.b .bool))],[]⟩,[.bool],Fz⟩
def ZE:Ka:=Qa tab [(58,[],Wi)] 57 0 [(6,30,[(0,true),(1,true),(2,false),(3,true),(4,true),(5,true),(6,true),(7,true),(8,true),(9,true),(10,true),(11,true),(12,true),(13,true),(14,false),(15,true),(16,true),(17,true),(18,true),(19,true),(20,true),(21,true),(22,true),(23,true),(24,true),(25,true),(26,true),(27,true),(28,true),(29,true)],[])] [(4,Bs)]
theorem fI:Ma Tryz.prog ZE.Γ:=Pa (l:=[(58,[],Wi)]) ⟨⟨Sw,Tryz.call58⟩,trivial⟩
theorem zIS:Db Tryz.prog 0 57 (Ab (Tryz.f132.body.getD .skip) 0) Bs:=Eb (G:=ZE) (F:=Bs.F) (eid:=Bs.eid) (FX:=Bs.FX) (FR:=Bs.FR) (B:=GK) (n:=Fa) Ga Ia fI mixed (Ha (G:=ZE) (n:=0) (by kernel_rfl) (by kernel_rfl) trivial (by kernel_rfl)) (fun s=>by kernel_rfl)
theorem fJ:GC Tryz.prog 132 YE:=Ra (G:=ZE) (c:=Tryz.f132.body.getD .skip) Ga Ia fI mixed Tryz.func132 (by kernel_rfl) Tryz.ntmps132 (Ha (G:=ZE) (n:=1) (by kernel_rfl) (by kernel_rfl) ⟨trivial,Fb (id:=4) (L0:=Bs) (by kernel_rfl) (by kernel_rfl) zIS⟩ (by kernel_rfl)) (fun s=>by kernel_rfl)
def Cs:Xa:=⟨⟨[1,3],⟨[.c (.one (.ptr 0 0)),zc],[.box 108 [zi,zi,(.b (.sl false .en))]]⟩,[.int,.int,.int,.ls .en]⟩,0,⟨[1],⟨[.c (.one (.ptr 0 0))],[.box 108 [zi,zi,(.b (.sl false .en))]]⟩,[.int,.int,.ls .en]⟩,⟨[2],⟨[.c (.one (.b .bool))],[]⟩,[.bool]⟩,lp IK Fa⟩
def AF:Na:=⟨⟨[.c (.agg [zi,zi,(.b (.sl false .en))])],[]⟩,[.int,.int,.ls .en],⟨[.c (.one (.b .bool))],[]⟩,[.bool],Gz⟩
def BF:Ka:=Qa tab [(82,[],Mk)] 58 0 [(5,30,[(0,true),(1,true),(2,false),(3,true),(4,true),(5,true),(6,true),(7,true),(8,true),(9,true),(10,true),(11,true),(12,true),(13,true),(14,false),(15,true),(16,true),(17,true),(18,true),(19,true),(20,true),(21,true),(22,true),(23,true),(24,true),(25,true),(26,true),(27,true),(28,true),(29,true)],[])] [(2,Cs)]
theorem fK:Ma Tryz.prog BF.Γ:=Pa (l:=[(82,[],Mk)]) ⟨⟨NE,Tryz.call82⟩,trivial⟩
theorem zJM:Db Tryz.prog 0 58 (Ab (Tryz.f129.body.getD .skip) 0) Cs:=Eb (G:=BF) (F:=Cs.F) (eid:=Cs.eid) (FX:=Cs.FX) (FR:=Cs.FR) (B:=IK) (n:=Fa) Ga Ia fK mixed (Ha (G:=BF) (n:=0) (by kernel_rfl) (by kernel_rfl) trivial (by kernel_rfl)) (fun s=>by kernel_rfl)
theorem fL:GC Tryz.prog 129 AF:=Ra (G:=BF) (c:=Tryz.f129.body.getD .skip) Ga Ia fK mixed Tryz.func129 (by kernel_rfl) Tryz.ntmps129 (Ha (G:=BF) (n:=1) (by kernel_rfl) (by kernel_rfl) ⟨trivial,Fb (id:=2) (L0:=Cs) (by kernel_rfl) (by kernel_rfl) zJM⟩ (by kernel_rfl)) (fun s=>by kernel_rfl)
def Ds:Xa:=⟨⟨[1,3,6,7,8],⟨[zc,.c (.one (.ptr 0 0)),.c (.one (.ptr 1 0)),.c (.one (.ptr 2 0)),zc],[.box 34 [zi,(.b (.sl false .lk))],.box 108 [zi,zi,(.b (.sl true .en))],.box 108 [zi,zi,(.own 3)],.row 153 .en]⟩,[.int,.int,.int,.ls .lk,.int,.int,.ls .en,.int,.int,.ls .en]⟩,0,⟨[6,7],⟨[.c (.one (.ptr 0 0)),.c (.one (.ptr 1 0))],[.box 108 [zi,zi,(.b (.sl true .en))],.box 108 [zi,zi,(.own 2)],.row 153 .en]⟩,[.int,.int,.ls .en,.int,.int,.ls .en]⟩,zx,lp JK Fa⟩
def AZ:Na:=⟨⟨[.c (.agg [zi,(.b (.sl false .lk))]),zc,zc],[]⟩,[.int,.ls .lk,.int,.int],⟨[.c (.agg [zi,zi,(.own 0)])],[.row 153 .en]⟩,[.int,.int,.ls .en],Hz⟩
def DF:Ka:=Qa tab [(130,[],OE)] 40 0 [(7,11,[(0,true),(1,true),(2,true),(3,true),(4,true),(5,true),(6,true),(7,true),(8,true),(9,true),(10,false)],[])] [(3,Ds)]
theorem fM:Ma Tryz.prog DF.Γ:=Pa (l:=[(130,[],OE)]) ⟨⟨eZ,Tryz.call130⟩,trivial⟩
theorem zJY:Db Tryz.prog 0 40 (Ab (Tryz.f103.body.getD .skip) 0) Ds:=Eb (G:=DF) (F:=Ds.F) (eid:=Ds.eid) (FX:=Ds.FX) (FR:=Ds.FR) (B:=JK) (n:=Fa) Ga Ia fM mixed (Ha (G:=DF) (n:=0) (by kernel_rfl) (by kernel_rfl) trivial (by kernel_rfl)) (fun s=>by kernel_rfl)
theorem zL2:GC Tryz.prog 103 AZ:=Ra (G:=DF) (c:=Tryz.f103.body.getD .skip) Ga Ia fM mixed Tryz.func103 (by kernel_rfl) Tryz.ntmps103 (Ha (G:=DF) (n:=1) (by kernel_rfl) (by kernel_rfl) ⟨trivial,Fb (id:=3) (L0:=Ds) (by kernel_rfl) (by kernel_rfl) zJY⟩ (by kernel_rfl)) (fun s=>by kernel_rfl)
def Es:Xa:=⟨⟨[0,5,6,7],⟨[.c (.one (.b (.sl false .ls))),.c (.one (.b (.sl false .ls))),zc,zc],[]⟩,[.ls .ls,.ls .ls,.int,.int]⟩,0,⟨[],⟨[],[]⟩,[]⟩,⟨[2],⟨[.c (.one (.b .bool))],[]⟩,[.bool]⟩,lp Iz Fa⟩
def EF:Na:=⟨⟨[.c (.one (.b (.sl false .ls)))],[]⟩,[.ls .ls],⟨[.c (.one (.b .bool))],[]⟩,[.bool],Jz⟩
def FF:Ka:=Qa tab [(132,[],YE)] 31 0 [(4,15,[(0,true),(1,false),(2,true),(3,true),(4,true),(5,true),(6,true),(7,true),(8,true),(9,true),(10,true),(11,true),(12,true),(13,true),(14,true)],[])] [(2,Es)]
theorem fN:Ma Tryz.prog FF.Γ:=Pa (l:=[(132,[],YE)]) ⟨⟨fJ,Tryz.call132⟩,trivial⟩
theorem zIL:Db Tryz.prog 0 31 (Ab (Tryz.f86.body.getD .skip) 0) Es:=Eb (G:=FF) (F:=Es.F) (eid:=Es.eid) (FX:=Es.FX) (FR:=Es.FR) (B:=Iz) (n:=Fa) Ga Ia fN mixed (Ha (G:=FF) (n:=0) (by kernel_rfl) (by kernel_rfl) trivial (by kernel_rfl)) (fun s=>by kernel_rfl)
theorem fO:GC Tryz.prog 86 EF:=Ra (G:=FF) (c:=Tryz.f86.body.getD .skip) Ga Ia fN mixed Tryz.func86 (by kernel_rfl) Tryz.ntmps86 (Ha (G:=FF) (n:=1) (by kernel_rfl) (by kernel_rfl) ⟨trivial,Fb (id:=2) (L0:=Es) (by kernel_rfl) (by kernel_rfl) zIL⟩ (by kernel_rfl)) (fun s=>by kernel_rfl)
def Fs:Xa:=⟨⟨[0,3],⟨[.c (.one (.b (.sl false .ls))),zc],[]⟩,[.ls .ls,.int]⟩,0,⟨[],⟨[],[]⟩,[]⟩,⟨[2],⟨[.c (.one (.b .bool))],[]⟩,[.bool]⟩,lp Kz Fa⟩
def BZ:Na:=⟨⟨[.c (.one (.b (.sl false .ls)))],[]⟩,[.ls .ls],⟨[.c (.one (.b .bool))],[]⟩,[.bool],LK⟩
def GF:Ka:=Qa tab [(129,[],AF)] 34 0 [(4,21,[(0,true),(1,true),(2,true),(3,true),(4,false),(5,true),(6,true),(7,true),(8,true),(9,true),(10,true),(11,true),(12,true),(13,true),(14,true),(15,true),(16,true),(17,true),(18,true),(19,true),(20,true)],[])] [(2,Fs)]
theorem fP:Ma Tryz.prog GF.Γ:=Pa (l:=[(129,[],AF)]) ⟨⟨fL,Tryz.call129⟩,trivial⟩
theorem zJK:Db Tryz.prog 0 34 (Ab (Tryz.f127.body.getD .skip) 0) Fs:=Eb (G:=GF) (F:=Fs.F) (eid:=Fs.eid) (FX:=Fs.FX) (FR:=Fs.FR) (B:=Kz) (n:=Fa) Ga Ia fP mixed (Ha (G:=GF) (n:=0) (by kernel_rfl) (by kernel_rfl) trivial (by kernel_rfl)) (fun s=>by kernel_rfl)
theorem zLQ:GC Tryz.prog 127 BZ:=Ra (G:=GF) (c:=Tryz.f127.body.getD .skip) Ga Ia fP mixed Tryz.func127 (by kernel_rfl) Tryz.ntmps127 (Ha (G:=GF) (n:=1) (by kernel_rfl) (by kernel_rfl) ⟨trivial,Fb (id:=2) (L0:=Fs) (by kernel_rfl) (by kernel_rfl) zJK⟩ (by kernel_rfl)) (fun s=>by kernel_rfl)
def HF:Na:=⟨⟨[.c (.agg [zi,zi,(.b (.sl false .en))]),zc],[]⟩,[.int,.int,.ls .en,.int],⟨[zc],[]⟩,[.int],Lz⟩
def CZ:Ka:=Qa tab [(135,[],XY)] 9 0 [] []
theorem zOT:Ma Tryz.prog CZ.Γ:=Pa (l:=[(135,[],XY)]) ⟨⟨zKd,Tryz.call135⟩,trivial⟩
theorem fQ:GC Tryz.prog 134 HF:=Ra (G:=CZ) (c:=Tryz.f134.body.getD .skip) Ga Ia zOT mixed Tryz.func134 (by kernel_rfl) Tryz.ntmps134 (Ha (G:=CZ) (n:=0) (by kernel_rfl) (by kernel_rfl) trivial (by kernel_rfl)) (fun s=>by kernel_rfl)
def Gs:Xa:=⟨⟨[0,1,2,8,9,10],⟨[.c (.one (.b (.sl false .ls))),zc,.c (.fn 134 []),zc,zc,zc],[]⟩,[.ls .ls,.int,.int,.int,.int]⟩,0,⟨[0,1,2,8,9],⟨[.c (.one (.b (.sl false .ls))),zc,.c (.fn 134 []),zc,zc],[]⟩,[.ls .ls,.int,.int,.int]⟩,zx,lp MK Fa⟩
def DZ:Na:=⟨⟨[.c (.one (.b (.sl false .ls))),zc,.c (.fn 134 [])],[]⟩,[.ls .ls,.int],⟨[.tup [(.one zi),(.one (.b .bool))]],[]⟩,[.int,.bool],QT⟩
def IF:Ka:=Qa tab [(134,[],HF)] 49 0 [] [(3,Gs)]
theorem fR:Ma Tryz.prog IF.Γ:=Pa (l:=[(134,[],HF)]) ⟨⟨fQ,Tryz.call134⟩,trivial⟩
theorem zJG:Db Tryz.prog 0 49 (Ab (Tryz.f133.body.getD .skip) 0) Gs:=Eb (G:=IF) (F:=Gs.F) (eid:=Gs.eid) (FX:=Gs.FX) (FR:=Gs.FR) (B:=MK) (n:=Fa) Ga Ia fR mixed (Ha (G:=IF) (n:=0) (by kernel_rfl) (by kernel_rfl) trivial (by kernel_rfl)) (fun s=>by kernel_rfl)
theorem zLF:GC Tryz.prog 133 DZ:=Ra (G:=IF) (c:=Tryz.f133.body.getD .skip) Ga Ia fR mixed Tryz.func133 (by kernel_rfl) Tryz.ntmps133 (Ha (G:=IF) (n:=1) (by kernel_rfl) (by kernel_rfl) ⟨trivial,Fb (id:=3) (L0:=Gs) (by kernel_rfl) (by kernel_rfl) zJG⟩ (by kernel_rfl)) (fun s=>by kernel_rfl)
def Is:Na:=⟨⟨[.c (.one (.b (.sl false .ls))),zc],[]⟩,[.ls .ls,.int],⟨[.tup [(.one zi),(.one (.b .bool))]],[]⟩,[.int,.bool],Yp⟩
def EZ:Ka:=Qa tab [(134,[],HF),(133,[134],DZ)] 11 0 [] []
theorem zOS:Ma Tryz.prog EZ.Γ:=Pa (l:=[(134,[],HF),(133,[134],DZ)]) ⟨⟨fQ,Tryz.call134⟩,⟨⟨zLF,Tryz.call133⟩,trivial⟩⟩
theorem FZ:GC Tryz.prog 87 Is:=Ra (G:=EZ) (c:=Tryz.f87.body.getD .skip) Ga Ia zOS mixed Tryz.func87 (by kernel_rfl) Tryz.ntmps87 (Ha (G:=EZ) (n:=0) (by kernel_rfl) (by kernel_rfl) trivial (by kernel_rfl)) (fun s=>by kernel_rfl)
def Js:Xa:=⟨⟨[2,23,24,25],⟨[zc,.c (.one (.b (.sl true .en))),zc,zc],[]⟩,[.int,.ls .en,.int,.int]⟩,0,⟨[],⟨[],[]⟩,[]⟩,⟨[6],⟨[zc],[]⟩,[.int]⟩,lp NK Fa⟩
def GZ:Na:=⟨⟨[.c (.one (.b (.sl false .ls))),zc,zc],[]⟩,[.ls .ls,.int,.int],⟨[zc],[]⟩,[.int],Mz⟩
def JF:Ka:=Qa tab [(87,[],Is)] 36 0 [] [(5,Js)]
theorem fS:Ma Tryz.prog JF.Γ:=Pa (l:=[(87,[],Is)]) ⟨⟨FZ,Tryz.call87⟩,trivial⟩
theorem zI8:Db Tryz.prog 0 36 (Ab (Tryz.f140.body.getD .skip) 0) Js:=Eb (G:=JF) (F:=Js.F) (eid:=Js.eid) (FX:=Js.FX) (FR:=Js.FR) (B:=NK) (n:=Fa) Ga Ia fS mixed (Ha (G:=JF) (n:=0) (by kernel_rfl) (by kernel_rfl) trivial (by kernel_rfl)) (fun s=>by kernel_rfl)
theorem zKF:GC Tryz.prog 140 GZ:=Ra (G:=JF) (c:=Tryz.f140.body.getD .skip) Ga Ia fS mixed Tryz.func140 (by kernel_rfl) Tryz.ntmps140 (Ha (G:=JF) (n:=1) (by kernel_rfl) (by kernel_rfl) ⟨trivial,Fb (id:=5) (L0:=Js) (by kernel_rfl) (by kernel_rfl) zI8⟩ (by kernel_rfl)) (fun s=>by kernel_rfl)
def Ks:Xa:=⟨⟨[1,3,6,7,15,16,17],⟨[zc,.c (.one (.ptr 0 0)),.c (.one (.ptr 1 0)),.c (.one (.ptr 2 0)),.c (.one (.own 3)),zc,zc],[.box 34 [zi,(.b (.sl false .lk))],.box 108 [zi,zi,(.own 4)],.box 108 [zi,zi,(.own 5)],.row 3 .int,.row 153 .en,.row 153 .en]⟩,[.int,.int,.int,.int,.ls .lk,.int,.int,.int,.int,.ls .int,.ls .en,.ls .en]⟩,0,⟨[6,7],⟨[.c (.one (.ptr 0 0)),.c (.one (.ptr 1 0))],[.box 108 [zi,zi,(.own 2)],.box 108 [zi,zi,(.own 3)],.row 153 .en,.row 153 .en]⟩,[.int,.int,.int,.int,.ls .en,.ls .en]⟩,zx,lp Nz Fa⟩
def KF:Na:=⟨⟨[.c (.agg [zi,(.b (.sl false .lk))]),zc,zc],[]⟩,[.int,.ls .lk,.int,.int],⟨[.c (.agg [zi,zi,(.own 0)])],[.row 153 .en]⟩,[.int,.int,.ls .en],Iw⟩
def LF:Ka:=Qa tab [(144,[],SE),(136,[],WE)] 39 0 [(5,14,[(0,true),(1,true),(2,true),(3,true),(4,true),(5,true),(6,true),(7,true),(8,false),(9,true),(10,true),(11,false),(12,true),(13,false)],[])] [(3,Ks)]
theorem fT:Ma Tryz.prog LF.Γ:=Pa (l:=[(144,[],SE),(136,[],WE)]) ⟨⟨fD,Tryz.call144⟩,⟨⟨fG,Tryz.call136⟩,trivial⟩⟩
theorem zIQ:Db Tryz.prog 0 39 (Ab (Tryz.f112.body.getD .skip) 0) Ks:=Eb (G:=LF) (F:=Ks.F) (eid:=Ks.eid) (FX:=Ks.FX) (FR:=Ks.FR) (B:=Nz) (n:=Fa) Ga Ia fT mixed (Ha (G:=LF) (n:=0) (by kernel_rfl) (by kernel_rfl) trivial (by kernel_rfl)) (fun s=>by kernel_rfl)
theorem fU:GC Tryz.prog 112 KF:=Ra (G:=LF) (c:=Tryz.f112.body.getD .skip) Ga Ia fT mixed Tryz.func112 (by kernel_rfl) Tryz.ntmps112 (Ha (G:=LF) (n:=1) (by kernel_rfl) (by kernel_rfl) ⟨trivial,Fb (id:=3) (L0:=Ks) (by kernel_rfl) (by kernel_rfl) zIQ⟩ (by kernel_rfl)) (fun s=>by kernel_rfl)
def Ms:Xa:=⟨⟨[0,1,4,6,7,8,22,23],⟨[zc,.c (.one (.b (.sl false .ls))),.c (.one (.ptr 0 0)),.c (.one (.ptr 1 0)),zc,zc,zc,zc],[.box 34 [zi,(.own 2)],.box 34 [zi,(.own 3)],.row 114 .lk,.row 114 .lk]⟩,[.int,.ls .ls,.int,.int,.int,.int,.int,.int,.ls .lk,.ls .lk]⟩,2,⟨[0,1,4,6,22,23],⟨[zc,.c (.one (.b (.sl false .ls))),.c (.one (.ptr 0 0)),.c (.one (.ptr 1 0)),zc,zc],[.box 34 [zi,(.own 2)],.box 34 [zi,(.own 3)],.row 114 .lk,.row 114 .lk]⟩,[.int,.ls .ls,.int,.int,.int,.int,.ls .lk,.ls .lk]⟩,zx,lp Oz Fa⟩
def Ns:Xa:=⟨⟨[0,1,4,6,22,23],⟨[zc,.c (.one (.b (.sl false .ls))),.c (.one (.ptr 0 0)),.c (.one (.ptr 1 0)),zc,zc],[.box 34 [zi,(.own 2)],.box 34 [zi,(.own 3)],.row 114 .lk,.row 114 .lk]⟩,[.int,.ls .ls,.int,.int,.int,.int,.ls .lk,.ls .lk]⟩,0,⟨[4,6],⟨[.c (.one (.ptr 0 0)),.c (.one (.ptr 1 0))],[.box 34 [zi,(.own 2)],.box 34 [zi,(.own 3)],.row 114 .lk,.row 114 .lk]⟩,[.int,.int,.ls .lk,.ls .lk]⟩,zx,lp OK Fa⟩
def HZ:Na:=⟨⟨[zc,.c (.one (.b (.sl false .ls)))],[]⟩,[.int,.ls .ls],⟨[.tup [(.agg [zi,(.own 0)]),(.one (.b .bool))]],[.row 114 .lk]⟩,[.int,.bool,.ls .lk],PK⟩
def Ps:Ka:=Qa tab [(58,[],Wi),(86,[],EF),(140,[],GZ)] 65 0 [] [(8,Ms),(5,Ns)]
theorem IZ:Ma Tryz.prog Ps.Γ:=Pa (l:=[(58,[],Wi),(86,[],EF),(140,[],GZ)]) ⟨⟨Sw,Tryz.call58⟩,⟨⟨fO,Tryz.call86⟩,⟨⟨zKF,Tryz.call140⟩,trivial⟩⟩⟩
theorem zIK:Db Tryz.prog 0 65 (Ab (Ab (Tryz.f100.body.getD .skip) 0) 0) Ms:=Eb (G:=Ps) (F:=Ms.F) (eid:=Ms.eid) (FX:=Ms.FX) (FR:=Ms.FR) (B:=Oz) (n:=Fa) Ga Ia IZ mixed (Ha (G:=Ps) (n:=0) (by kernel_rfl) (by kernel_rfl) trivial (by kernel_rfl)) (fun s=>by kernel_rfl)
theorem zIJ:Db Tryz.prog 0 65 (Ab (Tryz.f100.body.getD .skip) 0) Ns:=Eb (G:=Ps) (F:=Ns.F) (eid:=Ns.eid) (FX:=Ns.FX) (FR:=Ns.FR) (B:=OK) (n:=Fa) Ga Ia IZ mixed (Ha (G:=Ps) (n:=1) (by kernel_rfl) (by kernel_rfl) ⟨trivial,Fb (id:=8) (L0:=Ms) (by kernel_rfl) (by kernel_rfl) zIK⟩ (by kernel_rfl)) (fun s=>by kernel_rfl)
theorem zKf:GC Tryz.prog 100 HZ:=Ra (G:=Ps) (c:=Tryz.f100.body.getD .skip) Ga Ia IZ mixed Tryz.func100 (by kernel_rfl) Tryz.ntmps100 (Ha (G:=Ps) (n:=1) (by kernel_rfl) (by kernel_rfl) ⟨trivial,Fb (id:=5) (L0:=Ns) (by kernel_rfl) (by kernel_rfl) zIJ⟩ (by kernel_rfl)) (fun s=>by kernel_rfl)
def Qs:Xa:=⟨⟨[2,7,9],⟨[zc,.c (.one (.ptr 0 0)),zc],[.box 108 [zi,zi,(.b (.sl true .en))]]⟩,[.int,.int,.int,.int,.ls .en]⟩,0,⟨[],⟨[],[]⟩,[]⟩,⟨[6],⟨[zc],[]⟩,[.int]⟩,lp Pz Fa⟩
def JZ:Na:=⟨⟨[.c (.one (.b (.sl false .ls))),zc,zc],[]⟩,[.ls .ls,.int,.int],⟨[zc],[]⟩,[.int],Qz⟩
def MF:Ka:=Qa tab [(81,[],As)] 37 0 [] [(3,Qs)]
theorem fV:Ma Tryz.prog MF.Γ:=Pa (l:=[(81,[],As)]) ⟨⟨ZY,Tryz.call81⟩,trivial⟩
theorem zJT:Db Tryz.prog 0 37 (Ab (Tryz.f99.body.getD .skip) 0) Qs:=Eb (G:=MF) (F:=Qs.F) (eid:=Qs.eid) (FX:=Qs.FX) (FR:=Qs.FR) (B:=Pz) (n:=Fa) Ga Ia fV mixed (Ha (G:=MF) (n:=0) (by kernel_rfl) (by kernel_rfl) trivial (by kernel_rfl)) (fun s=>by kernel_rfl)
theorem zLY:GC Tryz.prog 99 JZ:=Ra (G:=MF) (c:=Tryz.f99.body.getD .skip) Ga Ia fV mixed Tryz.func99 (by kernel_rfl) Tryz.ntmps99 (Ha (G:=MF) (n:=1) (by kernel_rfl) (by kernel_rfl) ⟨trivial,Fb (id:=3) (L0:=Qs) (by kernel_rfl) (by kernel_rfl) zJT⟩ (by kernel_rfl)) (fun s=>by kernel_rfl)
def Rs:Xa:=⟨⟨[0,1,4,5,6,7],⟨[zc,.c (.one (.b (.sl false .ls))),.c (.one (.ptr 0 0)),.c (.one (.ptr 1 0)),zc,zc],[.box 34 [zi,(.b (.sl true .lk))],.box 34 [zi,(.own 2)],.row 114 .lk]⟩,[.int,.ls .ls,.int,.int,.int,.ls .lk,.int,.ls .lk]⟩,2,⟨[0,1,4,5,6],⟨[zc,.c (.one (.b (.sl false .ls))),.c (.one (.ptr 0 0)),.c (.one (.ptr 1 0)),zc],[.box 34 [zi,(.b (.sl true .lk))],.box 34 [zi,(.own 2)],.row 114 .lk]⟩,[.int,.ls .ls,.int,.int,.ls .lk,.int,.ls .lk]⟩,zx,lp Rz Fa⟩
def Ss:Xa:=⟨⟨[0,1,4,5,6],⟨[zc,.c (.one (.b (.sl false .ls))),.c (.one (.ptr 0 0)),.c (.one (.ptr 1 0)),zc],[.box 34 [zi,(.b (.sl true .lk))],.box 34 [zi,(.own 2)],.row 114 .lk]⟩,[.int,.ls .ls,.int,.int,.ls .lk,.int,.ls .lk]⟩,0,⟨[4,5],⟨[.c (.one (.ptr 0 0)),.c (.one (.ptr 1 0))],[.box 34 [zi,(.b (.sl true .lk))],.box 34 [zi,(.own 2)],.row 114 .lk]⟩,[.int,.ls .lk,.int,.ls .lk]⟩,zx,lp QK Fa⟩
def KZ:Na:=⟨⟨[zc,.c (.one (.b (.sl false .ls)))],[]⟩,[.int,.ls .ls],⟨[.c (.agg [zi,(.own 0)])],[.row 114 .lk]⟩,[.int,.ls .lk],RK⟩
def Ts:Ka:=Qa tab [(99,[],JZ)] 51 0 [] [(6,Rs),(3,Ss)]
theorem LZ:Ma Tryz.prog Ts.Γ:=Pa (l:=[(99,[],JZ)]) ⟨⟨zLY,Tryz.call99⟩,trivial⟩
theorem zJW:Db Tryz.prog 0 51 (Ab (Ab (Tryz.f57.body.getD .skip) 0) 0) Rs:=Eb (G:=Ts) (F:=Rs.F) (eid:=Rs.eid) (FX:=Rs.FX) (FR:=Rs.FR) (B:=Rz) (n:=Fa) Ga Ia LZ mixed (Ha (G:=Ts) (n:=0) (by kernel_rfl) (by kernel_rfl) trivial (by kernel_rfl)) (fun s=>by kernel_rfl)
theorem zJV:Db Tryz.prog 0 51 (Ab (Tryz.f57.body.getD .skip) 0) Ss:=Eb (G:=Ts) (F:=Ss.F) (eid:=Ss.eid) (FX:=Ss.FX) (FR:=Ss.FR) (B:=QK) (n:=Fa) Ga Ia LZ mixed (Ha (G:=Ts) (n:=1) (by kernel_rfl) (by kernel_rfl) ⟨trivial,Fb (id:=6) (L0:=Rs) (by kernel_rfl) (by kernel_rfl) zJW⟩ (by kernel_rfl)) (fun s=>by kernel_rfl)
theorem zL0:GC Tryz.prog 57 KZ:=Ra (G:=Ts) (c:=Tryz.f57.body.getD .skip) Ga Ia LZ mixed Tryz.func57 (by kernel_rfl) Tryz.ntmps57 (Ha (G:=Ts) (n:=1) (by kernel_rfl) (by kernel_rfl) ⟨trivial,Fb (id:=3) (L0:=Ss) (by kernel_rfl) (by kernel_rfl) zJV⟩ (by kernel_rfl)) (fun s=>by kernel_rfl)
end
section
open Go.RowKit
def MZ:Na:=⟨⟨[.c (.agg [zi,(.b (.sl false .lk))])],[]⟩,[.int,.ls .lk],⟨[.c (.agg [zi,(.own 0)])],[.row 114 .lk]⟩,[.int,.ls .lk],PM⟩
def NZ:Ka:=Qa tab [] 9 0 [] []
theorem zP7:Ma Tryz.prog NZ.Γ:=Pa (l:=[]) trivial
theorem zL5:GC Tryz.prog 102 MZ:=Ra (G:=NZ) (c:=Tryz.f102.body.getD .skip) Ga Ia zP7 mixed Tryz.func102 (by kernel_rfl) Tryz.ntmps102 (Ha (G:=NZ) (n:=0) (by kernel_rfl) (by kernel_rfl) trivial (by kernel_rfl)) (fun s=>by kernel_rfl)
def Us:Na:=⟨⟨[.c (.agg [zi,zi,(.b (.sl false .en))])],[]⟩,[.int,.int,.ls .en],⟨[.c (.agg [zi,zi,(.own 0)])],[.row 153 .en]⟩,[.int,.int,.ls .en],Nj⟩
def OZ:Ka:=Qa tab [] 9 0 [] []
theorem zP5:Ma Tryz.prog OZ.Γ:=Pa (l:=[]) trivial
theorem PZ:GC Tryz.prog 107 Us:=Ra (G:=OZ) (c:=Tryz.f107.body.getD .skip) Ga Ia zP5 mixed Tryz.func107 (by kernel_rfl) Tryz.ntmps107 (Ha (G:=OZ) (n:=0) (by kernel_rfl) (by kernel_rfl) trivial (by kernel_rfl)) (fun s=>by kernel_rfl)
def Vs:Xa:=⟨⟨[1,2,3,4],⟨[.c (.one (.ptr 0 0)),.c (.one (.ptr 1 0)),.c (.one (.ptr 2 0)),zc],[.box 39 [zi,(.b (.sl false .lk)),(.b (.sl false .bool)),(.b (.sl false .int)),(.b (.sl false .db)),(.b (.sl false .pk))],.box 34 [zi,(.b (.sl true .lk))],.box 34 [zi,(.own 3)],.row 114 .lk]⟩,[.int,.int,.ls .lk,.ls .bool,.ls .int,.ls .db,.ls .pk,.int,.ls .lk,.int,.ls .lk]⟩,0,⟨[2,3],⟨[.c (.one (.ptr 0 0)),.c (.one (.ptr 1 0))],[.box 34 [zi,(.b (.sl true .lk))],.box 34 [zi,(.own 2)],.row 114 .lk]⟩,[.int,.ls .lk,.int,.ls .lk]⟩,zx,lp QM Fa⟩
def NF:Na:=⟨⟨[.c (.agg [zi,(.b (.sl false .lk)),(.b (.sl false .bool)),(.b (.sl false .int)),(.b (.sl false .db)),(.b (.sl false .pk))])],[]⟩,[.int,.ls .lk,.ls .bool,.ls .int,.ls .db,.ls .pk],⟨[.c (.agg [zi,(.own 0)])],[.row 114 .lk]⟩,[.int,.ls .lk],GB⟩
def OF:Ka:=Qa tab [] 34 0 [(6,9,[(0,true),(1,true),(2,true),(3,true),(4,true),(5,true),(6,true),(7,true),(8,false)],[])] [(3,Vs)]
theorem fW:Ma Tryz.prog OF.Γ:=Pa (l:=[]) trivial
theorem zKc:Db Tryz.prog 0 34 (Ab (Tryz.f38.body.getD .skip) 0) Vs:=Eb (G:=OF) (F:=Vs.F) (eid:=Vs.eid) (FX:=Vs.FX) (FR:=Vs.FR) (B:=QM) (n:=Fa) Ga Ia fW mixed (Ha (G:=OF) (n:=0) (by kernel_rfl) (by kernel_rfl) trivial (by kernel_rfl)) (fun s=>by kernel_rfl)
theorem fX:GC Tryz.prog 38 NF:=Ra (G:=OF) (c:=Tryz.f38.body.getD .skip) Ga Ia fW mixed Tryz.func38 (by kernel_rfl) Tryz.ntmps38 (Ha (G:=OF) (n:=1) (by kernel_rfl) (by kernel_rfl) ⟨trivial,Fb (id:=3) (L0:=Vs) (by kernel_rfl) (by kernel_rfl) zKc⟩ (by kernel_rfl)) (fun s=>by kernel_rfl)
def Ws:Xa:=⟨⟨[2,3,5],⟨[.c (.one (.ptr 0 0)),.c (.one (.ptr 1 0)),zc],[.box 108 [zi,zi,(.b (.sl false .en))],.box 108 [zi,zi,(.b (.sl false .en))]]⟩,[.int,.int,.int,.ls .en,.int,.int,.ls .en]⟩,0,⟨[],⟨[],[]⟩,[]⟩,⟨[4],⟨[.c (.one (.b .bool))],[]⟩,[.bool]⟩,lp RM Fa⟩
def PF:Na:=⟨⟨[.c (.agg [zi,zi,(.b (.sl false .en))]),.c (.agg [zi,zi,(.b (.sl false .en))])],[]⟩,[.int,.int,.ls .en,.int,.int,.ls .en],⟨[.c (.one (.b .bool))],[]⟩,[.bool],IB⟩
def QF:Ka:=Qa tab [] 45 0 [(6,10,tk 10,[])] [(4,Ws)]
theorem fY:Ma Tryz.prog QF.Γ:=Pa (l:=[]) trivial
theorem zKa:Db Tryz.prog 0 45 (Ab (Tryz.f128.body.getD .skip) 0) Ws:=Eb (G:=QF) (F:=Ws.F) (eid:=Ws.eid) (FX:=Ws.FX) (FR:=Ws.FR) (B:=RM) (n:=Fa) Ga Ia fY mixed (Ha (G:=QF) (n:=0) (by kernel_rfl) (by kernel_rfl) trivial (by kernel_rfl)) (fun s=>by kernel_rfl)
theorem fZ:GC Tryz.prog 128 PF:=Ra (G:=QF) (c:=Tryz.f128.body.getD .skip) Ga Ia fY mixed Tryz.func128 (by kernel_rfl) Tryz.ntmps128 (Ha (G:=QF) (n:=1) (by kernel_rfl) (by kernel_rfl) ⟨trivial,Fb (id:=4) (L0:=Ws) (by kernel_rfl) (by kernel_rfl) zKa⟩ (by kernel_rfl)) (fun s=>by kernel_rfl)
def Xs:Xa:=⟨⟨[0,3,4],⟨[.c (.one (.b (.sl false .ls))),.c (.one (.own 0)),zc],[.row 108 .ls]⟩,[.ls .ls,.int,.ls .ls]⟩,0,⟨[3],⟨[.c (.one (.own 0))],[.row 108 .ls]⟩,[.ls .ls]⟩,zx,lp JB Fa⟩
def Zm:Na:=⟨⟨[.c (.one (.b (.sl false .ls)))],[]⟩,[.ls .ls],⟨[.c (.one (.own 0))],[.row 108 .ls]⟩,[.ls .ls],Vm⟩
def RF:Ka:=Qa tab [(107,[],Us)] 21 0 [] [(3,Xs)]
theorem gB:Ma Tryz.prog RF.Γ:=Pa (l:=[(107,[],Us)]) ⟨⟨PZ,Tryz.call107⟩,trivial⟩
theorem zJS:Db Tryz.prog 0 21 (Ab (Tryz.f104.body.getD .skip) 0) Xs:=Eb (G:=RF) (F:=Xs.F) (eid:=Xs.eid) (FX:=Xs.FX) (FR:=Xs.FR) (B:=JB) (n:=Fa) Ga Ia gB mixed (Ha (G:=RF) (n:=0) (by kernel_rfl) (by kernel_rfl) trivial (by kernel_rfl)) (fun s=>by kernel_rfl)
theorem YN:GC Tryz.prog 104 Zm:=Ra (G:=RF) (c:=Tryz.f104.body.getD .skip) Ga Ia gB mixed Tryz.func104 (by kernel_rfl) Tryz.ntmps104 (Ha (G:=RF) (n:=1) (by kernel_rfl) (by kernel_rfl) ⟨trivial,Fb (id:=3) (L0:=Xs) (by kernel_rfl) (by kernel_rfl) zJS⟩ (by kernel_rfl)) (fun s=>by kernel_rfl)
def Nk:Na:=⟨⟨[.c (.agg [zi,zi,(.b (.sl false .en))])],[]⟩,[.int,.int,.ls .en],⟨[.c (.agg [zi,zi,(.own 0)])],[.row 153 .en]⟩,[.int,.int,.ls .en],Kh⟩
def QZ:Ka:=Qa Ag [(146,[],KT)] 8 0 [] []
theorem zOP:Ma Tryz.prog QZ.Γ:=Pa (l:=[(146,[],KT)]) ⟨⟨sN,Tryz.call146⟩,trivial⟩
theorem SF:GC Tryz.prog 117 Nk:=Ra (G:=QZ) (c:=Tryz.f117.body.getD .skip) Ga Xc zOP mixed Tryz.func117 (by kernel_rfl) Tryz.ntmps117 (Ha (G:=QZ) (n:=0) (by kernel_rfl) (by kernel_rfl) trivial (by kernel_rfl)) (fun s=>by kernel_rfl)
def Ys:Xa:=⟨⟨[1,3,4],⟨[.c (.one (.ptr 0 0)),.c (.one (.own 1)),zc],[.box 39 [zi,(.b (.sl false .lk)),(.b (.sl false .bool)),(.b (.sl false .int)),(.b (.sl false .db)),(.b (.sl false .pk))],.row 108 .ls]⟩,[.int,.int,.ls .lk,.ls .bool,.ls .int,.ls .db,.ls .pk,.ls .ls]⟩,0,⟨[1,3],⟨[.c (.one (.ptr 0 0)),.c (.one (.own 1))],[.box 39 [zi,(.b (.sl false .lk)),(.b (.sl false .bool)),(.b (.sl false .int)),(.b (.sl false .db)),(.b (.sl false .pk))],.row 108 .ls]⟩,[.int,.ls .lk,.ls .bool,.ls .int,.ls .db,.ls .pk,.ls .ls]⟩,zx,lp KB Fa⟩
def Zs:Xa:=⟨⟨[1,3,5],⟨[.c (.one (.ptr 0 0)),.c (.one (.own 1)),zc],[.box 39 [zi,(.b (.sl false .lk)),(.b (.sl false .bool)),(.b (.sl false .int)),(.b (.sl false .db)),(.b (.sl false .pk))],.row 108 .ls]⟩,[.int,.int,.ls .lk,.ls .bool,.ls .int,.ls .db,.ls .pk,.ls .ls]⟩,2,⟨[3],⟨[.c (.one (.own 0))],[.row 108 .ls]⟩,[.ls .ls]⟩,zx,lp LB Fa⟩
def RZ:Na:=⟨⟨[.c (.agg [zi,(.b (.sl false .lk)),(.b (.sl false .bool)),(.b (.sl false .int)),(.b (.sl false .db)),(.b (.sl false .pk))])],[]⟩,[.int,.ls .lk,.ls .bool,.ls .int,.ls .db,.ls .pk],⟨[.c (.one (.own 0))],[.row 108 .ls]⟩,[.ls .ls],SM⟩
def At:Ka:=Qa tab [] 38 0 [] [(3,Ys),(7,Zs)]
theorem SZ:Ma Tryz.prog At.Γ:=Pa (l:=[]) trivial
theorem zJ2:Db Tryz.prog 0 38 (Ab (Tryz.f79.body.getD .skip) 0) Ys:=Eb (G:=At) (F:=Ys.F) (eid:=Ys.eid) (FX:=Ys.FX) (FR:=Ys.FR) (B:=KB) (n:=Fa) Ga Ia SZ mixed (Ha (G:=At) (n:=0) (by kernel_rfl) (by kernel_rfl) trivial (by kernel_rfl)) (fun s=>by kernel_rfl)
theorem zJ3:Db Tryz.prog 0 38 (Ab (Tryz.f79.body.getD .skip) 1) Zs:=Eb (G:=At) (F:=Zs.F) (eid:=Zs.eid) (FX:=Zs.FX) (FR:=Zs.FR) (B:=LB) (n:=Fa) Ga Ia SZ mixed (Ha (G:=At) (n:=0) (by kernel_rfl) (by kernel_rfl) trivial (by kernel_rfl)) (fun s=>by kernel_rfl)
theorem zL8:GC Tryz.prog 79 RZ:=Ra (G:=At) (c:=Tryz.f79.body.getD .skip) Ga Ia SZ mixed Tryz.func79 (by kernel_rfl) Tryz.ntmps79 (Ha (G:=At) (n:=2) (by kernel_rfl) (by kernel_rfl) ⟨⟨trivial,Fb (id:=3) (L0:=Ys) (by kernel_rfl) (by kernel_rfl) zJ2⟩,Fb (id:=7) (L0:=Zs) (by kernel_rfl) (by kernel_rfl) zJ3⟩ (by kernel_rfl)) (fun s=>by kernel_rfl)
def Bt:Xa:=⟨⟨[1,3],⟨[.c (.one (.ptr 0 0)),zc],[.box 39 [zi,(.b (.sl false .lk)),(.b (.sl false .bool)),(.b (.sl false .int)),(.b (.sl false .db)),(.b (.sl false .pk))]]⟩,[.int,.int,.ls .lk,.ls .bool,.ls .int,.ls .db,.ls .pk]⟩,0,⟨[],⟨[],[]⟩,[]⟩,⟨[2],⟨[.c (.one (.b .bool))],[]⟩,[.bool]⟩,lp MB Fa⟩
def TZ:Na:=⟨⟨[.c (.agg [zi,(.b (.sl false .lk)),(.b (.sl false .bool)),(.b (.sl false .int)),(.b (.sl false .db)),(.b (.sl false .pk))])],[]⟩,[.int,.ls .lk,.ls .bool,.ls .int,.ls .db,.ls .pk],⟨[.c (.one (.b .bool))],[]⟩,[.bool],TM⟩
def TF:Ka:=Qa tab [(82,[],Mk),(101,[],OY),(127,[],BZ)] 65 0 [] [(4,Bt)]
theorem gC:Ma Tryz.prog TF.Γ:=Pa (l:=[(82,[],Mk),(101,[],OY),(127,[],BZ)]) ⟨⟨NE,Tryz.call82⟩,⟨⟨zLR,Tryz.call101⟩,⟨⟨zLQ,Tryz.call127⟩,trivial⟩⟩⟩
theorem zKb:Db Tryz.prog 0 65 (Ab (Tryz.f77.body.getD .skip) 0) Bt:=Eb (G:=TF) (F:=Bt.F) (eid:=Bt.eid) (FX:=Bt.FX) (FR:=Bt.FR) (B:=MB) (n:=Fa) Ga Ia gC mixed (Ha (G:=TF) (n:=0) (by kernel_rfl) (by kernel_rfl) trivial (by kernel_rfl)) (fun s=>by kernel_rfl)
theorem zMd:GC Tryz.prog 77 TZ:=Ra (G:=TF) (c:=Tryz.f77.body.getD .skip) Ga Ia gC mixed Tryz.func77 (by kernel_rfl) Tryz.ntmps77 (Ha (G:=TF) (n:=1) (by kernel_rfl) (by kernel_rfl) ⟨trivial,Fb (id:=4) (L0:=Bt) (by kernel_rfl) (by kernel_rfl) zKb⟩ (by kernel_rfl)) (fun s=>by kernel_rfl)
def Ct:Xa:=⟨⟨[3,7,8,9],⟨[.c (.one (.own 0)),.c (.one (.b (.sl false .ls))),zc,zc],[.row 108 .uls]⟩,[.ls .ls,.int,.int,.ls .uls]⟩,0,⟨[3],⟨[.c (.one (.own 0))],[.row 108 .uls]⟩,[.ls .uls]⟩,zx,lp NB Fa⟩
def An:Na:=⟨⟨[.c (.one (.b (.sl false .ls)))],[]⟩,[.ls .ls],⟨[.c (.one (.own 0))],[.row 108 .uls]⟩,[.ls .uls],Cq⟩
def UF:Ka:=Qa Ag [(117,[],Nk)] 20 0 [] [(3,Ct)]
theorem gD:Ma Tryz.prog UF.Γ:=Pa (l:=[(117,[],Nk)]) ⟨⟨SF,Tryz.call117⟩,trivial⟩
theorem zI9:Db Tryz.prog 0 20 (Ab (Tryz.f119.body.getD .skip) 0) Ct:=Eb (G:=UF) (F:=Ct.F) (eid:=Ct.eid) (FX:=Ct.FX) (FR:=Ct.FR) (B:=NB) (n:=Fa) Ga Xc gD mixed (Ha (G:=UF) (n:=0) (by kernel_rfl) (by kernel_rfl) trivial (by kernel_rfl)) (fun s=>by kernel_rfl)
theorem ZN:GC Tryz.prog 119 An:=Ra (G:=UF) (c:=Tryz.f119.body.getD .skip) Ga Xc gD mixed Tryz.func119 (by kernel_rfl) Tryz.ntmps119 (Ha (G:=UF) (n:=1) (by kernel_rfl) (by kernel_rfl) ⟨trivial,Fb (id:=3) (L0:=Ct) (by kernel_rfl) (by kernel_rfl) zI9⟩ (by kernel_rfl)) (fun s=>by kernel_rfl)
def Dt:Xa:=⟨⟨[2,3,5],⟨[.c (.one (.ptr 0 0)),.c (.one (.ptr 1 0)),zc],[.box 39 [zi,(.b (.sl false .lk)),(.b (.sl false .bool)),(.b (.sl false .int)),(.b (.sl false .db)),(.b (.sl false .pk))],.box 108 [zi,zi,(.b (.sl false .en))]]⟩,[.int,.int,.ls .lk,.ls .bool,.ls .int,.ls .db,.ls .pk,.int,.int,.ls .en]⟩,0,⟨[2,3],⟨[.c (.one (.ptr 0 0)),.c (.one (.ptr 1 0))],[.box 39 [zi,(.b (.sl false .lk)),(.b (.sl false .bool)),(.b (.sl false .int)),(.b (.sl false .db)),(.b (.sl false .pk))],.box 108 [zi,zi,(.b (.sl false .en))]]⟩,[.int,.ls .lk,.ls .bool,.ls .int,.ls .db,.ls .pk,.int,.int,.ls .en]⟩,⟨[4],⟨[.c (.one (.b .bool))],[]⟩,[.bool]⟩,lp OB Fa⟩
def UZ:Na:=⟨⟨[.c (.agg [zi,(.b (.sl false .lk)),(.b (.sl false .bool)),(.b (.sl false .int)),(.b (.sl false .db)),(.b (.sl false .pk))]),.c (.agg [zi,zi,(.b (.sl false .en))])],[]⟩,[.int,.ls .lk,.ls .bool,.ls .int,.ls .db,.ls .pk,.int,.int,.ls .en],⟨[.c (.one (.b .bool))],[]⟩,[.bool],PB⟩
def VF:Ka:=Qa tab [(130,[],OE),(129,[],AF),(103,[],AZ),(38,[],NF),(128,[],PF)] 85 0 [(1,20,[(0,true),(1,false),(2,true),(3,true),(4,true),(5,true),(6,true),(7,true),(8,true),(9,true),(10,true),(11,true),(12,true),(13,true),(14,true),(15,true),(16,true),(17,true),(18,true),(19,true)],[]),(6,10,tk 10,[]),(7,16,tk 16,[]),(9,18,[(0,true),(1,true),(2,true),(3,true),(4,true),(5,true),(6,true),(7,true),(8,true),(9,true),(10,true),(11,true),(13,true),(14,true),(15,true),(16,true),(12,false),(17,false)],[])] [(4,Dt)]
theorem gF:Ma Tryz.prog VF.Γ:=Pa (l:=[(130,[],OE),(129,[],AF),(103,[],AZ),(38,[],NF),(128,[],PF)]) ⟨⟨eZ,Tryz.call130⟩,⟨⟨fL,Tryz.call129⟩,⟨⟨zL2,Tryz.call103⟩,⟨⟨fX,Tryz.call38⟩,⟨⟨fZ,Tryz.call128⟩,trivial⟩⟩⟩⟩⟩
theorem zJ7:Db Tryz.prog 0 85 (Ab (Tryz.f80.body.getD .skip) 0) Dt:=Eb (G:=VF) (F:=Dt.F) (eid:=Dt.eid) (FX:=Dt.FX) (FR:=Dt.FR) (B:=OB) (n:=Fa) Ga Ia gF mixed (Ha (G:=VF) (n:=0) (by kernel_rfl) (by kernel_rfl) trivial (by kernel_rfl)) (fun s=>by kernel_rfl)
theorem zMa:GC Tryz.prog 80 UZ:=Ra (G:=VF) (c:=Tryz.f80.body.getD .skip) Ga Ia gF mixed Tryz.func80 (by kernel_rfl) Tryz.ntmps80 (Ha (G:=VF) (n:=1) (by kernel_rfl) (by kernel_rfl) ⟨trivial,Fb (id:=4) (L0:=Dt) (by kernel_rfl) (by kernel_rfl) zJ7⟩ (by kernel_rfl)) (fun s=>by kernel_rfl)
def VZ:Na:=⟨⟨[zc,.c (.agg [zi,zi,zi])],[]⟩,[.int,.int,.int,.int],⟨[.c (.one (.b .bool))],[]⟩,[.bool],bV⟩
def WZ:Ka:=Qa tab [] 5 0 [] []
theorem zOA:Ma Tryz.prog WZ.Γ:=Pa (l:=[]) trivial
theorem zKs:GC Tryz.prog 109 VZ:=Ra (G:=WZ) (c:=Tryz.f109.body.getD .skip) Ga Ia zOA mixed Tryz.func109 (by kernel_rfl) Tryz.ntmps109 (Ha (G:=WZ) (n:=0) (by kernel_rfl) (by kernel_rfl) trivial (by kernel_rfl)) (fun s=>by kernel_rfl)
def Et:Xa:=⟨⟨[0,3,4],⟨[.c (.one (.b (.sl false .ls))),zc,zc],[]⟩,[.ls .ls,.int,.int]⟩,2,⟨[0,3],⟨[.c (.one (.b (.sl false .ls))),zc],[]⟩,[.ls .ls,.int]⟩,⟨[2],⟨[.c (.one (.b .bool))],[]⟩,[.bool]⟩,lp QB Fa⟩
def Ft:Xa:=⟨⟨[0,3],⟨[.c (.one (.b (.sl false .ls))),zc],[]⟩,[.ls .ls,.int]⟩,0,⟨[],⟨[],[]⟩,[]⟩,⟨[2],⟨[.c (.one (.b .bool))],[]⟩,[.bool]⟩,lp RB Fa⟩
def XZ:Na:=⟨⟨[.c (.one (.b (.sl false .ls)))],[]⟩,[.ls .ls],⟨[.c (.one (.b .bool))],[]⟩,[.bool],UM⟩
def Gt:Ka:=Qa tab [(128,[],PF)] 52 0 [(7,33,tk 33,[])] [(5,Et),(2,Ft)]
theorem YZ:Ma Tryz.prog Gt.Γ:=Pa (l:=[(128,[],PF)]) ⟨⟨fZ,Tryz.call128⟩,trivial⟩
theorem zJ9:Db Tryz.prog 0 52 (Ab (Ab (Tryz.f78.body.getD .skip) 0) 0) Et:=Eb (G:=Gt) (F:=Et.F) (eid:=Et.eid) (FX:=Et.FX) (FR:=Et.FR) (B:=QB) (n:=Fa) Ga Ia YZ mixed (Ha (G:=Gt) (n:=0) (by kernel_rfl) (by kernel_rfl) trivial (by kernel_rfl)) (fun s=>by kernel_rfl)
theorem zJ8:Db Tryz.prog 0 52 (Ab (Tryz.f78.body.getD .skip) 0) Ft:=Eb (G:=Gt) (F:=Ft.F) (eid:=Ft.eid) (FX:=Ft.FX) (FR:=Ft.FR) (B:=RB) (n:=Fa) Ga Ia YZ mixed (Ha (G:=Gt) (n:=1) (by kernel_rfl) (by kernel_rfl) ⟨trivial,Fb (id:=5) (L0:=Et) (by kernel_rfl) (by kernel_rfl) zJ9⟩ (by kernel_rfl)) (fun s=>by kernel_rfl)
theorem zMb:GC Tryz.prog 78 XZ:=Ra (G:=Gt) (c:=Tryz.f78.body.getD .skip) Ga Ia YZ mixed Tryz.func78 (by kernel_rfl) Tryz.ntmps78 (Ha (G:=Gt) (n:=1) (by kernel_rfl) (by kernel_rfl) ⟨trivial,Fb (id:=2) (L0:=Ft) (by kernel_rfl) (by kernel_rfl) zJ8⟩ (by kernel_rfl)) (fun s=>by kernel_rfl)
def WF:Na:=⟨⟨[zc,.c (.agg [zi,zi,zi])],[]⟩,[.int,.int,.int,.int],⟨[.c (.one (.b .bool))],[]⟩,[.bool],OU⟩
def ZZ:Ka:=Qa tab [] 5 0 [] []
theorem zOR:Ma Tryz.prog ZZ.Γ:=Pa (l:=[]) trivial
theorem gG:GC Tryz.prog 123 WF:=Ra (G:=ZZ) (c:=Tryz.f123.body.getD .skip) Ga Ia zOR mixed Tryz.func123 (by kernel_rfl) Tryz.ntmps123 (Ha (G:=ZZ) (n:=0) (by kernel_rfl) (by kernel_rfl) trivial (by kernel_rfl)) (fun s=>by kernel_rfl)
def Ht:Xa:=⟨⟨[0,1,12,13],⟨[.c (.one (.b (.sl false .en))),.c (.one (.b (.sl false .en))),zc,zc],[]⟩,[.ls .en,.ls .en,.int,.int]⟩,0,⟨[],⟨[],[]⟩,[]⟩,⟨[4],⟨[.c (.one (.b .bool))],[]⟩,[.bool]⟩,lp VM Fa⟩
def B0:Na:=⟨⟨[.c (.one (.b (.sl false .en))),.c (.one (.b (.sl false .en)))],[]⟩,[.ls .en,.ls .en],⟨[.c (.one (.b .bool))],[]⟩,[.bool],XM⟩
def XF:Ka:=Qa tab [] 26 0 [(6,8,tk 8,[])] [(4,Ht)]
theorem gH:Ma Tryz.prog XF.Γ:=Pa (l:=[]) trivial
theorem zJH:Db Tryz.prog 0 26 (Ab (Tryz.f138.body.getD .skip) 0) Ht:=Eb (G:=XF) (F:=Ht.F) (eid:=Ht.eid) (FX:=Ht.FX) (FR:=Ht.FR) (B:=VM) (n:=Fa) Ga Ia gH mixed (Ha (G:=XF) (n:=0) (by kernel_rfl) (by kernel_rfl) trivial (by kernel_rfl)) (fun s=>by kernel_rfl)
theorem zLL:GC Tryz.prog 138 B0:=Ra (G:=XF) (c:=Tryz.f138.body.getD .skip) Ga Ia gH mixed Tryz.func138 (by kernel_rfl) Tryz.ntmps138 (Ha (G:=XF) (n:=1) (by kernel_rfl) (by kernel_rfl) ⟨trivial,Fb (id:=4) (L0:=Ht) (by kernel_rfl) (by kernel_rfl) zJH⟩ (by kernel_rfl)) (fun s=>by kernel_rfl)
def Tw:Xa:=⟨⟨[1,2],⟨[.c (.one (.ptr 0 0)),.c (.one (.ptr 1 0))],[.box 39 [zi,(.b (.sl false .lk)),(.b (.sl false .bool)),(.b (.sl false .int)),(.b (.sl false .db)),(.b (.sl false .pk))],.box 39 [zi,(.b (.sl true .lk)),(.b (.sl true .bool)),(.b (.sl true .int)),(.b (.sl true .db)),(.b (.sl true .pk))]]⟩,[.int,.ls .lk,.ls .bool,.ls .int,.ls .db,.ls .pk,.int,.ls .lk,.ls .bool,.ls .int,.ls .db,.ls .pk]⟩,0,⟨[1,2,3],⟨[.c (.one (.ptr 0 0)),.c (.one (.ptr 1 0)),.c (.one (.ptr 2 0))],[.box 39 [zi,(.b (.sl false .lk)),(.b (.sl false .bool)),(.b (.sl false .int)),(.b (.sl false .db)),(.b (.sl false .pk))],.box 39 [zi,(.b (.sl true .lk)),(.b (.sl true .bool)),(.b (.sl true .int)),(.b (.sl true .db)),(.b (.sl true .pk))],.box 39 [zi,(.own 3),(.own 4),(.own 5),(.own 6),(.own 7)],.row 114 .lk,.row 4 .bool,.row 3 .int,.row 86 .db,.row 112 .pk]⟩,[.int,.ls .lk,.ls .bool,.ls .int,.ls .db,.ls .pk,.int,.ls .lk,.ls .bool,.ls .int,.ls .db,.ls .pk,.int,.ls .lk,.ls .bool,.ls .int,.ls .db,.ls .pk]⟩,zx,SB⟩
def Jt:Xa:=⟨⟨[1,2,3,4],⟨[.c (.one (.ptr 0 0)),.c (.one (.ptr 1 0)),.c (.one (.ptr 2 0)),zc],[.box 39 [zi,(.b (.sl false .lk)),(.b (.sl false .bool)),(.b (.sl false .int)),(.b (.sl false .db)),(.b (.sl false .pk))],.box 39 [zi,(.b (.sl true .lk)),(.b (.sl true .bool)),(.b (.sl true .int)),(.b (.sl true .db)),(.b (.sl true .pk))],.box 39 [zi,(.own 3),(.own 4),(.own 5),(.own 6),(.own 7)],.row 114 .lk,.row 4 .bool,.row 3 .int,.row 86 .db,.row 112 .pk]⟩,[.int,.int,.ls .lk,.ls .bool,.ls .int,.ls .db,.ls .pk,.int,.ls .lk,.ls .bool,.ls .int,.ls .db,.ls .pk,.int,.ls .lk,.ls .bool,.ls .int,.ls .db,.ls .pk]⟩,0,⟨[1,2,3],⟨[.c (.one (.ptr 0 0)),.c (.one (.ptr 1 0)),.c (.one (.ptr 2 0))],[.box 39 [zi,(.b (.sl false .lk)),(.b (.sl false .bool)),(.b (.sl false .int)),(.b (.sl false .db)),(.b (.sl false .pk))],.box 39 [zi,(.b (.sl true .lk)),(.b (.sl true .bool)),(.b (.sl true .int)),(.b (.sl true .db)),(.b (.sl true .pk))],.box 39 [zi,(.own 3),(.own 4),(.own 5),(.own 6),(.own 7)],.row 114 .lk,.row 4 .bool,.row 3 .int,.row 86 .db,.row 112 .pk]⟩,[.int,.ls .lk,.ls .bool,.ls .int,.ls .db,.ls .pk,.int,.ls .lk,.ls .bool,.ls .int,.ls .db,.ls .pk,.int,.ls .lk,.ls .bool,.ls .int,.ls .db,.ls .pk]⟩,zx,lp TB Fa⟩
def Kt:Xa:=⟨⟨[1,2,3,5],⟨[.c (.one (.ptr 0 0)),.c (.one (.ptr 1 0)),.c (.one (.ptr 2 0)),zc],[.box 39 [zi,(.b (.sl false .lk)),(.b (.sl false .bool)),(.b (.sl false .int)),(.b (.sl false .db)),(.b (.sl false .pk))],.box 39 [zi,(.b (.sl true .lk)),(.b (.sl true .bool)),(.b (.sl true .int)),(.b (.sl true .db)),(.b (.sl true .pk))],.box 39 [zi,(.own 3),(.own 4),(.own 5),(.own 6),(.own 7)],.row 114 .lk,.row 4 .bool,.row 3 .int,.row 86 .db,.row 112 .pk]⟩,[.int,.int,.ls .lk,.ls .bool,.ls .int,.ls .db,.ls .pk,.int,.ls .lk,.ls .bool,.ls .int,.ls .db,.ls .pk,.int,.ls .lk,.ls .bool,.ls .int,.ls .db,.ls .pk]⟩,2,⟨[2,3],⟨[.c (.one (.ptr 0 0)),.c (.one (.ptr 1 0))],[.box 39 [zi,(.b (.sl true .lk)),(.b (.sl true .bool)),(.b (.sl true .int)),(.b (.sl true .db)),(.b (.sl true .pk))],.box 39 [zi,(.own 2),(.own 3),(.own 4),(.own 5),(.own 6)],.row 114 .lk,.row 4 .bool,.row 3 .int,.row 86 .db,.row 112 .pk]⟩,[.int,.ls .lk,.ls .bool,.ls .int,.ls .db,.ls .pk,.int,.ls .lk,.ls .bool,.ls .int,.ls .db,.ls .pk]⟩,zx,lp UB Fa⟩
def YF:Na:=⟨⟨[.c (.agg [zi,(.b (.sl false .lk)),(.b (.sl false .bool)),(.b (.sl false .int)),(.b (.sl false .db)),(.b (.sl false .pk))])],[]⟩,[.int,.ls .lk,.ls .bool,.ls .int,.ls .db,.ls .pk],⟨[.c (.agg [zi,(.own 0),(.own 1),(.own 2),(.own 3),(.own 4)])],[.row 114 .lk,.row 4 .bool,.row 3 .int,.row 86 .db,.row 112 .pk]⟩,[.int,.ls .lk,.ls .bool,.ls .int,.ls .db,.ls .pk],Lw⟩
def Ol:Ka:=Qa tab [(102,[],MZ),(107,[],Us),(104,[],Zm)] 65 0 [(5,9,[(0,true),(1,true),(2,true),(3,true),(4,true),(5,true),(6,true),(7,false),(8,false)],[]),(9,17,[(0,true),(1,true),(2,true),(3,true),(4,true),(5,true),(6,true),(7,true),(8,true),(9,true),(10,true),(11,true),(12,true),(13,true),(14,false),(15,true),(16,false)],[])] [(1,Tw),(3,Jt),(7,Kt)]
theorem BO:Ma Tryz.prog Ol.Γ:=Pa (l:=[(102,[],MZ),(107,[],Us),(104,[],Zm)]) ⟨⟨zL5,Tryz.call102⟩,⟨⟨PZ,Tryz.call107⟩,⟨⟨YN,Tryz.call104⟩,trivial⟩⟩⟩
theorem zJ4:Tf Tryz.prog 0 65 (Ke Ol.plan (Tryz.f63.body.getD .skip) 0).1 (Ke Ol.plan (Tryz.f63.body.getD .skip) 0).2 Tw:=lV (G:=Ol) (D:=[(3,9),(7,13),(11,17),(12,18)]) (ks:=[]) (t:=(.val 0 (.val 1 (.val 4 (.val 5 (.val 8 (.val 9 (.alt 2 (.alt 6 (.alt 10 (.alt 13 (.one 14 (.one 15 .done)) (.one 14 (.one 13 (.one 15 .done)))) (.one 14 (.one 10 (.one 13 (.one 15 .done))))) (.one 14 (.one 6 (.one 10 (.one 13 (.one 15 .done)))))) (.one 14 (.one 2 (.one 6 (.one 10 (.one 13 (.one 15 .done)))))))))))))) (F:=Tw.F) (eid:=0) (FX:=Tw.FX) (FR:=Tw.FR) (sh:=SB) Ga Ia BO mixed (by kernel_rfl) (by kernel_rfl) ⟨fun s=>by kernel_rfl,fun s=>by kernel_rfl,fun s=>by kernel_rfl,fun s=>by kernel_rfl,fun s=>by kernel_rfl,trivial⟩
theorem zJ5:Db Tryz.prog 0 65 (Ab (Tryz.f63.body.getD .skip) 0) Jt:=Eb (G:=Ol) (F:=Jt.F) (eid:=Jt.eid) (FX:=Jt.FX) (FR:=Jt.FR) (B:=TB) (n:=Fa) Ga Ia BO mixed (Ha (G:=Ol) (n:=0) (by kernel_rfl) (by kernel_rfl) trivial (by kernel_rfl)) (fun s=>by kernel_rfl)
theorem zJ6:Db Tryz.prog 0 65 (Ab (Tryz.f63.body.getD .skip) 1) Kt:=Eb (G:=Ol) (F:=Kt.F) (eid:=Kt.eid) (FX:=Kt.FX) (FR:=Kt.FR) (B:=UB) (n:=Fa) Ga Ia BO mixed (Ha (G:=Ol) (n:=0) (by kernel_rfl) (by kernel_rfl) trivial (by kernel_rfl)) (fun s=>by kernel_rfl)
theorem gI:GC Tryz.prog 63 YF:=Ra (G:=Ol) (c:=Tryz.f63.body.getD .skip) Ga Ia BO mixed Tryz.func63 (by kernel_rfl) Tryz.ntmps63 (Jp (G:=Ol) (n:=2) (m:=1) (by kernel_rfl) (by kernel_rfl) ⟨⟨trivial,Fb (id:=3) (L0:=Jt) (by kernel_rfl) (by kernel_rfl) zJ5⟩,Fb (id:=7) (L0:=Kt) (by kernel_rfl) (by kernel_rfl) zJ6⟩ (by kernel_rfl) ⟨trivial,Gl (L0:=Tw) (by kernel_rfl) zJ4⟩) (fun s=>by kernel_rfl)
def ZF:Na:=⟨⟨[.c (.agg [zi,zi,(.b (.sl false .en))]),.c (.agg [zi,zi,(.b (.sl false .en))])],[]⟩,[.int,.int,.ls .en,.int,.int,.ls .en],⟨[.c (.one (.b .bool))],[]⟩,[.bool],VB⟩
def C0:Ka:=Qa tab [(138,[],B0)] 24 0 [] []
theorem zOW:Ma Tryz.prog C0.Γ:=Pa (l:=[(138,[],B0)]) ⟨⟨zLL,Tryz.call138⟩,trivial⟩
theorem gJ:GC Tryz.prog 91 ZF:=Ra (G:=C0) (c:=Tryz.f91.body.getD .skip) Ga Ia zOW mixed Tryz.func91 (by kernel_rfl) Tryz.ntmps91 (Ha (G:=C0) (n:=0) (by kernel_rfl) (by kernel_rfl) trivial (by kernel_rfl)) (fun s=>by kernel_rfl)
def Lt:Na:=⟨⟨[.c (.agg [zi,zi,(.b (.sl false .en))]),.c (.one (.at_ [(.int .i64),(.int .i64),(.sl false .en)] 0))],[]⟩,[.int,.int,.ls .en,.int,.int,.ls .en],⟨[.c (.one (.b .bool))],[]⟩,[.bool],YM⟩
def D0:Ka:=Qa tab [(91,[],ZF)] 22 0 [] []
theorem zOE:Ma Tryz.prog D0.Γ:=Pa (l:=[(91,[],ZF)]) ⟨⟨gJ,Tryz.call91⟩,trivial⟩
theorem F0:GC Tryz.prog 90 Lt:=Ra (G:=D0) (c:=Tryz.f90.body.getD .skip) Ga Ia zOE mixed Tryz.func90 (by kernel_rfl) Tryz.ntmps90 (Ha (G:=D0) (n:=0) (by kernel_rfl) (by kernel_rfl) trivial (by kernel_rfl)) (fun s=>by kernel_rfl)
def Mt:Xa:=⟨⟨[1,4,5,12,13,14],⟨[.c (.fn 109 []),.c (.one (.ptr 0 0)),.c (.one (.ptr 1 0)),.c (.one (.b (.sl false .lk))),zc,zc],[.box 34 [zi,(.own 2)],.box 34 [zi,(.own 3)],.row 114 .lk,.row 114 .lk]⟩,[.ls .lk,.int,.int,.int,.int,.ls .lk,.ls .lk]⟩,0,⟨[4,5],⟨[.c (.one (.ptr 0 0)),.c (.one (.ptr 1 0))],[.box 34 [zi,(.own 2)],.box 34 [zi,(.own 3)],.row 114 .lk,.row 114 .lk]⟩,[.int,.int,.ls .lk,.ls .lk]⟩,zx,lp PU Fa⟩
def AG:Na:=⟨⟨[.c (.agg [zi,(.b (.sl false .lk))]),.c (.fn 109 [])],[]⟩,[.int,.ls .lk],⟨[.c (.agg [zi,(.own 0)])],[.row 114 .lk]⟩,[.int,.ls .lk],uT⟩
def BG:Ka:=Qa tab [(109,[],VZ)] 31 0 [] [(3,Mt)]
theorem gK:Ma Tryz.prog BG.Γ:=Pa (l:=[(109,[],VZ)]) ⟨⟨zKs,Tryz.call109⟩,trivial⟩
theorem zIN:Db Tryz.prog 0 31 (Ab (Tryz.f92.body.getD .skip) 0) Mt:=Eb (G:=BG) (F:=Mt.F) (eid:=Mt.eid) (FX:=Mt.FX) (FR:=Mt.FR) (B:=PU) (n:=Fa) Ga Ia gK mixed (Ha (G:=BG) (n:=0) (by kernel_rfl) (by kernel_rfl) trivial (by kernel_rfl)) (fun s=>by kernel_rfl)
theorem gL:GC Tryz.prog 92 AG:=Ra (G:=BG) (c:=Tryz.f92.body.getD .skip) Ga Ia gK mixed Tryz.func92 (by kernel_rfl) Tryz.ntmps92 (Ha (G:=BG) (n:=1) (by kernel_rfl) (by kernel_rfl) ⟨trivial,Fb (id:=3) (L0:=Mt) (by kernel_rfl) (by kernel_rfl) zIN⟩ (by kernel_rfl)) (fun s=>by kernel_rfl)
def CG:Na:=⟨⟨[zc,.c (.agg [zi,zi,zi]),.c (.one (.at_ [(.int .i64),(.sl false .lk),(.sl false .bool),(.sl false .int),(.sl false .db),(.sl false .pk)] 0))],[]⟩,[.int,.int,.int,.int,.int,.ls .lk,.ls .bool,.ls .int,.ls .db,.ls .pk],⟨[.c (.one (.b .bool))],[]⟩,[.bool],QU⟩
def G0:Ka:=Qa tab [] 11 0 [] []
theorem zOM:Ma Tryz.prog G0.Γ:=Pa (l:=[]) trivial
theorem gM:GC Tryz.prog 93 CG:=Ra (G:=G0) (c:=Tryz.f93.body.getD .skip) Ga Ia zOM mixed Tryz.func93 (by kernel_rfl) Tryz.ntmps93 (Ha (G:=G0) (n:=0) (by kernel_rfl) (by kernel_rfl) trivial (by kernel_rfl)) (fun s=>by kernel_rfl)
def Nt:Xa:=⟨⟨[1,4,5,12,13,14],⟨[.c (.fn 123 []),.c (.one (.ptr 0 0)),.c (.one (.ptr 1 0)),.c (.one (.b (.sl false .lk))),zc,zc],[.box 34 [zi,(.own 2)],.box 34 [zi,(.own 3)],.row 114 .lk,.row 114 .lk]⟩,[.ls .lk,.int,.int,.int,.int,.ls .lk,.ls .lk]⟩,0,⟨[4,5],⟨[.c (.one (.ptr 0 0)),.c (.one (.ptr 1 0))],[.box 34 [zi,(.own 2)],.box 34 [zi,(.own 3)],.row 114 .lk,.row 114 .lk]⟩,[.int,.int,.ls .lk,.ls .lk]⟩,zx,lp ZM Fa⟩
def DG:Na:=⟨⟨[.c (.agg [zi,(.b (.sl false .lk))]),.c (.fn 123 [])],[]⟩,[.int,.ls .lk],⟨[.c (.agg [zi,(.own 0)])],[.row 114 .lk]⟩,[.int,.ls .lk],AN⟩
def EG:Ka:=Qa tab [(123,[],WF)] 31 0 [] [(3,Nt)]
theorem gN:Ma Tryz.prog EG.Γ:=Pa (l:=[(123,[],WF)]) ⟨⟨gG,Tryz.call123⟩,trivial⟩
theorem zIO:Db Tryz.prog 0 31 (Ab (Tryz.f92.body.getD .skip) 0) Nt:=Eb (G:=EG) (F:=Nt.F) (eid:=Nt.eid) (FX:=Nt.FX) (FR:=Nt.FR) (B:=ZM) (n:=Fa) Ga Ia gN mixed (Ha (G:=EG) (n:=0) (by kernel_rfl) (by kernel_rfl) trivial (by kernel_rfl)) (fun s=>by kernel_rfl)
theorem gO:GC Tryz.prog 92 DG:=Ra (G:=EG) (c:=Tryz.f92.body.getD .skip) Ga Ia gN mixed Tryz.func92 (by kernel_rfl) Tryz.ntmps92 (Ha (G:=EG) (n:=1) (by kernel_rfl) (by kernel_rfl) ⟨trivial,Fb (id:=3) (L0:=Nt) (by kernel_rfl) (by kernel_rfl) zIO⟩ (by kernel_rfl)) (fun s=>by kernel_rfl)
def Ot:Xa:=⟨⟨[0,1,7,8],⟨[.c (.one (.b (.sl false .ls))),.c (.fn 90 [(.at_ [(.int .i64),(.int .i64),(.sl false .en)] 0)]),zc,zc],[]⟩,[.ls .ls,.int,.int,.ls .en,.int,.int]⟩,0,⟨[],⟨[],[]⟩,[]⟩,⟨[4],⟨[zc],[]⟩,[.int]⟩,lp WB Fa⟩
def I0:Na:=⟨⟨[.c (.one (.b (.sl false .ls))),.c (.fn 90 [(.at_ [(.int .i64),(.int .i64),(.sl false .en)] 0)])],[]⟩,[.ls .ls,.int,.int,.ls .en],⟨[zc],[]⟩,[.int],RU⟩
def FG:Ka:=Qa tab [(90,[],Lt)] 19 0 [] [(2,Ot)]
theorem gP:Ma Tryz.prog FG.Γ:=Pa (l:=[(90,[],Lt)]) ⟨⟨F0,Tryz.call90⟩,trivial⟩
theorem zJJ:Db Tryz.prog 0 19 (Ab (Tryz.f137.body.getD .skip) 0) Ot:=Eb (G:=FG) (F:=Ot.F) (eid:=Ot.eid) (FX:=Ot.FX) (FR:=Ot.FR) (B:=WB) (n:=Fa) Ga Ia gP mixed (Ha (G:=FG) (n:=0) (by kernel_rfl) (by kernel_rfl) trivial (by kernel_rfl)) (fun s=>by kernel_rfl)
theorem zLN:GC Tryz.prog 137 I0:=Ra (G:=FG) (c:=Tryz.f137.body.getD .skip) Ga Ia gP mixed Tryz.func137 (by kernel_rfl) Tryz.ntmps137 (Ha (G:=FG) (n:=1) (by kernel_rfl) (by kernel_rfl) ⟨trivial,Fb (id:=2) (L0:=Ot) (by kernel_rfl) (by kernel_rfl) zJJ⟩ (by kernel_rfl)) (fun s=>by kernel_rfl)
def J0:Na:=⟨⟨[.c (.one (.b (.sl false .ls))),.c (.fn 90 [(.at_ [(.int .i64),(.int .i64),(.sl false .en)] 0)])],[]⟩,[.ls .ls,.int,.int,.ls .en],⟨[.c (.one (.b .bool))],[]⟩,[.bool],BN⟩
def K0:Ka:=Qa tab [(90,[],Lt),(137,[90],I0)] 9 0 [] []
theorem zPO:Ma Tryz.prog K0.Γ:=Pa (l:=[(90,[],Lt),(137,[90],I0)]) ⟨⟨F0,Tryz.call90⟩,⟨⟨zLN,Tryz.call137⟩,trivial⟩⟩
theorem zLJ:GC Tryz.prog 89 J0:=Ra (G:=K0) (c:=Tryz.f89.body.getD .skip) Ga Ia zPO mixed Tryz.func89 (by kernel_rfl) Tryz.ntmps89 (Ha (G:=K0) (n:=0) (by kernel_rfl) (by kernel_rfl) trivial (by kernel_rfl)) (fun s=>by kernel_rfl)
def Pt:Xa:=⟨⟨[1,4,5,12,13,14],⟨[.c (.fn 93 [(.at_ [(.int .i64),(.sl false .lk),(.sl false .bool),(.sl false .int),(.sl false .db),(.sl false .pk)] 0)]),.c (.one (.ptr 0 0)),.c (.one (.ptr 1 0)),.c (.one (.b (.sl false .lk))),zc,zc],[.box 34 [zi,(.own 2)],.box 34 [zi,(.own 3)],.row 114 .lk,.row 114 .lk]⟩,[.int,.ls .lk,.ls .bool,.ls .int,.ls .db,.ls .pk,.ls .lk,.int,.int,.int,.int,.ls .lk,.ls .lk]⟩,0,⟨[4,5],⟨[.c (.one (.ptr 0 0)),.c (.one (.ptr 1 0))],[.box 34 [zi,(.own 2)],.box 34 [zi,(.own 3)],.row 114 .lk,.row 114 .lk]⟩,[.int,.int,.ls .lk,.ls .lk]⟩,zx,lp CN Fa⟩
def O0:Na:=⟨⟨[.c (.agg [zi,(.b (.sl false .lk))]),.c (.fn 93 [(.at_ [(.int .i64),(.sl false .lk),(.sl false .bool),(.sl false .int),(.sl false .db),(.sl false .pk)] 0)])],[]⟩,[.int,.ls .lk,.int,.ls .lk,.ls .bool,.ls .int,.ls .db,.ls .pk],⟨[.c (.agg [zi,(.own 0)])],[.row 114 .lk]⟩,[.int,.ls .lk],SU⟩
def GG:Ka:=Qa tab [(93,[],CG)] 31 0 [] [(3,Pt)]
theorem gQ:Ma Tryz.prog GG.Γ:=Pa (l:=[(93,[],CG)]) ⟨⟨gM,Tryz.call93⟩,trivial⟩
theorem zIP:Db Tryz.prog 0 31 (Ab (Tryz.f92.body.getD .skip) 0) Pt:=Eb (G:=GG) (F:=Pt.F) (eid:=Pt.eid) (FX:=Pt.FX) (FR:=Pt.FR) (B:=CN) (n:=Fa) Ga Ia gQ mixed (Ha (G:=GG) (n:=0) (by kernel_rfl) (by kernel_rfl) trivial (by kernel_rfl)) (fun s=>by kernel_rfl)
theorem zKk:GC Tryz.prog 92 O0:=Ra (G:=GG) (c:=Tryz.f92.body.getD .skip) Ga Ia gQ mixed Tryz.func92 (by kernel_rfl) Tryz.ntmps92 (Ha (G:=GG) (n:=1) (by kernel_rfl) (by kernel_rfl) ⟨trivial,Fb (id:=3) (L0:=Pt) (by kernel_rfl) (by kernel_rfl) zIP⟩ (by kernel_rfl)) (fun s=>by kernel_rfl)
def Qt:Xa:=⟨⟨[1,3,4],⟨[.c (.one (.ptr 0 0)),zc,zc],[.box 39 [zi,(.b (.sl false .lk)),(.b (.sl false .bool)),(.b (.sl false .int)),(.b (.sl false .db)),(.b (.sl false .pk))]]⟩,[.int,.int,.int,.ls .lk,.ls .bool,.ls .int,.ls .db,.ls .pk]⟩,2,⟨[1,3],⟨[.c (.one (.ptr 0 0)),zc],[.box 39 [zi,(.b (.sl false .lk)),(.b (.sl false .bool)),(.b (.sl false .int)),(.b (.sl false .db)),(.b (.sl false .pk))]]⟩,[.int,.int,.ls .lk,.ls .bool,.ls .int,.ls .db,.ls .pk]⟩,⟨[2],⟨[.c (.one (.b .bool))],[]⟩,[.bool]⟩,lp XB Fa⟩
def Rt:Xa:=⟨⟨[1,3],⟨[.c (.one (.ptr 0 0)),zc],[.box 39 [zi,(.b (.sl false .lk)),(.b (.sl false .bool)),(.b (.sl false .int)),(.b (.sl false .db)),(.b (.sl false .pk))]]⟩,[.int,.int,.ls .lk,.ls .bool,.ls .int,.ls .db,.ls .pk]⟩,0,⟨[1],⟨[.c (.one (.ptr 0 0))],[.box 39 [zi,(.b (.sl false .lk)),(.b (.sl false .bool)),(.b (.sl false .int)),(.b (.sl false .db)),(.b (.sl false .pk))]]⟩,[.int,.ls .lk,.ls .bool,.ls .int,.ls .db,.ls .pk]⟩,⟨[2],⟨[.c (.one (.b .bool))],[]⟩,[.bool]⟩,lp YB Fa⟩
def Tt:Xa:=⟨⟨[1,7],⟨[.c (.one (.ptr 0 0)),zc],[.box 39 [zi,(.b (.sl false .lk)),(.b (.sl false .bool)),(.b (.sl false .int)),(.b (.sl false .db)),(.b (.sl false .pk))]]⟩,[.int,.int,.ls .lk,.ls .bool,.ls .int,.ls .db,.ls .pk]⟩,4,⟨[],⟨[],[]⟩,[]⟩,⟨[2],⟨[.c (.one (.b .bool))],[]⟩,[.bool]⟩,lp ZB Fa⟩
def Ut:Na:=⟨⟨[.c (.agg [zi,(.b (.sl false .lk)),(.b (.sl false .bool)),(.b (.sl false .int)),(.b (.sl false .db)),(.b (.sl false .pk))])],[]⟩,[.int,.ls .lk,.ls .bool,.ls .int,.ls .db,.ls .pk],⟨[.c (.one (.b .bool))],[]⟩,[.bool],Mw⟩
def Bn:Ka:=Qa tab [(82,[],Mk),(81,[],As),(79,[],RZ),(77,[],TZ),(80,[],UZ),(78,[],XZ)] 97 0 [(9,9,tk 9,[]),(12,10,tk 10,[]),(17,20,[(0,true),(1,true),(2,true),(3,true),(4,true),(5,true),(6,true),(7,true),(8,true),(9,true),(10,false),(11,true),(12,true),(13,true),(14,true),(15,true),(16,true),(17,true),(18,true),(19,true)],[])] [(7,Qt),(4,Rt),(15,Tt)]
theorem CO:Ma Tryz.prog Bn.Γ:=Pa (l:=[(82,[],Mk),(81,[],As),(79,[],RZ),(77,[],TZ),(80,[],UZ),(78,[],XZ)]) ⟨⟨NE,Tryz.call82⟩,⟨⟨ZY,Tryz.call81⟩,⟨⟨zL8,Tryz.call79⟩,⟨⟨zMd,Tryz.call77⟩,⟨⟨zMa,Tryz.call80⟩,⟨⟨zMb,Tryz.call78⟩,trivial⟩⟩⟩⟩⟩⟩
theorem zJR:Db Tryz.prog 0 97 (Ab (Ab (Tryz.f37.body.getD .skip) 0) 0) Qt:=Eb (G:=Bn) (F:=Qt.F) (eid:=Qt.eid) (FX:=Qt.FX) (FR:=Qt.FR) (B:=XB) (n:=Fa) Ga Ia CO mixed (Ha (G:=Bn) (n:=0) (by kernel_rfl) (by kernel_rfl) trivial (by kernel_rfl)) (fun s=>by kernel_rfl)
theorem zJQ:Db Tryz.prog 0 97 (Ab (Tryz.f37.body.getD .skip) 0) Rt:=Eb (G:=Bn) (F:=Rt.F) (eid:=Rt.eid) (FX:=Rt.FX) (FR:=Rt.FR) (B:=YB) (n:=Fa) Ga Ia CO mixed (Ha (G:=Bn) (n:=1) (by kernel_rfl) (by kernel_rfl) ⟨trivial,Fb (id:=7) (L0:=Qt) (by kernel_rfl) (by kernel_rfl) zJR⟩ (by kernel_rfl)) (fun s=>by kernel_rfl)
theorem zJP:Db Tryz.prog 0 97 (Ab (Tryz.f37.body.getD .skip) 1) Tt:=Eb (G:=Bn) (F:=Tt.F) (eid:=Tt.eid) (FX:=Tt.FX) (FR:=Tt.FR) (B:=ZB) (n:=Fa) Ga Ia CO mixed (Ha (G:=Bn) (n:=0) (by kernel_rfl) (by kernel_rfl) trivial (by kernel_rfl)) (fun s=>by kernel_rfl)
theorem P0:GC Tryz.prog 37 Ut:=Ra (G:=Bn) (c:=Tryz.f37.body.getD .skip) Ga Ia CO mixed Tryz.func37 (by kernel_rfl) Tryz.ntmps37 (Ha (G:=Bn) (n:=2) (by kernel_rfl) (by kernel_rfl) ⟨⟨trivial,Fb (id:=4) (L0:=Rt) (by kernel_rfl) (by kernel_rfl) zJQ⟩,Fb (id:=15) (L0:=Tt) (by kernel_rfl) (by kernel_rfl) zJP⟩ (by kernel_rfl)) (fun s=>by kernel_rfl)
def Cn:Na:=⟨⟨[.c (.agg [zi,(.b (.sl false .lk)),(.b (.sl false .bool)),(.b (.sl false .int)),(.b (.sl false .db)),(.b (.sl false .pk))])],[]⟩,[.int,.ls .lk,.ls .bool,.ls .int,.ls .db,.ls .pk],⟨[.c (.agg [zi,(.own 0)])],[.row 114 .lk]⟩,[.int,.ls .lk],Dq⟩
def Q0:Ka:=Qa tab [(92,[109],AG),(93,[],CG),(92,[123],DG),(92,[93],O0)] 7 0 [] []
theorem zOL:Ma Tryz.prog Q0.Γ:=Pa (l:=[(92,[109],AG),(93,[],CG),(92,[123],DG),(92,[93],O0)]) ⟨⟨gL,Tryz.call92⟩,⟨⟨gM,Tryz.call93⟩,⟨⟨gO,Tryz.call92⟩,⟨⟨zKk,Tryz.call92⟩,trivial⟩⟩⟩⟩
theorem DO:GC Tryz.prog 44 Cn:=Ra (G:=Q0) (c:=Tryz.f44.body.getD .skip) Ga Ia zOL mixed Tryz.func44 (by kernel_rfl) Tryz.ntmps44 (Ha (G:=Q0) (n:=0) (by kernel_rfl) (by kernel_rfl) trivial (by kernel_rfl)) (fun s=>by kernel_rfl)
def Uw:Xa:=⟨⟨[1,2],⟨[.c (.one (.ptr 0 0)),.c (.one (.ptr 1 0))],[.box 39 [zi,(.b (.sl false .lk)),(.b (.sl false .bool)),(.b (.sl false .int)),(.b (.sl false .db)),(.b (.sl false .pk))],.box 39 [zi,(.b (.sl true .lk)),(.b (.sl true .bool)),(.b (.sl true .int)),(.b (.sl true .db)),(.b (.sl true .pk))]]⟩,[.int,.ls .lk,.ls .bool,.ls .int,.ls .db,.ls .pk,.int,.ls .lk,.ls .bool,.ls .int,.ls .db,.ls .pk]⟩,0,⟨[1,2,3],⟨[.c (.one (.ptr 0 0)),.c (.one (.ptr 1 0)),.c (.one (.ptr 2 0))],[.box 39 [zi,(.b (.sl false .lk)),(.b (.sl false .bool)),(.b (.sl false .int)),(.b (.sl false .db)),(.b (.sl false .pk))],.box 39 [zi,(.b (.sl true .lk)),(.b (.sl true .bool)),(.b (.sl true .int)),(.b (.sl true .db)),(.b (.sl true .pk))],.box 39 [zi,(.own 3),(.own 4),(.own 5),(.own 6),(.own 7)],.row 114 .lk,.row 4 .bool,.row 3 .int,.row 86 .udb,.row 112 .upk]⟩,[.int,.ls .lk,.ls .bool,.ls .int,.ls .db,.ls .pk,.int,.ls .lk,.ls .bool,.ls .int,.ls .db,.ls .pk,.int,.ls .lk,.ls .bool,.ls .int,.ls .udb,.ls .upk]⟩,zx,AC⟩
def Vt:Xa:=⟨⟨[1,2,3,19,20,21],⟨[.c (.one (.ptr 0 0)),.c (.one (.ptr 1 0)),.c (.one (.ptr 2 0)),.c (.one (.b (.sl false .db))),zc,zc],[.box 39 [zi,(.b (.sl false .lk)),(.b (.sl false .bool)),(.b (.sl false .int)),(.b (.sl false .db)),(.b (.sl false .pk))],.box 39 [zi,(.b (.sl true .lk)),(.b (.sl true .bool)),(.b (.sl true .int)),(.b (.sl true .db)),(.b (.sl true .pk))],.box 39 [zi,(.own 3),(.own 4),(.own 5),(.own 6),(.own 7)],.row 114 .lk,.row 4 .bool,.row 3 .int,.row 86 .udb,.row 112 .upk]⟩,[.ls .db,.int,.int,.int,.ls .lk,.ls .bool,.ls .int,.ls .db,.ls .pk,.int,.ls .lk,.ls .bool,.ls .int,.ls .db,.ls .pk,.int,.ls .lk,.ls .bool,.ls .int,.ls .udb,.ls .upk]⟩,0,⟨[1,2,3],⟨[.c (.one (.ptr 0 0)),.c (.one (.ptr 1 0)),.c (.one (.ptr 2 0))],[.box 39 [zi,(.b (.sl false .lk)),(.b (.sl false .bool)),(.b (.sl false .int)),(.b (.sl false .db)),(.b (.sl false .pk))],.box 39 [zi,(.b (.sl true .lk)),(.b (.sl true .bool)),(.b (.sl true .int)),(.b (.sl true .db)),(.b (.sl true .pk))],.box 39 [zi,(.own 3),(.own 4),(.own 5),(.own 6),(.own 7)],.row 114 .lk,.row 4 .bool,.row 3 .int,.row 86 .udb,.row 112 .upk]⟩,[.int,.ls .lk,.ls .bool,.ls .int,.ls .db,.ls .pk,.int,.ls .lk,.ls .bool,.ls .int,.ls .db,.ls .pk,.int,.ls .lk,.ls .bool,.ls .int,.ls .udb,.ls .upk]⟩,zx,lp BC Fa⟩
def Xt:Xa:=⟨⟨[2,3,34,35,36],⟨[.c (.one (.ptr 0 0)),.c (.one (.ptr 1 0)),.c (.one (.b (.sl false .pk))),zc,zc],[.box 39 [zi,(.b (.sl true .lk)),(.b (.sl true .bool)),(.b (.sl true .int)),(.b (.sl true .db)),(.b (.sl true .pk))],.box 39 [zi,(.own 2),(.own 3),(.own 4),(.own 5),(.own 6)],.row 114 .lk,.row 4 .bool,.row 3 .int,.row 86 .udb,.row 112 .upk]⟩,[.ls .pk,.int,.int,.int,.ls .lk,.ls .bool,.ls .int,.ls .db,.ls .pk,.int,.ls .lk,.ls .bool,.ls .int,.ls .udb,.ls .upk]⟩,2,⟨[2,3],⟨[.c (.one (.ptr 0 0)),.c (.one (.ptr 1 0))],[.box 39 [zi,(.b (.sl true .lk)),(.b (.sl true .bool)),(.b (.sl true .int)),(.b (.sl true .db)),(.b (.sl true .pk))],.box 39 [zi,(.own 2),(.own 3),(.own 4),(.own 5),(.own 6)],.row 114 .lk,.row 4 .bool,.row 3 .int,.row 86 .udb,.row 112 .upk]⟩,[.int,.ls .lk,.ls .bool,.ls .int,.ls .db,.ls .pk,.int,.ls .lk,.ls .bool,.ls .int,.ls .udb,.ls .upk]⟩,zx,lp CC Fa⟩
def R0:Na:=⟨⟨[.c (.agg [zi,(.b (.sl false .lk)),(.b (.sl false .bool)),(.b (.sl false .int)),(.b (.sl false .db)),(.b (.sl false .pk))])],[]⟩,[.int,.ls .lk,.ls .bool,.ls .int,.ls .db,.ls .pk],⟨[.c (.agg [zi,(.own 0),(.own 1),(.own 2),(.own 3),(.own 4)])],[.row 114 .lk,.row 4 .bool,.row 3 .int,.row 86 .udb,.row 112 .upk]⟩,[.int,.ls .lk,.ls .bool,.ls .int,.ls .udb,.ls .upk],DN⟩
def Ql:Ka:=Qa Ag [(124,[],FT),(125,[],IT),(117,[],Nk),(119,[],An),(123,[],WF),(92,[109],AG),(92,[123],DG)] 53 0 [(5,5,[(0,true),(1,true),(2,true),(3,false),(4,false)],[]),(10,9,[(0,true),(1,true),(2,true),(3,true),(4,true),(5,true),(6,false),(7,true),(8,false)],[])] [(1,Uw),(3,Vt),(8,Xt)]
theorem EO:Ma Tryz.prog Ql.Γ:=Pa (l:=[(124,[],FT),(125,[],IT),(117,[],Nk),(119,[],An),(123,[],WF),(92,[109],AG),(92,[123],DG)]) ⟨⟨sL,Tryz.call124⟩,⟨⟨sM,Tryz.call125⟩,⟨⟨SF,Tryz.call117⟩,⟨⟨ZN,Tryz.call119⟩,⟨⟨gG,Tryz.call123⟩,⟨⟨gL,Tryz.call92⟩,⟨⟨gO,Tryz.call92⟩,trivial⟩⟩⟩⟩⟩⟩⟩
theorem zJa:Tf Tryz.prog 0 53 (Ke Ql.plan (Tryz.f73.body.getD .skip) 0).1 (Ke Ql.plan (Tryz.f73.body.getD .skip) 0).2 Uw:=BR (G:=Ql) (n:=11) (ks:=[]) (t:=(.val 0 (.val 1 (.val 3 (.val 4 (.val 6 (.val 7 (.two 2 (.two 5 (.two 8 (.val 9 (.one 10 .done)) 10 (.one 8 (.val 9 .done))) 10 (.one 5 (.one 8 (.val 9 .done)))) 10 (.one 2 (.one 5 (.one 8 (.val 9 .done)))))))))))) (F:=Uw.F) (eid:=0) (FX:=Uw.FX) (FR:=Uw.FR) (sh:=AC) Ga Xc EO mixed (by kernel_rfl) (by kernel_rfl) ⟨fun s=>by kernel_rfl,fun s=>by kernel_rfl,fun s=>by kernel_rfl,fun s=>by kernel_rfl,trivial⟩
theorem zJb:Db Tryz.prog 0 53 (Ab (Tryz.f73.body.getD .skip) 0) Vt:=Eb (G:=Ql) (F:=Vt.F) (eid:=Vt.eid) (FX:=Vt.FX) (FR:=Vt.FR) (B:=BC) (n:=Fa) Ga Xc EO mixed (Ha (G:=Ql) (n:=0) (by kernel_rfl) (by kernel_rfl) trivial (by kernel_rfl)) (fun s=>by kernel_rfl)
theorem zJc:Db Tryz.prog 0 53 (Ab (Tryz.f73.body.getD .skip) 1) Xt:=Eb (G:=Ql) (F:=Xt.F) (eid:=Xt.eid) (FX:=Xt.FX) (FR:=Xt.FR) (B:=CC) (n:=Fa) Ga Xc EO mixed (Ha (G:=Ql) (n:=0) (by kernel_rfl) (by kernel_rfl) trivial (by kernel_rfl)) (fun s=>by kernel_rfl)
theorem zKI:GC Tryz.prog 73 R0:=Ra (G:=Ql) (c:=Tryz.f73.body.getD .skip) Ga Xc EO mixed Tryz.func73 (by kernel_rfl) Tryz.ntmps73 (Jp (G:=Ql) (n:=2) (m:=1) (by kernel_rfl) (by kernel_rfl) ⟨⟨trivial,Fb (id:=3) (L0:=Vt) (by kernel_rfl) (by kernel_rfl) zJb⟩,Fb (id:=8) (L0:=Xt) (by kernel_rfl) (by kernel_rfl) zJc⟩ (by kernel_rfl) ⟨trivial,Gl (L0:=Uw) (by kernel_rfl) zJa⟩) (fun s=>by kernel_rfl)
def Yt:Xa:=⟨⟨[2,3,31,32,33],⟨[.c (.one (.ptr 0 0)),.c (.one (.ptr 1 0)),.c (.one (.b (.sl false .en))),zc,zc],[.box 39 [zi,(.b (.sl false .lk)),(.b (.sl false .bool)),(.b (.sl false .int)),(.b (.sl false .db)),(.b (.sl false .pk))],.box 108 [zi,zi,(.b (.sl false .en))]]⟩,[.ls .en,.int,.int,.int,.ls .lk,.ls .bool,.ls .int,.ls .db,.ls .pk,.int,.int,.ls .en]⟩,0,⟨[2,3],⟨[.c (.one (.ptr 0 0)),.c (.one (.ptr 1 0))],[.box 39 [zi,(.b (.sl false .lk)),(.b (.sl false .bool)),(.b (.sl false .int)),(.b (.sl false .db)),(.b (.sl false .pk))],.box 108 [zi,zi,(.b (.sl false .en))]]⟩,[.int,.ls .lk,.ls .bool,.ls .int,.ls .db,.ls .pk,.int,.int,.ls .en]⟩,⟨[4],⟨[.c (.one (.b .bool))],[]⟩,[.bool]⟩,lp DC Fa⟩
def U0:Na:=⟨⟨[.c (.agg [zi,(.b (.sl false .lk)),(.b (.sl false .bool)),(.b (.sl false .int)),(.b (.sl false .db)),(.b (.sl false .pk))]),.c (.agg [zi,zi,(.b (.sl false .en))])],[]⟩,[.int,.ls .lk,.ls .bool,.ls .int,.ls .db,.ls .pk,.int,.int,.ls .en],⟨[.c (.one (.b .bool))],[]⟩,[.bool],EN⟩
def HG:Ka:=Qa tab [(132,[],YE),(91,[],ZF),(136,[],WE),(112,[],KF),(44,[],Cn)] 79 0 [(1,20,[(0,true),(1,false),(2,true),(3,true),(4,true),(5,true),(6,true),(7,true),(8,true),(9,true),(10,true),(11,true),(12,true),(13,true),(14,true),(15,true),(16,true),(17,true),(18,true),(19,true)],[]),(7,12,tk 12,[]),(10,18,[(0,true),(1,true),(2,true),(3,true),(4,true),(5,true),(6,true),(7,true),(8,true),(9,true),(10,true),(11,true),(13,true),(14,true),(15,true),(16,true),(12,false),(17,false)],[])] [(4,Yt)]
theorem gR:Ma Tryz.prog HG.Γ:=Pa (l:=[(132,[],YE),(91,[],ZF),(136,[],WE),(112,[],KF),(44,[],Cn)]) ⟨⟨fJ,Tryz.call132⟩,⟨⟨gJ,Tryz.call91⟩,⟨⟨fG,Tryz.call136⟩,⟨⟨fU,Tryz.call112⟩,⟨⟨DO,Tryz.call44⟩,trivial⟩⟩⟩⟩⟩
theorem zI6:Db Tryz.prog 0 79 (Ab (Tryz.f88.body.getD .skip) 0) Yt:=Eb (G:=HG) (F:=Yt.F) (eid:=Yt.eid) (FX:=Yt.FX) (FR:=Yt.FR) (B:=DC) (n:=Fa) Ga Ia gR mixed (Ha (G:=HG) (n:=0) (by kernel_rfl) (by kernel_rfl) trivial (by kernel_rfl)) (fun s=>by kernel_rfl)
theorem zKB:GC Tryz.prog 88 U0:=Ra (G:=HG) (c:=Tryz.f88.body.getD .skip) Ga Ia gR mixed Tryz.func88 (by kernel_rfl) Tryz.ntmps88 (Ha (G:=HG) (n:=1) (by kernel_rfl) (by kernel_rfl) ⟨trivial,Fb (id:=4) (L0:=Yt) (by kernel_rfl) (by kernel_rfl) zI6⟩ (by kernel_rfl)) (fun s=>by kernel_rfl)
def Vw:Xa:=⟨⟨[1,2,4],⟨[zc,.c (.one (.ptr 0 0)),.c (.one (.ptr 1 0))],[.box 39 [zi,(.b (.sl false .lk)),(.b (.sl false .bool)),(.b (.sl false .int)),(.b (.sl false .db)),(.b (.sl false .pk))],.box 34 [zi,(.b (.sl true .lk))]]⟩,[.int,.int,.ls .lk,.ls .bool,.ls .int,.ls .db,.ls .pk,.int,.ls .lk]⟩,0,⟨[4,5],⟨[.c (.one (.ptr 0 0)),.c (.one (.ptr 1 0))],[.box 34 [zi,(.b (.sl true .lk))],.box 34 [zi,(.own 2)],.row 114 .lk]⟩,[.int,.ls .lk,.int,.ls .lk]⟩,zx,FN⟩
def V0:Na:=⟨⟨[.c (.agg [zi,(.b (.sl false .lk)),(.b (.sl false .bool)),(.b (.sl false .int)),(.b (.sl false .db)),(.b (.sl false .pk))]),zc],[]⟩,[.int,.ls .lk,.ls .bool,.ls .int,.ls .db,.ls .pk,.int],⟨[.c (.agg [zi,(.own 0)])],[.row 114 .lk]⟩,[.int,.ls .lk],GN⟩
def Ww:Ka:=Qa tab [(100,[],HZ)] 20 0 [] [(1,Vw)]
theorem gS:Ma Tryz.prog Ww.Γ:=Pa (l:=[(100,[],HZ)]) ⟨⟨zKf,Tryz.call100⟩,trivial⟩
theorem zI7:Tf Tryz.prog 0 20 (Ke Ww.plan (Tryz.f59.body.getD .skip) 0).1 (Ke Ww.plan (Tryz.f59.body.getD .skip) 0).2 Vw:=BR (G:=Ww) (n:=14) (ks:=[]) (t:=(.val 0 (.val 1 (.val 2 (.val 3 (.val 4 (.val 5 (.val 6 (.val 7 (.two 8 (.val 9 (.val 10 (.val 11 (.one 12 (.one 13 .done))))) 12 (.one 8 (.val 9 (.val 10 (.val 11 (.one 13 .done))))))))))))))) (F:=Vw.F) (eid:=0) (FX:=Vw.FX) (FR:=Vw.FR) (sh:=FN) Ga Ia gS mixed (by kernel_rfl) (by kernel_rfl) ⟨fun s=>by kernel_rfl,fun s=>by kernel_rfl,trivial⟩
theorem zKC:GC Tryz.prog 59 V0:=Ra (G:=Ww) (c:=Tryz.f59.body.getD .skip) Ga Ia gS mixed Tryz.func59 (by kernel_rfl) Tryz.ntmps59 (Jp (G:=Ww) (n:=0) (m:=1) (by kernel_rfl) (by kernel_rfl) trivial (by kernel_rfl) ⟨trivial,Gl (L0:=Vw) (by kernel_rfl) zI7⟩) (fun s=>by kernel_rfl)
def Zt:Na:=⟨⟨[.c (.one (.b (.sl false .ls))),.c (.agg [zi,zi,(.b (.sl false .en))])],[]⟩,[.ls .ls,.int,.int,.ls .en],⟨[.tup [(.one (.own 0)),(.one zi)]],[.row 108 .uls]⟩,[.int,.ls .uls],Io⟩
def W0:Ka:=Qa Ag [(145,[],MT),(117,[],Nk),(119,[],An),(87,[],Is)] 58 0 [(4,9,tk 9,[]),(6,9,tk 9,[])] []
theorem zOV:Ma Tryz.prog W0.Γ:=Pa (l:=[(145,[],MT),(117,[],Nk),(119,[],An),(87,[],Is)]) ⟨⟨sP,Tryz.call145⟩,⟨⟨SF,Tryz.call117⟩,⟨⟨ZN,Tryz.call119⟩,⟨⟨FZ,Tryz.call87⟩,trivial⟩⟩⟩⟩
theorem X0:GC Tryz.prog 115 Zt:=Ra (G:=W0) (c:=Tryz.f115.body.getD .skip) Ga Xc zOV mixed Tryz.func115 (by kernel_rfl) Tryz.ntmps115 (Ha (G:=W0) (n:=0) (by kernel_rfl) (by kernel_rfl) trivial (by kernel_rfl)) (fun s=>by kernel_rfl)
def Au:Xa:=⟨⟨[0,3,8,9],⟨[.c (.one (.b (.sl false .ls))),.c (.one (.ptr 0 0)),.c (.one (.own 1)),zc],[.box 108 [zi,zi,(.b (.sl false .en))],.row 108 .ls]⟩,[.ls .ls,.int,.int,.int,.ls .en,.ls .ls]⟩,0,⟨[0,3,8],⟨[.c (.one (.b (.sl false .ls))),.c (.one (.ptr 0 0)),.c (.one (.own 1))],[.box 108 [zi,zi,(.b (.sl false .en))],.row 108 .ls]⟩,[.ls .ls,.int,.int,.ls .en,.ls .ls]⟩,zx,lp Kl Fa⟩
def Bu:Xa:=⟨⟨[0,3,8,10],⟨[.c (.one (.b (.sl false .ls))),.c (.one (.ptr 0 0)),.c (.one (.own 1)),zc],[.box 108 [zi,zi,(.b (.sl false .en))],.row 108 .ls]⟩,[.ls .ls,.int,.int,.int,.ls .en,.ls .ls]⟩,2,⟨[8],⟨[.c (.one (.own 0))],[.row 108 .ls]⟩,[.ls .ls]⟩,zx,lp Ll Fa⟩
def Z0:Na:=⟨⟨[.c (.one (.b (.sl false .ls))),.c (.agg [zi,zi,(.b (.sl false .en))])],[]⟩,[.ls .ls,.int,.int,.ls .en],⟨[.tup [(.one (.own 0)),(.one zi)]],[.row 108 .ls]⟩,[.int,.ls .ls],HN⟩
def Cu:Ka:=Qa tab [(81,[],As),(107,[],Us),(104,[],Zm)] 91 0 [(8,12,tk 12,[]),(15,7,tk 7,[])] [(8,Au),(13,Bu)]
theorem B1:Ma Tryz.prog Cu.Γ:=Pa (l:=[(81,[],As),(107,[],Us),(104,[],Zm)]) ⟨⟨ZY,Tryz.call81⟩,⟨⟨PZ,Tryz.call107⟩,⟨⟨YN,Tryz.call104⟩,trivial⟩⟩⟩
theorem zJ0:Db Tryz.prog 0 91 (Ab (Tryz.f147.body.getD .skip) 0) Au:=Eb (G:=Cu) (F:=Au.F) (eid:=Au.eid) (FX:=Au.FX) (FR:=Au.FR) (B:=Kl) (n:=Fa) Ga Ia B1 mixed (Ha (G:=Cu) (n:=0) (by kernel_rfl) (by kernel_rfl) trivial (by kernel_rfl)) (fun s=>by kernel_rfl)
theorem zJZ:Db Tryz.prog 0 91 (Ab (Tryz.f147.body.getD .skip) 1) Bu:=Eb (G:=Cu) (F:=Bu.F) (eid:=Bu.eid) (FX:=Bu.FX) (FR:=Bu.FR) (B:=Ll) (n:=Fa) Ga Ia B1 mixed (Ha (G:=Cu) (n:=0) (by kernel_rfl) (by kernel_rfl) trivial (by kernel_rfl)) (fun s=>by kernel_rfl)
theorem zL4:GC Tryz.prog 147 Z0:=Ra (G:=Cu) (c:=Tryz.f147.body.getD .skip) Ga Ia B1 mixed Tryz.func147 (by kernel_rfl) Tryz.ntmps147 (Ha (G:=Cu) (n:=2) (by kernel_rfl) (by kernel_rfl) ⟨⟨trivial,Fb (id:=8) (L0:=Au) (by kernel_rfl) (by kernel_rfl) zJ0⟩,Fb (id:=13) (L0:=Bu) (by kernel_rfl) (by kernel_rfl) zJZ⟩ (by kernel_rfl)) (fun s=>by kernel_rfl)
def Du:Xa:=⟨⟨[5,10,11,12],⟨[.c (.one (.own 0)),.c (.one (.b (.sl false .ls))),zc,zc],[.row 108 .uls]⟩,[.ls .ls,.int,.int,.ls .uls]⟩,0,⟨[5],⟨[.c (.one (.own 0))],[.row 108 .uls]⟩,[.ls .uls]⟩,zx,lp EC Fa⟩
def D1:Na:=⟨⟨[.c (.one (.b (.sl false .ls))),.c (.one (.b (.sl false .ls)))],[]⟩,[.ls .ls,.ls .ls],⟨[.c (.one (.own 0))],[.row 108 .uls]⟩,[.ls .uls],Ce⟩
def IG:Ka:=Qa Ag [(119,[],An),(115,[],Zt)] 24 0 [] [(3,Du)]
theorem gT:Ma Tryz.prog IG.Γ:=Pa (l:=[(119,[],An),(115,[],Zt)]) ⟨⟨ZN,Tryz.call119⟩,⟨⟨X0,Tryz.call115⟩,trivial⟩⟩
theorem zJd:Db Tryz.prog 0 24 (Ab (Tryz.f118.body.getD .skip) 0) Du:=Eb (G:=IG) (F:=Du.F) (eid:=Du.eid) (FX:=Du.FX) (FR:=Du.FR) (B:=EC) (n:=Fa) Ga Xc gT mixed (Ha (G:=IG) (n:=0) (by kernel_rfl) (by kernel_rfl) trivial (by kernel_rfl)) (fun s=>by kernel_rfl)
theorem zKM:GC Tryz.prog 118 D1:=Ra (G:=IG) (c:=Tryz.f118.body.getD .skip) Ga Xc gT mixed Tryz.func118 (by kernel_rfl) Tryz.ntmps118 (Ha (G:=IG) (n:=1) (by kernel_rfl) (by kernel_rfl) ⟨trivial,Fb (id:=3) (L0:=Du) (by kernel_rfl) (by kernel_rfl) zJd⟩ (by kernel_rfl)) (fun s=>by kernel_rfl)
def Eu:Xa:=⟨⟨[1,5,6],⟨[.c (.one (.b (.sl false .ls))),.c (.one (.own 0)),zc],[.row 108 .ls]⟩,[.ls .ls,.int,.ls .ls]⟩,0,⟨[5],⟨[.c (.one (.own 0))],[.row 108 .ls]⟩,[.ls .ls]⟩,zx,lp FC Fa⟩
def E1:Na:=⟨⟨[.c (.one (.b (.sl false .ls))),.c (.one (.b (.sl false .ls)))],[]⟩,[.ls .ls,.ls .ls],⟨[.c (.one (.own 0))],[.row 108 .ls]⟩,[.ls .ls],IN⟩
def JG:Ka:=Qa tab [(104,[],Zm),(147,[],Z0)] 28 0 [] [(3,Eu)]
theorem gU:Ma Tryz.prog JG.Γ:=Pa (l:=[(104,[],Zm),(147,[],Z0)]) ⟨⟨YN,Tryz.call104⟩,⟨⟨zL4,Tryz.call147⟩,trivial⟩⟩
theorem zJX:Db Tryz.prog 0 28 (Ab (Tryz.f122.body.getD .skip) 0) Eu:=Eb (G:=JG) (F:=Eu.F) (eid:=Eu.eid) (FX:=Eu.FX) (FR:=Eu.FR) (B:=FC) (n:=Fa) Ga Ia gU mixed (Ha (G:=JG) (n:=0) (by kernel_rfl) (by kernel_rfl) trivial (by kernel_rfl)) (fun s=>by kernel_rfl)
theorem zL1:GC Tryz.prog 122 E1:=Ra (G:=JG) (c:=Tryz.f122.body.getD .skip) Ga Ia gU mixed Tryz.func122 (by kernel_rfl) Tryz.ntmps122 (Ha (G:=JG) (n:=1) (by kernel_rfl) (by kernel_rfl) ⟨trivial,Fb (id:=3) (L0:=Eu) (by kernel_rfl) (by kernel_rfl) zJX⟩ (by kernel_rfl)) (fun s=>by kernel_rfl)
def gV:Na:=⟨⟨[.c (.agg [zi,(.b (.sl false .lk)),(.b (.sl false .bool)),(.b (.sl false .int)),(.b (.sl false .db)),(.b (.sl false .pk))])],[]⟩,[.int,.ls .lk,.ls .bool,.ls .int,.ls .db,.ls .pk],⟨[.c (.agg [zi,(.own 0)])],[.row 114 .lk]⟩,[.int,.ls .lk],TU⟩
def F1:Ka:=Qa tab [(38,[],NF),(37,[],Ut)] 9 0 [] []
theorem zPX:Ma Tryz.prog F1.Γ:=Pa (l:=[(38,[],NF),(37,[],Ut)]) ⟨⟨fX,Tryz.call38⟩,⟨⟨P0,Tryz.call37⟩,trivial⟩⟩
theorem zLV:GC Tryz.prog 9 gV:=Ra (G:=F1) (c:=Tryz.f9.body.getD .skip) Ga Ia zPX mixed Tryz.func9 (by kernel_rfl) Tryz.ntmps9 (Ha (G:=F1) (n:=0) (by kernel_rfl) (by kernel_rfl) trivial (by kernel_rfl)) (fun s=>by kernel_rfl)
def Fu:Xa:=⟨⟨[1,3,4,52,53,54],⟨[.c (.one (.ptr 0 0)),zc,.c (.one (.own 1)),.c (.one (.b (.sl false .db))),zc,zc],[.box 39 [zi,(.b (.sl false .lk)),(.b (.sl false .bool)),(.b (.sl false .int)),(.b (.sl false .db)),(.b (.sl false .pk))],.row 108 .ls]⟩,[.int,.ls .db,.int,.int,.int,.ls .lk,.ls .bool,.ls .int,.ls .db,.ls .pk,.ls .ls]⟩,0,⟨[1,3,4],⟨[.c (.one (.ptr 0 0)),zc,.c (.one (.own 1))],[.box 39 [zi,(.b (.sl false .lk)),(.b (.sl false .bool)),(.b (.sl false .int)),(.b (.sl false .db)),(.b (.sl false .pk))],.row 108 .ls]⟩,[.int,.int,.ls .lk,.ls .bool,.ls .int,.ls .db,.ls .pk,.ls .ls]⟩,⟨[2],⟨[.c (.one (.b .bool))],[]⟩,[.bool]⟩,lp IC Fa⟩
def Gu:Xa:=⟨⟨[1,3,4,97,98,99],⟨[.c (.one (.ptr 0 0)),zc,.c (.one (.own 1)),.c (.one (.b (.sl false .pk))),zc,zc],[.box 39 [zi,(.b (.sl false .lk)),(.b (.sl false .bool)),(.b (.sl false .int)),(.b (.sl false .db)),(.b (.sl false .pk))],.row 108 .ls]⟩,[.int,.ls .pk,.int,.int,.int,.ls .lk,.ls .bool,.ls .int,.ls .db,.ls .pk,.ls .ls]⟩,2,⟨[1,4],⟨[.c (.one (.ptr 0 0)),.c (.one (.own 1))],[.box 39 [zi,(.b (.sl false .lk)),(.b (.sl false .bool)),(.b (.sl false .int)),(.b (.sl false .db)),(.b (.sl false .pk))],.row 108 .ls]⟩,[.int,.ls .lk,.ls .bool,.ls .int,.ls .db,.ls .pk,.ls .ls]⟩,⟨[2],⟨[.c (.one (.b .bool))],[]⟩,[.bool]⟩,lp JC Fa⟩
def Hu:Xa:=⟨⟨[1,4,115,116,117],⟨[.c (.one (.ptr 0 0)),.c (.one (.b (.sl true .ls))),.c (.one (.b (.sl true .ls))),zc,zc],[.box 39 [zi,(.b (.sl false .lk)),(.b (.sl false .bool)),(.b (.sl false .int)),(.b (.sl false .db)),(.b (.sl false .pk))]]⟩,[.ls .ls,.ls .ls,.int,.int,.int,.ls .lk,.ls .bool,.ls .int,.ls .db,.ls .pk]⟩,4,⟨[],⟨[],[]⟩,[]⟩,⟨[2],⟨[.c (.one (.b .bool))],[]⟩,[.bool]⟩,lp KC Fa⟩
def Iu:Na:=⟨⟨[.c (.agg [zi,(.b (.sl false .lk)),(.b (.sl false .bool)),(.b (.sl false .int)),(.b (.sl false .db)),(.b (.sl false .pk))])],[]⟩,[.int,.ls .lk,.ls .bool,.ls .int,.ls .db,.ls .pk],⟨[.c (.one (.b .bool))],[]⟩,[.bool],Nw⟩
def Dn:Ka:=Qa tab [(58,[],Wi),(85,[],PY),(86,[],EF),(87,[],Is),(90,[],Lt),(89,[90],J0),(88,[],U0)] 134 0 [(11,13,tk 13,[])] [(6,Fu),(16,Gu),(23,Hu)]
theorem FO:Ma Tryz.prog Dn.Γ:=Pa (l:=[(58,[],Wi),(85,[],PY),(86,[],EF),(87,[],Is),(90,[],Lt),(89,[90],J0),(88,[],U0)]) ⟨⟨Sw,Tryz.call58⟩,⟨⟨zKh,Tryz.call85⟩,⟨⟨fO,Tryz.call86⟩,⟨⟨FZ,Tryz.call87⟩,⟨⟨F0,Tryz.call90⟩,⟨⟨zLJ,Tryz.call89⟩,⟨⟨zKB,Tryz.call88⟩,trivial⟩⟩⟩⟩⟩⟩⟩
theorem zIV:Db Tryz.prog 0 134 (Ab (Tryz.f43.body.getD .skip) 0) Fu:=Eb (G:=Dn) (F:=Fu.F) (eid:=Fu.eid) (FX:=Fu.FX) (FR:=Fu.FR) (B:=IC) (n:=Fa) Ga Ia FO mixed (Ha (G:=Dn) (n:=0) (by kernel_rfl) (by kernel_rfl) trivial (by kernel_rfl)) (fun s=>by kernel_rfl)
theorem zIT:Db Tryz.prog 0 134 (Ab (Tryz.f43.body.getD .skip) 1) Gu:=Eb (G:=Dn) (F:=Gu.F) (eid:=Gu.eid) (FX:=Gu.FX) (FR:=Gu.FR) (B:=JC) (n:=Fa) Ga Ia FO mixed (Ha (G:=Dn) (n:=0) (by kernel_rfl) (by kernel_rfl) trivial (by kernel_rfl)) (fun s=>by kernel_rfl)
theorem zIU:Db Tryz.prog 0 134 (Ab (Tryz.f43.body.getD .skip) 2) Hu:=Eb (G:=Dn) (F:=Hu.F) (eid:=Hu.eid) (FX:=Hu.FX) (FR:=Hu.FR) (B:=KC) (n:=Fa) Ga Ia FO mixed (Ha (G:=Dn) (n:=0) (by kernel_rfl) (by kernel_rfl) trivial (by kernel_rfl)) (fun s=>by kernel_rfl)
theorem I1:GC Tryz.prog 43 Iu:=Ra (G:=Dn) (c:=Tryz.f43.body.getD .skip) Ga Ia FO mixed Tryz.func43 (by kernel_rfl) Tryz.ntmps43 (Ha (G:=Dn) (n:=3) (by kernel_rfl) (by kernel_rfl) ⟨⟨⟨trivial,Fb (id:=6) (L0:=Fu) (by kernel_rfl) (by kernel_rfl) zIV⟩,Fb (id:=16) (L0:=Gu) (by kernel_rfl) (by kernel_rfl) zIT⟩,Fb (id:=23) (L0:=Hu) (by kernel_rfl) (by kernel_rfl) zIU⟩ (by kernel_rfl)) (fun s=>by kernel_rfl)
def gW:Na:=⟨⟨[.c (.agg [zi,(.b (.sl false .lk)),(.b (.sl false .bool)),(.b (.sl false .int)),(.b (.sl false .db)),(.b (.sl false .pk))])],[]⟩,[.int,.ls .lk,.ls .bool,.ls .int,.ls .db,.ls .pk],⟨[.c (.agg [zi,(.own 0)])],[.row 114 .lk]⟩,[.int,.ls .lk],LC⟩
def J1:Ka:=Qa tab [(44,[],Cn),(43,[],Iu)] 9 0 [] []
theorem zOC:Ma Tryz.prog J1.Γ:=Pa (l:=[(44,[],Cn),(43,[],Iu)]) ⟨⟨DO,Tryz.call44⟩,⟨⟨I1,Tryz.call43⟩,trivial⟩⟩
theorem zKu:GC Tryz.prog 11 gW:=Ra (G:=J1) (c:=Tryz.f11.body.getD .skip) Ga Ia zOC mixed Tryz.func11 (by kernel_rfl) Tryz.ntmps11 (Ha (G:=J1) (n:=0) (by kernel_rfl) (by kernel_rfl) trivial (by kernel_rfl)) (fun s=>by kernel_rfl)
def gX:Na:=⟨⟨[.c (.agg [zi,(.b (.sl false .lk)),(.b (.sl false .bool)),(.b (.sl false .int)),(.b (.sl false .db)),(.b (.sl false .pk))]),zc],[]⟩,[.int,.ls .lk,.ls .bool,.ls .int,.ls .db,.ls .pk,.int],⟨[.c (.agg [zi,(.own 0)])],[.row 114 .lk]⟩,[.int,.ls .lk],UU⟩
def K1:Ka:=Qa tab [(37,[],Ut),(56,[],TY),(57,[],KZ)] 25 0 [(3,8,tk 8,[])] []
theorem zPW:Ma Tryz.prog K1.Γ:=Pa (l:=[(37,[],Ut),(56,[],TY),(57,[],KZ)]) ⟨⟨P0,Tryz.call37⟩,⟨⟨zL7,Tryz.call56⟩,⟨⟨zL0,Tryz.call57⟩,trivial⟩⟩⟩
theorem zLU:GC Tryz.prog 17 gX:=Ra (G:=K1) (c:=Tryz.f17.body.getD .skip) Ga Ia zPW mixed Tryz.func17 (by kernel_rfl) Tryz.ntmps17 (Ha (G:=K1) (n:=0) (by kernel_rfl) (by kernel_rfl) trivial (by kernel_rfl)) (fun s=>by kernel_rfl)
def gY:Na:=⟨⟨[.c (.agg [zi,(.b (.sl false .lk)),(.b (.sl false .bool)),(.b (.sl false .int)),(.b (.sl false .db)),(.b (.sl false .pk))]),zc],[]⟩,[.int,.ls .lk,.ls .bool,.ls .int,.ls .db,.ls .pk,.int],⟨[.c (.agg [zi,(.own 0)])],[.row 114 .lk]⟩,[.int,.ls .lk],MC⟩
def L1:Ka:=Qa tab [(58,[],Wi),(59,[],V0),(43,[],Iu)] 21 0 [] []
theorem zOB:Ma Tryz.prog L1.Γ:=Pa (l:=[(58,[],Wi),(59,[],V0),(43,[],Iu)]) ⟨⟨Sw,Tryz.call58⟩,⟨⟨zKC,Tryz.call59⟩,⟨⟨I1,Tryz.call43⟩,trivial⟩⟩⟩
theorem zKt:GC Tryz.prog 18 gY:=Ra (G:=L1) (c:=Tryz.f18.body.getD .skip) Ga Ia zOB mixed Tryz.func18 (by kernel_rfl) Tryz.ntmps18 (Ha (G:=L1) (n:=0) (by kernel_rfl) (by kernel_rfl) trivial (by kernel_rfl)) (fun s=>by kernel_rfl)
end
section
open Go.RowKit
def N1:Na:=⟨⟨[.c (.agg [zi,(.b (.sl true .lk)),(.b (.sl true .bool)),(.b (.sl true .int)),(.b (.sl true .db)),(.b (.sl true .pk))]),zc],[]⟩,[.int,.ls .lk,.ls .bool,.ls .int,.ls .db,.ls .pk,.int],⟨[.c (.agg [zi,(.b (.sl true .lk)),(.b (.sl true .bool)),(.b (.sl true .int)),(.b (.sl true .db)),(.b (.sl true .pk))])],[]⟩,[.int,.ls .lk,.ls .bool,.ls .int,.ls .db,.ls .pk],QN⟩
def P1:Ka:=Qa tab [(104,[],Zm),(63,[],YF),(122,[],E1)] 49 0 [(5,12,tk 12,[]),(7,6,[(0,true),(1,true),(2,true),(3,true),(4,true),(5,false)],[])] []
theorem zQg:Ma Tryz.prog P1.Γ:=Pa (l:=[(104,[],Zm),(63,[],YF),(122,[],E1)]) ⟨⟨YN,Tryz.call104⟩,⟨⟨gI,Tryz.call63⟩,⟨⟨zL1,Tryz.call122⟩,trivial⟩⟩⟩
theorem zMe:GC Tryz.prog 72 N1:=Ra (G:=P1) (c:=Tryz.f72.body.getD .skip) Ga Ia zQg mixed Tryz.func72 (by kernel_rfl) Tryz.ntmps72 (Ha (G:=P1) (n:=0) (by kernel_rfl) (by kernel_rfl) trivial (by kernel_rfl)) (fun s=>by kernel_rfl)
def Xw:Xa:=⟨⟨[0,3,6,9,15,16,17],⟨[.c (.one (.ptr 0 0)),zc,.c (.one (.ptr 6 0)),zc,.c (.one (.own 7)),zc,zc],[.box 39 [zi,(.own 1),(.own 2),(.own 3),(.own 4),(.own 8)],.row 114 .lk,.row 4 .bool,.row 3 .int,.row 86 .udb,.dead,.box 108 [zi,zi,(.b (.sl true .en))],.row 3 .int,.row 112 .upk]⟩,[.int,.int,.int,.int,.int,.ls .lk,.ls .bool,.ls .int,.ls .udb,.int,.int,.ls .en,.ls .int,.ls .upk]⟩,0,⟨[0,3,6,15,16,17],⟨[.c (.one (.ptr 0 0)),zc,.c (.one (.ptr 6 0)),.c (.one (.own 7)),zc,zc],[.box 39 [zi,(.own 1),(.own 2),(.own 3),(.own 4),(.own 8)],.row 114 .lk,.row 4 .bool,.row 3 .int,.row 86 .udb,.dead,.box 108 [zi,zi,(.b (.sl true .en))],.row 3 .int,.row 112 .upk]⟩,[.int,.int,.int,.int,.ls .lk,.ls .bool,.ls .int,.ls .udb,.int,.int,.ls .en,.ls .int,.ls .upk]⟩,zx,RN⟩
def Ju:Xa:=⟨⟨[0,3,6,15,16,17],⟨[.c (.one (.ptr 0 0)),zc,.c (.one (.ptr 6 0)),.c (.one (.own 7)),zc,zc],[.box 39 [zi,(.own 1),(.own 2),(.own 3),(.own 4),(.own 8)],.row 114 .lk,.row 4 .bool,.row 3 .int,.row 86 .udb,.dead,.box 108 [zi,zi,(.b (.sl true .en))],.row 3 .int,.row 112 .upk]⟩,[.int,.int,.int,.int,.ls .lk,.ls .bool,.ls .int,.ls .udb,.int,.int,.ls .en,.ls .int,.ls .upk]⟩,0,⟨[],⟨[],[.box 39 [zi,(.own 1),(.own 2),(.own 3),(.own 4),(.own 6)],.row 114 .lk,.row 4 .bool,.row 3 .int,.row 86 .udb,.dead,.row 112 .upk]⟩,[.int,.ls .lk,.ls .bool,.ls .int,.ls .udb,.ls .upk]⟩,zx,lp SN Fa⟩
def KG:Na:=⟨⟨[.c (.one (.ptr 0 0)),zc,.c (.agg [zi,zi,(.b (.sl true .en))]),zc],[.box 39 [zi,(.own 1),(.own 2),(.own 3),(.own 4),(.own 5)],.row 114 .lk,.row 4 .bool,.row 3 .int,.row 86 .udb,.row 112 .upk]⟩,[.int,.int,.int,.ls .en,.int,.int,.ls .lk,.ls .bool,.ls .int,.ls .udb,.ls .upk],⟨[.tup []],[.box 39 [zi,(.own 1),(.own 2),(.own 3),(.own 4),(.own 6)],.row 114 .lk,.row 4 .bool,.row 3 .int,.row 86 .udb,.dead,.row 112 .upk]⟩,[.int,.ls .lk,.ls .bool,.ls .int,.ls .udb,.ls .upk],Hq⟩
def Lo:Ka:=Qa Ag [(144,[],SE),(117,[],Nk),(44,[],Cn)] 46 6 [] [(5,Xw),(2,Ju)]
theorem U1:Ma Tryz.prog Lo.Γ:=Pa (l:=[(144,[],SE),(117,[],Nk),(44,[],Cn)]) ⟨⟨fD,Tryz.call144⟩,⟨⟨SF,Tryz.call117⟩,⟨⟨DO,Tryz.call44⟩,trivial⟩⟩⟩
theorem zI5:Tf Tryz.prog 6 46 (Ke Lo.plan (Ab (Tryz.f116.body.getD .skip) 0) 0).1 (Ke Lo.plan (Ab (Tryz.f116.body.getD .skip) 0) 0).2 Xw:=SI (G:=Lo) (U:=[0,1,2,3,5]) (n:=10) (tl:=[10,11,12,13]) (ks:=[]) (t:=(.val 4 (.val 6 (.one 7 (.val 8 (.one 9 .done)))))) (F:=Xw.F) (eid:=0) (FX:=Xw.FX) (FR:=Xw.FR) (sh:=RN) Ga Xc U1 mixed (by kernel_rfl) (by kernel_rfl) ⟨fun s=>by kernel_rfl,trivial⟩
theorem zI4:Db Tryz.prog 6 46 (Ab (Tryz.f116.body.getD .skip) 0) Ju:=Eb (G:=Lo) (F:=Ju.F) (eid:=Ju.eid) (FX:=Ju.FX) (FR:=Ju.FR) (B:=SN) (n:=Fa) Ga Xc U1 mixed (Jp (G:=Lo) (n:=0) (m:=1) (by kernel_rfl) (by kernel_rfl) trivial (by kernel_rfl) ⟨trivial,Gl (L0:=Xw) (by kernel_rfl) zI5⟩) (fun s=>by kernel_rfl)
theorem gZ:GC Tryz.prog 116 KG:=QI (G:=Lo) (c:=Tryz.f116.body.getD .skip) Ga Xc U1 mixed Tryz.func116 (by kernel_rfl) Tryz.ntmps116 (Ha (G:=Lo) (n:=1) (by kernel_rfl) (by kernel_rfl) ⟨trivial,Fb (id:=2) (L0:=Ju) (by kernel_rfl) (by kernel_rfl) zI4⟩ (by kernel_rfl)) [5] (fun s=>by kernel_rfl)
def Yw:Xa:=⟨⟨[0,1],⟨[.c (.one (.ptr 0 0)),zc],[.box 39 [zi,(.own 1),(.own 2),(.own 3),(.own 4),(.own 6)],.row 114 .lk,.row 4 .bool,.row 3 .int,.row 86 .udb,.dead,.row 112 .upk]⟩,[.int,.int,.ls .lk,.ls .bool,.ls .int,.ls .udb,.ls .upk]⟩,0,⟨[0,1,4],⟨[.c (.one (.ptr 0 0)),zc,.c (.one (.ptr 6 0))],[.box 39 [zi,(.own 1),(.own 2),(.own 3),(.own 4),(.own 7)],.row 114 .lk,.row 4 .bool,.row 3 .int,.row 86 .udb,.dead,.box 108 [zi,zi,(.own 8)],.row 112 .upk,.row 153 .en]⟩,[.int,.int,.ls .lk,.ls .bool,.ls .int,.ls .udb,.int,.int,.ls .upk,.ls .en]⟩,zx,SC⟩
def Zw:Xa:=⟨⟨[0,1,4],⟨[.c (.one (.ptr 0 0)),zc,.c (.one (.ptr 6 0))],[.box 39 [zi,(.own 1),(.own 2),(.own 3),(.own 4),(.own 7)],.row 114 .lk,.row 4 .bool,.row 3 .int,.row 86 .udb,.dead,.box 108 [zi,zi,(.own 8)],.row 112 .upk,.row 153 .en]⟩,[.int,.int,.ls .lk,.ls .bool,.ls .int,.ls .udb,.int,.int,.ls .upk,.ls .en]⟩,0,⟨[0,1,4],⟨[.c (.one (.ptr 0 0)),zc,.c (.one (.ptr 6 0))],[.box 39 [zi,(.own 1),(.own 2),(.own 3),(.own 4),(.own 7)],.row 114 .lk,.row 4 .bool,.row 3 .int,.row 86 .udb,.dead,.box 108 [zi,zi,(.own 8)],.row 112 .upk,.row 153 .en]⟩,[.int,.int,.ls .lk,.ls .bool,.ls .int,.ls .udb,.int,.int,.ls .upk,.ls .en]⟩,zx,TC⟩
def V1:Na:=⟨⟨[.c (.one (.ptr 0 0)),zc],[.box 39 [zi,(.own 1),(.own 2),(.own 3),(.own 4),(.own 5)],.row 114 .lk,.row 4 .bool,.row 3 .int,.row 86 .udb,.row 112 .upk]⟩,[.int,.int,.ls .lk,.ls .bool,.ls .int,.ls .udb,.ls .upk],⟨[.tup []],[.box 39 [zi,(.own 1),(.own 2),(.own 3),(.own 4),(.own 6)],.row 114 .lk,.row 4 .bool,.row 3 .int,.row 86 .udb,.dead,.row 112 .upk]⟩,[.int,.ls .lk,.ls .bool,.ls .int,.ls .udb,.ls .upk],Ml⟩
def Fn:Ka:=Qa Ag [(112,[],KF),(44,[],Cn),(115,[],Zt),(116,[],KG)] 49 6 [] [(1,Yw),(2,Zw)]
theorem X1:Ma Tryz.prog Fn.Γ:=Pa (l:=[(112,[],KF),(44,[],Cn),(115,[],Zt),(116,[],KG)]) ⟨⟨fU,Tryz.call112⟩,⟨⟨DO,Tryz.call44⟩,⟨⟨X0,Tryz.call115⟩,⟨⟨gZ,Tryz.call116⟩,trivial⟩⟩⟩⟩
theorem zIW:Tf Tryz.prog 6 49 (Ke Fn.plan (Tryz.f113.body.getD .skip) 0).1 (Ke Fn.plan (Tryz.f113.body.getD .skip) 0).2 Yw:=BR (G:=Fn) (n:=14) (ks:=[]) (t:=(.val 0 (.val 1 (.val 2 (.val 4 (.val 5 (.val 6 (.val 7 (.val 8 (.val 9 (.val 10 (.val 11 (.two 3 (.two 12 (.one 13 .done) 13 (.one 12 .done)) 13 (.one 3 (.one 12 .done))))))))))))))) (F:=Yw.F) (eid:=0) (FX:=Yw.FX) (FR:=Yw.FR) (sh:=SC) Ga Xc X1 mixed (by kernel_rfl) (by kernel_rfl) ⟨fun s=>by kernel_rfl,fun s=>by kernel_rfl,fun s=>by kernel_rfl,trivial⟩
theorem zIX:Tf Tryz.prog 6 49 (Ke Fn.plan (Tryz.f113.body.getD .skip) 1).1 (Ke Fn.plan (Tryz.f113.body.getD .skip) 1).2 Zw:=Q7 (G:=Fn) (t:=(.val 0 (.val 1 (.val 2 (.val 4 (.val 5 (.val 6 (.val 7 (.val 9 (.alt 3 (.alt 8 (.val 10 (.alt 11 (.one 12 (.one 13 (.val 14 (.val 15 (.val 16 (.val 17 (.one 18 .done))))))) (.one 12 (.one 11 (.one 13 (.val 14 (.val 15 (.val 16 (.val 17 (.one 18 .done)))))))))) (.one 12 (.one 8 (.val 10 (.one 11 (.one 13 (.val 14 (.val 15 (.val 16 (.val 17 (.one 18 .done))))))))))) (.alt 8 (.val 10 (.alt 3 (.alt 11 (.one 12 (.one 13 (.val 14 (.val 15 (.val 16 (.val 17 (.one 18 .done))))))) (.one 12 (.one 11 (.one 13 (.val 14 (.val 15 (.val 16 (.val 17 (.one 18 .done))))))))) (.alt 11 (.alt 3 (.one 12 (.one 13 (.val 14 (.val 15 (.val 16 (.val 17 (.one 18 .done))))))) (.one 12 (.alt 3 (.one 13 (.val 14 (.val 15 (.val 16 (.val 17 (.one 18 .done)))))) (.one 13 (.val 14 (.val 15 (.val 16 (.one 3 (.val 17 (.one 18 .done)))))))))) (.one 12 (.alt 3 (.one 11 (.one 13 (.val 14 (.val 15 (.val 16 (.val 17 (.one 18 .done))))))) (.one 11 (.alt 3 (.one 13 (.val 14 (.val 15 (.val 16 (.val 17 (.one 18 .done)))))) (.one 13 (.val 14 (.val 15 (.val 16 (.one 3 (.val 17 (.one 18 .done)))))))))))))) (.one 12 (.alt 3 (.one 8 (.val 10 (.one 11 (.one 13 (.val 14 (.val 15 (.val 16 (.val 17 (.one 18 .done))))))))) (.one 8 (.val 10 (.alt 3 (.one 11 (.one 13 (.val 14 (.val 15 (.val 16 (.val 17 (.one 18 .done))))))) (.one 11 (.alt 3 (.one 13 (.val 14 (.val 15 (.val 16 (.val 17 (.one 18 .done)))))) (.one 13 (.val 14 (.val 15 (.val 16 (.one 3 (.val 17 (.one 18 .done))))))))))))))))))))))))) (F:=Zw.F) (eid:=0) (FX:=Zw.FX) (FR:=Zw.FR) (sh:=TC) Ga Xc X1 mixed (by kernel_rfl) (by kernel_rfl) ⟨fun s=>by kernel_rfl,fun s=>by kernel_rfl,fun s=>by kernel_rfl,fun s=>by kernel_rfl,fun s=>by kernel_rfl,fun s=>by kernel_rfl,fun s=>by kernel_rfl,fun s=>by kernel_rfl,fun s=>by kernel_rfl,fun s=>by kernel_rfl,fun s=>by kernel_rfl,fun s=>by kernel_rfl,fun s=>by kernel_rfl,fun s=>by kernel_rfl,fun s=>by kernel_rfl,trivial⟩
theorem zKx:GC Tryz.prog 113 V1:=QI (G:=Fn) (c:=Tryz.f113.body.getD .skip) Ga Xc X1 mixed Tryz.func113 (by kernel_rfl) Tryz.ntmps113 (Jp (G:=Fn) (n:=0) (m:=2) (by kernel_rfl) (by kernel_rfl) trivial (by kernel_rfl) ⟨⟨trivial,Gl (L0:=Yw) (by kernel_rfl) zIW⟩,Gl (L0:=Zw) (by kernel_rfl) zIX⟩) [5] (fun s=>by kernel_rfl)
def Ku:Xa:=⟨⟨[2,3,4,5],⟨[.c (.one (.ptr 0 0)),.c (.one (.ptr 1 0)),zc,zc],[.box 39 [zi,(.b (.sl true .lk)),(.b (.sl true .bool)),(.b (.sl true .int)),(.b (.sl true .db)),(.b (.sl true .pk))],.box 39 [zi,(.b (.sl true .lk)),(.b (.sl true .bool)),(.b (.sl true .int)),(.b (.sl true .db)),(.b (.sl true .pk))]]⟩,[.int,.int,.int,.ls .lk,.ls .bool,.ls .int,.ls .db,.ls .pk,.int,.ls .lk,.ls .bool,.ls .int,.ls .db,.ls .pk]⟩,2,⟨[2,3,4],⟨[.c (.one (.ptr 0 0)),.c (.one (.ptr 1 0)),zc],[.box 39 [zi,(.b (.sl true .lk)),(.b (.sl true .bool)),(.b (.sl true .int)),(.b (.sl true .db)),(.b (.sl true .pk))],.box 39 [zi,(.b (.sl true .lk)),(.b (.sl true .bool)),(.b (.sl true .int)),(.b (.sl true .db)),(.b (.sl true .pk))]]⟩,[.int,.int,.ls .lk,.ls .bool,.ls .int,.ls .db,.ls .pk,.int,.ls .lk,.ls .bool,.ls .int,.ls .db,.ls .pk]⟩,zx,lp UC Fa⟩
def Lu:Xa:=⟨⟨[2,3,4],⟨[.c (.one (.ptr 0 0)),.c (.one (.ptr 1 0)),zc],[.box 39 [zi,(.b (.sl true .lk)),(.b (.sl true .bool)),(.b (.sl true .int)),(.b (.sl true .db)),(.b (.sl true .pk))],.box 39 [zi,(.b (.sl true .lk)),(.b (.sl true .bool)),(.b (.sl true .int)),(.b (.sl true .db)),(.b (.sl true .pk))]]⟩,[.int,.int,.ls .lk,.ls .bool,.ls .int,.ls .db,.ls .pk,.int,.ls .lk,.ls .bool,.ls .int,.ls .db,.ls .pk]⟩,0,⟨[2,3],⟨[.c (.one (.ptr 0 0)),.c (.one (.ptr 1 0))],[.box 39 [zi,(.b (.sl true .lk)),(.b (.sl true .bool)),(.b (.sl true .int)),(.b (.sl true .db)),(.b (.sl true .pk))],.box 39 [zi,(.b (.sl true .lk)),(.b (.sl true .bool)),(.b (.sl true .int)),(.b (.sl true .db)),(.b (.sl true .pk))]]⟩,[.int,.ls .lk,.ls .bool,.ls .int,.ls .db,.ls .pk,.int,.ls .lk,.ls .bool,.ls .int,.ls .db,.ls .pk]⟩,zx,lp VC Fa⟩
def hJ:Na:=⟨⟨[.c (.agg [zi,(.b (.sl true .lk)),(.b (.sl true .bool)),(.b (.sl true .int)),(.b (.sl true .db)),(.b (.sl true .pk))])],[]⟩,[.int,.ls .lk,.ls .bool,.ls .int,.ls .db,.ls .pk],⟨[.c (.agg [zi,(.own 0),(.own 1),(.own 2),(.own 3),(.own 4)])],[.row 114 .lk,.row 4 .bool,.row 3 .int,.row 86 .db,.row 112 .pk]⟩,[.int,.ls .lk,.ls .bool,.ls .int,.ls .db,.ls .pk],HV⟩
def Mu:Ka:=Qa tab [(63,[],YF),(37,[],Ut),(72,[],N1)] 33 0 [] [(9,Ku),(6,Lu)]
theorem Z1:Ma Tryz.prog Mu.Γ:=Pa (l:=[(63,[],YF),(37,[],Ut),(72,[],N1)]) ⟨⟨gI,Tryz.call63⟩,⟨⟨P0,Tryz.call37⟩,⟨⟨zMe,Tryz.call72⟩,trivial⟩⟩⟩
theorem zJO:Db Tryz.prog 0 33 (Ab (Ab (Tryz.f28.body.getD .skip) 0) 0) Ku:=Eb (G:=Mu) (F:=Ku.F) (eid:=Ku.eid) (FX:=Ku.FX) (FR:=Ku.FR) (B:=UC) (n:=Fa) Ga Ia Z1 mixed (Ha (G:=Mu) (n:=0) (by kernel_rfl) (by kernel_rfl) trivial (by kernel_rfl)) (fun s=>by kernel_rfl)
theorem zJN:Db Tryz.prog 0 33 (Ab (Tryz.f28.body.getD .skip) 0) Lu:=Eb (G:=Mu) (F:=Lu.F) (eid:=Lu.eid) (FX:=Lu.FX) (FR:=Lu.FR) (B:=VC) (n:=Fa) Ga Ia Z1 mixed (Ha (G:=Mu) (n:=1) (by kernel_rfl) (by kernel_rfl) ⟨trivial,Fb (id:=9) (L0:=Ku) (by kernel_rfl) (by kernel_rfl) zJO⟩ (by kernel_rfl)) (fun s=>by kernel_rfl)
theorem zLT:GC Tryz.prog 28 hJ:=Ra (G:=Mu) (c:=Tryz.f28.body.getD .skip) Ga Ia Z1 mixed Tryz.func28 (by kernel_rfl) Tryz.ntmps28 (Ha (G:=Mu) (n:=1) (by kernel_rfl) (by kernel_rfl) ⟨trivial,Fb (id:=6) (L0:=Lu) (by kernel_rfl) (by kernel_rfl) zJN⟩ (by kernel_rfl)) (fun s=>by kernel_rfl)
def Bx:Xa:=⟨⟨[0,3,8],⟨[.c (.one (.ptr 0 0)),.c (.one (.ptr 6 0)),.c (.one (.ptr 7 0))],[.box 39 [zi,(.own 1),(.own 2),(.own 3),(.own 4),(.own 8)],.row 114 .lk,.row 4 .bool,.row 3 .int,.row 86 .udb,.dead,.box 63 [zi,zi],.box 112 [zi,zi,zi,(.b (.sl true .en))],.row 112 .upk]⟩,[.int,.ls .lk,.ls .bool,.ls .int,.ls .udb,.int,.int,.int,.int,.int,.ls .en,.ls .upk]⟩,0,⟨[0,8],⟨[.c (.one (.ptr 0 0)),.c (.one (.ptr 6 0))],[.box 39 [zi,(.own 1),(.own 2),(.own 3),(.own 4),(.own 7)],.row 114 .lk,.row 4 .bool,.row 3 .int,.row 86 .udb,.dead,.box 112 [zi,zi,zi,(.b (.sl true .en))],.row 112 .upk]⟩,[.int,.ls .lk,.ls .bool,.ls .int,.ls .udb,.int,.int,.int,.ls .en,.ls .upk]⟩,zx,Iq⟩
def Cx:Xa:=⟨⟨[0,3],⟨[.c (.one (.ptr 0 0)),.c (.one (.ptr 6 0))],[.box 39 [zi,(.own 1),(.own 2),(.own 3),(.own 4),(.own 7)],.row 114 .lk,.row 4 .bool,.row 3 .int,.row 86 .udb,.dead,.box 63 [zi,zi],.row 112 .upk]⟩,[.int,.ls .lk,.ls .bool,.ls .int,.ls .udb,.int,.int,.ls .upk]⟩,0,⟨[],⟨[],[.box 39 [zi,(.own 1),(.own 2),(.own 3),(.own 4),(.own 6)],.row 114 .lk,.row 4 .bool,.row 3 .int,.row 86 .udb,.dead,.row 112 .upk]⟩,[.int,.ls .lk,.ls .bool,.ls .int,.ls .udb,.ls .upk]⟩,zx,Nl⟩
def Dx:Xa:=⟨⟨[0,3],⟨[.c (.one (.ptr 0 0)),.c (.one (.ptr 6 0))],[.box 39 [zi,(.own 1),(.own 2),(.own 3),(.own 4),(.own 7)],.row 114 .lk,.row 4 .bool,.row 3 .int,.row 86 .udb,.dead,.box 63 [zi,zi],.row 112 .upk]⟩,[.int,.ls .lk,.ls .bool,.ls .int,.ls .udb,.int,.int,.ls .upk]⟩,0,⟨[],⟨[],[.box 39 [zi,(.own 1),(.own 2),(.own 3),(.own 4),(.own 6)],.row 114 .lk,.row 4 .bool,.row 3 .int,.row 86 .udb,.dead,.row 112 .upk]⟩,[.int,.ls .lk,.ls .bool,.ls .int,.ls .udb,.ls .upk]⟩,zx,Yg⟩
def Ex:Xa:=⟨⟨[0,11,12],⟨[.c (.one (.ptr 0 0)),.c (.one (.ptr 6 0)),.c (.one (.own 7))],[.box 39 [zi,(.own 1),(.own 2),(.own 3),(.own 4),(.own 8)],.row 114 .lk,.row 4 .bool,.row 3 .int,.row 86 .udb,.dead,.box 114 [zi,zi,zi],.row 108 .uls,.row 112 .upk]⟩,[.int,.ls .lk,.ls .bool,.ls .int,.ls .udb,.int,.int,.int,.ls .uls,.ls .upk]⟩,0,⟨[],⟨[],[.box 39 [zi,(.own 1),(.own 2),(.own 3),(.own 4),(.own 6)],.row 114 .lk,.row 4 .bool,.row 3 .int,.row 86 .udb,.dead,.row 112 .upk]⟩,[.int,.ls .lk,.ls .bool,.ls .int,.ls .udb,.ls .upk]⟩,zx,Yd⟩
def B2:Na:=⟨⟨[.c (.one (.ptr 0 0)),.c (.agg [zi,zi])],[.box 39 [zi,(.own 1),(.own 2),(.own 3),(.own 4),(.own 5)],.row 114 .lk,.row 4 .bool,.row 3 .int,.row 86 .udb,.row 112 .upk]⟩,[.int,.int,.int,.ls .lk,.ls .bool,.ls .int,.ls .udb,.ls .upk],⟨[.tup []],[.box 39 [zi,(.own 1),(.own 2),(.own 3),(.own 4),(.own 6)],.row 114 .lk,.row 4 .bool,.row 3 .int,.row 86 .udb,.dead,.row 112 .upk]⟩,[.int,.ls .lk,.ls .bool,.ls .int,.ls .udb,.ls .upk],TN⟩
def Lh:Ka:=Qa Ag [(114,[],LT),(58,[],Wi),(117,[],Nk),(119,[],An),(115,[],Zt),(118,[],D1),(116,[],KG),(113,[],V1)] 284 6 [(1,17,[(0,true),(1,true),(2,true),(3,true),(4,true),(5,true),(6,true),(7,true),(9,true),(10,true),(11,true),(12,true),(13,true),(14,true),(15,true),(16,true),(8,false)],[]),(3,10,[(0,true),(1,true),(2,true),(3,true),(4,true),(5,true),(6,true),(7,true),(8,true),(9,false)],[]),(5,28,tk 28,[]),(6,7,tk 7,[]),(10,9,[(0,true),(1,true),(2,true),(3,true),(4,true),(5,true),(6,true),(7,true),(8,false)],[]),(12,15,[(0,true),(1,true),(2,true),(3,true),(4,true),(5,true),(6,true),(7,true),(8,true),(9,true),(10,false),(11,true),(12,true),(13,true),(14,true)],[]),(13,7,tk 7,[]),(22,10,[(0,true),(1,true),(2,true),(3,true),(4,true),(5,true),(6,true),(7,true),(8,true),(9,false)],[]),(23,6,tk 6,[]),(24,16,tk 16,[])] [(11,Bx),(17,Cx),(20,Dx),(25,Ex)]
theorem LG:Ma Tryz.prog Lh.Γ:=Pa (l:=[(114,[],LT),(58,[],Wi),(117,[],Nk),(119,[],An),(115,[],Zt),(118,[],D1),(116,[],KG),(113,[],V1)]) ⟨⟨sO,Tryz.call114⟩,⟨⟨Sw,Tryz.call58⟩,⟨⟨SF,Tryz.call117⟩,⟨⟨ZN,Tryz.call119⟩,⟨⟨X0,Tryz.call115⟩,⟨⟨zKM,Tryz.call118⟩,⟨⟨gZ,Tryz.call116⟩,⟨⟨zKx,Tryz.call113⟩,trivial⟩⟩⟩⟩⟩⟩⟩⟩
theorem zIY:Tf Tryz.prog 6 284 (Ke Lh.plan (Tryz.f66.body.getD .skip) 0).1 (Ke Lh.plan (Tryz.f66.body.getD .skip) 0).2 Bx:=SI (G:=Lh) (U:=[0,1,2,3,5,7]) (n:=10) (tl:=[10,11,12,13]) (ks:=[]) (t:=(.val 4 (.val 6 (.val 8 (.val 9 .done))))) (F:=Bx.F) (eid:=0) (FX:=Bx.FX) (FR:=Bx.FR) (sh:=Iq) Ga Xc LG mixed (by kernel_rfl) (by kernel_rfl) ⟨fun s=>by kernel_rfl,trivial⟩
theorem zIZ:Tf Tryz.prog 6 284 (Ke Lh.plan (Tryz.f66.body.getD .skip) 1).1 (Ke Lh.plan (Tryz.f66.body.getD .skip) 1).2 Cx:=SI (G:=Lh) (U:=[0,1,2,3,5,7]) (n:=10) (tl:=[10,11,12,13]) (ks:=[]) (t:=(.val 4 (.val 6 (.val 8 (.val 9 .done))))) (F:=Cx.F) (eid:=0) (FX:=Cx.FX) (FR:=Cx.FR) (sh:=Nl) Ga Xc LG mixed (by kernel_rfl) (by kernel_rfl) ⟨fun s=>by kernel_rfl,trivial⟩
theorem zI0:Tf Tryz.prog 6 284 (Ke Lh.plan (Tryz.f66.body.getD .skip) 2).1 (Ke Lh.plan (Tryz.f66.body.getD .skip) 2).2 Dx:=SI (G:=Lh) (U:=[0,1,2,3,5,6,7,9,14,15,16,18]) (n:=26) (tl:=[26,27,28,29]) (ks:=[]) (t:=(.val 4 (.val 8 (.val 10 (.val 11 (.val 12 (.val 13 (.val 17 (.val 19 (.val 20 (.val 21 (.val 22 (.one 23 (.val 24 (.one 25 .done))))))))))))))) (F:=Dx.F) (eid:=0) (FX:=Dx.FX) (FR:=Dx.FR) (sh:=Yg) Ga Xc LG mixed (by kernel_rfl) (by kernel_rfl) ⟨fun s=>by kernel_rfl,trivial⟩
theorem zI1:Tf Tryz.prog 6 284 (Ke Lh.plan (Tryz.f66.body.getD .skip) 3).1 (Ke Lh.plan (Tryz.f66.body.getD .skip) 3).2 Ex:=Q7 (G:=Lh) (t:=(.val 0 (.val 1 (.val 2 (.val 4 (.val 6 (.val 7 (.val 8 (.val 10 (.val 12 (.val 13 (.alt 3 (.alt 5 (.alt 9 (.alt 11 (.one 14 (.val 15 (.one 16 (.val 17 (.one 18 .done))))) (.one 14 (.val 15 (.alt 11 (.one 16 (.val 17 (.one 18 .done))) (.one 16 (.one 11 (.val 17 (.one 18 .done)))))))) (.alt 11 (.alt 9 (.one 14 (.val 15 (.one 16 (.val 17 (.one 18 .done))))) (.one 14 (.one 9 (.val 15 (.one 16 (.val 17 (.one 18 .done))))))) (.one 14 (.alt 9 (.val 15 (.alt 11 (.one 16 (.val 17 (.one 18 .done))) (.one 16 (.one 11 (.val 17 (.one 18 .done)))))) (.one 11 (.one 9 (.val 15 (.one 16 (.val 17 (.one 18 .done)))))))))) (.alt 9 (.alt 5 (.alt 11 (.one 14 (.val 15 (.one 16 (.val 17 (.one 18 .done))))) (.one 14 (.val 15 (.alt 11 (.one 16 (.val 17 (.one 18 .done))) (.one 16 (.one 11 (.val 17 (.one 18 .done)))))))) (.alt 11 (.alt 5 (.one 14 (.val 15 (.one 16 (.val 17 (.one 18 .done))))) (.one 14 (.one 5 (.val 15 (.one 16 (.val 17 (.one 18 .done))))))) (.one 14 (.alt 5 (.val 15 (.alt 11 (.one 16 (.val 17 (.one 18 .done))) (.one 16 (.one 11 (.val 17 (.one 18 .done)))))) (.one 11 (.one 5 (.val 15 (.one 16 (.val 17 (.one 18 .done)))))))))) (.alt 11 (.alt 5 (.alt 9 (.one 14 (.val 15 (.one 16 (.val 17 (.one 18 .done))))) (.one 14 (.one 9 (.val 15 (.one 16 (.val 17 (.one 18 .done))))))) (.alt 9 (.alt 5 (.one 14 (.val 15 (.one 16 (.val 17 (.one 18 .done))))) (.one 14 (.one 5 (.val 15 (.one 16 (.val 17 (.one 18 .done))))))) (.one 14 (.alt 5 (.one 9 (.val 15 (.one 16 (.val 17 (.one 18 .done))))) (.one 9 (.one 5 (.val 15 (.one 16 (.val 17 (.one 18 .done)))))))))) (.one 14 (.alt 5 (.alt 9 (.val 15 (.alt 11 (.one 16 (.val 17 (.one 18 .done))) (.one 16 (.one 11 (.val 17 (.one 18 .done)))))) (.one 11 (.one 9 (.val 15 (.one 16 (.val 17 (.one 18 .done))))))) (.alt 9 (.alt 5 (.val 15 (.alt 11 (.one 16 (.val 17 (.one 18 .done))) (.one 16 (.one 11 (.val 17 (.one 18 .done)))))) (.one 11 (.one 5 (.val 15 (.one 16 (.val 17 (.one 18 .done))))))) (.one 11 (.alt 5 (.one 9 (.val 15 (.one 16 (.val 17 (.one 18 .done))))) (.one 9 (.one 5 (.val 15 (.one 16 (.val 17 (.one 18 .done)))))))))))))) (.alt 5 (.alt 3 (.alt 9 (.alt 11 (.one 14 (.val 15 (.one 16 (.val 17 (.one 18 .done))))) (.one 14 (.val 15 (.alt 11 (.one 16 (.val 17 (.one 18 .done))) (.one 16 (.one 11 (.val 17 (.one 18 .done)))))))) (.alt 11 (.alt 9 (.one 14 (.val 15 (.one 16 (.val 17 (.one 18 .done))))) (.one 14 (.one 9 (.val 15 (.one 16 (.val 17 (.one 18 .done))))))) (.one 14 (.alt 9 (.val 15 (.alt 11 (.one 16 (.val 17 (.one 18 .done))) (.one 16 (.one 11 (.val 17 (.one 18 .done)))))) (.one 11 (.one 9 (.val 15 (.one 16 (.val 17 (.one 18 .done)))))))))) (.alt 9 (.alt 3 (.alt 11 (.one 14 (.val 15 (.one 16 (.val 17 (.one 18 .done))))) (.one 14 (.val 15 (.alt 11 (.one 16 (.val 17 (.one 18 .done))) (.one 16 (.one 11 (.val 17 (.one 18 .done)))))))) (.alt 11 (.alt 3 (.one 14 (.val 15 (.one 16 (.val 17 (.one 18 .done))))) (.one 14 (.one 3 (.val 15 (.one 16 (.val 17 (.one 18 .done))))))) (.one 14 (.alt 3 (.val 15 (.alt 11 (.one 16 (.val 17 (.one 18 .done))) (.one 16 (.one 11 (.val 17 (.one 18 .done)))))) (.one 11 (.one 3 (.val 15 (.one 16 (.val 17 (.one 18 .done)))))))))) (.alt 11 (.alt 3 (.alt 9 (.one 14 (.val 15 (.one 16 (.val 17 (.one 18 .done))))) (.one 14 (.one 9 (.val 15 (.one 16 (.val 17 (.one 18 .done))))))) (.alt 9 (.alt 3 (.one 14 (.val 15 (.one 16 (.val 17 (.one 18 .done))))) (.one 14 (.one 3 (.val 15 (.one 16 (.val 17 (.one 18 .done))))))) (.one 14 (.alt 3 (.one 9 (.val 15 (.one 16 (.val 17 (.one 18 .done))))) (.one 9 (.one 3 (.val 15 (.one 16 (.val 17 (.one 18 .done)))))))))) (.one 14 (.alt 3 (.alt 9 (.val 15 (.alt 11 (.one 16 (.val 17 (.one 18 .done))) (.one 16 (.one 11 (.val 17 (.one 18 .done)))))) (.one 11 (.one 9 (.val 15 (.one 16 (.val 17 (.one 18 .done))))))) (.alt 9 (.alt 3 (.val 15 (.alt 11 (.one 16 (.val 17 (.one 18 .done))) (.one 16 (.one 11 (.val 17 (.one 18 .done)))))) (.one 11 (.one 3 (.val 15 (.one 16 (.val 17 (.one 18 .done))))))) (.one 11 (.alt 3 (.one 9 (.val 15 (.one 16 (.val 17 (.one 18 .done))))) (.one 9 (.one 3 (.val 15 (.one 16 (.val 17 (.one 18 .done)))))))))))))) (.alt 9 (.alt 3 (.alt 5 (.alt 11 (.one 14 (.val 15 (.one 16 (.val 17 (.one 18 .done))))) (.one 14 (.val 15 (.alt 11 (.one 16 (.val 17 (.one 18 .done))) (.one 16 (.one 11 (.val 17 (.one 18 .done)))))))) (.alt 11 (.alt 5 (.one 14 (.val 15 (.one 16 (.val 17 (.one 18 .done))))) (.one 14 (.one 5 (.val 15 (.one 16 (.val 17 (.one 18 .done))))))) (.one 14 (.alt 5 (.val 15 (.alt 11 (.one 16 (.val 17 (.one 18 .done))) (.one 16 (.one 11 (.val 17 (.one 18 .done)))))) (.one 11 (.one 5 (.val 15 (.one 16 (.val 17 (.one 18 .done)))))))))) (.alt 5 (.alt 3 (.alt 11 (.one 14 (.val 15 (.one 16 (.val 17 (.one 18 .done))))) (.one 14 (.val 15 (.alt 11 (.one 16 (.val 17 (.one 18 .done))) (.one 16 (.one 11 (.val 17 (.one 18 .done)))))))) (.alt 11 (.alt 3 (.one 14 (.val 15 (.one 16 (.val 17 (.one 18 .done))))) (.one 14 (.one 3 (.val 15 (.one 16 (.val 17 (.one 18 .done))))))) (.one 14 (.alt 3 (.val 15 (.alt 11 (.one 16 (.val 17 (.one 18 .done))) (.one 16 (.one 11 (.val 17 (.one 18 .done)))))) (.one 11 (.one 3 (.val 15 (.one 16 (.val 17 (.one 18 .done)))))))))) (.alt 11 (.alt 3 (.alt 5 (.one 14 (.val 15 (.one 16 (.val 17 (.one 18 .done))))) (.one 14 (.one 5 (.val 15 (.one 16 (.val 17 (.one 18 .done))))))) (.alt 5 (.alt 3 (.one 14 (.val 15 (.one 16 (.val 17 (.one 18 .done))))) (.one 14 (.one 3 (.val 15 (.one 16 (.val 17 (.one 18 .done))))))) (.one 14 (.alt 3 (.one 5 (.val 15 (.one 16 (.val 17 (.one 18 .done))))) (.one 5 (.one 3 (.val 15 (.one 16 (.val 17 (.one 18 .done)))))))))) (.one 14 (.alt 3 (.alt 5 (.val 15 (.alt 11 (.one 16 (.val 17 (.one 18 .done))) (.one 16 (.one 11 (.val 17 (.one 18 .done)))))) (.one 11 (.one 5 (.val 15 (.one 16 (.val 17 (.one 18 .done))))))) (.alt 5 (.alt 3 (.val 15 (.alt 11 (.one 16 (.val 17 (.one 18 .done))) (.one 16 (.one 11 (.val 17 (.one 18 .done)))))) (.one 11 (.one 3 (.val 15 (.one 16 (.val 17 (.one 18 .done))))))) (.one 11 (.alt 3 (.one 5 (.val 15 (.one 16 (.val 17 (.one 18 .done))))) (.one 5 (.one 3 (.val 15 (.one 16 (.val 17 (.one 18 .done)))))))))))))) (.alt 11 (.alt 3 (.alt 5 (.alt 9 (.one 14 (.val 15 (.one 16 (.val 17 (.one 18 .done))))) (.one 14 (.one 9 (.val 15 (.one 16 (.val 17 (.one 18 .done))))))) (.alt 9 (.alt 5 (.one 14 (.val 15 (.one 16 (.val 17 (.one 18 .done))))) (.one 14 (.one 5 (.val 15 (.one 16 (.val 17 (.one 18 .done))))))) (.one 14 (.alt 5 (.one 9 (.val 15 (.one 16 (.val 17 (.one 18 .done))))) (.one 9 (.one 5 (.val 15 (.one 16 (.val 17 (.one 18 .done)))))))))) (.alt 5 (.alt 3 (.alt 9 (.one 14 (.val 15 (.one 16 (.val 17 (.one 18 .done))))) (.one 14 (.one 9 (.val 15 (.one 16 (.val 17 (.one 18 .done))))))) (.alt 9 (.alt 3 (.one 14 (.val 15 (.one 16 (.val 17 (.one 18 .done))))) (.one 14 (.one 3 (.val 15 (.one 16 (.val 17 (.one 18 .done))))))) (.one 14 (.alt 3 (.one 9 (.val 15 (.one 16 (.val 17 (.one 18 .done))))) (.one 9 (.one 3 (.val 15 (.one 16 (.val 17 (.one 18 .done)))))))))) (.alt 9 (.alt 3 (.alt 5 (.one 14 (.val 15 (.one 16 (.val 17 (.one 18 .done))))) (.one 14 (.one 5 (.val 15 (.one 16 (.val 17 (.one 18 .done))))))) (.alt 5 (.alt 3 (.one 14 (.val 15 (.one 16 (.val 17 (.one 18 .done))))) (.one 14 (.one 3 (.val 15 (.one 16 (.val 17 (.one 18 .done))))))) (.one 14 (.alt 3 (.one 5 (.val 15 (.one 16 (.val 17 (.one 18 .done))))) (.one 5 (.one 3 (.val 15 (.one 16 (.val 17 (.one 18 .done)))))))))) (.one 14 (.alt 3 (.alt 5 (.one 9 (.val 15 (.one 16 (.val 17 (.one 18 .done))))) (.one 9 (.one 5 (.val 15 (.one 16 (.val 17 (.one 18 .done))))))) (.alt 5 (.alt 3 (.one 9 (.val 15 (.one 16 (.val 17 (.one 18 .done))))) (.one 9 (.one 3 (.val 15 (.one 16 (.val 17 (.one 18 .done))))))) (.one 9 (.alt 3 (.one 5 (.val 15 (.one 16 (.val 17 (.one 18 .done))))) (.one 5 (.one 3 (.val 15 (.one 16 (.val 17 (.one 18 .done)))))))))))))) (.one 14 (.alt 3 (.alt 5 (.alt 9 (.val 15 (.alt 11 (.one 16 (.val 17 (.one 18 .done))) (.one 16 (.one 11 (.val 17 (.one 18 .done)))))) (.one 11 (.one 9 (.val 15 (.one 16 (.val 17 (.one 18 .done))))))) (.alt 9 (.alt 5 (.val 15 (.alt 11 (.one 16 (.val 17 (.one 18 .done))) (.one 16 (.one 11 (.val 17 (.one 18 .done)))))) (.one 11 (.one 5 (.val 15 (.one 16 (.val 17 (.one 18 .done))))))) (.one 11 (.alt 5 (.one 9 (.val 15 (.one 16 (.val 17 (.one 18 .done))))) (.one 9 (.one 5 (.val 15 (.one 16 (.val 17 (.one 18 .done)))))))))) (.alt 5 (.alt 3 (.alt 9 (.val 15 (.alt 11 (.one 16 (.val 17 (.one 18 .done))) (.one 16 (.one 11 (.val 17 (.one 18 .done)))))) (.one 11 (.one 9 (.val 15 (.one 16 (.val 17 (.one 18 .done))))))) (.alt 9 (.alt 3 (.val 15 (.alt 11 (.one 16 (.val 17 (.one 18 .done))) (.one 16 (.one 11 (.val 17 (.one 18 .done)))))) (.one 11 (.one 3 (.val 15 (.one 16 (.val 17 (.one 18 .done))))))) (.one 11 (.alt 3 (.one 9 (.val 15 (.one 16 (.val 17 (.one 18 .done))))) (.one 9 (.one 3 (.val 15 (.one 16 (.val 17 (.one 18 .done)))))))))) (.alt 9 (.alt 3 (.alt 5 (.val 15 (.alt 11 (.one 16 (.val 17 (.one 18 .done))) (.one 16 (.one 11 (.val 17 (.one 18 .done)))))) (.one 11 (.one 5 (.val 15 (.one 16 (.val 17 (.one 18 .done))))))) (.alt 5 (.alt 3 (.val 15 (.alt 11 (.one 16 (.val 17 (.one 18 .done))) (.one 16 (.one 11 (.val 17 (.one 18 .done)))))) (.one 11 (.one 3 (.val 15 (.one 16 (.val 17 (.one 18 .done))))))) (.one 11 (.alt 3 (.one 5 (.val 15 (.one 16 (.val 17 (.one 18 .done))))) (.one 5 (.one 3 (.val 15 (.one 16 (.val 17 (.one 18 .done)))))))))) (.one 11 (.alt 3 (.alt 5 (.one 9 (.val 15 (.one 16 (.val 17 (.one 18 .done))))) (.one 9 (.one 5 (.val 15 (.one 16 (.val 17 (.one 18 .done))))))) (.alt 5 (.alt 3 (.one 9 (.val 15 (.one 16 (.val 17 (.one 18 .done))))) (.one 9 (.one 3 (.val 15 (.one 16 (.val 17 (.one 18 .done))))))) (.one 9 (.alt 3 (.one 5 (.val 15 (.one 16 (.val 17 (.one 18 .done))))) (.one 5 (.one 3 (.val 15 (.one 16 (.val 17 (.one 18 .done)))))))))))))))))))))))))))))) (F:=Ex.F) (eid:=0) (FX:=Ex.FX) (FR:=Ex.FR) (sh:=Yd) Ga Xc LG mixed (by kernel_rfl) (by kernel_rfl) ⟨fun s=>by kernel_rfl,fun s=>by kernel_rfl,fun s=>by kernel_rfl,fun s=>by kernel_rfl,fun s=>by kernel_rfl,fun s=>by kernel_rfl,fun s=>by kernel_rfl,fun s=>by kernel_rfl,fun s=>by kernel_rfl,fun s=>by kernel_rfl,fun s=>by kernel_rfl,fun s=>by kernel_rfl,fun s=>by kernel_rfl,fun s=>by kernel_rfl,fun s=>by kernel_rfl,fun s=>by kernel_rfl,fun s=>by kernel_rfl,fun s=>by kernel_rfl,fun s=>by kernel_rfl,fun s=>by kernel_rfl,fun s=>by kernel_rfl,fun s=>by kernel_rfl,fun s=>by kernel_rfl,fun s=>by kernel_rfl,fun s=>by kernel_rfl,fun s=>by kernel_rfl,fun s=>by kernel_rfl,fun s=>by kernel_rfl,fun s=>by kernel_rfl,fun s=>by kernel_rfl,fun s=>by kernel_rfl,fun s=>by kernel_rfl,fun s=>by kernel_rfl,fun s=>by kernel_rfl,fun s=>by kernel_rfl,fun s=>by kernel_rfl,fun s=>by kernel_rfl,fun s=>by kernel_rfl,fun s=>by kernel_rfl,fun s=>by kernel_rfl,fun s=>by kernel_rfl,fun s=>by kernel_rfl,fun s=>by kernel_rfl,fun s=>by kernel_rfl,fun s=>by kernel_rfl,fun s=>by kernel_rfl,fun s=>by kernel_rfl,fun s=>by kernel_rfl,fun s=>by kernel_rfl,fun s=>by kernel_rfl,fun s=>by kernel_rfl,fun s=>by kernel_rfl,fun s=>by kernel_rfl,fun s=>by kernel_rfl,fun s=>by kernel_rfl,fun s=>by kernel_rfl,fun s=>by kernel_rfl,fun s=>by kernel_rfl,fun s=>by kernel_rfl,fun s=>by kernel_rfl,fun s=>by kernel_rfl,fun s=>by kernel_rfl,fun s=>by kernel_rfl,fun s=>by kernel_rfl,fun s=>by kernel_rfl,fun s=>by kernel_rfl,fun s=>by kernel_rfl,fun s=>by kernel_rfl,fun s=>by kernel_rfl,fun s=>by kernel_rfl,fun s=>by kernel_rfl,fun s=>by kernel_rfl,fun s=>by kernel_rfl,fun s=>by kernel_rfl,fun s=>by kernel_rfl,fun s=>by kernel_rfl,fun s=>by kernel_rfl,fun s=>by kernel_rfl,fun s=>by kernel_rfl,fun s=>by kernel_rfl,fun s=>by kernel_rfl,fun s=>by kernel_rfl,fun s=>by kernel_rfl,fun s=>by kernel_rfl,fun s=>by kernel_rfl,fun s=>by kernel_rfl,fun s=>by kernel_rfl,fun s=>by kernel_rfl,fun s=>by kernel_rfl,fun s=>by kernel_rfl,fun s=>by kernel_rfl,fun s=>by kernel_rfl,fun s=>by kernel_rfl,fun s=>by kernel_rfl,fun s=>by kernel_rfl,fun s=>by kernel_rfl,fun s=>by kernel_rfl,fun s=>by kernel_rfl,fun s=>by kernel_rfl,fun s=>by kernel_rfl,fun s=>by kernel_rfl,fun s=>by kernel_rfl,fun s=>by kernel_rfl,fun s=>by kernel_rfl,fun s=>by kernel_rfl,fun s=>by kernel_rfl,fun s=>by kernel_rfl,fun s=>by kernel_rfl,fun s=>by kernel_rfl,fun s=>by kernel_rfl,fun s=>by kernel_rfl,fun s=>by kernel_rfl,fun s=>by kernel_rfl,fun s=>by kernel_rfl,fun s=>by kernel_rfl,fun s=>by kernel_rfl,fun s=>by kernel_rfl,fun s=>by kernel_rfl,fun s=>by kernel_rfl,fun s=>by kernel_rfl,fun s=>by kernel_rfl,fun s=>by kernel_rfl,fun s=>by kernel_rfl,fun s=>by kernel_rfl,fun s=>by kernel_rfl,fun s=>by kernel_rfl,fun s=>by kernel_rfl,fun s=>by kernel_rfl,fun s=>by kernel_rfl,fun s=>by kernel_rfl,fun s=>by kernel_rfl,fun s=>by kernel_rfl,fun s=>by kernel_rfl,fun s=>by kernel_rfl,fun s=>by kernel_rfl,fun s=>by kernel_rfl,fun s=>by kernel_rfl,fun s=>by kernel_rfl,fun s=>by kernel_rfl,fun s=>by kernel_rfl,fun s=>by kernel_rfl,fun s=>by kernel_rfl,fun s=>by kernel_rfl,fun s=>by kernel_rfl,trivial⟩
theorem zKy:GC Tryz.prog 66 B2:=QI (G:=Lh) (c:=Tryz.f66.body.getD .skip) Ga Xc LG mixed Tryz.func66 (by kernel_rfl) Tryz.ntmps66 (Jp (G:=Lh) (n:=0) (m:=4) (by kernel_rfl) (by kernel_rfl) trivial (by kernel_rfl) ⟨⟨⟨⟨trivial,Gl (L0:=Bx) (by kernel_rfl) zIY⟩,Gl (L0:=Cx) (by kernel_rfl) zIZ⟩,Gl (L0:=Dx) (by kernel_rfl) zI0⟩,Gl (L0:=Ex) (by kernel_rfl) zI1⟩) [5] (fun s=>by kernel_rfl)
def Nu:Xa:=⟨⟨[0,10,11,17,18],⟨[.c (.one (.ptr 0 0)),zc,zc,zc,zc],[.box 39 [zi,(.own 1),(.own 2),(.own 3),(.own 4),(.own 6)],.row 114 .lk,.row 4 .bool,.row 3 .int,.row 86 .udb,.dead,.row 112 .upk]⟩,[.int,.int,.int,.int,.int,.ls .lk,.ls .bool,.ls .int,.ls .udb,.ls .upk]⟩,2,⟨[0,10,11],⟨[.c (.one (.ptr 0 0)),zc,zc],[.box 39 [zi,(.own 1),(.own 2),(.own 3),(.own 4),(.own 6)],.row 114 .lk,.row 4 .bool,.row 3 .int,.row 86 .udb,.dead,.row 112 .upk]⟩,[.int,.int,.int,.ls .lk,.ls .bool,.ls .int,.ls .udb,.ls .upk]⟩,zx,lp WC Fa⟩
def Ou:Xa:=⟨⟨[0,10,11],⟨[.c (.one (.ptr 0 0)),zc,zc],[.box 39 [zi,(.own 1),(.own 2),(.own 3),(.own 4),(.own 6)],.row 114 .lk,.row 4 .bool,.row 3 .int,.row 86 .udb,.dead,.row 112 .upk]⟩,[.int,.int,.int,.ls .lk,.ls .bool,.ls .int,.ls .udb,.ls .upk]⟩,0,⟨[],⟨[],[.box 39 [zi,(.own 1),(.own 2),(.own 3),(.own 4),(.own 6)],.row 114 .lk,.row 4 .bool,.row 3 .int,.row 86 .udb,.dead,.row 112 .upk]⟩,[.int,.ls .lk,.ls .bool,.ls .int,.ls .udb,.ls .upk]⟩,zx,lp XC Fa⟩
def D2:Na:=⟨⟨[.c (.one (.ptr 0 0))],[.box 39 [zi,(.own 1),(.own 2),(.own 3),(.own 4),(.own 5)],.row 114 .lk,.row 4 .bool,.row 3 .int,.row 86 .udb,.row 112 .upk]⟩,[.int,.ls .lk,.ls .bool,.ls .int,.ls .udb,.ls .upk],⟨[.tup []],[.box 39 [zi,(.own 1),(.own 2),(.own 3),(.own 4),(.own 6)],.row 114 .lk,.row 4 .bool,.row 3 .int,.row 86 .udb,.dead,.row 112 .upk]⟩,[.int,.ls .lk,.ls .bool,.ls .int,.ls .udb,.ls .upk],UN⟩
def Pu:Ka:=Qa Ag [(66,[],B2)] 27 6 [] [(4,Nu),(2,Ou)]
theorem I2:Ma Tryz.prog Pu.Γ:=Pa (l:=[(66,[],B2)]) ⟨⟨zKy,Tryz.call66⟩,trivial⟩
theorem zI3:Db Tryz.prog 6 27 (Ab (Ab (Tryz.f74.body.getD .skip) 0) 0) Nu:=Eb (G:=Pu) (F:=Nu.F) (eid:=Nu.eid) (FX:=Nu.FX) (FR:=Nu.FR) (B:=WC) (n:=Fa) Ga Xc I2 mixed (Ha (G:=Pu) (n:=0) (by kernel_rfl) (by kernel_rfl) trivial (by kernel_rfl)) (fun s=>by kernel_rfl)
theorem zI2:Db Tryz.prog 6 27 (Ab (Tryz.f74.body.getD .skip) 0) Ou:=Eb (G:=Pu) (F:=Ou.F) (eid:=Ou.eid) (FX:=Ou.FX) (FR:=Ou.FR) (B:=XC) (n:=Fa) Ga Xc I2 mixed (Ha (G:=Pu) (n:=1) (by kernel_rfl) (by kernel_rfl) ⟨trivial,Fb (id:=4) (L0:=Nu) (by kernel_rfl) (by kernel_rfl) zI3⟩ (by kernel_rfl)) (fun s=>by kernel_rfl)
theorem zKz:GC Tryz.prog 74 D2:=QI (G:=Pu) (c:=Tryz.f74.body.getD .skip) Ga Xc I2 mixed Tryz.func74 (by kernel_rfl) Tryz.ntmps74 (Ha (G:=Pu) (n:=1) (by kernel_rfl) (by kernel_rfl) ⟨trivial,Fb (id:=2) (L0:=Ou) (by kernel_rfl) (by kernel_rfl) zI2⟩ (by kernel_rfl)) [5] (fun s=>by kernel_rfl)
def zD4:Na:=⟨⟨[.c (.agg [zi,(.b (.sl false .lk)),(.b (.sl false .bool)),(.b (.sl false .int)),(.b (.sl false .db)),(.b (.sl false .pk))])],[]⟩,[.int,.ls .lk,.ls .bool,.ls .int,.ls .db,.ls .pk],⟨[.c (.agg [zi,(.own 0),(.own 1),(.own 2),(.own 3),(.own 4)])],[.row 114 .lk,.row 4 .bool,.row 3 .int,.row 86 .udb,.row 112 .upk]⟩,[.int,.ls .lk,.ls .bool,.ls .int,.ls .udb,.ls .upk],JV⟩
def J2:Ka:=Qa Ag [(73,[],R0),(43,[],Iu),(74,[],D2)] 12 0 [] []
theorem zOz:Ma Tryz.prog J2.Γ:=Pa (l:=[(73,[],R0),(43,[],Iu),(74,[],D2)]) ⟨⟨zKI,Tryz.call73⟩,⟨⟨I1,Tryz.call43⟩,⟨⟨zKz,Tryz.call74⟩,trivial⟩⟩⟩
theorem zKr:GC Tryz.prog 29 zD4:=Ra (G:=J2) (c:=Tryz.f29.body.getD .skip) Ga Xc zOz mixed Tryz.func29 (by kernel_rfl) Tryz.ntmps29 (Ha (G:=J2) (n:=0) (by kernel_rfl) (by kernel_rfl) trivial (by kernel_rfl)) (fun s=>by kernel_rfl)
end
section
open Go.RowKit
section
variable {w:Wd}
def zW:Wd:=⟨0,[],[],[],[],[]⟩
theorem yAe {v:Wd} {i:Nat} (hi:i<v.up.length):Ai v 6 i=Xg v i:=by rw [dA,if_pos ⟨by omega,by omega⟩,Wa]
theorem hU (h:WV w Tb):WV { w with net:=[] } Tb:=h.less (db':=w.db) rfl (by simp) h.ok h.own (fun l hl=>by
  rcases hl with hl|⟨p,hp,_⟩
  ·exact .inl hl
  ·simp at hp) (by simp)
theorem yAf (h:WV w Tb):UN (w.n,w.ls,w.up,w.sq,w.db,w.net,())=some (wt (Gq w)):=by
  have h8:=h.nn
  have h14:=h.lsl
  have v0:=hU h
  unfold UN
  refine Aa.out (Aa.bnd (R:=fun r=>match r with| .inl x=>x=wt (Gq w)| .inr _=>False) ?_ ?_)
  ·refine Aa.count w.n.toNat (fun k t=>t=(w.n,(k:Int),wt (Pg { w with net:=[] } k))) ?_ (Nat.zero_le _) (Sb (by omega)) rfl
   rintro k t hk rfl
   have hs:=cM { w with net:=[] } k
   have hv:=PN v0 k
   generalize hc:Pg { w with net:=[] } k=c at hs hv ⊢
   by_cases hlt:k<w.n.toNat
   ·unfold XC
    refine Aa.gd (decide_eq_true (by dsimp only;omega)) (Aa.bnd (R:=fun r=>match r with| .inl x=>x=(w.n,(k:Int),wt (RC c))| .inr _=>False) ?_ ?_)
    ·have hup:=hv.up
     have hl14:=hv.lsl
     refine Aa.count c.ls.length (fun i t=>t=(w.n,(k:Int),(c.ls.length:Int),(i:Int),wt (Pj c i))) ?_ (Nat.zero_le _) (Sb (by omega)) (by dsimp only [wt];rw [La,hup];rfl)
     rintro i t hi rfl
     have hs2:=NN c i
     by_cases hil:i<c.ls.length
     ·have hv2:=ON hv i (by omega)
      unfold WC
      simp (disch:=omega) only [Sa]
      refine Aa.gd (decide_eq_true (by first|omega|(dsimp only;omega))) (Ub (wC hv2 6 (i:Int)) (.some ⟨hil,?_⟩))
      rw [yAe (by rw [hs2.2.2.1,hup];exact hil)]
      rfl
     ·obtain rfl:i=c.ls.length:=by omega
      unfold WC
      exact Aa.no (dF (by first|omega|(dsimp only;omega))) (.some rfl)
    ·rintro (r|r) hr
     case inr=>exact hr.elim
     obtain rfl:=hr
     simp (disch:=omega) only [Sa]
     refine .some ⟨hlt,?_⟩
     show _=(w.n,((k+1:Nat):Int),wt (RC (Pg { w with net:=[] } k)))
     rw [hc];rfl
   ·obtain rfl:k=w.n.toNat:=by omega
    unfold XC
    refine Aa.no (dF (by first|omega|(dsimp only;omega))) (.some ?_)
    unfold Gq
    rw [hc]
  ·rintro (r|r) hr
   case inr=>exact hr.elim
   obtain rfl:=hr
   exact .some rfl
noncomputable def Mo (w:Wd):Wd:=if wv w=true then Gq w else zW
theorem zDd (h:Vi w):JV (w.n,w.ls,w.up,w.sq,w.db,w.net,())=some (wt (Mo w)):=by
  unfold JV Mo
  refine Aa.out (Ub (BD h) ?_)
  dsimp only
  cases hv:wv w with
  |false=>exact Aa.gd rfl (.some (by rw [if_neg (by simp)];try rfl))
  |true =>
   rw [if_pos rfl]
   refine Aa.no rfl (Ub (vV h) ?_)
   exact Ub (yAf (Ci.1 hv)) (.some rfl)
theorem zFQ (h:Vi w):HV (w.n,w.ls,w.up,w.sq,w.db,w.net,())=some (wt (Mo w)):=by
  unfold HV Mo
  refine Aa.out (Ub (NV h) ?_)
  dsimp only
  cases hv:wv w with
  |false=>exact Aa.gd rfl (.some (by rw [if_neg (by simp)];try rfl))
  |true =>
   rw [if_pos rfl]
   have hV:=Ci.1 hv
   have h8:=hV.nn
   have h14:=hV.lsl
   have v0:=hU hV
   refine Aa.no rfl (Ub (MV h) ?_)
   dsimp only
   refine Aa.bnd (R:=fun r=>match r with| .inl x=>x=(0,[],[],[],[],[],wt (Gq w))| .inr _=>False) ?_ ?_
   ·refine Aa.count w.n.toNat (fun k t=>t=((k:Int),0,[],[],[],[],[],wt (Pg { w with net:=[] } k))) ?_ (Nat.zero_le _) (Sb (by omega)) rfl
    rintro k t hk rfl
    have hs:=cM { w with net:=[] } k
    have hv:=PN v0 k
    generalize hc:Pg { w with net:=[] } k=c at hs hv ⊢
    have hn:c.n=w.n:=hs.1
    by_cases hlt:k<w.n.toNat
    ·unfold VC
     refine Aa.gd (decide_eq_true (by dsimp only [wt];omega)) (Aa.bnd (R:=fun r=>match r with| .inl x=>x=((k:Int),0,[],[],[],[],[],wt (RC c))| .inr _=>False) ?_ ?_)
     ·have hup:=hv.up
      have hl14:=hv.lsl
      refine Aa.count c.ls.length (fun i t=>t=((k:Int),(i:Int),0,[],[],[],[],[],wt (Pj c i))) ?_ (Nat.zero_le _) (Sb (by omega)) rfl
      rintro i t hi rfl
      have hs2:=NN c i
      by_cases hil:i<c.ls.length
      ·have hv2:=ON hv i (by omega)
       unfold UC
       simp (disch:=omega) only [Sa,La]
       refine Aa.gd (decide_eq_true (by dsimp only [wt];rw [hs2.2.2.1,hup];omega)) (Ub (wA hv2 (by rw [hs2.2.1];exact hil)) (.some ⟨hil,rfl⟩))
      ·obtain rfl:i=c.ls.length:=by omega
       unfold UC
       simp only [La]
       exact Aa.no (dF (by dsimp only [wt];rw [hs2.2.2.1,hup];omega)) (.some rfl)
     ·rintro (r|r) hr
      case inr=>exact hr.elim
      obtain rfl:=hr
      simp (disch:=omega) only [Sa]
      refine .some ⟨hlt,?_⟩
      show _=(((k+1:Nat):Int),(0:Int),[],[],[],[],[],wt (RC (Pg { w with net:=[] } k)))
      rw [hc];rfl
    ·obtain rfl:k=w.n.toNat:=by omega
     unfold VC
     refine Aa.no (dF (by dsimp only [wt];omega)) (.some ?_)
     unfold Gq
     rw [hc]
   ·rintro (r|r) hr
    case inr=>exact hr.elim
    obtain rfl:=hr
    dsimp only [wt]
    exact Ub (MV (cN hV).sm) (.some rfl)
end
end
section
open Go.RowKit
def No (W:Wl):List Ca:=[.row 114 .lk W.2.1,.row 4 .bool W.2.2.1,.row 3 .int W.2.2.2.1,.row 86 .db W.2.2.2.2.1,.row 112 .pk W.2.2.2.2.2]
theorem yAg {w':World} {W:Wl} {v:Value} {β:List (Nat×Nat)} (hh:Pb w' (Da (No W) β) (fun _=>False) (No W) β) (hc:Cv w' (Da (No W) β) (fun _=>False) (No W) β (Tv W.1) v):Rw w' 0 w'.heap.size W v:=by
  obtain ⟨us,rfl,h3⟩:=hc
  obtain ⟨u0,r,rfl,g0,h3⟩:=h3.cons_inv
  obtain ⟨u1,r,rfl,g1,h3⟩:=h3.cons_inv
  obtain ⟨u2,r,rfl,g2,h3⟩:=h3.cons_inv
  obtain ⟨u3,r,rfl,g3,h3⟩:=h3.cons_inv
  obtain ⟨u4,r,rfl,g4,h3⟩:=h3.cons_inv
  obtain ⟨u5,r,rfl,g5,h3⟩:=h3.cons_inv
  obtain rfl:=h3.nil_inv
  have rd:∀{k:Nat} {t:TypeId} {τ:Ty} {xs:List (El τ)} {u:Value},(No W)[k]? =some (.row t τ xs)→C1 w' (Da (No W) β) (fun _=>False) (No W) β (.own k) u→Ri w' (fun b=>b<0∨w'.heap.size≤b) (fun _=>False) (.sl false τ xs) u:=fun {k t τ xs u} hk hc =>
    Ri.keep (w:=w') (w':=w') (fun _ _ _=>rfl) (Nat.le_refl _) (fun b hb _ h=>by omega) (fun _ _ _ h=>h) (j1 (E':=fun _=>False) hh hk (fun _ _ h=>h) (fun _ _ _ _ h=>h) hc)
  have g0:Ri w' _ _ (iI W.1) u0:=g0
  cases g0
  exact ⟨_,rfl,F2.cons (Ri.s _) (F2.cons (rd (k:=0) rfl g1) (F2.cons (rd (k:=1) rfl g2) (F2.cons (rd (k:=2) rfl g3) (F2.cons (rd (k:=3) rfl g4) (F2.cons (rd (k:=4) rfl g5) F2.nil)))))⟩
theorem NG {w:World} {E:Nat→Prop} {τ:Ty} {xs:List (El τ)} {u:Value} (h:Ri w E (fun _=>False) (.sl false τ xs) u):Ri w E (fun _=>False) (.sl true τ xs) u:=by
  cases h with
  |sl g τ xs A cap b o us hA hcap hl hc hr=>exact .sl true τ xs A cap b o us (fun h=>⟨(hA h).1,(hA h).2.1,(hA h).2.2.1,fun _ h=>h⟩) hcap hl hc hr
def hY (W:Wl):PV:=.agg [.im (iI W.1),.im (.sl true .lk W.2.1),.im (.sl true .bool W.2.2.1),.im (.sl true .int W.2.2.2.1),.im (.sl true .db W.2.2.2.2.1),.im (.sl true .pk W.2.2.2.2.2)]
theorem Rw.argT {w:World} {lo hi:Nat} {W:Wl} {v:Value} (h:Rw w lo hi W v):Cv w (Da [] []) (fun _=>False) [] [] (hY W) v:=by
  obtain ⟨us,rfl,h3⟩:=h.arg
  obtain ⟨u0,r,rfl,g0,h3⟩:=h3.cons_inv
  obtain ⟨u1,r,rfl,g1,h3⟩:=h3.cons_inv
  obtain ⟨u2,r,rfl,g2,h3⟩:=h3.cons_inv
  obtain ⟨u3,r,rfl,g3,h3⟩:=h3.cons_inv
  obtain ⟨u4,r,rfl,g4,h3⟩:=h3.cons_inv
  obtain ⟨u5,r,rfl,g5,h3⟩:=h3.cons_inv
  obtain rfl:=h3.nil_inv
  exact ⟨_,rfl,F2.cons g0 (F2.cons (NG g1) (F2.cons (NG g2) (F2.cons (NG g3) (F2.cons (NG g4) (F2.cons (NG g5) F2.nil)))))⟩
theorem HO {α:Type} (c:α→Nat) (m:Nat):∀xs:List α,(∀x∈xs,c x≤m)→Zb c xs≤m*xs.length
  |[],_=>by simp [Zb]
  |x::r,h=>by
   have h1:=h x (List.mem_cons_self ..)
   have h2:=HO c m r fun y hy=>h y (List.mem_cons_of_mem _ hy)
   rw [Zb,List.length_cons,Nat.mul_succ]
   omega
theorem yAh {d:List Ls} (h:Fe d):∀l∈d,l.e.length≤8:=fun l hl=>by
  obtain ⟨i,hi,e⟩:=List.getElem_of_mem hl
  have h1:=(h i hi).1
  rw [Ad hi,e] at h1
  exact h1.len
theorem yAi {w:Wd} (h:WV w Tb):FW (lw w):=by
  have h1:=h.lsl
  have h2:=h.up
  have h3:=h.sq
  have h4:=h.db
  have h5:=h.net
  have h6:=h.nn
  have hd:∀d∈w.db,d.length≤8∧∀l∈d,l.e.length≤8:=fun d hd=>by
    obtain ⟨i,hi,e⟩:=List.getElem_of_mem hd
    have h7:=h.ok i hi
    have e2:Cb w.db i=d:=by simp [Cb,List.getD,hi,e]
    rw [e2] at h7
    exact ⟨h7.len,yAh h7⟩
  have hp:∀p∈w.net,p.p.e.length≤8:=fun p hp=>(h.poss _ (.inr ⟨p,hp,rfl⟩)).1.len
  have c1:Uf w.db≤144*w.db.length:=HO _ _ _ fun d hdm=>by
    have:=HO Eo 18 d fun l hl=>by have:=(hd d hdm).2 l hl;unfold Eo;omega
    rw [FU]
    have:=(hd d hdm).1
    omega
  have c2:Sg w.net≤19*w.net.length:=HO _ _ _ fun p hpm=>by
    have:=hp p hpm
    unfold Fh;omega
  refine ⟨⟨by show w.ls.length≤_;omega,by show w.up.length≤_;omega,by show w.sq.length≤_;omega,by show w.db.length≤_;omega,by show w.net.length≤_;omega,fun d hdm=>⟨by have:=(hd d hdm).1;omega,fun l hl=>by have:=(hd d hdm).2 l hl;omega⟩,fun p hpm=>by have:=hp p hpm;omega⟩,?_⟩
  unfold Tg lw
  dsimp only
  omega
theorem yAj:FW (lw zW):=⟨⟨Nat.zero_le _,Nat.zero_le _,Nat.zero_le _,Nat.zero_le _,Nat.zero_le _,(fun d hd=>by cases hd),(fun p hp=>by cases hp)⟩,Nat.zero_le _⟩
noncomputable def Oo (A:Wl):Wl:=lw (Mo (wd A))
theorem yAk (A:Wl):FW (Oo A):=by
  unfold Oo Mo
  split
  ·rename_i h
   exact yAi (cN (Ci.1 h))
  ·exact yAj
theorem yAl:NS Tryz.prog 29 FW Oo:=fun w lo hi A a hf ha =>
  (Gj zKr (s:=(A.1,A.2.1,A.2.2.1,A.2.2.2.1,A.2.2.2.2.1,A.2.2.2.2.2,())) (r:=wt (Mo (wd A))) (zDd hf.1.sm) (ds:=[Ni A]) rfl (d:=Tv (Oo A).1) (h':=Uc (Oo A)) rfl (args:=[a]) (F2.cons ha.arg F2.nil) (Zg _ _ _)).mono fun ex w' ⟨u,β',h1,h2,h3,h4⟩=>⟨u,h1,A9 h2 h3 h4,h2.below⟩
set_option maxHeartbeats 4000000 in
theorem yAm:MS Tryz.prog 28 FW Oo:=fun w lo hi A a hf ha=>by
  have h0:hJ.sh (A.1,A.2.1,A.2.2.1,A.2.2.2.1,A.2.2.2.2.1,A.2.2.2.2.2,())=some (wt (Mo (wd A))):=zFQ (w:=wd A) hf.1.sm
  refine (Gj zLT h0 (ds:=[hY A]) rfl (d:=Tv (Oo A).1) (h':=No (Oo A)) rfl (args:=[a]) (F2.cons ha.argT F2.nil) (Zg _ _ _)).mono fun ex w' ⟨u,β',h1,h2,h3,h4⟩=>⟨u,h1,yAg h3 h4,h2.below⟩
end
section
open Go.RowKit
set_option maxRecDepth 100000 in
set_option maxHeartbeats 8000000 in
theorem yAp {FW FV:Wl→Prop} {M:Wl→Wl} {F:Wl→Int×List Lk} (A:Wl) (hsz:DJ Tryz.prog 8 FW A) (hto:Ry Tryz.prog 10 FW) (hsp:Nm Tryz.prog 9 FW F []) (him:Nm Tryz.prog 11 FW F []) (heq:Sy Tryz.prog 13 FV) (hmk:Uy Tryz.prog 14 FV M) {FL:List Lk→Prop} {ML:List Lk→List Lk} (heqG:HJ Tryz.prog 12 FL) (hmkG:IJ Tryz.prog 15 FL ML) (hhd:JJ Tryz.prog 16 FL ML) (hFV:∀A,FW A→FV A∧FL (F A).2) (w:World) (a:Value) (H:Rw w 0 w.heap.size A a):Calls Tryz.prog 3 #[a] w fun e w'=>e=.returned (.bool true)∧Below w.heap.size w w':=by
  obtain ⟨na,p1a,l1a,c1a,p2a,l2a,c2a,p3a,l3a,c3a,p4a,l4a,c4a,p5a,l5a,c5a,rfl⟩:=H.vw
  have H0:=Lib.hid ((LS.nil w).newR (Nat.le_refl _) H)
  replace hsz:=Lib.hid hsz;replace hto:=Lib.hid hto;replace hsp:=Lib.hid hsp;replace him:=Lib.hid him;replace heq:=Lib.hid heq;replace hmk:=Lib.hid hmk;replace hhd:=Lib.hid hhd;replace hFV:=Lib.hid hFV;replace heqG:=Lib.hid heqG;replace hmkG:=Lib.hid hmkG
  clear H
  have H1:=Lib.hid (H0.out.put [.int .i64 na,.slice p1a l1a c1a,.slice p2a l2a c2a,.slice p3a l3a c3a,.slice p4a l4a c4a,.slice p5a l5a c5a] 30)
  clear H0
  have c2:=Lib.hid (PS hsz.out (World.size_alloc _ _) H1 (.tail _ (.head _)))
  clear H1
  go_enter Tryz.func3,Tryz.ntmps3
  try dsimp only
  go_wp2_with fail
  refine Calls.mono c2.out ?_
  rintro e w2 ⟨z,rfl,hz,H2,s2⟩
  clear c2
  have ⟨fa0,fa1,fa2,fa3,fa4,fa5⟩:=Ed (H2.out.box (B:=w.heap.size) (v:=.agg #[.int .i64 na,.slice p1a l1a c1a,.slice p2a l2a c2a,.slice p3a l3a c3a,.slice p4a l4a c4a,.slice p5a l5a c5a]) (.head _))
  go_wp2_with fail
  ·go_ret
   exact ⟨rfl,H2.out.1⟩
  have hA:=Lib.hid (hz.out (by assumption))
  clear hz
  have hV:=Lib.hid (hFV.out A hA.out)
  clear hFV
  have c3:=Lib.hid (Ij hto.out rfl H2 (.tail _ (.head _)) hA.out)
  clear H2
  refine Calls.mono c3.out ?_
  rintro e w3 ⟨nb,p1b,l1b,c1b,p2b,l2b,c2b,p3b,l3b,c3b,p4b,l4b,c4b,p5b,l5b,c5b,rfl,H3,s3⟩
  clear c3
  clear fa0 fa1 fa2 fa3 fa4 fa5
  have c4:=Lib.hid (Aw hsp.out rfl H3 (.head _) hA.out)
  clear H3
  try dsimp only
  go_wp2_with fail
  refine Calls.mono c4.out ?_
  rintro e w4 ⟨nw,pw,lw,cw,rfl,H4,s4⟩
  clear c4
  have H5:=Lib.hid (H4.out.put [.int .i64 nw,.slice pw lw cw] 34)
  clear H4
  have ⟨fa0,fa1,fa2,fa3,fa4,fa5⟩:=Ed (H5.out.box (B:=w.heap.size) (v:=.agg #[.int .i64 na,.slice p1a l1a c1a,.slice p2a l2a c2a,.slice p3a l3a c3a,.slice p4a l4a c4a,.slice p5a l5a c5a]) (.tail _ (.tail _ (.tail _ (.head _)))))
  have c6:=Lib.hid (Ij hto.out (World.size_alloc _ _) H5 (.tail _ (.tail _ (.tail _ (.tail _ (.head _))))) hA.out)
  clear H5
  try dsimp only
  go_wp2_with fail
  refine Calls.mono c6.out ?_
  rintro e w6 ⟨nx,p1x,l1x,c1x,p2x,l2x,c2x,p3x,l3x,c3x,p4x,l4x,c4x,p5x,l5x,c5x,rfl,H6,s6⟩
  clear c6
  clear fa0 fa1 fa2 fa3 fa4 fa5
  have H7:=Lib.hid (H6.out.put [.int .i64 nx,.slice p1x l1x c1x,.slice p2x l2x c2x,.slice p3x l3x c3x,.slice p4x l4x c4x,.slice p5x l5x c5x] 39)
  clear H6
  have ⟨fx0,fx1,fx2,fx3,fx4,fx5⟩:=Ed (H7.out.box (B:=w6.heap.size) (v:=.agg #[.int .i64 nx,.slice p1x l1x c1x,.slice p2x l2x c2x,.slice p3x l3x c3x,.slice p4x l4x c4x,.slice p5x l5x c5x]) (.head _))
  have c8:=Lib.hid (Aw him.out (World.size_alloc _ _) H7 (.tail _ (.head _)) hA.out)
  clear H7
  try dsimp only
  go_wp2_with fail
  refine Calls.mono c8.out ?_
  rintro e w8 ⟨ng,pg,lg,cg,rfl,H8,s8⟩
  clear c8
  clear fx0 fx1 fx2 fx3 fx4 fx5
  have H9:=Lib.hid (H8.out.put [.int .i64 ng,.slice pg lg cg] 34)
  clear H8
  have ⟨fg0,fg1⟩:=Bg (H9.out.box (B:=w8.heap.size) (v:=.agg #[.int .i64 ng,.slice pg lg cg]) (.head _))
  have ⟨fw0,fw1⟩:=Bg (H9.out.box (B:=w4.heap.size) (v:=.agg #[.int .i64 nw,.slice pw lw cw]) (.tail _ (.tail _ (.tail _ (.tail _ (.head _))))))
  have c10:=Lib.hid (Bw heqG.out (World.size_alloc _ _) H9 (H9.out.ownG (.tail _ (.head _))).rg (H9.out.ownG (.tail _ (.tail _ (.tail _ (.tail _ (.tail _ (.head _))))))).rg hV.out.2)
  clear H9
  try dsimp only
  go_wp2_with fail
  refine Calls.mono c10.out ?_
  rintro e w10 ⟨rfl,H10,s10⟩
  clear c10
  clear fg0 fg1
  clear fw0 fw1
  go_wp2_with fail
  go_cut [31] (fun v w'=>v=.bool false∧Hid (LS w w' [Bb (w8.heap.size) (.agg #[.int .i64 ng,.slice pg lg cg]),Mc (w6.heap.size+1) w8.heap.size (F A) (.agg #[.int .i64 ng,.slice pg lg cg]),Bb (w6.heap.size) (.agg #[.int .i64 nx,.slice p1x l1x c1x,.slice p2x l2x c2x,.slice p3x l3x c3x,.slice p4x l4x c4x,.slice p5x l5x c5x]),Ob (w4.heap.size+1) w6.heap.size A (.agg #[.int .i64 nx,.slice p1x l1x c1x,.slice p2x l2x c2x,.slice p3x l3x c3x,.slice p4x l4x c4x,.slice p5x l5x c5x]),Bb (w4.heap.size) (.agg #[.int .i64 nw,.slice pw lw cw]),Mc w3.heap.size w4.heap.size (F A) (.agg #[.int .i64 nw,.slice pw lw cw]),Ob w2.heap.size w3.heap.size A (.agg #[.int .i64 nb,.slice p1b l1b c1b,.slice p2b l2b c2b,.slice p3b l3b c3b,.slice p4b l4b c4b,.slice p5b l5b c5b]),Bb (w.heap.size) (.agg #[.int .i64 na,.slice p1a l1a c1a,.slice p2a l2a c2a,.slice p3a l3a c3a,.slice p4a l4a c4a,.slice p5a l5a c5a]),Lc 0 w.heap.size A (.agg #[.int .i64 na,.slice p1a l1a c1a,.slice p2a l2a c2a,.slice p3a l3a c3a,.slice p4a l4a c4a,.slice p5a l5a c5a])])∧Hid (w10.heap.size≤w'.heap.size))
  case first =>
    have ⟨fx0,fx1,fx2,fx3,fx4,fx5⟩:=Ed (H10.out.box (B:=w6.heap.size) (v:=.agg #[.int .i64 nx,.slice p1x l1x c1x,.slice p2x l2x c2x,.slice p3x l3x c3x,.slice p4x l4x c4x,.slice p5x l5x c5x]) (.tail _ (.tail _ (.head _))))
    have ⟨fa0,fa1,fa2,fa3,fa4,fa5⟩:=Ed (H10.out.box (B:=w.heap.size) (v:=.agg #[.int .i64 na,.slice p1a l1a c1a,.slice p2a l2a c2a,.slice p3a l3a c3a,.slice p4a l4a c4a,.slice p5a l5a c5a]) (.tail _ (.tail _ (.tail _ (.tail _ (.tail _ (.tail _ (.tail _ (.head _)))))))))
    have cT:=Lib.hid (Ij hto.out (w:=w10.drew) rfl (L:=[Bb (w8.heap.size) (.agg #[.int .i64 ng,.slice pg lg cg]),Mc (w6.heap.size+1) w8.heap.size (F A) (.agg #[.int .i64 ng,.slice pg lg cg]),Bb (w6.heap.size) (.agg #[.int .i64 nx,.slice p1x l1x c1x,.slice p2x l2x c2x,.slice p3x l3x c3x,.slice p4x l4x c4x,.slice p5x l5x c5x]),Ob (w4.heap.size+1) w6.heap.size A (.agg #[.int .i64 nx,.slice p1x l1x c1x,.slice p2x l2x c2x,.slice p3x l3x c3x,.slice p4x l4x c4x,.slice p5x l5x c5x]),Bb (w4.heap.size) (.agg #[.int .i64 nw,.slice pw lw cw]),Mc w3.heap.size w4.heap.size (F A) (.agg #[.int .i64 nw,.slice pw lw cw]),Ob w2.heap.size w3.heap.size A (.agg #[.int .i64 nb,.slice p1b l1b c1b,.slice p2b l2b c2b,.slice p3b l3b c3b,.slice p4b l4b c4b,.slice p5b l5b c5b]),Bb (w.heap.size) (.agg #[.int .i64 na,.slice p1a l1a c1a,.slice p2a l2a c2a,.slice p3a l3a c3a,.slice p4a l4a c4a,.slice p5a l5a c5a]),Lc 0 w.heap.size A (.agg #[.int .i64 na,.slice p1a l1a c1a,.slice p2a l2a c2a,.slice p3a l3a c3a,.slice p4a l4a c4a,.slice p5a l5a c5a])]) (Lib.hid (H10.out.below (KS _))) (.tail _ (.tail _ (.tail _ (.tail _ (.tail _ (.tail _ (.tail _ (.tail _ (.head _))))))))) hA.out)
    go_region_with (first
      |(go_at_call 10;refine Calls.mono cT.out ?_;rintro e wT ⟨nt,p1t,l1t,c1t,p2t,l2t,c2t,p3t,l3t,c3t,p4t,l4t,c4t,p5t,l5t,c5t,rfl,HT,sT⟩;have ⟨fx0,fx1,fx2,fx3,fx4,fx5⟩:=Ed (HT.out.box (B:=w6.heap.size) (v:=.agg #[.int .i64 nx,.slice p1x l1x c1x,.slice p2x l2x c2x,.slice p3x l3x c3x,.slice p4x l4x c4x,.slice p5x l5x c5x]) (.tail _ (.tail _ (.tail _ (.head _))))))
      |(go_at_call 13;refine (Yv heq.out rfl (L:=[Ob w10.drew.heap.size wT.heap.size A (.agg #[.int .i64 nt,.slice p1t l1t c1t,.slice p2t l2t c2t,.slice p3t l3t c3t,.slice p4t l4t c4t,.slice p5t l5t c5t]),Bb (w8.heap.size) (.agg #[.int .i64 ng,.slice pg lg cg]),Mc (w6.heap.size+1) w8.heap.size (F A) (.agg #[.int .i64 ng,.slice pg lg cg]),Bb (w6.heap.size) (.agg #[.int .i64 nx,.slice p1x l1x c1x,.slice p2x l2x c2x,.slice p3x l3x c3x,.slice p4x l4x c4x,.slice p5x l5x c5x]),Ob (w4.heap.size+1) w6.heap.size A (.agg #[.int .i64 nx,.slice p1x l1x c1x,.slice p2x l2x c2x,.slice p3x l3x c3x,.slice p4x l4x c4x,.slice p5x l5x c5x]),Bb (w4.heap.size) (.agg #[.int .i64 nw,.slice pw lw cw]),Mc w3.heap.size w4.heap.size (F A) (.agg #[.int .i64 nw,.slice pw lw cw]),Ob w2.heap.size w3.heap.size A (.agg #[.int .i64 nb,.slice p1b l1b c1b,.slice p2b l2b c2b,.slice p3b l3b c3b,.slice p4b l4b c4b,.slice p5b l5b c5b]),Bb (w.heap.size) (.agg #[.int .i64 na,.slice p1a l1a c1a,.slice p2a l2a c2a,.slice p3a l3a c3a,.slice p4a l4a c4a,.slice p5a l5a c5a]),Lc 0 w.heap.size A (.agg #[.int .i64 na,.slice p1a l1a c1a,.slice p2a l2a c2a,.slice p3a l3a c3a,.slice p4a l4a c4a,.slice p5a l5a c5a])]) HT (HT.out.own (.tail _ (.tail _ (.tail _ (.tail _ (.head _)))))).rw (HT.out.own (.head _)).rw hV.out.1).mono ?_;rintro e wU ⟨rfl,HU,sU⟩))
    all_goals (go_wp2_with fail)
    all_goals go_meet
    all_goals exact ⟨rfl,HU.out.sub fun _ h=>.tail _ h,Nat.le_trans sT.out sU.out⟩
  case rest =>
    obtain ⟨rfl,H11,s11⟩:=hcut
    rename_i w11
    clear H10
    have ⟨fx0,fx1,fx2,fx3,fx4,fx5⟩:=Ed (H11.out.box (B:=w6.heap.size) (v:=.agg #[.int .i64 nx,.slice p1x l1x c1x,.slice p2x l2x c2x,.slice p3x l3x c3x,.slice p4x l4x c4x,.slice p5x l5x c5x]) (.tail _ (.tail _ (.head _))))
    have c12:=Lib.hid (EJ (L':=[Bb (w8.heap.size) (.agg #[.int .i64 ng,.slice pg lg cg]),Mc (w6.heap.size+1) w8.heap.size (F A) (.agg #[.int .i64 ng,.slice pg lg cg]),Bb (w6.heap.size) (.agg #[.int .i64 nx,.slice p1x l1x c1x,.slice p2x l2x c2x,.slice p3x l3x c3x,.slice p4x l4x c4x,.slice p5x l5x c5x]),Bb (w4.heap.size) (.agg #[.int .i64 nw,.slice pw lw cw]),Mc w3.heap.size w4.heap.size (F A) (.agg #[.int .i64 nw,.slice pw lw cw]),Ob w2.heap.size w3.heap.size A (.agg #[.int .i64 nb,.slice p1b l1b c1b,.slice p2b l2b c2b,.slice p3b l3b c3b,.slice p4b l4b c4b,.slice p5b l5b c5b]),Bb (w.heap.size) (.agg #[.int .i64 na,.slice p1a l1a c1a,.slice p2a l2a c2a,.slice p3a l3a c3a,.slice p4a l4a c4a,.slice p5a l5a c5a]),Lc 0 w.heap.size A (.agg #[.int .i64 na,.slice p1a l1a c1a,.slice p2a l2a c2a,.slice p3a l3a c3a,.slice p4a l4a c4a,.slice p5a l5a c5a])]) hmk.out rfl H11 (.tail _ (.tail _ (.tail _ (.head _)))) hV.out.1 (fun i h=>Xv [Bb (w8.heap.size) (.agg #[.int .i64 ng,.slice pg lg cg]),Mc (w6.heap.size+1) w8.heap.size (F A) (.agg #[.int .i64 ng,.slice pg lg cg]),Bb (w6.heap.size) (.agg #[.int .i64 nx,.slice p1x l1x c1x,.slice p2x l2x c2x,.slice p3x l3x c3x,.slice p4x l4x c4x,.slice p5x l5x c5x]),Ob (w4.heap.size+1) w6.heap.size A (.agg #[.int .i64 nx,.slice p1x l1x c1x,.slice p2x l2x c2x,.slice p3x l3x c3x,.slice p4x l4x c4x,.slice p5x l5x c5x]),Bb (w4.heap.size) (.agg #[.int .i64 nw,.slice pw lw cw]),Mc w3.heap.size w4.heap.size (F A) (.agg #[.int .i64 nw,.slice pw lw cw]),Ob w2.heap.size w3.heap.size A (.agg #[.int .i64 nb,.slice p1b l1b c1b,.slice p2b l2b c2b,.slice p3b l3b c3b,.slice p4b l4b c4b,.slice p5b l5b c5b]),Bb (w.heap.size) (.agg #[.int .i64 na,.slice p1a l1a c1a,.slice p2a l2a c2a,.slice p3a l3a c3a,.slice p4a l4a c4a,.slice p5a l5a c5a]),Lc 0 w.heap.size A (.agg #[.int .i64 na,.slice p1a l1a c1a,.slice p2a l2a c2a,.slice p3a l3a c3a,.slice p4a l4a c4a,.slice p5a l5a c5a])] 3 h) (by have:=s2.out;have:=s3.out;have:=s4.out;have:=s6.out;have:=s8.out;have:=s10.out;have:=s11.out;omega) (fun i h=>by
      have:=s2.out;have:=s3.out;have:=s4.out;have:=s6.out;have:=s8.out;have:=s10.out;have:=s11.out
      simp only [List.mem_cons,List.not_mem_nil,or_false] at h
      rcases h with rfl|rfl|rfl|rfl|rfl|rfl|rfl|rfl<;>dsimp only [Bb,Lc,Ob,Zv,Mc]<;>omega))
    clear H11
    try dsimp only
    go_wp2_with fail
    refine Calls.mono c12.out ?_
    rintro e w12 ⟨rfl,H12,s12⟩
    clear c12
    clear fx0 fx1 fx2 fx3 fx4 fx5
    have ⟨fg0,fg1⟩:=Bg (H12.out.box (B:=w8.heap.size) (v:=.agg #[.int .i64 ng,.slice pg lg cg]) (.tail _ (.head _)))
    have ⟨fw0,fw1⟩:=Bg (H12.out.box (B:=w4.heap.size) (v:=.agg #[.int .i64 nw,.slice pw lw cw]) (.tail _ (.tail _ (.tail _ (.tail _ (.head _))))))
    have c13:=Lib.hid (Bw heqG.out rfl H12 (H12.out.ownG (.tail _ (.tail _ (.head _)))).rg (H12.out.ownG (.tail _ (.tail _ (.tail _ (.tail _ (.tail _ (.head _))))))).rg hV.out.2)
    clear H12
    try dsimp only
    go_wp2_with fail
    refine Calls.mono c13.out ?_
    rintro e w13 ⟨rfl,H13,s13⟩
    clear c13
    clear fg0 fg1
    clear fw0 fw1
    have ⟨fg0,fg1⟩:=Bg (H13.out.box (B:=w8.heap.size) (v:=.agg #[.int .i64 ng,.slice pg lg cg]) (.tail _ (.head _)))
    have c14:=Lib.hid (Q9 (L':=[Ob (w4.heap.size+1) w6.heap.size (M A) (.agg #[.int .i64 nx,.slice p1x l1x c1x,.slice p2x l2x c2x,.slice p3x l3x c3x,.slice p4x l4x c4x,.slice p5x l5x c5x]),Bb (w8.heap.size) (.agg #[.int .i64 ng,.slice pg lg cg]),Bb (w6.heap.size) (.agg #[.int .i64 nx,.slice p1x l1x c1x,.slice p2x l2x c2x,.slice p3x l3x c3x,.slice p4x l4x c4x,.slice p5x l5x c5x]),Bb (w4.heap.size) (.agg #[.int .i64 nw,.slice pw lw cw]),Mc w3.heap.size w4.heap.size (F A) (.agg #[.int .i64 nw,.slice pw lw cw]),Ob w2.heap.size w3.heap.size A (.agg #[.int .i64 nb,.slice p1b l1b c1b,.slice p2b l2b c2b,.slice p3b l3b c3b,.slice p4b l4b c4b,.slice p5b l5b c5b]),Bb (w.heap.size) (.agg #[.int .i64 na,.slice p1a l1a c1a,.slice p2a l2a c2a,.slice p3a l3a c3a,.slice p4a l4a c4a,.slice p5a l5a c5a]),Lc 0 w.heap.size A (.agg #[.int .i64 na,.slice p1a l1a c1a,.slice p2a l2a c2a,.slice p3a l3a c3a,.slice p4a l4a c4a,.slice p5a l5a c5a])]) hmkG.out rfl H13 (.tail _ (.tail _ (.head _))) hV.out.2 (fun i h=>Xv [Ob (w4.heap.size+1) w6.heap.size (M A) (.agg #[.int .i64 nx,.slice p1x l1x c1x,.slice p2x l2x c2x,.slice p3x l3x c3x,.slice p4x l4x c4x,.slice p5x l5x c5x]),Bb (w8.heap.size) (.agg #[.int .i64 ng,.slice pg lg cg]),Mc (w6.heap.size+1) w8.heap.size (F A) (.agg #[.int .i64 ng,.slice pg lg cg]),Bb (w6.heap.size) (.agg #[.int .i64 nx,.slice p1x l1x c1x,.slice p2x l2x c2x,.slice p3x l3x c3x,.slice p4x l4x c4x,.slice p5x l5x c5x]),Bb (w4.heap.size) (.agg #[.int .i64 nw,.slice pw lw cw]),Mc w3.heap.size w4.heap.size (F A) (.agg #[.int .i64 nw,.slice pw lw cw]),Ob w2.heap.size w3.heap.size A (.agg #[.int .i64 nb,.slice p1b l1b c1b,.slice p2b l2b c2b,.slice p3b l3b c3b,.slice p4b l4b c4b,.slice p5b l5b c5b]),Bb (w.heap.size) (.agg #[.int .i64 na,.slice p1a l1a c1a,.slice p2a l2a c2a,.slice p3a l3a c3a,.slice p4a l4a c4a,.slice p5a l5a c5a]),Lc 0 w.heap.size A (.agg #[.int .i64 na,.slice p1a l1a c1a,.slice p2a l2a c2a,.slice p3a l3a c3a,.slice p4a l4a c4a,.slice p5a l5a c5a])] 2 h) (by have:=s2.out;have:=s3.out;have:=s4.out;have:=s6.out;have:=s8.out;have:=s10.out;have:=s11.out;have:=s12.out;have:=s13.out;omega) (fun i h=>by
      have:=s2.out;have:=s3.out;have:=s4.out;have:=s6.out;have:=s8.out;have:=s10.out;have:=s11.out;have:=s12.out;have:=s13.out
      simp only [List.mem_cons,List.not_mem_nil,or_false] at h
      rcases h with rfl|rfl|rfl|rfl|rfl|rfl|rfl|rfl<;>dsimp only [Bb,Lc,Ob,Zv,Mc]<;>omega))
    clear H13
    try dsimp only
    go_wp2_with fail
    refine Calls.mono c14.out ?_
    rintro e w14 ⟨rfl,H14,s14⟩
    clear c14
    clear fg0 fg1
    have ⟨fg0,fg1⟩:=Bg (H14.out.box (B:=w8.heap.size) (v:=.agg #[.int .i64 ng,.slice pg lg cg]) (.tail _ (.tail _ (.head _))))
    have c15:=Lib.hid (KJ hhd.out rfl H14 (.head _) hV.out.2)
    clear H14
    try dsimp only
    go_wp2_with fail
    refine Calls.mono c15.out ?_
    rintro e w15 ⟨rfl,H15,s15⟩
    clear c15
    clear fg0 fg1
    have ⟨fa0,fa1,fa2,fa3,fa4,fa5⟩:=Ed (H15.out.box (B:=w.heap.size) (v:=.agg #[.int .i64 na,.slice p1a l1a c1a,.slice p2a l2a c2a,.slice p3a l3a c3a,.slice p4a l4a c4a,.slice p5a l5a c5a]) (.tail _ (.tail _ (.tail _ (.tail _ (.tail _ (.tail _ (.tail _ (.head _)))))))))
    have c16:=Lib.hid (Ij hto.out rfl H15 (.tail _ (.tail _ (.tail _ (.tail _ (.tail _ (.tail _ (.tail _ (.tail _ (.head _))))))))) hA.out)
    clear H15
    try dsimp only
    go_wp2_with fail
    refine Calls.mono c16.out ?_
    rintro e w16 ⟨ne,p1e,l1e,c1e,p2e,l2e,c2e,p3e,l3e,c3e,p4e,l4e,c4e,p5e,l5e,c5e,rfl,H16,s16⟩
    clear c16
    clear fa0 fa1 fa2 fa3 fa4 fa5
    have c17:=Lib.hid (Aw him.out rfl H16 (.head _) hA.out)
    clear H16
    try dsimp only
    go_wp2_with fail
    refine Calls.mono c17.out ?_
    rintro e w17 ⟨nh,ph,lh,ch,rfl,H17,s17⟩
    clear c17
    have H18:=Lib.hid (H17.out.put [.int .i64 nh,.slice ph lh ch] 34)
    clear H17
    have ⟨fh0,fh1⟩:=Bg (H18.out.box (B:=w17.heap.size) (v:=.agg #[.int .i64 nh,.slice ph lh ch]) (.head _))
    have ⟨fw0,fw1⟩:=Bg (H18.out.box (B:=w4.heap.size) (v:=.agg #[.int .i64 nw,.slice pw lw cw]) (.tail _ (.tail _ (.tail _ (.tail _ (.tail _ (.tail _ (.tail _ (.head _)))))))))
    have c19:=Lib.hid (Bw heqG.out (World.size_alloc _ _) H18 (H18.out.ownG (.tail _ (.head _))).rg (H18.out.ownG (.tail _ (.tail _ (.tail _ (.tail _ (.tail _ (.tail _ (.tail _ (.tail _ (.head _)))))))))).rg hV.out.2)
    clear H18
    try dsimp only
    go_wp2_with fail
    refine Calls.mono c19.out ?_
    rintro e w19 ⟨rfl,H19,s19⟩
    clear c19
    clear fh0 fh1
    clear fw0 fw1
    have ⟨fg0,fg1⟩:=Bg (H19.out.box (B:=w8.heap.size) (v:=.agg #[.int .i64 ng,.slice pg lg cg]) (.tail _ (.tail _ (.tail _ (.tail _ (.tail _ (.head _)))))))
    have c20:=Lib.hid (KJ hhd.out rfl H19 (.tail _ (.tail _ (.tail _ (.head _)))) hV.out.2)
    clear H19
    try dsimp only
    go_wp2_with fail
    refine Calls.mono c20.out ?_
    rintro e w20 ⟨rfl,H20,s20⟩
    clear c20
    clear fg0 fg1
    try dsimp only
    go_wp2_with fail
    go_ret
    exact ⟨rfl,H20.out.1⟩
end
end Go.Proofs.YtknkhdjhongklaaGreat
section
namespace Go.Proofs.YtknkhdjhongklaaGreat
open Go.RowKit
structure Byt (b:List Int):Prop where
  len:b.length≤2000
  rng:∀i,0≤iz b i∧iz b i≤255
structure Gn (n a m:Int) (l:List Lk):Prop where
  pw:l.Pairwise Pe
  ok:∀x∈l,Hh n x
  lt:∀x∈l,x.a<a∨x.a=a∧x.b<m
  len:l.length≤14
theorem Gn.skip {n a m:Int} {l:List Lk} (h:Gn n a m l):Gn n a (m+1) l:=⟨h.pw,h.ok,fun x hx=>by have:=h.lt x hx;omega,h.len⟩
theorem Gn.app {n a m c:Int} {l:List Lk} (h:Gn n a m l) (h0:0≤a) (h1:a<m) (h2:m<n) (hc:1≤c∧c≤20) (hl:l.length<14):Gn n a (m+1) (l++[⟨a,m,c⟩]):=by
  refine ⟨?_,fun x hx=>?_,fun x hx=>?_,by simp;omega⟩
  ·rw [List.pairwise_append]
   refine ⟨h.pw,by simp,fun x hx y hy=>?_⟩
   obtain rfl:=List.mem_singleton.1 hy
   have:=h.lt x hx
   unfold Pe
   exact this
  ·rcases List.mem_append.1 hx with hx|hx
   ·exact h.ok x hx
   ·obtain rfl:=List.mem_singleton.1 hx
    exact ⟨h0,h1,h2,hc.1,hc.2⟩
  ·rcases List.mem_append.1 hx with hx|hx
   ·have:=h.lt x hx
    omega
   ·obtain rfl:=List.mem_singleton.1 hx
    dsimp only
    omega
theorem Gn.row {n a m m':Int} {l:List Lk} (h:Gn n a m l):Gn n (a+1) m' l:=⟨h.pw,h.ok,fun x hx=>by have:=h.lt x hx;omega,h.len⟩
end Go.Proofs.YtknkhdjhongklaaGreat
namespace Go.Proofs.YtknkhdjhongklaaGreat
open Go.RowKit
end Go.Proofs.YtknkhdjhongklaaGreat
namespace Go.Proofs.YtknkhdjhongklaaGreat
open Go.RowKit
end Go.Proofs.YtknkhdjhongklaaGreat
end
namespace Go.Proofs.YtknkhdjhongklaaGreat
section
open Go.RowKit
section
variable {w:Wd}
def Qu (w:Wd) (i:Nat):List Lk:=Cg (Ld (Cb w.db i)) w.n.toNat
theorem yAq (h:WV w Tb) {i:Nat} (hi:i<w.db.length):GN (w.n,w.ls,w.up,w.sq,w.db,w.net,(i:Int),())=some (w.n,Qu w i,()):=by
  have hd:=h.ok i hi
  have hdb:=h.db
  have h8:=h.nn
  obtain ⟨N,hN⟩:=Int.eq_ofNat_of_zero_le (show 0≤w.n by omega)
  have hg:=cQ h hN (i:=i) (by omega)
  have hok:NM w.n (Cb w.db i)=true:=by
    unfold NM
    rw [Fx (by omega),show Og (Cb w.db i)=true from decide_eq_true hd,decide_eq_true (by rw [hN,Int.toNat_natCast];exact hg.2.2.1)]
    rfl
  have hlen:=hd.len
  unfold GN FN
  simp only [Wa,Bi]
  refine Aa.out (Ub (Aa.out (Aa.gd (Ja (by omega) (by omega)) (Ub (uM w.n (Cb w.db i) (by omega) hd.sm.fe) (.some rfl)))) ?_)
  rw [hok]
  exact .some rfl
theorem zDe (h:WV w Tb) {i:Nat} (hi:i<w.db.length):MC (w.n,w.ls,w.up,w.sq,w.db,w.net,(i:Int),())=some (w.n,Qu w i,()):=by
  have hdb:=h.db
  have h8:=h.nn
  unfold MC
  refine Aa.out (Ub (BD h.sm) ?_)
  dsimp only
  rw [Ci.2 h]
  refine Aa.no rfl ?_
  simp (disch:=omega) only [Sa]
  refine Ub (Il _ _ _) ?_
  dsimp only
  rw [Fx (by omega)]
  exact Aa.no rfl (Ub (yAq h hi) (.some rfl))
theorem zDg (h:WV w Tb):LC (w.n,w.ls,w.up,w.sq,w.db,w.net,())=some (w.n,Sc w.ls w.up,()):=by
  have h14:=h.lsl
  unfold LC
  refine Aa.out (Ub (BD h.sm) ?_)
  dsimp only
  rw [Ci.2 h]
  exact Aa.no rfl (Ub (VN w h.up (by omega)) (.some rfl))
end
end
section
open Go.RowKit
section
variable {w:Wd}
theorem yAr (h:WV w Tb) {i:Nat} (hi:i<w.db.length):GV w.n (Qu w i):=by
  have hdb:=h.db
  have h8:=h.nn
  obtain ⟨N,hN⟩:=Int.eq_ofNat_of_zero_le (show 0≤w.n by omega)
  have:=cQ h hN (i:=i) (by omega)
  unfold Qu
  rw [hN,Int.toNat_natCast]
  exact this
noncomputable def Po (w:Wd):Int×List Lk:=if wv w=true then (w.n,Sc w.ls w.up) else (0,[])
theorem zDh (h:Vi w):LC (w.n,w.ls,w.up,w.sq,w.db,w.net,())=some ((Po w).1,(Po w).2,()):=by
  unfold Po
  cases hv:wv w with
  |true=>exact zDg (Ci.1 hv)
  |false =>
   unfold LC
   refine Aa.out (Ub (BD h) ?_)
   dsimp only
   rw [hv]
   exact Aa.gd rfl (.some rfl)
theorem zFS (h:Vi w):TU (w.n,w.ls,w.up,w.sq,w.db,w.net,())=some ((Po w).1,(Po w).2,()):=by
  unfold TU Po
  refine Aa.out (Ub (NV h) ?_)
  dsimp only
  cases hv:wv w with
  |true =>
   have v:=Ci.1 hv
   have h14:=v.lsl
   exact Aa.no rfl (Ub (cS w v.up (by omega)) (.some rfl))
  |false=>exact Aa.gd rfl (.some rfl)
noncomputable def Ok (w:Wd) (i:Int):Int×List Lk:=if (wv w&&Dc i 0 (w.n-1))=true then (w.n,Qu w i.toNat) else (0,[])
theorem iA (w:Wd) (i:Int):(Ok w i=(0,[])∧(wv w&&Dc i 0 (w.n-1))=false)∨∃k:Nat,i=k∧WV w Tb∧k<w.db.length∧Ok w i=(w.n,Qu w k):=by
  unfold Ok
  cases hb:(wv w&&Dc i 0 (w.n-1)) with
  |false=>exact .inl ⟨rfl,rfl⟩
  |true =>
   simp only [Bool.and_eq_true] at hb
   have v:=Ci.1 hb.1
   have hi:=Mh hb.2
   have hdb:=v.db
   obtain ⟨k,rfl⟩:=Int.eq_ofNat_of_zero_le hi.1
   exact .inr ⟨k,rfl,v,by omega,rfl⟩
theorem zDf (h:Vi w) (i:Int):MC (w.n,w.ls,w.up,w.sq,w.db,w.net,i,())=some ((Ok w i).1,(Ok w i).2,()):=by
  rcases iA w i with ⟨e,hb⟩|⟨k,rfl,v,hk,e⟩
  ·rw [e]
   unfold MC
   refine Aa.out (Ub (BD h) ?_)
   dsimp only
   cases hv:wv w with
   |false=>exact Aa.gd rfl (.some rfl)
   |true =>
    rw [hv,Bool.true_and] at hb
    have h8:=(Ci.1 hv).nn
    refine Aa.no rfl ?_
    simp (disch:=omega) only [Sa]
    refine Ub (Il _ _ _) ?_
    dsimp only
    rw [hb]
    exact Aa.gd rfl (.some rfl)
  ·rw [e];exact zDe v hk
theorem zFR (h:Vi w) (i:Int):UU (w.n,w.ls,w.up,w.sq,w.db,w.net,i,())=some ((Ok w i).1,(Ok w i).2,()):=by
  unfold UU
  refine Aa.out (Ub (NV h) ?_)
  dsimp only
  cases hv:wv w with
  |false =>
   have e:Ok w i=(0,[]):=by unfold Ok;rw [hv];rfl
   rw [e]
   exact Aa.gd rfl (.some rfl)
  |true =>
   have v:=Ci.1 hv
   have h8:=v.nn
   refine Aa.no rfl (Ub (sS w.n i w.ls (by omega) (by omega)) ?_)
   dsimp only
   rcases iA w i with ⟨e,hb⟩|⟨k,rfl,v,hk,e⟩
   ·rw [hv,Bool.true_and] at hb
    rw [hb,e]
    exact Aa.gd rfl (.some rfl)
   ·have hdb:=v.db
    have hd:=v.ok k hk
    rw [Fx (by omega),e]
    obtain ⟨N,hN⟩:=Int.eq_ofNat_of_zero_le (show 0≤w.n by omega)
    simp only [Wa,Bi]
    refine Aa.no rfl (Aa.gd (Ja (by omega) (by omega)) ?_)
    unfold Qu
    rw [hN,Int.toNat_natCast]
    exact Ub (uK hd.sm.fits hd.sm.fe (show N≤8 by omega)) (.some rfl)
end
end
section
open Go.RowKit
def FL (ls:List Lk):Prop:=ls.length≤16777216
theorem iB:HJ Tryz.prog 12 FL:=fun w lo hi lo' hi' g a b hf ha hb =>
  (Gj dR (s:=(g.1,g.2,g.1,g.2,())) (r:=(true,())) (bD g.1 g.2 (by unfold FL at hf;unfold Ta;omega)) (ds:=[FJ g,FJ g]) rfl (d:=.im (.s (.bool true))) (h':=[]) rfl (args:=[a,b]) (F2.cons ha.arg (F2.cons hb.arg F2.nil)) (Zg _ _ _)).mono fun ex w' ⟨u,β',h1,h2,h3,h4⟩=>by
    have h4:Ri w' _ _ (.s (.bool true)) u:=h4
    cases h4
    exact ⟨h1,h2.below⟩
theorem iC:JJ Tryz.prog 16 FL (Si 1):=fun w lo hi g a hf ha =>
  (Gj eS (s:=(g.1,Si 1 g.2,1,())) (r:=(1+3*(g.2.length:Int),())) (bE g.1 1 g.2.length (by omega) (by omega) hf) (ds:=[FJ (g.1,Si 1 g.2),.im (iI 1)]) rfl (d:=.im (iI (1+3*(g.2.length:Int)))) (h':=[]) rfl (args:=[a,.int .i64 1]) (F2.cons ha.arg (F2.cons (Ri.s _) F2.nil)) (Zg _ _ _)).mono fun ex w' ⟨u,β',h1,h2,h3,h4⟩=>by
    have h4:Ri w' _ _ (iI (1+3*(g.2.length:Int))) u:=h4
    cases h4
    exact ⟨h1,h2.below⟩
theorem iD:IJ Tryz.prog 15 FL (Si 1):=fun w lo hi g a hf ⟨u,ha,h0,b,c,h1,h2⟩=>by
  subst ha
  unfold FL at hf
  refine (eX w _ g.1 g.2 b c u 1 (by omega) (by omega) hf h1).mono ?_
  rintro e w' ⟨rfl,M⟩
  obtain ⟨q1,q2⟩:=MR.mark rfl h0 h2 M
  exact ⟨rfl,⟨u,rfl,q1⟩,q2⟩
noncomputable def Rj (A:Wl):Int×List Lk:=Po (wd A)
theorem yAs (A:Wl):FL (Rj A).2:=by
  unfold Rj Po FL
  split
  ·rename_i h
   have h1:=(Ci.1 h).lsl
   have h2:=cD (wd A).ls (wd A).up
   dsimp only
   omega
  ·exact Nat.zero_le _
set_option maxHeartbeats 4000000 in
theorem yAt:Nm Tryz.prog 11 FW Rj []:=fun w lo hi A a hf ha=>by
  have h0:gW.sh (A.1,A.2.1,A.2.2.1,A.2.2.2.1,A.2.2.2.2.1,A.2.2.2.2.2,())=some ((Rj A).1,(Rj A).2,()):=zDh (w:=wd A) hf.1.sm
  refine (Gj zKu h0 (ds:=[Ni A]) rfl (d:=Vy (Rj A).1) (h':=[.row 114 .lk (Rj A).2]) rfl (args:=[a]) (F2.cons ha.arg F2.nil) (Zg _ _ _)).mono fun ex w' ⟨u,β',h1,h2,h3,h4⟩=>⟨u,h1,GJ h2 h3 h4,h2.below⟩
set_option maxHeartbeats 4000000 in
theorem yAu:Nm Tryz.prog 9 FW Rj []:=fun w lo hi A a hf ha=>by
  have h0:gV.sh (A.1,A.2.1,A.2.2.1,A.2.2.2.1,A.2.2.2.2.1,A.2.2.2.2.2,())=some ((Rj A).1,(Rj A).2,()):=zFS (w:=wd A) hf.1.sm
  refine (Gj zLV h0 (ds:=[Ni A]) rfl (d:=Vy (Rj A).1) (h':=[.row 114 .lk (Rj A).2]) rfl (args:=[a]) (F2.cons ha.arg F2.nil) (Zg _ _ _)).mono fun ex w' ⟨u,β',h1,h2,h3,h4⟩=>⟨u,h1,GJ h2 h3 h4,h2.below⟩
noncomputable def Sj (i:Int) (A:Wl):Int×List Lk:=Ok (wd A) i
theorem yAv (i:Int) (A:Wl):FL (Sj i A).2:=by
  unfold Sj Ok FL
  split
  ·rename_i h
   rw [Bool.and_eq_true] at h
   obtain ⟨h1,h2⟩:=h
   have h1:=Ci.1 h1
   have h3:=h1.db
   have h5:0≤i∧i≤(wd A).n-1:=by
     unfold Dc at h2
     simpa using h2
   have h4:=(yAr h1 (i:=i.toNat) (by omega)).2.2.1
   dsimp only
   omega
  ·exact Nat.zero_le _
set_option maxHeartbeats 4000000 in
theorem yAw (i:Int):Nm Tryz.prog 18 FW (Sj i) [.int .i64 i]:=fun w lo hi A a hf ha=>by
  have h0:gY.sh (A.1,A.2.1,A.2.2.1,A.2.2.2.1,A.2.2.2.2.1,A.2.2.2.2.2,i,())=some ((Sj i A).1,(Sj i A).2,()):=zDf (w:=wd A) hf.1.sm i
  refine (Gj zKt h0 (ds:=[Ni A,.im (iI i)]) rfl (d:=Vy (Sj i A).1) (h':=[.row 114 .lk (Sj i A).2]) rfl (args:=[a,.int .i64 i]) (F2.cons ha.arg (F2.cons (Ri.s _) F2.nil)) (Zg _ _ _)).mono fun ex w' ⟨u,β',h1,h2,h3,h4⟩=>⟨u,h1,GJ h2 h3 h4,h2.below⟩
set_option maxHeartbeats 4000000 in
theorem yAx (i:Int):Nm Tryz.prog 17 FW (Sj i) [.int .i64 i]:=fun w lo hi A a hf ha=>by
  have h0:gX.sh (A.1,A.2.1,A.2.2.1,A.2.2.2.1,A.2.2.2.2.1,A.2.2.2.2.2,i,())=some ((Sj i A).1,(Sj i A).2,()):=zFR (w:=wd A) hf.1.sm i
  refine (Gj zLU h0 (ds:=[Ni A,.im (iI i)]) rfl (d:=Vy (Sj i A).1) (h':=[.row 114 .lk (Sj i A).2]) rfl (args:=[a,.int .i64 i]) (F2.cons ha.arg (F2.cons (Ri.s _) F2.nil)) (Zg _ _ _)).mono fun ex w' ⟨u,β',h1,h2,h3,h4⟩=>⟨u,h1,GJ h2 h3 h4,h2.below⟩
end
end Go.Proofs.YtknkhdjhongklaaGreat
